/- syntax.words: the keywords of items by their kinds: a map filled while ranging over the items' map, in any order. Regions that draw their order, ahead of what is deferred (wp_only): the steps. syntax's printer: items (printed by mkpr.py). syntax's printer: items: rules (printed by mkpr.py). syntax's printer: items: constants (printed by mkpr.py). -/
import Derived.Test.YtbndfgoklgdfdaaGreatDoorSe17
import Derived.Maps.RangeRun
import Derived.Laws.IdiomRangeMap
import Derived.Test.YtbndfgoklgdfdaaGreatDoorSe04
set_option linter.all false
section
set_option linter.unusedSimpArgs false
namespace Go.Proofs.YtbndfgoklgdfdaaGreatDoor.P
open Go.RowKit Go.Proofs.YtbndfgoklgdfdaaGreatDoorW.PrintWords Go.Proofs.YtbndfgoklgdfdaaGreatDoorW.PrintLast Go.Proofs.YtbndfgoklgdfdaaGreatDoorW.PrintMore

abbrev Itm := List UInt8 × Int × FuncId
def wE (j : Nat) (r : Itm) : MapEntry := ⟨.int .i64 r.2.1, .string ⟨r.1.toArray⟩, j⟩
def wEs (D : List Itm) : Array MapEntry := (D.mapIdx wE).toArray
theorem wEs_push (D : List Itm) (r : Itm) : wEs (D ++ [r]) = (wEs D).push (wE D.length r) := by simp [wEs, List.mapIdx_append]
theorem find_kinds (kd : Int) : ∀ (L : List Itm) (f : Nat → Itm → MapEntry), (∀ i r, (f i r).key = .int .i64 r.2.1 ∧ (f i r).val = .string ⟨r.1.toArray⟩) → ∀ i,
  (L.find? (fun r => kd == r.2.1) = none → Instr.findNow (.int .i64) (.int .i64 kd) (L.mapIdx f) i = some none) ∧
  ∀ r, L.find? (fun r => kd == r.2.1) = some r → ∃ n, Instr.findNow (.int .i64) (.int .i64 kd) (L.mapIdx f) i = some (some (n, .string ⟨r.1.toArray⟩))
 | [], _, _, _ => ⟨fun _ => rfl, fun _ h => by cases h⟩
 | r :: L, f, hf, i => by
  obtain ⟨h1, h2⟩ := find_kinds kd L (fun j => f (j + 1)) (fun j r => hf (j + 1) r) (i + 1)
  obtain ⟨e1, e2⟩ := hf 0 r
  rw [List.mapIdx_cons, List.find?_cons]
  unfold Instr.findNow
  rw [e1]
  simp only [Instr.sameNow, if_true]
  cases hs : kd == r.2.1 with
  | false => exact ⟨fun h => h1 h, fun r' h => h2 r' h⟩
  | true => exact ⟨fun h => (by cases h), fun r' h => ⟨i, by rw [e2]; injection h with h; rw [h]⟩⟩
/-- The kinds of the items differ. -/
theorem kind_inj : ∀ i j, i < 13 → j < 13 → ∀ r r', itemL[i]? = some r → itemL[j]? = some r' → r.2.1 = r'.2.1 → i = j := by
 have h : ∀ i, i < 13 → ∀ j, j < 13 → (itemL[i]?.map (·.2.1)) = (itemL[j]?.map (·.2.1)) → i = j := by decide
 intro i j hi hj r r' h1 h2 h3
 exact h i hi j hj (by rw [h1, h2]; simp [h3])
theorem item_entry {e : MapEntry} (h : e ∈ itemEs.toList) : ∃ i r, i < 13 ∧ itemL[i]? = some r ∧ e = itemE i r := by
 obtain ⟨i, hi, he⟩ := List.mem_iff_getElem.1 (show e ∈ itemL.mapIdx itemE from by simpa [itemEs] using h)
 rw [List.length_mapIdx] at hi
 rw [List.getElem_mapIdx] at he
 exact ⟨i, itemL[i], hi, List.getElem?_eq_getElem hi, he.symm⟩
theorem items_old : ∀ x ∈ itemEs.toList, x.born < 13 := fun x hx => by obtain ⟨i, r, hi, _, rfl⟩ := item_entry hx; exact hi
theorem items_nodup : (itemEs.toList.map (·.born)).Nodup := by
 have : itemEs.toList.map (·.born) = List.range 13 := by rfl
 rw [this]; exact List.nodup_range
/-- D: the items that have come; seen: their stamps. -/
structure Drawn (D : List Itm) (seen : Array Nat) : Prop where
 sub : ∀ r ∈ D, r ∈ itemL
 fwd : ∀ i r, itemL[i]? = some r → seen.contains i = true → r ∈ D
 back : ∀ i r, itemL[i]? = some r → r ∈ D → seen.contains i = true
theorem drawn_none : Drawn [] #[] := ⟨by simp, by simp, by simp⟩
theorem Drawn.push {D : List Itm} {seen : Array Nat} (h : Drawn D seen) {i : Nat} {r : Itm} (hi : i < 13) (hr : itemL[i]? = some r) : Drawn (D ++ [r]) (seen.push i) := by
 refine ⟨fun x hx => ?_, fun j r' hj hc => ?_, fun j r' hj hm => ?_⟩
 ·rcases List.mem_append.1 hx with hx | hx
  ·exact h.sub x hx
  ·rw [List.mem_singleton.1 hx]; exact List.mem_of_getElem? hr
 ·simp only [Array.contains_push, Bool.or_eq_true, beq_iff_eq] at hc
  rcases hc with hc | hc
  ·exact List.mem_append.2 (.inl (h.fwd j r' hj hc))
  ·subst hc; rw [hr] at hj; injection hj with hj; simp [hj]
 ·simp only [Array.contains_push, Bool.or_eq_true, beq_iff_eq]
  have hj13 : j < 13 := (List.getElem?_eq_some_iff.1 hj).1
  rcases List.mem_append.1 hm with hm | hm
  ·exact .inl (h.back j r' hj hm)
  ·exact .inr (kind_inj j i hj13 hi r' r hj hr (by rw [List.mem_singleton.1 hm]))
theorem Drawn.fresh {D : List Itm} {seen : Array Nat} (h : Drawn D seen) {i : Nat} {r : Itm} (hi : i < 13) (hr : itemL[i]? = some r) (hs : seen.contains i = false) : Instr.findNow (.int .i64) (.int .i64 r.2.1) (wEs D).toList 0 = some none := by
 refine (find_kinds r.2.1 D wE (fun _ _ => ⟨rfl, rfl⟩) 0).1 (List.find?_eq_none.2 fun x hx he => ?_)
 obtain ⟨j, hj, hx2⟩ := List.mem_iff_getElem.1 (h.sub x hx)
 have hxx : itemL[j]? = some x := by rw [List.getElem?_eq_getElem hj, hx2]
 have hij := kind_inj i j hi hj r x hr hxx (by simpa using he)
 subst hij
 have := h.back i x hxx hx
 rw [hs] at this
 cases this
section
variable {w W : World} {ts : List Th} {o : Oper} {a : Act} {ops : Array Oper} {rest : List Oper} {Q : Exit → Act → World → Prop} {bi bm c : Nat} {seen : Array Nat}
theorem Fz.iter {b : Nat} {ob ob' : Obj} (h : Fz w W (bT b ob :: ts)) : Fz w (Go.ChangeMaps.setBlock W b ob') (bT b ob' :: ts) :=
 h.change _ (by simp [Go.ChangeMaps.setBlock]) ⟨rfl, rfl, rfl⟩ (fun k _ hk => by show (W.heap.setIfInBounds b _)[k]? = _; rw [Array.getElem?_setIfInBounds_ne (fun e => hk e.symm)]) (show (W.heap.setIfInBounds b _)[b]? = _ by have := blk_lt (show W.heap[b]? = some ob from h.b0); simp [this]) (fun k hk => .inl hk)
theorem ez_next {it : Operand} (HF : Hid (Fz w W (bT bi (.mapIter (some bm) 13 seen c) :: bT bm (.map itemEs 13) :: ts))) (hgd : o.guard = none) (ho : o.op = .next it false) (hit : a.eval it = .pointer (some ⟨bi, 0, none⟩)) (hc : 13 ≤ c)
  (h0 : (leftOf itemEs seen).size = 0 → wpList Tryz.prog ops Q rest (a.put o.dst (.tuple #[.bool false])) W)
  (h1 : ∀ e ∈ (leftOf itemEs seen).toList, ∀ W', Hid (Fz w W' (bT bi (.mapIter (some bm) 13 (seen.push e.born) 13) :: bT bm (.map itemEs 13) :: ts)) → wpList Tryz.prog ops Q rest (a.put o.dst (.tuple #[.bool true, e.key, e.val])) W') : wpList Tryz.prog ops Q (o :: rest) a W := by
 rcases run_next_at (P := Tryz.prog) W o.type bi bm 13 c seen itemEs 13 HF.out.b0 HF.out.b1 items_old hc with ⟨hz, hr⟩ | ⟨e, he, w1, hw1, hr⟩
 ·exact Kd.event_run hgd (by unfold execOp; rw [ho]; simp [hit, hr, Sem.run_bind, Result.andThen]) (h0 hz)
 ·refine Kd.event_run hgd (v := .tuple #[.bool true, e.key, e.val]) (w1 := Go.ChangeMaps.setBlock w1 bi (.mapIter (some bm) 13 (seen.push e.born) 13)) (by unfold execOp; rw [ho]; simp only [hit, Sem.run_bind, hr, Result.andThen_ok]; rfl) (h1 e he _ (Lib.hid ?_))
  rcases hw1 with rfl | rfl
  ·exact HF.out.iter
  ·exact HF.out.drew.iter
theorem ez_range {t kt e : TypeId} {m : Operand} {n : Nat} {es : Array MapEntry} (HF : Hid (Fz w W (bT bm (.map es n) :: ts))) (hgd : o.guard = none) (ho : o.op = .range t m) (hm : a.eval m = .map (some bm)) (hu : Tryz.prog.underlying t = some (.map kt e))
  (h : ∀ bi W', Hid (Fz w W' (bT bi (.mapIter (some bm) n #[] n) :: bT bm (.map es n) :: ts)) → wpList Tryz.prog ops Q rest (a.put o.dst (.pointer (some ⟨bi, 0, none⟩))) W') : wpList Tryz.prog ops Q (o :: rest) a W :=
 Kd.event_run hgd (v := .pointer (some ⟨W.heap.size, 0, none⟩)) (w1 := W.alloc (.mapIter (some bm) n #[] n)) (by unfold execOp; rw [ho]; simp only [hm, Sem.run_bind, run_range_map W t kt e bm es n hu HF.out.b0, Result.andThen_ok]; rfl) (h _ _ (Lib.hid (HF.out.alloc _)))
theorem ez_put2 {p : Tmp} {v : Operand} {b : Nat} {t : TypeId} {x0 x1 u0 u1 : Value} (HF : Hid (Fz w W (vT b t #[x0, x1] :: ts))) (ho : o.op = .store t (.tmp p) v) (hd : o.dst = none) (hgd : o.guard = none)
  (hi : (Tryz.prog.info? t).map (·.size) = some 2) (hp : a.eval (.tmp p) = .pointer (some ⟨b, 0, none⟩)) (hv : a.eval v = .agg #[u0, u1]) (h1 : [u0, u1].all (·.oneCell') = true)
  (h : ∀ W', Hid (Fz w W' (vT b t #[u0, u1] :: ts)) → wpList Tryz.prog ops Q rest a W') : wpList Tryz.prog ops Q (o :: rest) a W := by
 refine wpList_store_mid hgd t (.tmp p) v ho b 0 #[u0, u1] hp hv (there2 HF.out.b0) hi (by simpa using h1) ?_
 rw [hd]
 exact h _ (Lib.hid ((HF.out.set 0 u0 rfl).set 1 u1 rfl))
theorem ez_upd {t kt e : TypeId} {m x v : Operand} {d : TypeDesc} {b n : Nat} {es : Array MapEntry} (kv u : Value) (HF : Hid (Fz w W (bT b (.map es n) :: ts))) (hgd : o.guard = none) (ho : o.op = .mapUpdate t m x v) (hd : o.dst = none) (hu : Tryz.prog.underlying t = some (.map kt e)) (hk : Tryz.prog.underlying kt = some d)
  (hm : a.eval m = .map (some b)) (hx : a.eval x = kv) (hv : a.eval v = u) (hkey : MapKept.IsKey d kv) (hn : Instr.findNow d kv es.toList 0 = some none)
  (h : ∀ W', Hid (Fz w W' (bT b (.map (es.push ⟨kv, u, n⟩) (n + 1)) :: ts)) → wpList Tryz.prog ops Q rest a W') : wpList Tryz.prog ops Q (o :: rest) a W := by
 refine wpList_plain hgd fun K hK => ?_
 unfold Oper.wp
 rw [run_insK HF.out.b0 (.inr ho) hu hk hm hx hkey hn]
 show K (a.put o.dst _) _
 rw [hd, hv]
 exact hK _ _ (h _ (Lib.hid (HF.out.ins _ _)))
end
/-- words' contract. -/
def WordsAt (W : World) (b : Nat) : Prop := ∃ D : List Itm, W.heap[b]? = some (.map (wEs D) D.length) ∧ (∀ r ∈ D, r ∈ itemL) ∧ ∀ r ∈ itemL, r ∈ D
set_option maxRecDepth 100000 in
set_option maxHeartbeats 4000000 in
theorem words_on (w : World) : Calls Tryz.prog 97 #[] w fun e w' => ∃ b, e = .returned (.map (some b)) ∧ WordsAt w' b ∧ Below w.heap.size w w' := by
 have hmm := @run_makeMap Tryz.prog
 have HF := Lib.hid (Fz.refl w)
 go_enter Tryz.func97, Tryz.ntmps97
 go_wp2_with (first
  | ((with_reducible refine gate_dst (N := 4) rfl ?_); refine Kd.event_run rfl (v := .map (some w.heap.size)) (w1 := w.alloc (.map #[] 0)) (by rfl) ?_; have HF2_ := Lib.hid (HF.out.alloc (.map #[] 0)); clear HF; have HF := HF2_; clear HF2_; revert HF; generalize w.alloc (.map #[] 0) = W1; generalize w.heap.size = bo; intro HF)
  | (go_at_call 57; refine (rules_par _).mono ?_; rintro e wm_ ⟨mb, rfl, hm_⟩; have HF2_ := Lib.hid (HF.out.new hm_.below (bT mb (.map itemEs 13)) hm_.at_ (fun k hk => by have h_ : k = mb := hk; subst h_; exact ⟨hm_.low, blk_lt hm_.at_⟩)); clear HF hm_; have HF := HF2_; clear HF2_)
  | ((with_reducible refine gate_dst (N := 6) rfl ?_); refine ez_range HF rfl rfl rfl Tryz.underlying76 ?_; clear HF; intro bi wi_ HF; have HF2_ := Lib.hid HF.out.up3; clear HF; have HF := HF2_; clear HF2_))
 clear hmm
 try simp only [Act.put, List.setIfInBounds_toArray, List.set_cons_zero, List.set_cons_succ]
 go_loopg [] 14 (fun kq w' => ∃ (D : List Itm) (seen : Array Nat) (c : Nat) (wr : World), wr = w' ∧ True ∧ Hid ((leftOf itemEs seen).size < kq) ∧ Hid (13 ≤ c) ∧ Hid (Drawn D seen) ∧ Hid (Fz w w' [bT bo (.map (wEs D) D.length), bT bi (.mapIter (some mb) 13 seen c), bT mb (.map itemEs 13)]))
 case atStart => exact ⟨[], #[], 13, _, rfl, trivial, Lib.hid (by have h_ : (leftOf itemEs #[]).size ≤ itemEs.size := Array.size_filter_le; have h2_ : itemEs.size = 13 := rfl; omega), Lib.hid (Nat.le_refl _), Lib.hid drawn_none, HF⟩
 case round =>
  clear HF
  obtain ⟨D, seen, c, wr, rfl, _, HK, HCC, HD, HF⟩ := hrel
  cases gk with
  | zero => exact absurd HK.out (Nat.not_lt_zero _)
  | succ k1 =>
   replace HF := Lib.hid HF.out.up3.up3
   go_wp2_with ((with_reducible refine gate_dst (N := 7) rfl ?_); refine ez_next HF rfl rfl rfl HCC.out ?_ ?_)
   ·intro hz
    have hall : ∀ r ∈ itemL, r ∈ D := fun r hr => by
     obtain ⟨i, hi, he⟩ := List.mem_iff_getElem.1 hr
     have h1 : itemL[i]? = some r := by rw [List.getElem?_eq_getElem hi, he]
     have h2 : itemE i r ∈ itemEs.toList := by
      have h3 : (itemL.mapIdx itemE)[i]? = some (itemE i r) := by rw [List.getElem?_mapIdx, h1]; rfl
      simpa [itemEs] using List.mem_of_getElem? h3
     exact HD.out.fwd i r h1 (all_seen itemEs seen (by rw [hz]; rfl) _ h2)
    have HALL := Lib.hid hall
    clear hall hz
    go_wp2_with fail
    go_ret
    exact ⟨bo, rfl, ⟨D, HF.out.b2, HD.out.sub, HALL.out⟩, HF.out.below⟩
   ·intro e he0 W' HF2
    have he : e ∈ (leftOf itemEs seen).toList := by simpa using he0
    clear he0
    clear HF
    have HF := HF2
    clear HF2
    have hml := mem_left he
    have hsh := left_shrinks itemEs seen e he
    obtain ⟨i, r, hi, hr, hee⟩ := item_entry hml.1
    have hen := run_entry_at (P := Tryz.prog) W' bi mb 13 seen itemEs 13 e HF.out.b0 HF.out.b1 hml.1 items_nodup
    subst hee
    have HSH := Lib.hid hsh
    have HFR : Hid (Instr.findNow (.int .i64) (.int .i64 r.2.1) (wEs D).toList 0 = some none) := Lib.hid (HD.out.fresh hi hr hml.2)
    have HD2 : Hid (Drawn (D ++ [r]) (seen.push i)) := Lib.hid (HD.out.push hi hr)
    clear he hml hsh hi hr HD
    simp only [itemE, itemV] at hen
    try simp only [Act.put, List.setIfInBounds_toArray, List.set_cons_zero, List.set_cons_succ]
    go_wp2_with (first
     | ((with_reducible refine gate_dst (N := 3) rfl ?_); refine ez_box (t := 80) (cs := #[.int .i64 0, .nilFunc]) HF rfl rfl (run_rule rfl) ?_; clear HF; intro b3 w3_ HF)
     | ((with_reducible refine gate_store (t := 80) (p := 3) rfl ?_); refine ez_put2 (p := 3) (u0 := .int .i64 r.2.1) (u1 := .func (.func r.2.2) #[] #[]) HF rfl rfl rfl rfl rfl rfl rfl ?_; clear HF; intro w4_ HF; have q0_ := (blk_cell HF.out.b0 0).trans rfl; have HF2_ := Lib.hid HF.out.up4; clear HF; have HF := HF2_; clear HF2_)
     | (refine ez_upd (.int .i64 r.2.1) (.string ⟨r.1.toArray⟩) HF rfl rfl rfl Tryz.underlying111 Tryz.underlying3 rfl rfl rfl (by first | rfl | simp [MapKept.IsKey]) HFR.out ?_; clear HF; intro w5_ HF))
    go_roundg k1
    case measure => omega
    case rel => exact ⟨D ++ [r], seen.push i, 13, _, rfl, trivial, Lib.hid (by have h1_ := HSH.out; have h2_ := HK.out; have h3_ : (leftOf itemEs (seen.push i)).size < (leftOf itemEs seen).size := h1_; omega), Lib.hid (Nat.le_refl _), HD2, Lib.hid (by have h_ := HF.out.swap.lose; rw [wEs_push, List.length_append]; exact h_)⟩
/-- The keyword of a kind of items. -/
def wordS (kd : Int) : List UInt8 := match itemL.find? (fun r => kd == r.2.1) with | some r => r.1 | none => []
theorem words_find {D : List Itm} (h1 : ∀ r ∈ D, r ∈ itemL) (h2 : ∀ r ∈ itemL, r ∈ D) (kd : Int) : D.find? (fun r => kd == r.2.1) = itemL.find? (fun r => kd == r.2.1) := by
 have uni : ∀ r r', r ∈ itemL → r' ∈ itemL → r.2.1 = r'.2.1 → r = r' := by
  intro r r' hr hr' he
  obtain ⟨i, hi, e1⟩ := List.mem_iff_getElem.1 hr
  obtain ⟨j, hj, e2⟩ := List.mem_iff_getElem.1 hr'
  have a1 : itemL[i]? = some r := by rw [List.getElem?_eq_getElem hi, e1]
  have a2 : itemL[j]? = some r' := by rw [List.getElem?_eq_getElem hj, e2]
  have hij := kind_inj i j hi hj r r' a1 a2 he
  subst hij
  rw [a1] at a2
  injection a2
 cases h3 : itemL.find? (fun r => kd == r.2.1) with
 | none =>
  refine List.find?_eq_none.2 fun x hx he => ?_
  exact List.find?_eq_none.1 h3 x (h1 x hx) he
 | some r =>
  have hr := List.mem_of_find?_eq_some h3
  have hk := List.find?_some h3
  cases h4 : D.find? (fun r => kd == r.2.1) with
  | none => exact absurd hk (List.find?_eq_none.1 h4 r (h2 r hr))
  | some r' =>
   have hr' := h1 r' (List.mem_of_find?_eq_some h4)
   have hk' := List.find?_some h4
   simp only [beq_iff_eq] at hk hk'
   rw [uni r r' hr hr' (hk.symm.trans hk')]
theorem words_look {W : World} {b : Nat} (h : WordsAt W b) (kd : Int) : (Instr.lookup 111 (.map (some b)) (.int .i64 kd) false).run Tryz.prog W = .ok (.string ⟨(wordS kd).toArray⟩) W := by
 obtain ⟨D, hb, h1, h2⟩ := h
 have hf := words_find h1 h2 kd
 have hk := find_kinds kd D wE (fun _ _ => ⟨rfl, rfl⟩) 0
 unfold wordS
 cases h3 : itemL.find? (fun r => kd == r.2.1) with
 | none =>
  rw [h3] at hf
  exact run_lookK hb Tryz.underlying111 Tryz.underlying3 (by first | rfl | simp [MapKept.IsKey]) (Tryz.zeroValue9 _) (hk.1 hf)
 | some r =>
  rw [h3] at hf
  obtain ⟨n, hn⟩ := hk.2 r hf
  exact run_lookK hb Tryz.underlying111 Tryz.underlying3 (by first | rfl | simp [MapKept.IsKey]) (Tryz.zeroValue9 _) hn
end Go.Proofs.YtbndfgoklgdfdaaGreatDoor.P
end
section
namespace Go.Proofs.YtbndfgoklgdfdaaGreatDoor.P
open Go.RowKit Go.Proofs.YtbndfgoklgdfdaaGreatDoorW.PrintWords Go.Proofs.YtbndfgoklgdfdaaGreatDoorW.PrintLast Go.Proofs.YtbndfgoklgdfdaaGreatDoorW.PrintMore
section
variable {P : Program} {ops : Array Oper} {md : Region.Mode} {S : World → Prop} {ds : List Nat}
theorem pqo {Q0 : Act → World → Prop} {N : Option Tmp} {oi : Oper} {v : Value} {fuel : Nat} {l : Array Bool} {a : Act} {w : World} (i : Nat) (l' : Array Bool) {a' : Act} (hi : ops[i]? = some oi := by first | (simp only [List.getElem?_toArray, List.getElem?_cons_succ, List.getElem?_cons_zero]; exact rfl) | rfl) (hN : oi.dst = N := by rfl) (hc : anyB md ops l l' i = true := by kernel_rfl)
  (hw : Region.wanted oi (yielded ops a.tmps) = true := by rfl)
  (hv : ∀ w', (execOp a.eval oi).run P w' = .ok (.value v) w' := by intro w'; first | (go_simp; done) | (go_simp; with_reducible rfl)) (ha : a.put N v = a' := by first | (simp only [Act.put, List.setIfInBounds_toArray, List.set_cons_zero, List.set_cons_succ]; exact rfl) | rfl)
  (h : wpAnyLast P md ops (fun e a' w' => e = Exit.normal ∧ Q0 a' w') S ds fuel l' a' w) : wpAnyLast P md ops (fun e a' w' => e = Exit.normal ∧ Q0 a' w') S ds (fuel + 1) l a w :=
 pure_ l' hi hN hc (fun _ _ _ h => by cases h.1) (Or.inl ⟨hw, hv⟩) ha h
theorem tqo {Q0 : Act → World → Prop} {N : Option Tmp} {oi : Oper} {v : Value} {fuel : Nat} {l : Array Bool} {a : Act} {w : World} (hS : S w) (i : Nat) (l' : Array Bool) {a' : Act} (hi : ops[i]? = some oi := by first | (simp only [List.getElem?_toArray, List.getElem?_cons_succ, List.getElem?_cons_zero]; exact rfl) | rfl) (hN : oi.dst = N := by rfl) (hc : takeB md ops ds l l' i = true := by kernel_rfl)
  (hw : Region.wanted oi (yielded ops a.tmps) = true := by rfl)
  (hv : ∀ w', S w' → (execOp a.eval oi).run P w' = .ok (.value v) w' := by intro w' hSw; (try dsimp only at hSw); first | (go_simp; done) | (go_simp; with_reducible rfl)) (ha : a.put N v = a' := by first | (simp only [Act.put, List.setIfInBounds_toArray, List.set_cons_zero, List.set_cons_succ]; exact rfl) | rfl)
  (h : wpAnyLast P md ops (fun e a' w' => e = Exit.normal ∧ Q0 a' w') S ds fuel l' a' w) : wpAnyLast P md ops (fun e a' w' => e = Exit.normal ∧ Q0 a' w') S ds (fuel + 1) l a w :=
 take_ l' hi hN hc (fun _ _ _ h => by cases h.1) (Or.inl ⟨hw, hv⟩) hS ha h
end
end Go.Proofs.YtbndfgoklgdfdaaGreatDoor.P
end
section
set_option linter.unusedSimpArgs false
namespace Go.Proofs.YtbndfgoklgdfdaaGreatDoor.P
open Go.RowKit Go.Proofs.YtbndfgoklgdfdaaGreatDoorW.PrintWords Go.Proofs.YtbndfgoklgdfdaaGreatDoorW.PrintLast Go.Proofs.YtbndfgoklgdfdaaGreatDoorW.PrintMore
section
variable {w W W' : World} {ts : List Th} {o : Oper} {a : Act} {Q : Exit → Act → World → Prop} {K : Act → World → Prop} {ops : Array Oper}
theorem sz_lookr {N : Tmp} {t : TypeId} {m x : Operand} {mv kv u : Value} (hw : Region.wanted o (yielded ops a.tmps) = true) (ho : o.op = .lookup t m x false) (hd : o.dst = some N) (hm : a.eval m = mv) (hx : a.eval x = kv) (hr : (Instr.lookup t mv kv false).run Tryz.prog W = .ok u W)
  (h : K (a.put (some N) u) W) : if Region.wanted o (yielded ops a.tmps) = true then Oper.wp Tryz.prog o a W K Q else K (a.put o.dst undef) W := by
 rw [if_pos hw]
 unfold Oper.wp execOp
 rw [ho]
 simp only [Sem.run_bind, hm, hx, hr, Result.andThen_ok, Sem.run_pure]
 show K (a.put o.dst _) _
 rw [hd]
 exact h
end
def typesS : List Tree → List UInt8
 | [] => []
 | x :: l => [32] ++ ((if (x.f0 == 31) = true then [40] ++ (typeS x ++ [41]) else typeS x) ++ typesS l)
/-- What stands between an item's keyword and its point. -/
def midS (x : Tree) : List UInt8 :=
 if x.f0 = 2 ∨ x.f0 = 14 then namesS 0 x.f2
 else if x.f0 = 3 then namesS 0 x.f2.dropLast ++ ([58, 32] ++ typeS (x.f2.getLast?.getD ⟨0, ⟨#[]⟩, []⟩))
 else if x.f0 = 4 ∨ x.f0 = 5 ∨ x.f0 = 6 ∨ x.f0 = 7 then ([32] ++ x.f1.data.toList) ++ typesS x.f2
 else if x.f0 = 8 ∨ x.f0 = 9 ∨ x.f0 = 10 ∨ x.f0 = 11 then (([32] ++ x.f1.data.toList) ++ [58, 32]) ++ formA x.f2 0 true
 else [32] ++ x.f1.data.toList
def itemS (x : Tree) : List UInt8 := wordS x.f0 ++ (midS x ++ [46])
set_option maxRecDepth 100000 in
set_option maxHeartbeats 8000000 in
theorem item_names (k : Int) (hk : k = 2 ∨ k = 14) (s : ByteArray) (l : List Tree) (w : World) (ts : List Th) (g : Nat) (A : Option Addr) (c : Nat) (hC : Kd.C k25 w A l.length l) :
  Writes 93 #[.pointer (some ⟨g, 0, none⟩), .agg (tN ⟨k, s, l⟩ A c)] w ts g (wordS k ++ ((namesS 0 l) ++ [46])) := by
 intro W ok bs HF hlen
 rcases hk with hk | hk
 all_goals
  have e2_ := congrArg (fun z : Int => z == 2) hk
  have e14_ := congrArg (fun z : Int => z == 14) hk
  have e3_ := congrArg (fun z : Int => z == 3) hk
  have e4_ := congrArg (fun z : Int => z == 4) hk
  have e5_ := congrArg (fun z : Int => z == 5) hk
  have e6_ := congrArg (fun z : Int => z == 6) hk
  have e7_ := congrArg (fun z : Int => z == 7) hk
  have e8_ := congrArg (fun z : Int => z == 8) hk
  have e9_ := congrArg (fun z : Int => z == 9) hk
  have e10_ := congrArg (fun z : Int => z == 10) hk
  have e11_ := congrArg (fun z : Int => z == 11) hk
  simp only [Int.reduceBEq] at e2_ e14_ e3_ e4_ e5_ e6_ e7_ e8_ e9_ e10_ e11_
  have HK_ := Lib.hid hk
  clear hk
  obtain ⟨wd, hwd⟩ : ∃ wd, wd = wordS k := ⟨_, rfl⟩
  rw [← hwd] at hlen ⊢
  have HL := Lib.hid hlen
  have HWE := Lib.hid hwd
  have HC := Lib.hid hC
  clear hC
  clear hlen hwd
  go_enter Tryz.func93, Tryz.ntmps93
  go_wp2_with (first
   | ((with_reducible refine gate_dst (N := 2) rfl ?_); refine ez_box (t := 100) (cs := #[.pointer (some ⟨g, 0, none⟩)]) HF rfl rfl (run_pr rfl rfl) ?_; clear HF; intro b2 w341 HF)
   | ((with_reducible refine gate_dst (N := 3) rfl ?_); refine ez_box (t := 25) (cs := (tN ⟨k, s, l⟩ A c)) HF rfl rfl (run_tree rfl rfl) ?_; clear HF; intro b3 w342 HF))
  go_wp2_with fail
  replace HF := Lib.hid HF.out.drew
  refine wp_only ?_
  refine start_ (n := 8) (S := (fun w' => True ∧ w'.cell? (⟨b2, 0, none⟩) = some (.pointer (some ⟨g, 0, none⟩)) ∧ w'.cell? (⟨b3, 0, none⟩) = some (.int .i64 k))) (ds := [7]) #[false, false, false, false, false, false, false, false] (by kernel_rfl) rfl rfl ?_ (fun hHeld => ?_)
  ·exact ⟨trivial, (blk_cell HF.out.b1 0).trans rfl, (blk_cell HF.out.b0 0).trans rfl⟩
  refine pqo 4 #[false, false, false, false, true, false, false, false] (h := ?_)
  refine tqo hHeld 0 #[true, false, false, false, true, false, false, false] (h := ?_)
  refine pqo 1 #[true, true, false, false, true, false, false, false] (h := ?_)
  refine pqo 2 #[true, true, true, false, true, false, false, false] (h := ?_)
  refine tqo hHeld 5 #[true, true, true, false, true, true, false, false] (h := ?_)
  refine one_ (i := 3) (N := some 10) #[true, true, true, true, true, true, false, false] rfl rfl (by kernel_rfl) (by decide) (fun K hK => ?_)
  clear hHeld
  go_simp
  refine (words_on _).mono ?_
  rintro e w343 ⟨bw, rfl, hW_, hb_⟩
  have HWD := Lib.hid hW_
  replace HF := Lib.hid (HF.out.step hb_)
  clear hW_ hb_
  refine hK.out _ _ (⟨trivial, (blk_cell HF.out.b1 0).trans rfl, (blk_cell HF.out.b0 0).trans rfl⟩) (fun hHeld => ?_)
  clear hK K
  (try simp only [Act.put, List.setIfInBounds_toArray, List.set_cons_zero, List.set_cons_succ])
  refine one_ (i := 6) (N := some 13) #[true, true, true, true, true, true, true, false] rfl rfl (by kernel_rfl) (by decide) (fun K hK => ?_)
  clear hHeld
  refine sz_lookr (N := 13) (mv := .map (some bw)) (kv := .int .i64 k) rfl rfl rfl rfl rfl (words_look HWD.out k) ?_
  clear HWD
  refine hK.out _ _ (⟨trivial, (blk_cell HF.out.b1 0).trans rfl, (blk_cell HF.out.b0 0).trans rfl⟩) (fun hHeld => ?_)
  clear hK K
  (try simp only [Act.put, List.setIfInBounds_toArray, List.set_cons_zero, List.set_cons_succ])
  refine last_ (i := 7) (N := some 14) #[true, true, true, true, true, true, true, true] rfl rfl (by kernel_rfl) (by decide) (fun K hK => ?_)
  go_simp
  rw [← HWE.out]
  replace HF := Lib.hid HF.out.up3
  refine (ws_lit wd HF (by have := HL.out; simp at this ⊢; omega)).mono ?_
  rintro e w344 ⟨rfl, oko345, HFn⟩
  clear HF
  have HF := HFn
  clear HFn
  refine hK.out _ _ ?_
  clear hK K
  (try simp only [Act.put, List.setIfInBounds_toArray, List.set_cons_zero, List.set_cons_succ])
  refine done_ (by kernel_rfl) ⟨rfl, ?_⟩
  skip
  try simp only [Act.put, List.setIfInBounds_toArray, List.set_cons_zero, List.set_cons_succ]
  have q346 := (blk_cell HF.out.b2 0).trans rfl
  obtain ⟨q347a, q347b, q347c⟩ := rd3 HF.out.b1
  go_wp2_with fail
  refine (names_writes l w _ g A c HC.out _ _ _ HF (by have := HL.out; simp at this ⊢; omega)).mono ?_
  rintro e w348 ⟨rfl, oko349, HFn⟩
  clear HF; clear q346 q347a q347b q347c
  have HF := HFn
  clear HFn
  have q350 := (blk_cell HF.out.b2 0).trans rfl
  go_wp2_with fail
  refine (ws_lit [46] HF (by have := HL.out; simp at this ⊢; omega)).mono ?_
  rintro e w351 ⟨rfl, oko352, HFn⟩
  clear HF; clear q350
  have HF := HFn
  clear HFn
  go_wp2_with fail
  go_end0
  replace HF := Lib.hid HF.out.swap
  replace HF := Lib.hid HF.out.lose
  replace HF := Lib.hid HF.out.swap
  replace HF := Lib.hid HF.out.lose
  exact ⟨rfl, _, by simpa only [List.append_assoc, List.cons_append, List.nil_append] using HF⟩
set_option maxRecDepth 100000 in
set_option maxHeartbeats 8000000 in
theorem item_single (k : Int) (hk : k = 12 ∨ k = 13) (s : ByteArray) (l : List Tree) (w : World) (ts : List Th) (g : Nat) (A : Option Addr) (c : Nat) :
  Writes 93 #[.pointer (some ⟨g, 0, none⟩), .agg (tN ⟨k, s, l⟩ A c)] w ts g (wordS k ++ (([32] ++ s.data.toList) ++ [46])) := by
 intro W ok bs HF hlen
 rcases hk with hk | hk
 all_goals
  have e2_ := congrArg (fun z : Int => z == 2) hk
  have e14_ := congrArg (fun z : Int => z == 14) hk
  have e3_ := congrArg (fun z : Int => z == 3) hk
  have e4_ := congrArg (fun z : Int => z == 4) hk
  have e5_ := congrArg (fun z : Int => z == 5) hk
  have e6_ := congrArg (fun z : Int => z == 6) hk
  have e7_ := congrArg (fun z : Int => z == 7) hk
  have e8_ := congrArg (fun z : Int => z == 8) hk
  have e9_ := congrArg (fun z : Int => z == 9) hk
  have e10_ := congrArg (fun z : Int => z == 10) hk
  have e11_ := congrArg (fun z : Int => z == 11) hk
  simp only [Int.reduceBEq] at e2_ e14_ e3_ e4_ e5_ e6_ e7_ e8_ e9_ e10_ e11_
  have HK_ := Lib.hid hk
  clear hk
  obtain ⟨wd, hwd⟩ : ∃ wd, wd = wordS k := ⟨_, rfl⟩
  rw [← hwd] at hlen ⊢
  have HL := Lib.hid hlen
  have HWE := Lib.hid hwd
  clear hlen hwd
  go_enter Tryz.func93, Tryz.ntmps93
  go_wp2_with (first
   | ((with_reducible refine gate_dst (N := 2) rfl ?_); refine ez_box (t := 100) (cs := #[.pointer (some ⟨g, 0, none⟩)]) HF rfl rfl (run_pr rfl rfl) ?_; clear HF; intro b2 w353 HF)
   | ((with_reducible refine gate_dst (N := 3) rfl ?_); refine ez_box (t := 25) (cs := (tN ⟨k, s, l⟩ A c)) HF rfl rfl (run_tree rfl rfl) ?_; clear HF; intro b3 w354 HF))
  go_wp2_with fail
  replace HF := Lib.hid HF.out.drew
  refine wp_only ?_
  refine start_ (n := 8) (S := (fun w' => True ∧ w'.cell? (⟨b2, 0, none⟩) = some (.pointer (some ⟨g, 0, none⟩)) ∧ w'.cell? (⟨b3, 0, none⟩) = some (.int .i64 k))) (ds := [7]) #[false, false, false, false, false, false, false, false] (by kernel_rfl) rfl rfl ?_ (fun hHeld => ?_)
  ·exact ⟨trivial, (blk_cell HF.out.b1 0).trans rfl, (blk_cell HF.out.b0 0).trans rfl⟩
  refine pqo 4 #[false, false, false, false, true, false, false, false] (h := ?_)
  refine tqo hHeld 0 #[true, false, false, false, true, false, false, false] (h := ?_)
  refine pqo 1 #[true, true, false, false, true, false, false, false] (h := ?_)
  refine pqo 2 #[true, true, true, false, true, false, false, false] (h := ?_)
  refine tqo hHeld 5 #[true, true, true, false, true, true, false, false] (h := ?_)
  refine one_ (i := 3) (N := some 10) #[true, true, true, true, true, true, false, false] rfl rfl (by kernel_rfl) (by decide) (fun K hK => ?_)
  clear hHeld
  go_simp
  refine (words_on _).mono ?_
  rintro e w355 ⟨bw, rfl, hW_, hb_⟩
  have HWD := Lib.hid hW_
  replace HF := Lib.hid (HF.out.step hb_)
  clear hW_ hb_
  refine hK.out _ _ (⟨trivial, (blk_cell HF.out.b1 0).trans rfl, (blk_cell HF.out.b0 0).trans rfl⟩) (fun hHeld => ?_)
  clear hK K
  (try simp only [Act.put, List.setIfInBounds_toArray, List.set_cons_zero, List.set_cons_succ])
  refine one_ (i := 6) (N := some 13) #[true, true, true, true, true, true, true, false] rfl rfl (by kernel_rfl) (by decide) (fun K hK => ?_)
  clear hHeld
  refine sz_lookr (N := 13) (mv := .map (some bw)) (kv := .int .i64 k) rfl rfl rfl rfl rfl (words_look HWD.out k) ?_
  clear HWD
  refine hK.out _ _ (⟨trivial, (blk_cell HF.out.b1 0).trans rfl, (blk_cell HF.out.b0 0).trans rfl⟩) (fun hHeld => ?_)
  clear hK K
  (try simp only [Act.put, List.setIfInBounds_toArray, List.set_cons_zero, List.set_cons_succ])
  refine last_ (i := 7) (N := some 14) #[true, true, true, true, true, true, true, true] rfl rfl (by kernel_rfl) (by decide) (fun K hK => ?_)
  go_simp
  rw [← HWE.out]
  replace HF := Lib.hid HF.out.up3
  refine (ws_lit wd HF (by have := HL.out; simp at this ⊢; omega)).mono ?_
  rintro e w356 ⟨rfl, oko357, HFn⟩
  clear HF
  have HF := HFn
  clear HFn
  refine hK.out _ _ ?_
  clear hK K
  (try simp only [Act.put, List.setIfInBounds_toArray, List.set_cons_zero, List.set_cons_succ])
  refine done_ (by kernel_rfl) ⟨rfl, ?_⟩
  skip
  try simp only [Act.put, List.setIfInBounds_toArray, List.set_cons_zero, List.set_cons_succ]
  obtain ⟨q358a, q358b, q358c⟩ := rd3 HF.out.b1
  go_wp2_with fail
  have hs1_ : (9223372036854775807 < 1 + s.size) = False := eq_false (by have := HL.out; have e_ : outMax = 140737488355328 := rfl; have e2_ : s.data.size = s.size := rfl; simp [Array.length_toList] at this; omega)
  go_wp2_with fail
  go_wp2_with fail
  replace HF := Lib.hid HF.out.drew
  refine wp_only ?_
  refine start_ (n := 7) (S := (fun w' => True ∧ w'.cell? (⟨b2, 0, none⟩) = some (.pointer (some ⟨g, 0, none⟩)) ∧ w'.cell? (⟨b3, 1, none⟩) = some (.string s))) (ds := [6]) #[false, false, false, false, false, false, false] (by kernel_rfl) rfl rfl ?_ (fun hHeld => ?_)
  ·exact ⟨trivial, (blk_cell HF.out.b2 0).trans rfl, (blk_cell HF.out.b1 1).trans rfl⟩
  refine pqo 3 #[false, false, false, true, false, false, false] (h := ?_)
  refine tqo hHeld 0 #[true, false, false, true, false, false, false] (h := ?_)
  refine pqo 1 #[true, true, false, true, false, false, false] (h := ?_)
  refine pqo 2 (fl 7 4) (h := ?_)
  refine tqo hHeld 4 (fl 7 5) (h := ?_)
  refine pqo 5 (fl 7 6) (h := ?_)
  refine last_ (i := 6) (N := some 23) #[true, true, true, true, true, true, true] rfl rfl (by kernel_rfl) (by decide) (fun K hK => ?_)
  go_simp
  refine (ws_on _ _ _ _ _ _ _ HF (by have := HL.out; have e_ : outMax = 140737488355328 := rfl; (try rw [sp_size]); simp [Array.length_toList] at this ⊢; omega)).mono ?_
  rintro e w359 ⟨rfl, oko360, HFn⟩
  clear HF
  have HF := HFn
  clear HFn
  rw [sp_text] at HF
  refine hK.out _ _ ?_
  clear hK K
  (try simp only [Act.put, List.setIfInBounds_toArray, List.set_cons_zero, List.set_cons_succ])
  refine done_ (by kernel_rfl) ⟨rfl, ?_⟩
  skip
  try simp only [Act.put, List.setIfInBounds_toArray, List.set_cons_zero, List.set_cons_succ]
  have q361 := (blk_cell HF.out.b2 0).trans rfl
  go_wp2_with fail
  refine (ws_lit [46] HF (by have := HL.out; simp at this ⊢; omega)).mono ?_
  rintro e w362 ⟨rfl, oko363, HFn⟩
  clear HF; clear q361
  have HF := HFn
  clear HFn
  go_wp2_with fail
  go_end0
  replace HF := Lib.hid HF.out.swap
  replace HF := Lib.hid HF.out.lose
  replace HF := Lib.hid HF.out.swap
  replace HF := Lib.hid HF.out.lose
  exact ⟨rfl, _, by simpa only [List.append_assoc, List.cons_append, List.nil_append] using HF⟩
end Go.Proofs.YtbndfgoklgdfdaaGreatDoor.P
end
section
set_option linter.unusedSimpArgs false
namespace Go.Proofs.YtbndfgoklgdfdaaGreatDoor.P
open Go.RowKit Go.Proofs.YtbndfgoklgdfdaaGreatDoorW.PrintWords Go.Proofs.YtbndfgoklgdfdaaGreatDoorW.PrintLast Go.Proofs.YtbndfgoklgdfdaaGreatDoorW.PrintMore
theorem spc_text (s : ByteArray) : (((⟨#[32]⟩ : ByteArray) ++ s) ++ (⟨#[58, 32]⟩ : ByteArray)).data.toList = ([32] ++ s.data.toList) ++ [58, 32] := by simp
theorem spc_size (s : ByteArray) : (((⟨#[32]⟩ : ByteArray) ++ s) ++ (⟨#[58, 32]⟩ : ByteArray)).size = 1 + s.size + 2 := by
 rw [ByteArray.size_append, ByteArray.size_append]; rfl
set_option maxRecDepth 100000 in
set_option maxHeartbeats 8000000 in
theorem item_rule (k : Int) (hk : k = 8 ∨ k = 9 ∨ k = 10 ∨ k = 11) (s : ByteArray) (a : Tree) (w : World) (ts : List Th) (g : Nat) (A : Option Addr) (c : Nat) (t : List UInt8) (hg : GOK w) (hc : [a].length ≤ c) (hC : Kd.C k25 w A [a].length [a]) (hA : ∀ (w : World) (ts : List Th) (g : Nat) (A : Option Addr) (c : Nat), GOK w → a.f2.length ≤ c → Kd.C k25 w A a.f2.length a.f2 → Writes 98 #[.pointer (some ⟨g, 0, none⟩), .agg (tN a A c), .int .i64 0, .bool true] w ts g t) :
  Writes 93 #[.pointer (some ⟨g, 0, none⟩), .agg (tN ⟨k, s, [a]⟩ A c)] w ts g (wordS k ++ (((([32] ++ s.data.toList) ++ [58, 32]) ++ t) ++ [46])) := by
 intro W ok bs HF hlen
 rcases hk with hk | hk | hk | hk
 all_goals
  have e2_ := congrArg (fun z : Int => z == 2) hk
  have e14_ := congrArg (fun z : Int => z == 14) hk
  have e3_ := congrArg (fun z : Int => z == 3) hk
  have e4_ := congrArg (fun z : Int => z == 4) hk
  have e5_ := congrArg (fun z : Int => z == 5) hk
  have e6_ := congrArg (fun z : Int => z == 6) hk
  have e7_ := congrArg (fun z : Int => z == 7) hk
  have e8_ := congrArg (fun z : Int => z == 8) hk
  have e9_ := congrArg (fun z : Int => z == 9) hk
  have e10_ := congrArg (fun z : Int => z == 10) hk
  have e11_ := congrArg (fun z : Int => z == 11) hk
  simp only [Int.reduceBEq] at e2_ e14_ e3_ e4_ e5_ e6_ e7_ e8_ e9_ e10_ e11_
  have HK_ := Lib.hid hk
  clear hk
  obtain ⟨wd, hwd⟩ : ∃ wd, wd = wordS k := ⟨_, rfl⟩
  rw [← hwd] at hlen ⊢
  have HL := Lib.hid hlen
  have HWE := Lib.hid hwd
  obtain ⟨a0A, AA, cA, e0A, p0, p1, p2, hl2, hc2⟩ := kid_at hC 0 (by simp) a rfl
  try simp only [Nat.zero_mul, Nat.one_mul, addr_add0, addr_add3] at p0 p1 p2
  have KA := Lib.hid (And.intro p0 (And.intro p1 p2))
  have HLA := Lib.hid hl2
  have HCA := Lib.hid hc2
  clear p0 p1 p2 hl2 hc2
  subst e0A
  have HG := Lib.hid hg
  have HA := Lib.hid (fun w ts g A c hg h1 h2 => hA w ts g A c hg h1 h2)
  clear hg hA hc hC
  clear hlen hwd
  go_enter Tryz.func93, Tryz.ntmps93
  go_wp2_with (first
   | ((with_reducible refine gate_dst (N := 2) rfl ?_); refine ez_box (t := 100) (cs := #[.pointer (some ⟨g, 0, none⟩)]) HF rfl rfl (run_pr rfl rfl) ?_; clear HF; intro b2 w364 HF)
   | ((with_reducible refine gate_dst (N := 3) rfl ?_); refine ez_box (t := 25) (cs := (tN ⟨k, s, [a]⟩ (some a0A) c)) HF rfl rfl (run_tree rfl rfl) ?_; clear HF; intro b3 w365 HF))
  go_wp2_with fail
  replace HF := Lib.hid HF.out.drew
  refine wp_only ?_
  refine start_ (n := 8) (S := (fun w' => True ∧ w'.cell? (⟨b2, 0, none⟩) = some (.pointer (some ⟨g, 0, none⟩)) ∧ w'.cell? (⟨b3, 0, none⟩) = some (.int .i64 k))) (ds := [7]) #[false, false, false, false, false, false, false, false] (by kernel_rfl) rfl rfl ?_ (fun hHeld => ?_)
  ·exact ⟨trivial, (blk_cell HF.out.b1 0).trans rfl, (blk_cell HF.out.b0 0).trans rfl⟩
  refine pqo 4 #[false, false, false, false, true, false, false, false] (h := ?_)
  refine tqo hHeld 0 #[true, false, false, false, true, false, false, false] (h := ?_)
  refine pqo 1 #[true, true, false, false, true, false, false, false] (h := ?_)
  refine pqo 2 #[true, true, true, false, true, false, false, false] (h := ?_)
  refine tqo hHeld 5 #[true, true, true, false, true, true, false, false] (h := ?_)
  refine one_ (i := 3) (N := some 10) #[true, true, true, true, true, true, false, false] rfl rfl (by kernel_rfl) (by decide) (fun K hK => ?_)
  clear hHeld
  go_simp
  refine (words_on _).mono ?_
  rintro e w366 ⟨bw, rfl, hW_, hb_⟩
  have HWD := Lib.hid hW_
  replace HF := Lib.hid (HF.out.step hb_)
  clear hW_ hb_
  refine hK.out _ _ (⟨trivial, (blk_cell HF.out.b1 0).trans rfl, (blk_cell HF.out.b0 0).trans rfl⟩) (fun hHeld => ?_)
  clear hK K
  (try simp only [Act.put, List.setIfInBounds_toArray, List.set_cons_zero, List.set_cons_succ])
  refine one_ (i := 6) (N := some 13) #[true, true, true, true, true, true, true, false] rfl rfl (by kernel_rfl) (by decide) (fun K hK => ?_)
  clear hHeld
  refine sz_lookr (N := 13) (mv := .map (some bw)) (kv := .int .i64 k) rfl rfl rfl rfl rfl (words_look HWD.out k) ?_
  clear HWD
  refine hK.out _ _ (⟨trivial, (blk_cell HF.out.b1 0).trans rfl, (blk_cell HF.out.b0 0).trans rfl⟩) (fun hHeld => ?_)
  clear hK K
  (try simp only [Act.put, List.setIfInBounds_toArray, List.set_cons_zero, List.set_cons_succ])
  refine last_ (i := 7) (N := some 14) #[true, true, true, true, true, true, true, true] rfl rfl (by kernel_rfl) (by decide) (fun K hK => ?_)
  go_simp
  rw [← HWE.out]
  replace HF := Lib.hid HF.out.up3
  refine (ws_lit wd HF (by have := HL.out; simp at this ⊢; omega)).mono ?_
  rintro e w367 ⟨rfl, oko368, HFn⟩
  clear HF
  have HF := HFn
  clear HFn
  refine hK.out _ _ ?_
  clear hK K
  (try simp only [Act.put, List.setIfInBounds_toArray, List.set_cons_zero, List.set_cons_succ])
  refine done_ (by kernel_rfl) ⟨rfl, ?_⟩
  skip
  try simp only [Act.put, List.setIfInBounds_toArray, List.set_cons_zero, List.set_cons_succ]
  obtain ⟨q369a, q369b, q369c⟩ := rd3 HF.out.b1
  go_wp2_with fail
  have hs0_ : 1 + s.size + 2 ≤ outMax := by have := HL.out; have e2_ : s.data.size = s.size := rfl; simp [Array.length_toList] at this; omega
  have hs1_ : (9223372036854775807 < 1 + s.size) = False := eq_false (by have e_ : outMax = 140737488355328 := rfl; omega)
  have hs2_ : (9223372036854775807 < 1 + s.size + 2) = False := eq_false (by have e_ : outMax = 140737488355328 := rfl; omega)
  clear hs0_
  go_wp2_with fail
  go_wp2_with fail
  replace HF := Lib.hid HF.out.drew
  refine wp_only ?_
  refine start_ (n := 8) (S := (fun w' => True ∧ w'.cell? (⟨b2, 0, none⟩) = some (.pointer (some ⟨g, 0, none⟩)) ∧ w'.cell? (⟨b3, 1, none⟩) = some (.string s))) (ds := [7]) #[false, false, false, false, false, false, false, false] (by kernel_rfl) rfl rfl ?_ (fun hHeld => ?_)
  ·exact ⟨trivial, (blk_cell HF.out.b2 0).trans rfl, (blk_cell HF.out.b1 1).trans rfl⟩
  refine pqo 3 #[false, false, false, true, false, false, false, false] (h := ?_)
  refine tqo hHeld 0 #[true, false, false, true, false, false, false, false] (h := ?_)
  refine pqo 1 #[true, true, false, true, false, false, false, false] (h := ?_)
  refine pqo 2 (fl 8 4) (h := ?_)
  refine tqo hHeld 4 (fl 8 5) (h := ?_)
  refine pqo 5 (fl 8 6) (h := ?_)
  refine pqo 6 (fl 8 7) (h := ?_)
  refine last_ (i := 7) (N := some 96) #[true, true, true, true, true, true, true, true] rfl rfl (by kernel_rfl) (by decide) (fun K hK => ?_)
  go_simp
  refine (ws_on _ _ _ _ _ _ _ HF (by have := HL.out; have e_ : outMax = 140737488355328 := rfl; (try rw [spc_size]); simp [Array.length_toList] at this ⊢; omega)).mono ?_
  rintro e w370 ⟨rfl, oko371, HFn⟩
  clear HF
  have HF := HFn
  clear HFn
  rw [spc_text] at HF
  refine hK.out _ _ ?_
  clear hK K
  (try simp only [Act.put, List.setIfInBounds_toArray, List.set_cons_zero, List.set_cons_succ])
  refine done_ (by kernel_rfl) ⟨rfl, ?_⟩
  skip
  try simp only [Act.put, List.setIfInBounds_toArray, List.set_cons_zero, List.set_cons_succ]
  go_wp2_with fail
  go_wp2_with fail
  replace HF := Lib.hid HF.out.drew
  refine wp_only ?_
  refine start_ (n := 6) (S := (fun w' => True ∧ w'.cell? (⟨b2, 0, none⟩) = some (.pointer (some ⟨g, 0, none⟩)) ∧ w'.cell? (⟨b3, 2, none⟩) = some (.slice (some a0A) 1 c) ∧ w'.cell? (a0A) = some (.int .i64 a.f0) ∧ w'.cell? (⟨a0A.block, a0A.off + 1, none⟩) = some (.string a.f1) ∧ w'.cell? (⟨a0A.block, a0A.off + 2, none⟩) = some (.slice AA a.f2.length cA))) (ds := [5]) #[false, false, false, false, false, false] (by kernel_rfl) rfl rfl ?_ (fun hHeld => ?_)
  ·exact ⟨trivial, (blk_cell HF.out.b2 0).trans rfl, (blk_cell HF.out.b1 2).trans rfl, pw_cell_below HF.out.below KA.out.1, pw_cell_below HF.out.below KA.out.2.1, pw_cell_below HF.out.below KA.out.2.2⟩
  refine pqo 1 #[false, true, false, false, false, false] (h := ?_)
  refine tqo hHeld 0 (fl 6 2) (h := ?_)
  refine tqo hHeld 2 (fl 6 3) (h := ?_)
  refine pqo 3 (fl 6 4) (h := ?_)
  refine tqo hHeld 4 (fl 6 5) (h := ?_)
  refine last_ (i := 5) (N := some 102) #[true, true, true, true, true, true] rfl rfl (by kernel_rfl) (by decide) (fun K hK => ?_)
  go_simp
  refine (HA.out w _ g AA cA HG.out HLA.out HCA.out _ _ _ HF (by have := HL.out; have e_ : outMax = 140737488355328 := rfl; (try rw [spc_size]); simp [Array.length_toList] at this ⊢; omega)).mono ?_
  rintro e w372 ⟨rfl, oko373, HFn⟩
  clear HF
  have HF := HFn
  clear HFn
  refine hK.out _ _ ?_
  clear hK K
  (try simp only [Act.put, List.setIfInBounds_toArray, List.set_cons_zero, List.set_cons_succ])
  refine done_ (by kernel_rfl) ⟨rfl, ?_⟩
  skip
  try simp only [Act.put, List.setIfInBounds_toArray, List.set_cons_zero, List.set_cons_succ]
  have q374 := (blk_cell HF.out.b2 0).trans rfl
  go_wp2_with fail
  refine (ws_lit [46] HF (by have := HL.out; simp at this ⊢; omega)).mono ?_
  rintro e w375 ⟨rfl, oko376, HFn⟩
  clear HF; clear q374
  have HF := HFn
  clear HFn
  go_wp2_with fail
  go_end0
  replace HF := Lib.hid HF.out.swap
  replace HF := Lib.hid HF.out.lose
  replace HF := Lib.hid HF.out.swap
  replace HF := Lib.hid HF.out.lose
  exact ⟨rfl, _, by simpa only [List.append_assoc, List.cons_append, List.nil_append] using HF⟩
end Go.Proofs.YtbndfgoklgdfdaaGreatDoor.P
end
section
set_option linter.unusedSimpArgs false
namespace Go.Proofs.YtbndfgoklgdfdaaGreatDoor.P
open Go.RowKit Go.Proofs.YtbndfgoklgdfdaaGreatDoorW.PrintWords Go.Proofs.YtbndfgoklgdfdaaGreatDoorW.PrintLast Go.Proofs.YtbndfgoklgdfdaaGreatDoorW.PrintMore
set_option maxRecDepth 100000 in
set_option maxHeartbeats 8000000 in
theorem item_const (k : Int) (hk : k = 3) (s : ByteArray) (pre : List Tree) (y : Tree) (hy : isTypeT y = true) (w : World) (ts : List Th) (g : Nat) (A : Option Addr) (c : Nat) (hc : (pre ++ [y]).length ≤ c) (hC : Kd.C k25 w A (pre ++ [y]).length (pre ++ [y])) :
  Writes 93 #[.pointer (some ⟨g, 0, none⟩), .agg (tN ⟨k, s, pre ++ [y]⟩ A c)] w ts g (wordS k ++ ((namesS 0 pre ++ ([58, 32] ++ typeS y)) ++ [46])) := by
 intro W ok bs HF hlen
 have e2_ := congrArg (fun z : Int => z == 2) hk
 have e14_ := congrArg (fun z : Int => z == 14) hk
 have e3_ := congrArg (fun z : Int => z == 3) hk
 have e4_ := congrArg (fun z : Int => z == 4) hk
 have e5_ := congrArg (fun z : Int => z == 5) hk
 have e6_ := congrArg (fun z : Int => z == 6) hk
 have e7_ := congrArg (fun z : Int => z == 7) hk
 have e8_ := congrArg (fun z : Int => z == 8) hk
 have e9_ := congrArg (fun z : Int => z == 9) hk
 have e10_ := congrArg (fun z : Int => z == 10) hk
 have e11_ := congrArg (fun z : Int => z == 11) hk
 simp only [Int.reduceBEq] at e2_ e14_ e3_ e4_ e5_ e6_ e7_ e8_ e9_ e10_ e11_
 have HK_ := Lib.hid hk
 clear hk
 obtain ⟨wd, hwd⟩ : ∃ wd, wd = wordS k := ⟨_, rfl⟩
 rw [← hwd] at hlen ⊢
 have HL := Lib.hid hlen
 have HWE := Lib.hid hwd
 obtain ⟨l, hl⟩ : ∃ l, l = pre ++ [y] := ⟨_, rfl⟩
 rw [← hl] at hc hC ⊢
 have hm : (l.length : Int) = (pre.length : Int) + 1 := by rw [hl]; simp
 have hmn : l.length = pre.length + 1 := by rw [hl]; simp
 have hln : l.length ≤ 9223372036854775807 := hC.2.1
 have hcp := Kd.C_take (m := pre.length) hC (show pre.length ≤ l.length by omega)
 rw [show l.take pre.length = pre by rw [hl]; simp] at hcp
 obtain ⟨i0, hi0, _, hsz, _⟩ := info_parts info25
 have hcut := cut_to (P := Tryz.prog) 23 25 .i64 Tryz.underlying23 hi0 A l.length c (pre.length : Int) (by omega) (by omega) hc
 rw [Int.toNat_natCast] at hcut
 obtain ⟨a0, AY, cY, e0, p0, p1, p2, hl2, hc2⟩ := kid_at hC pre.length (by omega) y (by rw [hl]; simp)
 have KY := Lib.hid (And.intro p0 (And.intro p1 p2))
 have HLY := Lib.hid hl2
 have HCY := Lib.hid hc2
 have HCP := Lib.hid hcp
 have HTY := Lib.hid (typ_writes _ y (Nat.lt_succ_self _) hy)
 clear p0 p1 p2 hl2 hc2 hcp hi0 hsz hC hc hy hl
 subst e0
 have hlt_ : ((pre.length : Int) < (pre.length : Int) + 1) = True := eq_true (by omega)
 clear hmn
 clear hlen hwd
 go_enter Tryz.func93, Tryz.ntmps93
 go_wp2_with (first
  | ((with_reducible refine gate_dst (N := 2) rfl ?_); refine ez_box (t := 100) (cs := #[.pointer (some ⟨g, 0, none⟩)]) HF rfl rfl (run_pr rfl rfl) ?_; clear HF; intro b2 w377 HF)
  | ((with_reducible refine gate_dst (N := 3) rfl ?_); refine ez_box (t := 25) (cs := (tN ⟨k, s, l⟩ (some a0) c)) HF rfl rfl (run_tree rfl rfl) ?_; clear HF; intro b3 w378 HF))
 go_wp2_with fail
 replace HF := Lib.hid HF.out.drew
 refine wp_only ?_
 refine start_ (n := 8) (S := (fun w' => True ∧ w'.cell? (⟨b2, 0, none⟩) = some (.pointer (some ⟨g, 0, none⟩)) ∧ w'.cell? (⟨b3, 0, none⟩) = some (.int .i64 k))) (ds := [7]) #[false, false, false, false, false, false, false, false] (by kernel_rfl) rfl rfl ?_ (fun hHeld => ?_)
 ·exact ⟨trivial, (blk_cell HF.out.b1 0).trans rfl, (blk_cell HF.out.b0 0).trans rfl⟩
 refine pqo 4 #[false, false, false, false, true, false, false, false] (h := ?_)
 refine tqo hHeld 0 #[true, false, false, false, true, false, false, false] (h := ?_)
 refine pqo 1 #[true, true, false, false, true, false, false, false] (h := ?_)
 refine pqo 2 #[true, true, true, false, true, false, false, false] (h := ?_)
 refine tqo hHeld 5 #[true, true, true, false, true, true, false, false] (h := ?_)
 refine one_ (i := 3) (N := some 10) #[true, true, true, true, true, true, false, false] rfl rfl (by kernel_rfl) (by decide) (fun K hK => ?_)
 clear hHeld
 go_simp
 refine (words_on _).mono ?_
 rintro e w379 ⟨bw, rfl, hW_, hb_⟩
 have HWD := Lib.hid hW_
 replace HF := Lib.hid (HF.out.step hb_)
 clear hW_ hb_
 refine hK.out _ _ (⟨trivial, (blk_cell HF.out.b1 0).trans rfl, (blk_cell HF.out.b0 0).trans rfl⟩) (fun hHeld => ?_)
 clear hK K
 (try simp only [Act.put, List.setIfInBounds_toArray, List.set_cons_zero, List.set_cons_succ])
 refine one_ (i := 6) (N := some 13) #[true, true, true, true, true, true, true, false] rfl rfl (by kernel_rfl) (by decide) (fun K hK => ?_)
 clear hHeld
 refine sz_lookr (N := 13) (mv := .map (some bw)) (kv := .int .i64 k) rfl rfl rfl rfl rfl (words_look HWD.out k) ?_
 clear HWD
 refine hK.out _ _ (⟨trivial, (blk_cell HF.out.b1 0).trans rfl, (blk_cell HF.out.b0 0).trans rfl⟩) (fun hHeld => ?_)
 clear hK K
 (try simp only [Act.put, List.setIfInBounds_toArray, List.set_cons_zero, List.set_cons_succ])
 refine last_ (i := 7) (N := some 14) #[true, true, true, true, true, true, true, true] rfl rfl (by kernel_rfl) (by decide) (fun K hK => ?_)
 go_simp
 rw [← HWE.out]
 replace HF := Lib.hid HF.out.up3
 refine (ws_lit wd HF (by have := HL.out; simp at this ⊢; omega)).mono ?_
 rintro e w380 ⟨rfl, oko381, HFn⟩
 clear HF
 have HF := HFn
 clear HFn
 refine hK.out _ _ ?_
 clear hK K
 (try simp only [Act.put, List.setIfInBounds_toArray, List.set_cons_zero, List.set_cons_succ])
 refine done_ (by kernel_rfl) ⟨rfl, ?_⟩
 skip
 try simp only [Act.put, List.setIfInBounds_toArray, List.set_cons_zero, List.set_cons_succ]
 obtain ⟨q382a, q382b, q382c⟩ := rd3 HF.out.b1
 go_wp2_with fail
 go_wp2_with fail
 go_wp2_with fail
 replace HF := Lib.hid HF.out.drew
 refine wp_only ?_
 refine start_ (n := 6) (S := (fun w' => True ∧ w'.cell? (⟨b2, 0, none⟩) = some (.pointer (some ⟨g, 0, none⟩)) ∧ w'.cell? (⟨b3, 2, none⟩) = some (.slice (some a0) l.length c))) (ds := [5]) #[false, false, false, false, false, false] (by kernel_rfl) rfl rfl ?_ (fun hHeld => ?_)
 ·exact ⟨trivial, (blk_cell HF.out.b2 0).trans rfl, (blk_cell HF.out.b1 2).trans rfl⟩
 refine pqo 1 #[false, true, false, false, false, false] (h := ?_)
 refine pqo 3 #[false, true, false, true, false, false] (h := ?_)
 refine tqo hHeld 0 #[true, true, false, true, false, false] (h := ?_)
 refine tqo hHeld 2 (fl 6 4) (h := ?_)
 refine pqo 4 (fl 6 5) (h := ?_)
 refine last_ (i := 5) (N := some 42) #[true, true, true, true, true, true] rfl rfl (by kernel_rfl) (by decide) (fun K hK => ?_)
 go_simp
 refine (names_writes pre w _ g (some a0) c HCP.out _ _ _ HF (by have := HL.out; have e_ : outMax = 140737488355328 := rfl; (try rw [spc_size]); simp [Array.length_toList] at this ⊢; omega)).mono ?_
 rintro e w383 ⟨rfl, oko384, HFn⟩
 clear HF
 have HF := HFn
 clear HFn
 refine hK.out _ _ ?_
 clear hK K
 (try simp only [Act.put, List.setIfInBounds_toArray, List.set_cons_zero, List.set_cons_succ])
 refine done_ (by kernel_rfl) ⟨rfl, ?_⟩
 skip
 try simp only [Act.put, List.setIfInBounds_toArray, List.set_cons_zero, List.set_cons_succ]
 have q385 := (blk_cell HF.out.b2 0).trans rfl
 go_wp2_with fail
 refine (ws_lit [58, 32] HF (by have := HL.out; have e_ : outMax = 140737488355328 := rfl; (try rw [spc_size]); simp [Array.length_toList] at this ⊢; omega)).mono ?_
 rintro e w386 ⟨rfl, oko387, HFn⟩
 clear HF; clear q385
 have HF := HFn
 clear HFn
 go_wp2_with fail
 go_wp2_with fail
 replace HF := Lib.hid HF.out.drew
 refine wp_only ?_
 refine start_ (n := 7) (S := (fun w' => True ∧ w'.cell? (⟨b2, 0, none⟩) = some (.pointer (some ⟨g, 0, none⟩)) ∧ w'.cell? (⟨b3, 2, none⟩) = some (.slice (some a0) l.length c) ∧ w'.cell? (a0.add (pre.length * 3)) = some (.int .i64 y.f0) ∧ w'.cell? (⟨(a0.add (pre.length * 3)).block, (a0.add (pre.length * 3)).off + 1, none⟩) = some (.string y.f1) ∧ w'.cell? (⟨(a0.add (pre.length * 3)).block, (a0.add (pre.length * 3)).off + 2, none⟩) = some (.slice AY y.f2.length cY))) (ds := [6]) #[false, false, false, false, false, false, false] (by kernel_rfl) rfl rfl ?_ (fun hHeld => ?_)
 ·exact ⟨trivial, (blk_cell HF.out.b2 0).trans rfl, (blk_cell HF.out.b1 2).trans rfl, pw_cell_below HF.out.below KY.out.1, pw_cell_below HF.out.below KY.out.2.1, pw_cell_below HF.out.below KY.out.2.2⟩
 refine pqo 1 #[false, true, false, false, false, false, false] (h := ?_)
 refine pqo 3 #[false, true, false, true, false, false, false] (h := ?_)
 refine tqo hHeld 0 #[true, true, false, true, false, false, false] (h := ?_)
 refine tqo hHeld 2 (fl 7 4) (h := ?_)
 refine pqo 4 (fl 7 5) (h := ?_)
 refine tqo hHeld 5 (fl 7 6) (h := ?_)
 refine last_ (i := 6) (N := some 53) #[true, true, true, true, true, true, true] rfl rfl (by kernel_rfl) (by decide) (fun K hK => ?_)
 go_simp
 refine (HTY.out w _ g AY cY HLY.out HCY.out _ _ _ HF (by have := HL.out; have e_ : outMax = 140737488355328 := rfl; (try rw [spc_size]); simp [Array.length_toList] at this ⊢; omega)).mono ?_
 rintro e w388 ⟨rfl, oko389, HFn⟩
 clear HF
 have HF := HFn
 clear HFn
 refine hK.out _ _ ?_
 clear hK K
 (try simp only [Act.put, List.setIfInBounds_toArray, List.set_cons_zero, List.set_cons_succ])
 refine done_ (by kernel_rfl) ⟨rfl, ?_⟩
 skip
 try simp only [Act.put, List.setIfInBounds_toArray, List.set_cons_zero, List.set_cons_succ]
 have q390 := (blk_cell HF.out.b2 0).trans rfl
 go_wp2_with fail
 refine (ws_lit [46] HF (by have := HL.out; simp at this ⊢; omega)).mono ?_
 rintro e w391 ⟨rfl, oko392, HFn⟩
 clear HF; clear q390
 have HF := HFn
 clear HFn
 go_wp2_with fail
 go_end0
 replace HF := Lib.hid HF.out.swap
 replace HF := Lib.hid HF.out.lose
 replace HF := Lib.hid HF.out.swap
 replace HF := Lib.hid HF.out.lose
 exact ⟨rfl, _, by simpa only [List.append_assoc, List.cons_append, List.nil_append] using HF⟩
end Go.Proofs.YtbndfgoklgdfdaaGreatDoor.P
end
