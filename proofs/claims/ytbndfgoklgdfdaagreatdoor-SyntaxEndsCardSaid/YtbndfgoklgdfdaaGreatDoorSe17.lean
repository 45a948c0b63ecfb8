/- The table of items (a map that the program makes anew at each call): its entries, how it is made, what a look-up finds. syntax's printer: formulas: quantifiers (printed by mkpr.py). syntax's printer: formulas, all kinds. syntax's printer: names (printed by mkpr.py). -/
import Derived.Test.YtbndfgoklgdfdaaGreatDoorSe13
import Derived.MapKept
import Derived.Test.YtbndfgoklgdfdaaGreatDoorSe16
import Derived.Test.YtbndfgoklgdfdaaGreatDoorSe10
set_option linter.all false
section
namespace Go.Proofs.YtbndfgoklgdfdaaGreatDoor.P
open Go.RowKit Go.Proofs.YtbndfgoklgdfdaaGreatDoorW.PrintWords Go.Proofs.YtbndfgoklgdfdaaGreatDoorW.PrintLast Go.Proofs.YtbndfgoklgdfdaaGreatDoorW.PrintMore

/-- A map that a call has made, behind so many insertions. -/
structure MapAt (w W : World) (b : Nat) (es : Array MapEntry) (n : Nat) : Prop where
 at_ : W.heap[b]? = some (.map es n)
 low : w.heap.size ≤ b
 below : Below w.heap.size w W
section
variable {w W : World} {b n : Nat} {es : Array MapEntry} {ops : Array Oper} {rest : List Oper} {o : Oper} {a : Act} {Q : Exit → Act → World → Prop} {K : Act → World → Prop}
theorem run_ins {t k e : TypeId} {m x v : Operand} {s : ByteArray} (h : W.heap[b]? = some (.map es n)) (ho : o.op = .insert t m x v ∨ o.op = .mapUpdate t m x v) (hu : Tryz.prog.underlying t = some (.map k e)) (hk : Tryz.prog.underlying k = some .string)
  (hm : a.eval m = .map (some b)) (hx : a.eval x = .string s) (hn : Instr.findNow .string (.string s) es.toList 0 = some none) :
  (execOp a.eval o).run Tryz.prog W = .ok .skip { W with heap := W.heap.setIfInBounds b (.map (es.push ⟨.string s, a.eval v, n⟩) (n + 1)) } := by
 have h1 := MapKept.run_findKey (P := Tryz.prog) (w := W) hk hn
 have h2 := MapKept.run_checkKey (P := Tryz.prog) (w := W) hk (k := .string s) trivial false 9999
 unfold execOp
 rcases ho with ho | ho <;> rw [ho] <;> simp [Instr.mapUpdate, hm, hx, run_underlying hu, MapKept.run_getObj_map h, h1, h2, MapKept.run_setObj_map _ h, Result.andThen]
theorem MapAt.put (h : MapAt w W b es n) (es' : Array MapEntry) (n' : Nat) : MapAt w { W with heap := W.heap.setIfInBounds b (.map es' n') } b es' n' := by
 have hb := blk_lt h.at_
 refine ⟨by simp [hb], h.low, h.below.os, h.below.tape, h.below.output, by simpa using h.below.size, fun i hi => ?_⟩
 have : i ≠ b := by have := h.low; omega
 show (W.heap.setIfInBounds b _)[i]? = _
 rw [Array.getElem?_setIfInBounds_ne (fun e => this e.symm)]
 exact h.below.block i hi
/-- A pair into a map whose keys are strings, none of them this one. -/
theorem ev_ins {t k e : TypeId} {m x v : Operand} {s : ByteArray} (HM : Hid (MapAt w W b es n)) (hgd : o.guard = none) (hd : o.dst = none) (ho : o.op = .insert t m x v) (hu : Tryz.prog.underlying t = some (.map k e)) (hk : Tryz.prog.underlying k = some .string)
  (hm : a.eval m = .map (some b)) (hx : a.eval x = .string s) (hn : Instr.findNow .string (.string s) es.toList 0 = some none)
  (h : ∀ W', Hid (MapAt w W' b (es.push ⟨.string s, a.eval v, n⟩) (n + 1)) → wpList Tryz.prog ops Q rest a W') : wpList Tryz.prog ops Q (o :: rest) a W := by
 refine wpList_plain hgd fun K hK => ?_
 unfold Oper.wp
 rw [run_ins HM.out.at_ (.inl ho) hu hk hm hx hn]
 show K (a.put o.dst undef) _
 rw [hd]
 exact hK _ _ (h _ (Lib.hid (HM.out.put _ _)))
/-- 'v, ok := m[k]'. -/
theorem run_look {t k e : TypeId} {s : ByteArray} {z : Value} {r : Option (Nat × Value)} (h : W.heap[b]? = some (.map es n)) (hu : Tryz.prog.underlying t = some (.map k e)) (hk : Tryz.prog.underlying k = some .string)
  (hz : (zeroValue e).run Tryz.prog W = .ok z W) (hn : Instr.findNow .string (.string s) es.toList 0 = some r) :
  (Instr.lookup t (.map (some b)) (.string s) true).run Tryz.prog W = .ok (.tuple #[(r.map (·.2)).getD z, .bool r.isSome]) W := by
 have h1 := MapKept.run_findKey (P := Tryz.prog) (w := W) hk hn
 have h2 := MapKept.run_checkKey (P := Tryz.prog) (w := W) hk (k := .string s) trivial es.isEmpty 9999
 cases r with
 | none => simp [Instr.lookup, run_underlying hu, MapKept.run_getObj_map h, h1, h2, hz, Result.andThen]
 | some p => simp [Instr.lookup, run_underlying hu, MapKept.run_getObj_map h, h1, h2, Result.andThen]
end
/-- The items: a word, a kind, the method that reads what stands behind it. -/
def itemL : List (List UInt8 × Int × FuncId) := [([116, 121, 112, 101], 2, 104), ([101, 120, 112, 111, 114, 116], 14, 104), ([99, 111, 110, 115, 116], 3, 105), ([112, 114, 101, 100], 4, 106), ([102, 97, 99, 116], 5, 106), ([108, 97, 115, 116, 105, 110, 103], 6, 106), ([109, 111, 100, 101], 7, 107), ([114, 117, 108, 101], 8, 108), ([111, 110, 99, 101], 9, 108), ([109, 111, 115, 116], 10, 108), ([113, 117, 101, 114, 121], 11, 108), ([109, 111, 100, 117, 108, 101], 12, 109), ([117, 115, 101], 13, 109)]
def itemV (r : List UInt8 × Int × FuncId) : Value := .agg #[.int .i64 r.2.1, .func (.func r.2.2) #[] #[]]
def itemE (i : Nat) (r : List UInt8 × Int × FuncId) : MapEntry := ⟨.string ⟨r.1.toArray⟩, itemV r, i⟩
def itemEs : Array MapEntry := (itemL.mapIdx itemE).toArray
theorem find_items (s : ByteArray) : ∀ (L : List (List UInt8 × Int × FuncId)) (f : Nat → List UInt8 × Int × FuncId → MapEntry), (∀ i r, (f i r).key = .string ⟨r.1.toArray⟩ ∧ (f i r).val = itemV r) → ∀ i,
  (L.find? (fun r => s == (⟨r.1.toArray⟩ : ByteArray)) = none → Instr.findNow .string (.string s) (L.mapIdx f) i = some none) ∧
  ∀ r, L.find? (fun r => s == (⟨r.1.toArray⟩ : ByteArray)) = some r → ∃ n, Instr.findNow .string (.string s) (L.mapIdx f) i = some (some (n, itemV r))
 | [], _, _, _ => ⟨fun _ => rfl, fun _ h => by cases h⟩
 | r :: L, f, hf, i => by
  obtain ⟨h1, h2⟩ := find_items s L (fun j => f (j + 1)) (fun j r => hf (j + 1) r) (i + 1)
  obtain ⟨e1, e2⟩ := hf 0 r
  rw [List.mapIdx_cons, List.find?_cons]
  unfold Instr.findNow
  rw [e1]
  simp only [Instr.sameNow]
  cases hs : s == (⟨r.1.toArray⟩ : ByteArray) with
  | false => exact ⟨fun h => h1 h, fun r' h => h2 r' h⟩
  | true => exact ⟨fun h => (by cases h), fun r' h => ⟨i, by rw [e2]; injection h with h; rw [h]⟩⟩
section
variable {W : World} {b : Nat} {o : Oper} {a : Act} {s : ByteArray}
theorem run_rule (ho : o.op = .alloc 80) : (execOp a.eval o).run Tryz.prog W = .ok (.value (.pointer (some ⟨W.heap.size, 0, none⟩))) (W.alloc (.cells #[.int .i64 0, .nilFunc] 80 (0, 0))) := by
 unfold execOp
 rw [ho]
 first | (go_simp; done) | (go_simp; rfl)
theorem look_none (h : W.heap[b]? = some (.map itemEs 13)) (hf : itemL.find? (fun r => s == (⟨r.1.toArray⟩ : ByteArray)) = none) :
  (Instr.lookup 76 (.map (some b)) (.string s) true).run Tryz.prog W = .ok (.tuple #[.agg #[.int .i64 0, .nilFunc], .bool false]) W := by
 have hn := (find_items s itemL itemE (fun _ _ => ⟨rfl, rfl⟩) 0).1 hf
 exact run_look h Tryz.underlying76 Tryz.underlying9 (by kernel_rfl) (r := none) (by simpa [itemEs] using hn)
theorem look_some {r : List UInt8 × Int × FuncId} (h : W.heap[b]? = some (.map itemEs 13)) (hf : itemL.find? (fun r => s == (⟨r.1.toArray⟩ : ByteArray)) = some r) :
  (Instr.lookup 76 (.map (some b)) (.string s) true).run Tryz.prog W = .ok (.tuple #[.agg #[.int .i64 r.2.1, .func (.func r.2.2) #[] #[]], .bool true]) W := by
 obtain ⟨n, hn⟩ := (find_items s itemL itemE (fun _ _ => ⟨rfl, rfl⟩) 0).2 r hf
 exact run_look h Tryz.underlying76 Tryz.underlying9 (z := .agg #[.int .i64 0, .nilFunc]) (by kernel_rfl) (r := some (n, itemV r)) (by simpa [itemEs] using hn)
end
set_option maxRecDepth 100000 in
set_option maxHeartbeats 4000000 in
theorem rules_par (w : World) : Calls Tryz.prog 57 #[] w fun e w' => ∃ b, e = .returned (.map (some b)) ∧ MapAt w w' b itemEs 13 := by
 have hmm := @run_makeMap Tryz.prog
 have HM : Hid (MapAt w (w.alloc (.map #[] 0)) w.heap.size #[] 0) := Lib.hid ⟨blk_new w _, Nat.le_refl _, below_alloc (Below.refl _ _) _⟩
 generalize hb : w.heap.size = b at HM
 go_enter Tryz.func57, Tryz.ntmps57
 go_wp2_with (first
  | ((with_reducible refine gate_dst (N := 1) rfl ?_); refine Kd.event_run rfl (v := .map (some b)) (w1 := w.alloc (.map #[] 0)) (by rw [← hb]; rfl) ?_)
  | (refine ev_ins HM rfl rfl rfl Tryz.underlying76 Tryz.underlying9 rfl rfl (by kernel_rfl) ?_; clear HM; intro W1 HM))
 go_ret
 exact ⟨b, rfl, HM.out⟩
section
variable {w0 w W : World} {g : Nat} {S : World → Prop} {l ts : List Tok} {t : Tok} {tl : List Tok} {bs : List Bx} {os : List Ow}
theorem Fr.map (HF : Fr w0 w W g S bs os) {W' : World} {b n : Nat} {es : Array MapEntry} (h : MapAt W W' b es n) : Fr w0 w W' g S ((b, .map es n) :: bs) os := HF.box h.low h.at_ h.below
/-- The parser's cells, and those of the token that is next. -/
theorem PSt.tok (h : PSt w0 W g l (t :: tl)) : ∃ ad c0, W.cell? ⟨g, 0, none⟩ = some (.slice (some ad) l.length c0) ∧ W.cell? ⟨g, 1, none⟩ = some (.int .i64 ((l.length : Int) - ((tl.length : Int) + 1))) ∧
  W.cell? ⟨(ad.add (((l.length : Int) - ((tl.length : Int) + 1)).toNat * 3)).block, (ad.add (((l.length : Int) - ((tl.length : Int) + 1)).toNat * 3)).off + 1, none⟩ = some (.string t.f1) := by
 have h0 := h.st
 obtain ⟨A0, c0, hg, _, hC⟩ := h0
 have hl := h.le
 have hc := h.cons.1
 simp only [List.length_cons, Int.natCast_add, Int.natCast_one] at hl hc
 obtain ⟨ad, rfl, _, hx, _⟩ := at_T65 hC ((l.length : Int) - ((tl.length : Int) + 1)) (by omega) (by omega)
 rw [hc] at hx
 exact ⟨ad, c0, (blk_cell hg 0).trans rfl, by have := h.cell; rwa [List.length_cons, Int.natCast_add] at this, pw_cell_below h.below hx⟩
theorem PSt.none (h : PSt w0 W g l []) : ∃ A0 c0, W.cell? ⟨g, 0, none⟩ = some (.slice A0 l.length c0) ∧ W.cell? ⟨g, 1, none⟩ = some (.int .i64 (l.length : Int)) := by
 obtain ⟨A0, c0, hg, _, hC⟩ := h.st
 exact ⟨A0, c0, (blk_cell hg 0).trans rfl, h.cell.trans (by simp)⟩
theorem c_refuse (HF : Hid (Fr w0 w W g (SP w0 g l ts) bs os)) : Calls Tryz.prog 56 #[.pointer (some ⟨g, 0, none⟩)] W fun e W' => e = badE l ts ∧ HBad w0 w g l ts W' := Fr.badly HF (refuse_par w0 W g l ts HF.out.st)
end
end Go.Proofs.YtbndfgoklgdfdaaGreatDoor.P
end
section
set_option linter.unusedSimpArgs false
namespace Go.Proofs.YtbndfgoklgdfdaaGreatDoor.P
open Go.RowKit Go.Proofs.YtbndfgoklgdfdaaGreatDoorW.PrintWords Go.Proofs.YtbndfgoklgdfdaaGreatDoorW.PrintLast Go.Proofs.YtbndfgoklgdfdaaGreatDoorW.PrintMore
section
variable {w W W' : World} {b n : Nat} {es : Array MapEntry} {ts : List Th} {o : Oper} {a : Act} {Q : Exit → Act → World → Prop} {K : Act → World → Prop} {ops : Array Oper}
theorem run_insK {t k e : TypeId} {m x v : Operand} {d : TypeDesc} {kv : Value} (h : W.heap[b]? = some (.map es n)) (ho : o.op = .insert t m x v ∨ o.op = .mapUpdate t m x v) (hu : Tryz.prog.underlying t = some (.map k e)) (hk : Tryz.prog.underlying k = some d)
  (hm : a.eval m = .map (some b)) (hx : a.eval x = kv) (hkey : MapKept.IsKey d kv) (hn : Instr.findNow d kv es.toList 0 = some none) :
  (execOp a.eval o).run Tryz.prog W = .ok .skip { W with heap := W.heap.setIfInBounds b (.map (es.push ⟨kv, a.eval v, n⟩) (n + 1)) } := by
 have h1 := MapKept.run_findKey (P := Tryz.prog) (w := W) hk hn
 have h2 := MapKept.run_checkKey (P := Tryz.prog) (w := W) hk hkey false 9999
 unfold execOp
 rcases ho with ho | ho <;> rw [ho] <;> simp [Instr.mapUpdate, hm, hx, run_underlying hu, MapKept.run_getObj_map h, h1, h2, MapKept.run_setObj_map _ h, Result.andThen]
theorem run_lookK {t k e : TypeId} {d : TypeDesc} {kv z : Value} {r : Option (Nat × Value)} (h : W.heap[b]? = some (.map es n)) (hu : Tryz.prog.underlying t = some (.map k e)) (hk : Tryz.prog.underlying k = some d) (hkey : MapKept.IsKey d kv)
  (hz : (zeroValue e).run Tryz.prog W = .ok z W) (hn : Instr.findNow d kv es.toList 0 = some r) : (Instr.lookup t (.map (some b)) kv false).run Tryz.prog W = .ok ((r.map (·.2)).getD z) W := by
 have h1 := MapKept.run_findKey (P := Tryz.prog) (w := W) hk hn
 have h2 := MapKept.run_checkKey (P := Tryz.prog) (w := W) hk hkey es.isEmpty 9999
 cases r with
 | none => simp [Instr.lookup, run_underlying hu, MapKept.run_getObj_map h, h1, h2, hz, Result.andThen]
 | some p => simp [Instr.lookup, run_underlying hu, MapKept.run_getObj_map h, h1, h2, Result.andThen]
theorem Fz.ins (h : Fz w W (bT b (.map es n) :: ts)) (es' : Array MapEntry) (n' : Nat) : Fz w { W with heap := W.heap.setIfInBounds b (.map es' n') } (bT b (.map es' n') :: ts) :=
 h.change _ (by simp) ⟨rfl, rfl, rfl⟩ (fun k _ hk => by show (W.heap.setIfInBounds b _)[k]? = _; rw [Array.getElem?_setIfInBounds_ne (fun e => hk e.symm)]) (show (W.heap.setIfInBounds b _)[b]? = _ by have := blk_lt (show W.heap[b]? = some (.map es n) from h.b0); simp [this]) (fun k hk => .inl hk)
theorem sz_map {N : Tmp} (HF : Hid (Fz w W ts)) (hw : Region.wanted o (yielded ops a.tmps) = true) (hd : o.dst = some N) (hrun : (execOp a.eval o).run Tryz.prog W = .ok (.value (.map (some W.heap.size))) (W.alloc (.map #[] 0)))
  (h : ∀ b W', Hid (Fz w W' (bT b (.map #[] 0) :: ts)) → K (a.put (some N) (.map (some b))) W') : if Region.wanted o (yielded ops a.tmps) = true then Oper.wp Tryz.prog o a W K Q else K (a.put o.dst undef) W := by
 rw [if_pos hw]
 unfold Oper.wp
 rw [hrun]
 show K (a.put o.dst _) _
 rw [hd]
 exact h _ _ (Lib.hid (HF.out.alloc _))
theorem sz_ins {t k e : TypeId} {m x v : Operand} {d : TypeDesc} (kv u : Value) (HF : Hid (Fz w W (bT b (.map es n) :: ts))) (hw : Region.wanted o (yielded ops a.tmps) = true) (ho : o.op = .insert t m x v) (hd : o.dst = none) (hu : Tryz.prog.underlying t = some (.map k e)) (hk : Tryz.prog.underlying k = some d)
  (hm : a.eval m = .map (some b)) (hx : a.eval x = kv) (hv : a.eval v = u) (hkey : MapKept.IsKey d kv) (hn : Instr.findNow d kv es.toList 0 = some none)
  (h : ∀ W', Hid (Fz w W' (bT b (.map (es.push ⟨kv, u, n⟩) (n + 1)) :: ts)) → K a W') : if Region.wanted o (yielded ops a.tmps) = true then Oper.wp Tryz.prog o a W K Q else K (a.put o.dst undef) W := by
 rw [if_pos hw]
 unfold Oper.wp
 rw [run_insK HF.out.b0 (.inl ho) hu hk hm hx hkey hn]
 show K (a.put o.dst _) _
 rw [hd, hv]
 exact h _ (Lib.hid (HF.out.ins _ _))
theorem sz_look {N : Tmp} {t k e : TypeId} {m x : Operand} {d : TypeDesc} {kv z u : Value} {r : Option (Nat × Value)} (HF : Hid (Fz w W (bT b (.map es n) :: ts))) (hw : Region.wanted o (yielded ops a.tmps) = true) (ho : o.op = .lookup t m x false) (hd : o.dst = some N) (hu : Tryz.prog.underlying t = some (.map k e)) (hk : Tryz.prog.underlying k = some d)
  (hm : a.eval m = .map (some b)) (hx : a.eval x = kv) (hkey : MapKept.IsKey d kv) (hz : (zeroValue e).run Tryz.prog W = .ok z W) (hn : Instr.findNow d kv es.toList 0 = some r) (hv : (r.map (·.2)).getD z = u)
  (h : K (a.put (some N) u) W) : if Region.wanted o (yielded ops a.tmps) = true then Oper.wp Tryz.prog o a W K Q else K (a.put o.dst undef) W := by
 rw [if_pos hw]
 unfold Oper.wp execOp
 rw [ho]
 simp only [Sem.run_bind, hm, hx, run_lookK (HF.out.b0) hu hk hkey hz hn, Result.andThen_ok, Sem.run_pure, hv]
 show K (a.put o.dst _) _
 rw [hd]
 exact h
end
set_option maxRecDepth 100000 in
set_option maxHeartbeats 8000000 in
theorem form21_writes (k : Int) (s : ByteArray) (l : List Tree) (y : Tree) (u v : Array Value) (A A2 : Option Addr) (c c2 : Nat) (w : World) (ts : List Th) (g b4 b5 b8 bb : Nat) (t : List UInt8)
  (h : ∀ b9, Writes 98 #[.pointer (some ⟨g, 0, none⟩), .agg (tN y A2 c2), .int .i64 0, .bool true] w (vT b9 25 (tN y A2 c2) :: vT bb 25 u :: vT b8 129 v :: vT b5 25 (tN ⟨k, s, l⟩ A c) :: vT b4 100 #[.pointer (some ⟨g, 0, none⟩)] :: ts) g t) :
  Writes 135 #[.agg (tN y A2 c2), .pointer (some ⟨b4, 0, none⟩)] w (vT bb 25 u :: vT b8 129 v :: vT b5 25 (tN ⟨k, s, l⟩ A c) :: vT b4 100 #[.pointer (some ⟨g, 0, none⟩)] :: ts) g t := by
 intro W ok bs HF hlen
 have HL := Lib.hid hlen
 have HH := Lib.hid h
 clear hlen h
 go_enter Tryz.func135, Tryz.ntmps135
 go_wp2_with (first
  | ((with_reducible refine gate_dst (N := 2) rfl ?_); refine ez_box (t := 25) (cs := (tN y A2 c2)) HF rfl rfl (run_tree rfl rfl) ?_; clear HF; intro b9 w292 HF; have q293 := (blk_cell HF.out.b5 0).trans rfl; obtain ⟨q294a, q294b, q294c⟩ := rd3 HF.out.b0))
 replace HF := Lib.hid HF.out.swap
 refine (HH.out b9 _ _ _ HF (HL.out)).mono ?_
 rintro e w295 ⟨rfl, oko296, HFn⟩
 clear HF; clear q293 q294a q294b q294c
 have HF := HFn
 clear HFn
 go_wp2_with fail
 go_end0
 replace HF := Lib.hid HF.out.swap
 replace HF := Lib.hid HF.out.lose
 exact ⟨rfl, _, HF⟩
set_option maxRecDepth 100000 in
set_option maxHeartbeats 8000000 in
theorem form2_writes18 (s : ByteArray) (l : List Tree) (v : Array Value) (A : Option Addr) (c : Nat) (w : World) (ts : List Th) (g b4 b5 b8 : Nat) (t : List UInt8)
  (h : Writes 130 #[.pointer (some ⟨g, 0, none⟩), .agg (tN ⟨18, s, l⟩ A c), .func (.func 135) #[] #[.pointer (some ⟨b4, 0, none⟩)]] w (vT b8 129 v :: vT b5 25 (tN ⟨18, s, l⟩ A c) :: vT b4 100 #[.pointer (some ⟨g, 0, none⟩)] :: ts) g t) :
  Writes 134 #[.pointer (some ⟨b4, 0, none⟩), .pointer (some ⟨b5, 0, none⟩)] w (vT b8 129 v :: vT b5 25 (tN ⟨18, s, l⟩ A c) :: vT b4 100 #[.pointer (some ⟨g, 0, none⟩)] :: ts) g ([97, 108, 108, 32] ++ t) := by
 intro W ok bs HF hlen
 have HL := Lib.hid hlen
 have HH := Lib.hid h
 clear hlen h
 go_enter Tryz.func134, Tryz.ntmps134
 go_wp2_with fail
 go_wp2_with fail
 replace HF := Lib.hid HF.out.drew
 refine wp_only ?_
 refine start_ (n := 11) (S := (fun w' => True ∧ w'.cell? (⟨b4, 0, none⟩) = some (.pointer (some ⟨g, 0, none⟩)) ∧ w'.cell? (⟨b5, 0, none⟩) = some (.int .i64 18))) (ds := [10]) #[false, false, false, false, false, false, false, false, false, false, false] (by kernel_rfl) rfl rfl ?_ (fun hHeld => ?_)
 ·exact ⟨trivial, (blk_cell HF.out.b3 0).trans rfl, (blk_cell HF.out.b2 0).trans rfl⟩
 refine pq 7 #[false, false, false, false, false, false, false, true, false, false, false] (h := ?_)
 refine tq hHeld 0 #[true, false, false, false, false, false, false, true, false, false, false] (h := ?_)
 refine pq 1 #[true, true, false, false, false, false, false, true, false, false, false] (h := ?_)
 refine pq 2 #[true, true, true, false, false, false, false, true, false, false, false] (h := ?_)
 refine tq hHeld 8 #[true, true, true, false, false, false, false, true, true, false, false] (h := ?_)
 refine one_ (i := 3) (N := some 5) #[true, true, true, true, false, false, false, true, true, false, false] rfl rfl (by kernel_rfl) (by decide) (fun K hK => ?_)
 clear hHeld
 refine sz_map (N := 5) HF rfl rfl (by unfold execOp; first | (go_simp; done) | (go_simp; rfl)) ?_
 clear HF
 intro bm w297 HF
 refine hK.out _ _ (⟨trivial, (blk_cell HF.out.b4 0).trans rfl, (blk_cell HF.out.b3 0).trans rfl⟩) (fun hHeld => ?_)
 clear hK K
 (try simp only [Act.put, List.setIfInBounds_toArray, List.set_cons_zero, List.set_cons_succ])
 refine two_ (i := 4) (j := 5) (Ni := none) (Nj := none) #[true, true, true, true, true, false, false, true, true, false, false] #[true, true, true, true, false, true, false, true, true, false, false] rfl rfl rfl rfl (by kernel_rfl) (by decide) (by decide) (fun K hK => ?_) (fun K hK => ?_)
 ·clear hHeld
  refine sz_ins (.int .i64 18) (.string ⟨#[97, 108, 108, 32]⟩) HF rfl rfl rfl Tryz.underlying111 Tryz.underlying3 rfl rfl rfl (by first | rfl | simp [MapKept.IsKey]) rfl ?_
  clear HF
  intro w298 HF
  refine hK.out _ _ (⟨trivial, (blk_cell HF.out.b4 0).trans rfl, (blk_cell HF.out.b3 0).trans rfl⟩) (fun hHeld => ?_)
  clear hK K
  (try simp only [Act.put, List.setIfInBounds_toArray, List.set_cons_zero, List.set_cons_succ])
  refine one_ (i := 5) (N := none) #[true, true, true, true, true, true, false, true, true, false, false] rfl rfl (by kernel_rfl) (by decide) (fun K hK => ?_)
  clear hHeld
  refine sz_ins (.int .i64 19) (.string ⟨#[101, 120, 32]⟩) HF rfl rfl rfl Tryz.underlying111 Tryz.underlying3 rfl rfl rfl (by first | rfl | simp [MapKept.IsKey]) rfl ?_
  clear HF
  intro w299 HF
  refine hK.out _ _ (⟨trivial, (blk_cell HF.out.b4 0).trans rfl, (blk_cell HF.out.b3 0).trans rfl⟩) (fun hHeld => ?_)
  clear hK K
  (try simp only [Act.put, List.setIfInBounds_toArray, List.set_cons_zero, List.set_cons_succ])
  refine pq 6 (fl 11 9) (h := ?_)
  refine one_ (i := 9) (N := some 9) #[true, true, true, true, true, true, true, true, true, true, false] rfl rfl (by kernel_rfl) (by decide) (fun K hK => ?_)
  clear hHeld
  refine sz_look (N := 9) (kv := .int .i64 18) (u := .string ⟨#[97, 108, 108, 32]⟩) HF rfl rfl rfl Tryz.underlying111 Tryz.underlying3 rfl rfl (by first | rfl | simp [MapKept.IsKey]) (Tryz.zeroValue9 _) rfl rfl ?_
  refine hK.out _ _ (⟨trivial, (blk_cell HF.out.b4 0).trans rfl, (blk_cell HF.out.b3 0).trans rfl⟩) (fun hHeld => ?_)
  clear hK K
  (try simp only [Act.put, List.setIfInBounds_toArray, List.set_cons_zero, List.set_cons_succ])
  refine last_ (i := 10) (N := some 10) #[true, true, true, true, true, true, true, true, true, true, true] rfl rfl (by kernel_rfl) (by decide) (fun K hK => ?_)
  go_simp
  replace HF := Lib.hid HF.out.swap
  refine (ws_lit [97, 108, 108, 32] HF (by have := HL.out; simp at this ⊢; omega)).mono ?_
  rintro e w300 ⟨rfl, oko301, HFn⟩
  clear HF
  have HF := HFn
  clear HFn
  refine hK.out _ _ ?_
  clear hK K
  (try simp only [Act.put, List.setIfInBounds_toArray, List.set_cons_zero, List.set_cons_succ])
  refine done_ (by kernel_rfl) ⟨rfl, ?_⟩
  skip
  try simp only [Act.put, List.setIfInBounds_toArray, List.set_cons_zero, List.set_cons_succ]
  replace HF := Lib.hid HF.out.swap
  replace HF := Lib.hid HF.out.lose
  replace HF := Lib.hid HF.out.up4
  replace HF := Lib.hid HF.out.up4
  replace HF := Lib.hid HF.out.up4
  replace HF := Lib.hid HF.out.up4
  have q302 := (blk_cell HF.out.b3 0).trans rfl
  obtain ⟨q303a, q303b, q303c⟩ := rd3 HF.out.b2
  go_wp2_with fail
  refine (HH.out _ _ _ HF (by have := HL.out; simp at this ⊢; omega)).mono ?_
  rintro e w304 ⟨rfl, oko305, HFn⟩
  clear HF; clear q302 q303a q303b q303c
  have HF := HFn
  clear HFn
  go_wp2_with fail
  go_end0
  exact ⟨rfl, _, by simpa only [List.append_assoc, List.cons_append, List.nil_append] using HF⟩
 ·clear hHeld
  refine sz_ins (.int .i64 19) (.string ⟨#[101, 120, 32]⟩) HF rfl rfl rfl Tryz.underlying111 Tryz.underlying3 rfl rfl rfl (by first | rfl | simp [MapKept.IsKey]) rfl ?_
  clear HF
  intro w306 HF
  refine hK.out _ _ (⟨trivial, (blk_cell HF.out.b4 0).trans rfl, (blk_cell HF.out.b3 0).trans rfl⟩) (fun hHeld => ?_)
  clear hK K
  (try simp only [Act.put, List.setIfInBounds_toArray, List.set_cons_zero, List.set_cons_succ])
  refine one_ (i := 4) (N := none) #[true, true, true, true, true, true, false, true, true, false, false] rfl rfl (by kernel_rfl) (by decide) (fun K hK => ?_)
  clear hHeld
  refine sz_ins (.int .i64 18) (.string ⟨#[97, 108, 108, 32]⟩) HF rfl rfl rfl Tryz.underlying111 Tryz.underlying3 rfl rfl rfl (by first | rfl | simp [MapKept.IsKey]) rfl ?_
  clear HF
  intro w307 HF
  refine hK.out _ _ (⟨trivial, (blk_cell HF.out.b4 0).trans rfl, (blk_cell HF.out.b3 0).trans rfl⟩) (fun hHeld => ?_)
  clear hK K
  (try simp only [Act.put, List.setIfInBounds_toArray, List.set_cons_zero, List.set_cons_succ])
  refine pq 6 (fl 11 9) (h := ?_)
  refine one_ (i := 9) (N := some 9) #[true, true, true, true, true, true, true, true, true, true, false] rfl rfl (by kernel_rfl) (by decide) (fun K hK => ?_)
  clear hHeld
  refine sz_look (N := 9) (kv := .int .i64 18) (u := .string ⟨#[97, 108, 108, 32]⟩) HF rfl rfl rfl Tryz.underlying111 Tryz.underlying3 rfl rfl (by first | rfl | simp [MapKept.IsKey]) (Tryz.zeroValue9 _) rfl rfl ?_
  refine hK.out _ _ (⟨trivial, (blk_cell HF.out.b4 0).trans rfl, (blk_cell HF.out.b3 0).trans rfl⟩) (fun hHeld => ?_)
  clear hK K
  (try simp only [Act.put, List.setIfInBounds_toArray, List.set_cons_zero, List.set_cons_succ])
  refine last_ (i := 10) (N := some 10) #[true, true, true, true, true, true, true, true, true, true, true] rfl rfl (by kernel_rfl) (by decide) (fun K hK => ?_)
  go_simp
  replace HF := Lib.hid HF.out.swap
  refine (ws_lit [97, 108, 108, 32] HF (by have := HL.out; simp at this ⊢; omega)).mono ?_
  rintro e w308 ⟨rfl, oko309, HFn⟩
  clear HF
  have HF := HFn
  clear HFn
  refine hK.out _ _ ?_
  clear hK K
  (try simp only [Act.put, List.setIfInBounds_toArray, List.set_cons_zero, List.set_cons_succ])
  refine done_ (by kernel_rfl) ⟨rfl, ?_⟩
  skip
  try simp only [Act.put, List.setIfInBounds_toArray, List.set_cons_zero, List.set_cons_succ]
  replace HF := Lib.hid HF.out.swap
  replace HF := Lib.hid HF.out.lose
  replace HF := Lib.hid HF.out.up4
  replace HF := Lib.hid HF.out.up4
  replace HF := Lib.hid HF.out.up4
  replace HF := Lib.hid HF.out.up4
  have q310 := (blk_cell HF.out.b3 0).trans rfl
  obtain ⟨q311a, q311b, q311c⟩ := rd3 HF.out.b2
  go_wp2_with fail
  refine (HH.out _ _ _ HF (by have := HL.out; simp at this ⊢; omega)).mono ?_
  rintro e w312 ⟨rfl, oko313, HFn⟩
  clear HF; clear q310 q311a q311b q311c
  have HF := HFn
  clear HFn
  go_wp2_with fail
  go_end0
  exact ⟨rfl, _, by simpa only [List.append_assoc, List.cons_append, List.nil_append] using HF⟩
set_option maxRecDepth 100000 in
set_option maxHeartbeats 8000000 in
theorem form2_writes19 (s : ByteArray) (l : List Tree) (v : Array Value) (A : Option Addr) (c : Nat) (w : World) (ts : List Th) (g b4 b5 b8 : Nat) (t : List UInt8)
  (h : Writes 130 #[.pointer (some ⟨g, 0, none⟩), .agg (tN ⟨19, s, l⟩ A c), .func (.func 135) #[] #[.pointer (some ⟨b4, 0, none⟩)]] w (vT b8 129 v :: vT b5 25 (tN ⟨19, s, l⟩ A c) :: vT b4 100 #[.pointer (some ⟨g, 0, none⟩)] :: ts) g t) :
  Writes 134 #[.pointer (some ⟨b4, 0, none⟩), .pointer (some ⟨b5, 0, none⟩)] w (vT b8 129 v :: vT b5 25 (tN ⟨19, s, l⟩ A c) :: vT b4 100 #[.pointer (some ⟨g, 0, none⟩)] :: ts) g ([101, 120, 32] ++ t) := by
 intro W ok bs HF hlen
 have HL := Lib.hid hlen
 have HH := Lib.hid h
 clear hlen h
 go_enter Tryz.func134, Tryz.ntmps134
 go_wp2_with fail
 go_wp2_with fail
 replace HF := Lib.hid HF.out.drew
 refine wp_only ?_
 refine start_ (n := 11) (S := (fun w' => True ∧ w'.cell? (⟨b4, 0, none⟩) = some (.pointer (some ⟨g, 0, none⟩)) ∧ w'.cell? (⟨b5, 0, none⟩) = some (.int .i64 19))) (ds := [10]) #[false, false, false, false, false, false, false, false, false, false, false] (by kernel_rfl) rfl rfl ?_ (fun hHeld => ?_)
 ·exact ⟨trivial, (blk_cell HF.out.b3 0).trans rfl, (blk_cell HF.out.b2 0).trans rfl⟩
 refine pq 7 #[false, false, false, false, false, false, false, true, false, false, false] (h := ?_)
 refine tq hHeld 0 #[true, false, false, false, false, false, false, true, false, false, false] (h := ?_)
 refine pq 1 #[true, true, false, false, false, false, false, true, false, false, false] (h := ?_)
 refine pq 2 #[true, true, true, false, false, false, false, true, false, false, false] (h := ?_)
 refine tq hHeld 8 #[true, true, true, false, false, false, false, true, true, false, false] (h := ?_)
 refine one_ (i := 3) (N := some 5) #[true, true, true, true, false, false, false, true, true, false, false] rfl rfl (by kernel_rfl) (by decide) (fun K hK => ?_)
 clear hHeld
 refine sz_map (N := 5) HF rfl rfl (by unfold execOp; first | (go_simp; done) | (go_simp; rfl)) ?_
 clear HF
 intro bm w314 HF
 refine hK.out _ _ (⟨trivial, (blk_cell HF.out.b4 0).trans rfl, (blk_cell HF.out.b3 0).trans rfl⟩) (fun hHeld => ?_)
 clear hK K
 (try simp only [Act.put, List.setIfInBounds_toArray, List.set_cons_zero, List.set_cons_succ])
 refine two_ (i := 4) (j := 5) (Ni := none) (Nj := none) #[true, true, true, true, true, false, false, true, true, false, false] #[true, true, true, true, false, true, false, true, true, false, false] rfl rfl rfl rfl (by kernel_rfl) (by decide) (by decide) (fun K hK => ?_) (fun K hK => ?_)
 ·clear hHeld
  refine sz_ins (.int .i64 18) (.string ⟨#[97, 108, 108, 32]⟩) HF rfl rfl rfl Tryz.underlying111 Tryz.underlying3 rfl rfl rfl (by first | rfl | simp [MapKept.IsKey]) rfl ?_
  clear HF
  intro w315 HF
  refine hK.out _ _ (⟨trivial, (blk_cell HF.out.b4 0).trans rfl, (blk_cell HF.out.b3 0).trans rfl⟩) (fun hHeld => ?_)
  clear hK K
  (try simp only [Act.put, List.setIfInBounds_toArray, List.set_cons_zero, List.set_cons_succ])
  refine one_ (i := 5) (N := none) #[true, true, true, true, true, true, false, true, true, false, false] rfl rfl (by kernel_rfl) (by decide) (fun K hK => ?_)
  clear hHeld
  refine sz_ins (.int .i64 19) (.string ⟨#[101, 120, 32]⟩) HF rfl rfl rfl Tryz.underlying111 Tryz.underlying3 rfl rfl rfl (by first | rfl | simp [MapKept.IsKey]) rfl ?_
  clear HF
  intro w316 HF
  refine hK.out _ _ (⟨trivial, (blk_cell HF.out.b4 0).trans rfl, (blk_cell HF.out.b3 0).trans rfl⟩) (fun hHeld => ?_)
  clear hK K
  (try simp only [Act.put, List.setIfInBounds_toArray, List.set_cons_zero, List.set_cons_succ])
  refine pq 6 (fl 11 9) (h := ?_)
  refine one_ (i := 9) (N := some 9) #[true, true, true, true, true, true, true, true, true, true, false] rfl rfl (by kernel_rfl) (by decide) (fun K hK => ?_)
  clear hHeld
  refine sz_look (N := 9) (kv := .int .i64 19) (u := .string ⟨#[101, 120, 32]⟩) HF rfl rfl rfl Tryz.underlying111 Tryz.underlying3 rfl rfl (by first | rfl | simp [MapKept.IsKey]) (Tryz.zeroValue9 _) rfl rfl ?_
  refine hK.out _ _ (⟨trivial, (blk_cell HF.out.b4 0).trans rfl, (blk_cell HF.out.b3 0).trans rfl⟩) (fun hHeld => ?_)
  clear hK K
  (try simp only [Act.put, List.setIfInBounds_toArray, List.set_cons_zero, List.set_cons_succ])
  refine last_ (i := 10) (N := some 10) #[true, true, true, true, true, true, true, true, true, true, true] rfl rfl (by kernel_rfl) (by decide) (fun K hK => ?_)
  go_simp
  replace HF := Lib.hid HF.out.swap
  refine (ws_lit [101, 120, 32] HF (by have := HL.out; simp at this ⊢; omega)).mono ?_
  rintro e w317 ⟨rfl, oko318, HFn⟩
  clear HF
  have HF := HFn
  clear HFn
  refine hK.out _ _ ?_
  clear hK K
  (try simp only [Act.put, List.setIfInBounds_toArray, List.set_cons_zero, List.set_cons_succ])
  refine done_ (by kernel_rfl) ⟨rfl, ?_⟩
  skip
  try simp only [Act.put, List.setIfInBounds_toArray, List.set_cons_zero, List.set_cons_succ]
  replace HF := Lib.hid HF.out.swap
  replace HF := Lib.hid HF.out.lose
  replace HF := Lib.hid HF.out.up4
  replace HF := Lib.hid HF.out.up4
  replace HF := Lib.hid HF.out.up4
  replace HF := Lib.hid HF.out.up4
  have q319 := (blk_cell HF.out.b3 0).trans rfl
  obtain ⟨q320a, q320b, q320c⟩ := rd3 HF.out.b2
  go_wp2_with fail
  refine (HH.out _ _ _ HF (by have := HL.out; simp at this ⊢; omega)).mono ?_
  rintro e w321 ⟨rfl, oko322, HFn⟩
  clear HF; clear q319 q320a q320b q320c
  have HF := HFn
  clear HFn
  go_wp2_with fail
  go_end0
  exact ⟨rfl, _, by simpa only [List.append_assoc, List.cons_append, List.nil_append] using HF⟩
 ·clear hHeld
  refine sz_ins (.int .i64 19) (.string ⟨#[101, 120, 32]⟩) HF rfl rfl rfl Tryz.underlying111 Tryz.underlying3 rfl rfl rfl (by first | rfl | simp [MapKept.IsKey]) rfl ?_
  clear HF
  intro w323 HF
  refine hK.out _ _ (⟨trivial, (blk_cell HF.out.b4 0).trans rfl, (blk_cell HF.out.b3 0).trans rfl⟩) (fun hHeld => ?_)
  clear hK K
  (try simp only [Act.put, List.setIfInBounds_toArray, List.set_cons_zero, List.set_cons_succ])
  refine one_ (i := 4) (N := none) #[true, true, true, true, true, true, false, true, true, false, false] rfl rfl (by kernel_rfl) (by decide) (fun K hK => ?_)
  clear hHeld
  refine sz_ins (.int .i64 18) (.string ⟨#[97, 108, 108, 32]⟩) HF rfl rfl rfl Tryz.underlying111 Tryz.underlying3 rfl rfl rfl (by first | rfl | simp [MapKept.IsKey]) rfl ?_
  clear HF
  intro w324 HF
  refine hK.out _ _ (⟨trivial, (blk_cell HF.out.b4 0).trans rfl, (blk_cell HF.out.b3 0).trans rfl⟩) (fun hHeld => ?_)
  clear hK K
  (try simp only [Act.put, List.setIfInBounds_toArray, List.set_cons_zero, List.set_cons_succ])
  refine pq 6 (fl 11 9) (h := ?_)
  refine one_ (i := 9) (N := some 9) #[true, true, true, true, true, true, true, true, true, true, false] rfl rfl (by kernel_rfl) (by decide) (fun K hK => ?_)
  clear hHeld
  refine sz_look (N := 9) (kv := .int .i64 19) (u := .string ⟨#[101, 120, 32]⟩) HF rfl rfl rfl Tryz.underlying111 Tryz.underlying3 rfl rfl (by first | rfl | simp [MapKept.IsKey]) (Tryz.zeroValue9 _) rfl rfl ?_
  refine hK.out _ _ (⟨trivial, (blk_cell HF.out.b4 0).trans rfl, (blk_cell HF.out.b3 0).trans rfl⟩) (fun hHeld => ?_)
  clear hK K
  (try simp only [Act.put, List.setIfInBounds_toArray, List.set_cons_zero, List.set_cons_succ])
  refine last_ (i := 10) (N := some 10) #[true, true, true, true, true, true, true, true, true, true, true] rfl rfl (by kernel_rfl) (by decide) (fun K hK => ?_)
  go_simp
  replace HF := Lib.hid HF.out.swap
  refine (ws_lit [101, 120, 32] HF (by have := HL.out; simp at this ⊢; omega)).mono ?_
  rintro e w325 ⟨rfl, oko326, HFn⟩
  clear HF
  have HF := HFn
  clear HFn
  refine hK.out _ _ ?_
  clear hK K
  (try simp only [Act.put, List.setIfInBounds_toArray, List.set_cons_zero, List.set_cons_succ])
  refine done_ (by kernel_rfl) ⟨rfl, ?_⟩
  skip
  try simp only [Act.put, List.setIfInBounds_toArray, List.set_cons_zero, List.set_cons_succ]
  replace HF := Lib.hid HF.out.swap
  replace HF := Lib.hid HF.out.lose
  replace HF := Lib.hid HF.out.up4
  replace HF := Lib.hid HF.out.up4
  replace HF := Lib.hid HF.out.up4
  replace HF := Lib.hid HF.out.up4
  have q327 := (blk_cell HF.out.b3 0).trans rfl
  obtain ⟨q328a, q328b, q328c⟩ := rd3 HF.out.b2
  go_wp2_with fail
  refine (HH.out _ _ _ HF (by have := HL.out; simp at this ⊢; omega)).mono ?_
  rintro e w329 ⟨rfl, oko330, HFn⟩
  clear HF; clear q327 q328a q328b q328c
  have HF := HFn
  clear HFn
  go_wp2_with fail
  go_end0
  exact ⟨rfl, _, by simpa only [List.append_assoc, List.cons_append, List.nil_append] using HF⟩
end Go.Proofs.YtbndfgoklgdfdaaGreatDoor.P
end
section
set_option linter.unusedSimpArgs false
namespace Go.Proofs.YtbndfgoklgdfdaaGreatDoor.P
open Go.RowKit Go.Proofs.YtbndfgoklgdfdaaGreatDoorW.PrintWords Go.Proofs.YtbndfgoklgdfdaaGreatDoorW.PrintLast Go.Proofs.YtbndfgoklgdfdaaGreatDoorW.PrintMore

theorem op_facts {k : Int} {o : List UInt8 × Int × Int} (h : findP k = some o) : 0 ≤ o.2.2 ∧ o.2.2 ≤ 4 ∧ o.1.length ≤ 2 ∧ sizeF k = 2 ∧ k ≠ 15 ∧ ¬ (k = 18 ∨ k = 19) := by
 have h1 := List.mem_of_find?_eq_some h
 have h2 := List.find?_some h
 simp only [beq_iff_eq] at h2
 subst h2
 simp only [opsL, List.mem_cons, List.not_mem_nil, or_false] at h1
 rcases h1 with rfl | rfl | rfl | rfl | rfl | rfl | rfl <;> simp [sizeF]
theorem two_of {l : List Tree} (h : l.length = 2) : ∃ a b, l = [a, b] := by
 rcases l with _ | ⟨a, _ | ⟨b, _ | ⟨z, l⟩⟩⟩ <;> simp at h
 exact ⟨a, b, rfl⟩
theorem form_body {k : Int} {s : ByteArray} {l : List Tree} (hk : k = 18 ∨ k = 19) (h : isFormT ⟨k, s, l⟩ = true) : (∃ y, l = [y] ∧ isFormT y = true) ∨ ∃ t y, l = [t, y] ∧ isTypeT t = true ∧ isFormT y = true := by
 rw [isFormT_eq] at h
 refine binds_kids (k := k) (s := s) ?_
 rcases hk with rfl | rfl <;> simpa using h
theorem form_op_kids {k : Int} {s : ByteArray} {l : List Tree} (h1 : k ≠ 15) (h2 : ¬ (k = 18 ∨ k = 19)) (h : isFormT ⟨k, s, l⟩ = true) : (l.length : Int) = sizeF k ∧ ∀ y ∈ l, isFormT y = true := by
 rw [isFormT_eq, if_neg h1, if_neg h2] at h
 simp only [Bool.and_eq_true, beq_iff_eq, List.all_eq_true] at h
 exact ⟨h.2.1, h.2.2⟩
theorem quant_writes (n : Nat) (IH : ∀ x : Tree, SizeOf.sizeOf x < n → isFormT x = true → FormW x) (k : Int) (hk : k = 18 ∨ k = 19) (s : ByteArray) (l : List Tree) (hn : ∀ y ∈ l, SizeOf.sizeOf y < n) (ht : isFormT ⟨k, s, l⟩ = true) (w : World) (ts : List Th) (g : Nat) (A : Option Addr) (c : Nat) (hg : GOK w)
  (hc : l.length ≤ c) (hC : Kd.C k25 w A l.length l) (b4 b5 b8 : Nat) (v : Array Value) :
  Writes 130 #[.pointer (some ⟨g, 0, none⟩), .agg (tN ⟨k, s, l⟩ A c), .func (.func 135) #[] #[.pointer (some ⟨b4, 0, none⟩)]] w (vT b8 129 v :: vT b5 25 (tN ⟨k, s, l⟩ A c) :: vT b4 100 #[.pointer (some ⟨g, 0, none⟩)] :: ts) g (binderS s l (formE l)) := by
 have hE : Enters Tryz.prog 135 := enters_of Tryz.func135 (by kernel_rfl) rfl
 rcases form_body hk ht with ⟨y, rfl, hy⟩ | ⟨t, y, rfl, hty, hy⟩
 ·have hY := IH y (hn y (by simp)) hy
  have he : formE [y] = formS y 0 true := by simp [formE]
  rw [he]
  exact binder1_writes _ hE #[] #[.pointer (some ⟨b4, 0, none⟩)] k s y (formS y 0 true) w _ g A c hc hC (fun bb A2 c2 h1 h2 => form21_writes k s [y] y _ _ A A2 c c2 w ts g b4 b5 b8 bb _ (fun b9 => hY 0 true (by omega) (by omega) w _ g A2 c2 hg h1 h2))
 ·have hY := IH y (hn y (by simp)) hy
  have he : formE [t, y] = formS y 0 true := by simp [formE]
  rw [he]
  exact binder2_writes _ hE #[] #[.pointer (some ⟨b4, 0, none⟩)] k s t y hty (formS y 0 true) w _ g A c hc hC (fun bb A2 c2 h1 h2 => form21_writes k s [t, y] y _ _ A A2 c c2 w ts g b4 b5 b8 bb _ (fun b9 => hY 0 true (by omega) (by omega) w _ g A2 c2 hg h1 h2))
theorem form_writes : ∀ (n : Nat) (x : Tree), SizeOf.sizeOf x < n → isFormT x = true → FormW x
 | 0, x, h, _ => absurd h (Nat.not_lt_zero _)
 | n + 1, ⟨k, s, l⟩, hn, ht => by
  have hk : ∀ y ∈ l, SizeOf.sizeOf y < n := fun y hy => by have := kid_lt (x := ⟨k, s, l⟩) hy; omega
  intro lv last h0 h5 w ts g A c hg hc hC
  cases hfo : findP k with
  | some o =>
   obtain ⟨o0, o4, o2, hsz, n15, n18⟩ := op_facts hfo
   obtain ⟨hl, hall⟩ := form_op_kids n15 n18 ht
   rw [hsz] at hl
   obtain ⟨a, b, rfl⟩ := two_of (l := l) (by omega)
   have hA := form_writes n a (hk a (by simp)) (hall a (by simp))
   have hB := form_writes n b (hk b (by simp)) (hall b (by simp))
   have body : ∀ (lv : Int) (last : Bool), ¬ o.2.2 < lv → ∀ ts, Writes 98 #[.pointer (some ⟨g, 0, none⟩), .agg (tN ⟨k, s, [a, b]⟩ A c), .int .i64 lv, .bool last] w ts g (formS a (leftL o.2.2) false ++ ((([32] ++ o.1) ++ [32]) ++ formS b (rightL o.2.2) last)) := by
    intro lv last hlv ts
    by_cases hz : o.2.2 = 0
    ·rw [show leftL o.2.2 = 0 by simp [leftL, hz], show rightL o.2.2 = 1 by simp [rightL, hz]]
     exact formop_zero k s a b o hfo hz o4 o2 hA hB lv last hlv w ts g A c hg hc hC
    ·rw [show leftL o.2.2 = o.2.2 + 1 by simp [leftL, hz], show rightL o.2.2 = o.2.2 by simp [rightL, hz]]
     exact formop_more k s a b o hfo (by omega) o4 o2 hA hB lv last hlv w ts g A c hg hc hC
   by_cases hlv : o.2.2 < lv
   ·rw [show formS ⟨k, s, [a, b]⟩ lv last = [40] ++ ((formS a (leftL o.2.2) false ++ ((([32] ++ o.1) ++ [32]) ++ formS b (rightL o.2.2) true)) ++ [41]) by simp only [formS, hfo, if_pos hlv, formA, formB]]
    exact form_paren k s [a, b] o hfo lv last hlv w ts g A c _ hg (fun ts => body 0 true (by omega) ts)
   ·rw [show formS ⟨k, s, [a, b]⟩ lv last = formS a (leftL o.2.2) false ++ ((([32] ++ o.1) ++ [32]) ++ formS b (rightL o.2.2) last) by simp only [formS, hfo, if_neg hlv, formA, formB]]
    exact body lv last hlv ts
  | none =>
   by_cases h18 : k = 18
   ·subst h18
    rw [show formS ⟨18, s, l⟩ lv last = (if (!last) = true then [40] ++ ((quantS 18 ++ binderS s l (formE l)) ++ [41]) else quantS 18 ++ binderS s l (formE l)) by simp only [formS, hfo]; simp]
    exact form_quant18 s l lv last w ts g A c _ hg (fun b4 b5 b8 v => form2_writes18 s l v A c w ts g b4 b5 b8 _ (quant_writes n (fun x h1 h2 => form_writes n x h1 h2) 18 (.inl rfl) s l hk ht w ts g A c hg hc hC b4 b5 b8 v))
   by_cases h19 : k = 19
   ·subst h19
    rw [show formS ⟨19, s, l⟩ lv last = (if (!last) = true then [40] ++ ((quantS 19 ++ binderS s l (formE l)) ++ [41]) else quantS 19 ++ binderS s l (formE l)) by simp only [formS, hfo]; simp]
    exact form_quant19 s l lv last w ts g A c _ hg (fun b4 b5 b8 v => form2_writes19 s l v A c w ts g b4 b5 b8 _ (quant_writes n (fun x h1 h2 => form_writes n x h1 h2) 19 (.inr rfl) s l hk ht w ts g A c hg hc hC b4 b5 b8 v))
   have hf : formS ⟨k, s, l⟩ lv last = if k = 20 then [111, 110, 101] else if k = 21 then [116, 111, 112] else if k = 29 then [33] ++ formA l 5 last else if k = 30 then [123] ++ (formA l 0 true ++ [125]) else termS ⟨k, s, l⟩ := by simp only [formS, hfo]; simp [h18, h19]
   rw [hf]
   by_cases h15 : k = 15
   ·subst h15
    have htm : isTermT ⟨15, s, l⟩ = true := by rw [isFormT_eq] at ht; simpa using ht
    simp only [show ((15 : Int) = 20) = False by simp, show ((15 : Int) = 21) = False by simp, show ((15 : Int) = 29) = False by simp, show ((15 : Int) = 30) = False by simp, if_false]
    exact form_atom s l lv last w ts g A c _ hg (fun ts => term_writes _ ⟨15, s, l⟩ (Nat.lt_succ_self _) htm w ts g A c hc hC)
   obtain ⟨hl, hall⟩ := form_op_kids h15 (by omega) ht
   by_cases h20 : k = 20
   ·subst h20; rw [if_pos rfl]; exact form_one s l lv last w ts g A c hg
   by_cases h21 : k = 21
   ·subst h21; rw [if_neg (by omega), if_pos rfl]; exact form_top s l lv last w ts g A c hg
   by_cases h29 : k = 29
   ·subst h29
    rw [if_neg (by omega), if_neg (by omega), if_pos rfl]
    obtain ⟨a, rfl⟩ := List.length_eq_one_iff.1 (show l.length = 1 by simp [sizeF] at hl; omega)
    exact form_bang s a lv last w ts g A c _ hg hc hC (fun w ts g A c hg h1 h2 => form_writes n a (hk a (by simp)) (hall a (by simp)) 5 last (by omega) (by omega) w ts g A c hg h1 h2)
   by_cases h30 : k = 30
   ·subst h30
    rw [if_neg (by omega), if_neg (by omega), if_neg (by omega), if_pos rfl]
    obtain ⟨a, rfl⟩ := List.length_eq_one_iff.1 (show l.length = 1 by simp [sizeF] at hl; omega)
    exact form_monad s a lv last w ts g A c _ hg hc hC (fun w ts g A c hg h1 h2 => form_writes n a (hk a (by simp)) (hall a (by simp)) 0 true (by omega) (by omega) w ts g A c hg h1 h2)
   exfalso
   have hz : sizeF k = -1 := by
    have hne : ∀ q ∈ opsL, q.2.1 ≠ k := fun q hq e => by
     have := List.find?_eq_none.1 hfo q hq
     simp [e] at this
    have a22 := hne ([42], 22, 4) (by simp [opsL])
    have a23 := hne ([38], 23, 3) (by simp [opsL])
    have a24 := hne ([43], 24, 2) (by simp [opsL])
    have a25 := hne ([45, 111], 25, 1) (by simp [opsL])
    have a26 := hne ([61, 62], 26, 1) (by simp [opsL])
    have a27 := hne ([111, 45], 27, 0) (by simp [opsL])
    have a28 := hne ([60, 61], 28, 0) (by simp [opsL])
    dsimp only at a22 a23 a24 a25 a26 a27 a28
    unfold sizeF
    rw [if_neg (by omega), if_neg (by omega), if_neg (by omega)]
   omega
end Go.Proofs.YtbndfgoklgdfdaaGreatDoor.P
end
section
set_option linter.unusedSimpArgs false
namespace Go.Proofs.YtbndfgoklgdfdaaGreatDoor.P
open Go.RowKit Go.Proofs.YtbndfgoklgdfdaaGreatDoorW.PrintWords Go.Proofs.YtbndfgoklgdfdaaGreatDoorW.PrintLast Go.Proofs.YtbndfgoklgdfdaaGreatDoorW.PrintMore
/-- Names with commas between them; a blank ahead of each. -/
def namesS : Nat → List Tree → List UInt8
 | _, [] => []
 | i, x :: l => (if i = 0 then [] else [44]) ++ (([32] ++ x.f1.data.toList) ++ namesS (i + 1) l)
theorem sp_text (s : ByteArray) : ((⟨#[32]⟩ : ByteArray) ++ s).data.toList = [32] ++ s.data.toList := by simp
theorem sp_size (s : ByteArray) : ((⟨#[32]⟩ : ByteArray) ++ s).size = 1 + s.size := by
 rw [ByteArray.size_append]; rfl
set_option maxRecDepth 100000 in
set_option maxHeartbeats 8000000 in
theorem names_writes (l : List Tree) (w : World) (ts : List Th) (g : Nat) (A : Option Addr) (c : Nat) (hC : Kd.C k25 w A l.length l) : Writes 125 #[.pointer (some ⟨g, 0, none⟩), .slice A l.length c] w ts g (namesS 0 l) := by
 intro W ok bs HF hlen
 have HL := Lib.hid hlen
 have HC := Lib.hid hC
 have hln : l.length ≤ 9223372036854775807 := hC.2.1
 clear hlen hC
 go_enter Tryz.func125, Tryz.ntmps125
 go_wp2_with fail
 go_loopw [8] (fun i wr => ∃ (k_ : Nat) (ok' : Nat → Prop) (pre : List UInt8), i = .int .i64 k_ ∧ k_ ≤ l.length ∧ Hid (pre ++ namesS k_ (l.drop k_) = namesS 0 l) ∧ Hid (Fz w wr (prT g w.heap.size ok' (bs ++ pre) :: ts))) (fun i _ => l.length - (intOf i).toNat)
 case atStart => exact ⟨0, _, [], rfl, Nat.zero_le _, Lib.hid rfl, by simpa only [List.append_nil] using HF⟩
 case round =>
  clear HF
  obtain ⟨k_, ok', pre, rfl, hk_, HP, HF⟩ := hrel
  by_cases hlt : k_ < l.length
  ·obtain ⟨a0, A2, c2, e0, p0, p1, p2, hl2, hc2⟩ := at_T25 HC.out k_ (by omega) (by omega)
   subst e0
   obtain ⟨x, hx⟩ : ∃ x, x = rd_T25 l k_ := ⟨_, rfl⟩
   have hdr := rdN_drop l k_ hlt
   rw [← hx] at p0 p1 p2 hdr
   rw [Int.toNat_natCast] at p0 p1 p2
   have hP := HP.out
   rw [hdr, namesS] at hP
   have HP2 := Lib.hid hP
   obtain ⟨cm, hcm⟩ : ∃ cm : List UInt8, cm = (if k_ = 0 then [] else [44]) := ⟨_, rfl⟩
   have HLN : Hid (bs.length + (pre.length + (cm.length + (1 + x.f1.size))) ≤ outMax) := Lib.hid (by rw [← hcm] at hP; have h1 := congrArg List.length hP; have h2 := HL.out; simp [Array.length_toList] at h1 h2 ⊢; have e_ : x.f1.data.size = x.f1.size := rfl; omega)
   have hs1_ : (9223372036854775807 < 1 + x.f1.size) = False := eq_false (by have := HLN.out; have e_ : outMax = 140737488355328 := rfl; omega)
   have KX := Lib.hid (And.intro p0 (And.intro p1 p2))
   clear hx hl2 hc2 hP hdr HP p0 p1 p2
   obtain ⟨p0, p1, p2⟩ : _ ∧ _ ∧ _ := ⟨pw_cell_below HF.out.below KX.out.1, pw_cell_below HF.out.below KX.out.2.1, pw_cell_below HF.out.below KX.out.2.2⟩
   have HCM := Lib.hid hcm
   clear hcm
   by_cases hk0 : k_ = 0
   ·subst hk0
    obtain rfl : cm = [] := HCM.out
    simp only [Nat.zero_mul, addr_add0] at p0 p1 p2
    go_wp2_with (first
     | ((with_reducible refine gate_dst (N := 5) rfl ?_); refine ez_box (t := 25) (cs := zN) HF rfl rfl (run_node rfl) ?_; clear HF; clear p0 p1 p2; intro b5 w331 HF)
     | ((with_reducible refine gate_store (t := 25) (p := 5) rfl ?_); refine ez_put (p := 5) HF rfl rfl rfl rfl rfl rfl rfl ?_; clear HF; intro w332 HF))
    go_wp2_with fail
    go_wp2_with fail
    replace HF := Lib.hid HF.out.drew
    refine wp_only ?_
    refine start_ (n := 7) (S := (fun w' => True ∧ w'.cell? (⟨b5, 1, none⟩) = some (.string x.f1))) (ds := [6]) #[false, false, false, false, false, false, false] (by kernel_rfl) rfl rfl ?_ (fun hHeld => ?_)
    ·exact ⟨trivial, (blk_cell HF.out.b0 1).trans rfl⟩
    refine pq 0 (fl 7 1) (h := ?_)
    refine pq 1 (fl 7 2) (h := ?_)
    refine pq 2 (fl 7 3) (h := ?_)
    refine pq 3 (fl 7 4) (h := ?_)
    refine tq hHeld 4 (fl 7 5) (h := ?_)
    refine pq 5 (fl 7 6) (h := ?_)
    refine last_ (i := 6) (N := some 25) #[true, true, true, true, true, true, true] rfl rfl (by kernel_rfl) (by decide) (fun K hK => ?_)
    go_simp
    replace HF := Lib.hid HF.out.swap
    refine (ws_on _ _ _ _ _ _ _ HF (by have := HLN.out; have e_ : outMax = 140737488355328 := rfl; (try rw [sp_size]); simp [Array.length_toList] at this ⊢; omega)).mono ?_
    rintro e w333 ⟨rfl, oko334, HFn⟩
    clear HF
    have HF := HFn
    clear HFn
    rw [sp_text] at HF
    refine hK.out _ _ ?_
    clear hK K
    (try simp only [Act.put, List.setIfInBounds_toArray, List.set_cons_zero, List.set_cons_succ])
    refine done_ (by kernel_rfl) ⟨rfl, ?_⟩
    skip
    try simp only [Act.put, List.setIfInBounds_toArray, List.set_cons_zero, List.set_cons_succ]
    go_wp2_with fail
    replace HF := Lib.hid HF.out.swap
    replace HF := Lib.hid HF.out.lose
    exact ⟨⟨0 + 1, _, pre ++ ([] ++ ([32] ++ x.f1.data.toList)), by go_num, by omega, Lib.hid (by have := HP2.out; simp only [if_true] at this; simpa only [List.append_assoc, List.nil_append, List.cons_append] using this), by simpa only [List.append_assoc, List.nil_append, List.cons_append] using HF⟩, by simp [intOf]; omega⟩
   ·have hg0_ : (0 < k_) = True := eq_true (by omega)
    obtain rfl : cm = [44] := by rw [HCM.out, if_neg hk0]
    go_wp2_with (first
     | ((with_reducible refine gate_dst (N := 5) rfl ?_); refine ez_box (t := 25) (cs := zN) HF rfl rfl (run_node rfl) ?_; clear HF; clear p0 p1 p2; intro b5 w335 HF)
     | ((with_reducible refine gate_store (t := 25) (p := 5) rfl ?_); refine ez_put (p := 5) HF rfl rfl rfl rfl rfl rfl rfl ?_; clear HF; intro w336 HF))
    replace HF := Lib.hid HF.out.swap
    refine (ws_lit [44] HF (by have := HLN.out; have e_ : outMax = 140737488355328 := rfl; (try rw [sp_size]); simp [Array.length_toList] at this ⊢; omega)).mono ?_
    rintro e w337 ⟨rfl, oko338, HFn⟩
    clear HF
    have HF := HFn
    clear HFn
    go_wp2_with fail
    go_wp2_with fail
    replace HF := Lib.hid HF.out.drew
    refine wp_only ?_
    refine start_ (n := 7) (S := (fun w' => True ∧ w'.cell? (⟨b5, 1, none⟩) = some (.string x.f1))) (ds := [6]) #[false, false, false, false, false, false, false] (by kernel_rfl) rfl rfl ?_ (fun hHeld => ?_)
    ·exact ⟨trivial, (blk_cell HF.out.b1 1).trans rfl⟩
    refine pq 0 (fl 7 1) (h := ?_)
    refine pq 1 (fl 7 2) (h := ?_)
    refine pq 2 (fl 7 3) (h := ?_)
    refine pq 3 (fl 7 4) (h := ?_)
    refine tq hHeld 4 (fl 7 5) (h := ?_)
    refine pq 5 (fl 7 6) (h := ?_)
    refine last_ (i := 6) (N := some 25) #[true, true, true, true, true, true, true] rfl rfl (by kernel_rfl) (by decide) (fun K hK => ?_)
    go_simp
    refine (ws_on _ _ _ _ _ _ _ HF (by have := HLN.out; have e_ : outMax = 140737488355328 := rfl; (try rw [sp_size]); simp [Array.length_toList] at this ⊢; omega)).mono ?_
    rintro e w339 ⟨rfl, oko340, HFn⟩
    clear HF
    have HF := HFn
    clear HFn
    rw [sp_text] at HF
    refine hK.out _ _ ?_
    clear hK K
    (try simp only [Act.put, List.setIfInBounds_toArray, List.set_cons_zero, List.set_cons_succ])
    refine done_ (by kernel_rfl) ⟨rfl, ?_⟩
    skip
    try simp only [Act.put, List.setIfInBounds_toArray, List.set_cons_zero, List.set_cons_succ]
    go_wp2_with fail
    replace HF := Lib.hid HF.out.swap
    replace HF := Lib.hid HF.out.lose
    exact ⟨⟨k_ + 1, _, pre ++ ([44] ++ ([32] ++ x.f1.data.toList)), by go_num, by omega, Lib.hid (by have := HP2.out; rw [if_neg hk0] at this; simpa only [List.append_assoc, List.nil_append, List.cons_append] using this), by simpa only [List.append_assoc, List.nil_append, List.cons_append] using HF⟩, by simp [intOf]; omega⟩
  ·have hke_ : k_ = l.length := by omega
   go_wp2_with fail
   go_wp2_with fail
   go_end0
   have hP := HP.out
   rw [List.drop_of_length_le (by omega), namesS, List.append_nil] at hP
   rw [← hP]
   exact ⟨rfl, _, HF⟩
end Go.Proofs.YtbndfgoklgdfdaaGreatDoor.P
end
