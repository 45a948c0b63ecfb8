/- syntax's printer: types (printed by mkpr.py). syntax's printer: the names that occur free (printed by mkocc.py). visit, whole (printed by mkocc.py). syntax.occurrences: the iterator, over whatever rounds keep their word. What a range over the names that occur free turns: the loop's record, a list of names in a variable. syntax's tests on trees: formulas (printed by mkchk2.py). -/
import Derived.Test.YtbndfgoklgdfdaaGreatDoorSe09
set_option linter.all false
section
set_option linter.unusedSimpArgs false
namespace Go.Proofs.YtbndfgoklgdfdaaGreatDoor.P
open Go.RowKit Go.Proofs.YtbndfgoklgdfdaaGreatDoorW.PrintWords Go.Proofs.YtbndfgoklgdfdaaGreatDoorW.PrintLast Go.Proofs.YtbndfgoklgdfdaaGreatDoorW.PrintMore
section
variable {o : Oper} {a : Act} {W : World}
theorem run_pr {g : Nat} {v : Operand} (ho : o.op = .box 100 v) (hv : a.eval v = .pointer (some ⟨g, 0, none⟩)) : (execOp a.eval o).run Tryz.prog W = .ok (.value (.pointer (some ⟨W.heap.size, 0, none⟩))) (W.alloc (.cells #[.pointer (some ⟨g, 0, none⟩)] 100 (0, 0))) := by
 unfold execOp
 rw [ho]
 simp only [hv]
 first | (go_simp; done) | (go_simp; rfl)
theorem run_tree {x : Tree} {A : Option Addr} {c : Nat} {v : Operand} (ho : o.op = .box 25 v) (hv : a.eval v = .agg (tN x A c)) : (execOp a.eval o).run Tryz.prog W = .ok (.value (.pointer (some ⟨W.heap.size, 0, none⟩))) (W.alloc (.cells (tN x A c) 25 (0, 0))) := by
 unfold execOp
 rw [ho]
 simp only [hv]
 first | (go_simp; done) | (go_simp; rfl)
end
mutual
def typeS : Tree → List UInt8
 | ⟨k, s, l⟩ => if k = 31 then typeS2 l else s.data.toList
def typeS2 : List Tree → List UInt8
 | [] => []
 | a :: l => (if a.f0 = 31 then [40] ++ (typeS a ++ [41]) else typeS a) ++ typeS3 l
def typeS3 : List Tree → List UInt8
 | [] => []
 | b :: _ => [32, 45, 62, 32] ++ typeS b
end
set_option maxRecDepth 100000 in
set_option maxHeartbeats 8000000 in
theorem typ1_writes (k : Int) (s : ByteArray) (a b : Tree) (a0 : Addr) (c : Nat) (AA : Option Addr) (cA : Nat) (w : World) (ts : List Th) (g b2 b3 : Nat) (t : List UInt8)
  (kA : w.cell? a0 = some (.int .i64 a.f0) ∧ w.cell? ⟨a0.block, a0.off + 1, none⟩ = some (.string a.f1) ∧ w.cell? ⟨a0.block, a0.off + 2, none⟩ = some (.slice AA a.f2.length cA))
  (h : Writes 95 #[.pointer (some ⟨g, 0, none⟩), .agg (tN a AA cA)] w (vT b3 25 (tN ⟨k, s, [a, b]⟩ (some a0) c) :: vT b2 100 #[.pointer (some ⟨g, 0, none⟩)] :: ts) g t) :
  Writes 129 #[.pointer (some ⟨b2, 0, none⟩), .pointer (some ⟨b3, 0, none⟩)] w (vT b3 25 (tN ⟨k, s, [a, b]⟩ (some a0) c) :: vT b2 100 #[.pointer (some ⟨g, 0, none⟩)] :: ts) g t := by
 intro W ok bs HF hlen
 have HL := Lib.hid hlen
 have KA := Lib.hid kA
 have HH := Lib.hid h
 clear hlen kA h
 go_enter Tryz.func129, Tryz.ntmps129
 go_wp2_with fail
 go_wp2_with fail
 replace HF := Lib.hid HF.out.drew
 refine wp_only ?_
 refine start_ (n := 6) (S := (fun w' => True ∧ w'.cell? (⟨b2, 0, none⟩) = some (.pointer (some ⟨g, 0, none⟩)) ∧ w'.cell? (⟨b3, 2, none⟩) = some (.slice (some a0) 2 c) ∧ w'.cell? (a0) = some (.int .i64 a.f0) ∧ w'.cell? (⟨a0.block, a0.off + 1, none⟩) = some (.string a.f1) ∧ w'.cell? (⟨a0.block, a0.off + 2, none⟩) = some (.slice AA a.f2.length cA))) (ds := [5]) #[false, false, false, false, false, false] (by kernel_rfl) rfl rfl ?_ (fun hHeld => ?_)
 ·exact ⟨trivial, (blk_cell HF.out.b2 0).trans rfl, (blk_cell HF.out.b1 2).trans rfl, pw_cell_below HF.out.below KA.out.1, pw_cell_below HF.out.below KA.out.2.1, pw_cell_below HF.out.below KA.out.2.2⟩
 refine pq 1 #[false, true, false, false, false, false] (h := ?_)
 refine tq hHeld 0 (fl 6 2) (h := ?_)
 refine tq hHeld 2 (fl 6 3) (h := ?_)
 refine pq 3 (fl 6 4) (h := ?_)
 refine tq hHeld 4 (fl 6 5) (h := ?_)
 refine last_ (i := 5) (N := some 7) #[true, true, true, true, true, true] rfl rfl (by kernel_rfl) (by decide) (fun K hK => ?_)
 go_simp
 refine (HH.out _ _ _ HF (by have := HL.out; simp at this ⊢; omega)).mono ?_
 rintro e w1 ⟨rfl, oko2, HFn⟩
 clear HF
 have HF := HFn
 clear HFn
 refine hK.out _ _ ?_
 clear hK K
 (try simp only [Act.put, List.setIfInBounds_toArray, List.set_cons_zero, List.set_cons_succ])
 refine done_ (by kernel_rfl) ⟨rfl, ?_⟩
 skip
 try simp only [Act.put, List.setIfInBounds_toArray, List.set_cons_zero, List.set_cons_succ]
 go_wp2_with fail
 go_end0
 exact ⟨rfl, _, HF⟩
set_option maxRecDepth 100000 in
set_option maxHeartbeats 8000000 in
theorem typ_writes : ∀ (n : Nat) (x : Tree), SizeOf.sizeOf x < n → isTypeT x = true → ∀ (w : World) (ts : List Th) (g : Nat) (A : Option Addr) (c : Nat), x.f2.length ≤ c → Kd.C k25 w A x.f2.length x.f2 → Writes 95 #[.pointer (some ⟨g, 0, none⟩), .agg (tN x A c)] w ts g (typeS x)
 | 0, x, h, _ => absurd h (Nat.not_lt_zero _)
 | n + 1, x, hn, ht => by
  intro w ts g A c hc hC
  by_cases hk : x.f0 = 31
  ·have ht2 := isTypeT_eq x
   rw [ht] at ht2
   have hw : isWordB x = false := by unfold isWordB; simp [hk]
   rw [hw] at ht2
   obtain ⟨k, s, l⟩ := x
   dsimp only at hk
   subst hk
   simp at ht2
   obtain ⟨⟨hs_, hl⟩, hab⟩ := ht2
   obtain ⟨a, b, rfl⟩ : ∃ a b, l = [a, b] := by
    rcases l with _ | ⟨a, _ | ⟨b, _ | ⟨z, l⟩⟩⟩ <;> simp at hl
    ·exact ⟨a, b, rfl⟩
    ·omega
   have hA := typ_writes n a (by simp at hn ⊢; omega) (hab a (by simp))
   have hB := typ_writes n b (by simp at hn ⊢; omega) (hab b (by simp))
   obtain ⟨a0A, AA, cA, e0A, p0, p1, p2, hl2, hc2⟩ := kid_at hC 0 (by simp) a rfl
   try simp only [Nat.zero_mul, Nat.one_mul, addr_add0, addr_add3] at p0 p1 p2
   have KA := Lib.hid (And.intro p0 (And.intro p1 p2))
   have HLA := Lib.hid hl2
   have HCA := Lib.hid hc2
   clear p0 p1 p2 hl2 hc2
   obtain ⟨a0B, AB, cB, e0B, p0, p1, p2, hl2, hc2⟩ := kid_at hC 1 (by simp) b rfl
   try simp only [Nat.zero_mul, Nat.one_mul, addr_add0, addr_add3] at p0 p1 p2
   have KB := Lib.hid (And.intro p0 (And.intro p1 p2))
   have HLB := Lib.hid hl2
   have HCB := Lib.hid hc2
   clear p0 p1 p2 hl2 hc2
   subst e0A
   have e1_ : a0A = a0B := Option.some.inj e0B
   clear e0B
   subst e1_
   obtain ⟨pa, hpa⟩ : ∃ pa, pa = (if a.f0 = 31 then [40] ++ (typeS a ++ [41]) else typeS a) := ⟨_, rfl⟩
   have hT : typeS ⟨31, s, [a, b]⟩ = pa ++ ([32, 45, 62, 32] ++ typeS b) := by rw [hpa]; simp [typeS, typeS2, typeS3]
   intro W ok bs HF hlen
   rw [hT] at hlen ⊢
   have HL := Lib.hid hlen
   have HA := Lib.hid hA
   have HB := Lib.hid hB
   have HPA : Hid ((if (a.f0 == 31) = true then [40] ++ (typeS a ++ [41]) else typeS a) = pa) := Lib.hid (by rw [hpa]; simp)
   clear hlen hA hB hc hC hT hs_ hl hab hn ht hw hpa
   go_enter Tryz.func95, Tryz.ntmps95
   go_wp2_with (first
    | ((with_reducible refine gate_dst (N := 2) rfl ?_); refine ez_box (t := 100) (cs := #[.pointer (some ⟨g, 0, none⟩)]) HF rfl rfl (run_pr rfl rfl) ?_; clear HF; intro b2 w3 HF)
    | ((with_reducible refine gate_dst (N := 3) rfl ?_); refine ez_box (t := 25) (cs := (tN ⟨31, s, [a, b]⟩ (some a0A) c)) HF rfl rfl (run_tree rfl rfl) ?_; clear HF; intro b3 w4 HF; obtain ⟨q5a, q5b, q5c⟩ := rd3 HF.out.b0))
   go_wp2_with fail
   replace HF := Lib.hid HF.out.drew
   refine wp_only ?_
   refine start_ (n := 9) (S := (fun w' => True ∧ w'.cell? (⟨b2, 0, none⟩) = some (.pointer (some ⟨g, 0, none⟩)) ∧ w'.cell? (⟨b3, 2, none⟩) = some (.slice (some a0A) 2 c) ∧ w'.cell? (a0A) = some (.int .i64 a.f0))) (ds := [8]) #[false, false, false, false, false, false, false, false, false] (by kernel_rfl) rfl rfl ?_ (fun hHeld => ?_)
   ·exact ⟨trivial, (blk_cell HF.out.b1 0).trans rfl, (blk_cell HF.out.b0 2).trans rfl, pw_cell_below HF.out.below KA.out.1⟩
   refine pq 1 #[false, true, false, false, false, false, false, false, false] (h := ?_)
   refine pq 7 #[false, true, false, false, false, false, false, true, false] (h := ?_)
   refine tq hHeld 0 #[true, true, false, false, false, false, false, true, false] (h := ?_)
   refine tq hHeld 2 #[true, true, true, false, false, false, false, true, false] (h := ?_)
   refine pq 3 #[true, true, true, true, false, false, false, true, false] (h := ?_)
   refine pq 4 #[true, true, true, true, true, false, false, true, false] (h := ?_)
   refine tq hHeld 5 #[true, true, true, true, true, true, false, true, false] (h := ?_)
   refine pq 6 (fl 9 8) (h := ?_)
   refine last_ (i := 8) (N := some 21) #[true, true, true, true, true, true, true, true, true] rfl rfl (by kernel_rfl) (by decide) (fun K hK => ?_)
   go_simp
   replace HF := Lib.hid HF.out.swap
   replace HF := Lib.hid HF.out.swap
   replace HF := Lib.hid HF.out.up3
   refine (within_writes _ (enters_of Tryz.func129 (by kernel_rfl) rfl) _ w _ g (typeS a) (a.f0 == 31) (typ1_writes 31 s a b a0A c AA cA w _ g b2 b3 (typeS a) KA.out (HA.out w _ g AA cA HLA.out HCA.out)) _ _ _ HF (by have := HL.out; rw [HPA.out]; simp at this ⊢; omega)).mono ?_
   rintro e w6 ⟨rfl, oko7, HFn⟩
   clear HF; clear q5a q5b q5c
   have HF := HFn
   clear HFn
   rw [HPA.out] at HF
   refine hK.out _ _ ?_
   clear hK K
   (try simp only [Act.put, List.setIfInBounds_toArray, List.set_cons_zero, List.set_cons_succ])
   refine done_ (by kernel_rfl) ⟨rfl, ?_⟩
   skip
   try simp only [Act.put, List.setIfInBounds_toArray, List.set_cons_zero, List.set_cons_succ]
   have q8 := (blk_cell HF.out.b2 0).trans rfl
   go_wp2_with fail
   refine (ws_lit [32, 45, 62, 32] HF (by have := HL.out; simp at this ⊢; omega)).mono ?_
   rintro e w9 ⟨rfl, oko10, HFn⟩
   clear HF; clear q8
   have HF := HFn
   clear HFn
   go_wp2_with fail
   go_wp2_with fail
   replace HF := Lib.hid HF.out.drew
   refine wp_only ?_
   refine start_ (n := 6) (S := (fun w' => True ∧ w'.cell? (⟨b2, 0, none⟩) = some (.pointer (some ⟨g, 0, none⟩)) ∧ w'.cell? (⟨b3, 2, none⟩) = some (.slice (some a0A) 2 c) ∧ w'.cell? (⟨a0A.block, a0A.off + 3, none⟩) = some (.int .i64 b.f0) ∧ w'.cell? (⟨a0A.block, a0A.off + 3 + 1, none⟩) = some (.string b.f1) ∧ w'.cell? (⟨a0A.block, a0A.off + 3 + 2, none⟩) = some (.slice AB b.f2.length cB))) (ds := [5]) #[false, false, false, false, false, false] (by kernel_rfl) rfl rfl ?_ (fun hHeld => ?_)
   ·exact ⟨trivial, (blk_cell HF.out.b2 0).trans rfl, (blk_cell HF.out.b1 2).trans rfl, pw_cell_below HF.out.below KB.out.1, pw_cell_below HF.out.below KB.out.2.1, pw_cell_below HF.out.below KB.out.2.2⟩
   refine pq 1 #[false, true, false, false, false, false] (h := ?_)
   refine tq hHeld 0 (fl 6 2) (h := ?_)
   refine tq hHeld 2 (fl 6 3) (h := ?_)
   refine pq 3 (fl 6 4) (h := ?_)
   refine tq hHeld 4 (fl 6 5) (h := ?_)
   refine last_ (i := 5) (N := some 31) #[true, true, true, true, true, true] rfl rfl (by kernel_rfl) (by decide) (fun K hK => ?_)
   go_simp
   refine (HB.out w _ g AB cB HLB.out HCB.out _ _ _ HF (by have := HL.out; simp at this ⊢; omega)).mono ?_
   rintro e w11 ⟨rfl, oko12, HFn⟩
   clear HF
   have HF := HFn
   clear HFn
   refine hK.out _ _ ?_
   clear hK K
   (try simp only [Act.put, List.setIfInBounds_toArray, List.set_cons_zero, List.set_cons_succ])
   refine done_ (by kernel_rfl) ⟨rfl, ?_⟩
   skip
   try simp only [Act.put, List.setIfInBounds_toArray, List.set_cons_zero, List.set_cons_succ]
   go_wp2_with fail
   go_end0
   replace HF := Lib.hid HF.out.swap
   replace HF := Lib.hid HF.out.lose
   replace HF := Lib.hid HF.out.swap
   replace HF := Lib.hid HF.out.lose
   exact ⟨rfl, _, by simpa only [List.append_assoc, List.cons_append, List.nil_append] using HF⟩
  ·obtain ⟨k, s, l⟩ := x
   have hT : typeS ⟨k, s, l⟩ = s.data.toList := by simp only [typeS]; rw [if_neg hk]
   intro W ok bs HF hlen
   rw [hT] at hlen ⊢
   have HL := Lib.hid hlen
   have hne_ : (k != 31) = true := bne_iff_ne.2 hk
   clear hlen hT hC hc hk ht hn
   go_enter Tryz.func95, Tryz.ntmps95
   go_wp2_with (first
    | ((with_reducible refine gate_dst (N := 2) rfl ?_); refine ez_box (t := 100) (cs := #[.pointer (some ⟨g, 0, none⟩)]) HF rfl rfl (run_pr rfl rfl) ?_; clear HF; intro b2 w13 HF)
    | ((with_reducible refine gate_dst (N := 3) rfl ?_); refine ez_box (t := 25) (cs := (tN ⟨k, s, l⟩ A c)) HF rfl rfl (run_tree rfl rfl) ?_; clear HF; intro b3 w14 HF; obtain ⟨q15a, q15b, q15c⟩ := rd3 HF.out.b0))
   go_wp2_with fail
   replace HF := Lib.hid HF.out.drew
   refine wp_only ?_
   refine start_ (n := 6) (S := (fun w' => True ∧ w'.cell? (⟨b2, 0, none⟩) = some (.pointer (some ⟨g, 0, none⟩)) ∧ w'.cell? (⟨b3, 1, none⟩) = some (.string s))) (ds := [5]) #[false, false, false, false, false, false] (by kernel_rfl) rfl rfl ?_ (fun hHeld => ?_)
   ·exact ⟨trivial, (blk_cell HF.out.b1 0).trans rfl, (blk_cell HF.out.b0 1).trans rfl⟩
   refine pq 3 #[false, false, false, true, false, false] (h := ?_)
   refine tq hHeld 0 #[true, false, false, true, false, false] (h := ?_)
   refine pq 1 #[true, true, false, true, false, false] (h := ?_)
   refine pq 2 (fl 6 4) (h := ?_)
   refine tq hHeld 4 (fl 6 5) (h := ?_)
   refine last_ (i := 5) (N := some 12) #[true, true, true, true, true, true] rfl rfl (by kernel_rfl) (by decide) (fun K hK => ?_)
   go_simp
   replace HF := Lib.hid HF.out.up3
   refine (ws_on _ _ _ _ _ _ s HF (by have := HL.out; simpa [Array.length_toList] using this)).mono ?_
   rintro e w16 ⟨rfl, oko17, HFn⟩
   clear HF; clear q15a q15b q15c
   have HF := HFn
   clear HFn
   refine hK.out _ _ ?_
   clear hK K
   (try simp only [Act.put, List.setIfInBounds_toArray, List.set_cons_zero, List.set_cons_succ])
   refine done_ (by kernel_rfl) ⟨rfl, ?_⟩
   skip
   try simp only [Act.put, List.setIfInBounds_toArray, List.set_cons_zero, List.set_cons_succ]
   go_wp2_with fail
   refine bodyPost_ret (v := .tuple #[]) (results_none rfl _ _ _) rfl ?_
   replace HF := Lib.hid HF.out.swap
   replace HF := Lib.hid HF.out.lose
   replace HF := Lib.hid HF.out.swap
   replace HF := Lib.hid HF.out.lose
   exact ⟨rfl, _, HF⟩
end Go.Proofs.YtbndfgoklgdfdaaGreatDoor.P
end
section
set_option linter.unusedSimpArgs false
namespace Go.Proofs.YtbndfgoklgdfdaaGreatDoor.P
open Go.RowKit Go.Proofs.YtbndfgoklgdfdaaGreatDoorW.PrintWords Go.Proofs.YtbndfgoklgdfdaaGreatDoorW.PrintLast Go.Proofs.YtbndfgoklgdfdaaGreatDoorW.PrintMore
/-- The rest of visit's text: the loop over the node's parts. -/
noncomputable def visLoop : Code := match (Tryz.f137).body with | some (.seq _ (.seq _ (.seq _ c))) => c | _ => .skip
theorem fcell {b2 b3 : Nat} {W : World} (h : (fT b2 b3).holds W) : W.cell? ⟨b3, 0, none⟩ = some (.func (.func 137) #[] #[.pointer (some ⟨b2, 0, none⟩), .pointer (some ⟨b3, 0, none⟩)]) := (blk_cell h 0).trans rfl
theorem ycell {b2 lb : Nat} {W : World} (h : (yT b2 lb).holds W) : W.cell? ⟨b2, 0, none⟩ = some (.func (.yield lb) #[] #[]) := (blk_cell h 0).trans rfl
set_option maxRecDepth 100000 in
set_option maxHeartbeats 8000000 in
theorem visit_loop {σ : Type} (st : σ → Tree → List ByteArray → σ × Bool) (μ : σ → Nat) (B : Nat) (HST : Hid (∀ z x ar, μ (st z x ar).1 ≤ μ z + 1)) (lb b2 b3 : Nat) (w : World) (Q : σ → (Nat → Prop) → Th) (tF : Th) (k : Int) (s : ByteArray) (l : List Tree) (m : Nat) (HIH : Hid (∀ y ∈ l, VisW st μ B lb b2 b3 w Q tF y m)) (A : Option Addr) (c : Nat) (hc : l.length ≤ c) (HC : Hid (Kd.C k25 w A l.length l)) (hln : l.length ≤ 9223372036854775807) (ar : List ByteArray) (Aa : Option Addr) (ca : Nat) (HLEN : Hid (ar.length + (m + 1) ≤ 100)) (ts : List Th) (HTF : Hid (tF ∈ ts)) (HB2 : Hid (yT b2 lb ∈ ts)) (HB3 : Hid (fT b2 b3 ∈ ts)) (HA : Hid (Ar ts ar Aa ca))
  (i0 : TypeInfo) (hi0 : Tryz.prog.info? 9 = some i0) (x0 x5 x6 x7 x8 x9 x10 x11 x12 x13 x14 x15 x16 x17 x18 x19 x20 x21 x22 x23 x24 x25 x26 x27 x28 x29 x30 x31 x32 x33 x34 x35 x36 x37 x38 x39 x40 x41 x42 x43 x44 x45 x46 x47 x48 x49 x50 x51 x52 x53 x54 x55 x56 x57 x58 x59 x60 x61 x62 x63 x64 x65 x66 x67 x68 x69 x70 : Value) (b4 : Nat) (W : World) (z1 : σ) (ok1 : Nat → Prop) (R : σ × Bool) (HMU : Hid (μ z1 + ndL l ≤ B)) (HRR : Hid (visL st (bindK k) s l ar z1 = R)) (HF : Hid (Fz w W (Q z1 ok1 :: vT b4 25 (tN ⟨k, s, l⟩ A c) :: ts))) :
  visLoop.wp Tryz.prog (bodyPost Tryz.prog Tryz.f137 (fun e W' => e = .returned (.bool R.2) ∧ ∃ ok', Hid (Fz w W' (Q R.1 ok' :: ts)))) { tmps := #[x0, .slice Aa ar.length ca, .pointer (some ⟨b2, 0, none⟩), .pointer (some ⟨b3, 0, none⟩), .pointer (some ⟨b4, 0, none⟩), x5, x6, x7, x8, x9, x10, x11, x12, x13, x14, x15, x16, x17, x18, x19, x20, x21, x22, x23, x24, x25, x26, x27, x28, x29, x30, x31, x32, x33, x34, x35, x36, x37, x38, x39, x40, x41, x42, x43, x44, x45, x46, x47, x48, x49, x50, x51, x52, x53, x54, x55, x56, x57, x58, x59, x60, x61, x62, x63, x64, x65, x66, x67, x68, x69, x70], defers := [] } W := by
 unfold visLoop
 simp only [Tryz.f137]
 obtain ⟨q9a, q9b, q9c⟩ := rd3 HF.out.b1
 go_wp2_with fail
 replace HF := Lib.hid HF.out.swap
 replace HF := Lib.hid HF.out.swap
 go_loopw [39] (fun i wr => ∃ (k_ : Nat) (z : σ) (ok : Nat → Prop), i = .int .i64 k_ ∧ k_ ≤ l.length ∧ Hid (μ z + ndL (l.drop k_) ≤ B) ∧ Hid (visL st (bindK k) s (l.drop k_) ar z = R) ∧ Hid (Fz w wr (Q z ok :: vT b4 25 (tN ⟨k, s, l⟩ A c) :: ts))) (fun i _ => l.length - (intOf i).toNat)
 case atStart => exact ⟨0, _, _, rfl, Nat.zero_le _, HMU, HRR, HF⟩
 case round =>
  clear HF HRR HMU; clear q9a q9b q9c
  obtain ⟨k_, z, ok, rfl, hk_, HMU, HP, HF⟩ := hrel
  by_cases hlt : k_ < l.length
  ·obtain ⟨a0, A2, c2, e0, p0, p1, p2, hl2, hc2⟩ := at_T25 HC.out k_ (by omega) (by omega)
   subst e0
   obtain ⟨y, hy⟩ : ∃ y, y = rd_T25 l k_ := ⟨_, rfl⟩
   have hdr := rdN_drop l k_ hlt
   have hmem := rdN_mem l k_ hlt
   rw [← hy] at p0 p1 p2 hl2 hc2 hdr hmem
   rw [Int.toNat_natCast] at p0 p1 p2
   have HX := Lib.hid (HIH.out y hmem)
   have HL2 := Lib.hid hl2
   have HC2 := Lib.hid hc2
   have hP := HP.out
   rw [hdr, visL] at hP
   have HP2 := Lib.hid hP
   have hMu := HMU.out
   rw [hdr, ndL] at hMu
   have HMU2 := Lib.hid hMu
   clear hMu HMU
   have KX := Lib.hid (And.intro p0 (And.intro p1 p2))
   clear hy hl2 hc2 hP hdr hmem HP p0 p1 p2
   obtain ⟨p0, p1, p2⟩ : _ ∧ _ ∧ _ := ⟨pw_cell_below HF.out.below KX.out.1, pw_cell_below HF.out.below KX.out.2.1, pw_cell_below HF.out.below KX.out.2.2⟩
   go_wp2_with (first
    | ((with_reducible refine gate_dst (N := 8) rfl ?_); refine ez_box (t := 25) (cs := zN) HF rfl rfl (run_node rfl) ?_; clear HF; clear p0 p1 p2; intro b8 w10 HF)
    | ((with_reducible refine gate_store (t := 25) (p := 8) rfl ?_); refine ez_put (p := 8) HF rfl rfl rfl rfl rfl rfl rfl ?_; clear HF; intro w11 HF; obtain ⟨q12a, q12b, q12c⟩ := rd3 HF.out.b2))
   refine (isBinder_on ⟨k, s, l⟩ (some a0) c _).mono ?_
   rintro e w_ ⟨rfl, hb_⟩
   replace HF := Lib.hid (HF.out.step hb_)
   clear hb_ q12a q12b q12c
   cases hbk : bindK k
   ·have hno : ¬ (bindK k = true ∧ (l.drop (k_ + 1)).isEmpty = true) := by rw [hbk]; simp
    replace HF := Lib.hid HF.out.up3
    replace HF := Lib.hid HF.out.swap
    replace HF := Lib.hid HF.out.up3
    have q13 := fcell (HF.out.mem (List.mem_cons_of_mem _ (List.mem_cons_of_mem _ (List.mem_cons_of_mem _ HB3.out))))
    obtain ⟨q14a, q14b, q14c⟩ := rd3 HF.out.b1
    go_wp2_with fail
    obtain ⟨zz, vb, hv_⟩ : ∃ zz vb, visT st y ar z = (zz, vb) := ⟨_, _, rfl⟩
    have HV := Lib.hid hv_
    clear hv_
    refine (HX.out _ _ z _ A2 c2 ar Aa ca (by have := HMU2.out; omega) (List.mem_cons_of_mem _ (List.mem_cons_of_mem _ HTF.out)) (List.mem_cons_of_mem _ (List.mem_cons_of_mem _ HB2.out)) (List.mem_cons_of_mem _ (List.mem_cons_of_mem _ HB3.out)) HL2.out HC2.out (by have := HLEN.out; omega) (HA.out.more (fun t h => (List.mem_cons_of_mem _ (List.mem_cons_of_mem _ h)))) HF).mono ?_
    rintro e w2_ ⟨he_, ok2, HFn⟩
    rw [HV.out] at he_ HFn
    subst he_
    clear HF; clear q13 q14a q14b q14c
    have HF := HFn
    clear HFn
    have hP2 := HP2.out
    have hV := HV.out
    have hMu := visT_mu st μ HST.out y ar z
    rw [hV] at hMu
    have HMU : Hid (μ zz + ndL (l.drop (k_ + 1)) ≤ B) := Lib.hid (by have := HMU2.out; dsimp only at hMu; omega)
    clear hMu HMU2
    cases vb
    ·go_wp2_with fail
     have hR_ : R = (zz, false) := by rw [← hP2]; clear hP2; rw [if_neg hno]; simp only [hV]; rfl
     subst hR_
     replace HF := Lib.hid HF.out.swap
     replace HF := Lib.hid HF.out.lose
     replace HF := Lib.hid HF.out.swap
     replace HF := Lib.hid HF.out.lose
     go_ret
     exact ⟨rfl, _, HF⟩
    ·have HN : Hid (visL st (bindK k) s (l.drop (k_ + 1)) ar zz = R) := Lib.hid (by rw [← hP2]; clear hP2; rw [if_neg hno]; simp only [hV]; rfl)
     clear hP2 hV
     go_wp2_with fail
     replace HF := Lib.hid HF.out.swap
     replace HF := Lib.hid HF.out.lose
     replace HF := Lib.hid HF.out.swap
     replace HF := Lib.hid HF.out.swap
     go_roundw
     case rel => exact ⟨k_ + 1, zz, _, by go_num, by omega, HMU, HN, HF⟩
     case measure => simp [intOf]; omega
   ·by_cases hla : k_ + 1 = l.length
    ·have hla2 : (l.drop (k_ + 1)).isEmpty = true := by rw [List.drop_of_length_le (by omega)]; rfl
     have hq1_ : ((k_ : Int) == (l.length : Int) - 1) = true := beq_iff_eq.2 (by omega)
     have hq2_ : wrap64 ((l.length : Int) - 1) = (l.length : Int) - 1 := by unfold wrap64; omega
     obtain ⟨q15a, q15b, q15c⟩ := rd3 HF.out.b2
     go_wp2_with fail
     have hcut_ := cut_hm (P := Tryz.prog) 49 9 .i64 .i64 Tryz.underlying49 hi0 Aa ar.length ca HA.out.1
     replace HF := Lib.hid HF.out.up3
     replace HF := Lib.hid HF.out.swap
     replace HF := Lib.hid HF.out.up3
     have HL9 : Hid (ar.length ≤ 100) := Lib.hid (by have := HLEN.out; omega)
     go_wp2_with fail
     go_wp2_with fail
     replace HF := Lib.hid HF.out.drew
     refine wp_only ?_
     refine start_ (n := 11) (S := (fun w' => True ∧ w'.cell? (⟨b4, 1, none⟩) = some (.string s))) (ds := [8, 9]) #[false, false, false, false, false, false, false, false, false, false, false] (by kernel_rfl) rfl rfl ?_ (fun hHeld => ?_)
     ·exact ⟨trivial, (blk_cell HF.out.b2 1).trans rfl⟩
     refine pq 0 (fl 11 1) (h := ?_)
     refine pq 1 (fl 11 2) (h := ?_)
     refine pq 2 (fl 11 3) (h := ?_)
     refine pq 3 (fl 11 4) (h := ?_)
     refine pq 4 (fl 11 5) (h := ?_)
     refine pq 5 (fl 11 6) (h := ?_)
     refine pq 6 (fl 11 7) (h := ?_)
     refine tq hHeld 7 (fl 11 8) (h := ?_)
     refine last_ (i := 8) (N := some 63) #[true, true, true, true, true, true, true, true, true, false, false] rfl rfl (by kernel_rfl) (by decide) (fun K hK => ?_)
     go_simp
     refine hK.out _ _ ?_
     clear hK K
     (try simp only [Act.put, List.setIfInBounds_toArray, List.set_cons_zero, List.set_cons_succ])
     refine last_ (i := 9) (N := some 64) #[true, true, true, true, true, true, true, true, true, true, false] rfl rfl (by kernel_rfl) (by decide) (fun K hK => ?_)
     refine zs_appstr (s := s) HA.out (fun t h => (List.mem_cons_of_mem _ (List.mem_cons_of_mem _ (List.mem_cons_of_mem _ h)))) HL9.out HF rfl rfl rfl rfl ?_
     clear HF
     intro A3 c3 w3_ ok3 HF
     have HMA := Lib.hid (Ar.made HF.out)
     obtain ⟨ar2, har2⟩ : ∃ ar2, ar2 = ar ++ [s] := ⟨_, rfl⟩
     rw [← har2] at HF HMA ⊢
     have HAR := Lib.hid har2
     have hal_ : ar2.length = ar.length + 1 := by rw [har2]; simp
     have HAL := Lib.hid hal_
     clear har2 hal_
     refine hK.out _ _ ?_
     clear hK K
     (try simp only [Act.put, List.setIfInBounds_toArray, List.set_cons_zero, List.set_cons_succ])
     refine pq 10 (fl 11 11) (h := ?_)
     refine done_ (by kernel_rfl) ⟨rfl, ?_⟩
     skip
     try simp only [Act.put, List.setIfInBounds_toArray, List.set_cons_zero, List.set_cons_succ]
     clear hcut_ hq1_ hq2_
     replace HF := Lib.hid HF.out.up4
     replace HF := Lib.hid HF.out.up4
     replace HF := Lib.hid HF.out.up3
     replace HF := Lib.hid HF.out.up4
     have q16 := fcell (HF.out.mem (List.mem_cons_of_mem _ (List.mem_cons_of_mem _ (List.mem_cons_of_mem _ (List.mem_cons_of_mem _ HB3.out)))))
     obtain ⟨q17a, q17b, q17c⟩ := rd3 HF.out.b2
     go_wp2_with fail
     obtain ⟨zz, vb, hv_⟩ : ∃ zz vb, visT st y ar2 z = (zz, vb) := ⟨_, _, rfl⟩
     have HV := Lib.hid hv_
     clear hv_
     refine (HX.out _ _ z _ A2 c2 ar2 A3 c3 (by have := HMU2.out; omega) (List.mem_cons_of_mem _ (List.mem_cons_of_mem _ (List.mem_cons_of_mem _ HTF.out))) (List.mem_cons_of_mem _ (List.mem_cons_of_mem _ (List.mem_cons_of_mem _ HB2.out))) (List.mem_cons_of_mem _ (List.mem_cons_of_mem _ (List.mem_cons_of_mem _ HB3.out))) HL2.out HC2.out (by have := HLEN.out; have := HAL.out; omega) (HMA.out.more (fun t h => by rw [List.mem_singleton.1 h]; exact List.mem_cons_self ..)) HF).mono ?_
     rintro e w2_ ⟨he_, ok2, HFn⟩
     rw [HV.out] at he_ HFn
     subst he_
     clear HF; clear q16 q17a q17b q17c
     have HF := HFn
     clear HFn
     have hP2 := HP2.out
     have hV := HV.out
     have hMu := visT_mu st μ HST.out y ar2 z
     rw [hV] at hMu
     have HMU : Hid (μ zz + ndL (l.drop (k_ + 1)) ≤ B) := Lib.hid (by have := HMU2.out; dsimp only at hMu; omega)
     clear hMu HMU2
     cases vb
     ·go_wp2_with fail
      have hR_ : R = (zz, false) := by rw [← hP2]; clear hP2; rw [if_pos (show bindK k = true ∧ (l.drop (k_ + 1)).isEmpty = true from ⟨hbk, hla2⟩), ← HAR.out]; simp only [hV]; rfl
      subst hR_
      replace HF := Lib.hid HF.out.swap
      replace HF := Lib.hid HF.out.lose
      replace HF := Lib.hid HF.out.swap
      replace HF := Lib.hid HF.out.lose
      replace HF := Lib.hid HF.out.swap
      replace HF := Lib.hid HF.out.lose
      go_ret
      exact ⟨rfl, _, HF⟩
     ·have HN : Hid (visL st (bindK k) s (l.drop (k_ + 1)) ar zz = R) := Lib.hid (by rw [← hP2]; clear hP2; rw [if_pos (show bindK k = true ∧ (l.drop (k_ + 1)).isEmpty = true from ⟨hbk, hla2⟩), ← HAR.out]; simp only [hV]; rfl)
      clear hP2 hV
      go_wp2_with fail
      replace HF := Lib.hid HF.out.swap
      replace HF := Lib.hid HF.out.lose
      replace HF := Lib.hid HF.out.swap
      replace HF := Lib.hid HF.out.lose
      replace HF := Lib.hid HF.out.swap
      replace HF := Lib.hid HF.out.swap
      go_roundw
      case rel => exact ⟨k_ + 1, zz, _, by go_num, by omega, HMU, HN, HF⟩
      case measure => simp [intOf]; omega
    ·have hno : ¬ (bindK k = true ∧ (l.drop (k_ + 1)).isEmpty = true) := by rintro ⟨_, h⟩; have h2 := congrArg List.length (List.isEmpty_iff.1 h); simp at h2; omega
     have hq1_ : ((k_ : Int) == (l.length : Int) - 1) = false := beq_eq_false_iff_ne.2 (by omega)
     have hq2_ : wrap64 ((l.length : Int) - 1) = (l.length : Int) - 1 := by unfold wrap64; omega
     obtain ⟨q18a, q18b, q18c⟩ := rd3 HF.out.b2
     replace HF := Lib.hid HF.out.up3
     replace HF := Lib.hid HF.out.swap
     replace HF := Lib.hid HF.out.up3
     have q19 := fcell (HF.out.mem (List.mem_cons_of_mem _ (List.mem_cons_of_mem _ (List.mem_cons_of_mem _ HB3.out))))
     obtain ⟨q20a, q20b, q20c⟩ := rd3 HF.out.b1
     go_wp2_with fail
     obtain ⟨zz, vb, hv_⟩ : ∃ zz vb, visT st y ar z = (zz, vb) := ⟨_, _, rfl⟩
     have HV := Lib.hid hv_
     clear hv_
     refine (HX.out _ _ z _ A2 c2 ar Aa ca (by have := HMU2.out; omega) (List.mem_cons_of_mem _ (List.mem_cons_of_mem _ HTF.out)) (List.mem_cons_of_mem _ (List.mem_cons_of_mem _ HB2.out)) (List.mem_cons_of_mem _ (List.mem_cons_of_mem _ HB3.out)) HL2.out HC2.out (by have := HLEN.out; omega) (HA.out.more (fun t h => (List.mem_cons_of_mem _ (List.mem_cons_of_mem _ h)))) HF).mono ?_
     rintro e w2_ ⟨he_, ok2, HFn⟩
     rw [HV.out] at he_ HFn
     subst he_
     clear HF; clear q18a q18b q18c q19 q20a q20b q20c
     have HF := HFn
     clear HFn
     have hP2 := HP2.out
     have hV := HV.out
     have hMu := visT_mu st μ HST.out y ar z
     rw [hV] at hMu
     have HMU : Hid (μ zz + ndL (l.drop (k_ + 1)) ≤ B) := Lib.hid (by have := HMU2.out; dsimp only at hMu; omega)
     clear hMu HMU2
     cases vb
     ·go_wp2_with fail
      have hR_ : R = (zz, false) := by rw [← hP2]; clear hP2; rw [if_neg hno]; simp only [hV]; rfl
      subst hR_
      replace HF := Lib.hid HF.out.swap
      replace HF := Lib.hid HF.out.lose
      replace HF := Lib.hid HF.out.swap
      replace HF := Lib.hid HF.out.lose
      go_ret
      exact ⟨rfl, _, HF⟩
     ·have HN : Hid (visL st (bindK k) s (l.drop (k_ + 1)) ar zz = R) := Lib.hid (by rw [← hP2]; clear hP2; rw [if_neg hno]; simp only [hV]; rfl)
      clear hP2 hV
      go_wp2_with fail
      replace HF := Lib.hid HF.out.swap
      replace HF := Lib.hid HF.out.lose
      replace HF := Lib.hid HF.out.swap
      replace HF := Lib.hid HF.out.swap
      go_roundw
      case rel => exact ⟨k_ + 1, zz, _, by go_num, by omega, HMU, HN, HF⟩
      case measure => simp [intOf]; omega
  ·have hke_ : k_ = l.length := by omega
   have hP := HP.out
   rw [List.drop_of_length_le (by omega), visL] at hP
   subst hP
   clear HP
   go_wp2_with fail
   replace HF := Lib.hid HF.out.swap
   replace HF := Lib.hid HF.out.lose
   go_ret
   exact ⟨rfl, _, HF⟩
end Go.Proofs.YtbndfgoklgdfdaaGreatDoor.P
end
section
set_option linter.unusedSimpArgs false
namespace Go.Proofs.YtbndfgoklgdfdaaGreatDoor.P
open Go.RowKit Go.Proofs.YtbndfgoklgdfdaaGreatDoorW.PrintWords Go.Proofs.YtbndfgoklgdfdaaGreatDoorW.PrintLast Go.Proofs.YtbndfgoklgdfdaaGreatDoorW.PrintMore
set_option maxRecDepth 100000 in
set_option maxHeartbeats 8000000 in
theorem visit_all {σ : Type} (st : σ → Tree → List ByteArray → σ × Bool) (μ : σ → Nat) (B : Nat) (HST : Hid (∀ z x ar, μ (st z x ar).1 ≤ μ z + 1)) (lb b2 b3 : Nat) (w : World) (Q : σ → (Nat → Prop) → Th) (tF : Th) (hR : RoundW st μ B lb w Q tF) (i0 : TypeInfo) (hi0 : Tryz.prog.info? 9 = some i0) :
  ∀ (n : Nat) (x : Tree) (m : Nat), SizeOf.sizeOf x < n → deepN m x = false → VisW st μ B lb b2 b3 w Q tF x m
 | 0, _, _, h, _ => absurd h (Nat.not_lt_zero _)
 | n + 1, x, 0, _, h => by simp [deepN] at h
 | n + 1, ⟨k, s, l⟩, m + 1, hn, hd => by
  have HIH : Hid (∀ y ∈ l, VisW st μ B lb b2 b3 w Q tF y m) := Lib.hid (fun y hy => visit_all st μ B HST lb b2 b3 w Q tF hR i0 hi0 n y m (by have := kid_lt (x := ⟨k, s, l⟩) hy; omega) (by
   rw [deepN] at hd
   exact Bool.eq_false_iff.2 (fun h => by rw [List.any_eq_false] at hd; exact hd y hy h)))
  intro W ts z ok A c ar Aa ca hmu hF hb2 hb3 hc hC hlen hA HF
  have HMU := Lib.hid hmu
  have HTF := Lib.hid hF
  have HB2 := Lib.hid hb2
  have HB3 := Lib.hid hb3
  have HC := Lib.hid hC
  have HLEN := Lib.hid hlen
  have HA := Lib.hid hA
  have HRW := Lib.hid hR
  have hln : l.length ≤ 9223372036854775807 := hC.2.1
  obtain ⟨R, hRR⟩ : ∃ R, visT st ⟨k, s, l⟩ ar z = R := ⟨_, rfl⟩
  have HRR := Lib.hid hRR
  rw [hRR]
  clear hmu hF hb2 hb3 hC hlen hA hR hRR hn hd
  go_enter Tryz.func137, Tryz.ntmps137
  refine wp_seq_k fun K1 hK1 => ?_
  have HK1 := Lib.hid hK1
  clear hK1
  go_wp2_with (first
   | ((with_reducible refine gate_dst (N := 4) rfl ?_); refine ez_box (t := 25) (cs := (tN ⟨k, s, l⟩ A c)) HF rfl rfl (run_tree rfl rfl) ?_; clear HF; intro b4 w1 HF; have HF2_ := Lib.hid HF.out.swap; clear HF; have HF := HF2_; clear HF2_))
  refine HK1.out _ _ ?_
  clear HK1 K1
  refine wp_seq_k fun K2 hK2 => ?_
  have HK2 := Lib.hid hK2
  clear hK2
  by_cases h7 : k = 7
  ·subst h7
   obtain ⟨q2a, q2b, q2c⟩ := rd3 HF.out.b1
   go_wp2_with fail
   have hR := HRR.out
   rw [visT, if_pos rfl] at hR
   subst hR
   replace HF := Lib.hid HF.out.swap
   replace HF := Lib.hid HF.out.lose
   go_ret
   exact ⟨rfl, _, HF⟩
  ·have hk7_ : (k == 7) = false := beq_eq_false_iff_ne.2 h7
   have hR := HRR.out
   rw [visT, if_neg h7] at hR
   dsimp only at hR
   obtain ⟨r1, hr1⟩ : ∃ r1, (if nameK k = true ∧ hasB ar s = false then st z ⟨k, s, l⟩ ar else (z, true)) = r1 := ⟨_, rfl⟩
   rw [hr1] at hR
   have HRN := Lib.hid hR
   have HR1 := Lib.hid hr1
   clear hR HRR hr1
   obtain ⟨q3a, q3b, q3c⟩ := rd3 HF.out.b1
   go_wp2_with fail
   refine HK2.out _ _ ?_
   clear HK2 K2 hk7_ q3a q3b q3c
   refine wp_seq_k fun K3 hK3 => ?_
   have HK3 := Lib.hid hK3
   clear hK3
   by_cases hnm : nameK k = true
   ·cases hh : hasB ar s
    ·have hr1 := HR1.out
     rw [if_pos ⟨hnm, hh⟩] at hr1
     have HV := Lib.hid hr1
     have HHH := Lib.hid hh
     clear hh hr1 HR1
     obtain ⟨hq1_, hq2_⟩ | ⟨hq1_, hq2_⟩ : (k == 15) = true ∧ True ∨ (k == 15) = false ∧ (k == 16) = true := by unfold nameK at hnm; cases h : (k == 15) <;> simp_all
     all_goals
      refine (wpIn_wide (n := 0)).1 ?_
      obtain ⟨q4a, q4b, q4c⟩ := rd3 HF.out.b1
      gi_wp2_with fail
      refine ⟨trivial, rfl, (callsIn_wide.2 (contains_on ar s Aa ca _ HA.out.1 (HA.out.C HF.out (fun t h => (List.mem_cons_of_mem _ (List.mem_cons_of_mem _ h)))))).mono ?_⟩
      rintro e w3_ ⟨rfl, hb_⟩
      rw [HHH.out]
      replace HF := Lib.hid (HF.out.step hb_.below)
      clear hb_ q4a q4b q4c
      obtain ⟨q5a, q5b, q5c⟩ := rd3 HF.out.b1
      have q6 := ycell (HF.out.mem (List.mem_cons_of_mem _ (List.mem_cons_of_mem _ HB2.out)))
      obtain ⟨fn_, tm_, as_, bd_, hy_, hrd_⟩ := HRW.out 0 _ _ z ok ⟨k, s, l⟩ A c ar Aa ca (by have := HMU.out; rw [ndT] at this; omega) (List.mem_cons_of_mem _ HTF.out) hc HC.out (HA.out.more (fun t h => (List.mem_cons_of_mem _ h))) HF
      dsimp only at hy_
      gi_wp2_with fail
      refine ⟨rfl, hrd_.mono ?_⟩
      rintro e w4_ ⟨he_, ok2, HFn⟩
      have hV9_ := HV.out
      rw [hV9_] at he_ HFn
      subst he_
      clear hy_ hrd_ HF HV q5a q5b q5c q6
      have HF := HFn
      clear HFn
      have hMu := HST.out z ⟨k, s, l⟩ ar
      rw [hV9_] at hMu
      obtain ⟨z1, vb⟩ := r1
      have HMU1 : Hid (μ z1 + ndL l ≤ B) := Lib.hid (by have := HMU.out; rw [ndT] at this; dsimp only at hMu; omega)
      clear hMu hV9_
      have hR := HRN.out
      dsimp only at hR HF
      clear HRN
      cases vb
      ·rw [if_neg (by simp)] at hR
       subst hR
       gi_wp2_with fail
       replace HF := Lib.hid HF.out.swap
       replace HF := Lib.hid HF.out.lose
       go_ret
       exact ⟨rfl, _, HF⟩
      ·rw [if_pos rfl] at hR
       have HR9 := Lib.hid hR
       clear hR
       gi_wp2_with fail
       clear hq1_ hq2_
       refine HK3.out _ _ ?_
       clear HK3 K3
       have HRR9 := HR9
       have HMU9 := HMU1
       replace HF := Lib.hid HF.out.swap
       replace HF := Lib.hid HF.out.swap
       exact visit_loop st μ B HST lb b2 b3 w Q tF k s l m HIH A c hc HC hln ar Aa ca HLEN ts HTF HB2 HB3 HA i0 hi0 _ _ _ _ _ _ _ _ _ _ _ _ _ _ _ _ _ _ _ _ _ _ _ _ _ _ _ _ _ _ _ _ _ _ _ _ _ _ _ _ _ _ _ _ _ _ _ _ _ _ _ _ _ _ _ _ _ _ _ _ _ _ _ _ _ _ _ b4 _ _ _ R HMU9 HRR9 HF
    ·have hr1 := HR1.out
     rw [if_neg (by rw [hh]; simp)] at hr1
     subst hr1
     have hR := HRN.out
     rw [if_pos rfl] at hR
     have HR9 := Lib.hid hR
     have HHH := Lib.hid hh
     clear hR hh HRN HR1
     obtain ⟨hq1_, hq2_⟩ | ⟨hq1_, hq2_⟩ : (k == 15) = true ∧ True ∨ (k == 15) = false ∧ (k == 16) = true := by unfold nameK at hnm; cases h : (k == 15) <;> simp_all
     all_goals
      obtain ⟨q7a, q7b, q7c⟩ := rd3 HF.out.b1
      go_wp2_with fail
      refine (contains_on ar s Aa ca _ HA.out.1 (HA.out.C HF.out (fun t h => (List.mem_cons_of_mem _ (List.mem_cons_of_mem _ h))))).mono ?_
      rintro e w3_ ⟨rfl, hb_⟩
      rw [HHH.out]
      replace HF := Lib.hid (HF.out.step hb_.below)
      clear hb_ q7a q7b q7c
      go_wp2_with fail
      clear hq1_ hq2_
      refine HK3.out _ _ ?_
      clear HK3 K3
      have HRR9 := HR9
      have HMU9 := Lib.hid (show μ z + ndL l ≤ B by have := HMU.out; rw [ndT] at this; omega)
      replace HF := Lib.hid HF.out.swap
      replace HF := Lib.hid HF.out.swap
      exact visit_loop st μ B HST lb b2 b3 w Q tF k s l m HIH A c hc HC hln ar Aa ca HLEN ts HTF HB2 HB3 HA i0 hi0 _ _ _ _ _ _ _ _ _ _ _ _ _ _ _ _ _ _ _ _ _ _ _ _ _ _ _ _ _ _ _ _ _ _ _ _ _ _ _ _ _ _ _ _ _ _ _ _ _ _ _ _ _ _ _ _ _ _ _ _ _ _ _ _ _ _ _ b4 _ _ _ R HMU9 HRR9 HF
   ·have hr1 := HR1.out
    rw [if_neg (fun h => hnm h.1)] at hr1
    subst hr1
    have hR := HRN.out
    rw [if_pos rfl] at hR
    have HR9 := Lib.hid hR
    clear hR HRN HR1
    have hq1_ : (k == 15) = false := by unfold nameK at hnm; cases h : (k == 15) <;> simp_all
    have hq2_ : (k == 16) = false := by unfold nameK at hnm; cases h : (k == 16) <;> simp_all
    obtain ⟨q8a, q8b, q8c⟩ := rd3 HF.out.b1
    go_wp2_with fail
    clear hq1_ hq2_ q8a q8b q8c
    refine HK3.out _ _ ?_
    clear HK3 K3
    have HRR9 := HR9
    have HMU9 := Lib.hid (show μ z + ndL l ≤ B by have := HMU.out; rw [ndT] at this; omega)
    replace HF := Lib.hid HF.out.swap
    replace HF := Lib.hid HF.out.swap
    exact visit_loop st μ B HST lb b2 b3 w Q tF k s l m HIH A c hc HC hln ar Aa ca HLEN ts HTF HB2 HB3 HA i0 hi0 _ _ _ _ _ _ _ _ _ _ _ _ _ _ _ _ _ _ _ _ _ _ _ _ _ _ _ _ _ _ _ _ _ _ _ _ _ _ _ _ _ _ _ _ _ _ _ _ _ _ _ _ _ _ _ _ _ _ _ _ _ _ _ _ _ _ _ b4 _ _ _ R HMU9 HRR9 HF
end Go.Proofs.YtbndfgoklgdfdaaGreatDoor.P
end
section
set_option linter.unusedSimpArgs false
namespace Go.Proofs.YtbndfgoklgdfdaaGreatDoor.P
open Go.RowKit Go.Proofs.YtbndfgoklgdfdaaGreatDoorW.PrintWords Go.Proofs.YtbndfgoklgdfdaaGreatDoorW.PrintLast Go.Proofs.YtbndfgoklgdfdaaGreatDoorW.PrintMore
section
variable {o : Oper} {a : Act} {w W : World} {ts : List Th} {ops : Array Oper} {rest : List Oper} {Q : Exit → Act → World → Prop}
theorem run_ybox {v : Operand} {fn : Fn} {f c : Array Value} (ho : o.op = .box 136 v) (hv : a.eval v = .func fn f c) : (execOp a.eval o).run Tryz.prog W = .ok (.value (.pointer (some ⟨W.heap.size, 0, none⟩))) (W.alloc (.cells #[.func fn f c] 136 (0, 0))) := by
 unfold execOp
 rw [ho]
 simp only [hv]
 first | (go_simp; done) | (go_simp; rfl)
theorem run_fnew (ho : o.op = .alloc 137) : (execOp a.eval o).run Tryz.prog W = .ok (.value (.pointer (some ⟨W.heap.size, 0, none⟩))) (W.alloc (.cells #[.nilFunc] 137 (0, 0))) := by
 unfold execOp
 rw [ho]
 first | (go_simp; done) | (go_simp; rfl)
theorem run_fcell {t : TypeId} {p v : Operand} {b i : Nat} {x : Value} {fn : Fn} {f c : Array Value} (ho : o.op = .store t p v) (hp : a.eval p = .pointer (some ⟨b, i, none⟩)) (hv : a.eval v = .func fn f c) (hi : (Tryz.prog.info? t).map (·.size) = some 1) (hc : W.cell? ⟨b, i, none⟩ = some x) (hz : W.frozen? ⟨b, i, none⟩ = false) :
  (execOp a.eval o).run Tryz.prog W = .ok .skip (W.setCell ⟨b, i, none⟩ (.func fn f c)) := by
 have hsz : (sizeOf t).run Tryz.prog W = .ok 1 W := by
  cases hq : Tryz.prog.info? t with
  | none => simp [hq] at hi
  | some j =>
   have hs : j.size = 1 := by simpa [hq] using hi
   simp [sizeOf, Sem.run_bind, typeInfo, hq, hs]
 unfold execOp
 rw [ho]
 simp only [hp, hv]
 go_simp
 rw [run_store _ _ _ _ _ rfl]
 simp [stored, hc, hz, Result.andThen]
theorem ez_fcell {p : Tmp} {v : Operand} {b i : Nat} {t tb : TypeId} {cs cs' : Array Value} {x : Value} {fn : Fn} {f c : Array Value} (HF : Hid (Fz w W (vT b tb cs :: ts))) (ho : o.op = .store t (.tmp p) v) (hd : o.dst = none) (hgd : o.guard = none)
  (hi : (Tryz.prog.info? t).map (·.size) = some 1) (hp : a.eval (.tmp p) = .pointer (some ⟨b, i, none⟩)) (hv : a.eval v = .func fn f c) (hx : cs[i]? = some x) (hcs : cs.setIfInBounds i (.func fn f c) = cs')
  (h : ∀ W', Hid (Fz w W' (vT b tb cs' :: ts)) → wpList Tryz.prog ops Q rest a W') : wpList Tryz.prog ops Q (o :: rest) a W := by
 refine wpList_plain hgd fun K hK => ?_
 unfold Oper.wp
 rw [run_fcell ho hp hv hi ((blk_cell HF.out.b0 i).trans hx) (blk_frozen HF.out.b0 i)]
 show K (a.put o.dst undef) _
 rw [hd]
 exact hK _ _ (h _ (Lib.hid (HF.out.set i _ hcs)))
end
set_option maxRecDepth 100000 in
set_option maxHeartbeats 4000000 in
theorem occ1_on {σ : Type} (st : σ → Tree → List ByteArray → σ × Bool) (μ : σ → Nat) (B : Nat) (HST : Hid (∀ z x ar, μ (st z x ar).1 ≤ μ z + 1)) (lb tb : Nat) (w : World) (Q : σ → (Nat → Prop) → Th) (tF : Th) (hR : RoundW st μ B lb w Q tF)
  (x : Tree) (hd : deepN 100 x = false) (A : Option Addr) (c : Nat) (hc : x.f2.length ≤ c) (hC : Kd.C k25 w A x.f2.length x.f2) (ts : List Th) (hF : tF ∈ ts) (hn : vT tb 25 (tN x A c) ∈ ts) (z : σ) (ok : Nat → Prop) (hmu : μ z + ndT x ≤ B) (W : World) (HF : Hid (Fz w W (Q z ok :: ts))) :
  Calls Tryz.prog 136 #[.func (.yield lb) #[] #[], .pointer (some ⟨tb, 0, none⟩)] W fun e W' => e = .returned (.tuple #[]) ∧ ∃ ok', Hid (Fz w W' (Q (visT st x [] z).1 ok' :: ts)) := by
 have hmf : ∀ (fn : Fn) (first cap : Array Value) (w : World), (Instr.makeFunc fn first cap).run Tryz.prog w = .ok (.func fn first cap) w := fun _ _ _ _ => rfl
 obtain ⟨i0, hi0, _⟩ := info_parts info9
 have HV := Lib.hid (fun b2 b3 => visit_all st μ B HST lb b2 b3 w Q tF hR i0 hi0 _ x 100 (Nat.lt_succ_self _) hd)
 have HTF := Lib.hid hF
 have HN := Lib.hid hn
 have HC := Lib.hid hC
 have HMU := Lib.hid hmu
 clear hR hd hF hn hC hmu hi0
 go_enter Tryz.func136, Tryz.ntmps136
 go_wp2_with (first
  | ((with_reducible refine gate_dst (N := 2) rfl ?_); refine ez_box (t := 136) (cs := #[.func (.yield lb) #[] #[]]) HF rfl rfl (run_ybox rfl rfl) ?_; clear HF; intro b2 w1 HF)
  | ((with_reducible refine gate_dst (N := 3) rfl ?_); refine ez_box (t := 137) (cs := #[.nilFunc]) HF rfl rfl (run_fnew rfl) ?_; clear HF; intro b3 w2 HF)
  | ((with_reducible refine gate_store (t := 137) (p := 3) rfl ?_); refine ez_fcell (p := 3) (fn := .func 137) (f := #[]) (c := #[.pointer (some ⟨b2, 0, none⟩), .pointer (some ⟨b3, 0, none⟩)]) HF rfl rfl rfl rfl rfl rfl rfl rfl ?_; clear HF; intro w3 HF; have q1 := (blk_cell HF.out.b0 0).trans rfl; obtain ⟨q2a, q2b, q2c⟩ := rd3 (HF.out.mem (List.mem_cons_of_mem _ (List.mem_cons_of_mem _ (List.mem_cons_of_mem _ HN.out)))); have HF2_ := Lib.hid HF.out.up3; clear HF; have HF := HF2_; clear HF2_)
  | (go_at_call 137; refine (HV.out b2 b3 _ _ z _ A c [] none 0 HMU.out (List.mem_cons_of_mem _ (List.mem_cons_of_mem _ HTF.out)) (List.mem_cons_of_mem _ (List.mem_cons_self ..)) (List.mem_cons_self ..) hc HC.out (by simp) ⟨Nat.le_refl _, fun _ => ⟨rfl, rfl⟩, _, List.mem_cons_self .., fun W _ => ⟨rfl, by simp, fun h => absurd h (by simp)⟩⟩ HF).mono ?_; rintro e w4 ⟨rfl, ok2, HFn⟩; clear q1 q2a q2b q2c HF; have HF := HFn; clear HFn))
 have HF2_ := Lib.hid HF.out.up3.up3
 have HF3_ := Lib.hid HF2_.out.lose.lose
 go_end0
 exact ⟨rfl, _, HF3_⟩
theorem occ_on (x : Tree) (A : Option Addr) (c : Nat) (w W : World) (ts : List Th) (HF : Hid (Fz w W ts)) :
  Calls Tryz.prog 100 #[.agg (tN x A c)] W fun e W' => ∃ tb, e = .returned (.func (.func 136) #[] #[.pointer (some ⟨tb, 0, none⟩)]) ∧ Hid (Fz w W' (vT tb 25 (tN x A c) :: ts)) := by
 have hmf : ∀ (fn : Fn) (first cap : Array Value) (w : World), (Instr.makeFunc fn first cap).run Tryz.prog w = .ok (.func fn first cap) w := fun _ _ _ _ => rfl
 go_enter Tryz.func100, Tryz.ntmps100
 go_wp2_with ((with_reducible refine gate_dst (N := 1) rfl ?_); refine ez_box (t := 25) (cs := (tN x A c)) HF rfl rfl (run_tree rfl rfl) ?_; clear HF; intro b1 w1 HF)
 go_ret
 exact ⟨b1, rfl, HF⟩
end Go.Proofs.YtbndfgoklgdfdaaGreatDoor.P
end
section
set_option linter.unusedSimpArgs false
namespace Go.Proofs.YtbndfgoklgdfdaaGreatDoor.P
open Go.RowKit Go.Proofs.YtbndfgoklgdfdaaGreatDoorW.PrintWords Go.Proofs.YtbndfgoklgdfdaaGreatDoorW.PrintLast Go.Proofs.YtbndfgoklgdfdaaGreatDoorW.PrintMore
def qT (lo bo base : Nat) (rec : Loop) (z : List ByteArray) (ok : Nat → Prop) : Th where
 ok := fun k => k = lo ∨ k = bo ∨ ok k
 holds := fun W => W.heap[lo]? = some (.loop rec) ∧ lo ≠ bo ∧ ¬ ok lo ∧ ¬ ok bo ∧ ∃ v, W.heap[bo]? = some (.cells #[v] 49 (0, 0)) ∧ Kd.R Kd.string 9 W base ok v z
 stab := fun W W' h hk => by
  obtain ⟨h1, h2, h3, h4, v, h5, h6⟩ := h
  exact ⟨(hk lo (.inl rfl) (blk_lt h1)).trans h1, h2, h3, h4, v, (hk bo (.inr (.inl rfl)) (blk_lt h5)).trans h5, Kd.R_step h6 (fun k hok hlt => hk k (.inr (.inr hok)) hlt)⟩
section
variable {w W W' : World} {ts : List Th} {lo bo base : Nat} {rec : Loop} {z : List ByteArray} {ok : Nat → Prop} {v : Value}
theorem Fz.split (h : Fz w W (qT lo bo base rec z ok :: ts)) : ∃ v, Fz w W (bT lo (.loop rec) :: vT bo 49 #[v] :: rT Kd.string 9 base ok v z :: ts) := by
 obtain ⟨h1, h2, h3, h4, v, h5, h6⟩ := h.b0
 have hp := List.pairwise_cons.1 h.pw
 have hb := (h.th _ (List.mem_cons_self ..)).2
 refine ⟨v, h.below, ?_, .cons ?_ (.cons ?_ (.cons ?_ hp.2))⟩
 ·intro x hx
  simp only [List.mem_cons] at hx
  rcases hx with rfl | rfl | rfl | hx
  ·exact ⟨h1, fun k hk => hb k (.inl hk)⟩
  ·exact ⟨h5, fun k hk => hb k (.inr (.inl hk))⟩
  ·exact ⟨h6, fun k hk => hb k (.inr (.inr hk))⟩
  ·exact h.th x (List.mem_cons_of_mem _ hx)
 ·intro x hx k h7 h8
  have h7 : k = lo := h7
  subst h7
  simp only [List.mem_cons] at hx
  rcases hx with rfl | rfl | hx
  ·exact h2 h8
  ·exact h3 h8
  ·exact hp.1 x hx k (.inl rfl) h8
 ·intro x hx k h7 h8
  have h7 : k = bo := h7
  subst h7
  simp only [List.mem_cons] at hx
  rcases hx with rfl | hx
  ·exact h4 h8
  ·exact hp.1 x hx k (.inr (.inl rfl)) h8
 ·intro x hx k h7 h8
  exact hp.1 x hx k (.inr (.inr h7)) h8
theorem Fz.join (h : Fz w W (bT lo (.loop rec) :: vT bo 49 #[v] :: rT Kd.string 9 base ok v z :: ts)) : Fz w W (qT lo bo base rec z ok :: ts) := by
 have hp := List.pairwise_cons.1 h.pw
 have hp2 := List.pairwise_cons.1 hp.2
 have hp3 := List.pairwise_cons.1 hp2.2
 refine ⟨h.below, ?_, .cons ?_ hp3.2⟩
 ·intro x hx
  rcases List.mem_cons.1 hx with rfl | hx
  ·refine ⟨⟨h.b0, fun e => hp.1 _ (List.mem_cons_self ..) lo rfl e, fun e => hp.1 _ (List.mem_cons_of_mem _ (List.mem_cons_self ..)) lo rfl e, fun e => hp2.1 _ (List.mem_cons_self ..) bo rfl e, v, h.b1, h.b2⟩, ?_⟩
   rintro k (hk | hk | hk)
   ·exact (h.th (bT lo (.loop rec)) (by simp)).2 k hk
   ·exact (h.th (vT bo 49 #[v]) (by simp)).2 k hk
   ·exact (h.th (rT Kd.string 9 base ok v z) (by simp)).2 k hk
  ·exact h.th x (by simp [hx])
 ·intro x hx k h7 h8
  rcases h7 with h7 | h7 | h7
  ·exact hp.1 x (by simp [hx]) k h7 h8
  ·exact hp2.1 x (by simp [hx]) k h7 h8
  ·exact hp3.1 x hx k h7 h8
/-- An object is written. -/
theorem Fz.obj {b : Nat} {o o' : Obj} (h : Fz w W (bT b o :: ts)) : Fz w (W.putObj b o') (bT b o' :: ts) :=
 h.change _ (by simp [World.putObj]) ⟨rfl, rfl, rfl⟩ (fun k _ hk => World.putObj_heap_other (fun e => hk e)) (World.putObj_heap_same (blk_lt h.b0)) (fun k hk => .inl hk)
/-- A row that a call has made longer. -/
theorem Fz.longer {v' : Value} {z' : List ByteArray} (h : Fz w W (rT Kd.string 9 base ok v z :: ts)) (hg : W.grownBy W' v.ownBlock) (hown : W'.ownsRow base 9 1 v' z'.length (z'.map Value.string)) (hat : v'.ownBlock = v.ownBlock ∨ v'.ownBlock = some W.heap.size) :
  ∃ ok', Fz w W' (rT Kd.string 9 base ok' v' z' :: ts) := by
 have hR := (show Kd.R Kd.string 9 W base ok v z from h.b0)
 refine ⟨fun k => some k = v'.ownBlock, h.change _ hg.size ⟨hg.os, hg.tape, hg.output⟩ (fun k hk hn => hg.block k hk (fun e => hn (hR.1 k e.symm))) ?_ ?_⟩
 ·exact ⟨fun k hk => hk.symm, _, hown, repsB _ _ _ _⟩
 ·intro k hk
  have hk : some k = v'.ownBlock := hk
  rcases hat with h1 | h1
  ·rw [h1] at hk
   exact .inl (hR.1 k hk.symm)
  ·rw [h1] at hk
   obtain rfl : k = W.heap.size := Option.some.inj hk
   exact .inr ⟨Nat.le_refl _, own_lt hown _ h1⟩
theorem R_ownB (h : Kd.R Kd.string 9 W base ok v z) : W.ownsRow base 9 1 v z.length (z.map Value.string) := by
 obtain ⟨_, inner, ho, hr⟩ := h
 have e : inner = z.map Value.string := by
  refine List.ext_getElem? fun j => ?_
  have hl : inner.length = z.length * 1 := hr.1
  by_cases hj : j < z.length
  ·have h2 : (inner.drop (j * 1)).take 1 = [Value.string z[j]] := hr.2 j z[j] (List.getElem?_eq_getElem hj)
   rw [Nat.mul_one, List.drop_eq_getElem_cons (by omega), List.take_succ_cons] at h2
   have h3 : inner[j]'(by omega) = Value.string z[j] := (List.cons.inj h2).1
   rw [List.getElem?_eq_getElem (by omega), h3, List.getElem?_map, List.getElem?_eq_getElem hj]; rfl
  ·rw [List.getElem?_eq_none (by omega), List.getElem?_eq_none (by simp; omega)]
 rw [← e]; exact ho
end
end Go.Proofs.YtbndfgoklgdfdaaGreatDoor.P
end
section
set_option linter.unusedSimpArgs false
namespace Go.Proofs.YtbndfgoklgdfdaaGreatDoor.P
open Go.RowKit Go.Proofs.YtbndfgoklgdfdaaGreatDoorW.PrintWords Go.Proofs.YtbndfgoklgdfdaaGreatDoorW.PrintLast Go.Proofs.YtbndfgoklgdfdaaGreatDoorW.PrintMore
set_option maxRecDepth 100000 in
set_option maxHeartbeats 16000000 in
theorem isForm_on : ∀ (n : Nat) (x : Tree), SizeOf.sizeOf x < n → szT x = true → IsOn 66 isFormT x
 | 0, x, h, _ => absurd h (Nat.not_lt_zero _)
 | n + 1, x, hn_, hz => by
  intro A c w hc hC
  have HIH : Hid (∀ y ∈ x.f2, IsOn 66 isFormT y) := Lib.hid fun y hy => isForm_on n y (by have := kid_lt hy; omega) (szT_mem hz hy)
  have HTM := Lib.hid (isTerm_on _ x (Nat.lt_succ_self _) hz)
  have HZT := Lib.hid hz
  have HC := Lib.hid hC
  have HCC := Lib.hid hc
  clear hC hc hz
  obtain ⟨k, s, l⟩ := x
  have HZ : Hid (s.size ≤ strMax) := Lib.hid (szT_name HZT.out)
  have HE := Lib.hid (isFormT_eq k s l)
  clear hn_
  have hng : ((l.length : Int) == -1) = false := beq_eq_false_iff_ne.2 (by omega)
  have key : ∀ (k : Int) (e : Bool) (m : Int), k = 15 ∨ k = 18 ∨ k = 19 ∨ k = 20 ∧ e = false ∨ k = 20 ∧ e = true ∧ (m == 0) = false ∨ k = 20 ∧ e = true ∧ (m == 0) = true ∨ k = 21 ∧ e = false ∨ k = 21 ∧ e = true ∧ (m == 0) = false ∨ k = 21 ∧ e = true ∧ (m == 0) = true ∨ k = 29 ∧ e = false ∨ k = 29 ∧ e = true ∧ (m == 1) = false ∨ k = 29 ∧ e = true ∧ (m == 1) = true ∨ k = 30 ∧ e = false ∨ k = 30 ∧ e = true ∧ (m == 1) = false ∨ k = 30 ∧ e = true ∧ (m == 1) = true ∨ k = 22 ∧ e = false ∨ k = 22 ∧ e = true ∧ (m == 2) = false ∨ k = 22 ∧ e = true ∧ (m == 2) = true ∨ k = 23 ∧ e = false ∨ k = 23 ∧ e = true ∧ (m == 2) = false ∨ k = 23 ∧ e = true ∧ (m == 2) = true ∨ k = 24 ∧ e = false ∨ k = 24 ∧ e = true ∧ (m == 2) = false ∨ k = 24 ∧ e = true ∧ (m == 2) = true ∨ k = 25 ∧ e = false ∨ k = 25 ∧ e = true ∧ (m == 2) = false ∨ k = 25 ∧ e = true ∧ (m == 2) = true ∨ k = 26 ∧ e = false ∨ k = 26 ∧ e = true ∧ (m == 2) = false ∨ k = 26 ∧ e = true ∧ (m == 2) = true ∨ k = 27 ∧ e = false ∨ k = 27 ∧ e = true ∧ (m == 2) = false ∨ k = 27 ∧ e = true ∧ (m == 2) = true ∨ k = 28 ∧ e = false ∨ k = 28 ∧ e = true ∧ (m == 2) = false ∨ k = 28 ∧ e = true ∧ (m == 2) = true ∨ (k == 15) = false ∧ k ≠ 15 ∧ (k == 18) = false ∧ k ≠ 18 ∧ (k == 19) = false ∧ k ≠ 19 ∧ (k == 20) = false ∧ k ≠ 20 ∧ (k == 21) = false ∧ k ≠ 21 ∧ (k == 29) = false ∧ k ≠ 29 ∧ (k == 30) = false ∧ k ≠ 30 ∧ (k == 22) = false ∧ k ≠ 22 ∧ (k == 23) = false ∧ k ≠ 23 ∧ (k == 24) = false ∧ k ≠ 24 ∧ (k == 25) = false ∧ k ≠ 25 ∧ (k == 26) = false ∧ k ≠ 26 ∧ (k == 27) = false ∧ k ≠ 27 ∧ (k == 28) = false ∧ k ≠ 28 := by
   intro k e m
   by_cases y15 : k = 15
   ·skip
    subst y15
    cases e <;> simp <;> omega
   by_cases y18 : k = 18
   ·clear y15
    subst y18
    cases e <;> simp <;> omega
   by_cases y19 : k = 19
   ·clear y15 y18
    subst y19
    cases e <;> simp <;> omega
   by_cases y20 : k = 20
   ·clear y15 y18 y19
    subst y20
    cases e <;> simp <;> omega
   by_cases y21 : k = 21
   ·clear y15 y18 y19 y20
    subst y21
    cases e <;> simp <;> omega
   by_cases y29 : k = 29
   ·clear y15 y18 y19 y20 y21
    subst y29
    cases e <;> simp <;> omega
   by_cases y30 : k = 30
   ·clear y15 y18 y19 y20 y21 y29
    subst y30
    cases e <;> simp <;> omega
   by_cases y22 : k = 22
   ·clear y15 y18 y19 y20 y21 y29 y30
    subst y22
    cases e <;> simp <;> omega
   by_cases y23 : k = 23
   ·clear y15 y18 y19 y20 y21 y29 y30 y22
    subst y23
    cases e <;> simp <;> omega
   by_cases y24 : k = 24
   ·clear y15 y18 y19 y20 y21 y29 y30 y22 y23
    subst y24
    cases e <;> simp <;> omega
   by_cases y25 : k = 25
   ·clear y15 y18 y19 y20 y21 y29 y30 y22 y23 y24
    subst y25
    cases e <;> simp <;> omega
   by_cases y26 : k = 26
   ·clear y15 y18 y19 y20 y21 y29 y30 y22 y23 y24 y25
    subst y26
    cases e <;> simp <;> omega
   by_cases y27 : k = 27
   ·clear y15 y18 y19 y20 y21 y29 y30 y22 y23 y24 y25 y26
    subst y27
    cases e <;> simp <;> omega
   by_cases y28 : k = 28
   ·clear y15 y18 y19 y20 y21 y29 y30 y22 y23 y24 y25 y26 y27
    subst y28
    cases e <;> simp <;> omega
   cases e <;> simp [y15, y18, y19, y20, y21, y29, y30, y22, y23, y24, y25, y26, y27, y28]
  rcases key k (s.toList == ([] : List UInt8)) (l.length : Int) with rfl | rfl | rfl | ⟨rfl, he⟩ | ⟨rfl, he, hm⟩ | ⟨rfl, he, hm⟩ | ⟨rfl, he⟩ | ⟨rfl, he, hm⟩ | ⟨rfl, he, hm⟩ | ⟨rfl, he⟩ | ⟨rfl, he, hm⟩ | ⟨rfl, he, hm⟩ | ⟨rfl, he⟩ | ⟨rfl, he, hm⟩ | ⟨rfl, he, hm⟩ | ⟨rfl, he⟩ | ⟨rfl, he, hm⟩ | ⟨rfl, he, hm⟩ | ⟨rfl, he⟩ | ⟨rfl, he, hm⟩ | ⟨rfl, he, hm⟩ | ⟨rfl, he⟩ | ⟨rfl, he, hm⟩ | ⟨rfl, he, hm⟩ | ⟨rfl, he⟩ | ⟨rfl, he, hm⟩ | ⟨rfl, he, hm⟩ | ⟨rfl, he⟩ | ⟨rfl, he, hm⟩ | ⟨rfl, he, hm⟩ | ⟨rfl, he⟩ | ⟨rfl, he, hm⟩ | ⟨rfl, he, hm⟩ | ⟨rfl, he⟩ | ⟨rfl, he, hm⟩ | ⟨rfl, he, hm⟩ | ⟨g15, q15, g18, q18, g19, q19, g20, q20, g21, q21, g29, q29, g30, q30, g22, q22, g23, q23, g24, q24, g25, q25, g26, q26, g27, q27, g28, q28⟩
  all_goals
   go_enter Tryz.func66, Tryz.ntmps66
   go_wp2_with (first
    | ((with_reducible refine gate_dst (N := 1) rfl ?_); refine ev_tree (x := ⟨_, s, l⟩) (A := A) (c := c) rfl rfl rfl rfl ?_; intro b w1_ HX; obtain ⟨qa_, qb_, qc_⟩ := rd3 HX.out.at_; try dsimp only at qa_ qb_ qc_)
    | (go_at_call 65; refine (HTM.out A c _ HCC.out (HX.out.C HC.out)).mono ?_; rintro e w2_ ⟨rfl, hb_⟩; clear qa_ qb_ qc_; have HX2_ := Lib.hid (HX.out.call hb_); clear HX hb_; have HX := HX2_; clear HX2_; obtain ⟨qa_, qb_, qc_⟩ := rd3 HX.out.at_; try dsimp only at qa_ qb_ qc_)
    | (go_at_call 62; refine (every_on _ enters_isForm isFormT l HIH.out A c _ (HX.out.C HC.out)).mono ?_; rintro e w2_ ⟨rfl, hb_⟩; clear qa_ qb_ qc_; have HX2_ := Lib.hid (HX.out.call hb_); clear HX hb_; have HX := HX2_; clear HX2_; obtain ⟨qa_, qb_, qc_⟩ := rd3 HX.out.at_; try dsimp only at qa_ qb_ qc_)
    | (go_at_call 116; refine (binds_on _ enters_isForm isFormT ⟨_, s, l⟩ HZT.out HIH.out A c _ HCC.out (HX.out.C HC.out)).mono ?_; rintro e w2_ ⟨rfl, hb_⟩; clear qa_ qb_ qc_; have HX2_ := Lib.hid (HX.out.call hb_); clear HX hb_; have HX := HX2_; clear HX2_; obtain ⟨qa_, qb_, qc_⟩ := rd3 HX.out.at_; try dsimp only at qa_ qb_ qc_))
   go_ret
   exact ⟨by rw [HE.out]; first | (simp [sizeF, *]; done) | (simp [sizeF, *]; intro h_; omega), HX.out.below⟩
end Go.Proofs.YtbndfgoklgdfdaaGreatDoor.P
end
