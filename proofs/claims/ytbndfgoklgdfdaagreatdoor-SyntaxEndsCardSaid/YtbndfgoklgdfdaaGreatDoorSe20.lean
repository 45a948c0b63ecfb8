/- syntax's printer: a tree (printed by mkprt.py). syntax's printer: a tree: items, formulas (printed by mkprt.py). What is printed of a valid tree that is no text is not empty. lex.Scan's contract for texts of any length. syntax.short: a text that is not too long, and has not too many tokens; strings.Builder's String at a printer. syntax.printed, syntax.Print. syntax.parse's deferred closure: what it does where the parser has refused a token; where it has not. -/
import Derived.Test.YtbndfgoklgdfdaaGreatDoorSe19
import Derived.Test.YtbndfgoklgdfdaaGreatDoorSe08
import Derived.Test.YtbndfgoklgdfdaaGreatDoorSe09
import Derived.Test.YtbndfgoklgdfdaaGreatDoorSe05
import Derived.Test.YtbndfgoklgdfdaaGreatDoorSe13
import Derived.Test.YtbndfgoklgdfdaaGreatDoorSe11
set_option linter.all false
section
set_option linter.unusedSimpArgs false
namespace Go.Proofs.YtbndfgoklgdfdaaGreatDoor.P
open Go.RowKit Go.Proofs.YtbndfgoklgdfdaaGreatDoorW.PrintWords Go.Proofs.YtbndfgoklgdfdaaGreatDoorW.PrintLast Go.Proofs.YtbndfgoklgdfdaaGreatDoorW.PrintMore
theorem run_prt {o : Oper} {a : Act} {W : World} {v : Operand} (ho : o.op = .box 105 v) (hv : a.eval v = .agg #[.pointer none, nilS]) : (execOp a.eval o).run Tryz.prog W = .ok (.value (.pointer (some ⟨W.heap.size, 0, none⟩))) (W.alloc (.cells #[.pointer none, nilS] 105 (0, 0))) := by
 unfold execOp
 rw [ho]
 simp only [hv]
 first | (go_simp; done) | (go_simp; rfl)
set_option maxRecDepth 100000 in
set_option maxHeartbeats 8000000 in
theorem printed_nil (s : ByteArray) (A : Option Addr) (c : Nat) (w : World) :
  Calls Tryz.prog 52 #[.agg (tN ⟨1, s, []⟩ A c)] w fun e W' => e = .returned (.string ⟨([]).toArray⟩) ∧ Below w.heap.size w W' := by
 have HF := Lib.hid (Fz.refl w)
 go_enter Tryz.func52, Tryz.ntmps52
 go_wp2_with (first
  | ((with_reducible refine gate_dst (N := 1) rfl ?_); refine ez_box (t := 25) (cs := (tN ⟨1, s, []⟩ A c)) HF rfl rfl (run_tree rfl rfl) ?_; clear HF; intro b1 w1 HF)
  | ((with_reducible refine gate_dst (N := 7) rfl ?_); refine ez_box (t := 105) (cs := #[.pointer none, nilS]) HF rfl rfl (run_prt rfl rfl) ?_; clear HF; intro g w2 HF; obtain ⟨q3a, q3b, q3c⟩ := rd3 HF.out.b1))
 replace HF := Lib.hid HF.out.swap
 replace HF := Lib.hid HF.out.swap
 go_loopw [18] (fun i wr => i = .int .i64 0 ∧ Hid (Fz w wr (vT g 105 #[.pointer none, nilS] :: vT b1 25 (tN ⟨1, s, []⟩ A c) :: []))) (fun _ _ => 0)
 case atStart => exact ⟨rfl, HF⟩
 case round =>
 clear HF; clear q3a q3b q3c
 obtain ⟨rfl, HF⟩ := hrel
 go_wp2_with fail
 refine (str_nil _ _ _ g _ HF).mono ?_
 rintro e w4 ⟨rfl, hb_⟩
 have HB := Lib.hid hb_
 clear HF hb_
 go_wp2_with fail
 go_ret
 exact ⟨rfl, HB.out⟩
set_option maxRecDepth 100000 in
set_option maxHeartbeats 8000000 in
theorem printed_text (s : ByteArray) (l : List Tree) (hit : ∀ y ∈ l, isItemT y = true) (w : World) (hg : GOK w) (A : Option Addr) (c : Nat) (hC : Kd.C k25 w A l.length l) (hlen : (linesS l).length ≤ outMax) (hne : linesS l ≠ []) :
  Calls Tryz.prog 52 #[.agg (tN ⟨1, s, l⟩ A c)] w fun e W' => e = .returned (.string ⟨(linesS l).toArray⟩) ∧ Below w.heap.size w W' := by
 have HC := Lib.hid hC
 have HIT := Lib.hid hit
 have HG := Lib.hid hg
 have HL := Lib.hid hlen
 have HNE := Lib.hid hne
 have hln : l.length ≤ 9223372036854775807 := hC.2.1
 clear hC hit hg hlen hne
 have HF := Lib.hid (Fz.refl w)
 go_enter Tryz.func52, Tryz.ntmps52
 go_wp2_with (first
  | ((with_reducible refine gate_dst (N := 1) rfl ?_); refine ez_box (t := 25) (cs := (tN ⟨1, s, l⟩ A c)) HF rfl rfl (run_tree rfl rfl) ?_; clear HF; intro b1 w5 HF)
  | ((with_reducible refine gate_dst (N := 7) rfl ?_); refine ez_box (t := 105) (cs := #[.pointer none, nilS]) HF rfl rfl (run_prt rfl rfl) ?_; clear HF; intro g w6 HF; obtain ⟨q7a, q7b, q7c⟩ := rd3 HF.out.b1))
 replace HF := Lib.hid HF.out.swap
 replace HF := Lib.hid HF.out.swap
 replace HF := Lib.hid HF.out.pr
 go_loopw [18] (fun i wr => ∃ (k_ : Nat) (ok' : Nat → Prop) (pre : List UInt8), i = .int .i64 k_ ∧ k_ ≤ l.length ∧ Hid (pre ++ linesS (l.drop k_) = linesS l) ∧ Hid (Fz w wr (prT g w.heap.size ok' pre :: vT b1 25 (tN ⟨1, s, l⟩ A c) :: []))) (fun i _ => l.length - (intOf i).toNat)
 case atStart => exact ⟨0, _, [], rfl, Nat.zero_le _, Lib.hid rfl, HF⟩
 case round =>
  clear HF; clear q7a q7b q7c
  obtain ⟨k_, ok', pre, rfl, hk_, HP, HF⟩ := hrel
  by_cases hlt : k_ < l.length
  ·obtain ⟨a0, A2, c2, e0, p0, p1, p2, hl2, hc2⟩ := at_T25 HC.out k_ (by omega) (by omega)
   subst e0
   obtain ⟨x, hx⟩ : ∃ x, x = rd_T25 l k_ := ⟨_, rfl⟩
   have hdr := rdN_drop l k_ hlt
   have hmem := rdN_mem l k_ hlt
   rw [← hx] at p0 p1 p2 hl2 hc2 hdr hmem
   rw [Int.toNat_natCast] at p0 p1 p2
   have HX := Lib.hid (item_writes x (HIT.out x hmem))
   have HL2 := Lib.hid hl2
   have HC2 := Lib.hid hc2
   have hP := HP.out
   rw [hdr, linesS] at hP
   have HP2 := Lib.hid hP
   have HLN : Hid (pre.length + ((itemS x).length + 1) ≤ outMax) := Lib.hid (by have h1 := congrArg List.length hP; have h2 := HL.out; simp at h1 h2 ⊢; omega)
   have KX := Lib.hid (And.intro p0 (And.intro p1 p2))
   clear hx hl2 hc2 hP hdr hmem HP p0 p1 p2
   obtain ⟨p0, p1, p2⟩ : _ ∧ _ ∧ _ := ⟨pw_cell_below HF.out.below KX.out.1, pw_cell_below HF.out.below KX.out.2.1, pw_cell_below HF.out.below KX.out.2.2⟩
   go_wp2_with (first
    | ((with_reducible refine gate_dst (N := 5) rfl ?_); refine ez_box (t := 25) (cs := zN) HF rfl rfl (run_node rfl) ?_; clear HF; clear p0 p1 p2; intro b5 w8 HF)
    | ((with_reducible refine gate_store (t := 25) (p := 5) rfl ?_); refine ez_put (p := 5) HF rfl rfl rfl rfl rfl rfl rfl ?_; clear HF; intro w9 HF; obtain ⟨q10a, q10b, q10c⟩ := rd3 HF.out.b0))
   replace HF := Lib.hid HF.out.up3
   replace HF := Lib.hid HF.out.swap
   replace HF := Lib.hid HF.out.up3
   refine (HX.out w _ g A2 c2 HG.out HL2.out HC2.out _ _ _ HF (by have := HLN.out; have e_ : outMax = 140737488355328 := rfl; simp at this ⊢; omega)).mono ?_
   rintro e w11 ⟨rfl, oko12, HFn⟩
   clear HF; clear q10a q10b q10c
   have HF := HFn
   clear HFn
   go_wp2_with fail
   refine (ws_lit [10] HF (by have := HLN.out; have e_ : outMax = 140737488355328 := rfl; simp at this ⊢; omega)).mono ?_
   rintro e w13 ⟨rfl, oko14, HFn⟩
   clear HF
   have HF := HFn
   clear HFn
   go_wp2_with fail
   replace HF := Lib.hid HF.out.swap
   replace HF := Lib.hid HF.out.lose
   go_roundw
   case rel => exact ⟨k_ + 1, _, pre ++ (itemS x ++ [10]), by go_num, by omega, Lib.hid (by have := HP2.out; simpa only [List.append_assoc] using this), by simpa only [List.append_assoc, List.cons_append, List.nil_append] using HF⟩
   case measure => simp [intOf]; omega
  ·have hke_ : k_ = l.length := by omega
   have hP := HP.out
   rw [List.drop_of_length_le (by omega), linesS, List.append_nil] at hP
   subst hP
   clear HP
   go_wp2_with fail
   refine (str_on _ _ _ g _ _ HF HNE.out).mono ?_
   rintro e w15 ⟨rfl, hb_⟩
   have HB := Lib.hid hb_
   clear HF hb_
   go_wp2_with fail
   go_ret
   exact ⟨rfl, HB.out⟩
set_option maxRecDepth 100000 in
set_option maxHeartbeats 8000000 in
theorem printed_typ (k : Int) (s : ByteArray) (l : List Tree) (t : List UInt8) (hk : k = 31) (A : Option Addr) (c : Nat) (w : World) (hw : ∀ (ts : List Th) (g : Nat), Writes 95 #[.pointer (some ⟨g, 0, none⟩), .agg (tN ⟨k, s, l⟩ A c)] w ts g t) (hne : t ≠ []) (hlen : t.length ≤ outMax) :
  Calls Tryz.prog 52 #[.agg (tN ⟨k, s, l⟩ A c)] w fun e W' => e = .returned (.string ⟨(t).toArray⟩) ∧ Below w.heap.size w W' := by
 have HW := Lib.hid hw
 have HNE := Lib.hid hne
 have HL : Hid (0 + t.length ≤ outMax) := Lib.hid (by omega)
 clear hw hne
 subst hk
 have HF := Lib.hid (Fz.refl w)
 go_enter Tryz.func52, Tryz.ntmps52
 go_wp2_with (first
  | ((with_reducible refine gate_dst (N := 1) rfl ?_); refine ez_box (t := 25) (cs := (tN ⟨31, s, l⟩ A c)) HF rfl rfl (run_tree rfl rfl) ?_; clear HF; intro b1 w16 HF)
  | ((with_reducible refine gate_dst (N := 7) rfl ?_); refine ez_box (t := 105) (cs := #[.pointer none, nilS]) HF rfl rfl (run_prt rfl rfl) ?_; clear HF; intro g w17 HF; obtain ⟨q18a, q18b, q18c⟩ := rd3 HF.out.b1))
 replace HF := Lib.hid HF.out.swap
 replace HF := Lib.hid HF.out.swap
 replace HF := Lib.hid HF.out.pr
 refine (HW.out _ g _ _ _ HF (by have := HL.out; simpa using this)).mono ?_
 rintro e w19 ⟨rfl, oko20, HFn⟩
 clear HF; clear q18a q18b q18c
 have HF := HFn
 clear HFn
 go_wp2_with fail
 replace HF := Lib.hid (show Hid (Fz w _ (prT g w.heap.size _ t :: _)) from HF).out
 refine (str_on _ _ _ g _ _ HF HNE.out).mono ?_
 rintro e w21 ⟨rfl, hb_⟩
 have HB := Lib.hid hb_
 clear HF hb_
 go_wp2_with fail
 go_ret
 exact ⟨rfl, HB.out⟩
set_option maxRecDepth 100000 in
set_option maxHeartbeats 8000000 in
theorem printed_lam (k : Int) (s : ByteArray) (l : List Tree) (t : List UInt8) (hk : k = 17) (A : Option Addr) (c : Nat) (w : World) (hw : ∀ (ts : List Th) (g : Nat), Writes 96 #[.pointer (some ⟨g, 0, none⟩), .agg (tN ⟨k, s, l⟩ A c)] w ts g t) (hne : t ≠ []) (hlen : t.length ≤ outMax) :
  Calls Tryz.prog 52 #[.agg (tN ⟨k, s, l⟩ A c)] w fun e W' => e = .returned (.string ⟨(t).toArray⟩) ∧ Below w.heap.size w W' := by
 have HW := Lib.hid hw
 have HNE := Lib.hid hne
 have HL : Hid (0 + t.length ≤ outMax) := Lib.hid (by omega)
 clear hw hne
 subst hk
 have HF := Lib.hid (Fz.refl w)
 go_enter Tryz.func52, Tryz.ntmps52
 go_wp2_with (first
  | ((with_reducible refine gate_dst (N := 1) rfl ?_); refine ez_box (t := 25) (cs := (tN ⟨17, s, l⟩ A c)) HF rfl rfl (run_tree rfl rfl) ?_; clear HF; intro b1 w22 HF)
  | ((with_reducible refine gate_dst (N := 7) rfl ?_); refine ez_box (t := 105) (cs := #[.pointer none, nilS]) HF rfl rfl (run_prt rfl rfl) ?_; clear HF; intro g w23 HF; obtain ⟨q24a, q24b, q24c⟩ := rd3 HF.out.b1))
 replace HF := Lib.hid HF.out.swap
 replace HF := Lib.hid HF.out.swap
 replace HF := Lib.hid HF.out.pr
 refine (HW.out _ g _ _ _ HF (by have := HL.out; simpa using this)).mono ?_
 rintro e w25 ⟨rfl, oko26, HFn⟩
 clear HF; clear q24a q24b q24c
 have HF := HFn
 clear HFn
 go_wp2_with fail
 replace HF := Lib.hid (show Hid (Fz w _ (prT g w.heap.size _ t :: _)) from HF).out
 refine (str_on _ _ _ g _ _ HF HNE.out).mono ?_
 rintro e w27 ⟨rfl, hb_⟩
 have HB := Lib.hid hb_
 clear HF hb_
 go_wp2_with fail
 go_ret
 exact ⟨rfl, HB.out⟩
set_option maxRecDepth 100000 in
set_option maxHeartbeats 8000000 in
theorem printed_var (k : Int) (s : ByteArray) (l : List Tree) (t : List UInt8) (hk : k = 16) (A : Option Addr) (c : Nat) (w : World) (hw : ∀ (ts : List Th) (g : Nat), Writes 96 #[.pointer (some ⟨g, 0, none⟩), .agg (tN ⟨k, s, l⟩ A c)] w ts g t) (hne : t ≠ []) (hlen : t.length ≤ outMax) :
  Calls Tryz.prog 52 #[.agg (tN ⟨k, s, l⟩ A c)] w fun e W' => e = .returned (.string ⟨(t).toArray⟩) ∧ Below w.heap.size w W' := by
 have HW := Lib.hid hw
 have HNE := Lib.hid hne
 have HL : Hid (0 + t.length ≤ outMax) := Lib.hid (by omega)
 clear hw hne
 subst hk
 have HF := Lib.hid (Fz.refl w)
 go_enter Tryz.func52, Tryz.ntmps52
 go_wp2_with (first
  | ((with_reducible refine gate_dst (N := 1) rfl ?_); refine ez_box (t := 25) (cs := (tN ⟨16, s, l⟩ A c)) HF rfl rfl (run_tree rfl rfl) ?_; clear HF; intro b1 w28 HF)
  | ((with_reducible refine gate_dst (N := 7) rfl ?_); refine ez_box (t := 105) (cs := #[.pointer none, nilS]) HF rfl rfl (run_prt rfl rfl) ?_; clear HF; intro g w29 HF; obtain ⟨q30a, q30b, q30c⟩ := rd3 HF.out.b1))
 replace HF := Lib.hid HF.out.swap
 replace HF := Lib.hid HF.out.swap
 replace HF := Lib.hid HF.out.pr
 refine (HW.out _ g _ _ _ HF (by have := HL.out; simpa using this)).mono ?_
 rintro e w31 ⟨rfl, oko32, HFn⟩
 clear HF; clear q30a q30b q30c
 have HF := HFn
 clear HFn
 go_wp2_with fail
 replace HF := Lib.hid (show Hid (Fz w _ (prT g w.heap.size _ t :: _)) from HF).out
 refine (str_on _ _ _ g _ _ HF HNE.out).mono ?_
 rintro e w33 ⟨rfl, hb_⟩
 have HB := Lib.hid hb_
 clear HF hb_
 go_wp2_with fail
 go_ret
 exact ⟨rfl, HB.out⟩
end Go.Proofs.YtbndfgoklgdfdaaGreatDoor.P
end
section
set_option linter.unusedSimpArgs false
namespace Go.Proofs.YtbndfgoklgdfdaaGreatDoor.P
open Go.RowKit Go.Proofs.YtbndfgoklgdfdaaGreatDoorW.PrintWords Go.Proofs.YtbndfgoklgdfdaaGreatDoorW.PrintLast Go.Proofs.YtbndfgoklgdfdaaGreatDoorW.PrintMore
set_option maxRecDepth 100000 in
set_option maxHeartbeats 8000000 in
theorem printed_item (k : Int) (s : ByteArray) (l : List Tree) (t : List UInt8) (h1 : k ≠ 1) (h31 : k ≠ 31) (h17 : ¬ (k = 17 ∨ k = 16)) (hwd : wordS k ≠ []) (A : Option Addr) (c : Nat) (w : World) (hw : ∀ (ts : List Th) (g : Nat), Writes 93 #[.pointer (some ⟨g, 0, none⟩), .agg (tN ⟨k, s, l⟩ A c)] w ts g t) (hne : t ≠ []) (hlen : t.length ≤ outMax) :
  Calls Tryz.prog 52 #[.agg (tN ⟨k, s, l⟩ A c)] w fun e W' => e = .returned (.string ⟨(t).toArray⟩) ∧ Below w.heap.size w W' := by
 have HW := Lib.hid hw
 have HNE := Lib.hid hne
 have HL : Hid (0 + t.length ≤ outMax) := Lib.hid (by omega)
 have HWD0 := Lib.hid hwd
 clear hw hne hwd
 have hk1_ : (k == 1) = false := beq_eq_false_iff_ne.2 h1
 have hk31_ : (k == 31) = false := beq_eq_false_iff_ne.2 h31
 have hk17_ : (k == 17) = false := beq_eq_false_iff_ne.2 (fun e => h17 (.inl e))
 have hk16_ : (k == 16) = false := beq_eq_false_iff_ne.2 (fun e => h17 (.inr e))
 have HF := Lib.hid (Fz.refl w)
 go_enter Tryz.func52, Tryz.ntmps52
 go_wp2_with (first
  | ((with_reducible refine gate_dst (N := 1) rfl ?_); refine ez_box (t := 25) (cs := (tN ⟨k, s, l⟩ A c)) HF rfl rfl (run_tree rfl rfl) ?_; clear HF; intro b1 w34 HF)
  | ((with_reducible refine gate_dst (N := 7) rfl ?_); refine ez_box (t := 105) (cs := #[.pointer none, nilS]) HF rfl rfl (run_prt rfl rfl) ?_; clear HF; intro g w35 HF; obtain ⟨q36a, q36b, q36c⟩ := rd3 HF.out.b1))
 clear hk1_ hk31_ hk17_ hk16_
 replace HF := Lib.hid HF.out.swap
 replace HF := Lib.hid HF.out.swap
 replace HF := Lib.hid HF.out.pr
 obtain ⟨wd, hwe⟩ : ∃ wd, wd = wordS k := ⟨_, rfl⟩
 have HWE := Lib.hid hwe
 clear hwe
 go_wp2_with fail
 go_wp2_with fail
 replace HF := Lib.hid HF.out.drew
 refine wp_only ?_
 refine start_ (n := 6) (S := (fun w' => True ∧ w'.cell? (⟨b1, 0, none⟩) = some (.int .i64 k))) (ds := [3]) #[false, false, false, false, false, false] (by kernel_rfl) rfl rfl ?_ (fun hHeld => ?_)
 ·exact ⟨trivial, (blk_cell HF.out.b1 0).trans rfl⟩
 refine pq 1 #[false, true, false, false, false, false] (h := ?_)
 refine tq hHeld 2 #[false, true, true, false, false, false] (h := ?_)
 refine one_ (i := 0) (N := some 50) #[true, true, true, false, false, false] rfl rfl (by kernel_rfl) (by decide) (fun K hK => ?_)
 clear hHeld
 go_simp
 refine (words_on _).mono ?_
 rintro e w37 ⟨bw, rfl, hW_, hb_⟩
 have HWD := Lib.hid hW_
 replace HF := Lib.hid (HF.out.step hb_)
 clear hW_ hb_
 refine hK.out _ _ (⟨trivial, (blk_cell HF.out.b1 0).trans rfl⟩) (fun hHeld => ?_)
 clear hK K
 (try simp only [Act.put, List.setIfInBounds_toArray, List.set_cons_zero, List.set_cons_succ])
 refine last_ (i := 3) (N := some 53) #[true, true, true, true, false, false] rfl rfl (by kernel_rfl) (by decide) (fun K hK => ?_)
 have hlk_ := words_look HWD.out k
 rw [← HWE.out] at hlk_
 refine sz_lookr (N := 53) (mv := .map (some bw)) (kv := .int .i64 k) rfl rfl rfl rfl rfl hlk_ ?_
 clear HWD hlk_
 refine hK.out _ _ ?_
 clear hK K
 (try simp only [Act.put, List.setIfInBounds_toArray, List.set_cons_zero, List.set_cons_succ])
 refine pq 4 (fl 6 5) (h := ?_)
 refine pq 5 (fl 6 6) (h := ?_)
 refine done_ (by kernel_rfl) ⟨rfl, ?_⟩
 skip
 try simp only [Act.put, List.setIfInBounds_toArray, List.set_cons_zero, List.set_cons_succ]
 obtain ⟨wx, wy, hwe_⟩ : ∃ wx wy, wd = wx :: wy := by rw [HWE.out]; have := HWD0.out; cases h : wordS k <;> simp_all
 clear HWE
 subst hwe_
 simp only [List.isEmpty_cons, Bool.not_false]
 obtain ⟨q38a, q38b, q38c⟩ := rd3 HF.out.b1
 go_wp2_with fail
 skip
 replace HF := Lib.hid HF.out.swap
 replace HF := Lib.hid HF.out.swap
 refine (HW.out _ g _ _ _ HF (by have := HL.out; simpa using this)).mono ?_
 rintro e w39 ⟨rfl, oko40, HFn⟩
 clear HF; clear q36a q36b q36c q38a q38b q38c
 have HF := HFn
 clear HFn
 go_wp2_with fail
 replace HF := Lib.hid (show Hid (Fz w _ (prT g w.heap.size _ t :: _)) from HF).out
 refine (str_on _ _ _ g _ _ HF HNE.out).mono ?_
 rintro e w41 ⟨rfl, hb_⟩
 have HB := Lib.hid hb_
 clear HF hb_
 go_wp2_with fail
 go_ret
 exact ⟨rfl, HB.out⟩
set_option maxRecDepth 100000 in
set_option maxHeartbeats 8000000 in
theorem printed_form (k : Int) (s : ByteArray) (l : List Tree) (t : List UInt8) (h1 : k ≠ 1) (h31 : k ≠ 31) (h17 : ¬ (k = 17 ∨ k = 16)) (hwd : wordS k = []) (A : Option Addr) (c : Nat) (w : World) (hw : ∀ (ts : List Th) (g : Nat), Writes 98 #[.pointer (some ⟨g, 0, none⟩), .agg (tN ⟨k, s, l⟩ A c), .int .i64 0, .bool true] w ts g t) (hne : t ≠ []) (hlen : t.length ≤ outMax) :
  Calls Tryz.prog 52 #[.agg (tN ⟨k, s, l⟩ A c)] w fun e W' => e = .returned (.string ⟨(t).toArray⟩) ∧ Below w.heap.size w W' := by
 have HW := Lib.hid hw
 have HNE := Lib.hid hne
 have HL : Hid (0 + t.length ≤ outMax) := Lib.hid (by omega)
 have HWD0 := Lib.hid hwd
 clear hw hne hwd
 have hk1_ : (k == 1) = false := beq_eq_false_iff_ne.2 h1
 have hk31_ : (k == 31) = false := beq_eq_false_iff_ne.2 h31
 have hk17_ : (k == 17) = false := beq_eq_false_iff_ne.2 (fun e => h17 (.inl e))
 have hk16_ : (k == 16) = false := beq_eq_false_iff_ne.2 (fun e => h17 (.inr e))
 have HF := Lib.hid (Fz.refl w)
 go_enter Tryz.func52, Tryz.ntmps52
 go_wp2_with (first
  | ((with_reducible refine gate_dst (N := 1) rfl ?_); refine ez_box (t := 25) (cs := (tN ⟨k, s, l⟩ A c)) HF rfl rfl (run_tree rfl rfl) ?_; clear HF; intro b1 w42 HF)
  | ((with_reducible refine gate_dst (N := 7) rfl ?_); refine ez_box (t := 105) (cs := #[.pointer none, nilS]) HF rfl rfl (run_prt rfl rfl) ?_; clear HF; intro g w43 HF; obtain ⟨q44a, q44b, q44c⟩ := rd3 HF.out.b1))
 clear hk1_ hk31_ hk17_ hk16_
 replace HF := Lib.hid HF.out.swap
 replace HF := Lib.hid HF.out.swap
 replace HF := Lib.hid HF.out.pr
 obtain ⟨wd, hwe⟩ : ∃ wd, wd = wordS k := ⟨_, rfl⟩
 have HWE := Lib.hid hwe
 clear hwe
 go_wp2_with fail
 go_wp2_with fail
 replace HF := Lib.hid HF.out.drew
 refine wp_only ?_
 refine start_ (n := 6) (S := (fun w' => True ∧ w'.cell? (⟨b1, 0, none⟩) = some (.int .i64 k))) (ds := [3]) #[false, false, false, false, false, false] (by kernel_rfl) rfl rfl ?_ (fun hHeld => ?_)
 ·exact ⟨trivial, (blk_cell HF.out.b1 0).trans rfl⟩
 refine pq 1 #[false, true, false, false, false, false] (h := ?_)
 refine tq hHeld 2 #[false, true, true, false, false, false] (h := ?_)
 refine one_ (i := 0) (N := some 50) #[true, true, true, false, false, false] rfl rfl (by kernel_rfl) (by decide) (fun K hK => ?_)
 clear hHeld
 go_simp
 refine (words_on _).mono ?_
 rintro e w45 ⟨bw, rfl, hW_, hb_⟩
 have HWD := Lib.hid hW_
 replace HF := Lib.hid (HF.out.step hb_)
 clear hW_ hb_
 refine hK.out _ _ (⟨trivial, (blk_cell HF.out.b1 0).trans rfl⟩) (fun hHeld => ?_)
 clear hK K
 (try simp only [Act.put, List.setIfInBounds_toArray, List.set_cons_zero, List.set_cons_succ])
 refine last_ (i := 3) (N := some 53) #[true, true, true, true, false, false] rfl rfl (by kernel_rfl) (by decide) (fun K hK => ?_)
 have hlk_ := words_look HWD.out k
 rw [← HWE.out] at hlk_
 refine sz_lookr (N := 53) (mv := .map (some bw)) (kv := .int .i64 k) rfl rfl rfl rfl rfl hlk_ ?_
 clear HWD hlk_
 refine hK.out _ _ ?_
 clear hK K
 (try simp only [Act.put, List.setIfInBounds_toArray, List.set_cons_zero, List.set_cons_succ])
 refine pq 4 (fl 6 5) (h := ?_)
 refine pq 5 (fl 6 6) (h := ?_)
 refine done_ (by kernel_rfl) ⟨rfl, ?_⟩
 skip
 try simp only [Act.put, List.setIfInBounds_toArray, List.set_cons_zero, List.set_cons_succ]
 obtain rfl : wd = [] := HWE.out.trans HWD0.out
 clear HWE
 simp only [List.isEmpty_nil, Bool.not_true]
 obtain ⟨q46a, q46b, q46c⟩ := rd3 HF.out.b1
 go_wp2_with fail
 skip
 replace HF := Lib.hid HF.out.swap
 replace HF := Lib.hid HF.out.swap
 refine (HW.out _ g _ _ _ HF (by have := HL.out; simpa using this)).mono ?_
 rintro e w47 ⟨rfl, oko48, HFn⟩
 clear HF; clear q44a q44b q44c q46a q46b q46c
 have HF := HFn
 clear HFn
 go_wp2_with fail
 replace HF := Lib.hid (show Hid (Fz w _ (prT g w.heap.size _ t :: _)) from HF).out
 refine (str_on _ _ _ g _ _ HF HNE.out).mono ?_
 rintro e w49 ⟨rfl, hb_⟩
 have HB := Lib.hid hb_
 clear HF hb_
 go_wp2_with fail
 go_ret
 exact ⟨rfl, HB.out⟩
end Go.Proofs.YtbndfgoklgdfdaaGreatDoor.P
end
section
set_option linter.unusedSimpArgs false
namespace Go.Proofs.YtbndfgoklgdfdaaGreatDoor.P
open Go.RowKit Go.Proofs.YtbndfgoklgdfdaaGreatDoorW.PrintWords Go.Proofs.YtbndfgoklgdfdaaGreatDoorW.PrintLast Go.Proofs.YtbndfgoklgdfdaaGreatDoorW.PrintMore
theorem ok_ne {k : Int} {s : ByteArray} (h : okT ⟨k, s, 0⟩ = true) : s.data.toList ≠ [] := by
 intro e
 unfold okT scanL at h
 dsimp only at h
 rw [e] at h
 simp [scanA, skipN] at h
theorem type_ne {x : Tree} (h : isTypeT x = true) : typeS x ≠ [] := by
 obtain ⟨k, s, l⟩ := x
 rw [isTypeT_eq] at h
 rcases Bool.or_eq_true _ _ ▸ h with h | h
 ·unfold isWordB at h
  simp only [Bool.and_eq_true, beq_iff_eq] at h
  rw [typeS, if_neg (by omega)]
  exact ok_ne h.1.2
 ·simp only [Bool.and_eq_true, beq_iff_eq] at h
  rw [typeS, if_pos h.1.1.1]
  rcases l with _ | ⟨a, _ | ⟨b, l⟩⟩
  ·simp at h
  ·simp at h
  ·simp [typeS2, typeS3]
theorem term_ne {x : Tree} (h : isTermT x = true) : termS x ≠ [] := by
 obtain ⟨k, s, l⟩ := x
 rw [isTermT_eq] at h
 rw [termS]
 by_cases h17 : k = 17
 ·rw [if_pos h17]; simp
 rw [if_neg h17]
 have hs : s.data.toList ≠ [] := by
  by_cases h15 : k = 15
  ·rw [if_pos h15] at h
   simp only [Bool.and_eq_true] at h
   exact ok_ne h.1
  rw [if_neg h15] at h
  by_cases h16 : k = 16
  ·rw [if_pos h16] at h
   simp only [Bool.and_eq_true] at h
   exact ok_ne h.1
  rw [if_neg h16, if_neg h17] at h
  cases h
 intro e
 exact hs (List.append_eq_nil_iff.1 e).1
theorem form_ne {x : Tree} (h : isFormT x = true) (lv : Int) (last : Bool) : formS x lv last ≠ [] := by
 obtain ⟨k, s, l⟩ := x
 rw [formS]
 cases hf : findP k with
 | some o =>
  dsimp only
  split <;> simp
 | none =>
  dsimp only
  by_cases hq : k = 18 ∨ k = 19
  ·rw [if_pos hq]
   have hqs : quantS k ≠ [] := by unfold quantS; split <;> simp
   split
   ·simp
   ·intro e; exact hqs (List.append_eq_nil_iff.1 e).1
  rw [if_neg hq]
  split
  ·simp
  split
  ·simp
  split
  ·simp
  split
  ·simp
  rename_i h20 h21 h29 h30
  rw [isFormT_eq] at h
  by_cases h15 : k = 15
  ·rw [if_pos h15] at h; exact term_ne h
  rw [if_neg h15, if_neg hq] at h
  simp only [Bool.and_eq_true, beq_iff_eq] at h
  exfalso
  have h2 := h.2.1
  have : k = 22 ∨ k = 23 ∨ k = 24 ∨ k = 25 ∨ k = 26 ∨ k = 27 ∨ k = 28 := by
   unfold sizeF at h2
   rw [if_neg (by omega), if_neg (by omega)] at h2
   split at h2
   ·assumption
   ·omega
  rcases this with rfl | rfl | rfl | rfl | rfl | rfl | rfl <;> exact absurd hf (by decide)
theorem item_ne (x : Tree) : itemS x ≠ [] := by unfold itemS; simp
theorem printed_ne {x : Tree} (h : isTreeT x = true) (h1 : x.f0 ≠ 1) : printedS x ≠ [] := by
 have hk := tree_kind h
 unfold printedS
 rw [if_neg h1]
 by_cases h31 : x.f0 = 31
 ·rw [if_pos h31]; exact type_ne (hk.2.1 h31)
 rw [if_neg h31]
 by_cases h17 : x.f0 = 17 ∨ x.f0 = 16
 ·rw [if_pos h17]; exact term_ne (hk.2.2.1 h17)
 rw [if_neg h17]
 by_cases hw : wordS x.f0 ≠ []
 ·rw [if_pos hw]; exact item_ne x
 rw [if_neg hw]
 exact form_ne (hk.2.2.2.2 h1 h31 h17 (Classical.not_not.1 hw)) 0 true
theorem lines_ne {l : List Tree} (h : l ≠ []) : linesS l ≠ [] := by
 cases l with
 | nil => exact absurd rfl h
 | cons x l => simp [linesS]
end Go.Proofs.YtbndfgoklgdfdaaGreatDoor.P
end
section
namespace Go.Proofs.YtbndfgoklgdfdaaGreatDoor.P
open Go.RowKit Go.Proofs.YtbndfgoklgdfdaaGreatDoorW.PrintWords Go.Proofs.YtbndfgoklgdfdaaGreatDoorW.PrintLast Go.Proofs.YtbndfgoklgdfdaaGreatDoorW.PrintMore

end Go.Proofs.YtbndfgoklgdfdaaGreatDoor.P
end
section
set_option linter.unusedSimpArgs false
namespace Go.Proofs.YtbndfgoklgdfdaaGreatDoor.P
open Go.RowKit Go.Proofs.YtbndfgoklgdfdaaGreatDoorW.PrintWords Go.Proofs.YtbndfgoklgdfdaaGreatDoorW.PrintLast Go.Proofs.YtbndfgoklgdfdaaGreatDoorW.PrintMore

def shortT (s : ByteArray) : ByteArray × Int := if 20000 < (s.size : Int) then (⟨#[]⟩, 2) else if (scanL s.data.toList).2.2 = 2 then (⟨#[]⟩, 2) else (s, 0)
set_option maxRecDepth 100000 in
set_option maxHeartbeats 4000000 in
theorem short_on (s : ByteArray) (hs : s.size ≤ strMax) (w : World) :
  Calls Tryz.prog 51 #[.string s] w fun e w' => e = .returned (.tuple #[.string (shortT s).1, .int .i64 (shortT s).2]) ∧ Below w.heap.size w w' := by
 by_cases h1 : 20000 < (s.size : Int)
 ·have hX : shortT s = (⟨#[]⟩, 2) := by unfold shortT; rw [if_pos h1]
  have HX := Lib.hid hX
  have h1t : (20000 < (s.size : Int)) = True := eq_true h1
  clear h1 hX
  go_enter Tryz.func51, Tryz.ntmps51
  go_wp2_with fail
  refine bodyPost_ret (v := .tuple #[.string ⟨#[]⟩, .int .i64 2]) (by simp [results, Tryz.results51, go_sem]) rfl ?_
  exact ⟨by rw [HX.out], Below.refl _ _⟩
 ·obtain ⟨l, at_, er, hsc⟩ : ∃ l at_ er, scanL s.data.toList = (l, at_, er) := ⟨_, _, _, rfl⟩
  have hscf : lex_Scan.f s = some (l, at_, er) := by unfold lex_Scan.f; rw [if_pos hs, hsc]
  have hX : shortT s = if er = 2 then (⟨#[]⟩, 2) else (s, 0) := by unfold shortT; rw [if_neg h1, hsc]
  have HX := Lib.hid hX
  have HSC := Lib.hid hscf
  have h1f : (20000 < (s.size : Int)) = False := eq_false h1
  clear h1 hX hscf hsc
  by_cases h2 : er = 2
  ·have hX2 : Hid (shortT s = (⟨#[]⟩, 2)) := Lib.hid (by rw [HX.out, if_pos h2])
   subst h2
   clear HX
   go_enter Tryz.func51, Tryz.ntmps51
   go_wp2_with (go_at_call 54; refine (lex_Scan.calls s l at_ 2 _ HSC.out).mono ?_; rintro e w1_ ⟨v_, rfl, hR_, hb_⟩; clear hR_; have HB := Lib.hid hb_; clear hb_)
   refine bodyPost_ret (v := .tuple #[.string ⟨#[]⟩, .int .i64 2]) (by simp [results, Tryz.results51, go_sem]) rfl ?_
   exact ⟨by rw [hX2.out], HB.out⟩
  ·have hX2 : Hid (shortT s = (s, 0)) := Lib.hid (by rw [HX.out, if_neg h2])
   have h2f : (er == 2) = false := beq_eq_false_iff_ne.2 h2
   clear HX h2
   go_enter Tryz.func51, Tryz.ntmps51
   go_wp2_with (go_at_call 54; refine (lex_Scan.calls s l at_ er _ HSC.out).mono ?_; rintro e w1_ ⟨v_, rfl, hR_, hb_⟩; clear hR_; have HB := Lib.hid hb_; clear hb_)
   refine bodyPost_ret (v := .tuple #[.string s, .int .i64 0]) (by simp [results, Tryz.results51, go_sem]) rfl ?_
   exact ⟨by rw [hX2.out], HB.out⟩
end Go.Proofs.YtbndfgoklgdfdaaGreatDoor.P
end
section
set_option linter.unusedSimpArgs false
namespace Go.Proofs.YtbndfgoklgdfdaaGreatDoor.P
open Go.RowKit Go.Proofs.YtbndfgoklgdfdaaGreatDoorW.PrintWords Go.Proofs.YtbndfgoklgdfdaaGreatDoorW.PrintLast Go.Proofs.YtbndfgoklgdfdaaGreatDoorW.PrintMore
theorem printed_on (x : Tree) (ht : isTreeT x = true) (hlen : (printedS x).length ≤ outMax) (w : World) (hg : GOK w) (A : Option Addr) (c : Nat) (hc : x.f2.length ≤ c) (hC : Kd.C k25 w A x.f2.length x.f2) :
  Calls Tryz.prog 52 #[.agg (tN x A c)] w fun e W' => e = .returned (.string ⟨(printedS x).toArray⟩) ∧ Below w.heap.size w W' := by
 have hk := tree_kind ht
 have hne := printed_ne ht
 obtain ⟨k, s, l⟩ := x
 unfold printedS at hlen hne ⊢
 dsimp only at hlen hne hk hc hC ⊢
 by_cases h1 : k = 1
 ·subst h1
  rw [if_pos rfl] at hlen ⊢
  by_cases hl : l = []
  ·subst hl; exact printed_nil s A c w
  ·exact printed_text s l (hk.1 rfl) w hg A c hC hlen (lines_ne hl)
 have hne := hne h1
 rw [if_neg h1] at hlen hne ⊢
 by_cases h31 : k = 31
 ·rw [if_pos h31] at hlen hne ⊢
  exact printed_typ k s l _ h31 A c w (fun ts g => typ_writes _ ⟨k, s, l⟩ (Nat.lt_succ_self _) (hk.2.1 h31) w ts g A c hc hC) hne hlen
 rw [if_neg h31] at hlen hne ⊢
 by_cases h17 : k = 17 ∨ k = 16
 ·rw [if_pos h17] at hlen hne ⊢
  rcases h17 with h17 | h17
  ·exact printed_lam k s l _ h17 A c w (fun ts g => term_writes _ ⟨k, s, l⟩ (Nat.lt_succ_self _) (hk.2.2.1 (.inl h17)) w ts g A c hc hC) hne hlen
  ·exact printed_var k s l _ h17 A c w (fun ts g => term_writes _ ⟨k, s, l⟩ (Nat.lt_succ_self _) (hk.2.2.1 (.inr h17)) w ts g A c hc hC) hne hlen
 rw [if_neg h17] at hlen hne ⊢
 by_cases hw : wordS k = []
 ·rw [if_neg (by simp [hw])] at hlen hne ⊢
  exact printed_form k s l _ h1 h31 h17 hw A c w (fun ts g => form_writes _ ⟨k, s, l⟩ (Nat.lt_succ_self _) (hk.2.2.2.2 h1 h31 h17 hw) 0 true (by omega) (by omega) w ts g A c hg hc hC) hne hlen
 ·rw [if_pos hw] at hlen hne ⊢
  exact printed_item k s l _ h1 h31 h17 hw A c w (fun ts g => item_writes ⟨k, s, l⟩ (hk.2.2.2.1 h1 h31 h17 hw) w ts g A c hg hc hC) hne hlen
/-- syntax.Print. -/
def printT (x : Tree) : ByteArray × Int := if checkT x = 0 then shortT ⟨(printedS x).toArray⟩ else (⟨#[]⟩, checkT x)
set_option maxRecDepth 100000 in
set_option maxHeartbeats 8000000 in
theorem print_on (x : Tree) (hz : szT x = true) (w : World) (hg : GOK w) (A : Option Addr) (c : Nat) (hc : x.f2.length ≤ c) (hC : Kd.C k25 w A x.f2.length x.f2) :
  Calls Tryz.prog 26 #[.agg (tN x A c)] w fun e W' => e = .returned (.tuple #[.string (printT x).1, .int .i64 (printT x).2]) ∧ Below w.heap.size w W' := by
 have HC := Lib.hid hC
 have HG := Lib.hid hg
 have HZ := Lib.hid hz
 have HF := Lib.hid (Fz.refl w)
 clear hC hg hz
 by_cases hck : checkT x = 0
 ·have hn0 : (checkT x != 0) = false := by simp [hck]
  have hX : printT x = shortT ⟨(printedS x).toArray⟩ := by unfold printT; rw [if_pos hck]
  have hl := Nat.le_trans (printed_len x) (check_wt hck)
  have HX := Lib.hid hX
  have HCK := Lib.hid hck
  have HL := Lib.hid hl
  have hsz_ : (⟨(printedS x).toArray⟩ : ByteArray).size ≤ strMax := by
   show (printedS x).toArray.size ≤ strMax
   have e_ : strMax = 140737488351232 := rfl
   simp; omega
  have HSZ := Lib.hid hsz_
  rw [hX]
  clear hX hck hl hsz_
  go_enter Tryz.func26, Tryz.ntmps26
  go_wp2_with (first
   | ((with_reducible refine gate_dst (N := 1) rfl ?_); refine ez_box (t := 25) (cs := (tN x A c)) HF rfl rfl (run_tree rfl rfl) ?_; clear HF; intro b1 w1 HF; obtain ⟨q1a, q1b, q1c⟩ := rd3 HF.out.b0)
   | (go_at_call 10; refine (check_on x HZ.out A c _ hc (Kd.C_below HC.out HF.out.below)).mono ?_; rintro e w2 ⟨rfl, hb_⟩; clear q1a q1b q1c; have HF2_ := Lib.hid (HF.out.step hb_); clear HF hb_; have HF := HF2_; clear HF2_; obtain ⟨q1a, q1b, q1c⟩ := rd3 HF.out.b0)
   | (go_at_call 52; refine (printed_on x (check_parts HCK.out).2.2 (by have := HL.out; have e_ : outMax = 140737488355328 := rfl; omega) _ (HG.out.below HF.out.below) A c hc (Kd.C_below HC.out HF.out.below)).mono ?_; rintro e w3 ⟨rfl, hb_⟩; clear q1a q1b q1c; have HF2_ := Lib.hid (HF.out.step hb_); clear HF hb_; have HF := HF2_; clear HF2_)
   | (go_at_call 51; refine (short_on _ HSZ.out _).mono ?_; rintro e w4 ⟨rfl, hb_⟩; have HF2_ := Lib.hid (HF.out.step hb_); clear HF hb_; have HF := HF2_; clear HF2_))
  refine bodyPost_ret (v := .tuple #[.string (shortT ⟨(printedS x).toArray⟩).1, .int .i64 (shortT ⟨(printedS x).toArray⟩).2]) (by simp [results, Tryz.results26, go_sem]) rfl ?_
  exact ⟨rfl, HF.out.below⟩
 ·have hn0 : (checkT x != 0) = true := by simp [hck]
  have hX : printT x = (⟨#[]⟩, checkT x) := by unfold printT; rw [if_neg hck]
  rw [hX]
  clear hX
  go_enter Tryz.func26, Tryz.ntmps26
  go_wp2_with (first
   | ((with_reducible refine gate_dst (N := 1) rfl ?_); refine ez_box (t := 25) (cs := (tN x A c)) HF rfl rfl (run_tree rfl rfl) ?_; clear HF; intro b1 w1 HF; obtain ⟨q1a, q1b, q1c⟩ := rd3 HF.out.b0)
   | (go_at_call 10; refine (check_on x HZ.out A c _ hc (Kd.C_below HC.out HF.out.below)).mono ?_; rintro e w2 ⟨rfl, hb_⟩; clear q1a q1b q1c; have HF2_ := Lib.hid (HF.out.step hb_); clear HF hb_; have HF := HF2_; clear HF2_; obtain ⟨q1a, q1b, q1c⟩ := rd3 HF.out.b0))
  refine bodyPost_ret (v := .tuple #[.string ⟨#[]⟩, .int .i64 (checkT x)]) (by simp [results, Tryz.results26, go_sem]) rfl ?_
  exact ⟨rfl, HF.out.below⟩
end Go.Proofs.YtbndfgoklgdfdaaGreatDoor.P
end
section
set_option linter.unusedSimpArgs false
namespace Go.Proofs.YtbndfgoklgdfdaaGreatDoor.P
open Go.RowKit Go.Proofs.YtbndfgoklgdfdaaGreatDoorW.PrintWords Go.Proofs.YtbndfgoklgdfdaaGreatDoorW.PrintLast Go.Proofs.YtbndfgoklgdfdaaGreatDoorW.PrintMore
attribute [local go_sem] Oper.semAt_some

set_option maxRecDepth 100000 in
set_option maxHeartbeats 1000000 in
theorem refused_idle (n : Nat) (p0 p1 p2 p3 p4 : Nat) (w : World) :
  CallsDIn Fence.wide n Tryz.prog 55 #[.pointer (some ⟨p0, 0, none⟩), .pointer (some ⟨p1, 0, none⟩), .pointer (some ⟨p2, 0, none⟩), .pointer (some ⟨p3, 0, none⟩), .pointer (some ⟨p4, 0, none⟩)] .returning w fun e u' w' => e = .returned (.tuple #[]) ∧ u' = .returning ∧ w = w' := by
 refine callsDIn_of_wpSIn Tryz.func55 rfl trivial fun c₀ cs hu => ?_
 simp only [Tryz.ntmps55, List.size_toArray, List.length_cons, List.length_nil, Nat.reduceAdd, Nat.reduceSub, Array.replicate_succ, Array.replicate_zero, List.push_toArray, List.append_toArray, List.nil_append, List.cons_append]
 apply wpSIn_seq
 apply wpSIn_region
 simp [wpOpsSIn, go_sem, recoverD, hu, Exit.thenS]
 have hne : ∀ w, (binOp .eql 20 .nilIface .nilIface).run Tryz.prog w = .ok (.bool true) w := fun _ => by kernel_rfl
 refine wpSIn_of_wpIn rfl (wpIn_wide.2 ?_)
 go_wp2_with fail
 cases c₀
 simp_all [bodyPostS, results, Tryz.results55]

/-- Where a text is refused, if the parser stands ahead of these tokens. -/
def badAt (s : ByteArray) : List Tok → Int
 | [] => s.size
 | t :: _ => t.f2
theorem run_refused {o : Oper} {a : Act} {W : World} (ho : o.op = .alloc 73) : (execOp a.eval o).run Tryz.prog W = .ok (.value (.pointer (some ⟨W.heap.size, 0, none⟩))) (W.alloc (.cells #[.int .i64 0] 73 (0, 0))) := by
 unfold execOp
 rw [ho]
 first | (go_simp; done) | (go_simp; rfl)
theorem tok_some {W : World} {base : Nat} {ok : Nat → Prop} {A : Option Addr} {c m : Nat} {l : List Tok} {t : Tok} (h : (rT k65 65 base ok (.slice A l.length c) l).holds W) (hm : m < l.length ∧ rd_T65 l m = t) : ∃ a, A = some a := by
 obtain ⟨_, _, hC⟩ := Kd.R_reads' (show Kd.R k65 65 W base ok (.slice A l.length c) l from h)
 obtain ⟨a, e, _⟩ := at_T65 hC m (by omega) (by omega)
 exact ⟨a, e⟩
theorem tok_at {W : World} {base : Nat} {ok : Nat → Prop} {a : Addr} {c m : Nat} {l : List Tok} {t : Tok} (h : (rT k65 65 base ok (.slice (some a) l.length c) l).holds W) (hm : m < l.length ∧ rd_T65 l m = t) :
  W.cell? (a.add (m * 3)) = some (.int .i64 t.f0) ∧ W.cell? ⟨(a.add (m * 3)).block, (a.add (m * 3)).off + 1, none⟩ = some (.string t.f1) ∧ W.cell? ⟨(a.add (m * 3)).block, (a.add (m * 3)).off + 2, none⟩ = some (.int .i64 t.f2) := by
 obtain ⟨_, _, hC⟩ := Kd.R_reads' (show Kd.R k65 65 W base ok (.slice (some a) l.length c) l from h)
 obtain ⟨a2, e, p0, p1, p2⟩ := at_T65 hC m (by omega) (by omega)
 obtain rfl : a = a2 := Option.some.inj e
 rw [hm.2, Int.toNat_natCast] at p0 p1 p2
 exact ⟨p0, p1, p2⟩
set_option maxRecDepth 100000 in
set_option maxHeartbeats 2000000 in
theorem refused_stop (n : Nat) (p0 pn pa pe pl : Nat) (s : ByteArray) (l ts : List Tok) (A : Option Addr) (c : Nat) (x0 x1 x2 a0 e0 : Value) (ok : Nat → Prop) (w W : World) (hs : s.size ≤ strMax) (hl : l.length ≤ c)
  (hF : Fz w W (vT pn 25 #[x0, x1, x2] :: vT pa 3 #[a0] :: vT pe 26 #[e0] :: vT p0 9 #[.string s] :: vT pl 39 #[.slice A l.length c] :: rT k65 65 w.heap.size ok (.slice A l.length c) l :: []))
  (hts : ts = l.drop (l.length - ts.length)) (hle : ts.length ≤ l.length) :
  CallsDIn Fence.wide n Tryz.prog 55 #[.pointer (some ⟨p0, 0, none⟩), .pointer (some ⟨pn, 0, none⟩), .pointer (some ⟨pa, 0, none⟩), .pointer (some ⟨pe, 0, none⟩), .pointer (some ⟨pl, 0, none⟩)]
   (.panicking [{ v := refusedV l ts, recovered := false }]) W fun e u' w' => e = .returned (.tuple #[]) ∧ u' = .panicking [{ v := refusedV l ts, recovered := true }] ∧ Below w.heap.size w w' ∧
    w'.heap[pn]? = some (.cells zN 25 (0, 0)) ∧ w'.heap[pa]? = some (.cells #[.int .i64 (badAt s ts)] 3 (0, 0)) ∧ w'.heap[pe]? = some (.cells #[.int .i64 20] 26 (0, 0)) := by
 have HF := Lib.hid hF
 have HL := Lib.hid hl
 have HTS := Lib.hid hts
 clear hF hl hts
 refine callsDIn_of_wpSIn Tryz.func55 rfl trivial fun c₀ cs hu => ?_
 simp only [Tryz.ntmps55, List.size_toArray, List.length_cons, List.length_nil, Nat.reduceAdd, Nat.reduceSub, Array.replicate_succ, Array.replicate_zero, List.push_toArray, List.append_toArray, List.nil_append, List.cons_append]
 apply wpSIn_seq
 apply wpSIn_region
 simp [wpOpsSIn, go_sem, recoverD, hu, Exit.thenS]
 refine wpSIn_of_wpIn rfl (wpIn_wide.2 ?_)
 unfold refusedV
 obtain ⟨m, hm⟩ : ∃ m : Nat, m = l.length - ts.length := ⟨_, rfl⟩
 have hz : (l.length : Int) - ts.length = (m : Int) := by omega
 rw [hz]
 have HM := Lib.hid hm
 have HLE := Lib.hid hle
 clear hz hu hm hle
 have hne : ∀ w, (binOp .eql 20 (.iface 73 (.agg #[.int .i64 (m : Int)])) .nilIface).run Tryz.prog w = .ok (.bool false) w := fun _ => by kernel_rfl
 have hta : ∀ w, (Instr.typeAssert (.iface 73 (.agg #[.int .i64 (m : Int)])) 20 73 true).run Tryz.prog w = .ok (.tuple #[.agg #[.int .i64 (m : Int)], .bool true]) w := fun _ => by kernel_rfl
 cases ts with
 | nil =>
  have hzl : ((m : Int) < (l.length : Int)) = False := eq_false (by have := HM.out; simp at this; omega)
  go_wp2_with (first
   | ((with_reducible refine gate_dst (N := 6) rfl ?_); refine ez_box HF rfl rfl (run_refused rfl) ?_; clear HF; intro b6 w1_ HF)
   | ((with_reducible refine gate_store (t := 73) (p := 6) rfl ?_); refine ez_put1 (p := 6) HF rfl rfl rfl rfl rfl rfl rfl ?_; clear HF; intro w2_ HF; have HF2_ := Lib.hid (HF.out.swap); clear HF; have HF := HF2_; clear HF2_; have f0_ := (blk_cell HF.out.b4 0).trans rfl)
   | ((with_reducible refine gate_store (t := 25) (p := 1) rfl ?_); refine ez_put (p := 1) HF rfl rfl rfl rfl rfl rfl rfl ?_; clear HF f0_; intro w3_ HF; have HF2_ := Lib.hid (HF.out.up3); clear HF; have HF := HF2_; clear HF2_)
   | ((with_reducible refine gate_store (t := 3) (p := 2) rfl ?_); refine ez_cell (p := 2) HF rfl rfl rfl rfl rfl rfl (.inr ⟨_, rfl⟩) rfl rfl ?_; clear HF; intro w4_ HF; have HF2_ := Lib.hid (HF.out.up4); clear HF; have HF := HF2_; clear HF2_)
   | ((with_reducible refine gate_store (t := 26) (p := 3) rfl ?_); refine ez_cell (p := 3) HF rfl rfl rfl rfl rfl rfl (.inr ⟨_, rfl⟩) rfl rfl ?_; clear HF; intro w5_ HF; have f1_ := (blk_cell HF.out.b3 0).trans rfl; have f2_ := (blk_cell HF.out.b5 0).trans rfl))
  exact ⟨rfl, _, rfl, _, results_none rfl _ _ _, rfl, rfl, HF.out.below, HF.out.b2, HF.out.b1, HF.out.b0⟩
 | cons t tl =>
  have hmm : m < l.length := by have := HM.out; have := HLE.out; simp only [List.length_cons] at *; omega
  have hzl : ((m : Int) < (l.length : Int)) = True := eq_true (by omega)
  have HMT : Hid (m < l.length ∧ rd_T65 l m = t) := Lib.hid ⟨hmm, by
   have h1 := HTS.out
   rw [← HM.out] at h1
   unfold rd_T65
   rw [Int.toNat_natCast, List.getD_eq_getElem?_getD]
   have h2 := congrArg List.head? h1
   rw [List.head?_cons, List.head?_drop] at h2
   rw [← h2]; rfl⟩
  clear hmm
  obtain ⟨a, hA⟩ : ∃ a, A = some a := tok_some HF.out.b5 HMT.out
  subst hA
  go_wp2_with (first
   | ((with_reducible refine gate_dst (N := 6) rfl ?_); refine ez_box HF rfl rfl (run_refused rfl) ?_; clear HF; intro b6 w1_ HF)
   | ((with_reducible refine gate_store (t := 73) (p := 6) rfl ?_); refine ez_put1 (p := 6) HF rfl rfl rfl rfl rfl rfl rfl ?_; clear HF; intro w2_ HF; have HF2_ := Lib.hid (HF.out.swap); clear HF; have HF := HF2_; clear HF2_; have f0_ := (blk_cell HF.out.b4 0).trans rfl)
   | ((with_reducible refine gate_store (t := 25) (p := 1) rfl ?_); refine ez_put (p := 1) HF rfl rfl rfl rfl rfl rfl rfl ?_; clear HF f0_; intro w3_ HF; have HF2_ := Lib.hid (HF.out.up3); clear HF; have HF := HF2_; clear HF2_)
   | ((with_reducible refine gate_store (t := 3) (p := 2) rfl ?_); (first | (have gg_ := f1_; clear gg_; refine ez_cell (p := 2) (Lib.hid HF.out.swap) rfl rfl rfl rfl rfl rfl (.inr ⟨_, rfl⟩) rfl rfl ?_; clear HF f1_ f2_ p0_ p1_ p2_; intro w6_ HF) | (refine ez_cell (p := 2) HF rfl rfl rfl rfl rfl rfl (.inr ⟨_, rfl⟩) rfl rfl ?_; clear HF; intro w4_ HF; have HF2_ := Lib.hid (HF.out.up4); clear HF; have HF := HF2_; clear HF2_)))
   | ((with_reducible refine gate_store (t := 26) (p := 3) rfl ?_); refine ez_cell (p := 3) HF rfl rfl rfl rfl rfl rfl (.inr ⟨_, rfl⟩) rfl rfl ?_; clear HF; intro w5_ HF; have f1_ := (blk_cell HF.out.b3 0).trans rfl; have f2_ := (blk_cell HF.out.b5 0).trans rfl; obtain ⟨p0_, p1_, p2_⟩ := tok_at HF.out.b6 HMT.out))
  exact ⟨rfl, _, rfl, _, results_none rfl _ _ _, rfl, rfl, HF.out.below, HF.out.b2, HF.out.b0, HF.out.b1⟩
end Go.Proofs.YtbndfgoklgdfdaaGreatDoor.P
end
