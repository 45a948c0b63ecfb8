/- the chapter's examples (printed by mksane2.py). The reference's Count, Deep, Size and huge against plain functions. The reference's Same: equal trees (printed by mkrs.py). How the plain parser takes one more token behind its tokens; it does not see where tokens lie. -/
import Derived.Test.YtbndfgoklgdfdaaGreatDoorSj23
import Derived.Test.YtbndfgoklgdfdaaGreatDoorSj02
import Derived.Test.YtbndfgoklgdfdaaGreatDoorSj11
import Derived.Test.YtbndfgoklgdfdaaGreatDoorSj08
import Derived.Test.YtbndfgoklgdfdaaGreatDoorSj10
import Derived.Test.YtbndfgoklgdfdaaGreatDoorSj22
import Derived.Test.YtbndfgoklgdfdaaGreatDoorSj04
import Derived.Test.YtbndfgoklgdfdaaGreatDoorSj12
set_option linter.all false
section
set_option linter.unusedSimpArgs false
namespace Go.Proofs.YtbndfgoklgdfdaaGreatDoor.P
open Go.RowKit Go.Proofs.YtbndfgoklgdfdaaGreatDoorW.PrintWords Go.Proofs.YtbndfgoklgdfdaaGreatDoorW.PrintLast Go.Proofs.YtbndfgoklgdfdaaGreatDoorW.PrintMore
def saneR.T18 : Bool × List (List Nat × List Nat) := (true, [([], []), ([0], [0]), ([1], [1]), ([2, 1], [1, 2]), ([3, 1], [1, 3]), ([4, 1], [1, 4]), ([1, 5], [1, 5]), ([6, 1], [6]), ([7], [7]), ([8, 7], [7, 8]), ([9, 7], [7, 9]), ([10, 7], [7, 10]), ([11, 7], [7, 11]), ([12, 7], [7, 12]), ([13, 7], [7, 13]), ([14, 7], [7, 14]), ([15, 7], [7, 15]), ([7, 16], [7, 16]), ([17, 7], [17]), ([18], [18]), ([19, 18], [18, 19]), ([20, 18], [18, 20]), ([21, 18], [18, 21]), ([22, 18], [18, 22]), ([23, 18], [18, 23]), ([24, 18], [18, 24]), ([25, 18], [18, 25]), ([26, 18], [18, 26]), ([27, 18], [18, 27]), ([28, 18], [18, 28]), ([29, 18], [18, 29]), ([30, 18], [18, 30]), ([18], [18]), ([31, 32, 18, 18], [18, 31, 32]), ([18, 33], [18, 33]), ([34, 33, 0, 1, 2, 3, 4, 5, 6, 7, 8, 9, 10, 11, 12, 13, 14, 15, 16, 17, 18, 19, 20, 21, 22, 23, 24, 25, 26, 27, 28, 29, 30, 31, 32, 33, 34], [34])])
def saneR.B18 : List Nat := [0, 1, 3, 7, 15, 31, 63, 127, 255, 511, 1023, 2047, 4095, 8191, 16383, 32767, 65535, 131071, 262143, 524287, 1048575, 2097151, 4194303, 8388607, 16777215, 33554431, 67108863, 134217727, 268435455, 536870911, 1073741823, 2147483647, 524287, 8589934591, 17179869183, 34359738367]
theorem saneR.tab18 : rtab .any (opsOf Tryz.f7 18) = saneR.T18 := by kernel_rfl
theorem saneR.bits18 : waitsOk saneR.T18.2 saneR.B18 = true := by kernel_rfl
set_option maxRecDepth 100000 in
set_option maxHeartbeats 8000000 in
theorem sane_on (w : World) (hg : GOK w) : Calls Tryz.prog 7 #[] w fun e W' => e = .returned (.bool true) ∧ Below w.heap.size w W' := by
 have HG := Lib.hid hg
 clear hg
 have HF := Lib.hid (Fz.refl w)
 go_enter Tryz.func7, Tryz.ntmps7
 go_wp2_with (first
  | (go_at_call 17; refine (ParseForm_on sn1 (by decide) _ (HG.out.below HF.out.below)).mono ?_; rw [sn1_v]; rintro e w5 ⟨A1, c1, rfl, hR_, hb_⟩; have HF2_ := Lib.hid (HF.out.row hb_ (Nat.le_refl _) hR_); clear HF hR_ hb_; have HF := HF2_; clear HF2_)
  | ((with_reducible refine gate_dst (N := 1) rfl ?_); refine ez_box (t := 25) (cs := zN) HF rfl rfl (run_node rfl) ?_; clear HF; intro b1 w6 HF)
  | ((with_reducible refine gate_store (t := 25) (p := 1) rfl ?_); refine ez_put (p := 1) HF rfl rfl rfl rfl rfl rfl rfl ?_; clear HF; intro w7 HF; obtain ⟨q8a, q8b, q8c⟩ := rd3 HF.out.b0))
 refine (print_on sx1 sx1_z _ (HG.out.below HF.out.below) A1 c1 (Kd.R_reads' (show Kd.R k25 25 _ _ _ (.slice A1 (sx1).f2.length c1) (sx1).f2 from HF.out.b1)).2.1 (Kd.R_reads' (show Kd.R k25 25 _ _ _ (.slice A1 (sx1).f2.length c1) (sx1).f2 from HF.out.b1)).2.2).mono ?_
 rw [sx1_p]
 rintro e w9 ⟨rfl, hb_⟩
 replace HF := Lib.hid (HF.out.step hb_)
 clear hb_ q8a q8b q8c
 replace HF := Lib.hid HF.out.lose
 replace HF := Lib.hid HF.out.lose
 go_wp2_with (first
  | (go_at_call 17; refine (ParseForm_on sn2 (by decide) _ (HG.out.below HF.out.below)).mono ?_; rw [sn2_v]; rintro e w10 ⟨A2, c2, rfl, hR_, hb_⟩; have HF2_ := Lib.hid (HF.out.row hb_ (Nat.le_refl _) hR_); clear HF hR_ hb_; have HF := HF2_; clear HF2_)
  | ((with_reducible refine gate_dst (N := 6) rfl ?_); refine ez_box (t := 25) (cs := zN) HF rfl rfl (run_node rfl) ?_; clear HF; intro b6 w11 HF)
  | ((with_reducible refine gate_store (t := 25) (p := 6) rfl ?_); refine ez_put (p := 6) HF rfl rfl rfl rfl rfl rfl rfl ?_; clear HF; intro w12 HF; obtain ⟨q13a, q13b, q13c⟩ := rd3 HF.out.b0))
 refine (print_on sx2 sx2_z _ (HG.out.below HF.out.below) A2 c2 (Kd.R_reads' (show Kd.R k25 25 _ _ _ (.slice A2 (sx2).f2.length c2) (sx2).f2 from HF.out.b1)).2.1 (Kd.R_reads' (show Kd.R k25 25 _ _ _ (.slice A2 (sx2).f2.length c2) (sx2).f2 from HF.out.b1)).2.2).mono ?_
 rw [sx2_p]
 rintro e w14 ⟨rfl, hb_⟩
 replace HF := Lib.hid (HF.out.step hb_)
 clear hb_ q13a q13b q13c
 replace HF := Lib.hid HF.out.lose
 replace HF := Lib.hid HF.out.lose
 go_wp2_with (first
  | (go_at_call 27; refine (node_on _ _ _ _ _ _).mono ?_; rintro e w15 ⟨rfl, hb_⟩; have HF2_ := Lib.hid (HF.out.step hb_); clear HF hb_; have HF := HF2_; clear HF2_)
  | (go_at_call 28; refine (atom_on _ _ _ _ _).mono ?_; rintro e w16 ⟨rfl, hb_⟩; have HF2_ := Lib.hid (HF.out.step hb_); clear HF hb_; have HF := HF2_; clear HF2_)
  | ((with_reducible refine gate_dst (N := 11) rfl ?_); refine ez_box (t := 25) (cs := zN) HF rfl rfl (run_node rfl) ?_; clear HF; intro b11 w17 HF)
  | ((with_reducible refine gate_store (t := 25) (p := 11) rfl ?_); refine ez_put (p := 11) HF rfl rfl rfl rfl rfl rfl rfl ?_; clear HF; intro w18 HF)
  | ((with_reducible refine gate_dst (N := 51) rfl ?_); refine ez_build (n := 1) (cs := tN sx6x none 0) HF rfl rfl (run_build1 (x := sx6x) rfl rfl) ?_; clear HF; intro r1 w19 HF)
  | ((with_reducible refine gate_dst (N := 53) rfl ?_); refine ez_build (n := 1) (cs := tN sx6p (some ⟨r1, 0, none⟩) 1) HF rfl rfl (run_build1 (x := sx6p) rfl rfl) ?_; clear HF; intro r2 w20 HF)
  | ((with_reducible refine gate_dst (N := 12) rfl ?_); refine ez_box (t := 25) (cs := zN) HF rfl rfl (run_node rfl) ?_; clear HF; intro b12 w21 HF)
  | ((with_reducible refine gate_store (t := 25) (p := 12) rfl ?_); refine ez_put (p := 12) HF rfl rfl rfl rfl rfl rfl rfl ?_; clear HF; intro w22 HF; obtain ⟨q23a, q23b, q23c⟩ := rd3 HF.out.b0)
  | ((with_reducible refine gate_dst (N := 57) rfl ?_); refine ez_build (n := 1) (cs := tN sx6a (some ⟨r2, 0, none⟩) 1) HF rfl rfl (run_build1 (x := sx6a) rfl rfl) ?_; clear HF; clear q23a q23b q23c; intro r3 w24 HF)
  | ((with_reducible refine gate_dst (N := 60) rfl ?_); refine ez_build (n := 2) (cs := #[.int .i64 29, .string ⟨#[]⟩, .slice (some ⟨r3, 0, none⟩) 1 1, .int .i64 15, .string ⟨#[113]⟩, .slice none 0 0]) HF rfl rfl (run_build2 (x := sx6b) (y := sx6q) rfl rfl rfl) ?_; clear HF; intro r4 w25 HF))
 have hC1_ := row1_C (b := r1) (x := sx6x) (A := none) (c := 0) (t := 25) HF.out.b4 (Nat.le_refl _) (Kd_C_nil _)
 have hC2_ := row1_C (b := r2) (x := sx6p) (A := some ⟨r1, 0, none⟩) (c := 1) (t := 25) HF.out.b3 (Nat.le_refl _) hC1_
 have hC3_ := row1_C (b := r3) (x := sx6a) (A := some ⟨r2, 0, none⟩) (c := 1) (t := 25) HF.out.b1 (Nat.le_refl _) hC2_
 have hC4_ := row2_C (b := r4) (x := sx6b) (y := sx6q) (A := some ⟨r3, 0, none⟩) (c := 1) (B := none) (d := 0) (t := 25) HF.out.b0 (Nat.le_refl _) hC3_ (Nat.le_refl _) (Kd_C_nil _)
 refine (print_on sx6 sx6_z _ (HG.out.below HF.out.below) (some ⟨r4, 0, none⟩) 2 (Nat.le_refl _) hC4_).mono ?_
 rw [sx6_p]
 rintro e w26 ⟨rfl, hb_⟩
 replace HF := Lib.hid (HF.out.step hb_)
 clear hb_ hC1_ hC2_ hC3_ hC4_
 replace HF := Lib.hid HF.out.lose
 replace HF := Lib.hid HF.out.lose
 replace HF := Lib.hid HF.out.lose
 replace HF := Lib.hid HF.out.lose
 replace HF := Lib.hid HF.out.lose
 go_wp2_with (first
  | (go_at_call 17; refine (ParseForm_on sn3 (by decide) _ (HG.out.below HF.out.below)).mono ?_; rw [sn3_v]; rintro e w27 ⟨A3, c3, rfl, hR_, hb_⟩; have HF2_ := Lib.hid (HF.out.row hb_ (Nat.le_refl _) hR_); clear HF hR_ hb_; have HF := HF2_; clear HF2_)
  | ((with_reducible refine gate_dst (N := 15) rfl ?_); refine ez_box (t := 25) (cs := zN) HF rfl rfl (run_node rfl) ?_; clear HF; intro b15 w28 HF)
  | ((with_reducible refine gate_store (t := 25) (p := 15) rfl ?_); refine ez_put (p := 15) HF rfl rfl rfl rfl rfl rfl rfl ?_; clear HF; intro w29 HF; refine Hid.out ?_))
 refine Lib.hid ?_
 replace HF := Lib.hid HF.out.lose
 replace HF := Lib.hid HF.out.lose
 go_wp2_with (first
  | (go_at_call 17; refine (ParseForm_on sn4 (by decide) _ (HG.out.below HF.out.below)).mono ?_; rw [sn4_v]; rintro e w30 ⟨A4, c4, rfl, hR_, hb_⟩; have HF2_ := Lib.hid (HF.out.row hb_ (Nat.le_refl _) hR_); clear HF hR_ hb_; have HF := HF2_; clear HF2_)
  | ((with_reducible refine gate_dst (N := 18) rfl ?_); refine ez_box (t := 25) (cs := zN) HF rfl rfl (run_node rfl) ?_; clear HF; intro b18 w31 HF)
  | ((with_reducible refine gate_store (t := 25) (p := 18) rfl ?_); refine ez_put (p := 18) HF rfl rfl rfl rfl rfl rfl rfl ?_; clear HF; intro w32 HF; refine Hid.out ?_))
 refine Lib.hid ?_
 replace HF := Lib.hid HF.out.lose
 replace HF := Lib.hid HF.out.lose
 go_wp2_with (first
  | (go_at_call 8; refine (Parse_on sn5 (by decide) _ (HG.out.below HF.out.below)).mono ?_; rw [sn5_v]; rintro e w33 ⟨A5, c5, rfl, hR_, hb_⟩; have HF2_ := Lib.hid (HF.out.row hb_ (Nat.le_refl _) hR_); clear HF hR_ hb_; have HF := HF2_; clear HF2_)
  | ((with_reducible refine gate_dst (N := 21) rfl ?_); refine ez_box (t := 25) (cs := zN) HF rfl rfl (run_node rfl) ?_; clear HF; intro b21 w34 HF)
  | ((with_reducible refine gate_store (t := 25) (p := 21) rfl ?_); refine ez_put (p := 21) HF rfl rfl rfl rfl rfl rfl rfl ?_; clear HF; intro w35 HF; obtain ⟨q36a, q36b, q36c⟩ := rd3 HF.out.b0))
 refine (print_on sx5 sx5_z _ (HG.out.below HF.out.below) A5 c5 (Kd.R_reads' (show Kd.R k25 25 _ _ _ (.slice A5 (sx5).f2.length c5) (sx5).f2 from HF.out.b1)).2.1 (Kd.R_reads' (show Kd.R k25 25 _ _ _ (.slice A5 (sx5).f2.length c5) (sx5).f2 from HF.out.b1)).2.2).mono ?_
 rw [sx5_p]
 rintro e w37 ⟨rfl, hb_⟩
 replace HF := Lib.hid (HF.out.step hb_)
 clear hb_ q36a q36b q36c
 obtain ⟨q38a, q38b, q38c⟩ := rd3 HF.out.b0
 go_wp2_with fail
 refine (vars_on sx5 sx5_z _ A5 c5 (Kd.R_reads' (show Kd.R k25 25 _ _ _ (.slice A5 (sx5).f2.length c5) (sx5).f2 from HF.out.b1)).2.1 (Kd.R_reads' (show Kd.R k25 25 _ _ _ (.slice A5 (sx5).f2.length c5) (sx5).f2 from HF.out.b1)).2.2).mono ?_
 rw [sx5_f]
 rintro e w39 ⟨v_, rfl, hR_, hb_⟩
 obtain ⟨A8, c8, rfl⟩ := Kd.R_slice hR_
 replace HF := Lib.hid (HF.out.row hb_ (Nat.le_refl _) hR_)
 clear hb_ hR_ q38a q38b q38c
 obtain ⟨q40a, q40b, q40c⟩ := rd3 HF.out.b1
 rw [show sx5.f2.length = 2 from rfl] at q40c
 simp only [sn1, sp2, sp5, sp6, List.length_cons, List.length_nil, Nat.zero_add]
 go_wp2_with fail
 have hC5_ := (Kd.R_reads' (show Kd.R k25 25 _ _ _ (.slice A5 (sx5).f2.length c5) (sx5).f2 from HF.out.b2)).2.2
 obtain ⟨a5, A6, c6, e5, _, _, k1_, _, hC6_⟩ := kid_at hC5_ 1 (by decide) sx5b rfl
 subst e5
 obtain ⟨a6, A7, c7, e6, k2_, _, k3_, _, hC7_⟩ := kid_at hC6_ 0 (by decide) sx5n rfl
 subst e6
 obtain ⟨a7, A8', c8', e7, _, _, k4_, _, hC8_⟩ := kid_at hC7_ 1 (by decide) sx5q rfl
 subst e7
 obtain ⟨a8, A9, c9, e8, k5_, k6_, k7_, hl9_, hC9_⟩ := kid_at hC8_ 0 (by decide) sxX rfl
 subst e8
 have hC10_ := (Kd.R_reads' (show Kd.R Kd.string 9 _ _ _ (.slice A8 [(⟨#[88]⟩ : ByteArray)].length c8) [(⟨#[88]⟩ : ByteArray)] from HF.out.b0)).2.2
 obtain ⟨a10, e10, _⟩ := hC10_.2.2 (by decide)
 have k8_ := C_cells hC10_ a10 e10 0 _ rfl
 subst e10
 simp only [Nat.zero_mul, Nat.one_mul, addr_add0, addr_add3] at k1_ k2_ k3_ k4_ k5_ k6_ k7_ k8_
 have HK := Lib.hid (And.intro k1_ (And.intro k2_ (And.intro k3_ (And.intro k4_ (And.intro k5_ (And.intro k6_ (And.intro k7_ k8_)))))))
 have HL9 := Lib.hid hl9_
 have HC9 := Lib.hid hC9_
 clear hC5_ hC6_ hC7_ hC8_ hC9_ hC10_ k1_ k2_ k3_ k4_ k5_ k6_ k7_ k8_ hl9_
 go_wp2_with fail
 go_wp2_with fail
 replace HF := Lib.hid HF.out.drew
 refine wp_only ?_
 refine start_ (n := 36) (S := (fun w' => True ∧ w'.cell? (⟨b21, 2, none⟩) = some (.slice (some a5) 2 c5) ∧ w'.cell? (⟨a5.block, a5.off + 3 + 2, none⟩) = some (.slice (some a6) 1 c6) ∧ w'.cell? (a6) = some (.int .i64 27) ∧ w'.cell? (⟨a6.block, a6.off + 2, none⟩) = some (.slice (some a7) 2 c7) ∧ w'.cell? (⟨a7.block, a7.off + 3 + 2, none⟩) = some (.slice (some a8) 1 c8') ∧ w'.cell? (a8) = some (.int .i64 16) ∧ w'.cell? (⟨a8.block, a8.off + 1, none⟩) = some (.string ⟨#[88]⟩) ∧ w'.cell? (⟨a8.block, a8.off + 2, none⟩) = some (.slice A9 0 c9) ∧ w'.cell? (a10) = some (.string ⟨#[88]⟩) ∧ w'.cell? (⟨b11, 0, none⟩) = some (.int .i64 16) ∧ w'.cell? (⟨b11, 1, none⟩) = some (.string ⟨#[88]⟩) ∧ w'.cell? (⟨b11, 2, none⟩) = some (.slice none 0 0))) (ds := [33]) #[false, false, false, false, false, false, false, false, false, false, false, false, false, false, false, false, false, false, false, false, false, false, false, false, false, false, false, false, false, false, false, false, false, false, false, false] (by kernel_rfl) rfl rfl ?_ (fun hHeld => ?_)
 ·exact ⟨trivial, (blk_cell HF.out.b1 2).trans rfl, HK.out.1, HK.out.2.1, HK.out.2.2.1, HK.out.2.2.2.1, HK.out.2.2.2.2.1, HK.out.2.2.2.2.2.1, HK.out.2.2.2.2.2.2.1, HK.out.2.2.2.2.2.2.2, (blk_cell HF.out.b3 0).trans rfl, (blk_cell HF.out.b3 1).trans rfl, (blk_cell HF.out.b3 2).trans rfl⟩
 refine with_tabW saneR.tab18 saneR.bits18 (fun HT_ HW_ => ?_)
 refine pqso 0 (fl 36 1) (hc := any_of HT_.out (by kernel_rfl)) (h := ?_)
 refine pqso 1 (fl 36 2) (hc := any_of HT_.out (by kernel_rfl)) (h := ?_)
 refine pqso 2 (fl 36 3) (hc := any_of HT_.out (by kernel_rfl)) (h := ?_)
 refine pqso 3 (fl 36 4) (hc := any_of HT_.out (by kernel_rfl)) (h := ?_)
 refine tqso hHeld 4 (fl 36 5) (hc := take_ofW HT_.out HW_.out (by kernel_rfl)) (h := ?_)
 refine pqso 5 (fl 36 6) (hc := any_of HT_.out (by kernel_rfl)) (h := ?_)
 refine pqso 6 (fl 36 7) (hc := any_of HT_.out (by kernel_rfl)) (h := ?_)
 refine pqso 7 (fl 36 8) (hc := any_of HT_.out (by kernel_rfl)) (h := ?_)
 refine pqso 8 (fl 36 9) (hc := any_of HT_.out (by kernel_rfl)) (h := ?_)
 refine tqso hHeld 9 (fl 36 10) (hc := take_ofW HT_.out HW_.out (by kernel_rfl)) (h := ?_)
 refine pqso 10 (fl 36 11) (hc := any_of HT_.out (by kernel_rfl)) (h := ?_)
 refine pqso 11 (fl 36 12) (hc := any_of HT_.out (by kernel_rfl)) (h := ?_)
 refine tqso hHeld 12 (fl 36 13) (hc := take_ofW HT_.out HW_.out (by kernel_rfl)) (h := ?_)
 refine pqso 13 (fl 36 14) (hc := any_of HT_.out (by kernel_rfl)) (h := ?_)
 refine pqso 14 (fl 36 15) (hc := any_of HT_.out (by kernel_rfl)) (h := ?_)
 refine tqso hHeld 15 (fl 36 16) (hc := take_ofW HT_.out HW_.out (by kernel_rfl)) (h := ?_)
 refine pqso 16 (fl 36 17) (hc := any_of HT_.out (by kernel_rfl)) (h := ?_)
 refine pqso 17 (fl 36 18) (hc := any_of HT_.out (by kernel_rfl)) (h := ?_)
 refine pqso 18 (fl 36 19) (hc := any_of HT_.out (by kernel_rfl)) (h := ?_)
 refine pqso 19 (fl 36 20) (hc := any_of HT_.out (by kernel_rfl)) (h := ?_)
 refine tqso hHeld 20 (fl 36 21) (hc := take_ofW HT_.out HW_.out (by kernel_rfl)) (h := ?_)
 refine pqso 21 (fl 36 22) (hc := any_of HT_.out (by kernel_rfl)) (h := ?_)
 refine pqso 22 (fl 36 23) (hc := any_of HT_.out (by kernel_rfl)) (h := ?_)
 refine tqso hHeld 23 (fl 36 24) (hc := take_ofW HT_.out HW_.out (by kernel_rfl)) (h := ?_)
 refine pqso 24 (fl 36 25) (hc := any_of HT_.out (by kernel_rfl)) (h := ?_)
 refine pqso 25 (fl 36 26) (hc := any_of HT_.out (by kernel_rfl)) (h := ?_)
 refine tqso hHeld 26 (fl 36 27) (hc := take_ofW HT_.out HW_.out (by kernel_rfl)) (h := ?_)
 refine pqso 27 (fl 36 28) (hc := any_of HT_.out (by kernel_rfl)) (h := ?_)
 refine pqso 28 (fl 36 29) (hc := any_of HT_.out (by kernel_rfl)) (h := ?_)
 refine tqso hHeld 29 (fl 36 30) (hc := take_ofW HT_.out HW_.out (by kernel_rfl)) (h := ?_)
 refine pqso 30 (fl 36 31) (hc := any_of HT_.out (by kernel_rfl)) (h := ?_)
 refine tqso hHeld 31 (fl 36 32) (hc := take_ofW HT_.out HW_.out (by kernel_rfl)) (h := ?_)
 refine tqso hHeld 32 (fl 36 33) (hc := take_ofW HT_.out HW_.out (by kernel_rfl)) (h := ?_)
 refine last_ (i := 33) (N := some 192) #[true, true, true, true, true, true, true, true, true, true, true, true, true, true, true, true, true, true, true, true, true, true, true, true, true, true, true, true, true, true, true, true, true, true, false, false] rfl rfl (one_of HT_.out (by kernel_rfl)) (by decide) (fun K hK => ?_)
 go_simp
 refine (Same_calls sxX sxX A9 none c9 0 _ HL9.out (Kd.C_below HC9.out (pw_below_drewN (Below.refl _ _) 1)) (Nat.le_refl _) (Kd_C_nil _)).mono ?_
 rw [sxX_s]
 rintro e w41 ⟨rfl, hb_⟩
 replace HF := Lib.hid (HF.out.step hb_)
 clear hb_ HK HL9 HC9
 refine hK.out _ _ ?_
 clear hK K
 (try simp only [Act.put, List.setIfInBounds_toArray, List.set_cons_zero, List.set_cons_succ])
 refine pqso 34 (fl 36 35) (hc := any_of HT_.out (by kernel_rfl)) (h := ?_)
 refine pqso 35 (fl 36 36) (hc := any_of HT_.out (by kernel_rfl)) (h := ?_)
 refine done_ (done_of HT_.out (by kernel_rfl)) ⟨rfl, ?_⟩
 skip
 try simp only [Act.put, List.setIfInBounds_toArray, List.set_cons_zero, List.set_cons_succ]
 go_wp2_with fail
 go_ret
 exact ⟨rfl, HF.out.below⟩
end Go.Proofs.YtbndfgoklgdfdaaGreatDoor.P
end
section
set_option linter.unusedSimpArgs false
namespace Go.Proofs.YtbndfgoklgdfdaaGreatDoor.P
open Go.RowKit Go.Proofs.YtbndfgoklgdfdaaGreatDoorW.PrintWords Go.Proofs.YtbndfgoklgdfdaaGreatDoorW.PrintLast Go.Proofs.YtbndfgoklgdfdaaGreatDoorW.PrintMore
theorem nd_pos (x : Tree) : 1 ≤ ndT x := by obtain ⟨k, s, l⟩ := x; rw [ndT]; omega
mutual
theorem cnt_min : ∀ (x : Tree) (s : Int), s ≤ 4000 → cntT x s = min (s + ndT x) 4001
 | ⟨_, _, l⟩, s, h => by
  rw [cntT, cntL_min l (s + 1) (by omega), ndT]
  congr 1
  omega
theorem cntL_min : ∀ (l : List Tree) (s : Int), s ≤ 4001 → cntL l s = min (s + ndL l) 4001
 | [], s, h => by rw [cntL, ndL]; omega
 | x :: l, s, h => by
  rw [cntL, ndL]
  by_cases h1 : s ≤ 4000
  ·rw [if_pos h1, cnt_min x s h1, cntL_min l _ (by omega)]
   omega
  ·rw [if_neg h1]
   have := nd_pos x
   omega
end
theorem cnt_nd (x : Tree) : cntT x 0 = min (ndT x : Int) 4001 := by rw [cnt_min x 0 (by omega)]; omega
theorem nd_len : ∀ l : List Tree, l.length ≤ ndL l
 | [] => by simp
 | x :: l => by rw [ndL, List.length_cons]; have := nd_len l; have := nd_pos x; omega
/-- A child in a row: its cells, and its own row. -/
structure Kid (w : World) (a : Addr) (y : Tree) (A : Option Addr) (c : Nat) : Prop where
 c0 : w.cell? a = some (.int .i64 y.f0)
 c1 : w.cell? ⟨a.block, a.off + 1, none⟩ = some (.string y.f1)
 c2 : w.cell? ⟨a.block, a.off + 2, none⟩ = some (.slice A y.f2.length c)
 len : y.f2.length ≤ c
 row : Kd.C k25 w A y.f2.length y.f2
theorem Kid.below {w W : World} {a : Addr} {y : Tree} {A : Option Addr} {c : Nat} (h : Kid w a y A c) (hb : Below w.heap.size w W) : Kid W a y A c :=
 ⟨pw_cell_below hb h.c0, pw_cell_below hb h.c1, pw_cell_below hb h.c2, h.len, Kd.C_below h.row hb⟩
theorem kid_j {w W : World} {l : List Tree} {A : Option Addr} (hb : Below w.heap.size w W) (hC : Kd.C k25 w A l.length l) (j : Nat) (hj : j < l.length) :
  ∃ a y A2 c2, A = some a ∧ y ∈ l ∧ l.drop j = y :: l.drop (j + 1) ∧ Kid W (a.add (j * 3)) y A2 c2 := by
 obtain ⟨a, A2, c2, e0, p0, p1, p2, hl2, hc2⟩ := at_T25 (Kd.C_below hC hb) j (by omega) (by omega)
 rw [Int.toNat_natCast] at p0 p1 p2
 exact ⟨a, _, A2, c2, e0, rdN_mem l j hj, rdN_drop l j hj, ⟨p0, p1, p2, hl2, hc2⟩⟩
end Go.Proofs.YtbndfgoklgdfdaaGreatDoor.P
end
section
set_option linter.unusedSimpArgs false
namespace Go.Proofs.YtbndfgoklgdfdaaGreatDoor.P
open Go.RowKit Go.Proofs.YtbndfgoklgdfdaaGreatDoorW.PrintWords Go.Proofs.YtbndfgoklgdfdaaGreatDoorW.PrintLast Go.Proofs.YtbndfgoklgdfdaaGreatDoorW.PrintMore
def RSame (x : Tree) : Prop := ∀ (y : Tree) (A B : Option Addr) (c d : Nat) (w : World), x.f2.length ≤ c → Kd.C k25 w A x.f2.length x.f2 → y.f2.length ≤ d → Kd.C k25 w B y.f2.length y.f2 →
 Calls Tryz.prog 9 #[.agg (tN x A c), .agg (tN y B d)] w fun e w' => e = .returned (.bool (sameT x y)) ∧ Below w.heap.size w w'
set_option maxRecDepth 100000 in
set_option maxHeartbeats 8000000 in
theorem rSame_on : ∀ (n : Nat) (x : Tree), SizeOf.sizeOf x < n → RSame x
 | 0, _, h => absurd h (Nat.not_lt_zero _)
 | n + 1, ⟨k, s, l⟩, hn => by
  intro y A B c d w hc hC hd hD
  obtain ⟨k2, s2, l2⟩ := y
  have HIH : Hid (∀ y ∈ l, RSame y) := Lib.hid fun y hy => rSame_on n y (by have := kid_lt (x := ⟨k, s, l⟩) hy; omega)
  have HC : Hid (Kd.C k25 w A l.length l) := Lib.hid hC
  have HD : Hid (Kd.C k25 w B l2.length l2) := Lib.hid hD
  have HF := Lib.hid (Fz.refl w)
  have hln : l.length ≤ 9223372036854775807 := hC.2.1
  dsimp only at hc hd
  obtain ⟨R, hR⟩ : ∃ R, R = sameT ⟨k, s, l⟩ ⟨k2, s2, l2⟩ := ⟨_, rfl⟩
  rw [← hR]
  rw [sameT] at hR
  clear hC hD hn
  have key : (k != k2) = true ∧ R = false ∨ (k != k2) = false ∧ ((s.toList == s2.toList) = false ∧ R = false ∨ (s.toList == s2.toList) = true ∧ (((l.length : Int) != (l2.length : Int)) = true ∧ R = false ∨ ((l.length : Int) != (l2.length : Int)) = false ∧ l.length = l2.length ∧ R = sameL l l2)) := by
   rw [hR]
   by_cases h1 : k = k2
   ·rw [bne_eq_false_iff_eq.2 h1, beq_iff_eq.2 h1, Bool.true_and]
    cases h2 : (s.toList == s2.toList)
    ·simp
    ·by_cases h3 : l.length = l2.length
     ·simp [h3]
     ·rw [sameL_len l l2 h3]; simp; omega
   ·simp [h1]
  clear hR
  rcases key with ⟨e1, rfl⟩ | ⟨e1, ⟨e2, rfl⟩ | ⟨e2, ⟨e3, rfl⟩ | ⟨e3, e4, hR⟩⟩⟩
  rotate_right
  ·have HR : Hid (sameL (l.drop 0) (l2.drop 0) = R) := Lib.hid (by rw [hR, List.drop_zero, List.drop_zero])
   clear hR
   go_enter Tryz.func9, Tryz.ntmps9
   go_wp2_with (first
    | ((with_reducible refine gate_dst (N := 2) rfl ?_); refine ez_box (t := 25) (cs := (tN ⟨k, s, l⟩ A c)) HF rfl rfl (run_tree rfl rfl) ?_; clear HF; intro b2 w1 HF)
    | ((with_reducible refine gate_dst (N := 3) rfl ?_); refine ez_box (t := 25) (cs := (tN ⟨k2, s2, l2⟩ B d)) HF rfl rfl (run_tree rfl rfl) ?_; clear HF; intro b3 w2 HF; obtain ⟨q2a, q2b, q2c⟩ := rd3 HF.out.b1; obtain ⟨q3a, q3b, q3c⟩ := rd3 HF.out.b0))
   go_loopw [5] (fun i wr => ∃ j : Nat, i = .int .i64 j ∧ j ≤ l.length ∧ Hid (sameL (l.drop j) (l2.drop j) = R) ∧ Hid (Fz w wr [vT b3 25 (tN ⟨k2, s2, l2⟩ B d), vT b2 25 (tN ⟨k, s, l⟩ A c)])) (fun i _ => l.length - (intOf i).toNat)
   case atStart => exact ⟨0, rfl, Nat.zero_le _, HR, HF⟩
   case round =>
    clear HF HR q2a q2b q2c q3a q3b q3c e1 e2 e3
    obtain ⟨j, rfl, hj, HR, HF⟩ := hrel
    obtain ⟨q2a, q2b, q2c⟩ := rd3 HF.out.b1
    obtain ⟨q3a, q3b, q3c⟩ := rd3 HF.out.b0
    by_cases hlt : j < l.length
    ·have hlt2 : j < l2.length := by omega
     have hlm : ((j : Int) < (l2.length : Int)) = True := eq_true (by omega)
     obtain ⟨a0, y, A2, c2, rfl, hmem, hdr, hk⟩ := kid_j HF.out.below HC.out j hlt
     obtain ⟨a1, z, A3, c3, rfl, _, hds, hk3⟩ := kid_j HF.out.below HD.out j hlt2
     have hR := HR.out
     rw [hdr, hds, sameL] at hR
     have HR2 := Lib.hid hR
     have HY := Lib.hid (HIH.out y hmem)
     have HKY := Lib.hid hk
     have HKZ := Lib.hid hk3
     obtain ⟨r0, hr0⟩ : ∃ r0 : Addr, r0 = a0.add (j * 3) := ⟨_, rfl⟩
     obtain ⟨r1, hr1⟩ : ∃ r1 : Addr, r1 = a1.add (j * 3) := ⟨_, rfl⟩
     rw [← hr0] at HKY
     rw [← hr1] at HKZ
     clear hR hdr hds hmem HR hk hk3
     have hw0 := HF.out.below
     go_wp2_with fail
     clear q2a q2b q2c q3a q3b q3c
     have HB : Hid (Below wr.heap.size wr wr.drew) := Lib.hid (below_drew1 (Below.refl _ _))
     subst hr0 hr1
     go_wp2_with fail
     go_wp2_with fail
     replace HF := Lib.hid HF.out.drew
     refine start_ (n := 12) (S := (fun w' => True ∧ w'.cell? (⟨b2, 2, none⟩) = some (.slice (some a0) l.length c) ∧ w'.cell? (⟨b3, 2, none⟩) = some (.slice (some a1) l2.length d) ∧ w'.cell? ((a0.add (j * 3))) = some (.int .i64 y.f0) ∧ w'.cell? (⟨(a0.add (j * 3)).block, (a0.add (j * 3)).off + 1, none⟩) = some (.string y.f1) ∧ w'.cell? (⟨(a0.add (j * 3)).block, (a0.add (j * 3)).off + 2, none⟩) = some (.slice A2 y.f2.length c2) ∧ w'.cell? ((a1.add (j * 3))) = some (.int .i64 z.f0) ∧ w'.cell? (⟨(a1.add (j * 3)).block, (a1.add (j * 3)).off + 1, none⟩) = some (.string z.f1) ∧ w'.cell? (⟨(a1.add (j * 3)).block, (a1.add (j * 3)).off + 2, none⟩) = some (.slice A3 z.f2.length c3))) (ds := [10]) #[false, false, false, false, false, false, false, false, false, false, false, false] (by kernel_rfl) rfl rfl ?_ (fun hHeld => ?_)
     ·exact ⟨trivial, (blk_cell HF.out.b1 2).trans rfl, (blk_cell HF.out.b0 2).trans rfl, ((HKY.out.below HB.out).c0), ((HKY.out.below HB.out).c1), ((HKY.out.below HB.out).c2), ((HKZ.out.below HB.out).c0), ((HKZ.out.below HB.out).c1), ((HKZ.out.below HB.out).c2)⟩
     refine pq 0 (fl 12 1) (h := ?_)
     refine pq 2 #[true, false, true, false, false, false, false, false, false, false, false, false] (h := ?_)
     refine pq 5 #[true, false, true, false, false, true, false, false, false, false, false, false] (h := ?_)
     refine pq 7 #[true, false, true, false, false, true, false, true, false, false, false, false] (h := ?_)
     refine tq hHeld 1 #[true, true, true, false, false, true, false, true, false, false, false, false] (h := ?_)
     refine pq 3 #[true, true, true, true, false, true, false, true, false, false, false, false] (h := ?_)
     refine tq hHeld 4 #[true, true, true, true, true, true, false, true, false, false, false, false] (h := ?_)
     refine tq hHeld 6 (fl 12 8) (h := ?_)
     refine pq 8 (fl 12 9) (h := ?_)
     refine tq hHeld 9 (fl 12 10) (h := ?_)
     refine last_ (i := 10) (N := some 44) #[true, true, true, true, true, true, true, true, true, true, true, false] rfl rfl (by kernel_rfl) (by decide) (fun K hK => ?_)
     go_simp
     refine (HY.out z A2 A3 c2 c3 _ HKY.out.len (HKY.out.below HB.out).row HKZ.out.len (HKZ.out.below HB.out).row).mono ?_
     rintro e w1 ⟨rfl, hb_⟩
     replace HF := Lib.hid (HF.out.step hb_)
     replace HB := Lib.hid (below_step HB.out hb_)
     clear hb_
     refine hK.out _ _ ?_
     clear hK K
     (try simp only [Act.put, List.setIfInBounds_toArray, List.set_cons_zero, List.set_cons_succ])
     refine pq 11 (fl 12 12) (h := ?_)
     refine done_ (by kernel_rfl) ?_
     skip
     try simp only [Act.put, List.setIfInBounds_toArray, List.set_cons_zero, List.set_cons_succ]
     obtain ⟨b_, hb_⟩ : ∃ b_, b_ = sameT y z := ⟨_, rfl⟩
     rw [← hb_]
     rw [← hb_] at HR2
     clear hb_
     cases b_
     ·go_wp2_with fail
      go_ret
      exact ⟨by rw [← HR2.out, Bool.false_and]; rfl, HF.out.below⟩
     ·go_wp2_with fail
      go_roundw
      case rel => exact ⟨j + 1, by go_num, by omega, Lib.hid (by rw [← HR2.out, Bool.true_and]), HF⟩
      case measure => simp [intOf]; omega
    ·have hR := HR.out
     rw [List.drop_of_length_le (by omega), List.drop_of_length_le (by omega), sameL] at hR
     subst hR
     go_wp2_with fail
     go_ret
     exact ⟨rfl, HF.out.below⟩
  all_goals
   go_enter Tryz.func9, Tryz.ntmps9
   go_wp2_with (first
    | ((with_reducible refine gate_dst (N := 2) rfl ?_); refine ez_box (t := 25) (cs := (tN ⟨k, s, l⟩ A c)) HF rfl rfl (run_tree rfl rfl) ?_; clear HF; intro b2 w1 HF)
    | ((with_reducible refine gate_dst (N := 3) rfl ?_); refine ez_box (t := 25) (cs := (tN ⟨k2, s2, l2⟩ B d)) HF rfl rfl (run_tree rfl rfl) ?_; clear HF; intro b3 w2 HF; obtain ⟨q2a, q2b, q2c⟩ := rd3 HF.out.b1; obtain ⟨q3a, q3b, q3c⟩ := rd3 HF.out.b0))
   go_ret
   exact ⟨rfl, HF.out.below⟩
end Go.Proofs.YtbndfgoklgdfdaaGreatDoor.P
end
section
namespace Go.Proofs.YtbndfgoklgdfdaaGreatDoor.P
open Go.RowKit Go.Proofs.YtbndfgoklgdfdaaGreatDoorW.PrintWords Go.Proofs.YtbndfgoklgdfdaaGreatDoorW.PrintLast Go.Proofs.YtbndfgoklgdfdaaGreatDoorW.PrintMore

/-- A token without its place. -/
def er (t : Tok) : Tok := ⟨t.f0, t.f1, 0⟩
def PR.er {α : Type} : PR α → PR α
 | .out => .out
 | .bad l => .bad (l.map P.er)
 | .ok x l => .ok x (l.map P.er)
/-- What a reader comes to (first), and with one more token t behind (second). -/
inductive Rel {α : Type} (Q : α → α → Prop) (t : Tok) : PR α → PR α → Prop
 | out (r : PR α) : Rel Q t .out r
 | ok (x : α) (a : Tok) (l : List Tok) : Rel Q t (.ok x (a :: l)) (.ok x (a :: (l ++ [t])))
 | bad (a : Tok) (l : List Tok) : Rel Q t (.bad (a :: l)) (.bad (a :: (l ++ [t])))
 | bad0 (r : PR α) : Rel Q t (.bad []) r
 | same (x : α) : Rel Q t (.ok x []) (.ok x [t])
 | grown (x y : α) (h : Q x y) : Rel Q t (.ok x []) (.ok y [])
 | deadBad (x : α) (l : List Tok) : Rel Q t (.ok x []) (.bad l)
 | deadOut (x : α) : Rel Q t (.ok x []) .out
/-- With no token left. -/
inductive Z {α : Type} : PR α → Prop
 | out : Z .out
 | bad : Z (.bad [])
 | ok (x : α) : Z (.ok x [])
/-- It cannot do without a token. -/
inductive D {α : Type} : PR α → Prop
 | out : D .out
 | bad : D (.bad [])
theorem Z.toBad {α : Type} {Q : α → α → Prop} {t : Tok} {r : PR α} (h : Z r) (l : List Tok) : Rel Q t r (.bad l) := by
 cases h
 ·exact .out _
 ·exact .bad0 _
 ·exact .deadBad _ _
theorem Z.toOut {α : Type} {Q : α → α → Prop} {t : Tok} {r : PR α} (h : Z r) : Rel Q t r .out := by
 cases h
 ·exact .out _
 ·exact .bad0 _
 ·exact .deadOut _
theorem D.rel {α : Type} {Q : α → α → Prop} {t : Tok} {r s : PR α} (h : D r) : Rel Q t r s := by cases h <;> constructor
theorem Rel.dead {α : Type} {Q : α → α → Prop} {t : Tok} {r s : PR α} (hz : Z r) (h : D s) : Rel Q t r s := by
 cases h
 ·exact hz.toOut
 ·exact hz.toBad _
theorem D.bind {α β : Type} {r : PR α} (h : D r) (f : α → List Tok → PR β) : D (r.bind f) := by cases h <;> constructor
abbrev No {α : Type} (_ _ : α) : Prop := False
abbrev Any {α : Type} (_ _ : α) : Prop := True
theorem Rel.mono {α : Type} {Q Q' : α → α → Prop} {t : Tok} {r s : PR α} (h : Rel Q t r s) (hq : ∀ x y, Q x y → Q' x y) : Rel Q' t r s := by
 cases h
 ·exact .out _
 ·exact .ok _ _ _
 ·exact .bad _ _
 ·exact .bad0 _
 ·exact .same _
 ·rename_i x y h; exact .grown _ _ (hq x y h)
 ·exact .deadBad _ _
 ·exact .deadOut _
structure Loc {α : Type} (Q : α → α → Prop) (p : List Tok → PR α) : Prop where
 nil : Z (p [])
 rel : ∀ (ts : List Tok) (t : Tok), Rel Q t (p ts) (p (ts ++ [t]))
 inv : ∀ ts : List Tok, p (ts.map er) = (p ts).er
section
variable {α β : Type} {Q : α → α → Prop} {Q' : β → β → Prop}
theorem Loc.mono {Q2 : α → α → Prop} {p : List Tok → PR α} (h : Loc Q p) (hq : ∀ x y, Q x y → Q2 x y) : Loc Q2 p := ⟨h.nil, fun ts t => (h.rel ts t).mono hq, h.inv⟩
theorem Loc.out : Loc Q fun _ => (.out : PR α) := ⟨.out, fun _ _ => .out _, fun _ => rfl⟩
theorem Loc.ret (x : α) : Loc Q fun ts => .ok x ts := ⟨.ok _, fun ts t => by cases ts <;> constructor, fun _ => rfl⟩
theorem Loc.bind {p : List Tok → PR α} {f : α → List Tok → PR β} (hp : Loc Q p) (hf : ∀ x, Loc Q' (f x)) (hg : ∀ x y, Q x y → ∀ t, Rel Q' t (f x []) (f y [])) : Loc Q' fun ts => (p ts).bind f := by
 refine ⟨?_, fun ts t => ?_, fun ts => ?_⟩
 ·show Z ((p []).bind f)
  have h := hp.nil
  generalize p [] = r at h
  cases h
  ·exact .out
  ·exact .bad
  ·exact (hf _).nil
 ·show Rel Q' t ((p ts).bind f) ((p (ts ++ [t])).bind f)
  have h := hp.rel ts t
  generalize p ts = r at h
  generalize p (ts ++ [t]) = s at h
  cases h
  ·exact .out _
  ·rename_i x a l; exact (hf x).rel (a :: l) t
  ·exact .bad _ _
  ·exact .bad0 _
  ·rename_i x; exact (hf x).rel [] t
  ·rename_i x y h; exact hg x y h t
  ·rename_i x l; exact (hf x).nil.toBad l
  ·rename_i x; exact (hf x).nil.toOut
 ·show (p (ts.map er)).bind f = ((p ts).bind f).er
  rw [hp.inv]
  cases p ts with
  | out => rfl
  | bad l => rfl
  | ok x l => exact (hf x).inv l
theorem Loc.bindN {p : List Tok → PR α} {f : α → List Tok → PR β} (hp : Loc No p) (hf : ∀ x, Loc Q' (f x)) : Loc Q' fun ts => (p ts).bind f := hp.bind hf fun _ _ h => h.elim
theorem Loc.bindV {V : α → Prop} {p : List Tok → PR α} {f : α → List Tok → PR β} (hp : Loc No p) (hv : ∀ ts x l, p ts = .ok x l → V x) (hf : ∀ x, V x → Loc Q' (f x)) : Loc Q' fun ts => (p ts).bind f := by
 refine ⟨?_, fun ts t => ?_, fun ts => ?_⟩
 ·show Z ((p []).bind f)
  have h := hp.nil
  have h2 := hv []
  generalize p [] = r at h h2
  cases h
  ·exact .out
  ·exact .bad
  ·exact (hf _ (h2 _ _ rfl)).nil
 ·show Rel Q' t ((p ts).bind f) ((p (ts ++ [t])).bind f)
  have h := hp.rel ts t
  have h2 := hv ts
  generalize p ts = r at h h2
  generalize p (ts ++ [t]) = s at h
  cases h
  ·exact .out _
  ·rename_i x a l; exact (hf x (h2 _ _ rfl)).rel (a :: l) t
  ·exact .bad _ _
  ·exact .bad0 _
  ·rename_i x; exact (hf x (h2 _ _ rfl)).rel [] t
  ·rename_i x y h; exact h.elim
  ·rename_i x l; exact (hf x (h2 _ _ rfl)).nil.toBad l
  ·rename_i x; exact (hf x (h2 _ _ rfl)).nil.toOut
 ·show (p (ts.map er)).bind f = ((p ts).bind f).er
  have h2 := hv ts
  rw [hp.inv]
  generalize p ts = r at h2
  cases r with
  | out => rfl
  | bad l => rfl
  | ok x l => exact (hf x (h2 _ _ rfl)).inv l
/-- Behind it a token is wanted: how it grows does not matter. -/
theorem Loc.bindD {p : List Tok → PR α} {f : α → List Tok → PR β} (hp : Loc Q p) (hf : ∀ x, Loc Q' (f x)) (hd : ∀ x, D (f x [])) : Loc Q' fun ts => (p ts).bind f := hp.bind hf fun x _ _ _ => (hd x).rel
theorem Loc.ite {s : List UInt8} {p q : List Tok → PR α} (hp : Loc Q p) (hq : Loc Q q) (h0 : ∀ t, isP s [t] = true → Rel Q t (q []) (p [t])) : Loc Q fun ts => if isP s ts = true then p ts else q ts := by
 refine ⟨hq.nil, fun ts t => ?_, fun ts => ?_⟩
 ·cases ts with
  | nil =>
   show Rel Q t (q []) (if isP s [t] = true then p [t] else q [t])
   by_cases h : isP s [t] = true
   ·rw [if_pos h]; exact h0 t h
   ·rw [if_neg h]; exact hq.rel [] t
  | cons a l =>
   show Rel Q t (if isP s (a :: l) = true then p (a :: l) else q (a :: l)) (if isP s (a :: l) = true then p (a :: l ++ [t]) else q (a :: l ++ [t]))
   split
   ·exact hp.rel _ _
   ·exact hq.rel _ _
 ·cases ts with
  | nil => exact hq.inv []
  | cons a l =>
   show (if isP s (a :: l) = true then p ((a :: l).map er) else q ((a :: l).map er)) = (if isP s (a :: l) = true then p (a :: l) else q (a :: l)).er
   split
   ·exact hp.inv _
   ·exact hq.inv _
theorem Loc.ift {s : List UInt8} {f q : List Tok → PR α} (hf : Loc Q f) (hq : Loc Q q) (h0 : ∀ t, isP s [t] = true → Rel Q t (q []) (f [])) : Loc Q fun ts => if isP s ts = true then f ts.tail else q ts := by
 refine ⟨hq.nil, fun ts t => ?_, fun ts => ?_⟩
 ·cases ts with
  | nil =>
   show Rel Q t (q []) (if isP s [t] = true then f [] else q [t])
   by_cases h : isP s [t] = true
   ·rw [if_pos h]; exact h0 t h
   ·rw [if_neg h]; exact hq.rel [] t
  | cons a l =>
   show Rel Q t (if isP s (a :: l) = true then f l else q (a :: l)) (if isP s (a :: l) = true then f (l ++ [t]) else q (a :: l ++ [t]))
   split
   ·exact hf.rel _ _
   ·exact hq.rel _ _
 ·cases ts with
  | nil => exact hq.inv []
  | cons a l =>
   show (if isP s (a :: l) = true then f (l.map er) else q ((a :: l).map er)) = (if isP s (a :: l) = true then f l else q (a :: l)).er
   split
   ·exact hf.inv _
   ·exact hq.inv _
theorem Loc.ifk {c : Int} {p q : List Tok → PR α} (hc : c ≠ 0) (hp : Loc Q p) (hq : Loc Q q) (h0 : ∀ t, t.f0 = c → Rel Q t (q []) (p [t])) : Loc Q fun ts => if kindP ts = c then p ts else q ts := by
 have hn : ¬ kindP [] = c := fun h => hc h.symm
 refine ⟨?_, fun ts t => ?_, fun ts => ?_⟩
 ·show Z (if kindP [] = c then p [] else q [])
  rw [if_neg hn]
  exact hq.nil
 ·cases ts with
  | nil =>
   show Rel Q t (if kindP [] = c then p [] else q []) (if t.f0 = c then p [t] else q [t])
   rw [if_neg hn]
   by_cases h : t.f0 = c
   ·rw [if_pos h]; exact h0 t h
   ·rw [if_neg h]; exact hq.rel [] t
  | cons a l =>
   show Rel Q t (if a.f0 = c then p (a :: l) else q (a :: l)) (if a.f0 = c then p (a :: l ++ [t]) else q (a :: l ++ [t]))
   split
   ·exact hp.rel _ _
   ·exact hq.rel _ _
 ·cases ts with
  | nil =>
   show (if kindP [] = c then p [] else q []) = (if kindP [] = c then p [] else q []).er
   rw [if_neg hn]
   exact hq.inv []
  | cons a l =>
   show (if a.f0 = c then p ((a :: l).map er) else q ((a :: l).map er)) = (if a.f0 = c then p (a :: l) else q (a :: l)).er
   split
   ·exact hp.inv _
   ·exact hq.inv _
end
theorem loc_want (s : List UInt8) : Loc No (wantP s) := by
 refine ⟨.bad, fun ts t => ?_, fun ts => ?_⟩
 ·cases ts with
  | nil => exact .bad0 _
  | cons a l =>
   show Rel No t (if isP s (a :: l) = true then .ok () l else .bad (a :: l)) (if isP s (a :: l) = true then .ok () (l ++ [t]) else .bad (a :: l ++ [t]))
   split
   ·cases l
    ·exact .same _
    ·exact .ok _ _ _
   ·exact .bad _ _
 ·cases ts with
  | nil => rfl
  | cons a l =>
   show (if isP s (a :: l) = true then .ok () (l.map er) else .bad ((a :: l).map er)) = (if isP s (a :: l) = true then PR.ok () l else .bad (a :: l)).er
   split <;> rfl
theorem loc_small : Loc No smallP := by
 refine ⟨.bad, fun ts t => ?_, fun ts => ?_⟩
 ·cases ts with
  | nil => exact .bad0 _
  | cons a l =>
   show Rel No t (if a.f0 = 1 then .ok a.f1 l else .bad (a :: l)) (if a.f0 = 1 then .ok a.f1 (l ++ [t]) else .bad (a :: l ++ [t]))
   split
   ·cases l
    ·exact .same _
    ·exact .ok _ _ _
   ·exact .bad _ _
 ·cases ts with
  | nil => rfl
  | cons a l =>
   show (if a.f0 = 1 then PR.ok a.f1 (l.map er) else .bad ((a :: l).map er)) = (if a.f0 = 1 then PR.ok a.f1 l else .bad (a :: l)).er
   split <;> rfl
theorem loc_name : Loc No nameP := by
 refine ⟨.bad, fun ts t => ?_, fun ts => ?_⟩
 ·cases ts with
  | nil => exact .bad0 _
  | cons a l =>
   show Rel No t (if a.f0 = 1 ∨ a.f0 = 2 then .ok a.f1 l else .bad (a :: l)) (if a.f0 = 1 ∨ a.f0 = 2 then .ok a.f1 (l ++ [t]) else .bad (a :: l ++ [t]))
   split
   ·cases l
    ·exact .same _
    ·exact .ok _ _ _
   ·exact .bad _ _
 ·cases ts with
  | nil => rfl
  | cons a l =>
   show (if a.f0 = 1 ∨ a.f0 = 2 then PR.ok a.f1 (l.map er) else .bad ((a :: l).map er)) = (if a.f0 = 1 ∨ a.f0 = 2 then PR.ok a.f1 l else .bad (a :: l)).er
   split <;> rfl
theorem loc_node : Loc No nodeP := by
 refine ⟨.bad, fun ts t => ?_, fun ts => ?_⟩
 ·cases ts with
  | nil => exact .bad0 _
  | cons a l =>
   show Rel No t ((if a.f0 = 1 ∨ a.f0 = 2 then PR.ok a.f1 l else .bad (a :: l)).bind fun s tl => .ok (⟨if a.f0 = 2 then 16 else 15, s, []⟩ : Tree) tl) ((if a.f0 = 1 ∨ a.f0 = 2 then PR.ok a.f1 (l ++ [t]) else .bad (a :: l ++ [t])).bind fun s tl => .ok (⟨if a.f0 = 2 then 16 else 15, s, []⟩ : Tree) tl)
   split
   ·cases l
    ·exact .same _
    ·exact .ok _ _ _
   ·exact .bad _ _
 ·cases ts with
  | nil => rfl
  | cons a l =>
   show ((if a.f0 = 1 ∨ a.f0 = 2 then PR.ok a.f1 (l.map er) else .bad ((a :: l).map er)).bind fun s tl => .ok (⟨if a.f0 = 2 then 16 else 15, s, []⟩ : Tree) tl) = ((if a.f0 = 1 ∨ a.f0 = 2 then PR.ok a.f1 l else .bad (a :: l)).bind fun s tl => PR.ok (⟨if a.f0 = 2 then 16 else 15, s, []⟩ : Tree) tl).er
   split <;> rfl
theorem d_want (s : List UInt8) : D (wantP s []) := .bad
theorem loc_in (o s : List UInt8) {Q : Tree → Tree → Prop} {f : List Tok → PR Tree} (hf : Loc Q f) : Loc No (inP o s f) :=
 (loc_want o).bindN fun _ => hf.bindD (fun n => (loc_want s).bindN fun _ => .ret n) fun _ => (d_want s).bind _
/-- Where the sign o stands last, what is between the two signs lacks. -/
theorem d_in1 {o s : List UInt8} {f : List Tok → PR Tree} (hd : D (f [])) {t : Tok} (h : isP o [t] = true) : D (inP o s f [t]) := by
 unfold inP
 rw [wantP_ok h]
 exact hd.bind _
theorem simp_d : ∀ k, D (simpleP k [])
 | 0 => .out
 | _ + 1 => .bad
theorem typ_d : ∀ k, D (typP k [])
 | 0 => .out
 | k + 1 => by unfold typP; exact (simp_d k).bind _
theorem loc_typ : ∀ k, Loc No (simpleP k) ∧ Loc No (typP k)
 | 0 => ⟨by show Loc No fun ts => simpleP 0 ts; simp only [simpleP]; exact .out, by show Loc No fun ts => typP 0 ts; simp only [typP]; exact .out⟩
 | k + 1 => by
  obtain ⟨h1, h2⟩ := loc_typ k
  constructor
  ·show Loc No fun ts => simpleP (k + 1) ts
   simp only [simpleP]
   exact .ite (loc_in _ _ h2) (loc_small.bindN fun s => .ret _) fun t _ => .bad0 _
  ·show Loc No fun ts => typP (k + 1) ts
   simp only [typP]
   exact h1.bindN fun n => .ift (h2.bindN fun m => .ret _) (.ret n) fun t _ => .dead (.ok n) ((typ_d k).bind _)
/-- A tree, and the same with one more leaf at its end. -/
inductive Gr : Tree → Tree → Prop
 | more (k : Int) (s : ByteArray) (l : List Tree) (a : Int) (nm : ByteArray) (hk : k = 15 ∨ k = 16) : Gr ⟨k, s, l⟩ ⟨k, s, l ++ [⟨a, nm, []⟩]⟩
 | last (k : Int) (s : ByteArray) (l : List Tree) (x y : Tree) (hk : 17 ≤ k ∧ k ≤ 30) (h : Gr x y) : Gr ⟨k, s, l ++ [x]⟩ ⟨k, s, l ++ [y]⟩
def GrL (l m : List Tree) : Prop := ∃ a nm, m = l ++ [⟨a, nm, []⟩]
theorem loc_binder (kt : Nat) (kind : Int) (hk : 17 ≤ kind ∧ kind ≤ 30) {body : List Tok → PR Tree} (hb : Loc Gr body) : Loc Gr (binderP kt kind body) :=
 loc_name.bindN fun s => .ift ((loc_typ kt).2.bindN fun ty => (loc_want _).bindN fun _ => hb.bind (fun _ => .ret _) fun x y h t => .grown _ _ (.last kind s [ty] x y hk h))
  ((loc_want _).bindN fun _ => hb.bind (fun _ => .ret _) fun x y h t => .grown _ _ (.last kind s [] x y hk h)) fun t _ => .bad0 _
theorem node_one {t : Tok} (h : t.f0 = 1 ∨ t.f0 = 2) : nodeP [t] = .ok ⟨if t.f0 = 2 then 16 else 15, t.f1, []⟩ [] := by
 show (if t.f0 = 1 ∨ t.f0 = 2 then PR.ok t.f1 [] else .bad [t]).bind _ = _
 rw [if_pos h]
 rfl
theorem args_nil (f : List Tok → PR Tree) (k : Nat) (acc : List Tree) : argsP f k [] acc = .out ∨ argsP f k [] acc = .ok acc [] := by
 cases k with
 | zero => exact .inl rfl
 | succ k =>
  simp only [argsP]
  by_cases h : 6000 < acc.length
  ·rw [if_pos h]; exact .inl rfl
  ·rw [if_neg h]; exact .inr rfl
theorem args_more (f : List Tok → PR Tree) (k : Nat) (acc : List Tree) (t : Tok) (h : t.f0 = 1 ∨ t.f0 = 2) : Rel GrL t (.ok acc []) ((nodeP [t]).bind fun n tl => argsP f k tl (acc ++ [n])) := by
 rw [node_one h]
 show Rel GrL t _ (argsP f k [] _)
 rcases args_nil f k (acc ++ [⟨if t.f0 = 2 then 16 else 15, t.f1, []⟩]) with e | e <;> rw [e]
 ·exact .deadOut _
 ·exact .grown _ _ ⟨_, _, rfl⟩
theorem loc_args {f : List Tok → PR Tree} (hf : Loc Gr f) (hd : D (f [])) : ∀ (k : Nat) (acc : List Tree), Loc GrL fun ts => argsP f k ts acc
 | 0, _ => .out
 | k + 1, acc => by
  have ih := loc_args hf hd k
  simp only [argsP]
  by_cases h6 : 6000 < acc.length
  ·simp only [if_pos h6]; exact .out
  ·simp only [if_neg h6]
   exact .ite ((loc_in _ _ hf).bindN fun n => ih _) (.ifk (by decide) (loc_node.bindN fun n => ih _) (.ifk (by decide) (loc_node.bindN fun n => ih _) (.ret acc) fun t h => args_more f k acc t (.inr h)) fun t h => args_more f k acc t (.inl h))
    fun t h => .dead (.ok acc) ((d_in1 hd h).bind _)
theorem term_d : ∀ k, D (termP k [])
 | 0 => .out
 | _ + 1 => .bad
theorem grl {k : Int} (hk : k = 15 ∨ k = 16) {s : ByteArray} {x y : List Tree} (h : GrL x y) : Gr ⟨k, s, x⟩ ⟨k, s, y⟩ := by obtain ⟨a, nm, rfl⟩ := h; exact .more _ _ _ _ _ hk
theorem node_kind (ts : List Tok) (x : Tree) (l : List Tok) (h : nodeP ts = .ok x l) : x.f0 = 15 ∨ x.f0 = 16 := by
 unfold nodeP at h
 cases h1 : nameP ts with
 | out => rw [h1] at h; cases h
 | bad _ => rw [h1] at h; cases h
 | ok s tl =>
  rw [h1] at h
  injection h with h _
  rw [← h]
  show (if kindP ts = 2 then (16 : Int) else 15) = 15 ∨ _
  split <;> simp
theorem loc_term : ∀ k, Loc Gr (termP k)
 | 0 => by show Loc Gr fun ts => termP 0 ts; simp only [termP]; exact .out
 | k + 1 => by
  have ih := loc_term k
  show Loc Gr fun ts => termP (k + 1) ts
  simp only [termP]
  exact .ift (loc_binder _ _ (by decide) ih) (.ite ((loc_in _ _ ih).mono fun _ _ h => h.elim) (loc_node.bindV node_kind fun n hn => (loc_args ih (term_d k) k []).bind (fun l => .ret _) fun x y h t => .grown _ _ (grl hn h)) fun t _ => .bad0 _) fun t _ => .bad0 _
theorem part_d : ∀ k, D (partP k [])
 | 0 => .out
 | _ + 1 => .bad
theorem level_d : ∀ (k lv : Nat), D (levelP k lv [])
 | 0, _ => .out
 | k + 1, lv => by
  simp only [levelP]
  split
  ·exact part_d k
  ·exact (level_d k _).bind _
theorem nextP_nil (lv : Int) : nextP lv [] = none := by simp [nextP, isP]
theorem loop_nil (k lv : Nat) (n : Tree) : loopP k lv n [] = .out ∨ loopP k lv n [] = .ok n [] := by
 cases k with
 | zero => exact .inl (by simp only [loopP])
 | succ k => exact .inr (by simp only [loopP, nextP_nil])
theorem nextP_hd (lv : Int) (a : Tok) (l m : List Tok) : nextP lv (a :: l) = nextP lv (a :: m) := rfl
theorem nextP_er (lv : Int) (l : List Tok) : nextP lv (l.map er) = nextP lv l := by cases l <;> rfl
theorem loc_next {Q : Tree → Tree → Prop} (lv : Int) {f : List UInt8 × Int × Int → List Tok → PR Tree} {n : Tree} (hf : ∀ o, o ∈ opsL → Loc Q (f o)) (hd : ∀ o, D (f o [])) :
  Loc Q fun ts => match nextP lv ts with | none => .ok n ts | some o => f o ts.tail := by
 refine ⟨by show Z (match nextP lv [] with | none => .ok n [] | some o => f o []); rw [nextP_nil]; exact .ok n, fun ts t => ?_, fun ts => ?_⟩
 ·cases ts with
  | nil =>
   show Rel Q t (match nextP lv [] with | none => .ok n [] | some o => f o []) (match nextP lv [t] with | none => .ok n [t] | some o => f o [])
   rw [nextP_nil]
   show Rel Q t (.ok n []) _
   cases nextP lv [t] with
   | none => exact .same _
   | some o => exact .dead (.ok n) (hd o)
  | cons a l =>
   show Rel Q t (match nextP lv (a :: l) with | none => .ok n (a :: l) | some o => f o l) (match nextP lv (a :: (l ++ [t])) with | none => .ok n (a :: (l ++ [t])) | some o => f o (l ++ [t]))
   rw [nextP_hd lv a (l ++ [t]) l]
   cases hn : nextP lv (a :: l) with
   | none => exact .ok _ _ _
   | some o => exact (hf o (List.mem_of_find?_eq_some hn)).rel l t
 ·show (match nextP lv (ts.map er) with | none => .ok n (ts.map er) | some o => f o (ts.map er).tail) = (match nextP lv ts with | none => PR.ok n ts | some o => f o ts.tail).er
  rw [nextP_er, ← List.map_tail]
  cases hn : nextP lv ts with
  | none => rfl
  | some o => exact (hf o (List.mem_of_find?_eq_some hn)).inv _
theorem opsL_kind : ∀ o ∈ opsL, 17 ≤ o.2.1 ∧ o.2.1 ≤ 30 := by decide
theorem loc_level : ∀ k, (∀ lv, Loc Gr (levelP k lv)) ∧ (∀ lv n, Loc Gr (loopP k lv n)) ∧ Loc Gr (partP k)
 | 0 => ⟨fun lv => by show Loc Gr fun ts => levelP 0 lv ts; simp only [levelP]; exact .out, fun lv n => by show Loc Gr fun ts => loopP 0 lv n ts; simp only [loopP]; exact .out, by show Loc Gr fun ts => partP 0 ts; simp only [partP]; exact .out⟩
 | k + 1 => by
  obtain ⟨h1, h2, h3⟩ := loc_level k
  refine ⟨fun lv => ?_, fun lv n => ?_, ?_⟩
  ·show Loc Gr fun ts => levelP (k + 1) lv ts
   simp only [levelP]
   by_cases h : lv = 5
   ·simp only [if_pos h]; exact h3
   ·simp only [if_neg h]
    refine (h1 _).bind (fun n => h2 lv n) fun x y g t => ?_
    rcases loop_nil k lv x with e | e <;> rw [e]
    ·exact .out _
    ·rcases loop_nil k lv y with e | e <;> rw [e]
     ·exact .deadOut _
     ·exact .grown _ _ g
  ·show Loc Gr fun ts => loopP (k + 1) lv n ts
   simp only [loopP]
   by_cases h : lv = 0
   ·simp only [if_pos h]
    refine loc_next lv (f := fun o ts => (levelP k (lv + 1) ts).bind fun m t2 => loopP k lv ⟨o.2.1, ⟨#[]⟩, [n, m]⟩ t2) (fun o ho => (h1 _).bind (fun m => h2 lv _) fun x y g t => ?_) fun o => (level_d k _).bind _
    rcases loop_nil k lv ⟨o.2.1, ⟨#[]⟩, [n, x]⟩ with e | e <;> rw [e]
    ·exact .out _
    ·rcases loop_nil k lv ⟨o.2.1, ⟨#[]⟩, [n, y]⟩ with e | e <;> rw [e]
     ·exact .deadOut _
     ·exact .grown _ _ (.last _ _ [n] _ _ (opsL_kind o ho) g)
   ·simp only [if_neg h]
    exact loc_next lv (f := fun o ts => (levelP k lv ts).bind fun m t2 => .ok ⟨o.2.1, ⟨#[]⟩, [n, m]⟩ t2) (fun o ho => (h1 _).bind (fun m => .ret _) fun x y g t => .grown _ _ (.last _ _ [n] _ _ (opsL_kind o ho) g)) fun o => (level_d k _).bind _
  ·show Loc Gr fun ts => partP (k + 1) ts
   simp only [partP]
   exact .ift (h3.bind (fun n => .ret _) fun x y g t => .grown _ _ (.last _ _ [] _ _ (by decide) g)) (.ift (loc_binder _ _ (by decide) (h1 0)) (.ift (loc_binder _ _ (by decide) (h1 0)) (.ift (.ret _) (.ift (.ret _) (.ite ((loc_in _ _ (h1 0)).bindN fun n => .ret _)
    (.ite ((loc_in _ _ (h1 0)).mono fun _ _ h => h.elim) (loc_small.bindN fun s => (loc_args (loc_term k) (term_d k) k []).bind (fun l => .ret _) fun x y h t => .grown _ _ (grl (.inl rfl) h))
     fun t _ => .bad0 _) fun t _ => .bad0 _) fun t _ => .bad0 _) fun t _ => .bad0 _) fun t _ => .bad0 _) fun t _ => .bad0 _) fun t _ => .bad0 _
theorem loc_namesL : ∀ (k : Nat) (acc : List Tree), Loc No fun ts => namesL k ts acc
 | 0, _ => .out
 | k + 1, acc => by
  have ih := loc_namesL k
  simp only [namesL]
  by_cases h6 : 6000 < acc.length
  ·simp only [if_pos h6]; exact .out
  ·simp only [if_neg h6]
   exact .ift (loc_small.bindN fun s => ih _) (.ret acc) fun _ _ => .dead (.ok acc) .bad
theorem loc_list (k : Nat) (kd : Int) : Loc No (listP k kd) := by
 show Loc No fun ts => (namesP k ts).bind _
 exact Loc.bindN (p := namesP k) (loc_small.bindN fun s => loc_namesL k _) fun l => .ret _
theorem loc_const (k : Nat) (kd : Int) : Loc No (constP k kd) :=
 (loc_list k kd).bindN fun n => (loc_want _).bindN fun _ => (loc_typ k).2.bindN fun y => .ret _
theorem predT_nil (f : List Tok → PR Tree) (kd : Int) (s : ByteArray) (k : Nat) (acc : List Tree) : predT f kd s k [] acc = .out ∨ predT f kd s k [] acc = .ok ⟨kd, s, acc⟩ [] := by
 cases k with
 | zero => exact .inl rfl
 | succ k =>
  simp only [predT]
  by_cases h : 6000 < acc.length
  ·rw [if_pos h]; exact .inl rfl
  ·rw [if_neg h]; exact .inr rfl
theorem simp_one (k : Nat) {t : Tok} (h : t.f0 = 1) : simpleP k [t] = .out ∨ simpleP k [t] = .ok ⟨15, t.f1, []⟩ [] := by
 cases k with
 | zero => exact .inl (by simp only [simpleP])
 | succ k =>
  right
  have hp : isP [40] [t] = false := by
   show (t.f1.toList == [40] && (t.f0 == 3 || t.f0 == 4)) = false
   rw [h]
   simp
  have hs : smallP [t] = .ok t.f1 [] := by unfold smallP; exact if_pos h
  simp only [simpleP]
  rw [hp, if_neg (by decide), hs]
  rfl
theorem simp_sign (k : Nat) {t : Tok} (h : isP [40] [t] = true) : D (simpleP k [t]) := by
 cases k with
 | zero => simp only [simpleP]; exact .out
 | succ k =>
  simp only [simpleP]
  rw [if_pos h]
  exact d_in1 (typ_d k) h
theorem loc_predT (n : Nat) (kd : Int) (s : ByteArray) : ∀ (k : Nat) (acc : List Tree), Loc Any fun ts => predT (simpleP n) kd s k ts acc
 | 0, _ => .out
 | k + 1, acc => by
  have ih := loc_predT n kd s k
  have hf := (loc_typ n).1
  simp only [predT]
  by_cases h6 : 6000 < acc.length
  ·simp only [if_pos h6]; exact .out
  ·simp only [if_neg h6]
   refine .ite (hf.bindN fun n => ih _) (.ifk (by decide) (hf.bindN fun n => ih _) (.ret _) fun t h => ?_) fun t h => .dead (.ok _) ((simp_sign n h).bind _)
   rcases simp_one n h with e | e <;> rw [e]
   ·exact .deadOut _
   ·show Rel Any t _ (predT _ _ _ _ [] _)
    rcases predT_nil (simpleP n) kd s k (acc ++ [⟨15, t.f1, []⟩]) with e | e <;> rw [e]
    ·exact .deadOut _
    ·exact .grown _ _ trivial
theorem modeT_nil (kd : Int) (s : ByteArray) (k : Nat) (acc : List Tree) : modeT kd s k [] acc = .out ∨ modeT kd s k [] acc = .ok ⟨kd, s, acc⟩ [] := by
 cases k with
 | zero => exact .inl rfl
 | succ k =>
  simp only [modeT]
  by_cases h : 6000 < acc.length
  ·rw [if_pos h]; exact .inl rfl
  ·rw [if_neg h]; exact .inr rfl
theorem loc_modeT (kd : Int) (s : ByteArray) : ∀ (k : Nat) (acc : List Tree), Loc Any fun ts => modeT kd s k ts acc
 | 0, _ => .out
 | k + 1, acc => by
  have ih := loc_modeT kd s k
  simp only [modeT]
  by_cases h6 : 6000 < acc.length
  ·simp only [if_pos h6]; exact .out
  ·simp only [if_neg h6]
   refine .ifk (by decide) (loc_node.bindN fun n => ih _) (.ret _) fun t h => ?_
   rw [node_one (.inl h)]
   show Rel Any t _ (modeT _ _ _ [] _)
   rcases modeT_nil kd s k (acc ++ [⟨if t.f0 = 2 then 16 else 15, t.f1, []⟩]) with e | e <;> rw [e]
   ·exact .deadOut _
   ·exact .grown _ _ trivial
theorem loc_item (k : Nat) (F : FuncId) (kd : Int) : Loc Any (itemF k F kd) := by
 have no : ∀ {p : List Tok → PR Tree}, Loc No p → Loc Any p := fun h => h.mono fun _ _ h => h.elim
 unfold itemF
 split
 ·exact no (loc_list k kd)
 split
 ·exact no (loc_const k kd)
 split
 ·exact loc_small.bindN fun s => loc_predT k kd s k _
 split
 ·exact loc_small.bindN fun s => loc_modeT kd s k _
 split
 ·exact loc_small.bindN fun s => (loc_want _).bindN fun _ => ((loc_level k).1 0).bind (fun y => .ret _) fun x y _ t => .grown _ _ trivial
 ·exact no (loc_small.bindN fun s => .ret _)
theorem item_d (k : Nat) (F : FuncId) (kd : Int) : D (itemF k F kd []) := by
 unfold itemF
 repeat' split
 all_goals exact .bad
def textB1 (kk k : Nat) (acc : List Tree) (r : List UInt8 × Int × FuncId) (ts : List Tok) : PR Tree := (itemF kk r.2.2 r.2.1 ts).bind fun y t2 => (wantP [46] t2).bind fun _ t3 => textT kk k t3 (acc ++ [y])
theorem loc_textT (kk : Nat) : ∀ (k : Nat) (acc : List Tree), Loc No fun ts => textT kk k ts acc
 | 0, _ => .out
 | k + 1, acc => by
  have ih := loc_textT kk k
  have hb : ∀ r, Loc No (textB1 kk k acc r) := fun r => (loc_item kk _ _).bindD (fun y => (loc_want _).bindN fun _ => ih _) fun x => (d_want _).bind _
  have hd : ∀ r, D (textB1 kk k acc r []) := fun r => (item_d kk _ _).bind _
  by_cases h6 : 6000 < acc.length
  ·simp only [textT, if_pos h6]; exact .out
  refine ⟨?_, fun ts t => ?_, fun ts => ?_⟩
  ·simp only [textT, if_neg h6]; exact .ok _
  ·cases ts with
   | nil =>
    simp only [textT, if_neg h6, List.nil_append]
    split
    ·exact .deadBad _ _
    ·split
     ·exact .dead (.ok _) (hd _)
     ·exact .deadBad _ _
   | cons a l =>
    simp only [textT, if_neg h6, List.cons_append]
    split
    ·exact .bad _ _
    ·split
     ·exact (hb _).rel l t
     ·exact .bad _ _
  ·cases ts with
   | nil => simp only [textT, if_neg h6, List.map_nil]; rfl
   | cons a l =>
    simp only [textT, if_neg h6, List.map_cons]
    show (match itemL.find? (fun (r : List UInt8 × Int × FuncId) => a.f1 == (⟨r.1.toArray⟩ : ByteArray)) with | none => PR.bad (er a :: l.map er) | some r => if a.f0 = 4 then textB1 kk k acc r (l.map er) else .bad (er a :: l.map er)) = (match itemL.find? (fun (r : List UInt8 × Int × FuncId) => a.f1 == (⟨r.1.toArray⟩ : ByteArray)) with | none => PR.bad (a :: l) | some r => if a.f0 = 4 then textB1 kk k acc r l else .bad (a :: l)).er
    generalize itemL.find? (fun (r : List UInt8 × Int × FuncId) => a.f1 == (⟨r.1.toArray⟩ : ByteArray)) = o
    cases o with
    | none => rfl
    | some r =>
     show (if a.f0 = 4 then textB1 kk k acc r (l.map er) else .bad (er a :: l.map er)) = (if a.f0 = 4 then textB1 kk k acc r l else .bad (a :: l)).er
     split
     ·exact (hb _).inv l
     ·rfl
theorem loc_text (k : Nat) : Loc No (textP k) := loc_textT k k []
end Go.Proofs.YtbndfgoklgdfdaaGreatDoor.P
end
section
-- Written by wip/xprint.py over the kit's print (several laws in one namespace, some contracts by hand). Not trusted: Lean checks it.
namespace Go.Proofs.YtbndfgoklgdfdaaGreatDoor.P
open Go.RowKit Go.Proofs.YtbndfgoklgdfdaaGreatDoorW.PrintWords Go.Proofs.YtbndfgoklgdfdaaGreatDoorW.PrintLast Go.Proofs.YtbndfgoklgdfdaaGreatDoorW.PrintMore
attribute [local go_sem] max2_int min2_int max_two min_two max_three min_three max_four min_four   -- for this text's walks alone
set_option linter.unusedVariables false
set_option linter.unusedSimpArgs false

/-! ### peculiumref01_token: function 49 -/
end Go.Proofs.YtbndfgoklgdfdaaGreatDoor.P
end
section
-- Written by wip/xprint.py over the kit's print (several laws in one namespace, some contracts by hand). Not trusted: Lean checks it.
namespace Go.Proofs.YtbndfgoklgdfdaaGreatDoor.P
open Go.RowKit Go.Proofs.YtbndfgoklgdfdaaGreatDoorW.PrintWords Go.Proofs.YtbndfgoklgdfdaaGreatDoorW.PrintLast Go.Proofs.YtbndfgoklgdfdaaGreatDoorW.PrintMore
attribute [local go_sem] max2_int min2_int max_two min_two max_three min_three max_four min_four   -- for this text's walks alone
set_option linter.unusedVariables false
set_option linter.unusedSimpArgs false

/-! ### peculiumref01_Check: function 91 -/
/-! ### peculiumref01_IsName: function 67 -/
/-! ### peculiumref01_IsVar: function 69 -/
/-! ### peculiumref01_lineEnd: function 48 -/
/-! ### peculiumref01_Scan: function 24 -/
end Go.Proofs.YtbndfgoklgdfdaaGreatDoor.P
end
