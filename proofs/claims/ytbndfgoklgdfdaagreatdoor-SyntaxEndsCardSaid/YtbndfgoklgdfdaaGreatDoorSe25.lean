/- the chapter's examples (printed by mksane2.py). -/
import Derived.Test.YtbndfgoklgdfdaaGreatDoorSe24
import Derived.Test.YtbndfgoklgdfdaaGreatDoorSe02
set_option linter.all false
set_option linter.unusedSimpArgs false
namespace Go.Proofs.YtbndfgoklgdfdaaGreatDoor.P
open Go.RowKit Go.Proofs.YtbndfgoklgdfdaaGreatDoorW.PrintWords Go.Proofs.YtbndfgoklgdfdaaGreatDoorW.PrintLast Go.Proofs.YtbndfgoklgdfdaaGreatDoorW.PrintMore
def saneR.T18 : Bool × List (List Nat × List Nat) := (true, [([], []), ([0], [0]), ([1], [1]), ([2, 1], [1, 2]), ([3, 1], [1, 3]), ([4, 1], [1, 4]), ([1, 5], [1, 5]), ([6, 1], [6]), ([7], [7]), ([8, 7], [7, 8]), ([9, 7], [7, 9]), ([10, 7], [7, 10]), ([11, 7], [7, 11]), ([12, 7], [7, 12]), ([13, 7], [7, 13]), ([14, 7], [7, 14]), ([15, 7], [7, 15]), ([7, 16], [7, 16]), ([17, 7], [17]), ([18], [18]), ([19, 18], [18, 19]), ([20, 18], [18, 20]), ([21, 18], [18, 21]), ([22, 18], [18, 22]), ([23, 18], [18, 23]), ([24, 18], [18, 24]), ([25, 18], [18, 25]), ([26, 18], [18, 26]), ([27, 18], [18, 27]), ([28, 18], [18, 28]), ([29, 18], [18, 29]), ([30, 18], [18, 30]), ([18], [18]), ([31, 32, 18, 18], [18, 31, 32]), ([18, 33], [18, 33]), ([34, 33, 0, 1, 2, 3, 4, 5, 6, 7, 8, 9, 10, 11, 12, 13, 14, 15, 16, 17, 18, 19, 20, 21, 22, 23, 24, 25, 26, 27, 28, 29, 30, 31, 32, 33, 34], [34])])
def saneR.B18 : List Nat := [0, 1, 3, 7, 15, 31, 63, 127, 255, 511, 1023, 2047, 4095, 8191, 16383, 32767, 65535, 131071, 262143, 524287, 1048575, 2097151, 4194303, 8388607, 16777215, 33554431, 67108863, 134217727, 268435455, 536870911, 1073741823, 2147483647, 524287, 8589934591, 17179869183, 34359738367]
theorem saneR.tab18 : rtab .any (opsOf Tryz.f7 18) = saneR.T18 := by kernel_rfl
theorem saneR.bits18 : waitsOk saneR.T18.2 saneR.B18 = true := by kernel_rfl
set_option maxRecDepth 100000 in
set_option maxHeartbeats 8000000 in
theorem sane_on (w : World) (hg : GOK w) : Calls Tryz.prog 7 #[] w fun e W' => e = .returned (.bool true) ∧ Below w.heap.size w W' := by
 have HG := Lib.hid hg
 clear hg
 have HF := Lib.hid (Fz.refl w)
 go_enter Tryz.func7, Tryz.ntmps7
 go_wp2_with (first
  | (go_at_call 17; refine (ParseForm_on sn1 (by decide) _ (HG.out.below HF.out.below)).mono ?_; rw [sn1_v]; rintro e w5 ⟨A1, c1, rfl, hR_, hb_⟩; have HF2_ := Lib.hid (HF.out.row hb_ (Nat.le_refl _) hR_); clear HF hR_ hb_; have HF := HF2_; clear HF2_)
  | ((with_reducible refine gate_dst (N := 1) rfl ?_); refine ez_box (t := 25) (cs := zN) HF rfl rfl (run_node rfl) ?_; clear HF; intro b1 w6 HF)
  | ((with_reducible refine gate_store (t := 25) (p := 1) rfl ?_); refine ez_put (p := 1) HF rfl rfl rfl rfl rfl rfl rfl ?_; clear HF; intro w7 HF; obtain ⟨q8a, q8b, q8c⟩ := rd3 HF.out.b0))
 refine (print_on sx1 sx1_z _ (HG.out.below HF.out.below) A1 c1 (Kd.R_reads' (show Kd.R k25 25 _ _ _ (.slice A1 (sx1).f2.length c1) (sx1).f2 from HF.out.b1)).2.1 (Kd.R_reads' (show Kd.R k25 25 _ _ _ (.slice A1 (sx1).f2.length c1) (sx1).f2 from HF.out.b1)).2.2).mono ?_
 rw [sx1_p]
 rintro e w9 ⟨rfl, hb_⟩
 replace HF := Lib.hid (HF.out.step hb_)
 clear hb_ q8a q8b q8c
 replace HF := Lib.hid HF.out.lose
 replace HF := Lib.hid HF.out.lose
 go_wp2_with (first
  | (go_at_call 17; refine (ParseForm_on sn2 (by decide) _ (HG.out.below HF.out.below)).mono ?_; rw [sn2_v]; rintro e w10 ⟨A2, c2, rfl, hR_, hb_⟩; have HF2_ := Lib.hid (HF.out.row hb_ (Nat.le_refl _) hR_); clear HF hR_ hb_; have HF := HF2_; clear HF2_)
  | ((with_reducible refine gate_dst (N := 6) rfl ?_); refine ez_box (t := 25) (cs := zN) HF rfl rfl (run_node rfl) ?_; clear HF; intro b6 w11 HF)
  | ((with_reducible refine gate_store (t := 25) (p := 6) rfl ?_); refine ez_put (p := 6) HF rfl rfl rfl rfl rfl rfl rfl ?_; clear HF; intro w12 HF; obtain ⟨q13a, q13b, q13c⟩ := rd3 HF.out.b0))
 refine (print_on sx2 sx2_z _ (HG.out.below HF.out.below) A2 c2 (Kd.R_reads' (show Kd.R k25 25 _ _ _ (.slice A2 (sx2).f2.length c2) (sx2).f2 from HF.out.b1)).2.1 (Kd.R_reads' (show Kd.R k25 25 _ _ _ (.slice A2 (sx2).f2.length c2) (sx2).f2 from HF.out.b1)).2.2).mono ?_
 rw [sx2_p]
 rintro e w14 ⟨rfl, hb_⟩
 replace HF := Lib.hid (HF.out.step hb_)
 clear hb_ q13a q13b q13c
 replace HF := Lib.hid HF.out.lose
 replace HF := Lib.hid HF.out.lose
 go_wp2_with (first
  | (go_at_call 27; refine (node_on _ _ _ _ _ _).mono ?_; rintro e w15 ⟨rfl, hb_⟩; have HF2_ := Lib.hid (HF.out.step hb_); clear HF hb_; have HF := HF2_; clear HF2_)
  | (go_at_call 28; refine (atom_on _ _ _ _ _).mono ?_; rintro e w16 ⟨rfl, hb_⟩; have HF2_ := Lib.hid (HF.out.step hb_); clear HF hb_; have HF := HF2_; clear HF2_)
  | ((with_reducible refine gate_dst (N := 11) rfl ?_); refine ez_box (t := 25) (cs := zN) HF rfl rfl (run_node rfl) ?_; clear HF; intro b11 w17 HF)
  | ((with_reducible refine gate_store (t := 25) (p := 11) rfl ?_); refine ez_put (p := 11) HF rfl rfl rfl rfl rfl rfl rfl ?_; clear HF; intro w18 HF)
  | ((with_reducible refine gate_dst (N := 51) rfl ?_); refine ez_build (n := 1) (cs := tN sx6x none 0) HF rfl rfl (run_build1 (x := sx6x) rfl rfl) ?_; clear HF; intro r1 w19 HF)
  | ((with_reducible refine gate_dst (N := 53) rfl ?_); refine ez_build (n := 1) (cs := tN sx6p (some ⟨r1, 0, none⟩) 1) HF rfl rfl (run_build1 (x := sx6p) rfl rfl) ?_; clear HF; intro r2 w20 HF)
  | ((with_reducible refine gate_dst (N := 12) rfl ?_); refine ez_box (t := 25) (cs := zN) HF rfl rfl (run_node rfl) ?_; clear HF; intro b12 w21 HF)
  | ((with_reducible refine gate_store (t := 25) (p := 12) rfl ?_); refine ez_put (p := 12) HF rfl rfl rfl rfl rfl rfl rfl ?_; clear HF; intro w22 HF; obtain ⟨q23a, q23b, q23c⟩ := rd3 HF.out.b0)
  | ((with_reducible refine gate_dst (N := 57) rfl ?_); refine ez_build (n := 1) (cs := tN sx6a (some ⟨r2, 0, none⟩) 1) HF rfl rfl (run_build1 (x := sx6a) rfl rfl) ?_; clear HF; clear q23a q23b q23c; intro r3 w24 HF)
  | ((with_reducible refine gate_dst (N := 60) rfl ?_); refine ez_build (n := 2) (cs := #[.int .i64 29, .string ⟨#[]⟩, .slice (some ⟨r3, 0, none⟩) 1 1, .int .i64 15, .string ⟨#[113]⟩, .slice none 0 0]) HF rfl rfl (run_build2 (x := sx6b) (y := sx6q) rfl rfl rfl) ?_; clear HF; intro r4 w25 HF))
 have hC1_ := row1_C (b := r1) (x := sx6x) (A := none) (c := 0) (t := 25) HF.out.b4 (Nat.le_refl _) (Kd_C_nil _)
 have hC2_ := row1_C (b := r2) (x := sx6p) (A := some ⟨r1, 0, none⟩) (c := 1) (t := 25) HF.out.b3 (Nat.le_refl _) hC1_
 have hC3_ := row1_C (b := r3) (x := sx6a) (A := some ⟨r2, 0, none⟩) (c := 1) (t := 25) HF.out.b1 (Nat.le_refl _) hC2_
 have hC4_ := row2_C (b := r4) (x := sx6b) (y := sx6q) (A := some ⟨r3, 0, none⟩) (c := 1) (B := none) (d := 0) (t := 25) HF.out.b0 (Nat.le_refl _) hC3_ (Nat.le_refl _) (Kd_C_nil _)
 refine (print_on sx6 sx6_z _ (HG.out.below HF.out.below) (some ⟨r4, 0, none⟩) 2 (Nat.le_refl _) hC4_).mono ?_
 rw [sx6_p]
 rintro e w26 ⟨rfl, hb_⟩
 replace HF := Lib.hid (HF.out.step hb_)
 clear hb_ hC1_ hC2_ hC3_ hC4_
 replace HF := Lib.hid HF.out.lose
 replace HF := Lib.hid HF.out.lose
 replace HF := Lib.hid HF.out.lose
 replace HF := Lib.hid HF.out.lose
 replace HF := Lib.hid HF.out.lose
 go_wp2_with (first
  | (go_at_call 17; refine (ParseForm_on sn3 (by decide) _ (HG.out.below HF.out.below)).mono ?_; rw [sn3_v]; rintro e w27 ⟨A3, c3, rfl, hR_, hb_⟩; have HF2_ := Lib.hid (HF.out.row hb_ (Nat.le_refl _) hR_); clear HF hR_ hb_; have HF := HF2_; clear HF2_)
  | ((with_reducible refine gate_dst (N := 15) rfl ?_); refine ez_box (t := 25) (cs := zN) HF rfl rfl (run_node rfl) ?_; clear HF; intro b15 w28 HF)
  | ((with_reducible refine gate_store (t := 25) (p := 15) rfl ?_); refine ez_put (p := 15) HF rfl rfl rfl rfl rfl rfl rfl ?_; clear HF; intro w29 HF; refine Hid.out ?_))
 refine Lib.hid ?_
 replace HF := Lib.hid HF.out.lose
 replace HF := Lib.hid HF.out.lose
 go_wp2_with (first
  | (go_at_call 17; refine (ParseForm_on sn4 (by decide) _ (HG.out.below HF.out.below)).mono ?_; rw [sn4_v]; rintro e w30 ⟨A4, c4, rfl, hR_, hb_⟩; have HF2_ := Lib.hid (HF.out.row hb_ (Nat.le_refl _) hR_); clear HF hR_ hb_; have HF := HF2_; clear HF2_)
  | ((with_reducible refine gate_dst (N := 18) rfl ?_); refine ez_box (t := 25) (cs := zN) HF rfl rfl (run_node rfl) ?_; clear HF; intro b18 w31 HF)
  | ((with_reducible refine gate_store (t := 25) (p := 18) rfl ?_); refine ez_put (p := 18) HF rfl rfl rfl rfl rfl rfl rfl ?_; clear HF; intro w32 HF; refine Hid.out ?_))
 refine Lib.hid ?_
 replace HF := Lib.hid HF.out.lose
 replace HF := Lib.hid HF.out.lose
 go_wp2_with (first
  | (go_at_call 8; refine (Parse_on sn5 (by decide) _ (HG.out.below HF.out.below)).mono ?_; rw [sn5_v]; rintro e w33 ⟨A5, c5, rfl, hR_, hb_⟩; have HF2_ := Lib.hid (HF.out.row hb_ (Nat.le_refl _) hR_); clear HF hR_ hb_; have HF := HF2_; clear HF2_)
  | ((with_reducible refine gate_dst (N := 21) rfl ?_); refine ez_box (t := 25) (cs := zN) HF rfl rfl (run_node rfl) ?_; clear HF; intro b21 w34 HF)
  | ((with_reducible refine gate_store (t := 25) (p := 21) rfl ?_); refine ez_put (p := 21) HF rfl rfl rfl rfl rfl rfl rfl ?_; clear HF; intro w35 HF; obtain ⟨q36a, q36b, q36c⟩ := rd3 HF.out.b0))
 refine (print_on sx5 sx5_z _ (HG.out.below HF.out.below) A5 c5 (Kd.R_reads' (show Kd.R k25 25 _ _ _ (.slice A5 (sx5).f2.length c5) (sx5).f2 from HF.out.b1)).2.1 (Kd.R_reads' (show Kd.R k25 25 _ _ _ (.slice A5 (sx5).f2.length c5) (sx5).f2 from HF.out.b1)).2.2).mono ?_
 rw [sx5_p]
 rintro e w37 ⟨rfl, hb_⟩
 replace HF := Lib.hid (HF.out.step hb_)
 clear hb_ q36a q36b q36c
 obtain ⟨q38a, q38b, q38c⟩ := rd3 HF.out.b0
 go_wp2_with fail
 refine (vars_on sx5 sx5_z _ A5 c5 (Kd.R_reads' (show Kd.R k25 25 _ _ _ (.slice A5 (sx5).f2.length c5) (sx5).f2 from HF.out.b1)).2.1 (Kd.R_reads' (show Kd.R k25 25 _ _ _ (.slice A5 (sx5).f2.length c5) (sx5).f2 from HF.out.b1)).2.2).mono ?_
 rw [sx5_f]
 rintro e w39 ⟨v_, rfl, hR_, hb_⟩
 obtain ⟨A8, c8, rfl⟩ := Kd.R_slice hR_
 replace HF := Lib.hid (HF.out.row hb_ (Nat.le_refl _) hR_)
 clear hb_ hR_ q38a q38b q38c
 obtain ⟨q40a, q40b, q40c⟩ := rd3 HF.out.b1
 rw [show sx5.f2.length = 2 from rfl] at q40c
 simp only [sn1, sp2, sp5, sp6, List.length_cons, List.length_nil, Nat.zero_add]
 go_wp2_with fail
 have hC5_ := (Kd.R_reads' (show Kd.R k25 25 _ _ _ (.slice A5 (sx5).f2.length c5) (sx5).f2 from HF.out.b2)).2.2
 obtain ⟨a5, A6, c6, e5, _, _, k1_, _, hC6_⟩ := kid_at hC5_ 1 (by decide) sx5b rfl
 subst e5
 obtain ⟨a6, A7, c7, e6, k2_, _, k3_, _, hC7_⟩ := kid_at hC6_ 0 (by decide) sx5n rfl
 subst e6
 obtain ⟨a7, A8', c8', e7, _, _, k4_, _, hC8_⟩ := kid_at hC7_ 1 (by decide) sx5q rfl
 subst e7
 obtain ⟨a8, A9, c9, e8, k5_, k6_, k7_, hl9_, hC9_⟩ := kid_at hC8_ 0 (by decide) sxX rfl
 subst e8
 have hC10_ := (Kd.R_reads' (show Kd.R Kd.string 9 _ _ _ (.slice A8 [(⟨#[88]⟩ : ByteArray)].length c8) [(⟨#[88]⟩ : ByteArray)] from HF.out.b0)).2.2
 obtain ⟨a10, e10, _⟩ := hC10_.2.2 (by decide)
 have k8_ := C_cells hC10_ a10 e10 0 _ rfl
 subst e10
 simp only [Nat.zero_mul, Nat.one_mul, addr_add0, addr_add3] at k1_ k2_ k3_ k4_ k5_ k6_ k7_ k8_
 have HK := Lib.hid (And.intro k1_ (And.intro k2_ (And.intro k3_ (And.intro k4_ (And.intro k5_ (And.intro k6_ (And.intro k7_ k8_)))))))
 have HL9 := Lib.hid hl9_
 have HC9 := Lib.hid hC9_
 clear hC5_ hC6_ hC7_ hC8_ hC9_ hC10_ k1_ k2_ k3_ k4_ k5_ k6_ k7_ k8_ hl9_
 go_wp2_with fail
 go_wp2_with fail
 replace HF := Lib.hid HF.out.drew
 refine wp_only ?_
 refine start_ (n := 36) (S := (fun w' => True ∧ w'.cell? (⟨b21, 2, none⟩) = some (.slice (some a5) 2 c5) ∧ w'.cell? (⟨a5.block, a5.off + 3 + 2, none⟩) = some (.slice (some a6) 1 c6) ∧ w'.cell? (a6) = some (.int .i64 27) ∧ w'.cell? (⟨a6.block, a6.off + 2, none⟩) = some (.slice (some a7) 2 c7) ∧ w'.cell? (⟨a7.block, a7.off + 3 + 2, none⟩) = some (.slice (some a8) 1 c8') ∧ w'.cell? (a8) = some (.int .i64 16) ∧ w'.cell? (⟨a8.block, a8.off + 1, none⟩) = some (.string ⟨#[88]⟩) ∧ w'.cell? (⟨a8.block, a8.off + 2, none⟩) = some (.slice A9 0 c9) ∧ w'.cell? (a10) = some (.string ⟨#[88]⟩) ∧ w'.cell? (⟨b11, 0, none⟩) = some (.int .i64 16) ∧ w'.cell? (⟨b11, 1, none⟩) = some (.string ⟨#[88]⟩) ∧ w'.cell? (⟨b11, 2, none⟩) = some (.slice none 0 0))) (ds := [33]) #[false, false, false, false, false, false, false, false, false, false, false, false, false, false, false, false, false, false, false, false, false, false, false, false, false, false, false, false, false, false, false, false, false, false, false, false] (by kernel_rfl) rfl rfl ?_ (fun hHeld => ?_)
 ·exact ⟨trivial, (blk_cell HF.out.b1 2).trans rfl, HK.out.1, HK.out.2.1, HK.out.2.2.1, HK.out.2.2.2.1, HK.out.2.2.2.2.1, HK.out.2.2.2.2.2.1, HK.out.2.2.2.2.2.2.1, HK.out.2.2.2.2.2.2.2, (blk_cell HF.out.b3 0).trans rfl, (blk_cell HF.out.b3 1).trans rfl, (blk_cell HF.out.b3 2).trans rfl⟩
 refine with_tabW saneR.tab18 saneR.bits18 (fun HT_ HW_ => ?_)
 refine pqso 0 (fl 36 1) (hc := any_of HT_.out (by kernel_rfl)) (h := ?_)
 refine pqso 1 (fl 36 2) (hc := any_of HT_.out (by kernel_rfl)) (h := ?_)
 refine pqso 2 (fl 36 3) (hc := any_of HT_.out (by kernel_rfl)) (h := ?_)
 refine pqso 3 (fl 36 4) (hc := any_of HT_.out (by kernel_rfl)) (h := ?_)
 refine tqso hHeld 4 (fl 36 5) (hc := take_ofW HT_.out HW_.out (by kernel_rfl)) (h := ?_)
 refine pqso 5 (fl 36 6) (hc := any_of HT_.out (by kernel_rfl)) (h := ?_)
 refine pqso 6 (fl 36 7) (hc := any_of HT_.out (by kernel_rfl)) (h := ?_)
 refine pqso 7 (fl 36 8) (hc := any_of HT_.out (by kernel_rfl)) (h := ?_)
 refine pqso 8 (fl 36 9) (hc := any_of HT_.out (by kernel_rfl)) (h := ?_)
 refine tqso hHeld 9 (fl 36 10) (hc := take_ofW HT_.out HW_.out (by kernel_rfl)) (h := ?_)
 refine pqso 10 (fl 36 11) (hc := any_of HT_.out (by kernel_rfl)) (h := ?_)
 refine pqso 11 (fl 36 12) (hc := any_of HT_.out (by kernel_rfl)) (h := ?_)
 refine tqso hHeld 12 (fl 36 13) (hc := take_ofW HT_.out HW_.out (by kernel_rfl)) (h := ?_)
 refine pqso 13 (fl 36 14) (hc := any_of HT_.out (by kernel_rfl)) (h := ?_)
 refine pqso 14 (fl 36 15) (hc := any_of HT_.out (by kernel_rfl)) (h := ?_)
 refine tqso hHeld 15 (fl 36 16) (hc := take_ofW HT_.out HW_.out (by kernel_rfl)) (h := ?_)
 refine pqso 16 (fl 36 17) (hc := any_of HT_.out (by kernel_rfl)) (h := ?_)
 refine pqso 17 (fl 36 18) (hc := any_of HT_.out (by kernel_rfl)) (h := ?_)
 refine pqso 18 (fl 36 19) (hc := any_of HT_.out (by kernel_rfl)) (h := ?_)
 refine pqso 19 (fl 36 20) (hc := any_of HT_.out (by kernel_rfl)) (h := ?_)
 refine tqso hHeld 20 (fl 36 21) (hc := take_ofW HT_.out HW_.out (by kernel_rfl)) (h := ?_)
 refine pqso 21 (fl 36 22) (hc := any_of HT_.out (by kernel_rfl)) (h := ?_)
 refine pqso 22 (fl 36 23) (hc := any_of HT_.out (by kernel_rfl)) (h := ?_)
 refine tqso hHeld 23 (fl 36 24) (hc := take_ofW HT_.out HW_.out (by kernel_rfl)) (h := ?_)
 refine pqso 24 (fl 36 25) (hc := any_of HT_.out (by kernel_rfl)) (h := ?_)
 refine pqso 25 (fl 36 26) (hc := any_of HT_.out (by kernel_rfl)) (h := ?_)
 refine tqso hHeld 26 (fl 36 27) (hc := take_ofW HT_.out HW_.out (by kernel_rfl)) (h := ?_)
 refine pqso 27 (fl 36 28) (hc := any_of HT_.out (by kernel_rfl)) (h := ?_)
 refine pqso 28 (fl 36 29) (hc := any_of HT_.out (by kernel_rfl)) (h := ?_)
 refine tqso hHeld 29 (fl 36 30) (hc := take_ofW HT_.out HW_.out (by kernel_rfl)) (h := ?_)
 refine pqso 30 (fl 36 31) (hc := any_of HT_.out (by kernel_rfl)) (h := ?_)
 refine tqso hHeld 31 (fl 36 32) (hc := take_ofW HT_.out HW_.out (by kernel_rfl)) (h := ?_)
 refine tqso hHeld 32 (fl 36 33) (hc := take_ofW HT_.out HW_.out (by kernel_rfl)) (h := ?_)
 refine last_ (i := 33) (N := some 192) #[true, true, true, true, true, true, true, true, true, true, true, true, true, true, true, true, true, true, true, true, true, true, true, true, true, true, true, true, true, true, true, true, true, true, false, false] rfl rfl (one_of HT_.out (by kernel_rfl)) (by decide) (fun K hK => ?_)
 go_simp
 refine (Same_calls sxX sxX A9 none c9 0 _ HL9.out (Kd.C_below HC9.out (pw_below_drewN (Below.refl _ _) 1)) (Nat.le_refl _) (Kd_C_nil _)).mono ?_
 rw [sxX_s]
 rintro e w41 ⟨rfl, hb_⟩
 replace HF := Lib.hid (HF.out.step hb_)
 clear hb_ HK HL9 HC9
 refine hK.out _ _ ?_
 clear hK K
 (try simp only [Act.put, List.setIfInBounds_toArray, List.set_cons_zero, List.set_cons_succ])
 refine pqso 34 (fl 36 35) (hc := any_of HT_.out (by kernel_rfl)) (h := ?_)
 refine pqso 35 (fl 36 36) (hc := any_of HT_.out (by kernel_rfl)) (h := ?_)
 refine done_ (done_of HT_.out (by kernel_rfl)) ⟨rfl, ?_⟩
 skip
 try simp only [Act.put, List.setIfInBounds_toArray, List.set_cons_zero, List.set_cons_succ]
 go_wp2_with fail
 go_ret
 exact ⟨rfl, HF.out.below⟩
end Go.Proofs.YtbndfgoklgdfdaaGreatDoor.P
