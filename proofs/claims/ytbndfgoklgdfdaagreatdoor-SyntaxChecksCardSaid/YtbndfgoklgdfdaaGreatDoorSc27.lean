/- The reference's functions, as the print has them, say what the plain scanner says. The reference's token: the plain scanner's. The reference's Scan, Same, Equal: the plain scanner's. -/
import Derived.Test.YtbndfgoklgdfdaaGreatDoorSc04
import Derived.Test.YtbndfgoklgdfdaaGreatDoorSc12
import Derived.Test.YtbndfgoklgdfdaaGreatDoorSc26
import Derived.Test.YtbndfgoklgdfdaaGreatDoorSc05
set_option linter.all false
section
-- Written by wip/xprint.py over the kit's print (several laws in one namespace, some contracts by hand). Not trusted: Lean checks it.
namespace Go.Proofs.YtbndfgoklgdfdaaGreatDoor.P
open Go.RowKit Go.Proofs.YtbndfgoklgdfdaaGreatDoorW.PrintWords Go.Proofs.YtbndfgoklgdfdaaGreatDoorW.PrintLast Go.Proofs.YtbndfgoklgdfdaaGreatDoorW.PrintMore
attribute [local go_sem] max2_int min2_int max_two min_two max_three min_three max_four min_four   -- for this text's walks alone
set_option linter.unusedVariables false
set_option linter.unusedSimpArgs false

/-! ### peculiumref01_Check: function 91 -/
def peculiumref01_Check.j0 : Nat → Bool → Int → ByteArray → Int → Option (Int)
 | 0, _, _, _, _ => none
 | k + 1, x26, x143000, x143001, x143002 => if x26 = true then (some 12) else ((peculiumref01_token.f k x143001 0).bind fun bt144 => (if bt144.1 = x143000 then (if bt144.2 = (x143001.size : Int) then (if bt144.1 = 0 then (some 12) else (some 0)) else (some 12)) else (some 12)))
def peculiumref01_Check.f (k : Nat) (a0_0 : Int) (a0_1 : ByteArray) (a0_2 : Int) : Option (Int) := if (a0_1.size : Int) = 0 then (peculiumref01_Check.j0 k true a0_0 a0_1 a0_2) else (if (a0_1.size : Int) > 40 then (peculiumref01_Check.j0 k true a0_0 a0_1 a0_2) else (if 0 < (a0_1.size : Int) then ((peculiumref01_blank.f (bt a0_1 0)).bind fun t143 => (if t143 = true then (peculiumref01_Check.j0 k true a0_0 a0_1 a0_2) else (peculiumref01_Check.j0 k ((bt a0_1 0) == 37) a0_0 a0_1 a0_2))) else (none)))
set_option maxHeartbeats 8000000 in
set_option maxRecDepth 100000 in
theorem peculiumref01_Check.calls (k : Nat) (a0_0 : Int) (a0_1 : ByteArray) (a0_2 : Int) (r : Int) (w : World) (h : peculiumref01_Check.f k a0_0 a0_1 a0_2 = some r) :
  Calls Tryz.prog 91 #[.agg #[.int .i64 a0_0, .string a0_1, .int .i64 a0_2]] w fun e w' => e = .returned (.int .i64 r) ∧ Below w.heap.size w w' := by
 have hu65 := Tryz.underlying65
 have HB := Aside0.mk (Below.refl w.heap.size w)
 have H : (if (a0_1.size : Int) = 0 then (peculiumref01_Check.j0 k true a0_0 a0_1 a0_2) else (if (a0_1.size : Int) > 40 then (peculiumref01_Check.j0 k true a0_0 a0_1 a0_2) else (if 0 < (a0_1.size : Int) then ((peculiumref01_blank.f (bt a0_1 0)).bind fun t143 => (if t143 = true then (peculiumref01_Check.j0 k true a0_0 a0_1 a0_2) else (peculiumref01_Check.j0 k ((bt a0_1 0) == 37) a0_0 a0_1 a0_2))) else (none)))) = some r := h
 clear h
 have HC2 := Aside0.mk H
 clear H
 go_enter Tryz.func91, Tryz.ntmps91
 go_upto_region 1 with (first | ((with_reducible refine gate_dst (N := 1) rfl ?_); (try (refine gate_guard (by rfl) ?_; dsimp only)); refine box_event ?hg (N := 1) ?hd (cs := #[.int .i64 a0_0, .string a0_1, .int .i64 a0_2]) (t := 65) ?hr ?_; (case hd => rfl); (case hg => rfl); (case hr => first | (go_simp; done) | (go_simp; rfl)); intro gb142 hg w3 hbox hb; have n0_ := Aside0.mk (below_step (by repeat (first | (with_reducible first | exact HB.out | apply below_alloc | apply pw_below_drewN | apply below_drew1) | exact HB.out)) hb); have n1_ := Aside0.mk (hbox); have n2_ := Aside0.mk ((by rw [hg]; exact (below_size (by repeat (first | (with_reducible first | exact HB.out | apply below_alloc | apply pw_below_drewN | apply below_drew1) | exact HB.out))) : w.heap.size ≤ gb142)); have n3_ := Aside0.mk ((by rw [hg]; exact (below_size (by repeat (first | (with_reducible first | exact HB.out | apply below_alloc | apply pw_below_drewN | apply below_drew1) | exact HB.out))) : w.heap.size ≤ gb142)); clear HB; have HB := n0_; have BK142 := n1_; have GW142 := n2_; have GE142 := n3_; clear n0_ n1_ n2_ n3_; clear hb hbox hg))
 (try simp only [Act.put, List.setIfInBounds_toArray, List.set_cons_zero, List.set_cons_succ])
 go_cut [26] (fun v26 wc => ∃ (kq : Nat) (x26_1 : Bool), v26 = .bool x26_1 ∧ Aside0 (peculiumref01_Check.j0 kq x26_1 a0_0 a0_1 a0_2 = some r) ∧ Aside0 (kq ≤ k) ∧ Aside0 (wc.heap[gb142]? = some (.cells #[.int .i64 a0_0, .string a0_1, .int .i64 a0_2] 65 (0, 0))) ∧ Aside0 (Below w.heap.size w wc))
 case first =>
  have H := HC2.out
  clear HC2
  by_cases c4 : (a0_1.size : Int) = 0
  ·rw [if_pos c4] at H
   have c4b0 : ((a0_1.size : Int) == 0) = true := beq_iff_eq.mpr c4
   have c4b1 : ((a0_1.size : Int) != 0) = false := bne_eq_false_iff_eq.mpr c4
   clear c4
   (first | rw [c4b0] | (simp only [i64_w, i32_w]; rw [c4b0]) | skip)
   have H' := Aside0.mk H
   clear H
   have hcz5_0 : w3.cell? ⟨gb142, 0, none⟩ = some (.int .i64 a0_0) := (blk_cell BK142.out 0).trans rfl
   have hcz5_1 : w3.cell? ⟨gb142, 1, none⟩ = some (.string a0_1) := (blk_cell BK142.out 1).trans rfl
   have hcz5_2 : w3.cell? ⟨gb142, 2, none⟩ = some (.int .i64 a0_2) := (blk_cell BK142.out 2).trans rfl
   have hfz5_0 := blk_frozen BK142.out 0
   have hfz5_1 := blk_frozen BK142.out 1
   have hfz5_2 := blk_frozen BK142.out 2
   go_wp2
   go_meet
   case rel => exact ⟨_, (true), (by first | rfl | (simp; done) | (simp; exact (show ∀ l_ : List UInt8, l_.isEmpty = !(l_ != []) from fun l_ => by cases l_ <;> rfl) _) | (simp [*]; done)), H', ⟨by first | omega | exact Nat.le_refl _⟩, ⟨by (with_reducible repeat (first | refine blk_drewN ?_ _ | refine blk_drew ?_ | refine blk_alloc ?_ _)); exact BK142.out⟩, ⟨by repeat (first | (with_reducible first | exact HB.out | apply below_alloc | apply pw_below_drewN | apply below_drew1 | refine below_set ?_ GE142.out) | exact HB.out)⟩⟩
  ·rw [if_neg c4] at H
   have c4b0 : ((a0_1.size : Int) == 0) = false := beq_eq_false_iff_ne.mpr c4
   have c4b1 : ((a0_1.size : Int) != 0) = true := bne_iff_ne.mpr c4
   (first | rw [c4b0] | (simp only [i64_w, i32_w]; rw [c4b0]) | skip)
   by_cases c6 : (a0_1.size : Int) > 40
   ·rw [if_pos c6] at H
    have c6b0 : decide (40 < (a0_1.size : Int)) = true := decide_eq_true c6
    have c6b1 : decide (40 < a0_1.size) = true := decide_eq_true (by omega)
    clear c6
    have H' := Aside0.mk H
    clear H
    have hcz7_0 : w3.cell? ⟨gb142, 0, none⟩ = some (.int .i64 a0_0) := (blk_cell BK142.out 0).trans rfl
    have hcz7_1 : w3.cell? ⟨gb142, 1, none⟩ = some (.string a0_1) := (blk_cell BK142.out 1).trans rfl
    have hcz7_2 : w3.cell? ⟨gb142, 2, none⟩ = some (.int .i64 a0_2) := (blk_cell BK142.out 2).trans rfl
    have hfz7_0 := blk_frozen BK142.out 0
    have hfz7_1 := blk_frozen BK142.out 1
    have hfz7_2 := blk_frozen BK142.out 2
    go_wp2
    go_meet
    case rel => exact ⟨_, (true), (by first | rfl | (simp; done) | (simp; exact (show ∀ l_ : List UInt8, l_.isEmpty = !(l_ != []) from fun l_ => by cases l_ <;> rfl) _) | (simp [*]; done)), H', ⟨by first | omega | exact Nat.le_refl _⟩, ⟨by (with_reducible repeat (first | refine blk_drewN ?_ _ | refine blk_drew ?_ | refine blk_alloc ?_ _)); exact BK142.out⟩, ⟨by repeat (first | (with_reducible first | exact HB.out | apply below_alloc | apply pw_below_drewN | apply below_drew1 | refine below_set ?_ GE142.out) | exact HB.out)⟩⟩
   ·rw [if_neg c6] at H
    have c6b0 : decide (40 < (a0_1.size : Int)) = false := decide_eq_false c6
    have c6b1 : decide (40 < a0_1.size) = false := decide_eq_false (by omega)
    clear c6
    by_cases c8 : 0 < (a0_1.size : Int)
    ·rw [if_pos c8] at H
     have c8b0 : decide (0 < (a0_1.size : Int)) = true := decide_eq_true c8
     have c8b1 : decide (0 < a0_1.size) = true := decide_eq_true (by omega)
     clear c8
     replace H := Option.bind_eq_some_iff.mp H
     obtain ⟨t143, A100, H⟩ := H
     replace H : (if t143 = true then (peculiumref01_Check.j0 k true a0_0 a0_1 a0_2) else (peculiumref01_Check.j0 k ((bt a0_1 0) == 37) a0_0 a0_1 a0_2)) = some r := H
     have A10 := Aside0.mk A100
     clear A100
     by_cases c11 : t143 = true
     ·subst c11
      have H1 : (peculiumref01_Check.j0 k true a0_0 a0_1 a0_2) = some r := by rw [if_pos rfl] at H; exact H
      clear H
      have H := H1
      clear H1
      have H' := Aside0.mk H
      clear H
      have hcz12_0 : w3.cell? ⟨gb142, 0, none⟩ = some (.int .i64 a0_0) := (blk_cell BK142.out 0).trans rfl
      have hcz12_1 : w3.cell? ⟨gb142, 1, none⟩ = some (.string a0_1) := (blk_cell BK142.out 1).trans rfl
      have hcz12_2 : w3.cell? ⟨gb142, 2, none⟩ = some (.int .i64 a0_2) := (blk_cell BK142.out 2).trans rfl
      have hfz12_0 := blk_frozen BK142.out 0
      have hfz12_1 := blk_frozen BK142.out 1
      have hfz12_2 := blk_frozen BK142.out 2
      have p9 : 0 ≤ (0 : Int) := (by omega)
      have q9 : 0 < a0_1.size := (by have : (0 : Int) < (a0_1.size : Int) := of_decide_eq_true (by first | (with_reducible assumption) | assumption); omega)
      have hx9 : ∀ h : 0 < a0_1.size, ((a0_1[0]'h).toNat : Int) = bt a0_1 0 := bt_at a0_1 0
      clear p9
      have qi9 : (0 < (a0_1.size : Int)) = True := eq_true (of_decide_eq_true (by first | (with_reducible assumption) | assumption))
      replace q9 := eq_true q9
      go_wp2_with (first | (go_at_call 47; (with_reducible refine (peculiumref01_blank.calls (bt a0_1 0) true _ A10.out).mono ?_); rintro e w' ⟨rfl, ⟨nd, rfl⟩⟩))
      go_meet
      case rel => exact ⟨_, (true), (by first | rfl | (simp; done) | (simp; exact (show ∀ l_ : List UInt8, l_.isEmpty = !(l_ != []) from fun l_ => by cases l_ <;> rfl) _) | (simp [*]; done)), H', ⟨by first | omega | exact Nat.le_refl _⟩, ⟨by (with_reducible repeat (first | refine blk_drewN ?_ _ | refine blk_drew ?_ | refine blk_alloc ?_ _)); exact BK142.out⟩, ⟨by repeat (first | (with_reducible first | exact HB.out | apply below_alloc | apply pw_below_drewN | apply below_drew1 | refine below_set ?_ GE142.out) | exact HB.out)⟩⟩
     ·replace c11 := Bool.eq_false_iff.mpr c11
      subst c11
      have H1 : (peculiumref01_Check.j0 k ((bt a0_1 0) == 37) a0_0 a0_1 a0_2) = some r := by rw [if_neg (show ¬ (false = true) by decide)] at H; exact H
      clear H
      have H := H1
      clear H1
      have H' := Aside0.mk H
      clear H
      have hcz14_0 : w3.cell? ⟨gb142, 0, none⟩ = some (.int .i64 a0_0) := (blk_cell BK142.out 0).trans rfl
      have hcz14_1 : w3.cell? ⟨gb142, 1, none⟩ = some (.string a0_1) := (blk_cell BK142.out 1).trans rfl
      have hcz14_2 : w3.cell? ⟨gb142, 2, none⟩ = some (.int .i64 a0_2) := (blk_cell BK142.out 2).trans rfl
      have hfz14_0 := blk_frozen BK142.out 0
      have hfz14_1 := blk_frozen BK142.out 1
      have hfz14_2 := blk_frozen BK142.out 2
      have p9 : 0 ≤ (0 : Int) := (by omega)
      have q9 : 0 < a0_1.size := (by have : (0 : Int) < (a0_1.size : Int) := of_decide_eq_true (by first | (with_reducible assumption) | assumption); omega)
      have hx9 : ∀ h : 0 < a0_1.size, ((a0_1[0]'h).toNat : Int) = bt a0_1 0 := bt_at a0_1 0
      clear p9
      have qi9 : (0 < (a0_1.size : Int)) = True := eq_true (of_decide_eq_true (by first | (with_reducible assumption) | assumption))
      replace q9 := eq_true q9
      go_wp2_with (first | (go_at_call 47; (with_reducible refine (peculiumref01_blank.calls (bt a0_1 0) false _ A10.out).mono ?_); rintro e w' ⟨rfl, ⟨nd, rfl⟩⟩; have p13 : 0 ≤ (0 : Int) := (by omega); have q13 : 0 < a0_1.size := (by have : (0 : Int) < (a0_1.size : Int) := of_decide_eq_true (by first | (with_reducible assumption) | assumption); omega); have hx13 : ∀ h : 0 < a0_1.size, ((a0_1[0]'h).toNat : Int) = bt a0_1 0 := bt_at a0_1 0; clear p13; have qi13 : (0 < (a0_1.size : Int)) = True := eq_true (of_decide_eq_true (by first | (with_reducible assumption) | assumption)); replace q13 := eq_true q13))
      go_meet
      case rel => exact ⟨_, (((bt a0_1 0) == 37)), (by first | rfl | (simp; done) | (simp; exact (show ∀ l_ : List UInt8, l_.isEmpty = !(l_ != []) from fun l_ => by cases l_ <;> rfl) _) | (simp [*]; done)), H', ⟨by first | omega | exact Nat.le_refl _⟩, ⟨by (with_reducible repeat (first | refine blk_drewN ?_ _ | refine blk_drew ?_ | refine blk_alloc ?_ _)); exact BK142.out⟩, ⟨by repeat (first | (with_reducible first | exact HB.out | apply below_alloc | apply pw_below_drewN | apply below_drew1 | refine below_set ?_ GE142.out) | exact HB.out)⟩⟩
    ·rw [if_neg c8] at H
     exact absurd H (by simp)
 case rest =>
  clear HC2
  try clear c1
  try clear p1
  try clear q1
  try clear hx1
  try clear qi1
  try clear p2
  try clear c4
  try clear c4b0
  try clear c4b1
  try clear c6
  try clear c6b0
  try clear c6b1
  try clear c8
  try clear c8b0
  try clear c8b1
  try clear c9
  try clear p9
  try clear q9
  try clear hx9
  try clear qi9
  try clear c11
  try clear p13
  try clear q13
  try clear hx13
  try clear qi13
  try clear hcz12_0
  try clear hcz12_1
  try clear hcz12_2
  try clear hcz14_0
  try clear hcz14_1
  try clear hcz14_2
  try clear hcz5_0
  try clear hcz5_1
  try clear hcz5_2
  try clear hcz7_0
  try clear hcz7_1
  try clear hcz7_2
  try clear hfz12_0
  try clear hfz12_1
  try clear hfz12_2
  try clear hfz14_0
  try clear hfz14_1
  try clear hfz14_2
  try clear hfz5_0
  try clear hfz5_1
  try clear hfz5_2
  try clear hfz7_0
  try clear hfz7_1
  try clear hfz7_2
  try clear p13
  try clear p9
  try clear q13
  try clear q9
  obtain ⟨kq, x26_1, rfl, HA, HJ1, BK142, HB⟩ := hcut
  cases kq with
  | zero => exact absurd HA.out (by simp [peculiumref01_Check.j0])
  | succ kj1 =>
   have H := HA.out
   clear HA
   simp only [peculiumref01_Check.j0] at H
   by_cases c15 : x26_1 = true
   ·subst c15
    have H1 : (some 12) = some r := by rw [if_pos rfl] at H; exact H
    clear H
    have H := H1
    clear H1
    obtain rfl := Option.some.inj H
    go_wp2
    go_ret
    exact ⟨by first | rfl | (simp [errW_none, errW_some] <;> rfl) | (simp [*, errW_none, errW_some] <;> rfl), by repeat (first | (with_reducible first | exact HB.out | apply below_alloc | apply pw_below_drewN | apply below_drew1 | refine below_set ?_ GE142.out) | exact HB.out)⟩
   ·replace c15 := Bool.eq_false_iff.mpr c15
    subst c15
    have H1 : ((peculiumref01_token.f kj1 a0_1 0).bind fun bt144 => (if bt144.1 = a0_0 then (if bt144.2 = (a0_1.size : Int) then (if bt144.1 = 0 then (some 12) else (some 0)) else (some 12)) else (some 12))) = some r := by rw [if_neg (show ¬ (false = true) by decide)] at H; exact H
    clear H
    have H := H1
    clear H1
    replace H := Option.bind_eq_some_iff.mp H
    obtain ⟨⟨t144, t145⟩, A160, H⟩ := H
    replace H : (if t144 = a0_0 then (if t145 = (a0_1.size : Int) then (if t144 = 0 then (some 12) else (some 0)) else (some 12)) else (some 12)) = some r := H
    have A16 := Aside0.mk A160
    clear A160
    by_cases c17 : t144 = a0_0
    ·rw [if_pos c17] at H
     have c17b0 : (t144 == a0_0) = true := beq_iff_eq.mpr c17
     have c17b1 : (t144 != a0_0) = false := bne_eq_false_iff_eq.mpr c17
     clear c17
     by_cases c18 : t145 = (a0_1.size : Int)
     ·rw [if_pos c18] at H
      have c18b0 : (t145 == (a0_1.size : Int)) = true := beq_iff_eq.mpr c18
      have c18b1 : (t145 != (a0_1.size : Int)) = false := bne_eq_false_iff_eq.mpr c18
      clear c18
      by_cases c19 : t144 = 0
      ·rw [if_pos c19] at H
       have c19b0 : (t144 == 0) = true := beq_iff_eq.mpr c19
       have c19b1 : (t144 != 0) = false := bne_eq_false_iff_eq.mpr c19
       clear c19
       obtain rfl := Option.some.inj H
       have hcz20_0 : wc.cell? ⟨gb142, 0, none⟩ = some (.int .i64 a0_0) := (blk_cell BK142.out 0).trans rfl
       have hcz20_1 : wc.cell? ⟨gb142, 1, none⟩ = some (.string a0_1) := (blk_cell BK142.out 1).trans rfl
       have hcz20_2 : wc.cell? ⟨gb142, 2, none⟩ = some (.int .i64 a0_2) := (blk_cell BK142.out 2).trans rfl
       have hfz20_0 := blk_frozen BK142.out 0
       have hfz20_1 := blk_frozen BK142.out 1
       have hfz20_2 := blk_frozen BK142.out 2
       go_wp2_with (first | ((with_reducible refine gate_callee (f := 49) rfl ?_); refine goesL_ (some 30) rfl rfl Tryz.func49 (by kernel_rfl) rfl #[.string a0_1, .int .i64 0] rfl (by (try simp only [List.map_toArray, List.map_cons, List.map_nil]); first | done | rfl | (simp only [List.length_drop, List.length_take]; rfl)) ?_; (with_reducible refine (peculiumref01_token.calls kj1 a0_1 0 t144 t145 _ A16.out).mono ?_); rintro e w21 ⟨rfl, hb⟩; refine ⟨_, rfl, ?_⟩; have n0_ := Aside0.mk (blk_below (g := gb142) (o := .cells #[.int .i64 a0_0, .string a0_1, .int .i64 a0_2] 65 (0, 0)) (by (with_reducible repeat (first | refine blk_drewN ?_ _ | refine blk_drew ?_ | refine blk_alloc ?_ _)); exact BK142.out) hb); have n1_ := Aside0.mk (below_step (by repeat (first | (with_reducible first | exact HB.out | apply below_alloc | apply pw_below_drewN | apply below_drew1 | refine below_set ?_ GE142.out) | exact HB.out)) hb); clear BK142; clear HB; have BK142 := n0_; have HB := n1_; clear n0_ n1_; (try clear hb); (try clear hb2); (try clear hk); (try clear hi); have hcz22_0 : w21.cell? ⟨gb142, 0, none⟩ = some (.int .i64 a0_0) := (blk_cell BK142.out 0).trans rfl; have hcz22_1 : w21.cell? ⟨gb142, 1, none⟩ = some (.string a0_1) := (blk_cell BK142.out 1).trans rfl; have hcz22_2 : w21.cell? ⟨gb142, 2, none⟩ = some (.int .i64 a0_2) := (blk_cell BK142.out 2).trans rfl; have hfz22_0 := blk_frozen BK142.out 0; have hfz22_1 := blk_frozen BK142.out 1; have hfz22_2 := blk_frozen BK142.out 2))
       go_ret
       exact ⟨by first | rfl | (simp [errW_none, errW_some] <;> rfl) | (simp [*, errW_none, errW_some] <;> rfl), by repeat (first | (with_reducible first | exact HB.out | apply below_alloc | apply pw_below_drewN | apply below_drew1 | refine below_set ?_ GE142.out) | exact HB.out)⟩
      ·rw [if_neg c19] at H
       have c19b0 : (t144 == 0) = false := beq_eq_false_iff_ne.mpr c19
       have c19b1 : (t144 != 0) = true := bne_iff_ne.mpr c19
       obtain rfl := Option.some.inj H
       have hcz23_0 : wc.cell? ⟨gb142, 0, none⟩ = some (.int .i64 a0_0) := (blk_cell BK142.out 0).trans rfl
       have hcz23_1 : wc.cell? ⟨gb142, 1, none⟩ = some (.string a0_1) := (blk_cell BK142.out 1).trans rfl
       have hcz23_2 : wc.cell? ⟨gb142, 2, none⟩ = some (.int .i64 a0_2) := (blk_cell BK142.out 2).trans rfl
       have hfz23_0 := blk_frozen BK142.out 0
       have hfz23_1 := blk_frozen BK142.out 1
       have hfz23_2 := blk_frozen BK142.out 2
       go_wp2_with (first | ((with_reducible refine gate_callee (f := 49) rfl ?_); refine goesL_ (some 30) rfl rfl Tryz.func49 (by kernel_rfl) rfl #[.string a0_1, .int .i64 0] rfl (by (try simp only [List.map_toArray, List.map_cons, List.map_nil]); first | done | rfl | (simp only [List.length_drop, List.length_take]; rfl)) ?_; (with_reducible refine (peculiumref01_token.calls kj1 a0_1 0 t144 t145 _ A16.out).mono ?_); rintro e w24 ⟨rfl, hb⟩; refine ⟨_, rfl, ?_⟩; have n0_ := Aside0.mk (blk_below (g := gb142) (o := .cells #[.int .i64 a0_0, .string a0_1, .int .i64 a0_2] 65 (0, 0)) (by (with_reducible repeat (first | refine blk_drewN ?_ _ | refine blk_drew ?_ | refine blk_alloc ?_ _)); exact BK142.out) hb); have n1_ := Aside0.mk (below_step (by repeat (first | (with_reducible first | exact HB.out | apply below_alloc | apply pw_below_drewN | apply below_drew1 | refine below_set ?_ GE142.out) | exact HB.out)) hb); clear BK142; clear HB; have BK142 := n0_; have HB := n1_; clear n0_ n1_; (try clear hb); (try clear hb2); (try clear hk); (try clear hi); have hcz25_0 : w24.cell? ⟨gb142, 0, none⟩ = some (.int .i64 a0_0) := (blk_cell BK142.out 0).trans rfl; have hcz25_1 : w24.cell? ⟨gb142, 1, none⟩ = some (.string a0_1) := (blk_cell BK142.out 1).trans rfl; have hcz25_2 : w24.cell? ⟨gb142, 2, none⟩ = some (.int .i64 a0_2) := (blk_cell BK142.out 2).trans rfl; have hfz25_0 := blk_frozen BK142.out 0; have hfz25_1 := blk_frozen BK142.out 1; have hfz25_2 := blk_frozen BK142.out 2))
       go_ret
       exact ⟨by first | rfl | (simp [errW_none, errW_some] <;> rfl) | (simp [*, errW_none, errW_some] <;> rfl), by repeat (first | (with_reducible first | exact HB.out | apply below_alloc | apply pw_below_drewN | apply below_drew1 | refine below_set ?_ GE142.out) | exact HB.out)⟩
     ·rw [if_neg c18] at H
      have c18b0 : (t145 == (a0_1.size : Int)) = false := beq_eq_false_iff_ne.mpr c18
      have c18b1 : (t145 != (a0_1.size : Int)) = true := bne_iff_ne.mpr c18
      obtain rfl := Option.some.inj H
      have hcz26_0 : wc.cell? ⟨gb142, 0, none⟩ = some (.int .i64 a0_0) := (blk_cell BK142.out 0).trans rfl
      have hcz26_1 : wc.cell? ⟨gb142, 1, none⟩ = some (.string a0_1) := (blk_cell BK142.out 1).trans rfl
      have hcz26_2 : wc.cell? ⟨gb142, 2, none⟩ = some (.int .i64 a0_2) := (blk_cell BK142.out 2).trans rfl
      have hfz26_0 := blk_frozen BK142.out 0
      have hfz26_1 := blk_frozen BK142.out 1
      have hfz26_2 := blk_frozen BK142.out 2
      go_wp2_with (first | ((with_reducible refine gate_callee (f := 49) rfl ?_); refine goesL_ (some 30) rfl rfl Tryz.func49 (by kernel_rfl) rfl #[.string a0_1, .int .i64 0] rfl (by (try simp only [List.map_toArray, List.map_cons, List.map_nil]); first | done | rfl | (simp only [List.length_drop, List.length_take]; rfl)) ?_; (with_reducible refine (peculiumref01_token.calls kj1 a0_1 0 t144 t145 _ A16.out).mono ?_); rintro e w27 ⟨rfl, hb⟩; refine ⟨_, rfl, ?_⟩; have n0_ := Aside0.mk (blk_below (g := gb142) (o := .cells #[.int .i64 a0_0, .string a0_1, .int .i64 a0_2] 65 (0, 0)) (by (with_reducible repeat (first | refine blk_drewN ?_ _ | refine blk_drew ?_ | refine blk_alloc ?_ _)); exact BK142.out) hb); have n1_ := Aside0.mk (below_step (by repeat (first | (with_reducible first | exact HB.out | apply below_alloc | apply pw_below_drewN | apply below_drew1 | refine below_set ?_ GE142.out) | exact HB.out)) hb); clear BK142; clear HB; have BK142 := n0_; have HB := n1_; clear n0_ n1_; (try clear hb); (try clear hb2); (try clear hk); (try clear hi); have hcz28_0 : w27.cell? ⟨gb142, 0, none⟩ = some (.int .i64 a0_0) := (blk_cell BK142.out 0).trans rfl; have hcz28_1 : w27.cell? ⟨gb142, 1, none⟩ = some (.string a0_1) := (blk_cell BK142.out 1).trans rfl; have hcz28_2 : w27.cell? ⟨gb142, 2, none⟩ = some (.int .i64 a0_2) := (blk_cell BK142.out 2).trans rfl; have hfz28_0 := blk_frozen BK142.out 0; have hfz28_1 := blk_frozen BK142.out 1; have hfz28_2 := blk_frozen BK142.out 2))
      go_ret
      exact ⟨by first | rfl | (simp [errW_none, errW_some] <;> rfl) | (simp [*, errW_none, errW_some] <;> rfl), by repeat (first | (with_reducible first | exact HB.out | apply below_alloc | apply pw_below_drewN | apply below_drew1 | refine below_set ?_ GE142.out) | exact HB.out)⟩
    ·rw [if_neg c17] at H
     have c17b0 : (t144 == a0_0) = false := beq_eq_false_iff_ne.mpr c17
     have c17b1 : (t144 != a0_0) = true := bne_iff_ne.mpr c17
     obtain rfl := Option.some.inj H
     have hcz29_0 : wc.cell? ⟨gb142, 0, none⟩ = some (.int .i64 a0_0) := (blk_cell BK142.out 0).trans rfl
     have hcz29_1 : wc.cell? ⟨gb142, 1, none⟩ = some (.string a0_1) := (blk_cell BK142.out 1).trans rfl
     have hcz29_2 : wc.cell? ⟨gb142, 2, none⟩ = some (.int .i64 a0_2) := (blk_cell BK142.out 2).trans rfl
     have hfz29_0 := blk_frozen BK142.out 0
     have hfz29_1 := blk_frozen BK142.out 1
     have hfz29_2 := blk_frozen BK142.out 2
     go_wp2_with (first | ((with_reducible refine gate_callee (f := 49) rfl ?_); refine goesL_ (some 30) rfl rfl Tryz.func49 (by kernel_rfl) rfl #[.string a0_1, .int .i64 0] rfl (by (try simp only [List.map_toArray, List.map_cons, List.map_nil]); first | done | rfl | (simp only [List.length_drop, List.length_take]; rfl)) ?_; (with_reducible refine (peculiumref01_token.calls kj1 a0_1 0 t144 t145 _ A16.out).mono ?_); rintro e w30 ⟨rfl, hb⟩; refine ⟨_, rfl, ?_⟩; have n0_ := Aside0.mk (blk_below (g := gb142) (o := .cells #[.int .i64 a0_0, .string a0_1, .int .i64 a0_2] 65 (0, 0)) (by (with_reducible repeat (first | refine blk_drewN ?_ _ | refine blk_drew ?_ | refine blk_alloc ?_ _)); exact BK142.out) hb); have n1_ := Aside0.mk (below_step (by repeat (first | (with_reducible first | exact HB.out | apply below_alloc | apply pw_below_drewN | apply below_drew1 | refine below_set ?_ GE142.out) | exact HB.out)) hb); clear BK142; clear HB; have BK142 := n0_; have HB := n1_; clear n0_ n1_; (try clear hb); (try clear hb2); (try clear hk); (try clear hi); have hcz31_0 : w30.cell? ⟨gb142, 0, none⟩ = some (.int .i64 a0_0) := (blk_cell BK142.out 0).trans rfl; have hcz31_1 : w30.cell? ⟨gb142, 1, none⟩ = some (.string a0_1) := (blk_cell BK142.out 1).trans rfl; have hcz31_2 : w30.cell? ⟨gb142, 2, none⟩ = some (.int .i64 a0_2) := (blk_cell BK142.out 2).trans rfl; have hfz31_0 := blk_frozen BK142.out 0; have hfz31_1 := blk_frozen BK142.out 1; have hfz31_2 := blk_frozen BK142.out 2))
     go_ret
     exact ⟨by first | rfl | (simp [errW_none, errW_some] <;> rfl) | (simp [*, errW_none, errW_some] <;> rfl), by repeat (first | (with_reducible first | exact HB.out | apply below_alloc | apply pw_below_drewN | apply below_drew1 | refine below_set ?_ GE142.out) | exact HB.out)⟩

/-! ### peculiumref01_IsName: function 67 -/
def peculiumref01_IsName.f (k : Nat) (a0 : ByteArray) : Option (Bool) := (peculiumref01_Check.f k 1 a0 0).bind fun t146 => (some (t146 == 0))
set_option maxHeartbeats 8000000 in
set_option maxRecDepth 100000 in
theorem peculiumref01_IsName.calls (k : Nat) (a0 : ByteArray) (r : Bool) (w : World) (h : peculiumref01_IsName.f k a0 = some r) :
  Calls Tryz.prog 67 #[.string a0] w fun e w' => e = .returned (.bool r) ∧ Below w.heap.size w w' := by
 have hu65 := Tryz.underlying65
 have HB := Aside0.mk (Below.refl w.heap.size w)
 have H : ((peculiumref01_Check.f k 1 a0 0).bind fun t146 => (some (t146 == 0))) = some r := h
 clear h
 replace H := Option.bind_eq_some_iff.mp H
 obtain ⟨t146, A20, H⟩ := H
 replace H : (some (t146 == 0)) = some r := H
 have A2 := Aside0.mk A20
 clear A20
 obtain rfl := Option.some.inj H
 go_enter Tryz.func67, Tryz.ntmps67
 go_wp2_with (first | ((with_reducible refine gate_callee (f := 91) rfl ?_); refine goesL_ (some 5) rfl rfl Tryz.func91 (by kernel_rfl) rfl #[.agg #[.int .i64 1, .string a0, .int .i64 0]] rfl (by (try simp only [List.map_toArray, List.map_cons, List.map_nil]); first | done | rfl | (simp only [List.length_drop, List.length_take]; rfl)) ?_; (with_reducible refine (peculiumref01_Check.calls k 1 a0 0 t146 _ A2.out).mono ?_); rintro e w3 ⟨rfl, hb⟩; refine ⟨_, rfl, ?_⟩; have n0_ := Aside0.mk (below_step (by repeat (first | (with_reducible first | exact HB.out | apply below_alloc | apply pw_below_drewN | apply below_drew1) | exact HB.out)) hb); clear HB; have HB := n0_; clear n0_; (try clear hb); (try clear hb2); (try clear hk); (try clear hi)))
 go_ret
 exact ⟨by first | rfl | (simp [errW_none, errW_some] <;> rfl) | (simp [*, errW_none, errW_some] <;> rfl), by repeat (first | (with_reducible first | exact HB.out | apply below_alloc | apply pw_below_drewN | apply below_drew1) | exact HB.out)⟩

/-! ### peculiumref01_IsVar: function 69 -/
def peculiumref01_IsVar.f (k : Nat) (a0 : ByteArray) : Option (Bool) := (peculiumref01_Check.f k 2 a0 0).bind fun t147 => (some (t147 == 0))
set_option maxHeartbeats 8000000 in
set_option maxRecDepth 100000 in
theorem peculiumref01_IsVar.calls (k : Nat) (a0 : ByteArray) (r : Bool) (w : World) (h : peculiumref01_IsVar.f k a0 = some r) :
  Calls Tryz.prog 69 #[.string a0] w fun e w' => e = .returned (.bool r) ∧ Below w.heap.size w w' := by
 have hu65 := Tryz.underlying65
 have HB := Aside0.mk (Below.refl w.heap.size w)
 have H : ((peculiumref01_Check.f k 2 a0 0).bind fun t147 => (some (t147 == 0))) = some r := h
 clear h
 replace H := Option.bind_eq_some_iff.mp H
 obtain ⟨t147, A20, H⟩ := H
 replace H : (some (t147 == 0)) = some r := H
 have A2 := Aside0.mk A20
 clear A20
 obtain rfl := Option.some.inj H
 go_enter Tryz.func69, Tryz.ntmps69
 go_wp2_with (first | ((with_reducible refine gate_callee (f := 91) rfl ?_); refine goesL_ (some 5) rfl rfl Tryz.func91 (by kernel_rfl) rfl #[.agg #[.int .i64 2, .string a0, .int .i64 0]] rfl (by (try simp only [List.map_toArray, List.map_cons, List.map_nil]); first | done | rfl | (simp only [List.length_drop, List.length_take]; rfl)) ?_; (with_reducible refine (peculiumref01_Check.calls k 2 a0 0 t147 _ A2.out).mono ?_); rintro e w3 ⟨rfl, hb⟩; refine ⟨_, rfl, ?_⟩; have n0_ := Aside0.mk (below_step (by repeat (first | (with_reducible first | exact HB.out | apply below_alloc | apply pw_below_drewN | apply below_drew1) | exact HB.out)) hb); clear HB; have HB := n0_; clear n0_; (try clear hb); (try clear hb2); (try clear hk); (try clear hi)))
 go_ret
 exact ⟨by first | rfl | (simp [errW_none, errW_some] <;> rfl) | (simp [*, errW_none, errW_some] <;> rfl), by repeat (first | (with_reducible first | exact HB.out | apply below_alloc | apply pw_below_drewN | apply below_drew1) | exact HB.out)⟩

/-! ### peculiumref01_lineEnd: function 48 -/
/-! ### peculiumref01_Scan: function 24 -/
end Go.Proofs.YtbndfgoklgdfdaaGreatDoor.P
end
section
namespace Go.Proofs.YtbndfgoklgdfdaaGreatDoor.P
open Go.RowKit Go.Proofs.YtbndfgoklgdfdaaGreatDoorW.PrintWords Go.Proofs.YtbndfgoklgdfdaaGreatDoorW.PrintLast Go.Proofs.YtbndfgoklgdfdaaGreatDoorW.PrintMore

theorem bt_nat (s : ByteArray) (i : Nat) (h : i < s.size) : bt s (i : Int) = (s[i].toNat : Int) := by
 rw [← bt_at s i (by simpa using h)]
 simp
theorem small_f (c : UInt8) : peculiumref01_small.f (c.toNat : Int) = some (smallB c) := by
 have := of_bytes (p := fun c => peculiumref01_small.f (c.toNat : Int) == some (smallB c)) (by decide +kernel) c
 simpa using this
theorem capital_f (c : UInt8) : peculiumref01_capital.f (c.toNat : Int) = some (capB c) := by
 have := of_bytes (p := fun c => peculiumref01_capital.f (c.toNat : Int) == some (capB c)) (by decide +kernel) c
 simpa using this
theorem part_f (c : UInt8) : peculiumref01_part.f (c.toNat : Int) = some (partB c) := by
 have := of_bytes (p := fun c => peculiumref01_part.f (c.toNat : Int) == some (partB c)) (by decide +kernel) c
 simpa using this
theorem blank_f (c : UInt8) : peculiumref01_blank.f (c.toNat : Int) = some (blankB c) := by
 have := of_bytes (p := fun c => peculiumref01_blank.f (c.toNat : Int) == some (blankB c)) (by decide +kernel) c
 simpa using this
theorem byte_eq (c : UInt8) (k : Nat) (hk : k < 256) : ((c.toNat : Int) = (k : Int)) ↔ c = k.toUInt8 := by
 have := c.toNat_lt
 constructor
 ·intro h
  apply UInt8.toNat_inj.1
  simp [Nat.toUInt8]
  omega
 ·rintro rfl
  simp [Nat.toUInt8]
  omega
theorem wrap_succ (n : Nat) (h : n < 9223372036854775807) : wrap64 ((n : Int) + 1) = ((n + 1 : Nat) : Int) := by unfold wrap64; omega

theorem run_f (s : ByteArray) (hs : s.size ≤ 140737488351232) : ∀ (d i k : Nat), i + d = s.size → d < k → peculiumref01_run.l0 k s (i : Int) = some ((i + runN (s.data.toList.drop i) : Nat) : Int) := by
 intro d
 induction d with
 | zero =>
  intro i k h1 h2
  obtain ⟨k, rfl⟩ : ∃ m, k = m + 1 := ⟨k - 1, by omega⟩
  unfold peculiumref01_run.l0
  rw [if_neg (by omega), List.drop_of_length_le (by simp; omega)]
  rfl
 | succ d ih =>
  intro i k h1 h2
  obtain ⟨k, rfl⟩ : ∃ m, k = m + 1 := ⟨k - 1, by omega⟩
  have hi : i < s.size := by omega
  unfold peculiumref01_run.l0
  rw [if_pos (by omega), if_pos (by omega), bt_nat s i hi, part_f, drop_cons' s i hi, runN]
  simp only [Option.bind_some]
  cases hp : partB s[i]
  ·simp
  ·simp only [if_true]
   rw [wrap_succ i (by omega), ih (i + 1) k (by omega) (by omega)]
   congr 2
   omega
theorem extract_take (s : ByteArray) (i n : Nat) : (s.extract i (i + n)).toList = (s.data.toList.drop i).take n := by
 rw [Lib.toList_data, ByteArray.data_extract, Array.toList_extract, List.extract_eq_take_drop]
 simp
theorem isAt_f (s p : ByteArray) (i : Nat) (hs : s.size ≤ 140737488351232) (hi : i ≤ s.size) (hp : p.size ≤ 100) : peculiumref01_isAt.f s (i : Int) p = some ((s.data.toList.drop i).take p.size == p.data.toList) := by
 unfold peculiumref01_isAt.f
 have hw : wrap64 ((i : Int) + (p.size : Int)) = ((i + p.size : Nat) : Int) := by unfold wrap64; omega
 rw [hw]
 by_cases h : i + p.size ≤ s.size
 ·rw [if_pos (by omega), if_pos (by omega), if_pos (by omega)]
  rw [Int.toNat_natCast, Int.toNat_natCast, extract_take, Lib.toList_data]
 ·rw [if_neg (by omega)]
  congr 1
  symm
  rw [beq_eq_false_iff_ne]
  intro he
  have := congrArg List.length he
  simp at this
  omega

theorem refIndex_f (x : ByteArray) (l : List ByteArray) (hl : l.length < 1000000) : ∀ (d k i : Nat), i + d = l.length → d < k →
  ∃ j : Int, peculiumref01_Index.l0 k l x (i : Int) = some j ∧ decide (j ≥ 0) = ((l.drop i).map fun b => b.data.toList).contains x.data.toList := by
 intro d
 induction d with
 | zero =>
  intro k i h1 h2
  obtain ⟨k, rfl⟩ : ∃ m, k = m + 1 := ⟨k - 1, by omega⟩
  refine ⟨-1, ?_, ?_⟩
  ·simp only [peculiumref01_Index.l0]
   rw [if_neg (by omega)]
  ·rw [List.drop_of_length_le (by omega)]
   rfl
 | succ d ih =>
  intro k i h1 h2
  obtain ⟨k, rfl⟩ : ∃ m, k = m + 1 := ⟨k - 1, by omega⟩
  have hi : i < l.length := by omega
  have hd : l.drop i = l[i] :: l.drop (i + 1) := List.drop_eq_getElem_cons hi
  have hr : rdOf ByteArray.empty l (i : Int) = l[i] := by simp [rdOf, hi]
  by_cases he : (rdOf ByteArray.empty l (i : Int)).toList = x.toList
  ·refine ⟨(i : Int), ?_, ?_⟩
   ·simp only [peculiumref01_Index.l0]
    rw [if_pos (by omega), if_pos (by omega), if_pos he]
   ·rw [hd, List.map_cons, List.contains_cons]
    rw [hr, Lib.toList_data, Lib.toList_data] at he
    rw [he]
    simp
  ·obtain ⟨j, hj, hc⟩ := ih k (i + 1) (by omega) (by omega)
   refine ⟨j, ?_, ?_⟩
   ·simp only [peculiumref01_Index.l0]
    rw [if_pos (by omega), if_pos (by omega), if_neg he, wrap_succ i (by omega)]
    exact hj
   ·rw [hd, List.map_cons, List.contains_cons, hc]
    rw [hr, Lib.toList_data, Lib.toList_data] at he
    rw [show (x.data.toList == l[i].data.toList) = false from beq_eq_false_iff_ne.2 fun h => he h.symm]
    rfl
theorem refWords_f (x : ByteArray) (k : Nat) (hk : 20 < k) : ∃ ws j, peculiumref01_Words.f = some ws ∧ peculiumref01_Index.f k ws x = some j ∧ decide (j ≥ 0) = wordsL.contains x.data.toList := by
 obtain ⟨j, hj, hc⟩ := refIndex_f x [(⟨#[116, 121, 112, 101]⟩ : ByteArray), (⟨#[99, 111, 110, 115, 116]⟩ : ByteArray), (⟨#[112, 114, 101, 100]⟩ : ByteArray), (⟨#[102, 97, 99, 116]⟩ : ByteArray), (⟨#[108, 97, 115, 116, 105, 110, 103]⟩ : ByteArray), (⟨#[109, 111, 100, 101]⟩ : ByteArray), (⟨#[114, 117, 108, 101]⟩ : ByteArray), (⟨#[111, 110, 99, 101]⟩ : ByteArray), (⟨#[109, 111, 115, 116]⟩ : ByteArray), (⟨#[113, 117, 101, 114, 121]⟩ : ByteArray), (⟨#[109, 111, 100, 117, 108, 101]⟩ : ByteArray), (⟨#[117, 115, 101]⟩ : ByteArray), (⟨#[101, 120, 112, 111, 114, 116]⟩ : ByteArray), (⟨#[97, 108, 108]⟩ : ByteArray), (⟨#[101, 120]⟩ : ByteArray), (⟨#[111, 110, 101]⟩ : ByteArray), (⟨#[116, 111, 112]⟩ : ByteArray)] (by decide) 17 k 0 rfl (by omega)
 exact ⟨_, j, rfl, hj, hc⟩

/-- Which of the signs stands here. -/
def signAt (l : List UInt8) (p : ByteArray) : Bool := l.take p.size == p.data.toList
theorem signs_f (s : ByteArray) (i : Nat) (hs : s.size ≤ 140737488351232) (hi : i ≤ s.size) (l : List ByteArray) (hl : l.length < 1000000) (hp : ∀ p ∈ l, p.size ≤ 100) : ∀ (d k m : Nat), m + d = l.length → d < k →
  peculiumref01_token.l0 k s (i : Int) l (m : Int) = some (match (l.drop m).find? (signAt (s.data.toList.drop i)) with | none => (0, 0) | some p => (3, ((i + p.size : Nat) : Int))) := by
 intro d
 induction d with
 | zero =>
  intro k m h1 h2
  obtain ⟨k, rfl⟩ : ∃ m, k = m + 1 := ⟨k - 1, by omega⟩
  unfold peculiumref01_token.l0
  rw [if_neg (by omega), show l.drop m = [] from List.drop_of_length_le (by omega)]
  rfl
 | succ d ih =>
  intro k m h1 h2
  obtain ⟨k, rfl⟩ : ∃ m, k = m + 1 := ⟨k - 1, by omega⟩
  have hm : m < l.length := by omega
  have hd : l.drop m = l[m] :: l.drop (m + 1) := List.drop_eq_getElem_cons hm
  have hr : rdOf ByteArray.empty l (m : Int) = l[m] := by simp [rdOf, hm]
  have hsz := hp l[m] (List.getElem_mem hm)
  unfold peculiumref01_token.l0
  rw [if_pos (by omega), if_pos (by omega), hr, isAt_f s l[m] i hs hi hsz, hd, List.find?_cons]
  simp only [Option.bind_some]
  have hsa : signAt (s.data.toList.drop i) l[m] = ((s.data.toList.drop i).take l[m].size == l[m].data.toList) := rfl
  cases hc : ((s.data.toList.drop i).take l[m].size == l[m].data.toList)
  ·rw [hsa, hc]
   simp only [Bool.false_eq_true, if_false]
   rw [wrap_succ m (by omega)]
   exact ih k (m + 1) (by omega) (by omega)
  ·rw [hsa, hc]
   simp only [if_true]
   congr 2
   unfold wrap64
   omega
theorem find_ones (b : UInt8) (r : List UInt8) : ∀ l : List UInt8, (l.map fun c => (⟨#[c]⟩ : ByteArray)).find? (signAt (b :: r)) = if l.contains b then some ⟨#[b]⟩ else none
 | [] => rfl
 | c :: l => by
  rw [List.map_cons, List.find?_cons, find_ones b r l]
  have h : signAt (b :: r) ⟨#[c]⟩ = (b == c) := by
   unfold signAt
   rw [show (ByteArray.mk #[c]).size = 1 from rfl]
   simp
  rw [h, List.contains_cons]
  cases hb : b == c
  ·simp
  ·have : b = c := by simpa using hb
   simp [this]
theorem sign_two (b x y : UInt8) (r : List UInt8) : signAt (b :: r) ⟨#[x, y]⟩ = (b == x && r.head? == some y) := by
 unfold signAt
 rw [show (ByteArray.mk #[x, y]).size = 2 from rfl]
 cases r with
 | nil => simp
 | cons c r => simp
theorem small_not_cap (b : UInt8) (h : capB b = true) : smallB b = false := by
 have := of_bytes (p := fun b => !capB b || !smallB b) (by decide +kernel) b
 simpa [h] using this

/-- The token that begins at an offset, as the reference tells it. -/
def tokR (l : List UInt8) (i : Nat) : Int × Int :=
 match tok l with
 | none => (0, 0)
 | some (kd, n) => ((kd : Int), ((i + n : Nat) : Int))
theorem refSigns_f : peculiumref01_Signs.f = some (⟨#[45, 111]⟩ :: ⟨#[111, 45]⟩ :: ⟨#[61, 62]⟩ :: ⟨#[60, 61]⟩ :: ⟨#[45, 62]⟩ :: (onesL.map fun c => (⟨#[c]⟩ : ByteArray))) := rfl
theorem take1 (s : ByteArray) (j : Nat) (c : UInt8) : ((s.data.toList.drop j).take 1 == [c]) = (s.data.toList[j]? == some c) := by
 rw [Bool.eq_iff_iff]
 simp only [beq_iff_eq]
 by_cases h : j < s.size
 ·rw [drop_cons' s j h]
  have hg : s.data.toList[j]? = some s[j] := by simp [h]; rfl
  rw [hg]
  simp
 ·rw [List.drop_of_length_le (by simp; omega), List.getElem?_eq_none (by simp; omega)]
  simp
theorem tok2_f (s : ByteArray) (hs : s.size ≤ 140737488351232) (i : Nat) (hi : i < s.size) (hsm : smallB s[i] = true) (k : Nat) (hk : s.size + 30 < k) :
  peculiumref01_token.j1 k s (i : Int) ((i + nameN (s.data.toList.drop i) : Nat) : Int) = some (tokR (s.data.toList.drop i) i) := by
 obtain ⟨k, rfl⟩ : ∃ m, k = m + 1 := ⟨k - 1, by omega⟩
 obtain ⟨n, hn⟩ : ∃ n, n = nameN (s.data.toList.drop i) := ⟨_, rfl⟩
 have hnl := nameN_le (s.data.toList.drop i)
 rw [← hn] at hnl ⊢
 have hnl2 : i + n ≤ s.size := by simp at hnl; omega
 have hdr := drop_cons' s i hi
 have hx : (s.extract i (i + n)).toList = (s.data.toList.drop i).take n := extract_take s i n
 have hw1 : wrap64 (((i + n : Nat) : Int) + 1) = ((i + n + 1 : Nat) : Int) := wrap_succ _ (by omega)
 have hj2 : ∀ (k : Nat) (b : Bool), s.size + 25 < k → b = oB (s.data.toList.drop i) → (b = true → n = 1) → peculiumref01_token.j2 k s (i : Int) ((i + n : Nat) : Int) b = some (tokR (s.data.toList.drop i) i) := by
  intro k b hk hb hb1
  obtain ⟨k, rfl⟩ : ∃ m, k = m + 1 := ⟨k - 1, by omega⟩
  rw [peculiumref01_token.j2]
  cases b
  ·simp only [Bool.false_eq_true, if_false]
   obtain ⟨ws, j, h1, h2, h3⟩ := refWords_f (s.extract i (i + n)) k (by omega)
   rw [h1]
   simp only [Option.bind_some]
   rw [if_pos (by omega), if_pos (by omega), if_pos (by omega), Int.toNat_natCast, Int.toNat_natCast, h2]
   simp only [Option.bind_some]
   rw [← Lib.toList_data, hx] at h3
   unfold tokR
   rw [hdr] at hb h3 hn ⊢
   by_cases hj : j ≥ 0
   ·rw [if_pos hj, tok_word hsm hb.symm (by rw [← hn, ← h3]; simpa using hj), ← hn]
    rfl
   ·rw [if_neg hj, tok_name hsm hb.symm (by rw [← hn, ← h3]; simpa using hj), ← hn]
    rfl
  ·simp only [if_true]
   rw [hw1]
   unfold tokR
   rw [hdr] at hb ⊢
   rw [tok_o hsm hb.symm, hb1 rfl]
   rfl
 rw [peculiumref01_token.j1]
 rw [if_pos (by omega), if_pos (by omega), if_pos (by omega), Int.toNat_natCast, Int.toNat_natCast, hx]
 by_cases h1 : (s.data.toList.drop i).take n = [111]
 ·have hn1 : n = 1 := by
   have := congrArg List.length h1
   simp at this
   omega
  rw [if_pos h1, isAt_f s ⟨#[45]⟩ (i + n) hs hnl2 (by decide)]
  simp only [Option.bind_some]
  refine hj2 k _ (by omega) ?_ (fun _ => hn1)
  rw [show ((s.data.toList.drop (i + n)).take (ByteArray.mk #[45]).size == (ByteArray.mk #[45]).data.toList) = (s.data.toList[i + n]? == some 45) from take1 s (i + n) 45]
  unfold oB
  rw [← hn, h1, hn1]
  simp
 ·rw [if_neg h1]
  refine hj2 k false (by omega) ?_ (fun h => by cases h)
  unfold oB
  rw [← hn, show ((s.data.toList.drop i).take n == [111]) = false from beq_eq_false_iff_ne.2 h1]
  rfl

end Go.Proofs.YtbndfgoklgdfdaaGreatDoor.P

namespace Go.Proofs.YtbndfgoklgdfdaaGreatDoor.P
open Go.RowKit Go.Proofs.YtbndfgoklgdfdaaGreatDoorW.PrintWords Go.Proofs.YtbndfgoklgdfdaaGreatDoorW.PrintLast Go.Proofs.YtbndfgoklgdfdaaGreatDoorW.PrintMore

theorem byte64' (c : UInt8) : ((c.toNat : Int) = 64) ↔ c = 64 := byte_eq c 64 (by omega)
theorem rtok_small (s : ByteArray) (hs : s.size ≤ 140737488351232) (i : Nat) (hi : i < s.size) (hsm : smallB s[i] = true) (m : Nat) (hm : m = runN (s.data.toList.drop i)) (hrl2 : i + m ≤ s.size) (b : Bool) (hb : b = linkB (s.data.toList.drop i)) (k : Nat) (hk : s.size + 40 < k) :
  peculiumref01_token.j0 k s (i : Int) ((i + m : Nat) : Int) b = some (tokR (s.data.toList.drop i) i) := by
 obtain ⟨k, rfl⟩ : ∃ m, k = m + 1 := ⟨k - 1, by omega⟩
 rw [peculiumref01_token.j0]
 cases b
 ·simp only [Bool.false_eq_true, if_false]
  have hn : nameN (s.data.toList.drop i) = m := by unfold nameN; rw [← hb, hm]; rfl
  have := tok2_f s hs i hi hsm k (by omega)
  rw [hn] at this
  exact this
 ·simp only [if_true]
  have hlk := linkB_lt hb.symm
  rw [← hm] at hlk
  simp at hlk
  have hn : nameN (s.data.toList.drop i) = m + 1 + runN (s.data.toList.drop (i + m + 1)) := by
   unfold nameN
   rw [← hb, ← hm, if_pos rfl, List.drop_drop, show i + (m + 1) = i + m + 1 by omega]
  have hr2 := run_f s hs (s.size - (i + m + 1)) (i + m + 1) k (by omega) (by omega)
  rw [wrap_succ _ (by omega)]
  unfold peculiumref01_run.f
  rw [hr2]
  simp only [Option.bind_some]
  have := tok2_f s hs i hi hsm k (by omega)
  rw [hn] at this
  rw [show i + m + 1 + runN (s.data.toList.drop (i + m + 1)) = i + (m + 1 + runN (s.data.toList.drop (i + m + 1))) by omega]
  exact this
theorem find_signs (b : UInt8) (r : List UInt8) (hsm : smallB b = false) (hcap : capB b = false) (h4 : (b == 45 && r.head? == some 111) = false) (i : Nat) :
  (match ((⟨#[61, 62]⟩ : ByteArray) :: ⟨#[60, 61]⟩ :: ⟨#[45, 62]⟩ :: (onesL.map fun c => (⟨#[c]⟩ : ByteArray))).find? (signAt (b :: r)) with | none => ((0 : Int), (0 : Int)) | some p => ((3 : Int), ((i + p.size : Nat) : Int))) = tokR (b :: r) i := by
 rw [List.find?_cons, List.find?_cons, List.find?_cons, sign_two, sign_two, sign_two, find_ones]
 unfold tokR
 cases h2 : (b == 61 && r.head? == some 62)
 ·cases h3 : (b == 60 && r.head? == some 61)
  ·cases h1 : (b == 45 && r.head? == some 62)
   ·cases ho : onesL.contains b
    ·rw [tok_none1 hsm hcap h1 h2 h3 h4 ho]
     rfl
    ·rw [tok_one hsm hcap h1 h2 h3 h4 ho]
     rfl
   ·rw [tok_two hsm hcap (.inl h1)]
    rfl
  ·rw [tok_two hsm hcap (.inr (.inr h3))]
   rfl
 ·rw [tok_two hsm hcap (.inr (.inl h2))]
  rfl
theorem refSigns_le : ∀ p ∈ ((⟨#[45, 111]⟩ : ByteArray) :: ⟨#[111, 45]⟩ :: ⟨#[61, 62]⟩ :: ⟨#[60, 61]⟩ :: ⟨#[45, 62]⟩ :: (onesL.map fun c => (⟨#[c]⟩ : ByteArray))), p.size ≤ 100 := by
 intro p hp
 simp only [List.mem_cons, List.mem_map] at hp
 rcases hp with rfl | rfl | rfl | rfl | rfl | ⟨c, _, rfl⟩ <;> simp [ByteArray.size]
theorem rtok_sign (s : ByteArray) (hs : s.size ≤ 140737488351232) (i : Nat) (hi : i < s.size) (hsm : smallB s[i] = false) (hcap : capB s[i] = false) (h4 : (s[i] == 45 && (s.data.toList.drop (i + 1)).head? == some 111) = false) (k : Nat) (hk : s.size + 40 < k) :
  peculiumref01_token.l0 k s (i : Int) ((⟨#[45, 111]⟩ : ByteArray) :: ⟨#[111, 45]⟩ :: ⟨#[61, 62]⟩ :: ⟨#[60, 61]⟩ :: ⟨#[45, 62]⟩ :: (onesL.map fun c => (⟨#[c]⟩ : ByteArray))) 2 = some (tokR (s.data.toList.drop i) i) := by
 have h := signs_f s i hs (by omega) _ (by simp [onesL]) refSigns_le 15 k 2 (by simp [onesL]) (by omega)
 rw [drop_cons' s i hi] at h ⊢
 rw [← find_signs s[i] _ hsm hcap h4 i]
 exact h
theorem rtok_lolli (s : ByteArray) (hs : s.size ≤ 140737488351232) (i : Nat) (hi : i < s.size) (hsm : smallB s[i] = false) (hcap : capB s[i] = false) (h4 : (s[i] == 45 && (s.data.toList.drop (i + 1)).head? == some 111) = true) :
  (if (wrap64 ((i : Int) + 2)) < (s.size : Int) then (if 0 ≤ (wrap64 ((i : Int) + 2)) then ((peculiumref01_part.f (bt s (wrap64 ((i : Int) + 2)))).bind fun t157 => (if t157 = true then (some ((0 : Int), (0 : Int))) else (some (3, wrap64 ((i : Int) + 2))))) else (none)) else (some (3, wrap64 ((i : Int) + 2)))) = some (tokR (s.data.toList.drop i) i) := by
 have hdr := drop_cons' s i hi
 have h45 : s[i] = 45 := by simp at h4; exact h4.1
 have h111 : (s.data.toList.drop (i + 1)).head? = some 111 := by
  rw [Bool.and_eq_true] at h4
  exact beq_iff_eq.1 h4.2
 have hi1 : i + 1 < s.size := by
  rw [List.head?_drop] at h111
  have := (List.getElem?_eq_some_iff.1 h111).1
  simpa using this
 have h1 : (s[i] == 45 && (s.data.toList.drop (i + 1)).head? == some 62) = false := by rw [h111]; simp
 have h2 : (s[i] == 61 && (s.data.toList.drop (i + 1)).head? == some 62) = false := by rw [h111]; simp
 have h3 : (s[i] == 60 && (s.data.toList.drop (i + 1)).head? == some 61) = false := by rw [h111]; simp
 have hw2 : wrap64 ((i : Int) + 2) = ((i + 2 : Nat) : Int) := by unfold wrap64; omega
 rw [hw2]
 unfold tokR
 by_cases hi2 : i + 2 < s.size
 ·have hd2 : (s[i] :: s.data.toList.drop (i + 1))[2]? = some s[i + 2] := by
   rw [← hdr, List.getElem?_drop]
   simp [hi2]
   rfl
  rw [if_pos (by omega), if_pos (by omega), bt_nat s (i + 2) hi2, part_f]
  simp only [Option.bind_some]
  rw [hdr]
  cases hp : partB s[i + 2]
  ·rw [tok_lolli hsm hcap h1 h2 h3 h4 (.inr ⟨_, hd2, hp⟩)]
   rfl
  ·rw [tok_none2 hsm hcap h1 h2 h3 h4 hd2 hp]
   rfl
 ·rw [if_neg (by omega), hdr, tok_lolli hsm hcap h1 h2 h3 h4 (.inl (by simp; omega))]
  rfl
theorem rtok_f (s : ByteArray) (hs : s.size ≤ 140737488351232) (i : Nat) (hi : i < s.size) (k : Nat) (hk : s.size + 40 < k) :
  peculiumref01_token.f k s (i : Int) = some (tokR (s.data.toList.drop i) i) := by
 have hdr := drop_cons' s i hi
 have hrun := run_f s hs (s.size - i) i k (by omega) (by omega)
 have hrl := runN_le (s.data.toList.drop i)
 have hrl2 : i + runN (s.data.toList.drop i) ≤ s.size := by simp at hrl; omega
 unfold peculiumref01_token.f
 rw [if_pos (by omega), if_pos (by omega), bt_nat s i hi, capital_f, small_f, Option.bind_some]
 by_cases hcap : capB s[i] = true
 ·rw [if_pos hcap]
  unfold peculiumref01_run.f
  rw [hrun]
  simp only [Option.bind_some]
  unfold tokR
  rw [hdr, tok_cap (small_not_cap _ hcap) hcap]
  rfl
 ·have hcap' : capB s[i] = false := by simpa using hcap
  rw [if_neg hcap]
  by_cases hsm : smallB s[i] = true
  ·rw [Option.bind_some, if_pos hsm]
   unfold peculiumref01_run.f
   rw [hrun, Option.bind_some]
   obtain ⟨m, hm⟩ : ∃ m, m = runN (s.data.toList.drop i) := ⟨_, rfl⟩
   rw [← hm] at hrl2 ⊢
   have hdm : (s.data.toList.drop i).drop m = s.data.toList.drop (i + m) := by rw [List.drop_drop]
   by_cases h1 : i + m + 1 < s.size
   ·rw [wrap_succ _ (by omega), if_pos (by omega), if_pos (by omega), if_pos (by omega), bt_nat s (i + m) (by omega)]
    have hlk : linkB (s.data.toList.drop i) = (s[i + m] == 64 && smallB s[i + m + 1]) := by
     unfold linkB
     rw [← hm, hdm, drop_cons' s (i + m) (by omega), drop_cons' s (i + m + 1) (by omega)]
    by_cases h64 : s[i + m] = 64
    ·rw [if_pos ((byte64' _).2 h64), if_pos (by omega), bt_nat s (i + m + 1) h1, small_f, Option.bind_some]
     exact rtok_small s hs i hi hsm m hm hrl2 _ (by rw [hlk, h64]; simp) k hk
    ·rw [if_neg (fun h => h64 ((byte64' _).1 h))]
     exact rtok_small s hs i hi hsm m hm hrl2 _ (by rw [hlk, show (s[i + m] == 64) = false from beq_eq_false_iff_ne.2 h64, Bool.false_and]) k hk
   ·rw [wrap_succ _ (by omega), if_neg (by omega)]
    refine rtok_small s hs i hi hsm m hm hrl2 _ ?_ k hk
    cases hb : linkB (s.data.toList.drop i)
    ·rfl
    ·have := linkB_lt hb
     rw [← hm] at this
     simp at this
     omega
  ·have hsm' : smallB s[i] = false := by simpa using hsm
   rw [Option.bind_some, if_neg hsm, isAt_f s ⟨#[45, 111]⟩ i hs (by omega) (by decide), Option.bind_some]
   have hlo : ((s.data.toList.drop i).take (ByteArray.mk #[45, 111]).size == (ByteArray.mk #[45, 111]).data.toList) = (s[i] == 45 && (s.data.toList.drop (i + 1)).head? == some 111) := by
    rw [hdr]
    exact sign_two s[i] 45 111 (s.data.toList.drop (i + 1))
   rw [hlo]
   cases h4 : (s[i] == 45 && (s.data.toList.drop (i + 1)).head? == some 111)
   ·rw [if_neg (by simp), refSigns_f]
    exact rtok_sign s hs i hi hsm' hcap' h4 k hk
   ·rw [if_pos rfl]
    exact rtok_lolli s hs i hi hsm' hcap' h4

end Go.Proofs.YtbndfgoklgdfdaaGreatDoor.P

namespace Go.Proofs.YtbndfgoklgdfdaaGreatDoor.P
open Go.RowKit Go.Proofs.YtbndfgoklgdfdaaGreatDoorW.PrintWords Go.Proofs.YtbndfgoklgdfdaaGreatDoorW.PrintLast Go.Proofs.YtbndfgoklgdfdaaGreatDoorW.PrintMore

theorem byte37 (c : UInt8) : ((c.toNat : Int) = 37) ↔ c = 37 := byte_eq c 37 (by omega)
theorem word_short (x : List UInt8) (h : wordsL.contains x = true) : x.length ≤ 7 := by
 have h2 : x ∈ wordsL := by simpa using h
 have : ∀ y ∈ wordsL, y.length ≤ 7 := by decide
 exact this x h2
theorem tok_kind {l : List UInt8} {kd n : Nat} (h : tok l = some (kd, n)) : (kd = 1 ∨ kd = 2) ∨ (kd = 3 ∨ kd = 4) ∧ n ≤ 7 := by
 match l, h with
 | b :: r, h =>
  simp only [tok] at h
  split at h
  ·split at h
   ·simp at h
    omega
   ·split at h
    ·rename_i hw
     have h1 := word_short _ hw
     have h2 := nameN_le (b :: r)
     rw [List.length_take, Nat.min_eq_left h2] at h1
     simp at h
     omega
    ·simp at h
     omega
  ·split at h
   ·simp at h
    omega
   ·split at h
    ·simp at h
     omega
    ·split at h
     ·split at h
      ·simp at h
       omega
      ·split at h
       ·cases h
       ·simp at h
        omega
     ·split at h
      ·simp at h
       omega
      ·cases h
end Go.Proofs.YtbndfgoklgdfdaaGreatDoor.P
end
