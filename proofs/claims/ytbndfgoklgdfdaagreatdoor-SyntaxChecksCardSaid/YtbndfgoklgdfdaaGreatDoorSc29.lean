/- The reference's tests on items and texts; Check (printed by mkr.py). The reference's IsText and Check, by hand. The reference's Same: equal trees (printed by mkrs.py). SyntaxChecks (printed by mkchecks.py). -/
import Derived.Test.YtbndfgoklgdfdaaGreatDoorSc28
import Derived.Test.YtbndfgoklgdfdaaGreatDoorSc25
import Derived.Test.YtbndfgoklgdfdaaGreatDoorSc10
import Derived.Test.YtbndfgoklgdfdaaGreatDoorSc24
import Derived.Test.YtbndfgoklgdfdaaGreatDoorSc18
set_option linter.all false
section
set_option linter.unusedSimpArgs false
namespace Go.Proofs.YtbndfgoklgdfdaaGreatDoor.P
open Go.RowKit Go.Proofs.YtbndfgoklgdfdaaGreatDoorW.PrintWords Go.Proofs.YtbndfgoklgdfdaaGreatDoorW.PrintLast Go.Proofs.YtbndfgoklgdfdaaGreatDoorW.PrintMore
set_option maxRecDepth 100000 in
set_option maxHeartbeats 16000000 in
theorem rItem_const (s : ByteArray) (pre : List Tree) (y : Tree) (hp : pre ≠ []) (hz : szT ⟨3, s, pre ++ [y]⟩ = true) : IsOn 40 isItemT ⟨3, s, pre ++ [y]⟩ := by
 intro A c w hc hC
 have HPF := Lib.hid (rType_on _ y (Nat.lt_succ_self _) (szT_mem hz (show y ∈ pre ++ [y] by simp)))
 have HN := Lib.hid (rNames_on pre (fun z hm => szT_mem hz (show z ∈ pre ++ [y] by simp [hm])))
 have hpos : 0 < pre.length := List.length_pos_iff.2 hp
 have hE0 : isItemT ⟨3, s, pre ++ [y]⟩ = (s.toList == [] && (pre.all isWordB && isTypeT y)) := by
  unfold isItemT
  dsimp only
  rw [if_neg (by decide), if_pos rfl, decide_eq_true (by simp; omega), Bool.true_and, List.dropLast_concat, lastB_snoc]
 rw [hE0]
 clear hE0
 obtain ⟨l, hl⟩ : ∃ l, l = pre ++ [y] := ⟨_, rfl⟩
 dsimp only at hc hC ⊢
 rw [← hl] at hc hC ⊢
 have hm : (l.length : Int) = (pre.length : Int) + 1 := by rw [hl]; simp
 have hmn : l.length = pre.length + 1 := by rw [hl]; simp
 have hln : l.length ≤ 9223372036854775807 := hC.2.1
 have hcp := Kd.C_take (m := pre.length) hC (show pre.length ≤ l.length by omega)
 rw [show l.take pre.length = pre by rw [hl]; simp] at hcp
 obtain ⟨i0, hi0, _, hsz, _⟩ := info_parts info25
 have hcut := cut_to (P := Tryz.prog) 23 25 .i64 Tryz.underlying23 hi0 A l.length c (pre.length : Int) (by omega) (by omega) hc
 rw [Int.toNat_natCast] at hcut
 obtain ⟨a0, A2, c2, e0, p0, p1, p2, hl2, hc2⟩ := kid_at hC pre.length (by omega) y (by rw [hl]; simp)
 have KY : Hid (Kid w (a0.add (pre.length * 3)) y A2 c2) := Lib.hid ⟨p0, p1, p2, hl2, hc2⟩
 have HCP := Lib.hid hcp
 have HC := Lib.hid hC
 clear hC hz hcp hi0 hsz p0 p1 p2 hl2 hc2
 subst e0
 have hm0 : (1 ≤ (pre.length : Int)) = True := eq_true (by omega)
 have hm2 : ((pre.length : Int) < (pre.length : Int) + 1) = True := eq_true (by omega)
 clear hl hmn hp hpos
 cases he : (s.toList == ([] : List UInt8)) <;> cases hw : pre.all isWordB
 all_goals
  go_enter Tryz.func40, Tryz.ntmps40
  go_wp2_with (first
   | ((with_reducible refine gate_dst (N := 1) rfl ?_); refine ev_tree (x := ⟨_, s, l⟩) (A := (some a0)) (c := c) rfl rfl rfl rfl ?_; intro b w1_ HX; obtain ⟨qa, qb, qc⟩ := rd3 HX.out.at_; try dsimp only at qa qb qc)
   | (go_at_call 72; refine (HN.out (some a0) c _ (Kd.C_below HCP.out HX.out.below)).mono ?_; rintro e w2_ ⟨rfl, hb_⟩; clear qa qb qc; replace HX := Lib.hid (HX.out.call hb_); clear hb_; obtain ⟨qa, qb, qc⟩ := rd3 HX.out.at_; try dsimp only at qa qb qc; rw [hw]; obtain ⟨Y0, Y1, Y2⟩ := (KY.out.below HX.out.below).cells)
   | (go_at_call 37; refine (HPF.out A2 c2 _ KY.out.len (KY.out.below HX.out.below).row).mono ?_; rintro e w2_ ⟨rfl, hb_⟩; clear qa qb qc; replace HX := Lib.hid (HX.out.call hb_); clear hb_; obtain ⟨qa, qb, qc⟩ := rd3 HX.out.at_; try dsimp only at qa qb qc; clear Y0 Y1 Y2))
  go_ret
  exact ⟨by first | rfl | simp [*], HX.out.below⟩
set_option maxRecDepth 100000 in
set_option maxHeartbeats 16000000 in
theorem rItem_on : ∀ (x : Tree), szT x = true → IsOn 40 isItemT x
 | ⟨k, s, l⟩, hz => by
  by_cases hx1 : k = 3 ∧ 1 < (l.length : Int)
  ·obtain ⟨rfl, hm⟩ := hx1
   obtain ⟨pre, y, rfl⟩ : ∃ pre y, l = pre ++ [y] := ⟨l.dropLast, l.getLast (by intro h; rw [h] at hm; simp at hm), (List.dropLast_concat_getLast _).symm⟩
   exact rItem_const s pre y (by intro h; rw [h] at hm; simp at hm) hz
  intro A c w hc hC
  have hzl : ∀ y ∈ l, szT y = true := fun y hy => szT_mem hz hy
  have HZ : Hid (s.size ≤ strMax) := Lib.hid (szT_name hz)
  have HC : Hid (Kd.C k25 w A l.length l) := Lib.hid hC
  have HIH : Hid (∀ y ∈ l, IsOn 39 isFormT y) := Lib.hid fun y hy => rForm_on _ y (Nat.lt_succ_self _) (hzl y hy)
  have HN := Lib.hid (rNames_on l hzl)
  have HT := Lib.hid (rTypes_on l (fun y hy => rType_on _ y (Nat.lt_succ_self _) (hzl y hy)))
  have HM := Lib.hid (rModes_on l hzl)
  have hln : l.length ≤ 9223372036854775807 := hC.2.1
  unfold isItemT
  dsimp only at hc ⊢
  clear hC hz hzl
  by_cases h2 : k = 2 ∨ k = 14
  ·rw [if_pos h2]
   by_cases hl : 0 < (l.length : Int)
   ·have hl1 : (1 ≤ (l.length : Int)) = True := eq_true (by omega)
    rw [decide_eq_true hl, Bool.true_and]
    clear HM HT HIH hx1 hl
    rcases h2 with rfl | rfl <;> cases he : (s.toList == ([] : List UInt8))
    all_goals
     go_enter Tryz.func40, Tryz.ntmps40
     go_wp2_with (first
      | ((with_reducible refine gate_dst (N := 1) rfl ?_); refine ev_tree (x := ⟨_, s, l⟩) (A := A) (c := c) rfl rfl rfl rfl ?_; intro b w1_ HX; obtain ⟨qa, qb, qc⟩ := rd3 HX.out.at_; try dsimp only at qa qb qc)
      | (go_at_call 72; refine (HN.out _ c _ (HX.out.C HC.out)).mono ?_; rintro e w2_ ⟨rfl, hb_⟩; clear qa qb qc; replace HX := Lib.hid (HX.out.call hb_); clear hb_; obtain ⟨qa, qb, qc⟩ := rd3 HX.out.at_; try dsimp only at qa qb qc))
     go_ret
     exact ⟨by first | rfl | simp, HX.out.below⟩
   ·have hl1 : l = [] := List.eq_nil_of_length_eq_zero (by omega)
    subst hl1
    clear HM HT HIH hx1 hl
    rcases h2 with rfl | rfl <;> cases he : (s.toList == ([] : List UInt8))
    all_goals
     go_enter Tryz.func40, Tryz.ntmps40
     go_wp2_with (first
      | ((with_reducible refine gate_dst (N := 1) rfl ?_); refine ev_tree (x := ⟨_, s, []⟩) (A := A) (c := c) rfl rfl rfl rfl ?_; intro b w1_ HX; obtain ⟨qa, qb, qc⟩ := rd3 HX.out.at_; try dsimp only at qa qb qc))
     go_ret
     exact ⟨by first | rfl | simp, HX.out.below⟩
  rw [if_neg h2]
  have g2 : (k == 2) = false := beq_eq_false_iff_ne.2 (fun h => h2 (.inl h))
  have g14 : (k == 14) = false := beq_eq_false_iff_ne.2 (fun h => h2 (.inr h))
  by_cases h3 : k = 3
  ·subst h3
   have hl : ¬ 1 < (l.length : Int) := fun h => hx1 ⟨rfl, h⟩
   have hl1 : (1 ≤ (l.length : Int) - 1) = False := eq_false (by omega)
   rw [if_pos rfl, decide_eq_false hl, Bool.false_and, Bool.and_false]
   clear HM HT HIH hx1 hl h2 g2 g14
   cases he : (s.toList == ([] : List UInt8))
   all_goals
    go_enter Tryz.func40, Tryz.ntmps40
    go_wp2_with (first
     | ((with_reducible refine gate_dst (N := 1) rfl ?_); refine ev_tree (x := ⟨_, s, l⟩) (A := A) (c := c) rfl rfl rfl rfl ?_; intro b w1_ HX; obtain ⟨qa, qb, qc⟩ := rd3 HX.out.at_; try dsimp only at qa qb qc))
    go_ret
    exact ⟨by first | rfl | simp [*], HX.out.below⟩
  rw [if_neg h3]
  have g3 : (k == 3) = false := beq_eq_false_iff_ne.2 h3
  cases hv : nameB s
  ·rw [Bool.false_and]
   clear HM HT HIH HN
   go_enter Tryz.func40, Tryz.ntmps40
   go_wp2_with (first
    | ((with_reducible refine gate_dst (N := 1) rfl ?_); refine ev_tree (x := ⟨_, s, l⟩) (A := A) (c := c) rfl rfl rfl rfl ?_; intro b w1_ HX; obtain ⟨qa, qb, qc⟩ := rd3 HX.out.at_; try dsimp only at qa qb qc)
    | (go_at_call 67; refine (rName_on s HZ.out _).mono ?_; rintro e w2_ ⟨rfl, hb_⟩; clear qa qb qc; replace HX := Lib.hid (HX.out.call hb_); clear hb_; obtain ⟨qa, qb, qc⟩ := rd3 HX.out.at_; try dsimp only at qa qb qc; rw [hv]))
   go_ret
   exact ⟨by first | rfl | simp, HX.out.below⟩
  rw [Bool.true_and]
  by_cases h4 : k = 4 ∨ k = 5 ∨ k = 6
  ·rw [if_pos h4]
   clear HM HIH HN h2 h3 hx1 g2 g3 g14
   rcases h4 with rfl | rfl | rfl
   all_goals
    go_enter Tryz.func40, Tryz.ntmps40
    go_wp2_with (first
     | ((with_reducible refine gate_dst (N := 1) rfl ?_); refine ev_tree (x := ⟨_, s, l⟩) (A := A) (c := c) rfl rfl rfl rfl ?_; intro b w1_ HX; obtain ⟨qa, qb, qc⟩ := rd3 HX.out.at_; try dsimp only at qa qb qc)
     | (go_at_call 67; refine (rName_on s HZ.out _).mono ?_; rintro e w2_ ⟨rfl, hb_⟩; clear qa qb qc; replace HX := Lib.hid (HX.out.call hb_); clear hb_; obtain ⟨qa, qb, qc⟩ := rd3 HX.out.at_; try dsimp only at qa qb qc; rw [hv])
     | (go_at_call 73; refine (HT.out _ c _ (HX.out.C HC.out)).mono ?_; rintro e w2_ ⟨rfl, hb_⟩; clear qa qb qc; replace HX := Lib.hid (HX.out.call hb_); clear hb_; obtain ⟨qa, qb, qc⟩ := rd3 HX.out.at_; try dsimp only at qa qb qc))
    go_ret
    exact ⟨by first | rfl | simp, HX.out.below⟩
  rw [if_neg h4]
  by_cases h7 : k = 7
  ·rw [if_pos h7]
   clear HT HIH HN h2 h3 hx1 g2 g3 g14
   subst h7
   go_enter Tryz.func40, Tryz.ntmps40
   go_wp2_with (first
    | ((with_reducible refine gate_dst (N := 1) rfl ?_); refine ev_tree (x := ⟨_, s, l⟩) (A := A) (c := c) rfl rfl rfl rfl ?_; intro b w1_ HX; obtain ⟨qa, qb, qc⟩ := rd3 HX.out.at_; try dsimp only at qa qb qc)
    | (go_at_call 67; refine (rName_on s HZ.out _).mono ?_; rintro e w2_ ⟨rfl, hb_⟩; clear qa qb qc; replace HX := Lib.hid (HX.out.call hb_); clear hb_; obtain ⟨qa, qb, qc⟩ := rd3 HX.out.at_; try dsimp only at qa qb qc; rw [hv])
    | (go_at_call 74; refine (HM.out _ c _ (HX.out.C HC.out)).mono ?_; rintro e w2_ ⟨rfl, hb_⟩; clear qa qb qc; replace HX := Lib.hid (HX.out.call hb_); clear hb_; obtain ⟨qa, qb, qc⟩ := rd3 HX.out.at_; try dsimp only at qa qb qc))
   go_ret
   exact ⟨by first | rfl | simp, HX.out.below⟩
  rw [if_neg h7]
  by_cases h8 : k = 8 ∨ k = 9 ∨ k = 10 ∨ k = 11
  ·rw [if_pos h8]
   clear HM HT HN h2 h3 hx1 g2 g3 g14
   by_cases h1 : (l.length : Int) = 1
   ·obtain ⟨y, hx⟩ : ∃ y, l = [y] := List.length_eq_one_iff.1 (by omega)
    have HIY := Lib.hid (HIH.out y (by rw [hx]; simp))
    have hr : ((l.length : Int) == 1 && lastB isFormT l) = isFormT y := by rw [hx]; simp [lastB]
    rw [hr]
    obtain ⟨a0, AY, cY, e0, kk⟩ := kid_0 HC.out y (by rw [hx]; rfl)
    subst e0
    have KY := Lib.hid kk
    clear kk
    clear hx hr
    rcases h8 with rfl | rfl | rfl | rfl
    all_goals
     go_enter Tryz.func40, Tryz.ntmps40
     go_wp2_with (first
      | ((with_reducible refine gate_dst (N := 1) rfl ?_); refine ev_tree (x := ⟨_, s, l⟩) (A := (some a0)) (c := c) rfl rfl rfl rfl ?_; intro b w1_ HX; obtain ⟨qa, qb, qc⟩ := rd3 HX.out.at_; try dsimp only at qa qb qc; obtain ⟨Y0, Y1, Y2⟩ := (KY.out.below HX.out.below).cells)
      | (go_at_call 67; refine (rName_on s HZ.out _).mono ?_; rintro e w2_ ⟨rfl, hb_⟩; clear qa qb qc Y0 Y1 Y2; replace HX := Lib.hid (HX.out.call hb_); clear hb_; obtain ⟨qa, qb, qc⟩ := rd3 HX.out.at_; try dsimp only at qa qb qc; obtain ⟨Y0, Y1, Y2⟩ := (KY.out.below HX.out.below).cells; rw [hv])
      | (go_at_call 39; refine (HIY.out AY cY _ KY.out.len (KY.out.below HX.out.below).row).mono ?_; rintro e w2_ ⟨rfl, hb_⟩; clear qa qb qc; replace HX := Lib.hid (HX.out.call hb_); clear hb_; obtain ⟨qa, qb, qc⟩ := rd3 HX.out.at_; try dsimp only at qa qb qc; clear Y0 Y1 Y2))
     go_ret
     exact ⟨by first | rfl | simp, HX.out.below⟩
   ·have h1b : ((l.length : Int) == 1) = false := beq_eq_false_iff_ne.2 h1
    rw [h1b, Bool.false_and]
    rcases h8 with rfl | rfl | rfl | rfl
    all_goals
     go_enter Tryz.func40, Tryz.ntmps40
     go_wp2_with (first
      | ((with_reducible refine gate_dst (N := 1) rfl ?_); refine ev_tree (x := ⟨_, s, l⟩) (A := A) (c := c) rfl rfl rfl rfl ?_; intro b w1_ HX; obtain ⟨qa, qb, qc⟩ := rd3 HX.out.at_; try dsimp only at qa qb qc)
      | (go_at_call 67; refine (rName_on s HZ.out _).mono ?_; rintro e w2_ ⟨rfl, hb_⟩; clear qa qb qc; replace HX := Lib.hid (HX.out.call hb_); clear hb_; obtain ⟨qa, qb, qc⟩ := rd3 HX.out.at_; try dsimp only at qa qb qc; rw [hv]))
     go_ret
     exact ⟨by first | rfl | simp [*], HX.out.below⟩
  rw [if_neg h8]
  clear HM HT HN HIH hx1
  by_cases h12 : k = 12
  ·subst h12
   clear h2 h3 h4 h7 h8 g2 g3 g14
   go_enter Tryz.func40, Tryz.ntmps40
   go_wp2_with (first
    | ((with_reducible refine gate_dst (N := 1) rfl ?_); refine ev_tree (x := ⟨_, s, l⟩) (A := A) (c := c) rfl rfl rfl rfl ?_; intro b w1_ HX; obtain ⟨qa, qb, qc⟩ := rd3 HX.out.at_; try dsimp only at qa qb qc)
    | (go_at_call 67; refine (rName_on s HZ.out _).mono ?_; rintro e w2_ ⟨rfl, hb_⟩; clear qa qb qc; replace HX := Lib.hid (HX.out.call hb_); clear hb_; obtain ⟨qa, qb, qc⟩ := rd3 HX.out.at_; try dsimp only at qa qb qc; rw [hv]))
   go_ret
   exact ⟨by first | rfl | simp [*], HX.out.below⟩
  by_cases h13 : k = 13
  ·subst h13
   clear h2 h3 h4 h7 h8 g2 g3 g14
   go_enter Tryz.func40, Tryz.ntmps40
   go_wp2_with (first
    | ((with_reducible refine gate_dst (N := 1) rfl ?_); refine ev_tree (x := ⟨_, s, l⟩) (A := A) (c := c) rfl rfl rfl rfl ?_; intro b w1_ HX; obtain ⟨qa, qb, qc⟩ := rd3 HX.out.at_; try dsimp only at qa qb qc)
    | (go_at_call 67; refine (rName_on s HZ.out _).mono ?_; rintro e w2_ ⟨rfl, hb_⟩; clear qa qb qc; replace HX := Lib.hid (HX.out.call hb_); clear hb_; obtain ⟨qa, qb, qc⟩ := rd3 HX.out.at_; try dsimp only at qa qb qc; rw [hv]))
   go_ret
   exact ⟨by first | rfl | simp [*], HX.out.below⟩
  have g12 : (k == 12) = false := beq_eq_false_iff_ne.2 h12
  have g13 : (k == 13) = false := beq_eq_false_iff_ne.2 h13
  have g4 : (k == 4) = false := beq_eq_false_iff_ne.2 (fun h => h4 (.inl h))
  have g5 : (k == 5) = false := beq_eq_false_iff_ne.2 (fun h => h4 (.inr (.inl h)))
  have g6 : (k == 6) = false := beq_eq_false_iff_ne.2 (fun h => h4 (.inr (.inr h)))
  have g7 : (k == 7) = false := beq_eq_false_iff_ne.2 h7
  have g8 : (k == 8) = false := beq_eq_false_iff_ne.2 (fun h => h8 (.inl h))
  have g9 : (k == 9) = false := beq_eq_false_iff_ne.2 (fun h => h8 (.inr (.inl h)))
  have g10 : (k == 10) = false := beq_eq_false_iff_ne.2 (fun h => h8 (.inr (.inr (.inl h))))
  have g11 : (k == 11) = false := beq_eq_false_iff_ne.2 (fun h => h8 (.inr (.inr (.inr h))))
  rw [g12, g13, Bool.or_false, Bool.false_and]
  clear h2 h3 h4 h7 h8 h12 h13
  go_enter Tryz.func40, Tryz.ntmps40
  go_wp2_with (first
   | ((with_reducible refine gate_dst (N := 1) rfl ?_); refine ev_tree (x := ⟨_, s, l⟩) (A := A) (c := c) rfl rfl rfl rfl ?_; intro b w1_ HX; obtain ⟨qa, qb, qc⟩ := rd3 HX.out.at_; try dsimp only at qa qb qc)
   | (go_at_call 67; refine (rName_on s HZ.out _).mono ?_; rintro e w2_ ⟨rfl, hb_⟩; clear qa qb qc; replace HX := Lib.hid (HX.out.call hb_); clear hb_; obtain ⟨qa, qb, qc⟩ := rd3 HX.out.at_; try dsimp only at qa qb qc; rw [hv]))
  go_ret
  exact ⟨by first | rfl | simp, HX.out.below⟩
end Go.Proofs.YtbndfgoklgdfdaaGreatDoor.P
end
section
set_option linter.unusedSimpArgs false
namespace Go.Proofs.YtbndfgoklgdfdaaGreatDoor.P
open Go.RowKit Go.Proofs.YtbndfgoklgdfdaaGreatDoorW.PrintWords Go.Proofs.YtbndfgoklgdfdaaGreatDoorW.PrintLast Go.Proofs.YtbndfgoklgdfdaaGreatDoorW.PrintMore
def textB (x : Tree) : Bool := x.f0 == 1 && (x.f1.toList == [] && x.f2.all isItemT)
set_option maxRecDepth 100000 in
set_option maxHeartbeats 16000000 in
theorem rText_on : ∀ (x : Tree), szT x = true → IsOn 41 textB x
 | ⟨k, s, l⟩, hz => by
  intro A c w hc hC
  have HIH : Hid (∀ y ∈ l, IsOn 40 isItemT y) := Lib.hid fun y hy => rItem_on y (szT_mem hz hy)
  have HC : Hid (Kd.C k25 w A l.length l) := Lib.hid hC
  have hln : l.length ≤ 9223372036854775807 := hC.2.1
  have hB : textB ⟨k, s, l⟩ = (k == 1 && (s.toList == [] && l.all isItemT)) := rfl
  rw [hB]
  dsimp only at hc ⊢
  clear hC hz hB
  by_cases h1 : k = 1
  rotate_left
  ·have g1 : (k == 1) = false := beq_eq_false_iff_ne.2 h1
   have g2 : (k != 1) = true := bne_iff_ne.2 h1
   rw [g1]
   go_enter Tryz.func41, Tryz.ntmps41
   go_wp2_with (first
    | ((with_reducible refine gate_dst (N := 1) rfl ?_); refine ev_tree (x := ⟨_, s, l⟩) (A := A) (c := c) rfl rfl rfl rfl ?_; intro b w1_ HX; obtain ⟨qa, qb, qc⟩ := rd3 HX.out.at_; try dsimp only at qa qb qc))
   go_ret
   exact ⟨by first | rfl | simp, HX.out.below⟩
  subst h1
  cases he : (s.toList == ([] : List UInt8))
  ·go_enter Tryz.func41, Tryz.ntmps41
   go_wp2_with (first
    | ((with_reducible refine gate_dst (N := 1) rfl ?_); refine ev_tree (x := ⟨_, s, l⟩) (A := A) (c := c) rfl rfl rfl rfl ?_; intro b w1_ HX; obtain ⟨qa, qb, qc⟩ := rd3 HX.out.at_; try dsimp only at qa qb qc))
   go_ret
   exact ⟨by first | rfl | simp, HX.out.below⟩
  have hR0 : ((1 : Int) == 1 && (true && l.all isItemT)) = l.all isItemT := by simp
  rw [hR0]
  clear hR0
  obtain ⟨R, hR⟩ : ∃ R, R = l.all isItemT := ⟨_, rfl⟩
  rw [← hR]
  have HR : Hid ((l.drop 0).all isItemT = R) := Lib.hid (by rw [hR, List.drop_zero])
  clear hR
  go_enter Tryz.func41, Tryz.ntmps41
  go_wp2_with ((with_reducible refine gate_dst (N := 1) rfl ?_); refine ev_tree (x := ⟨_, s, l⟩) (A := A) (c := c) rfl rfl rfl rfl ?_; intro b w1_ HX; obtain ⟨qa, qb, qc⟩ := rd3 HX.out.at_; try dsimp only at qa qb qc)
  go_loopw [3] (fun i wr => ∃ j : Nat, i = .int .i64 j ∧ j ≤ l.length ∧ Hid ((l.drop j).all isItemT = R) ∧ Hid (Bw w wr b ⟨1, s, l⟩ A c)) (fun i _ => l.length - (intOf i).toNat)
  case atStart => exact ⟨0, rfl, Nat.zero_le _, HR, HX⟩
  case round =>
   clear HX HR qa qb qc he
   obtain ⟨j, rfl, hj, HR, HX⟩ := hrel
   obtain ⟨qa, qb, qc⟩ := rd3 HX.out.at_
   dsimp only at qa qb qc
   by_cases hlt : j < l.length
   ·obtain ⟨a0, y, A2, c2, rfl, hmem, hdr, hk⟩ := kid_j HX.out.below HC.out j hlt
    have hR := HR.out
    rw [hdr, List.all_cons] at hR
    have HR2 := Lib.hid hR
    have HY := Lib.hid (HIH.out y hmem)
    have HK := Lib.hid hk
    obtain ⟨p0, p1, p2, _, _⟩ := hk
    clear hR hdr hmem HR
    cases hp : isItemT y
    ·go_wp2_with (go_at_call 40; refine (HY.out A2 c2 _ HK.out.len HK.out.row).mono ?_; rintro e w2 ⟨rfl, hb⟩; clear qa qb qc p0 p1 p2; have HX2 := Lib.hid (HX.out.call hb); clear HX hb; have HX := HX2; clear HX2; rw [hp])
     go_ret
     exact ⟨by rw [← HR2.out, hp, Bool.false_and]; rfl, HX.out.below⟩
    ·go_wp2_with (go_at_call 40; refine (HY.out A2 c2 _ HK.out.len HK.out.row).mono ?_; rintro e w2 ⟨rfl, hb⟩; clear qa qb qc p0 p1 p2; have HX2 := Lib.hid (HX.out.call hb); clear HX hb; have HX := HX2; clear HX2; rw [hp])
     go_roundw
     case rel => exact ⟨j + 1, by go_num, by omega, Lib.hid (by rw [← HR2.out, hp, Bool.true_and]), HX⟩
     case measure => simp [intOf]; omega
   ·have hR := HR.out
    rw [List.drop_of_length_le (by omega), List.all_nil] at hR
    subst hR
    go_wp2_with fail
    go_ret
    exact ⟨rfl, HX.out.below⟩
theorem tree_parts (x : Tree) : isTreeT x = (isTypeT x || (isTermT x || (isFormT x || (isItemT x || textB x)))) := by
 obtain ⟨a, s, l⟩ := x
 unfold isTreeT textB
 dsimp only
 by_cases h1 : a = 1
 ·subst h1
  rw [if_pos rfl]
  have e1 : isTypeT ⟨1, s, l⟩ = false := by rw [isTypeT_eq]; rfl
  have e2 : isTermT ⟨1, s, l⟩ = false := by rw [isTermT_eq]; rfl
  have e3 : isFormT ⟨1, s, l⟩ = false := by
   rw [isFormT_eq, if_neg (by decide), if_neg (by decide)]
   have hs1 : sizeF 1 = -1 := by decide
   have : ((l.length : Int) == sizeF 1) = false := beq_eq_false_iff_ne.2 (by omega)
   rw [this, Bool.false_and, Bool.and_false]
  have e4 : isItemT ⟨1, s, l⟩ = false := by
   unfold isItemT
   dsimp only
   rw [if_neg (by decide), if_neg (by decide), if_neg (by decide), if_neg (by decide), if_neg (by decide)]
   simp
  rw [e1, e2, e3, e4]
  rfl
 ·rw [if_neg h1, show (a == 1) = false from beq_eq_false_iff_ne.2 h1, Bool.false_and, Bool.or_false]
/-- The reference's Check. -/
theorem checkT_parts (x : Tree) : checkT x = if 4000 < min (ndT x : Int) 4001 then 2 else if deepN 100 x then 5 else if isTypeT x then 0 else if isTermT x then 0 else if isFormT x then 0 else if isItemT x then 0 else if textB x then 0 else 21 := by
 unfold checkT
 rw [cnt_nd, tree_parts]
 cases isTypeT x <;> cases isTermT x <;> cases isFormT x <;> cases isItemT x <;> cases textB x <;> rfl
set_option maxRecDepth 100000 in
set_option maxHeartbeats 16000000 in
theorem rCheck_on (x : Tree) (hz : szT x = true) (A : Option Addr) (c : Nat) (w : World) (hc : x.f2.length ≤ c) (hC : Kd.C k25 w A x.f2.length x.f2) :
  Calls Tryz.prog 11 #[.agg #[.int .i64 x.f0, .string x.f1, .slice A x.f2.length c]] w fun e w' => e = .returned (.int .i64 (checkT x)) ∧ Below w.heap.size w w' := by
 have H2 := Lib.hid (rDeep_on 100 x (by omega))
 have H3 := Lib.hid (rType_on _ x (Nat.lt_succ_self _) hz)
 have H4 := Lib.hid (rTerm_on _ x (Nat.lt_succ_self _) hz)
 have H5 := Lib.hid (rForm_on _ x (Nat.lt_succ_self _) hz)
 have H6 := Lib.hid (rItem_on x hz)
 have H7 := Lib.hid (rText_on x hz)
 have HC := Lib.hid hC
 have HCC := Lib.hid hc
 rw [checkT_parts]
 clear hC hc hz
 obtain ⟨v, hv⟩ : ∃ v : Int, v = min (ndT x : Int) 4001 := ⟨_, rfl⟩
 have hv1 : v ≤ 4001 := by omega
 have hv2 : min (ndT x : Int) (4000 + 1) = v := hv.symm
 have hh := rCount_on _ x 4000 (Nat.lt_succ_self _) (by omega) (by omega)
 simp only [hv2] at hh
 have H1 := Lib.hid hh
 rw [← hv]
 clear hv hh hv2
 have key : ∀ (d t1 t2 t3 t4 t5 : Bool), d = true ∨ d = false ∧ (t1 = true ∨ t1 = false ∧ (t2 = true ∨ t2 = false ∧ (t3 = true ∨ t3 = false ∧ (t4 = true ∨ t4 = false ∧ (t5 = true ∨ t5 = false))))) := by
  intro d t1 t2 t3 t4 t5
  cases d <;> cases t1 <;> cases t2 <;> cases t3 <;> cases t4 <;> cases t5 <;> simp
 rcases Int.lt_or_le 4000 v with h1 | h1
 ·rw [if_pos h1]
  go_enter Tryz.func11, Tryz.ntmps11
  go_wp2_with (first
   | ((with_reducible refine gate_dst (N := 1) rfl ?_); refine ev_tree (x := x) (A := A) (c := c) rfl rfl rfl rfl ?_; intro b w1_ HX; obtain ⟨qa, qb, qc⟩ := rd3 HX.out.at_)
   | (go_at_call 35; refine (H1.out A c _ HCC.out (HX.out.C HC.out)).mono ?_; rintro e w2_ ⟨rfl, hb_⟩; clear qa qb qc; replace HX := Lib.hid (HX.out.call hb_); clear hb_; obtain ⟨qa, qb, qc⟩ := rd3 HX.out.at_))
  go_ret
  exact ⟨rfl, HX.out.below⟩
 rw [if_neg (by omega)]
 obtain ⟨R, hR⟩ : ∃ R : Int, R = if deepN 100 x then 5 else if isTypeT x then 0 else if isTermT x then 0 else if isFormT x then 0 else if isItemT x then 0 else if textB x then 0 else 21 := ⟨_, rfl⟩
 rw [← hR]
 have HR := Lib.hid hR
 clear hR
 rcases key (deepN 100 x) (isTypeT x) (isTermT x) (isFormT x) (isItemT x) (textB x) with h2 | ⟨h2, h3 | ⟨h3, h4 | ⟨h4, h5 | ⟨h5, h6 | ⟨h6, h7 | h7⟩⟩⟩⟩⟩
 all_goals
  go_enter Tryz.func11, Tryz.ntmps11
  go_wp2_with (first
   | ((with_reducible refine gate_dst (N := 1) rfl ?_); refine ev_tree (x := x) (A := A) (c := c) rfl rfl rfl rfl ?_; intro b w1_ HX; obtain ⟨qa, qb, qc⟩ := rd3 HX.out.at_)
   | (go_at_call 35; refine (H1.out A c _ HCC.out (HX.out.C HC.out)).mono ?_; rintro e w2_ ⟨rfl, hb_⟩; clear qa qb qc; replace HX := Lib.hid (HX.out.call hb_); clear hb_; obtain ⟨qa, qb, qc⟩ := rd3 HX.out.at_)
   | (go_at_call 36; refine (H2.out A c _ HCC.out (HX.out.C HC.out)).mono ?_; rintro e w2_ ⟨⟨t_, rfl, t1, t2, t3⟩, hb_⟩; clear qa qb qc; replace HX := Lib.hid (HX.out.call hb_); clear hb_; obtain ⟨qa, qb, qc⟩ := rd3 HX.out.at_; rw [h2] at t3; first | replace t3 : 100 < t_ := (by have := of_decide_eq_true t3; omega) | replace t3 : t_ ≤ 100 := (by have := of_decide_eq_false t3; omega))
   | (go_at_call 37; refine (H3.out A c _ HCC.out (HX.out.C HC.out)).mono ?_; rintro e w2_ ⟨rfl, hb_⟩; clear qa qb qc; replace HX := Lib.hid (HX.out.call hb_); clear hb_; obtain ⟨qa, qb, qc⟩ := rd3 HX.out.at_; rw [h3])
   | (go_at_call 38; refine (H4.out A c _ HCC.out (HX.out.C HC.out)).mono ?_; rintro e w2_ ⟨rfl, hb_⟩; clear qa qb qc; replace HX := Lib.hid (HX.out.call hb_); clear hb_; obtain ⟨qa, qb, qc⟩ := rd3 HX.out.at_; rw [h4])
   | (go_at_call 39; refine (H5.out A c _ HCC.out (HX.out.C HC.out)).mono ?_; rintro e w2_ ⟨rfl, hb_⟩; clear qa qb qc; replace HX := Lib.hid (HX.out.call hb_); clear hb_; obtain ⟨qa, qb, qc⟩ := rd3 HX.out.at_; rw [h5])
   | (go_at_call 40; refine (H6.out A c _ HCC.out (HX.out.C HC.out)).mono ?_; rintro e w2_ ⟨rfl, hb_⟩; clear qa qb qc; replace HX := Lib.hid (HX.out.call hb_); clear hb_; obtain ⟨qa, qb, qc⟩ := rd3 HX.out.at_; rw [h6])
   | (go_at_call 41; refine (H7.out A c _ HCC.out (HX.out.C HC.out)).mono ?_; rintro e w2_ ⟨rfl, hb_⟩; clear qa qb qc; replace HX := Lib.hid (HX.out.call hb_); clear hb_; obtain ⟨qa, qb, qc⟩ := rd3 HX.out.at_; rw [h7]))
  go_ret
  exact ⟨by rw [HR.out]; simp [*], HX.out.below⟩
end Go.Proofs.YtbndfgoklgdfdaaGreatDoor.P
end
section
set_option linter.unusedSimpArgs false
namespace Go.Proofs.YtbndfgoklgdfdaaGreatDoor.P
open Go.RowKit Go.Proofs.YtbndfgoklgdfdaaGreatDoorW.PrintWords Go.Proofs.YtbndfgoklgdfdaaGreatDoorW.PrintLast Go.Proofs.YtbndfgoklgdfdaaGreatDoorW.PrintMore
def RSame (x : Tree) : Prop := ∀ (y : Tree) (A B : Option Addr) (c d : Nat) (w : World), x.f2.length ≤ c → Kd.C k25 w A x.f2.length x.f2 → y.f2.length ≤ d → Kd.C k25 w B y.f2.length y.f2 →
 Calls Tryz.prog 9 #[.agg (tN x A c), .agg (tN y B d)] w fun e w' => e = .returned (.bool (sameT x y)) ∧ Below w.heap.size w w'
set_option maxRecDepth 100000 in
set_option maxHeartbeats 8000000 in
theorem rSame_on : ∀ (n : Nat) (x : Tree), SizeOf.sizeOf x < n → RSame x
 | 0, _, h => absurd h (Nat.not_lt_zero _)
 | n + 1, ⟨k, s, l⟩, hn => by
  intro y A B c d w hc hC hd hD
  obtain ⟨k2, s2, l2⟩ := y
  have HIH : Hid (∀ y ∈ l, RSame y) := Lib.hid fun y hy => rSame_on n y (by have := kid_lt (x := ⟨k, s, l⟩) hy; omega)
  have HC : Hid (Kd.C k25 w A l.length l) := Lib.hid hC
  have HD : Hid (Kd.C k25 w B l2.length l2) := Lib.hid hD
  have HF := Lib.hid (Fz.refl w)
  have hln : l.length ≤ 9223372036854775807 := hC.2.1
  dsimp only at hc hd
  obtain ⟨R, hR⟩ : ∃ R, R = sameT ⟨k, s, l⟩ ⟨k2, s2, l2⟩ := ⟨_, rfl⟩
  rw [← hR]
  rw [sameT] at hR
  clear hC hD hn
  have key : (k != k2) = true ∧ R = false ∨ (k != k2) = false ∧ ((s.toList == s2.toList) = false ∧ R = false ∨ (s.toList == s2.toList) = true ∧ (((l.length : Int) != (l2.length : Int)) = true ∧ R = false ∨ ((l.length : Int) != (l2.length : Int)) = false ∧ l.length = l2.length ∧ R = sameL l l2)) := by
   rw [hR]
   by_cases h1 : k = k2
   ·rw [bne_eq_false_iff_eq.2 h1, beq_iff_eq.2 h1, Bool.true_and]
    cases h2 : (s.toList == s2.toList)
    ·simp
    ·by_cases h3 : l.length = l2.length
     ·simp [h3]
     ·rw [sameL_len l l2 h3]; simp; omega
   ·simp [h1]
  clear hR
  rcases key with ⟨e1, rfl⟩ | ⟨e1, ⟨e2, rfl⟩ | ⟨e2, ⟨e3, rfl⟩ | ⟨e3, e4, hR⟩⟩⟩
  rotate_right
  ·have HR : Hid (sameL (l.drop 0) (l2.drop 0) = R) := Lib.hid (by rw [hR, List.drop_zero, List.drop_zero])
   clear hR
   go_enter Tryz.func9, Tryz.ntmps9
   go_wp2_with (first
    | ((with_reducible refine gate_dst (N := 2) rfl ?_); refine ez_box (t := 25) (cs := (tN ⟨k, s, l⟩ A c)) HF rfl rfl (run_tree rfl rfl) ?_; clear HF; intro b2 w1 HF)
    | ((with_reducible refine gate_dst (N := 3) rfl ?_); refine ez_box (t := 25) (cs := (tN ⟨k2, s2, l2⟩ B d)) HF rfl rfl (run_tree rfl rfl) ?_; clear HF; intro b3 w2 HF; obtain ⟨q2a, q2b, q2c⟩ := rd3 HF.out.b1; obtain ⟨q3a, q3b, q3c⟩ := rd3 HF.out.b0))
   go_loopw [5] (fun i wr => ∃ j : Nat, i = .int .i64 j ∧ j ≤ l.length ∧ Hid (sameL (l.drop j) (l2.drop j) = R) ∧ Hid (Fz w wr [vT b3 25 (tN ⟨k2, s2, l2⟩ B d), vT b2 25 (tN ⟨k, s, l⟩ A c)])) (fun i _ => l.length - (intOf i).toNat)
   case atStart => exact ⟨0, rfl, Nat.zero_le _, HR, HF⟩
   case round =>
    clear HF HR q2a q2b q2c q3a q3b q3c e1 e2 e3
    obtain ⟨j, rfl, hj, HR, HF⟩ := hrel
    obtain ⟨q2a, q2b, q2c⟩ := rd3 HF.out.b1
    obtain ⟨q3a, q3b, q3c⟩ := rd3 HF.out.b0
    by_cases hlt : j < l.length
    ·have hlt2 : j < l2.length := by omega
     have hlm : ((j : Int) < (l2.length : Int)) = True := eq_true (by omega)
     obtain ⟨a0, y, A2, c2, rfl, hmem, hdr, hk⟩ := kid_j HF.out.below HC.out j hlt
     obtain ⟨a1, z, A3, c3, rfl, _, hds, hk3⟩ := kid_j HF.out.below HD.out j hlt2
     have hR := HR.out
     rw [hdr, hds, sameL] at hR
     have HR2 := Lib.hid hR
     have HY := Lib.hid (HIH.out y hmem)
     have HKY := Lib.hid hk
     have HKZ := Lib.hid hk3
     obtain ⟨r0, hr0⟩ : ∃ r0 : Addr, r0 = a0.add (j * 3) := ⟨_, rfl⟩
     obtain ⟨r1, hr1⟩ : ∃ r1 : Addr, r1 = a1.add (j * 3) := ⟨_, rfl⟩
     rw [← hr0] at HKY
     rw [← hr1] at HKZ
     clear hR hdr hds hmem HR hk hk3
     have hw0 := HF.out.below
     go_wp2_with fail
     clear q2a q2b q2c q3a q3b q3c
     have HB : Hid (Below wr.heap.size wr wr.drew) := Lib.hid (below_drew1 (Below.refl _ _))
     subst hr0 hr1
     go_wp2_with fail
     go_wp2_with fail
     replace HF := Lib.hid HF.out.drew
     refine start_ (n := 12) (S := (fun w' => True ∧ w'.cell? (⟨b2, 2, none⟩) = some (.slice (some a0) l.length c) ∧ w'.cell? (⟨b3, 2, none⟩) = some (.slice (some a1) l2.length d) ∧ w'.cell? ((a0.add (j * 3))) = some (.int .i64 y.f0) ∧ w'.cell? (⟨(a0.add (j * 3)).block, (a0.add (j * 3)).off + 1, none⟩) = some (.string y.f1) ∧ w'.cell? (⟨(a0.add (j * 3)).block, (a0.add (j * 3)).off + 2, none⟩) = some (.slice A2 y.f2.length c2) ∧ w'.cell? ((a1.add (j * 3))) = some (.int .i64 z.f0) ∧ w'.cell? (⟨(a1.add (j * 3)).block, (a1.add (j * 3)).off + 1, none⟩) = some (.string z.f1) ∧ w'.cell? (⟨(a1.add (j * 3)).block, (a1.add (j * 3)).off + 2, none⟩) = some (.slice A3 z.f2.length c3))) (ds := [10]) #[false, false, false, false, false, false, false, false, false, false, false, false] (by kernel_rfl) rfl rfl ?_ (fun hHeld => ?_)
     ·exact ⟨trivial, (blk_cell HF.out.b1 2).trans rfl, (blk_cell HF.out.b0 2).trans rfl, ((HKY.out.below HB.out).c0), ((HKY.out.below HB.out).c1), ((HKY.out.below HB.out).c2), ((HKZ.out.below HB.out).c0), ((HKZ.out.below HB.out).c1), ((HKZ.out.below HB.out).c2)⟩
     refine pq 0 (fl 12 1) (h := ?_)
     refine pq 2 #[true, false, true, false, false, false, false, false, false, false, false, false] (h := ?_)
     refine pq 5 #[true, false, true, false, false, true, false, false, false, false, false, false] (h := ?_)
     refine pq 7 #[true, false, true, false, false, true, false, true, false, false, false, false] (h := ?_)
     refine tq hHeld 1 #[true, true, true, false, false, true, false, true, false, false, false, false] (h := ?_)
     refine pq 3 #[true, true, true, true, false, true, false, true, false, false, false, false] (h := ?_)
     refine tq hHeld 4 #[true, true, true, true, true, true, false, true, false, false, false, false] (h := ?_)
     refine tq hHeld 6 (fl 12 8) (h := ?_)
     refine pq 8 (fl 12 9) (h := ?_)
     refine tq hHeld 9 (fl 12 10) (h := ?_)
     refine last_ (i := 10) (N := some 44) #[true, true, true, true, true, true, true, true, true, true, true, false] rfl rfl (by kernel_rfl) (by decide) (fun K hK => ?_)
     go_simp
     refine (HY.out z A2 A3 c2 c3 _ HKY.out.len (HKY.out.below HB.out).row HKZ.out.len (HKZ.out.below HB.out).row).mono ?_
     rintro e w1 ⟨rfl, hb_⟩
     replace HF := Lib.hid (HF.out.step hb_)
     replace HB := Lib.hid (below_step HB.out hb_)
     clear hb_
     refine hK.out _ _ ?_
     clear hK K
     (try simp only [Act.put, List.setIfInBounds_toArray, List.set_cons_zero, List.set_cons_succ])
     refine pq 11 (fl 12 12) (h := ?_)
     refine done_ (by kernel_rfl) ?_
     skip
     try simp only [Act.put, List.setIfInBounds_toArray, List.set_cons_zero, List.set_cons_succ]
     obtain ⟨b_, hb_⟩ : ∃ b_, b_ = sameT y z := ⟨_, rfl⟩
     rw [← hb_]
     rw [← hb_] at HR2
     clear hb_
     cases b_
     ·go_wp2_with fail
      go_ret
      exact ⟨by rw [← HR2.out, Bool.false_and]; rfl, HF.out.below⟩
     ·go_wp2_with fail
      go_roundw
      case rel => exact ⟨j + 1, by go_num, by omega, Lib.hid (by rw [← HR2.out, Bool.true_and]), HF⟩
      case measure => simp [intOf]; omega
    ·have hR := HR.out
     rw [List.drop_of_length_le (by omega), List.drop_of_length_le (by omega), sameL] at hR
     subst hR
     go_wp2_with fail
     go_ret
     exact ⟨rfl, HF.out.below⟩
  all_goals
   go_enter Tryz.func9, Tryz.ntmps9
   go_wp2_with (first
    | ((with_reducible refine gate_dst (N := 2) rfl ?_); refine ez_box (t := 25) (cs := (tN ⟨k, s, l⟩ A c)) HF rfl rfl (run_tree rfl rfl) ?_; clear HF; intro b2 w1 HF)
    | ((with_reducible refine gate_dst (N := 3) rfl ?_); refine ez_box (t := 25) (cs := (tN ⟨k2, s2, l2⟩ B d)) HF rfl rfl (run_tree rfl rfl) ?_; clear HF; intro b3 w2 HF; obtain ⟨q2a, q2b, q2c⟩ := rd3 HF.out.b1; obtain ⟨q3a, q3b, q3c⟩ := rd3 HF.out.b0))
   go_ret
   exact ⟨rfl, HF.out.below⟩
end Go.Proofs.YtbndfgoklgdfdaaGreatDoor.P
end
section
set_option linter.unusedSimpArgs false
namespace Go.Proofs.YtbndfgoklgdfdaaGreatDoor.P
open Go.RowKit Go.Proofs.YtbndfgoklgdfdaaGreatDoorW.PrintWords Go.Proofs.YtbndfgoklgdfdaaGreatDoorW.PrintLast Go.Proofs.YtbndfgoklgdfdaaGreatDoorW.PrintMore
set_option maxRecDepth 100000 in
set_option maxHeartbeats 8000000 in
theorem checks_on (x y : Tree) (hz : szT x = true) (w : World) (hg : GOK w) (A B : Option Addr) (c d : Nat) (hc : x.f2.length ≤ c) (hC : Kd.C k25 w A x.f2.length x.f2) (hd : y.f2.length ≤ d) (hD : Kd.C k25 w B y.f2.length y.f2) :
  Calls Tryz.prog 4 #[.agg (tN x A c), .agg (tN y B d)] w fun e W' => e = .returned (.bool true) ∧ Below w.heap.size w W' := by
 have HG := Lib.hid hg
 have HCX := Lib.hid hC
 have HCY := Lib.hid hD
 have HZ := Lib.hid hz
 have HF := Lib.hid (Fz.refl w)
 obtain ⟨cx, hcx⟩ : ∃ cx, cx = checkT x := ⟨_, rfl⟩
 obtain ⟨nx, hnx⟩ : ∃ nx, nx = cntT x 0 := ⟨_, rfl⟩
 obtain ⟨sb, hsb⟩ : ∃ sb, sb = sameT x y := ⟨_, rfl⟩
 have hxx : sameT x x = true := (sameT_eq x x).2 rfl
 have HNX := Lib.hid hnx
 have HXX := Lib.hid hxx
 have HCK := Lib.hid hcx
 have HSB := Lib.hid hsb
 clear hg hC hD hz hcx hnx hsb hxx
 go_enter Tryz.func4, Tryz.ntmps4
 go_wp2_with (first
  | ((with_reducible refine gate_dst (N := 2) rfl ?_); refine ez_box (t := 25) (cs := (tN x A c)) HF rfl rfl (run_tree rfl rfl) ?_; clear HF; intro b2 w1 HF)
  | ((with_reducible refine gate_dst (N := 3) rfl ?_); refine ez_box (t := 25) (cs := (tN y B d)) HF rfl rfl (run_tree rfl rfl) ?_; clear HF; intro b3 w2 HF)
  | (go_at_call 7; refine (sane_on _ (HG.out.below HF.out.below)).mono ?_; rintro e w3 ⟨rfl, hb_⟩; have HF2_ := Lib.hid (HF.out.step hb_); clear HF hb_; have HF := HF2_; clear HF2_))
 go_wp2_with fail
 go_wp2_with fail
 replace HF := Lib.hid HF.out.drew
 refine wp_only ?_
 refine start_ (n := 12) (S := (fun w' => True ∧ w'.cell? (⟨b2, 0, none⟩) = some (.int .i64 x.f0) ∧ w'.cell? (⟨b2, 1, none⟩) = some (.string x.f1) ∧ w'.cell? (⟨b2, 2, none⟩) = some (.slice A x.f2.length c))) (ds := [9]) #[false, false, false, false, false, false, false, false, false, false, false, false] (by kernel_rfl) rfl rfl ?_ (fun hHeld => ?_)
 ·exact ⟨trivial, (blk_cell HF.out.b1 0).trans rfl, (blk_cell HF.out.b1 1).trans rfl, (blk_cell HF.out.b1 2).trans rfl⟩
 refine tqo hHeld 0 (fl 12 1) (h := ?_)
 refine tqo hHeld 2 #[true, false, true, false, false, false, false, false, false, false, false, false] (h := ?_)
 refine one_ (i := 1) (N := some 8) #[true, true, true, false, false, false, false, false, false, false, false, false] rfl rfl (by kernel_rfl) (by decide) (fun K hK => ?_)
 clear hHeld
 go_simp
 refine (HCK.out ▸ check_on x HZ.out A c _ hc (Kd.C_below HCX.out HF.out.below)).mono ?_
 rintro e w4 ⟨rfl, hb_⟩
 replace HF := Lib.hid (HF.out.step hb_)
 clear hb_
 refine hK.out _ _ (⟨trivial, (blk_cell HF.out.b1 0).trans rfl, (blk_cell HF.out.b1 1).trans rfl, (blk_cell HF.out.b1 2).trans rfl⟩) (fun hHeld => ?_)
 clear hK K
 (try simp only [Act.put, List.setIfInBounds_toArray, List.set_cons_zero, List.set_cons_succ])
 refine one_ (i := 3) (N := some 10) #[true, true, true, true, false, false, false, false, false, false, false, false] rfl rfl (by kernel_rfl) (by decide) (fun K hK => ?_)
 clear hHeld
 go_simp
 refine (HCK.out ▸ rCheck_on x HZ.out A c _ hc (Kd.C_below HCX.out HF.out.below)).mono ?_
 rintro e w5 ⟨rfl, hb_⟩
 replace HF := Lib.hid (HF.out.step hb_)
 clear hb_
 refine hK.out _ _ (⟨trivial, (blk_cell HF.out.b1 0).trans rfl, (blk_cell HF.out.b1 1).trans rfl, (blk_cell HF.out.b1 2).trans rfl⟩) (fun hHeld => ?_)
 clear hK K
 (try simp only [Act.put, List.setIfInBounds_toArray, List.set_cons_zero, List.set_cons_succ])
 refine pqo 4 (fl 12 5) (h := ?_)
 refine pqo 5 (fl 12 6) (h := ?_)
 refine tqo hHeld 6 (fl 12 7) (h := ?_)
 refine tqo hHeld 8 #[true, true, true, true, true, true, true, false, true, false, false, false] (h := ?_)
 refine one_ (i := 7) (N := some 14) #[true, true, true, true, true, true, true, true, true, false, false, false] rfl rfl (by kernel_rfl) (by decide) (fun K hK => ?_)
 clear hHeld
 go_simp
 refine (HNX.out ▸ size_on x A c _ hc (Kd.C_below HCX.out HF.out.below)).mono ?_
 rintro e w6 ⟨rfl, hb_⟩
 replace HF := Lib.hid (HF.out.step hb_)
 clear hb_
 refine hK.out _ _ (⟨trivial, (blk_cell HF.out.b1 0).trans rfl, (blk_cell HF.out.b1 1).trans rfl, (blk_cell HF.out.b1 2).trans rfl⟩) (fun hHeld => ?_)
 clear hK K
 (try simp only [Act.put, List.setIfInBounds_toArray, List.set_cons_zero, List.set_cons_succ])
 refine last_ (i := 9) (N := some 16) #[true, true, true, true, true, true, true, true, true, true, false, false] rfl rfl (by kernel_rfl) (by decide) (fun K hK => ?_)
 go_simp
 refine (HNX.out ▸ rSize_on x A c _ hc (Kd.C_below HCX.out HF.out.below)).mono ?_
 rintro e w7 ⟨rfl, hb_⟩
 replace HF := Lib.hid (HF.out.step hb_)
 clear hb_
 refine hK.out _ _ ?_
 clear hK K
 (try simp only [Act.put, List.setIfInBounds_toArray, List.set_cons_zero, List.set_cons_succ])
 refine pqo 10 (fl 12 11) (h := ?_)
 refine pqo 11 (fl 12 12) (h := ?_)
 refine done_ (by kernel_rfl) ⟨rfl, ?_⟩
 skip
 try simp only [Act.put, List.setIfInBounds_toArray, List.set_cons_zero, List.set_cons_succ]
 obtain ⟨q8a, q8b, q8c⟩ := rd3 HF.out.b1
 obtain ⟨q9a, q9b, q9c⟩ := rd3 HF.out.b0
 go_wp2_with fail
 refine (rHuge_on x A c _ hc (Kd.C_below HCX.out HF.out.below)).mono ?_
 rintro e w10 ⟨rfl, hb_⟩
 replace HF := Lib.hid (HF.out.step hb_)
 clear hb_ q8a q8b q8c q9a q9b q9c
 cases h5x : decide (ndT x > 5000)
 ·obtain ⟨q11a, q11b, q11c⟩ := rd3 HF.out.b0
  go_wp2_with fail
  refine (rHuge_on y B d _ hd (Kd.C_below HCY.out HF.out.below)).mono ?_
  rintro e w12 ⟨rfl, hb_⟩
  replace HF := Lib.hid (HF.out.step hb_)
  clear hb_ q11a q11b q11c
  cases h5y : decide (ndT y > 5000)
  ·go_wp2_with fail
   go_wp2_with fail
   go_wp2_with fail
   replace HF := Lib.hid HF.out.drew
   refine wp_only ?_
   refine start_ (n := 16) (S := (fun w' => True ∧ w'.cell? (⟨b2, 0, none⟩) = some (.int .i64 x.f0) ∧ w'.cell? (⟨b2, 1, none⟩) = some (.string x.f1) ∧ w'.cell? (⟨b2, 2, none⟩) = some (.slice A x.f2.length c) ∧ w'.cell? (⟨b3, 0, none⟩) = some (.int .i64 y.f0) ∧ w'.cell? (⟨b3, 1, none⟩) = some (.string y.f1) ∧ w'.cell? (⟨b3, 2, none⟩) = some (.slice B y.f2.length d))) (ds := [13]) #[false, false, false, false, false, false, false, false, false, false, false, false, false, false, false, false] (by kernel_rfl) rfl rfl ?_ (fun hHeld => ?_)
   ·exact ⟨trivial, (blk_cell HF.out.b1 0).trans rfl, (blk_cell HF.out.b1 1).trans rfl, (blk_cell HF.out.b1 2).trans rfl, (blk_cell HF.out.b0 0).trans rfl, (blk_cell HF.out.b0 1).trans rfl, (blk_cell HF.out.b0 2).trans rfl⟩
   refine pqo 0 (fl 16 1) (h := ?_)
   refine pqo 1 (fl 16 2) (h := ?_)
   refine tqo hHeld 2 (fl 16 3) (h := ?_)
   refine tqo hHeld 3 (fl 16 4) (h := ?_)
   refine tqo hHeld 5 #[true, true, true, true, false, true, false, false, false, false, false, false, false, false, false, false] (h := ?_)
   refine tqo hHeld 6 #[true, true, true, true, false, true, true, false, false, false, false, false, false, false, false, false] (h := ?_)
   refine one_ (i := 4) (N := some 30) #[true, true, true, true, true, true, true, false, false, false, false, false, false, false, false, false] rfl rfl (by kernel_rfl) (by decide) (fun K hK => ?_)
   clear hHeld
   go_simp
   refine (HSB.out ▸ Same_calls x y A B c d _ hc (Kd.C_below HCX.out HF.out.below) hd (Kd.C_below HCY.out HF.out.below)).mono ?_
   rintro e w13 ⟨rfl, hb_⟩
   replace HF := Lib.hid (HF.out.step hb_)
   clear hb_
   refine hK.out _ _ (⟨trivial, (blk_cell HF.out.b1 0).trans rfl, (blk_cell HF.out.b1 1).trans rfl, (blk_cell HF.out.b1 2).trans rfl, (blk_cell HF.out.b0 0).trans rfl, (blk_cell HF.out.b0 1).trans rfl, (blk_cell HF.out.b0 2).trans rfl⟩) (fun hHeld => ?_)
   clear hK K
   (try simp only [Act.put, List.setIfInBounds_toArray, List.set_cons_zero, List.set_cons_succ])
   refine one_ (i := 7) (N := some 33) #[true, true, true, true, true, true, true, true, false, false, false, false, false, false, false, false] rfl rfl (by kernel_rfl) (by decide) (fun K hK => ?_)
   clear hHeld
   go_simp
   refine (HSB.out ▸ rSame_on _ x (Nat.lt_succ_self _) y A B c d _ hc (Kd.C_below HCX.out HF.out.below) hd (Kd.C_below HCY.out HF.out.below)).mono ?_
   rintro e w14 ⟨rfl, hb_⟩
   replace HF := Lib.hid (HF.out.step hb_)
   clear hb_
   refine hK.out _ _ (⟨trivial, (blk_cell HF.out.b1 0).trans rfl, (blk_cell HF.out.b1 1).trans rfl, (blk_cell HF.out.b1 2).trans rfl, (blk_cell HF.out.b0 0).trans rfl, (blk_cell HF.out.b0 1).trans rfl, (blk_cell HF.out.b0 2).trans rfl⟩) (fun hHeld => ?_)
   clear hK K
   (try simp only [Act.put, List.setIfInBounds_toArray, List.set_cons_zero, List.set_cons_succ])
   refine pqo 8 (fl 16 9) (h := ?_)
   refine pqo 9 (fl 16 10) (h := ?_)
   refine pqo 10 (fl 16 11) (h := ?_)
   refine tqo hHeld 11 (fl 16 12) (h := ?_)
   refine tqo hHeld 12 (fl 16 13) (h := ?_)
   refine last_ (i := 13) (N := some 39) #[true, true, true, true, true, true, true, true, true, true, true, true, true, true, false, false] rfl rfl (by kernel_rfl) (by decide) (fun K hK => ?_)
   go_simp
   refine (HXX.out ▸ Same_calls x x A A c c _ hc (Kd.C_below HCX.out HF.out.below) hc (Kd.C_below HCX.out HF.out.below)).mono ?_
   rintro e w15 ⟨rfl, hb_⟩
   replace HF := Lib.hid (HF.out.step hb_)
   clear hb_
   refine hK.out _ _ ?_
   clear hK K
   (try simp only [Act.put, List.setIfInBounds_toArray, List.set_cons_zero, List.set_cons_succ])
   refine pqo 14 (fl 16 15) (h := ?_)
   refine pqo 15 (fl 16 16) (h := ?_)
   refine done_ (by kernel_rfl) ⟨rfl, ?_⟩
   skip
   try simp only [Act.put, List.setIfInBounds_toArray, List.set_cons_zero, List.set_cons_succ]
   go_wp2_with fail
   go_ret
   exact ⟨rfl, HF.out.below⟩
  ·go_wp2_with fail
   go_ret
   exact ⟨rfl, HF.out.below⟩
 ·go_wp2_with fail
  go_ret
  exact ⟨rfl, HF.out.below⟩
end Go.Proofs.YtbndfgoklgdfdaaGreatDoor.P
end
