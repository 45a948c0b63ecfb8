/- syntax's tests on trees: items (printed by mkchk2.py). syntax's tests on trees: whole trees (printed by mkchk2.py). syntax's tests on trees: how many nodes; Check (printed by mkchk2.py). syntax's printer: binders (printed by mkpr.py). syntax's printer: terms (printed by mkpr.py). -/
import Derived.Test.YtbndfgoklgdfdaaGreatDoorSe10
set_option linter.all false
section
set_option linter.unusedSimpArgs false
namespace Go.Proofs.YtbndfgoklgdfdaaGreatDoor.P
open Go.RowKit Go.Proofs.YtbndfgoklgdfdaaGreatDoorW.PrintWords Go.Proofs.YtbndfgoklgdfdaaGreatDoorW.PrintLast Go.Proofs.YtbndfgoklgdfdaaGreatDoorW.PrintMore
def isItemT (x : Tree) : Bool :=
 if x.f0 = 2 ∨ x.f0 = 14 then x.f1.toList == [] && (decide (0 < (x.f2.length : Int)) && x.f2.all isWordB)
 else if x.f0 = 3 then x.f1.toList == [] && (decide (1 < (x.f2.length : Int)) && (x.f2.dropLast.all isWordB && lastB isTypeT x.f2))
 else nameB x.f1 && (if x.f0 = 4 ∨ x.f0 = 5 ∨ x.f0 = 6 then decide ((x.f2.length : Int) ≤ 8) && x.f2.all isTypeT else if x.f0 = 7 then decide ((x.f2.length : Int) ≤ 8) && x.f2.all isModeB
  else if x.f0 = 8 ∨ x.f0 = 9 ∨ x.f0 = 10 ∨ x.f0 = 11 then (x.f2.length : Int) == 1 && lastB isFormT x.f2 else (x.f0 == 12 || x.f0 == 13) && (x.f2.length : Int) == 0)
theorem lastB_snoc (p : Tree → Bool) (y : Tree) : ∀ l, lastB p (l ++ [y]) = p y
 | [] => rfl
 | [x] => rfl
 | x :: z :: l => by have := lastB_snoc p y (z :: l); simpa [lastB] using this
theorem enters_isWord : Enters Tryz.prog 112 := enters_of Tryz.func112 (by kernel_rfl) rfl
theorem enters_isMode : Enters Tryz.prog 114 := enters_of Tryz.func114 (by kernel_rfl) rfl
theorem enters_isItem : Enters Tryz.prog 63 := enters_of Tryz.func63 (by kernel_rfl) rfl
set_option maxRecDepth 100000 in
set_option maxHeartbeats 16000000 in
theorem isItem_rule (k : Int) (hk : k = 8 ∨ k = 9 ∨ k = 10 ∨ k = 11) (s : ByteArray) (y : Tree) (hn : nameB s = true) (hz : szT ⟨k, s, [y]⟩ = true) : IsOn 63 isItemT ⟨k, s, [y]⟩ := by
  intro A c w hc hC
  have HPF := Lib.hid (isForm_on _ y (Nat.lt_succ_self _) (szT_mem hz (List.mem_singleton.2 rfl)))
  have HC := Lib.hid hC
  have HCC := Lib.hid hc
  have HZ : Hid (s.size ≤ strMax) := Lib.hid (szT_name hz)
  clear hC hc hz
  obtain ⟨a0, A2, c2, e0, p0, p1, p2, hl2, hc2⟩ := kid_at HC.out 0 (by first | omega | (simp; done) | (simp; omega)) y rfl
  try simp only [Nat.zero_mul, addr_add0] at p0 p1 p2
  have KP := Lib.hid (And.intro p0 (And.intro p1 p2))
  have HL2 := Lib.hid hl2
  have HK2 := Lib.hid hc2
  clear p0 p1 p2 hl2 hc2
  subst e0
  have HE : Hid (isItemT ⟨k, s, [y]⟩ = isFormT y) := Lib.hid (by rcases hk with rfl | rfl | rfl | rfl <;> simp [isItemT, hn, lastB])
  rcases hk with rfl | rfl | rfl | rfl
  all_goals
   go_enter Tryz.func63, Tryz.ntmps63
   go_wp2_with (first
    | ((with_reducible refine gate_dst (N := 1) rfl ?_); refine ev_tree (x := ⟨_, s, [y]⟩) (A := some a0) (c := c) rfl rfl rfl rfl ?_; intro b w1_ HX; obtain ⟨qa_, qb_, qc_⟩ := rd3 HX.out.at_; try dsimp only at qa_ qb_ qc_)
    | (go_at_call 113; refine (lex_IsName.calls s _ _ (isName_f s HZ.out)).mono ?_; rintro e w2_ ⟨rfl, hb_⟩; clear qa_ qb_ qc_; have HX2_ := Lib.hid (HX.out.call hb_); clear HX hb_; have HX := HX2_; clear HX2_; obtain ⟨qa_, qb_, qc_⟩ := rd3 HX.out.at_; try dsimp only at qa_ qb_ qc_; (first | rw [hn] | skip); obtain ⟨k0_, k1_, k2_⟩ : _ ∧ _ ∧ _ := ⟨pw_cell_below HX.out.below KP.out.1, pw_cell_below HX.out.below KP.out.2.1, pw_cell_below HX.out.below KP.out.2.2⟩)
    | (go_at_call 66; refine (HPF.out A2 c2 _ HL2.out (Kd.C_below HK2.out HX.out.below)).mono ?_; rintro e w6_ ⟨rfl, hb_⟩; clear qa_ qb_ qc_ k0_ k1_ k2_; have HX2_ := Lib.hid (HX.out.call hb_); clear HX hb_; have HX := HX2_; clear HX2_; obtain ⟨qa_, qb_, qc_⟩ := rd3 HX.out.at_; try dsimp only at qa_ qb_ qc_))
   go_ret
   exact ⟨by rw [HE.out]; rfl, HX.out.below⟩
set_option maxRecDepth 100000 in
set_option maxHeartbeats 16000000 in
theorem isItem_const (s : ByteArray) (pre : List Tree) (y : Tree) (hp : pre ≠ []) (he : (s.toList == ([] : List UInt8)) = true) (hz : szT ⟨3, s, pre ++ [y]⟩ = true) : IsOn 63 isItemT ⟨3, s, pre ++ [y]⟩ := by
  intro A c w hc hC
  have HPF := Lib.hid (isType_on _ y (Nat.lt_succ_self _) (szT_mem hz (show y ∈ pre ++ [y] by simp)))
  have HIH : Hid (∀ z ∈ pre, IsOn 112 isWordB z) := Lib.hid fun z hm => isWord_on (szT_name (szT_mem hz (show z ∈ pre ++ [y] by simp [hm])))
  have hpos : 0 < pre.length := List.length_pos_iff.2 hp
  have hE0 : isItemT ⟨3, s, pre ++ [y]⟩ = (pre.all isWordB && isTypeT y) := by simp [isItemT, he, lastB_snoc, List.dropLast_concat]; intro h; omega
  obtain ⟨l, hl⟩ : ∃ l, l = pre ++ [y] := ⟨_, rfl⟩
  rw [← hl] at hc hC hE0 ⊢
  have hm : (l.length : Int) = (pre.length : Int) + 1 := by rw [hl]; simp
  have hmn : l.length = pre.length + 1 := by rw [hl]; simp
  have hln : l.length ≤ 9223372036854775807 := hC.2.1
  have hcp := Kd.C_take (m := pre.length) hC (show pre.length ≤ l.length by omega)
  rw [show l.take pre.length = pre by rw [hl]; simp] at hcp
  obtain ⟨i0, hi0, _, hsz, _⟩ := info_parts info25
  have hcut := cut_to (P := Tryz.prog) 23 25 .i64 Tryz.underlying23 hi0 A l.length c (pre.length : Int) (by omega) (by omega) hc
  rw [Int.toNat_natCast] at hcut
  have HCP := Lib.hid hcp
  have HC := Lib.hid hC
  have HCC := Lib.hid hc
  have HE := Lib.hid hE0
  clear hC hc hz hcp hi0 hsz hE0
  obtain ⟨a0, A2, c2, e0, p0, p1, p2, hl2, hc2⟩ := kid_at HC.out pre.length (by first | omega | (simp; done) | (simp; omega)) y (by rw [hl]; simp)
  try simp only [Nat.zero_mul, addr_add0] at p0 p1 p2
  have KP := Lib.hid (And.intro p0 (And.intro p1 p2))
  have HL2 := Lib.hid hl2
  have HK2 := Lib.hid hc2
  clear p0 p1 p2 hl2 hc2
  subst e0
  have hm1 : (1 < (pre.length : Int) + 1) = True := eq_true (by omega)
  have hm2 : ((pre.length : Int) < (pre.length : Int) + 1) = True := eq_true (by omega)
  clear hl hmn hp hpos
  cases hw : pre.all isWordB
  all_goals
   go_enter Tryz.func63, Tryz.ntmps63
   go_wp2_with (first
    | ((with_reducible refine gate_dst (N := 1) rfl ?_); refine ev_tree (x := ⟨_, s, l⟩) (A := some a0) (c := c) rfl rfl rfl rfl ?_; intro b w1_ HX; obtain ⟨qa_, qb_, qc_⟩ := rd3 HX.out.at_; try dsimp only at qa_ qb_ qc_)
    | (go_at_call 62; refine (every_on _ enters_isWord isWordB pre HIH.out (some a0) c _ (Kd.C_below HCP.out HX.out.below)).mono ?_; rintro e w2_ ⟨rfl, hb_⟩; clear qa_ qb_ qc_; have HX2_ := Lib.hid (HX.out.call hb_); clear HX hb_; have HX := HX2_; clear HX2_; obtain ⟨qa_, qb_, qc_⟩ := rd3 HX.out.at_; try dsimp only at qa_ qb_ qc_; (first | rw [hw] | skip); obtain ⟨k0_, k1_, k2_⟩ : _ ∧ _ ∧ _ := ⟨pw_cell_below HX.out.below KP.out.1, pw_cell_below HX.out.below KP.out.2.1, pw_cell_below HX.out.below KP.out.2.2⟩)
    | (go_at_call 64; refine (HPF.out A2 c2 _ HL2.out (Kd.C_below HK2.out HX.out.below)).mono ?_; rintro e w6_ ⟨rfl, hb_⟩; clear qa_ qb_ qc_ k0_ k1_ k2_; have HX2_ := Lib.hid (HX.out.call hb_); clear HX hb_; have HX := HX2_; clear HX2_; obtain ⟨qa_, qb_, qc_⟩ := rd3 HX.out.at_; try dsimp only at qa_ qb_ qc_))
   go_ret
   exact ⟨by rw [HE.out]; first | (simp [*]; done) | (simp [*]; intro h_; omega), HX.out.below⟩
set_option maxRecDepth 100000 in
set_option maxHeartbeats 16000000 in
theorem isItem_on (x : Tree) (hz : szT x = true) : IsOn 63 isItemT x := by
  by_cases hx1 : x.f0 = 3 ∧ (x.f1.toList == ([] : List UInt8)) = true ∧ 1 < (x.f2.length : Int)
  ·obtain ⟨k, s, l⟩ := x
   obtain ⟨hk, he, hm⟩ := hx1
   dsimp only at hk he hm
   subst hk
   obtain ⟨pre, y, rfl⟩ : ∃ pre y, l = pre ++ [y] := ⟨l.dropLast, l.getLast (by intro h; rw [h] at hm; simp at hm), (List.dropLast_concat_getLast _).symm⟩
   exact isItem_const s pre y (by intro h; rw [h] at hm; simp at hm) he hz
  by_cases hx2 : (x.f0 = 8 ∨ x.f0 = 9 ∨ x.f0 = 10 ∨ x.f0 = 11) ∧ nameB x.f1 = true ∧ ((x.f2.length : Int) == 1) = true
  ·obtain ⟨k, s, l⟩ := x
   obtain ⟨hk, hn, hm⟩ := hx2
   dsimp only at hk hn hm
   obtain ⟨y, rfl⟩ := List.length_eq_one_iff.1 (show l.length = 1 by rw [beq_iff_eq] at hm; omega)
   exact isItem_rule k hk s y hn hz
  intro A c w hc hC
  have HTW : Hid (∀ y ∈ x.f2, IsOn 112 isWordB y) := Lib.hid fun y hy => isWord_on (szT_name (szT_mem hz hy))
  have HTM : Hid (∀ y ∈ x.f2, IsOn 114 isModeB y) := Lib.hid fun y hy => isMode_on (szT_name (szT_mem hz hy))
  have HTT : Hid (∀ y ∈ x.f2, IsOn 64 isTypeT y) := Lib.hid fun y hy => isType_on _ y (Nat.lt_succ_self _) (szT_mem hz hy)
  have HZT := Lib.hid hz
  have HC := Lib.hid hC
  have HCC := Lib.hid hc
  clear hC hc hz
  obtain ⟨k, s, l⟩ := x
  have HZ : Hid (s.size ≤ strMax) := Lib.hid (szT_name HZT.out)
  have HE : Hid (isItemT ⟨k, s, l⟩ = _) := Lib.hid rfl
  dsimp only at hx1 hx2
  have key : ∀ (k : Int) (e : Bool) (n : Bool) (m : Int), ¬ (k = 3 ∧ e = true ∧ 1 < m) → ¬ ((k = 8 ∨ k = 9 ∨ k = 10 ∨ k = 11) ∧ n = true ∧ (m == 1) = true) → k = 2 ∧ e = false ∨ k = 2 ∧ e = true ∧ ¬ 0 < m ∨ k = 2 ∧ e = true ∧ 0 < m ∨ k = 14 ∧ e = false ∨ k = 14 ∧ e = true ∧ ¬ 0 < m ∨ k = 14 ∧ e = true ∧ 0 < m ∨ k = 3 ∧ e = false ∨ k = 3 ∧ e = true ∧ ¬ 1 < m ∨ k = 4 ∧ n = false ∨ k = 4 ∧ n = true ∧ ¬ m ≤ 8 ∨ k = 4 ∧ n = true ∧ m ≤ 8 ∨ k = 5 ∧ n = false ∨ k = 5 ∧ n = true ∧ ¬ m ≤ 8 ∨ k = 5 ∧ n = true ∧ m ≤ 8 ∨ k = 6 ∧ n = false ∨ k = 6 ∧ n = true ∧ ¬ m ≤ 8 ∨ k = 6 ∧ n = true ∧ m ≤ 8 ∨ k = 7 ∧ n = false ∨ k = 7 ∧ n = true ∧ ¬ m ≤ 8 ∨ k = 7 ∧ n = true ∧ m ≤ 8 ∨ k = 8 ∧ n = false ∨ k = 8 ∧ n = true ∧ (m == 1) = false ∨ k = 9 ∧ n = false ∨ k = 9 ∧ n = true ∧ (m == 1) = false ∨ k = 10 ∧ n = false ∨ k = 10 ∧ n = true ∧ (m == 1) = false ∨ k = 11 ∧ n = false ∨ k = 11 ∧ n = true ∧ (m == 1) = false ∨ k = 12 ∧ n = false ∨ k = 12 ∧ n = true ∧ (m == 0) = false ∨ k = 12 ∧ n = true ∧ (m == 0) = true ∨ k = 13 ∧ n = false ∨ k = 13 ∧ n = true ∧ (m == 0) = false ∨ k = 13 ∧ n = true ∧ (m == 0) = true ∨ n = false ∧ (k == 2) = false ∧ k ≠ 2 ∧ (k == 3) = false ∧ k ≠ 3 ∧ (k == 4) = false ∧ k ≠ 4 ∧ (k == 5) = false ∧ k ≠ 5 ∧ (k == 6) = false ∧ k ≠ 6 ∧ (k == 7) = false ∧ k ≠ 7 ∧ (k == 8) = false ∧ k ≠ 8 ∧ (k == 9) = false ∧ k ≠ 9 ∧ (k == 10) = false ∧ k ≠ 10 ∧ (k == 11) = false ∧ k ≠ 11 ∧ (k == 12) = false ∧ k ≠ 12 ∧ (k == 13) = false ∧ k ≠ 13 ∧ (k == 14) = false ∧ k ≠ 14 ∨ n = true ∧ (k == 2) = false ∧ k ≠ 2 ∧ (k == 3) = false ∧ k ≠ 3 ∧ (k == 4) = false ∧ k ≠ 4 ∧ (k == 5) = false ∧ k ≠ 5 ∧ (k == 6) = false ∧ k ≠ 6 ∧ (k == 7) = false ∧ k ≠ 7 ∧ (k == 8) = false ∧ k ≠ 8 ∧ (k == 9) = false ∧ k ≠ 9 ∧ (k == 10) = false ∧ k ≠ 10 ∧ (k == 11) = false ∧ k ≠ 11 ∧ (k == 12) = false ∧ k ≠ 12 ∧ (k == 13) = false ∧ k ≠ 13 ∧ (k == 14) = false ∧ k ≠ 14 := by
   intro k e n m x1 x2
   by_cases y2 : k = 2
   ·skip
    subst y2
    cases e <;> cases n <;> simp at x1 x2 ⊢ <;> omega
   by_cases y3 : k = 3
   ·clear y2
    subst y3
    cases e <;> cases n <;> simp at x1 x2 ⊢ <;> omega
   by_cases y4 : k = 4
   ·clear y2 y3
    subst y4
    cases e <;> cases n <;> simp at x1 x2 ⊢ <;> omega
   by_cases y5 : k = 5
   ·clear y2 y3 y4
    subst y5
    cases e <;> cases n <;> simp at x1 x2 ⊢ <;> omega
   by_cases y6 : k = 6
   ·clear y2 y3 y4 y5
    subst y6
    cases e <;> cases n <;> simp at x1 x2 ⊢ <;> omega
   by_cases y7 : k = 7
   ·clear y2 y3 y4 y5 y6
    subst y7
    cases e <;> cases n <;> simp at x1 x2 ⊢ <;> omega
   by_cases y8 : k = 8
   ·clear y2 y3 y4 y5 y6 y7
    subst y8
    cases e <;> cases n <;> simp at x1 x2 ⊢ <;> omega
   by_cases y9 : k = 9
   ·clear y2 y3 y4 y5 y6 y7 y8
    subst y9
    cases e <;> cases n <;> simp at x1 x2 ⊢ <;> omega
   by_cases y10 : k = 10
   ·clear y2 y3 y4 y5 y6 y7 y8 y9
    subst y10
    cases e <;> cases n <;> simp at x1 x2 ⊢ <;> omega
   by_cases y11 : k = 11
   ·clear y2 y3 y4 y5 y6 y7 y8 y9 y10
    subst y11
    cases e <;> cases n <;> simp at x1 x2 ⊢ <;> omega
   by_cases y12 : k = 12
   ·clear y2 y3 y4 y5 y6 y7 y8 y9 y10 y11
    subst y12
    cases e <;> cases n <;> simp at x1 x2 ⊢ <;> omega
   by_cases y13 : k = 13
   ·clear y2 y3 y4 y5 y6 y7 y8 y9 y10 y11 y12
    subst y13
    cases e <;> cases n <;> simp at x1 x2 ⊢ <;> omega
   by_cases y14 : k = 14
   ·clear y2 y3 y4 y5 y6 y7 y8 y9 y10 y11 y12 y13
    subst y14
    cases e <;> cases n <;> simp at x1 x2 ⊢ <;> omega
   cases e <;> cases n <;> simp [y2, y3, y4, y5, y6, y7, y8, y9, y10, y11, y12, y13, y14]
  rcases key k (s.toList == ([] : List UInt8)) (nameB s) (l.length : Int) hx1 hx2 with ⟨rfl, he⟩ | ⟨rfl, he, hm⟩ | ⟨rfl, he, hm⟩ | ⟨rfl, he⟩ | ⟨rfl, he, hm⟩ | ⟨rfl, he, hm⟩ | ⟨rfl, he⟩ | ⟨rfl, he, hm⟩ | ⟨rfl, hn⟩ | ⟨rfl, hn, hm⟩ | ⟨rfl, hn, hm⟩ | ⟨rfl, hn⟩ | ⟨rfl, hn, hm⟩ | ⟨rfl, hn, hm⟩ | ⟨rfl, hn⟩ | ⟨rfl, hn, hm⟩ | ⟨rfl, hn, hm⟩ | ⟨rfl, hn⟩ | ⟨rfl, hn, hm⟩ | ⟨rfl, hn, hm⟩ | ⟨rfl, hn⟩ | ⟨rfl, hn, hm⟩ | ⟨rfl, hn⟩ | ⟨rfl, hn, hm⟩ | ⟨rfl, hn⟩ | ⟨rfl, hn, hm⟩ | ⟨rfl, hn⟩ | ⟨rfl, hn, hm⟩ | ⟨rfl, hn⟩ | ⟨rfl, hn, hm⟩ | ⟨rfl, hn, hm⟩ | ⟨rfl, hn⟩ | ⟨rfl, hn, hm⟩ | ⟨rfl, hn, hm⟩ | ⟨hn, g2, q2, g3, q3, g4, q4, g5, q5, g6, q6, g7, q7, g8, q8, g9, q9, g10, q10, g11, q11, g12, q12, g13, q13, g14, q14⟩ | ⟨hn, g2, q2, g3, q3, g4, q4, g5, q5, g6, q6, g7, q7, g8, q8, g9, q9, g10, q10, g11, q11, g12, q12, g13, q13, g14, q14⟩
  all_goals clear hx1 hx2
  all_goals
   go_enter Tryz.func63, Tryz.ntmps63
   go_wp2_with (first
    | ((with_reducible refine gate_dst (N := 1) rfl ?_); refine ev_tree (x := ⟨_, s, l⟩) (A := A) (c := c) rfl rfl rfl rfl ?_; intro b w1_ HX; obtain ⟨qa_, qb_, qc_⟩ := rd3 HX.out.at_; try dsimp only at qa_ qb_ qc_)
    | (go_at_call 113; refine (lex_IsName.calls s _ _ (isName_f s HZ.out)).mono ?_; rintro e w2_ ⟨rfl, hb_⟩; clear qa_ qb_ qc_; have HX2_ := Lib.hid (HX.out.call hb_); clear HX hb_; have HX := HX2_; clear HX2_; obtain ⟨qa_, qb_, qc_⟩ := rd3 HX.out.at_; try dsimp only at qa_ qb_ qc_; (first | rw [hn] | skip))
    | (go_at_call 62; refine (every_on _ enters_isWord isWordB l HTW.out A c _ (HX.out.C HC.out)).mono ?_; rintro e w2_ ⟨rfl, hb_⟩; clear qa_ qb_ qc_; have HX2_ := Lib.hid (HX.out.call hb_); clear HX hb_; have HX := HX2_; clear HX2_; obtain ⟨qa_, qb_, qc_⟩ := rd3 HX.out.at_; try dsimp only at qa_ qb_ qc_)
    | (go_at_call 62; refine (every_on _ enters_isMode isModeB l HTM.out A c _ (HX.out.C HC.out)).mono ?_; rintro e w2_ ⟨rfl, hb_⟩; clear qa_ qb_ qc_; have HX2_ := Lib.hid (HX.out.call hb_); clear HX hb_; have HX := HX2_; clear HX2_; obtain ⟨qa_, qb_, qc_⟩ := rd3 HX.out.at_; try dsimp only at qa_ qb_ qc_)
    | (go_at_call 62; refine (every_on _ enters_isType isTypeT l HTT.out A c _ (HX.out.C HC.out)).mono ?_; rintro e w2_ ⟨rfl, hb_⟩; clear qa_ qb_ qc_; have HX2_ := Lib.hid (HX.out.call hb_); clear HX hb_; have HX := HX2_; clear HX2_; obtain ⟨qa_, qb_, qc_⟩ := rd3 HX.out.at_; try dsimp only at qa_ qb_ qc_))
   go_ret
   exact ⟨by unfold isItemT; first | (simp [*]; done) | (simp [*]; intro h_; omega) | (simp [*]; omega), HX.out.below⟩
end Go.Proofs.YtbndfgoklgdfdaaGreatDoor.P
end
section
set_option linter.unusedSimpArgs false
namespace Go.Proofs.YtbndfgoklgdfdaaGreatDoor.P
open Go.RowKit Go.Proofs.YtbndfgoklgdfdaaGreatDoorW.PrintWords Go.Proofs.YtbndfgoklgdfdaaGreatDoorW.PrintLast Go.Proofs.YtbndfgoklgdfdaaGreatDoorW.PrintMore
def isTreeT (x : Tree) : Bool := if x.f0 = 1 then x.f1.toList == [] && x.f2.all isItemT else isTypeT x || (isTermT x || (isFormT x || isItemT x))
set_option maxRecDepth 100000 in
set_option maxHeartbeats 16000000 in
theorem isTree_on (x : Tree) (hz : szT x = true) : IsOn 34 isTreeT x := by
  intro A c w hc hC
  have HTI : Hid (∀ y ∈ x.f2, IsOn 63 isItemT y) := Lib.hid fun y hy => isItem_on y (szT_mem hz hy)
  have H1 := Lib.hid (isType_on _ x (Nat.lt_succ_self _) hz)
  have H2 := Lib.hid (isTerm_on _ x (Nat.lt_succ_self _) hz)
  have H3 := Lib.hid (isForm_on _ x (Nat.lt_succ_self _) hz)
  have H4 := Lib.hid (isItem_on x hz)
  have HZT := Lib.hid hz
  have HC := Lib.hid hC
  have HCC := Lib.hid hc
  clear hC hc hz
  obtain ⟨k, s, l⟩ := x
  have HZ : Hid (s.size ≤ strMax) := Lib.hid (szT_name HZT.out)
  have HE : Hid (isTreeT ⟨k, s, l⟩ = _) := Lib.hid rfl
  have key : ∀ (k : Int) (e : Bool) (t1 : Bool) (t2 : Bool) (t3 : Bool), k = 1 ∧ e = false ∨ k = 1 ∧ e = true ∨ (k == 1) = false ∧ k ≠ 1 ∧ t1 = true ∨ (k == 1) = false ∧ k ≠ 1 ∧ t1 = false ∧ t2 = true ∨ (k == 1) = false ∧ k ≠ 1 ∧ t1 = false ∧ t2 = false ∧ t3 = true ∨ (k == 1) = false ∧ k ≠ 1 ∧ t1 = false ∧ t2 = false ∧ t3 = false := by
   intro k e t1 t2 t3
   by_cases y1 : k = 1
   ·skip
    subst y1
    cases e <;> cases t1 <;> cases t2 <;> cases t3 <;> simp
   cases e <;> cases t1 <;> cases t2 <;> cases t3 <;> simp [y1]
  rcases key k (s.toList == ([] : List UInt8)) (isTypeT ⟨k, s, l⟩) (isTermT ⟨k, s, l⟩) (isFormT ⟨k, s, l⟩) with ⟨rfl, he⟩ | ⟨rfl, he⟩ | ⟨g1, q1, h1⟩ | ⟨g1, q1, h1, h2⟩ | ⟨g1, q1, h1, h2, h3⟩ | ⟨g1, q1, h1, h2, h3⟩
  all_goals
   go_enter Tryz.func34, Tryz.ntmps34
   go_wp2_with (first
    | ((with_reducible refine gate_dst (N := 1) rfl ?_); refine ev_tree (x := ⟨_, s, l⟩) (A := A) (c := c) rfl rfl rfl rfl ?_; intro b w1_ HX; obtain ⟨qa_, qb_, qc_⟩ := rd3 HX.out.at_; try dsimp only at qa_ qb_ qc_)
    | (go_at_call 62; refine (every_on _ enters_isItem isItemT l HTI.out A c _ (HX.out.C HC.out)).mono ?_; rintro e w2_ ⟨rfl, hb_⟩; clear qa_ qb_ qc_; have HX2_ := Lib.hid (HX.out.call hb_); clear HX hb_; have HX := HX2_; clear HX2_; obtain ⟨qa_, qb_, qc_⟩ := rd3 HX.out.at_; try dsimp only at qa_ qb_ qc_)
    | (go_at_call 64; refine (H1.out A c _ HCC.out (HX.out.C HC.out)).mono ?_; rintro e w2_ ⟨rfl, hb_⟩; clear qa_ qb_ qc_; have HX2_ := Lib.hid (HX.out.call hb_); clear HX hb_; have HX := HX2_; clear HX2_; obtain ⟨qa_, qb_, qc_⟩ := rd3 HX.out.at_; try dsimp only at qa_ qb_ qc_; (first | rw [h1] | skip))
    | (go_at_call 65; refine (H2.out A c _ HCC.out (HX.out.C HC.out)).mono ?_; rintro e w2_ ⟨rfl, hb_⟩; clear qa_ qb_ qc_; have HX2_ := Lib.hid (HX.out.call hb_); clear HX hb_; have HX := HX2_; clear HX2_; obtain ⟨qa_, qb_, qc_⟩ := rd3 HX.out.at_; try dsimp only at qa_ qb_ qc_; (first | rw [h2] | skip))
    | (go_at_call 66; refine (H3.out A c _ HCC.out (HX.out.C HC.out)).mono ?_; rintro e w2_ ⟨rfl, hb_⟩; clear qa_ qb_ qc_; have HX2_ := Lib.hid (HX.out.call hb_); clear HX hb_; have HX := HX2_; clear HX2_; obtain ⟨qa_, qb_, qc_⟩ := rd3 HX.out.at_; try dsimp only at qa_ qb_ qc_; (first | rw [h3] | skip))
    | (go_at_call 63; refine (H4.out A c _ HCC.out (HX.out.C HC.out)).mono ?_; rintro e w2_ ⟨rfl, hb_⟩; clear qa_ qb_ qc_; have HX2_ := Lib.hid (HX.out.call hb_); clear HX hb_; have HX := HX2_; clear HX2_; obtain ⟨qa_, qb_, qc_⟩ := rd3 HX.out.at_; try dsimp only at qa_ qb_ qc_))
   go_ret
   exact ⟨by unfold isTreeT; simp [*], HX.out.below⟩
end Go.Proofs.YtbndfgoklgdfdaaGreatDoor.P
end
section
set_option linter.unusedSimpArgs false
namespace Go.Proofs.YtbndfgoklgdfdaaGreatDoor.P
open Go.RowKit Go.Proofs.YtbndfgoklgdfdaaGreatDoorW.PrintWords Go.Proofs.YtbndfgoklgdfdaaGreatDoorW.PrintLast Go.Proofs.YtbndfgoklgdfdaaGreatDoorW.PrintMore
mutual
def cntT : Tree → Int → Int
 | ⟨_, _, l⟩, s => cntL l (s + 1)
def cntL : List Tree → Int → Int
 | [], s => s
 | x :: l, s => if s ≤ 4000 then cntL l (cntT x s) else s
end
theorem cntL_stop (l : List Tree) (s : Int) (h : ¬ s ≤ 4000) : cntL l s = s := by cases l <;> simp [cntL, h]
mutual
theorem cntT_le : ∀ (x : Tree) (s : Int), s ≤ 4000 → s + 1 ≤ cntT x s ∧ cntT x s ≤ 4001
 | ⟨_, _, l⟩, s, h => by rw [cntT]; exact cntL_le l (s + 1) (by omega)
theorem cntL_le : ∀ (l : List Tree) (s : Int), s ≤ 4001 → s ≤ cntL l s ∧ cntL l s ≤ 4001
 | [], s, h => by rw [cntL]; omega
 | x :: l, s, h => by
  rw [cntL]
  by_cases h1 : s ≤ 4000
  ·rw [if_pos h1]
   have h2 := cntT_le x s h1
   have h3 := cntL_le l (cntT x s) h2.2
   omega
  ·rw [if_neg h1]; omega
end
set_option maxRecDepth 100000 in
set_option maxHeartbeats 8000000 in
theorem cnt_on : ∀ (n : Nat) (x : Tree) (s : Int), SizeOf.sizeOf x < n → 0 ≤ s → s ≤ 4000 → ∀ (A : Option Addr) (c : Nat) (w : World), x.f2.length ≤ c → Kd.C k25 w A x.f2.length x.f2 →
  Calls Tryz.prog 32 #[.agg #[.int .i64 x.f0, .string x.f1, .slice A x.f2.length c], .int .i64 s] w fun e w' => e = .returned (.int .i64 (cntT x s)) ∧ Below w.heap.size w w'
 | 0, _, _, h, _, _ => absurd h (Nat.not_lt_zero _)
 | n + 1, ⟨k, nm, l⟩, s, hn, h0, h1 => by
  intro A c w hc hC
  have HIH : Hid (∀ y ∈ l, ∀ (s : Int), 0 ≤ s → s ≤ 4000 → ∀ (A : Option Addr) (c : Nat) (w : World), y.f2.length ≤ c → Kd.C k25 w A y.f2.length y.f2 → Calls Tryz.prog 32 #[.agg #[.int .i64 y.f0, .string y.f1, .slice A y.f2.length c], .int .i64 s] w fun e w' => e = .returned (.int .i64 (cntT y s)) ∧ Below w.heap.size w w') :=
   Lib.hid (fun y hy s h0 h1 => cnt_on n y s (by have := kid_lt (x := ⟨k, nm, l⟩) hy; omega) h0 h1)
  obtain ⟨R, hR⟩ : ∃ R, R = cntT ⟨k, nm, l⟩ s := ⟨_, rfl⟩
  rw [← hR]
  rw [cntT] at hR
  have HR := Lib.hid hR
  have HC := Lib.hid hC
  dsimp only at hc
  have hln : l.length ≤ 9223372036854775807 := hC.2.1
  have hw_ : wrap64 (s + 1) = s + 1 := by unfold wrap64; omega
  clear hC hR hn
  go_enter Tryz.func32, Tryz.ntmps32
  go_wp2_with ((with_reducible refine gate_dst (N := 2) rfl ?_); refine ev_tree (x := ⟨k, nm, l⟩) (A := A) (c := c) rfl rfl rfl rfl ?_; intro b w1 HX)
  go_loopw [1, 5] (fun sm i wr => ∃ (j : Nat) (z : Int), sm = .int .i64 z ∧ i = .int .i64 j ∧ j ≤ l.length ∧ (j : Int) ≤ z ∧ z ≤ 4001 ∧ Hid (cntL (l.drop j) z = R) ∧ Hid (Bw w wr b ⟨k, nm, l⟩ A c)) (fun _ i _ => l.length - (intOf i).toNat)
  case atStart => exact ⟨0, s + 1, by first | rfl | (rw [hw_]; rfl) | (simp; omega) | (simp [hw_]), rfl, Nat.zero_le _, by simp; omega, by omega, Lib.hid HR.out.symm, HX⟩
  case round =>
   clear HX HR hw_
   obtain ⟨j, z, rfl, rfl, hj, hz0, hz1, HR, HX⟩ := hrel
   obtain ⟨qa, qb, qc⟩ := rd3 HX.out.at_
   dsimp only at qa qb qc
   by_cases hlt : j < l.length
   ·by_cases hz : z ≤ 4000
    ·obtain ⟨a0, A2, c2, e0, p0, p1, p2, hl2, hc2⟩ := at_T25 HC.out j (by omega) (by omega)
     subst e0
     obtain ⟨y, hy⟩ : ∃ y, y = rd_T25 l j := ⟨_, rfl⟩
     have hdr := rdN_drop l j hlt
     have hmem := rdN_mem l j hlt
     rw [← hy] at p0 p1 p2 hl2 hc2 hdr hmem
     rw [Int.toNat_natCast] at p0 p1 p2
     have hR := HR.out
     rw [hdr, cntL, if_pos hz] at hR
     have hle := cntT_le y z hz
     have HR2 := Lib.hid hR
     have HY := Lib.hid (HIH.out y hmem)
     have HL2 := Lib.hid hl2
     have HC2 := Lib.hid hc2
     replace p0 := pw_cell_below HX.out.below p0
     replace p1 := pw_cell_below HX.out.below p1
     replace p2 := pw_cell_below HX.out.below p2
     clear hR hdr hmem hy hl2 hc2 HR
     go_wp2_with (go_at_call 32; refine (HY.out z (by omega) hz A2 c2 _ HL2.out (Kd.C_below HC2.out HX.out.below)).mono ?_; rintro e w2 ⟨rfl, hb⟩; clear qa qb qc p0 p1 p2; have HX2 := Lib.hid (HX.out.call hb); clear HX hb; have HX := HX2; clear HX2)
     go_roundw
     case rel => exact ⟨j + 1, cntT y z, rfl, by go_num, by omega, by omega, by omega, HR2, HX⟩
     case measure => simp [intOf]; omega
    ·have hR := HR.out
     rw [cntL_stop _ _ hz] at hR
     subst hR
     go_wp2_with fail
     go_ret
     exact ⟨rfl, HX.out.below⟩
   ·have hR := HR.out
    rw [List.drop_of_length_le (by omega), cntL] at hR
    subst hR
    go_wp2_with fail
    go_ret
    exact ⟨rfl, HX.out.below⟩
theorem count_on (x : Tree) (A : Option Addr) (c : Nat) (w : World) (hc : x.f2.length ≤ c) (hC : Kd.C k25 w A x.f2.length x.f2) :
  Calls Tryz.prog 32 #[.agg #[.int .i64 x.f0, .string x.f1, .slice A x.f2.length c], .int .i64 0] w fun e w' => e = .returned (.int .i64 (cntT x 0)) ∧ Below w.heap.size w w' :=
 cnt_on _ x 0 (Nat.lt_succ_self _) (by omega) (by omega) A c w hc hC
/-- syntax.Check. -/
def checkT (x : Tree) : Int := if 4000 < cntT x 0 then 2 else if deepN 100 x then 5 else if isTreeT x then 0 else 21
set_option maxRecDepth 100000 in
set_option maxHeartbeats 16000000 in
theorem check_on (x : Tree) (hz : szT x = true) (A : Option Addr) (c : Nat) (w : World) (hc : x.f2.length ≤ c) (hC : Kd.C k25 w A x.f2.length x.f2) :
  Calls Tryz.prog 10 #[.agg #[.int .i64 x.f0, .string x.f1, .slice A x.f2.length c]] w fun e w' => e = .returned (.int .i64 (checkT x)) ∧ Below w.heap.size w w' := by
  have H1 : Hid (∀ A c w, x.f2.length ≤ c → Kd.C k25 w A x.f2.length x.f2 → _) := Lib.hid (fun A c w => count_on x A c w)
  have H2 := Lib.hid (deeper_any 100 (by omega) x)
  have H3 := Lib.hid (isTree_on x hz)
  have HC := Lib.hid hC
  have HCC := Lib.hid hc
  clear hC hc hz
  have key : ∀ (b : Prop) [Decidable b] (d t : Bool), (b = True) ∨ (b = False) ∧ d = true ∨ (b = False) ∧ d = false ∧ t = true ∨ (b = False) ∧ d = false ∧ t = false := by
   intro b _ d t
   by_cases b <;> cases d <;> cases t <;> simp [*]
  rcases key (4000 < cntT x 0) (deepN 100 x) (isTreeT x) with h1 | ⟨h1, h2⟩ | ⟨h1, h2, h3⟩ | ⟨h1, h2, h3⟩
  all_goals
   go_enter Tryz.func10, Tryz.ntmps10
   go_wp2_with (first
    | ((with_reducible refine gate_dst (N := 1) rfl ?_); refine ev_tree (x := x) (A := A) (c := c) rfl rfl rfl rfl ?_; intro b w1_ HX; obtain ⟨qa_, qb_, qc_⟩ := rd3 HX.out.at_; try dsimp only at qa_ qb_ qc_)
    | (go_at_call 32; refine (H1.out A c _ HCC.out (HX.out.C HC.out)).mono ?_; rintro e w2_ ⟨rfl, hb_⟩; clear qa_ qb_ qc_; have HX2_ := Lib.hid (HX.out.call hb_); clear HX hb_; have HX := HX2_; clear HX2_; obtain ⟨qa_, qb_, qc_⟩ := rd3 HX.out.at_; try dsimp only at qa_ qb_ qc_)
    | (go_at_call 33; refine (H2.out A c _ HCC.out (HX.out.C HC.out)).mono ?_; rintro e w2_ ⟨rfl, hb_⟩; clear qa_ qb_ qc_; have HX2_ := Lib.hid (HX.out.call hb_); clear HX hb_; have HX := HX2_; clear HX2_; obtain ⟨qa_, qb_, qc_⟩ := rd3 HX.out.at_; try dsimp only at qa_ qb_ qc_; (first | rw [h2] | skip))
    | (go_at_call 34; refine (H3.out A c _ HCC.out (HX.out.C HC.out)).mono ?_; rintro e w2_ ⟨rfl, hb_⟩; clear qa_ qb_ qc_; have HX2_ := Lib.hid (HX.out.call hb_); clear HX hb_; have HX := HX2_; clear HX2_; obtain ⟨qa_, qb_, qc_⟩ := rd3 HX.out.at_; try dsimp only at qa_ qb_ qc_; (first | rw [h3] | skip)))
   go_ret
   exact ⟨by unfold checkT; simp [*], HX.out.below⟩
end Go.Proofs.YtbndfgoklgdfdaaGreatDoor.P
end
section
set_option linter.unusedSimpArgs false
namespace Go.Proofs.YtbndfgoklgdfdaaGreatDoor.P
open Go.RowKit Go.Proofs.YtbndfgoklgdfdaaGreatDoorW.PrintWords Go.Proofs.YtbndfgoklgdfdaaGreatDoorW.PrintLast Go.Proofs.YtbndfgoklgdfdaaGreatDoorW.PrintMore
/-- What stands behind a binder's sign: its name, its type, its body's text. -/
def binderS (s : ByteArray) (l : List Tree) (body : List UInt8) : List UInt8 := s.data.toList ++ ((match l with | [t, _] => [58, 32] ++ typeS t | _ => []) ++ ([46, 32] ++ body))
set_option maxRecDepth 100000 in
set_option maxHeartbeats 8000000 in
theorem binder1_writes (F : FuncId) (hF : Enters Tryz.prog F) (first caps : Array Value) (k : Int) (s : ByteArray) (y : Tree) (body : List UInt8) (w : World) (ts : List Th) (g : Nat) (A : Option Addr) (c : Nat) (hc : [y].length ≤ c) (hC : Kd.C k25 w A [y].length [y])
  (hb : ∀ (b4 : Nat) (A2 : Option Addr) (c2 : Nat), y.f2.length ≤ c2 → Kd.C k25 w A2 y.f2.length y.f2 → Writes F (first ++ #[.agg (tN y A2 c2)] ++ caps) w (vT b4 25 (tN ⟨k, s, [y]⟩ A c) :: ts) g body) :
  Writes 130 #[.pointer (some ⟨g, 0, none⟩), .agg (tN ⟨k, s, [y]⟩ A c), .func (.func F) first caps] w ts g (binderS s [y] body) := by
 intro W ok bs HF hlen
 have hT : binderS s [y] body = s.data.toList ++ ([46, 32] ++ body) := by simp [binderS]
 rw [hT] at hlen ⊢
 clear hT
 have HL := Lib.hid hlen
 obtain ⟨a0Y, AY, cY, e0Y, p0, p1, p2, hl2, hc2⟩ := kid_at hC 0 (by simp) y rfl
 try simp only [Nat.zero_mul, Nat.one_mul, addr_add0, addr_add3] at p0 p1 p2
 have KY := Lib.hid (And.intro p0 (And.intro p1 p2))
 have HLY := Lib.hid hl2
 have HCY := Lib.hid hc2
 clear p0 p1 p2 hl2 hc2
 subst e0Y
 have hcf_ : ∀ (args : Array Value) (w : World), (callFunc F args).run Tryz.prog w = .ok (.enter F args) w := hF
 have HBD := Lib.hid hb
 clear hlen hb hC hc hF
 go_enter Tryz.func130, Tryz.ntmps130
 go_wp2_with (first
  | ((with_reducible refine gate_dst (N := 4) rfl ?_); refine ez_box (t := 25) (cs := (tN ⟨k, s, [y]⟩ (some a0Y) c)) HF rfl rfl (run_tree rfl rfl) ?_; clear HF; intro b4 w18 HF))
 go_wp2_with fail
 replace HF := Lib.hid HF.out.drew
 refine wp_only ?_
 refine start_ (n := 6) (S := (fun w' => True ∧ w'.cell? (⟨b4, 1, none⟩) = some (.string s))) (ds := [5]) #[false, false, false, false, false, false] (by kernel_rfl) rfl rfl ?_ (fun hHeld => ?_)
 ·exact ⟨trivial, (blk_cell HF.out.b0 1).trans rfl⟩
 refine pq 0 (fl 6 1) (h := ?_)
 refine pq 1 (fl 6 2) (h := ?_)
 refine pq 2 (fl 6 3) (h := ?_)
 refine pq 3 (fl 6 4) (h := ?_)
 refine tq hHeld 4 (fl 6 5) (h := ?_)
 refine last_ (i := 5) (N := some 11) #[true, true, true, true, true, true] rfl rfl (by kernel_rfl) (by decide) (fun K hK => ?_)
 go_simp
 replace HF := Lib.hid HF.out.swap
 refine (ws_on _ _ _ _ _ _ s HF (by have := HL.out; have e_ : outMax = 140737488355328 := rfl; simp [Array.length_toList] at this ⊢; omega)).mono ?_
 rintro e w19 ⟨rfl, oko20, HFn⟩
 clear HF
 have HF := HFn
 clear HFn
 refine hK.out _ _ ?_
 clear hK K
 (try simp only [Act.put, List.setIfInBounds_toArray, List.set_cons_zero, List.set_cons_succ])
 refine done_ (by kernel_rfl) ⟨rfl, ?_⟩
 skip
 try simp only [Act.put, List.setIfInBounds_toArray, List.set_cons_zero, List.set_cons_succ]
 have q21 := (blk_cell HF.out.b1 2).trans rfl
 go_wp2_with fail
 refine (ws_lit [46, 32] HF (by have := HL.out; simp at this ⊢; omega)).mono ?_
 rintro e w22 ⟨rfl, oko23, HFn⟩
 clear HF; clear q21
 have HF := HFn
 clear HFn
 have q24 := (blk_cell HF.out.b1 2).trans rfl
 have q25 := pw_cell_below HF.out.below KY.out.1
 have q26 := pw_cell_below HF.out.below KY.out.2.1
 have q27 := pw_cell_below HF.out.below KY.out.2.2
 go_wp2_with fail
 refine (HBD.out b4 AY cY HLY.out HCY.out _ _ _ HF (by have := HL.out; simp at this ⊢; omega)).mono ?_
 rintro e w28 ⟨rfl, oko29, HFn⟩
 clear HF; clear q24 q25 q26 q27
 have HF := HFn
 clear HFn
 go_wp2_with fail
 go_end0
 replace HF := Lib.hid HF.out.swap
 replace HF := Lib.hid HF.out.lose
 exact ⟨rfl, _, by simpa only [List.append_assoc, List.cons_append, List.nil_append] using HF⟩
set_option maxRecDepth 100000 in
set_option maxHeartbeats 8000000 in
theorem binder2_writes (F : FuncId) (hF : Enters Tryz.prog F) (first caps : Array Value) (k : Int) (s : ByteArray) (t y : Tree) (ht : isTypeT t = true) (body : List UInt8) (w : World) (ts : List Th) (g : Nat) (A : Option Addr) (c : Nat) (hc : [t, y].length ≤ c) (hC : Kd.C k25 w A [t, y].length [t, y])
  (hb : ∀ (b4 : Nat) (A2 : Option Addr) (c2 : Nat), y.f2.length ≤ c2 → Kd.C k25 w A2 y.f2.length y.f2 → Writes F (first ++ #[.agg (tN y A2 c2)] ++ caps) w (vT b4 25 (tN ⟨k, s, [t, y]⟩ A c) :: ts) g body) :
  Writes 130 #[.pointer (some ⟨g, 0, none⟩), .agg (tN ⟨k, s, [t, y]⟩ A c), .func (.func F) first caps] w ts g (binderS s [t, y] body) := by
 intro W ok bs HF hlen
 have hT : binderS s [t, y] body = s.data.toList ++ ([58, 32] ++ (typeS t ++ ([46, 32] ++ body))) := by simp [binderS]
 rw [hT] at hlen ⊢
 clear hT
 have HL := Lib.hid hlen
 obtain ⟨a0T, AT, cT, e0T, p0, p1, p2, hl2, hc2⟩ := kid_at hC 0 (by simp) t rfl
 try simp only [Nat.zero_mul, Nat.one_mul, addr_add0, addr_add3] at p0 p1 p2
 have KT := Lib.hid (And.intro p0 (And.intro p1 p2))
 have HLT := Lib.hid hl2
 have HCT := Lib.hid hc2
 clear p0 p1 p2 hl2 hc2
 obtain ⟨a0Y, AY, cY, e0Y, p0, p1, p2, hl2, hc2⟩ := kid_at hC 1 (by simp) y rfl
 try simp only [Nat.zero_mul, Nat.one_mul, addr_add0, addr_add3] at p0 p1 p2
 have KY := Lib.hid (And.intro p0 (And.intro p1 p2))
 have HLY := Lib.hid hl2
 have HCY := Lib.hid hc2
 clear p0 p1 p2 hl2 hc2
 subst e0T
 have e1_ : a0T = a0Y := Option.some.inj e0Y
 clear e0Y
 subst e1_
 have hcf_ : ∀ (args : Array Value) (w : World), (callFunc F args).run Tryz.prog w = .ok (.enter F args) w := hF
 have HBD := Lib.hid hb
 have HTY := Lib.hid (typ_writes _ t (Nat.lt_succ_self _) ht)
 clear hlen hb hC hc hF
 go_enter Tryz.func130, Tryz.ntmps130
 go_wp2_with (first
  | ((with_reducible refine gate_dst (N := 4) rfl ?_); refine ez_box (t := 25) (cs := (tN ⟨k, s, [t, y]⟩ (some a0T) c)) HF rfl rfl (run_tree rfl rfl) ?_; clear HF; intro b4 w30 HF))
 go_wp2_with fail
 replace HF := Lib.hid HF.out.drew
 refine wp_only ?_
 refine start_ (n := 6) (S := (fun w' => True ∧ w'.cell? (⟨b4, 1, none⟩) = some (.string s))) (ds := [5]) #[false, false, false, false, false, false] (by kernel_rfl) rfl rfl ?_ (fun hHeld => ?_)
 ·exact ⟨trivial, (blk_cell HF.out.b0 1).trans rfl⟩
 refine pq 0 (fl 6 1) (h := ?_)
 refine pq 1 (fl 6 2) (h := ?_)
 refine pq 2 (fl 6 3) (h := ?_)
 refine pq 3 (fl 6 4) (h := ?_)
 refine tq hHeld 4 (fl 6 5) (h := ?_)
 refine last_ (i := 5) (N := some 11) #[true, true, true, true, true, true] rfl rfl (by kernel_rfl) (by decide) (fun K hK => ?_)
 go_simp
 replace HF := Lib.hid HF.out.swap
 refine (ws_on _ _ _ _ _ _ s HF (by have := HL.out; have e_ : outMax = 140737488355328 := rfl; simp [Array.length_toList] at this ⊢; omega)).mono ?_
 rintro e w31 ⟨rfl, oko32, HFn⟩
 clear HF
 have HF := HFn
 clear HFn
 refine hK.out _ _ ?_
 clear hK K
 (try simp only [Act.put, List.setIfInBounds_toArray, List.set_cons_zero, List.set_cons_succ])
 refine done_ (by kernel_rfl) ⟨rfl, ?_⟩
 skip
 try simp only [Act.put, List.setIfInBounds_toArray, List.set_cons_zero, List.set_cons_succ]
 have q33 := (blk_cell HF.out.b1 2).trans rfl
 go_wp2_with fail
 refine (ws_lit [58, 32] HF (by have := HL.out; simp at this ⊢; omega)).mono ?_
 rintro e w34 ⟨rfl, oko35, HFn⟩
 clear HF; clear q33
 have HF := HFn
 clear HFn
 have q36 := (blk_cell HF.out.b1 2).trans rfl
 have q37 := pw_cell_below HF.out.below KT.out.1
 have q38 := pw_cell_below HF.out.below KT.out.2.1
 have q39 := pw_cell_below HF.out.below KT.out.2.2
 go_wp2_with fail
 refine (HTY.out w _ g AT cT HLT.out HCT.out _ _ _ HF (by have := HL.out; simp at this ⊢; omega)).mono ?_
 rintro e w40 ⟨rfl, oko41, HFn⟩
 clear HF; clear q36 q37 q38 q39
 have HF := HFn
 clear HFn
 go_wp2_with fail
 refine (ws_lit [46, 32] HF (by have := HL.out; simp at this ⊢; omega)).mono ?_
 rintro e w42 ⟨rfl, oko43, HFn⟩
 clear HF
 have HF := HFn
 clear HFn
 have q44 := (blk_cell HF.out.b1 2).trans rfl
 have q45 := pw_cell_below HF.out.below KY.out.1
 have q46 := pw_cell_below HF.out.below KY.out.2.1
 have q47 := pw_cell_below HF.out.below KY.out.2.2
 go_wp2_with fail
 refine (HBD.out b4 AY cY HLY.out HCY.out _ _ _ HF (by have := HL.out; simp at this ⊢; omega)).mono ?_
 rintro e w48 ⟨rfl, oko49, HFn⟩
 clear HF; clear q44 q45 q46 q47
 have HF := HFn
 clear HFn
 go_wp2_with fail
 go_end0
 replace HF := Lib.hid HF.out.swap
 replace HF := Lib.hid HF.out.lose
 exact ⟨rfl, _, by simpa only [List.append_assoc, List.cons_append, List.nil_append] using HF⟩
end Go.Proofs.YtbndfgoklgdfdaaGreatDoor.P
end
section
set_option linter.unusedSimpArgs false
namespace Go.Proofs.YtbndfgoklgdfdaaGreatDoor.P
open Go.RowKit Go.Proofs.YtbndfgoklgdfdaaGreatDoorW.PrintWords Go.Proofs.YtbndfgoklgdfdaaGreatDoorW.PrintLast Go.Proofs.YtbndfgoklgdfdaaGreatDoorW.PrintMore
/-- Does a term stand in parentheses as an argument? -/
def parB (x : Tree) : Bool := x.f0 == 17 || decide (0 < x.f2.length)
mutual
def termS : Tree → List UInt8
 | ⟨k, s, l⟩ => if k = 17 then [92] ++ binderS s l (termSE l) else s.data.toList ++ termSL l
def termSL : List Tree → List UInt8
 | [] => []
 | x :: l => [32] ++ ((if parB x = true then [40] ++ (termS x ++ [41]) else termS x) ++ termSL l)
def termSE : List Tree → List UInt8
 | [] => []
 | y :: l => if l.isEmpty then termS y else termSE l
end
theorem term_kids {k : Int} {s : ByteArray} {l : List Tree} (h : isTermT ⟨k, s, l⟩ = true) (hk : k ≠ 17) : ∀ y ∈ l, isTermT y = true := by
 rw [isTermT_eq] at h
 by_cases h1 : k = 15
 ·rw [if_pos h1] at h; simp at h; exact h.2.2
 ·rw [if_neg h1] at h
  by_cases h2 : k = 16
  ·rw [if_pos h2] at h; simp at h; exact h.2.2
  ·rw [if_neg h2, if_neg hk] at h; cases h
theorem binds_kids {p : Tree → Bool} {k : Int} {s : ByteArray} {l : List Tree} (h : bindsB p ⟨k, s, l⟩ = true) : (∃ y, l = [y] ∧ p y = true) ∨ ∃ t y, l = [t, y] ∧ isTypeT t = true ∧ p y = true := by
 rw [bindsB_eq] at h
 rcases l with _ | ⟨a, _ | ⟨b, _ | ⟨c, l⟩⟩⟩ <;> simp [headB, lastB] at h
 ·exact .inl ⟨a, rfl, h.2⟩
 ·exact .inr ⟨a, b, rfl, h.2.1, h.2.2⟩
theorem term_body {s : ByteArray} {l : List Tree} (h : isTermT ⟨17, s, l⟩ = true) : (∃ y, l = [y] ∧ isTermT y = true) ∨ ∃ t y, l = [t, y] ∧ isTypeT t = true ∧ isTermT y = true := by
 rw [isTermT_eq] at h
 exact binds_kids (k := 17) (s := s) (by simpa using h)
set_option maxRecDepth 100000 in
set_option maxHeartbeats 8000000 in
theorem term1_writes (x z : Tree) (A2 A : Option Addr) (c2 c : Nat) (w : World) (ts : List Th) (g b2 b3 b5 : Nat) (t : List UInt8)
  (h : Writes 96 #[.pointer (some ⟨g, 0, none⟩), .agg (tN x A2 c2)] w (vT b5 25 (tN x A2 c2) :: vT b3 25 (tN z A c) :: vT b2 100 #[.pointer (some ⟨g, 0, none⟩)] :: ts) g t) :
  Writes 131 #[.pointer (some ⟨b2, 0, none⟩), .pointer (some ⟨b5, 0, none⟩)] w (vT b5 25 (tN x A2 c2) :: vT b3 25 (tN z A c) :: vT b2 100 #[.pointer (some ⟨g, 0, none⟩)] :: ts) g t := by
 intro W ok bs HF hlen
 have HL := Lib.hid hlen
 have HH := Lib.hid h
 clear hlen h
 have q50 := (blk_cell HF.out.b3 0).trans rfl
 obtain ⟨q51a, q51b, q51c⟩ := rd3 HF.out.b1
 go_enter Tryz.func131, Tryz.ntmps131
 go_wp2_with fail
 refine (HH.out _ _ _ HF (HL.out)).mono ?_
 rintro e w52 ⟨rfl, oko53, HFn⟩
 clear HF; clear q50 q51a q51b q51c
 have HF := HFn
 clear HFn
 go_wp2_with fail
 go_end0
 exact ⟨rfl, _, HF⟩
set_option maxRecDepth 100000 in
set_option maxHeartbeats 8000000 in
theorem term_writes : ∀ (n : Nat) (x : Tree), SizeOf.sizeOf x < n → isTermT x = true → ∀ (w : World) (ts : List Th) (g : Nat) (A : Option Addr) (c : Nat), x.f2.length ≤ c → Kd.C k25 w A x.f2.length x.f2 → Writes 96 #[.pointer (some ⟨g, 0, none⟩), .agg (tN x A c)] w ts g (termS x)
 | 0, x, h, _ => absurd h (Nat.not_lt_zero _)
 | n + 1, x, hn, ht0 => by
  intro w ts g A c hc hC
  obtain ⟨k, s, l⟩ := x
  by_cases hk : k = 17
  ·subst hk
   rcases term_body ht0 with ⟨y, rfl, hy⟩ | ⟨t, y, rfl, ht, hy⟩
   ·have hT : termS ⟨17, s, [y]⟩ = [92] ++ binderS s [y] (termS y) := by simp [termS, termSE]
    have HY := Lib.hid (term_writes n y (by simp at hn ⊢; omega) hy)
    have HQ : Hid (∀ (w : World) (ts : List Th) (g : Nat), Kd.C k25 w A [y].length [y] → Writes 130 #[.pointer (some ⟨g, 0, none⟩), .agg (tN ⟨17, s, [y]⟩ A c), .func (.func 96) #[.pointer (some ⟨g, 0, none⟩)] #[]] w ts g (binderS s [y] (termS y))) := Lib.hid (fun w ts g hC => binder1_writes _ (enters_of Tryz.func96 (by kernel_rfl) rfl) #[.pointer (some ⟨g, 0, none⟩)] #[] 17 s y (termS y) w ts g A c hc hC (fun b4 A2 c2 h1 h2 => HY.out w _ g A2 c2 h1 h2))
    have HC := Lib.hid hC
    intro W ok bs HF hlen
    rw [hT] at hlen ⊢
    have HL := Lib.hid hlen
    clear hlen hT hn ht0 hy hC hc
    go_enter Tryz.func96, Tryz.ntmps96
    go_wp2_with (first
     | ((with_reducible refine gate_dst (N := 2) rfl ?_); refine ez_box (t := 100) (cs := #[.pointer (some ⟨g, 0, none⟩)]) HF rfl rfl (run_pr rfl rfl) ?_; clear HF; intro b2 w54 HF)
     | ((with_reducible refine gate_dst (N := 3) rfl ?_); refine ez_box (t := 25) (cs := (tN ⟨17, s, [y]⟩ A c)) HF rfl rfl (run_tree rfl rfl) ?_; clear HF; intro b3 w55 HF; obtain ⟨q56a, q56b, q56c⟩ := rd3 HF.out.b0; have q57 := (blk_cell HF.out.b1 0).trans rfl))
    replace HF := Lib.hid HF.out.up3
    refine (ws_lit [92] HF (by have := HL.out; simp at this ⊢; omega)).mono ?_
    rintro e w58 ⟨rfl, oko59, HFn⟩
    clear HF; clear q56a q56b q56c q57
    have HF := HFn
    clear HFn
    have q60 := (blk_cell HF.out.b2 0).trans rfl
    obtain ⟨q61a, q61b, q61c⟩ := rd3 HF.out.b1
    go_wp2_with fail
    refine (HQ.out w _ g HC.out _ _ _ HF (by have := HL.out; simp at this ⊢; omega)).mono ?_
    rintro e w62 ⟨rfl, oko63, HFn⟩
    clear HF; clear q60 q61a q61b q61c
    have HF := HFn
    clear HFn
    go_wp2_with fail
    refine bodyPost_ret (v := .tuple #[]) (results_none rfl _ _ _) rfl ?_
    replace HF := Lib.hid HF.out.swap
    replace HF := Lib.hid HF.out.lose
    replace HF := Lib.hid HF.out.swap
    replace HF := Lib.hid HF.out.lose
    exact ⟨rfl, _, by simpa only [List.append_assoc, List.cons_append, List.nil_append] using HF⟩
   ·have hT : termS ⟨17, s, [t, y]⟩ = [92] ++ binderS s [t, y] (termS y) := by simp [termS, termSE]
    have HY := Lib.hid (term_writes n y (by simp at hn ⊢; omega) hy)
    have HQ : Hid (∀ (w : World) (ts : List Th) (g : Nat), Kd.C k25 w A [t, y].length [t, y] → Writes 130 #[.pointer (some ⟨g, 0, none⟩), .agg (tN ⟨17, s, [t, y]⟩ A c), .func (.func 96) #[.pointer (some ⟨g, 0, none⟩)] #[]] w ts g (binderS s [t, y] (termS y))) := Lib.hid (fun w ts g hC => binder2_writes _ (enters_of Tryz.func96 (by kernel_rfl) rfl) #[.pointer (some ⟨g, 0, none⟩)] #[] 17 s t y ht (termS y) w ts g A c hc hC (fun b4 A2 c2 h1 h2 => HY.out w _ g A2 c2 h1 h2))
    have HC := Lib.hid hC
    intro W ok bs HF hlen
    rw [hT] at hlen ⊢
    have HL := Lib.hid hlen
    clear hlen hT hn ht0 hy hC hc ht
    go_enter Tryz.func96, Tryz.ntmps96
    go_wp2_with (first
     | ((with_reducible refine gate_dst (N := 2) rfl ?_); refine ez_box (t := 100) (cs := #[.pointer (some ⟨g, 0, none⟩)]) HF rfl rfl (run_pr rfl rfl) ?_; clear HF; intro b2 w64 HF)
     | ((with_reducible refine gate_dst (N := 3) rfl ?_); refine ez_box (t := 25) (cs := (tN ⟨17, s, [t, y]⟩ A c)) HF rfl rfl (run_tree rfl rfl) ?_; clear HF; intro b3 w65 HF; obtain ⟨q66a, q66b, q66c⟩ := rd3 HF.out.b0; have q67 := (blk_cell HF.out.b1 0).trans rfl))
    replace HF := Lib.hid HF.out.up3
    refine (ws_lit [92] HF (by have := HL.out; simp at this ⊢; omega)).mono ?_
    rintro e w68 ⟨rfl, oko69, HFn⟩
    clear HF; clear q66a q66b q66c q67
    have HF := HFn
    clear HFn
    have q70 := (blk_cell HF.out.b2 0).trans rfl
    obtain ⟨q71a, q71b, q71c⟩ := rd3 HF.out.b1
    go_wp2_with fail
    refine (HQ.out w _ g HC.out _ _ _ HF (by have := HL.out; simp at this ⊢; omega)).mono ?_
    rintro e w72 ⟨rfl, oko73, HFn⟩
    clear HF; clear q70 q71a q71b q71c
    have HF := HFn
    clear HFn
    go_wp2_with fail
    refine bodyPost_ret (v := .tuple #[]) (results_none rfl _ _ _) rfl ?_
    replace HF := Lib.hid HF.out.swap
    replace HF := Lib.hid HF.out.lose
    replace HF := Lib.hid HF.out.swap
    replace HF := Lib.hid HF.out.lose
    exact ⟨rfl, _, by simpa only [List.append_assoc, List.cons_append, List.nil_append] using HF⟩
  ·have hkids := term_kids ht0 hk
   have hT : termS ⟨k, s, l⟩ = s.data.toList ++ termSL l := by rw [termS, if_neg hk]
   have hke : (k == 17) = false := beq_eq_false_iff_ne.2 hk
   have HIH : Hid (∀ y ∈ l, ∀ (w : World) (ts : List Th) (g : Nat) (A : Option Addr) (c : Nat), y.f2.length ≤ c → Kd.C k25 w A y.f2.length y.f2 → Writes 96 #[.pointer (some ⟨g, 0, none⟩), .agg (tN y A c)] w ts g (termS y)) := Lib.hid (fun y hy => term_writes n y (by have := kid_lt (x := ⟨k, s, l⟩) hy; omega) (hkids y hy))
   intro W ok bs HF hlen
   rw [hT] at hlen ⊢
   have HL := Lib.hid hlen
   have HC := Lib.hid hC
   have hln : l.length ≤ 9223372036854775807 := hC.2.1
   clear hlen hT hn ht0 hC hc hk hkids
   go_enter Tryz.func96, Tryz.ntmps96
   go_wp2_with (first
    | ((with_reducible refine gate_dst (N := 2) rfl ?_); refine ez_box (t := 100) (cs := #[.pointer (some ⟨g, 0, none⟩)]) HF rfl rfl (run_pr rfl rfl) ?_; clear HF; intro b2 w74 HF)
    | ((with_reducible refine gate_dst (N := 3) rfl ?_); refine ez_box (t := 25) (cs := (tN ⟨k, s, l⟩ A c)) HF rfl rfl (run_tree rfl rfl) ?_; clear HF; intro b3 w75 HF; obtain ⟨q76a, q76b, q76c⟩ := rd3 HF.out.b0))
   go_wp2_with fail
   replace HF := Lib.hid HF.out.drew
   refine wp_only ?_
   refine start_ (n := 6) (S := (fun w' => True ∧ w'.cell? (⟨b2, 0, none⟩) = some (.pointer (some ⟨g, 0, none⟩)) ∧ w'.cell? (⟨b3, 1, none⟩) = some (.string s))) (ds := [5]) #[false, false, false, false, false, false] (by kernel_rfl) rfl rfl ?_ (fun hHeld => ?_)
   ·exact ⟨trivial, (blk_cell HF.out.b1 0).trans rfl, (blk_cell HF.out.b0 1).trans rfl⟩
   refine pq 3 #[false, false, false, true, false, false] (h := ?_)
   refine tq hHeld 0 #[true, false, false, true, false, false] (h := ?_)
   refine pq 1 #[true, true, false, true, false, false] (h := ?_)
   refine pq 2 (fl 6 4) (h := ?_)
   refine tq hHeld 4 (fl 6 5) (h := ?_)
   refine last_ (i := 5) (N := some 23) #[true, true, true, true, true, true] rfl rfl (by kernel_rfl) (by decide) (fun K hK => ?_)
   go_simp
   replace HF := Lib.hid HF.out.up3
   refine (ws_on _ _ _ _ _ _ s HF (by have := HL.out; have e_ : outMax = 140737488355328 := rfl; simp [Array.length_toList] at this ⊢; omega)).mono ?_
   rintro e w77 ⟨rfl, oko78, HFn⟩
   clear HF; clear q76a q76b q76c
   have HF := HFn
   clear HFn
   refine hK.out _ _ ?_
   clear hK K
   (try simp only [Act.put, List.setIfInBounds_toArray, List.set_cons_zero, List.set_cons_succ])
   refine done_ (by kernel_rfl) ⟨rfl, ?_⟩
   skip
   try simp only [Act.put, List.setIfInBounds_toArray, List.set_cons_zero, List.set_cons_succ]
   have q79 := (blk_cell HF.out.b1 2).trans rfl
   go_wp2_with fail
   replace HF := Lib.hid HF.out.up3
   replace HF := Lib.hid HF.out.up3
   replace HF := Lib.hid HF.out.up3
   go_loopw [27] (fun i wr => ∃ (k_ : Nat) (ok' : Nat → Prop) (pre : List UInt8), i = .int .i64 k_ ∧ k_ ≤ l.length ∧ Hid (pre ++ termSL (l.drop k_) = termSL l) ∧ Hid (Fz w wr (prT g w.heap.size ok' (bs ++ (s.data.toList ++ pre)) :: vT b3 25 (tN ⟨k, s, l⟩ A c) :: vT b2 100 #[.pointer (some ⟨g, 0, none⟩)] :: ts))) (fun i _ => l.length - (intOf i).toNat)
   case atStart => exact ⟨0, _, [], rfl, Nat.zero_le _, Lib.hid rfl, by simpa only [List.append_nil] using HF⟩
   case round =>
    clear HF; clear q79
    obtain ⟨k_, ok', pre, rfl, hk_, HP, HF⟩ := hrel
    by_cases hlt : k_ < l.length
    ·obtain ⟨a0, A2, c2, e0, p0, p1, p2, hl2, hc2⟩ := at_T25 HC.out k_ (by omega) (by omega)
     subst e0
     obtain ⟨x, hx⟩ : ∃ x, x = rd_T25 l k_ := ⟨_, rfl⟩
     have hdr := rdN_drop l k_ hlt
     have hmem := rdN_mem l k_ hlt
     rw [← hx] at p0 p1 p2 hl2 hc2 hdr hmem
     rw [Int.toNat_natCast] at p0 p1 p2
     have HX := Lib.hid (HIH.out x hmem)
     have HL2 := Lib.hid hl2
     have HC2 := Lib.hid hc2
     obtain ⟨pc, hpc⟩ : ∃ pc, pc = (if parB x = true then [40] ++ (termS x ++ [41]) else termS x) := ⟨_, rfl⟩
     have hP := HP.out
     rw [hdr, termSL, ← hpc] at hP
     have HPC := Lib.hid hpc
     have HP2 := Lib.hid hP
     have HLN : Hid (bs.length + (s.size + (pre.length + (1 + pc.length))) ≤ outMax) := Lib.hid (by have h1 := congrArg List.length hP; have h2 := HL.out; simp at h1 h2 ⊢; omega)
     have KX := Lib.hid (And.intro p0 (And.intro p1 p2))
     clear hx hl2 hc2 hpc hP hdr hmem HP p0 p1 p2
     obtain ⟨p0, p1, p2⟩ : _ ∧ _ ∧ _ := ⟨pw_cell_below HF.out.below KX.out.1, pw_cell_below HF.out.below KX.out.2.1, pw_cell_below HF.out.below KX.out.2.2⟩
     go_wp2_with (first
      | ((with_reducible refine gate_dst (N := 5) rfl ?_); refine ez_box (t := 25) (cs := zN) HF rfl rfl (run_node rfl) ?_; clear HF; clear p0 p1 p2; intro b5 w80 HF)
      | ((with_reducible refine gate_store (t := 25) (p := 5) rfl ?_); refine ez_put (p := 5) HF rfl rfl rfl rfl rfl rfl rfl ?_; clear HF; intro w81 HF; have q82 := (blk_cell HF.out.b3 0).trans rfl))
     replace HF := Lib.hid HF.out.swap
     refine (ws_lit [32] HF (by have := HLN.out; have e_ : outMax = 140737488355328 := rfl; simp [Array.length_toList] at this ⊢; omega)).mono ?_
     rintro e w83 ⟨rfl, oko84, HFn⟩
     clear HF; clear q82
     have HF := HFn
     clear HFn
     cases h17 : (x.f0 == 17)
     ·have hpr_ : parB x = (decide (0 < x.f2.length)) := by unfold parB; rw [h17]; rfl
      have HPX : Hid (pc = (if (decide (0 < x.f2.length)) = true then [40] ++ (termS x ++ [41]) else termS x)) := Lib.hid (by rw [HPC.out, hpr_])
      clear hpr_
      obtain ⟨q85a, q85b, q85c⟩ := rd3 HF.out.b1
      have q86 := (blk_cell HF.out.b3 0).trans rfl
      go_wp2_with fail
      replace HF := Lib.hid HF.out.up4
      replace HF := Lib.hid HF.out.up4
      replace HF := Lib.hid HF.out.up4
      replace HF := Lib.hid HF.out.up4
      refine (within_writes _ (enters_of Tryz.func131 (by kernel_rfl) rfl) _ w _ g (termS x) (decide (0 < x.f2.length)) (term1_writes x ⟨k, s, l⟩ A2 (some a0) c2 c w ts g b2 b3 b5 (termS x) (HX.out w _ g A2 c2 HL2.out HC2.out)) _ _ _ HF (by have := HLN.out; rw [← HPX.out]; have e_ : outMax = 140737488355328 := rfl; simp [Array.length_toList] at this ⊢; omega)).mono ?_
      rintro e w87 ⟨rfl, oko88, HFn⟩
      clear HF; clear q85a q85b q85c q86
      have HF := HFn
      clear HFn
      rw [← HPX.out] at HF
      go_wp2_with fail
      replace HF := Lib.hid HF.out.swap
      replace HF := Lib.hid HF.out.lose
      exact ⟨⟨k_ + 1, _, pre ++ ([32] ++ pc), by go_num, by omega, Lib.hid (by have := HP2.out; simpa only [List.append_assoc] using this), by simpa only [List.append_assoc] using HF⟩, by simp [intOf]; omega⟩
     ·have hpr_ : parB x = true := by unfold parB; rw [h17]; rfl
      have HPX : Hid (pc = [40] ++ (termS x ++ [41])) := Lib.hid (by rw [HPC.out, hpr_, if_pos rfl])
      clear hpr_
      obtain ⟨q89a, q89b, q89c⟩ := rd3 HF.out.b1
      have q90 := (blk_cell HF.out.b3 0).trans rfl
      go_wp2_with fail
      replace HF := Lib.hid HF.out.up4
      replace HF := Lib.hid HF.out.up4
      replace HF := Lib.hid HF.out.up4
      replace HF := Lib.hid HF.out.up4
      refine (within_writes _ (enters_of Tryz.func131 (by kernel_rfl) rfl) _ w _ g (termS x) true (term1_writes x ⟨k, s, l⟩ A2 (some a0) c2 c w ts g b2 b3 b5 (termS x) (HX.out w _ g A2 c2 HL2.out HC2.out)) _ _ _ HF (by have := HLN.out; rw [if_pos rfl, ← HPX.out]; have e_ : outMax = 140737488355328 := rfl; simp [Array.length_toList] at this ⊢; omega)).mono ?_
      rintro e w91 ⟨rfl, oko92, HFn⟩
      clear HF; clear q89a q89b q89c q90
      have HF := HFn
      clear HFn
      rw [if_pos rfl, ← HPX.out] at HF
      go_wp2_with fail
      replace HF := Lib.hid HF.out.swap
      replace HF := Lib.hid HF.out.lose
      exact ⟨⟨k_ + 1, _, pre ++ ([32] ++ pc), by go_num, by omega, Lib.hid (by have := HP2.out; simpa only [List.append_assoc] using this), by simpa only [List.append_assoc] using HF⟩, by simp [intOf]; omega⟩
    ·have hke_ : k_ = l.length := by omega
     go_wp2_with fail
     go_wp2_with fail
     go_end0
     replace HF := Lib.hid HF.out.swap
     replace HF := Lib.hid HF.out.lose
     replace HF := Lib.hid HF.out.swap
     replace HF := Lib.hid HF.out.lose
     have hP := HP.out
     rw [List.drop_of_length_le (by omega), termSL, List.append_nil] at hP
     rw [← hP]
     exact ⟨rfl, _, HF⟩
end Go.Proofs.YtbndfgoklgdfdaaGreatDoor.P
end
