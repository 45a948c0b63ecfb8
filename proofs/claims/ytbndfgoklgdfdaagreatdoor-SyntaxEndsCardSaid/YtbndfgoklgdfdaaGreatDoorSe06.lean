/- slices.Contains over the keywords, as a plain function. lex.token: the token that begins at an offset. -/
import Derived.Test.YtbndfgoklgdfdaaGreatDoorSe04
import Derived.Test.YtbndfgoklgdfdaaGreatDoorSe05
import Derived.Lib.Strings
import Derived.RegionTactic
import Derived.Deep.RegionHeld3
import Derived.Deep.DeepCutAuto
set_option linter.all false
section
-- Written by wip/xprint.py over the kit's print (several laws in one namespace, some contracts by hand). Not trusted: Lean checks it.
namespace Go.Proofs.YtbndfgoklgdfdaaGreatDoor.P
open Go.RowKit Go.Proofs.YtbndfgoklgdfdaaGreatDoorW.PrintWords Go.Proofs.YtbndfgoklgdfdaaGreatDoorW.PrintLast Go.Proofs.YtbndfgoklgdfdaaGreatDoorW.PrintMore
attribute [local go_sem] max2_int min2_int max_two min_two max_three min_three max_four min_four   -- for this text's walks alone
set_option linter.unusedVariables false
set_option linter.unusedSimpArgs false

/-! ### slices_Index_string_string: function 139 -/
def slices_Index_string_string.l0 : Nat → List ByteArray → ByteArray → Int → Int → Option (Int)
 | 0, _, _, _, _ => none
 | k + 1, x0, x1, x7, x8 => if x8 < x7 then (if 0 ≤ x8 then (if x8 < (x0.length : Int) then (if x1.toList = (rdOf ByteArray.empty x0 x8).toList then (some x8) else (slices_Index_string_string.l0 k x0 x1 x7 (wrap64 (x8 + 1)))) else (none)) else (none)) else (some (-1))
def slices_Index_string_string.f (k : Nat) (l0 : List ByteArray) (a1 : ByteArray) : Option (Int) := slices_Index_string_string.l0 k l0 a1 (l0.length : Int) 0
set_option maxHeartbeats 8000000 in
set_option maxRecDepth 100000 in
theorem slices_Index_string_string.calls (k : Nat) (A0 : Option Addr) (c0 : Nat) (l0 : List ByteArray) (a1 : ByteArray) (r : Int) (w : World) (hr0 : Kd.C Kd.string w A0 l0.length l0) (hc0 : l0.length ≤ c0) (h : slices_Index_string_string.f k l0 a1 = some r) :
  Calls Tryz.prog 139 #[.slice A0 l0.length c0, .string a1] w fun e w' => e = .returned (.int .i64 r) ∧ Drawn0 w w' := by
 have HR0 := Aside0.mk hr0
 have HC0 := Aside0.mk hc0
 clear hr0 hc0
 have H : (slices_Index_string_string.l0 k l0 a1 (l0.length : Int) 0) = some r := h
 clear h
 have H' := Aside0.mk H
 clear H
 go_enter Tryz.func139, Tryz.ntmps139
 go_wp2
 go_loopg [8] k (fun kq v8 w' => ∃ (x8_1 : Int), v8 = .int .i64 x8_1 ∧ Aside0 (slices_Index_string_string.l0 kq l0 a1 (l0.length : Int) x8_1 = some r) ∧ Aside0 (kq ≤ k) ∧ Drawn0 w w')
 case atStart => exact ⟨(0), (by first | rfl | (simp; done) | (simp; exact (show ∀ l_ : List UInt8, l_.isEmpty = !(l_ != []) from fun l_ => by cases l_ <;> rfl) _) | (simp [*]; done)), H', ⟨Nat.le_refl _⟩, by repeat (first | exact Drawn0.refl _ | apply Drawn0.step)⟩
 case round =>
  clear H'
  try clear c1
  try clear p2
  obtain ⟨x8_1, rfl, HA, HK1, ⟨m1, rfl⟩⟩ := hrel
  cases gk with
  | zero => exact absurd HA.out (by simp [slices_Index_string_string.l0])
  | succ k1 =>
   have H := HA.out
   clear HA
   simp only [slices_Index_string_string.l0] at H
   by_cases c3 : x8_1 < (l0.length : Int)
   ·rw [if_pos c3] at H
    have c3b0 : decide (x8_1 < (l0.length : Int)) = true := decide_eq_true c3
    clear c3
    by_cases c4 : 0 ≤ x8_1
    ·rw [if_pos c4] at H
     have c4b0 : decide (0 ≤ x8_1) = true := decide_eq_true c4
     clear c4
     by_cases c5 : x8_1 < (l0.length : Int)
     ·rw [if_pos c5] at H
      have c5b0 : decide (x8_1 < (l0.length : Int)) = true := decide_eq_true c5
      clear c5
      by_cases c6 : a1.toList = (rdOf ByteArray.empty l0 x8_1).toList
      ·rw [if_pos c6] at H
       have c6b0 : (a1.toList == (rdOf ByteArray.empty l0 x8_1).toList) = true := beq_iff_eq.mpr c6
       have c6b1 : (a1.toList != (rdOf ByteArray.empty l0 x8_1).toList) = false := bne_eq_false_iff_eq.mpr c6
       clear c6
       obtain rfl := Option.some.inj H
       have p101 : 0 ≤ (x8_1 : Int) := of_decide_eq_true (by first | (with_reducible assumption) | assumption)
       have q101 : x8_1 < (l0.length : Int) := of_decide_eq_true (by first | (with_reducible assumption) | assumption)
       obtain ⟨ad101, e101, hx101_0⟩ := Kd.at_string HR0.out x8_1 p101 q101
       cases e101
       replace p101 := eq_true p101
       replace q101 := eq_true q101
       go_wp2
       go_ret
       exact ⟨by first | rfl | (simp; done) | (simp; exact (show ∀ l_ : List UInt8, l_.isEmpty = !(l_ != []) from fun l_ => by cases l_ <;> rfl) _) | (simp [*]; done), by repeat (first | exact Drawn0.refl _ | apply Drawn0.step)⟩
      ·rw [if_neg c6] at H
       have c6b0 : (a1.toList == (rdOf ByteArray.empty l0 x8_1).toList) = false := beq_eq_false_iff_ne.mpr c6
       have c6b1 : (a1.toList != (rdOf ByteArray.empty l0 x8_1).toList) = true := bne_iff_ne.mpr c6
       have H' := Aside0.mk H
       clear H
       have p101 : 0 ≤ (x8_1 : Int) := of_decide_eq_true (by first | (with_reducible assumption) | assumption)
       have q101 : x8_1 < (l0.length : Int) := of_decide_eq_true (by first | (with_reducible assumption) | assumption)
       obtain ⟨ad101, e101, hx101_0⟩ := Kd.at_string HR0.out x8_1 p101 q101
       cases e101
       replace p101 := eq_true p101
       replace q101 := eq_true q101
       go_wp2
       go_roundg k1
       case measure => have := HK1.out; omega
       case rel => exact ⟨(wrap64 (x8_1 + 1)), (by first | rfl | (simp; done) | (simp; exact (show ∀ l_ : List UInt8, l_.isEmpty = !(l_ != []) from fun l_ => by cases l_ <;> rfl) _) | (simp [*]; done)), H', ⟨by have := HK1.out; omega⟩, by repeat (first | exact Drawn0.refl _ | apply Drawn0.step)⟩
     ·rw [if_neg c5] at H
      exact absurd H (by simp)
    ·rw [if_neg c4] at H
     exact absurd H (by simp)
   ·rw [if_neg c3] at H
    have c3b0 : decide (x8_1 < (l0.length : Int)) = false := decide_eq_false c3
    clear c3
    obtain rfl := Option.some.inj H
    go_wp2
    go_ret
    exact ⟨by first | rfl | (simp; done) | (simp; exact (show ∀ l_ : List UInt8, l_.isEmpty = !(l_ != []) from fun l_ => by cases l_ <;> rfl) _) | (simp [*]; done), by repeat (first | exact Drawn0.refl _ | apply Drawn0.step)⟩

/-! ### slices_Contains_string_string: function 101 -/
def slices_Contains_string_string.f (k : Nat) (l0 : List ByteArray) (a1 : ByteArray) : Option (Bool) := (slices_Index_string_string.f k l0 a1).bind fun t102 => (some (decide (t102 ≥ 0)))
set_option maxHeartbeats 8000000 in
set_option maxRecDepth 100000 in
theorem slices_Contains_string_string.calls (k : Nat) (A0 : Option Addr) (c0 : Nat) (l0 : List ByteArray) (a1 : ByteArray) (r : Bool) (w : World) (hr0 : Kd.C Kd.string w A0 l0.length l0) (hc0 : l0.length ≤ c0) (h : slices_Contains_string_string.f k l0 a1 = some r) :
  Calls Tryz.prog 101 #[.slice A0 l0.length c0, .string a1] w fun e w' => e = .returned (.bool r) ∧ Drawn0 w w' := by
 have HR0 := Aside0.mk hr0
 have HC0 := Aside0.mk hc0
 clear hr0 hc0
 have H : ((slices_Index_string_string.f k l0 a1).bind fun t102 => (some (decide (t102 ≥ 0)))) = some r := h
 clear h
 replace H := Option.bind_eq_some_iff.mp H
 obtain ⟨t102, A30, H⟩ := H
 replace H : (some (decide (t102 ≥ 0))) = some r := H
 have A3 := Aside0.mk A30
 clear A30
 obtain rfl := Option.some.inj H
 go_enter Tryz.func101, Tryz.ntmps101
 go_wp2_with (first | ((with_reducible refine gate_callee (f := 139) rfl ?_); refine goesL_ (some 7) rfl rfl Tryz.func139 (by kernel_rfl) rfl #[.slice A0 l0.length c0, .string a1] rfl (by (try simp only [List.map_toArray, List.map_cons, List.map_nil]); first | done | rfl | (simp only [List.length_drop, List.length_take]; rfl)) ?_; (with_reducible refine (slices_Index_string_string.calls k _ _ l0 a1 t102 _ ?side1 ?side2 A3.out).mono ?_); (case side1 => repeat (first | exact HR0.out | (with_reducible refine Kd.C_alloc ?_ _) | (with_reducible refine Kd.C_drewN ?_ _) | (with_reducible refine Kd.C_drew ?_))); (case side2 => exact HC0.out); rintro e w' ⟨rfl, ⟨nd, rfl⟩⟩; refine ⟨_, rfl, ?_⟩))
 go_ret
 exact ⟨by first | rfl | (simp; done) | (simp; exact (show ∀ l_ : List UInt8, l_.isEmpty = !(l_ != []) from fun l_ => by cases l_ <;> rfl) _) | (simp [*]; done), by repeat (first | exact Drawn0.refl _ | apply Drawn0.step)⟩

/-! ### stringslite_HasPrefix: function 172 -/
/-! ### strings_HasPrefix: function 167 -/
/-! ### lex_keywords: function 165 -/
def lex_keywords.f  : Option (List ByteArray) := some (([(⟨#[116, 121, 112, 101]⟩ : ByteArray), (⟨#[99, 111, 110, 115, 116]⟩ : ByteArray), (⟨#[112, 114, 101, 100]⟩ : ByteArray), (⟨#[102, 97, 99, 116]⟩ : ByteArray), (⟨#[108, 97, 115, 116, 105, 110, 103]⟩ : ByteArray), (⟨#[109, 111, 100, 101]⟩ : ByteArray), (⟨#[114, 117, 108, 101]⟩ : ByteArray), (⟨#[111, 110, 99, 101]⟩ : ByteArray), (⟨#[109, 111, 115, 116]⟩ : ByteArray), (⟨#[113, 117, 101, 114, 121]⟩ : ByteArray), (⟨#[109, 111, 100, 117, 108, 101]⟩ : ByteArray), (⟨#[117, 115, 101]⟩ : ByteArray), (⟨#[101, 120, 112, 111, 114, 116]⟩ : ByteArray), (⟨#[97, 108, 108]⟩ : ByteArray), (⟨#[101, 120]⟩ : ByteArray), (⟨#[111, 110, 101]⟩ : ByteArray), (⟨#[116, 111, 112]⟩ : ByteArray)] : List ByteArray))
set_option maxHeartbeats 8000000 in
set_option maxRecDepth 100000 in
theorem lex_keywords.calls  (r : List ByteArray) (w : World) (h : lex_keywords.f  = some r) :
  Calls Tryz.prog 165 #[] w fun e w' => ∃ v0_ : Value, e = .returned (v0_) ∧ Kd.R Kd.string 9 w' w.heap.size (fun _ => True) v0_ r ∧ Below w.heap.size w w' := by
 have HB := Aside0.mk (Below.refl w.heap.size w)
 have H : (some (([(⟨#[116, 121, 112, 101]⟩ : ByteArray), (⟨#[99, 111, 110, 115, 116]⟩ : ByteArray), (⟨#[112, 114, 101, 100]⟩ : ByteArray), (⟨#[102, 97, 99, 116]⟩ : ByteArray), (⟨#[108, 97, 115, 116, 105, 110, 103]⟩ : ByteArray), (⟨#[109, 111, 100, 101]⟩ : ByteArray), (⟨#[114, 117, 108, 101]⟩ : ByteArray), (⟨#[111, 110, 99, 101]⟩ : ByteArray), (⟨#[109, 111, 115, 116]⟩ : ByteArray), (⟨#[113, 117, 101, 114, 121]⟩ : ByteArray), (⟨#[109, 111, 100, 117, 108, 101]⟩ : ByteArray), (⟨#[117, 115, 101]⟩ : ByteArray), (⟨#[101, 120, 112, 111, 114, 116]⟩ : ByteArray), (⟨#[97, 108, 108]⟩ : ByteArray), (⟨#[101, 120]⟩ : ByteArray), (⟨#[111, 110, 101]⟩ : ByteArray), (⟨#[116, 111, 112]⟩ : ByteArray)] : List ByteArray))) = some r := h
 clear h
 obtain ⟨y104, hy104⟩ : ∃ y_ : List ByteArray, y_ = (([(⟨#[116, 121, 112, 101]⟩ : ByteArray), (⟨#[99, 111, 110, 115, 116]⟩ : ByteArray), (⟨#[112, 114, 101, 100]⟩ : ByteArray), (⟨#[102, 97, 99, 116]⟩ : ByteArray), (⟨#[108, 97, 115, 116, 105, 110, 103]⟩ : ByteArray), (⟨#[109, 111, 100, 101]⟩ : ByteArray), (⟨#[114, 117, 108, 101]⟩ : ByteArray), (⟨#[111, 110, 99, 101]⟩ : ByteArray), (⟨#[109, 111, 115, 116]⟩ : ByteArray), (⟨#[113, 117, 101, 114, 121]⟩ : ByteArray), (⟨#[109, 111, 100, 117, 108, 101]⟩ : ByteArray), (⟨#[117, 115, 101]⟩ : ByteArray), (⟨#[101, 120, 112, 111, 114, 116]⟩ : ByteArray), (⟨#[97, 108, 108]⟩ : ByteArray), (⟨#[101, 120]⟩ : ByteArray), (⟨#[111, 110, 101]⟩ : ByteArray), (⟨#[116, 111, 112]⟩ : ByteArray)] : List ByteArray)) := ⟨_, rfl⟩
 replace H : (some y104) = some r := by first | (rw [hy104]; with_reducible exact H) | (have H2_ := (Option.bind_some _ _).symm.trans H; rw [hy104]; with_reducible exact H2_) | (have H2_ := (Option.bind_some _ _).symm.trans H; with_reducible exact H2_) | with_reducible exact H | (rw [hy104]; exact H) | exact H
 have Ny104 := Aside0.mk hy104
 clear hy104
 obtain rfl := Option.some.inj H
 go_enter Tryz.func165, Tryz.ntmps165
 go_wp2_with (first | ((with_reducible refine gate_dst (N := 1) rfl ?_); refine Kd.R_lit Kd.string _ 9 ?hg (N := 1) ?hd (xs := ([(⟨#[116, 121, 112, 101]⟩ : ByteArray), (⟨#[99, 111, 110, 115, 116]⟩ : ByteArray), (⟨#[112, 114, 101, 100]⟩ : ByteArray), (⟨#[102, 97, 99, 116]⟩ : ByteArray), (⟨#[108, 97, 115, 116, 105, 110, 103]⟩ : ByteArray), (⟨#[109, 111, 100, 101]⟩ : ByteArray), (⟨#[114, 117, 108, 101]⟩ : ByteArray), (⟨#[111, 110, 99, 101]⟩ : ByteArray), (⟨#[109, 111, 115, 116]⟩ : ByteArray), (⟨#[113, 117, 101, 114, 121]⟩ : ByteArray), (⟨#[109, 111, 100, 117, 108, 101]⟩ : ByteArray), (⟨#[117, 115, 101]⟩ : ByteArray), (⟨#[101, 120, 112, 111, 114, 116]⟩ : ByteArray), (⟨#[97, 108, 108]⟩ : ByteArray), (⟨#[101, 120]⟩ : ByteArray), (⟨#[111, 110, 101]⟩ : ByteArray), (⟨#[116, 111, 112]⟩ : ByteArray)] : List ByteArray)) (inner := [.string (⟨#[116, 121, 112, 101]⟩ : ByteArray), .string (⟨#[99, 111, 110, 115, 116]⟩ : ByteArray), .string (⟨#[112, 114, 101, 100]⟩ : ByteArray), .string (⟨#[102, 97, 99, 116]⟩ : ByteArray), .string (⟨#[108, 97, 115, 116, 105, 110, 103]⟩ : ByteArray), .string (⟨#[109, 111, 100, 101]⟩ : ByteArray), .string (⟨#[114, 117, 108, 101]⟩ : ByteArray), .string (⟨#[111, 110, 99, 101]⟩ : ByteArray), .string (⟨#[109, 111, 115, 116]⟩ : ByteArray), .string (⟨#[113, 117, 101, 114, 121]⟩ : ByteArray), .string (⟨#[109, 111, 100, 117, 108, 101]⟩ : ByteArray), .string (⟨#[117, 115, 101]⟩ : ByteArray), .string (⟨#[101, 120, 112, 111, 114, 116]⟩ : ByteArray), .string (⟨#[97, 108, 108]⟩ : ByteArray), .string (⟨#[101, 120]⟩ : ByteArray), .string (⟨#[111, 110, 101]⟩ : ByteArray), .string (⟨#[116, 111, 112]⟩ : ByteArray)]) (ok := fun _ => True) (okp := fun _ => True) ?hr ?hp (fun _ hk => hk) trivial (Below.refl _ _) (Nat.le_refl _) (by simp) ?_; (case hd => rfl); (case hg => rfl); (case hr => first | (go_simp; done) | (go_simp; rfl)); (case hp => exact (Reps.one (show Kd.M Kd.string _ _ _ (⟨#[116, 121, 112, 101]⟩ : ByteArray) [.string (⟨#[116, 121, 112, 101]⟩ : ByteArray)] from rfl) (Reps.one (show Kd.M Kd.string _ _ _ (⟨#[99, 111, 110, 115, 116]⟩ : ByteArray) [.string (⟨#[99, 111, 110, 115, 116]⟩ : ByteArray)] from rfl) (Reps.one (show Kd.M Kd.string _ _ _ (⟨#[112, 114, 101, 100]⟩ : ByteArray) [.string (⟨#[112, 114, 101, 100]⟩ : ByteArray)] from rfl) (Reps.one (show Kd.M Kd.string _ _ _ (⟨#[102, 97, 99, 116]⟩ : ByteArray) [.string (⟨#[102, 97, 99, 116]⟩ : ByteArray)] from rfl) (Reps.one (show Kd.M Kd.string _ _ _ (⟨#[108, 97, 115, 116, 105, 110, 103]⟩ : ByteArray) [.string (⟨#[108, 97, 115, 116, 105, 110, 103]⟩ : ByteArray)] from rfl) (Reps.one (show Kd.M Kd.string _ _ _ (⟨#[109, 111, 100, 101]⟩ : ByteArray) [.string (⟨#[109, 111, 100, 101]⟩ : ByteArray)] from rfl) (Reps.one (show Kd.M Kd.string _ _ _ (⟨#[114, 117, 108, 101]⟩ : ByteArray) [.string (⟨#[114, 117, 108, 101]⟩ : ByteArray)] from rfl) (Reps.one (show Kd.M Kd.string _ _ _ (⟨#[111, 110, 99, 101]⟩ : ByteArray) [.string (⟨#[111, 110, 99, 101]⟩ : ByteArray)] from rfl) (Reps.one (show Kd.M Kd.string _ _ _ (⟨#[109, 111, 115, 116]⟩ : ByteArray) [.string (⟨#[109, 111, 115, 116]⟩ : ByteArray)] from rfl) (Reps.one (show Kd.M Kd.string _ _ _ (⟨#[113, 117, 101, 114, 121]⟩ : ByteArray) [.string (⟨#[113, 117, 101, 114, 121]⟩ : ByteArray)] from rfl) (Reps.one (show Kd.M Kd.string _ _ _ (⟨#[109, 111, 100, 117, 108, 101]⟩ : ByteArray) [.string (⟨#[109, 111, 100, 117, 108, 101]⟩ : ByteArray)] from rfl) (Reps.one (show Kd.M Kd.string _ _ _ (⟨#[117, 115, 101]⟩ : ByteArray) [.string (⟨#[117, 115, 101]⟩ : ByteArray)] from rfl) (Reps.one (show Kd.M Kd.string _ _ _ (⟨#[101, 120, 112, 111, 114, 116]⟩ : ByteArray) [.string (⟨#[101, 120, 112, 111, 114, 116]⟩ : ByteArray)] from rfl) (Reps.one (show Kd.M Kd.string _ _ _ (⟨#[97, 108, 108]⟩ : ByteArray) [.string (⟨#[97, 108, 108]⟩ : ByteArray)] from rfl) (Reps.one (show Kd.M Kd.string _ _ _ (⟨#[101, 120]⟩ : ByteArray) [.string (⟨#[101, 120]⟩ : ByteArray)] from rfl) (Reps.one (show Kd.M Kd.string _ _ _ (⟨#[111, 110, 101]⟩ : ByteArray) [.string (⟨#[111, 110, 101]⟩ : ByteArray)] from rfl) (Reps.one (show Kd.M Kd.string _ _ _ (⟨#[116, 111, 112]⟩ : ByteArray) [.string (⟨#[116, 111, 112]⟩ : ByteArray)] from rfl) (Reps.none _ _))))))))))))))))))); intro v105 w1 ho2 hb hg_ hnew_; clear hg_ hnew_; (first | rw [← Ny104.out] at ho2 | (simp only [Int.reduceToNat] at ho2; rw [← Ny104.out] at ho2)); have n0_ := Aside0.mk (Kd.R_lower ho2 (below_size (by repeat (first | (with_reducible first | exact HB.out | apply below_alloc | apply pw_below_drewN | apply below_drew1) | exact HB.out)))); have n1_ := Aside0.mk (below_step (by repeat (first | (with_reducible first | exact HB.out | apply below_alloc | apply pw_below_drewN | apply below_drew1) | exact HB.out)) hb); clear HB; have HO106 := n0_; have HB := n1_; clear n0_ n1_; clear hb ho2))
 go_ret
 exact ⟨_, by first | rfl | (simp [errW_none, errW_some] <;> rfl) | (simp [*, errW_none, errW_some] <;> rfl), by (with_reducible repeat (first | apply Kd.R_alloc | apply Kd.R_drewN | apply Kd.R_drew)); exact HO106.out, by repeat (first | (with_reducible first | exact HB.out | apply below_alloc | apply pw_below_drewN | apply below_drew1) | exact HB.out)⟩

/-! ### lex_small: function 164 -/
/-! ### lex_capital: function 166 -/
end Go.Proofs.YtbndfgoklgdfdaaGreatDoor.P
end
section
namespace Go.Proofs.YtbndfgoklgdfdaaGreatDoor.P
open Go.RowKit Go.Proofs.YtbndfgoklgdfdaaGreatDoorW.PrintWords Go.Proofs.YtbndfgoklgdfdaaGreatDoorW.PrintLast Go.Proofs.YtbndfgoklgdfdaaGreatDoorW.PrintMore

def wordsB : List ByteArray := [⟨#[116, 121, 112, 101]⟩, ⟨#[99, 111, 110, 115, 116]⟩, ⟨#[112, 114, 101, 100]⟩, ⟨#[102, 97, 99, 116]⟩, ⟨#[108, 97, 115, 116, 105, 110, 103]⟩, ⟨#[109, 111, 100, 101]⟩, ⟨#[114, 117, 108, 101]⟩, ⟨#[111, 110, 99, 101]⟩, ⟨#[109, 111, 115, 116]⟩, ⟨#[113, 117, 101, 114, 121]⟩, ⟨#[109, 111, 100, 117, 108, 101]⟩, ⟨#[117, 115, 101]⟩, ⟨#[101, 120, 112, 111, 114, 116]⟩, ⟨#[97, 108, 108]⟩, ⟨#[101, 120]⟩, ⟨#[111, 110, 101]⟩, ⟨#[116, 111, 112]⟩]
theorem index_pure (x : ByteArray) (l : List ByteArray) (hl : l.length < 1000000) : ∀ (d k i : Nat), i + d = l.length → d < k →
  ∃ j : Int, slices_Index_string_string.l0 k l x (l.length : Int) (i : Int) = some j ∧ decide (j ≥ 0) = ((l.drop i).map fun b => b.data.toList).contains x.data.toList := by
 intro d
 induction d with
 | zero =>
  intro k i h1 h2
  obtain ⟨k, rfl⟩ : ∃ m, k = m + 1 := ⟨k - 1, by omega⟩
  refine ⟨-1, ?_, ?_⟩
  ·simp only [slices_Index_string_string.l0]
   rw [if_neg (by omega)]
  ·rw [List.drop_of_length_le (by omega)]
   rfl
 | succ d ih =>
  intro k i h1 h2
  obtain ⟨k, rfl⟩ : ∃ m, k = m + 1 := ⟨k - 1, by omega⟩
  have hi : i < l.length := by omega
  have hd : l.drop i = l[i] :: l.drop (i + 1) := List.drop_eq_getElem_cons hi
  have hr : rdOf ByteArray.empty l (i : Int) = l[i] := by simp [rdOf, hi]
  have hw : wrap64 ((i : Int) + 1) = ((i + 1 : Nat) : Int) := by
   unfold wrap64
   omega
  by_cases he : x.toList = (rdOf ByteArray.empty l (i : Int)).toList
  ·refine ⟨(i : Int), ?_, ?_⟩
   ·simp only [slices_Index_string_string.l0]
    rw [if_pos (by omega), if_pos (by omega), if_pos (by omega), if_pos he]
   ·rw [hd, List.map_cons, List.contains_cons]
    rw [hr, Lib.toList_data, Lib.toList_data] at he
    rw [he]
    simp
  ·obtain ⟨j, hj, hc⟩ := ih k (i + 1) (by omega) (by omega)
   refine ⟨j, ?_, ?_⟩
   ·simp only [slices_Index_string_string.l0]
    rw [if_pos (by omega), if_pos (by omega), if_pos (by omega), if_neg he, hw]
    exact hj
   ·rw [hd, List.map_cons, List.contains_cons, hc]
    rw [hr, Lib.toList_data, Lib.toList_data] at he
    rw [show (x.data.toList == l[i].data.toList) = false by simpa using he]
    rfl
/-- Is it a keyword? -/
def wordB (x : ByteArray) : Bool := wordsL.contains x.data.toList
theorem contains_pure (x : ByteArray) : slices_Contains_string_string.f 100 wordsB x = some (wordB x) := by
 obtain ⟨j, hj, hc⟩ := index_pure x wordsB (by decide) 17 100 0 rfl (by omega)
 unfold slices_Contains_string_string.f slices_Index_string_string.f
 rw [show ((0 : Nat) : Int) = 0 from rfl] at hj
 rw [hj]
 simp only [Option.bind_some]
 rw [hc]
 rfl
end Go.Proofs.YtbndfgoklgdfdaaGreatDoor.P
end
section
namespace Go.Proofs.YtbndfgoklgdfdaaGreatDoor.P
open Go.RowKit Go.Proofs.YtbndfgoklgdfdaaGreatDoorW.PrintWords Go.Proofs.YtbndfgoklgdfdaaGreatDoorW.PrintLast Go.Proofs.YtbndfgoklgdfdaaGreatDoorW.PrintMore

theorem ret_bool {a b : Bool} (h : a = b) : Ending.returned (.bool a) = .returned (.bool b) := by rw [h]
theorem val_bool {a b : Bool} (h : a = b) : Value.bool a = Value.bool b := by rw [h]
theorem val_int {k : IntKind} {a b : Int} (h : a = b) : Value.int k a = Value.int k b := by rw [h]
theorem byte64 (c : UInt8) : ((c.toNat : Int) == 64) = (c == 64) := by
  rw [Bool.eq_iff_iff]
  simp only [beq_iff_eq]
  exact ⟨fun h => UInt8.toNat_inj.1 (by have : c.toNat = 64 := by omega
                                        rw [this]; rfl), fun h => by rw [h]; rfl⟩
theorem byte45 (c : UInt8) : ((c.toNat : Int) == 45) = (c == 45) := by
  rw [Bool.eq_iff_iff]
  simp only [beq_iff_eq]
  exact ⟨fun h => UInt8.toNat_inj.1 (by have : c.toNat = 45 := by omega
                                        rw [this]; rfl), fun h => by rw [h]; rfl⟩
theorem extract_toList (s : ByteArray) (n : Nat) : (s.extract 0 n).toList = s.data.toList.take n := by
 rw [Lib.toList_data, ByteArray.data_extract, Array.toList_extract, List.extract_eq_take_drop]
 simp
theorem heap_last (W : World) (o : Obj) (g : Nat) (h : g = W.heap.size) : (W.alloc o).heap[g]? = some o := by subst h; exact heap_alloc_new W o
theorem setRow_last (W : World) (c c' : Array Value) (t : TypeId) (g : Nat) (h : g = W.heap.size) : (W.alloc (.cells c t)).setRow g c' = W.alloc (.cells c' t) := by subst h; exact World.setRow_alloc_new ..

theorem small_any (c : UInt8) (w : World) :
  Calls Tryz.prog 164 #[.int .u8 c.toNat] w fun e w' => e = .returned (.bool (smallB c)) ∧ w = w' := by
 have hb := c.toNat_lt
 unfold smallB
 by_cases h1 : (97 : Int) ≤ c.toNat
 ·go_enter Tryz.func164, Tryz.ntmps164
  go_wp2
  all_goals
   go_ret
   exact ⟨ret_bool (by rw [Bool.eq_iff_iff]; simp; omega), rfl⟩
 ·go_enter Tryz.func164, Tryz.ntmps164
  go_wp2
  go_ret
  exact ⟨ret_bool (by rw [Bool.eq_iff_iff]; simp; omega), rfl⟩

theorem capital_any (c : UInt8) (w : World) :
  Calls Tryz.prog 166 #[.int .u8 c.toNat] w fun e w' => e = .returned (.bool (capB c)) ∧ w = w' := by
 have hb := c.toNat_lt
 unfold capB
 by_cases h1 : (65 : Int) ≤ c.toNat
 ·go_enter Tryz.func166, Tryz.ntmps166
  go_wp2
  all_goals
   go_ret
   exact ⟨ret_bool (by rw [Bool.eq_iff_iff]; simp; omega), rfl⟩
 ·go_enter Tryz.func166, Tryz.ntmps166
  go_wp2
  go_ret
  exact ⟨ret_bool (by rw [Bool.eq_iff_iff]; simp; omega), rfl⟩

def lettersS : ByteArray := ⟨lettersL.toArray⟩

/-- What lex.token's frame has in memory behind its first statements. -/
structure TokW (B : Nat) (w W : World) (r : ByteArray) (at_ : Nat) : Prop where
 size : B + 5 ≤ W.heap.size
 below : Below B w W
 a : W.cell? ⟨B, 0, none⟩ = some (.int .i64 at_)
 v0 : (W.cell? ⟨B + 1, 0, none⟩).isSome = true
 v1 : (W.cell? ⟨B + 1, 1, none⟩).isSome = true
 v2 : (W.cell? ⟨B + 1, 2, none⟩).isSome = true
 f0 : W.frozen? ⟨B + 1, 0, none⟩ = false
 f1 : W.frozen? ⟨B + 1, 1, none⟩ = false
 f2 : W.frozen? ⟨B + 1, 2, none⟩ = false
 r : W.cell? ⟨B + 1 + 1, 0, none⟩ = some (.string r)
 t : ∀ c : UInt8, W.cell? ⟨B + 1 + 1 + 1 + 1, c.toNat, none⟩ = some (.bool (partB c))

theorem TokW.start (w : World) (r : ByteArray) (at_ : Nat) : TokW w.heap.size w (((((w.alloc (.cells #[.int .i64 at_] 3)).alloc (.cells #[.int .i64 0, .string ⟨#[]⟩, .int .i64 0] 65)).alloc (.cells #[.string r] 9)).alloc (.cells (tabA lettersS.data.toList) 149)).alloc (.cells (tabA lettersL) 149)) r at_ := by
 have b0 : (((((w.alloc (.cells #[.int .i64 at_] 3)).alloc (.cells #[.int .i64 0, .string ⟨#[]⟩, .int .i64 0] 65)).alloc (.cells #[.string r] 9)).alloc (.cells (tabA lettersS.data.toList) 149)).alloc (.cells (tabA lettersL) 149)).heap[w.heap.size]? = some (.cells #[.int .i64 at_] 3) := by rw [Below.heap_alloc _ _ _ (by simp <;> omega), Below.heap_alloc _ _ _ (by simp <;> omega), Below.heap_alloc _ _ _ (by simp <;> omega), Below.heap_alloc _ _ _ (by simp <;> omega), heap_last _ _ _ (by simp)]
 have b1 : (((((w.alloc (.cells #[.int .i64 at_] 3)).alloc (.cells #[.int .i64 0, .string ⟨#[]⟩, .int .i64 0] 65)).alloc (.cells #[.string r] 9)).alloc (.cells (tabA lettersS.data.toList) 149)).alloc (.cells (tabA lettersL) 149)).heap[w.heap.size + 1]? = some (.cells #[.int .i64 0, .string ⟨#[]⟩, .int .i64 0] 65) := by rw [Below.heap_alloc _ _ _ (by simp <;> omega), Below.heap_alloc _ _ _ (by simp <;> omega), Below.heap_alloc _ _ _ (by simp <;> omega), heap_last _ _ _ (by simp)]
 have b2 : (((((w.alloc (.cells #[.int .i64 at_] 3)).alloc (.cells #[.int .i64 0, .string ⟨#[]⟩, .int .i64 0] 65)).alloc (.cells #[.string r] 9)).alloc (.cells (tabA lettersS.data.toList) 149)).alloc (.cells (tabA lettersL) 149)).heap[w.heap.size + 1 + 1]? = some (.cells #[.string r] 9) := by rw [Below.heap_alloc _ _ _ (by simp <;> omega), Below.heap_alloc _ _ _ (by simp <;> omega), heap_last _ _ _ (by simp)]
 have b4 : (((((w.alloc (.cells #[.int .i64 at_] 3)).alloc (.cells #[.int .i64 0, .string ⟨#[]⟩, .int .i64 0] 65)).alloc (.cells #[.string r] 9)).alloc (.cells (tabA lettersS.data.toList) 149)).alloc (.cells (tabA lettersL) 149)).heap[w.heap.size + 1 + 1 + 1 + 1]? = some (.cells (tabA lettersL) 149) := by rw [heap_last _ _ _ (by simp)]
 have hb : Below w.heap.size w (((((w.alloc (.cells #[.int .i64 at_] 3)).alloc (.cells #[.int .i64 0, .string ⟨#[]⟩, .int .i64 0] 65)).alloc (.cells #[.string r] 9)).alloc (.cells (tabA lettersS.data.toList) 149)).alloc (.cells (tabA lettersL) 149)) := ((((((Below.refl _ w).alloc (Nat.le_refl _) _).alloc (by simp) _).alloc (by simp; omega) _).alloc (by simp; omega) _).alloc (by simp; omega) _)
 have hz : w.heap.size + 5 ≤ (((((w.alloc (.cells #[.int .i64 at_] 3)).alloc (.cells #[.int .i64 0, .string ⟨#[]⟩, .int .i64 0] 65)).alloc (.cells #[.string r] 9)).alloc (.cells (tabA lettersS.data.toList) 149)).alloc (.cells (tabA lettersL) 149)).heap.size := by simp
 revert b0 b1 b2 b4 hb hz
 generalize (((((w.alloc (.cells #[.int .i64 at_] 3)).alloc (.cells #[.int .i64 0, .string ⟨#[]⟩, .int .i64 0] 65)).alloc (.cells #[.string r] 9)).alloc (.cells (tabA lettersS.data.toList) 149)).alloc (.cells (tabA lettersL) 149)) = W
 intro b0 b1 b2 b4 hb hz
 exact ⟨hz, hb, by simp [World.cell?, b0], by simp [World.cell?, b1], by simp [World.cell?, b1], by simp [World.cell?, b1], by simp [World.frozen?, b1], by simp [World.frozen?, b1], by simp [World.frozen?, b1], by simp [World.cell?, b2], fun c => by simp [World.cell?, b4, tabA_get, partB]⟩

theorem TokW.later {B : Nat} {w W W' : World} {r : ByteArray} {at_ : Nat} (h : TokW B w W r at_) (hb : Below W.heap.size W W') : TokW B w W' r at_ := by
 have hs := h.size
 have c : ∀ k o, k < B + 5 → W'.cell? ⟨k, o, none⟩ = W.cell? ⟨k, o, none⟩ := fun k o hk => hb.cell (p := ⟨k, o, none⟩) (by show k < _; omega)
 have f : ∀ k o, k < B + 5 → W'.frozen? ⟨k, o, none⟩ = W.frozen? ⟨k, o, none⟩ := fun k o hk => hb.frozen (p := ⟨k, o, none⟩) (by show k < _; omega)
 exact ⟨Nat.le_trans hs hb.size, h.below.trans (hb.mono (by omega)), (c _ _ (by omega)).trans h.a, by rw [c _ _ (by omega)]; exact h.v0, by rw [c _ _ (by omega)]; exact h.v1, by rw [c _ _ (by omega)]; exact h.v2,
  (f _ _ (by omega)).trans h.f0, (f _ _ (by omega)).trans h.f1, (f _ _ (by omega)).trans h.f2, (c _ _ (by omega)).trans h.r, fun x => (c _ _ (by omega)).trans (h.t x)⟩

theorem extract_drop (s : ByteArray) (a : Nat) : (s.extract a s.size).data.toList = s.data.toList.drop a := by
 rw [ByteArray.data_extract, Array.toList_extract, List.extract_eq_take_drop]
 exact List.take_of_length_le (by simp)

/-- The token, and nothing that lay has turned. -/
def TokPost (s : ByteArray) (at_ kind len : Nat) (w : World) (e : Ending) (w' : World) : Prop :=
 e = .returned (.tuple #[.agg #[.int .i64 kind, .string (s.extract at_ (at_ + len)), .int .i64 at_], .bool true]) ∧ Below w.heap.size w w'

theorem extract_cut (s : ByteArray) (a n : Nat) (h : n ≤ (s.extract a s.size).size) : (s.extract a s.size).extract 0 n = s.extract a (a + n) := by
 apply ByteArray.ext
 apply Array.ext'
 simp only [ByteArray.data_extract, Array.toList_extract, List.extract_eq_take_drop, ByteArray.size_extract] at *
 simp only [Nat.sub_zero, List.drop_zero, List.take_take]
 congr 1
 omega

theorem words_any (w : World) :
  Calls Tryz.prog 165 #[] w fun e w' => ∃ A c, e = .returned (.slice A 17 c) ∧ 17 ≤ c ∧ Kd.C Kd.string w' A 17 wordsB ∧ Below w.heap.size w w' := by
 refine (lex_keywords.calls wordsB w rfl).mono ?_
 rintro e w' ⟨v, rfl, hR, hb⟩
 obtain ⟨A, c, rfl, hc, hC⟩ := Kd.R_reads hR
 exact ⟨A, c, rfl, hc, hC, hb⟩

theorem contains_any (A : Option Addr) (c : Nat) (x : ByteArray) (w : World) (hc : 17 ≤ c) (h : Kd.C Kd.string w A 17 wordsB) :
  Calls Tryz.prog 101 #[.slice A 17 c, .string x] w fun e w' => e = .returned (.bool (wordB x)) ∧ Drawn0 w w' := by
 exact slices_Contains_string_string.calls 100 A c wordsB x _ w h hc (contains_pure x)

set_option maxRecDepth 100000 in
set_option maxHeartbeats 4000000 in
theorem token_small (s : ByteArray) (at_ kind len : Nat) (w : World) (hat : at_ < s.size) (hs : s.size ≤ 140737488351232) (htok : tok (s.data.toList.drop at_) = some (kind, len))
    (hsm : ∀ h : 0 < (s.extract at_ s.size).size, smallB (s.extract at_ s.size)[0] = true) :
    Calls Tryz.prog 142 #[.string s, .int .i64 at_] w fun e w' => TokPost s at_ kind len w e w' := by
  have hrs : 0 < (s.extract at_ s.size).size := by simp; omega
  have HTOK := Lib.hid htok
  clear htok
  have HCUT := Lib.hid (extract_cut s at_)
  have hsm1 := Lib.hid (hsm hrs)
  clear hsm
  go_enter Tryz.func142, Tryz.ntmps142
  go_wp2_with fail
  refine (classes_any lettersS _ (by decide)).mono ?_
  rintro e w' ⟨rfl, rfl⟩
  go_wp2_with (first
        | (refine wpList_store_row rfl 149 _ _ rfl (w.heap.size + 1 + 1 + 1 + 1) (tabA lettersL) rfl rfl 149 Tryz.zeroCells149 (heap_last _ _ _ (by simp)) (by rw [tabA_size]; exact info90) (by rw [← tabA_nil, tabA_size, tabA_size]) (tabA_one _) ?_; rw [setRow_last _ _ _ _ _ (by simp)]))
  have TW := TokW.start w (s.extract at_ s.size) at_
  revert TW
  generalize (((((w.alloc (Obj.cells #[.int .i64 at_] 3)).alloc (.cells #[.int .i64 0, .string ⟨#[]⟩, .int .i64 0] 65)).alloc (.cells #[.string (s.extract at_ s.size)] 9)).alloc (.cells (tabA lettersS.data.toList) 149)).alloc (.cells (tabA lettersL) 149)) = W
  intro TW
  have hrl := extract_drop s at_
  have hrz : (s.extract at_ s.size).size = s.size - at_ := by simp
  have hq := hsm1.out
  obtain ⟨c0, hc0⟩ : ∃ c, c = (s.extract at_ s.size)[0]'hrs := ⟨_, rfl⟩
  rw [← hc0] at hq ⊢
  have hl0 : ∃ t, (s.extract at_ s.size).data.toList = c0 :: t := ⟨_, by rw [hc0]; exact (drop_cons' (s.extract at_ s.size) 0 hrs)⟩
  clear hsm1 hc0
  revert TW hrl hrz hrs hl0 HCUT
  generalize s.extract at_ s.size = r
  intro hrs HCUT TW hrl hrz hl0
  have HRL := Lib.hid hrl
  have HRZ := Lib.hid hrz
  have HL0 := Lib.hid hl0
  have HQ := Lib.hid hq
  have hrm : r.size ≤ 140737488351232 := by omega
  clear hrl hrz hl0 hq
  obtain ⟨B, hB⟩ : ∃ B, B = w.heap.size := ⟨_, rfl⟩
  rw [← hB] at TW ⊢
  have HB := Lib.hid hB
  clear hB
  refine (small_any _ _).mono ?_
  rintro e w' ⟨rfl, rfl⟩
  rw [HQ.out]
  have cr := TW.r
  have ct := TW.t
  have hBz := TW.size
  go_wp2_with fail
  refine (run_any r 0 (B + 1 + 1) (B + 1 + 1 + 1 + 1) W (by omega) hrm cr ct).mono ?_
  rintro e w' ⟨rfl, rfl⟩
  clear ct
  have hm := runN_le r.data.toList
  obtain ⟨m, hmd⟩ : ∃ m, m = runN r.data.toList := ⟨_, rfl⟩
  have hm0 : (0 + runN (r.data.toList.drop 0) : Nat) = m := by rw [hmd]; simp
  rw [hm0]
  have HM := Lib.hid hmd
  rw [← hmd] at hm
  clear hm0 hmd
  have hm2 : m ≤ r.size := by simpa using hm
  clear hm
  go_upto_region 8 with fail
  go_cut [42] (fun v wx => v = .bool (linkB r.data.toList) ∧ W = wx)
  case first =>
    by_cases hA : m + 1 < r.size
    · have hd1 : r.data.toList.drop m = r[m] :: r[m + 1] :: r.data.toList.drop (m + 1 + 1) := by rw [drop_cons' r m (by omega), drop_cons' r (m + 1) hA]
      have HD := Lib.hid hd1
      clear hd1
      have hlk : linkB r.data.toList = (r[m] == 64 && smallB r[m + 1]) := by unfold linkB; rw [← HM.out, HD.out]
      have HLK := Lib.hid hlk
      clear hlk
      cases hB4 : ((r[m].toNat : Int) == 64)
      · have HB4 := Lib.hid hB4
        go_wp2_with fail
        go_meet
        exact ⟨val_bool (by rw [HLK.out, ← byte64, HB4.out]; rfl), rfl⟩
      · have HB4 := Lib.hid hB4
        go_wp2_with (go_at_call 164; refine (small_any _ _).mono ?_; rintro e w' ⟨rfl, rfl⟩)
        go_meet
        exact ⟨val_bool (by rw [HLK.out, ← byte64, HB4.out]; rfl), rfl⟩
    · have hlk : linkB r.data.toList = false := by
        cases h : linkB r.data.toList
        · rfl
        · have h1 := linkB_lt h
          rw [← HM.out] at h1
          simp at h1
          exact absurd h1 hA
      have HLK := Lib.hid hlk
      clear hlk
      go_wp2_with fail
      go_meet
      exact ⟨val_bool (by rw [HLK.out]), rfl⟩
  case rest =>
    obtain ⟨rfl, rfl⟩ := hcut
    go_upto_if 42 with fail
    go_cut [11] (fun v wx => v = .int .i64 (nameN r.data.toList : Nat) ∧ W = wx)
    case first =>
      cases hlk : linkB r.data.toList
      · have HN : Hid (nameN r.data.toList = m) := Lib.hid (by unfold nameN; rw [hlk, HM.out]; rfl)
        go_wp2_with fail
        go_meet
        exact ⟨val_int (by have h := HN.out; omega), rfl⟩
      · have h1 := linkB_lt hlk
        rw [← HM.out] at h1
        simp only [Array.length_toList, ByteArray.size_data] at h1
        have HN : Hid (nameN r.data.toList = m + 1 + runN (r.data.toList.drop (m + 1))) := Lib.hid (by unfold nameN; rw [hlk, HM.out]; rfl)
        have ct := TW.t
        go_wp2_with fail
        refine (run_any r (m + 1) (B + 1 + 1) (B + 1 + 1 + 1 + 1) W (by omega) hrm cr ct).mono ?_
        rintro e w' ⟨rfl, rfl⟩
        clear ct
        go_wp2_with fail
        go_meet
        exact ⟨val_int (by have h := HN.out; omega), rfl⟩
    case rest =>
      obtain ⟨rfl, rfl⟩ := hcut
      have hn := nameN_le r.data.toList
      obtain ⟨n, hnd⟩ : ∃ n, n = nameN r.data.toList := ⟨_, rfl⟩
      rw [← hnd] at hn ⊢
      simp only [Array.length_toList, ByteArray.size_data] at hn
      have HN := Lib.hid hnd
      clear hnd
      go_upto_region 10 with fail
      go_cut [60] (fun v wx => v = .bool (oB r.data.toList) ∧ W = wx)
      case first =>
        have e0 : (r.extract 0 n).toList = r.data.toList.take (nameN r.data.toList) := by rw [← HN.out, extract_toList]
        have E0 := Lib.hid e0
        clear e0
        cases h0 : ((r.extract 0 n).toList == [111])
        · have HO : Hid (oB r.data.toList = false) := Lib.hid (by unfold oB; rw [← E0.out, h0]; rfl)
          go_wp2_with fail
          go_meet
          exact ⟨val_bool (by rw [HO.out]), rfl⟩
        · by_cases h1 : 1 < r.size
          · have hg1 : r.data.toList[1]? = some r[1] := by simp [h1]; rfl
            have HO : Hid (oB r.data.toList = (r[1] == 45)) := Lib.hid (by unfold oB; rw [← E0.out, h0, hg1]; simp only [Bool.true_and]; rfl)
            clear hg1
            go_wp2_with fail
            go_meet
            exact ⟨val_bool (by rw [HO.out, byte45]), rfl⟩
          · have HO : Hid (oB r.data.toList = false) := Lib.hid (by unfold oB; rw [List.getElem?_eq_none (by simp; omega)]; simp)
            go_wp2_with fail
            go_meet
            exact ⟨val_bool (by rw [HO.out]), rfl⟩
      case rest =>
        obtain ⟨rfl, rfl⟩ := hcut
        cases hob : oB r.data.toList
        · have HOB := Lib.hid hob
          clear hob
          go_wp2_with fail
          go_region_held3 (fun w' => w'.cell? ⟨B + 1 + 1, 0, none⟩ = some (.string r) ∧ W.heap.size ≤ w'.heap.size)
            (first | go_keep | (exact ⟨(hb.cell (p := ⟨B + 1 + 1, 0, none⟩) (by show B + 1 + 1 < _; omega)).trans cr, hb.size⟩))
            (first
              | (go_at_call 165; refine (words_any _).mono ?_; rintro e w1 ⟨A, c, rfl, hc, hC, hb⟩)
              | (go_at_call 101; refine (contains_any _ _ _ _ hc hC).mono ?_; rintro e w2 ⟨rfl, ⟨q, rfl⟩⟩))
          have hb' : Below W.heap.size W w1 := ((Below.refl W.heap.size W).drew).trans hb
          have TW1 := (TW.later hb').later (pw_below_drewN (Below.refl w1.heap.size w1) q)
          have hs1 : W.heap.size ≤ (w1.drewN q).heap.size := hb'.size
          have h11 : B + 1 + 1 < (w1.drewN q).heap.size := by omega
          have h12 : B < (w1.drewN q).heap.size := by omega
          cases hw : wordB (r.extract 0 n)
          · have HW := Lib.hid hw
            go_wp2_with fail
            clear hw
            refine (of_any r 1 at_ n (B + 1 + 1) B (w1.drewN q) hn hrm TW1.r TW1.a h11 h12).mono ?_
            rintro e w' ⟨rfl, hb2⟩
            have TW' := TW1.later hb2
            clear hb2
            obtain ⟨x0, hx0⟩ := Option.isSome_iff_exists.1 TW'.v0
            obtain ⟨x1, hx1⟩ := Option.isSome_iff_exists.1 TW'.v1
            obtain ⟨x2, hx2⟩ := Option.isSome_iff_exists.1 TW'.v2
            have hf0 := TW'.f0
            have hf1 := TW'.f1
            have hf2 := TW'.f2
            go_wp2_with fail
            have hfin : tok r.data.toList = some (1, n) := by
              obtain ⟨t, ht⟩ := HL0.out
              have e1 : n = nameN (c0 :: t) := by rw [← ht]; exact HN.out
              have e2 : (r.extract 0 n).data.toList = (c0 :: t).take (nameN (c0 :: t)) := by rw [← Lib.toList_data, extract_toList, ht, ← e1]
              rw [ht, e1]
              exact tok_name HQ.out (by rw [← ht]; exact HOB.out) (by rw [← e2]; exact HW.out)
            rw [HRL.out, HTOK.out] at hfin
            simp only [Option.some.injEq, Prod.mk.injEq] at hfin
            obtain ⟨rfl, rfl⟩ := hfin
            refine bodyPost_ret (v := .tuple #[.agg #[.int .i64 (1 : Nat), .string (r.extract 0 len), .int .i64 at_], .bool true]) (by simp [results, Tryz.results142, go_sem, hx0, hx1, hx2]) rfl ⟨?_, ?_⟩
            · rw [HCUT.out len hn]
            · rw [← HB.out]
              exact ((TW'.below.setCell (by show B ≤ B + 1; omega) _).setCell (by show B ≤ B + 1; omega) _).setCell (by show B ≤ B + 1; omega) _
          · have HW := Lib.hid hw
            go_wp2_with fail
            clear hw
            refine (of_any r 4 at_ n (B + 1 + 1) B (w1.drewN q) hn hrm TW1.r TW1.a h11 h12).mono ?_
            rintro e w' ⟨rfl, hb2⟩
            have TW' := TW1.later hb2
            clear hb2
            obtain ⟨x0, hx0⟩ := Option.isSome_iff_exists.1 TW'.v0
            obtain ⟨x1, hx1⟩ := Option.isSome_iff_exists.1 TW'.v1
            obtain ⟨x2, hx2⟩ := Option.isSome_iff_exists.1 TW'.v2
            have hf0 := TW'.f0
            have hf1 := TW'.f1
            have hf2 := TW'.f2
            go_wp2_with fail
            have hfin : tok r.data.toList = some (4, n) := by
              obtain ⟨t, ht⟩ := HL0.out
              have e1 : n = nameN (c0 :: t) := by rw [← ht]; exact HN.out
              have e2 : (r.extract 0 n).data.toList = (c0 :: t).take (nameN (c0 :: t)) := by rw [← Lib.toList_data, extract_toList, ht, ← e1]
              rw [ht, e1]
              exact tok_word HQ.out (by rw [← ht]; exact HOB.out) (by rw [← e2]; exact HW.out)
            rw [HRL.out, HTOK.out] at hfin
            simp only [Option.some.injEq, Prod.mk.injEq] at hfin
            obtain ⟨rfl, rfl⟩ := hfin
            refine bodyPost_ret (v := .tuple #[.agg #[.int .i64 (4 : Nat), .string (r.extract 0 len), .int .i64 at_], .bool true]) (by simp [results, Tryz.results142, go_sem, hx0, hx1, hx2]) rfl ⟨?_, ?_⟩
            · rw [HCUT.out len hn]
            · rw [← HB.out]
              exact ((TW'.below.setCell (by show B ≤ B + 1; omega) _).setCell (by show B ≤ B + 1; omega) _).setCell (by show B ≤ B + 1; omega) _
        · have h2 : 2 ≤ r.size := by
            unfold oB at hob
            have := (Bool.and_eq_true _ _ ▸ hob).2
            have h3 : r.data.toList[1]? = some 45 := by simpa using this
            have := (List.getElem?_eq_some_iff.1 h3).1
            have h4 : 1 < r.size := by simpa using this
            omega
          have HOB := Lib.hid hob
          clear hob
          go_wp2_with fail
          refine (of_any r 3 at_ 2 (B + 1 + 1) B W h2 hrm cr TW.a (by omega) (by omega)).mono ?_
          rintro e w' ⟨rfl, hb⟩
          have TW' := TW.later hb
          clear hb
          obtain ⟨x0, hx0⟩ := Option.isSome_iff_exists.1 TW'.v0
          obtain ⟨x1, hx1⟩ := Option.isSome_iff_exists.1 TW'.v1
          obtain ⟨x2, hx2⟩ := Option.isSome_iff_exists.1 TW'.v2
          have hf0 := TW'.f0
          have hf1 := TW'.f1
          have hf2 := TW'.f2
          go_wp2_with fail
          have hfin : tok r.data.toList = some (3, 2) := by
            obtain ⟨t, ht⟩ := HL0.out
            rw [ht]
            exact tok_o HQ.out (ht ▸ HOB.out)
          rw [HRL.out, HTOK.out] at hfin
          simp only [Option.some.injEq, Prod.mk.injEq] at hfin
          obtain ⟨rfl, rfl⟩ := hfin
          refine bodyPost_ret (v := .tuple #[.agg #[.int .i64 (3 : Nat), .string (r.extract 0 2), .int .i64 at_], .bool true]) (by simp [results, Tryz.results142, go_sem, hx0, hx1, hx2]) rfl ⟨?_, ?_⟩
          · rw [HCUT.out 2 h2]
          · rw [← HB.out]
            exact ((TW'.below.setCell (by show B ≤ B + 1; omega) _).setCell (by show B ≤ B + 1; omega) _).setCell (by show B ≤ B + 1; omega) _

end Go.Proofs.YtbndfgoklgdfdaaGreatDoor.P
end
