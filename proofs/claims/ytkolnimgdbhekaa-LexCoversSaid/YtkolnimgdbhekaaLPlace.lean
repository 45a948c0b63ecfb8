/- lex.Place: the line and the column of an offset; strings.Count at one byte; strings.LastIndexByte. -/
import Derived.Test.YtkolnimgdbhekaaLContains
import Derived.Lib.LastIndexByte
import Derived.Lib.Hide
namespace Go.Proofs.Ytkolnimgdbhekaa.P
open Go.RowKit Go.Proofs.YtkolnimgdbhekaaW.PrintWords Go.Proofs.YtkolnimgdbhekaaW.PrintLast Go.Proofs.YtkolnimgdbhekaaW.PrintMore

theorem run_CountString (s : ByteArray) (c : Int) (w : World) :
    (callFunc 81 #[.string s, .int .u8 c]).run Try.prog w = .ok (.value (.int .i64 (Lib.countByte s.data.toList c.toNat.toUInt8))) w := by
  rw [run_callFunc_extern Try.func81 (by kernel_rfl) (by kernel_rfl) (by kernel_rfl) (e := Extern.BytealgCount.count) (by kernel_rfl), Lib.run_countString]
  rfl

theorem strings_Count_lf (s : ByteArray) (w : World) :
    Calls Try.prog 58 #[.string s, .string ⟨#[10]⟩] w fun e w' => e = .returned (.int .i64 (Lib.countByte s.data.toList 10)) ∧ w = w' := by
  have hx := run_CountString
  go_enter Try.func58, Try.ntmps58
  go_wp2
  go_ret
  exact ⟨rfl, rfl⟩

set_option maxHeartbeats 1000000 in
theorem lastIndex_any (s : ByteArray) (c : Int) (w : World) (hs : s.size ≤ 140737488351232) :
    Calls Try.prog 83 #[.string s, .int .u8 c] w fun e w' => e = .returned (.int .i64 (Lib.lastIndexByte s c)) ∧ w = w' := by
  go_enter Try.func83, Try.ntmps83
  go_wp2_with fail
  go_loop [5] (fun i => ∃ k : Nat, i = .int .i64 ((k : Int) - 1) ∧ k ≤ s.size ∧ Lib.lastIdx s c k = Lib.lastIndexByte s c) (fun i => (intOf i + 1).toNat)
  case atStart => exact ⟨s.size, rfl, Nat.le_refl _, rfl⟩
  case round =>
    obtain ⟨k, rfl, hk, hkn⟩ := hrel
    have HKN := Lib.hid hkn
    clear hkn
    cases k with
    | zero =>
      go_wp2_with fail
      go_ret
      exact ⟨by rw [← HKN.out]; rfl, rfl⟩
    | succ k =>
      have hlt : k < s.size := by omega
      have hb : s.data[k]! = s[k] := by simp [hlt]; rfl
      have HB := Lib.hid hb
      have e1 : ((k + 1 : Nat) : Int) - 1 = (k : Int) := by omega
      rw [e1]
      clear e1 hb
      by_cases hc : ((s[k].toNat : Int)) = c
      · have hc2 : (((s[k].toNat : Int)) == c) = true := by simpa using hc
        have HC := Lib.hid hc
        clear hc
        go_wp2_with fail
        go_ret
        refine ⟨?_, rfl⟩
        have h := HKN.out
        rw [Lib.lastIdx_hit _ _ _ (by rw [HB.out]; exact HC.out)] at h
        rw [← h]
        rfl
      · have hc2 : (((s[k].toNat : Int)) == c) = false := by simpa using hc
        have HC := Lib.hid hc
        clear hc
        go_wp2_with fail
        have h := HKN.out
        rw [Lib.lastIdx_miss _ _ _ (by rw [HB.out]; exact HC.out)] at h
        exact ⟨⟨k, rfl, by omega, h⟩, by simp [intOf] <;> omega⟩

theorem strings_LastIndexByte_any (s : ByteArray) (c : Int) (w : World) (hs : s.size ≤ 140737488351232) :
    Calls Try.prog 59 #[.string s, .int .u8 c] w fun e w' => e = .returned (.int .i64 (Lib.lastIndexByte s c)) ∧ w = w' := by
  go_enter Try.func59, Try.ntmps59
  go_wp2_with (go_at_call 83; refine (lastIndex_any _ _ _ hs).mono ?_; rintro e w' ⟨rfl, rfl⟩)
  go_ret
  exact ⟨rfl, rfl⟩

/-- lex.Place's contract, as the printed walks ask for it. -/
def placeL (s : ByteArray) (at_ : Int) : Int × Int × Int :=
  if at_ < 0 ∨ (s.size : Int) < at_ then (0, 0, 1) else ((Lib.countByte (s.extract 0 at_.toNat).data.toList 10 : Int) + 1, at_ - Lib.lastIndexByte (s.extract 0 at_.toNat) 10, 0)
def lex_Place.f (a0 : ByteArray) (a1 : Int) : Option (Int × Int × Int) := if a0.size ≤ 140737488351232 then some (placeL a0 a1) else none

theorem lastIdx_ge (s : ByteArray) (c : Int) : ∀ k, -1 ≤ Lib.lastIdx s c k ∧ Lib.lastIdx s c k < k
  | 0 => by simp [Lib.lastIdx]
  | k + 1 => by have := lastIdx_ge s c k; unfold Lib.lastIdx; split <;> omega

set_option maxHeartbeats 1000000 in
theorem place_any (s : ByteArray) (at_ : Int) (w : World) (hs : s.size ≤ 140737488351232) :
    Calls Try.prog 26 #[.string s, .int .i64 at_] w fun e w' => e = .returned (.tuple #[.int .i64 (placeL s at_).1, .int .i64 (placeL s at_).2.1, .int .i64 (placeL s at_).2.2]) ∧ w = w' := by
  by_cases h0 : at_ < 0
  · have hp : placeL s at_ = (0, 0, 1) := by unfold placeL; rw [if_pos (.inl h0)]
    have HP := Lib.hid hp
    clear hp
    go_enter Try.func26, Try.ntmps26
    go_wp2_with fail
    all_goals
      refine bodyPost_ret (results_tmp3 rfl _ _ _) rfl ?_
      exact ⟨by rw [HP.out]; rfl, rfl⟩
  · by_cases h1 : (s.size : Int) < at_
    · have hp : placeL s at_ = (0, 0, 1) := by unfold placeL; rw [if_pos (.inr h1)]
      have HP := Lib.hid hp
      clear hp
      go_enter Try.func26, Try.ntmps26
      go_wp2_with fail
      all_goals
        refine bodyPost_ret (results_tmp3 rfl _ _ _) rfl ?_
        exact ⟨by rw [HP.out]; rfl, rfl⟩
    · obtain ⟨k, rfl⟩ := Int.eq_ofNat_of_zero_le (by omega : 0 ≤ at_)
      have hk : k ≤ s.size := by omega
      have hp : placeL s k = ((Lib.countByte (s.extract 0 k).data.toList 10 : Int) + 1, k - Lib.lastIndexByte (s.extract 0 k) 10, 0) := by unfold placeL; rw [if_neg (by omega)]; simp
      have HP := Lib.hid hp
      clear hp h0 h1
      have hsz : (s.extract 0 k).size ≤ 140737488351232 := by simp; omega
      have hcb : Lib.countByte (s.extract 0 k).data.toList 10 ≤ k := by
        refine Nat.le_trans (List.count_le_length) ?_
        simp
        omega
      have hlb := lastIdx_ge (s.extract 0 k) 10 (s.extract 0 k).size
      rw [show Lib.lastIdx (s.extract 0 k) 10 (s.extract 0 k).size = Lib.lastIndexByte (s.extract 0 k) 10 from rfl] at hlb
      have hlb1 := hlb.1
      have hlb2 : Lib.lastIndexByte (s.extract 0 k) 10 ≤ k := by have := hlb.2; simp at this; omega
      clear hlb
      go_enter Try.func26, Try.ntmps26
      go_wp2_with (first | (go_at_call 58; refine (strings_Count_lf _ _).mono ?_; rintro e w' ⟨rfl, rfl⟩) | (go_at_call 59; refine (strings_LastIndexByte_any _ _ _ hsz).mono ?_; rintro e w' ⟨rfl, rfl⟩))
      have htk : (s.extract 0 k).data.toList = List.take k s.data.toList := by simp
      refine bodyPost_ret (results_tmp3 rfl _ _ _) rfl ?_
      refine ⟨?_, rfl⟩
      rw [HP.out, htk]
      have hw : wrap64 ((Lib.countByte (List.take k s.data.toList) 10 : Int) + 1) = (Lib.countByte (List.take k s.data.toList) 10 : Int) + 1 := by
        rw [htk] at hcb
        unfold wrap64
        omega
      simp only [hw]
      rfl

theorem lex_Place.calls (a0 : ByteArray) (a1 : Int) (r1 r2 r3 : Int) (w : World) (h : lex_Place.f a0 a1 = some (r1, r2, r3)) :
    Calls Try.prog 26 #[.string a0, .int .i64 a1] w fun e w' => e = .returned (.tuple #[.int .i64 r1, .int .i64 r2, .int .i64 r3]) ∧ Drawn0 w w' := by
  unfold lex_Place.f at h
  split at h
  case isFalse => cases h
  case isTrue hs =>
    have h2 : placeL a0 a1 = (r1, r2, r3) := by simpa using h
    refine (place_any a0 a1 w hs).mono ?_
    rintro e w' ⟨rfl, rfl⟩
    exact ⟨by rw [h2], Drawn0.refl _⟩

end Go.Proofs.Ytkolnimgdbhekaa.P
