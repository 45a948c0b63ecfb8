/- lex.skip: the offset behind blanks and comments. -/
import Derived.Test.YtkolnimgdbhekaaLTok1
import Derived.Test.YtkolnimgdbhekaaLContains
namespace Go.Proofs.Ytkolnimgdbhekaa.P
open Go.RowKit Go.Proofs.YtkolnimgdbhekaaW.PrintWords Go.Proofs.YtkolnimgdbhekaaW.PrintLast Go.Proofs.YtkolnimgdbhekaaW.PrintMore

theorem skipN_drop (s : ByteArray) (k : Nat) (h : k < s.size) : skipN false (s.data.toList.drop k) = if blankB s[k] then skipN false (s.data.toList.drop (k + 1)) + 1 else if s[k] = 37 then skipN true (s.data.toList.drop (k + 1)) + 1 else 0 := by
  rw [drop_cons' s k h, skipN]
theorem byteEq (c : UInt8) (k : Nat) (hk : k < 256) : ((c.toNat : Int) == (k : Int)) = (c == k.toUInt8) := by
  rw [Bool.eq_iff_iff]
  simp only [beq_iff_eq]
  have := c.toNat_lt
  constructor
  · intro h
    apply UInt8.toNat_inj.1
    simp [Nat.toUInt8]
    omega
  · intro h
    rw [h]
    simp [Nat.toUInt8]
    omega
theorem drop_tail (s : ByteArray) (k : Nat) : (s.extract k s.size).data.toList = s.data.toList.drop k := by
  rw [ByteArray.data_extract, Array.toList_extract, List.extract_eq_take_drop]
  exact List.take_of_length_le (by simp)

set_option maxHeartbeats 1000000 in
theorem skip_any (s : ByteArray) (n : Nat) (w : World) (hn : n ≤ s.size) (hs : s.size ≤ 140737488351232) :
    Calls Try.prog 68 #[.string s, .int .i64 n] w fun e w' => e = .returned (.int .i64 (n + skipN false (s.data.toList.drop n) : Nat)) ∧ w = w' := by
  go_enter Try.func68, Try.ntmps68
  go_wp2_with fail
  go_loop [1, 5] (fun i _ => ∃ k : Nat, k ≤ s.size ∧ i = .int .i64 k ∧ k + skipN false (s.data.toList.drop k) = n + skipN false (s.data.toList.drop n)) (fun i _ => s.size - (intOf i).toNat)
  case atStart => exact ⟨n, hn, rfl, rfl⟩
  case round =>
    obtain ⟨k, hk, rfl, hkn⟩ := hrel
    have HKN := Lib.hid hkn
    clear hkn
    by_cases hlt : k < s.size
    · have HR := Lib.hid (skipN_drop s k hlt)
      have hb := s[k].toNat_lt
      have e32 := byteEq s[k] 32 (by omega)
      have e9 := byteEq s[k] 9 (by omega)
      have e10 := byteEq s[k] 10 (by omega)
      have e37 := byteEq s[k] 37 (by omega)
      cases hbl : blankB s[k]
      · have hbl' := hbl
        simp only [blankB, Bool.or_eq_false_iff] at hbl'
        obtain ⟨⟨q1, q2⟩, q3⟩ := hbl'
        rw [show (32 : Nat).toUInt8 = 32 from rfl, q1] at e32
        rw [show (9 : Nat).toUInt8 = 9 from rfl, q2] at e9
        rw [show (10 : Nat).toUInt8 = 10 from rfl, q3] at e10
        have g32 : ((s[k].toNat : Int) == 32) = false := e32
        have g9 : ((s[k].toNat : Int) == 9) = false := e9
        have g10 : ((s[k].toNat : Int) == 10) = false := e10
        have HBL := Lib.hid hbl
        clear hbl q1 q2 q3 e32 e9 e10
        cases h37 : (s[k] == 37)
        · have g37 : ((s[k].toNat : Int) == 37) = false := by rw [show (37 : Nat).toUInt8 = 37 from rfl, h37] at e37; exact e37
          have H37 := Lib.hid h37
          clear h37 e37
          go_wp2
          go_ret
          exact ⟨ret_int (by have h := HKN.out; rw [HR.out, HBL.out, if_neg (by simp), if_neg (by simpa using H37.out)] at h; omega), rfl⟩
        · have g37 : ((s[k].toNat : Int) == 37) = true := by rw [show (37 : Nat).toUInt8 = 37 from rfl, h37] at e37; exact e37
          have h37' : s[k] = 37 := by simpa using h37
          have hdr : s.data.toList.drop k = 37 :: s.data.toList.drop (k + 1) := by rw [drop_cons' s k hlt, h37']
          have HDR := Lib.hid hdr
          have hss := skip_sign (s.data.toList.drop (k + 1))
          have HSS := Lib.hid hss
          have hge := Lib.indexByte_ge (s.data.toList.drop k) 10
          obtain ⟨j, hj⟩ : ∃ j, j = Lib.indexByte (s.data.toList.drop k) 10 := ⟨_, rfl⟩
          rw [← hj] at hge
          have HJ := Lib.hid hj
          clear h37 e37 h37' hdr hss hj
          by_cases hj0 : 0 ≤ j
          · obtain ⟨m, rfl⟩ := Int.eq_ofNat_of_zero_le hj0
            have h1 := HSS.out.1 m (by rw [← HDR.out]; exact HJ.out.symm)
            have hm1 : k + m < s.size := by have := h1.1; simp at this; omega
            have hm2 : 1 ≤ m := h1.2.1
            have H3 := Lib.hid h1.2.2
            clear h1
            go_wp2_with (go_at_call 57; refine (strings_IndexByte_any _ _ _).mono ?_; rintro e w' ⟨rfl, rfl⟩; rw [drop_tail s k]; rw [show (10 : Int).toNat.toUInt8 = 10 from rfl]; rw [← HJ.out])
            go_round
            case rel => exact ⟨k + m, by omega, by go_num, by have h := HKN.out; rw [HDR.out, H3.out, ← HDR.out, List.drop_drop] at h; omega⟩
            case measure => simp [intOf]; omega
          · have h1 := HSS.out.2 (by rw [← HDR.out, ← HJ.out]; omega)
            have H3 := Lib.hid h1
            clear h1
            go_wp2_with (go_at_call 57; refine (strings_IndexByte_any _ _ _).mono ?_; rintro e w' ⟨rfl, rfl⟩; rw [drop_tail s k]; rw [show (10 : Int).toNat.toUInt8 = 10 from rfl]; rw [← HJ.out])
            go_round
            case rel => exact ⟨s.size, by omega, by go_num, by have h := HKN.out; rw [HDR.out, H3.out] at h; simp at h; rw [List.drop_of_length_le (by simp)]; simp [skipN]; omega⟩
            case measure => simp [intOf]; omega
      · have HBL := Lib.hid hbl
        simp only [blankB, Bool.or_eq_true] at hbl
        clear e37
        rcases hbl with (q | q) | q
        · rw [show (32 : Nat).toUInt8 = 32 from rfl, q] at e32
          have g32 : ((s[k].toNat : Int) == 32) = true := e32
          clear q e32 e9 e10
          go_wp2
          go_round
          case rel => exact ⟨k + 1, by omega, by go_num, by have h := HKN.out; rw [HR.out, HBL.out] at h; simp at h; omega⟩
          case measure => simp [intOf]; omega
        · rw [show (9 : Nat).toUInt8 = 9 from rfl, q] at e9
          have g9 : ((s[k].toNat : Int) == 9) = true := e9
          have g32 : ((s[k].toNat : Int) == 32) = false := by
            have q' : s[k] = 9 := by simpa using q
            have q2 : s[k].toNat = 9 := by rw [q']; rfl
            rw [beq_eq_false_iff_ne]; omega
          clear q e32 e9 e10
          go_wp2
          go_round
          case rel => exact ⟨k + 1, by omega, by go_num, by have h := HKN.out; rw [HR.out, HBL.out] at h; simp at h; omega⟩
          case measure => simp [intOf]; omega
        · rw [show (10 : Nat).toUInt8 = 10 from rfl, q] at e10
          have q' : s[k] = 10 := by simpa using q
          have q2 : s[k].toNat = 10 := by rw [q']; rfl
          have g10 : ((s[k].toNat : Int) == 10) = true := e10
          have g32 : ((s[k].toNat : Int) == 32) = false := by rw [beq_eq_false_iff_ne]; omega
          have g9 : ((s[k].toNat : Int) == 9) = false := by rw [beq_eq_false_iff_ne]; omega
          clear q q' q2 e32 e9 e10
          go_wp2
          go_round
          case rel => exact ⟨k + 1, by omega, by go_num, by have h := HKN.out; rw [HR.out, HBL.out] at h; simp at h; omega⟩
          case measure => simp [intOf]; omega
    · go_wp2
      go_ret
      exact ⟨ret_int (by have h := HKN.out; rw [List.drop_of_length_le (by simp; omega)] at h; simp [skipN] at h; omega), rfl⟩
end Go.Proofs.Ytkolnimgdbhekaa.P
