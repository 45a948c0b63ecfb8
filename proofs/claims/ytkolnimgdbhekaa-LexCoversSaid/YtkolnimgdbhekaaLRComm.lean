/- The reference's Comments: where comments begin and end. -/
import Derived.Test.YtkolnimgdbhekaaLPairs
import Derived.Test.YtkolnimgdbhekaaLRef
namespace Go.Proofs.Ytkolnimgdbhekaa.P
open Go.RowKit Go.Proofs.YtkolnimgdbhekaaW.PrintWords Go.Proofs.YtkolnimgdbhekaaW.PrintLast Go.Proofs.YtkolnimgdbhekaaW.PrintMore

theorem comS_line : ∀ (l : List UInt8) (b k : Nat), comS (some b) k l = (b, k + lineN l) :: comS none (k + lineN l) (l.drop (lineN l))
  | [], b, k => by simp [comS, lineN]
  | c :: l, b, k => by
    by_cases hc : c = 10
    · subst hc
      simp [comS, lineN]
    · simp only [comS, lineN, if_neg hc, List.drop_succ_cons]
      rw [comS_line l b (k + 1), show k + 1 + lineN l = k + (lineN l + 1) by omega]

set_option maxHeartbeats 1000000 in
set_option maxRecDepth 100000 in
theorem refComments_any (s : ByteArray) (w : World) (hs : s.size ≤ 30000) :
    Calls Try.prog 43 #[.string s] w fun e w' => ∃ v, e = .returned v ∧ w'.ownsRow w.heap.size 39 2 v (comS none 0 s.data.toList).length (cellsC (comS none 0 s.data.toList)) ∧ Below w.heap.size w w' := by
  obtain ⟨i0, hi, hz0, hz1, hz2⟩ := info_parts info_pair
  obtain ⟨R, hR⟩ : ∃ R, R = comS none 0 s.data.toList := ⟨_, rfl⟩
  rw [← hR]
  have HR := Lib.hid hR
  have HI := Lib.hid hi
  have HZ0 := Lib.hid hz0
  have HZ1 := Lib.hid hz1
  have HZ2 := Lib.hid hz2
  clear hR hi hz0 hz1 hz2
  go_enter Try.func43, Try.ntmps43
  go_wp2_with fail
  go_loopw [3, 4, 5] (fun v i _ wr => ∃ (k : Nat) (acc : List (Nat × Nat)) (A0 : Option Addr) (k0 c0 : Nat), v = .slice A0 k0 c0 ∧ i = .int .i64 k ∧ k ≤ s.size ∧ wr.ownsRow w.heap.size 39 2 v acc.length (cellsC acc) ∧ Below w.heap.size w wr ∧ acc ++ comS none k (s.data.toList.drop k) = R ∧ acc.length ≤ k) (fun _ i _ _ => s.size - (intOf i).toNat)
  case atStart => exact ⟨0, [], none, 0, 0, rfl, rfl, Nat.zero_le _, own_nil _ _ _ _, Below.refl _ _, HR.out.symm, Nat.le_refl _⟩
  case round =>
    obtain ⟨k, acc, A0, k0, c0, rfl, rfl, hk, hown, hb, hc, hal⟩ := hrel
    have HB := Lib.hid hb
    have HC := Lib.hid hc
    have HO := Lib.hid hown
    clear hb hc hown
    by_cases hlt : k < s.size
    · have hdr := drop_cons' s k hlt
      have hbt := s[k].toNat_lt
      have e37 := byteEq s[k] 37 (by omega)
      rw [show (37 : Nat).toUInt8 = 37 from rfl] at e37
      cases h37 : (s[k] == 37)
      · have g37 : ((s[k].toNat : Int) != 37) = true := by rw [h37] at e37; simp only [bne, Bool.not_eq_true']; exact e37
        have hC := HC.out
        rw [hdr, comS, if_neg (by simpa using h37)] at hC
        have HC2 := Lib.hid hC
        clear h37 e37 hC hdr
        go_wp2_with fail
        exact ⟨⟨k + 1, acc, A0, k0, c0, rfl, by go_num, by omega, HO.out, HB.out, HC2.out, by omega⟩, by simp [intOf]; omega⟩
      · have g37 : ((s[k].toNat : Int) != 37) = false := by rw [h37] at e37; simp only [bne, Bool.not_eq_false']; exact e37
        have hsk : s[k] = 37 := by simpa using h37
        rw [hsk] at hdr
        have hle := lineEnd_f s (by omega) (s.size - k) k (s.size + 1) (by omega) (by omega)
        obtain ⟨m, hm⟩ : ∃ m, m = lineN (s.data.toList.drop k) := ⟨_, rfl⟩
        rw [← hm] at hle
        have hm1 : 1 ≤ m := by rw [hm, hdr, lineN, if_neg (by decide)]; omega
        have hm2 : k + m ≤ s.size := by
          have := lineN_le (s.data.toList.drop k)
          rw [← hm, List.length_drop, Array.length_toList] at this
          have h9 : s.data.size = s.size := rfl
          omega
        have hC2 : acc ++ (k, k + m) :: comS none (k + m) (s.data.toList.drop (k + m)) = R := by
          have hC := HC.out
          rw [hdr, comS, if_pos rfl, comS_line, List.drop_drop] at hC
          rw [hdr, lineN, if_neg (by decide)] at hm
          have e1 : k + 1 + lineN (s.data.toList.drop (k + 1)) = k + m := by omega
          rw [e1] at hC
          exact hC
        have HC2 := Lib.hid hC2
        have HLE := Lib.hid hle
        have hwr := HB.out.size
        have HWR := Lib.hid hwr
        clear h37 e37 hsk hdr hwr hC2 hle hm
        go_wp2_with (first
          | (go_at_call 49; refine (peculiumref01_lineEnd.calls _ _ _ _ _ HLE.out).mono ?_; rintro e w2 ⟨rfl, hdn⟩; have hbn := hdn.below; have HO2 := Lib.hid (pw_own_below HO.out hbn); have HBN := Lib.hid hbn; have hw2 := hbn.size; have HW2 := Lib.hid hw2; clear hdn hbn hw2)
          | (at_builtin; refine wpList_append_own _ rfl _ _ 37 rfl w.heap.size 39 i0 _ 2 16 Try.underlying37 HI.out HZ0.out HZ1.out HZ2.out rfl (by decide) (.slice A0 k0 c0) acc.length (cellsC acc) rfl (HO2.out.alloc _) ⟨w2.heap.size, 0, none⟩ 1 1 [.int .i64 k, .int .i64 (k + m)] rfl rfl (cell_two_new _ _ _ _) (by simp [Value.oneCell']) (by unfold maxLen; omega) (by omega) (by have := HWR.out; have := HW2.out; simp; omega) ?_; intro v' w1 hown' hgrow _; obtain ⟨g', cap', rfl⟩ := ownsRow_succ hown'))
        have hB1 := HB.out.trans (HBN.out.mono HWR.out)
        have hB2 := (hB1.alloc (by have := HWR.out; have := HW2.out; omega) _).grown hgrow (by have := HWR.out; have := HW2.out; simp; omega) (fun g hg => (HO.out.lt g hg).1)
        refine ⟨⟨k + m, acc ++ [(k, k + m)], _, _, _, rfl, by go_num, by omega, ?_, hB2, ?_, by simp; omega⟩, by simp [intOf]; omega⟩
        · rw [cellsC_snoc, List.length_append]
          simpa using hown'
        · rw [List.append_assoc]
          exact HC2.out
    · go_wp2_with fail
      go_ret
      have h := HC.out
      rw [List.drop_of_length_le (by simp; omega), comS, List.append_nil] at h
      exact ⟨_, rfl, by rw [← h]; exact HO.out, HB.out⟩
theorem refComments.calls (s : ByteArray) (w : World) (hs : s.size ≤ 30000) :
    Calls Try.prog 43 #[.string s] w fun e w' => ∃ A c, e = .returned (.slice A (comS none 0 s.data.toList).length c) ∧ Kd.C kP w' A (comS none 0 s.data.toList).length (comS none 0 s.data.toList) ∧ Below w.heap.size w w' := by
  refine (refComments_any s w hs).mono ?_
  rintro e w' ⟨v, rfl, ho, hb⟩
  have hR := pairs_R ho
  obtain ⟨A, c, rfl⟩ := Kd.R_slice hR
  exact ⟨A, c, rfl, (Kd.R_reads' hR).2.2, hb⟩

end Go.Proofs.Ytkolnimgdbhekaa.P
