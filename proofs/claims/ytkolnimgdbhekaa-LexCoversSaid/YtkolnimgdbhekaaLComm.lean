/- lex.Comments: where comments begin and end. -/
import Derived.Test.YtkolnimgdbhekaaLSkip
import Derived.Lib.Hide
import Derived.RangeFuncBox
namespace Go.Proofs.Ytkolnimgdbhekaa.P
open Go.RowKit Go.Proofs.YtkolnimgdbhekaaW.PrintWords Go.Proofs.YtkolnimgdbhekaaW.PrintLast Go.Proofs.YtkolnimgdbhekaaW.PrintMore

/-- Where comments begin and end: some b: within the one that began at b. -/
def comS : Option Nat → Nat → List UInt8 → List (Nat × Nat)
  | none, _, [] => []
  | some b, k, [] => [(b, k)]
  | none, k, c :: r => if c = 37 then comS (some k) (k + 1) r else comS none (k + 1) r
  | some b, k, c :: r => if c = 10 then (b, k) :: comS none (k + 1) r else comS (some b) (k + 1) r
theorem comS_some : ∀ (l : List UInt8) (b k : Nat), (∀ n : Nat, Lib.indexByte l 10 = n → n < l.length ∧ comS (some b) k l = (b, k + n) :: comS none (k + n + 1) (l.drop (n + 1))) ∧ (Lib.indexByte l 10 < 0 → comS (some b) k l = [(b, k + l.length)])
  | [], b, k => ⟨fun n h => by simp [Lib.indexByte] at h <;> omega, fun _ => by simp [comS]⟩
  | c :: l, b, k => by
    obtain ⟨h1, h2⟩ := comS_some l b (k + 1)
    have hge := Lib.indexByte_ge l 10
    by_cases hc : c = 10
    · subst hc
      refine ⟨fun n h => ?_, fun h => ?_⟩
      · simp [Lib.indexByte] at h
        obtain rfl : n = 0 := by omega
        simp [comS]
      · simp [Lib.indexByte] at h
    · have hcb : (c == 10) = false := by simpa using hc
      refine ⟨fun n h => ?_, fun h => ?_⟩
      · unfold Lib.indexByte at h
        rw [hcb] at h
        simp only [Bool.false_eq_true, if_false] at h
        by_cases hm : Lib.indexByte l 10 = -1
        · rw [hm] at h; simp at h <;> omega
        · rw [if_neg (by simpa using hm)] at h
          obtain ⟨m, rfl⟩ : ∃ m, n = m + 1 := ⟨n - 1, by omega⟩
          obtain ⟨h3, h4⟩ := h1 m (by omega)
          refine ⟨by simp; omega, ?_⟩
          simp only [comS, if_neg hc, List.drop_succ_cons, h4]
          rw [show k + 1 + m = k + (m + 1) by omega]
      · unfold Lib.indexByte at h
        rw [hcb] at h
        simp only [Bool.false_eq_true, if_false] at h
        by_cases hm : Lib.indexByte l 10 = -1
        · simp only [comS, if_neg hc]
          rw [h2 (by omega)]
          simp
          omega
        · rw [if_neg (by simpa using hm)] at h
          omega
/-- At a sign of a comment. -/
theorem comS_sign (l : List UInt8) (k : Nat) :
    (∀ n : Nat, Lib.indexByte (37 :: l) 10 = n → 1 ≤ n ∧ n < l.length + 1 ∧ comS none k (37 :: l) = (k, k + n) :: comS none (k + n + 1) ((37 :: l).drop (n + 1))) ∧ (Lib.indexByte (37 :: l) 10 < 0 → comS none k (37 :: l) = [(k, k + (l.length + 1))]) := by
  obtain ⟨h1, h2⟩ := comS_some l k (k + 1)
  have hge := Lib.indexByte_ge l 10
  refine ⟨fun n h => ?_, fun h => ?_⟩
  · unfold Lib.indexByte at h
    rw [show ((37 : UInt8) == 10) = false from rfl] at h
    simp only [Bool.false_eq_true, if_false] at h
    by_cases hm : Lib.indexByte l 10 = -1
    · rw [hm] at h; simp at h <;> omega
    · rw [if_neg (by simpa using hm)] at h
      obtain ⟨m, rfl⟩ : ∃ m, n = m + 1 := ⟨n - 1, by omega⟩
      obtain ⟨h3, h4⟩ := h1 m (by omega)
      refine ⟨by omega, by omega, ?_⟩
      simp only [comS, if_true, List.drop_succ_cons, h4]
      rw [show k + 1 + m = k + (m + 1) by omega]
  · unfold Lib.indexByte at h
    rw [show ((37 : UInt8) == 10) = false from rfl] at h
    simp only [Bool.false_eq_true, if_false] at h
    by_cases hm : Lib.indexByte l 10 = -1
    · simp only [comS, if_true]
      rw [h2 (by omega)]
      simp
      omega
    · rw [if_neg (by simpa using hm)] at h
      omega

def cellsC (l : List (Nat × Nat)) : List Value := l.flatMap fun x => [.int .i64 x.1, .int .i64 x.2]
theorem cellsC_snoc (l : List (Nat × Nat)) (x : Nat × Nat) : cellsC (l ++ [x]) = cellsC l ++ [.int .i64 x.1, .int .i64 x.2] := by simp [cellsC]
theorem info_pair : (Try.prog.info? 39).map (fun i => (i.zero, i.size, i.bytes)) = some (some (.agg #[.int .i64 0, .int .i64 0]), 2, 16) := by kernel_rfl

theorem cell_two_new (w : World) (x y : Value) (t : TypeId) : ∀ j u, ([x, y] : List Value)[j]? = some u → (w.alloc (.cells #[x, y] t)).cell? ((⟨w.heap.size, 0, none⟩ : Addr).add j) = some u := by
  intro j u h
  rw [show (⟨w.heap.size, 0, none⟩ : Addr).add j = ⟨w.heap.size, j, none⟩ from by unfold Addr.add; split <;> simp_all, cell_of_row _ _ j _ _ (0, 0) (Go.heap_alloc_new _ _)]
  simpa using h

set_option maxHeartbeats 1000000 in
set_option maxRecDepth 100000 in
theorem comments_any (s : ByteArray) (w : World) (hs : s.size ≤ 8796093022206) :
    Calls Try.prog 23 #[.string s] w fun e w' => ∃ v, e = .returned v ∧ w'.ownsRow w.heap.size 39 2 v (comS none 0 s.data.toList).length (cellsC (comS none 0 s.data.toList)) ∧ Below w.heap.size w w' := by
  obtain ⟨i0, hi, hz0, hz1, hz2⟩ := info_parts info_pair
  obtain ⟨R, hR⟩ : ∃ R, R = comS none 0 s.data.toList := ⟨_, rfl⟩
  rw [← hR]
  have HR := Lib.hid hR
  have HI := Lib.hid hi
  have HZ0 := Lib.hid hz0
  have HZ1 := Lib.hid hz1
  have HZ2 := Lib.hid hz2
  clear hR hi hz0 hz1 hz2
  go_enter Try.func23, Try.ntmps23
  go_wp2_with fail
  go_loopw [3, 4] (fun v i wr => ∃ (k : Nat) (acc : List (Nat × Nat)) (A0 : Option Addr) (k0 c0 : Nat), v = .slice A0 k0 c0 ∧ i = .int .i64 k ∧ k ≤ s.size + 1 ∧ wr.ownsRow w.heap.size 39 2 v acc.length (cellsC acc) ∧ Below w.heap.size w wr ∧ acc ++ comS none k (s.data.toList.drop k) = R ∧ acc.length ≤ k) (fun _ i _ => s.size + 1 - (intOf i).toNat)
  case atStart => exact ⟨0, [], none, 0, 0, rfl, rfl, Nat.zero_le _, own_nil _ _ _ _, Below.refl _ _, HR.out.symm, Nat.le_refl _⟩
  case round =>
    obtain ⟨k, acc, A0, k0, c0, rfl, rfl, hk, hown, hb, hc, hal⟩ := hrel
    have HB := Lib.hid hb
    have HC := Lib.hid hc
    have HO := Lib.hid hown
    clear hb hc hown
    by_cases hlt : k < s.size
    · have hdr := drop_cons' s k hlt
      have hbt := s[k].toNat_lt
      have e37 := byteEq s[k] 37 (by omega)
      rw [show (37 : Nat).toUInt8 = 37 from rfl] at e37
      cases h37 : (s[k] == 37)
      · have g37 : ((s[k].toNat : Int) != 37) = true := by rw [h37] at e37; simp only [bne, Bool.not_eq_true']; exact e37
        have hC := HC.out
        rw [hdr, comS, if_neg (by simpa using h37)] at hC
        have HC2 := Lib.hid hC
        clear h37 e37 hC hdr
        go_wp2_with fail
        exact ⟨⟨k + 1, acc, A0, k0, c0, rfl, by go_num, by omega, HO.out, HB.out, HC2.out, by omega⟩, by simp [intOf]; omega⟩
      · have g37 : ((s[k].toNat : Int) != 37) = false := by rw [h37] at e37; simp only [bne, Bool.not_eq_false']; exact e37
        have hsk : s[k] = 37 := by simpa using h37
        rw [hsk] at hdr
        have HDR := Lib.hid hdr
        have hss := comS_sign (s.data.toList.drop (k + 1)) k
        have HSS := Lib.hid hss
        have hge := Lib.indexByte_ge (s.data.toList.drop k) 10
        obtain ⟨j, hj⟩ : ∃ j, j = Lib.indexByte (s.data.toList.drop k) 10 := ⟨_, rfl⟩
        rw [← hj] at hge
        have HJ := Lib.hid hj
        have HC2 := HC.out
        rw [hdr] at HC2
        have HC2 := Lib.hid HC2
        have hwr := HB.out.size
        have HWR := Lib.hid hwr
        clear h37 e37 hsk hss hj hdr hwr
        by_cases hj0 : 0 ≤ j
        · obtain ⟨m, rfl⟩ := Int.eq_ofNat_of_zero_le hj0
          have h1 := HSS.out.1 m (by rw [← HDR.out]; exact HJ.out.symm)
          have hm1 : k + m < s.size := by have := h1.2.1; simp at this; omega
          have hm2 : 1 ≤ m := h1.1
          have H3 := Lib.hid h1.2.2
          clear h1
          go_wp2_with (first
            | (go_at_call 57; refine (strings_IndexByte_any _ _ _).mono ?_; rintro e w' ⟨rfl, rfl⟩; rw [drop_tail s k]; rw [show (10 : Int).toNat.toUInt8 = 10 from rfl]; rw [← HJ.out])
            | (at_builtin; refine wpList_append_own _ rfl _ _ 37 rfl w.heap.size 39 i0 _ 2 16 Try.underlying37 HI.out HZ0.out HZ1.out HZ2.out rfl (by decide) (.slice A0 k0 c0) acc.length (cellsC acc) rfl (HO.out.alloc _) ⟨wr.heap.size, 0, none⟩ 1 1 [.int .i64 k, .int .i64 (k + m)] rfl rfl (cell_two_new _ _ _ _) (by simp [Value.oneCell']) (by unfold maxLen; omega) (by omega) (by have := HWR.out; simp; omega) ?_; intro v' w1 hown' hgrow _; obtain ⟨g', cap', rfl⟩ := ownsRow_succ hown'))
          have hB2 := (HB.out.alloc HWR.out _).grown hgrow (by have := HWR.out; simp; omega) (fun g hg => (HO.out.lt g hg).1)
          have hc := HC2.out
          rw [H3.out, ← HDR.out, List.drop_drop] at hc
          refine ⟨⟨k + m + 1, acc ++ [(k, k + m)], _, _, _, rfl, by go_num, by omega, ?_, hB2, ?_, by simp; omega⟩, by simp [intOf]; omega⟩
          · rw [cellsC_snoc, List.length_append]
            simpa using hown'
          · rw [List.append_assoc, ← hc]
            simp only [List.cons_append, List.nil_append]
            rw [show k + (m + 1) = k + m + 1 by omega]
        · have h1 := HSS.out.2 (by rw [← HDR.out, ← HJ.out]; omega)
          have H3 := Lib.hid h1
          have hlen : (k + ((s.data.toList.drop (k + 1)).length + 1) : Nat) = s.size := by simp; omega
          have HL := Lib.hid hlen
          clear h1 hlen
          go_wp2_with (first
            | (go_at_call 57; refine (strings_IndexByte_any _ _ _).mono ?_; rintro e w' ⟨rfl, rfl⟩; rw [drop_tail s k]; rw [show (10 : Int).toNat.toUInt8 = 10 from rfl]; rw [← HJ.out])
            | (at_builtin; refine wpList_append_own _ rfl _ _ 37 rfl w.heap.size 39 i0 _ 2 16 Try.underlying37 HI.out HZ0.out HZ1.out HZ2.out rfl (by decide) (.slice A0 k0 c0) acc.length (cellsC acc) rfl (HO.out.alloc _) ⟨wr.heap.size, 0, none⟩ 1 1 [.int .i64 k, .int .i64 s.size] rfl rfl (cell_two_new _ _ _ _) (by simp [Value.oneCell']) (by unfold maxLen; omega) (by omega) (by have := HWR.out; simp; omega) ?_; intro v' w1 hown' hgrow _; obtain ⟨g', cap', rfl⟩ := ownsRow_succ hown'))
          have hB2 := (HB.out.alloc HWR.out _).grown hgrow (by have := HWR.out; simp; omega) (fun g hg => (HO.out.lt g hg).1)
          have hc := HC2.out
          rw [H3.out, HL.out] at hc
          refine ⟨⟨s.size + 1, acc ++ [(k, s.size)], _, _, _, rfl, by go_num, by omega, ?_, hB2, ?_, by simp; omega⟩, by simp [intOf]; omega⟩
          · rw [cellsC_snoc, List.length_append]
            simpa using hown'
          · rw [List.drop_of_length_le (by simp)]
            simp only [comS, List.append_nil]
            exact hc
    · go_wp2_with fail
      go_ret
      have h := HC.out
      rw [List.drop_of_length_le (by simp; omega), comS, List.append_nil] at h
      exact ⟨_, rfl, by rw [← h]; exact HO.out, HB.out⟩

end Go.Proofs.Ytkolnimgdbhekaa.P
