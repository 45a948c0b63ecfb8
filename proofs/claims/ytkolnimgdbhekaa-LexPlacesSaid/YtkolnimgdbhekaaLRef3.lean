/- The reference's Scan, Same, Equal: the plain scanner's. -/
import Derived.Test.YtkolnimgdbhekaaLRef2
namespace Go.Proofs.Ytkolnimgdbhekaa.P
open Go.RowKit Go.Proofs.YtkolnimgdbhekaaW.PrintWords Go.Proofs.YtkolnimgdbhekaaW.PrintLast Go.Proofs.YtkolnimgdbhekaaW.PrintMore

/-- How many bytes stand ahead of the next line feed. -/
def lineN : List UInt8 → Nat
  | [] => 0
  | c :: l => if c = 10 then 0 else lineN l + 1
theorem lineN_le : ∀ l : List UInt8, lineN l ≤ l.length
  | [] => Nat.le_refl _
  | c :: l => by
    unfold lineN
    have := lineN_le l
    split <;> simp <;> omega
theorem skip_line : ∀ l : List UInt8, skipN true l = lineN l + skipN false (l.drop (lineN l))
  | [] => rfl
  | c :: l => by
    by_cases hc : c = 10
    · subst hc
      simp [skipN, lineN, blankB]
    · simp only [skipN, lineN, if_neg hc, List.drop_succ_cons]
      rw [skip_line l]
      omega
theorem byte10 (c : UInt8) : ((c.toNat : Int) = 10) ↔ c = 10 := byte_eq c 10 (by omega)
theorem byte37 (c : UInt8) : ((c.toNat : Int) = 37) ↔ c = 37 := byte_eq c 37 (by omega)
theorem lineEnd_f (s : ByteArray) (hs : s.size ≤ 140737488351232) : ∀ (d i k : Nat), i + d = s.size → d < k → peculiumref01_lineEnd.l0 k s (i : Int) = some ((i + lineN (s.data.toList.drop i) : Nat) : Int) := by
  intro d
  induction d with
  | zero =>
    intro i k h1 h2
    obtain ⟨k, rfl⟩ : ∃ m, k = m + 1 := ⟨k - 1, by omega⟩
    unfold peculiumref01_lineEnd.l0
    rw [if_neg (by omega), List.drop_of_length_le (by simp; omega)]
    rfl
  | succ d ih =>
    intro i k h1 h2
    obtain ⟨k, rfl⟩ : ∃ m, k = m + 1 := ⟨k - 1, by omega⟩
    have hi : i < s.size := by omega
    unfold peculiumref01_lineEnd.l0
    rw [if_pos (by omega), if_pos (by omega), bt_nat s i hi, drop_cons' s i hi, lineN]
    by_cases hc : s[i] = 10
    · rw [if_pos ((byte10 _).2 hc), if_pos hc]
      rfl
    · rw [if_neg (fun h => hc ((byte10 _).1 h)), if_neg hc, wrap_succ i (by omega), ih (i + 1) k (by omega) (by omega)]
      congr 2
      omega
theorem word_short (x : List UInt8) (h : wordsL.contains x = true) : x.length ≤ 7 := by
  have h2 : x ∈ wordsL := by simpa using h
  have : ∀ y ∈ wordsL, y.length ≤ 7 := by decide
  exact this x h2
theorem tok_kind {l : List UInt8} {kd n : Nat} (h : tok l = some (kd, n)) : (kd = 1 ∨ kd = 2) ∨ (kd = 3 ∨ kd = 4) ∧ n ≤ 7 := by
  match l, h with
  | b :: r, h =>
    simp only [tok] at h
    split at h
    · split at h
      · simp at h
        omega
      · split at h
        · rename_i hw
          have h1 := word_short _ hw
          have h2 := nameN_le (b :: r)
          rw [List.length_take, Nat.min_eq_left h2] at h1
          simp at h
          omega
        · simp at h
          omega
    · split at h
      · simp at h
        omega
      · split at h
        · simp at h
          omega
        · split at h
          · split at h
            · simp at h
              omega
            · split at h
              · cases h
              · simp at h
                omega
          · split at h
            · simp at h
              omega
            · cases h
theorem extract_mk (s : ByteArray) (i n : Nat) : s.extract i (i + n) = ⟨((s.data.toList.drop i).take n).toArray⟩ := by
  have h := extract_take s i n
  rw [Lib.toList_data] at h
  rw [← h]

theorem scan_f (s : ByteArray) (hs : s.size ≤ 20000) : ∀ (d i k f : Nat) (acc : List S34), i + d = s.size → s.size + 45 + d < k → d < f → acc.length ≤ 6000 →
    peculiumref01_Scan.l0 k s acc (i : Int) = some (scanA f (s.data.toList.drop (i + skipN false (s.data.toList.drop i))) (i + skipN false (s.data.toList.drop i)) acc) := by
  intro d
  induction d using Nat.strongRecOn with
  | ind d ih =>
    intro i k f acc h1 h2 hf ha
    obtain ⟨k, rfl⟩ : ∃ m, k = m + 1 := ⟨k - 1, by omega⟩
    obtain ⟨f, rfl⟩ : ∃ m, f = m + 1 := ⟨f - 1, by omega⟩
    by_cases hi : i < s.size
    · have hdr := drop_cons' s i hi
      rw [peculiumref01_Scan.l0, if_pos (by omega), if_pos (by omega), bt_nat s i hi, blank_f, Option.bind_some]
      by_cases hb : blankB s[i] = true
      · rw [if_pos hb, wrap_succ i (by omega), ih (d - 1) (by omega) (i + 1) k (f + 1) acc (by omega) (by omega) (by omega) ha]
        have : skipN false (s.data.toList.drop i) = skipN false (s.data.toList.drop (i + 1)) + 1 := by
          rw [hdr, skipN, if_pos hb]
        rw [this, show i + (skipN false (s.data.toList.drop (i + 1)) + 1) = i + 1 + skipN false (s.data.toList.drop (i + 1)) by omega]
      · rw [if_neg hb]
        by_cases h37 : s[i] = 37
        · rw [if_pos ((byte37 _).2 h37)]
          unfold peculiumref01_lineEnd.f
          rw [lineEnd_f s (by omega) (s.size - i) i k (by omega) (by omega), Option.bind_some]
          have hl1 : lineN (s.data.toList.drop i) = lineN (s.data.toList.drop (i + 1)) + 1 := by rw [hdr, lineN, if_neg (by rw [h37]; decide)]
          have hle := lineN_le (s.data.toList.drop i)
          simp at hle
          have hsk : skipN false (s.data.toList.drop i) = lineN (s.data.toList.drop i) + skipN false (s.data.toList.drop (i + lineN (s.data.toList.drop i))) := by
            rw [hl1]
            conv => lhs; rw [hdr, skipN, if_neg hb, if_pos h37]
            rw [skip_line, List.drop_drop, show i + 1 + lineN (s.data.toList.drop (i + 1)) = i + (lineN (s.data.toList.drop (i + 1)) + 1) by omega]
            omega
          rw [ih (s.size - (i + lineN (s.data.toList.drop i))) (by omega) (i + lineN (s.data.toList.drop i)) k (f + 1) acc (by omega) (by omega) (by omega) ha]
          rw [hsk, Nat.add_assoc]
        · rw [if_neg (fun h => h37 ((byte37 _).1 h)), rtok_f s (by omega) i hi k (by omega), Option.bind_some]
          have hsk : skipN false (s.data.toList.drop i) = 0 := by rw [hdr, skipN, if_neg hb, if_neg h37]
          rw [hsk, show i + 0 = i from rfl]
          unfold tokR
          rw [hdr]
          cases ht : tok (s[i] :: s.data.toList.drop (i + 1)) with
          | none =>
            rw [if_pos rfl]
            simp only [scanA, ht]
          | some p =>
            obtain ⟨kd, n⟩ := p
            have hk := tok_kind ht
            have hn := tok_le ht
            rw [← hdr] at hn ht
            have hn2 := hn.2
            simp at hn2
            simp only
            rw [if_neg (by omega)]
            rw [← hdr]
            by_cases h6 : acc.length = 6000
            · rw [if_pos (by omega)]
              rw [hdr] at ht ⊢
              simp only [scanA, ht, if_pos h6]
            · rw [if_neg (by omega)]
              have hw : wrap64 (((i + n : Nat) : Int) - (i : Int)) = (n : Int) := by unfold wrap64; omega
              rw [hw]
              by_cases h40 : 40 < n
              · rw [if_pos (by omega)]
                rw [hdr] at ht ⊢
                simp only [scanA, ht, if_neg h6]
                rw [if_pos ⟨by omega, h40⟩]
              · rw [if_neg (by omega), if_pos (by omega), if_pos (by omega), if_pos (by omega)]
                rw [ih (s.size - (i + n)) (by omega) (i + n) k f _ (by omega) (by omega) (by omega) (by simp; omega)]
                have hsc : scanA (f + 1) (s.data.toList.drop i) i acc = scanA f (((s.data.toList.drop i).drop n).drop (skipN false ((s.data.toList.drop i).drop n))) (i + n + skipN false ((s.data.toList.drop i).drop n)) (acc ++ [⟨kd, ⟨((s.data.toList.drop i).take n).toArray⟩, i⟩]) := by
                  rw [hdr] at ht ⊢
                  simp only [scanA, ht, if_neg h6]
                  rw [if_neg (by omega)]
                have hdd : (s.data.toList.drop i).drop n = s.data.toList.drop (i + n) := List.drop_drop
                rw [hdd, List.drop_drop] at hsc
                rw [hsc, Int.toNat_natCast, Int.toNat_natCast, extract_mk]
    · obtain rfl : i = s.size := by omega
      rw [peculiumref01_Scan.l0, if_neg (by omega)]
      have hd : s.data.toList.drop s.size = [] := List.drop_of_length_le (by simp)
      rw [hd]
      simp only [skipN, Nat.add_zero]
      rw [hd]
      rfl
theorem refScan_f (s : ByteArray) (k : Nat) (hk : 50000 < k) : peculiumref01_Scan.f k s = some (scanL s.data.toList) := by
  unfold peculiumref01_Scan.f scanL
  by_cases h : 20000 < s.size
  · rw [if_pos (by omega), if_pos (by simpa using h)]
  · rw [if_neg (by omega), if_neg (by simpa using h)]
    have := scan_f s (by omega) s.size 0 k (s.data.toList.length + 1) [] (by omega) (by omega) (by simp) (by simp)
    rw [Nat.zero_add, List.drop_zero] at this
    exact this

theorem rd_at (l : List S34) (i : Nat) (h : i < l.length) : rd_T34 l (i : Int) = l[i] := by simp [rd_T34, h]
theorem refSame_f (a b : List S34) (ha : a.length ≤ 1000000000) (hab : a.length = b.length) : ∀ (d i k : Nat), i + d = a.length → d < k →
    peculiumref01_Same.l0 k a b (i : Int) = some (sameL (a.drop i) (b.drop i)) := by
  intro d
  induction d with
  | zero =>
    intro i k h1 h2
    obtain ⟨k, rfl⟩ : ∃ m, k = m + 1 := ⟨k - 1, by omega⟩
    rw [peculiumref01_Same.l0, if_neg (by omega), List.drop_of_length_le (by omega), List.drop_of_length_le (by omega)]
    rfl
  | succ d ih =>
    intro i k h1 h2
    obtain ⟨k, rfl⟩ : ∃ m, k = m + 1 := ⟨k - 1, by omega⟩
    rw [peculiumref01_Same.l0, if_pos (by omega), if_pos (by omega), if_pos (by omega)]
    rw [rdT_drop a i (by omega), rdT_drop b i (by omega), sameL]
    unfold sameT
    by_cases h0 : (rd_T34 a i).f0 = (rd_T34 b i).f0
    · rw [if_pos h0]
      by_cases h1 : (rd_T34 a i).f1.toList = (rd_T34 b i).f1.toList
      · rw [if_pos h1, wrap_succ i (by omega), ih (i + 1) k (by omega) (by omega)]
        simp [h0, h1]
      · rw [if_neg h1]
        simp [h0, h1]
    · rw [if_neg h0]
      simp [h0]
theorem refSame (a b : List S34) (ha : a.length ≤ 1000000000) (k : Nat) (hk : a.length < k) : peculiumref01_Same.f k a b = some (sameL a b) := by
  unfold peculiumref01_Same.f
  by_cases h : a.length = b.length
  · rw [if_pos (by omega)]
    have := refSame_f a b ha h a.length 0 k (by omega) hk
    simpa using this
  · rw [if_neg (by omega)]
    cases hb : sameL a b
    · rfl
    · exact absurd (sameL_len _ _ hb) h
theorem sameL_refl : ∀ a : List S34, sameL a a = true
  | [] => rfl
  | x :: a => by simp [sameL, sameT, sameL_refl a]
theorem refEqual_refl (a : List S34) (ha : a.length ≤ 1000000000) (k : Nat) (hk : a.length < k) : peculiumref01_Equal.f k a a = some true := by
  unfold peculiumref01_Equal.f
  rw [refSame a a ha k hk, Option.bind_some, sameL_refl, if_pos rfl]
  have : ∀ (d i k : Nat), i + d = a.length → d < k → peculiumref01_Equal.l0 k a a (i : Int) = some true := by
    intro d
    induction d with
    | zero =>
      intro i k h1 h2
      obtain ⟨k, rfl⟩ : ∃ m, k = m + 1 := ⟨k - 1, by omega⟩
      rw [peculiumref01_Equal.l0, if_neg (by omega)]
    | succ d ih =>
      intro i k h1 h2
      obtain ⟨k, rfl⟩ : ∃ m, k = m + 1 := ⟨k - 1, by omega⟩
      rw [peculiumref01_Equal.l0, if_pos (by omega), if_pos (by omega), if_pos (by omega), if_pos rfl, wrap_succ i (by omega), ih (i + 1) k (by omega) (by omega)]
  exact this a.length 0 k (by omega) hk
theorem scanA_len : ∀ (f : Nat) (l : List UInt8) (i : Nat) (acc : List S34), acc.length ≤ 6000 → (scanA f l i acc).1.length ≤ 6000
  | 0, _, _, _, h => h
  | _ + 1, [], _, _, h => h
  | f + 1, b :: r, i, acc, h => by
    simp only [scanA]
    split
    · simp
    · split
      · simp
      · split
        · simp
        · exact scanA_len f _ _ _ (by simp; omega)
theorem scanL_len (l : List UInt8) : (scanL l).1.length ≤ 6000 := by
  unfold scanL
  split
  · simp
  · exact scanA_len _ _ _ _ (by simp)

end Go.Proofs.Ytkolnimgdbhekaa.P
