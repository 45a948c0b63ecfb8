/- Lines and places: the program's and the reference's Lines, Place, as plain functions; what they say of each other. -/
import Derived.Test.YtkolnimgdbhekaaLRef
import Derived.Test.YtkolnimgdbhekaaLPlace
namespace Go.Proofs.Ytkolnimgdbhekaa.P
open Go.RowKit Go.Proofs.YtkolnimgdbhekaaW.PrintWords Go.Proofs.YtkolnimgdbhekaaW.PrintLast Go.Proofs.YtkolnimgdbhekaaW.PrintMore

/-- The beginnings of lines within the first k bytes; where the last of them begins; how many line feeds. -/
def lnN (l : List UInt8) : Nat → List Nat
  | 0 => [0]
  | k + 1 => if l[k]? = some 10 then lnN l k ++ [k + 1] else lnN l k
def stN (l : List UInt8) : Nat → Nat
  | 0 => 0
  | k + 1 => if l[k]? = some 10 then k + 1 else stN l k
def ctN (l : List UInt8) : Nat → Nat
  | 0 => 0
  | k + 1 => if l[k]? = some 10 then ctN l k + 1 else ctN l k
theorem lnN_len (l : List UInt8) : ∀ k, (lnN l k).length = ctN l k + 1
  | 0 => rfl
  | k + 1 => by
    have := lnN_len l k
    unfold lnN ctN
    split <;> simp [this]
theorem ctN_le (l : List UInt8) : ∀ k, ctN l k ≤ k
  | 0 => Nat.le_refl _
  | k + 1 => by
    have := ctN_le l k
    unfold ctN
    split <;> omega
theorem stN_le (l : List UInt8) : ∀ k, stN l k ≤ k
  | 0 => Nat.le_refl _
  | k + 1 => by
    have := stN_le l k
    unfold stN
    split <;> omega
theorem lnN_last (l : List UInt8) : ∀ k, (lnN l k)[ctN l k]? = some (stN l k)
  | 0 => rfl
  | k + 1 => by
    have h := lnN_last l k
    have hl := lnN_len l k
    unfold lnN ctN stN
    split
    · rw [List.getElem?_append_right (by omega), show ctN l k + 1 - (lnN l k).length = 0 by omega]
      rfl
    · exact h
theorem lnN_more (l : List UInt8) (p : Nat) : ∀ d, ∃ t, lnN l (p + d) = lnN l p ++ t ∧ ∀ x ∈ t, p < x
  | 0 => ⟨[], by simp⟩
  | d + 1 => by
    obtain ⟨t, h1, h2⟩ := lnN_more l p d
    rw [show p + (d + 1) = (p + d) + 1 by omega, lnN]
    split
    · refine ⟨t ++ [p + d + 1], by rw [h1, List.append_assoc], fun x hx => ?_⟩
      rcases List.mem_append.1 hx with h | h
      · exact h2 x h
      · simp at h
        omega
    · exact ⟨t, h1, h2⟩
theorem st_st (l : List UInt8) : ∀ k, stN l (stN l k) = stN l k ∧ ctN l (stN l k) = ctN l k
  | 0 => ⟨rfl, rfl⟩
  | k + 1 => by
    obtain ⟨h1, h2⟩ := st_st l k
    by_cases h : l[k]? = some 10
    · have e1 : stN l (k + 1) = k + 1 := by rw [stN, if_pos h]
      rw [e1]
      exact ⟨e1, rfl⟩
    · have e1 : stN l (k + 1) = stN l k := by rw [stN, if_neg h]
      have e2 : ctN l (k + 1) = ctN l k := by rw [ctN, if_neg h]
      rw [e1, e2]
      exact ⟨h1, h2⟩
theorem ct_count (l : List UInt8) : ∀ k, k ≤ l.length → Lib.countByte (l.take k) 10 = ctN l k
  | 0, _ => by simp [Lib.countByte, ctN]
  | k + 1, hk => by
    have ih := ct_count l k (by omega)
    have hg : l[k]? = some l[k] := by simp
    rw [ctN, List.take_add_one, hg]
    unfold Lib.countByte at ih ⊢
    rw [List.count_append, ih]
    by_cases h : l[k] = 10
    · rw [if_pos (by rw [h])]
      simp [h]
    · rw [if_neg (by simpa using h)]
      simp [h]
theorem last_st (s : ByteArray) (p : Nat) (hp : p ≤ s.size) : ∀ k, k ≤ p → Lib.lastIdx (s.extract 0 p) 10 k = (stN s.data.toList k : Int) - 1
  | 0, _ => rfl
  | k + 1, hk => by
    have ih := last_st s p hp k (by omega)
    have hlt : k < s.size := by omega
    have hg : s.data.toList[k]? = some s[k] := by simp [hlt]; rfl
    have hb : (s.extract 0 p).data[k]! = s[k] := by
      have h1 : k < (s.extract 0 p).data.size := by simp; omega
      rw [getElem!_pos (s.extract 0 p).data k h1]
      simp
      rfl
    rw [Lib.lastIdx, hb, stN, hg]
    by_cases h : s[k] = 10
    · rw [if_pos (by rw [h]; rfl), if_pos (by rw [h])]
      omega
    · rw [if_neg (fun h2 => h ((byte10 _).1 h2)), if_neg (by simpa using h)]
      exact ih
theorem placeL_eq (s : ByteArray) (p : Nat) (hp : p ≤ s.size) : placeL s p = ((ctN s.data.toList p : Int) + 1, (p : Int) - ((stN s.data.toList p : Int) - 1), 0) := by
  unfold placeL
  rw [if_neg (by omega), Int.toNat_natCast]
  have h1 : (s.extract 0 p).data.toList = s.data.toList.take p := by simp
  have h2 : Lib.lastIndexByte (s.extract 0 p) 10 = (stN s.data.toList p : Int) - 1 := by
    unfold Lib.lastIndexByte
    rw [show (s.extract 0 p).size = p by simp; omega]
    exact last_st s p hp p (Nat.le_refl _)
  rw [h1, ct_count _ _ (by simpa using hp), h2]

def linesI (l : List UInt8) (k : Nat) : List Int := (lnN l k).map fun (n : Nat) => (n : Int)
theorem lines_f (s : ByteArray) (hs : s.size ≤ 140737488351232) (hcap : s.size < 17592186044415) : ∀ (d i k : Nat), i + d = s.size → d < k → lex_Lines.l0 k s (linesI s.data.toList i) (s.size : Int) (i : Int) = some (linesI s.data.toList s.size) := by
  intro d
  induction d with
  | zero =>
    intro i k h1 h2
    obtain ⟨k, rfl⟩ : ∃ m, k = m + 1 := ⟨k - 1, by omega⟩
    rw [lex_Lines.l0, if_neg (by omega), show i = s.size by omega]
  | succ d ih =>
    intro i k h1 h2
    obtain ⟨k, rfl⟩ : ∃ m, k = m + 1 := ⟨k - 1, by omega⟩
    have hi : i < s.size := by omega
    have hg : s.data.toList[i]? = some s[i] := by simp [hi]; rfl
    have hl : (linesI s.data.toList i).length ≤ i + 1 := by
      have := ctN_le s.data.toList i
      unfold linesI
      rw [List.length_map, lnN_len]
      omega
    have ih' := ih (i + 1) k (by omega) (by omega)
    rw [lex_Lines.l0, if_pos (by omega), if_pos (by omega), if_pos (by omega), bt_nat s i hi, wrap_succ i (by omega)]
    by_cases h : s[i] = 10
    · rw [if_pos ((byte10 _).2 h), if_pos (by omega)]
      rw [show linesI s.data.toList (i + 1) = linesI s.data.toList i ++ [((i + 1 : Nat) : Int)] by unfold linesI; rw [lnN, hg, if_pos (by rw [h]), List.map_append]; rfl] at ih'
      exact ih'
    · rw [if_neg (fun h2 => h ((byte10 _).1 h2))]
      rw [show linesI s.data.toList (i + 1) = linesI s.data.toList i by unfold linesI; rw [lnN, hg, if_neg (by simpa using h)]] at ih'
      exact ih'
theorem lexLines_f (s : ByteArray) (hs : s.size ≤ 30000) (k : Nat) (hk : 30001 < k) : lex_Lines.f k s = some (linesI s.data.toList s.size) :=
  lines_f s (by omega) (by omega) s.size 0 k (by omega) (by omega)
theorem rd_lines (l : List UInt8) (k j x : Nat) (h : (lnN l k)[j]? = some x) : rd (linesI l k) (j : Int) = (x : Int) := by
  unfold rd linesI
  rw [Int.toNat_natCast, List.getD_eq_getElem?_getD, List.getElem?_map, h]
  rfl

end Go.Proofs.Ytkolnimgdbhekaa.P
