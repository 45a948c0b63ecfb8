/- The reference's functions, as the print has them, say what the plain scanner says. -/
import Derived.Test.YtkolnimgdbhekaaLTok1
import Derived.Test.YtkolnimgdbhekaaLSame
import Derived.Test.YtkolnimgdbhekaaPx7
import Derived.Test.YtkolnimgdbhekaaPx8
import Derived.Test.YtkolnimgdbhekaaPx9
namespace Go.Proofs.Ytkolnimgdbhekaa.P
open Go.RowKit Go.Proofs.YtkolnimgdbhekaaW.PrintWords Go.Proofs.YtkolnimgdbhekaaW.PrintLast Go.Proofs.YtkolnimgdbhekaaW.PrintMore

theorem bt_nat (s : ByteArray) (i : Nat) (h : i < s.size) : bt s (i : Int) = (s[i].toNat : Int) := by
  rw [← bt_at s i (by simpa using h)]
  simp
theorem small_f (c : UInt8) : peculiumref01_small.f (c.toNat : Int) = some (smallB c) := by
  have := of_bytes (p := fun c => peculiumref01_small.f (c.toNat : Int) == some (smallB c)) (by decide +kernel) c
  simpa using this
theorem capital_f (c : UInt8) : peculiumref01_capital.f (c.toNat : Int) = some (capB c) := by
  have := of_bytes (p := fun c => peculiumref01_capital.f (c.toNat : Int) == some (capB c)) (by decide +kernel) c
  simpa using this
theorem part_f (c : UInt8) : peculiumref01_part.f (c.toNat : Int) = some (partB c) := by
  have := of_bytes (p := fun c => peculiumref01_part.f (c.toNat : Int) == some (partB c)) (by decide +kernel) c
  simpa using this
theorem blank_f (c : UInt8) : peculiumref01_blank.f (c.toNat : Int) = some (blankB c) := by
  have := of_bytes (p := fun c => peculiumref01_blank.f (c.toNat : Int) == some (blankB c)) (by decide +kernel) c
  simpa using this
theorem byte_eq (c : UInt8) (k : Nat) (hk : k < 256) : ((c.toNat : Int) = (k : Int)) ↔ c = k.toUInt8 := by
  have := c.toNat_lt
  constructor
  · intro h
    apply UInt8.toNat_inj.1
    simp [Nat.toUInt8]
    omega
  · rintro rfl
    simp [Nat.toUInt8]
    omega
theorem wrap_nat (n : Nat) (h : n ≤ 9223372036854775807) : wrap64 (n : Int) = (n : Int) := by unfold wrap64; omega
theorem wrap_succ (n : Nat) (h : n < 9223372036854775807) : wrap64 ((n : Int) + 1) = ((n + 1 : Nat) : Int) := by unfold wrap64; omega

theorem run_f (s : ByteArray) (hs : s.size ≤ 140737488351232) : ∀ (d i k : Nat), i + d = s.size → d < k → peculiumref01_run.l0 k s (i : Int) = some ((i + runN (s.data.toList.drop i) : Nat) : Int) := by
  intro d
  induction d with
  | zero =>
    intro i k h1 h2
    obtain ⟨k, rfl⟩ : ∃ m, k = m + 1 := ⟨k - 1, by omega⟩
    unfold peculiumref01_run.l0
    rw [if_neg (by omega), List.drop_of_length_le (by simp; omega)]
    rfl
  | succ d ih =>
    intro i k h1 h2
    obtain ⟨k, rfl⟩ : ∃ m, k = m + 1 := ⟨k - 1, by omega⟩
    have hi : i < s.size := by omega
    unfold peculiumref01_run.l0
    rw [if_pos (by omega), if_pos (by omega), bt_nat s i hi, part_f, drop_cons' s i hi, runN]
    simp only [Option.bind_some]
    cases hp : partB s[i]
    · simp
    · simp only [if_true]
      rw [wrap_succ i (by omega), ih (i + 1) k (by omega) (by omega)]
      congr 2
      omega
theorem extract_take (s : ByteArray) (i n : Nat) : (s.extract i (i + n)).toList = (s.data.toList.drop i).take n := by
  rw [Lib.toList_data, ByteArray.data_extract, Array.toList_extract, List.extract_eq_take_drop]
  simp
theorem isAt_f (s p : ByteArray) (i : Nat) (hs : s.size ≤ 140737488351232) (hi : i ≤ s.size) (hp : p.size ≤ 100) : peculiumref01_isAt.f s (i : Int) p = some ((s.data.toList.drop i).take p.size == p.data.toList) := by
  unfold peculiumref01_isAt.f
  have hw : wrap64 ((i : Int) + (p.size : Int)) = ((i + p.size : Nat) : Int) := by unfold wrap64; omega
  rw [hw]
  by_cases h : i + p.size ≤ s.size
  · rw [if_pos (by omega), if_pos (by omega), if_pos (by omega)]
    rw [Int.toNat_natCast, Int.toNat_natCast, extract_take, Lib.toList_data]
  · rw [if_neg (by omega)]
    congr 1
    symm
    rw [beq_eq_false_iff_ne]
    intro he
    have := congrArg List.length he
    simp at this
    omega

theorem refIndex_f (x : ByteArray) (l : List ByteArray) (hl : l.length < 1000000) : ∀ (d k i : Nat), i + d = l.length → d < k →
    ∃ j : Int, peculiumref01_Index.l0 k l x (i : Int) = some j ∧ decide (j ≥ 0) = ((l.drop i).map fun b => b.data.toList).contains x.data.toList := by
  intro d
  induction d with
  | zero =>
    intro k i h1 h2
    obtain ⟨k, rfl⟩ : ∃ m, k = m + 1 := ⟨k - 1, by omega⟩
    refine ⟨-1, ?_, ?_⟩
    · simp only [peculiumref01_Index.l0]
      rw [if_neg (by omega)]
    · rw [List.drop_of_length_le (by omega)]
      rfl
  | succ d ih =>
    intro k i h1 h2
    obtain ⟨k, rfl⟩ : ∃ m, k = m + 1 := ⟨k - 1, by omega⟩
    have hi : i < l.length := by omega
    have hd : l.drop i = l[i] :: l.drop (i + 1) := List.drop_eq_getElem_cons hi
    have hr : rdOf ByteArray.empty l (i : Int) = l[i] := by simp [rdOf, hi]
    by_cases he : (rdOf ByteArray.empty l (i : Int)).toList = x.toList
    · refine ⟨(i : Int), ?_, ?_⟩
      · simp only [peculiumref01_Index.l0]
        rw [if_pos (by omega), if_pos (by omega), if_pos he]
      · rw [hd, List.map_cons, List.contains_cons]
        rw [hr, Lib.toList_data, Lib.toList_data] at he
        rw [he]
        simp
    · obtain ⟨j, hj, hc⟩ := ih k (i + 1) (by omega) (by omega)
      refine ⟨j, ?_, ?_⟩
      · simp only [peculiumref01_Index.l0]
        rw [if_pos (by omega), if_pos (by omega), if_neg he, wrap_succ i (by omega)]
        exact hj
      · rw [hd, List.map_cons, List.contains_cons, hc]
        rw [hr, Lib.toList_data, Lib.toList_data] at he
        rw [show (x.data.toList == l[i].data.toList) = false from beq_eq_false_iff_ne.2 fun h => he h.symm]
        rfl
theorem refWords_f (x : ByteArray) (k : Nat) (hk : 20 < k) : ∃ ws j, peculiumref01_Words.f = some ws ∧ peculiumref01_Index.f k ws x = some j ∧ decide (j ≥ 0) = wordsL.contains x.data.toList := by
  obtain ⟨j, hj, hc⟩ := refIndex_f x [(⟨#[116, 121, 112, 101]⟩ : ByteArray), (⟨#[99, 111, 110, 115, 116]⟩ : ByteArray), (⟨#[112, 114, 101, 100]⟩ : ByteArray), (⟨#[102, 97, 99, 116]⟩ : ByteArray), (⟨#[108, 97, 115, 116, 105, 110, 103]⟩ : ByteArray), (⟨#[109, 111, 100, 101]⟩ : ByteArray), (⟨#[114, 117, 108, 101]⟩ : ByteArray), (⟨#[111, 110, 99, 101]⟩ : ByteArray), (⟨#[109, 111, 115, 116]⟩ : ByteArray), (⟨#[113, 117, 101, 114, 121]⟩ : ByteArray), (⟨#[109, 111, 100, 117, 108, 101]⟩ : ByteArray), (⟨#[117, 115, 101]⟩ : ByteArray), (⟨#[101, 120, 112, 111, 114, 116]⟩ : ByteArray), (⟨#[97, 108, 108]⟩ : ByteArray), (⟨#[101, 120]⟩ : ByteArray), (⟨#[111, 110, 101]⟩ : ByteArray), (⟨#[116, 111, 112]⟩ : ByteArray)] (by decide) 17 k 0 rfl (by omega)
  exact ⟨_, j, rfl, hj, hc⟩

/-- Which of the signs stands here. -/
def signAt (l : List UInt8) (p : ByteArray) : Bool := l.take p.size == p.data.toList
theorem signs_f (s : ByteArray) (i : Nat) (hs : s.size ≤ 140737488351232) (hi : i ≤ s.size) (l : List ByteArray) (hl : l.length < 1000000) (hp : ∀ p ∈ l, p.size ≤ 100) : ∀ (d k m : Nat), m + d = l.length → d < k →
    peculiumref01_token.l0 k s (i : Int) l (m : Int) = some (match (l.drop m).find? (signAt (s.data.toList.drop i)) with | none => (0, 0) | some p => (3, ((i + p.size : Nat) : Int))) := by
  intro d
  induction d with
  | zero =>
    intro k m h1 h2
    obtain ⟨k, rfl⟩ : ∃ m, k = m + 1 := ⟨k - 1, by omega⟩
    unfold peculiumref01_token.l0
    rw [if_neg (by omega), show l.drop m = [] from List.drop_of_length_le (by omega)]
    rfl
  | succ d ih =>
    intro k m h1 h2
    obtain ⟨k, rfl⟩ : ∃ m, k = m + 1 := ⟨k - 1, by omega⟩
    have hm : m < l.length := by omega
    have hd : l.drop m = l[m] :: l.drop (m + 1) := List.drop_eq_getElem_cons hm
    have hr : rdOf ByteArray.empty l (m : Int) = l[m] := by simp [rdOf, hm]
    have hsz := hp l[m] (List.getElem_mem hm)
    unfold peculiumref01_token.l0
    rw [if_pos (by omega), if_pos (by omega), hr, isAt_f s l[m] i hs hi hsz, hd, List.find?_cons]
    simp only [Option.bind_some]
    have hsa : signAt (s.data.toList.drop i) l[m] = ((s.data.toList.drop i).take l[m].size == l[m].data.toList) := rfl
    cases hc : ((s.data.toList.drop i).take l[m].size == l[m].data.toList)
    · rw [hsa, hc]
      simp only [Bool.false_eq_true, if_false]
      rw [wrap_succ m (by omega)]
      exact ih k (m + 1) (by omega) (by omega)
    · rw [hsa, hc]
      simp only [if_true]
      congr 2
      unfold wrap64
      omega
theorem find_ones (b : UInt8) (r : List UInt8) : ∀ l : List UInt8, (l.map fun c => (⟨#[c]⟩ : ByteArray)).find? (signAt (b :: r)) = if l.contains b then some ⟨#[b]⟩ else none
  | [] => rfl
  | c :: l => by
    rw [List.map_cons, List.find?_cons, find_ones b r l]
    have h : signAt (b :: r) ⟨#[c]⟩ = (b == c) := by
      unfold signAt
      rw [show (ByteArray.mk #[c]).size = 1 from rfl]
      simp
    rw [h, List.contains_cons]
    cases hb : b == c
    · simp
    · have : b = c := by simpa using hb
      simp [this]
theorem sign_two (b x y : UInt8) (r : List UInt8) : signAt (b :: r) ⟨#[x, y]⟩ = (b == x && r.head? == some y) := by
  unfold signAt
  rw [show (ByteArray.mk #[x, y]).size = 2 from rfl]
  cases r with
  | nil => simp
  | cons c r => simp
theorem small_not_cap (b : UInt8) (h : capB b = true) : smallB b = false := by
  have := of_bytes (p := fun b => !capB b || !smallB b) (by decide +kernel) b
  simpa [h] using this

/-- The token that begins at an offset, as the reference tells it. -/
def tokR (l : List UInt8) (i : Nat) : Int × Int :=
  match tok l with
  | none => (0, 0)
  | some (kd, n) => ((kd : Int), ((i + n : Nat) : Int))
theorem refSigns_f : peculiumref01_Signs.f = some (⟨#[45, 111]⟩ :: ⟨#[111, 45]⟩ :: ⟨#[61, 62]⟩ :: ⟨#[60, 61]⟩ :: ⟨#[45, 62]⟩ :: (onesL.map fun c => (⟨#[c]⟩ : ByteArray))) := rfl
theorem getElem?_drop1 (s : ByteArray) (i : Nat) (h : i + 1 < s.size) : (s.data.toList.drop i)[1]? = some s[i + 1] := by
  rw [drop_cons' s i (by omega), drop_cons' s (i + 1) h]
  rfl
theorem take1 (s : ByteArray) (j : Nat) (c : UInt8) : ((s.data.toList.drop j).take 1 == [c]) = (s.data.toList[j]? == some c) := by
  rw [Bool.eq_iff_iff]
  simp only [beq_iff_eq]
  by_cases h : j < s.size
  · rw [drop_cons' s j h]
    have hg : s.data.toList[j]? = some s[j] := by simp [h]; rfl
    rw [hg]
    simp
  · rw [List.drop_of_length_le (by simp; omega), List.getElem?_eq_none (by simp; omega)]
    simp
theorem tok2_f (s : ByteArray) (hs : s.size ≤ 140737488351232) (i : Nat) (hi : i < s.size) (hsm : smallB s[i] = true) (k : Nat) (hk : s.size + 30 < k) :
    peculiumref01_token.j1 k s (i : Int) ((i + nameN (s.data.toList.drop i) : Nat) : Int) = some (tokR (s.data.toList.drop i) i) := by
  obtain ⟨k, rfl⟩ : ∃ m, k = m + 1 := ⟨k - 1, by omega⟩
  obtain ⟨n, hn⟩ : ∃ n, n = nameN (s.data.toList.drop i) := ⟨_, rfl⟩
  have hnl := nameN_le (s.data.toList.drop i)
  rw [← hn] at hnl ⊢
  have hnl2 : i + n ≤ s.size := by simp at hnl; omega
  have hdr := drop_cons' s i hi
  have hx : (s.extract i (i + n)).toList = (s.data.toList.drop i).take n := extract_take s i n
  have hw1 : wrap64 (((i + n : Nat) : Int) + 1) = ((i + n + 1 : Nat) : Int) := wrap_succ _ (by omega)
  have hj2 : ∀ (k : Nat) (b : Bool), s.size + 25 < k → b = oB (s.data.toList.drop i) → (b = true → n = 1) → peculiumref01_token.j2 k s (i : Int) ((i + n : Nat) : Int) b = some (tokR (s.data.toList.drop i) i) := by
    intro k b hk hb hb1
    obtain ⟨k, rfl⟩ : ∃ m, k = m + 1 := ⟨k - 1, by omega⟩
    rw [peculiumref01_token.j2]
    cases b
    · simp only [Bool.false_eq_true, if_false]
      obtain ⟨ws, j, h1, h2, h3⟩ := refWords_f (s.extract i (i + n)) k (by omega)
      rw [h1]
      simp only [Option.bind_some]
      rw [if_pos (by omega), if_pos (by omega), if_pos (by omega), Int.toNat_natCast, Int.toNat_natCast, h2]
      simp only [Option.bind_some]
      rw [← Lib.toList_data, hx] at h3
      unfold tokR
      rw [hdr] at hb h3 hn ⊢
      by_cases hj : j ≥ 0
      · rw [if_pos hj, tok_word hsm hb.symm (by rw [← hn, ← h3]; simpa using hj), ← hn]
        rfl
      · rw [if_neg hj, tok_name hsm hb.symm (by rw [← hn, ← h3]; simpa using hj), ← hn]
        rfl
    · simp only [if_true]
      rw [hw1]
      unfold tokR
      rw [hdr] at hb ⊢
      rw [tok_o hsm hb.symm, hb1 rfl]
      rfl
  rw [peculiumref01_token.j1]
  rw [if_pos (by omega), if_pos (by omega), if_pos (by omega), Int.toNat_natCast, Int.toNat_natCast, hx]
  by_cases h1 : (s.data.toList.drop i).take n = [111]
  · have hn1 : n = 1 := by
      have := congrArg List.length h1
      simp at this
      omega
    rw [if_pos h1, isAt_f s ⟨#[45]⟩ (i + n) hs hnl2 (by decide)]
    simp only [Option.bind_some]
    refine hj2 k _ (by omega) ?_ (fun _ => hn1)
    rw [show ((s.data.toList.drop (i + n)).take (ByteArray.mk #[45]).size == (ByteArray.mk #[45]).data.toList) = (s.data.toList[i + n]? == some 45) from take1 s (i + n) 45]
    unfold oB
    rw [← hn, h1, hn1]
    simp
  · rw [if_neg h1]
    refine hj2 k false (by omega) ?_ (fun h => by cases h)
    unfold oB
    rw [← hn, show ((s.data.toList.drop i).take n == [111]) = false from beq_eq_false_iff_ne.2 h1]
    rfl

theorem lolli_tail (s : ByteArray) (i : Nat) (hi : i + 2 ≤ s.size) : (s.data.toList.drop (i + 1)).tail = s.data.toList.drop (i + 2) := by
  rw [List.tail_drop]
end Go.Proofs.Ytkolnimgdbhekaa.P
