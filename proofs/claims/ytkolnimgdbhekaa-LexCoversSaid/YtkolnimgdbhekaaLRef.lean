/- The reference's functions, as the print has them, say what the plain scanner says. The reference's token: the plain scanner's. The reference's Scan, Same, Equal: the plain scanner's. -/
import Derived.Test.YtkolnimgdbhekaaLTok1
import Derived.Test.YtkolnimgdbhekaaLSame
import Derived.Test.YtkolnimgdbhekaaPx7
import Derived.Test.YtkolnimgdbhekaaPx8
import Derived.Test.YtkolnimgdbhekaaPx9
namespace Go.Proofs.Ytkolnimgdbhekaa.P
open Go.RowKit Go.Proofs.YtkolnimgdbhekaaW.PrintWords Go.Proofs.YtkolnimgdbhekaaW.PrintLast Go.Proofs.YtkolnimgdbhekaaW.PrintMore

theorem bt_nat (s : ByteArray) (i : Nat) (h : i < s.size) : bt s (i : Int) = (s[i].toNat : Int) := by
  rw [← bt_at s i (by simpa using h)]
  simp
theorem small_f (c : UInt8) : peculiumref01_small.f (c.toNat : Int) = some (smallB c) := by
  have := of_bytes (p := fun c => peculiumref01_small.f (c.toNat : Int) == some (smallB c)) (by decide +kernel) c
  simpa using this
theorem capital_f (c : UInt8) : peculiumref01_capital.f (c.toNat : Int) = some (capB c) := by
  have := of_bytes (p := fun c => peculiumref01_capital.f (c.toNat : Int) == some (capB c)) (by decide +kernel) c
  simpa using this
theorem part_f (c : UInt8) : peculiumref01_part.f (c.toNat : Int) = some (partB c) := by
  have := of_bytes (p := fun c => peculiumref01_part.f (c.toNat : Int) == some (partB c)) (by decide +kernel) c
  simpa using this
theorem blank_f (c : UInt8) : peculiumref01_blank.f (c.toNat : Int) = some (blankB c) := by
  have := of_bytes (p := fun c => peculiumref01_blank.f (c.toNat : Int) == some (blankB c)) (by decide +kernel) c
  simpa using this
theorem byte_eq (c : UInt8) (k : Nat) (hk : k < 256) : ((c.toNat : Int) = (k : Int)) ↔ c = k.toUInt8 := by
  have := c.toNat_lt
  constructor
  · intro h
    apply UInt8.toNat_inj.1
    simp [Nat.toUInt8]
    omega
  · rintro rfl
    simp [Nat.toUInt8]
    omega
theorem wrap_nat (n : Nat) (h : n ≤ 9223372036854775807) : wrap64 (n : Int) = (n : Int) := by unfold wrap64; omega
theorem wrap_succ (n : Nat) (h : n < 9223372036854775807) : wrap64 ((n : Int) + 1) = ((n + 1 : Nat) : Int) := by unfold wrap64; omega

theorem run_f (s : ByteArray) (hs : s.size ≤ 140737488351232) : ∀ (d i k : Nat), i + d = s.size → d < k → peculiumref01_run.l0 k s (i : Int) = some ((i + runN (s.data.toList.drop i) : Nat) : Int) := by
  intro d
  induction d with
  | zero =>
    intro i k h1 h2
    obtain ⟨k, rfl⟩ : ∃ m, k = m + 1 := ⟨k - 1, by omega⟩
    unfold peculiumref01_run.l0
    rw [if_neg (by omega), List.drop_of_length_le (by simp; omega)]
    rfl
  | succ d ih =>
    intro i k h1 h2
    obtain ⟨k, rfl⟩ : ∃ m, k = m + 1 := ⟨k - 1, by omega⟩
    have hi : i < s.size := by omega
    unfold peculiumref01_run.l0
    rw [if_pos (by omega), if_pos (by omega), bt_nat s i hi, part_f, drop_cons' s i hi, runN]
    simp only [Option.bind_some]
    cases hp : partB s[i]
    · simp
    · simp only [if_true]
      rw [wrap_succ i (by omega), ih (i + 1) k (by omega) (by omega)]
      congr 2
      omega
theorem extract_take (s : ByteArray) (i n : Nat) : (s.extract i (i + n)).toList = (s.data.toList.drop i).take n := by
  rw [Lib.toList_data, ByteArray.data_extract, Array.toList_extract, List.extract_eq_take_drop]
  simp
theorem isAt_f (s p : ByteArray) (i : Nat) (hs : s.size ≤ 140737488351232) (hi : i ≤ s.size) (hp : p.size ≤ 100) : peculiumref01_isAt.f s (i : Int) p = some ((s.data.toList.drop i).take p.size == p.data.toList) := by
  unfold peculiumref01_isAt.f
  have hw : wrap64 ((i : Int) + (p.size : Int)) = ((i + p.size : Nat) : Int) := by unfold wrap64; omega
  rw [hw]
  by_cases h : i + p.size ≤ s.size
  · rw [if_pos (by omega), if_pos (by omega), if_pos (by omega)]
    rw [Int.toNat_natCast, Int.toNat_natCast, extract_take, Lib.toList_data]
  · rw [if_neg (by omega)]
    congr 1
    symm
    rw [beq_eq_false_iff_ne]
    intro he
    have := congrArg List.length he
    simp at this
    omega

theorem refIndex_f (x : ByteArray) (l : List ByteArray) (hl : l.length < 1000000) : ∀ (d k i : Nat), i + d = l.length → d < k →
    ∃ j : Int, peculiumref01_Index.l0 k l x (i : Int) = some j ∧ decide (j ≥ 0) = ((l.drop i).map fun b => b.data.toList).contains x.data.toList := by
  intro d
  induction d with
  | zero =>
    intro k i h1 h2
    obtain ⟨k, rfl⟩ : ∃ m, k = m + 1 := ⟨k - 1, by omega⟩
    refine ⟨-1, ?_, ?_⟩
    · simp only [peculiumref01_Index.l0]
      rw [if_neg (by omega)]
    · rw [List.drop_of_length_le (by omega)]
      rfl
  | succ d ih =>
    intro k i h1 h2
    obtain ⟨k, rfl⟩ : ∃ m, k = m + 1 := ⟨k - 1, by omega⟩
    have hi : i < l.length := by omega
    have hd : l.drop i = l[i] :: l.drop (i + 1) := List.drop_eq_getElem_cons hi
    have hr : rdOf ByteArray.empty l (i : Int) = l[i] := by simp [rdOf, hi]
    by_cases he : (rdOf ByteArray.empty l (i : Int)).toList = x.toList
    · refine ⟨(i : Int), ?_, ?_⟩
      · simp only [peculiumref01_Index.l0]
        rw [if_pos (by omega), if_pos (by omega), if_pos he]
      · rw [hd, List.map_cons, List.contains_cons]
        rw [hr, Lib.toList_data, Lib.toList_data] at he
        rw [he]
        simp
    · obtain ⟨j, hj, hc⟩ := ih k (i + 1) (by omega) (by omega)
      refine ⟨j, ?_, ?_⟩
      · simp only [peculiumref01_Index.l0]
        rw [if_pos (by omega), if_pos (by omega), if_neg he, wrap_succ i (by omega)]
        exact hj
      · rw [hd, List.map_cons, List.contains_cons, hc]
        rw [hr, Lib.toList_data, Lib.toList_data] at he
        rw [show (x.data.toList == l[i].data.toList) = false from beq_eq_false_iff_ne.2 fun h => he h.symm]
        rfl
theorem refWords_f (x : ByteArray) (k : Nat) (hk : 20 < k) : ∃ ws j, peculiumref01_Words.f = some ws ∧ peculiumref01_Index.f k ws x = some j ∧ decide (j ≥ 0) = wordsL.contains x.data.toList := by
  obtain ⟨j, hj, hc⟩ := refIndex_f x [(⟨#[116, 121, 112, 101]⟩ : ByteArray), (⟨#[99, 111, 110, 115, 116]⟩ : ByteArray), (⟨#[112, 114, 101, 100]⟩ : ByteArray), (⟨#[102, 97, 99, 116]⟩ : ByteArray), (⟨#[108, 97, 115, 116, 105, 110, 103]⟩ : ByteArray), (⟨#[109, 111, 100, 101]⟩ : ByteArray), (⟨#[114, 117, 108, 101]⟩ : ByteArray), (⟨#[111, 110, 99, 101]⟩ : ByteArray), (⟨#[109, 111, 115, 116]⟩ : ByteArray), (⟨#[113, 117, 101, 114, 121]⟩ : ByteArray), (⟨#[109, 111, 100, 117, 108, 101]⟩ : ByteArray), (⟨#[117, 115, 101]⟩ : ByteArray), (⟨#[101, 120, 112, 111, 114, 116]⟩ : ByteArray), (⟨#[97, 108, 108]⟩ : ByteArray), (⟨#[101, 120]⟩ : ByteArray), (⟨#[111, 110, 101]⟩ : ByteArray), (⟨#[116, 111, 112]⟩ : ByteArray)] (by decide) 17 k 0 rfl (by omega)
  exact ⟨_, j, rfl, hj, hc⟩

/-- Which of the signs stands here. -/
def signAt (l : List UInt8) (p : ByteArray) : Bool := l.take p.size == p.data.toList
theorem signs_f (s : ByteArray) (i : Nat) (hs : s.size ≤ 140737488351232) (hi : i ≤ s.size) (l : List ByteArray) (hl : l.length < 1000000) (hp : ∀ p ∈ l, p.size ≤ 100) : ∀ (d k m : Nat), m + d = l.length → d < k →
    peculiumref01_token.l0 k s (i : Int) l (m : Int) = some (match (l.drop m).find? (signAt (s.data.toList.drop i)) with | none => (0, 0) | some p => (3, ((i + p.size : Nat) : Int))) := by
  intro d
  induction d with
  | zero =>
    intro k m h1 h2
    obtain ⟨k, rfl⟩ : ∃ m, k = m + 1 := ⟨k - 1, by omega⟩
    unfold peculiumref01_token.l0
    rw [if_neg (by omega), show l.drop m = [] from List.drop_of_length_le (by omega)]
    rfl
  | succ d ih =>
    intro k m h1 h2
    obtain ⟨k, rfl⟩ : ∃ m, k = m + 1 := ⟨k - 1, by omega⟩
    have hm : m < l.length := by omega
    have hd : l.drop m = l[m] :: l.drop (m + 1) := List.drop_eq_getElem_cons hm
    have hr : rdOf ByteArray.empty l (m : Int) = l[m] := by simp [rdOf, hm]
    have hsz := hp l[m] (List.getElem_mem hm)
    unfold peculiumref01_token.l0
    rw [if_pos (by omega), if_pos (by omega), hr, isAt_f s l[m] i hs hi hsz, hd, List.find?_cons]
    simp only [Option.bind_some]
    have hsa : signAt (s.data.toList.drop i) l[m] = ((s.data.toList.drop i).take l[m].size == l[m].data.toList) := rfl
    cases hc : ((s.data.toList.drop i).take l[m].size == l[m].data.toList)
    · rw [hsa, hc]
      simp only [Bool.false_eq_true, if_false]
      rw [wrap_succ m (by omega)]
      exact ih k (m + 1) (by omega) (by omega)
    · rw [hsa, hc]
      simp only [if_true]
      congr 2
      unfold wrap64
      omega
theorem find_ones (b : UInt8) (r : List UInt8) : ∀ l : List UInt8, (l.map fun c => (⟨#[c]⟩ : ByteArray)).find? (signAt (b :: r)) = if l.contains b then some ⟨#[b]⟩ else none
  | [] => rfl
  | c :: l => by
    rw [List.map_cons, List.find?_cons, find_ones b r l]
    have h : signAt (b :: r) ⟨#[c]⟩ = (b == c) := by
      unfold signAt
      rw [show (ByteArray.mk #[c]).size = 1 from rfl]
      simp
    rw [h, List.contains_cons]
    cases hb : b == c
    · simp
    · have : b = c := by simpa using hb
      simp [this]
theorem sign_two (b x y : UInt8) (r : List UInt8) : signAt (b :: r) ⟨#[x, y]⟩ = (b == x && r.head? == some y) := by
  unfold signAt
  rw [show (ByteArray.mk #[x, y]).size = 2 from rfl]
  cases r with
  | nil => simp
  | cons c r => simp
theorem small_not_cap (b : UInt8) (h : capB b = true) : smallB b = false := by
  have := of_bytes (p := fun b => !capB b || !smallB b) (by decide +kernel) b
  simpa [h] using this

/-- The token that begins at an offset, as the reference tells it. -/
def tokR (l : List UInt8) (i : Nat) : Int × Int :=
  match tok l with
  | none => (0, 0)
  | some (kd, n) => ((kd : Int), ((i + n : Nat) : Int))
theorem refSigns_f : peculiumref01_Signs.f = some (⟨#[45, 111]⟩ :: ⟨#[111, 45]⟩ :: ⟨#[61, 62]⟩ :: ⟨#[60, 61]⟩ :: ⟨#[45, 62]⟩ :: (onesL.map fun c => (⟨#[c]⟩ : ByteArray))) := rfl
theorem getElem?_drop1 (s : ByteArray) (i : Nat) (h : i + 1 < s.size) : (s.data.toList.drop i)[1]? = some s[i + 1] := by
  rw [drop_cons' s i (by omega), drop_cons' s (i + 1) h]
  rfl
theorem take1 (s : ByteArray) (j : Nat) (c : UInt8) : ((s.data.toList.drop j).take 1 == [c]) = (s.data.toList[j]? == some c) := by
  rw [Bool.eq_iff_iff]
  simp only [beq_iff_eq]
  by_cases h : j < s.size
  · rw [drop_cons' s j h]
    have hg : s.data.toList[j]? = some s[j] := by simp [h]; rfl
    rw [hg]
    simp
  · rw [List.drop_of_length_le (by simp; omega), List.getElem?_eq_none (by simp; omega)]
    simp
theorem tok2_f (s : ByteArray) (hs : s.size ≤ 140737488351232) (i : Nat) (hi : i < s.size) (hsm : smallB s[i] = true) (k : Nat) (hk : s.size + 30 < k) :
    peculiumref01_token.j1 k s (i : Int) ((i + nameN (s.data.toList.drop i) : Nat) : Int) = some (tokR (s.data.toList.drop i) i) := by
  obtain ⟨k, rfl⟩ : ∃ m, k = m + 1 := ⟨k - 1, by omega⟩
  obtain ⟨n, hn⟩ : ∃ n, n = nameN (s.data.toList.drop i) := ⟨_, rfl⟩
  have hnl := nameN_le (s.data.toList.drop i)
  rw [← hn] at hnl ⊢
  have hnl2 : i + n ≤ s.size := by simp at hnl; omega
  have hdr := drop_cons' s i hi
  have hx : (s.extract i (i + n)).toList = (s.data.toList.drop i).take n := extract_take s i n
  have hw1 : wrap64 (((i + n : Nat) : Int) + 1) = ((i + n + 1 : Nat) : Int) := wrap_succ _ (by omega)
  have hj2 : ∀ (k : Nat) (b : Bool), s.size + 25 < k → b = oB (s.data.toList.drop i) → (b = true → n = 1) → peculiumref01_token.j2 k s (i : Int) ((i + n : Nat) : Int) b = some (tokR (s.data.toList.drop i) i) := by
    intro k b hk hb hb1
    obtain ⟨k, rfl⟩ : ∃ m, k = m + 1 := ⟨k - 1, by omega⟩
    rw [peculiumref01_token.j2]
    cases b
    · simp only [Bool.false_eq_true, if_false]
      obtain ⟨ws, j, h1, h2, h3⟩ := refWords_f (s.extract i (i + n)) k (by omega)
      rw [h1]
      simp only [Option.bind_some]
      rw [if_pos (by omega), if_pos (by omega), if_pos (by omega), Int.toNat_natCast, Int.toNat_natCast, h2]
      simp only [Option.bind_some]
      rw [← Lib.toList_data, hx] at h3
      unfold tokR
      rw [hdr] at hb h3 hn ⊢
      by_cases hj : j ≥ 0
      · rw [if_pos hj, tok_word hsm hb.symm (by rw [← hn, ← h3]; simpa using hj), ← hn]
        rfl
      · rw [if_neg hj, tok_name hsm hb.symm (by rw [← hn, ← h3]; simpa using hj), ← hn]
        rfl
    · simp only [if_true]
      rw [hw1]
      unfold tokR
      rw [hdr] at hb ⊢
      rw [tok_o hsm hb.symm, hb1 rfl]
      rfl
  rw [peculiumref01_token.j1]
  rw [if_pos (by omega), if_pos (by omega), if_pos (by omega), Int.toNat_natCast, Int.toNat_natCast, hx]
  by_cases h1 : (s.data.toList.drop i).take n = [111]
  · have hn1 : n = 1 := by
      have := congrArg List.length h1
      simp at this
      omega
    rw [if_pos h1, isAt_f s ⟨#[45]⟩ (i + n) hs hnl2 (by decide)]
    simp only [Option.bind_some]
    refine hj2 k _ (by omega) ?_ (fun _ => hn1)
    rw [show ((s.data.toList.drop (i + n)).take (ByteArray.mk #[45]).size == (ByteArray.mk #[45]).data.toList) = (s.data.toList[i + n]? == some 45) from take1 s (i + n) 45]
    unfold oB
    rw [← hn, h1, hn1]
    simp
  · rw [if_neg h1]
    refine hj2 k false (by omega) ?_ (fun h => by cases h)
    unfold oB
    rw [← hn, show ((s.data.toList.drop i).take n == [111]) = false from beq_eq_false_iff_ne.2 h1]
    rfl

end Go.Proofs.Ytkolnimgdbhekaa.P

namespace Go.Proofs.Ytkolnimgdbhekaa.P
open Go.RowKit Go.Proofs.YtkolnimgdbhekaaW.PrintWords Go.Proofs.YtkolnimgdbhekaaW.PrintLast Go.Proofs.YtkolnimgdbhekaaW.PrintMore

theorem byte64' (c : UInt8) : ((c.toNat : Int) = 64) ↔ c = 64 := byte_eq c 64 (by omega)
theorem rtok_small (s : ByteArray) (hs : s.size ≤ 140737488351232) (i : Nat) (hi : i < s.size) (hsm : smallB s[i] = true) (m : Nat) (hm : m = runN (s.data.toList.drop i)) (hrl2 : i + m ≤ s.size) (b : Bool) (hb : b = linkB (s.data.toList.drop i)) (k : Nat) (hk : s.size + 40 < k) :
    peculiumref01_token.j0 k s (i : Int) ((i + m : Nat) : Int) b = some (tokR (s.data.toList.drop i) i) := by
  obtain ⟨k, rfl⟩ : ∃ m, k = m + 1 := ⟨k - 1, by omega⟩
  rw [peculiumref01_token.j0]
  cases b
  · simp only [Bool.false_eq_true, if_false]
    have hn : nameN (s.data.toList.drop i) = m := by unfold nameN; rw [← hb, hm]; rfl
    have := tok2_f s hs i hi hsm k (by omega)
    rw [hn] at this
    exact this
  · simp only [if_true]
    have hlk := linkB_lt hb.symm
    rw [← hm] at hlk
    simp at hlk
    have hn : nameN (s.data.toList.drop i) = m + 1 + runN (s.data.toList.drop (i + m + 1)) := by
      unfold nameN
      rw [← hb, ← hm, if_pos rfl, List.drop_drop, show i + (m + 1) = i + m + 1 by omega]
    have hr2 := run_f s hs (s.size - (i + m + 1)) (i + m + 1) k (by omega) (by omega)
    rw [wrap_succ _ (by omega)]
    unfold peculiumref01_run.f
    rw [hr2]
    simp only [Option.bind_some]
    have := tok2_f s hs i hi hsm k (by omega)
    rw [hn] at this
    rw [show i + m + 1 + runN (s.data.toList.drop (i + m + 1)) = i + (m + 1 + runN (s.data.toList.drop (i + m + 1))) by omega]
    exact this
theorem find_signs (b : UInt8) (r : List UInt8) (hsm : smallB b = false) (hcap : capB b = false) (h4 : (b == 45 && r.head? == some 111) = false) (i : Nat) :
    (match ((⟨#[61, 62]⟩ : ByteArray) :: ⟨#[60, 61]⟩ :: ⟨#[45, 62]⟩ :: (onesL.map fun c => (⟨#[c]⟩ : ByteArray))).find? (signAt (b :: r)) with | none => ((0 : Int), (0 : Int)) | some p => ((3 : Int), ((i + p.size : Nat) : Int))) = tokR (b :: r) i := by
  rw [List.find?_cons, List.find?_cons, List.find?_cons, sign_two, sign_two, sign_two, find_ones]
  unfold tokR
  cases h2 : (b == 61 && r.head? == some 62)
  · cases h3 : (b == 60 && r.head? == some 61)
    · cases h1 : (b == 45 && r.head? == some 62)
      · cases ho : onesL.contains b
        · rw [tok_none1 hsm hcap h1 h2 h3 h4 ho]
          rfl
        · rw [tok_one hsm hcap h1 h2 h3 h4 ho]
          rfl
      · rw [tok_two hsm hcap (.inl h1)]
        rfl
    · rw [tok_two hsm hcap (.inr (.inr h3))]
      rfl
  · rw [tok_two hsm hcap (.inr (.inl h2))]
    rfl
theorem refSigns_le : ∀ p ∈ ((⟨#[45, 111]⟩ : ByteArray) :: ⟨#[111, 45]⟩ :: ⟨#[61, 62]⟩ :: ⟨#[60, 61]⟩ :: ⟨#[45, 62]⟩ :: (onesL.map fun c => (⟨#[c]⟩ : ByteArray))), p.size ≤ 100 := by
  intro p hp
  simp only [List.mem_cons, List.mem_map] at hp
  rcases hp with rfl | rfl | rfl | rfl | rfl | ⟨c, _, rfl⟩ <;> simp [ByteArray.size]
theorem rtok_sign (s : ByteArray) (hs : s.size ≤ 140737488351232) (i : Nat) (hi : i < s.size) (hsm : smallB s[i] = false) (hcap : capB s[i] = false) (h4 : (s[i] == 45 && (s.data.toList.drop (i + 1)).head? == some 111) = false) (k : Nat) (hk : s.size + 40 < k) :
    peculiumref01_token.l0 k s (i : Int) ((⟨#[45, 111]⟩ : ByteArray) :: ⟨#[111, 45]⟩ :: ⟨#[61, 62]⟩ :: ⟨#[60, 61]⟩ :: ⟨#[45, 62]⟩ :: (onesL.map fun c => (⟨#[c]⟩ : ByteArray))) 2 = some (tokR (s.data.toList.drop i) i) := by
  have h := signs_f s i hs (by omega) _ (by simp [onesL]) refSigns_le 15 k 2 (by simp [onesL]) (by omega)
  rw [drop_cons' s i hi] at h ⊢
  rw [← find_signs s[i] _ hsm hcap h4 i]
  exact h
theorem rtok_lolli (s : ByteArray) (hs : s.size ≤ 140737488351232) (i : Nat) (hi : i < s.size) (hsm : smallB s[i] = false) (hcap : capB s[i] = false) (h4 : (s[i] == 45 && (s.data.toList.drop (i + 1)).head? == some 111) = true) :
    (if (wrap64 ((i : Int) + 2)) < (s.size : Int) then (if 0 ≤ (wrap64 ((i : Int) + 2)) then ((peculiumref01_part.f (bt s (wrap64 ((i : Int) + 2)))).bind fun t157 => (if t157 = true then (some ((0 : Int), (0 : Int))) else (some (3, wrap64 ((i : Int) + 2))))) else (none)) else (some (3, wrap64 ((i : Int) + 2)))) = some (tokR (s.data.toList.drop i) i) := by
  have hdr := drop_cons' s i hi
  have h45 : s[i] = 45 := by simp at h4; exact h4.1
  have h111 : (s.data.toList.drop (i + 1)).head? = some 111 := by
    rw [Bool.and_eq_true] at h4
    exact beq_iff_eq.1 h4.2
  have hi1 : i + 1 < s.size := by
    rw [List.head?_drop] at h111
    have := (List.getElem?_eq_some_iff.1 h111).1
    simpa using this
  have h1 : (s[i] == 45 && (s.data.toList.drop (i + 1)).head? == some 62) = false := by rw [h111]; simp
  have h2 : (s[i] == 61 && (s.data.toList.drop (i + 1)).head? == some 62) = false := by rw [h111]; simp
  have h3 : (s[i] == 60 && (s.data.toList.drop (i + 1)).head? == some 61) = false := by rw [h111]; simp
  have hw2 : wrap64 ((i : Int) + 2) = ((i + 2 : Nat) : Int) := by unfold wrap64; omega
  rw [hw2]
  unfold tokR
  by_cases hi2 : i + 2 < s.size
  · have hd2 : (s[i] :: s.data.toList.drop (i + 1))[2]? = some s[i + 2] := by
      rw [← hdr, List.getElem?_drop]
      simp [hi2]
      rfl
    rw [if_pos (by omega), if_pos (by omega), bt_nat s (i + 2) hi2, part_f]
    simp only [Option.bind_some]
    rw [hdr]
    cases hp : partB s[i + 2]
    · rw [tok_lolli hsm hcap h1 h2 h3 h4 (.inr ⟨_, hd2, hp⟩)]
      rfl
    · rw [tok_none2 hsm hcap h1 h2 h3 h4 hd2 hp]
      rfl
  · rw [if_neg (by omega), hdr, tok_lolli hsm hcap h1 h2 h3 h4 (.inl (by simp; omega))]
    rfl
theorem rtok_f (s : ByteArray) (hs : s.size ≤ 140737488351232) (i : Nat) (hi : i < s.size) (k : Nat) (hk : s.size + 40 < k) :
    peculiumref01_token.f k s (i : Int) = some (tokR (s.data.toList.drop i) i) := by
  have hdr := drop_cons' s i hi
  have hrun := run_f s hs (s.size - i) i k (by omega) (by omega)
  have hrl := runN_le (s.data.toList.drop i)
  have hrl2 : i + runN (s.data.toList.drop i) ≤ s.size := by simp at hrl; omega
  unfold peculiumref01_token.f
  rw [if_pos (by omega), if_pos (by omega), bt_nat s i hi, capital_f, small_f, Option.bind_some]
  by_cases hcap : capB s[i] = true
  · rw [if_pos hcap]
    unfold peculiumref01_run.f
    rw [hrun]
    simp only [Option.bind_some]
    unfold tokR
    rw [hdr, tok_cap (small_not_cap _ hcap) hcap]
    rfl
  · have hcap' : capB s[i] = false := by simpa using hcap
    rw [if_neg hcap]
    by_cases hsm : smallB s[i] = true
    · rw [Option.bind_some, if_pos hsm]
      unfold peculiumref01_run.f
      rw [hrun, Option.bind_some]
      obtain ⟨m, hm⟩ : ∃ m, m = runN (s.data.toList.drop i) := ⟨_, rfl⟩
      rw [← hm] at hrl2 ⊢
      have hdm : (s.data.toList.drop i).drop m = s.data.toList.drop (i + m) := by rw [List.drop_drop]
      by_cases h1 : i + m + 1 < s.size
      · rw [wrap_succ _ (by omega), if_pos (by omega), if_pos (by omega), if_pos (by omega), bt_nat s (i + m) (by omega)]
        have hlk : linkB (s.data.toList.drop i) = (s[i + m] == 64 && smallB s[i + m + 1]) := by
          unfold linkB
          rw [← hm, hdm, drop_cons' s (i + m) (by omega), drop_cons' s (i + m + 1) (by omega)]
        by_cases h64 : s[i + m] = 64
        · rw [if_pos ((byte64' _).2 h64), if_pos (by omega), bt_nat s (i + m + 1) h1, small_f, Option.bind_some]
          exact rtok_small s hs i hi hsm m hm hrl2 _ (by rw [hlk, h64]; simp) k hk
        · rw [if_neg (fun h => h64 ((byte64' _).1 h))]
          exact rtok_small s hs i hi hsm m hm hrl2 _ (by rw [hlk, show (s[i + m] == 64) = false from beq_eq_false_iff_ne.2 h64, Bool.false_and]) k hk
      · rw [wrap_succ _ (by omega), if_neg (by omega)]
        refine rtok_small s hs i hi hsm m hm hrl2 _ ?_ k hk
        cases hb : linkB (s.data.toList.drop i)
        · rfl
        · have := linkB_lt hb
          rw [← hm] at this
          simp at this
          omega
    · have hsm' : smallB s[i] = false := by simpa using hsm
      rw [Option.bind_some, if_neg hsm, isAt_f s ⟨#[45, 111]⟩ i hs (by omega) (by decide), Option.bind_some]
      have hlo : ((s.data.toList.drop i).take (ByteArray.mk #[45, 111]).size == (ByteArray.mk #[45, 111]).data.toList) = (s[i] == 45 && (s.data.toList.drop (i + 1)).head? == some 111) := by
        rw [hdr]
        exact sign_two s[i] 45 111 (s.data.toList.drop (i + 1))
      rw [hlo]
      cases h4 : (s[i] == 45 && (s.data.toList.drop (i + 1)).head? == some 111)
      · rw [if_neg (by simp), refSigns_f]
        exact rtok_sign s hs i hi hsm' hcap' h4 k hk
      · rw [if_pos rfl]
        exact rtok_lolli s hs i hi hsm' hcap' h4

end Go.Proofs.Ytkolnimgdbhekaa.P

namespace Go.Proofs.Ytkolnimgdbhekaa.P
open Go.RowKit Go.Proofs.YtkolnimgdbhekaaW.PrintWords Go.Proofs.YtkolnimgdbhekaaW.PrintLast Go.Proofs.YtkolnimgdbhekaaW.PrintMore

/-- How many bytes stand ahead of the next line feed. -/
def lineN : List UInt8 → Nat
  | [] => 0
  | c :: l => if c = 10 then 0 else lineN l + 1
theorem lineN_le : ∀ l : List UInt8, lineN l ≤ l.length
  | [] => Nat.le_refl _
  | c :: l => by
    unfold lineN
    have := lineN_le l
    split <;> simp <;> omega
theorem skip_line : ∀ l : List UInt8, skipN true l = lineN l + skipN false (l.drop (lineN l))
  | [] => rfl
  | c :: l => by
    by_cases hc : c = 10
    · subst hc
      simp [skipN, lineN, blankB]
    · simp only [skipN, lineN, if_neg hc, List.drop_succ_cons]
      rw [skip_line l]
      omega
theorem byte10 (c : UInt8) : ((c.toNat : Int) = 10) ↔ c = 10 := byte_eq c 10 (by omega)
theorem byte37 (c : UInt8) : ((c.toNat : Int) = 37) ↔ c = 37 := byte_eq c 37 (by omega)
theorem lineEnd_f (s : ByteArray) (hs : s.size ≤ 140737488351232) : ∀ (d i k : Nat), i + d = s.size → d < k → peculiumref01_lineEnd.l0 k s (i : Int) = some ((i + lineN (s.data.toList.drop i) : Nat) : Int) := by
  intro d
  induction d with
  | zero =>
    intro i k h1 h2
    obtain ⟨k, rfl⟩ : ∃ m, k = m + 1 := ⟨k - 1, by omega⟩
    unfold peculiumref01_lineEnd.l0
    rw [if_neg (by omega), List.drop_of_length_le (by simp; omega)]
    rfl
  | succ d ih =>
    intro i k h1 h2
    obtain ⟨k, rfl⟩ : ∃ m, k = m + 1 := ⟨k - 1, by omega⟩
    have hi : i < s.size := by omega
    unfold peculiumref01_lineEnd.l0
    rw [if_pos (by omega), if_pos (by omega), bt_nat s i hi, drop_cons' s i hi, lineN]
    by_cases hc : s[i] = 10
    · rw [if_pos ((byte10 _).2 hc), if_pos hc]
      rfl
    · rw [if_neg (fun h => hc ((byte10 _).1 h)), if_neg hc, wrap_succ i (by omega), ih (i + 1) k (by omega) (by omega)]
      congr 2
      omega
theorem word_short (x : List UInt8) (h : wordsL.contains x = true) : x.length ≤ 7 := by
  have h2 : x ∈ wordsL := by simpa using h
  have : ∀ y ∈ wordsL, y.length ≤ 7 := by decide
  exact this x h2
theorem tok_kind {l : List UInt8} {kd n : Nat} (h : tok l = some (kd, n)) : (kd = 1 ∨ kd = 2) ∨ (kd = 3 ∨ kd = 4) ∧ n ≤ 7 := by
  match l, h with
  | b :: r, h =>
    simp only [tok] at h
    split at h
    · split at h
      · simp at h
        omega
      · split at h
        · rename_i hw
          have h1 := word_short _ hw
          have h2 := nameN_le (b :: r)
          rw [List.length_take, Nat.min_eq_left h2] at h1
          simp at h
          omega
        · simp at h
          omega
    · split at h
      · simp at h
        omega
      · split at h
        · simp at h
          omega
        · split at h
          · split at h
            · simp at h
              omega
            · split at h
              · cases h
              · simp at h
                omega
          · split at h
            · simp at h
              omega
            · cases h
theorem extract_mk (s : ByteArray) (i n : Nat) : s.extract i (i + n) = ⟨((s.data.toList.drop i).take n).toArray⟩ := by
  have h := extract_take s i n
  rw [Lib.toList_data] at h
  rw [← h]

theorem scan_f (s : ByteArray) (hs : s.size ≤ 20000) : ∀ (d i k f : Nat) (acc : List S34), i + d = s.size → s.size + 45 + d < k → d < f → acc.length ≤ 6000 →
    peculiumref01_Scan.l0 k s acc (i : Int) = some (scanA f (s.data.toList.drop (i + skipN false (s.data.toList.drop i))) (i + skipN false (s.data.toList.drop i)) acc) := by
  intro d
  induction d using Nat.strongRecOn with
  | ind d ih =>
    intro i k f acc h1 h2 hf ha
    obtain ⟨k, rfl⟩ : ∃ m, k = m + 1 := ⟨k - 1, by omega⟩
    obtain ⟨f, rfl⟩ : ∃ m, f = m + 1 := ⟨f - 1, by omega⟩
    by_cases hi : i < s.size
    · have hdr := drop_cons' s i hi
      rw [peculiumref01_Scan.l0, if_pos (by omega), if_pos (by omega), bt_nat s i hi, blank_f, Option.bind_some]
      by_cases hb : blankB s[i] = true
      · rw [if_pos hb, wrap_succ i (by omega), ih (d - 1) (by omega) (i + 1) k (f + 1) acc (by omega) (by omega) (by omega) ha]
        have : skipN false (s.data.toList.drop i) = skipN false (s.data.toList.drop (i + 1)) + 1 := by
          rw [hdr, skipN, if_pos hb]
        rw [this, show i + (skipN false (s.data.toList.drop (i + 1)) + 1) = i + 1 + skipN false (s.data.toList.drop (i + 1)) by omega]
      · rw [if_neg hb]
        by_cases h37 : s[i] = 37
        · rw [if_pos ((byte37 _).2 h37)]
          unfold peculiumref01_lineEnd.f
          rw [lineEnd_f s (by omega) (s.size - i) i k (by omega) (by omega), Option.bind_some]
          have hl1 : lineN (s.data.toList.drop i) = lineN (s.data.toList.drop (i + 1)) + 1 := by rw [hdr, lineN, if_neg (by rw [h37]; decide)]
          have hle := lineN_le (s.data.toList.drop i)
          simp at hle
          have hsk : skipN false (s.data.toList.drop i) = lineN (s.data.toList.drop i) + skipN false (s.data.toList.drop (i + lineN (s.data.toList.drop i))) := by
            rw [hl1]
            conv => lhs; rw [hdr, skipN, if_neg hb, if_pos h37]
            rw [skip_line, List.drop_drop, show i + 1 + lineN (s.data.toList.drop (i + 1)) = i + (lineN (s.data.toList.drop (i + 1)) + 1) by omega]
            omega
          rw [ih (s.size - (i + lineN (s.data.toList.drop i))) (by omega) (i + lineN (s.data.toList.drop i)) k (f + 1) acc (by omega) (by omega) (by omega) ha]
          rw [hsk, Nat.add_assoc]
        · rw [if_neg (fun h => h37 ((byte37 _).1 h)), rtok_f s (by omega) i hi k (by omega), Option.bind_some]
          have hsk : skipN false (s.data.toList.drop i) = 0 := by rw [hdr, skipN, if_neg hb, if_neg h37]
          rw [hsk, show i + 0 = i from rfl]
          unfold tokR
          rw [hdr]
          cases ht : tok (s[i] :: s.data.toList.drop (i + 1)) with
          | none =>
            rw [if_pos rfl]
            simp only [scanA, ht]
          | some p =>
            obtain ⟨kd, n⟩ := p
            have hk := tok_kind ht
            have hn := tok_le ht
            rw [← hdr] at hn ht
            have hn2 := hn.2
            simp at hn2
            simp only
            rw [if_neg (by omega)]
            rw [← hdr]
            by_cases h6 : acc.length = 6000
            · rw [if_pos (by omega)]
              rw [hdr] at ht ⊢
              simp only [scanA, ht, if_pos h6]
            · rw [if_neg (by omega)]
              have hw : wrap64 (((i + n : Nat) : Int) - (i : Int)) = (n : Int) := by unfold wrap64; omega
              rw [hw]
              by_cases h40 : 40 < n
              · rw [if_pos (by omega)]
                rw [hdr] at ht ⊢
                simp only [scanA, ht, if_neg h6]
                rw [if_pos ⟨by omega, h40⟩]
              · rw [if_neg (by omega), if_pos (by omega), if_pos (by omega), if_pos (by omega)]
                rw [ih (s.size - (i + n)) (by omega) (i + n) k f _ (by omega) (by omega) (by omega) (by simp; omega)]
                have hsc : scanA (f + 1) (s.data.toList.drop i) i acc = scanA f (((s.data.toList.drop i).drop n).drop (skipN false ((s.data.toList.drop i).drop n))) (i + n + skipN false ((s.data.toList.drop i).drop n)) (acc ++ [⟨kd, ⟨((s.data.toList.drop i).take n).toArray⟩, i⟩]) := by
                  rw [hdr] at ht ⊢
                  simp only [scanA, ht, if_neg h6]
                  rw [if_neg (by omega)]
                have hdd : (s.data.toList.drop i).drop n = s.data.toList.drop (i + n) := List.drop_drop
                rw [hdd, List.drop_drop] at hsc
                rw [hsc, Int.toNat_natCast, Int.toNat_natCast, extract_mk]
    · obtain rfl : i = s.size := by omega
      rw [peculiumref01_Scan.l0, if_neg (by omega)]
      have hd : s.data.toList.drop s.size = [] := List.drop_of_length_le (by simp)
      rw [hd]
      simp only [skipN, Nat.add_zero]
      rw [hd]
      rfl
theorem refScan_f (s : ByteArray) (k : Nat) (hk : 50000 < k) : peculiumref01_Scan.f k s = some (scanL s.data.toList) := by
  unfold peculiumref01_Scan.f scanL
  by_cases h : 20000 < s.size
  · rw [if_pos (by omega), if_pos (by simpa using h)]
  · rw [if_neg (by omega), if_neg (by simpa using h)]
    have := scan_f s (by omega) s.size 0 k (s.data.toList.length + 1) [] (by omega) (by omega) (by simp) (by simp)
    rw [Nat.zero_add, List.drop_zero] at this
    exact this

theorem rd_at (l : List S34) (i : Nat) (h : i < l.length) : rd_T34 l (i : Int) = l[i] := by simp [rd_T34, h]
theorem refSame_f (a b : List S34) (ha : a.length ≤ 1000000000) (hab : a.length = b.length) : ∀ (d i k : Nat), i + d = a.length → d < k →
    peculiumref01_Same.l0 k a b (i : Int) = some (sameL (a.drop i) (b.drop i)) := by
  intro d
  induction d with
  | zero =>
    intro i k h1 h2
    obtain ⟨k, rfl⟩ : ∃ m, k = m + 1 := ⟨k - 1, by omega⟩
    rw [peculiumref01_Same.l0, if_neg (by omega), List.drop_of_length_le (by omega), List.drop_of_length_le (by omega)]
    rfl
  | succ d ih =>
    intro i k h1 h2
    obtain ⟨k, rfl⟩ : ∃ m, k = m + 1 := ⟨k - 1, by omega⟩
    rw [peculiumref01_Same.l0, if_pos (by omega), if_pos (by omega), if_pos (by omega)]
    rw [rdT_drop a i (by omega), rdT_drop b i (by omega), sameL]
    unfold sameT
    by_cases h0 : (rd_T34 a i).f0 = (rd_T34 b i).f0
    · rw [if_pos h0]
      by_cases h1 : (rd_T34 a i).f1.toList = (rd_T34 b i).f1.toList
      · rw [if_pos h1, wrap_succ i (by omega), ih (i + 1) k (by omega) (by omega)]
        simp [h0, h1]
      · rw [if_neg h1]
        simp [h0, h1]
    · rw [if_neg h0]
      simp [h0]
theorem refSame (a b : List S34) (ha : a.length ≤ 1000000000) (k : Nat) (hk : a.length < k) : peculiumref01_Same.f k a b = some (sameL a b) := by
  unfold peculiumref01_Same.f
  by_cases h : a.length = b.length
  · rw [if_pos (by omega)]
    have := refSame_f a b ha h a.length 0 k (by omega) hk
    simpa using this
  · rw [if_neg (by omega)]
    cases hb : sameL a b
    · rfl
    · exact absurd (sameL_len _ _ hb) h
theorem sameL_refl : ∀ a : List S34, sameL a a = true
  | [] => rfl
  | x :: a => by simp [sameL, sameT, sameL_refl a]
theorem refEqual_refl (a : List S34) (ha : a.length ≤ 1000000000) (k : Nat) (hk : a.length < k) : peculiumref01_Equal.f k a a = some true := by
  unfold peculiumref01_Equal.f
  rw [refSame a a ha k hk, Option.bind_some, sameL_refl, if_pos rfl]
  have : ∀ (d i k : Nat), i + d = a.length → d < k → peculiumref01_Equal.l0 k a a (i : Int) = some true := by
    intro d
    induction d with
    | zero =>
      intro i k h1 h2
      obtain ⟨k, rfl⟩ : ∃ m, k = m + 1 := ⟨k - 1, by omega⟩
      rw [peculiumref01_Equal.l0, if_neg (by omega)]
    | succ d ih =>
      intro i k h1 h2
      obtain ⟨k, rfl⟩ : ∃ m, k = m + 1 := ⟨k - 1, by omega⟩
      rw [peculiumref01_Equal.l0, if_pos (by omega), if_pos (by omega), if_pos (by omega), if_pos rfl, wrap_succ i (by omega), ih (i + 1) k (by omega) (by omega)]
  exact this a.length 0 k (by omega) hk
theorem scanA_len : ∀ (f : Nat) (l : List UInt8) (i : Nat) (acc : List S34), acc.length ≤ 6000 → (scanA f l i acc).1.length ≤ 6000
  | 0, _, _, _, h => h
  | _ + 1, [], _, _, h => h
  | f + 1, b :: r, i, acc, h => by
    simp only [scanA]
    split
    · simp
    · split
      · simp
      · split
        · simp
        · exact scanA_len f _ _ _ (by simp; omega)
theorem scanL_len (l : List UInt8) : (scanL l).1.length ≤ 6000 := by
  unfold scanL
  split
  · simp
  · exact scanA_len _ _ _ _ (by simp)

end Go.Proofs.Ytkolnimgdbhekaa.P
