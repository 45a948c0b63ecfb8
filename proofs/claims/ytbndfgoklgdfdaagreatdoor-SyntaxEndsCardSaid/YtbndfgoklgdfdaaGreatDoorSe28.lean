/- The reference's functions, as the print has them, say what the plain scanner says. The reference's token: the plain scanner's. The reference's Scan, Same, Equal: the plain scanner's. Check: the program's and the reference's, as one plain test on bytes. The plain scanner as a relation between a text and its tokens; what stands behind a token; two texts with a line feed between them. -/
import Derived.Test.YtbndfgoklgdfdaaGreatDoorSe05
import Derived.Test.YtbndfgoklgdfdaaGreatDoorSe12
import Derived.Test.YtbndfgoklgdfdaaGreatDoorSe26
import Derived.Test.YtbndfgoklgdfdaaGreatDoorSe27
import Derived.Test.YtbndfgoklgdfdaaGreatDoorSe08
set_option linter.all false
section
namespace Go.Proofs.YtbndfgoklgdfdaaGreatDoor.P
open Go.RowKit Go.Proofs.YtbndfgoklgdfdaaGreatDoorW.PrintWords Go.Proofs.YtbndfgoklgdfdaaGreatDoorW.PrintLast Go.Proofs.YtbndfgoklgdfdaaGreatDoorW.PrintMore

theorem bt_nat (s : ByteArray) (i : Nat) (h : i < s.size) : bt s (i : Int) = (s[i].toNat : Int) := by
 rw [← bt_at s i (by simpa using h)]
 simp
theorem small_f (c : UInt8) : peculiumref01_small.f (c.toNat : Int) = some (smallB c) := by
 have := of_bytes (p := fun c => peculiumref01_small.f (c.toNat : Int) == some (smallB c)) (by decide +kernel) c
 simpa using this
theorem capital_f (c : UInt8) : peculiumref01_capital.f (c.toNat : Int) = some (capB c) := by
 have := of_bytes (p := fun c => peculiumref01_capital.f (c.toNat : Int) == some (capB c)) (by decide +kernel) c
 simpa using this
theorem part_f (c : UInt8) : peculiumref01_part.f (c.toNat : Int) = some (partB c) := by
 have := of_bytes (p := fun c => peculiumref01_part.f (c.toNat : Int) == some (partB c)) (by decide +kernel) c
 simpa using this
theorem blank_f (c : UInt8) : peculiumref01_blank.f (c.toNat : Int) = some (blankB c) := by
 have := of_bytes (p := fun c => peculiumref01_blank.f (c.toNat : Int) == some (blankB c)) (by decide +kernel) c
 simpa using this
theorem byte_eq (c : UInt8) (k : Nat) (hk : k < 256) : ((c.toNat : Int) = (k : Int)) ↔ c = k.toUInt8 := by
 have := c.toNat_lt
 constructor
 ·intro h
  apply UInt8.toNat_inj.1
  simp [Nat.toUInt8]
  omega
 ·rintro rfl
  simp [Nat.toUInt8]
  omega
theorem wrap_succ (n : Nat) (h : n < 9223372036854775807) : wrap64 ((n : Int) + 1) = ((n + 1 : Nat) : Int) := by unfold wrap64; omega

theorem run_f (s : ByteArray) (hs : s.size ≤ 140737488351232) : ∀ (d i k : Nat), i + d = s.size → d < k → peculiumref01_run.l0 k s (i : Int) = some ((i + runN (s.data.toList.drop i) : Nat) : Int) := by
 intro d
 induction d with
 | zero =>
  intro i k h1 h2
  obtain ⟨k, rfl⟩ : ∃ m, k = m + 1 := ⟨k - 1, by omega⟩
  unfold peculiumref01_run.l0
  rw [if_neg (by omega), List.drop_of_length_le (by simp; omega)]
  rfl
 | succ d ih =>
  intro i k h1 h2
  obtain ⟨k, rfl⟩ : ∃ m, k = m + 1 := ⟨k - 1, by omega⟩
  have hi : i < s.size := by omega
  unfold peculiumref01_run.l0
  rw [if_pos (by omega), if_pos (by omega), bt_nat s i hi, part_f, drop_cons' s i hi, runN]
  simp only [Option.bind_some]
  cases hp : partB s[i]
  ·simp
  ·simp only [if_true]
   rw [wrap_succ i (by omega), ih (i + 1) k (by omega) (by omega)]
   congr 2
   omega
theorem extract_take (s : ByteArray) (i n : Nat) : (s.extract i (i + n)).toList = (s.data.toList.drop i).take n := by
 rw [Lib.toList_data, ByteArray.data_extract, Array.toList_extract, List.extract_eq_take_drop]
 simp
theorem isAt_f (s p : ByteArray) (i : Nat) (hs : s.size ≤ 140737488351232) (hi : i ≤ s.size) (hp : p.size ≤ 100) : peculiumref01_isAt.f s (i : Int) p = some ((s.data.toList.drop i).take p.size == p.data.toList) := by
 unfold peculiumref01_isAt.f
 have hw : wrap64 ((i : Int) + (p.size : Int)) = ((i + p.size : Nat) : Int) := by unfold wrap64; omega
 rw [hw]
 by_cases h : i + p.size ≤ s.size
 ·rw [if_pos (by omega), if_pos (by omega), if_pos (by omega)]
  rw [Int.toNat_natCast, Int.toNat_natCast, extract_take, Lib.toList_data]
 ·rw [if_neg (by omega)]
  congr 1
  symm
  rw [beq_eq_false_iff_ne]
  intro he
  have := congrArg List.length he
  simp at this
  omega

theorem refIndex_f (x : ByteArray) (l : List ByteArray) (hl : l.length < 1000000) : ∀ (d k i : Nat), i + d = l.length → d < k →
  ∃ j : Int, peculiumref01_Index.l0 k l x (i : Int) = some j ∧ decide (j ≥ 0) = ((l.drop i).map fun b => b.data.toList).contains x.data.toList := by
 intro d
 induction d with
 | zero =>
  intro k i h1 h2
  obtain ⟨k, rfl⟩ : ∃ m, k = m + 1 := ⟨k - 1, by omega⟩
  refine ⟨-1, ?_, ?_⟩
  ·simp only [peculiumref01_Index.l0]
   rw [if_neg (by omega)]
  ·rw [List.drop_of_length_le (by omega)]
   rfl
 | succ d ih =>
  intro k i h1 h2
  obtain ⟨k, rfl⟩ : ∃ m, k = m + 1 := ⟨k - 1, by omega⟩
  have hi : i < l.length := by omega
  have hd : l.drop i = l[i] :: l.drop (i + 1) := List.drop_eq_getElem_cons hi
  have hr : rdOf ByteArray.empty l (i : Int) = l[i] := by simp [rdOf, hi]
  by_cases he : (rdOf ByteArray.empty l (i : Int)).toList = x.toList
  ·refine ⟨(i : Int), ?_, ?_⟩
   ·simp only [peculiumref01_Index.l0]
    rw [if_pos (by omega), if_pos (by omega), if_pos he]
   ·rw [hd, List.map_cons, List.contains_cons]
    rw [hr, Lib.toList_data, Lib.toList_data] at he
    rw [he]
    simp
  ·obtain ⟨j, hj, hc⟩ := ih k (i + 1) (by omega) (by omega)
   refine ⟨j, ?_, ?_⟩
   ·simp only [peculiumref01_Index.l0]
    rw [if_pos (by omega), if_pos (by omega), if_neg he, wrap_succ i (by omega)]
    exact hj
   ·rw [hd, List.map_cons, List.contains_cons, hc]
    rw [hr, Lib.toList_data, Lib.toList_data] at he
    rw [show (x.data.toList == l[i].data.toList) = false from beq_eq_false_iff_ne.2 fun h => he h.symm]
    rfl
theorem refWords_f (x : ByteArray) (k : Nat) (hk : 20 < k) : ∃ ws j, peculiumref01_Words.f = some ws ∧ peculiumref01_Index.f k ws x = some j ∧ decide (j ≥ 0) = wordsL.contains x.data.toList := by
 obtain ⟨j, hj, hc⟩ := refIndex_f x [(⟨#[116, 121, 112, 101]⟩ : ByteArray), (⟨#[99, 111, 110, 115, 116]⟩ : ByteArray), (⟨#[112, 114, 101, 100]⟩ : ByteArray), (⟨#[102, 97, 99, 116]⟩ : ByteArray), (⟨#[108, 97, 115, 116, 105, 110, 103]⟩ : ByteArray), (⟨#[109, 111, 100, 101]⟩ : ByteArray), (⟨#[114, 117, 108, 101]⟩ : ByteArray), (⟨#[111, 110, 99, 101]⟩ : ByteArray), (⟨#[109, 111, 115, 116]⟩ : ByteArray), (⟨#[113, 117, 101, 114, 121]⟩ : ByteArray), (⟨#[109, 111, 100, 117, 108, 101]⟩ : ByteArray), (⟨#[117, 115, 101]⟩ : ByteArray), (⟨#[101, 120, 112, 111, 114, 116]⟩ : ByteArray), (⟨#[97, 108, 108]⟩ : ByteArray), (⟨#[101, 120]⟩ : ByteArray), (⟨#[111, 110, 101]⟩ : ByteArray), (⟨#[116, 111, 112]⟩ : ByteArray)] (by decide) 17 k 0 rfl (by omega)
 exact ⟨_, j, rfl, hj, hc⟩

/-- Which of the signs stands here. -/
def signAt (l : List UInt8) (p : ByteArray) : Bool := l.take p.size == p.data.toList
theorem signs_f (s : ByteArray) (i : Nat) (hs : s.size ≤ 140737488351232) (hi : i ≤ s.size) (l : List ByteArray) (hl : l.length < 1000000) (hp : ∀ p ∈ l, p.size ≤ 100) : ∀ (d k m : Nat), m + d = l.length → d < k →
  peculiumref01_token.l0 k s (i : Int) l (m : Int) = some (match (l.drop m).find? (signAt (s.data.toList.drop i)) with | none => (0, 0) | some p => (3, ((i + p.size : Nat) : Int))) := by
 intro d
 induction d with
 | zero =>
  intro k m h1 h2
  obtain ⟨k, rfl⟩ : ∃ m, k = m + 1 := ⟨k - 1, by omega⟩
  unfold peculiumref01_token.l0
  rw [if_neg (by omega), show l.drop m = [] from List.drop_of_length_le (by omega)]
  rfl
 | succ d ih =>
  intro k m h1 h2
  obtain ⟨k, rfl⟩ : ∃ m, k = m + 1 := ⟨k - 1, by omega⟩
  have hm : m < l.length := by omega
  have hd : l.drop m = l[m] :: l.drop (m + 1) := List.drop_eq_getElem_cons hm
  have hr : rdOf ByteArray.empty l (m : Int) = l[m] := by simp [rdOf, hm]
  have hsz := hp l[m] (List.getElem_mem hm)
  unfold peculiumref01_token.l0
  rw [if_pos (by omega), if_pos (by omega), hr, isAt_f s l[m] i hs hi hsz, hd, List.find?_cons]
  simp only [Option.bind_some]
  have hsa : signAt (s.data.toList.drop i) l[m] = ((s.data.toList.drop i).take l[m].size == l[m].data.toList) := rfl
  cases hc : ((s.data.toList.drop i).take l[m].size == l[m].data.toList)
  ·rw [hsa, hc]
   simp only [Bool.false_eq_true, if_false]
   rw [wrap_succ m (by omega)]
   exact ih k (m + 1) (by omega) (by omega)
  ·rw [hsa, hc]
   simp only [if_true]
   congr 2
   unfold wrap64
   omega
theorem find_ones (b : UInt8) (r : List UInt8) : ∀ l : List UInt8, (l.map fun c => (⟨#[c]⟩ : ByteArray)).find? (signAt (b :: r)) = if l.contains b then some ⟨#[b]⟩ else none
 | [] => rfl
 | c :: l => by
  rw [List.map_cons, List.find?_cons, find_ones b r l]
  have h : signAt (b :: r) ⟨#[c]⟩ = (b == c) := by
   unfold signAt
   rw [show (ByteArray.mk #[c]).size = 1 from rfl]
   simp
  rw [h, List.contains_cons]
  cases hb : b == c
  ·simp
  ·have : b = c := by simpa using hb
   simp [this]
theorem sign_two (b x y : UInt8) (r : List UInt8) : signAt (b :: r) ⟨#[x, y]⟩ = (b == x && r.head? == some y) := by
 unfold signAt
 rw [show (ByteArray.mk #[x, y]).size = 2 from rfl]
 cases r with
 | nil => simp
 | cons c r => simp
theorem small_not_cap (b : UInt8) (h : capB b = true) : smallB b = false := by
 have := of_bytes (p := fun b => !capB b || !smallB b) (by decide +kernel) b
 simpa [h] using this

/-- The token that begins at an offset, as the reference tells it. -/
def tokR (l : List UInt8) (i : Nat) : Int × Int :=
 match tok l with
 | none => (0, 0)
 | some (kd, n) => ((kd : Int), ((i + n : Nat) : Int))
theorem refSigns_f : peculiumref01_Signs.f = some (⟨#[45, 111]⟩ :: ⟨#[111, 45]⟩ :: ⟨#[61, 62]⟩ :: ⟨#[60, 61]⟩ :: ⟨#[45, 62]⟩ :: (onesL.map fun c => (⟨#[c]⟩ : ByteArray))) := rfl
theorem take1 (s : ByteArray) (j : Nat) (c : UInt8) : ((s.data.toList.drop j).take 1 == [c]) = (s.data.toList[j]? == some c) := by
 rw [Bool.eq_iff_iff]
 simp only [beq_iff_eq]
 by_cases h : j < s.size
 ·rw [drop_cons' s j h]
  have hg : s.data.toList[j]? = some s[j] := by simp [h]; rfl
  rw [hg]
  simp
 ·rw [List.drop_of_length_le (by simp; omega), List.getElem?_eq_none (by simp; omega)]
  simp
theorem tok2_f (s : ByteArray) (hs : s.size ≤ 140737488351232) (i : Nat) (hi : i < s.size) (hsm : smallB s[i] = true) (k : Nat) (hk : s.size + 30 < k) :
  peculiumref01_token.j1 k s (i : Int) ((i + nameN (s.data.toList.drop i) : Nat) : Int) = some (tokR (s.data.toList.drop i) i) := by
 obtain ⟨k, rfl⟩ : ∃ m, k = m + 1 := ⟨k - 1, by omega⟩
 obtain ⟨n, hn⟩ : ∃ n, n = nameN (s.data.toList.drop i) := ⟨_, rfl⟩
 have hnl := nameN_le (s.data.toList.drop i)
 rw [← hn] at hnl ⊢
 have hnl2 : i + n ≤ s.size := by simp at hnl; omega
 have hdr := drop_cons' s i hi
 have hx : (s.extract i (i + n)).toList = (s.data.toList.drop i).take n := extract_take s i n
 have hw1 : wrap64 (((i + n : Nat) : Int) + 1) = ((i + n + 1 : Nat) : Int) := wrap_succ _ (by omega)
 have hj2 : ∀ (k : Nat) (b : Bool), s.size + 25 < k → b = oB (s.data.toList.drop i) → (b = true → n = 1) → peculiumref01_token.j2 k s (i : Int) ((i + n : Nat) : Int) b = some (tokR (s.data.toList.drop i) i) := by
  intro k b hk hb hb1
  obtain ⟨k, rfl⟩ : ∃ m, k = m + 1 := ⟨k - 1, by omega⟩
  rw [peculiumref01_token.j2]
  cases b
  ·simp only [Bool.false_eq_true, if_false]
   obtain ⟨ws, j, h1, h2, h3⟩ := refWords_f (s.extract i (i + n)) k (by omega)
   rw [h1]
   simp only [Option.bind_some]
   rw [if_pos (by omega), if_pos (by omega), if_pos (by omega), Int.toNat_natCast, Int.toNat_natCast, h2]
   simp only [Option.bind_some]
   rw [← Lib.toList_data, hx] at h3
   unfold tokR
   rw [hdr] at hb h3 hn ⊢
   by_cases hj : j ≥ 0
   ·rw [if_pos hj, tok_word hsm hb.symm (by rw [← hn, ← h3]; simpa using hj), ← hn]
    rfl
   ·rw [if_neg hj, tok_name hsm hb.symm (by rw [← hn, ← h3]; simpa using hj), ← hn]
    rfl
  ·simp only [if_true]
   rw [hw1]
   unfold tokR
   rw [hdr] at hb ⊢
   rw [tok_o hsm hb.symm, hb1 rfl]
   rfl
 rw [peculiumref01_token.j1]
 rw [if_pos (by omega), if_pos (by omega), if_pos (by omega), Int.toNat_natCast, Int.toNat_natCast, hx]
 by_cases h1 : (s.data.toList.drop i).take n = [111]
 ·have hn1 : n = 1 := by
   have := congrArg List.length h1
   simp at this
   omega
  rw [if_pos h1, isAt_f s ⟨#[45]⟩ (i + n) hs hnl2 (by decide)]
  simp only [Option.bind_some]
  refine hj2 k _ (by omega) ?_ (fun _ => hn1)
  rw [show ((s.data.toList.drop (i + n)).take (ByteArray.mk #[45]).size == (ByteArray.mk #[45]).data.toList) = (s.data.toList[i + n]? == some 45) from take1 s (i + n) 45]
  unfold oB
  rw [← hn, h1, hn1]
  simp
 ·rw [if_neg h1]
  refine hj2 k false (by omega) ?_ (fun h => by cases h)
  unfold oB
  rw [← hn, show ((s.data.toList.drop i).take n == [111]) = false from beq_eq_false_iff_ne.2 h1]
  rfl

end Go.Proofs.YtbndfgoklgdfdaaGreatDoor.P

namespace Go.Proofs.YtbndfgoklgdfdaaGreatDoor.P
open Go.RowKit Go.Proofs.YtbndfgoklgdfdaaGreatDoorW.PrintWords Go.Proofs.YtbndfgoklgdfdaaGreatDoorW.PrintLast Go.Proofs.YtbndfgoklgdfdaaGreatDoorW.PrintMore

theorem byte64' (c : UInt8) : ((c.toNat : Int) = 64) ↔ c = 64 := byte_eq c 64 (by omega)
theorem rtok_small (s : ByteArray) (hs : s.size ≤ 140737488351232) (i : Nat) (hi : i < s.size) (hsm : smallB s[i] = true) (m : Nat) (hm : m = runN (s.data.toList.drop i)) (hrl2 : i + m ≤ s.size) (b : Bool) (hb : b = linkB (s.data.toList.drop i)) (k : Nat) (hk : s.size + 40 < k) :
  peculiumref01_token.j0 k s (i : Int) ((i + m : Nat) : Int) b = some (tokR (s.data.toList.drop i) i) := by
 obtain ⟨k, rfl⟩ : ∃ m, k = m + 1 := ⟨k - 1, by omega⟩
 rw [peculiumref01_token.j0]
 cases b
 ·simp only [Bool.false_eq_true, if_false]
  have hn : nameN (s.data.toList.drop i) = m := by unfold nameN; rw [← hb, hm]; rfl
  have := tok2_f s hs i hi hsm k (by omega)
  rw [hn] at this
  exact this
 ·simp only [if_true]
  have hlk := linkB_lt hb.symm
  rw [← hm] at hlk
  simp at hlk
  have hn : nameN (s.data.toList.drop i) = m + 1 + runN (s.data.toList.drop (i + m + 1)) := by
   unfold nameN
   rw [← hb, ← hm, if_pos rfl, List.drop_drop, show i + (m + 1) = i + m + 1 by omega]
  have hr2 := run_f s hs (s.size - (i + m + 1)) (i + m + 1) k (by omega) (by omega)
  rw [wrap_succ _ (by omega)]
  unfold peculiumref01_run.f
  rw [hr2]
  simp only [Option.bind_some]
  have := tok2_f s hs i hi hsm k (by omega)
  rw [hn] at this
  rw [show i + m + 1 + runN (s.data.toList.drop (i + m + 1)) = i + (m + 1 + runN (s.data.toList.drop (i + m + 1))) by omega]
  exact this
theorem find_signs (b : UInt8) (r : List UInt8) (hsm : smallB b = false) (hcap : capB b = false) (h4 : (b == 45 && r.head? == some 111) = false) (i : Nat) :
  (match ((⟨#[61, 62]⟩ : ByteArray) :: ⟨#[60, 61]⟩ :: ⟨#[45, 62]⟩ :: (onesL.map fun c => (⟨#[c]⟩ : ByteArray))).find? (signAt (b :: r)) with | none => ((0 : Int), (0 : Int)) | some p => ((3 : Int), ((i + p.size : Nat) : Int))) = tokR (b :: r) i := by
 rw [List.find?_cons, List.find?_cons, List.find?_cons, sign_two, sign_two, sign_two, find_ones]
 unfold tokR
 cases h2 : (b == 61 && r.head? == some 62)
 ·cases h3 : (b == 60 && r.head? == some 61)
  ·cases h1 : (b == 45 && r.head? == some 62)
   ·cases ho : onesL.contains b
    ·rw [tok_none1 hsm hcap h1 h2 h3 h4 ho]
     rfl
    ·rw [tok_one hsm hcap h1 h2 h3 h4 ho]
     rfl
   ·rw [tok_two hsm hcap (.inl h1)]
    rfl
  ·rw [tok_two hsm hcap (.inr (.inr h3))]
   rfl
 ·rw [tok_two hsm hcap (.inr (.inl h2))]
  rfl
theorem refSigns_le : ∀ p ∈ ((⟨#[45, 111]⟩ : ByteArray) :: ⟨#[111, 45]⟩ :: ⟨#[61, 62]⟩ :: ⟨#[60, 61]⟩ :: ⟨#[45, 62]⟩ :: (onesL.map fun c => (⟨#[c]⟩ : ByteArray))), p.size ≤ 100 := by
 intro p hp
 simp only [List.mem_cons, List.mem_map] at hp
 rcases hp with rfl | rfl | rfl | rfl | rfl | ⟨c, _, rfl⟩ <;> simp [ByteArray.size]
theorem rtok_sign (s : ByteArray) (hs : s.size ≤ 140737488351232) (i : Nat) (hi : i < s.size) (hsm : smallB s[i] = false) (hcap : capB s[i] = false) (h4 : (s[i] == 45 && (s.data.toList.drop (i + 1)).head? == some 111) = false) (k : Nat) (hk : s.size + 40 < k) :
  peculiumref01_token.l0 k s (i : Int) ((⟨#[45, 111]⟩ : ByteArray) :: ⟨#[111, 45]⟩ :: ⟨#[61, 62]⟩ :: ⟨#[60, 61]⟩ :: ⟨#[45, 62]⟩ :: (onesL.map fun c => (⟨#[c]⟩ : ByteArray))) 2 = some (tokR (s.data.toList.drop i) i) := by
 have h := signs_f s i hs (by omega) _ (by simp [onesL]) refSigns_le 15 k 2 (by simp [onesL]) (by omega)
 rw [drop_cons' s i hi] at h ⊢
 rw [← find_signs s[i] _ hsm hcap h4 i]
 exact h
theorem rtok_lolli (s : ByteArray) (hs : s.size ≤ 140737488351232) (i : Nat) (hi : i < s.size) (hsm : smallB s[i] = false) (hcap : capB s[i] = false) (h4 : (s[i] == 45 && (s.data.toList.drop (i + 1)).head? == some 111) = true) :
  (if (wrap64 ((i : Int) + 2)) < (s.size : Int) then (if 0 ≤ (wrap64 ((i : Int) + 2)) then ((peculiumref01_part.f (bt s (wrap64 ((i : Int) + 2)))).bind fun t157 => (if t157 = true then (some ((0 : Int), (0 : Int))) else (some (3, wrap64 ((i : Int) + 2))))) else (none)) else (some (3, wrap64 ((i : Int) + 2)))) = some (tokR (s.data.toList.drop i) i) := by
 have hdr := drop_cons' s i hi
 have h45 : s[i] = 45 := by simp at h4; exact h4.1
 have h111 : (s.data.toList.drop (i + 1)).head? = some 111 := by
  rw [Bool.and_eq_true] at h4
  exact beq_iff_eq.1 h4.2
 have hi1 : i + 1 < s.size := by
  rw [List.head?_drop] at h111
  have := (List.getElem?_eq_some_iff.1 h111).1
  simpa using this
 have h1 : (s[i] == 45 && (s.data.toList.drop (i + 1)).head? == some 62) = false := by rw [h111]; simp
 have h2 : (s[i] == 61 && (s.data.toList.drop (i + 1)).head? == some 62) = false := by rw [h111]; simp
 have h3 : (s[i] == 60 && (s.data.toList.drop (i + 1)).head? == some 61) = false := by rw [h111]; simp
 have hw2 : wrap64 ((i : Int) + 2) = ((i + 2 : Nat) : Int) := by unfold wrap64; omega
 rw [hw2]
 unfold tokR
 by_cases hi2 : i + 2 < s.size
 ·have hd2 : (s[i] :: s.data.toList.drop (i + 1))[2]? = some s[i + 2] := by
   rw [← hdr, List.getElem?_drop]
   simp [hi2]
   rfl
  rw [if_pos (by omega), if_pos (by omega), bt_nat s (i + 2) hi2, part_f]
  simp only [Option.bind_some]
  rw [hdr]
  cases hp : partB s[i + 2]
  ·rw [tok_lolli hsm hcap h1 h2 h3 h4 (.inr ⟨_, hd2, hp⟩)]
   rfl
  ·rw [tok_none2 hsm hcap h1 h2 h3 h4 hd2 hp]
   rfl
 ·rw [if_neg (by omega), hdr, tok_lolli hsm hcap h1 h2 h3 h4 (.inl (by simp; omega))]
  rfl
theorem rtok_f (s : ByteArray) (hs : s.size ≤ 140737488351232) (i : Nat) (hi : i < s.size) (k : Nat) (hk : s.size + 40 < k) :
  peculiumref01_token.f k s (i : Int) = some (tokR (s.data.toList.drop i) i) := by
 have hdr := drop_cons' s i hi
 have hrun := run_f s hs (s.size - i) i k (by omega) (by omega)
 have hrl := runN_le (s.data.toList.drop i)
 have hrl2 : i + runN (s.data.toList.drop i) ≤ s.size := by simp at hrl; omega
 unfold peculiumref01_token.f
 rw [if_pos (by omega), if_pos (by omega), bt_nat s i hi, capital_f, small_f, Option.bind_some]
 by_cases hcap : capB s[i] = true
 ·rw [if_pos hcap]
  unfold peculiumref01_run.f
  rw [hrun]
  simp only [Option.bind_some]
  unfold tokR
  rw [hdr, tok_cap (small_not_cap _ hcap) hcap]
  rfl
 ·have hcap' : capB s[i] = false := by simpa using hcap
  rw [if_neg hcap]
  by_cases hsm : smallB s[i] = true
  ·rw [Option.bind_some, if_pos hsm]
   unfold peculiumref01_run.f
   rw [hrun, Option.bind_some]
   obtain ⟨m, hm⟩ : ∃ m, m = runN (s.data.toList.drop i) := ⟨_, rfl⟩
   rw [← hm] at hrl2 ⊢
   have hdm : (s.data.toList.drop i).drop m = s.data.toList.drop (i + m) := by rw [List.drop_drop]
   by_cases h1 : i + m + 1 < s.size
   ·rw [wrap_succ _ (by omega), if_pos (by omega), if_pos (by omega), if_pos (by omega), bt_nat s (i + m) (by omega)]
    have hlk : linkB (s.data.toList.drop i) = (s[i + m] == 64 && smallB s[i + m + 1]) := by
     unfold linkB
     rw [← hm, hdm, drop_cons' s (i + m) (by omega), drop_cons' s (i + m + 1) (by omega)]
    by_cases h64 : s[i + m] = 64
    ·rw [if_pos ((byte64' _).2 h64), if_pos (by omega), bt_nat s (i + m + 1) h1, small_f, Option.bind_some]
     exact rtok_small s hs i hi hsm m hm hrl2 _ (by rw [hlk, h64]; simp) k hk
    ·rw [if_neg (fun h => h64 ((byte64' _).1 h))]
     exact rtok_small s hs i hi hsm m hm hrl2 _ (by rw [hlk, show (s[i + m] == 64) = false from beq_eq_false_iff_ne.2 h64, Bool.false_and]) k hk
   ·rw [wrap_succ _ (by omega), if_neg (by omega)]
    refine rtok_small s hs i hi hsm m hm hrl2 _ ?_ k hk
    cases hb : linkB (s.data.toList.drop i)
    ·rfl
    ·have := linkB_lt hb
     rw [← hm] at this
     simp at this
     omega
  ·have hsm' : smallB s[i] = false := by simpa using hsm
   rw [Option.bind_some, if_neg hsm, isAt_f s ⟨#[45, 111]⟩ i hs (by omega) (by decide), Option.bind_some]
   have hlo : ((s.data.toList.drop i).take (ByteArray.mk #[45, 111]).size == (ByteArray.mk #[45, 111]).data.toList) = (s[i] == 45 && (s.data.toList.drop (i + 1)).head? == some 111) := by
    rw [hdr]
    exact sign_two s[i] 45 111 (s.data.toList.drop (i + 1))
   rw [hlo]
   cases h4 : (s[i] == 45 && (s.data.toList.drop (i + 1)).head? == some 111)
   ·rw [if_neg (by simp), refSigns_f]
    exact rtok_sign s hs i hi hsm' hcap' h4 k hk
   ·rw [if_pos rfl]
    exact rtok_lolli s hs i hi hsm' hcap' h4

end Go.Proofs.YtbndfgoklgdfdaaGreatDoor.P

namespace Go.Proofs.YtbndfgoklgdfdaaGreatDoor.P
open Go.RowKit Go.Proofs.YtbndfgoklgdfdaaGreatDoorW.PrintWords Go.Proofs.YtbndfgoklgdfdaaGreatDoorW.PrintLast Go.Proofs.YtbndfgoklgdfdaaGreatDoorW.PrintMore

/-- How many bytes stand ahead of the next line feed. -/
def lineN : List UInt8 → Nat
 | [] => 0
 | c :: l => if c = 10 then 0 else lineN l + 1
theorem lineN_le : ∀ l : List UInt8, lineN l ≤ l.length
 | [] => Nat.le_refl _
 | c :: l => by
  unfold lineN
  have := lineN_le l
  split <;> simp <;> omega
theorem skip_line : ∀ l : List UInt8, skipN true l = lineN l + skipN false (l.drop (lineN l))
 | [] => rfl
 | c :: l => by
  by_cases hc : c = 10
  ·subst hc
   simp [skipN, lineN, blankB]
  ·simp only [skipN, lineN, if_neg hc, List.drop_succ_cons]
   rw [skip_line l]
   omega
theorem byte10 (c : UInt8) : ((c.toNat : Int) = 10) ↔ c = 10 := byte_eq c 10 (by omega)
theorem byte37 (c : UInt8) : ((c.toNat : Int) = 37) ↔ c = 37 := byte_eq c 37 (by omega)
theorem lineEnd_f (s : ByteArray) (hs : s.size ≤ 140737488351232) : ∀ (d i k : Nat), i + d = s.size → d < k → peculiumref01_lineEnd.l0 k s (i : Int) = some ((i + lineN (s.data.toList.drop i) : Nat) : Int) := by
 intro d
 induction d with
 | zero =>
  intro i k h1 h2
  obtain ⟨k, rfl⟩ : ∃ m, k = m + 1 := ⟨k - 1, by omega⟩
  unfold peculiumref01_lineEnd.l0
  rw [if_neg (by omega), List.drop_of_length_le (by simp; omega)]
  rfl
 | succ d ih =>
  intro i k h1 h2
  obtain ⟨k, rfl⟩ : ∃ m, k = m + 1 := ⟨k - 1, by omega⟩
  have hi : i < s.size := by omega
  unfold peculiumref01_lineEnd.l0
  rw [if_pos (by omega), if_pos (by omega), bt_nat s i hi, drop_cons' s i hi, lineN]
  by_cases hc : s[i] = 10
  ·rw [if_pos ((byte10 _).2 hc), if_pos hc]
   rfl
  ·rw [if_neg (fun h => hc ((byte10 _).1 h)), if_neg hc, wrap_succ i (by omega), ih (i + 1) k (by omega) (by omega)]
   congr 2
   omega
theorem word_short (x : List UInt8) (h : wordsL.contains x = true) : x.length ≤ 7 := by
 have h2 : x ∈ wordsL := by simpa using h
 have : ∀ y ∈ wordsL, y.length ≤ 7 := by decide
 exact this x h2
theorem tok_kind {l : List UInt8} {kd n : Nat} (h : tok l = some (kd, n)) : (kd = 1 ∨ kd = 2) ∨ (kd = 3 ∨ kd = 4) ∧ n ≤ 7 := by
 match l, h with
 | b :: r, h =>
  simp only [tok] at h
  split at h
  ·split at h
   ·simp at h
    omega
   ·split at h
    ·rename_i hw
     have h1 := word_short _ hw
     have h2 := nameN_le (b :: r)
     rw [List.length_take, Nat.min_eq_left h2] at h1
     simp at h
     omega
    ·simp at h
     omega
  ·split at h
   ·simp at h
    omega
   ·split at h
    ·simp at h
     omega
    ·split at h
     ·split at h
      ·simp at h
       omega
      ·split at h
       ·cases h
       ·simp at h
        omega
     ·split at h
      ·simp at h
       omega
      ·cases h
theorem extract_mk (s : ByteArray) (i n : Nat) : s.extract i (i + n) = ⟨((s.data.toList.drop i).take n).toArray⟩ := by
 have h := extract_take s i n
 rw [Lib.toList_data] at h
 rw [← h]

theorem scan_f (s : ByteArray) (hs : s.size ≤ 20000) : ∀ (d i k f : Nat) (acc : List S65), i + d = s.size → s.size + 45 + d < k → d < f → acc.length ≤ 6000 →
  peculiumref01_Scan.l0 k s acc (i : Int) = some (scanA f (s.data.toList.drop (i + skipN false (s.data.toList.drop i))) (i + skipN false (s.data.toList.drop i)) acc) := by
 intro d
 induction d using Nat.strongRecOn with
 | ind d ih =>
  intro i k f acc h1 h2 hf ha
  obtain ⟨k, rfl⟩ : ∃ m, k = m + 1 := ⟨k - 1, by omega⟩
  obtain ⟨f, rfl⟩ : ∃ m, f = m + 1 := ⟨f - 1, by omega⟩
  by_cases hi : i < s.size
  ·have hdr := drop_cons' s i hi
   rw [peculiumref01_Scan.l0, if_pos (by omega), if_pos (by omega), bt_nat s i hi, blank_f, Option.bind_some]
   by_cases hb : blankB s[i] = true
   ·rw [if_pos hb, wrap_succ i (by omega), ih (d - 1) (by omega) (i + 1) k (f + 1) acc (by omega) (by omega) (by omega) ha]
    have : skipN false (s.data.toList.drop i) = skipN false (s.data.toList.drop (i + 1)) + 1 := by
     rw [hdr, skipN, if_pos hb]
    rw [this, show i + (skipN false (s.data.toList.drop (i + 1)) + 1) = i + 1 + skipN false (s.data.toList.drop (i + 1)) by omega]
   ·rw [if_neg hb]
    by_cases h37 : s[i] = 37
    ·rw [if_pos ((byte37 _).2 h37)]
     unfold peculiumref01_lineEnd.f
     rw [lineEnd_f s (by omega) (s.size - i) i k (by omega) (by omega), Option.bind_some]
     have hl1 : lineN (s.data.toList.drop i) = lineN (s.data.toList.drop (i + 1)) + 1 := by rw [hdr, lineN, if_neg (by rw [h37]; decide)]
     have hle := lineN_le (s.data.toList.drop i)
     simp at hle
     have hsk : skipN false (s.data.toList.drop i) = lineN (s.data.toList.drop i) + skipN false (s.data.toList.drop (i + lineN (s.data.toList.drop i))) := by
      rw [hl1]
      conv => lhs; rw [hdr, skipN, if_neg hb, if_pos h37]
      rw [skip_line, List.drop_drop, show i + 1 + lineN (s.data.toList.drop (i + 1)) = i + (lineN (s.data.toList.drop (i + 1)) + 1) by omega]
      omega
     rw [ih (s.size - (i + lineN (s.data.toList.drop i))) (by omega) (i + lineN (s.data.toList.drop i)) k (f + 1) acc (by omega) (by omega) (by omega) ha]
     rw [hsk, Nat.add_assoc]
    ·rw [if_neg (fun h => h37 ((byte37 _).1 h)), rtok_f s (by omega) i hi k (by omega), Option.bind_some]
     have hsk : skipN false (s.data.toList.drop i) = 0 := by rw [hdr, skipN, if_neg hb, if_neg h37]
     rw [hsk, show i + 0 = i from rfl]
     unfold tokR
     rw [hdr]
     cases ht : tok (s[i] :: s.data.toList.drop (i + 1)) with
     | none =>
      rw [if_pos rfl]
      simp only [scanA, ht]
     | some p =>
      obtain ⟨kd, n⟩ := p
      have hk := tok_kind ht
      have hn := tok_le ht
      rw [← hdr] at hn ht
      have hn2 := hn.2
      simp at hn2
      simp only
      rw [if_neg (by omega)]
      rw [← hdr]
      by_cases h6 : acc.length = 6000
      ·rw [if_pos (by omega)]
       rw [hdr] at ht ⊢
       simp only [scanA, ht, if_pos h6]
      ·rw [if_neg (by omega)]
       have hw : wrap64 (((i + n : Nat) : Int) - (i : Int)) = (n : Int) := by unfold wrap64; omega
       rw [hw]
       by_cases h40 : 40 < n
       ·rw [if_pos (by omega)]
        rw [hdr] at ht ⊢
        simp only [scanA, ht, if_neg h6]
        rw [if_pos ⟨by omega, h40⟩]
       ·rw [if_neg (by omega), if_pos (by omega), if_pos (by omega), if_pos (by omega)]
        rw [ih (s.size - (i + n)) (by omega) (i + n) k f _ (by omega) (by omega) (by omega) (by simp; omega)]
        have hsc : scanA (f + 1) (s.data.toList.drop i) i acc = scanA f (((s.data.toList.drop i).drop n).drop (skipN false ((s.data.toList.drop i).drop n))) (i + n + skipN false ((s.data.toList.drop i).drop n)) (acc ++ [⟨kd, ⟨((s.data.toList.drop i).take n).toArray⟩, i⟩]) := by
         rw [hdr] at ht ⊢
         simp only [scanA, ht, if_neg h6]
         rw [if_neg (by omega)]
        have hdd : (s.data.toList.drop i).drop n = s.data.toList.drop (i + n) := List.drop_drop
        rw [hdd, List.drop_drop] at hsc
        rw [hsc, Int.toNat_natCast, Int.toNat_natCast, extract_mk]
  ·obtain rfl : i = s.size := by omega
   rw [peculiumref01_Scan.l0, if_neg (by omega)]
   have hd : s.data.toList.drop s.size = [] := List.drop_of_length_le (by simp)
   rw [hd]
   simp only [skipN, Nat.add_zero]
   rw [hd]
   rfl
theorem refScan_f (s : ByteArray) (k : Nat) (hk : 50000 < k) : peculiumref01_Scan.f k s = some (scanL s.data.toList) := by
 unfold peculiumref01_Scan.f scanL
 by_cases h : 20000 < s.size
 ·rw [if_pos (by omega), if_pos (by simpa using h)]
 ·rw [if_neg (by omega), if_neg (by simpa using h)]
  have := scan_f s (by omega) s.size 0 k (s.data.toList.length + 1) [] (by omega) (by omega) (by simp) (by simp)
  rw [Nat.zero_add, List.drop_zero] at this
  exact this

end Go.Proofs.YtbndfgoklgdfdaaGreatDoor.P
end
section
namespace Go.Proofs.YtbndfgoklgdfdaaGreatDoor.P
open Go.RowKit Go.Proofs.YtbndfgoklgdfdaaGreatDoorW.PrintWords Go.Proofs.YtbndfgoklgdfdaaGreatDoorW.PrintLast Go.Proofs.YtbndfgoklgdfdaaGreatDoorW.PrintMore

/-- Is it, from end to end, a token of this kind? -/
def vTok (kd : Int) (l : List UInt8) : Bool :=
 match tok l with
 | none => false
 | some (k, n) => (k : Int) == kd && n == l.length && decide (l.length ≤ 40)
theorem scanA_prefix : ∀ (f : Nat) (l : List UInt8) (i : Nat) (acc : List S65), (scanA f l i acc).2.2 = 0 → ∃ t, (scanA f l i acc).1 = acc ++ t
 | 0, _, _, acc, _ => ⟨[], by simp [scanA]⟩
 | _ + 1, [], _, acc, _ => ⟨[], by simp [scanA]⟩
 | f + 1, b :: r, i, acc, h => by
  simp only [scanA] at h ⊢
  split
  ·rename_i ht; rw [ht] at h; simp at h
  ·rename_i kd n ht
   rw [ht] at h
   simp only at h
   split
   ·rename_i h6; rw [if_pos h6] at h; simp at h
   ·rename_i h6
    rw [if_neg h6] at h
    split
    ·rename_i h40; rw [if_pos h40] at h; simp at h
    ·rename_i h40
     rw [if_neg h40] at h
     obtain ⟨t, ht2⟩ := scanA_prefix f _ _ _ h
     exact ⟨_ :: t, by rw [ht2, List.append_assoc]; rfl⟩
theorem tok_blank {l : List UInt8} (h : skipN false l ≠ 0) : tok l = none := by
 match l, h with
 | b :: r, h =>
  have hb : blankB b = true ∨ b = 37 := by
   by_cases hb : blankB b = true
   ·exact .inl hb
   ·by_cases h37 : b = 37
    ·exact .inr h37
    ·simp [skipN, hb, h37] at h
  have := of_bytes (p := fun b => !(blankB b || b == 37) || (!smallB b && !capB b && !(b == 45) && !(b == 61) && !(b == 60) && !onesL.contains b)) (by decide +kernel) b
  have hbb : (blankB b || b == 37) = true := by rcases hb with h | h <;> simp [h]
  rw [hbb] at this
  simp only [Bool.not_true, Bool.false_or, Bool.and_eq_true, Bool.not_eq_true', beq_eq_false_iff_ne] at this
  obtain ⟨⟨⟨⟨⟨h1, h2⟩, h3⟩, h4⟩, h5⟩, h6⟩ := this
  simp only [tok]
  rw [if_neg (by rw [h1]; simp), if_neg (by rw [h2]; simp), if_neg (by simp [h3, h4, h5]), if_neg (by simp [h3]), if_neg (by rw [h6]; simp)]
theorem mk_toList (l : List UInt8) : (ByteArray.mk l.toArray).toList = l := by rw [Lib.toList_data]
theorem okT_vTok (t : S65) : okT t = vTok t.f0 t.f1.data.toList := by
 obtain ⟨l, hl⟩ : ∃ l, l = t.f1.data.toList := ⟨_, rfl⟩
 have hlt : t.f1.toList = l := by rw [Lib.toList_data, hl]
 unfold okT
 rw [hlt, ← hl]
 unfold vTok
 by_cases hbig : 20000 < l.length
 ·have : scanL l = ([], 0, 2) := by unfold scanL; rw [if_pos hbig]
  rw [this]
  cases ht : tok l with
  | none => rfl
  | some p =>
   obtain ⟨kd, n⟩ := p
   simp
   omega
 ·have hsc : scanL l = scanA (l.length + 1) (l.drop (skipN false l)) (skipN false l) [] := by unfold scanL; rw [if_neg hbig]
  by_cases hsk : skipN false l = 0
  ·rw [hsk, List.drop_zero] at hsc
   match l, hsc with
   | [], hsc => rw [hsc]; rfl
   | b :: r, hsc =>
    cases ht : tok (b :: r) with
    | none =>
     have : scanL (b :: r) = ([], ((0 : Nat) : Int), 10) := by rw [hsc]; simp only [scanA, ht]
     rw [this]
    | some p =>
     obtain ⟨kd, n⟩ := p
     have hk := tok_kind ht
     have hn := tok_le ht
     by_cases h40 : (kd = 1 ∨ kd = 2) ∧ 40 < n
     ·have : scanL (b :: r) = ([], ((0 : Nat) : Int), 11) := by
       rw [hsc]
       simp only [scanA, ht]
       rw [if_neg (by simp), if_pos h40]
      rw [this]
      simp at hn ⊢
      omega
     ·have hst : scanL (b :: r) = scanA (b :: r).length (((b :: r).drop n).drop (skipN false ((b :: r).drop n))) (0 + n + skipN false ((b :: r).drop n)) ([] ++ [⟨kd, ⟨((b :: r).take n).toArray⟩, ((0 : Nat) : Int)⟩]) := by
       rw [hsc]
       simp only [scanA, ht]
       rw [if_neg (by simp), if_neg h40]
      rw [List.nil_append] at hst
      by_cases hnl : n = (b :: r).length
      ·have hfin : scanL (b :: r) = ([⟨kd, ⟨((b :: r).take n).toArray⟩, ((0 : Nat) : Int)⟩], 0, 0) := by
        rw [hst, hnl, List.drop_length]
        simp [skipN, scanA]
       rw [hfin]
       simp only [mk_toList]
       rw [hnl, List.take_length]
       simp at hk hnl ⊢
       intro _
       omega
      ·have hpre := scanA_prefix (b :: r).length (((b :: r).drop n).drop (skipN false ((b :: r).drop n))) (0 + n + skipN false ((b :: r).drop n)) [⟨kd, ⟨((b :: r).take n).toArray⟩, ((0 : Nat) : Int)⟩]
       rw [← hst] at hpre
       have hrhs : (match (some (kd, n) : Option (Nat × Nat)) with | none => false | some (k, n) => (k : Int) == t.f0 && n == (b :: r).length && decide ((b :: r).length ≤ 40)) = false := by
        show ((kd : Int) == t.f0 && n == (b :: r).length && decide ((b :: r).length ≤ 40)) = false
        rw [show (n == (b :: r).length) = false from beq_eq_false_iff_ne.2 hnl, Bool.and_false, Bool.false_and]
       refine Eq.trans ?_ hrhs.symm
       rcases hs : scanL (b :: r) with ⟨res, a, e⟩
       rw [hs] at hpre
       match res, hpre with
       | [], _ => rfl
       | [y], hpre =>
        by_cases he : e = 0
        ·obtain ⟨t', ht'⟩ := hpre he
         have hy : y = ⟨kd, ⟨((b :: r).take n).toArray⟩, ((0 : Nat) : Int)⟩ := by
          simp at ht'
          exact ht'.1
         rw [hy]
         simp only [mk_toList]
         rw [show ((b :: r).take n == b :: r) = false from beq_eq_false_iff_ne.2 fun h => by
          have := congrArg List.length h
          rw [List.length_take] at this
          omega]
         simp
        ·simp [he]
       | _ :: _ :: _, _ => rfl
  ·rw [tok_blank hsk]
   rw [hsc]
   rcases hs : scanA (l.length + 1) (l.drop (skipN false l)) (skipN false l) [] with ⟨res, a, e⟩
   match res, hs with
   | [], _ => rfl
   | _ :: _ :: _, _ => rfl
   | [y], hs =>
    by_cases he : e = 0
    ·have hys : y.f1.toList.length ≤ l.length - skipN false l := by
      rcases hd : l.drop (skipN false l) with _ | ⟨b, r⟩
      ·rw [hd] at hs
       simp [scanA] at hs
      ·rw [hd] at hs
       have hlen := congrArg List.length hd
       rw [List.length_drop] at hlen
       simp only [scanA] at hs
       split at hs
       ·simp at hs
       ·rename_i kd n ht
        have hn := tok_le ht
        split at hs
        ·simp at hs
        ·split at hs
         ·simp at hs
         ·have hpre := scanA_prefix _ _ _ _ (by rw [hs]; exact he)
          obtain ⟨t', ht'⟩ := hpre
          rw [hs] at ht'
          simp at ht'
          rw [ht'.1, mk_toList, List.length_take]
          simp at hn hlen ⊢
          omega
     simp only
     rw [show (y.f1.toList == l) = false from beq_eq_false_iff_ne.2 fun h => by
      have h1 := congrArg List.length h
      have h2 := skipN_le false l
      omega]
     simp
    ·simp [he]
theorem refCheck_f (kd : Int) (s : ByteArray) (a : Int) (k : Nat) (hk : 200 < k) (hs : s.size ≤ 140737488351232) : peculiumref01_Check.f k kd s a = some (if vTok kd s.data.toList then 0 else 12) := by
 obtain ⟨k, rfl⟩ : ∃ m, k = m + 1 := ⟨k - 1, by omega⟩
 have ht12 : peculiumref01_Check.j0 (k + 1) true kd s a = some 12 := by rw [peculiumref01_Check.j0, if_pos rfl]
 unfold peculiumref01_Check.f
 by_cases h0 : s.size = 0
 ·rw [if_pos (by omega), ht12]
  have : s.data.toList = [] := List.eq_nil_of_length_eq_zero (by simpa using h0)
  rw [this]
  rfl
 ·rw [if_neg (by omega)]
  by_cases h40 : 40 < s.size
  ·rw [if_pos (by omega), ht12]
   have : vTok kd s.data.toList = false := by
    unfold vTok
    split
    ·rfl
    ·simp
     omega
   rw [this]
   rfl
  ·rw [if_neg (by omega), if_pos (by omega)]
   have hdr := drop_cons' s 0 (by omega)
   rw [List.drop_zero] at hdr
   have hb0 := bt_nat s 0 (by omega)
   rw [show ((0 : Nat) : Int) = 0 from rfl] at hb0
   rw [hb0, blank_f, Option.bind_some]
   by_cases hb : blankB s[0] = true
   ·rw [if_pos hb, ht12]
    have : vTok kd s.data.toList = false := by
     unfold vTok
     rw [tok_blank (by rw [hdr, skipN, if_pos hb]; omega)]
    rw [this]
    rfl
   ·rw [if_neg hb]
    by_cases h37 : s[0] = 37
    ·have : (((s[0].toNat : Int)) == 37) = true := by rw [h37]; rfl
     rw [this, ht12]
     have : vTok kd s.data.toList = false := by
      unfold vTok
      rw [tok_blank (by rw [hdr, skipN, if_neg hb, if_pos h37]; omega)]
     rw [this]
     rfl
    ·have : (((s[0].toNat : Int)) == 37) = false := beq_eq_false_iff_ne.2 fun h => h37 ((byte37 _).1 h)
     rw [this, peculiumref01_Check.j0, if_neg (by simp)]
     have ht := rtok_f s hs 0 (by omega) k (by omega)
     rw [show ((0 : Nat) : Int) = 0 from rfl] at ht
     rw [ht, Option.bind_some, List.drop_zero]
     unfold tokR vTok
     cases htk : tok s.data.toList with
     | none =>
      simp only
      rw [if_neg (show ¬ (0 : Int) = (s.size : Int) by omega)]
      split <;> rfl
     | some p =>
      obtain ⟨kk, n⟩ := p
      have hkk := tok_kind htk
      simp only
      by_cases h1 : (kk : Int) = kd
      ·rw [if_pos h1]
       by_cases h2 : n = s.size
       ·rw [if_pos (by omega), if_neg (by omega)]
        simp [h1, h2]
        omega
       ·rw [if_neg (by omega)]
        simp [h2]
      ·rw [if_neg h1]
       simp [h1]

end Go.Proofs.YtbndfgoklgdfdaaGreatDoor.P
end
section
namespace Go.Proofs.YtbndfgoklgdfdaaGreatDoor.P
open Go.RowKit Go.Proofs.YtbndfgoklgdfdaaGreatDoorW.PrintWords Go.Proofs.YtbndfgoklgdfdaaGreatDoorW.PrintLast Go.Proofs.YtbndfgoklgdfdaaGreatDoorW.PrintMore

theorem run_lt : ∀ (p t : List UInt8), runN p < p.length → runN (p ++ t) = runN p
 | [], _, h => by simp at h
 | c :: p, t, h => by
  simp only [List.cons_append, runN] at h ⊢
  by_cases hc : partB c = true
  ·rw [if_pos hc] at h ⊢
   rw [if_pos hc, run_lt p t (by simp at h; omega)]
  ·rw [if_neg hc, if_neg hc]
theorem run_full : ∀ (p t : List UInt8), runN p = p.length → runN (p ++ t) = p.length + runN t
 | [], _, _ => by simp
 | c :: p, t, h => by
  simp only [List.cons_append, runN] at h ⊢
  by_cases hc : partB c = true
  ·rw [if_pos hc] at h ⊢
   rw [run_full p t (by simp at h; omega)]
   simp
   omega
  ·rw [if_neg hc] at h
   simp at h
theorem run_stop (l t : List UInt8) (c : UInt8) (hc : partB c = false) : runN (l ++ c :: t) = runN l := by
 by_cases hf : runN l = l.length
 ·rw [run_full l _ hf, runN, if_neg (by simp [hc])]
  omega
 ·have := runN_le l
  exact run_lt l _ (by omega)
theorem run_take : ∀ (l : List UInt8) (n : Nat), n ≤ runN l → runN (l.take n) = n
 | _, 0, _ => by simp [runN]
 | [], n + 1, h => by simp [runN] at h
 | c :: l, n + 1, h => by
  simp only [List.take_succ_cons, runN] at h ⊢
  by_cases hc : partB c = true
  ·rw [if_pos hc] at h ⊢
   rw [run_take l n (by omega)]
  ·rw [if_neg hc] at h
   omega
theorem oB_iff (l : List UInt8) : oB l = true ↔ ∃ r, l = 111 :: 45 :: r := by
 constructor
 ·intro h
  unfold oB at h
  rw [Bool.and_eq_true] at h
  obtain ⟨h1, h2⟩ := h
  match l, h1, h2 with
  | [], _, h2 => simp at h2
  | [_], _, h2 => simp at h2
  | x :: y :: r, h1, h2 =>
   simp at h2
   subst h2
   refine ⟨r, ?_⟩
   rcases hn : nameN (x :: 45 :: r) with _ | n
   ·rw [hn] at h1; simp at h1
   ·rw [hn] at h1
    simp at h1
    rw [h1.1]
 ·rintro ⟨r, rfl⟩
  have hr : runN (111 :: 45 :: r) = 1 := by
   rw [runN, if_pos (by decide), runN, if_neg (by decide)]
  have hl : linkB (111 :: 45 :: r) = false := by
   unfold linkB
   rw [hr]
   cases r <;> rfl
  have hn : nameN (111 :: 45 :: r) = 1 := by
   unfold nameN
   rw [hl, hr]
   rfl
  unfold oB
  rw [hn]
  rfl
def headSm : List UInt8 → Bool
 | [] => false
 | d :: _ => smallB d
theorem link_cons {l : List UInt8} {c : UInt8} {q : List UInt8} (h : l.drop (runN l) = c :: q) : linkB l = (c == 64 && headSm q) := by
 unfold linkB
 rw [h]
 cases q
 ·simp [headSm]
 ·rfl
theorem drop_app {p t : List UInt8} {m : Nat} {q : List UInt8} (hm : m ≤ p.length) (h : p.drop m = q) : (p ++ t).drop m = q ++ t := by
 rw [List.drop_append_of_le_length hm, h]
theorem tok_small {b : UInt8} {r : List UInt8} (hs : smallB b = true) : tok (b :: r) = if oB (b :: r) = true then some (3, 2) else if wordsL.contains ((b :: r).take (nameN (b :: r))) = true then some (4, nameN (b :: r)) else some (1, nameN (b :: r)) := by
 simp only [tok]; rw [if_pos hs]
theorem oB_long (b c : UInt8) (r t : List UInt8) : oB (b :: c :: r) = oB (b :: c :: (r ++ t)) := by
 rw [Bool.eq_iff_iff, oB_iff, oB_iff]
 constructor
 ·rintro ⟨x, hx⟩; exact ⟨x ++ t, by simp at hx ⊢; exact ⟨hx.1, hx.2.1, by rw [hx.2.2]⟩⟩
 ·rintro ⟨x, hx⟩; exact ⟨r, by simp at hx ⊢; exact ⟨hx.1, hx.2.1⟩⟩
def sgn (b : UInt8) (h : Option UInt8) (tl : List UInt8) : Option (Nat × Nat) :=
 if (b = 45 ∧ h = some 62) ∨ (b = 61 ∧ h = some 62) ∨ (b = 60 ∧ h = some 61) then some (3, 2)
 else if b = 45 ∧ h = some 111 then
  match tl with
  | [] => some (3, 2)
  | c :: _ => if partB c then none else some (3, 2)
 else if onesL.contains b then some (3, 1) else none
theorem tok_sgn {b : UInt8} {r : List UInt8} (hs : ¬ smallB b = true) (hc : ¬ capB b = true) : tok (b :: r) = sgn b r.head? r.tail := by
 simp only [tok]; rw [if_neg hs, if_neg hc]; rfl
theorem tok_capE {b : UInt8} {r : List UInt8} (hs : ¬ smallB b = true) (hc : capB b = true) : tok (b :: r) = some (2, runN (b :: r)) := by
 simp only [tok]; rw [if_neg hs, if_pos hc]
theorem sgn_two {b : UInt8} {h : Option UInt8} {tl : List UInt8} {k n : Nat} (hg : sgn b h tl = some (k, n)) : k = 3 ∧ (n = 1 ∨ n = 2 ∧ h ≠ none) ∧ (n = 1 → sgn b none [] = some (3, 1)) ∧ (n = 2 → sgn b h [] = some (3, 2)) ∧ (n = 1 → ∀ t, sgn b h t = some (3, 1)) := by
 unfold sgn at hg ⊢
 by_cases h2 : (b = 45 ∧ h = some 62) ∨ (b = 61 ∧ h = some 62) ∨ (b = 60 ∧ h = some 61)
 ·rw [if_pos h2] at hg ⊢
  simp only [Option.some.injEq, Prod.mk.injEq] at hg
  obtain ⟨rfl, rfl⟩ := hg
  refine ⟨rfl, .inr ⟨rfl, ?_⟩, by simp, fun _ => rfl, by simp⟩
  rcases h2 with ⟨_, rfl⟩ | ⟨_, rfl⟩ | ⟨_, rfl⟩ <;> simp
 ·rw [if_neg h2] at hg ⊢
  by_cases h4 : b = 45 ∧ h = some 111
  ·rw [if_pos h4] at hg ⊢
   have : k = 3 ∧ n = 2 := by
    split at hg
    ·simp at hg; omega
    ·split at hg
     ·cases hg
     ·simp at hg; omega
   obtain ⟨rfl, rfl⟩ := this
   exact ⟨rfl, .inr ⟨rfl, by rw [h4.2]; simp⟩, by simp, fun _ => rfl, by simp⟩
  ·rw [if_neg h4] at hg ⊢
   by_cases h5 : onesL.contains b = true
   ·rw [if_pos h5] at hg ⊢
    simp only [Option.some.injEq, Prod.mk.injEq] at hg
    obtain ⟨rfl, rfl⟩ := hg
    refine ⟨rfl, .inl rfl, fun _ => ?_, by simp, fun _ t => ?_⟩
    ·rw [if_neg (by simp), if_neg (by simp)]
    ·rw [if_neg h2, if_neg h4]
   ·rw [if_neg h5] at hg
    cases hg
def blankC (c : UInt8) : Prop := c = 10 ∨ c = 32 ∨ c = 37
theorem blankC_part {c : UInt8} (h : blankC c) : partB c = false := by rcases h with rfl | rfl | rfl <;> decide
theorem blankC_small {c : UInt8} (h : blankC c) : smallB c = false := by rcases h with rfl | rfl | rfl <;> decide
theorem name_blank (l t : List UInt8) (c : UInt8) (hc : blankC c) : nameN (l ++ c :: t) = nameN l := by
 have hr := run_stop l t c (blankC_part hc)
 have h64 : (c == 64) = false := by rcases hc with rfl | rfl | rfl <;> decide
 have hle := runN_le l
 unfold nameN
 rw [hr]
 rcases hq : l.drop (runN l) with _ | ⟨x, q⟩
 ·have l1 : linkB l = false := by unfold linkB; rw [hq]
  have l2 : linkB (l ++ c :: t) = false := by
   rw [link_cons (c := c) (q := t) (by rw [hr]; exact drop_app hle hq), h64, Bool.false_and]
  rw [l1, l2]
  rfl
 ·have hlen := congrArg List.length hq
  rw [List.length_drop, List.length_cons] at hlen
  have l1 := link_cons hq
  have l2 := link_cons (l := l ++ c :: t) (c := x) (q := q ++ c :: t) (by rw [hr]; exact drop_app hle hq)
  have hd1 : l.drop (runN l + 1) = q := by rw [← List.drop_drop, hq]; rfl
  have hd2 : (l ++ c :: t).drop (runN l + 1) = q ++ c :: t := drop_app (by omega) hd1
  rw [l1, l2, hd1, hd2, run_stop q t c (blankC_part hc)]
  cases q with
  | nil => simp [headSm, blankC_small hc]
  | cons d q => rfl
/-- A blank behind a text changes nothing of the token at its beginning. -/
theorem tok_stop (l t : List UInt8) (c : UInt8) (hc : blankC c) (hl : l ≠ []) : tok (l ++ c :: t) = tok l := by
 match l, hl with
 | b :: r, _ =>
  by_cases hs : smallB b = true
  ·rw [tok_small hs, show (b :: r) ++ c :: t = b :: (r ++ c :: t) from rfl, tok_small hs]
   have hn : nameN (b :: (r ++ c :: t)) = nameN (b :: r) := name_blank (b :: r) t c hc
   have ho : oB (b :: (r ++ c :: t)) = oB (b :: r) := by
    cases r with
    | nil =>
     rw [Bool.eq_iff_iff, oB_iff, oB_iff]
     constructor
     ·rintro ⟨x, hx⟩
      simp at hx
      rcases hc with rfl | rfl | rfl <;> exact absurd hx.2.1 (by decide)
     ·rintro ⟨x, hx⟩
      simp at hx
    | cons d r => exact (oB_long b d r (c :: t)).symm
   rw [ho, hn]
   have : (b :: (r ++ c :: t)).take (nameN (b :: r)) = (b :: r).take (nameN (b :: r)) := by
    show ((b :: r) ++ c :: t).take _ = _
    rw [List.take_append_of_le_length (nameN_le _)]
   rw [this]
  ·have hr : runN (b :: (r ++ c :: t)) = runN (b :: r) := run_stop (b :: r) t c (blankC_part hc)
   rw [show (b :: r) ++ c :: t = b :: (r ++ c :: t) from rfl]
   by_cases hcap : capB b = true
   ·rw [tok_capE hs hcap, tok_capE hs hcap, hr]
   ·rw [tok_sgn hs hcap, tok_sgn hs hcap]
    match r with
    | [] =>
     show sgn b (some c) t = sgn b none []
     have e1 : ¬ (some c = some (62 : UInt8)) := by rcases hc with rfl | rfl | rfl <;> decide
     have e2 : ¬ (some c = some (61 : UInt8)) := by rcases hc with rfl | rfl | rfl <;> decide
     have e3 : ¬ (some c = some (111 : UInt8)) := by rcases hc with rfl | rfl | rfl <;> decide
     unfold sgn
     rw [if_neg (by simp only [e1, e2, and_false, or_self, not_false_eq_true]), if_neg (by simp only [e3, and_false, not_false_eq_true]), if_neg (show ¬ (b = 45 ∧ (none : Option UInt8) = some 62 ∨ b = 61 ∧ (none : Option UInt8) = some 62 ∨ b = 60 ∧ (none : Option UInt8) = some 61) by simp), if_neg (show ¬ (b = 45 ∧ (none : Option UInt8) = some 111) by simp)]
    | [d] =>
     show sgn b (some d) (c :: t) = sgn b (some d) []
     unfold sgn
     simp only [blankC_part hc, Bool.false_eq_true, if_false]
    | d :: e :: r => rfl
theorem name_take (l : List UInt8) : nameN (l.take (nameN l)) = nameN l := by
 have hle := runN_le l
 have hnl := nameN_le l
 cases hk : linkB l
 ·have hn : nameN l = runN l := by unfold nameN; rw [hk]; rfl
  rw [hn]
  have hr := run_take l (runN l) (Nat.le_refl _)
  have hk2 : linkB (l.take (runN l)) = false := by
   unfold linkB
   rw [hr]
   rw [List.drop_eq_nil_of_le (by rw [List.length_take]; omega)]
  unfold nameN
  rw [hk2, hr]
  rfl
 ·have hn : nameN l = runN l + 1 + runN (l.drop (runN l + 1)) := by unfold nameN; rw [hk]; rfl
  have hlt := linkB_lt hk
  obtain ⟨c, q, hq⟩ : ∃ c q, l.drop (runN l) = c :: q := by
   rcases hq : l.drop (runN l) with _ | ⟨c, q⟩
   ·have := congrArg List.length hq
    rw [List.length_drop] at this
    simp at this
    omega
   ·exact ⟨c, q, rfl⟩
  have hd1 : l.drop (runN l + 1) = q := by rw [← List.drop_drop, hq]; rfl
  have l1 := link_cons hq
  rw [hk] at l1
  match q, l1, hd1, hq with
  | [], l1, _, _ => simp [headSm] at l1
  | d :: q, l1, hd1, hq =>
   have hsm : smallB d = true := by
    have := l1.symm
    rw [headSm, Bool.and_eq_true] at this
    exact this.2
   have h1 : 1 ≤ runN (d :: q) := by rw [runN, if_pos (small_part d hsm)]; omega
   rw [hd1] at hn
   have hr : runN (l.take (nameN l)) = runN l := by
    have e : l.take (nameN l) = l.take (runN l) ++ (l.drop (runN l)).take (nameN l - runN l) := by
     have : nameN l = runN l + (nameN l - runN l) := by omega
     rw [this, List.take_add]
     congr 2
     omega
    have hr0 := run_take l (runN l) (Nat.le_refl _)
    rw [e, run_full _ _ (by rw [hr0, List.length_take]; omega), List.length_take, hq]
    obtain ⟨z, hz⟩ : ∃ z, nameN l - runN l = z + 1 := ⟨nameN l - runN l - 1, by omega⟩
    have hc : partB c = false := by
     have := l1.symm
     rw [Bool.and_eq_true] at this
     have : c = 64 := by simpa using this.1
     rw [this]
     decide
    rw [hz, List.take_succ_cons, runN, if_neg (by simp [hc])]
    omega
   have hdt : (l.take (nameN l)).drop (runN l) = c :: (d :: q).take (runN (d :: q)) := by
    rw [List.drop_take, hq, show nameN l - runN l = runN (d :: q) + 1 by omega, List.take_succ_cons]
   have hdt1 : (l.take (nameN l)).drop (runN l + 1) = (d :: q).take (runN (d :: q)) := by rw [← List.drop_drop, hdt]; rfl
   obtain ⟨z, hz⟩ : ∃ z, runN (d :: q) = z + 1 := ⟨runN (d :: q) - 1, by omega⟩
   have hk2 : linkB (l.take (nameN l)) = true := by
    rw [link_cons (by rw [hr]; exact hdt), l1, hz, List.take_succ_cons, headSm, headSm]
   have he : nameN (l.take (nameN l)) = runN (l.take (nameN l)) + 1 + runN ((l.take (nameN l)).drop (runN (l.take (nameN l)) + 1)) := by
    rw [nameN, if_pos hk2]
   rw [he, hr, hdt1, run_take _ _ (Nat.le_refl _)]
   omega
/-- A token, taken out of its text, is that token. -/
theorem tok_take (l : List UInt8) (k n : Nat) (h : tok l = some (k, n)) : tok (l.take n) = some (k, n) := by
 match l, h with
 | b :: r, h =>
  have hle := tok_le h
  obtain ⟨m, rfl⟩ : ∃ m, n = m + 1 := ⟨n - 1, by omega⟩
  by_cases hs : smallB b = true
  ·rw [tok_small hs] at h
   rw [List.take_succ_cons, tok_small hs, ← List.take_succ_cons]
   cases ho : oB (b :: r)
   ·rw [ho] at h
    simp only [Bool.false_eq_true, if_false] at h
    have hn : nameN (b :: r) = m + 1 := by split at h <;> (simp only [Option.some.injEq, Prod.mk.injEq] at h; exact h.2)
    have hnt : nameN ((b :: r).take (m + 1)) = m + 1 := by have := name_take (b :: r); rw [hn] at this; exact this
    have ho2 : ¬ oB ((b :: r).take (m + 1)) = true := by
     intro hx
     obtain ⟨x, hx⟩ := (oB_iff _).1 hx
     have : oB (b :: r) = true := (oB_iff _).2 ⟨x ++ (b :: r).drop (m + 1), by
      have := List.take_append_drop (m + 1) (b :: r)
      rw [hx] at this
      exact this.symm⟩
     rw [ho] at this
     cases this
    rw [if_neg ho2, hnt, List.take_take, Nat.min_self]
    rw [hn] at h
    exact h
   ·rw [ho] at h
    rw [if_pos rfl] at h
    simp only [Option.some.injEq, Prod.mk.injEq] at h
    obtain ⟨rfl, h2⟩ := h
    obtain ⟨x, hx⟩ := (oB_iff _).1 ho
    rw [hx, ← h2]
    rw [show (111 :: 45 :: x).take 2 = [111, 45] from rfl, if_pos ((oB_iff _).2 ⟨[], rfl⟩)]
  ·rw [List.take_succ_cons]
   by_cases hc : capB b = true
   ·rw [tok_capE hs hc] at h ⊢
    simp only [Option.some.injEq, Prod.mk.injEq] at h ⊢
    refine ⟨h.1, ?_⟩
    rw [← List.take_succ_cons, ← h.2]
    exact run_take _ _ (Nat.le_refl _)
   ·rw [tok_sgn hs hc] at h ⊢
    obtain ⟨rfl, h2, h3, h4, _⟩ := sgn_two h
    rcases h2 with h2 | ⟨h2, hne⟩
    ·obtain rfl : m = 0 := by omega
     exact h3 rfl
    ·obtain rfl : m = 1 := by omega
     match r, hne with
     | y :: r, _ => exact h4 rfl
end Go.Proofs.YtbndfgoklgdfdaaGreatDoor.P

namespace Go.Proofs.YtbndfgoklgdfdaaGreatDoor.P
open Go.RowKit Go.Proofs.YtbndfgoklgdfdaaGreatDoorW.PrintWords Go.Proofs.YtbndfgoklgdfdaaGreatDoorW.PrintLast Go.Proofs.YtbndfgoklgdfdaaGreatDoorW.PrintMore

/-- A token's bytes. -/
def bsT (x : S65) : List UInt8 := x.f1.data.toList
theorem scanA_step (f : Nat) (l : List UInt8) (i : Nat) (acc : List S65) (k n : Nat) (h : tok l = some (k, n)) (h6 : acc.length ≠ 6000) (h40 : n ≤ 40) :
  scanA (f + 1) l i acc = scanA f ((l.drop n).drop (skipN false (l.drop n))) (i + n + skipN false (l.drop n)) (acc ++ [⟨k, ⟨(l.take n).toArray⟩, i⟩]) := by
 match l, h with
 | b :: r, h =>
  simp only [scanA, h]
  rw [if_neg h6, if_neg (by omega)]
/-- The text behind a token and the blanks behind it. -/
def restT (l : List UInt8) (n : Nat) : List UInt8 := (l.drop n).drop (skipN false (l.drop n))
/-- These are the tokens of a text that begins with one, or is empty. -/
def Toks : List UInt8 → Nat → List S65 → Prop
 | l, _, [] => l = []
 | l, i, t :: ts => ∃ k n : Nat, tok l = some (k, n) ∧ n ≤ 40 ∧ t = ⟨k, ⟨(l.take n).toArray⟩, i⟩ ∧ Toks (restT l n) (i + n + skipN false (l.drop n)) ts
theorem restT_len (l : List UInt8) (n : Nat) : (restT l n).length + n + skipN false (l.drop n) = max l.length n := by
 have := skipN_le false (l.drop n)
 unfold restT
 rw [List.length_drop, List.length_drop]
 rw [List.length_drop] at this
 omega
theorem toks_of_scan : ∀ (f : Nat) (l : List UInt8) (i : Nat) (acc r : List S65) (a : Int), l.length < f → scanA f l i acc = (r, a, 0) → acc.length ≤ 6000 → ∃ toks, r = acc ++ toks ∧ a = 0 ∧ Toks l i toks ∧ acc.length + toks.length ≤ 6000
 | f + 1, [], i, acc, r, a, _, h, ha => by
  simp only [scanA, Prod.mk.injEq] at h
  obtain ⟨rfl, rfl, _⟩ := h
  exact ⟨[], by simp, rfl, rfl, by simpa using ha⟩
 | f + 1, b :: q, i, acc, r, a, hf, h, ha => by
  simp only [scanA] at h
  cases ht : tok (b :: q) with
  | none => rw [ht] at h; simp at h
  | some p =>
   obtain ⟨k, n⟩ := p
   rw [ht] at h
   simp only at h
   have hn := tok_le ht
   have hk := tok_kind ht
   by_cases h6 : acc.length = 6000
   ·rw [if_pos h6] at h; simp at h
   ·rw [if_neg h6] at h
    by_cases h40 : (k = 1 ∨ k = 2) ∧ 40 < n
    ·rw [if_pos h40] at h; simp at h
    ·rw [if_neg h40] at h
     have hr := restT_len (b :: q) n
     obtain ⟨toks, h1, h2, h3, h4⟩ := toks_of_scan f (restT (b :: q) n) _ _ r a (by omega) h (by rw [List.length_append, List.length_singleton]; omega)
     rw [List.length_append, List.length_singleton] at h4
     refine ⟨_ :: toks, by rw [h1, List.append_assoc]; rfl, h2, ⟨k, n, ht, by omega, rfl, h3⟩, by rw [List.length_cons]; omega⟩
theorem scan_of_toks : ∀ (toks : List S65) (f : Nat) (l : List UInt8) (i : Nat) (acc : List S65), l.length < f → Toks l i toks → acc.length + toks.length ≤ 6000 → scanA f l i acc = (acc ++ toks, 0, 0)
 | [], f + 1, l, i, acc, _, h, _ => by
  obtain rfl : l = [] := h
  simp [scanA]
 | t :: ts, f + 1, l, i, acc, hf, ⟨k, n, ht, h40, he, h⟩, hl => by
  rw [List.length_cons] at hl
  have hn := tok_le ht
  have hr := restT_len l n
  rw [scanA_step f l i acc k n ht (by omega) h40]
  have := scan_of_toks ts f (restT l n) _ (acc ++ [⟨k, ⟨(l.take n).toArray⟩, i⟩]) (by omega) h (by rw [List.length_append, List.length_singleton]; omega)
  rw [he]
  refine this.trans ?_
  rw [List.append_assoc]
  rfl
theorem toks_of_scanL {l : List UInt8} {r : List S65} {a : Int} (h : scanL l = (r, a, 0)) : l.length ≤ 20000 ∧ a = 0 ∧ Toks (l.drop (skipN false l)) (skipN false l) r ∧ r.length ≤ 6000 := by
 unfold scanL at h
 by_cases h2 : 20000 < l.length
 ·rw [if_pos h2] at h; simp at h
 ·rw [if_neg h2] at h
  obtain ⟨toks, h3, h4, h5, h6⟩ := toks_of_scan _ _ _ _ _ _ (by rw [List.length_drop]; omega) h (by simp)
  rw [List.nil_append] at h3
  subst h3
  exact ⟨by omega, h4, h5, by simpa using h6⟩
theorem scanL_of_toks {l : List UInt8} {r : List S65} (hl : l.length ≤ 20000) (h : Toks (l.drop (skipN false l)) (skipN false l) r) (h6 : r.length ≤ 6000) : scanL l = (r, 0, 0) := by
 unfold scanL
 rw [if_neg (by omega), scan_of_toks r _ _ _ _ (by rw [List.length_drop]; omega) h (by simpa using h6), List.nil_append]
end Go.Proofs.YtbndfgoklgdfdaaGreatDoor.P
end
