/- The scanner as a plain function on lists of bytes: no program in sight. -/
import Derived.Test.YtkolnimgdbhekaaPx0
import Derived.Lib.Bytealg
namespace Go.Proofs.Ytkolnimgdbhekaa.P

def lettersL : List UInt8 := [97, 98, 99, 100, 101, 102, 103, 104, 105, 106, 107, 108, 109, 110, 111, 112, 113, 114, 115, 116, 117, 118, 119, 120, 121, 122, 65, 66, 67, 68, 69, 70, 71, 72, 73, 74, 75, 76, 77, 78, 79, 80, 81, 82, 83, 84, 85, 86, 87, 88, 89, 90, 48, 49, 50, 51, 52, 53, 54, 55, 56, 57, 95, 39]
def partB (c : UInt8) : Bool := lettersL.contains c
def smallB (c : UInt8) : Bool := decide (97 ≤ c.toNat) && decide (c.toNat ≤ 122)
def capB (c : UInt8) : Bool := decide (65 ≤ c.toNat) && decide (c.toNat ≤ 90)
def blankB (c : UInt8) : Bool := c == 32 || c == 9 || c == 10
/-- How many name characters stand at the beginning. -/
def runN : List UInt8 → Nat
  | [] => 0
  | c :: l => if partB c then runN l + 1 else 0
theorem runN_le : ∀ l : List UInt8, runN l ≤ l.length
  | [] => Nat.le_refl _
  | c :: l => by
    unfold runN
    have := runN_le l
    split <;> simp <;> omega
/-- The keywords. -/
def wordsL : List (List UInt8) := [[116, 121, 112, 101], [99, 111, 110, 115, 116], [112, 114, 101, 100], [102, 97, 99, 116], [108, 97, 115, 116, 105, 110, 103], [109, 111, 100, 101], [114, 117, 108, 101], [111, 110, 99, 101], [109, 111, 115, 116], [113, 117, 101, 114, 121], [109, 111, 100, 117, 108, 101], [117, 115, 101], [101, 120, 112, 111, 114, 116], [97, 108, 108], [101, 120], [111, 110, 101], [116, 111, 112]]
/-- The signs of one byte. -/
def onesL : List UInt8 := [42, 38, 43, 33, 123, 125, 40, 41, 46, 44, 58, 92]
/-- Does '@' and a small letter follow the name characters? -/
def linkB (l : List UInt8) : Bool :=
  match l.drop (runN l) with
  | a :: c :: _ => a == 64 && smallB c
  | _ => false
/-- The length of the name that begins with a small letter, linked or not. -/
def nameN (l : List UInt8) : Nat := if linkB l then runN l + 1 + runN (l.drop (runN l + 1)) else runN l
theorem linkB_lt {l : List UInt8} (h : linkB l = true) : runN l + 1 < l.length := by
  unfold linkB at h
  rcases hd : l.drop (runN l) with _ | ⟨a, _ | ⟨c, t⟩⟩
  · rw [hd] at h; cases h
  · rw [hd] at h; cases h
  · have h1 := congrArg List.length hd
    simp at h1
    omega
theorem nameN_le (l : List UInt8) : nameN l ≤ l.length := by
  unfold nameN
  split
  · rename_i hl
    have h1 := linkB_lt hl
    have h2 := runN_le (l.drop (runN l + 1))
    simp at h2
    omega
  · exact runN_le l
/-- Is it the sign o-? -/
def oB (l : List UInt8) : Bool := l.take (nameN l) == [111] && l[1]? == some 45
/-- The kind and the length of the token that begins here; none: no token does. -/
def tok (l : List UInt8) : Option (Nat × Nat) :=
  match l with
  | [] => none
  | b :: r =>
    if smallB b then
      if oB l then some (3, 2)
      else if wordsL.contains (l.take (nameN l)) then some (4, nameN l) else some (1, nameN l)
    else if capB b then some (2, runN l)
    else if (b = 45 ∧ r.head? = some 62) ∨ (b = 61 ∧ r.head? = some 62) ∨ (b = 60 ∧ r.head? = some 61) then some (3, 2)
    else if b = 45 ∧ r.head? = some 111 then
      match r.tail with
      | [] => some (3, 2)
      | c :: _ => if partB c then none else some (3, 2)
    else if onesL.contains b then some (3, 1) else none
theorem tok_o {b : UInt8} {r : List UInt8} (h : smallB b = true) (ho : oB (b :: r) = true) : tok (b :: r) = some (3, 2) := by
  simp only [tok]; rw [if_pos h, if_pos ho]
theorem tok_word {b : UInt8} {r : List UInt8} (h : smallB b = true) (ho : oB (b :: r) = false) (hw : wordsL.contains ((b :: r).take (nameN (b :: r))) = true) : tok (b :: r) = some (4, nameN (b :: r)) := by
  simp only [tok]; rw [if_pos h, if_neg (by rw [ho]; simp), if_pos hw]
theorem tok_name {b : UInt8} {r : List UInt8} (h : smallB b = true) (ho : oB (b :: r) = false) (hw : wordsL.contains ((b :: r).take (nameN (b :: r))) = false) : tok (b :: r) = some (1, nameN (b :: r)) := by
  simp only [tok]; rw [if_pos h, if_neg (by rw [ho]; simp), if_neg (by rw [hw]; simp)]
theorem tok_cap {b : UInt8} {r : List UInt8} (h : smallB b = false) (hc : capB b = true) : tok (b :: r) = some (2, runN (b :: r)) := by
  simp only [tok]; rw [if_neg (by rw [h]; simp), if_pos hc]
theorem two_iff {b x y : UInt8} {r : List UInt8} : (b == x && r.head? == some y) = true ↔ (b = x ∧ r.head? = some y) := by simp
theorem two_not {b x y : UInt8} {r : List UInt8} (h : (b == x && r.head? == some y) = false) : ¬ (b = x ∧ r.head? = some y) := fun g => by rw [two_iff.2 g] at h; cases h
theorem tok_two {b : UInt8} {r : List UInt8} (h : smallB b = false) (hc : capB b = false) (hp : (b == 45 && r.head? == some 62) = true ∨ (b == 61 && r.head? == some 62) = true ∨ (b == 60 && r.head? == some 61) = true) : tok (b :: r) = some (3, 2) := by
  simp only [tok]; rw [if_neg (by rw [h]; simp), if_neg (by rw [hc]; simp), if_pos (by rcases hp with hp | hp | hp; exact .inl (two_iff.1 hp); exact .inr (.inl (two_iff.1 hp)); exact .inr (.inr (two_iff.1 hp)))]
theorem no_two {b : UInt8} {r : List UInt8} (h1 : (b == 45 && r.head? == some 62) = false) (h2 : (b == 61 && r.head? == some 62) = false) (h3 : (b == 60 && r.head? == some 61) = false) : ¬ ((b = 45 ∧ r.head? = some 62) ∨ (b = 61 ∧ r.head? = some 62) ∨ (b = 60 ∧ r.head? = some 61)) := by
  rintro (h | h | h)
  · exact two_not h1 h
  · exact two_not h2 h
  · exact two_not h3 h
theorem tok_lolli {b : UInt8} {r : List UInt8} (h : smallB b = false) (hc : capB b = false) (h1 : (b == 45 && r.head? == some 62) = false) (h2 : (b == 61 && r.head? == some 62) = false) (h3 : (b == 60 && r.head? == some 61) = false) (h4 : (b == 45 && r.head? == some 111) = true) (h5 : r.length = 1 ∨ ∃ c, (b :: r)[2]? = some c ∧ partB c = false) : tok (b :: r) = some (3, 2) := by
  simp only [tok]; rw [if_neg (by rw [h]; simp), if_neg (by rw [hc]; simp), if_neg (no_two h1 h2 h3), if_pos (two_iff.1 h4)]
  match r, h5 with
  | [_], _ => rfl
  | _ :: c :: _, .inr ⟨d, hd, hp⟩ =>
    simp at hd
    subst hd
    simp [hp]
  | _ :: _ :: _, .inl h => simp at h
theorem tok_none2 {b c : UInt8} {r : List UInt8} (h : smallB b = false) (hc : capB b = false) (h1 : (b == 45 && r.head? == some 62) = false) (h2 : (b == 61 && r.head? == some 62) = false) (h3 : (b == 60 && r.head? == some 61) = false) (h4 : (b == 45 && r.head? == some 111) = true) (hd : (b :: r)[2]? = some c) (hp : partB c = true) : tok (b :: r) = none := by
  simp only [tok]; rw [if_neg (by rw [h]; simp), if_neg (by rw [hc]; simp), if_neg (no_two h1 h2 h3), if_pos (two_iff.1 h4)]
  match r, hd with
  | _ :: d :: _, hd =>
    simp at hd
    subst hd
    simp [hp]
theorem tok_one {b : UInt8} {r : List UInt8} (h : smallB b = false) (hc : capB b = false) (h1 : (b == 45 && r.head? == some 62) = false) (h2 : (b == 61 && r.head? == some 62) = false) (h3 : (b == 60 && r.head? == some 61) = false) (h4 : (b == 45 && r.head? == some 111) = false) (ho : onesL.contains b = true) : tok (b :: r) = some (3, 1) := by
  simp only [tok]; rw [if_neg (by rw [h]; simp), if_neg (by rw [hc]; simp), if_neg (no_two h1 h2 h3), if_neg (two_not h4), if_pos ho]
theorem tok_none1 {b : UInt8} {r : List UInt8} (h : smallB b = false) (hc : capB b = false) (h1 : (b == 45 && r.head? == some 62) = false) (h2 : (b == 61 && r.head? == some 62) = false) (h3 : (b == 60 && r.head? == some 61) = false) (h4 : (b == 45 && r.head? == some 111) = false) (ho : onesL.contains b = false) : tok (b :: r) = none := by
  simp only [tok]; rw [if_neg (by rw [h]; simp), if_neg (by rw [hc]; simp), if_neg (no_two h1 h2 h3), if_neg (two_not h4), if_neg (by rw [ho]; simp)]
/-- How many bytes of blanks and comments stand at the beginning; c: within a comment. -/
def skipN : Bool → List UInt8 → Nat
  | _, [] => 0
  | true, c :: l => if c = 10 then skipN false l + 1 else skipN true l + 1
  | false, c :: l => if blankB c then skipN false l + 1 else if c = 37 then skipN true l + 1 else 0
theorem skipN_le : ∀ (c : Bool) (l : List UInt8), skipN c l ≤ l.length
  | _, [] => by simp [skipN]
  | true, c :: l => by
    have h1 := skipN_le false l
    have h2 := skipN_le true l
    simp only [skipN]
    split <;> simp <;> omega
  | false, c :: l => by
    have h1 := skipN_le false l
    have h2 := skipN_le true l
    simp only [skipN]
    split
    · simp; omega
    · split <;> simp <;> omega
/-- A comment ends at the next line feed, or at the end. -/
theorem skip_comment : ∀ l : List UInt8, (∀ n : Nat, Lib.indexByte l 10 = n → n < l.length ∧ skipN true l = n + skipN false (l.drop n)) ∧ (Lib.indexByte l 10 < 0 → skipN true l = l.length)
  | [] => ⟨fun n h => by simp [Lib.indexByte] at h <;> omega, fun _ => rfl⟩
  | c :: l => by
    obtain ⟨h1, h2⟩ := skip_comment l
    have hge := Lib.indexByte_ge l 10
    by_cases hc : c = 10
    · subst hc
      refine ⟨fun n h => ?_, fun h => ?_⟩
      · simp [Lib.indexByte] at h
        obtain rfl : n = 0 := by omega
        simp [skipN, blankB]
      · simp [Lib.indexByte] at h
    · have hcb : (c == 10) = false := by simpa using hc
      refine ⟨fun n h => ?_, fun h => ?_⟩
      · unfold Lib.indexByte at h
        rw [hcb] at h
        simp only [Bool.false_eq_true, if_false] at h
        by_cases hm : Lib.indexByte l 10 = -1
        · rw [hm] at h; simp at h <;> omega
        · rw [if_neg (by simpa using hm)] at h
          obtain ⟨m, rfl⟩ : ∃ m, n = m + 1 := ⟨n - 1, by omega⟩
          obtain ⟨h3, h4⟩ := h1 m (by omega)
          refine ⟨by simp; omega, ?_⟩
          simp only [skipN, if_neg hc, List.drop_succ_cons, h4]
          omega
      · unfold Lib.indexByte at h
        rw [hcb] at h
        simp only [Bool.false_eq_true, if_false] at h
        by_cases hm : Lib.indexByte l 10 = -1
        · simp only [skipN, if_neg hc, List.length_cons]
          rw [h2 (by omega)]
        · rw [if_neg (by simpa using hm)] at h
          omega
/-- A comment, from its sign on. -/
theorem skip_sign (l : List UInt8) : (∀ n : Nat, Lib.indexByte (37 :: l) 10 = n → n ≤ l.length ∧ 1 ≤ n ∧ skipN false (37 :: l) = n + skipN false ((37 :: l).drop n)) ∧ (Lib.indexByte (37 :: l) 10 < 0 → skipN false (37 :: l) = l.length + 1) := by
  obtain ⟨h1, h2⟩ := skip_comment l
  have hge := Lib.indexByte_ge l 10
  have hs : skipN false (37 :: l) = skipN true l + 1 := by simp [skipN, blankB]
  have hi : Lib.indexByte (37 :: l) 10 = if Lib.indexByte l 10 == -1 then -1 else Lib.indexByte l 10 + 1 := by
    rw [Lib.indexByte]; simp
  by_cases hm : Lib.indexByte l 10 = -1
  · rw [hm] at hi
    simp at hi
    exact ⟨fun n h => by omega, fun _ => by rw [hs, h2 (by omega)]⟩
  · rw [if_neg (by simpa using hm)] at hi
    refine ⟨fun n h => ?_, fun h => by omega⟩
    obtain ⟨m, rfl⟩ : ∃ m, n = m + 1 := ⟨n - 1, by omega⟩
    obtain ⟨h3, h4⟩ := h1 m (by omega)
    exact ⟨by omega, by omega, by rw [hs, h4]; simp; omega⟩
/-- The scanner: rest, its offset, what has been found. -/
def scanA : Nat → List UInt8 → Nat → List S34 → List S34 × Int × Int
  | 0, _, _, acc => (acc, 0, 0)
  | _ + 1, [], _, acc => (acc, 0, 0)
  | k + 1, b :: r, at_, acc =>
    match tok (b :: r) with
    | none => ([], at_, 10)
    | some (kind, n) =>
      if acc.length = 6000 then ([], at_, 2)
      else if (kind = 1 ∨ kind = 2) ∧ 40 < n then ([], at_, 11)
      else scanA k (((b :: r).drop n).drop (skipN false ((b :: r).drop n))) (at_ + n + skipN false ((b :: r).drop n)) (acc ++ [⟨kind, ⟨((b :: r).take n).toArray⟩, at_⟩])
/-- Scan. -/
def scanL (l : List UInt8) : List S34 × Int × Int :=
  if 20000 < l.length then ([], 0, 2)
  else scanA (l.length + 1) (l.drop (skipN false l)) (skipN false l) []
theorem of_bytes {p : UInt8 → Bool} (h : (List.range 256).all (fun i => p i.toUInt8) = true) (b : UInt8) : p b = true := by
  have h1 := List.all_eq_true.1 h b.toNat (List.mem_range.2 b.toNat_lt)
  simpa using h1
theorem small_part (b : UInt8) (h : smallB b = true) : partB b = true := by
  have := of_bytes (p := fun b => !smallB b || partB b) (by decide +kernel) b
  simp [h] at this
  exact this
theorem cap_part (b : UInt8) (h : capB b = true) : partB b = true := by
  have := of_bytes (p := fun b => !capB b || partB b) (by decide +kernel) b
  simp [h] at this
  exact this
theorem tok_le {l : List UInt8} {kind n : Nat} (h : tok l = some (kind, n)) : 1 ≤ n ∧ n ≤ l.length := by
  match l, h with
  | b :: r, h =>
    have hr : ∀ {b : UInt8} {r : List UInt8}, partB b = true → 1 ≤ runN (b :: r) := fun hb => by simp [runN, hb]
    have hp1 := small_part b
    have hp2 := cap_part b
    simp only [tok] at h
    split at h
    · rename_i hsm
      have h1 : 1 ≤ nameN (b :: r) := by
        have := hr (r := r) (hp1 hsm)
        unfold nameN
        split <;> omega
      have h2 := nameN_le (b :: r)
      split at h
      · rename_i ho
        simp at h
        obtain ⟨_, rfl⟩ := h
        refine ⟨by omega, ?_⟩
        unfold oB at ho
        have h3 := (Bool.and_eq_true _ _ ▸ ho).2
        have h4 : (b :: r)[1]? = some 45 := by simpa using h3
        have := (List.getElem?_eq_some_iff.1 h4).1
        omega
      · split at h <;> (simp at h; obtain ⟨_, rfl⟩ := h; exact ⟨h1, h2⟩)
    · split at h
      · rename_i hc
        simp at h
        obtain ⟨_, rfl⟩ := h
        exact ⟨hr (hp2 hc), runN_le _⟩
      · split at h
        · rename_i hc
          simp at h
          obtain ⟨_, rfl⟩ := h
          refine ⟨by omega, ?_⟩
          cases r with
          | nil => simp at hc
          | cons => simp
        · split at h
          · rename_i hc
            cases r with
            | nil => simp at hc
            | cons x t =>
              split at h
              · simp at h; obtain ⟨_, rfl⟩ := h; simp
              · split at h
                · cases h
                · simp at h; obtain ⟨_, rfl⟩ := h; simp
          · split at h
            · simp at h; obtain ⟨_, rfl⟩ := h; simp
            · cases h
end Go.Proofs.Ytkolnimgdbhekaa.P
