/- LexStripped, the plain law: a text without its comments has the same tokens, no comment, as many lines, and is itself without its comments. LexCovers, the plain law: each byte of a text that is scanned lies in one token, or in a comment, or is a blank. -/
import Derived.Test.YtkolnimgdbhekaaLChain
import Derived.Test.YtkolnimgdbhekaaLStrip
import Derived.Test.YtkolnimgdbhekaaLLines
namespace Go.Proofs.Ytkolnimgdbhekaa.P
open Go.RowKit Go.Proofs.YtkolnimgdbhekaaW.PrintWords Go.Proofs.YtkolnimgdbhekaaW.PrintLast Go.Proofs.YtkolnimgdbhekaaW.PrintMore

/-- A text without its comments; c: within a comment. -/
def stripP : Bool → List UInt8 → List UInt8
  | _, [] => []
  | true, c :: r => if c = 10 then 10 :: stripP false r else stripP true r
  | false, c :: r => if c = 37 then stripP true r else c :: stripP false r
theorem take_more (l : List UInt8) (f k : Nat) (c : UInt8) (t : List UInt8) (hf : f ≤ k) (h : l.drop k = c :: t) : (l.drop f).take (k + 1 - f) = (l.drop f).take (k - f) ++ [c] := by
  rw [show k + 1 - f = k - f + 1 by omega, List.take_add, List.drop_drop, show f + (k - f) = k by omega, h]
  rfl
theorem strip_eq (l : List UInt8) : ∀ (t : List UInt8) (k : Nat), l.drop k = t → (∀ f, f ≤ k → stripC (comS none k t) f l = (l.drop f).take (k - f) ++ stripP false t) ∧ (∀ b f, f ≤ b → b < k → stripC (comS (some b) k t) f l = (l.drop f).take (b - f) ++ stripP true t)
  | [], k, h => by
    have hk : l.length ≤ k := by
      have := congrArg List.length h
      rw [List.length_drop] at this
      simp at this
      omega
    refine ⟨fun f hf => ?_, fun b f h1 h2 => ?_⟩
    · rw [comS, stripC, stripP, List.append_nil, List.take_of_length_le (by rw [List.length_drop]; omega)]
    · rw [comS, stripC, stripC, stripP, h]
  | c :: t, k, h => by
    have h2 : l.drop (k + 1) = t := by rw [← List.drop_drop, h]; rfl
    obtain ⟨ih1, ih2⟩ := strip_eq l t (k + 1) h2
    refine ⟨fun f hf => ?_, fun b f h1 h3 => ?_⟩
    · rw [comS, stripP]
      by_cases hc : c = 37
      · rw [if_pos hc, if_pos hc, ih2 k f hf (by omega)]
      · rw [if_neg hc, if_neg hc, ih1 f (by omega), take_more l f k c t hf h, List.append_assoc]
        rfl
    · rw [comS, stripP]
      by_cases hc : c = 10
      · rw [if_pos hc, if_pos hc, stripC, ih1 k (by omega), take_more l k k c t (Nat.le_refl _) h, Nat.sub_self, List.take_zero, hc]
        rfl
      · rw [if_neg hc, if_neg hc, ih2 b f h1 (by omega)]
theorem strip_all (l : List UInt8) : stripC (comS none 0 l) 0 l = stripP false l := by
  have := (strip_eq l l 0 rfl).1 0 (Nat.le_refl _)
  rw [Nat.sub_self, List.take_zero, List.nil_append] at this
  exact this
theorem strip_len : ∀ (c : Bool) (l : List UInt8), (stripP c l).length ≤ l.length
  | _, [] => by simp [stripP]
  | true, c :: r => by
    have h1 := strip_len true r
    have h2 := strip_len false r
    rw [stripP]
    split <;> simp <;> omega
  | false, c :: r => by
    have h1 := strip_len true r
    have h2 := strip_len false r
    rw [stripP]
    split <;> simp <;> omega
theorem strip_no37 : ∀ (c : Bool) (l : List UInt8), ∀ x ∈ stripP c l, x ≠ 37
  | _, [], x, h => by simp [stripP] at h
  | true, c :: r, x, h => by
    rw [stripP] at h
    split at h
    · rcases List.mem_cons.1 h with rfl | h
      · decide
      · exact strip_no37 false r x h
    · exact strip_no37 true r x h
  | false, c :: r, x, h => by
    rw [stripP] at h
    split at h
    · exact strip_no37 true r x h
    · rename_i hc
      rcases List.mem_cons.1 h with rfl | h
      · exact hc
      · exact strip_no37 false r x h
theorem com_no37 : ∀ (l : List UInt8) (k : Nat), (∀ x ∈ l, x ≠ 37) → comS none k l = []
  | [], _, _ => rfl
  | c :: r, k, h => by
    rw [comS, if_neg (h c (List.mem_cons_self ..))]
    exact com_no37 r (k + 1) fun x hx => h x (List.mem_cons_of_mem _ hx)
theorem strip_no37_id : ∀ (l : List UInt8), (∀ x ∈ l, x ≠ 37) → stripP false l = l
  | [], _ => rfl
  | c :: r, h => by
    rw [stripP, if_neg (h c (List.mem_cons_self ..)), strip_no37_id r fun x hx => h x (List.mem_cons_of_mem _ hx)]
theorem strip_count : ∀ (c : Bool) (l : List UInt8), Lib.countByte (stripP c l) 10 = Lib.countByte l 10
  | _, [] => by simp [stripP]
  | true, c :: r => by
    have h1 := strip_count true r
    have h2 := strip_count false r
    unfold Lib.countByte at h1 h2 ⊢
    rw [stripP, List.count_cons]
    by_cases hc : c = 10
    · rw [if_pos hc, List.count_cons, h2, hc]
    · rw [if_neg hc, h1]
      have : (c == 10) = false := beq_eq_false_iff_ne.2 hc
      simp [this]
  | false, c :: r => by
    have h1 := strip_count true r
    have h2 := strip_count false r
    unfold Lib.countByte at h1 h2 ⊢
    rw [stripP, List.count_cons]
    by_cases hc : c = 37
    · rw [if_pos hc, h1, hc]
      simp
    · rw [if_neg hc, List.count_cons, h2]
theorem strip_skip : ∀ (c : Bool) (r : List UInt8), (stripP c r).drop (skipN false (stripP c r)) = stripP false (r.drop (skipN c r))
  | _, [] => by simp [stripP, skipN]
  | true, x :: r => by
    have h1 := strip_skip true r
    have h2 := strip_skip false r
    rw [stripP, skipN]
    by_cases hx : x = 10
    · rw [if_pos hx, if_pos hx, skipN, if_pos (by decide), List.drop_succ_cons, List.drop_succ_cons]
      exact h2
    · rw [if_neg hx, if_neg hx, List.drop_succ_cons]
      exact h1
  | false, x :: r => by
    have h1 := strip_skip true r
    have h2 := strip_skip false r
    by_cases h37 : x = 37
    · subst h37
      rw [stripP, if_pos rfl, skipN, if_neg (by decide), if_pos rfl, List.drop_succ_cons]
      exact h1
    · by_cases hb : blankB x = true
      · rw [stripP, if_neg h37, skipN, if_pos hb, skipN, if_pos hb, List.drop_succ_cons, List.drop_succ_cons]
        exact h2
      · rw [stripP, if_neg h37, skipN, if_neg hb, if_neg h37, skipN, if_neg hb, if_neg h37, List.drop_zero, List.drop_zero, stripP, if_neg h37]
theorem tok_no37 {l : List UInt8} {k n : Nat} (h : tok l = some (k, n)) : ∀ x ∈ l.take n, x ≠ 37 := by
  intro x hx h37
  subst h37
  obtain ⟨p, q, he⟩ := List.append_of_mem hx
  have hl : l = p ++ 37 :: (q ++ l.drop n) := by
    have := List.take_append_drop n l
    rw [he] at this
    refine this.symm.trans ?_
    rw [List.append_assoc]
    rfl
  have hlen := congrArg List.length he
  have hn := tok_le h
  rw [List.length_take, List.length_append, List.length_cons] at hlen
  by_cases hp : p = []
  · rw [hl, hp, List.nil_append] at h
    have h2 : tok (37 :: (q ++ l.drop n)) = none := tok_blank (by rw [skipN, if_neg (by decide), if_pos rfl]; omega)
    rw [h2] at h
    cases h
  · rw [hl, tok_stop _ _ 37 (.inr (.inr rfl)) hp] at h
    have := (tok_le h).2
    omega
theorem strip_app : ∀ (p r : List UInt8), (∀ x ∈ p, x ≠ 37) → stripP false (p ++ r) = p ++ stripP false r
  | [], _, _ => rfl
  | c :: p, r, h => by
    rw [List.cons_append, stripP, if_neg (h c (List.mem_cons_self ..)), strip_app p r fun x hx => h x (List.mem_cons_of_mem _ hx)]
    rfl
/-- The token at the beginning stays. -/
theorem tok_strip {t : List UInt8} {k n : Nat} (h : tok t = some (k, n)) (h64 : (t.drop n)[0]? ≠ some 64) : stripP false t = t.take n ++ stripP false (t.drop n) ∧ tok (stripP false t) = some (k, n) := by
  have hn := tok_le h
  have hst : stripP false t = t.take n ++ stripP false (t.drop n) := by
    have := strip_app (t.take n) (t.drop n) (tok_no37 h)
    rw [List.take_append_drop] at this
    exact this
  refine ⟨hst, ?_⟩
  rw [hst]
  have hlen : (t.take n).length = n := by rw [List.length_take]; omega
  have htk := tok_take t k n h
  have hne : t.take n ≠ [] := by
    intro h0
    rw [h0] at hlen
    simp at hlen
    omega
  match hr : t.drop n, h64 with
  | [], _ => rw [stripP, List.append_nil]; exact htk
  | c :: q, h64 =>
    by_cases hc : c = 37
    · rw [stripP, if_pos hc]
      match hq : stripP true q with
      | [] => rw [List.append_nil]; exact htk
      | d :: u =>
        have hd : d = 10 := by
          clear hr h64
          induction q with
          | nil => simp [stripP] at hq
          | cons x q ih =>
            rw [stripP] at hq
            split at hq
            · simp at hq; exact hq.1.symm
            · exact ih hq
        subst hd
        rw [tok_stop _ _ 10 (.inl rfl) hne]
        exact htk
    · rw [stripP, if_neg hc]
      have ht : t = (t.take n ++ [c]) ++ q := by
        rw [List.append_assoc]
        show t = t.take n ++ c :: q
        rw [← hr, List.take_append_drop]
      have hg : (t.take n ++ [c])[n]? ≠ some 64 := by
        rw [List.getElem?_append_right (by omega), hlen, Nat.sub_self]
        simpa using h64
      have hlt : n < (t.take n ++ [c]).length := by rw [List.length_append, hlen]; simp
      have h2 : tok (t.take n ++ [c]) = some (k, n) := (tok_ext _ q k n hlt hg).2 (by rw [← ht]; exact h)
      have h3 := (tok_ext (t.take n ++ [c]) (stripP false q) k n hlt hg).1 h2
      rw [List.append_assoc] at h3
      exact h3
theorem rest_not64 {t : List UInt8} {n i : Nat} {ts : List S34} (h : Toks (restT t n) i ts) : (t.drop n)[0]? ≠ some 64 := by
  intro h64
  match hr : t.drop n, h64 with
  | c :: q, h64 =>
    simp at h64
    subst h64
    have hsk : skipN false (64 :: q) = 0 := by rw [skipN, if_neg (by decide), if_neg (by decide)]
    unfold restT at h
    rw [hr, hsk, List.drop_zero] at h
    cases ts with
    | nil => cases h
    | cons t' ts =>
      obtain ⟨k, m, ht, _⟩ := h
      rw [tok64] at ht
      cases ht
theorem toks_strip : ∀ (toks : List S34) (t : List UInt8) (i j : Nat), Toks t i toks → ∃ toks', Toks (stripP false t) j toks' ∧ sameL toks toks' = true
  | [], t, _, _, h => by
    obtain rfl : t = [] := h
    exact ⟨[], rfl, rfl⟩
  | x :: ts, t, i, j, ⟨k, n, ht, h40, he, h⟩ => by
    have h64 := rest_not64 h
    obtain ⟨hst, htk⟩ := tok_strip ht h64
    have hn := tok_le ht
    have hlen : (t.take n).length = n := by rw [List.length_take]; omega
    have hdr : (stripP false t).drop n = stripP false (t.drop n) := by
      rw [hst]
      have := List.drop_left (l₁ := t.take n) (l₂ := stripP false (t.drop n))
      rw [hlen] at this
      exact this
    obtain ⟨toks', h1, h2⟩ := toks_strip ts _ _ (j + n + skipN false ((stripP false t).drop n)) h
    have hrest : restT (stripP false t) n = stripP false (restT t n) := by
      unfold restT
      rw [hdr, strip_skip]
    refine ⟨_ :: toks', ⟨k, n, htk, h40, rfl, by rw [hrest]; exact h1⟩, ?_⟩
    rw [sameL, h2, Bool.and_true, he]
    have htake : (stripP false t).take n = t.take n := by
      rw [hst]
      have := List.take_left (l₁ := t.take n) (l₂ := stripP false (t.drop n))
      rw [hlen] at this
      exact this
    simp only [sameT, htake]
    simp
theorem scan_strip {l : List UInt8} {r : List S34} {a : Int} (h : scanL l = (r, a, 0)) : ∃ r', scanL (stripP false l) = (r', 0, 0) ∧ sameL r r' = true := by
  obtain ⟨h1, _, h3, h4⟩ := toks_of_scanL h
  obtain ⟨r', h5, h6⟩ := toks_strip r _ _ (skipN false (stripP false l)) h3
  rw [← strip_skip] at h5
  refine ⟨r', scanL_of_toks ?_ h5 (by rw [← sameL_len _ _ h6]; exact h4), h6⟩
  have := strip_len false l
  omega
end Go.Proofs.Ytkolnimgdbhekaa.P

namespace Go.Proofs.Ytkolnimgdbhekaa.P
open Go.RowKit Go.Proofs.YtkolnimgdbhekaaW.PrintWords Go.Proofs.YtkolnimgdbhekaaW.PrintLast Go.Proofs.YtkolnimgdbhekaaW.PrintMore

/-- Which bytes lie in comments; c: within one. -/
def comM : Bool → List UInt8 → Nat → Bool
  | _, [], _ => false
  | true, c :: _, 0 => !(c == 10)
  | false, c :: _, 0 => c == 37
  | true, c :: r, x + 1 => if c = 10 then comM false r x else comM true r x
  | false, c :: r, x + 1 => if c = 37 then comM true r x else comM false r x
/-- Does an offset lie in one of these pieces? -/
def inC (cl : List (Nat × Nat)) (x : Nat) : Bool := cl.any fun p => decide (p.1 ≤ x) && decide (x < p.2)
theorem comS_in : ∀ (t : List UInt8) (k : Nat), (∀ y, y < k → inC (comS none k t) y = false) ∧ (∀ x, inC (comS none k t) (k + x) = comM false t x) ∧ (∀ b, b < k → (∀ y, y < k → inC (comS (some b) k t) y = decide (b ≤ y)) ∧ (∀ x, inC (comS (some b) k t) (k + x) = comM true t x))
  | [], k => by
    refine ⟨fun y _ => rfl, fun x => rfl, fun b hb => ⟨fun y hy => ?_, fun x => ?_⟩⟩
    · simp [comS, inC, hy]
    · simp [comS, inC, comM]
  | c :: t, k => by
    obtain ⟨i1, i2, i3⟩ := comS_in t (k + 1)
    have i2' : ∀ x, inC (comS none (k + 1) t) (k + (x + 1)) = comM false t x := fun x => by rw [← i2 x]; congr 1; omega
    refine ⟨fun y hy => ?_, fun x => ?_, fun b hb => ?_⟩
    · rw [comS]
      split
      · rw [(i3 k (by omega)).1 y (by omega)]
        exact decide_eq_false (by omega)
      · exact i1 y (by omega)
    · rw [comS]
      by_cases hc : c = 37
      · rw [if_pos hc]
        obtain ⟨j1, j2⟩ := i3 k (by omega)
        cases x with
        | zero => exact (j1 k (by omega)).trans (by simp [comM, hc])
        | succ x => rw [show k + (x + 1) = k + 1 + x by omega, j2, comM, if_pos hc]
      · rw [if_neg hc]
        cases x with
        | zero => exact (i1 k (by omega)).trans (by simp [comM, hc])
        | succ x => rw [i2', comM, if_neg hc]
    · obtain ⟨j1, j2⟩ := i3 b (by omega)
      by_cases hc : c = 10
      · refine ⟨fun y hy => ?_, fun x => ?_⟩
        · rw [comS, if_pos hc]
          show (decide (b ≤ y) && decide (y < k) || inC (comS none (k + 1) t) y) = _
          rw [i1 y (by omega), decide_eq_true hy, Bool.and_true, Bool.or_false]
        · rw [comS, if_pos hc]
          show (decide (b ≤ k + x) && decide (k + x < k) || inC (comS none (k + 1) t) (k + x)) = _
          rw [decide_eq_false (show ¬ k + x < k by omega), Bool.and_false, Bool.false_or]
          cases x with
          | zero => exact (i1 k (by omega)).trans (by simp [comM, hc])
          | succ x => rw [i2', comM, if_pos hc]
      · refine ⟨fun y hy => ?_, fun x => ?_⟩
        · rw [comS, if_neg hc]
          exact j1 y (by omega)
        · rw [comS, if_neg hc]
          cases x with
          | zero => exact (j1 k (by omega)).trans (by rw [decide_eq_true (by omega)]; simp [comM, hc])
          | succ x => rw [show k + (x + 1) = k + 1 + x by omega, j2, comM, if_neg hc]
theorem inC_com (l : List UInt8) (x : Nat) : inC (comS none 0 l) x = comM false l x := by
  have := (comS_in l 0).2.1 x
  rwa [Nat.zero_add] at this
theorem comM_no37 : ∀ (p r : List UInt8), (∀ x ∈ p, x ≠ 37) → (∀ x, x < p.length → comM false (p ++ r) x = false) ∧ ∀ x, comM false (p ++ r) (p.length + x) = comM false r x
  | [], r, _ => ⟨fun x h => by simp at h, fun x => by simp⟩
  | c :: p, r, h => by
    obtain ⟨i1, i2⟩ := comM_no37 p r fun x hx => h x (List.mem_cons_of_mem _ hx)
    have hc : c ≠ 37 := h c (List.mem_cons_self ..)
    refine ⟨fun x hx => ?_, fun x => ?_⟩
    · cases x with
      | zero => simp [comM, hc]
      | succ x =>
        rw [List.cons_append, comM, if_neg hc]
        exact i1 x (by simp at hx; omega)
    · rw [List.cons_append, show (c :: p).length + x = (p.length + x) + 1 by simp; omega, comM, if_neg hc]
      exact i2 x
theorem comM_skip : ∀ (c : Bool) (r : List UInt8), (∀ x, x < skipN c r → comM c r x = true ∨ ∃ b, r[x]? = some b ∧ blankB b = true) ∧ ∀ x, comM c r (skipN c r + x) = comM false (r.drop (skipN c r)) x
  | c, [] => by cases c <;> exact ⟨fun x h => by simp [skipN] at h, fun x => by simp [skipN, comM]⟩
  | true, b :: r => by
    obtain ⟨i1, i2⟩ := comM_skip true r
    obtain ⟨j1, j2⟩ := comM_skip false r
    by_cases hb : b = 10
    · rw [skipN, if_pos hb]
      refine ⟨fun x hx => ?_, fun x => ?_⟩
      · cases x with
        | zero => exact .inr ⟨b, rfl, by rw [hb]; decide⟩
        | succ x =>
          rw [comM, if_pos hb]
          exact j1 x (by omega)
      · rw [show skipN false r + 1 + x = skipN false r + x + 1 by omega, comM, if_pos hb]
        exact j2 x
    · rw [skipN, if_neg hb]
      refine ⟨fun x hx => ?_, fun x => ?_⟩
      · cases x with
        | zero => exact .inl (by simp [comM, hb])
        | succ x =>
          rw [comM, if_neg hb]
          exact i1 x (by omega)
      · rw [show skipN true r + 1 + x = skipN true r + x + 1 by omega, comM, if_neg hb]
        exact i2 x
  | false, b :: r => by
    obtain ⟨i1, i2⟩ := comM_skip true r
    obtain ⟨j1, j2⟩ := comM_skip false r
    by_cases hb : blankB b = true
    · have h37 : b ≠ 37 := by intro h; rw [h] at hb; exact absurd hb (by decide)
      rw [skipN, if_pos hb]
      refine ⟨fun x hx => ?_, fun x => ?_⟩
      · cases x with
        | zero => exact .inr ⟨b, rfl, hb⟩
        | succ x =>
          rw [comM, if_neg h37]
          exact j1 x (by omega)
      · rw [show skipN false r + 1 + x = skipN false r + x + 1 by omega, comM, if_neg h37]
        exact j2 x
    · rw [skipN, if_neg hb]
      by_cases h37 : b = 37
      · rw [if_pos h37]
        refine ⟨fun x hx => ?_, fun x => ?_⟩
        · cases x with
          | zero => exact .inl (by simp [comM, h37])
          | succ x =>
            rw [comM, if_pos h37]
            exact i1 x (by omega)
        · rw [show skipN true r + 1 + x = skipN true r + x + 1 by omega, comM, if_pos h37]
          exact i2 x
      · rw [if_neg h37]
        exact ⟨fun x hx => by omega, fun x => by simp⟩
/-- Where a token begins; does an offset lie in one of these tokens? -/
def atT (t : S34) : Nat := t.f2.toNat
def inT (ts : List S34) (x : Nat) : Bool := ts.any fun t => decide (atT t ≤ x) && decide (x < atT t + (bsT t).length)
/-- Tokens in their order, each the part of the text at its At. -/
def ordT (l : List UInt8) : Nat → List S34 → Prop
  | _, [] => True
  | f, t :: ts => t.f2 = (atT t : Int) ∧ f ≤ atT t ∧ atT t + (bsT t).length ≤ l.length ∧ (l.drop (atT t)).take (bsT t).length = bsT t ∧ okT t = true ∧ ordT l (atT t + (bsT t).length) ts
theorem ord_low (l : List UInt8) : ∀ (ts : List S34) (f : Nat), ordT l f ts → ∀ x, x < f → inT ts x = false
  | [], _, _, _, _ => rfl
  | t :: ts, f, ⟨_, h1, _, _, _, h2⟩, x, hx => by
    have ih := ord_low l ts _ h2 x (by omega)
    show (decide (atT t ≤ x) && decide (x < atT t + (bsT t).length) || inT ts x) = false
    rw [ih, decide_eq_false (show ¬ atT t ≤ x by omega)]
    rfl
theorem cover_toks (l : List UInt8) : ∀ (ts : List S34) (t : List UInt8) (i : Nat), l.drop i = t → i ≤ l.length → Toks t i ts → ordT l i ts ∧ ∀ x, x < t.length → (inT ts (i + x) = true → comM false t x = false) ∧ (inT ts (i + x) = false → comM false t x = true ∨ ∃ b, t[x]? = some b ∧ blankB b = true)
  | [], t, i, _, _, h => by
    obtain rfl : t = [] := h
    exact ⟨trivial, fun x hx => by simp at hx⟩
  | y :: ts, t, i, hd, hi, h0 => by
    have hok := toks_ok _ _ _ h0 y (List.mem_cons_self ..)
    obtain ⟨k, n, ht, h40, he, h⟩ := h0
    have hn := tok_le ht
    have hb : bsT y = t.take n := by rw [he]; rfl
    have hbl : (bsT y).length = n := by rw [hb, List.length_take]; omega
    have ha : atT y = i := by rw [he]; show ((i : Nat) : Int).toNat = i; omega
    have hlt : t.length = l.length - i := by rw [← hd, List.length_drop]
    have hdn : l.drop (i + n) = t.drop n := by rw [← List.drop_drop, hd]
    have hr := restT_len t n
    have hdr : l.drop (i + n + skipN false (t.drop n)) = restT t n := by rw [← List.drop_drop, hdn]; rfl
    obtain ⟨o1, o2⟩ := cover_toks l ts (restT t n) _ hdr (by omega) h
    have hlow := ord_low l ts _ o1
    have hord : ordT l i (y :: ts) := by
      refine ⟨by rw [ha, he], by omega, by omega, ?_, hok, ?_⟩
      · rw [ha, hbl, hd, hb]
      · rw [ha, hbl]
        clear hlow o2
        cases ts with
        | nil => trivial
        | cons z ts => exact ⟨o1.1, by have := o1.2.1; omega, o1.2.2⟩
    refine ⟨hord, fun x hx => ?_⟩
    obtain ⟨c1, c2⟩ := comM_no37 (t.take n) (t.drop n) (tok_no37 ht)
    rw [List.take_append_drop] at c1 c2
    have htl : (t.take n).length = n := by rw [List.length_take]; omega
    rw [htl] at c1 c2
    have hin : inT (y :: ts) (i + x) = (decide (x < n) || inT ts (i + x)) := by
      show (decide (atT y ≤ i + x) && decide (i + x < atT y + (bsT y).length) || inT ts (i + x)) = _
      rw [ha, hbl, decide_eq_true (show i ≤ i + x by omega), Bool.true_and]
      congr 1
      rw [Bool.eq_iff_iff]
      simp
    by_cases hxn : x < n
    · rw [hin, decide_eq_true hxn, Bool.true_or]
      exact ⟨fun _ => c1 x hxn, fun h => by cases h⟩
    · rw [hin, decide_eq_false hxn, Bool.false_or]
      obtain ⟨x', rfl⟩ : ∃ x', x = n + x' := ⟨x - n, by omega⟩
      rw [c2 x']
      obtain ⟨s1, s2⟩ := comM_skip false (t.drop n)
      have hget : ∀ z, t[n + z]? = (t.drop n)[z]? := fun z => by rw [List.getElem?_drop]
      by_cases hxs : x' < skipN false (t.drop n)
      · have hf : inT ts (i + (n + x')) = false := hlow _ (by omega)
        rw [hf]
        refine ⟨fun h => (by cases h), fun _ => ?_⟩
        rcases s1 x' hxs with h1 | ⟨b, h1, h2⟩
        · exact .inl h1
        · exact .inr ⟨b, by rw [hget]; exact h1, h2⟩
      · obtain ⟨x'', rfl⟩ : ∃ x'', x' = skipN false (t.drop n) + x'' := ⟨x' - skipN false (t.drop n), by omega⟩
        rw [s2 x'']
        have := o2 x'' (by omega)
        rw [show i + (n + (skipN false (t.drop n) + x'')) = i + n + skipN false (t.drop n) + x'' by omega]
        refine ⟨this.1, fun h => ?_⟩
        rcases this.2 h with h1 | ⟨b, h1, h2⟩
        · exact .inl h1
        · refine .inr ⟨b, ?_, h2⟩
          rw [hget]
          unfold restT at h1
          rw [List.getElem?_drop] at h1
          exact h1
theorem cover_all {l : List UInt8} {r : List S34} {a : Int} (h : scanL l = (r, a, 0)) : ordT l 0 r ∧ ∀ x, x < l.length → (inT r x = true → inC (comS none 0 l) x = false) ∧ (inT r x = false → inC (comS none 0 l) x = true ∨ ∃ b, l[x]? = some b ∧ blankB b = true) := by
  obtain ⟨h1, _, h3, h4⟩ := toks_of_scanL h
  have hsk := skipN_le false l
  obtain ⟨o1, o2⟩ := cover_toks l r _ _ rfl hsk h3
  obtain ⟨s1, s2⟩ := comM_skip false l
  have hlow := ord_low l r _ o1
  refine ⟨?_, fun x hx => ?_⟩
  · clear o2 hlow h h3
    cases r with
    | nil => trivial
    | cons z ts => exact ⟨o1.1, by omega, o1.2.2⟩
  · rw [inC_com]
    by_cases hxs : x < skipN false l
    · rw [hlow x hxs]
      exact ⟨fun h => (by cases h), fun _ => s1 x hxs⟩
    · obtain ⟨y, rfl⟩ : ∃ y, x = skipN false l + y := ⟨x - skipN false l, by omega⟩
      rw [s2 y]
      have := o2 y (by rw [List.length_drop]; omega)
      refine ⟨this.1, fun h => ?_⟩
      rcases this.2 h with h1 | ⟨b, h1, h2⟩
      · exact .inl h1
      · rw [List.getElem?_drop] at h1
        exact .inr ⟨b, h1, h2⟩
end Go.Proofs.Ytkolnimgdbhekaa.P
