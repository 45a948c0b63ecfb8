/- LexStripped, the plain law: a text without its comments has the same tokens, no comment, as many lines, and is itself without its comments. -/
import Derived.Test.YtkolnimgdbhekaaLChain
import Derived.Test.YtkolnimgdbhekaaLStrip
import Derived.Test.YtkolnimgdbhekaaLLines
namespace Go.Proofs.Ytkolnimgdbhekaa.P
open Go.RowKit Go.Proofs.YtkolnimgdbhekaaW.PrintWords Go.Proofs.YtkolnimgdbhekaaW.PrintLast Go.Proofs.YtkolnimgdbhekaaW.PrintMore

/-- A text without its comments; c: within a comment. -/
def stripP : Bool → List UInt8 → List UInt8
  | _, [] => []
  | true, c :: r => if c = 10 then 10 :: stripP false r else stripP true r
  | false, c :: r => if c = 37 then stripP true r else c :: stripP false r
theorem take_more (l : List UInt8) (f k : Nat) (c : UInt8) (t : List UInt8) (hf : f ≤ k) (h : l.drop k = c :: t) : (l.drop f).take (k + 1 - f) = (l.drop f).take (k - f) ++ [c] := by
  rw [show k + 1 - f = k - f + 1 by omega, List.take_add, List.drop_drop, show f + (k - f) = k by omega, h]
  rfl
theorem strip_eq (l : List UInt8) : ∀ (t : List UInt8) (k : Nat), l.drop k = t → (∀ f, f ≤ k → stripC (comS none k t) f l = (l.drop f).take (k - f) ++ stripP false t) ∧ (∀ b f, f ≤ b → b < k → stripC (comS (some b) k t) f l = (l.drop f).take (b - f) ++ stripP true t)
  | [], k, h => by
    have hk : l.length ≤ k := by
      have := congrArg List.length h
      rw [List.length_drop] at this
      simp at this
      omega
    refine ⟨fun f hf => ?_, fun b f h1 h2 => ?_⟩
    · rw [comS, stripC, stripP, List.append_nil, List.take_of_length_le (by rw [List.length_drop]; omega)]
    · rw [comS, stripC, stripC, stripP, h]
  | c :: t, k, h => by
    have h2 : l.drop (k + 1) = t := by rw [← List.drop_drop, h]; rfl
    obtain ⟨ih1, ih2⟩ := strip_eq l t (k + 1) h2
    refine ⟨fun f hf => ?_, fun b f h1 h3 => ?_⟩
    · rw [comS, stripP]
      by_cases hc : c = 37
      · rw [if_pos hc, if_pos hc, ih2 k f hf (by omega)]
      · rw [if_neg hc, if_neg hc, ih1 f (by omega), take_more l f k c t hf h, List.append_assoc]
        rfl
    · rw [comS, stripP]
      by_cases hc : c = 10
      · rw [if_pos hc, if_pos hc, stripC, ih1 k (by omega), take_more l k k c t (Nat.le_refl _) h, Nat.sub_self, List.take_zero, hc]
        rfl
      · rw [if_neg hc, if_neg hc, ih2 b f h1 (by omega)]
theorem strip_all (l : List UInt8) : stripC (comS none 0 l) 0 l = stripP false l := by
  have := (strip_eq l l 0 rfl).1 0 (Nat.le_refl _)
  rw [Nat.sub_self, List.take_zero, List.nil_append] at this
  exact this
theorem strip_len : ∀ (c : Bool) (l : List UInt8), (stripP c l).length ≤ l.length
  | _, [] => by simp [stripP]
  | true, c :: r => by
    have h1 := strip_len true r
    have h2 := strip_len false r
    rw [stripP]
    split <;> simp <;> omega
  | false, c :: r => by
    have h1 := strip_len true r
    have h2 := strip_len false r
    rw [stripP]
    split <;> simp <;> omega
theorem strip_no37 : ∀ (c : Bool) (l : List UInt8), ∀ x ∈ stripP c l, x ≠ 37
  | _, [], x, h => by simp [stripP] at h
  | true, c :: r, x, h => by
    rw [stripP] at h
    split at h
    · rcases List.mem_cons.1 h with rfl | h
      · decide
      · exact strip_no37 false r x h
    · exact strip_no37 true r x h
  | false, c :: r, x, h => by
    rw [stripP] at h
    split at h
    · exact strip_no37 true r x h
    · rename_i hc
      rcases List.mem_cons.1 h with rfl | h
      · exact hc
      · exact strip_no37 false r x h
theorem com_no37 : ∀ (l : List UInt8) (k : Nat), (∀ x ∈ l, x ≠ 37) → comS none k l = []
  | [], _, _ => rfl
  | c :: r, k, h => by
    rw [comS, if_neg (h c (List.mem_cons_self ..))]
    exact com_no37 r (k + 1) fun x hx => h x (List.mem_cons_of_mem _ hx)
theorem strip_no37_id : ∀ (l : List UInt8), (∀ x ∈ l, x ≠ 37) → stripP false l = l
  | [], _ => rfl
  | c :: r, h => by
    rw [stripP, if_neg (h c (List.mem_cons_self ..)), strip_no37_id r fun x hx => h x (List.mem_cons_of_mem _ hx)]
theorem strip_count : ∀ (c : Bool) (l : List UInt8), Lib.countByte (stripP c l) 10 = Lib.countByte l 10
  | _, [] => by simp [stripP]
  | true, c :: r => by
    have h1 := strip_count true r
    have h2 := strip_count false r
    unfold Lib.countByte at h1 h2 ⊢
    rw [stripP, List.count_cons]
    by_cases hc : c = 10
    · rw [if_pos hc, List.count_cons, h2, hc]
    · rw [if_neg hc, h1]
      have : (c == 10) = false := beq_eq_false_iff_ne.2 hc
      simp [this]
  | false, c :: r => by
    have h1 := strip_count true r
    have h2 := strip_count false r
    unfold Lib.countByte at h1 h2 ⊢
    rw [stripP, List.count_cons]
    by_cases hc : c = 37
    · rw [if_pos hc, h1, hc]
      simp
    · rw [if_neg hc, List.count_cons, h2]
theorem strip_skip : ∀ (c : Bool) (r : List UInt8), (stripP c r).drop (skipN false (stripP c r)) = stripP false (r.drop (skipN c r))
  | _, [] => by simp [stripP, skipN]
  | true, x :: r => by
    have h1 := strip_skip true r
    have h2 := strip_skip false r
    rw [stripP, skipN]
    by_cases hx : x = 10
    · rw [if_pos hx, if_pos hx, skipN, if_pos (by decide), List.drop_succ_cons, List.drop_succ_cons]
      exact h2
    · rw [if_neg hx, if_neg hx, List.drop_succ_cons]
      exact h1
  | false, x :: r => by
    have h1 := strip_skip true r
    have h2 := strip_skip false r
    by_cases h37 : x = 37
    · subst h37
      rw [stripP, if_pos rfl, skipN, if_neg (by decide), if_pos rfl, List.drop_succ_cons]
      exact h1
    · by_cases hb : blankB x = true
      · rw [stripP, if_neg h37, skipN, if_pos hb, skipN, if_pos hb, List.drop_succ_cons, List.drop_succ_cons]
        exact h2
      · rw [stripP, if_neg h37, skipN, if_neg hb, if_neg h37, skipN, if_neg hb, if_neg h37, List.drop_zero, List.drop_zero, stripP, if_neg h37]
theorem tok_no37 {l : List UInt8} {k n : Nat} (h : tok l = some (k, n)) : ∀ x ∈ l.take n, x ≠ 37 := by
  intro x hx h37
  subst h37
  obtain ⟨p, q, he⟩ := List.append_of_mem hx
  have hl : l = p ++ 37 :: (q ++ l.drop n) := by
    have := List.take_append_drop n l
    rw [he] at this
    refine this.symm.trans ?_
    rw [List.append_assoc]
    rfl
  have hlen := congrArg List.length he
  have hn := tok_le h
  rw [List.length_take, List.length_append, List.length_cons] at hlen
  by_cases hp : p = []
  · rw [hl, hp, List.nil_append] at h
    have h2 : tok (37 :: (q ++ l.drop n)) = none := tok_blank (by rw [skipN, if_neg (by decide), if_pos rfl]; omega)
    rw [h2] at h
    cases h
  · rw [hl, tok_stop _ _ 37 (.inr (.inr rfl)) hp] at h
    have := (tok_le h).2
    omega
theorem strip_app : ∀ (p r : List UInt8), (∀ x ∈ p, x ≠ 37) → stripP false (p ++ r) = p ++ stripP false r
  | [], _, _ => rfl
  | c :: p, r, h => by
    rw [List.cons_append, stripP, if_neg (h c (List.mem_cons_self ..)), strip_app p r fun x hx => h x (List.mem_cons_of_mem _ hx)]
    rfl
/-- The token at the beginning stays. -/
theorem tok_strip {t : List UInt8} {k n : Nat} (h : tok t = some (k, n)) (h64 : (t.drop n)[0]? ≠ some 64) : stripP false t = t.take n ++ stripP false (t.drop n) ∧ tok (stripP false t) = some (k, n) := by
  have hn := tok_le h
  have hst : stripP false t = t.take n ++ stripP false (t.drop n) := by
    have := strip_app (t.take n) (t.drop n) (tok_no37 h)
    rw [List.take_append_drop] at this
    exact this
  refine ⟨hst, ?_⟩
  rw [hst]
  have hlen : (t.take n).length = n := by rw [List.length_take]; omega
  have htk := tok_take t k n h
  have hne : t.take n ≠ [] := by
    intro h0
    rw [h0] at hlen
    simp at hlen
    omega
  match hr : t.drop n, h64 with
  | [], _ => rw [stripP, List.append_nil]; exact htk
  | c :: q, h64 =>
    by_cases hc : c = 37
    · rw [stripP, if_pos hc]
      match hq : stripP true q with
      | [] => rw [List.append_nil]; exact htk
      | d :: u =>
        have hd : d = 10 := by
          clear hr h64
          induction q with
          | nil => simp [stripP] at hq
          | cons x q ih =>
            rw [stripP] at hq
            split at hq
            · simp at hq; exact hq.1.symm
            · exact ih hq
        subst hd
        rw [tok_stop _ _ 10 (.inl rfl) hne]
        exact htk
    · rw [stripP, if_neg hc]
      have ht : t = (t.take n ++ [c]) ++ q := by
        rw [List.append_assoc]
        show t = t.take n ++ c :: q
        rw [← hr, List.take_append_drop]
      have hg : (t.take n ++ [c])[n]? ≠ some 64 := by
        rw [List.getElem?_append_right (by omega), hlen, Nat.sub_self]
        simpa using h64
      have hlt : n < (t.take n ++ [c]).length := by rw [List.length_append, hlen]; simp
      have h2 : tok (t.take n ++ [c]) = some (k, n) := (tok_ext _ q k n hlt hg).2 (by rw [← ht]; exact h)
      have h3 := (tok_ext (t.take n ++ [c]) (stripP false q) k n hlt hg).1 h2
      rw [List.append_assoc] at h3
      exact h3
theorem rest_not64 {t : List UInt8} {n i : Nat} {ts : List S34} (h : Toks (restT t n) i ts) : (t.drop n)[0]? ≠ some 64 := by
  intro h64
  match hr : t.drop n, h64 with
  | c :: q, h64 =>
    simp at h64
    subst h64
    have hsk : skipN false (64 :: q) = 0 := by rw [skipN, if_neg (by decide), if_neg (by decide)]
    unfold restT at h
    rw [hr, hsk, List.drop_zero] at h
    cases ts with
    | nil => cases h
    | cons t' ts =>
      obtain ⟨k, m, ht, _⟩ := h
      rw [tok64] at ht
      cases ht
theorem toks_strip : ∀ (toks : List S34) (t : List UInt8) (i j : Nat), Toks t i toks → ∃ toks', Toks (stripP false t) j toks' ∧ sameL toks toks' = true
  | [], t, _, _, h => by
    obtain rfl : t = [] := h
    exact ⟨[], rfl, rfl⟩
  | x :: ts, t, i, j, ⟨k, n, ht, h40, he, h⟩ => by
    have h64 := rest_not64 h
    obtain ⟨hst, htk⟩ := tok_strip ht h64
    have hn := tok_le ht
    have hlen : (t.take n).length = n := by rw [List.length_take]; omega
    have hdr : (stripP false t).drop n = stripP false (t.drop n) := by
      rw [hst]
      have := List.drop_left (l₁ := t.take n) (l₂ := stripP false (t.drop n))
      rw [hlen] at this
      exact this
    obtain ⟨toks', h1, h2⟩ := toks_strip ts _ _ (j + n + skipN false ((stripP false t).drop n)) h
    have hrest : restT (stripP false t) n = stripP false (restT t n) := by
      unfold restT
      rw [hdr, strip_skip]
    refine ⟨_ :: toks', ⟨k, n, htk, h40, rfl, by rw [hrest]; exact h1⟩, ?_⟩
    rw [sameL, h2, Bool.and_true, he]
    have htake : (stripP false t).take n = t.take n := by
      rw [hst]
      have := List.take_left (l₁ := t.take n) (l₂ := stripP false (t.drop n))
      rw [hlen] at this
      exact this
    simp only [sameT, htake]
    simp
theorem scan_strip {l : List UInt8} {r : List S34} {a : Int} (h : scanL l = (r, a, 0)) : ∃ r', scanL (stripP false l) = (r', 0, 0) ∧ sameL r r' = true := by
  obtain ⟨h1, _, h3, h4⟩ := toks_of_scanL h
  obtain ⟨r', h5, h6⟩ := toks_strip r _ _ (skipN false (stripP false l)) h3
  rw [← strip_skip] at h5
  refine ⟨r', scanL_of_toks ?_ h5 (by rw [← sameL_len _ _ h6]; exact h4), h6⟩
  have := strip_len false l
  omega
end Go.Proofs.Ytkolnimgdbhekaa.P
