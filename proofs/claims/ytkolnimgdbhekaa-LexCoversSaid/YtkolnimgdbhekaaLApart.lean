/- What stands behind a token decides little: the scanner's test on a text, on a longer one and on a shorter one. Valid tokens: what the scanner makes of one behind another; when a space is needed. -/
import Derived.Test.YtkolnimgdbhekaaLLex
import Derived.Test.YtkolnimgdbhekaaLCheck
namespace Go.Proofs.Ytkolnimgdbhekaa.P

theorem run_lt : ∀ (p t : List UInt8), runN p < p.length → runN (p ++ t) = runN p
  | [], _, h => by simp at h
  | c :: p, t, h => by
    simp only [List.cons_append, runN] at h ⊢
    by_cases hc : partB c = true
    · rw [if_pos hc] at h ⊢
      rw [if_pos hc, run_lt p t (by simp at h; omega)]
    · rw [if_neg hc, if_neg hc]
theorem run_full : ∀ (p t : List UInt8), runN p = p.length → runN (p ++ t) = p.length + runN t
  | [], _, _ => by simp
  | c :: p, t, h => by
    simp only [List.cons_append, runN] at h ⊢
    by_cases hc : partB c = true
    · rw [if_pos hc] at h ⊢
      rw [run_full p t (by simp at h; omega)]
      simp
      omega
    · rw [if_neg hc] at h
      simp at h
theorem run_lt' (p t : List UInt8) (h : runN (p ++ t) < p.length) : runN p < p.length ∧ runN (p ++ t) = runN p := by
  by_cases hf : runN p = p.length
  · rw [run_full p t hf] at h
    omega
  · have := runN_le p
    have h1 : runN p < p.length := by omega
    exact ⟨h1, run_lt p t h1⟩
theorem run_stop (l t : List UInt8) (c : UInt8) (hc : partB c = false) : runN (l ++ c :: t) = runN l := by
  by_cases hf : runN l = l.length
  · rw [run_full l _ hf, runN, if_neg (by simp [hc])]
    omega
  · have := runN_le l
    exact run_lt l _ (by omega)
theorem run_take : ∀ (l : List UInt8) (n : Nat), n ≤ runN l → runN (l.take n) = n
  | _, 0, _ => by simp [runN]
  | [], n + 1, h => by simp [runN] at h
  | c :: l, n + 1, h => by
    simp only [List.take_succ_cons, runN] at h ⊢
    by_cases hc : partB c = true
    · rw [if_pos hc] at h ⊢
      rw [run_take l n (by omega)]
    · rw [if_neg hc] at h
      omega
theorem oB_iff (l : List UInt8) : oB l = true ↔ ∃ r, l = 111 :: 45 :: r := by
  constructor
  · intro h
    unfold oB at h
    rw [Bool.and_eq_true] at h
    obtain ⟨h1, h2⟩ := h
    match l, h1, h2 with
    | [], _, h2 => simp at h2
    | [_], _, h2 => simp at h2
    | x :: y :: r, h1, h2 =>
      simp at h2
      subst h2
      refine ⟨r, ?_⟩
      rcases hn : nameN (x :: 45 :: r) with _ | n
      · rw [hn] at h1; simp at h1
      · rw [hn] at h1
        simp at h1
        rw [h1.1]
  · rintro ⟨r, rfl⟩
    have hr : runN (111 :: 45 :: r) = 1 := by
      rw [runN, if_pos (by decide), runN, if_neg (by decide)]
    have hl : linkB (111 :: 45 :: r) = false := by
      unfold linkB
      rw [hr]
      cases r <;> rfl
    have hn : nameN (111 :: 45 :: r) = 1 := by
      unfold nameN
      rw [hl, hr]
      rfl
    unfold oB
    rw [hn]
    rfl
def headSm : List UInt8 → Bool
  | [] => false
  | d :: _ => smallB d
theorem link_cons {l : List UInt8} {c : UInt8} {q : List UInt8} (h : l.drop (runN l) = c :: q) : linkB l = (c == 64 && headSm q) := by
  unfold linkB
  rw [h]
  cases q
  · simp [headSm]
  · rfl
theorem drop_app {p t : List UInt8} {m : Nat} {q : List UInt8} (hm : m ≤ p.length) (h : p.drop m = q) : (p ++ t).drop m = q ++ t := by
  rw [List.drop_append_of_le_length hm, h]
/-- A name that ends within p, not ahead of '@', is the same whatever follows p. -/
theorem name_ext (p t : List UInt8) (n : Nat) (hn : n < p.length) (h64 : p[n]? ≠ some 64) (h : nameN p = n ∨ nameN (p ++ t) = n) : nameN p = n ∧ nameN (p ++ t) = n := by
  have hm : runN p < p.length ∧ runN (p ++ t) = runN p := by
    rcases h with h | h
    · have h1 : runN p < p.length := by
        unfold nameN at h
        split at h <;> omega
      exact ⟨h1, run_lt p t h1⟩
    · refine run_lt' p t ?_
      unfold nameN at h
      split at h <;> omega
  obtain ⟨m, hme⟩ : ∃ m, m = runN p := ⟨_, rfl⟩
  obtain ⟨hm1, hm2⟩ := hm
  rw [← hme] at hm1 hm2
  rcases hq : p.drop m with _ | ⟨c, q⟩
  · have := congrArg List.length hq
    rw [List.length_drop] at this
    simp at this
    omega
  · have hq2 : (p ++ t).drop m = c :: (q ++ t) := drop_app (by omega) hq
    have hlen := congrArg List.length hq
    rw [List.length_drop, List.length_cons] at hlen
    have l1 := link_cons (by rw [← hme]; exact hq)
    have l2 := link_cons (by rw [hm2]; exact hq2)
    have hd1 : p.drop (m + 1) = q := by rw [← List.drop_drop, hq]; rfl
    have hd2 : (p ++ t).drop (m + 1) = q ++ t := drop_app (by omega) hd1
    have hpm : p[m]? = some c := by
      have := congrArg (fun (l : List UInt8) => l[0]?) hq
      simpa using this
    unfold nameN at h ⊢
    rw [← hme, hm2, l1, l2, hd1, hd2] at h ⊢
    by_cases hc : c = 64
    · have hnm : n ≠ m := fun e => h64 (by rw [e, hpm, hc])
      cases q with
      | nil =>
        have e0 : (c == 64 && headSm []) = false := by simp [headSm]
        rw [e0] at h
        simp only [Bool.false_eq_true, if_false] at h
        rcases h with h | h
        · omega
        · exfalso
          simp only [List.nil_append, List.length_nil] at h hlen
          by_cases hz : (c == 64 && headSm t) = true
          · rw [if_pos hz] at h; omega
          · rw [if_neg hz] at h; omega
      | cons d q =>
        have e1 : headSm (d :: q ++ t) = smallB d := rfl
        have e2 : headSm (d :: q) = smallB d := rfl
        rw [e1, e2] at h ⊢
        by_cases hs : (c == 64 && smallB d) = true
        · rw [if_pos hs, if_pos hs] at h ⊢
          simp only [List.length_cons] at hlen
          have hrr : runN (d :: q ++ t) = runN (d :: q) := by
            rcases h with h | h
            · exact run_lt (d :: q) t (by simp only [List.length_cons]; omega)
            · exact (run_lt' (d :: q) t (by simp only [List.length_cons]; omega)).2
          rw [hrr] at h ⊢
          omega
        · rw [if_neg hs, if_neg hs] at h ⊢
          omega
    · have : (c == 64) = false := beq_eq_false_iff_ne.2 hc
      simp only [this, Bool.false_and, Bool.false_eq_true, if_false] at h ⊢
      omega
theorem tok_small {b : UInt8} {r : List UInt8} (hs : smallB b = true) : tok (b :: r) = if oB (b :: r) = true then some (3, 2) else if wordsL.contains ((b :: r).take (nameN (b :: r))) = true then some (4, nameN (b :: r)) else some (1, nameN (b :: r)) := by
  simp only [tok]; rw [if_pos hs]
theorem oB_long (b c : UInt8) (r t : List UInt8) : oB (b :: c :: r) = oB (b :: c :: (r ++ t)) := by
  rw [Bool.eq_iff_iff, oB_iff, oB_iff]
  constructor
  · rintro ⟨x, hx⟩; exact ⟨x ++ t, by simp at hx ⊢; exact ⟨hx.1, hx.2.1, by rw [hx.2.2]⟩⟩
  · rintro ⟨x, hx⟩; exact ⟨r, by simp at hx ⊢; exact ⟨hx.1, hx.2.1⟩⟩
def sgn (b : UInt8) (h : Option UInt8) (tl : List UInt8) : Option (Nat × Nat) :=
  if (b = 45 ∧ h = some 62) ∨ (b = 61 ∧ h = some 62) ∨ (b = 60 ∧ h = some 61) then some (3, 2)
  else if b = 45 ∧ h = some 111 then
    match tl with
    | [] => some (3, 2)
    | c :: _ => if partB c then none else some (3, 2)
  else if onesL.contains b then some (3, 1) else none
theorem tok_sgn {b : UInt8} {r : List UInt8} (hs : ¬ smallB b = true) (hc : ¬ capB b = true) : tok (b :: r) = sgn b r.head? r.tail := by
  simp only [tok]; rw [if_neg hs, if_neg hc]; rfl
theorem tok_capE {b : UInt8} {r : List UInt8} (hs : ¬ smallB b = true) (hc : capB b = true) : tok (b :: r) = some (2, runN (b :: r)) := by
  simp only [tok]; rw [if_neg hs, if_pos hc]
theorem sgn_tl (b d : UInt8) (h : Option UInt8) (r t : List UInt8) : sgn b h (d :: (r ++ t)) = sgn b h (d :: r) := rfl
theorem sgn_two {b : UInt8} {h : Option UInt8} {tl : List UInt8} {k n : Nat} (hg : sgn b h tl = some (k, n)) : k = 3 ∧ (n = 1 ∨ n = 2 ∧ h ≠ none) ∧ (n = 1 → sgn b none [] = some (3, 1)) ∧ (n = 2 → sgn b h [] = some (3, 2)) ∧ (n = 1 → ∀ t, sgn b h t = some (3, 1)) := by
  unfold sgn at hg ⊢
  by_cases h2 : (b = 45 ∧ h = some 62) ∨ (b = 61 ∧ h = some 62) ∨ (b = 60 ∧ h = some 61)
  · rw [if_pos h2] at hg ⊢
    simp only [Option.some.injEq, Prod.mk.injEq] at hg
    obtain ⟨rfl, rfl⟩ := hg
    refine ⟨rfl, .inr ⟨rfl, ?_⟩, by simp, fun _ => rfl, by simp⟩
    rcases h2 with ⟨_, rfl⟩ | ⟨_, rfl⟩ | ⟨_, rfl⟩ <;> simp
  · rw [if_neg h2] at hg ⊢
    by_cases h4 : b = 45 ∧ h = some 111
    · rw [if_pos h4] at hg ⊢
      have : k = 3 ∧ n = 2 := by
        split at hg
        · simp at hg; omega
        · split at hg
          · cases hg
          · simp at hg; omega
      obtain ⟨rfl, rfl⟩ := this
      exact ⟨rfl, .inr ⟨rfl, by rw [h4.2]; simp⟩, by simp, fun _ => rfl, by simp⟩
    · rw [if_neg h4] at hg ⊢
      by_cases h5 : onesL.contains b = true
      · rw [if_pos h5] at hg ⊢
        simp only [Option.some.injEq, Prod.mk.injEq] at hg
        obtain ⟨rfl, rfl⟩ := hg
        refine ⟨rfl, .inl rfl, fun _ => ?_, by simp, fun _ t => ?_⟩
        · rw [if_neg (by simp), if_neg (by simp)]
        · rw [if_neg h2, if_neg h4]
      · rw [if_neg h5] at hg
        cases hg
/-- A token that ends within p, not ahead of '@', is the same whatever follows p. -/
theorem tok_ext (p t : List UInt8) (k n : Nat) (hn : n < p.length) (h64 : p[n]? ≠ some 64) : tok p = some (k, n) ↔ tok (p ++ t) = some (k, n) := by
  match p, hn, h64 with
  | [b], hn, _ =>
    simp at hn
    subst hn
    constructor
    · intro h; have := tok_le h; omega
    · intro h; have := tok_le h; omega
  | b :: c :: r, hn, h64 =>
    by_cases hs : smallB b = true
    · rw [tok_small hs, show (b :: c :: r) ++ t = b :: c :: (r ++ t) from rfl, tok_small hs, ← oB_long]
      cases ho : oB (b :: c :: r)
      · simp only [Bool.false_eq_true, if_false]
        have hx := name_ext (b :: c :: r) t n hn h64
        have htk : nameN (b :: c :: r) = n → nameN ((b :: c :: r) ++ t) = n → (b :: c :: (r ++ t)).take (nameN (b :: c :: (r ++ t))) = (b :: c :: r).take (nameN (b :: c :: r)) := by
          intro h1 h2
          rw [h1]
          show ((b :: c :: r) ++ t).take (nameN ((b :: c :: r) ++ t)) = _
          rw [h2, List.take_append_of_le_length (by omega)]
        constructor
        · intro h
          have h1 : nameN (b :: c :: r) = n := by split at h <;> (simp only [Option.some.injEq, Prod.mk.injEq] at h; exact h.2)
          have h2 := (hx (.inl h1)).2
          rw [htk h1 h2, show nameN (b :: c :: (r ++ t)) = n from h2]
          rw [h1] at h ⊢
          exact h
        · intro h
          have h2 : nameN ((b :: c :: r) ++ t) = n := by split at h <;> (simp only [Option.some.injEq, Prod.mk.injEq] at h; exact h.2)
          have h1 := (hx (.inr h2)).1
          rw [htk h1 h2, show nameN (b :: c :: (r ++ t)) = n from h2] at h
          rw [h1] at h ⊢
          exact h
      · simp only [if_true]
    · by_cases hc : capB b = true
      · rw [tok_capE hs hc, show (b :: c :: r) ++ t = b :: (c :: (r ++ t)) from rfl, tok_capE hs hc]
        constructor
        · intro h
          simp only [Option.some.injEq, Prod.mk.injEq] at h ⊢
          have := run_lt (b :: c :: r) t (by omega)
          exact ⟨h.1, this.trans h.2⟩
        · intro h
          simp only [Option.some.injEq, Prod.mk.injEq] at h ⊢
          have := (run_lt' (b :: c :: r) t (by show runN (b :: c :: (r ++ t)) < _; omega)).2
          exact ⟨h.1, this.symm.trans h.2⟩
      · rw [tok_sgn hs hc, show (b :: c :: r) ++ t = b :: (c :: (r ++ t)) from rfl, tok_sgn hs hc]
        show sgn b (some c) r = _ ↔ sgn b (some c) (r ++ t) = _
        match r, hn with
        | [], hn =>
          simp at hn
          constructor
          · intro h
            obtain ⟨rfl, h2, _, _, h5⟩ := sgn_two h
            obtain rfl : n = 1 := by omega
            exact h5 rfl _
          · intro h
            obtain ⟨rfl, h2, _, _, h5⟩ := sgn_two h
            obtain rfl : n = 1 := by omega
            exact h5 rfl _
        | d :: r, _ => exact Iff.rfl

def blankC (c : UInt8) : Prop := c = 10 ∨ c = 32 ∨ c = 37
theorem blankC_part {c : UInt8} (h : blankC c) : partB c = false := by rcases h with rfl | rfl | rfl <;> decide
theorem blankC_small {c : UInt8} (h : blankC c) : smallB c = false := by rcases h with rfl | rfl | rfl <;> decide
theorem name_blank (l t : List UInt8) (c : UInt8) (hc : blankC c) : nameN (l ++ c :: t) = nameN l := by
  have hr := run_stop l t c (blankC_part hc)
  have h64 : (c == 64) = false := by rcases hc with rfl | rfl | rfl <;> decide
  have hle := runN_le l
  unfold nameN
  rw [hr]
  rcases hq : l.drop (runN l) with _ | ⟨x, q⟩
  · have l1 : linkB l = false := by unfold linkB; rw [hq]
    have l2 : linkB (l ++ c :: t) = false := by
      rw [link_cons (c := c) (q := t) (by rw [hr]; exact drop_app hle hq), h64, Bool.false_and]
    rw [l1, l2]
    rfl
  · have hlen := congrArg List.length hq
    rw [List.length_drop, List.length_cons] at hlen
    have l1 := link_cons hq
    have l2 := link_cons (l := l ++ c :: t) (c := x) (q := q ++ c :: t) (by rw [hr]; exact drop_app hle hq)
    have hd1 : l.drop (runN l + 1) = q := by rw [← List.drop_drop, hq]; rfl
    have hd2 : (l ++ c :: t).drop (runN l + 1) = q ++ c :: t := drop_app (by omega) hd1
    rw [l1, l2, hd1, hd2, run_stop q t c (blankC_part hc)]
    cases q with
    | nil => simp [headSm, blankC_small hc]
    | cons d q => rfl
/-- A blank behind a text changes nothing of the token at its beginning. -/
theorem tok_stop (l t : List UInt8) (c : UInt8) (hc : blankC c) (hl : l ≠ []) : tok (l ++ c :: t) = tok l := by
  match l, hl with
  | b :: r, _ =>
    by_cases hs : smallB b = true
    · rw [tok_small hs, show (b :: r) ++ c :: t = b :: (r ++ c :: t) from rfl, tok_small hs]
      have hn : nameN (b :: (r ++ c :: t)) = nameN (b :: r) := name_blank (b :: r) t c hc
      have ho : oB (b :: (r ++ c :: t)) = oB (b :: r) := by
        cases r with
        | nil =>
          rw [Bool.eq_iff_iff, oB_iff, oB_iff]
          constructor
          · rintro ⟨x, hx⟩
            simp at hx
            rcases hc with rfl | rfl | rfl <;> exact absurd hx.2.1 (by decide)
          · rintro ⟨x, hx⟩
            simp at hx
        | cons d r => exact (oB_long b d r (c :: t)).symm
      rw [ho, hn]
      have : (b :: (r ++ c :: t)).take (nameN (b :: r)) = (b :: r).take (nameN (b :: r)) := by
        show ((b :: r) ++ c :: t).take _ = _
        rw [List.take_append_of_le_length (nameN_le _)]
      rw [this]
    · have hr : runN (b :: (r ++ c :: t)) = runN (b :: r) := run_stop (b :: r) t c (blankC_part hc)
      rw [show (b :: r) ++ c :: t = b :: (r ++ c :: t) from rfl]
      by_cases hcap : capB b = true
      · rw [tok_capE hs hcap, tok_capE hs hcap, hr]
      · rw [tok_sgn hs hcap, tok_sgn hs hcap]
        match r with
        | [] =>
          show sgn b (some c) t = sgn b none []
          have e1 : ¬ (some c = some (62 : UInt8)) := by rcases hc with rfl | rfl | rfl <;> decide
          have e2 : ¬ (some c = some (61 : UInt8)) := by rcases hc with rfl | rfl | rfl <;> decide
          have e3 : ¬ (some c = some (111 : UInt8)) := by rcases hc with rfl | rfl | rfl <;> decide
          unfold sgn
          rw [if_neg (by simp only [e1, e2, and_false, or_self, not_false_eq_true]), if_neg (by simp only [e3, and_false, not_false_eq_true]), if_neg (show ¬ (b = 45 ∧ (none : Option UInt8) = some 62 ∨ b = 61 ∧ (none : Option UInt8) = some 62 ∨ b = 60 ∧ (none : Option UInt8) = some 61) by simp), if_neg (show ¬ (b = 45 ∧ (none : Option UInt8) = some 111) by simp)]
        | [d] =>
          show sgn b (some d) (c :: t) = sgn b (some d) []
          unfold sgn
          simp only [blankC_part hc, Bool.false_eq_true, if_false]
        | d :: e :: r => rfl
theorem name_take (l : List UInt8) : nameN (l.take (nameN l)) = nameN l := by
  have hle := runN_le l
  have hnl := nameN_le l
  cases hk : linkB l
  · have hn : nameN l = runN l := by unfold nameN; rw [hk]; rfl
    rw [hn]
    have hr := run_take l (runN l) (Nat.le_refl _)
    have hk2 : linkB (l.take (runN l)) = false := by
      unfold linkB
      rw [hr]
      rw [List.drop_eq_nil_of_le (by rw [List.length_take]; omega)]
    unfold nameN
    rw [hk2, hr]
    rfl
  · have hn : nameN l = runN l + 1 + runN (l.drop (runN l + 1)) := by unfold nameN; rw [hk]; rfl
    have hlt := linkB_lt hk
    obtain ⟨c, q, hq⟩ : ∃ c q, l.drop (runN l) = c :: q := by
      rcases hq : l.drop (runN l) with _ | ⟨c, q⟩
      · have := congrArg List.length hq
        rw [List.length_drop] at this
        simp at this
        omega
      · exact ⟨c, q, rfl⟩
    have hd1 : l.drop (runN l + 1) = q := by rw [← List.drop_drop, hq]; rfl
    have l1 := link_cons hq
    rw [hk] at l1
    match q, l1, hd1, hq with
    | [], l1, _, _ => simp [headSm] at l1
    | d :: q, l1, hd1, hq =>
      have hsm : smallB d = true := by
        have := l1.symm
        rw [headSm, Bool.and_eq_true] at this
        exact this.2
      have h1 : 1 ≤ runN (d :: q) := by rw [runN, if_pos (small_part d hsm)]; omega
      rw [hd1] at hn
      have hr : runN (l.take (nameN l)) = runN l := by
        have e : l.take (nameN l) = l.take (runN l) ++ (l.drop (runN l)).take (nameN l - runN l) := by
          have : nameN l = runN l + (nameN l - runN l) := by omega
          rw [this, List.take_add]
          congr 2
          omega
        have hr0 := run_take l (runN l) (Nat.le_refl _)
        rw [e, run_full _ _ (by rw [hr0, List.length_take]; omega), List.length_take, hq]
        obtain ⟨z, hz⟩ : ∃ z, nameN l - runN l = z + 1 := ⟨nameN l - runN l - 1, by omega⟩
        have hc : partB c = false := by
          have := l1.symm
          rw [Bool.and_eq_true] at this
          have : c = 64 := by simpa using this.1
          rw [this]
          decide
        rw [hz, List.take_succ_cons, runN, if_neg (by simp [hc])]
        omega
      have hdt : (l.take (nameN l)).drop (runN l) = c :: (d :: q).take (runN (d :: q)) := by
        rw [List.drop_take, hq, show nameN l - runN l = runN (d :: q) + 1 by omega, List.take_succ_cons]
      have hdt1 : (l.take (nameN l)).drop (runN l + 1) = (d :: q).take (runN (d :: q)) := by rw [← List.drop_drop, hdt]; rfl
      obtain ⟨z, hz⟩ : ∃ z, runN (d :: q) = z + 1 := ⟨runN (d :: q) - 1, by omega⟩
      have hk2 : linkB (l.take (nameN l)) = true := by
        rw [link_cons (by rw [hr]; exact hdt), l1, hz, List.take_succ_cons, headSm, headSm]
      have he : nameN (l.take (nameN l)) = runN (l.take (nameN l)) + 1 + runN ((l.take (nameN l)).drop (runN (l.take (nameN l)) + 1)) := by
        rw [nameN, if_pos hk2]
      rw [he, hr, hdt1, run_take _ _ (Nat.le_refl _)]
      omega
/-- A token, taken out of its text, is that token. -/
theorem tok_take (l : List UInt8) (k n : Nat) (h : tok l = some (k, n)) : tok (l.take n) = some (k, n) := by
  match l, h with
  | b :: r, h =>
    have hle := tok_le h
    obtain ⟨m, rfl⟩ : ∃ m, n = m + 1 := ⟨n - 1, by omega⟩
    by_cases hs : smallB b = true
    · rw [tok_small hs] at h
      rw [List.take_succ_cons, tok_small hs, ← List.take_succ_cons]
      cases ho : oB (b :: r)
      · rw [ho] at h
        simp only [Bool.false_eq_true, if_false] at h
        have hn : nameN (b :: r) = m + 1 := by split at h <;> (simp only [Option.some.injEq, Prod.mk.injEq] at h; exact h.2)
        have hnt : nameN ((b :: r).take (m + 1)) = m + 1 := by have := name_take (b :: r); rw [hn] at this; exact this
        have ho2 : ¬ oB ((b :: r).take (m + 1)) = true := by
          intro hx
          obtain ⟨x, hx⟩ := (oB_iff _).1 hx
          have : oB (b :: r) = true := (oB_iff _).2 ⟨x ++ (b :: r).drop (m + 1), by
            have := List.take_append_drop (m + 1) (b :: r)
            rw [hx] at this
            exact this.symm⟩
          rw [ho] at this
          cases this
        rw [if_neg ho2, hnt, List.take_take, Nat.min_self]
        rw [hn] at h
        exact h
      · rw [ho] at h
        rw [if_pos rfl] at h
        simp only [Option.some.injEq, Prod.mk.injEq] at h
        obtain ⟨rfl, h2⟩ := h
        obtain ⟨x, hx⟩ := (oB_iff _).1 ho
        rw [hx, ← h2]
        rw [show (111 :: 45 :: x).take 2 = [111, 45] from rfl, if_pos ((oB_iff _).2 ⟨[], rfl⟩)]
    · rw [List.take_succ_cons]
      by_cases hc : capB b = true
      · rw [tok_capE hs hc] at h ⊢
        simp only [Option.some.injEq, Prod.mk.injEq] at h ⊢
        refine ⟨h.1, ?_⟩
        rw [← List.take_succ_cons, ← h.2]
        exact run_take _ _ (Nat.le_refl _)
      · rw [tok_sgn hs hc] at h ⊢
        obtain ⟨rfl, h2, h3, h4, _⟩ := sgn_two h
        rcases h2 with h2 | ⟨h2, hne⟩
        · obtain rfl : m = 0 := by omega
          exact h3 rfl
        · obtain rfl : m = 1 := by omega
          match r, hne with
          | y :: r, _ => exact h4 rfl
end Go.Proofs.Ytkolnimgdbhekaa.P

namespace Go.Proofs.Ytkolnimgdbhekaa.P
open Go.RowKit Go.Proofs.YtkolnimgdbhekaaW.PrintWords Go.Proofs.YtkolnimgdbhekaaW.PrintLast Go.Proofs.YtkolnimgdbhekaaW.PrintMore

/-- A token's bytes. -/
def bsT (x : S34) : List UInt8 := x.f1.data.toList
theorem bsT_len (x : S34) : (bsT x).length = x.f1.size := by unfold bsT; rw [Array.length_toList]; rfl
theorem okT_iff (x : S34) : okT x = true ↔ ∃ k : Nat, x.f0 = k ∧ tok (bsT x) = some (k, (bsT x).length) ∧ (bsT x).length ≤ 40 := by
  rw [okT_vTok]
  unfold vTok
  show (match tok (bsT x) with | none => false | some (k, n) => (k : Int) == x.f0 && n == (bsT x).length && decide ((bsT x).length ≤ 40)) = true ↔ _
  cases ht : tok (bsT x) with
  | none => simp
  | some p =>
    obtain ⟨k, n⟩ := p
    simp only [Bool.and_eq_true, beq_iff_eq, decide_eq_true_eq, Option.some.injEq, Prod.mk.injEq]
    constructor
    · rintro ⟨⟨h1, h2⟩, h3⟩; exact ⟨k, h1.symm, ⟨rfl, h2⟩, h3⟩
    · rintro ⟨k', h1, ⟨h2, h3⟩, h4⟩; subst h2; exact ⟨⟨h1.symm, h3⟩, h4⟩
theorem tok_skip0 {l : List UInt8} {p : Nat × Nat} (h : tok l = some p) : skipN false l = 0 := by
  by_cases h0 : skipN false l = 0
  · exact h0
  · rw [tok_blank h0] at h; cases h
theorem skip_app {l t : List UInt8} (hl : l ≠ []) (h : skipN false l = 0) : skipN false (l ++ t) = 0 := by
  match l, hl with
  | b :: r, _ =>
    simp only [List.cons_append, skipN] at h ⊢
    by_cases hb : blankB b = true
    · rw [if_pos hb] at h; omega
    · rw [if_neg hb] at h ⊢
      by_cases h37 : b = 37
      · rw [if_pos h37] at h; omega
      · rw [if_neg h37]
theorem scanA_step (f : Nat) (l : List UInt8) (i : Nat) (acc : List S34) (k n : Nat) (h : tok l = some (k, n)) (h6 : acc.length ≠ 6000) (h40 : n ≤ 40) :
    scanA (f + 1) l i acc = scanA f ((l.drop n).drop (skipN false (l.drop n))) (i + n + skipN false (l.drop n)) (acc ++ [⟨k, ⟨(l.take n).toArray⟩, i⟩]) := by
  match l, h with
  | b :: r, h =>
    simp only [scanA, h]
    rw [if_neg h6, if_neg (by omega)]
theorem sameL_app : ∀ (a c b d : List S34), a.length = c.length → sameL (a ++ b) (c ++ d) = (sameL a c && sameL b d)
  | [], [], _, _, _ => by simp [sameL]
  | x :: a, y :: c, b, d, h => by
    simp only [List.cons_append, sameL]
    rw [sameL_app a c b d (by simpa using h), Bool.and_assoc]
  | [], _ :: _, _, _, h => by simp at h
  | _ :: _, [], _, _, h => by simp at h
/-- If the scanner finds these tokens, the next of them begins here. -/
theorem scan_at (f : Nat) (l : List UInt8) (i : Nat) (acc r : List S34) (a : Int) (pre rest : List S34) (x : S34) (h : scanA (f + 1) l i acc = (r, a, 0)) (hs : sameL r (pre ++ x :: rest) = true) (hp : acc.length = pre.length) :
    ∃ k : Nat, x.f0 = k ∧ tok l = some (k, (bsT x).length) ∧ l.take (bsT x).length = bsT x := by
  match l, h with
  | [], h =>
    simp only [scanA] at h
    obtain rfl : acc = r := (Prod.mk.inj h).1
    have := sameL_len _ _ hs
    simp at this
    omega
  | b :: l, h =>
    have hpre := scanA_prefix (f + 1) (b :: l) i acc (by rw [h])
    simp only [scanA] at h
    cases ht : tok (b :: l) with
    | none => rw [ht] at h; simp at h
    | some p =>
      obtain ⟨k, n⟩ := p
      rw [ht] at h
      simp only at h
      by_cases h6 : acc.length = 6000
      · rw [if_pos h6] at h; simp at h
      · rw [if_neg h6] at h
        by_cases h40 : (k = 1 ∨ k = 2) ∧ 40 < n
        · rw [if_pos h40] at h; simp at h
        · rw [if_neg h40] at h
          obtain ⟨t, ht2⟩ := scanA_prefix f _ _ _ (by rw [h])
          rw [h] at ht2
          simp only at ht2
          rw [ht2, List.append_assoc, sameL_app _ _ _ _ hp, Bool.and_eq_true, List.singleton_append] at hs
          have h1 := hs.2
          simp only [sameL, Bool.and_eq_true, sameT, beq_iff_eq] at h1
          obtain ⟨⟨h2, h3⟩, _⟩ := h1
          rw [Lib.toList_data, Lib.toList_data] at h3
          have h4 : (b :: l).take n = bsT x := h3
          have h5 := congrArg List.length h4
          have h6 := tok_le ht
          rw [List.length_take, Nat.min_eq_left h6.2] at h5
          rw [← h5]
          exact ⟨k, h2.symm, rfl, h4⟩

/-- Is a space needed between two valid tokens? -/
def apartB (x y : S34) : Bool := !(tok (bsT x ++ bsT y) == some (x.f0.toNat, (bsT x).length))
theorem scanL_tok {l : List UInt8} (hl : l.length ≤ 20000) (h : skipN false l = 0) : scanL l = scanA (l.length + 1) l 0 [] := by
  unfold scanL
  rw [if_neg (by omega), h, List.drop_zero]
theorem bsT_ne {x : S34} {k n : Nat} (h : tok (bsT x) = some (k, n)) : bsT x ≠ [] := by
  intro e
  rw [e] at h
  cases h
theorem tight_apart (x y : S34) (hx : okT x = true) (hy : okT y = true) : tightSp x y = apartB x y := by
  obtain ⟨kx, ex, tx, lx⟩ := (okT_iff x).1 hx
  obtain ⟨ky, ey, ty, ly⟩ := (okT_iff y).1 hy
  have hS : (x.f1 ++ y.f1).data.toList = bsT x ++ bsT y := by rw [ByteArray.data_append, Array.toList_append]; rfl
  have hlen : (bsT x ++ bsT y).length ≤ 20000 := by rw [List.length_append]; omega
  have hsk := skip_app (t := bsT y) (bsT_ne tx) (tok_skip0 tx)
  have hsc := scanL_tok hlen hsk
  unfold tightSp
  rw [hS, hsc]
  by_cases hb : tok (bsT x ++ bsT y) = some (kx, (bsT x).length)
  · have hA : apartB x y = false := by
      unfold apartB
      rw [hb, ex, Int.toNat_natCast]
      simp
    rw [hA, scanA_step _ _ _ _ _ _ hb (by simp) lx, List.drop_left, tok_skip0 ty, List.drop_zero, List.take_left]
    have h1 : 1 ≤ (bsT x ++ bsT y).length := by have := tok_le tx; rw [List.length_append]; omega
    obtain ⟨g, hg⟩ : ∃ g, (bsT x ++ bsT y).length = g + 1 := ⟨_, (Nat.sub_add_cancel h1).symm⟩
    rw [hg, scanA_step g _ _ _ _ _ ty (by simp) ly, List.drop_length, List.take_length]
    have hg2 : scanA g (([] : List UInt8).drop (skipN false [])) (0 + (bsT x).length + 0 + (bsT y).length + skipN false []) ([] ++ [⟨kx, ⟨(bsT x).toArray⟩, ((0 : Nat) : Int)⟩] ++ [⟨ky, ⟨(bsT y).toArray⟩, ((0 + (bsT x).length + 0 : Nat) : Int)⟩])
        = ([⟨kx, ⟨(bsT x).toArray⟩, ((0 : Nat) : Int)⟩, ⟨ky, ⟨(bsT y).toArray⟩, ((0 + (bsT x).length + 0 : Nat) : Int)⟩], 0, 0) := by
      cases g <;> simp [scanA, skipN]
    rw [hg2]
    simp only [sameL, sameT, ex, ey, Lib.toList_data]
    simp [bsT]
  · have hA : apartB x y = true := by
      unfold apartB
      rw [ex, Int.toNat_natCast, show (tok (bsT x ++ bsT y) == some (kx, (bsT x).length)) = false from beq_eq_false_iff_ne.2 hb]
      rfl
    rw [hA]
    rcases hr : scanA ((bsT x ++ bsT y).length + 1) (bsT x ++ bsT y) 0 [] with ⟨r, a, e⟩
    by_cases he : e = 0
    · subst he
      by_cases hsm : sameL r [x, y] = true
      · obtain ⟨k, h1, h2, _⟩ := scan_at _ _ _ _ _ _ [] [y] x hr hsm rfl
        rw [ex] at h1
        obtain rfl : kx = k := by omega
        exact absurd h2 hb
      · simp only [Bool.not_eq_true] at hsm
        simp [hsm]
    · simp [he]
end Go.Proofs.Ytkolnimgdbhekaa.P
