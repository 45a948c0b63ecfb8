/- What the scanner finds in a text, as a relation; the texts of tokens, with spaces or without, and what is found in them. -/
import Derived.Test.YtkolnimgdbhekaaLApart
import Derived.Test.YtkolnimgdbhekaaLWritten
namespace Go.Proofs.Ytkolnimgdbhekaa.P
open Go.RowKit Go.Proofs.YtkolnimgdbhekaaW.PrintWords Go.Proofs.YtkolnimgdbhekaaW.PrintLast Go.Proofs.YtkolnimgdbhekaaW.PrintMore

/-- The text behind a token and the blanks behind it. -/
def restT (l : List UInt8) (n : Nat) : List UInt8 := (l.drop n).drop (skipN false (l.drop n))
/-- These are the tokens of a text that begins with one, or is empty. -/
def Toks : List UInt8 → Nat → List S34 → Prop
  | l, _, [] => l = []
  | l, i, t :: ts => ∃ k n : Nat, tok l = some (k, n) ∧ n ≤ 40 ∧ t = ⟨k, ⟨(l.take n).toArray⟩, i⟩ ∧ Toks (restT l n) (i + n + skipN false (l.drop n)) ts
theorem restT_len (l : List UInt8) (n : Nat) : (restT l n).length + n + skipN false (l.drop n) = max l.length n := by
  have := skipN_le false (l.drop n)
  unfold restT
  rw [List.length_drop, List.length_drop]
  rw [List.length_drop] at this
  omega
theorem toks_of_scan : ∀ (f : Nat) (l : List UInt8) (i : Nat) (acc r : List S34) (a : Int), l.length < f → scanA f l i acc = (r, a, 0) → acc.length ≤ 6000 → ∃ toks, r = acc ++ toks ∧ a = 0 ∧ Toks l i toks ∧ acc.length + toks.length ≤ 6000
  | f + 1, [], i, acc, r, a, _, h, ha => by
    simp only [scanA, Prod.mk.injEq] at h
    obtain ⟨rfl, rfl, _⟩ := h
    exact ⟨[], by simp, rfl, rfl, by simpa using ha⟩
  | f + 1, b :: q, i, acc, r, a, hf, h, ha => by
    simp only [scanA] at h
    cases ht : tok (b :: q) with
    | none => rw [ht] at h; simp at h
    | some p =>
      obtain ⟨k, n⟩ := p
      rw [ht] at h
      simp only at h
      have hn := tok_le ht
      have hk := tok_kind ht
      by_cases h6 : acc.length = 6000
      · rw [if_pos h6] at h; simp at h
      · rw [if_neg h6] at h
        by_cases h40 : (k = 1 ∨ k = 2) ∧ 40 < n
        · rw [if_pos h40] at h; simp at h
        · rw [if_neg h40] at h
          have hr := restT_len (b :: q) n
          obtain ⟨toks, h1, h2, h3, h4⟩ := toks_of_scan f (restT (b :: q) n) _ _ r a (by omega) h (by rw [List.length_append, List.length_singleton]; omega)
          rw [List.length_append, List.length_singleton] at h4
          refine ⟨_ :: toks, by rw [h1, List.append_assoc]; rfl, h2, ⟨k, n, ht, by omega, rfl, h3⟩, by rw [List.length_cons]; omega⟩
theorem scan_of_toks : ∀ (toks : List S34) (f : Nat) (l : List UInt8) (i : Nat) (acc : List S34), l.length < f → Toks l i toks → acc.length + toks.length ≤ 6000 → scanA f l i acc = (acc ++ toks, 0, 0)
  | [], f + 1, l, i, acc, _, h, _ => by
    obtain rfl : l = [] := h
    simp [scanA]
  | t :: ts, f + 1, l, i, acc, hf, ⟨k, n, ht, h40, he, h⟩, hl => by
    rw [List.length_cons] at hl
    have hn := tok_le ht
    have hr := restT_len l n
    rw [scanA_step f l i acc k n ht (by omega) h40]
    have := scan_of_toks ts f (restT l n) _ (acc ++ [⟨k, ⟨(l.take n).toArray⟩, i⟩]) (by omega) h (by rw [List.length_append, List.length_singleton]; omega)
    rw [he]
    refine this.trans ?_
    rw [List.append_assoc]
    rfl
theorem long_of_toks : ∀ (toks : List S34) (f : Nat) (l : List UInt8) (i : Nat) (acc : List S34), l.length < f → Toks l i toks → acc.length ≤ 6000 → 6000 < acc.length + toks.length → (scanA f l i acc).2.2 = 2
  | [], _, _, _, _, _, _, h, h' => by simp at h'; omega
  | t :: ts, f + 1, l, i, acc, hf, ⟨k, n, ht, h40, he, h⟩, ha, hl => by
    rw [List.length_cons] at hl
    have hn := tok_le ht
    have hr := restT_len l n
    by_cases h6 : acc.length = 6000
    · match l, ht with
      | b :: q, ht =>
        simp only [scanA, ht]
        rw [if_pos h6]
    · rw [scanA_step f l i acc k n ht (by omega) h40]
      exact long_of_toks ts f (restT l n) _ _ (by omega) h (by rw [List.length_append, List.length_singleton]; omega) (by rw [List.length_append, List.length_singleton]; omega)
theorem toks_of_scanL {l : List UInt8} {r : List S34} {a : Int} (h : scanL l = (r, a, 0)) : l.length ≤ 20000 ∧ a = 0 ∧ Toks (l.drop (skipN false l)) (skipN false l) r ∧ r.length ≤ 6000 := by
  unfold scanL at h
  by_cases h2 : 20000 < l.length
  · rw [if_pos h2] at h; simp at h
  · rw [if_neg h2] at h
    obtain ⟨toks, h3, h4, h5, h6⟩ := toks_of_scan _ _ _ _ _ _ (by rw [List.length_drop]; omega) h (by simp)
    rw [List.nil_append] at h3
    subst h3
    exact ⟨by omega, h4, h5, by simpa using h6⟩
theorem scanL_of_toks {l : List UInt8} {r : List S34} (hl : l.length ≤ 20000) (h : Toks (l.drop (skipN false l)) (skipN false l) r) (h6 : r.length ≤ 6000) : scanL l = (r, 0, 0) := by
  unfold scanL
  rw [if_neg (by omega), scan_of_toks r _ _ _ _ (by rw [List.length_drop]; omega) h (by simpa using h6), List.nil_append]
theorem tok64 (r : List UInt8) : tok (64 :: r) = none := by
  simp [tok, smallB, capB, onesL]
/-- A token that was found is valid. -/
theorem toks_ok : ∀ (toks : List S34) (l : List UInt8) (i : Nat), Toks l i toks → ∀ t ∈ toks, okT t = true
  | [], _, _, _, _, h => by cases h
  | t :: ts, l, i, ⟨k, n, ht, h40, he, h⟩, u, hu => by
    rcases List.mem_cons.1 hu with rfl | hu
    · rw [he]
      refine (okT_iff _).2 ⟨k, rfl, ?_, ?_⟩
      · show tok (l.take n) = some (k, (l.take n).length)
        rw [List.length_take, Nat.min_eq_left (tok_le ht).2]
        exact tok_take l k n ht
      · show (l.take n).length ≤ 40
        rw [List.length_take]
        omega
    · exact toks_ok ts _ _ h u hu

/-- The texts of tokens, each with a space ahead of it or without. -/
def glW (s : Bool) : List UInt8 := if s = true then [32] else []
def wrW : List (Bool × S34) → List UInt8
  | [] => []
  | (s, y) :: L => glW s ++ (bsT y ++ wrW L)
def flagsW (sp : S34 → S34 → Bool) : S34 → List S34 → List (Bool × S34)
  | _, [] => []
  | x, y :: r => (sp x y, y) :: flagsW sp y r
theorem flags_snd (sp : S34 → S34 → Bool) : ∀ (x : S34) (r : List S34), (flagsW sp x r).map (·.2) = r
  | _, [] => rfl
  | x, y :: r => by simp [flagsW, flags_snd sp y r]
theorem joinW_flags (sp : S34 → S34 → Bool) : ∀ (r : List S34) (x : S34) (acc : List UInt8), (∀ t ∈ r, okT t = true) → joinW sp (some x) r acc = some (acc ++ wrW (flagsW sp x r))
  | [], x, acc, _ => by simp [joinW, flagsW, wrW]
  | y :: r, x, acc, h => by
    rw [joinW, if_pos (h y (List.mem_cons_self ..)), joinW_flags sp r y _ (fun t ht => h t (List.mem_cons_of_mem _ ht)), flagsW, wrW]
    simp only [sepB, glW, bsT, List.append_assoc]
    rfl
theorem written_flags (sp : S34 → S34 → Bool) (x : S34) (r : List S34) (h : ∀ t ∈ x :: r, okT t = true) (h6 : (x :: r).length ≤ 6000) :
    writtenL sp (x :: r) = if 20000 < (bsT x ++ wrW (flagsW sp x r)).length then [] else bsT x ++ wrW (flagsW sp x r) := by
  unfold writtenL
  rw [if_neg (by omega), joinW, if_pos (h x (List.mem_cons_self ..)), joinW_flags sp r x _ (fun t ht => h t (List.mem_cons_of_mem _ ht))]
  simp only [sepB, cut20, bsT, Bool.false_eq_true, if_false, List.nil_append]
  rfl
/-- No space is needed, or there is one. -/
def goodW (x : S34) (s : Bool) (y : S34) : Prop := s = true ∨ tok (bsT x ++ bsT y) = some (x.f0.toNat, (bsT x).length)
def chainW : S34 → List (Bool × S34) → Prop
  | _, [] => True
  | x, (s, y) :: L => goodW x s y ∧ chainW y L
theorem tok_ok {x : S34} (h : okT x = true) : tok (bsT x) = some (x.f0.toNat, (bsT x).length) ∧ (bsT x).length ≤ 40 ∧ 1 ≤ (bsT x).length ∧ ((x.f0.toNat : Nat) : Int) = x.f0 := by
  obtain ⟨k, h1, h2, h3⟩ := (okT_iff x).1 h
  have := tok_le h2
  rw [h1, Int.toNat_natCast]
  exact ⟨h2, h3, this.1, rfl⟩
theorem not64 {y : S34} (h : okT y = true) : (bsT y)[0]? ≠ some 64 := by
  obtain ⟨h1, _, _, _⟩ := tok_ok h
  intro h0
  match hb : bsT y, h0, h1 with
  | c :: q, h0, h1 =>
    simp at h0
    subst h0
    rw [tok64] at h1
    cases h1
/-- A token, another one right behind it: whether the first is still found does not depend on what follows the second. -/
theorem tok_two_ext (x y : S34) (t : List UInt8) (hy : okT y = true) (k : Nat) : tok (bsT x ++ bsT y) = some (k, (bsT x).length) ↔ tok (bsT x ++ (bsT y ++ t)) = some (k, (bsT x).length) := by
  obtain ⟨_, _, h1, _⟩ := tok_ok hy
  rw [← List.append_assoc]
  refine tok_ext (bsT x ++ bsT y) t k (bsT x).length (by rw [List.length_append]; omega) ?_
  rw [List.getElem?_append_right (Nat.le_refl _), Nat.sub_self]
  exact not64 hy
theorem skip_ok {y : S34} (h : okT y = true) (t : List UInt8) : skipN false (bsT y ++ t) = 0 := by
  obtain ⟨h1, _, _, _⟩ := tok_ok h
  exact skip_app (bsT_ne h1) (tok_skip0 h1)
theorem skip_gl {y : S34} (h : okT y = true) (s : Bool) (t : List UInt8) : skipN false (glW s ++ (bsT y ++ t)) = (glW s).length := by
  cases s
  · show skipN false (bsT y ++ t) = 0
    exact skip_ok h t
  · show skipN false (32 :: (bsT y ++ t)) = 1
    rw [skipN, if_pos (by decide), skip_ok h t]
theorem tok_gl {x y : S34} (hx : okT x = true) (hy : okT y = true) (s : Bool) (hg : goodW x s y) (t : List UInt8) : tok (bsT x ++ (glW s ++ (bsT y ++ t))) = some (x.f0.toNat, (bsT x).length) := by
  obtain ⟨h1, _, _, _⟩ := tok_ok hx
  cases s
  · rcases hg with hg | hg
    · cases hg
    · exact (tok_two_ext x y t hy _).1 hg
  · show tok (bsT x ++ 32 :: (bsT y ++ t)) = _
    rw [tok_stop _ _ 32 (.inr (.inl rfl)) (bsT_ne h1)]
    exact h1
theorem restT_gl (x : S34) {y : S34} (hy : okT y = true) (s : Bool) (t : List UInt8) : restT (bsT x ++ (glW s ++ (bsT y ++ t))) (bsT x).length = bsT y ++ t := by
  unfold restT
  rw [List.drop_left, skip_gl hy s t, List.drop_left]
/-- What is written is scanned as what was written. -/
theorem toks_chain : ∀ (L : List (Bool × S34)) (x : S34) (i : Nat), okT x = true → (∀ p ∈ L, okT p.2 = true) → chainW x L → ∃ toks, Toks (bsT x ++ wrW L) i toks ∧ sameL toks (x :: L.map (·.2)) = true
  | [], x, i, hx, _, _ => by
    obtain ⟨h1, h2, h3, h4⟩ := tok_ok hx
    refine ⟨[_], ⟨_, _, by rw [wrW, List.append_nil]; exact h1, h2, rfl, ?_⟩, ?_⟩
    · rw [wrW, List.append_nil]
      unfold restT
      simp [skipN, Toks]
    · simp only [List.map_nil, sameL, sameT, Lib.toList_data, wrW, List.append_nil, List.take_length, h4]
      simp [bsT]
  | (s, y) :: L, x, i, hx, hL, ⟨hg, hc⟩ => by
    obtain ⟨h1, h2, h3, h4⟩ := tok_ok hx
    have hy : okT y = true := hL (s, y) (List.mem_cons_self ..)
    obtain ⟨toks, ht, hs⟩ := toks_chain L y (i + (bsT x).length + skipN false ((bsT x ++ wrW ((s, y) :: L)).drop (bsT x).length)) hy (fun p hp => hL p (List.mem_cons_of_mem _ hp)) hc
    refine ⟨_ :: toks, ⟨_, _, tok_gl hx hy s hg (wrW L), h2, rfl, ?_⟩, ?_⟩
    · rw [wrW, restT_gl x hy]
      exact ht
    · simp only [List.map_cons] at hs ⊢
      rw [sameL, hs, Bool.and_true]
      simp only [sameT, Lib.toList_data, List.take_left, h4]
      simp [bsT]
/-- A text that lacks a space that is needed is scanned as other tokens, or not at all. -/
def lastW : S34 → List (Bool × S34) → S34
  | x, [] => x
  | _, (_, y) :: L => lastW y L
theorem toks_least : ∀ (L : List (Bool × S34)) (x z : S34) (R : List UInt8) (i : Nat) (toks rest : List S34), okT x = true → okT z = true → (∀ p ∈ L, okT p.2 = true) → chainW x L → ¬ goodW (lastW x L) false z →
    Toks (bsT x ++ (wrW L ++ (bsT z ++ R))) i toks → sameL toks (x :: (L.map (·.2) ++ z :: rest)) = false
  | L, x, z, R, i, [], rest, _, _, _, _, _, _ => rfl
  | [], x, z, R, i, t :: ts, rest, hx, hz, _, _, hng, ⟨k, n, ht, h40, he, h⟩ => by
    rw [wrW, List.nil_append] at ht he
    obtain ⟨h1, h2, h3, h4⟩ := tok_ok hx
    by_cases hs : sameT t x = true
    · exfalso
      rw [he] at hs
      simp only [sameT, Lib.toList_data, Bool.and_eq_true, beq_iff_eq] at hs
      obtain ⟨e1, e2⟩ := hs
      have e3 : (bsT x ++ (bsT z ++ R)).take n = bsT x := e2
      have e4 := congrArg List.length e3
      rw [List.length_take, Nat.min_eq_left (tok_le ht).2] at e4
      subst e4
      obtain rfl : k = x.f0.toNat := by omega
      exact hng (.inr ((tok_two_ext x z R hz _).2 ht))
    · simp only [Bool.not_eq_true] at hs
      rw [sameL, hs, Bool.false_and]
  | (s, y) :: L, x, z, R, i, t :: ts, rest, hx, hz, hL, ⟨hg, hc⟩, hng, ⟨k, n, ht, h40, he, h⟩ => by
    have hy : okT y = true := hL (s, y) (List.mem_cons_self ..)
    have hform : bsT x ++ (wrW ((s, y) :: L) ++ (bsT z ++ R)) = bsT x ++ (glW s ++ (bsT y ++ (wrW L ++ (bsT z ++ R)))) := by
      rw [wrW]
      simp only [List.append_assoc]
    rw [hform] at ht h
    have h5 := tok_gl hx hy s hg (wrW L ++ (bsT z ++ R))
    rw [h5] at ht
    simp only [Option.some.injEq, Prod.mk.injEq] at ht
    obtain ⟨rfl, rfl⟩ := ht
    rw [restT_gl x hy] at h
    have ih := toks_least L y z R _ ts rest hy hz (fun p hp => hL p (List.mem_cons_of_mem _ hp)) hc hng h
    show (sameT t x && sameL ts (y :: (L.map (·.2) ++ z :: rest))) = false
    rw [ih, Bool.and_false]
/-- Tight's spaces are as few as the text's blanks. -/
theorem tight_len : ∀ (toks : List S34) (l : List UInt8) (i : Nat), Toks l i toks → match toks with | [] => True | x :: r => (∃ t, l = bsT x ++ t) ∧ (bsT x ++ wrW (flagsW tightSp x r)).length ≤ l.length
  | [], _, _, _ => trivial
  | x :: [], l, i, ⟨k, n, ht, h40, he, h⟩ => by
    have hb : bsT x = l.take n := by rw [he]; rfl
    refine ⟨⟨l.drop n, by rw [hb, List.take_append_drop]⟩, ?_⟩
    rw [hb]
    simp [flagsW, wrW]
    omega
  | x :: y :: r, l, i, h0 => by
    have hok := toks_ok _ _ _ h0
    have hx := hok x (List.mem_cons_self ..)
    have hy := hok y (List.mem_cons_of_mem _ (List.mem_cons_self ..))
    obtain ⟨k, n, ht, h40, he, h⟩ := h0
    have hb : bsT x = l.take n := by rw [he]; rfl
    have hlx : l = bsT x ++ l.drop n := by rw [hb, List.take_append_drop]
    have ih := tight_len (y :: r) _ _ h
    simp only at ih
    obtain ⟨⟨t, hty⟩, ihl⟩ := ih
    have hn := tok_le ht
    have hr := restT_len l n
    have hbl : (bsT x).length = n := by rw [hb, List.length_take]; omega
    refine ⟨⟨l.drop n, hlx⟩, ?_⟩
    have hgl : (glW (tightSp x y)).length ≤ skipN false (l.drop n) := by
      by_cases hsk : skipN false (l.drop n) = 0
      · have hd : l.drop n = bsT y ++ t := by
          unfold restT at hty
          rw [hsk, List.drop_zero] at hty
          exact hty
        have hap : tightSp x y = false := by
          rw [tight_apart x y hx hy]
          unfold apartB
          have h5 : tok (bsT x ++ bsT y) = some (k, (bsT x).length) := by
            refine (tok_two_ext x y t hy k).2 ?_
            rw [← hd, ← hlx, hbl]
            exact ht
          have h6 : x.f0.toNat = k := by rw [he]; exact Int.toNat_natCast k
          rw [h5, h6]
          simp
        rw [hap, hsk]
        simp [glW]
      · have : (glW (tightSp x y)).length ≤ 1 := by unfold glW; split <;> simp
        omega
    rw [flagsW, wrW]
    simp only [List.length_append] at ihl ⊢
    omega
theorem tight_chain : ∀ (r : List S34) (x : S34), (∀ t ∈ x :: r, okT t = true) → chainW x (flagsW tightSp x r)
  | [], _, _ => trivial
  | y :: r, x, h => by
    refine ⟨?_, tight_chain r y (fun t ht => h t (List.mem_cons_of_mem _ ht))⟩
    have hx := h x (List.mem_cons_self ..)
    have hy := h y (List.mem_cons_of_mem _ (List.mem_cons_self ..))
    rw [tight_apart x y hx hy]
    unfold goodW apartB
    by_cases hb : tok (bsT x ++ bsT y) = some (x.f0.toNat, (bsT x).length)
    · exact .inr hb
    · exact .inl (by rw [show (tok (bsT x ++ bsT y) == some (x.f0.toNat, (bsT x).length)) = false from beq_eq_false_iff_ne.2 hb]; rfl)
theorem join_chain : ∀ (r : List S34) (x : S34), chainW x (flagsW joinSp x r)
  | [], _ => trivial
  | y :: r, _ => ⟨.inl rfl, join_chain r y⟩
theorem flags_ok (sp : S34 → S34 → Bool) (x : S34) (r : List S34) (h : ∀ t ∈ r, okT t = true) : ∀ p ∈ flagsW sp x r, okT p.2 = true := fun p hp => by
  have : p.2 ∈ (flagsW sp x r).map (·.2) := List.mem_map.2 ⟨p, hp, rfl⟩
  rw [flags_snd] at this
  exact h _ this
theorem tight_join_len : ∀ (r : List S34) (x : S34), (wrW (flagsW tightSp x r)).length ≤ (wrW (flagsW joinSp x r)).length
  | [], _ => Nat.le_refl _
  | y :: r, x => by
    have ih := tight_join_len r y
    rw [flagsW, flagsW, wrW, wrW]
    have h1 : (glW (tightSp x y)).length ≤ 1 := by unfold glW; split <;> simp
    have h2 : (glW (joinSp x y)).length = 1 := rfl
    simp only [List.length_append]
    omega
/-- Scanning what is written: the same tokens. -/
theorem scan_written (sp : S34 → S34 → Bool) (x : S34) (r : List S34) (h : ∀ t ∈ x :: r, okT t = true) (h6 : (x :: r).length ≤ 6000) (hc : chainW x (flagsW sp x r)) (h2 : (bsT x ++ wrW (flagsW sp x r)).length ≤ 20000) :
    ∃ toks, scanL (bsT x ++ wrW (flagsW sp x r)) = (toks, 0, 0) ∧ sameL toks (x :: r) = true := by
  have hx := h x (List.mem_cons_self ..)
  obtain ⟨toks, ht, hs⟩ := toks_chain (flagsW sp x r) x 0 hx (flags_ok sp x r (fun t ht => h t (List.mem_cons_of_mem _ ht))) hc
  rw [flags_snd] at hs
  refine ⟨toks, scanL_of_toks h2 ?_ (by rw [sameL_len _ _ hs]; exact h6), hs⟩
  rw [skip_ok hx, List.drop_zero]
  exact ht
end Go.Proofs.Ytkolnimgdbhekaa.P
