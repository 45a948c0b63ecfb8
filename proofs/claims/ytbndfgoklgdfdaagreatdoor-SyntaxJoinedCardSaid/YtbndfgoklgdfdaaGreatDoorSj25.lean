/- The reference's functions, as the print has them, say what the plain scanner says. The reference's token: the plain scanner's. The reference's Scan, Same, Equal: the plain scanner's. Check: the program's and the reference's, as one plain test on bytes. The reference's tests on types, binders, terms (printed by mkr.py). The reference's tests on formulas and lists (printed by mkr.py). The reference's tests on lists, items and texts; Check (printed by mkr.py). The reference's tests on items and texts; Check (printed by mkr.py). The reference's IsText and Check, by hand. A tree with one more leaf at its end: what is valid with it was so without. The plain scanner as a relation between a text and its tokens; what stands behind a token; two texts with a line feed between them. SyntaxJoined and SyntaxEnds, the plain laws: a text behind another one; a text without its last token. append(append([]T{}, a...), b...) in a region that draws, over rows of trees. -/
import Derived.Test.YtbndfgoklgdfdaaGreatDoorSj05
import Derived.Test.YtbndfgoklgdfdaaGreatDoorSj12
import Derived.Test.YtbndfgoklgdfdaaGreatDoorSj24
import Derived.Test.YtbndfgoklgdfdaaGreatDoorSj08
import Derived.Test.YtbndfgoklgdfdaaGreatDoorSj23
set_option linter.all false
section
namespace Go.Proofs.YtbndfgoklgdfdaaGreatDoor.P
open Go.RowKit Go.Proofs.YtbndfgoklgdfdaaGreatDoorW.PrintWords Go.Proofs.YtbndfgoklgdfdaaGreatDoorW.PrintLast Go.Proofs.YtbndfgoklgdfdaaGreatDoorW.PrintMore

end Go.Proofs.YtbndfgoklgdfdaaGreatDoor.P

namespace Go.Proofs.YtbndfgoklgdfdaaGreatDoor.P
open Go.RowKit Go.Proofs.YtbndfgoklgdfdaaGreatDoorW.PrintWords Go.Proofs.YtbndfgoklgdfdaaGreatDoorW.PrintLast Go.Proofs.YtbndfgoklgdfdaaGreatDoorW.PrintMore

end Go.Proofs.YtbndfgoklgdfdaaGreatDoor.P

namespace Go.Proofs.YtbndfgoklgdfdaaGreatDoor.P
open Go.RowKit Go.Proofs.YtbndfgoklgdfdaaGreatDoorW.PrintWords Go.Proofs.YtbndfgoklgdfdaaGreatDoorW.PrintLast Go.Proofs.YtbndfgoklgdfdaaGreatDoorW.PrintMore

theorem word_short (x : List UInt8) (h : wordsL.contains x = true) : x.length ≤ 7 := by
 have h2 : x ∈ wordsL := by simpa using h
 have : ∀ y ∈ wordsL, y.length ≤ 7 := by decide
 exact this x h2
theorem tok_kind {l : List UInt8} {kd n : Nat} (h : tok l = some (kd, n)) : (kd = 1 ∨ kd = 2) ∨ (kd = 3 ∨ kd = 4) ∧ n ≤ 7 := by
 match l, h with
 | b :: r, h =>
  simp only [tok] at h
  split at h
  ·split at h
   ·simp at h
    omega
   ·split at h
    ·rename_i hw
     have h1 := word_short _ hw
     have h2 := nameN_le (b :: r)
     rw [List.length_take, Nat.min_eq_left h2] at h1
     simp at h
     omega
    ·simp at h
     omega
  ·split at h
   ·simp at h
    omega
   ·split at h
    ·simp at h
     omega
    ·split at h
     ·split at h
      ·simp at h
       omega
      ·split at h
       ·cases h
       ·simp at h
        omega
     ·split at h
      ·simp at h
       omega
      ·cases h
end Go.Proofs.YtbndfgoklgdfdaaGreatDoor.P
end
section
namespace Go.Proofs.YtbndfgoklgdfdaaGreatDoor.P
open Go.RowKit Go.Proofs.YtbndfgoklgdfdaaGreatDoorW.PrintWords Go.Proofs.YtbndfgoklgdfdaaGreatDoorW.PrintLast Go.Proofs.YtbndfgoklgdfdaaGreatDoorW.PrintMore

end Go.Proofs.YtbndfgoklgdfdaaGreatDoor.P
end
section
set_option linter.unusedSimpArgs false
namespace Go.Proofs.YtbndfgoklgdfdaaGreatDoor.P
open Go.RowKit Go.Proofs.YtbndfgoklgdfdaaGreatDoorW.PrintWords Go.Proofs.YtbndfgoklgdfdaaGreatDoorW.PrintLast Go.Proofs.YtbndfgoklgdfdaaGreatDoorW.PrintMore
end Go.Proofs.YtbndfgoklgdfdaaGreatDoor.P
end
section
set_option linter.unusedSimpArgs false
namespace Go.Proofs.YtbndfgoklgdfdaaGreatDoor.P
open Go.RowKit Go.Proofs.YtbndfgoklgdfdaaGreatDoorW.PrintWords Go.Proofs.YtbndfgoklgdfdaaGreatDoorW.PrintLast Go.Proofs.YtbndfgoklgdfdaaGreatDoorW.PrintMore
end Go.Proofs.YtbndfgoklgdfdaaGreatDoor.P
end
section
set_option linter.unusedSimpArgs false
namespace Go.Proofs.YtbndfgoklgdfdaaGreatDoor.P
open Go.RowKit Go.Proofs.YtbndfgoklgdfdaaGreatDoorW.PrintWords Go.Proofs.YtbndfgoklgdfdaaGreatDoorW.PrintLast Go.Proofs.YtbndfgoklgdfdaaGreatDoorW.PrintMore
end Go.Proofs.YtbndfgoklgdfdaaGreatDoor.P
end
section
set_option linter.unusedSimpArgs false
namespace Go.Proofs.YtbndfgoklgdfdaaGreatDoor.P
open Go.RowKit Go.Proofs.YtbndfgoklgdfdaaGreatDoorW.PrintWords Go.Proofs.YtbndfgoklgdfdaaGreatDoorW.PrintLast Go.Proofs.YtbndfgoklgdfdaaGreatDoorW.PrintMore
end Go.Proofs.YtbndfgoklgdfdaaGreatDoor.P
end
section
set_option linter.unusedSimpArgs false
namespace Go.Proofs.YtbndfgoklgdfdaaGreatDoor.P
open Go.RowKit Go.Proofs.YtbndfgoklgdfdaaGreatDoorW.PrintWords Go.Proofs.YtbndfgoklgdfdaaGreatDoorW.PrintLast Go.Proofs.YtbndfgoklgdfdaaGreatDoorW.PrintMore
end Go.Proofs.YtbndfgoklgdfdaaGreatDoor.P
end
section
namespace Go.Proofs.YtbndfgoklgdfdaaGreatDoor.P
open Go.RowKit Go.Proofs.YtbndfgoklgdfdaaGreatDoorW.PrintWords Go.Proofs.YtbndfgoklgdfdaaGreatDoorW.PrintLast Go.Proofs.YtbndfgoklgdfdaaGreatDoorW.PrintMore
end Go.Proofs.YtbndfgoklgdfdaaGreatDoor.P
end
section
namespace Go.Proofs.YtbndfgoklgdfdaaGreatDoor.P
open Go.RowKit Go.Proofs.YtbndfgoklgdfdaaGreatDoorW.PrintWords Go.Proofs.YtbndfgoklgdfdaaGreatDoorW.PrintLast Go.Proofs.YtbndfgoklgdfdaaGreatDoorW.PrintMore

theorem run_lt : ∀ (p t : List UInt8), runN p < p.length → runN (p ++ t) = runN p
 | [], _, h => by simp at h
 | c :: p, t, h => by
  simp only [List.cons_append, runN] at h ⊢
  by_cases hc : partB c = true
  ·rw [if_pos hc] at h ⊢
   rw [if_pos hc, run_lt p t (by simp at h; omega)]
  ·rw [if_neg hc, if_neg hc]
theorem run_full : ∀ (p t : List UInt8), runN p = p.length → runN (p ++ t) = p.length + runN t
 | [], _, _ => by simp
 | c :: p, t, h => by
  simp only [List.cons_append, runN] at h ⊢
  by_cases hc : partB c = true
  ·rw [if_pos hc] at h ⊢
   rw [run_full p t (by simp at h; omega)]
   simp
   omega
  ·rw [if_neg hc] at h
   simp at h
theorem run_stop (l t : List UInt8) (c : UInt8) (hc : partB c = false) : runN (l ++ c :: t) = runN l := by
 by_cases hf : runN l = l.length
 ·rw [run_full l _ hf, runN, if_neg (by simp [hc])]
  omega
 ·have := runN_le l
  exact run_lt l _ (by omega)
theorem run_take : ∀ (l : List UInt8) (n : Nat), n ≤ runN l → runN (l.take n) = n
 | _, 0, _ => by simp [runN]
 | [], n + 1, h => by simp [runN] at h
 | c :: l, n + 1, h => by
  simp only [List.take_succ_cons, runN] at h ⊢
  by_cases hc : partB c = true
  ·rw [if_pos hc] at h ⊢
   rw [run_take l n (by omega)]
  ·rw [if_neg hc] at h
   omega
theorem oB_iff (l : List UInt8) : oB l = true ↔ ∃ r, l = 111 :: 45 :: r := by
 constructor
 ·intro h
  unfold oB at h
  rw [Bool.and_eq_true] at h
  obtain ⟨h1, h2⟩ := h
  match l, h1, h2 with
  | [], _, h2 => simp at h2
  | [_], _, h2 => simp at h2
  | x :: y :: r, h1, h2 =>
   simp at h2
   subst h2
   refine ⟨r, ?_⟩
   rcases hn : nameN (x :: 45 :: r) with _ | n
   ·rw [hn] at h1; simp at h1
   ·rw [hn] at h1
    simp at h1
    rw [h1.1]
 ·rintro ⟨r, rfl⟩
  have hr : runN (111 :: 45 :: r) = 1 := by
   rw [runN, if_pos (by decide), runN, if_neg (by decide)]
  have hl : linkB (111 :: 45 :: r) = false := by
   unfold linkB
   rw [hr]
   cases r <;> rfl
  have hn : nameN (111 :: 45 :: r) = 1 := by
   unfold nameN
   rw [hl, hr]
   rfl
  unfold oB
  rw [hn]
  rfl
def headSm : List UInt8 → Bool
 | [] => false
 | d :: _ => smallB d
theorem link_cons {l : List UInt8} {c : UInt8} {q : List UInt8} (h : l.drop (runN l) = c :: q) : linkB l = (c == 64 && headSm q) := by
 unfold linkB
 rw [h]
 cases q
 ·simp [headSm]
 ·rfl
theorem drop_app {p t : List UInt8} {m : Nat} {q : List UInt8} (hm : m ≤ p.length) (h : p.drop m = q) : (p ++ t).drop m = q ++ t := by
 rw [List.drop_append_of_le_length hm, h]
theorem tok_small {b : UInt8} {r : List UInt8} (hs : smallB b = true) : tok (b :: r) = if oB (b :: r) = true then some (3, 2) else if wordsL.contains ((b :: r).take (nameN (b :: r))) = true then some (4, nameN (b :: r)) else some (1, nameN (b :: r)) := by
 simp only [tok]; rw [if_pos hs]
theorem oB_long (b c : UInt8) (r t : List UInt8) : oB (b :: c :: r) = oB (b :: c :: (r ++ t)) := by
 rw [Bool.eq_iff_iff, oB_iff, oB_iff]
 constructor
 ·rintro ⟨x, hx⟩; exact ⟨x ++ t, by simp at hx ⊢; exact ⟨hx.1, hx.2.1, by rw [hx.2.2]⟩⟩
 ·rintro ⟨x, hx⟩; exact ⟨r, by simp at hx ⊢; exact ⟨hx.1, hx.2.1⟩⟩
def sgn (b : UInt8) (h : Option UInt8) (tl : List UInt8) : Option (Nat × Nat) :=
 if (b = 45 ∧ h = some 62) ∨ (b = 61 ∧ h = some 62) ∨ (b = 60 ∧ h = some 61) then some (3, 2)
 else if b = 45 ∧ h = some 111 then
  match tl with
  | [] => some (3, 2)
  | c :: _ => if partB c then none else some (3, 2)
 else if onesL.contains b then some (3, 1) else none
theorem tok_sgn {b : UInt8} {r : List UInt8} (hs : ¬ smallB b = true) (hc : ¬ capB b = true) : tok (b :: r) = sgn b r.head? r.tail := by
 simp only [tok]; rw [if_neg hs, if_neg hc]; rfl
theorem tok_capE {b : UInt8} {r : List UInt8} (hs : ¬ smallB b = true) (hc : capB b = true) : tok (b :: r) = some (2, runN (b :: r)) := by
 simp only [tok]; rw [if_neg hs, if_pos hc]
theorem sgn_two {b : UInt8} {h : Option UInt8} {tl : List UInt8} {k n : Nat} (hg : sgn b h tl = some (k, n)) : k = 3 ∧ (n = 1 ∨ n = 2 ∧ h ≠ none) ∧ (n = 1 → sgn b none [] = some (3, 1)) ∧ (n = 2 → sgn b h [] = some (3, 2)) ∧ (n = 1 → ∀ t, sgn b h t = some (3, 1)) := by
 unfold sgn at hg ⊢
 by_cases h2 : (b = 45 ∧ h = some 62) ∨ (b = 61 ∧ h = some 62) ∨ (b = 60 ∧ h = some 61)
 ·rw [if_pos h2] at hg ⊢
  simp only [Option.some.injEq, Prod.mk.injEq] at hg
  obtain ⟨rfl, rfl⟩ := hg
  refine ⟨rfl, .inr ⟨rfl, ?_⟩, by simp, fun _ => rfl, by simp⟩
  rcases h2 with ⟨_, rfl⟩ | ⟨_, rfl⟩ | ⟨_, rfl⟩ <;> simp
 ·rw [if_neg h2] at hg ⊢
  by_cases h4 : b = 45 ∧ h = some 111
  ·rw [if_pos h4] at hg ⊢
   have : k = 3 ∧ n = 2 := by
    split at hg
    ·simp at hg; omega
    ·split at hg
     ·cases hg
     ·simp at hg; omega
   obtain ⟨rfl, rfl⟩ := this
   exact ⟨rfl, .inr ⟨rfl, by rw [h4.2]; simp⟩, by simp, fun _ => rfl, by simp⟩
  ·rw [if_neg h4] at hg ⊢
   by_cases h5 : onesL.contains b = true
   ·rw [if_pos h5] at hg ⊢
    simp only [Option.some.injEq, Prod.mk.injEq] at hg
    obtain ⟨rfl, rfl⟩ := hg
    refine ⟨rfl, .inl rfl, fun _ => ?_, by simp, fun _ t => ?_⟩
    ·rw [if_neg (by simp), if_neg (by simp)]
    ·rw [if_neg h2, if_neg h4]
   ·rw [if_neg h5] at hg
    cases hg
def blankC (c : UInt8) : Prop := c = 10 ∨ c = 32 ∨ c = 37
theorem blankC_part {c : UInt8} (h : blankC c) : partB c = false := by rcases h with rfl | rfl | rfl <;> decide
theorem blankC_small {c : UInt8} (h : blankC c) : smallB c = false := by rcases h with rfl | rfl | rfl <;> decide
theorem name_blank (l t : List UInt8) (c : UInt8) (hc : blankC c) : nameN (l ++ c :: t) = nameN l := by
 have hr := run_stop l t c (blankC_part hc)
 have h64 : (c == 64) = false := by rcases hc with rfl | rfl | rfl <;> decide
 have hle := runN_le l
 unfold nameN
 rw [hr]
 rcases hq : l.drop (runN l) with _ | ⟨x, q⟩
 ·have l1 : linkB l = false := by unfold linkB; rw [hq]
  have l2 : linkB (l ++ c :: t) = false := by
   rw [link_cons (c := c) (q := t) (by rw [hr]; exact drop_app hle hq), h64, Bool.false_and]
  rw [l1, l2]
  rfl
 ·have hlen := congrArg List.length hq
  rw [List.length_drop, List.length_cons] at hlen
  have l1 := link_cons hq
  have l2 := link_cons (l := l ++ c :: t) (c := x) (q := q ++ c :: t) (by rw [hr]; exact drop_app hle hq)
  have hd1 : l.drop (runN l + 1) = q := by rw [← List.drop_drop, hq]; rfl
  have hd2 : (l ++ c :: t).drop (runN l + 1) = q ++ c :: t := drop_app (by omega) hd1
  rw [l1, l2, hd1, hd2, run_stop q t c (blankC_part hc)]
  cases q with
  | nil => simp [headSm, blankC_small hc]
  | cons d q => rfl
/-- A blank behind a text changes nothing of the token at its beginning. -/
theorem tok_stop (l t : List UInt8) (c : UInt8) (hc : blankC c) (hl : l ≠ []) : tok (l ++ c :: t) = tok l := by
 match l, hl with
 | b :: r, _ =>
  by_cases hs : smallB b = true
  ·rw [tok_small hs, show (b :: r) ++ c :: t = b :: (r ++ c :: t) from rfl, tok_small hs]
   have hn : nameN (b :: (r ++ c :: t)) = nameN (b :: r) := name_blank (b :: r) t c hc
   have ho : oB (b :: (r ++ c :: t)) = oB (b :: r) := by
    cases r with
    | nil =>
     rw [Bool.eq_iff_iff, oB_iff, oB_iff]
     constructor
     ·rintro ⟨x, hx⟩
      simp at hx
      rcases hc with rfl | rfl | rfl <;> exact absurd hx.2.1 (by decide)
     ·rintro ⟨x, hx⟩
      simp at hx
    | cons d r => exact (oB_long b d r (c :: t)).symm
   rw [ho, hn]
   have : (b :: (r ++ c :: t)).take (nameN (b :: r)) = (b :: r).take (nameN (b :: r)) := by
    show ((b :: r) ++ c :: t).take _ = _
    rw [List.take_append_of_le_length (nameN_le _)]
   rw [this]
  ·have hr : runN (b :: (r ++ c :: t)) = runN (b :: r) := run_stop (b :: r) t c (blankC_part hc)
   rw [show (b :: r) ++ c :: t = b :: (r ++ c :: t) from rfl]
   by_cases hcap : capB b = true
   ·rw [tok_capE hs hcap, tok_capE hs hcap, hr]
   ·rw [tok_sgn hs hcap, tok_sgn hs hcap]
    match r with
    | [] =>
     show sgn b (some c) t = sgn b none []
     have e1 : ¬ (some c = some (62 : UInt8)) := by rcases hc with rfl | rfl | rfl <;> decide
     have e2 : ¬ (some c = some (61 : UInt8)) := by rcases hc with rfl | rfl | rfl <;> decide
     have e3 : ¬ (some c = some (111 : UInt8)) := by rcases hc with rfl | rfl | rfl <;> decide
     unfold sgn
     rw [if_neg (by simp only [e1, e2, and_false, or_self, not_false_eq_true]), if_neg (by simp only [e3, and_false, not_false_eq_true]), if_neg (show ¬ (b = 45 ∧ (none : Option UInt8) = some 62 ∨ b = 61 ∧ (none : Option UInt8) = some 62 ∨ b = 60 ∧ (none : Option UInt8) = some 61) by simp), if_neg (show ¬ (b = 45 ∧ (none : Option UInt8) = some 111) by simp)]
    | [d] =>
     show sgn b (some d) (c :: t) = sgn b (some d) []
     unfold sgn
     simp only [blankC_part hc, Bool.false_eq_true, if_false]
    | d :: e :: r => rfl
theorem name_take (l : List UInt8) : nameN (l.take (nameN l)) = nameN l := by
 have hle := runN_le l
 have hnl := nameN_le l
 cases hk : linkB l
 ·have hn : nameN l = runN l := by unfold nameN; rw [hk]; rfl
  rw [hn]
  have hr := run_take l (runN l) (Nat.le_refl _)
  have hk2 : linkB (l.take (runN l)) = false := by
   unfold linkB
   rw [hr]
   rw [List.drop_eq_nil_of_le (by rw [List.length_take]; omega)]
  unfold nameN
  rw [hk2, hr]
  rfl
 ·have hn : nameN l = runN l + 1 + runN (l.drop (runN l + 1)) := by unfold nameN; rw [hk]; rfl
  have hlt := linkB_lt hk
  obtain ⟨c, q, hq⟩ : ∃ c q, l.drop (runN l) = c :: q := by
   rcases hq : l.drop (runN l) with _ | ⟨c, q⟩
   ·have := congrArg List.length hq
    rw [List.length_drop] at this
    simp at this
    omega
   ·exact ⟨c, q, rfl⟩
  have hd1 : l.drop (runN l + 1) = q := by rw [← List.drop_drop, hq]; rfl
  have l1 := link_cons hq
  rw [hk] at l1
  match q, l1, hd1, hq with
  | [], l1, _, _ => simp [headSm] at l1
  | d :: q, l1, hd1, hq =>
   have hsm : smallB d = true := by
    have := l1.symm
    rw [headSm, Bool.and_eq_true] at this
    exact this.2
   have h1 : 1 ≤ runN (d :: q) := by rw [runN, if_pos (small_part d hsm)]; omega
   rw [hd1] at hn
   have hr : runN (l.take (nameN l)) = runN l := by
    have e : l.take (nameN l) = l.take (runN l) ++ (l.drop (runN l)).take (nameN l - runN l) := by
     have : nameN l = runN l + (nameN l - runN l) := by omega
     rw [this, List.take_add]
     congr 2
     omega
    have hr0 := run_take l (runN l) (Nat.le_refl _)
    rw [e, run_full _ _ (by rw [hr0, List.length_take]; omega), List.length_take, hq]
    obtain ⟨z, hz⟩ : ∃ z, nameN l - runN l = z + 1 := ⟨nameN l - runN l - 1, by omega⟩
    have hc : partB c = false := by
     have := l1.symm
     rw [Bool.and_eq_true] at this
     have : c = 64 := by simpa using this.1
     rw [this]
     decide
    rw [hz, List.take_succ_cons, runN, if_neg (by simp [hc])]
    omega
   have hdt : (l.take (nameN l)).drop (runN l) = c :: (d :: q).take (runN (d :: q)) := by
    rw [List.drop_take, hq, show nameN l - runN l = runN (d :: q) + 1 by omega, List.take_succ_cons]
   have hdt1 : (l.take (nameN l)).drop (runN l + 1) = (d :: q).take (runN (d :: q)) := by rw [← List.drop_drop, hdt]; rfl
   obtain ⟨z, hz⟩ : ∃ z, runN (d :: q) = z + 1 := ⟨runN (d :: q) - 1, by omega⟩
   have hk2 : linkB (l.take (nameN l)) = true := by
    rw [link_cons (by rw [hr]; exact hdt), l1, hz, List.take_succ_cons, headSm, headSm]
   have he : nameN (l.take (nameN l)) = runN (l.take (nameN l)) + 1 + runN ((l.take (nameN l)).drop (runN (l.take (nameN l)) + 1)) := by
    rw [nameN, if_pos hk2]
   rw [he, hr, hdt1, run_take _ _ (Nat.le_refl _)]
   omega
/-- A token, taken out of its text, is that token. -/
theorem tok_take (l : List UInt8) (k n : Nat) (h : tok l = some (k, n)) : tok (l.take n) = some (k, n) := by
 match l, h with
 | b :: r, h =>
  have hle := tok_le h
  obtain ⟨m, rfl⟩ : ∃ m, n = m + 1 := ⟨n - 1, by omega⟩
  by_cases hs : smallB b = true
  ·rw [tok_small hs] at h
   rw [List.take_succ_cons, tok_small hs, ← List.take_succ_cons]
   cases ho : oB (b :: r)
   ·rw [ho] at h
    simp only [Bool.false_eq_true, if_false] at h
    have hn : nameN (b :: r) = m + 1 := by split at h <;> (simp only [Option.some.injEq, Prod.mk.injEq] at h; exact h.2)
    have hnt : nameN ((b :: r).take (m + 1)) = m + 1 := by have := name_take (b :: r); rw [hn] at this; exact this
    have ho2 : ¬ oB ((b :: r).take (m + 1)) = true := by
     intro hx
     obtain ⟨x, hx⟩ := (oB_iff _).1 hx
     have : oB (b :: r) = true := (oB_iff _).2 ⟨x ++ (b :: r).drop (m + 1), by
      have := List.take_append_drop (m + 1) (b :: r)
      rw [hx] at this
      exact this.symm⟩
     rw [ho] at this
     cases this
    rw [if_neg ho2, hnt, List.take_take, Nat.min_self]
    rw [hn] at h
    exact h
   ·rw [ho] at h
    rw [if_pos rfl] at h
    simp only [Option.some.injEq, Prod.mk.injEq] at h
    obtain ⟨rfl, h2⟩ := h
    obtain ⟨x, hx⟩ := (oB_iff _).1 ho
    rw [hx, ← h2]
    rw [show (111 :: 45 :: x).take 2 = [111, 45] from rfl, if_pos ((oB_iff _).2 ⟨[], rfl⟩)]
  ·rw [List.take_succ_cons]
   by_cases hc : capB b = true
   ·rw [tok_capE hs hc] at h ⊢
    simp only [Option.some.injEq, Prod.mk.injEq] at h ⊢
    refine ⟨h.1, ?_⟩
    rw [← List.take_succ_cons, ← h.2]
    exact run_take _ _ (Nat.le_refl _)
   ·rw [tok_sgn hs hc] at h ⊢
    obtain ⟨rfl, h2, h3, h4, _⟩ := sgn_two h
    rcases h2 with h2 | ⟨h2, hne⟩
    ·obtain rfl : m = 0 := by omega
     exact h3 rfl
    ·obtain rfl : m = 1 := by omega
     match r, hne with
     | y :: r, _ => exact h4 rfl
end Go.Proofs.YtbndfgoklgdfdaaGreatDoor.P

namespace Go.Proofs.YtbndfgoklgdfdaaGreatDoor.P
open Go.RowKit Go.Proofs.YtbndfgoklgdfdaaGreatDoorW.PrintWords Go.Proofs.YtbndfgoklgdfdaaGreatDoorW.PrintLast Go.Proofs.YtbndfgoklgdfdaaGreatDoorW.PrintMore

theorem scanA_step (f : Nat) (l : List UInt8) (i : Nat) (acc : List S65) (k n : Nat) (h : tok l = some (k, n)) (h6 : acc.length ≠ 6000) (h40 : n ≤ 40) :
  scanA (f + 1) l i acc = scanA f ((l.drop n).drop (skipN false (l.drop n))) (i + n + skipN false (l.drop n)) (acc ++ [⟨k, ⟨(l.take n).toArray⟩, i⟩]) := by
 match l, h with
 | b :: r, h =>
  simp only [scanA, h]
  rw [if_neg h6, if_neg (by omega)]
/-- The text behind a token and the blanks behind it. -/
def restT (l : List UInt8) (n : Nat) : List UInt8 := (l.drop n).drop (skipN false (l.drop n))
/-- These are the tokens of a text that begins with one, or is empty. -/
def Toks : List UInt8 → Nat → List S65 → Prop
 | l, _, [] => l = []
 | l, i, t :: ts => ∃ k n : Nat, tok l = some (k, n) ∧ n ≤ 40 ∧ t = ⟨k, ⟨(l.take n).toArray⟩, i⟩ ∧ Toks (restT l n) (i + n + skipN false (l.drop n)) ts
theorem restT_len (l : List UInt8) (n : Nat) : (restT l n).length + n + skipN false (l.drop n) = max l.length n := by
 have := skipN_le false (l.drop n)
 unfold restT
 rw [List.length_drop, List.length_drop]
 rw [List.length_drop] at this
 omega
theorem toks_of_scan : ∀ (f : Nat) (l : List UInt8) (i : Nat) (acc r : List S65) (a : Int), l.length < f → scanA f l i acc = (r, a, 0) → acc.length ≤ 6000 → ∃ toks, r = acc ++ toks ∧ a = 0 ∧ Toks l i toks ∧ acc.length + toks.length ≤ 6000
 | f + 1, [], i, acc, r, a, _, h, ha => by
  simp only [scanA, Prod.mk.injEq] at h
  obtain ⟨rfl, rfl, _⟩ := h
  exact ⟨[], by simp, rfl, rfl, by simpa using ha⟩
 | f + 1, b :: q, i, acc, r, a, hf, h, ha => by
  simp only [scanA] at h
  cases ht : tok (b :: q) with
  | none => rw [ht] at h; simp at h
  | some p =>
   obtain ⟨k, n⟩ := p
   rw [ht] at h
   simp only at h
   have hn := tok_le ht
   have hk := tok_kind ht
   by_cases h6 : acc.length = 6000
   ·rw [if_pos h6] at h; simp at h
   ·rw [if_neg h6] at h
    by_cases h40 : (k = 1 ∨ k = 2) ∧ 40 < n
    ·rw [if_pos h40] at h; simp at h
    ·rw [if_neg h40] at h
     have hr := restT_len (b :: q) n
     obtain ⟨toks, h1, h2, h3, h4⟩ := toks_of_scan f (restT (b :: q) n) _ _ r a (by omega) h (by rw [List.length_append, List.length_singleton]; omega)
     rw [List.length_append, List.length_singleton] at h4
     refine ⟨_ :: toks, by rw [h1, List.append_assoc]; rfl, h2, ⟨k, n, ht, by omega, rfl, h3⟩, by rw [List.length_cons]; omega⟩
theorem scan_of_toks : ∀ (toks : List S65) (f : Nat) (l : List UInt8) (i : Nat) (acc : List S65), l.length < f → Toks l i toks → acc.length + toks.length ≤ 6000 → scanA f l i acc = (acc ++ toks, 0, 0)
 | [], f + 1, l, i, acc, _, h, _ => by
  obtain rfl : l = [] := h
  simp [scanA]
 | t :: ts, f + 1, l, i, acc, hf, ⟨k, n, ht, h40, he, h⟩, hl => by
  rw [List.length_cons] at hl
  have hn := tok_le ht
  have hr := restT_len l n
  rw [scanA_step f l i acc k n ht (by omega) h40]
  have := scan_of_toks ts f (restT l n) _ (acc ++ [⟨k, ⟨(l.take n).toArray⟩, i⟩]) (by omega) h (by rw [List.length_append, List.length_singleton]; omega)
  rw [he]
  refine this.trans ?_
  rw [List.append_assoc]
  rfl
theorem long_of_toks : ∀ (toks : List S65) (f : Nat) (l : List UInt8) (i : Nat) (acc : List S65), l.length < f → Toks l i toks → acc.length ≤ 6000 → 6000 < acc.length + toks.length → (scanA f l i acc).2.2 = 2
 | [], _, _, _, _, _, _, h, h' => by simp at h'; omega
 | t :: ts, f + 1, l, i, acc, hf, ⟨k, n, ht, h40, he, h⟩, ha, hl => by
  rw [List.length_cons] at hl
  have hn := tok_le ht
  have hr := restT_len l n
  by_cases h6 : acc.length = 6000
  ·match l, ht with
   | b :: q, ht =>
    simp only [scanA, ht]
    rw [if_pos h6]
  ·rw [scanA_step f l i acc k n ht (by omega) h40]
   exact long_of_toks ts f (restT l n) _ _ (by omega) h (by rw [List.length_append, List.length_singleton]; omega) (by rw [List.length_append, List.length_singleton]; omega)
theorem toks_of_scanL {l : List UInt8} {r : List S65} {a : Int} (h : scanL l = (r, a, 0)) : l.length ≤ 20000 ∧ a = 0 ∧ Toks (l.drop (skipN false l)) (skipN false l) r ∧ r.length ≤ 6000 := by
 unfold scanL at h
 by_cases h2 : 20000 < l.length
 ·rw [if_pos h2] at h; simp at h
 ·rw [if_neg h2] at h
  obtain ⟨toks, h3, h4, h5, h6⟩ := toks_of_scan _ _ _ _ _ _ (by rw [List.length_drop]; omega) h (by simp)
  rw [List.nil_append] at h3
  subst h3
  exact ⟨by omega, h4, h5, by simpa using h6⟩
theorem scanL_of_toks {l : List UInt8} {r : List S65} (hl : l.length ≤ 20000) (h : Toks (l.drop (skipN false l)) (skipN false l) r) (h6 : r.length ≤ 6000) : scanL l = (r, 0, 0) := by
 unfold scanL
 rw [if_neg (by omega), scan_of_toks r _ _ _ _ (by rw [List.length_drop]; omega) h (by simpa using h6), List.nil_append]
theorem skip_app10 : ∀ (r b : List UInt8) (c : Bool), skipN c (r ++ 10 :: b) = if skipN c r = r.length then r.length + 1 + skipN false b else skipN c r
 | [], b, true => by
  simp [skipN]
  omega
 | [], b, false => by
  simp [skipN, blankB]
  omega
 | x :: r, b, true => by
  rw [List.cons_append, skipN, skipN, List.length_cons]
  by_cases hx : x = 10
  ·rw [if_pos hx, if_pos hx, skip_app10 r b false]
   split <;> split <;> omega
  ·rw [if_neg hx, if_neg hx, skip_app10 r b true]
   split <;> split <;> omega
 | x :: r, b, false => by
  rw [List.cons_append, skipN, skipN, List.length_cons]
  by_cases hx : blankB x = true
  ·rw [if_pos hx, if_pos hx, skip_app10 r b false]
   split <;> split <;> omega
  ·rw [if_neg hx, if_neg hx]
   by_cases h37 : x = 37
   ·rw [if_pos h37, if_pos h37, skip_app10 r b true]
    split <;> split <;> omega
   ·rw [if_neg h37, if_neg h37, if_neg (by omega)]
def shiftT (d : Int) (t : S65) : S65 := ⟨t.f0, t.f1, t.f2 + d⟩
theorem toks_shift (d : Nat) : ∀ (toks : List S65) (l : List UInt8) (i : Nat), Toks l i toks → Toks l (i + d) (toks.map (shiftT d))
 | [], _, _, h => h
 | t :: ts, l, i, ⟨k, n, ht, h40, he, h⟩ => by
  have h2 := toks_shift d ts _ _ h
  refine ⟨k, n, ht, h40, ?_, ?_⟩
  ·rw [he]
   show S65.mk _ _ _ = S65.mk _ _ _
   congr 1
  ·rw [show i + d + n + skipN false (l.drop n) = i + n + skipN false (l.drop n) + d by omega]
   exact h2
theorem toks_nil {i : Nat} {ts : List S65} (h : Toks [] i ts) : ts = [] := by
 cases ts with
 | nil => rfl
 | cons t ts =>
  obtain ⟨k, n, ht, _⟩ := h
  cases ht
theorem toks_app : ∀ (toks : List S65) (l : List UInt8) (i : Nat) (b : List UInt8) (tb : List S65), l ≠ [] → Toks l i toks → Toks (b.drop (skipN false b)) (i + l.length + 1 + skipN false b) tb → Toks (l ++ 10 :: b) i (toks ++ tb)
 | [], l, i, b, tb, hl, h, _ => absurd h hl
 | t :: ts, l, i, b, tb, hl, ⟨k, n, ht, h40, he, h⟩, hb => by
  have hn := (tok_le ht).2
  have hd : (l ++ 10 :: b).drop n = l.drop n ++ 10 :: b := drop_app hn rfl
  have hsk := skip_app10 (l.drop n) b false
  refine ⟨k, n, by rw [tok_stop l b 10 (.inl rfl) hl, ht], h40, by rw [he, List.take_append_of_le_length hn], ?_⟩
  rw [hd, hsk]
  unfold restT
  rw [hd, hsk]
  unfold restT at h
  have hlen : (l.drop n).length = l.length - n := List.length_drop
  by_cases hf : skipN false (l.drop n) = (l.drop n).length
  ·rw [if_pos hf]
   rw [hf, List.drop_length] at h
   have h0 := toks_nil h
   subst h0
   show Toks _ _ tb
   have e1 : (l.drop n ++ 10 :: b).drop ((l.drop n).length + 1 + skipN false b) = b.drop (skipN false b) := by
    rw [Nat.add_assoc, ← List.drop_drop, List.drop_left, Nat.add_comm 1, List.drop_succ_cons]
   rw [e1, show i + n + ((l.drop n).length + 1 + skipN false b) = i + l.length + 1 + skipN false b by omega]
   exact hb
  ·rw [if_neg hf]
   have hle := skipN_le false (l.drop n)
   have e1 : (l.drop n ++ 10 :: b).drop (skipN false (l.drop n)) = (l.drop n).drop (skipN false (l.drop n)) ++ 10 :: b := drop_app hle rfl
   rw [e1]
   have hlen2 : ((l.drop n).drop (skipN false (l.drop n))).length = l.length - n - skipN false (l.drop n) := by rw [List.length_drop, hlen]
   refine toks_app ts _ _ b tb ?_ h ?_
   ·intro h0
    rw [h0] at hlen2
    simp at hlen2
    omega
   ·rw [hlen2, show i + n + skipN false (l.drop n) + (l.length - n - skipN false (l.drop n)) + 1 + skipN false b = i + l.length + 1 + skipN false b by omega]
    exact hb
theorem toks_both (a b : List UInt8) (l m : List S65) (hl : Toks (a.drop (skipN false a)) (skipN false a) l) (hm : Toks (b.drop (skipN false b)) (skipN false b) m) :
  Toks ((a ++ 10 :: b).drop (skipN false (a ++ 10 :: b))) (skipN false (a ++ 10 :: b)) (l ++ m.map (shiftT (a.length + 1 : Nat))) := by
 have hsk := skip_app10 a b false
 have hle := skipN_le false a
 have hm2 := toks_shift (a.length + 1) m _ _ hm
 rw [hsk]
 by_cases hf : skipN false a = a.length
 ·rw [if_pos hf]
  rw [hf, List.drop_length] at hl
  rw [toks_nil hl, List.nil_append]
  have e1 : (a ++ 10 :: b).drop (a.length + 1 + skipN false b) = b.drop (skipN false b) := by
   rw [Nat.add_assoc, ← List.drop_drop, List.drop_left, Nat.add_comm 1, List.drop_succ_cons]
  rw [e1, show a.length + 1 + skipN false b = skipN false b + (a.length + 1) by omega]
  exact hm2
 ·rw [if_neg hf]
  have e1 : (a ++ 10 :: b).drop (skipN false a) = a.drop (skipN false a) ++ 10 :: b := drop_app hle rfl
  have hlen : (a.drop (skipN false a)).length = a.length - skipN false a := List.length_drop
  rw [e1]
  refine toks_app l _ _ b _ ?_ hl ?_
  ·intro h0
   rw [h0] at hlen
   simp at hlen
   omega
  ·rw [hlen, show skipN false a + (a.length - skipN false a) + 1 + skipN false b = skipN false b + (a.length + 1) by omega]
   exact hm2
end Go.Proofs.YtbndfgoklgdfdaaGreatDoor.P
end
section
namespace Go.Proofs.YtbndfgoklgdfdaaGreatDoor.P
open Go.RowKit Go.Proofs.YtbndfgoklgdfdaaGreatDoorW.PrintWords Go.Proofs.YtbndfgoklgdfdaaGreatDoorW.PrintLast Go.Proofs.YtbndfgoklgdfdaaGreatDoorW.PrintMore
theorem parse_ok {f : List Tok → PR Tree} {s : ByteArray} {n : Tree} {p : Int} (hne : f (scanL s.data.toList).1 ≠ .out) (h : parseT f s = (n, p, 0)) : ∃ l, scanL s.data.toList = (l, 0, 0) ∧ f l = .ok n [] ∧ checkT n = 0 ∧ p = 0 := by
 unfold parseT at h
 obtain ⟨l, a, e, hsc⟩ : ∃ l a e, scanL s.data.toList = (l, a, e) := ⟨_, _, _, rfl⟩
 rw [hsc] at h hne
 dsimp only at h hne
 by_cases he : e = 0
 ·subst he
  rw [if_pos rfl] at h
  obtain ⟨_, ha, _⟩ := toks_of_scanL hsc
  subst ha
  refine ⟨l, hsc, ?_⟩
  cases hf : f l with
  | out => exact absurd hf hne
  | bad ts => rw [hf] at h; simp at h
  | ok x ts =>
   rw [hf] at h
   cases ts with
   | cons a ts => simp at h
   | nil =>
    simp only [List.isEmpty_nil, if_true] at h
    by_cases hc : checkT x = 0
    ·rw [if_pos hc] at h
     simp only [Prod.mk.injEq] at h
     obtain ⟨rfl, h2, _⟩ := h
     exact ⟨rfl, hc, h2.symm⟩
    ·rw [if_neg hc] at h
     simp only [Prod.mk.injEq] at h
     exact absurd h.2.2 hc
 ·rw [if_neg he] at h
  simp only [Prod.mk.injEq] at h
  exact absurd h.2.2 he
theorem parse_of {f : List Tok → PR Tree} {s : ByteArray} {n : Tree} {l : List Tok} (hs : scanL s.data.toList = (l, 0, 0)) (hf : f l = .ok n []) : parseT f s = if checkT n = 0 then (n, 0, 0) else (zT, 0, checkT n) := by
 unfold parseT
 rw [hs]
 dsimp only
 rw [if_pos rfl, hf]
 rfl
section
variable {α : Type} {Q : α → α → Prop} {p : List Tok → PR α}
theorem Loc.app (h : Loc Q p) {ts : List Tok} {x : α} {a : Tok} {l : List Tok} (he : p ts = .ok x (a :: l)) : ∀ u, p (ts ++ u) = .ok x (a :: (l ++ u)) := by
 intro u
 induction u generalizing ts l with
 | nil => rw [List.append_nil, List.append_nil]; exact he
 | cons t u ih =>
  have h1 : p (ts ++ [t]) = .ok x (a :: (l ++ [t])) := by
   have h2 := h.rel ts t
   rw [he] at h2
   generalize p (ts ++ [t]) = r at h2
   cases h2
   rfl
  have h3 := ih h1
  rw [List.append_assoc, List.append_assoc] at h3
  exact h3
theorem er_nil {r : PR α} {x : α} (h : r.er = .ok x []) : r = .ok x [] := by
 cases r with
 | out => cases h
 | bad l => cases h
 | ok y l =>
  simp only [PR.er, PR.ok.injEq, List.map_eq_nil_iff] at h
  rw [h.1, h.2]
/-- Tokens that lie elsewhere are read alike. -/
theorem Loc.moved (h : Loc Q p) {l m : List Tok} (hm : m.map er = l.map er) : (p m).er = (p l).er := by rw [← h.inv, ← h.inv, hm]
end
/-- What an item of a text is, on the way of textT: its word, the rest. -/
theorem textT_cons {kk k : Nat} {t : Tok} {tl : List Tok} {acc : List Tree} {n : Tree} (h : textT kk (k + 1) (t :: tl) acc = .ok n []) :
  ¬ 6000 < acc.length ∧ ∃ r y d t2 t3, itemL.find? (fun r => t.f1 == (⟨r.1.toArray⟩ : ByteArray)) = some r ∧ t.f0 = 4 ∧ itemF kk r.2.2 r.2.1 tl = .ok y (d :: t2) ∧ wantP [46] (d :: t2) = .ok () t2 ∧ t3 = t2 ∧ textT kk k t3 (acc ++ [y]) = .ok n [] := by
 by_cases h6 : 6000 < acc.length
 ·simp only [textT, if_pos h6] at h; cases h
 refine ⟨h6, ?_⟩
 simp only [textT, if_neg h6] at h
 cases hf : itemL.find? (fun r => t.f1 == (⟨r.1.toArray⟩ : ByteArray)) with
 | none => rw [hf] at h; cases h
 | some r =>
  rw [hf] at h
  dsimp only at h
  by_cases h4 : t.f0 = 4
  ·rw [if_pos h4] at h
   cases hi : itemF kk r.2.2 r.2.1 tl with
   | out => rw [hi] at h; cases h
   | bad _ => rw [hi] at h; cases h
   | ok y t2 =>
    rw [hi] at h
    simp only [PR.bind] at h
    cases t2 with
    | nil => simp only [wantP] at h; cases h
    | cons d t2 =>
     by_cases hd : isP [46] (d :: t2) = true
     ·have hw := wantP_ok hd
      rw [hw] at h
      exact ⟨r, y, d, t2, t2, rfl, h4, hi, hw, rfl, h⟩
     ·simp only [wantP, if_neg hd] at h; cases h
  ·rw [if_neg h4] at h; cases h
theorem textT_step {kk k : Nat} {t : Tok} {tl t2 : List Tok} {acc : List Tree} {y : Tree} {d : Tok} {r : List UInt8 × Int × FuncId} (h6 : ¬ 6000 < acc.length) (hf : itemL.find? (fun r => t.f1 == (⟨r.1.toArray⟩ : ByteArray)) = some r) (h4 : t.f0 = 4)
  (hi : itemF kk r.2.2 r.2.1 tl = .ok y (d :: t2)) (hw : wantP [46] (d :: t2) = .ok () t2) : textT kk (k + 1) (t :: tl) acc = textT kk k t2 (acc ++ [y]) := by
 simp only [textT, if_neg h6, hf, if_pos h4, hi, PR.bind, hw]
theorem want_app {s : List UInt8} {d : Tok} {t2 : List Tok} (h : wantP s (d :: t2) = .ok () t2) (u : List Tok) : wantP s (d :: (t2 ++ u)) = .ok () (t2 ++ u) := by
 by_cases hd : isP s (d :: t2) = true
 ·exact wantP_ok (show isP s (d :: (t2 ++ u)) = true from hd)
 ·simp only [wantP, if_neg hd] at h; cases h
theorem textT_app (kk : Nat) : ∀ (k : Nat) (ts : List Tok) (acc : List Tree) (n : Tree), textT kk k ts acc = .ok n [] →
  ∃ items, n = ⟨1, ⟨#[]⟩, acc ++ items⟩ ∧ ∀ k' u, textT kk k' (ts ++ u) acc ≠ .out → ∃ k2, textT kk k' (ts ++ u) acc = textT kk k2 u (acc ++ items)
 | 0, _, _, _, h => by cases h
 | k + 1, [], acc, n, h => by
  by_cases h6 : 6000 < acc.length
  ·simp only [textT, if_pos h6] at h; cases h
  simp only [textT, if_neg h6, PR.ok.injEq] at h
  exact ⟨[], by rw [← h.1, List.append_nil], fun k' u _ => ⟨k', by rw [List.append_nil]; rfl⟩⟩
 | k + 1, t :: tl, acc, n, h => by
  obtain ⟨h6, r, y, d, t2, t3, hf, h4, hi, hw, rfl, h2⟩ := textT_cons h
  obtain ⟨items, hn, h3⟩ := textT_app kk k _ _ _ h2
  refine ⟨y :: items, by rw [hn, List.append_assoc]; rfl, fun k' u ho => ?_⟩
  cases k' with
  | zero => exact absurd rfl ho
  | succ k' =>
   have hs := textT_step (k := k') (tl := tl ++ u) h6 hf h4 ((loc_item kk _ _).app hi u) (want_app hw u)
   rw [List.cons_append, hs] at ho ⊢
   obtain ⟨k2, e⟩ := h3 k' u ho
   exact ⟨k2, by rw [e, List.append_assoc]; rfl⟩
theorem textT_any (kk : Nat) : ∀ (k : Nat) (u : List Tok) (a1 : List Tree) (n : Tree), textT kk k u a1 = .ok n [] →
  ∃ items, n = ⟨1, ⟨#[]⟩, a1 ++ items⟩ ∧ ∀ k' a2, textT kk k' u a2 ≠ .out → textT kk k' u a2 = .ok ⟨1, ⟨#[]⟩, a2 ++ items⟩ []
 | 0, _, _, _, h => by cases h
 | k + 1, [], a1, n, h => by
  by_cases h6 : 6000 < a1.length
  ·simp only [textT, if_pos h6] at h; cases h
  simp only [textT, if_neg h6, PR.ok.injEq] at h
  refine ⟨[], by rw [← h.1, List.append_nil], fun k' a2 ho => ?_⟩
  cases k' with
  | zero => exact absurd rfl ho
  | succ k' =>
   by_cases h6 : 6000 < a2.length
   ·exact absurd (by simp only [textT, if_pos h6]) ho
   ·simp only [textT, if_neg h6, List.append_nil]
 | k + 1, t :: tl, a1, n, h => by
  obtain ⟨h6, r, y, d, t2, t3, hf, h4, hi, hw, rfl, h2⟩ := textT_cons h
  obtain ⟨items, hn, h3⟩ := textT_any kk k _ _ _ h2
  refine ⟨y :: items, by rw [hn, List.append_assoc]; rfl, fun k' a2 ho => ?_⟩
  cases k' with
  | zero => exact absurd rfl ho
  | succ k' =>
   by_cases h6 : 6000 < a2.length
   ·exact absurd (by simp only [textT, if_pos h6]) ho
   ·have hs := textT_step (k := k') h6 hf h4 hi hw
    rw [hs] at ho ⊢
    rw [h3 k' _ ho, List.append_assoc]
    rfl
theorem text_both {k : Nat} {l m : List Tok} {n1 n2 : Tree} (h1 : textP k l = .ok n1 []) (h2 : textP k m = .ok n2 []) (ho : textP k (l ++ m) ≠ .out) : textP k (l ++ m) = .ok ⟨1, ⟨#[]⟩, n1.f2 ++ n2.f2⟩ [] ∧ n1 = ⟨1, ⟨#[]⟩, n1.f2⟩ ∧ n2 = ⟨1, ⟨#[]⟩, n2.f2⟩ := by
 obtain ⟨i1, e1, h3⟩ := textT_app k k l [] n1 h1
 obtain ⟨i2, e2, h4⟩ := textT_any k k m [] n2 h2
 obtain ⟨k2, e3⟩ := h3 k m ho
 have e4 : textP k (l ++ m) = textT k k2 m ([] ++ i1) := e3
 rw [e4] at ho ⊢
 rw [h4 k2 _ ho, e1, e2]
 exact ⟨rfl, rfl, rfl⟩
theorem check_both {l m : List Tree} (h1 : checkT ⟨1, ⟨#[]⟩, l⟩ = 0) (h2 : checkT ⟨1, ⟨#[]⟩, m⟩ = 0) : checkT ⟨1, ⟨#[]⟩, l ++ m⟩ = 0 ∨ checkT ⟨1, ⟨#[]⟩, l ++ m⟩ = 2 := by
 have key : ∀ l : List Tree, checkT ⟨1, ⟨#[]⟩, l⟩ = 0 → l.any (deepN 99) = false ∧ l.all isItemT = true := by
  intro l h
  unfold checkT at h
  by_cases c1 : 4000 < cntT ⟨1, ⟨#[]⟩, l⟩ 0
  ·rw [if_pos c1] at h; cases h
  rw [if_neg c1] at h
  by_cases c2 : deepN 100 ⟨1, ⟨#[]⟩, l⟩ = true
  ·rw [if_pos c2] at h; cases h
  rw [if_neg c2] at h
  refine ⟨(Bool.not_eq_true _).mp (show ¬ l.any (deepN 99) = true from c2), ?_⟩
  by_cases c3 : isTreeT ⟨1, ⟨#[]⟩, l⟩ = true
  ·unfold isTreeT at c3
   dsimp only at c3
   rw [if_pos rfl, Bool.and_eq_true] at c3
   exact c3.2
  ·rw [if_neg c3] at h; cases h
 obtain ⟨d1, a1⟩ := key l h1
 obtain ⟨d2, a2⟩ := key m h2
 unfold checkT
 by_cases c1 : 4000 < cntT ⟨1, ⟨#[]⟩, l ++ m⟩ 0
 ·rw [if_pos c1]; exact .inr rfl
 rw [if_neg c1]
 have c2 : deepN 100 ⟨1, ⟨#[]⟩, l ++ m⟩ = false := by show (l ++ m).any (deepN 99) = false; rw [List.any_append, d1, d2]; rfl
 have c3 : isTreeT ⟨1, ⟨#[]⟩, l ++ m⟩ = true := by
  unfold isTreeT
  dsimp only
  rw [if_pos rfl, List.all_append, a1, a2, Lib.toList_data]
  rfl
 rw [c2, if_neg (by decide), c3, if_pos rfl]
 exact .inl rfl
theorem scan_both {a b : List UInt8} {l m : List Tok} (h1 : scanL a = (l, 0, 0)) (h2 : scanL b = (m, 0, 0)) :
  (∃ r at_, scanL (a ++ 10 :: b) = (r, at_, 2)) ∨ scanL (a ++ 10 :: b) = (l ++ m.map (shiftT (a.length + 1 : Nat)), 0, 0) := by
 obtain ⟨la, _, ta, l6⟩ := toks_of_scanL h1
 obtain ⟨lb, _, tb, m6⟩ := toks_of_scanL h2
 have ht := toks_both a b l m ta tb
 by_cases h20 : 20000 < (a ++ 10 :: b).length
 ·left
  unfold scanL
  rw [if_pos h20]
  exact ⟨_, _, rfl⟩
 by_cases h6 : (l ++ m.map (shiftT (a.length + 1 : Nat))).length ≤ 6000
 ·exact .inr (scanL_of_toks (by omega) ht h6)
 ·left
  have := long_of_toks _ ((a ++ 10 :: b).length + 1) _ _ [] (by rw [List.length_drop]; omega) ht (by simp) (by simpa using h6)
  unfold scanL
  rw [if_neg h20]
  generalize scanA _ _ _ _ = r at this
  obtain ⟨r1, r2, r3⟩ := r
  dsimp only at this
  subst this
  exact ⟨_, _, rfl⟩
theorem er_shift (d : Int) (m : List Tok) : (m.map (shiftT d)).map er = m.map er := by rw [List.map_map]; rfl
/-- SyntaxJoined: two texts that are valid, the one behind the other: their items, or too long. -/
theorem joined_law {s t j : ByteArray} {k : Nat} {n1 n2 : Tree} {p1 p2 : Int} (hj : j.data.toList = s.data.toList ++ 10 :: t.data.toList)
  (o1 : textP k (scanL s.data.toList).1 ≠ .out) (o2 : textP k (scanL t.data.toList).1 ≠ .out) (o3 : textP k (scanL j.data.toList).1 ≠ .out)
  (h1 : parseT (textP k) s = (n1, p1, 0)) (h2 : parseT (textP k) t = (n2, p2, 0)) :
  (parseT (textP k) j).2.2 = 2 ∨ parseT (textP k) j = (⟨1, ⟨#[]⟩, n1.f2 ++ n2.f2⟩, 0, 0) := by
 obtain ⟨l, hl, f1, c1, _⟩ := parse_ok o1 h1
 obtain ⟨m, hm, f2, c2, _⟩ := parse_ok o2 h2
 rcases scan_both hl hm with ⟨r, a, h⟩ | h
 ·left
  unfold parseT
  rw [hj, h]
  rfl
 ·rw [← hj] at h
  rw [h] at o3
  have f3 : textP k (m.map (shiftT (s.data.toList.length + 1 : Nat))) = .ok n2 [] := by
   refine er_nil ?_
   rw [(loc_text k).moved (er_shift _ m), f2]
   rfl
  obtain ⟨e, e1, e2⟩ := text_both f1 f3 o3
  rw [parse_of h e]
  rw [e1] at c1
  rw [e2] at c2
  rcases check_both c1 c2 with c | c
  ·rw [if_pos c]; exact .inr rfl
  ·rw [c, if_neg (by decide)]; exact .inl rfl
end Go.Proofs.YtbndfgoklgdfdaaGreatDoor.P
end
section
set_option linter.unusedSimpArgs false
namespace Go.Proofs.YtbndfgoklgdfdaaGreatDoor.P
open Go.RowKit Go.Proofs.YtbndfgoklgdfdaaGreatDoorW.PrintWords Go.Proofs.YtbndfgoklgdfdaaGreatDoorW.PrintLast Go.Proofs.YtbndfgoklgdfdaaGreatDoorW.PrintMore
/-- A row that grows, made behind W. -/
def Jn (w W w' : World) (v : Value) (xs : List Tree) : Prop := Kd.R k25 25 w' w.heap.size (fun _ => True) v xs ∧ Below W.heap.size W w' ∧ ∃ b, v.ownBlock = some b ∧ W.heap.size ≤ b
section
variable {w W w' : World} {o : Oper} {a : Act} {ops : Array Oper} {Kc : Act → World → Prop} {Q : Exit → Act → World → Prop} {E : Prop}
theorem jn_lit (hb : Below w.heap.size w W) {N : Tmp} (hg : o.guard = none) (hd : o.dst = some N) (ho : o.op = .buildSlice 23 0 #[]) (h : ∀ v1 w1, Jn w W w1 v1 [] → Kc (a.put o.dst v1) w1) :
  if Region.wanted o (yielded ops a.tmps) = true then Oper.wp Tryz.prog o a W Kc Q else Kc (a.put o.dst undef) W := by
 have hsz : w.heap.size ≤ W.heap.size := hb.size
 refine Kd.R_lit_step k25 (w0 := w) w.heap.size 25 (by simp [Region.wanted, hg]) hd (xs := []) (inner := []) (ok := fun _ => True) (okp := fun _ => False) ?_ (Reps.none _ _) (fun _ h => h.elim) trivial hb hsz (by simp) ?_
 ·unfold execOp
  rw [ho]
  first | (go_simp; done) | (go_simp; rfl)
 ·intro v1 w1 hR hB hgr ⟨b, hb1, hb2⟩
  exact h v1 w1 ⟨hR, (Below.refl _ _).grown hgr (Nat.le_refl _) (by simp), b, hb1, hb2⟩
theorem jn_app {v : Value} {xs ys : List Tree} {A : Option Addr} {c base : Nat} {ok : Nat → Prop} (hb : Below w.heap.size w W) (HJ : Jn w W w' v xs) (hR : Kd.R k25 25 W base ok (.slice A ys.length c) ys) (hbase : w.heap.size ≤ base)
  (hg : o.guard = none) (s x : Operand) (ho : o.op = .call { callee := .builtin .append, args := #[s, x], argTypes := #[23, 23] }) (hs : a.eval s = v) (hx : a.eval x = .slice A ys.length c) (hl : (xs.length + ys.length) * 48 ≤ 140737488355328)
  (h : ∀ v1 w1, Jn w W w1 v1 (xs ++ ys) → Kc (a.put o.dst v1) w1) :
  if Region.wanted o (yielded ops a.tmps) = true then Oper.wp Tryz.prog o a w' Kc Q else Kc (a.put o.dst undef) w' := by
 obtain ⟨hJ, hW, b, hb1, hb2⟩ := HJ
 have hsz : w.heap.size ≤ W.heap.size := hb.size
 have hsz2 : W.heap.size ≤ w'.heap.size := hW.size
 have hbw : Below w.heap.size w w' := hb.trans (hW.mono hsz)
 obtain ⟨A2, c2, e, _, hr⟩ := OwnRow.reads (Kd.R_bound hR).2
 cases e
 have hr2 : ReadsRow (k25.M w' w.heap.size (fun k => k < W.heap.size)) k25.sz w' A ys.length ys := ReadsRow.imp_ hr hW fun p cs hp => by
  have h1 := k25.M_lower hbase (k25.M_mono (ok' := fun k => k < W.heap.size) (fun k hk => hk.1.2.2.1) hp)
  exact k25.M_move (fun k hk => hW.block k hk) h1
 refine Kd.R_append_rows_step k25 (w0 := w) w.heap.size (by simp [Region.wanted, hg]) s x 23 25 (.agg zN) 48 ho Tryz.underlying23 info25 rfl (by decide) (by decide) v xs ys A ys.length c (fun _ => True) (fun k => k < W.heap.size) hs hx hJ hr2 (fun _ _ h => h) (fun k hk => ⟨trivial, fun e => ?_⟩) (fun _ _ => trivial) hbw (Nat.le_trans hsz hsz2) hl ?_
 ·rw [hb1] at e
  injection e with e
  omega
 ·intro v1 w1 hR1 hB1 hgr hat
  refine h v1 w1 ⟨hR1, hW.grown hgr hsz2 (fun k hk => ?_), ?_⟩
  ·rw [hb1] at hk
   injection hk with hk
   omega
  ·rcases hat with hat | ⟨b3, h3, h4⟩
   ·exact ⟨b, hat.trans hb1, hb2⟩
   ·exact ⟨b3, h3, by omega⟩
theorem jn_C {v : Value} {xs : List Tree} (HJ : Jn w W w' v xs) : ∃ A c, v = .slice A xs.length c ∧ xs.length ≤ c ∧ Kd.C k25 w' A xs.length xs := by
 obtain ⟨A, c, e, hc, hC⟩ := Kd.R_reads HJ.1
 exact ⟨A, c, e, hc, hC⟩
end
end Go.Proofs.YtbndfgoklgdfdaaGreatDoor.P
end
