/- syntax's parser: its results, its state, its small methods; how its methods are called. syntax's parser as plain functions on the tokens that are left. syntax's parser: node, inside, types. (printed by mkp2.py) -/
import Derived.Test.YtbndfgoklgdfdaaGreatDoorSe04
import Derived.Test.YtbndfgoklgdfdaaGreatDoorSe05
import Derived.Test.YtbndfgoklgdfdaaGreatDoorSe12
set_option linter.all false
section
namespace Go.Proofs.YtbndfgoklgdfdaaGreatDoor.P
open Go.RowKit Go.Proofs.YtbndfgoklgdfdaaGreatDoorW.PrintWords Go.Proofs.YtbndfgoklgdfdaaGreatDoorW.PrintLast Go.Proofs.YtbndfgoklgdfdaaGreatDoorW.PrintMore

abbrev Tok := S65
/-- What a method of the parser comes to, the tokens that are left with it: a value; it refuses the next token; too few rounds. -/
inductive PR (α : Type) where
 | out : PR α
 | bad : List Tok → PR α
 | ok : α → List Tok → PR α
def PR.bind {α β : Type} (r : PR α) (f : α → List Tok → PR β) : PR β :=
 match r with
 | .out => .out
 | .bad ts => .bad ts
 | .ok x ts => f x ts
theorem PR.bind_ok {α β : Type} {r : PR α} {x : α} {ts : List Tok} (h : r = .ok x ts) (f : α → List Tok → PR β) : r.bind f = f x ts := by rw [h]; rfl
theorem PR.bind_bad {α β : Type} {r : PR α} {ts : List Tok} (h : r = .bad ts) (f : α → List Tok → PR β) : r.bind f = .bad ts := by rw [h]; rfl
theorem PR.bind_out {α β : Type} {r : PR α} (h : r = .out) (f : α → List Tok → PR β) : r.bind f = .out := by rw [h]; rfl

/-- Is the next token this sign, or this keyword? -/
def isP (s : List UInt8) : List Tok → Bool
 | [] => false
 | t :: _ => t.f1.toList == s && (t.f0 == 3 || t.f0 == 4)
def kindP : List Tok → Int
 | [] => 0
 | t :: _ => t.f0

/-- The operators: signs, kinds, levels. -/
def opsL : List (List UInt8 × Int × Int) := [([111, 45], 27, 0), ([60, 61], 28, 0), ([45, 111], 25, 1), ([61, 62], 26, 1), ([43], 24, 2), ([38], 23, 3), ([42], 22, 4)]
def opV (o : List UInt8 × Int × Int) : Value := .agg #[.string ⟨o.1.toArray⟩, .int .i64 o.2.1, .int .i64 o.2.2]
def opsCells : List Value := opsL.flatMap fun o => [.string ⟨o.1.toArray⟩, .int .i64 o.2.1, .int .i64 o.2.2]
/-- The table of operators lies as the program's text lays it. -/
structure GOK (w : World) : Prop where
 cell : ∀ i, i < 21 → w.cell? ⟨0, i, none⟩ = opsCells[i]?
 pos : 0 < w.heap.size
theorem GOK.range {w : World} (h : GOK w) : w.rangeAt 0 0 opsCells := fun j v hv => by
 rw [Nat.zero_add, h.cell j (by have := (List.getElem?_eq_some_iff.1 hv).1; exact this), hv]
theorem GOK.below {w w' : World} (h : GOK w) (hb : Below w.heap.size w w') : GOK w' :=
 ⟨fun i hi => by rw [World.cell?_of_block (hb.block 0 h.pos)]; exact h.cell i hi, Nat.lt_of_lt_of_le h.pos hb.size⟩
/-- The parser's state: its tokens; those that are left. -/
structure PSt (w0 w : World) (g : Nat) (l ts : List Tok) : Prop where
 st : IsS75 w0 w g l ((l.length : Int) - ts.length)
 suf : ts = l.drop (l.length - ts.length)
 le : ts.length ≤ l.length
 top : l.length ≤ 6000
 below : Below w0.heap.size w0 w
 gok : GOK w0
theorem PSt.gokw {w0 w : World} {g : Nat} {l ts : List Tok} (h : PSt w0 w g l ts) : GOK w :=
 ⟨fun i hi => by rw [World.cell?_of_block (h.below.block 0 h.gok.pos)]; exact h.gok.cell i hi, Nat.lt_of_lt_of_le h.gok.pos h.below.size⟩
theorem PSt.cons {w0 w : World} {g : Nat} {l ts : List Tok} {t : Tok} (h : PSt w0 w g l (t :: ts)) : rd_T65 l ((l.length : Int) - (t :: ts).length) = t ∧ (t :: ts).length ≤ l.length ∧ ts = l.drop (l.length - ts.length) := by
 have h1 := h.suf
 have h2 := h.le
 have hn : ((l.length : Int) - (t :: ts).length).toNat = l.length - (t :: ts).length := by omega
 refine ⟨?_, h2, ?_⟩
 ·unfold rd_T65
  rw [hn]
  have := congrArg List.head? h1
  rw [List.head?_cons, List.head?_drop] at this
  rw [List.getD_eq_getElem?_getD, ← this]
  rfl
 ·have := congrArg List.tail h1
  rw [List.tail_cons, List.tail_drop] at this
  rw [show l.length - ts.length = l.length - (t :: ts).length + 1 by simp at h2 ⊢; omega]
  exact this
theorem is_f_par {w0 w : World} {g : Nat} {l ts : List Tok} (h : PSt w0 w g l ts) (s : ByteArray) : syntax_parser_is.f l ((l.length : Int) - ts.length) s = some (isP s.toList ts, (l.length : Int) - ts.length) := by
 unfold syntax_parser_is.f
 cases ts with
 | nil =>
  rw [if_neg (by simp)]
  rfl
 | cons t ts =>
  have hc := h.cons
  have h2 := h.le
  rw [if_pos (by simp at h2 ⊢; omega), if_pos (by omega), hc.1]
  simp only [isP]
  by_cases h3 : t.f1.toList = s.toList
  ·rw [if_pos h3, beq_iff_eq.2 h3]
   by_cases h4 : t.f0 = 3
   ·rw [if_pos h4, h4]; rfl
   ·rw [if_neg h4, beq_eq_false_iff_ne.2 h4]; rfl
  ·rw [if_neg h3, beq_eq_false_iff_ne.2 h3]
   rfl
theorem kind_f_par {w0 w : World} {g : Nat} {l ts : List Tok} (h : PSt w0 w g l ts) : syntax_parser_kind.f l ((l.length : Int) - ts.length) = some (kindP ts, (l.length : Int) - ts.length) := by
 unfold syntax_parser_kind.f
 cases ts with
 | nil =>
  rw [if_neg (by simp)]
  rfl
 | cons t ts =>
  have hc := h.cons
  have h2 := h.le
  rw [if_pos (by simp at h2 ⊢; omega), if_pos (by omega), hc.1]
  rfl
theorem take_f_par {w0 w : World} {g : Nat} {l ts : List Tok} {t : Tok} (h : PSt w0 w g l (t :: ts)) : syntax_parser_take.f l ((l.length : Int) - (t :: ts).length) = some (t.f1, (l.length : Int) - ts.length) := by
 have hc := h.cons
 have h2 := h.le
 have h3 := h.top
 have e1 : wrap64 (((l.length : Int) - (t :: ts).length) + 1) = (l.length : Int) - ts.length := by
  simp only [List.length_cons] at *
  unfold wrap64
  omega
 have e2 : wrap64 ((l.length : Int) - ts.length - 1) = (l.length : Int) - (t :: ts).length := by
  simp only [List.length_cons] at *
  unfold wrap64
  omega
 unfold syntax_parser_take.f
 rw [e1, e2, if_pos (by omega), if_pos (by simp at h2 ⊢; omega), hc.1]

/-- What a panic of the parser bears. -/
def refusedV (l ts : List Tok) : Value := .iface 73 (.agg #[.int .i64 ((l.length : Int) - ts.length)])
/-- How a method of the parser has refused the tokens that are left. -/
def PBad (w0 w : World) (g : Nat) (l ts : List Tok) (e : Ending) (w' : World) : Prop :=
 e = .panicked [{ v := refusedV l ts, recovered := false }] ∧ PSt w0 w' g l ts ∧ KeepBut w w' g none

set_option maxHeartbeats 1000000 in
theorem refuse_par (w0 w : World) (g : Nat) (l ts : List Tok) (h : PSt w0 w g l ts) :
  Calls Tryz.prog 56 #[.pointer (some ⟨g, 0, none⟩)] w (PBad w0 w g l ts) := by
 obtain ⟨A0, c0, hg, _, _⟩ := h.st
 have c1 : w.cell? ⟨g, 1, none⟩ = some (.int .i64 ((l.length : Int) - ts.length)) := by simp [World.cell?, hg]
 have H := Lib.hid h
 clear h
 go_enter Tryz.func56, Tryz.ntmps56
 go_wp2_with fail
 exact ⟨rfl, rfl, H.out, KeepBut.refl _ _ _⟩

/-- What the parser's next token moves: one token less. -/
theorem PSt.step {w0 w w' : World} {g : Nat} {l ts : List Tok} {t : Tok} (h : PSt w0 w g l (t :: ts)) (hs : IsS75 w0 w' g l ((l.length : Int) - ts.length)) (hb : Below w0.heap.size w0 w') : PSt w0 w' g l ts :=
 ⟨hs, h.cons.2.2, by have := h.le; simp at this; omega, h.top, hb, h.gok⟩
theorem PSt.same {w0 w w' : World} {g : Nat} {l ts : List Tok} (h : PSt w0 w g l ts) (hs : IsS75 w0 w' g l ((l.length : Int) - ts.length)) (hb : Below w0.heap.size w0 w') : PSt w0 w' g l ts :=
 ⟨hs, h.suf, h.le, h.top, hb, h.gok⟩
/-- The call of 'is', as the parser's methods make it. -/
theorem is_par (w0 w : World) (g : Nat) (l ts : List Tok) (h : PSt w0 w g l ts) (s : ByteArray) (b : Bool) (hb : isP s.toList ts = b) :
  Calls Tryz.prog 77 #[.pointer (some ⟨g, 0, none⟩), .string s] w fun e w' => e = .returned (.bool b) ∧ PSt w0 w' g l ts ∧ KeepBut w w' g none := by
 refine (syntax_parser_is.calls g l _ s b _ w0 w h.st h.below (by rw [is_f_par h s, hb])).mono ?_
 rintro e w' ⟨he, hs, hb2, hk⟩
 exact ⟨he, h.same hs hb2, hk⟩
theorem kind_par (w0 w : World) (g : Nat) (l ts : List Tok) (h : PSt w0 w g l ts) (k : Int) (hk : kindP ts = k) :
  Calls Tryz.prog 58 #[.pointer (some ⟨g, 0, none⟩)] w fun e w' => e = .returned (.int .i64 k) ∧ PSt w0 w' g l ts ∧ KeepBut w w' g none := by
 refine (syntax_parser_kind.calls g l _ k _ w0 w h.st h.below (by rw [kind_f_par h, hk])).mono ?_
 rintro e w' ⟨he, hs, hb2, hk⟩
 exact ⟨he, h.same hs hb2, hk⟩
theorem take_par (w0 w : World) (g : Nat) (l ts : List Tok) (t : Tok) (h : PSt w0 w g l (t :: ts)) :
  Calls Tryz.prog 158 #[.pointer (some ⟨g, 0, none⟩)] w fun e w' => e = .returned (.string t.f1) ∧ PSt w0 w' g l ts ∧ KeepBut w w' g none := by
 refine (syntax_parser_take.calls g l _ t.f1 _ w0 w h.st h.below (take_f_par h)).mono ?_
 rintro e w' ⟨he, hs, hb2, hk⟩
 exact ⟨he, h.step hs hb2, hk⟩
/-- 'p.at++', as the methods write it. -/
theorem PSt.next {w0 w : World} {g : Nat} {l ts : List Tok} {t : Tok} (h : PSt w0 w g l (t :: ts)) : wrap64 (((l.length : Int) - (t :: ts).length) + 1) = (l.length : Int) - ts.length := by
 have h2 := h.le
 have h3 := h.top
 simp only [List.length_cons] at *
 unfold wrap64
 omega

theorem PSt.next' {w0 w : World} {g : Nat} {l ts : List Tok} {t : Tok} (h : PSt w0 w g l (t :: ts)) : wrap64 ((l.length : Int) - ((ts.length : Int) + 1) + 1) = (l.length : Int) - ts.length := by
 have := h.next
 rwa [List.length_cons, Int.natCast_add] at this
def wantP (s : List UInt8) (ts : List Tok) : PR Unit :=
 match ts with
 | [] => .bad []
 | t :: ts => if isP s (t :: ts) then .ok () ts else .bad (t :: ts)
theorem isP_cons {s : List UInt8} {ts : List Tok} (h : isP s ts = true) : ∃ t tl, ts = t :: tl := by
 cases ts with
 | nil => simp [isP] at h
 | cons t tl => exact ⟨t, tl, rfl⟩

theorem PSt.cell {w0 w : World} {g : Nat} {l ts : List Tok} (h : PSt w0 w g l ts) : w.cell? ⟨g, 1, none⟩ = some (.int .i64 ((l.length : Int) - ts.length)) := by
 obtain ⟨A0, c0, hg, _, _⟩ := h.st
 exact (blk_cell hg 1).trans rfl
theorem PSt.frozen {w0 w : World} {g : Nat} {l ts : List Tok} (h : PSt w0 w g l ts) : w.frozen? ⟨g, 1, none⟩ = false := by
 obtain ⟨A0, c0, hg, _, _⟩ := h.st
 exact blk_frozen hg 1
/-- Behind 'p.at++'. -/
theorem PSt.put {w0 w : World} {g : Nat} {l ts : List Tok} {t : Tok} (h : PSt w0 w g l (t :: ts)) : PSt w0 (w.setCell ⟨g, 1, none⟩ (.int .i64 ((l.length : Int) - ts.length))) g l ts :=
 h.step (h.st.set_1 _) (below_set h.below h.st.ge)

set_option maxHeartbeats 1000000 in
theorem want_ok (w0 w : World) (g : Nat) (l ts : List Tok) (t : Tok) (s : ByteArray) (h : PSt w0 w g l (t :: ts)) (hs : isP s.toList (t :: ts) = true) :
  Calls Tryz.prog 59 #[.pointer (some ⟨g, 0, none⟩), .string s] w fun e w' => e = .returned (.tuple #[]) ∧ PSt w0 w' g l ts ∧ KeepBut w w' g none := by
 have H := Lib.hid h
 clear h
 go_enter Tryz.func59, Tryz.ntmps59
 go_wp2_with (go_at_call 77; refine (is_par w0 w g l _ H.out s true hs).mono ?_; rintro e w2 ⟨rfl, h2, k2⟩; have H2 := Lib.hid h2; have K2 := Lib.hid k2; have c1 := h2.cell; have f1 := h2.frozen; have hn := h2.next'; clear h2 k2)
 first | go_end0 | skip
 exact ⟨rfl, H2.out.put, K2.out.set_ _ _⟩
set_option maxHeartbeats 1000000 in
theorem want_bad (w0 w : World) (g : Nat) (l ts : List Tok) (s : ByteArray) (h : PSt w0 w g l ts) (hs : isP s.toList ts = false) :
  Calls Tryz.prog 59 #[.pointer (some ⟨g, 0, none⟩), .string s] w (PBad w0 w g l ts) := by
 have H := Lib.hid h
 clear h
 go_enter Tryz.func59, Tryz.ntmps59
 go_wp2_with (first
  | (go_at_call 77; refine (is_par w0 w g l _ H.out s false hs).mono ?_; rintro e w2 ⟨rfl, h2, k2⟩; have H2 := Lib.hid h2; have K2 := Lib.hid k2; clear h2 k2)
  | (go_at_call 56; refine (refuse_par w0 _ g l _ H2.out).mono ?_; rintro e w3 ⟨rfl, h3, k3⟩; have H3 := Lib.hid h3; have K3 := Lib.hid k3; clear h3 k3))
 exact ⟨rfl, rfl, H3.out, K2.out.trans K3.out (.inl rfl)⟩

/-- A small name. -/
def smallP (ts : List Tok) : PR ByteArray :=
 match ts with
 | [] => .bad []
 | t :: tl => if t.f0 = 1 then .ok t.f1 tl else .bad (t :: tl)
/-- A small name, or a capital one. -/
def nameP (ts : List Tok) : PR ByteArray :=
 match ts with
 | [] => .bad []
 | t :: tl => if t.f0 = 1 ∨ t.f0 = 2 then .ok t.f1 tl else .bad (t :: tl)

set_option maxHeartbeats 1000000 in
theorem small_ok (w0 w : World) (g : Nat) (l ts : List Tok) (t : Tok) (h : PSt w0 w g l (t :: ts)) (hs : t.f0 = 1) :
  Calls Tryz.prog 124 #[.pointer (some ⟨g, 0, none⟩)] w fun e w' => e = .returned (.string t.f1) ∧ PSt w0 w' g l ts ∧ KeepBut w w' g none := by
 have H := Lib.hid h
 have HS : Hid (kindP (t :: ts) = 1) := Lib.hid hs
 clear h hs
 go_enter Tryz.func124, Tryz.ntmps124
 go_wp2_with (first
  | (go_at_call 58; refine (kind_par w0 w g l _ H.out 1 HS.out).mono ?_; rintro e w2 ⟨rfl, h2, k2⟩; have H2 := Lib.hid h2; have K2 := Lib.hid k2; clear h2 k2)
  | (go_at_call 158; refine (take_par w0 _ g l _ t H2.out).mono ?_; rintro e w3 ⟨rfl, h3, k3⟩; have H3 := Lib.hid h3; have K3 := Lib.hid k3; clear h3 k3))
 go_ret
 exact ⟨rfl, H3.out, K2.out.trans K3.out (.inl rfl)⟩
set_option maxHeartbeats 1000000 in
theorem small_bad (w0 w : World) (g : Nat) (l ts : List Tok) (h : PSt w0 w g l ts) (hs : kindP ts ≠ 1) :
  Calls Tryz.prog 124 #[.pointer (some ⟨g, 0, none⟩)] w (PBad w0 w g l ts) := by
 have H := Lib.hid h
 have b1 : (kindP ts != 1) = true := bne_iff_ne.2 hs
 have b2 : (kindP ts == 1) = false := beq_eq_false_iff_ne.2 hs
 clear h hs
 go_enter Tryz.func124, Tryz.ntmps124
 go_wp2_with (first
  | (go_at_call 58; refine (kind_par w0 w g l _ H.out _ rfl).mono ?_; rintro e w2 ⟨rfl, h2, k2⟩; have H2 := Lib.hid h2; have K2 := Lib.hid k2; clear h2 k2)
  | (go_at_call 56; refine (refuse_par w0 _ g l _ H2.out).mono ?_; rintro e w3 ⟨rfl, h3, k3⟩; have H3 := Lib.hid h3; have K3 := Lib.hid k3; clear h3 k3))
 exact ⟨rfl, rfl, H3.out, K2.out.trans K3.out (.inl rfl)⟩
set_option maxHeartbeats 1000000 in
theorem name_ok (w0 w : World) (g : Nat) (l ts : List Tok) (t : Tok) (h : PSt w0 w g l (t :: ts)) (hs : t.f0 = 1 ∨ t.f0 = 2) :
  Calls Tryz.prog 123 #[.pointer (some ⟨g, 0, none⟩)] w fun e w' => e = .returned (.string t.f1) ∧ PSt w0 w' g l ts ∧ KeepBut w w' g none := by
 rcases hs with hs | hs
 ·have H := Lib.hid h
  have HS : Hid (kindP (t :: ts) = 1) := Lib.hid hs
  clear h hs
  go_enter Tryz.func123, Tryz.ntmps123
  go_wp2_with (first
   | (go_at_call 58; refine (kind_par w0 w g l _ H.out 1 HS.out).mono ?_; rintro e w2 ⟨rfl, h2, k2⟩; have H2 := Lib.hid h2; have K2 := Lib.hid k2; clear h2 k2)
   | (go_at_call 158; refine (take_par w0 _ g l _ t H2.out).mono ?_; rintro e w3 ⟨rfl, h3, k3⟩; have H3 := Lib.hid h3; have K3 := Lib.hid k3; clear h3 k3))
  go_ret
  exact ⟨rfl, H3.out, K2.out.trans K3.out (.inl rfl)⟩
 ·have H := Lib.hid h
  have HS : Hid (kindP (t :: ts) = 2) := Lib.hid hs
  clear h hs
  go_enter Tryz.func123, Tryz.ntmps123
  go_wp2_with (first
   | (go_at_call 58; refine (kind_par w0 w g l _ H.out 2 HS.out).mono ?_; rintro e w2 ⟨rfl, h2, k2⟩; have H2 := Lib.hid h2; have K2 := Lib.hid k2; clear h2 k2)
   | (go_at_call 58; refine (kind_par w0 w2 g l _ H2.out 2 HS.out).mono ?_; rintro e w4 ⟨rfl, h4, k4⟩; have H4 := Lib.hid h4; have K4 := Lib.hid k4; clear h4 k4)
   | (go_at_call 158; refine (take_par w0 _ g l _ t H4.out).mono ?_; rintro e w3 ⟨rfl, h3, k3⟩; have H3 := Lib.hid h3; have K3 := Lib.hid k3; clear h3 k3))
  go_ret
  exact ⟨rfl, H3.out, (K2.out.trans K4.out (.inl rfl)).trans K3.out (.inl rfl)⟩
set_option maxHeartbeats 1000000 in
theorem name_bad (w0 w : World) (g : Nat) (l ts : List Tok) (h : PSt w0 w g l ts) (hs : kindP ts ≠ 1) (hs2 : kindP ts ≠ 2) :
  Calls Tryz.prog 123 #[.pointer (some ⟨g, 0, none⟩)] w (PBad w0 w g l ts) := by
 have H := Lib.hid h
 have b1 : (kindP ts != 1) = true := bne_iff_ne.2 hs
 have b2 : (kindP ts == 1) = false := beq_eq_false_iff_ne.2 hs
 have b3 : (kindP ts != 2) = true := bne_iff_ne.2 hs2
 have b4 : (kindP ts == 2) = false := beq_eq_false_iff_ne.2 hs2
 clear h hs
 go_enter Tryz.func123, Tryz.ntmps123
 go_wp2_with (first
  | (go_at_call 58; refine (kind_par w0 w g l _ H.out _ rfl).mono ?_; rintro e w2 ⟨rfl, h2, k2⟩; have H2 := Lib.hid h2; have K2 := Lib.hid k2; clear h2 k2)
  | (go_at_call 58; refine (kind_par w0 w2 g l _ H2.out _ rfl).mono ?_; rintro e w4 ⟨rfl, h4, k4⟩; have H4 := Lib.hid h4; have K4 := Lib.hid k4; clear h4 k4)
  | (go_at_call 56; refine (refuse_par w0 _ g l _ H4.out).mono ?_; rintro e w3 ⟨rfl, h3, k3⟩; have H3 := Lib.hid h3; have K3 := Lib.hid k3; clear h3 k3))
 exact ⟨rfl, rfl, H3.out, (K2.out.trans K4.out (.inl rfl)).trans K3.out (.inl rfl)⟩


theorem toL (sl : List UInt8) : (ByteArray.mk sl.toArray).toList = sl := by rw [Lib.toList_data]
theorem wantP_ok {s : List UInt8} {t : Tok} {ts : List Tok} (h : isP s (t :: ts) = true) : wantP s (t :: ts) = .ok () ts := by simp [wantP, h]
theorem wantP_cases (s : List UInt8) (ts : List Tok) : (∃ t tl, ts = t :: tl ∧ isP s ts = true ∧ wantP s ts = .ok () tl) ∨ (isP s ts = false ∧ wantP s ts = .bad ts) := by
 cases ts with
 | nil => exact .inr ⟨rfl, rfl⟩
 | cons t tl =>
  cases h : isP s (t :: tl)
  ·exact .inr ⟨rfl, by simp [wantP, h]⟩
  ·exact .inl ⟨t, tl, rfl, rfl, by simp [wantP, h]⟩

/-- The state of the parser with these tokens left. -/
abbrev SP (w0 : World) (g : Nat) (l ts : List Tok) : World → Prop := fun W => PSt w0 W g l ts
section
variable {w0 w W W' : World} {g : Nat} {l ts ts' : List Tok} {bs : List Bx} {os : List Ow}
theorem pst_stab : ∀ W1 W2, SP w0 g l ts W1 → W2.heap[g]? = W1.heap[g]? → Below w0.heap.size w0 W2 → SP w0 g l ts W2 := fun W1 W2 h hg hb => by
 obtain ⟨A0, c0, h1, h2, h3⟩ := h.st
 exact ⟨⟨A0, c0, hg.trans h1, h2, h3⟩, h.suf, h.le, h.top, hb, h.gok⟩
theorem Fr.begin (h : PSt w0 w g l ts) : Fr w0 w w g (SP w0 g l ts) [] [] :=
 ⟨h, pst_stab, KeepBut.refl _ _ _, h.below, h.st.lt, h.st.ge, h.below.size, by simp, by simp, .nil, .nil⟩
theorem Fr.call (h : Fr w0 w W g (SP w0 g l ts) bs os) (hs : PSt w0 W' g l ts') (hk : KeepBut W W' g none) : Fr w0 w W' g (SP w0 g l ts') bs os := h.moved hs pst_stab hs.below hk
/-- What is left where a method has refused: nothing else that lay has turned. -/
abbrev HBad (w0 w : World) (g : Nat) (l ts : List Tok) (W : World) : Prop := Hid (PSt w0 W g l ts ∧ KeepBut w W g none)
abbrev badE (l ts : List Tok) : Ending := .panicked [{ v := refusedV l ts, recovered := false }]
theorem c_is (HF : Hid (Fr w0 w W g (SP w0 g l ts) bs os)) (sl : List UInt8) {b : Bool} (hb : isP sl ts = b) :
  Calls Tryz.prog 77 #[.pointer (some ⟨g, 0, none⟩), .string ⟨sl.toArray⟩] W fun e W' => e = .returned (.bool b) ∧ Hid (Fr w0 w W' g (SP w0 g l ts) bs os) :=
 (is_par w0 W g l ts HF.out.st _ b (by rw [toL]; exact hb)).mono fun _ _ h => ⟨h.1, Lib.hid (HF.out.call h.2.1 h.2.2)⟩
theorem c_kind (HF : Hid (Fr w0 w W g (SP w0 g l ts) bs os)) {k : Int} (hk : kindP ts = k) :
  Calls Tryz.prog 58 #[.pointer (some ⟨g, 0, none⟩)] W fun e W' => e = .returned (.int .i64 k) ∧ Hid (Fr w0 w W' g (SP w0 g l ts) bs os) :=
 (kind_par w0 W g l ts HF.out.st k hk).mono fun _ _ h => ⟨h.1, Lib.hid (HF.out.call h.2.1 h.2.2)⟩
theorem Fr.badly {F : FuncId} {args : Array Value} (HF : Hid (Fr w0 w W g (SP w0 g l ts) bs os)) (h : Calls Tryz.prog F args W (PBad w0 W g l ts')) : Calls Tryz.prog F args W fun e W' => e = badE l ts' ∧ HBad w0 w g l ts' W' :=
 h.mono fun _ _ h => ⟨h.1, Lib.hid ⟨h.2.1, keepTr HF.out.keep h.2.2⟩⟩
theorem c_want (HF : Hid (Fr w0 w W g (SP w0 g l ts) bs os)) (sl : List UInt8) (h : wantP sl ts = .ok () ts') :
  Calls Tryz.prog 59 #[.pointer (some ⟨g, 0, none⟩), .string ⟨sl.toArray⟩] W fun e W' => e = .returned (.tuple #[]) ∧ Hid (Fr w0 w W' g (SP w0 g l ts') bs os) := by
 rcases wantP_cases sl ts with ⟨t, tl, rfl, h1, h2⟩ | ⟨h1, h2⟩
 ·rw [h2] at h
  obtain rfl : tl = ts' := by injection h
  exact (want_ok w0 W g l tl t _ HF.out.st (by rw [toL]; exact h1)).mono fun _ _ h => ⟨h.1, Lib.hid (HF.out.call h.2.1 h.2.2)⟩
 ·rw [h2] at h; cases h
theorem c_want_bad (HF : Hid (Fr w0 w W g (SP w0 g l ts) bs os)) (sl : List UInt8) (h : wantP sl ts = .bad ts') :
  Calls Tryz.prog 59 #[.pointer (some ⟨g, 0, none⟩), .string ⟨sl.toArray⟩] W fun e W' => e = badE l ts' ∧ HBad w0 w g l ts' W' := by
 rcases wantP_cases sl ts with ⟨t, tl, rfl, h1, h2⟩ | ⟨h1, h2⟩
 ·rw [h2] at h; cases h
 ·rw [h2] at h
  obtain rfl : ts = ts' := by injection h
  exact Fr.badly HF (want_bad w0 W g l ts _ HF.out.st (by rw [toL]; exact h1))
theorem c_small (HF : Hid (Fr w0 w W g (SP w0 g l ts) bs os)) {s : ByteArray} (h : smallP ts = .ok s ts') :
  Calls Tryz.prog 124 #[.pointer (some ⟨g, 0, none⟩)] W fun e W' => e = .returned (.string s) ∧ Hid (Fr w0 w W' g (SP w0 g l ts') bs os) := by
 cases ts with
 | nil => cases h
 | cons t tl =>
  by_cases h1 : t.f0 = 1
  ·simp only [smallP, if_pos h1] at h
   obtain ⟨rfl, rfl⟩ : t.f1 = s ∧ tl = ts' := by injection h; exact ⟨‹_›, ‹_›⟩
   exact (small_ok w0 W g l tl t HF.out.st h1).mono fun _ _ h => ⟨h.1, Lib.hid (HF.out.call h.2.1 h.2.2)⟩
  ·simp only [smallP, if_neg h1] at h; cases h
theorem c_small_bad (HF : Hid (Fr w0 w W g (SP w0 g l ts) bs os)) (h : smallP ts = .bad ts') :
  Calls Tryz.prog 124 #[.pointer (some ⟨g, 0, none⟩)] W fun e W' => e = badE l ts' ∧ HBad w0 w g l ts' W' := by
 have hk : kindP ts ≠ 1 ∧ ts = ts' := by
  cases ts with
  | nil => exact ⟨by decide, by injection h⟩
  | cons t tl =>
   by_cases h1 : t.f0 = 1
   ·simp only [smallP, if_pos h1] at h; cases h
   ·simp only [smallP, if_neg h1] at h
    exact ⟨h1, by injection h⟩
 obtain ⟨h1, rfl⟩ := hk
 exact Fr.badly HF (small_bad w0 W g l ts HF.out.st h1)
theorem c_name (HF : Hid (Fr w0 w W g (SP w0 g l ts) bs os)) {s : ByteArray} (h : nameP ts = .ok s ts') :
  Calls Tryz.prog 123 #[.pointer (some ⟨g, 0, none⟩)] W fun e W' => e = .returned (.string s) ∧ Hid (Fr w0 w W' g (SP w0 g l ts') bs os) := by
 cases ts with
 | nil => cases h
 | cons t tl =>
  by_cases h1 : t.f0 = 1 ∨ t.f0 = 2
  ·simp only [nameP, if_pos h1] at h
   obtain ⟨rfl, rfl⟩ : t.f1 = s ∧ tl = ts' := by injection h; exact ⟨‹_›, ‹_›⟩
   exact (name_ok w0 W g l tl t HF.out.st h1).mono fun _ _ h => ⟨h.1, Lib.hid (HF.out.call h.2.1 h.2.2)⟩
  ·simp only [nameP, if_neg h1] at h; cases h
theorem c_name_bad (HF : Hid (Fr w0 w W g (SP w0 g l ts) bs os)) (h : nameP ts = .bad ts') :
  Calls Tryz.prog 123 #[.pointer (some ⟨g, 0, none⟩)] W fun e W' => e = badE l ts' ∧ HBad w0 w g l ts' W' := by
 have hk : (kindP ts ≠ 1 ∧ kindP ts ≠ 2) ∧ ts = ts' := by
  cases ts with
  | nil => exact ⟨by decide, by injection h⟩
  | cons t tl =>
   by_cases h1 : t.f0 = 1 ∨ t.f0 = 2
   ·simp only [nameP, if_pos h1] at h; cases h
   ·simp only [nameP, if_neg h1] at h
    exact ⟨⟨fun e => h1 (.inl e), fun e => h1 (.inr e)⟩, by injection h⟩
 obtain ⟨⟨h1, h2⟩, rfl⟩ := hk
 exact Fr.badly HF (name_bad w0 W g l ts HF.out.st h1 h2)

/-- How a method that reads a tree comes back. -/
def PPost (w0 w : World) (g : Nat) (l : List Tok) : PR Tree → Ending → World → Prop
 | .out, _, _ => False
 | .bad ts, e, w' => PBad w0 w g l ts e w'
 | .ok x ts, e, w' => (∃ A c, e = .returned (.agg (tN x A c)) ∧ Kd.R k25 25 w' w.heap.size (fun _ => True) (.slice A x.f2.length c) x.f2) ∧ PSt w0 w' g l ts ∧ KeepBut w w' g none
/-- The same for a list of trees. -/
def PPostL (w0 w : World) (g : Nat) (l : List Tok) : PR (List Tree) → Ending → World → Prop
 | .out, _, _ => False
 | .bad ts, e, w' => PBad w0 w g l ts e w'
 | .ok x ts, e, w' => (∃ A c, e = .returned (.slice A x.length c) ∧ Kd.R k25 25 w' w.heap.size (fun _ => True) (.slice A x.length c) x) ∧ PSt w0 w' g l ts ∧ KeepBut w w' g none
/-- A method's contract: wherever it is called (args: by the parser's block). -/
def PAll (F : FuncId) (args : Nat → Array Value) (f : List Tok → PR Tree) : Prop :=
 ∀ (w0 w : World) (g : Nat) (l ts : List Tok), PSt w0 w g l ts → f ts ≠ .out → Calls Tryz.prog F (args g) w (PPost w0 w g l (f ts))
def PAllL (F : FuncId) (args : Nat → Array Value) (f : List Tok → PR (List Tree)) : Prop :=
 ∀ (w0 w : World) (g : Nat) (l ts : List Tok), PSt w0 w g l ts → f ts ≠ .out → Calls Tryz.prog F (args g) w (PPostL w0 w g l (f ts))
theorem c_tree {F : FuncId} {args : Nat → Array Value} {f : List Tok → PR Tree} {x : Tree} (HF : Hid (Fr w0 w W g (SP w0 g l ts) bs os)) (h : PAll F args f) (hr : f ts = .ok x ts') :
  Calls Tryz.prog F (args g) W fun e W' => ∃ A c ok, e = .returned (.agg (tN x A c)) ∧ Hid (Fr w0 w W' g (SP w0 g l ts') bs (⟨ok, .slice A x.f2.length c, x.f2⟩ :: os)) := by
 have h2 := h w0 W g l ts HF.out.st (by rw [hr]; exact fun e => by cases e)
 rw [hr] at h2
 refine h2.mono ?_
 rintro e W' ⟨⟨A, c, he, hR⟩, hs, hk⟩
 exact ⟨A, c, _, he, Lib.hid (HF.out.tree (HF.out.call hs hk) hR)⟩
theorem c_treeBad {F : FuncId} {args : Nat → Array Value} {f : List Tok → PR Tree} (HF : Hid (Fr w0 w W g (SP w0 g l ts) bs os)) (h : PAll F args f) (hr : f ts = .bad ts') :
  Calls Tryz.prog F (args g) W fun e W' => e = badE l ts' ∧ HBad w0 w g l ts' W' := by
 have h2 := h w0 W g l ts HF.out.st (by rw [hr]; exact fun e => by cases e)
 rw [hr] at h2
 exact Fr.badly HF h2
theorem c_list {F : FuncId} {args : Nat → Array Value} {f : List Tok → PR (List Tree)} {x : List Tree} (HF : Hid (Fr w0 w W g (SP w0 g l ts) bs os)) (h : PAllL F args f) (hr : f ts = .ok x ts') :
  Calls Tryz.prog F (args g) W fun e W' => ∃ A c ok, e = .returned (.slice A x.length c) ∧ Hid (Fr w0 w W' g (SP w0 g l ts') bs (⟨ok, .slice A x.length c, x⟩ :: os)) := by
 have h2 := h w0 W g l ts HF.out.st (by rw [hr]; exact fun e => by cases e)
 rw [hr] at h2
 refine h2.mono ?_
 rintro e W' ⟨⟨A, c, he, hR⟩, hs, hk⟩
 exact ⟨A, c, _, he, Lib.hid (HF.out.tree (HF.out.call hs hk) hR)⟩
theorem c_listBad {F : FuncId} {args : Nat → Array Value} {f : List Tok → PR (List Tree)} (HF : Hid (Fr w0 w W g (SP w0 g l ts) bs os)) (h : PAllL F args f) (hr : f ts = .bad ts') :
  Calls Tryz.prog F (args g) W fun e W' => e = badE l ts' ∧ HBad w0 w g l ts' W' := by
 have h2 := h w0 W g l ts HF.out.st (by rw [hr]; exact fun e => by cases e)
 rw [hr] at h2
 exact Fr.badly HF h2
/-- 'p.at++'. -/
theorem ev_next {ops : Array Oper} {rest : List Oper} {o : Oper} {a : Act} {Q : Exit → Act → World → Prop} {p : Tmp} {v : Operand} {t : Tok} {tl : List Tok} (HF : Hid (Fr w0 w W g (SP w0 g l (t :: tl)) bs os)) (ho : o.op = .store 3 (.tmp p) v) (hd : o.dst = none) (hgd : o.guard = none)
  (hp : a.eval (.tmp p) = .pointer (some ⟨g, 1, none⟩)) (hv : a.eval v = .int .i64 (wrap64 ((l.length : Int) - ((tl.length : Int) + 1) + 1)))
  (h : ∀ W', Hid (Fr w0 w W' g (SP w0 g l tl) bs os) → wpList Tryz.prog ops Q rest a W') : wpList Tryz.prog ops Q (o :: rest) a W := by
 rw [HF.out.st.next'] at hv
 refine wpList_plain hgd fun K hK => ?_
 unfold Oper.wp
 rw [run_cell ho hp hv (by kernel_rfl) (.inr ⟨_, rfl⟩) HF.out.st.cell HF.out.st.frozen]
 show K (a.put o.dst undef) _
 rw [hd]
 exact hK _ _ (h _ (Lib.hid (HF.out.call HF.out.st.put ((KeepBut.refl W g none).set_ _ _))))
/-- p.at, as the walk tells it where a token is left. -/
theorem Fr.at1 {t : Tok} {tl : List Tok} (h : Fr w0 w W g (SP w0 g l (t :: tl)) bs os) : W.cell? ⟨g, 1, none⟩ = some (.int .i64 ((l.length : Int) - ((tl.length : Int) + 1))) := by
 have := h.st.cell
 rwa [List.length_cons, Int.natCast_add] at this
end
end Go.Proofs.YtbndfgoklgdfdaaGreatDoor.P
end
section
namespace Go.Proofs.YtbndfgoklgdfdaaGreatDoor.P
open Go.RowKit Go.Proofs.YtbndfgoklgdfdaaGreatDoorW.PrintWords Go.Proofs.YtbndfgoklgdfdaaGreatDoorW.PrintLast Go.Proofs.YtbndfgoklgdfdaaGreatDoorW.PrintMore

def nodeP (ts : List Tok) : PR Tree := (nameP ts).bind fun s tl => .ok ⟨if kindP ts = 2 then 16 else 15, s, []⟩ tl
/-- Something between two signs. -/
def inP (o s : List UInt8) (f : List Tok → PR Tree) (ts : List Tok) : PR Tree :=
 (wantP o ts).bind fun _ t1 => (f t1).bind fun n t2 => (wantP s t2).bind fun _ t3 => .ok n t3
mutual
def simpleP : Nat → List Tok → PR Tree
 | 0, _ => .out
 | k + 1, ts => if isP [40] ts then inP [40] [41] (typP k) ts else (smallP ts).bind fun s tl => .ok ⟨15, s, []⟩ tl
def typP : Nat → List Tok → PR Tree
 | 0, _ => .out
 | k + 1, ts => (simpleP k ts).bind fun n tl => if isP [45, 62] tl then (typP k tl.tail).bind fun m t2 => .ok ⟨31, ⟨#[]⟩, [n, m]⟩ t2 else .ok n tl
end
/-- What stands behind a binder's sign. -/
def binderP (kt : Nat) (kind : Int) (body : List Tok → PR Tree) (ts : List Tok) : PR Tree :=
 (nameP ts).bind fun s t1 =>
  if isP [58] t1 then (typP kt t1.tail).bind fun ty t2 => (wantP [46] t2).bind fun _ t3 => (body t3).bind fun b t4 => .ok ⟨kind, s, [ty, b]⟩ t4
  else (wantP [46] t1).bind fun _ t3 => (body t3).bind fun b t4 => .ok ⟨kind, s, [b]⟩ t4
/-- The arguments that follow. -/
def argsP (f : List Tok → PR Tree) : Nat → List Tok → List Tree → PR (List Tree)
 | 0, _, _ => .out
 | k + 1, ts, acc =>
  if 6000 < acc.length then .out
  else if isP [40] ts then (inP [40] [41] f ts).bind fun n tl => argsP f k tl (acc ++ [n])
  else if kindP ts = 1 then (nodeP ts).bind fun n tl => argsP f k tl (acc ++ [n])
  else if kindP ts = 2 then (nodeP ts).bind fun n tl => argsP f k tl (acc ++ [n])
  else .ok acc ts
def termP : Nat → List Tok → PR Tree
 | 0, _ => .out
 | k + 1, ts =>
  if isP [92] ts then binderP k 17 (termP k) ts.tail
  else if isP [40] ts then inP [40] [41] (termP k) ts
  else (nodeP ts).bind fun n tl => (argsP (termP k) k tl []).bind fun l t2 => .ok ⟨n.f0, n.f1, l⟩ t2
/-- The operator of a level that follows. -/
def nextP (lv : Int) (ts : List Tok) : Option (List UInt8 × Int × Int) := opsL.find? fun o => o.2.2 == lv && isP o.1 ts
mutual
/-- A formula of a level. -/
def levelP : Nat → Nat → List Tok → PR Tree
 | 0, _, _ => .out
 | k + 1, lv, ts => if lv = 5 then partP k ts else (levelP k (lv + 1) ts).bind fun n tl => loopP k lv n tl
def loopP : Nat → Nat → Tree → List Tok → PR Tree
 | 0, _, _, _ => .out
 | k + 1, lv, n, ts =>
  match nextP lv ts with
  | none => .ok n ts
  | some o =>
   if lv = 0 then (levelP k (lv + 1) ts.tail).bind fun m t2 => loopP k lv ⟨o.2.1, ⟨#[]⟩, [n, m]⟩ t2
   else (levelP k lv ts.tail).bind fun m t2 => .ok ⟨o.2.1, ⟨#[]⟩, [n, m]⟩ t2
def partP : Nat → List Tok → PR Tree
 | 0, _ => .out
 | k + 1, ts =>
  if isP [33] ts then (partP k ts.tail).bind fun n tl => .ok ⟨29, ⟨#[]⟩, [n]⟩ tl
  else if isP [97, 108, 108] ts then binderP k 18 (levelP k 0) ts.tail
  else if isP [101, 120] ts then binderP k 19 (levelP k 0) ts.tail
  else if isP [111, 110, 101] ts then .ok ⟨20, ⟨#[]⟩, []⟩ ts.tail
  else if isP [116, 111, 112] ts then .ok ⟨21, ⟨#[]⟩, []⟩ ts.tail
  else if isP [123] ts then (inP [123] [125] (levelP k 0) ts).bind fun n tl => .ok ⟨30, ⟨#[]⟩, [n]⟩ tl
  else if isP [40] ts then inP [40] [41] (levelP k 0) ts
  else (smallP ts).bind fun s tl => (argsP (termP k) k tl []).bind fun l t2 => .ok ⟨15, s, l⟩ t2
end
def namesL : Nat → List Tok → List Tree → PR (List Tree)
 | 0, _, _ => .out
 | k + 1, ts, acc =>
  if 6000 < acc.length then .out
  else if isP [44] ts then (smallP ts.tail).bind fun s tl => namesL k tl (acc ++ [⟨15, s, []⟩])
  else .ok acc ts
def namesP (k : Nat) (ts : List Tok) : PR (List Tree) := (smallP ts).bind fun s tl => namesL k tl [⟨15, s, []⟩]
def listP (k : Nat) (kd : Int) (ts : List Tok) : PR Tree := (namesP k ts).bind fun l tl => .ok ⟨kd, ⟨#[]⟩, l⟩ tl
def constP (k : Nat) (kd : Int) (ts : List Tok) : PR Tree :=
 (listP k kd ts).bind fun n t1 => (wantP [58] t1).bind fun _ t2 => (typP k t2).bind fun y t3 => .ok ⟨n.f0, n.f1, n.f2 ++ [y]⟩ t3
def predT (f : List Tok → PR Tree) (kd : Int) (s : ByteArray) : Nat → List Tok → List Tree → PR Tree
 | 0, _, _ => .out
 | k + 1, ts, acc =>
  if 6000 < acc.length then .out
  else if isP [40] ts then (f ts).bind fun y tl => predT f kd s k tl (acc ++ [y])
  else if kindP ts = 1 then (f ts).bind fun y tl => predT f kd s k tl (acc ++ [y])
  else .ok ⟨kd, s, acc⟩ ts
def predP (k : Nat) (kd : Int) (ts : List Tok) : PR Tree := (smallP ts).bind fun s t1 => predT (simpleP k) kd s k t1 []
def modeT (kd : Int) (s : ByteArray) : Nat → List Tok → List Tree → PR Tree
 | 0, _, _ => .out
 | k + 1, ts, acc =>
  if 6000 < acc.length then .out
  else if kindP ts = 1 then (nodeP ts).bind fun y tl => modeT kd s k tl (acc ++ [y])
  else .ok ⟨kd, s, acc⟩ ts
def modeP (k : Nat) (kd : Int) (ts : List Tok) : PR Tree := (smallP ts).bind fun s t1 => modeT kd s k t1 []
def ruleP (k : Nat) (kd : Int) (ts : List Tok) : PR Tree :=
 (smallP ts).bind fun s t1 => (wantP [58] t1).bind fun _ t2 => (levelP k 0 t2).bind fun y t3 => .ok ⟨kd, s, [y]⟩ t3
def singleP (kd : Int) (ts : List Tok) : PR Tree := (smallP ts).bind fun s tl => .ok ⟨kd, s, []⟩ tl
theorem namesL_len : ∀ (k : Nat) (ts : List Tok) (acc l : List Tree) (t2 : List Tok), namesL k ts acc = .ok l t2 → l.length ≤ 6000
 | 0, _, _, _, _, h => by simp [namesL] at h
 | k + 1, ts, acc, l, t2, h => by
  simp only [namesL] at h
  by_cases h6 : 6000 < acc.length
  ·rw [if_pos h6] at h; cases h
  ·rw [if_neg h6] at h
   by_cases h1 : isP [44] ts = true
   ·rw [if_pos h1] at h
    cases h2 : smallP ts.tail with
    | out => rw [h2] at h; cases h
    | bad _ => rw [h2] at h; cases h
    | ok s tl => rw [h2] at h; exact namesL_len k _ _ _ _ h
   ·rw [if_neg h1] at h
    obtain ⟨rfl, _⟩ : acc = l ∧ ts = t2 := by injection h; exact ⟨‹_›, ‹_›⟩
    omega
theorem listP_len {k : Nat} {kd : Int} {ts : List Tok} {n : Tree} {t2 : List Tok} (h : listP k kd ts = .ok n t2) : n.f2.length ≤ 6000 := by
 unfold listP namesP at h
 cases h1 : smallP ts with
 | out => rw [h1] at h; cases h
 | bad _ => rw [h1] at h; cases h
 | ok s tl =>
  rw [h1] at h
  cases h2 : namesL k tl [⟨15, s, []⟩] with
  | out => simp only [PR.bind, h2] at h; cases h
  | bad _ => simp only [PR.bind, h2] at h; cases h
  | ok l t3 =>
   simp only [PR.bind, h2] at h
   have := namesL_len _ _ _ _ _ h2
   injection h with h _
   rw [← h]
   exact this
end Go.Proofs.YtbndfgoklgdfdaaGreatDoor.P
end
section
set_option linter.unusedSimpArgs false
namespace Go.Proofs.YtbndfgoklgdfdaaGreatDoor.P
open Go.RowKit Go.Proofs.YtbndfgoklgdfdaaGreatDoorW.PrintWords Go.Proofs.YtbndfgoklgdfdaaGreatDoorW.PrintLast Go.Proofs.YtbndfgoklgdfdaaGreatDoorW.PrintMore
set_option maxRecDepth 100000 in
set_option maxHeartbeats 8000000 in
theorem node_par  : PAll 80 (fun g => #[.pointer (some ⟨g, 0, none⟩)]) (nodeP) := by
 intro w0 w g l ts h hne
 obtain ⟨r, hr⟩ : ∃ r, (nodeP) ts = r := ⟨_, rfl⟩
 have HNE := Lib.hid hne
 have HF := Lib.hid (Fr.begin h)
 rw [hr] at HNE ⊢
 simp only [nodeP] at hr
 have HR := Lib.hid hr
 clear h hne hr
 go_enter Tryz.func80, Tryz.ntmps80
 go_wp2_with (first
  | ((with_reducible refine gate_dst (N := 2) rfl ?_); refine ev_box HF rfl rfl (run_node rfl) ?_; clear HF; intro b1 w1 HF))
 by_cases h2 : kindP ts = 2
 ·have e1_ := trivial
  refine (c_kind HF (k := 2) h2).mono ?_
  clear HF
  rintro e w3 ⟨rfl, HF⟩
  have h_ := HR.out
  rw [if_pos h2] at h_
  clear HR
  have HR := Lib.hid h_
  clear h_
  go_wp2_with fail
  cases h4 : nameP ts with
  | out => exact absurd ((PR.bind_out h4 _).symm.trans HR.out).symm HNE.out
  | bad t_ =>
   obtain rfl : PR.bad t_ = r := (PR.bind_bad h4 _).symm.trans HR.out
   refine (c_name_bad HF h4).mono ?_
   rintro e w_ ⟨rfl, HE⟩
   exact ⟨rfl, rfl, HE.out⟩
  | ok s_ t1 =>
   have h_ := (PR.bind_ok h4 _).symm.trans HR.out
   clear HR
   try dsimp only at h_
   have HR := Lib.hid h_
   clear h_
   refine (c_name HF h4).mono ?_
   clear HF h4
   rintro e w5 ⟨rfl, HF⟩
   replace HF := Lib.hid HF.out.nil
   go_wp2_with (first
    | ((with_reducible refine gate_store (t := 25) (p := 2) rfl ?_); refine ev_put (p := 2) HF rfl rfl rfl rfl rfl rfl rfl ?_; clear HF; intro w6 HF))
   obtain rfl : PR.ok ⟨16, s_, []⟩ t1 = r := HR.out
   refine bodyPost_ret (results_cell_row rfl _ _ _ 25 _ (0, 0) _ rfl HF.out.b0 Tryz.underlying25 rfl (by kernel_rfl)) rfl ?_
   exact ⟨⟨_, _, (by first | rfl | simp), HF.out.made⟩, HF.out.st, HF.out.keep⟩
 ·have e1_ : (kindP ts == 2) = false := beq_eq_false_iff_ne.2 h2
  refine (c_kind HF (k := kindP ts) rfl).mono ?_
  clear HF
  rintro e w7 ⟨rfl, HF⟩
  have h_ := HR.out
  rw [if_neg h2] at h_
  clear HR
  have HR := Lib.hid h_
  clear h_
  go_wp2_with fail
  cases h8 : nameP ts with
  | out => exact absurd ((PR.bind_out h8 _).symm.trans HR.out).symm HNE.out
  | bad t_ =>
   obtain rfl : PR.bad t_ = r := (PR.bind_bad h8 _).symm.trans HR.out
   refine (c_name_bad HF h8).mono ?_
   rintro e w_ ⟨rfl, HE⟩
   exact ⟨rfl, rfl, HE.out⟩
  | ok s_ t1 =>
   have h_ := (PR.bind_ok h8 _).symm.trans HR.out
   clear HR
   try dsimp only at h_
   have HR := Lib.hid h_
   clear h_
   refine (c_name HF h8).mono ?_
   clear HF h8
   rintro e w9 ⟨rfl, HF⟩
   replace HF := Lib.hid HF.out.nil
   go_wp2_with (first
    | ((with_reducible refine gate_store (t := 25) (p := 2) rfl ?_); refine ev_put (p := 2) HF rfl rfl rfl rfl rfl rfl rfl ?_; clear HF; intro w10 HF))
   obtain rfl : PR.ok ⟨15, s_, []⟩ t1 = r := HR.out
   refine bodyPost_ret (results_cell_row rfl _ _ _ 25 _ (0, 0) _ rfl HF.out.b0 Tryz.underlying25 rfl (by kernel_rfl)) rfl ?_
   exact ⟨⟨_, _, (by first | rfl | simp), HF.out.made⟩, HF.out.st, HF.out.keep⟩

set_option maxRecDepth 100000 in
set_option maxHeartbeats 8000000 in
theorem inside_typ (f : List Tok → PR Tree) (ih : PAll 46 (fun g => #[.pointer (some ⟨g, 0, none⟩)]) f) (o s : List UInt8) : PAll 79 (fun g => #[.pointer (some ⟨g, 0, none⟩), .string ⟨o.toArray⟩, .string ⟨s.toArray⟩, .func (.func 46) #[] #[]]) (inP o s f) := by
 intro w0 w g l ts h hne
 obtain ⟨r, hr⟩ : ∃ r, (inP o s f) ts = r := ⟨_, rfl⟩
 have HNE := Lib.hid hne
 have HF := Lib.hid (Fr.begin h)
 rw [hr] at HNE ⊢
 simp only [inP] at hr
 have HR := Lib.hid hr
 clear h hne hr
 go_enter Tryz.func79, Tryz.ntmps79
 go_wp2_with (first
  | ((with_reducible refine gate_dst (N := 8) rfl ?_); refine ev_box HF rfl rfl (run_node rfl) ?_; clear HF; intro b1 w11 HF))
 cases h12 : wantP o ts with
 | out => exact absurd ((PR.bind_out h12 _).symm.trans HR.out).symm HNE.out
 | bad t_ =>
  obtain rfl : PR.bad t_ = r := (PR.bind_bad h12 _).symm.trans HR.out
  refine (c_want_bad HF o h12).mono ?_
  rintro e w_ ⟨rfl, HE⟩
  exact ⟨rfl, rfl, HE.out⟩
 | ok u_ t1_ =>
  have h_ := (PR.bind_ok h12 _).symm.trans HR.out
  clear HR
  try dsimp only at h_
  have HR := Lib.hid h_
  clear h_
  refine (c_want HF o h12).mono ?_
  clear HF h12
  rintro e w13 ⟨rfl, HF⟩
  go_wp2_with fail
  cases h14 : f t1_ with
  | out => exact absurd ((PR.bind_out h14 _).symm.trans HR.out).symm HNE.out
  | bad t_ =>
   obtain rfl : PR.bad t_ = r := (PR.bind_bad h14 _).symm.trans HR.out
   refine (c_treeBad HF ih h14).mono ?_
   rintro e w_ ⟨rfl, HE⟩
   exact ⟨rfl, rfl, HE.out⟩
  | ok x_ t2_ =>
   have h_ := (PR.bind_ok h14 _).symm.trans HR.out
   clear HR
   try dsimp only at h_
   have HR := Lib.hid h_
   clear h_
   refine (c_tree HF ih h14).mono ?_
   clear HF h14
   rintro e w15 ⟨Au, cu, oku, rfl, HF⟩
   go_wp2_with (first
    | ((with_reducible refine gate_dst (N := 9) rfl ?_); refine ev_box HF rfl rfl (run_node rfl) ?_; clear HF; intro b2 w16 HF)
    | ((with_reducible refine gate_store (t := 25) (p := 9) rfl ?_); refine ev_put (p := 9) HF rfl rfl rfl rfl rfl rfl rfl ?_; clear HF; intro w17 HF))
   cases h18 : wantP s t2_ with
   | out => exact absurd ((PR.bind_out h18 _).symm.trans HR.out).symm HNE.out
   | bad t_ =>
    obtain rfl : PR.bad t_ = r := (PR.bind_bad h18 _).symm.trans HR.out
    refine (c_want_bad HF s h18).mono ?_
    rintro e w_ ⟨rfl, HE⟩
    exact ⟨rfl, rfl, HE.out⟩
   | ok u_ t3_ =>
    have h_ := (PR.bind_ok h18 _).symm.trans HR.out
    clear HR
    try dsimp only at h_
    have HR := Lib.hid h_
    clear h_
    refine (c_want HF s h18).mono ?_
    clear HF h18
    rintro e w19 ⟨rfl, HF⟩
    obtain ⟨q20a, q20b, q20c⟩ := rd3 HF.out.b0
    replace HF := Lib.hid HF.out.swap
    go_wp2_with (first
     | ((with_reducible refine gate_store (t := 25) (p := 8) rfl ?_); refine ev_put (p := 8) HF rfl rfl rfl rfl rfl rfl rfl ?_; clear HF; clear q20a q20b q20c; intro w21 HF))
    obtain rfl : PR.ok x_ t3_ = r := HR.out
    refine bodyPost_ret (results_cell_row rfl _ _ _ 25 _ (0, 0) _ rfl HF.out.b0 Tryz.underlying25 rfl (by kernel_rfl)) rfl ?_
    exact ⟨⟨_, _, (by first | rfl | simp), HF.out.made⟩, HF.out.st, HF.out.keep⟩

set_option maxRecDepth 100000 in
set_option maxHeartbeats 8000000 in
theorem simple_par (k : Nat) (ih : PAll 46 (fun g => #[.pointer (some ⟨g, 0, none⟩)]) (typP k)) : PAll 82 (fun g => #[.pointer (some ⟨g, 0, none⟩)]) (simpleP (k + 1)) := by
 intro w0 w g l ts h hne
 obtain ⟨r, hr⟩ : ∃ r, (simpleP (k + 1)) ts = r := ⟨_, rfl⟩
 have HNE := Lib.hid hne
 have HF := Lib.hid (Fr.begin h)
 rw [hr] at HNE ⊢
 simp only [simpleP] at hr
 have HR := Lib.hid hr
 clear h hne hr
 go_enter Tryz.func82, Tryz.ntmps82
 go_wp2_with (first
  | ((with_reducible refine gate_dst (N := 2) rfl ?_); refine ev_box HF rfl rfl (run_node rfl) ?_; clear HF; intro b1 w22 HF))
 cases h23 : isP [40] ts
 ·have h_ := (if_neg (Bool.eq_false_iff.1 h23)).symm.trans HR.out
  clear HR
  try dsimp only at h_
  have HR := Lib.hid h_
  clear h_
  refine (c_is HF [40] h23).mono ?_
  clear HF h23
  rintro e w24 ⟨rfl, HF⟩
  go_wp2_with fail
  cases h25 : smallP ts with
  | out => exact absurd ((PR.bind_out h25 _).symm.trans HR.out).symm HNE.out
  | bad t_ =>
   obtain rfl : PR.bad t_ = r := (PR.bind_bad h25 _).symm.trans HR.out
   refine (c_small_bad HF h25).mono ?_
   rintro e w_ ⟨rfl, HE⟩
   exact ⟨rfl, rfl, HE.out⟩
  | ok s_ t1_ =>
   have h_ := (PR.bind_ok h25 _).symm.trans HR.out
   clear HR
   try dsimp only at h_
   have HR := Lib.hid h_
   clear h_
   refine (c_small HF h25).mono ?_
   clear HF h25
   rintro e w26 ⟨rfl, HF⟩
   replace HF := Lib.hid HF.out.nil
   go_wp2_with (first
    | ((with_reducible refine gate_store (t := 25) (p := 2) rfl ?_); refine ev_put (p := 2) HF rfl rfl rfl rfl rfl rfl rfl ?_; clear HF; intro w27 HF))
   obtain rfl : PR.ok ⟨15, s_, []⟩ t1_ = r := HR.out
   refine bodyPost_ret (results_cell_row rfl _ _ _ 25 _ (0, 0) _ rfl HF.out.b0 Tryz.underlying25 rfl (by kernel_rfl)) rfl ?_
   exact ⟨⟨_, _, (by first | rfl | simp), HF.out.made⟩, HF.out.st, HF.out.keep⟩
 ·obtain ⟨t28, tl29, rfl⟩ := isP_cons h23
  have h_ := (if_pos h23).symm.trans HR.out
  clear HR
  try simp only [List.tail_cons] at h_
  try dsimp only at h_
  have HR := Lib.hid h_
  clear h_
  refine (c_is HF [40] h23).mono ?_
  clear HF h23
  rintro e w30 ⟨rfl, HF⟩
  go_wp2_with fail
  cases h31 : inP [40] [41] (typP k) (t28 :: tl29) with
  | out => exact absurd (h31.symm.trans HR.out).symm HNE.out
  | bad t_ =>
   obtain rfl : PR.bad t_ = r := h31.symm.trans HR.out
   refine (c_treeBad HF (inside_typ (typP k) ih [40] [41]) h31).mono ?_
   rintro e w_ ⟨rfl, HE⟩
   exact ⟨rfl, rfl, HE.out⟩
  | ok x_ tz_ =>
   have h_ := h31.symm.trans HR.out
   clear HR
   try dsimp only at h_
   have HR := Lib.hid h_
   clear h_
   refine (c_tree HF (inside_typ (typP k) ih [40] [41]) h31).mono ?_
   clear HF h31
   rintro e w32 ⟨Au, cu, oku, rfl, HF⟩
   go_wp2_with (first
    | ((with_reducible refine gate_store (t := 25) (p := 2) rfl ?_); refine ev_put (p := 2) HF rfl rfl rfl rfl rfl rfl rfl ?_; clear HF; intro w33 HF))
   obtain rfl : PR.ok x_ tz_ = r := HR.out
   refine bodyPost_ret (results_cell_row rfl _ _ _ 25 _ (0, 0) _ rfl HF.out.b0 Tryz.underlying25 rfl (by kernel_rfl)) rfl ?_
   exact ⟨⟨_, _, (by first | rfl | simp), HF.out.made⟩, HF.out.st, HF.out.keep⟩

set_option maxRecDepth 100000 in
set_option maxHeartbeats 8000000 in
theorem typ_par (k : Nat) (ih : PAll 46 (fun g => #[.pointer (some ⟨g, 0, none⟩)]) (typP k)) (ihs : PAll 82 (fun g => #[.pointer (some ⟨g, 0, none⟩)]) (simpleP k)) : PAll 46 (fun g => #[.pointer (some ⟨g, 0, none⟩)]) (typP (k + 1)) := by
 intro w0 w g l ts h hne
 obtain ⟨r, hr⟩ : ∃ r, (typP (k + 1)) ts = r := ⟨_, rfl⟩
 have HNE := Lib.hid hne
 have HF := Lib.hid (Fr.begin h)
 rw [hr] at HNE ⊢
 simp only [typP] at hr
 have HR := Lib.hid hr
 clear h hne hr
 go_enter Tryz.func46, Tryz.ntmps46
 go_wp2_with (first
  | ((with_reducible refine gate_dst (N := 2) rfl ?_); refine ev_box HF rfl rfl (run_node rfl) ?_; clear HF; intro b1 w34 HF))
 cases h35 : simpleP k ts with
 | out => exact absurd ((PR.bind_out h35 _).symm.trans HR.out).symm HNE.out
 | bad t_ =>
  obtain rfl : PR.bad t_ = r := (PR.bind_bad h35 _).symm.trans HR.out
  refine (c_treeBad HF ihs h35).mono ?_
  rintro e w_ ⟨rfl, HE⟩
  exact ⟨rfl, rfl, HE.out⟩
 | ok x_ t1_ =>
  have h_ := (PR.bind_ok h35 _).symm.trans HR.out
  clear HR
  try dsimp only at h_
  have HR := Lib.hid h_
  clear h_
  refine (c_tree HF ihs h35).mono ?_
  clear HF h35
  rintro e w36 ⟨Au, cu, oku, rfl, HF⟩
  go_wp2_with (first
   | ((with_reducible refine gate_dst (N := 3) rfl ?_); refine ev_box HF rfl rfl (run_node rfl) ?_; clear HF; intro b2 w37 HF)
   | ((with_reducible refine gate_store (t := 25) (p := 3) rfl ?_); refine ev_put (p := 3) HF rfl rfl rfl rfl rfl rfl rfl ?_; clear HF; intro w38 HF))
  cases h39 : isP [45, 62] t1_
  ·have h_ := (if_neg (Bool.eq_false_iff.1 h39)).symm.trans HR.out
   clear HR
   try dsimp only at h_
   have HR := Lib.hid h_
   clear h_
   refine (c_is HF [45, 62] h39).mono ?_
   clear HF h39
   rintro e w40 ⟨rfl, HF⟩
   obtain ⟨q41a, q41b, q41c⟩ := rd3 HF.out.b0
   replace HF := Lib.hid HF.out.swap
   go_wp2_with (first
    | ((with_reducible refine gate_store (t := 25) (p := 2) rfl ?_); refine ev_put (p := 2) HF rfl rfl rfl rfl rfl rfl rfl ?_; clear HF; clear q41a q41b q41c; intro w42 HF))
   obtain rfl : PR.ok x_ t1_ = r := HR.out
   refine bodyPost_ret (results_cell_row rfl _ _ _ 25 _ (0, 0) _ rfl HF.out.b0 Tryz.underlying25 rfl (by kernel_rfl)) rfl ?_
   exact ⟨⟨_, _, (by first | rfl | simp), HF.out.made⟩, HF.out.st, HF.out.keep⟩
  ·obtain ⟨t43, tl44, rfl⟩ := isP_cons h39
   have h_ := (if_pos h39).symm.trans HR.out
   clear HR
   try simp only [List.tail_cons] at h_
   try dsimp only at h_
   have HR := Lib.hid h_
   clear h_
   refine (c_is HF [45, 62] h39).mono ?_
   clear HF h39
   rintro e w45 ⟨rfl, HF⟩
   have q46 := HF.out.at1
   go_wp2_with (first
    | ((with_reducible refine gate_store (t := 3) (p := 16) rfl ?_); refine ev_next (p := 16) HF rfl rfl rfl rfl rfl ?_; clear HF; clear q46; intro w47 HF; have HF2_ := Lib.hid HF.out.swap; clear HF; have HF := HF2_; clear HF2_))
   replace HF := Lib.hid HF.out.drew
   refine start_ (n := 6) (S := (fun w' => w'.cell? ⟨b2, 0, none⟩ = some (.int .i64 x_.f0) ∧ w'.cell? ⟨b2, 1, none⟩ = some (.string x_.f1) ∧ w'.cell? ⟨b2, 2, none⟩ = some (.slice Au x_.f2.length cu))) (ds := [3, 5]) #[false, false, false, false, false, false] (by kernel_rfl) rfl rfl ?_ (fun hHeld => ?_)
   ·exact rd3 HF.out.b1
   refine pq 1 #[false, true, false, false, false, false] (h := ?_)
   refine tq hHeld 0 (fl 6 2) (h := ?_)
   refine one_ (i := 2) (N := some 19) #[true, true, true, false, false, false] rfl rfl (by kernel_rfl) (by decide) (fun K hK => ?_)
   clear hHeld
   go_simp
   go_wp2_with fail
   cases h48 : typP k tl44 with
   | out => exact absurd ((PR.bind_out h48 _).symm.trans HR.out).symm HNE.out
   | bad t_ =>
    obtain rfl : PR.bad t_ = r := (PR.bind_bad h48 _).symm.trans HR.out
    refine (c_treeBad HF ih h48).mono ?_
    rintro e w_ ⟨rfl, HE⟩
    exact ⟨rfl, rfl, HE.out⟩
   | ok y_ t2_ =>
    have h_ := (PR.bind_ok h48 _).symm.trans HR.out
    clear HR
    try dsimp only at h_
    have HR := Lib.hid h_
    clear h_
    refine (c_tree HF ih h48).mono ?_
    clear HF h48
    rintro e w49 ⟨Au2, cu2, oku2, rfl, HF⟩
    refine hK.out _ _ (rd3 HF.out.b1) (fun hHeld => ?_)
    clear hK K
    (try simp only [Act.put, List.setIfInBounds_toArray, List.set_cons_zero, List.set_cons_succ])
    refine last_ (i := 3) (N := some 20) #[true, true, true, true, false, false] rfl rfl (by kernel_rfl) (by decide) (fun K hK => ?_)
    go_simp
    refine hK.out _ _ ?_
    clear hK K
    (try simp only [Act.put, List.setIfInBounds_toArray, List.set_cons_zero, List.set_cons_succ])
    refine pq 4 (fl 6 5) (h := ?_)
    refine last_ (i := 5) (N := none) #[true, true, true, true, true, true] rfl rfl (by kernel_rfl) (by decide) (fun K hK => ?_)
    replace HF := Lib.hid HF.out.lit2 x_ y_ rfl rfl
    refine st_put (p := 2) HF rfl rfl rfl rfl rfl rfl rfl ?_
    clear HF
    intro w50 HF
    refine hK.out _ _ ?_
    clear hK K
    (try simp only [Act.put, List.setIfInBounds_toArray, List.set_cons_zero, List.set_cons_succ])
    refine done_ (by kernel_rfl) ?_
    skip
    try simp only [Act.put, List.setIfInBounds_toArray, List.set_cons_zero, List.set_cons_succ]
    go_wp2_with fail
    obtain rfl : PR.ok ⟨31, ⟨#[]⟩, [x_, y_]⟩ t2_ = r := HR.out
    refine bodyPost_ret (results_cell_row rfl _ _ _ 25 _ (0, 0) _ rfl HF.out.b0 Tryz.underlying25 rfl (by kernel_rfl)) rfl ?_
    exact ⟨⟨_, _, (by first | rfl | simp), HF.out.made⟩, HF.out.st, HF.out.keep⟩

theorem typ_all : ∀ k, PAll 82 (fun g => #[.pointer (some ⟨g, 0, none⟩)]) (simpleP k) ∧ PAll 46 (fun g => #[.pointer (some ⟨g, 0, none⟩)]) (typP k)
 | 0 => ⟨fun _ _ _ _ _ _ h => absurd rfl h, fun _ _ _ _ _ _ h => absurd rfl h⟩
 | k + 1 => ⟨simple_par k (typ_all k).2, typ_par k (typ_all k).2 (typ_all k).1⟩
end Go.Proofs.YtbndfgoklgdfdaaGreatDoor.P
end
