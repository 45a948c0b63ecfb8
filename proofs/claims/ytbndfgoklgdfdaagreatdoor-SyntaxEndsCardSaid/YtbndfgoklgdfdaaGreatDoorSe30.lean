/- SyntaxJoined and SyntaxEnds, the plain laws: a text behind another one; a text without its last token. What the reference's Join writes of a text's tokens is scanned as these tokens. SyntaxEnds (printed by mkends.py). The table of operators, as the row's condition lays it. -/
import Derived.Test.YtbndfgoklgdfdaaGreatDoorSe29
import Derived.Test.YtbndfgoklgdfdaaGreatDoorSe24
import Derived.Test.YtbndfgoklgdfdaaGreatDoorSe28
import Derived.Test.YtbndfgoklgdfdaaGreatDoorSe25
import Derived.Test.YtbndfgoklgdfdaaGreatDoorRows
import Derived.Test.YtbndfgoklgdfdaaGreatDoorSe13
import Derived.WalkKit
import Derived.ProofKit
import Derived.LaidMore
import Derived.OpenShut
import Derived.Deep.Strs
import Derived.Stop.Joined
set_option linter.all false
section
namespace Go.Proofs.YtbndfgoklgdfdaaGreatDoor.P
open Go.RowKit Go.Proofs.YtbndfgoklgdfdaaGreatDoorW.PrintWords Go.Proofs.YtbndfgoklgdfdaaGreatDoorW.PrintLast Go.Proofs.YtbndfgoklgdfdaaGreatDoorW.PrintMore
theorem parse_ok {f : List Tok → PR Tree} {s : ByteArray} {n : Tree} {p : Int} (hne : f (scanL s.data.toList).1 ≠ .out) (h : parseT f s = (n, p, 0)) : ∃ l, scanL s.data.toList = (l, 0, 0) ∧ f l = .ok n [] ∧ checkT n = 0 ∧ p = 0 := by
 unfold parseT at h
 obtain ⟨l, a, e, hsc⟩ : ∃ l a e, scanL s.data.toList = (l, a, e) := ⟨_, _, _, rfl⟩
 rw [hsc] at h hne
 dsimp only at h hne
 by_cases he : e = 0
 ·subst he
  rw [if_pos rfl] at h
  obtain ⟨_, ha, _⟩ := toks_of_scanL hsc
  subst ha
  refine ⟨l, hsc, ?_⟩
  cases hf : f l with
  | out => exact absurd hf hne
  | bad ts => rw [hf] at h; simp at h
  | ok x ts =>
   rw [hf] at h
   cases ts with
   | cons a ts => simp at h
   | nil =>
    simp only [List.isEmpty_nil, if_true] at h
    by_cases hc : checkT x = 0
    ·rw [if_pos hc] at h
     simp only [Prod.mk.injEq] at h
     obtain ⟨rfl, h2, _⟩ := h
     exact ⟨rfl, hc, h2.symm⟩
    ·rw [if_neg hc] at h
     simp only [Prod.mk.injEq] at h
     exact absurd h.2.2 hc
 ·rw [if_neg he] at h
  simp only [Prod.mk.injEq] at h
  exact absurd h.2.2 he
theorem parse_of {f : List Tok → PR Tree} {s : ByteArray} {n : Tree} {l : List Tok} (hs : scanL s.data.toList = (l, 0, 0)) (hf : f l = .ok n []) : parseT f s = if checkT n = 0 then (n, 0, 0) else (zT, 0, checkT n) := by
 unfold parseT
 rw [hs]
 dsimp only
 rw [if_pos rfl, hf]
 rfl
section
variable {α : Type} {Q : α → α → Prop} {p : List Tok → PR α}
theorem er_nil {r : PR α} {x : α} (h : r.er = .ok x []) : r = .ok x [] := by
 cases r with
 | out => cases h
 | bad l => cases h
 | ok y l =>
  simp only [PR.er, PR.ok.injEq, List.map_eq_nil_iff] at h
  rw [h.1, h.2]
theorem er_bad {r : PR α} (h : r.er = .bad []) : r = .bad [] := by
 cases r with
 | out => cases h
 | ok y l => cases h
 | bad l =>
  simp only [PR.er, PR.bad.injEq, List.map_eq_nil_iff] at h
  rw [h]
theorem er_out {r : PR α} (h : r.er = .out) : r = .out := by
 cases r with
 | out => rfl
 | ok y l => cases h
 | bad l => cases h
/-- Tokens that lie elsewhere are read alike. -/
theorem Loc.moved (h : Loc Q p) {l m : List Tok} (hm : m.map er = l.map er) : (p m).er = (p l).er := by rw [← h.inv, ← h.inv, hm]
end
/-- SyntaxEnds: a valid text without its last token: valid, or refused at its end. -/
theorem ends_law {Q : Tree → Tree → Prop} {p : List Tok → PR Tree} (hp : Loc Q p) (hq : ∀ x y, Q x y → checkT y = 0 → checkT x = 0) {s s2 : ByteArray} {l m : List Tok} {t : Tok} {n : Tree} {a : Int}
  (o1 : p (scanL s.data.toList).1 ≠ .out) (h : parseT p s = (n, a, 0)) (hs : (scanL s.data.toList).1 = l ++ [t]) (hs2 : scanL s2.data.toList = (m, 0, 0)) (hm : m.map er = l.map er) (o2 : p m ≠ .out) :
  (∃ x, parseT p s2 = (x, 0, 0)) ∨ parseT p s2 = (zT, (s2.size : Int), 20) := by
 obtain ⟨l2, hl, f1, c1, _⟩ := parse_ok o1 h
 rw [hl] at hs
 dsimp only at hs
 subst hs
 have hr := hp.rel l t
 have he := hp.moved hm
 rw [f1] at hr
 cases hpl : p l with
 | out => rw [hpl] at he; exact absurd (er_out he) o2
 | bad b =>
  cases b with
  | nil =>
   rw [hpl] at he
   right
   unfold parseT
   rw [hs2]
   dsimp only
   rw [if_pos rfl, er_bad he]
   rfl
  | cons b bs => rw [hpl] at hr; cases hr
 | ok x b =>
  cases b with
  | cons b bs => rw [hpl] at hr; cases hr
  | nil =>
   rw [hpl] at hr he
   left
   have hc : checkT x = 0 := by
    cases hr with
    | grown _ _ g => exact hq _ _ g c1
   rw [parse_of hs2 (er_nil he), if_pos hc]
   exact ⟨x, rfl⟩
end Go.Proofs.YtbndfgoklgdfdaaGreatDoor.P
end
section
namespace Go.Proofs.YtbndfgoklgdfdaaGreatDoor.P
open Go.RowKit Go.Proofs.YtbndfgoklgdfdaaGreatDoorW.PrintWords Go.Proofs.YtbndfgoklgdfdaaGreatDoorW.PrintLast Go.Proofs.YtbndfgoklgdfdaaGreatDoorW.PrintMore
theorem okT_iff (x : S65) : okT x = true ↔ ∃ k : Nat, x.f0 = k ∧ tok (bsT x) = some (k, (bsT x).length) ∧ (bsT x).length ≤ 40 := by
 rw [okT_vTok]
 unfold vTok
 show (match tok (bsT x) with | none => false | some (k, n) => (k : Int) == x.f0 && n == (bsT x).length && decide ((bsT x).length ≤ 40)) = true ↔ _
 cases ht : tok (bsT x) with
 | none => simp
 | some p =>
  obtain ⟨k, n⟩ := p
  simp only [Bool.and_eq_true, beq_iff_eq, decide_eq_true_eq, Option.some.injEq, Prod.mk.injEq]
  constructor
  ·rintro ⟨⟨h1, h2⟩, h3⟩; exact ⟨k, h1.symm, ⟨rfl, h2⟩, h3⟩
  ·rintro ⟨k', h1, ⟨h2, h3⟩, h4⟩; subst h2; exact ⟨⟨h1.symm, h3⟩, h4⟩
theorem tok_skip0 {l : List UInt8} {p : Nat × Nat} (h : tok l = some p) : skipN false l = 0 := by
 by_cases h0 : skipN false l = 0
 ·exact h0
 ·rw [tok_blank h0] at h; cases h
theorem skip_app {l t : List UInt8} (hl : l ≠ []) (h : skipN false l = 0) : skipN false (l ++ t) = 0 := by
 match l, hl with
 | b :: r, _ =>
  simp only [List.cons_append, skipN] at h ⊢
  by_cases hb : blankB b = true
  ·rw [if_pos hb] at h; omega
  ·rw [if_neg hb] at h ⊢
   by_cases h37 : b = 37
   ·rw [if_pos h37] at h; omega
   ·rw [if_neg h37]
theorem bsT_ne {x : S65} {k n : Nat} (h : tok (bsT x) = some (k, n)) : bsT x ≠ [] := by
 intro e
 rw [e] at h
 cases h
theorem toks_ok : ∀ (toks : List S65) (l : List UInt8) (i : Nat), Toks l i toks → ∀ t ∈ toks, okT t = true
 | [], _, _, _, _, h => by cases h
 | t :: ts, l, i, ⟨k, n, ht, h40, he, h⟩, u, hu => by
  rcases List.mem_cons.1 hu with rfl | hu
  ·rw [he]
   refine (okT_iff _).2 ⟨k, rfl, ?_, ?_⟩
   ·show tok (l.take n) = some (k, (l.take n).length)
    rw [List.length_take, Nat.min_eq_left (tok_le ht).2]
    exact tok_take l k n ht
   ·show (l.take n).length ≤ 40
    rw [List.length_take]
    omega
  ·exact toks_ok ts _ _ h u hu
theorem tok_ok {x : S65} (h : okT x = true) : tok (bsT x) = some (x.f0.toNat, (bsT x).length) ∧ (bsT x).length ≤ 40 ∧ 1 ≤ (bsT x).length ∧ ((x.f0.toNat : Nat) : Int) = x.f0 := by
 obtain ⟨k, h1, h2, h3⟩ := (okT_iff x).1 h
 have := tok_le h2
 rw [h1, Int.toNat_natCast]
 exact ⟨h2, h3, this.1, rfl⟩
theorem skip_ok {y : S65} (h : okT y = true) (t : List UInt8) : skipN false (bsT y ++ t) = 0 := by
 obtain ⟨h1, _, _, _⟩ := tok_ok h
 exact skip_app (bsT_ne h1) (tok_skip0 h1)
theorem toksJ : ∀ (l : List Tok) (i : Nat), (∀ t ∈ l, okT t = true) → ∃ m, Toks (wrJ l) i m ∧ m.map er = l.map er
 | [], _, _ => ⟨[], rfl, rfl⟩
 | t :: r, i, h => by
  obtain ⟨h1, h40, hp, hk⟩ := tok_ok (h t (by simp))
  have hne := bsT_ne h1
  cases r with
  | nil =>
   refine ⟨[⟨t.f0, t.f1, i⟩], ⟨t.f0.toNat, (bsT t).length, ?_, h40, ?_, ?_⟩, rfl⟩
   ·show tok (bsT t ++ []) = _
    rw [List.append_nil, h1]
   ·show S65.mk _ _ _ = S65.mk _ ⟨((bsT t ++ []).take (bsT t).length).toArray⟩ _
    rw [List.append_nil, List.take_length, hk]
    rfl
   ·show restT (bsT t ++ []) (bsT t).length = []
    unfold restT
    rw [List.append_nil, List.drop_length]
    rfl
  | cons u r =>
   have hd : (bsT t ++ 32 :: wrJ (u :: r)).drop (bsT t).length = 32 :: wrJ (u :: r) := List.drop_left
   have hs : skipN false (32 :: wrJ (u :: r)) = 1 := by
    rw [skipN, if_pos (by decide)]
    have : skipN false (wrJ (u :: r)) = 0 := skip_ok (h u (by simp)) (restJ r)
    rw [this]
   obtain ⟨m, hm, he⟩ := toksJ (u :: r) (i + (bsT t).length + 1) (fun x hx => h x (List.mem_cons_of_mem _ hx))
   refine ⟨⟨t.f0, t.f1, i⟩ :: m, ⟨t.f0.toNat, (bsT t).length, ?_, h40, ?_, ?_⟩, ?_⟩
   ·show tok (bsT t ++ 32 :: wrJ (u :: r)) = _
    rw [tok_stop _ _ _ (.inr (.inl rfl)) hne, h1]
   ·show S65.mk _ _ _ = S65.mk _ ⟨((bsT t ++ 32 :: wrJ (u :: r)).take (bsT t).length).toArray⟩ _
    rw [List.take_left, hk]
    rfl
   ·show Toks (restT (bsT t ++ 32 :: wrJ (u :: r)) (bsT t).length) (i + (bsT t).length + skipN false ((bsT t ++ 32 :: wrJ (u :: r)).drop (bsT t).length)) m
    unfold restT
    rw [hd, hs]
    exact hm
   ·rw [List.map_cons, List.map_cons, he]
    rfl
theorem skip_wrJ {l : List Tok} (h : ∀ t ∈ l, okT t = true) : skipN false (wrJ l) = 0 := by
 cases l with
 | nil => rfl
 | cons t r => exact skip_ok (h t (by simp)) (restJ r)
/-- What Join writes: scanned as the tokens, or nothing. -/
theorem scanJ {l : List Tok} (h : ∀ t ∈ l, okT t = true) (h6 : l.length ≤ 6000) : ∃ m, scanL (strJ l).data.toList = (m, 0, 0) ∧ (m.map er = l.map er ∨ m = [] ∧ (strJ l).size = 0) := by
 unfold strJ
 split
 ·rename_i h2
  obtain ⟨m, hm, he⟩ := toksJ l 0 h
  have hlen : m.length = l.length := by have := congrArg List.length he; simpa using this
  refine ⟨m, ?_, .inl he⟩
  show scanL (wrJ l).toArray.toList = _
  rw [List.toList_toArray]
  refine scanL_of_toks h2 ?_ (by omega)
  rw [skip_wrJ h]
  exact hm
 ·exact ⟨[], rfl, .inr ⟨rfl, rfl⟩⟩
theorem ok_of_scan {s : ByteArray} {l : List Tok} (h : scanL s.data.toList = (l, 0, 0)) : ∀ t ∈ l, okT t = true := toks_ok _ _ _ (toks_of_scanL h).2.2.1
/-- SyntaxEnds over what Join writes. -/
theorem ends_both {Q : Tree → Tree → Prop} {p : List Tok → PR Tree} (hp : Loc Q p) (hq : ∀ x y, Q x y → checkT y = 0 → checkT x = 0) (h0 : p [] = .bad [] ∨ ∃ x, p [] = .ok x [] ∧ checkT x = 0) {s : ByteArray} {l : List Tok} {n : Tree} {a : Int}
  (o1 : p (scanL s.data.toList).1 ≠ .out) (h : parseT p s = (n, a, 0)) (hne : (scanL s.data.toList).1 ≠ []) (hl : (scanL s.data.toList).1.dropLast = l) (o2 : p (scanL (strJ l).data.toList).1 ≠ .out) :
  (∃ x, parseT p (strJ l) = (x, 0, 0)) ∨ parseT p (strJ l) = (zT, ((strJ l).size : Int), 20) := by
 obtain ⟨l2, hl2, _⟩ := parse_ok o1 h
 have hs : (scanL s.data.toList).1 = l ++ [(scanL s.data.toList).1.getLast hne] := by rw [← hl]; exact (List.dropLast_concat_getLast hne).symm
 have hok := ok_of_scan hl2
 have h6 := (toks_of_scanL hl2).2.2.2
 have hsub : ∀ t ∈ l, okT t = true := fun t ht => hok t (by rw [hl2] at hl; exact List.dropLast_subset _ (hl ▸ ht))
 have hlen : l.length ≤ 6000 := by rw [← hl, hl2]; simp; omega
 obtain ⟨m, hm, he | ⟨rfl, hz⟩⟩ := scanJ hsub hlen
 ·rw [hm] at o2
  exact ends_law hp hq o1 h hs hm he o2
 ·rcases h0 with h0 | ⟨x, h0, hc⟩
  ·right
   unfold parseT
   rw [hm]
   dsimp only
   rw [if_pos rfl, h0]
   rfl
  ·left
   rw [parse_of hm h0, if_pos hc]
   exact ⟨x, rfl⟩
theorem text0 : ∀ k, textP (k + 1) [] = .ok ⟨1, ⟨#[]⟩, []⟩ [] ∧ checkT ⟨1, ⟨#[]⟩, []⟩ = 0 := fun k => ⟨by simp [textP, textT], by kernel_rfl⟩
theorem D.bad_ {α : Type} {r : PR α} (h : D r) (ho : r ≠ .out) : r = .bad [] := by
 cases h
 ·exact absurd rfl ho
 ·rfl
end Go.Proofs.YtbndfgoklgdfdaaGreatDoor.P
end
section
set_option linter.unusedSimpArgs false
namespace Go.Proofs.YtbndfgoklgdfdaaGreatDoor.P
open Go.RowKit Go.Proofs.YtbndfgoklgdfdaaGreatDoorW.PrintWords Go.Proofs.YtbndfgoklgdfdaaGreatDoorW.PrintLast Go.Proofs.YtbndfgoklgdfdaaGreatDoorW.PrintMore
theorem run_sc {o : Oper} {a : Act} {W : World} (ho : o.op = .alloc 41) : (execOp a.eval o).run Tryz.prog W = .ok (.value (.pointer (some ⟨W.heap.size, 0, none⟩))) (W.alloc (.cells #[nilS, .int .i64 0, .int .i64 0] 41 (0, 0))) := by
 unfold execOp
 rw [ho]
 first | (go_simp; done) | (go_simp; rfl)
/-- The reader of a kind of text. -/
def pW (k : Nat) (v : Int) : List Tok → PR Tree := if v = 0 then textP k else if v = 1 then levelP k 0 else if v = 2 then termP k else typP k
theorem fine_W (ts : List Tok) (kt : Tk ts) (h : ts.length ≤ 6000) (k : Nat) (hk : roundsP ts ≤ k) (v : Int) : pW k v ts ≠ .out := by
 unfold pW
 split
 ·exact (text_fine ts kt h k hk).1
 split
 ·exact (form_fine ts kt h k hk).1
 split
 ·exact (term_fine ts kt h k hk).1
 ·exact (typ_fine ts kt k hk).1
theorem ends_W {k : Nat} {v : Int} {s : ByteArray} {l : List Tok} {n : Tree} {a : Int} (hk : 0 < k) (o1 : pW k v (scanL s.data.toList).1 ≠ .out) (h : parseT (pW k v) s = (n, a, 0)) (hne : (scanL s.data.toList).1 ≠ []) (hl : (scanL s.data.toList).1.dropLast = l)
  (o2 : pW k v (scanL (strJ l).data.toList).1 ≠ .out) (o3 : pW k v [] ≠ .out) : (∃ x, parseT (pW k v) (strJ l) = (x, 0, 0)) ∨ parseT (pW k v) (strJ l) = (zT, ((strJ l).size : Int), 20) := by
 by_cases h1 : v = 0
 ·have e : pW k v = textP k := by unfold pW; rw [if_pos h1]
  rw [e] at o1 o2 o3 h ⊢
  obtain ⟨k, rfl⟩ : ∃ m, k = m + 1 := ⟨k - 1, by omega⟩
  exact ends_both (loc_text _) (fun _ _ h => h.elim) (.inr ⟨_, text0 k⟩) o1 h hne hl o2
 by_cases h2 : v = 1
 ·have e : pW k v = levelP k 0 := by unfold pW; rw [if_neg h1, if_pos h2]
  rw [e] at o1 o2 o3 h ⊢
  exact ends_both ((loc_level k).1 0) (fun _ _ => gr_check) (.inl ((level_d k 0).bad_ o3)) o1 h hne hl o2
 by_cases h3 : v = 2
 ·have e : pW k v = termP k := by unfold pW; rw [if_neg h1, if_neg h2, if_pos h3]
  rw [e] at o1 o2 o3 h ⊢
  exact ends_both (loc_term k) (fun _ _ => gr_check) (.inl ((term_d k).bad_ o3)) o1 h hne hl o2
 ·have e : pW k v = typP k := by unfold pW; rw [if_neg h1, if_neg h2, if_neg h3]
  rw [e] at o1 o2 o3 h ⊢
  exact ends_both (loc_typ k).2 (fun _ _ h => h.elim) (.inl ((typ_d k).bad_ o3)) o1 h hne hl o2
def PostP (n : Tree) (q e : Int) (w : World) (x : Ending) (w' : World) : Prop := ∃ A c, x = .returned (.tuple #[.agg (tN n A c), .int .i64 q, .int .i64 e]) ∧ Kd.R k25 25 w' w.heap.size (fun _ => True) (.slice A n.f2.length c) n.f2 ∧ Below w.heap.size w w'

set_option maxRecDepth 100000 in
set_option maxHeartbeats 8000000 in
theorem parsed_on (k : Nat) (v : Int) (hv : v = 0 ∨ v = 1 ∨ v = 2 ∨ v = 3) (s : ByteArray) (hk : roundsP (scanL s.data.toList).1 ≤ k) (hs : s.size ≤ strMax) (w : World) (hg : GOK w) :
  Calls Tryz.prog 23 #[.string s, .int .i64 v] w (PostP (parseT (pW k v) s).1 (parseT (pW k v) s).2.1 (parseT (pW k v) s).2.2 w) := by
 have HG := Lib.hid hg
 have HF := Lib.hid (Fz.refl w)
 obtain ⟨X, hX⟩ : ∃ X, parseT (pW k v) s = X := ⟨_, rfl⟩
 rw [hX]
 unfold PostP
 rcases hv with rfl | rfl | rfl | rfl
 ·have hpp : pW k 0 = textP k := by unfold pW; simp
  rw [hpp] at hX
  have hp := fun (w : World) (hg : GOK w) => Parse_onK k s hk hs w hg
  rw [hX] at hp
  have HP := Lib.hid hp
  clear hp hpp hX hk hs hg
  go_enter Tryz.func23, Tryz.ntmps23
  go_wp2_with (first
   | ((with_reducible refine gate_dst (N := 4) rfl ?_); refine ez_box (t := 25) (cs := zN) HF rfl rfl (run_node rfl) ?_; clear HF; intro pn w1 HF)
   | (go_at_call 8; refine (HP.out _ (HG.out.below HF.out.below)).mono ?_; rintro e w2 ⟨A, c, rfl, hR_, hb_⟩; replace HF := Lib.hid (HF.out.row hb_ (Nat.le_refl _) hR_); clear hR_ hb_; have HF2_ := Lib.hid HF.out.swap; clear HF; have HF := HF2_; clear HF2_)
   | ((with_reducible refine gate_store (t := 25) (p := 4) rfl ?_); refine ez_put (p := 4) HF rfl rfl rfl rfl rfl rfl rfl ?_; clear HF; intro w3 HF))
  obtain ⟨q4a, q4b, q4c⟩ := rd3 HF.out.b0
  refine bodyPost_ret (v := .tuple #[.agg (tN X.1 A c), .int .i64 X.2.1, .int .i64 X.2.2]) (by simp [results, Tryz.results23, go_sem, q4a, q4b, q4c]) rfl ?_
  exact ⟨A, c, rfl, Kd.R_mono (show Kd.R k25 25 _ _ _ (.slice A X.1.f2.length c) X.1.f2 from HF.out.b1) (fun _ _ => trivial), HF.out.below⟩
 ·have hpp : pW k 1 = levelP k 0 := by unfold pW; simp
  rw [hpp] at hX
  have hp := fun (w : World) (hg : GOK w) => ParseForm_onK k s hk hs w hg
  rw [hX] at hp
  have HP := Lib.hid hp
  clear hp hpp hX hk hs hg
  go_enter Tryz.func23, Tryz.ntmps23
  go_wp2_with (first
   | ((with_reducible refine gate_dst (N := 4) rfl ?_); refine ez_box (t := 25) (cs := zN) HF rfl rfl (run_node rfl) ?_; clear HF; intro pn w5 HF)
   | (go_at_call 17; refine (HP.out _ (HG.out.below HF.out.below)).mono ?_; rintro e w6 ⟨A, c, rfl, hR_, hb_⟩; replace HF := Lib.hid (HF.out.row hb_ (Nat.le_refl _) hR_); clear hR_ hb_; have HF2_ := Lib.hid HF.out.swap; clear HF; have HF := HF2_; clear HF2_)
   | ((with_reducible refine gate_store (t := 25) (p := 4) rfl ?_); refine ez_put (p := 4) HF rfl rfl rfl rfl rfl rfl rfl ?_; clear HF; intro w7 HF))
  obtain ⟨q8a, q8b, q8c⟩ := rd3 HF.out.b0
  refine bodyPost_ret (v := .tuple #[.agg (tN X.1 A c), .int .i64 X.2.1, .int .i64 X.2.2]) (by simp [results, Tryz.results23, go_sem, q8a, q8b, q8c]) rfl ?_
  exact ⟨A, c, rfl, Kd.R_mono (show Kd.R k25 25 _ _ _ (.slice A X.1.f2.length c) X.1.f2 from HF.out.b1) (fun _ _ => trivial), HF.out.below⟩
 ·have hpp : pW k 2 = termP k := by unfold pW; simp
  rw [hpp] at hX
  have hp := fun (w : World) (hg : GOK w) => ParseTerm_onK k s hk hs w hg
  rw [hX] at hp
  have HP := Lib.hid hp
  clear hp hpp hX hk hs hg
  go_enter Tryz.func23, Tryz.ntmps23
  go_wp2_with (first
   | ((with_reducible refine gate_dst (N := 4) rfl ?_); refine ez_box (t := 25) (cs := zN) HF rfl rfl (run_node rfl) ?_; clear HF; intro pn w9 HF)
   | (go_at_call 19; refine (HP.out _ (HG.out.below HF.out.below)).mono ?_; rintro e w10 ⟨A, c, rfl, hR_, hb_⟩; replace HF := Lib.hid (HF.out.row hb_ (Nat.le_refl _) hR_); clear hR_ hb_; have HF2_ := Lib.hid HF.out.swap; clear HF; have HF := HF2_; clear HF2_)
   | ((with_reducible refine gate_store (t := 25) (p := 4) rfl ?_); refine ez_put (p := 4) HF rfl rfl rfl rfl rfl rfl rfl ?_; clear HF; intro w11 HF))
  obtain ⟨q12a, q12b, q12c⟩ := rd3 HF.out.b0
  refine bodyPost_ret (v := .tuple #[.agg (tN X.1 A c), .int .i64 X.2.1, .int .i64 X.2.2]) (by simp [results, Tryz.results23, go_sem, q12a, q12b, q12c]) rfl ?_
  exact ⟨A, c, rfl, Kd.R_mono (show Kd.R k25 25 _ _ _ (.slice A X.1.f2.length c) X.1.f2 from HF.out.b1) (fun _ _ => trivial), HF.out.below⟩
 ·have hpp : pW k 3 = typP k := by unfold pW; simp
  rw [hpp] at hX
  have hp := fun (w : World) (hg : GOK w) => ParseType_onK k s hk hs w hg
  rw [hX] at hp
  have HP := Lib.hid hp
  clear hp hpp hX hk hs hg
  go_enter Tryz.func23, Tryz.ntmps23
  go_wp2_with (first
   | ((with_reducible refine gate_dst (N := 4) rfl ?_); refine ez_box (t := 25) (cs := zN) HF rfl rfl (run_node rfl) ?_; clear HF; intro pn w13 HF)
   | (go_at_call 21; refine (HP.out _ (HG.out.below HF.out.below)).mono ?_; rintro e w14 ⟨A, c, rfl, hR_, hb_⟩; replace HF := Lib.hid (HF.out.row hb_ (Nat.le_refl _) hR_); clear hR_ hb_; have HF2_ := Lib.hid HF.out.swap; clear HF; have HF := HF2_; clear HF2_)
   | ((with_reducible refine gate_store (t := 25) (p := 4) rfl ?_); refine ez_put (p := 4) HF rfl rfl rfl rfl rfl rfl rfl ?_; clear HF; intro w15 HF))
  obtain ⟨q16a, q16b, q16c⟩ := rd3 HF.out.b0
  refine bodyPost_ret (v := .tuple #[.agg (tN X.1 A c), .int .i64 X.2.1, .int .i64 X.2.2]) (by simp [results, Tryz.results23, go_sem, q16a, q16b, q16c]) rfl ?_
  exact ⟨A, c, rfl, Kd.R_mono (show Kd.R k25 25 _ _ _ (.slice A X.1.f2.length c) X.1.f2 from HF.out.b1) (fun _ _ => trivial), HF.out.below⟩
set_option maxRecDepth 100000 in
set_option maxHeartbeats 8000000 in
theorem ends_on (s : ByteArray) (hs : s.size ≤ strMax) (as_ : Int) (h0 : 0 ≤ as_) (h1 : as_ ≤ 255) (w : World) (hg : GOK w) :
  Calls Tryz.prog 6 #[.string s, .int .u8 as_] w fun e W' => e = .returned (.bool true) ∧ Below w.heap.size w W' := by
 obtain ⟨v, hv⟩ : ∃ v, v = as_ % 4 := ⟨_, rfl⟩
 have hv4 : v = 0 ∨ v = 1 ∨ v = 2 ∨ v = 3 := by
  omega
 obtain ⟨l, hl⟩ : ∃ l, l = (scanL s.data.toList).1.dropLast := ⟨_, rfl⟩
 obtain ⟨k, hk⟩ : ∃ k, k = roundsP (scanL s.data.toList).1 + (roundsP (scanL (strJ l).data.toList).1 + roundsP []) := ⟨_, rfl⟩
 have hz2 : (strJ l).size ≤ 20000 := by
  unfold strJ
  split
  ·rename_i h; show (wrJ l).toArray.size ≤ 20000; simpa using h
  ·exact Nat.zero_le _
 have hs2 : (strJ l).size ≤ strMax := by have h_ : 20000 ≤ strMax := (by decide); omega
 have o1 := fine_W _ (scanL_small s hs).2 (scanL_small s hs).1 k (by omega) v
 have o2 := fine_W _ (scanL_small (strJ l) hs2).2 (scanL_small (strJ l) hs2).1 k (by omega) v
 have o3 := fine_W [] (fun _ h => by cases h) (by simp) k (by omega) v
 have c1 := fun w (hg : GOK w) => parsed_on k v hv4 s (by omega) hs w hg
 have c2 := fun w (hg : GOK w) => parsed_on k v hv4 (strJ l) (by omega) hs2 w hg
 have hk0 : 0 < k := by unfold roundsP at hk; omega
 have law := fun n a h hne => ends_W (n := n) (a := a) hk0 o1 h hne hl.symm o2 o3
 have hsc := refScan_f s 50001 (by omega)
 have okp := fun n p => parse_ok (n := n) (p := p) o1
 clear hk hk0 o1 o2 o3 hs2
 obtain ⟨⟨L, at_, e_⟩, hL⟩ : ∃ X, X = scanL s.data.toList := ⟨_, rfl⟩
 rw [← hL] at hl hsc
 simp only [← hL] at law okp
 obtain ⟨⟨n1, q1, e1⟩, hX1⟩ : ∃ X, X = parseT (pW k v) s := ⟨_, rfl⟩
 obtain ⟨⟨n2, q2, e2⟩, hX2⟩ : ∃ X, X = parseT (pW k v) (strJ l) := ⟨_, rfl⟩
 simp only [← hX1] at c1 law okp
 simp only [← hX2] at c2 law
 have hL6 : e1 = 0 → L.length ≤ 6000 ∧ ∀ t ∈ L, okT t = true := fun h => by
  subst h
  obtain ⟨l3, h3, _⟩ := okp _ _ rfl
  injection h3 with h3 h4
  injection h4 with h4 h5
  subst h3 h4 h5
  exact ⟨(toks_of_scanL hL.symm).2.2.2, ok_of_scan hL.symm⟩
 have key : e1 ≠ 0 ∨ e1 = 0 ∧ (L = [] ∨ L ≠ [] ∧ (e2 = 0 ∧ q2 = 0 ∨ e2 = 20 ∧ q2 = ((strJ l).size : Int))) := by
  by_cases h1 : e1 = 0
  ·subst h1
   refine .inr ⟨rfl, ?_⟩
   by_cases h2 : L = []
   ·exact .inl h2
   ·refine .inr ⟨h2, ?_⟩
    rcases law _ _ rfl h2 with ⟨x, h⟩ | h
    ·simp only [Prod.mk.injEq] at h; exact .inl ⟨h.2.2, h.2.1⟩
    ·simp only [Prod.mk.injEq] at h; exact .inr ⟨h.2.2, h.2.1⟩
  ·exact .inl h1
 clear law okp hX1 hX2
 have HV := Lib.hid hv
 have HG := Lib.hid hg
 have HF := Lib.hid (Fz.refl w)
 have HP1 := Lib.hid c1
 have HP2 := Lib.hid c2
 have HSC := Lib.hid hsc
 have HL6 := Lib.hid hL6
 clear c1 c2 hg hs hsc hL6 hL hv
 dsimp only at hl
 rcases key with he1 | ⟨rfl, rfl | ⟨hne, hr⟩⟩
 ·have he1b : (e1 != 0) = true := bne_iff_ne.2 he1
  clear HP2 hl hz2 hv4
  go_enter Tryz.func6, Tryz.ntmps6
  go_wp2_with (first
   | (go_at_call 7; refine (sane_on _ (HG.out.below HF.out.below)).mono ?_; rintro e w17 ⟨rfl, hb_⟩; replace HF := Lib.hid (HF.out.step hb_); clear hb_)
   | (go_at_call 23; (try rw [← HV.out]); refine (HP1.out _ (HG.out.below HF.out.below)).mono ?_; rintro e w18 ⟨A1, c1, rfl, hR_, hb_⟩; clear HP1; replace HF := Lib.hid (HF.out.row hb_ (Nat.le_refl _) hR_); clear hR_ hb_)
   | ((with_reducible refine gate_dst (N := 7) rfl ?_); refine ez_box (t := 25) (cs := zN) HF rfl rfl (run_node rfl) ?_; clear HF; intro b7 w19 HF)
   | ((with_reducible refine gate_store (t := 25) (p := 7) rfl ?_); refine ez_put (p := 7) HF rfl rfl rfl rfl rfl rfl rfl ?_; clear HF; intro w20 HF)
   | (go_at_call 24; refine (peculiumref01_Scan.calls 50001 s _ _ _ _ HSC.out).mono ?_; rintro e w21 ⟨v_, rfl, hR_, hb_⟩; obtain ⟨At, ct, rfl⟩ := Kd.R_slice hR_; replace HF := Lib.hid (HF.out.row hb_ (Nat.le_refl _) hR_); clear hR_ hb_)
   | ((with_reducible refine gate_dst (N := 10) rfl ?_); refine ez_box (t := 41) (cs := #[nilS, .int .i64 0, .int .i64 0]) HF rfl rfl (run_sc rfl) ?_; clear HF; intro b10 w22 HF)
   | ((with_reducible refine gate_store (t := 41) (p := 10) rfl ?_); refine ez_put (p := 10) HF rfl rfl rfl rfl rfl rfl rfl ?_; clear HF; intro w23 HF; obtain ⟨q24a, q24b, q24c⟩ := rd3 HF.out.b0))
  go_ret
  exact ⟨rfl, HF.out.below⟩
 ·clear HP2 hl hz2 hv4
  go_enter Tryz.func6, Tryz.ntmps6
  go_wp2_with (first
   | (go_at_call 7; refine (sane_on _ (HG.out.below HF.out.below)).mono ?_; rintro e w25 ⟨rfl, hb_⟩; replace HF := Lib.hid (HF.out.step hb_); clear hb_)
   | (go_at_call 23; (try rw [← HV.out]); refine (HP1.out _ (HG.out.below HF.out.below)).mono ?_; rintro e w26 ⟨A1, c1, rfl, hR_, hb_⟩; clear HP1; replace HF := Lib.hid (HF.out.row hb_ (Nat.le_refl _) hR_); clear hR_ hb_)
   | ((with_reducible refine gate_dst (N := 7) rfl ?_); refine ez_box (t := 25) (cs := zN) HF rfl rfl (run_node rfl) ?_; clear HF; intro b7 w27 HF)
   | ((with_reducible refine gate_store (t := 25) (p := 7) rfl ?_); refine ez_put (p := 7) HF rfl rfl rfl rfl rfl rfl rfl ?_; clear HF; intro w28 HF)
   | (go_at_call 24; refine (peculiumref01_Scan.calls 50001 s _ _ _ _ HSC.out).mono ?_; rintro e w29 ⟨v_, rfl, hR_, hb_⟩; obtain ⟨At, ct, rfl⟩ := Kd.R_slice hR_; replace HF := Lib.hid (HF.out.row hb_ (Nat.le_refl _) hR_); clear hR_ hb_)
   | ((with_reducible refine gate_dst (N := 10) rfl ?_); refine ez_box (t := 41) (cs := #[nilS, .int .i64 0, .int .i64 0]) HF rfl rfl (run_sc rfl) ?_; clear HF; intro b10 w30 HF)
   | ((with_reducible refine gate_store (t := 41) (p := 10) rfl ?_); refine ez_put (p := 10) HF rfl rfl rfl rfl rfl rfl rfl ?_; clear HF; intro w31 HF; obtain ⟨q32a, q32b, q32c⟩ := rd3 HF.out.b0))
  go_ret
  exact ⟨rfl, HF.out.below⟩
 ·obtain ⟨h6, hok⟩ := HL6.out rfl
  have HOK : Hid (∀ t ∈ l, okT t = true) := Lib.hid (fun t ht => hok t (by rw [hl] at ht; exact List.dropLast_subset _ ht))
  have hm : L.length = l.length + 1 := by rw [hl, List.length_dropLast]; have := List.length_pos_iff.2 hne; omega
  have hl6 : l.length ≤ 6000 := by omega
  have htk : L.take l.length = l := by rw [hl, List.dropLast_eq_take]; congr 1; simp
  have HTK := Lib.hid htk
  obtain ⟨sj, hsj⟩ : ∃ sj, sj = strJ l := ⟨_, rfl⟩
  have HJ := Lib.hid hsj
  rw [← hsj] at HP2 hr hz2
  have HR := Lib.hid hr
  clear HL6 hok hl hne hv4 htk hsj hr
  go_enter Tryz.func6, Tryz.ntmps6
  go_wp2_with (first
   | (go_at_call 7; refine (sane_on _ (HG.out.below HF.out.below)).mono ?_; rintro e w33 ⟨rfl, hb_⟩; replace HF := Lib.hid (HF.out.step hb_); clear hb_)
   | (go_at_call 23; (try rw [← HV.out]); refine (HP1.out _ (HG.out.below HF.out.below)).mono ?_; rintro e w34 ⟨A1, c1, rfl, hR_, hb_⟩; clear HP1; replace HF := Lib.hid (HF.out.row hb_ (Nat.le_refl _) hR_); clear hR_ hb_)
   | ((with_reducible refine gate_dst (N := 7) rfl ?_); refine ez_box (t := 25) (cs := zN) HF rfl rfl (run_node rfl) ?_; clear HF; intro b7 w35 HF)
   | ((with_reducible refine gate_store (t := 25) (p := 7) rfl ?_); refine ez_put (p := 7) HF rfl rfl rfl rfl rfl rfl rfl ?_; clear HF; intro w36 HF)
   | (go_at_call 24; refine (peculiumref01_Scan.calls 50001 s _ _ _ _ HSC.out).mono ?_; rintro e w37 ⟨v_, rfl, hR_, hb_⟩; obtain ⟨At, ct, rfl⟩ := Kd.R_slice hR_; replace HF := Lib.hid (HF.out.row hb_ (Nat.le_refl _) hR_); clear hR_ hb_)
   | ((with_reducible refine gate_dst (N := 10) rfl ?_); refine ez_box (t := 41) (cs := #[nilS, .int .i64 0, .int .i64 0]) HF rfl rfl (run_sc rfl) ?_; clear HF; intro b10 w38 HF)
   | ((with_reducible refine gate_store (t := 41) (p := 10) rfl ?_); refine ez_put (p := 10) HF rfl rfl rfl rfl rfl rfl rfl ?_; clear HF; intro w39 HF; refine Hid.out ?_))
  refine Lib.hid ?_
  have hC_ := (Kd.R_reads' (show Kd.R k65 65 _ _ _ (.slice At L.length ct) L from HF.out.b1)).2
  have hCt := Kd.C_take (m := l.length) hC_.2 (show l.length ≤ L.length by omega)
  rw [HTK.out] at hCt
  obtain ⟨i0, hi0, _, _, _⟩ := info_parts info65
  have hcut := cut_to (P := Tryz.prog) 39 65 .i64 Tryz.underlying39 hi0 At L.length ct (l.length : Int) (by omega) (by omega) hC_.1
  rw [Int.toNat_natCast] at hcut
  have hct : l.length ≤ ct := by have := hC_.1; omega
  have HCT := Lib.hid (And.intro hct hCt)
  have hct5 : (l.length ≤ ct) = True := eq_true hct
  have hct6 : ((l.length : Int) ≤ (ct : Int)) = True := eq_true (by omega)
  clear hC_ hCt hi0 hct
  have hmi : (L.length : Int) = (l.length : Int) + 1 := by omega
  have hm0 : (0 ≤ (l.length : Int)) = True := eq_true (by omega)
  have hm2 : ((l.length : Int) < (l.length : Int) + 1) = True := eq_true (by omega)
  have hm3 : ((l.length : Int) ≤ (l.length : Int) + 1) = True := eq_true (by omega)
  have hm4 : (((l.length : Int) + 1) == 0) = false := beq_eq_false_iff_ne.2 (by omega)
  clear hm
  obtain ⟨q40a, q40b, q40c⟩ := rd3 HF.out.b0
  have hz3 : (20000 < (sj.size : Int)) = False := eq_false (by omega)
  go_wp2_with (first
   | (go_at_call 25; refine (rJoin_on l hl6 HOK.out At ct _ HCT.out.1 (Kd.C_below HCT.out.2 (Below.refl _ _))).mono ?_; rw [← HJ.out]; rintro e w41 ⟨rfl, hb_⟩; replace HF := Lib.hid (HF.out.step hb_); clear hb_ q40a q40b q40c)
   | (go_at_call 23; (try rw [← HV.out]); refine (HP2.out _ (HG.out.below HF.out.below)).mono ?_; rintro e w42 ⟨A2, c2, rfl, hR_, hb_⟩; clear HP2; replace HF := Lib.hid (HF.out.row hb_ (Nat.le_refl _) hR_); clear hR_ hb_)
   | ((with_reducible refine gate_dst (N := 12) rfl ?_); refine ez_box (t := 25) (cs := zN) HF rfl rfl (run_node rfl) ?_; clear HF; intro b12 w43 HF)
   | ((with_reducible refine gate_store (t := 25) (p := 12) rfl ?_); refine ez_put (p := 12) HF rfl rfl rfl rfl rfl rfl rfl ?_; clear HF; intro w44 HF; refine Hid.out ?_))
  refine Lib.hid ?_
  rcases HR.out with ⟨rfl, rfl⟩ | ⟨rfl, rfl⟩
  all_goals
   go_wp2_with fail
   go_ret
   exact ⟨rfl, HF.out.below⟩
end Go.Proofs.YtbndfgoklgdfdaaGreatDoor.P
end
section
set_option linter.unusedSimpArgs false
namespace Go.Proofs.YtbndfgoklgdfdaaGreatDoor.P
open Go.ChangeShapes Go.WideShapes Go.ChangeAt Go.RowKit
theorem own : ownKnob Tryz.prog.godebug = none := by kernel_rfl
theorem gOps : Tryz.prog.globalNamed "peculium/syntax.operators" = some 0 := by kernel_rfl
theorem tOps : (Tryz.prog.globals[0]?).map (·.type) = some 145 := by kernel_rfl
def laidOps : List (String × DataW Unit) := [("peculium/syntax.operators", Rows.laid_peculium_syntax_operators)]
theorem door_met (os : Os) (args : Array Value) : laidMetH Tryz.prog laidOps ((World.doorLaid Tryz.prog 400 os).forCall (fun _ _ => 0) ⟨#[], args, []⟩).memory :=
 laidMetH_of_parts3 (fuel := 8) (laidMet_of_run' 8 (by kernel_rfl) (by kernel_rfl)) (by kernel_rfl) (by kernel_rfl)
set_option maxRecDepth 100000 in
theorem trod_op {H : Type} {enc : TypeId × Value → H} {w : World} {base : Nat} {sp : Nat → Bool} {held : Bool} {n : Nat} {cs : List Value} {y : DataW H × List MemPlace}
  (h : DataW.trod enc Tryz.prog w base sp held n 129 cs = some y) : ∃ (s : ByteArray) (a b : Int), cs = [.string s, .int .i64 a, .int .i64 b] ∧ y.1 = .agg [.lit (.string s.data.toList), .lit (.int .i64 a), .lit (.int .i64 b)] := by
 obtain ⟨y0, y1, y2, m, hy, hl, h0, h1, h2⟩ := Go.Deep.trod_struct3 Tryz.underlying129 h
 have c3 : Tryz.prog.cellsOf 129 = 3 := by kernel_rfl
 have c1 : Tryz.prog.cellsOf 3 = 1 := by kernel_rfl
 have c9 : Tryz.prog.cellsOf 9 = 1 := by kernel_rfl
 rw [c3] at hl
 match cs, hl with
 | [v0, v1, v2], _ =>
  simp [c1, c9] at h0 h1 h2
  obtain ⟨s1, e1, z1, w1⟩ := DataW.trod_string Tryz.underlying9 h0
  obtain ⟨n0, e0, z0, w0⟩ := DataW.trod_int Tryz.underlying3 h1
  obtain ⟨n2, e2, z2, w2⟩ := DataW.trod_int Tryz.underlying3 h2
  simp at e0 e1 e2
  subst e0 e1 e2 z0 z1 z2
  exact ⟨s1, n0, n2, rfl, by rw [hy]⟩
set_option maxRecDepth 100000 in
theorem gok_of_laid {W : World} (h : laidMetH Tryz.prog laidOps W) : GOK W := by
 rw [MakeChecks.laidMetH_plain _ _ _ (by kernel_rfl)] at h
 obtain ⟨ps, ⟨g0, t0, cs0, f0, p0, q0, hg0, ht0, hv0, hd0, _⟩, _⟩ := h
 obtain rfl := Option.some.inj (gOps.symm.trans hg0)
 obtain rfl := Option.some.inj (tOps.symm.trans ht0)
 obtain ⟨xs, m1, rfl, hx1, hlen, hn, hel⟩ := DataW.trod_array Tryz.underlying145 hd0
 have c129 : Tryz.prog.cellsOf 129 = 3 := by kernel_rfl
 have c145 : Tryz.prog.cellsOf 145 = 21 := by kernel_rfl
 rw [c129] at hel
 rw [c145] at hlen
 have e := (Prod.mk.inj hx1).1
 clear hd0 hx1 ht0
 match xs, hn, hel, e with
 | [x0, x1, x2, x3, x4, x5, x6], _, hel, e =>
  simp only [Rows.laid_peculium_syntax_operators, List.map_cons, List.map_nil, DataW.agg.injEq, List.cons.injEq, and_true] at e
  obtain ⟨e0, e1, e2, e3, e4, e5, e6⟩ := e
  obtain ⟨l, hl⟩ : ∃ l, l = cs0.toList := ⟨_, rfl⟩
  rw [← hl] at hlen hel
  match l, hlen, hl, hel with
  | [c0, c1, c2, c3, c4, c5, c6, c7, c8, c9, c10, c11, c12, c13, c14, c15, c16, c17, c18, c19, c20], _, hl, hel =>
   obtain ⟨s0, a0, b0, k0, d0⟩ := trod_op ((hel 0 (by decide)).trans rfl)
   rw [← e0] at d0
   simp only [DataW.agg.injEq, List.cons.injEq, and_true, DataW.lit.injEq, Lit.string.injEq, Lit.int.injEq, true_and] at d0
   simp only [List.drop_succ_cons, List.drop_zero, List.take_succ_cons, List.take_zero, Nat.zero_mul, Nat.reduceMul, List.cons.injEq, and_true] at k0
   obtain ⟨f0, g0, h0⟩ := d0
   obtain ⟨p0, q0, r0⟩ := k0
   subst p0 q0 r0 g0 h0
   have t0 : s0 = ⟨s0.data.toList.toArray⟩ := by simp
   rw [← f0] at t0
   subst t0
   clear f0
   obtain ⟨s1, a1, b1, k1, d1⟩ := trod_op ((hel 1 (by decide)).trans rfl)
   rw [← e1] at d1
   simp only [DataW.agg.injEq, List.cons.injEq, and_true, DataW.lit.injEq, Lit.string.injEq, Lit.int.injEq, true_and] at d1
   simp only [List.drop_succ_cons, List.drop_zero, List.take_succ_cons, List.take_zero, Nat.zero_mul, Nat.reduceMul, List.cons.injEq, and_true] at k1
   obtain ⟨f1, g1, h1⟩ := d1
   obtain ⟨p1, q1, r1⟩ := k1
   subst p1 q1 r1 g1 h1
   have t1 : s1 = ⟨s1.data.toList.toArray⟩ := by simp
   rw [← f1] at t1
   subst t1
   clear f1
   obtain ⟨s2, a2, b2, k2, d2⟩ := trod_op ((hel 2 (by decide)).trans rfl)
   rw [← e2] at d2
   simp only [DataW.agg.injEq, List.cons.injEq, and_true, DataW.lit.injEq, Lit.string.injEq, Lit.int.injEq, true_and] at d2
   simp only [List.drop_succ_cons, List.drop_zero, List.take_succ_cons, List.take_zero, Nat.zero_mul, Nat.reduceMul, List.cons.injEq, and_true] at k2
   obtain ⟨f2, g2, h2⟩ := d2
   obtain ⟨p2, q2, r2⟩ := k2
   subst p2 q2 r2 g2 h2
   have t2 : s2 = ⟨s2.data.toList.toArray⟩ := by simp
   rw [← f2] at t2
   subst t2
   clear f2
   obtain ⟨s3, a3, b3, k3, d3⟩ := trod_op ((hel 3 (by decide)).trans rfl)
   rw [← e3] at d3
   simp only [DataW.agg.injEq, List.cons.injEq, and_true, DataW.lit.injEq, Lit.string.injEq, Lit.int.injEq, true_and] at d3
   simp only [List.drop_succ_cons, List.drop_zero, List.take_succ_cons, List.take_zero, Nat.zero_mul, Nat.reduceMul, List.cons.injEq, and_true] at k3
   obtain ⟨f3, g3, h3⟩ := d3
   obtain ⟨p3, q3, r3⟩ := k3
   subst p3 q3 r3 g3 h3
   have t3 : s3 = ⟨s3.data.toList.toArray⟩ := by simp
   rw [← f3] at t3
   subst t3
   clear f3
   obtain ⟨s4, a4, b4, k4, d4⟩ := trod_op ((hel 4 (by decide)).trans rfl)
   rw [← e4] at d4
   simp only [DataW.agg.injEq, List.cons.injEq, and_true, DataW.lit.injEq, Lit.string.injEq, Lit.int.injEq, true_and] at d4
   simp only [List.drop_succ_cons, List.drop_zero, List.take_succ_cons, List.take_zero, Nat.zero_mul, Nat.reduceMul, List.cons.injEq, and_true] at k4
   obtain ⟨f4, g4, h4⟩ := d4
   obtain ⟨p4, q4, r4⟩ := k4
   subst p4 q4 r4 g4 h4
   have t4 : s4 = ⟨s4.data.toList.toArray⟩ := by simp
   rw [← f4] at t4
   subst t4
   clear f4
   obtain ⟨s5, a5, b5, k5, d5⟩ := trod_op ((hel 5 (by decide)).trans rfl)
   rw [← e5] at d5
   simp only [DataW.agg.injEq, List.cons.injEq, and_true, DataW.lit.injEq, Lit.string.injEq, Lit.int.injEq, true_and] at d5
   simp only [List.drop_succ_cons, List.drop_zero, List.take_succ_cons, List.take_zero, Nat.zero_mul, Nat.reduceMul, List.cons.injEq, and_true] at k5
   obtain ⟨f5, g5, h5⟩ := d5
   obtain ⟨p5, q5, r5⟩ := k5
   subst p5 q5 r5 g5 h5
   have t5 : s5 = ⟨s5.data.toList.toArray⟩ := by simp
   rw [← f5] at t5
   subst t5
   clear f5
   obtain ⟨s6, a6, b6, k6, d6⟩ := trod_op ((hel 6 (by decide)).trans rfl)
   rw [← e6] at d6
   simp only [DataW.agg.injEq, List.cons.injEq, and_true, DataW.lit.injEq, Lit.string.injEq, Lit.int.injEq, true_and] at d6
   simp only [List.drop_succ_cons, List.drop_zero, List.take_succ_cons, List.take_zero, Nat.zero_mul, Nat.reduceMul, List.cons.injEq, and_true] at k6
   obtain ⟨f6, g6, h6⟩ := d6
   obtain ⟨p6, q6, r6⟩ := k6
   subst p6 q6 r6 g6 h6
   have t6 : s6 = ⟨s6.data.toList.toArray⟩ := by simp
   rw [← f6] at t6
   subst t6
   clear f6
   refine ⟨fun i hi => ?_, ?_⟩
   ·have hc := World.var?_cell hg0 hv0 i
    rw [hc, ← Array.getElem?_toList, ← hl]
    rfl
   ·have hc := World.var?_cell hg0 hv0 0
    rw [← Array.getElem?_toList, ← hl] at hc
    exact World.block_lt_of_cell? W ⟨0, 0, none⟩ (hc.trans rfl)
end Go.Proofs.YtbndfgoklgdfdaaGreatDoor.P
end
