/- What a call has made, thing by thing: each thing has its blocks, and says what lies there; a step turns one of them. syntax.every for whatever test it is called with . The scanner as a plain function on lists of bytes: no program in sight. lex.classes: the table of bytes that a string holds; lex.token's closures run and of. lex.token's closures: run (how many name characters follow) and of (the token). strings.IndexByte, and strings.Contains at a substring of one byte: what they return; the world is as it was. -/
import Derived.Test.YtbndfgoklgdfdaaGreatDoorSe04
import Derived.Shelf.Abstract
import Derived.Lib.Bytealg
import Derived.Laws.Rows
import Derived.Deep.WholeRow
import Derived.Lib.Hide
import Derived.RegionTactic
import Derived.Lib.Walk
import Derived.Lib.Strings
import Derived.Lib.IndexAny
import Derived.Laws.Externs
set_option linter.all false
section
set_option linter.unusedSimpArgs false
namespace Go.Proofs.YtbndfgoklgdfdaaGreatDoor.P
open Go.RowKit Go.Proofs.YtbndfgoklgdfdaaGreatDoorW.PrintWords Go.Proofs.YtbndfgoklgdfdaaGreatDoorW.PrintLast Go.Proofs.YtbndfgoklgdfdaaGreatDoorW.PrintMore

/-- A thing in memory: its blocks, what lies in them. -/
structure Th where
 ok : Nat → Prop
 holds : World → Prop
 stab : ∀ W W' : World, holds W → (∀ k, ok k → k < W.heap.size → W'.heap[k]? = W.heap[k]?) → holds W'
/-- A variable. -/
def bT (b : Nat) (o : Obj) : Th := ⟨fun k => k = b, fun W => W.heap[b]? = some o, fun _ _ h k => (k b rfl (blk_lt h)).trans h⟩
abbrev vT (b : Nat) (t : TypeId) (cs : Array Value) : Th := bT b (.cells cs t (0, 0))
/-- A row that was made. -/
def rT {α : Type} (d : Kd α) (e : TypeId) (base : Nat) (ok : Nat → Prop) (v : Value) (xs : List α) : Th := ⟨ok, fun W => d.R e W base ok v xs, fun _ _ h k => Kd.R_step h k⟩
structure Fz (w W : World) (ts : List Th) : Prop where
 below : Below w.heap.size w W
 th : ∀ t ∈ ts, t.holds W ∧ ∀ k, t.ok k → w.heap.size ≤ k ∧ k < W.heap.size
 pw : ts.Pairwise fun a b => ∀ k, a.ok k → ¬ b.ok k
section
variable {w W W' : World} {ts : List Th} {t t' t1 t2 t3 t4 t5 : Th}
theorem Fz.refl (w : World) : Fz w w [] := ⟨Below.refl _ _, by simp, .nil⟩
/-- Another world: nothing that is told has turned. -/
theorem Fz.moved (h : Fz w W ts) (hb : Below w.heap.size w W') (hs : W.heap.size ≤ W'.heap.size) (hk : ∀ t ∈ ts, ∀ k, t.ok k → k < W.heap.size → W'.heap[k]? = W.heap[k]?) : Fz w W' ts :=
 ⟨hb, fun t ht => ⟨t.stab _ _ (h.th t ht).1 (hk t ht), fun k hk2 => ⟨((h.th t ht).2 k hk2).1, Nat.lt_of_lt_of_le ((h.th t ht).2 k hk2).2 hs⟩⟩, h.pw⟩
theorem Fz.step (h : Fz w W ts) (hb : Below W.heap.size W W') : Fz w W' ts := h.moved (below_step h.below hb) hb.size (fun _ _ k _ hk => hb.block k hk)
theorem Fz.drew (h : Fz w W ts) : Fz w W.drew ts := h.step (pw_below_drewN (Below.refl _ _) 1)
/-- A thing that a step has made. -/
theorem Fz.new (h : Fz w W ts) (hb : Below W.heap.size W W') (t : Th) (ht : t.holds W') (hk : ∀ k, t.ok k → W.heap.size ≤ k ∧ k < W'.heap.size) : Fz w W' (t :: ts) := by
 have h2 := h.step hb
 refine ⟨h2.below, ?_, .cons ?_ h2.pw⟩
 ·intro x hx
  rcases List.mem_cons.1 hx with rfl | hx
  ·exact ⟨ht, fun k hk2 => ⟨Nat.le_trans h.below.size (hk k hk2).1, (hk k hk2).2⟩⟩
  ·exact h2.th x hx
 ·intro x hx k h1 h3
  have := ((h.th x hx).2 k h3).2
  have := (hk k h1).1
  omega
/-- Two things that a step has made. -/
theorem Fz.two (h : Fz w W ts) (hb : Below W.heap.size W W') (t t' : Th) (ht : t.holds W') (ht' : t'.holds W') (hk : ∀ k, t.ok k → W.heap.size ≤ k ∧ k < W'.heap.size) (hk' : ∀ k, t'.ok k → W.heap.size ≤ k ∧ k < W'.heap.size) (hd : ∀ k, t.ok k → ¬ t'.ok k) : Fz w W' (t :: t' :: ts) := by
 have h1 := h.new hb t ht hk
 have h2 := h.new hb t' ht' hk'
 refine ⟨h2.below, ?_, .cons ?_ h2.pw⟩
 ·intro x hx
  rcases List.mem_cons.1 hx with rfl | hx
  ·exact h1.th x (List.mem_cons_self ..)
  ·exact h2.th x hx
 ·intro x hx
  rcases List.mem_cons.1 hx with rfl | hx
  ·exact hd
  ·exact (List.pairwise_cons.1 h1.pw).1 x hx
theorem Fz.alloc (h : Fz w W ts) (o : Obj) : Fz w (W.alloc o) (bT W.heap.size o :: ts) :=
 h.new (below_alloc (Below.refl _ _) o) _ (blk_new W o) (fun k hk => by subst hk; simp)
/-- The first thing is turned into another one. -/
theorem Fz.change (h : Fz w W (t :: ts)) (t' : Th) (hs : W.heap.size ≤ W'.heap.size) (ho : W'.os = W.os ∧ W'.tape = W.tape ∧ W'.output = W.output) (hk : ∀ k, k < W.heap.size → ¬ t.ok k → W'.heap[k]? = W.heap[k]?)
  (ht : t'.holds W') (hok : ∀ k, t'.ok k → t.ok k ∨ W.heap.size ≤ k ∧ k < W'.heap.size) : Fz w W' (t' :: ts) := by
 have hp := List.pairwise_cons.1 h.pw
 have h0 := h.th t (List.mem_cons_self ..)
 refine ⟨⟨ho.1.trans h.below.os, ho.2.1.trans h.below.tape, ho.2.2.trans h.below.output, Nat.le_trans h.below.size hs, fun b hb => (hk b (Nat.lt_of_lt_of_le hb h.below.size) (fun hb2 => by have := (h0.2 b hb2).1; omega)).trans (h.below.block b hb)⟩, ?_, .cons ?_ hp.2⟩
 ·intro x hx
  rcases List.mem_cons.1 hx with rfl | hx
  ·refine ⟨ht, fun k hk2 => ?_⟩
   rcases hok k hk2 with h1 | h1
   ·exact ⟨(h0.2 k h1).1, Nat.lt_of_lt_of_le (h0.2 k h1).2 hs⟩
   ·exact ⟨Nat.le_trans h.below.size h1.1, h1.2⟩
  ·have hx2 := h.th x (List.mem_cons_of_mem _ hx)
   exact ⟨x.stab _ _ hx2.1 (fun k hk2 hlt => hk k hlt (fun h1 => hp.1 x hx k h1 hk2)), fun k hk2 => ⟨(hx2.2 k hk2).1, Nat.lt_of_lt_of_le (hx2.2 k hk2).2 hs⟩⟩
 ·intro x hx k h1 h3
  rcases hok k h1 with h4 | h4
  ·exact hp.1 x hx k h4 h3
  ·have := ((h.th x (List.mem_cons_of_mem _ hx)).2 k h3).2
   omega
theorem Fz.set {b : Nat} {ty : TypeId} {cs cs' : Array Value} (h : Fz w W (vT b ty cs :: ts)) (i : Nat) (u : Value) (e : cs.setIfInBounds i u = cs') : Fz w (W.setCell ⟨b, i, none⟩ u) (vT b ty cs' :: ts) :=
 h.change _ (by simp) ⟨rfl, rfl, rfl⟩ (fun k _ hk => Below.heap_setCell W _ u k hk) (blk_put (h.th _ (List.mem_cons_self ..)).1 i u e) (fun k hk => .inl hk)
theorem Fz.lose (h : Fz w W (t :: ts)) : Fz w W ts := ⟨h.below, fun x hx => h.th x (List.mem_cons_of_mem _ hx), (List.pairwise_cons.1 h.pw).2⟩
theorem Fz.swap (h : Fz w W (t1 :: t2 :: ts)) : Fz w W (t2 :: t1 :: ts) := by
 have hp := List.pairwise_cons.1 h.pw
 have hp2 := List.pairwise_cons.1 hp.2
 refine ⟨h.below, fun x hx => h.th x (by simp only [List.mem_cons] at hx ⊢; rcases hx with h | h | h <;> simp [h]), .cons ?_ (.cons (fun x hx => hp.1 x (List.mem_cons_of_mem _ hx)) hp2.2)⟩
 intro x hx k h1 h3
 rcases List.mem_cons.1 hx with rfl | hx
 ·exact hp.1 t2 (List.mem_cons_self ..) k h3 h1
 ·exact hp2.1 x hx k h1 h3
/-- The second, third .. thing is told first. -/
theorem Fz.up3 (h : Fz w W (t1 :: t2 :: t3 :: ts)) : Fz w W (t3 :: t1 :: t2 :: ts) := by
 have hp := List.pairwise_cons.1 h.pw
 have hp2 := List.pairwise_cons.1 hp.2
 have hp3 := List.pairwise_cons.1 hp2.2
 refine ⟨h.below, fun x hx => h.th x (by simp only [List.mem_cons] at hx ⊢; rcases hx with h | h | h | h <;> simp [h]), .cons ?_ (.cons ?_ (.cons ?_ hp3.2))⟩
 ·intro x hx k h1 h3
  simp only [List.mem_cons] at hx
  rcases hx with rfl | rfl | hx
  ·exact hp.1 t3 (by simp) k h3 h1
  ·exact hp2.1 t3 (by simp) k h3 h1
  ·exact hp3.1 x hx k h1 h3
 ·intro x hx k h1 h3
  simp only [List.mem_cons] at hx
  rcases hx with rfl | hx
  ·exact hp.1 x (by simp) k h1 h3
  ·exact hp.1 x (by simp [hx]) k h1 h3
 ·exact fun x hx => hp2.1 x (by simp [hx])
theorem Fz.up4 (h : Fz w W (t1 :: t2 :: t3 :: t4 :: ts)) : Fz w W (t4 :: t1 :: t2 :: t3 :: ts) := by
 have hp := List.pairwise_cons.1 h.pw
 have hp2 := List.pairwise_cons.1 hp.2
 have hp3 := List.pairwise_cons.1 hp2.2
 have hp4 := List.pairwise_cons.1 hp3.2
 refine ⟨h.below, fun x hx => h.th x (by simp only [List.mem_cons] at hx ⊢; rcases hx with h | h | h | h | h <;> simp [h]), .cons ?_ (.cons ?_ (.cons ?_ (.cons ?_ hp4.2)))⟩
 ·intro x hx k h1 h3
  simp only [List.mem_cons] at hx
  rcases hx with rfl | rfl | rfl | hx
  ·exact hp.1 t4 (by simp) k h3 h1
  ·exact hp2.1 t4 (by simp) k h3 h1
  ·exact hp3.1 t4 (by simp) k h3 h1
  ·exact hp4.1 x hx k h1 h3
 ·intro x hx; simp only [List.mem_cons] at hx; exact hp.1 x (by simp only [List.mem_cons]; rcases hx with h | h | h <;> simp [h])
 ·intro x hx; simp only [List.mem_cons] at hx; exact hp2.1 x (by simp only [List.mem_cons]; rcases hx with h | h <;> simp [h])
 ·exact fun x hx => hp3.1 x (by simp [hx])
theorem Fz.up5 (h : Fz w W (t1 :: t2 :: t3 :: t4 :: t5 :: ts)) : Fz w W (t5 :: t1 :: t2 :: t3 :: t4 :: ts) := by
 have hp := List.pairwise_cons.1 h.pw
 have hp2 := List.pairwise_cons.1 hp.2
 have hp3 := List.pairwise_cons.1 hp2.2
 have hp4 := List.pairwise_cons.1 hp3.2
 have hp5 := List.pairwise_cons.1 hp4.2
 refine ⟨h.below, fun x hx => h.th x (by simp only [List.mem_cons] at hx ⊢; rcases hx with h | h | h | h | h | h <;> simp [h]), .cons ?_ (.cons ?_ (.cons ?_ (.cons ?_ (.cons ?_ hp5.2))))⟩
 ·intro x hx k h1 h3
  simp only [List.mem_cons] at hx
  rcases hx with rfl | rfl | rfl | rfl | hx
  ·exact hp.1 t5 (by simp) k h3 h1
  ·exact hp2.1 t5 (by simp) k h3 h1
  ·exact hp3.1 t5 (by simp) k h3 h1
  ·exact hp4.1 t5 (by simp) k h3 h1
  ·exact hp5.1 x hx k h1 h3
 ·intro x hx; simp only [List.mem_cons] at hx; exact hp.1 x (by simp only [List.mem_cons]; rcases hx with h | h | h | h <;> simp [h])
 ·intro x hx; simp only [List.mem_cons] at hx; exact hp2.1 x (by simp only [List.mem_cons]; rcases hx with h | h | h <;> simp [h])
 ·intro x hx; simp only [List.mem_cons] at hx; exact hp3.1 x (by simp only [List.mem_cons]; rcases hx with h | h <;> simp [h])
 ·exact fun x hx => hp4.1 x (by simp [hx])
theorem Fz.bring (pre : List Th) (h : Fz w W (pre ++ t :: ts)) : Fz w W (t :: (pre ++ ts)) := by
 have hp := List.pairwise_append.1 h.pw
 have hp2 := List.pairwise_cons.1 hp.2.1
 refine ⟨h.below, fun x hx => h.th x (by simp only [List.mem_cons, List.mem_append] at hx ⊢; rcases hx with h | h | h <;> simp [h]), .cons ?_ (List.pairwise_append.2 ⟨hp.1, hp2.2, fun a ha b hb => hp.2.2 a ha b (List.mem_cons_of_mem _ hb)⟩)⟩
 intro x hx k h1 h3
 rcases List.mem_append.1 hx with hx | hx
 ·exact hp.2.2 x hx t (List.mem_cons_self ..) k h3 h1
 ·exact hp2.1 x hx k h1 h3
theorem Fz.keep (pre : List Th) (h : Fz w W (pre ++ ts)) : Fz w W pre := ⟨h.below, fun x hx => h.th x (List.mem_append.2 (.inl hx)), (List.pairwise_append.1 h.pw).1⟩
theorem Fz.first6 {t6 : Th} (h : Fz w W (t1 :: t2 :: t3 :: t4 :: t5 :: t6 :: ts)) : Fz w W [t1, t2, t3, t4, t5, t6] := Fz.keep [t1, t2, t3, t4, t5, t6] h
theorem Fz.up6 {t6 : Th} (h : Fz w W (t1 :: t2 :: t3 :: t4 :: t5 :: t6 :: ts)) : Fz w W (t6 :: t1 :: t2 :: t3 :: t4 :: t5 :: ts) := Fz.bring [t1, t2, t3, t4, t5] h
theorem Fz.up7 {t6 t7 : Th} (h : Fz w W (t1 :: t2 :: t3 :: t4 :: t5 :: t6 :: t7 :: ts)) : Fz w W (t7 :: t1 :: t2 :: t3 :: t4 :: t5 :: t6 :: ts) := Fz.bring [t1, t2, t3, t4, t5, t6] h
theorem Fz.up8 {t6 t7 t8 : Th} (h : Fz w W (t1 :: t2 :: t3 :: t4 :: t5 :: t6 :: t7 :: t8 :: ts)) : Fz w W (t8 :: t1 :: t2 :: t3 :: t4 :: t5 :: t6 :: t7 :: ts) := Fz.bring [t1, t2, t3, t4, t5, t6, t7] h
theorem Fz.b0 (h : Fz w W (t1 :: ts)) : t1.holds W := (h.th t1 (by simp)).1
theorem Fz.b1 (h : Fz w W (t1 :: t2 :: ts)) : t2.holds W := (h.th t2 (by simp)).1
theorem Fz.b2 (h : Fz w W (t1 :: t2 :: t3 :: ts)) : t3.holds W := (h.th t3 (by simp)).1
theorem Fz.b3 (h : Fz w W (t1 :: t2 :: t3 :: t4 :: ts)) : t4.holds W := (h.th t4 (by simp)).1
theorem Fz.b4 (h : Fz w W (t1 :: t2 :: t3 :: t4 :: t5 :: ts)) : t5.holds W := (h.th t5 (by simp)).1
theorem Fz.b5 {t6 : Th} (h : Fz w W (t1 :: t2 :: t3 :: t4 :: t5 :: t6 :: ts)) : t6.holds W := (h.th t6 (by simp)).1
theorem Fz.b6 {t6 t7 : Th} (h : Fz w W (t1 :: t2 :: t3 :: t4 :: t5 :: t6 :: t7 :: ts)) : t7.holds W := (h.th t7 (by simp)).1
/-- A row that a call has handed back. -/
theorem Fz.row {α : Type} {d : Kd α} {e : TypeId} {v : Value} {xs : List α} (h : Fz w W ts) (hb : Below W.heap.size W W') {base : Nat} (hbase : W.heap.size ≤ base) (hr : d.R e W' base (fun _ => True) v xs) :
  Fz w W' (rT d e w.heap.size (fun k => W.heap.size ≤ k ∧ k < W'.heap.size) v xs :: ts) :=
 h.new hb _ (Kd.R_lower (Kd.R_mono (Kd.R_bound hr) (fun k hk => ⟨Nat.le_trans hbase hk.2.1, hk.2.2.1⟩)) (Nat.le_trans h.below.size hbase)) (fun _ hk => hk)
end
section
variable {w W W' : World} {ts : List Th} {ops : Array Oper} {rest : List Oper} {o : Oper} {a : Act} {Q : Exit → Act → World → Prop}
theorem wp_only {c : Code} {Q : Exit → Act → World → Prop} {w : World} {a : Act} (h : c.wp Tryz.prog (fun e a' w' => e = .normal ∧ Q .normal a' w') a w) : c.wp Tryz.prog Q a w :=
 wp_mono h (fun e a' w' h => by obtain ⟨rfl, h⟩ := h; exact h)
theorem ez_box {N : Tmp} {t : TypeId} {cs : Array Value} (HF : Hid (Fz w W ts)) (hd : o.dst = some N) (hgd : o.guard = none)
  (hrun : (execOp a.eval o).run Tryz.prog W = .ok (.value (.pointer (some ⟨W.heap.size, 0, none⟩))) (W.alloc (.cells cs t (0, 0))))
  (h : ∀ b W', Hid (Fz w W' (vT b t cs :: ts)) → wpList Tryz.prog ops Q rest (a.put (some N) (.pointer (some ⟨b, 0, none⟩))) W') : wpList Tryz.prog ops Q (o :: rest) a W :=
 Kd.event_run hgd hrun (by rw [hd]; exact h _ _ (Lib.hid (HF.out.alloc _)))
theorem ez_put {p : Tmp} {v : Operand} {b : Nat} {t : TypeId} {x0 x1 x2 u0 u1 u2 : Value} (HF : Hid (Fz w W (vT b t #[x0, x1, x2] :: ts))) (ho : o.op = .store t (.tmp p) v) (hd : o.dst = none) (hgd : o.guard = none)
  (hi : (Tryz.prog.info? t).map (·.size) = some 3) (hp : a.eval (.tmp p) = .pointer (some ⟨b, 0, none⟩)) (hv : a.eval v = .agg #[u0, u1, u2]) (h1 : [u0, u1, u2].all (·.oneCell') = true)
  (h : ∀ W', Hid (Fz w W' (vT b t #[u0, u1, u2] :: ts)) → wpList Tryz.prog ops Q rest a W') : wpList Tryz.prog ops Q (o :: rest) a W := by
 refine wpList_store_mid hgd t (.tmp p) v ho b 0 #[u0, u1, u2] hp hv (there3 HF.out.b0) hi (by simpa using h1) ?_
 rw [hd]
 exact h _ (Lib.hid (((HF.out.set 0 u0 rfl).set 1 u1 rfl).set 2 u2 rfl))
theorem there1 {b : Nat} {t : TypeId} {x : Value} (h : W.heap[b]? = some (.cells #[x] t (0, 0))) : W.there b 0 1 := fun j hj => by
 match j, hj with
 | 0, _ => exact ⟨by rw [show 0 + 0 = 0 from rfl, blk_cell h 0]; rfl, blk_frozen h 0⟩
theorem ez_put1 {p : Tmp} {v : Operand} {b : Nat} {t : TypeId} {x0 u0 : Value} (HF : Hid (Fz w W (vT b t #[x0] :: ts))) (ho : o.op = .store t (.tmp p) v) (hd : o.dst = none) (hgd : o.guard = none)
  (hi : (Tryz.prog.info? t).map (·.size) = some 1) (hp : a.eval (.tmp p) = .pointer (some ⟨b, 0, none⟩)) (hv : a.eval v = .agg #[u0]) (h1 : [u0].all (·.oneCell') = true)
  (h : ∀ W', Hid (Fz w W' (vT b t #[u0] :: ts)) → wpList Tryz.prog ops Q rest a W') : wpList Tryz.prog ops Q (o :: rest) a W := by
 refine wpList_store_mid hgd t (.tmp p) v ho b 0 #[u0] hp hv (there1 HF.out.b0) hi (by simpa using h1) ?_
 rw [hd]
 exact h _ (Lib.hid (HF.out.set 0 u0 rfl))
theorem sz_put {p : Tmp} {v : Operand} {b : Nat} {t : TypeId} {x0 x1 x2 u0 u1 u2 : Value} {K : Act → World → Prop} (HF : Hid (Fz w W (vT b t #[x0, x1, x2] :: ts))) (hw : Region.wanted o (yielded ops a.tmps) = true) (ho : o.op = .store t (.tmp p) v) (hd : o.dst = none)
  (hi : (Tryz.prog.info? t).map (·.size) = some 3) (hp : a.eval (.tmp p) = .pointer (some ⟨b, 0, none⟩)) (hv : a.eval v = .agg #[u0, u1, u2]) (h1 : [u0, u1, u2].all (·.oneCell') = true)
  (h : ∀ W', Hid (Fz w W' (vT b t #[u0, u1, u2] :: ts)) → K a W') : if Region.wanted o (yielded ops a.tmps) = true then Oper.wp Tryz.prog o a W K Q else K (a.put o.dst undef) W := by
 rw [if_pos hw]
 refine wp_store_mid t (.tmp p) v ho b 0 #[u0, u1, u2] hp hv (there3 HF.out.b0) hi (by simpa using h1) ?_
 rw [hd]
 exact h _ (Lib.hid (((HF.out.set 0 u0 rfl).set 1 u1 rfl).set 2 u2 rfl))
theorem ez_cell {p : Tmp} {v : Operand} {b i : Nat} {t tb : TypeId} {cs cs' : Array Value} {x u : Value} (HF : Hid (Fz w W (vT b tb cs :: ts))) (ho : o.op = .store t (.tmp p) v) (hd : o.dst = none) (hgd : o.guard = none)
  (hi : (Tryz.prog.info? t).map (·.size) = some 1) (hp : a.eval (.tmp p) = .pointer (some ⟨b, i, none⟩)) (hv : a.eval v = u) (h1 : (∃ A n c, u = .slice A n c) ∨ ∃ z, u = .int .i64 z) (hx : cs[i]? = some x) (hcs : cs.setIfInBounds i u = cs')
  (h : ∀ W', Hid (Fz w W' (vT b tb cs' :: ts)) → wpList Tryz.prog ops Q rest a W') : wpList Tryz.prog ops Q (o :: rest) a W := by
 refine wpList_plain hgd fun K hK => ?_
 unfold Oper.wp
 rw [run_cell ho hp hv hi h1 ((blk_cell HF.out.b0 i).trans hx) (blk_frozen HF.out.b0 i)]
 show K (a.put o.dst undef) _
 rw [hd]
 exact hK _ _ (h _ (Lib.hid (HF.out.set i u hcs)))
theorem sz_cell {p : Tmp} {v : Operand} {b i : Nat} {t tb : TypeId} {cs cs' : Array Value} {x u : Value} {K : Act → World → Prop} (HF : Hid (Fz w W (vT b tb cs :: ts))) (hw : Region.wanted o (yielded ops a.tmps) = true) (ho : o.op = .store t (.tmp p) v) (hd : o.dst = none)
  (hi : (Tryz.prog.info? t).map (·.size) = some 1) (hp : a.eval (.tmp p) = .pointer (some ⟨b, i, none⟩)) (hv : a.eval v = u) (h1 : (∃ A n c, u = .slice A n c) ∨ ∃ z, u = .int .i64 z) (hx : cs[i]? = some x) (hcs : cs.setIfInBounds i u = cs')
  (h : ∀ W', Hid (Fz w W' (vT b tb cs' :: ts)) → K a W') : if Region.wanted o (yielded ops a.tmps) = true then Oper.wp Tryz.prog o a W K Q else K (a.put o.dst undef) W := by
 rw [if_pos hw]
 unfold Oper.wp
 rw [run_cell ho hp hv hi h1 ((blk_cell HF.out.b0 i).trans hx) (blk_frozen HF.out.b0 i)]
 show K (a.put o.dst undef) _
 rw [hd]
 exact h _ (Lib.hid (HF.out.set i u hcs))
end
end Go.Proofs.YtbndfgoklgdfdaaGreatDoor.P
end
section
namespace Go.Proofs.YtbndfgoklgdfdaaGreatDoor.P
open Go.RowKit Go.Proofs.YtbndfgoklgdfdaaGreatDoorW.PrintWords Go.Proofs.YtbndfgoklgdfdaaGreatDoorW.PrintLast Go.Proofs.YtbndfgoklgdfdaaGreatDoorW.PrintMore

/-- A test's contract at one tree: function F answers p. -/
def IsOn (F : FuncId) (p : S25 → Bool) (x : S25) : Prop := ∀ (A : Option Addr) (c : Nat) (w : World), x.f2.length ≤ c → Kd.C k25 w A x.f2.length x.f2 →
 Calls Tryz.prog F #[.agg #[.int .i64 x.f0, .string x.f1, .slice A x.f2.length c]] w fun e w' => e = .returned (.bool (p x)) ∧ Below w.heap.size w w'
theorem rdN_mem (l : List S25) (k : Nat) (h : k < l.length) : rd_T25 l k ∈ l := by
 have := rdN_drop l k h
 exact List.mem_of_mem_drop (i := k) (by rw [this]; exact List.mem_cons_self ..)

set_option maxHeartbeats 1000000 in
theorem every1_on (F : FuncId) (hF : Enters Tryz.prog F) (p : S25 → Bool) (x : S25) (ih : IsOn F p x) (b : Nat) (A : Option Addr) (c : Nat) (w : World) (hc : x.f2.length ≤ c) (hC : Kd.C k25 w A x.f2.length x.f2) (hb : w.heap[b]? = some (.cells #[.func (.func F) #[] #[]] 33 (0, 0))) :
  Calls Tryz.prog 111 #[.agg #[.int .i64 x.f0, .string x.f1, .slice A x.f2.length c], .pointer (some ⟨b, 0, none⟩)] w fun e w' => e = .returned (.bool (!(p x))) ∧ Below w.heap.size w w' := by
 have x0 : w.cell? ⟨b, 0, none⟩ = some (.func (.func F) #[] #[]) := by simp [World.cell?, hb]
 have xa : ∀ o : Obj, (w.alloc o).cell? ⟨b, 0, none⟩ = some (.func (.func F) #[] #[]) := fun o => (((Below.refl w.heap.size w).alloc (Nat.le_refl _) o).cell (World.block_lt_of_cell? w _ x0)).trans x0
 have HC := Lib.hid hC
 have HCC := Lib.hid hc
 have HIH := Lib.hid ih
 clear hC hc hb ih
 have hcf_ : ∀ (args : Array Value) (w : World), (callFunc F args).run Tryz.prog w = .ok (.enter F args) w := hF
 clear hF
 go_enter Tryz.func111, Tryz.ntmps111
 go_wp2_with fail
 go_simp
 refine (HIH.out A c _ HCC.out (by first | exact HC.out | exact Kd.C_alloc HC.out _)).mono ?_; rintro e w2 ⟨rfl, hb2⟩
 go_wp2_with fail
 go_ret
 exact ⟨rfl, by first | exact hb2 | exact below_step (below_alloc (Below.refl _ _) _) hb2⟩
set_option maxHeartbeats 1000000 in
theorem everyIndex_on (F : FuncId) (hF : Enters Tryz.prog F) (p : S25 → Bool) (b : Nat) (l : List S25) (ih : ∀ x ∈ l, IsOn F p x) (A : Option Addr) (c : Nat) (w : World) (hC : Kd.C k25 w A l.length l) (hb : w.heap[b]? = some (.cells #[.func (.func F) #[] #[]] 33 (0, 0))) :
  Calls Tryz.prog 110 #[.slice A l.length c, .func (.func 111) #[] #[.pointer (some ⟨b, 0, none⟩)]] w fun e w' => (∃ r : Int, e = .returned (.int .i64 r) ∧ (!decide (0 ≤ r)) = l.all p) ∧ Below w.heap.size w w' := by
 obtain ⟨R, hR⟩ : ∃ R, R = l.all p := ⟨_, rfl⟩
 rw [← hR]
 have hln : l.length ≤ 9223372036854775807 := hC.2.1
 have HR := Lib.hid hR
 have HC := Lib.hid hC
 have HBB := Lib.hid hb
 have HIH := Lib.hid ih
 clear hR hC hb ih
 go_enter Tryz.func110, Tryz.ntmps110
 go_wp2_with fail
 go_loopw [8] (fun i wr => ∃ k : Nat, i = .int .i64 k ∧ k ≤ l.length ∧ Below w.heap.size w wr ∧ R = (l.drop k).all p) (fun i _ => l.length - (intOf i).toNat)
 case atStart => exact ⟨0, rfl, Nat.zero_le _, Below.refl _ _, HR.out⟩
 case round =>
  obtain ⟨k, rfl, hk, hbw, hd⟩ := hrel
  have HB := Lib.hid hbw
  have HD := Lib.hid hd
  clear hbw hd
  by_cases hlt : k < l.length
  ·obtain ⟨a0, A2, c2, e0, p0, p1, p2, hl2, hc2⟩ := at_T25 (Kd.C_below HC.out HB.out) k (by omega) (by omega)
   subst e0
   obtain ⟨x, hx⟩ : ∃ x, x = rd_T25 l k := ⟨_, rfl⟩
   have hdr := rdN_drop l k hlt
   have hmem := rdN_mem l k hlt
   rw [← hx] at p0 p1 p2 hl2 hc2 hdr hmem
   rw [Int.toNat_natCast] at p0 p1 p2
   have HX := Lib.hid (HIH.out x hmem)
   have hbk := (HB.out.block b ((Array.getElem?_eq_some_iff.1 HBB.out).1)).trans HBB.out
   have HBK := Lib.hid hbk
   have HC2 := Lib.hid hc2
   have hD2 := HD.out
   rw [hdr, List.all_cons] at hD2
   have HD2 := Lib.hid hD2
   clear hx hdr hbk hc2 hD2 hmem
   cases hp : p x
   ·have hDf := HD2.out
    rw [hp, Bool.false_and] at hDf
    have HDF := Lib.hid hDf
    clear hDf
    go_wp2_with (go_at_call 111; refine (every1_on F hF p x HX.out b A2 c2 _ hl2 HC2.out HBK.out).mono ?_; rintro e w2 ⟨rfl, hb2⟩; rw [hp, Bool.not_false])
    go_ret
    exact ⟨⟨k, rfl, by rw [HDF.out, decide_eq_true (by omega)]; rfl⟩, below_step HB.out hb2⟩
   ·have hDf := HD2.out
    rw [hp, Bool.true_and] at hDf
    have HDF := Lib.hid hDf
    clear hDf
    go_wp2_with (go_at_call 111; refine (every1_on F hF p x HX.out b A2 c2 _ hl2 HC2.out HBK.out).mono ?_; rintro e w2 ⟨rfl, hb2⟩; rw [hp, Bool.not_true])
    exact ⟨⟨k + 1, by go_num, by omega, below_step HB.out hb2, HDF.out⟩, by simp [intOf]; omega⟩
  ·go_wp2_with fail
   go_ret
   have h := HD.out
   rw [List.drop_of_length_le (by omega)] at h
   exact ⟨⟨-1, rfl, by rw [h]; rfl⟩, HB.out⟩
set_option maxHeartbeats 1000000 in
theorem everyContains_on (F : FuncId) (hF : Enters Tryz.prog F) (p : S25 → Bool) (b : Nat) (l : List S25) (ih : ∀ x ∈ l, IsOn F p x) (A : Option Addr) (c : Nat) (w : World) (hC : Kd.C k25 w A l.length l) (hb : w.heap[b]? = some (.cells #[.func (.func F) #[] #[]] 33 (0, 0))) :
  Calls Tryz.prog 60 #[.slice A l.length c, .func (.func 111) #[] #[.pointer (some ⟨b, 0, none⟩)]] w fun e w' => e = .returned (.bool (!(l.all p))) ∧ Below w.heap.size w w' := by
 have HC := Lib.hid hC
 have HBB := Lib.hid hb
 have HIH := Lib.hid ih
 clear hC hb ih
 go_enter Tryz.func60, Tryz.ntmps60
 go_wp2_with (go_at_call 110; refine (everyIndex_on F hF p b l HIH.out A c _ HC.out HBB.out).mono ?_; rintro e w2 ⟨⟨r, rfl, hr⟩, hb2⟩; have HRR := Lib.hid hr; clear hr)
 go_ret
 exact ⟨by rw [← HRR.out, Bool.not_not]; rfl, hb2⟩
set_option maxHeartbeats 1000000 in
theorem every_on (F : FuncId) (hF : Enters Tryz.prog F) (p : S25 → Bool) (l : List S25) (ih : ∀ x ∈ l, IsOn F p x) (A : Option Addr) (c : Nat) (w : World) (hC : Kd.C k25 w A l.length l) :
  Calls Tryz.prog 62 #[.slice A l.length c, .func (.func F) #[] #[]] w fun e w' => e = .returned (.bool (l.all p)) ∧ Below w.heap.size w w' := by
 have HC := Lib.hid hC
 have HIH := Lib.hid ih
 clear hC ih
 go_enter Tryz.func62, Tryz.ntmps62
 go_wp2_with (go_at_call 60; refine (everyContains_on F hF p w.heap.size l HIH.out A c _ (Kd.C_alloc HC.out _) (Go.heap_alloc_new _ _)).mono ?_; rintro e w2 ⟨rfl, hb2⟩)
 go_ret
 exact ⟨by simp, below_step (below_alloc (Below.refl _ _) _) hb2⟩

end Go.Proofs.YtbndfgoklgdfdaaGreatDoor.P
end
section
namespace Go.Proofs.YtbndfgoklgdfdaaGreatDoor.P

def lettersL : List UInt8 := [97, 98, 99, 100, 101, 102, 103, 104, 105, 106, 107, 108, 109, 110, 111, 112, 113, 114, 115, 116, 117, 118, 119, 120, 121, 122, 65, 66, 67, 68, 69, 70, 71, 72, 73, 74, 75, 76, 77, 78, 79, 80, 81, 82, 83, 84, 85, 86, 87, 88, 89, 90, 48, 49, 50, 51, 52, 53, 54, 55, 56, 57, 95, 39]
def partB (c : UInt8) : Bool := lettersL.contains c
def smallB (c : UInt8) : Bool := decide (97 ≤ c.toNat) && decide (c.toNat ≤ 122)
def capB (c : UInt8) : Bool := decide (65 ≤ c.toNat) && decide (c.toNat ≤ 90)
def blankB (c : UInt8) : Bool := c == 32 || c == 9 || c == 10
/-- How many name characters stand at the beginning. -/
def runN : List UInt8 → Nat
 | [] => 0
 | c :: l => if partB c then runN l + 1 else 0
theorem runN_le : ∀ l : List UInt8, runN l ≤ l.length
 | [] => Nat.le_refl _
 | c :: l => by
  unfold runN
  have := runN_le l
  split <;> simp <;> omega
/-- The keywords. -/
def wordsL : List (List UInt8) := [[116, 121, 112, 101], [99, 111, 110, 115, 116], [112, 114, 101, 100], [102, 97, 99, 116], [108, 97, 115, 116, 105, 110, 103], [109, 111, 100, 101], [114, 117, 108, 101], [111, 110, 99, 101], [109, 111, 115, 116], [113, 117, 101, 114, 121], [109, 111, 100, 117, 108, 101], [117, 115, 101], [101, 120, 112, 111, 114, 116], [97, 108, 108], [101, 120], [111, 110, 101], [116, 111, 112]]
/-- The signs of one byte. -/
def onesL : List UInt8 := [42, 38, 43, 33, 123, 125, 40, 41, 46, 44, 58, 92]
/-- Does '@' and a small letter follow the name characters? -/
def linkB (l : List UInt8) : Bool :=
 match l.drop (runN l) with
 | a :: c :: _ => a == 64 && smallB c
 | _ => false
/-- The length of the name that begins with a small letter, linked or not. -/
def nameN (l : List UInt8) : Nat := if linkB l then runN l + 1 + runN (l.drop (runN l + 1)) else runN l
theorem linkB_lt {l : List UInt8} (h : linkB l = true) : runN l + 1 < l.length := by
 unfold linkB at h
 rcases hd : l.drop (runN l) with _ | ⟨a, _ | ⟨c, t⟩⟩
 ·rw [hd] at h; cases h
 ·rw [hd] at h; cases h
 ·have h1 := congrArg List.length hd
  simp at h1
  omega
theorem nameN_le (l : List UInt8) : nameN l ≤ l.length := by
 unfold nameN
 split
 ·rename_i hl
  have h1 := linkB_lt hl
  have h2 := runN_le (l.drop (runN l + 1))
  simp at h2
  omega
 ·exact runN_le l
/-- Is it the sign o-? -/
def oB (l : List UInt8) : Bool := l.take (nameN l) == [111] && l[1]? == some 45
/-- The kind and the length of the token that begins here; none: no token does. -/
def tok (l : List UInt8) : Option (Nat × Nat) :=
 match l with
 | [] => none
 | b :: r =>
  if smallB b then
   if oB l then some (3, 2)
   else if wordsL.contains (l.take (nameN l)) then some (4, nameN l) else some (1, nameN l)
  else if capB b then some (2, runN l)
  else if (b = 45 ∧ r.head? = some 62) ∨ (b = 61 ∧ r.head? = some 62) ∨ (b = 60 ∧ r.head? = some 61) then some (3, 2)
  else if b = 45 ∧ r.head? = some 111 then
   match r.tail with
   | [] => some (3, 2)
   | c :: _ => if partB c then none else some (3, 2)
  else if onesL.contains b then some (3, 1) else none
theorem tok_o {b : UInt8} {r : List UInt8} (h : smallB b = true) (ho : oB (b :: r) = true) : tok (b :: r) = some (3, 2) := by
 simp only [tok]; rw [if_pos h, if_pos ho]
theorem tok_word {b : UInt8} {r : List UInt8} (h : smallB b = true) (ho : oB (b :: r) = false) (hw : wordsL.contains ((b :: r).take (nameN (b :: r))) = true) : tok (b :: r) = some (4, nameN (b :: r)) := by
 simp only [tok]; rw [if_pos h, if_neg (by rw [ho]; simp), if_pos hw]
theorem tok_name {b : UInt8} {r : List UInt8} (h : smallB b = true) (ho : oB (b :: r) = false) (hw : wordsL.contains ((b :: r).take (nameN (b :: r))) = false) : tok (b :: r) = some (1, nameN (b :: r)) := by
 simp only [tok]; rw [if_pos h, if_neg (by rw [ho]; simp), if_neg (by rw [hw]; simp)]
theorem tok_cap {b : UInt8} {r : List UInt8} (h : smallB b = false) (hc : capB b = true) : tok (b :: r) = some (2, runN (b :: r)) := by
 simp only [tok]; rw [if_neg (by rw [h]; simp), if_pos hc]
theorem two_iff {b x y : UInt8} {r : List UInt8} : (b == x && r.head? == some y) = true ↔ (b = x ∧ r.head? = some y) := by simp
theorem two_not {b x y : UInt8} {r : List UInt8} (h : (b == x && r.head? == some y) = false) : ¬ (b = x ∧ r.head? = some y) := fun g => by rw [two_iff.2 g] at h; cases h
theorem tok_two {b : UInt8} {r : List UInt8} (h : smallB b = false) (hc : capB b = false) (hp : (b == 45 && r.head? == some 62) = true ∨ (b == 61 && r.head? == some 62) = true ∨ (b == 60 && r.head? == some 61) = true) : tok (b :: r) = some (3, 2) := by
 simp only [tok]; rw [if_neg (by rw [h]; simp), if_neg (by rw [hc]; simp), if_pos (by rcases hp with hp | hp | hp; exact .inl (two_iff.1 hp); exact .inr (.inl (two_iff.1 hp)); exact .inr (.inr (two_iff.1 hp)))]
theorem no_two {b : UInt8} {r : List UInt8} (h1 : (b == 45 && r.head? == some 62) = false) (h2 : (b == 61 && r.head? == some 62) = false) (h3 : (b == 60 && r.head? == some 61) = false) : ¬ ((b = 45 ∧ r.head? = some 62) ∨ (b = 61 ∧ r.head? = some 62) ∨ (b = 60 ∧ r.head? = some 61)) := by
 rintro (h | h | h)
 ·exact two_not h1 h
 ·exact two_not h2 h
 ·exact two_not h3 h
theorem tok_lolli {b : UInt8} {r : List UInt8} (h : smallB b = false) (hc : capB b = false) (h1 : (b == 45 && r.head? == some 62) = false) (h2 : (b == 61 && r.head? == some 62) = false) (h3 : (b == 60 && r.head? == some 61) = false) (h4 : (b == 45 && r.head? == some 111) = true) (h5 : r.length = 1 ∨ ∃ c, (b :: r)[2]? = some c ∧ partB c = false) : tok (b :: r) = some (3, 2) := by
 simp only [tok]; rw [if_neg (by rw [h]; simp), if_neg (by rw [hc]; simp), if_neg (no_two h1 h2 h3), if_pos (two_iff.1 h4)]
 match r, h5 with
 | [_], _ => rfl
 | _ :: c :: _, .inr ⟨d, hd, hp⟩ =>
  simp at hd
  subst hd
  simp [hp]
 | _ :: _ :: _, .inl h => simp at h
theorem tok_none2 {b c : UInt8} {r : List UInt8} (h : smallB b = false) (hc : capB b = false) (h1 : (b == 45 && r.head? == some 62) = false) (h2 : (b == 61 && r.head? == some 62) = false) (h3 : (b == 60 && r.head? == some 61) = false) (h4 : (b == 45 && r.head? == some 111) = true) (hd : (b :: r)[2]? = some c) (hp : partB c = true) : tok (b :: r) = none := by
 simp only [tok]; rw [if_neg (by rw [h]; simp), if_neg (by rw [hc]; simp), if_neg (no_two h1 h2 h3), if_pos (two_iff.1 h4)]
 match r, hd with
 | _ :: d :: _, hd =>
  simp at hd
  subst hd
  simp [hp]
theorem tok_one {b : UInt8} {r : List UInt8} (h : smallB b = false) (hc : capB b = false) (h1 : (b == 45 && r.head? == some 62) = false) (h2 : (b == 61 && r.head? == some 62) = false) (h3 : (b == 60 && r.head? == some 61) = false) (h4 : (b == 45 && r.head? == some 111) = false) (ho : onesL.contains b = true) : tok (b :: r) = some (3, 1) := by
 simp only [tok]; rw [if_neg (by rw [h]; simp), if_neg (by rw [hc]; simp), if_neg (no_two h1 h2 h3), if_neg (two_not h4), if_pos ho]
theorem tok_none1 {b : UInt8} {r : List UInt8} (h : smallB b = false) (hc : capB b = false) (h1 : (b == 45 && r.head? == some 62) = false) (h2 : (b == 61 && r.head? == some 62) = false) (h3 : (b == 60 && r.head? == some 61) = false) (h4 : (b == 45 && r.head? == some 111) = false) (ho : onesL.contains b = false) : tok (b :: r) = none := by
 simp only [tok]; rw [if_neg (by rw [h]; simp), if_neg (by rw [hc]; simp), if_neg (no_two h1 h2 h3), if_neg (two_not h4), if_neg (by rw [ho]; simp)]
/-- How many bytes of blanks and comments stand at the beginning; c: within a comment. -/
def skipN : Bool → List UInt8 → Nat
 | _, [] => 0
 | true, c :: l => if c = 10 then skipN false l + 1 else skipN true l + 1
 | false, c :: l => if blankB c then skipN false l + 1 else if c = 37 then skipN true l + 1 else 0
theorem skipN_le : ∀ (c : Bool) (l : List UInt8), skipN c l ≤ l.length
 | _, [] => by simp [skipN]
 | true, c :: l => by
  have h1 := skipN_le false l
  have h2 := skipN_le true l
  simp only [skipN]
  split <;> simp <;> omega
 | false, c :: l => by
  have h1 := skipN_le false l
  have h2 := skipN_le true l
  simp only [skipN]
  split
  ·simp; omega
  ·split <;> simp <;> omega
/-- A comment ends at the next line feed, or at the end. -/
theorem skip_comment : ∀ l : List UInt8, (∀ n : Nat, Lib.indexByte l 10 = n → n < l.length ∧ skipN true l = n + skipN false (l.drop n)) ∧ (Lib.indexByte l 10 < 0 → skipN true l = l.length)
 | [] => ⟨fun n h => by simp [Lib.indexByte] at h <;> omega, fun _ => rfl⟩
 | c :: l => by
  obtain ⟨h1, h2⟩ := skip_comment l
  have hge := Lib.indexByte_ge l 10
  by_cases hc : c = 10
  ·subst hc
   refine ⟨fun n h => ?_, fun h => ?_⟩
   ·simp [Lib.indexByte] at h
    obtain rfl : n = 0 := by omega
    simp [skipN, blankB]
   ·simp [Lib.indexByte] at h
  ·have hcb : (c == 10) = false := by simpa using hc
   refine ⟨fun n h => ?_, fun h => ?_⟩
   ·unfold Lib.indexByte at h
    rw [hcb] at h
    simp only [Bool.false_eq_true, if_false] at h
    by_cases hm : Lib.indexByte l 10 = -1
    ·rw [hm] at h; simp at h <;> omega
    ·rw [if_neg (by simpa using hm)] at h
     obtain ⟨m, rfl⟩ : ∃ m, n = m + 1 := ⟨n - 1, by omega⟩
     obtain ⟨h3, h4⟩ := h1 m (by omega)
     refine ⟨by simp; omega, ?_⟩
     simp only [skipN, if_neg hc, List.drop_succ_cons, h4]
     omega
   ·unfold Lib.indexByte at h
    rw [hcb] at h
    simp only [Bool.false_eq_true, if_false] at h
    by_cases hm : Lib.indexByte l 10 = -1
    ·simp only [skipN, if_neg hc, List.length_cons]
     rw [h2 (by omega)]
    ·rw [if_neg (by simpa using hm)] at h
     omega
/-- A comment, from its sign on. -/
theorem skip_sign (l : List UInt8) : (∀ n : Nat, Lib.indexByte (37 :: l) 10 = n → n ≤ l.length ∧ 1 ≤ n ∧ skipN false (37 :: l) = n + skipN false ((37 :: l).drop n)) ∧ (Lib.indexByte (37 :: l) 10 < 0 → skipN false (37 :: l) = l.length + 1) := by
 obtain ⟨h1, h2⟩ := skip_comment l
 have hge := Lib.indexByte_ge l 10
 have hs : skipN false (37 :: l) = skipN true l + 1 := by simp [skipN, blankB]
 have hi : Lib.indexByte (37 :: l) 10 = if Lib.indexByte l 10 == -1 then -1 else Lib.indexByte l 10 + 1 := by
  rw [Lib.indexByte]; simp
 by_cases hm : Lib.indexByte l 10 = -1
 ·rw [hm] at hi
  simp at hi
  exact ⟨fun n h => by omega, fun _ => by rw [hs, h2 (by omega)]⟩
 ·rw [if_neg (by simpa using hm)] at hi
  refine ⟨fun n h => ?_, fun h => by omega⟩
  obtain ⟨m, rfl⟩ : ∃ m, n = m + 1 := ⟨n - 1, by omega⟩
  obtain ⟨h3, h4⟩ := h1 m (by omega)
  exact ⟨by omega, by omega, by rw [hs, h4]; simp; omega⟩
/-- The scanner: rest, its offset, what has been found. -/
def scanA : Nat → List UInt8 → Nat → List S65 → List S65 × Int × Int
 | 0, _, _, acc => (acc, 0, 0)
 | _ + 1, [], _, acc => (acc, 0, 0)
 | k + 1, b :: r, at_, acc =>
  match tok (b :: r) with
  | none => ([], at_, 10)
  | some (kind, n) =>
   if acc.length = 6000 then ([], at_, 2)
   else if (kind = 1 ∨ kind = 2) ∧ 40 < n then ([], at_, 11)
   else scanA k (((b :: r).drop n).drop (skipN false ((b :: r).drop n))) (at_ + n + skipN false ((b :: r).drop n)) (acc ++ [⟨kind, ⟨((b :: r).take n).toArray⟩, at_⟩])
/-- Scan. -/
def scanL (l : List UInt8) : List S65 × Int × Int :=
 if 20000 < l.length then ([], 0, 2)
 else scanA (l.length + 1) (l.drop (skipN false l)) (skipN false l) []
theorem of_bytes {p : UInt8 → Bool} (h : (List.range 256).all (fun i => p i.toUInt8) = true) (b : UInt8) : p b = true := by
 have h1 := List.all_eq_true.1 h b.toNat (List.mem_range.2 b.toNat_lt)
 simpa using h1
theorem small_part (b : UInt8) (h : smallB b = true) : partB b = true := by
 have := of_bytes (p := fun b => !smallB b || partB b) (by decide +kernel) b
 simp [h] at this
 exact this
theorem cap_part (b : UInt8) (h : capB b = true) : partB b = true := by
 have := of_bytes (p := fun b => !capB b || partB b) (by decide +kernel) b
 simp [h] at this
 exact this
theorem tok_le {l : List UInt8} {kind n : Nat} (h : tok l = some (kind, n)) : 1 ≤ n ∧ n ≤ l.length := by
 match l, h with
 | b :: r, h =>
  have hr : ∀ {b : UInt8} {r : List UInt8}, partB b = true → 1 ≤ runN (b :: r) := fun hb => by simp [runN, hb]
  have hp1 := small_part b
  have hp2 := cap_part b
  simp only [tok] at h
  split at h
  ·rename_i hsm
   have h1 : 1 ≤ nameN (b :: r) := by
    have := hr (r := r) (hp1 hsm)
    unfold nameN
    split <;> omega
   have h2 := nameN_le (b :: r)
   split at h
   ·rename_i ho
    simp at h
    obtain ⟨_, rfl⟩ := h
    refine ⟨by omega, ?_⟩
    unfold oB at ho
    have h3 := (Bool.and_eq_true _ _ ▸ ho).2
    have h4 : (b :: r)[1]? = some 45 := by simpa using h3
    have := (List.getElem?_eq_some_iff.1 h4).1
    omega
   ·split at h <;> (simp at h; obtain ⟨_, rfl⟩ := h; exact ⟨h1, h2⟩)
  ·split at h
   ·rename_i hc
    simp at h
    obtain ⟨_, rfl⟩ := h
    exact ⟨hr (hp2 hc), runN_le _⟩
   ·split at h
    ·rename_i hc
     simp at h
     obtain ⟨_, rfl⟩ := h
     refine ⟨by omega, ?_⟩
     cases r with
     | nil => simp at hc
     | cons => simp
    ·split at h
     ·rename_i hc
      cases r with
      | nil => simp at hc
      | cons x t =>
       split at h
       ·simp at h; obtain ⟨_, rfl⟩ := h; simp
       ·split at h
        ·cases h
        ·simp at h; obtain ⟨_, rfl⟩ := h; simp
     ·split at h
      ·simp at h; obtain ⟨_, rfl⟩ := h; simp
      ·cases h
end Go.Proofs.YtbndfgoklgdfdaaGreatDoor.P
end
section
namespace Go.Proofs.YtbndfgoklgdfdaaGreatDoor.P
open Go.RowKit Go.Proofs.YtbndfgoklgdfdaaGreatDoorW.PrintWords Go.Proofs.YtbndfgoklgdfdaaGreatDoorW.PrintLast Go.Proofs.YtbndfgoklgdfdaaGreatDoorW.PrintMore

/-- The cells of a [256]bool in which the bytes of l are marked. -/
def tabA (l : List UInt8) : Array Value := ((List.range 256).map fun b => Value.bool (l.contains b.toUInt8)).toArray
theorem tabA_size (l : List UInt8) : (tabA l).size = 256 := by simp [tabA]
theorem tabA_nil : tabA [] = Tryz.zeroCells149 := by kernel_rfl
theorem tabA_get (l : List UInt8) (c : UInt8) : (tabA l)[c.toNat]? = some (.bool (l.contains c)) := by
 have h := c.toNat_lt
 simp [tabA, h]
theorem toUInt8_eq (i : Nat) (hi : i < 256) (c : UInt8) : (i.toUInt8 = c) ↔ c.toNat = i := by
 constructor
 ·intro h
  rw [← h]
  simp [Nat.toUInt8, Nat.mod_eq_of_lt hi]
 ·intro h
  rw [← h]
  simp
theorem tabA_snoc (l : List UInt8) (c : UInt8) : (tabA l).setIfInBounds c.toNat (.bool true) = tabA (l ++ [c]) := by
 apply Array.ext
 ·rw [Array.size_setIfInBounds, tabA_size, tabA_size]
 ·intro i h1 h2
  have hi : i < 256 := by rw [tabA_size] at h2; exact h2
  rw [Array.getElem_setIfInBounds (by rw [tabA_size]; exact hi)]
  by_cases e : c.toNat = i
  ·subst e
   simp [tabA]
  ·have e' := mt (toUInt8_eq i hi c).1 e
   rw [if_neg e]
   simp only [tabA, List.getElem_toArray, List.getElem_map, List.getElem_range]
   congr 1
   rw [Bool.eq_iff_iff]
   simp
   intro h
   exact absurd h e'
theorem tabA_one (l : List UInt8) : (tabA l).all (·.oneCell') = true := by
 rw [Array.all_eq_true_iff_forall_mem]
 intro v hv
 obtain ⟨i, hi⟩ : ∃ i : Nat, v = .bool (l.contains i.toUInt8) := by
  simp [tabA] at hv
  obtain ⟨a, _, rfl⟩ := hv
  exact ⟨a, by simp⟩
 subst hi
 rfl
theorem info90 : (Tryz.prog.info? 149).map (·.size) = some 256 := by kernel_rfl

theorem take_snoc' (s : ByteArray) (k : Nat) (h : k < s.size) : s.data.toList.take (k + 1) = s.data.toList.take k ++ [s[k]] := by
 rw [List.take_succ_eq_append_getElem (by simpa using h)]; rfl

set_option maxRecDepth 100000 in
set_option maxHeartbeats 1000000 in
theorem classes_any (s : ByteArray) (w : World) (hs : s.size ≤ 140737488351232) :
  Calls Tryz.prog 161 #[.string s] w fun e w' => e = .returned (.agg (tabA s.data.toList)) ∧ w' = w.alloc (.cells (tabA s.data.toList) 149) := by
 go_enter Tryz.func161, Tryz.ntmps161
 go_wp2_with fail
 go_loopw [6] (fun i wr => ∃ k : Nat, k ≤ s.size ∧ i = .int .i64 k ∧ wr = w.alloc (.cells (tabA (s.data.toList.take k)) 149)) (fun i _ => s.size - (intOf i).toNat)
 case atStart => exact ⟨0, Nat.zero_le _, rfl, by rw [← tabA_nil]; rfl⟩
 case round =>
  obtain ⟨k, hk, rfl, rfl⟩ := hrel
  have hb := (s.data.toList.take k)
  by_cases hlt : k < s.size
  ·have hg := tabA_get (s.data.toList.take k) s[k]
   have hb := s[k].toNat_lt
   have HS := Lib.hid (tabA_snoc (s.data.toList.take k) s[k])
   have HT := Lib.hid (take_snoc' s k hlt)
   go_wp2
   go_roundw
   case rel => exact ⟨k + 1, by omega, by go_num, by rw [HT.out, ← HS.out]; first | rfl | skip⟩
   case measure => simp [intOf]; omega
  ·have hz := tabA_size (s.data.toList.take k)
   go_wp2_with (first
    | (refine wpList_load_row (o := ⟨some 14, _, _, _, _, _⟩) rfl 149 _ rfl w.heap.size rfl 149 (tabA (s.data.toList.take k)) (0, 0) _ (heap_alloc_new _ _) Tryz.underlying149 rfl (by rw [tabA_size]; exact info90) ?_)
    | (refine wpList_store_row rfl 149 _ _ rfl w.heap.size (tabA (s.data.toList.take k)) rfl rfl 149 (tabA (s.data.toList.take k)) (heap_alloc_new _ _) (by rw [tabA_size]; exact info90) rfl (tabA_one _) ?_; rw [World.setRow_alloc_new]))
   refine bodyPost_ret (results_cell_row rfl _ _ w.heap.size 149 (tabA (s.data.toList.take k)) (0, 0) _ rfl (heap_alloc_new _ _) Tryz.underlying149 rfl (by rw [tabA_size]; exact info90)) rfl ?_
   have e : s.data.toList.take k = s.data.toList := List.take_of_length_le (by simp; omega)
   rw [e]
   exact ⟨rfl, rfl⟩
end Go.Proofs.YtbndfgoklgdfdaaGreatDoor.P

namespace Go.Proofs.YtbndfgoklgdfdaaGreatDoor.P
open Go.RowKit Go.Proofs.YtbndfgoklgdfdaaGreatDoorW.PrintWords Go.Proofs.YtbndfgoklgdfdaaGreatDoorW.PrintLast Go.Proofs.YtbndfgoklgdfdaaGreatDoorW.PrintMore

theorem ret_int {k : IntKind} {a b : Int} (h : a = b) : Ending.returned (.int k a) = .returned (.int k b) := by rw [h]
theorem drop_cons' (s : ByteArray) (k : Nat) (h : k < s.size) : s.data.toList.drop k = s[k] :: s.data.toList.drop (k + 1) := by
 rw [List.drop_eq_getElem_cons (by simpa using h)]; rfl
theorem runN_drop (s : ByteArray) (k : Nat) (h : k < s.size) : runN (s.data.toList.drop k) = if partB s[k] then runN (s.data.toList.drop (k + 1)) + 1 else 0 := by
 rw [drop_cons' s k h, runN]

set_option maxHeartbeats 400000 in
theorem run_any (s : ByteArray) (n : Nat) (pr pw : Nat) (w : World) (hn : n ≤ s.size) (hs : s.size ≤ 140737488351232)
  (hr : w.cell? ⟨pr, 0, none⟩ = some (.string s)) (ht : ∀ c : UInt8, w.cell? ⟨pw, c.toNat, none⟩ = some (.bool (partB c))) :
  Calls Tryz.prog 162 #[.int .i64 n, .pointer (some ⟨pr, 0, none⟩), .pointer (some ⟨pw, 0, none⟩)] w fun e w' => e = .returned (.int .i64 (n + runN (s.data.toList.drop n) : Nat)) ∧ w = w' := by
 go_enter Tryz.func162, Tryz.ntmps162
 go_wp2_with fail
 go_loop [0] (fun i => ∃ k : Nat, k ≤ s.size ∧ i = .int .i64 k ∧ k + runN (s.data.toList.drop k) = n + runN (s.data.toList.drop n)) (fun i => s.size - (intOf i).toNat)
 case atStart => exact ⟨n, hn, rfl, rfl⟩
 case round =>
  obtain ⟨k, hk, rfl, hkn⟩ := hrel
  have HKN := Lib.hid hkn
  clear hkn
  by_cases hlt : k < s.size
  ·have htc := ht s[k]
   have HR := Lib.hid (runN_drop s k hlt)
   have hb := s[k].toNat_lt
   clear ht
   cases hp : partB s[k]
   ·rw [hp] at htc
    have HP := Lib.hid hp
    clear hp
    go_wp2
    go_ret
    exact ⟨ret_int (by have h := HKN.out; rw [HR.out, HP.out] at h; simp at h; omega), rfl⟩
   ·rw [hp] at htc
    have HP := Lib.hid hp
    clear hp
    go_wp2
    go_round
    case rel => exact ⟨k + 1, by omega, by go_num, by have h := HKN.out; rw [HR.out, HP.out] at h; simp at h; omega⟩
    case measure => simp [intOf]; omega
  ·clear ht
   go_wp2
   go_ret
   exact ⟨ret_int (by have h := HKN.out; rw [List.drop_of_length_le (by simp; omega)] at h; simp [runN] at h; omega), rfl⟩

set_option maxHeartbeats 400000 in
theorem of_any (s : ByteArray) (kind at_ : Int) (n : Nat) (pr pa : Nat) (w : World) (hn : n ≤ s.size) (_hs : s.size ≤ 140737488351232)
  (hr : w.cell? ⟨pr, 0, none⟩ = some (.string s)) (ha : w.cell? ⟨pa, 0, none⟩ = some (.int .i64 at_)) (hpr : pr < w.heap.size) (hpa : pa < w.heap.size) :
  Calls Tryz.prog 163 #[.int .i64 kind, .int .i64 n, .pointer (some ⟨pr, 0, none⟩), .pointer (some ⟨pa, 0, none⟩)] w fun e w' =>
   e = .returned (.tuple #[.agg #[.int .i64 kind, .string (s.extract 0 n), .int .i64 at_], .bool true]) ∧ Below w.heap.size w w' := by
 go_enter Tryz.func163, Tryz.ntmps163
 go_wp2
 go_region
 all_goals
  go_wp2

  refine bodyPost_ret (v := .tuple #[.agg #[.int .i64 kind, .string (s.extract 0 n), .int .i64 at_], .bool true]) (by simp [results, Tryz.results163, go_sem]) rfl ⟨rfl, ?_⟩
  repeat (first | exact Below.refl _ _ | refine Below.alloc ?_ (by simp) _ | refine Below.drew ?_ | refine Below.setCell ?_ (by simp) _)

end Go.Proofs.YtbndfgoklgdfdaaGreatDoor.P
end
section
namespace Go.Proofs.YtbndfgoklgdfdaaGreatDoor.P
open Go.RowKit Go.Proofs.YtbndfgoklgdfdaaGreatDoorW.PrintWords Go.Proofs.YtbndfgoklgdfdaaGreatDoorW.PrintLast Go.Proofs.YtbndfgoklgdfdaaGreatDoorW.PrintMore

theorem run_IndexByteString (s : ByteArray) (c : Int) (w : World) :
  (callFunc 174 #[.string s, .int .u8 c]).run Tryz.prog w = .ok (.value (.int .i64 (Lib.indexByte s.data.toList c.toNat.toUInt8))) w := by
 rw [run_callFunc_extern Tryz.func174 (by kernel_rfl) (by kernel_rfl) (by kernel_rfl) (e := Extern.BytealgIndexByte.indexByte) (by kernel_rfl), Lib.run_indexByteString]
 rfl

theorem stringslite_IndexByte_any (s : ByteArray) (c : Int) (w : World) :
  Calls Tryz.prog 171 #[.string s, .int .u8 c] w fun e w' => e = .returned (.int .i64 (Lib.indexByte s.data.toList c.toNat.toUInt8)) ∧ w = w' := by
 have hx := run_IndexByteString
 go_enter Tryz.func171, Tryz.ntmps171
 go_wp2
 go_ret
 exact ⟨rfl, rfl⟩

theorem strings_IndexByte_any (s : ByteArray) (c : Int) (w : World) :
  Calls Tryz.prog 160 #[.string s, .int .u8 c] w fun e w' => e = .returned (.int .i64 (Lib.indexByte s.data.toList c.toNat.toUInt8)) ∧ w = w' := by
 go_enter Tryz.func160, Tryz.ntmps160
 go_wp2_with (go_at_call 171; refine (stringslite_IndexByte_any _ _ _).mono ?_; rintro e w' ⟨rfl, rfl⟩)
 go_ret
 exact ⟨rfl, rfl⟩

end Go.Proofs.YtbndfgoklgdfdaaGreatDoor.P
end
