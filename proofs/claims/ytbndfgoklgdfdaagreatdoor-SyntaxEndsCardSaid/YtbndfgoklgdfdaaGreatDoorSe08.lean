/- lex.Scan's deferred closure: what it does where the scan has panicked with a stop; where it has not. A range over a function, whatever the iterator does: its record, the one call, what is left. lex.Scan: the tokens of a text, or where and why it has none. lex.Check, IsName, IsVar; isName, isWord, isMode: by hand, short. syntax.Check: isType, isTerm, isForm, isItem, isTree as plain tests on trees. How many nodes a tree has. -/
import Derived.Test.YtbndfgoklgdfdaaGreatDoorSe07
import Derived.RecoverIn
import Derived.RegionIn
import Derived.ChangeAlike
import Derived.RangeFuncNested
import Derived.Shelf.Abstract
import Derived.RangeFuncBox
import Derived.Maps.OwnIn
import Derived.Test.YtbndfgoklgdfdaaGreatDoorSe05
import Derived.Shelf.RegionOpenPlain
import Derived.Test.YtbndfgoklgdfdaaGreatDoorSe04
set_option linter.all false
section
namespace Go.Proofs.YtbndfgoklgdfdaaGreatDoor.P
open Go.RowKit Go.Proofs.YtbndfgoklgdfdaaGreatDoorW.PrintWords Go.Proofs.YtbndfgoklgdfdaaGreatDoorW.PrintLast Go.Proofs.YtbndfgoklgdfdaaGreatDoorW.PrintMore
attribute [local go_sem] Oper.semAt_some

set_option maxRecDepth 100000 in
set_option maxHeartbeats 1000000 in
theorem catch_idle (n : Nat) (pl pa pe : Nat) (w : World) :
  CallsDIn Fence.wide n Tryz.prog 102 #[.pointer (some ⟨pl, 0, none⟩), .pointer (some ⟨pa, 0, none⟩), .pointer (some ⟨pe, 0, none⟩)] .returning w fun e u' w' => e = .returned (.tuple #[]) ∧ u' = .returning ∧ w = w' := by
 refine callsDIn_of_wpSIn Tryz.func102 rfl trivial fun c₀ cs hu => ?_
 simp only [Tryz.ntmps102, List.size_toArray, List.length_cons, List.length_nil, Nat.reduceAdd, Nat.reduceSub, Array.replicate_succ, Array.replicate_zero, List.push_toArray, List.append_toArray, List.nil_append, List.cons_append]
 apply wpSIn_seq
 apply wpSIn_region
 simp [wpOpsSIn, go_sem, recoverD, hu, Exit.thenS]
 have hne : ∀ w, (binOp .neq 20 .nilIface .nilIface).run Tryz.prog w = .ok (.bool false) w := fun _ => by kernel_rfl
 apply wpSIn_seq
 apply wpSIn_region
 simp [wpOpsSIn, go_sem, hne, Exit.thenS]
 refine wpSIn_cond (t := false) (by simp [Act.eval]) ?_
 simp only [Bool.false_eq_true, if_false]
 refine wpSIn_of_wpIn rfl (wpIn_skip ?_)
 cases c₀
 simp_all [bodyPostS, results, Tryz.results102]

/-- What the closure has done: the three variables; nothing else that lay has turned. -/
def Caught (pl pa pe : Nat) (at_ c : Int) (w w' : World) : Prop :=
 w'.heap[pl]? = some (.cells #[.slice none 0 0] 39 (0, 0)) ∧ w'.heap[pa]? = some (.cells #[.int .i64 at_] 3 (0, 0)) ∧ w'.heap[pe]? = some (.cells #[.int .i64 c] 26 (0, 0)) ∧ w'.os = w.os ∧ w'.tape = w.tape ∧ w'.output = w.output ∧ w.heap.size ≤ w'.heap.size ∧
  ∀ b, b < w.heap.size → b ≠ pl → b ≠ pa → b ≠ pe → w'.heap[b]? = w.heap[b]?

set_option maxRecDepth 100000 in
set_option maxHeartbeats 1000000 in
theorem catch_stop (n : Nat) (pl pa pe : Nat) (at_ c : Int) (x0 x1 x2 : Value) (w : World) (h0 : w.heap[pl]? = some (.cells #[x0] 39 (0, 0))) (h1 : w.heap[pa]? = some (.cells #[x1] 3 (0, 0))) (h2 : w.heap[pe]? = some (.cells #[x2] 26 (0, 0)))
  (hla : pl ≠ pa) (hle : pl ≠ pe) (hae : pa ≠ pe) :
  CallsDIn Fence.wide n Tryz.prog 102 #[.pointer (some ⟨pl, 0, none⟩), .pointer (some ⟨pa, 0, none⟩), .pointer (some ⟨pe, 0, none⟩)]
   (.panicking [{ v := .iface 121 (.agg #[.int .i64 at_, .int .i64 c]), recovered := false }]) w fun e u' w' => e = .returned (.tuple #[]) ∧ u' = .panicking [{ v := .iface 121 (.agg #[.int .i64 at_, .int .i64 c]), recovered := true }] ∧
    Caught pl pa pe at_ c w w' := by
 refine callsDIn_of_wpSIn Tryz.func102 rfl trivial fun c₀ cs hu => ?_
 simp only [Tryz.ntmps102, List.size_toArray, List.length_cons, List.length_nil, Nat.reduceAdd, Nat.reduceSub, Array.replicate_succ, Array.replicate_zero, List.push_toArray, List.append_toArray, List.nil_append, List.cons_append]
 apply wpSIn_seq
 apply wpSIn_region
 simp [wpOpsSIn, go_sem, recoverD, hu, Exit.thenS]
 have hne : ∀ w, (binOp .neq 20 (.iface 121 (.agg #[.int .i64 at_, .int .i64 c])) .nilIface).run Tryz.prog w = .ok (.bool true) w := fun _ => by kernel_rfl
 apply wpSIn_seq
 apply wpSIn_region
 simp [wpOpsSIn, go_sem, hne, Exit.thenS]
 refine wpSIn_cond (t := true) (by simp [Act.eval]) ?_
 simp only [if_true]
 have hta : ∀ w, (Instr.typeAssert (.iface 121 (.agg #[.int .i64 at_, .int .i64 c])) 20 121 true).run Tryz.prog w = .ok (.tuple #[.agg #[.int .i64 at_, .int .i64 c], .bool true]) w := fun _ => by kernel_rfl
 apply wpSIn_seq
 apply wpSIn_region
 simp [wpOpsSIn, go_sem, hta, Exit.thenS]
 refine wpSIn_of_wpIn rfl ?_
 have lt0 := (Array.getElem?_eq_some_iff.1 h0).1
 have lt1 := (Array.getElem?_eq_some_iff.1 h1).1
 have lt2 := (Array.getElem?_eq_some_iff.1 h2).1
 refine wpIn_mono (Q := fun e a' w' => e = .normal ∧ a'.defers = [] ∧ Caught pl pa pe at_ c w w') ?_ ?_
 ·obtain ⟨W, hW⟩ : ∃ W, W = w.alloc (.cells #[.int .i64 at_, .int .i64 c] 121) := ⟨_, rfl⟩
  obtain ⟨N, hN⟩ : ∃ N, N = w.heap.size := ⟨_, rfl⟩
  have c0 : W.cell? ⟨pl, 0, none⟩ = some x0 := by rw [hW]; simp [World.cell?, Below.heap_alloc _ _ _ lt0, h0]
  have c1 : W.cell? ⟨pa, 0, none⟩ = some x1 := by rw [hW]; simp [World.cell?, Below.heap_alloc _ _ _ lt1, h1]
  have c2 : W.cell? ⟨pe, 0, none⟩ = some x2 := by rw [hW]; simp [World.cell?, Below.heap_alloc _ _ _ lt2, h2]
  have f0 : W.frozen? ⟨pl, 0, none⟩ = false := by rw [hW]; simp [World.frozen?, Below.heap_alloc _ _ _ lt0, h0]
  have f1 : W.frozen? ⟨pa, 0, none⟩ = false := by rw [hW]; simp [World.frozen?, Below.heap_alloc _ _ _ lt1, h1]
  have f2 : W.frozen? ⟨pe, 0, none⟩ = false := by rw [hW]; simp [World.frozen?, Below.heap_alloc _ _ _ lt2, h2]
  have g0 : W.cell? ⟨N, 0, none⟩ = some (.int .i64 at_) := by
   rw [hW, hN]
   unfold World.cell?
   rw [show (w.alloc (.cells #[.int .i64 at_, .int .i64 c] 121)).heap[w.heap.size]? = _ from Go.heap_alloc_new w _]
   rfl
  have g1 : W.cell? ⟨N, 1, none⟩ = some (.int .i64 c) := by
   rw [hW, hN]
   unfold World.cell?
   rw [show (w.alloc (.cells #[.int .i64 at_, .int .i64 c] 121)).heap[w.heap.size]? = _ from Go.heap_alloc_new w _]
   rfl
  have n0 : ¬ N = pl := by omega
  have n1 : ¬ N = pa := by omega
  have n2 : ¬ N = pe := by omega
  have m0 : ¬ pl = N := by omega
  have m1 : ¬ pa = N := by omega
  have m2 : ¬ pe = N := by omega
  have q1 : ¬ pa = pl := by omega
  have q2 : ¬ pe = pl := by omega
  have q3 : ¬ pe = pa := by omega
  have k0 : W.heap[pl]? = some (.cells #[x0] 39 (0, 0)) := by rw [hW, Below.heap_alloc _ _ _ lt0]; exact h0
  have k1 : W.heap[pa]? = some (.cells #[x1] 3 (0, 0)) := by rw [hW, Below.heap_alloc _ _ _ lt1]; exact h1
  have k2 : W.heap[pe]? = some (.cells #[x2] 26 (0, 0)) := by rw [hW, Below.heap_alloc _ _ _ lt2]; exact h2
  have kb : Below w.heap.size w W := by rw [hW]; exact (Below.refl _ _).alloc (Nat.le_refl _) _
  rw [← hW, ← hN]
  have K0 := Lib.hid k0
  have K1 := Lib.hid k1
  have K2 := Lib.hid k2
  have KB := Lib.hid kb
  clear h0 h1 h2 hW hN k0 k1 k2 kb
  clear hne hta hu
  gi_wp2_with fail
  gi_region
  all_goals
   gi_wp2_with fail
   have u0 := heap_setCell_same W pl 0 #[x0] 39 (.slice none 0 0) K0.out
   have u1 : (W.setCell ⟨pl, 0, none⟩ (.slice none 0 0)).heap[pa]? = some (.cells #[x1] 3 (0, 0)) := (Go.heap_setCell_other W _ pa _ (by simpa using q1)).trans K1.out
   have u2 : (W.setCell ⟨pl, 0, none⟩ (.slice none 0 0)).heap[pe]? = some (.cells #[x2] 26 (0, 0)) := (Go.heap_setCell_other W _ pe _ (by simpa using q2)).trans K2.out
   have ub : ∀ b, b < w.heap.size → b ≠ pl → (W.setCell ⟨pl, 0, none⟩ (.slice none 0 0)).heap[b]? = w.heap[b]? := fun b hb hne => (Go.heap_setCell_other W _ b _ hne).trans (KB.out.block b hb)
   revert u0 u1 u2 ub
   have us : (W.setCell ⟨pl, 0, none⟩ (.slice none 0 0)).heap.size = W.heap.size := by simp
   have uo : (W.setCell ⟨pl, 0, none⟩ (.slice none 0 0)).os = W.os ∧ (W.setCell ⟨pl, 0, none⟩ (.slice none 0 0)).tape = W.tape ∧ (W.setCell ⟨pl, 0, none⟩ (.slice none 0 0)).output = W.output := ⟨rfl, rfl, rfl⟩
   revert us uo
   generalize W.setCell ⟨pl, 0, none⟩ (.slice none 0 0) = V
   intro us uo u0 u1 u2 ub
   have v0 : (V.setCell ⟨pa, 0, none⟩ (.int .i64 at_)).heap[pl]? = _ := (Go.heap_setCell_other V _ pl _ hla).trans u0
   have v1 := heap_setCell_same V pa 0 #[x1] 3 (.int .i64 at_) u1
   have v2 : (V.setCell ⟨pa, 0, none⟩ (.int .i64 at_)).heap[pe]? = _ := (Go.heap_setCell_other V _ pe _ (by simpa using q3)).trans u2
   have w0 : ((V.setCell ⟨pa, 0, none⟩ (.int .i64 at_)).setCell ⟨pe, 0, none⟩ (.int .i64 c)).heap[pl]? = _ := (Go.heap_setCell_other _ _ pl _ hle).trans v0
   have w1 : ((V.setCell ⟨pa, 0, none⟩ (.int .i64 at_)).setCell ⟨pe, 0, none⟩ (.int .i64 c)).heap[pa]? = _ := (Go.heap_setCell_other _ _ pa _ hae).trans v1
   have w2 := heap_setCell_same (V.setCell ⟨pa, 0, none⟩ (.int .i64 at_)) pe 0 #[x2] 26 (.int .i64 c) v2
   have hs := KB.out.size
   exact ⟨w0, w1, w2, uo.1.trans KB.out.os, uo.2.1.trans KB.out.tape, uo.2.2.trans KB.out.output, by simp [World.drew]; omega, fun b hb h1 h2 h3 => (Go.heap_setCell_other _ _ b _ h3).trans ((Go.heap_setCell_other _ _ b _ h2).trans (ub b hb h1))⟩
 ·rintro e a' w' ⟨rfl, hd, hc⟩
  exact ⟨hd, _, rfl, _, results_none rfl _ _ _, rfl, rfl, hc⟩

end Go.Proofs.YtbndfgoklgdfdaaGreatDoor.P

namespace Go.Proofs.YtbndfgoklgdfdaaGreatDoor.P
open Go.RowKit

theorem rangeFunc_bare {F : Fence} {n : Nat} {P : Program} {g : Operand} {ps : Array Tmp} {assign body : Code} {Q : Exit → Act → World → Prop} {a : Act} {w : World}
  (hro : F.round = none) (h1 : F.depth.isSome = true → 1 ≤ n) {gf : Nat} {lb : Array Value} (hg : a.eval g = .func (.func gf) #[] lb) (hFg : F.fn gf) (eg : ∀ args w, (callFunc gf args).run P w = .ok (.enter gf args) w)
  (h : ∀ (fn : FuncId) (rec : Loop) (D : Nat) (W1 : World), F.fn fn → rec = { state := .ready, pending := none, fn, tmps := a.tmps, params := ps, assign, body, defers := w.heap.size } → D = w.heap.size → W1 = (w.alloc (.deferred (some []))).alloc (.loop rec) →
   CallsIn F (n - 1) P gf (#[.func (.yield (D + 1)) #[] #[]] ++ lb) W1
    (rangePost F n P (D + 1) Q { a with defers := [{ target := .collected D, args := #[] }] ++ a.defers })) :
  (Code.rangeFunc g ps assign body).wpIn F n P Q a w := by
 refine wpIn_rangeFunc fun fn hfn => ?_
 rw [hro]
 have h2 := h fn { state := .ready, pending := none, fn, tmps := a.tmps, params := ps, assign, body, defers := w.heap.size } w.heap.size _ hfn rfl rfl rfl
 obtain ⟨W1, hW1⟩ : ∃ W1, W1 = (w.alloc (.deferred (some []))).alloc (.loop { state := .ready, pending := none, fn, tmps := a.tmps, params := ps, assign, body, defers := w.heap.size }) := ⟨_, rfl⟩
 rw [← hW1] at h2
 refine ⟨w.heap.size + 1, [{ target := .collected w.heap.size, args := #[] }], W1, { target := .fn (.func gf) lb, args := #[.func (.yield (w.heap.size + 1)) #[] #[]] }, W1, gf, #[.func (.yield (w.heap.size + 1)) #[] #[]] ++ lb, W1, ?_, ?_, ?_, ?_, h1, ?_⟩
 ·rw [hW1]; exact run_enterLoop_outer _ _ _ _ _
 ·simp only [resolve, hg]
  simp [go_sem]
 ·intro f' hf'; simp [Target.leads] at hf'; subst hf'; exact hFg
 ·simp [invoke, go_sem, eg]
 ·exact h2
end Go.Proofs.YtbndfgoklgdfdaaGreatDoor.P

namespace Go.Proofs.YtbndfgoklgdfdaaGreatDoor.P
open Go.RowKit Go.Shelf Go.Proofs.YtbndfgoklgdfdaaGreatDoorW.PrintWords Go.Proofs.YtbndfgoklgdfdaaGreatDoorW.PrintLast Go.Proofs.YtbndfgoklgdfdaaGreatDoorW.PrintMore
attribute [local go_sem] Oper.semAt_some

theorem tokens_any (s : ByteArray) (w : World) :
  Calls Tryz.prog 103 #[.string s] w fun e w' => e = .returned (.func (.func 140) #[] #[.pointer (some ⟨w.heap.size, 0, none⟩)]) ∧ w' = w.alloc (.cells #[.string s] 9) := by
 have hmf : ∀ (fn : Fn) (first cap : Array Value) (w : World), (Instr.makeFunc fn first cap).run Tryz.prog w = .ok (.func fn first cap) w := fun _ _ _ _ => rfl
 go_enter Tryz.func103, Tryz.ntmps103
 go_wp2
 go_ret
 exact ⟨rfl, rfl⟩

/-- What Scan hands back. -/
def ScanPost (s : ByteArray) (w : World) (e : Ending) (w' : World) : Prop :=
 ∃ v : Value, e = .returned (.tuple #[v, .int .i64 (scanL s.data.toList).2.1, .int .i64 (scanL s.data.toList).2.2]) ∧ Kd.R k65 65 w' w.heap.size (fun _ => True) v (scanL s.data.toList).1 ∧ Below w.heap.size w w'

set_option maxRecDepth 100000 in
set_option maxHeartbeats 1000000 in
theorem scan_long (n : Nat) (s : ByteArray) (hs : 20000 < s.size) (hs2 : s.size ≤ 140737488351232) (w : World) : CallsIn Fence.wide n Tryz.prog 54 #[.string s] w fun e w' => ScanPost s w e w' := by
 have hR : scanL s.data.toList = ([], 0, 2) := by unfold scanL; rw [if_pos (by simpa using hs)]
 have HR := Lib.hid hR
 clear hR
 refine callsIn_of_wp_marks Tryz.func54 rfl trivial ?_ rfl
 simp only [Tryz.ntmps54, List.size_toArray, List.length_cons, List.length_nil, Nat.reduceAdd, Nat.reduceSub, Array.replicate_succ, Array.replicate_zero, List.push_toArray, List.append_toArray, List.nil_append, List.cons_append]
 gi_wp2_with fail
 refine ⟨.tuple #[.slice none 0 0, .int .i64 0, .int .i64 2], by simp [results, Tryz.results54, go_sem], .slice none 0 0, by rw [HR.out], by rw [HR.out]; exact Kd.R_nil _ _ _ _ _, ?_⟩
 exact (((Below.refl _ _).alloc (Nat.le_refl _) _).alloc (by simp) _).alloc (by simp; omega) _

/-- The cells of tokens, one behind the other. -/
def cellsT (l : List S65) : List Value := l.flatMap fun x => [.int .i64 x.f0, .string x.f1, .int .i64 x.f2]
theorem cellsT_snoc (l : List S65) (x : S65) : cellsT (l ++ [x]) = cellsT l ++ [.int .i64 x.f0, .string x.f1, .int .i64 x.f2] := by simp [cellsT]

theorem repsT (w : World) (base : Nat) (ok : Nat → Prop) (l : List S65) : Reps (k65.M w base ok) 3 l (cellsT l) := by
 have h : ∀ (l pre : List S65), Reps (k65.M w base ok) 3 pre (cellsT pre) → Reps (k65.M w base ok) 3 (pre ++ l) (cellsT (pre ++ l)) := by
  intro l
  induction l with
  | nil => intro pre h; simpa using h
  | cons x l ih =>
   intro pre h
   have := ih (pre ++ [x]) (by rw [cellsT_snoc]; exact h.snoc (k65_mkM w base ok x) rfl)
   simpa using this
 simpa using h l [] (Reps.none _ _)
theorem scan_R {W : World} {B : Nat} {v : Value} {l : List S65} (h : W.ownsRow (B + 6) 65 3 v l.length (cellsT l)) : Kd.R k65 65 W B (fun _ => True) v l :=
 ⟨fun _ _ => trivial, _, own_weaken h (by omega), repsT _ _ _ _⟩

/-- What holds between two rounds of Scan's loop. B: the heap's size when Scan began. -/
structure ScanJ (B : Nat) (w : World) (rec : Loop) (pre : List S65) (W : World) : Prop where
 l : ∃ v, W.heap[B]? = some (.cells #[v] 39 (0, 0)) ∧ W.ownsRow (B + 6) 65 3 v pre.length (cellsT pre)
 a : W.heap[B + 1]? = some (.cells #[.int .i64 0] 3 (0, 0))
 e : W.heap[B + 1 + 1]? = some (.cells #[.int .i64 0] 26 (0, 0))
 d : W.heap[B + 1 + 1 + 1 + 1]? = some (.deferred (some []))
 r : W.heap[B + 1 + 1 + 1 + 1 + 1]? = some (.loop rec)
 b : Below B w W
 z : B + 6 ≤ W.heap.size

def ScanMine (B : Nat) (W : World) (b : Nat) : Prop := b = B ∨ b = B + 5 ∨ ∃ v, W.cell? ⟨B, 0, none⟩ = some v ∧ v.ownBlock = some b

theorem ScanJ.below {B : Nat} {w W W' : World} {rec : Loop} {pre : List S65} (h : ScanJ B w rec pre W) (hb : Below W.heap.size W W') : ScanJ B w rec pre W' := by
 have hz := h.z
 obtain ⟨v, h0, ho⟩ := h.l
 exact ⟨⟨v, (hb.block _ (by omega)).trans h0, pw_own_below ho hb⟩, (hb.block _ (by omega)).trans h.a, (hb.block _ (by omega)).trans h.e, (hb.block _ (by omega)).trans h.d, (hb.block _ (by omega)).trans h.r, h.b.trans (hb.mono (by omega)), Nat.le_trans hz hb.size⟩
theorem ScanJ.mineB {B : Nat} {w W W' : World} {rec : Loop} {pre : List S65} {b : Nat} (h : ScanJ B w rec pre W) (hb : Below W.heap.size W W') (hm : ScanMine B W' b) : ScanMine B W b := by
 have hz := h.z
 rcases hm with hm | hm | ⟨v, hv, ho⟩
 ·exact .inl hm
 ·exact .inr (.inl hm)
 ·exact .inr (.inr ⟨v, (hb.cell (p := ⟨B, 0, none⟩) (by show B < _; omega)).symm.trans hv, ho⟩)
theorem ScanJ.mineL {B : Nat} {w W : World} {rec : Loop} {pre : List S65} {b : Nat} (h : ScanJ B w rec pre W) (hm : ScanMine B W b) : b < W.heap.size := by
 have hz := h.z
 obtain ⟨v, h0, ho⟩ := h.l
 rcases hm with hm | hm | ⟨u, hu, hb⟩
 ·omega
 ·omega
 ·simp [World.cell?, h0] at hu
  subst hu
  exact own_lt ho b hb

set_option maxRecDepth 100000 in
set_option maxHeartbeats 4000000 in
theorem scan_short (n : Nat) (s : ByteArray) (hs : s.size ≤ 20000) (w : World) : CallsIn Fence.wide n Tryz.prog 54 #[.string s] w fun e w' => ScanPost s w e w' := by
 have hmf : ∀ (fn : Fn) (first cap : Array Value) (w : World), (Instr.makeFunc fn first cap).run Tryz.prog w = .ok (.func fn first cap) w := fun _ _ _ _ => rfl
 refine callsIn_of_wp_marks Tryz.func54 rfl trivial ?_ rfl
 simp only [Tryz.ntmps54, List.size_toArray, List.length_cons, List.length_nil, Nat.reduceAdd, Nat.reduceSub, Array.replicate_succ, Array.replicate_zero, List.push_toArray, List.append_toArray, List.nil_append, List.cons_append]
 gi_wp2_with fail
 refine ⟨trivial, fun h => (by cases h), (callsIn_wide.2 (tokens_any s _)).mono ?_⟩
 rintro e w' ⟨rfl, rfl⟩
 gi_wp2_with fail
 refine rangeFunc_bare rfl (fun h => by cases h) rfl trivial (enters_of Tryz.func140 (by kernel_rfl) rfl) fun fn rec D W1 hfn hrec hD hW1 => ?_
 simp only [World.size_alloc] at hrec hD
 have b0 : W1.heap[w.heap.size]? = some (.cells #[.slice none 0 0] 39 (0, 0)) := by
  rw [hW1, Below.heap_alloc _ _ _ (by simp <;> omega), Below.heap_alloc _ _ _ (by simp <;> omega), Below.heap_alloc _ _ _ (by simp <;> omega), Below.heap_alloc _ _ _ (by simp <;> omega), Below.heap_alloc _ _ _ (by simp <;> omega), heap_last _ _ _ (by simp)]
 have b1 : W1.heap[w.heap.size + 1]? = some (.cells #[.int .i64 0] 3 (0, 0)) := by
  rw [hW1, Below.heap_alloc _ _ _ (by simp <;> omega), Below.heap_alloc _ _ _ (by simp <;> omega), Below.heap_alloc _ _ _ (by simp <;> omega), Below.heap_alloc _ _ _ (by simp <;> omega), heap_last _ _ _ (by simp)]
 have b2 : W1.heap[w.heap.size + 1 + 1]? = some (.cells #[.int .i64 0] 26 (0, 0)) := by
  rw [hW1, Below.heap_alloc _ _ _ (by simp <;> omega), Below.heap_alloc _ _ _ (by simp <;> omega), Below.heap_alloc _ _ _ (by simp <;> omega), heap_last _ _ _ (by simp)]
 have b3 : W1.heap[w.heap.size + 1 + 1 + 1]? = some (.cells #[.string s] 9 (0, 0)) := by
  rw [hW1, Below.heap_alloc _ _ _ (by simp <;> omega), Below.heap_alloc _ _ _ (by simp <;> omega), heap_last _ _ _ (by simp)]
 have b4 : W1.heap[w.heap.size + 1 + 1 + 1 + 1]? = some (.deferred (some [])) := by
  rw [hW1, Below.heap_alloc _ _ _ (by simp <;> omega), heap_last _ _ _ (by simp)]
 have b5 : W1.heap[w.heap.size + 1 + 1 + 1 + 1 + 1]? = some (.loop rec) := by
  rw [hW1, heap_last _ _ _ (by simp)]
 have bb : Below w.heap.size w W1 := by
  rw [hW1]
  exact ((((((Below.refl _ _).alloc (Nat.le_refl _) _).alloc (by simp) _).alloc (by simp; omega) _).alloc (by simp; omega) _).alloc (by simp; omega) _).alloc (by simp; omega) _
 have bz : w.heap.size + 6 ≤ W1.heap.size := by rw [hW1]; simp
 have HW1 := Lib.hid hW1
 clear hW1
 obtain ⟨B, hB⟩ : ∃ B, B = w.heap.size := ⟨_, rfl⟩
 rw [← hB] at b0 b1 b2 b3 b4 b5 bb bz hrec hD ⊢
 subst hD
 have HB := Lib.hid hB
 clear hB
 have hJ0 : ScanJ B w rec [] W1 := ⟨⟨_, b0, own_nil _ _ _ _⟩, b1, b2, b4, b5, bb, bz⟩
 have hT : Hid (scanL s.data.toList = scanA (s.data.toList.length + 1) (s.data.toList.drop (skipN false s.data.toList)) (skipN false s.data.toList) []) := Lib.hid (by unfold scanL; rw [if_neg (by simp; omega)])
 have hRounds : Rounds (n - 1 - 1) (B + 1 + 1 + 1 + 1 + 1) (ScanJ B w rec) (ScanMine B) := by
  refine ⟨fun pre W W' h hb => h.below hb, fun pre W W' b h hb hm => h.mineB hb hm, fun pre W b h hm => h.mineL hm, ?_⟩
  intro pre x W hJ hlen
  obtain ⟨v, hv, hown⟩ := hJ.l
  have hz := hJ.z
  have hy := run_yield (P := Tryz.prog) (args := encT x) hJ.r (by rw [hrec]; rfl)
  rw [hrec] at hy
  simp only [encT] at hy
  refine ⟨fn, _, _, _, hy, roundIn_of_wpIn trivial ?_⟩
  clear hy
  simp
  gi_wp2_with fail
  have mineX : ∀ b, ¬ ScanMine B W b → b ≠ B ∧ b ≠ B + 5 ∧ v.ownBlock ≠ some b := fun b hb => ⟨fun h => hb (.inl h), fun h => hb (.inr (.inl h)), fun h => hb (.inr (.inr ⟨v, by simp [World.cell?, hv], h⟩))⟩
  obtain ⟨A, hA⟩ : ∃ A, A = W.alloc (.cells #[.int .i64 x.f0, .string x.f1, .int .i64 x.f2] 65) := ⟨_, rfl⟩
  obtain ⟨N, hN⟩ : ∃ N, N = W.heap.size := ⟨_, rfl⟩
  have ar : A.heap[B + 1 + 1 + 1 + 1 + 1]? = some (.loop rec) := by rw [hA, Below.heap_alloc _ _ _ (by omega)]; exact hJ.r
  refine ⟨_, run_beginRound (by rw [← hA]; exact ar) (by rw [hrec]), ?_⟩
  rw [← hA, ← hN]
  obtain ⟨V, hV⟩ : ∃ V, V = A.putObj (B + 1 + 1 + 1 + 1 + 1) (.loop { rec with state := .busy }) := ⟨_, rfl⟩
  rw [← hV]
  have vb : Boxed V B 39 v := by unfold Boxed; rw [hV, World.putObj_heap_other (by omega), hA, Below.heap_alloc _ _ _ (by omega)]; exact hv
  have va : Boxed V (B + 1) 3 (.int .i64 0) := by unfold Boxed; rw [hV, World.putObj_heap_other (by omega), hA, Below.heap_alloc _ _ _ (by omega)]; exact hJ.a
  have ve : Boxed V (B + 1 + 1) 26 (.int .i64 0) := by unfold Boxed; rw [hV, World.putObj_heap_other (by omega), hA, Below.heap_alloc _ _ _ (by omega)]; exact hJ.e
  have vd : V.heap[B + 1 + 1 + 1 + 1]? = some (.deferred (some [])) := by rw [hV, World.putObj_heap_other (by omega), hA, Below.heap_alloc _ _ _ (by omega)]; exact hJ.d
  have vr : V.heap[B + 1 + 1 + 1 + 1 + 1]? = some (.loop { rec with state := .busy }) := by rw [hV]; exact World.putObj_heap_same ((Array.getElem?_eq_some_iff.1 ar).1)
  have vn : V.heap[N]? = some (.cells #[.int .i64 x.f0, .string x.f1, .int .i64 x.f2] 65 (0, 0)) := by rw [hV, World.putObj_heap_other (by omega), hA, hN]; exact Go.heap_alloc_new _ _
  have vo : V.ownsRow (B + 6) 65 3 v pre.length (cellsT pre) := by rw [hV]; exact ownsRow_putObj (by rw [hA]; exact hown.alloc _) _ ar rfl
  have vw : ∀ b, b < W.heap.size → b ≠ B + 5 → V.heap[b]? = W.heap[b]? := fun b hb h5 => by rw [hV, World.putObj_heap_other (by omega), hA, Below.heap_alloc _ _ _ hb]
  have vz : V.heap.size = N + 1 := by rw [hV, hA, hN]; simp
  have vos : V.os = w.os ∧ V.tape = w.tape ∧ V.output = w.output := ⟨by rw [hV, hA]; exact hJ.b.os, by rw [hV, hA]; exact hJ.b.tape, by rw [hV, hA]; exact hJ.b.output⟩
  have v0 := vb.cell
  have vf := vb.frozen
  have n0 : V.cell? ⟨N, 0, none⟩ = some (.int .i64 x.f0) := by simp [World.cell?, vn]
  have n1 : V.cell? ⟨N, 1, none⟩ = some (.string x.f1) := by simp [World.cell?, vn]
  have n2 : V.cell? ⟨N, 2, none⟩ = some (.int .i64 x.f2) := by simp [World.cell?, vn]
  obtain ⟨fb, hb⟩ : ∃ fb, fb = x.f1 := ⟨_, rfl⟩
  have HR := Lib.hid hrec
  have HVN := Lib.hid vn
  have HVZ := Lib.hid vz
  have HN := Lib.hid hN
  clear hrec vn ar hA hV hN vz
  obtain ⟨i0, hi, hz0, hz1, hz2⟩ := info_parts info65
  gi_wp2_with (gi_at_builtin; (refine wpListIn_append_own_at _ rfl _ _ 39 rfl (B + 6) 65 i0 _ 3 32 Tryz.underlying39 hi hz0 hz1 hz2 rfl (by decide) v pre.length (cellsT pre) rfl (vo.alloc _) ⟨V.heap.size, 0, none⟩ 1 1 [.int .i64 x.f0, .string x.f1, .int .i64 x.f2] rfl rfl ?cells (by simp [Value.oneCell']) (by simp [maxLen]; omega) (by omega) (by have := HVZ.out; have := HN.out; simp; omega) ?after))
  case cells =>
   intro j u h
   rw [show (⟨V.heap.size, 0, none⟩ : Addr).add j = ⟨V.heap.size, j, none⟩ from by unfold Addr.add; split <;> simp_all, cell_of_row _ _ j _ _ (0, 0) (Go.heap_alloc_new _ _)]
   simpa using h
  case after =>
   intro v' w1 hown' hgrow _ hat
   obtain ⟨g', cap', rfl⟩ := ownsRow_succ hown'
   have HV2 : Hid (V.alloc (.cells #[.int .i64 x.f0, .string x.f1, .int .i64 x.f2] 65) |>.grownBy w1 v.ownBlock) := Lib.hid hgrow
   have HAT := Lib.hid hat
   have HOWN := Lib.hid hown'
   have hb1 : Boxed w1 B 39 v := (vb.alloc _).kept hgrow (vb.not_row (by decide) vo)
   have c1 := hb1.cell
   have f1 := hb1.frozen
   clear hgrow hat hown' v0 vf n0 n1 n2
   gi_wp2_with fail
   have NN := HN.out
   have VZ := HVZ.out
   obtain ⟨Y, hY⟩ : ∃ Y, Y = w1.setCell ⟨B, 0, none⟩ (.slice (some ⟨g', 0, none⟩) (pre.length + 1) cap') := ⟨_, rfl⟩
   rw [← hY]
   have no : ∀ b, b < B + 6 → v.ownBlock ≠ some b := fun b hb h => by have := (vo.lt b h).1; omega
   have keep : ∀ b, b < V.heap.size → v.ownBlock ≠ some b → b ≠ B → Y.heap[b]? = V.heap[b]? := fun b hb ho hne => by
    rw [hY, Go.heap_setCell_other _ _ b _ hne, HV2.out.block b (by simp; omega) (fun h => ho h.symm), Below.heap_alloc _ _ _ hb]
   have yb : Y.heap[B]? = some (.cells #[.slice (some ⟨g', 0, none⟩) (pre.length + 1) cap'] 39 (0, 0)) := by rw [hY]; exact hb1.set _
   have yo : Y.ownsRow (B + 6) 65 3 (.slice (some ⟨g', 0, none⟩) (pre.length + 1) cap') (pre.length + 1) (cellsT pre ++ [.int .i64 x.f0, .string x.f1, .int .i64 x.f2]) := by
    rw [hY]; exact HOWN.out.kept (grownBy_setCell' w1 B _) (.inr (hb1.not_row (by decide) HOWN.out).symm)
   have yz : V.heap.size + 1 ≤ Y.heap.size := by rw [hY]; have := HV2.out.size; simp at this ⊢; omega
   have yr := (keep (B + 1 + 1 + 1 + 1 + 1) (by omega) (no _ (by omega)) (by omega)).trans vr
   have yos : Y.os = w.os ∧ Y.tape = w.tape ∧ Y.output = w.output := ⟨by rw [hY]; exact HV2.out.os.trans vos.1, by rw [hY]; exact HV2.out.tape.trans vos.2.1, by rw [hY]; exact HV2.out.output.trans vos.2.2⟩
   refine ⟨_, _, run_endRound none yr, rfl, ?_⟩
   obtain ⟨Z, hZ⟩ : ∃ Z, Z = Y.putObj (B + 1 + 1 + 1 + 1 + 1) (.loop rec) := ⟨_, rfl⟩
   have hZ2 : Y.putObj (B + 1 + 1 + 1 + 1 + 1) (.loop { ({ rec with state := .busy } : Loop) with state := if (none : Option Code).isNone then .ready else .done, pending := none }) = Z := by rw [hZ, HR.out]; rfl
   rw [hZ2]
   have zk : ∀ b, b ≠ B + 5 → Z.heap[b]? = Y.heap[b]? := fun b hb => by rw [hZ, World.putObj_heap_other (by omega)]
   have zz : Z.heap.size = Y.heap.size := by rw [hZ]; simp [World.putObj]
   have zr : Z.heap[B + 1 + 1 + 1 + 1 + 1]? = some (.loop rec) := by rw [hZ]; exact World.putObj_heap_same (by omega)
   have zo : Z.ownsRow (B + 6) 65 3 (.slice (some ⟨g', 0, none⟩) (pre.length + 1) cap') (pre.length + 1) (cellsT pre ++ [.int .i64 x.f0, .string x.f1, .int .i64 x.f2]) := by
    rw [hZ]; exact ownsRow_putObj yo _ yr rfl
   have zb := (zk B (by omega)).trans yb
   have zos : Z.os = w.os ∧ Z.tape = w.tape ∧ Z.output = w.output := by rw [hZ]; exact yos
   refine ⟨⟨⟨_, zb, by rw [cellsT_snoc, List.length_append]; exact zo⟩, (zk _ (by omega)).trans ((keep _ (by omega) (no _ (by omega)) (by omega)).trans va), (zk _ (by omega)).trans ((keep _ (by omega) (no _ (by omega)) (by omega)).trans ve), (zk _ (by omega)).trans ((keep _ (by omega) (no _ (by omega)) (by omega)).trans vd), zr, ⟨zos.1, zos.2.1, zos.2.2, ?_, ?_⟩, by omega⟩, by omega, ?_⟩
   ·have := hJ.b.size
    omega
   ·intro b hb
    rw [zk b (by omega), keep b (by omega) (no _ (by omega)) (by omega), vw b (by omega) (by omega)]
    exact hJ.b.block b hb
   ·intro b hb hm
    obtain ⟨m1, m2, m3⟩ := mineX b hm
    refine ⟨by rw [zk b m2, keep b (by omega) m3 m1, vw b (by omega) m2], ?_⟩
    rintro (h | h | ⟨u, hu, ho⟩)
    ·exact m1 h
    ·exact m2 h
    ·have hu2 : u = .slice (some ⟨g', 0, none⟩) (pre.length + 1) cap' := by simpa [World.cell?, zb] using hu.symm
     subst hu2
     rcases HAT.out with h | h
     ·exact m3 (h ▸ ho)
     ·rw [h] at ho
      simp at ho
      omega
 refine (tokens1_in (n - 1) (B + 1 + 1 + 1 + 1 + 1) s (by omega) (B + 1 + 1 + 1) (ScanJ B w rec) (ScanMine B) hRounds W1 (by simp [World.cell?, b3]) ?_ hJ0).mono ?_
 ·rintro (h | h | ⟨v, hv, ho⟩)
  ·omega
  ·omega
  ·simp [World.cell?, b0] at hv
   subst hv
   simp [Value.ownBlock] at ho
 ·rintro e W2 (⟨v, xs, rfl, hR, hJ⟩ | ⟨at_, c, pre, rfl, hR, hc0, hJ⟩)
  ·have hp : rec.pending = none := by rw [hrec]
   have hre : ∃ rec2, (Instr.endLoop (B + 1 + 1 + 1 + 1 + 1)).run Tryz.prog W2 = .ok none (W2.putObj (B + 1 + 1 + 1 + 1 + 1) (.loop rec2)) :=
    ⟨_, by have := run_endLoop (P := Tryz.prog) hJ.r (by rw [hrec]; simp); rw [hp] at this; exact this⟩
   obtain ⟨rec2, hre⟩ := hre
   refine ⟨_, _, hre, ?_⟩
   obtain ⟨v, hv, hown⟩ := hJ.l
   obtain ⟨A0, k0, c0, rfl⟩ : ∃ A0 k0 c0, v = .slice A0 k0 c0 := by
    rcases hown.2 with ⟨rfl, _⟩ | ⟨g, cap, _, rfl, _⟩ <;> exact ⟨_, _, _, rfl⟩
   obtain ⟨V, hV⟩ : ∃ V, V = W2.putObj (B + 1 + 1 + 1 + 1 + 1) (.loop rec2) := ⟨_, rfl⟩
   rw [← hV]
   have hz := hJ.z
   have vk : ∀ b, b ≠ B + 5 → V.heap[b]? = W2.heap[b]? := fun b hb => by rw [hV, World.putObj_heap_other (by omega)]
   have vb : Boxed V B 39 (.slice A0 k0 c0) := (vk B (by omega)).trans hv
   have va : Boxed V (B + 1) 3 (.int .i64 0) := (vk _ (by omega)).trans hJ.a
   have ve : Boxed V (B + 1 + 1) 26 (.int .i64 0) := (vk _ (by omega)).trans hJ.e
   have vd := (vk (B + 1 + 1 + 1 + 1) (by omega)).trans hJ.d
   have vo : V.ownsRow (B + 6) 65 3 (.slice A0 k0 c0) xs.length (cellsT xs) := by rw [hV]; exact ownsRow_putObj hown _ hJ.r rfl
   have vw : Below B w V := by
    rw [hV]
    exact ⟨hJ.b.os, hJ.b.tape, hJ.b.output, by simpa [World.putObj] using hJ.b.size, fun b hb => by rw [World.putObj_heap_other (by omega)]; exact hJ.b.block b hb⟩
   have vz : V.heap.size = W2.heap.size := by rw [hV]; simp [World.putObj]
   have q0 := vb.cell
   have q1 := va.cell
   have q2 := ve.cell
   have f0 := vb.frozen
   have f1 := va.frozen
   have f2 := ve.frozen
   have HR := Lib.hid hR
   have HE := Lib.hid hrec
   have HVZ := Lib.hid vz
   clear hR hrec hre hp vz hV hJ hRounds hJ0 b0 b1 b2 b3 b4 b5 bb bz
   simp only
   gi_wp2_with fail
   obtain ⟨Y, hY⟩ : ∃ Y, Y = ((V.setCell ⟨B, 0, none⟩ (.slice A0 k0 c0)).setCell ⟨B + 1, 0, none⟩ (.int .i64 0)).setCell ⟨B + 1 + 1, 0, none⟩ (.int .i64 0) := ⟨_, rfl⟩
   rw [← hY]
   have yk : ∀ b, b ≠ B → b ≠ B + 1 → b ≠ B + 1 + 1 → Y.heap[b]? = V.heap[b]? := fun b h0 h1 h2 => by
    rw [hY, Go.heap_setCell_other _ _ b _ h2, Go.heap_setCell_other _ _ b _ h1, Go.heap_setCell_other _ _ b _ h0]
   have y0 : Boxed Y B 39 (.slice A0 k0 c0) := by
    unfold Boxed
    rw [hY, Go.heap_setCell_other _ _ B _ (by simp; omega), Go.heap_setCell_other _ _ B _ (by simp)]
    exact vb.set _
   have y1 : Boxed Y (B + 1) 3 (.int .i64 0) := by
    unfold Boxed
    rw [hY, Go.heap_setCell_other _ _ (B + 1) _ (by simp)]
    exact Boxed.set (v := .int .i64 0) _ (by unfold Boxed; rw [Go.heap_setCell_other _ _ (B + 1) _ (by simp)]; exact va)
   have y2 : Boxed Y (B + 1 + 1) 26 (.int .i64 0) := by
    rw [hY]
    exact Boxed.set (v := .int .i64 0) _ (by unfold Boxed; rw [Go.heap_setCell_other _ _ (B + 1 + 1) _ (by simp), Go.heap_setCell_other _ _ (B + 1 + 1) _ (by simp; omega)]; exact ve)
   have yd := (yk (B + 1 + 1 + 1 + 1) (by omega) (by omega) (by omega)).trans vd
   have yo : Y.ownsRow (B + 6) 65 3 (.slice A0 k0 c0) xs.length (cellsT xs) := by
    have no : ∀ b, b < B + 6 → some b ≠ (Value.slice A0 k0 c0).ownBlock := fun b hb h => by have := (vo.lt b h.symm).1; omega
    rw [hY]
    exact own_setCell (own_setCell (own_setCell vo (no _ (by show B < _; omega)) _) (no _ (by show B + 1 < _; omega)) _) (no _ (by show B + 1 + 1 < _; omega)) _
   have yw : Below B w Y := by rw [hY]; exact ((vw.setCell (p := ⟨B, 0, none⟩) (Nat.le_refl _) _).setCell (p := ⟨B + 1, 0, none⟩) (by show B ≤ B + 1; omega) _).setCell (p := ⟨B + 1 + 1, 0, none⟩) (by show B ≤ B + 1 + 1; omega) _
   obtain ⟨Z, hZ⟩ : ∃ Z, Z = Y.putObj (B + 1 + 1 + 1 + 1) (.deferred none) := ⟨_, rfl⟩
   have zk : ∀ b, b ≠ B + 4 → Z.heap[b]? = Y.heap[b]? := fun b hb => by rw [hZ, World.putObj_heap_other (by omega)]
   have z0 : Boxed Z B 39 (.slice A0 k0 c0) := (zk B (by omega)).trans y0
   have z1 : Boxed Z (B + 1) 3 (.int .i64 0) := (zk _ (by omega)).trans y1
   have z2 : Boxed Z (B + 1 + 1) 26 (.int .i64 0) := (zk _ (by omega)).trans y2
   have zo : Z.ownsRow (B + 6) 65 3 (.slice A0 k0 c0) xs.length (cellsT xs) := by rw [hZ]; exact ownsRow_putObj yo _ yd rfl
   have zw : Below B w Z := by
    rw [hZ]
    exact ⟨yw.os, yw.tape, yw.output, by simpa [World.putObj] using yw.size, fun b hb => by rw [World.putObj_heap_other (by omega)]; exact yw.block b hb⟩
   clear hmf
   refine ⟨by simp, .inl ⟨_, Z, rfl, by rw [hZ]; exact run_takeDeferred yd, ?_⟩⟩

   refine ⟨by simp, .inr ?_⟩

   refine ⟨fun h => (by cases h), _, _, 102, _, rfl, by simp [go_sem], fun _ _ => trivial, (catch_idle (n - 1) B (B + 1) (B + 1 + 1) Z).mono ?_⟩
   rintro e u' w' ⟨rfl, rfl, rfl⟩
   have hsc : scanL s.data.toList = (xs, 0, 0) := hT.out.trans HR.out
   refine ⟨.tuple #[.slice A0 k0 c0, .int .i64 0, .int .i64 0], ?_, .slice A0 k0 c0, by rw [hsc], by rw [hsc, ← HB.out]; exact scan_R zo, by rw [← HB.out]; exact zw⟩

   have c0 := z0.cell
   have c1 := z1.cell
   have c2 := z2.cell
   simp [results, Tryz.results54, go_sem, c0, c1, c2]
  ·obtain ⟨v, hv, hown⟩ := hJ.l
   have hz := hJ.z
   obtain ⟨Z, hZ⟩ : ∃ Z, Z = W2.putObj (B + 1 + 1 + 1 + 1) (.deferred none) := ⟨_, rfl⟩
   have zk : ∀ b, b ≠ B + 4 → Z.heap[b]? = W2.heap[b]? := fun b hb => by rw [hZ, World.putObj_heap_other (by omega)]
   have z0 : Boxed Z B 39 v := (zk B (by omega)).trans hv
   have z1 : Boxed Z (B + 1) 3 (.int .i64 0) := (zk _ (by omega)).trans hJ.a
   have z2 : Boxed Z (B + 1 + 1) 26 (.int .i64 0) := (zk _ (by omega)).trans hJ.e
   have zw : Below B w Z := by
    rw [hZ]
    exact ⟨hJ.b.os, hJ.b.tape, hJ.b.output, by simpa [World.putObj] using hJ.b.size, fun b hb => by rw [World.putObj_heap_other (by omega)]; exact hJ.b.block b hb⟩
   have zz : B + 6 ≤ Z.heap.size := by rw [hZ]; simpa [World.putObj] using hz
   clear hmf
   refine ⟨by simp, .inl ⟨_, Z, rfl, by rw [hZ]; exact run_takeDeferred hJ.d, ?_⟩⟩
   refine ⟨by simp, .inr ?_⟩
   refine ⟨fun h => (by cases h), _, _, 102, _, rfl, by simp [go_sem], fun _ _ => trivial, (catch_stop (n - 1) B (B + 1) (B + 1 + 1) at_ c _ _ _ Z z0 z1 z2 (by omega) (by omega) (by omega)).mono ?_⟩
   rintro e u' w' ⟨rfl, rfl, hC⟩
   obtain ⟨d0, d1, d2, eo, et, eu, es, eb⟩ := hC
   have hsc : scanL s.data.toList = ([], (at_ : Int), c) := hT.out.trans hR
   refine ⟨.tuple #[.slice none 0 0, .int .i64 at_, .int .i64 c], ?_, .slice none 0 0, by rw [hsc], by rw [hsc]; exact Kd.R_nil _ _ _ _ _, ?_⟩
   ·have c0 := Boxed.cell (W := w') (B := B) d0
    have c1 := Boxed.cell (W := w') (B := B + 1) d1
    have c2 := Boxed.cell (W := w') (B := B + 1 + 1) d2
    simp [results, Tryz.results54, go_sem, c0, c1, c2]
   ·rw [← HB.out]
    exact ⟨eo.trans zw.os, et.trans zw.tape, eu.trans zw.output, Nat.le_trans zw.size es, fun b hb => (eb b (by omega) (by omega) (by omega) (by omega)).trans (zw.block b hb)⟩

/-- lex.Scan's contract, as the printed walks ask for it. -/
def lex_Scan.f (a0 : ByteArray) : Option (List S65 × Int × Int) := if a0.size ≤ 140737488351232 then some (scanL a0.data.toList) else none
theorem lex_Scan.calls (a0 : ByteArray) (r1 : List S65) (r2 r3 : Int) (w : World) (h : lex_Scan.f a0 = some (r1, r2, r3)) :
  Calls Tryz.prog 54 #[.string a0] w fun e w' => ∃ v0_ : Value, e = .returned (.tuple #[v0_, .int .i64 r2, .int .i64 r3]) ∧ Kd.R k65 65 w' w.heap.size (fun _ => True) v0_ r1 ∧ Below w.heap.size w w' := by
 unfold lex_Scan.f at h
 split at h
 case isFalse => cases h
 case isTrue hs =>
  have h2 : scanL a0.data.toList = (r1, r2, r3) := by simpa using h
  have h0 : CallsIn Fence.wide 0 Tryz.prog 54 #[.string a0] w fun e w' => ScanPost a0 w e w' := by
   by_cases hl : 20000 < a0.size
   ·exact scan_long 0 a0 hl hs w
   ·exact scan_short 0 a0 (by omega) w
  refine (callsIn_wide.1 h0).mono ?_
  ·rintro e w' ⟨v, rfl, hR, hb⟩
   rw [h2] at hR
   exact ⟨v, by rw [h2], hR, hb⟩

end Go.Proofs.YtbndfgoklgdfdaaGreatDoor.P
end
section
set_option linter.unusedSimpArgs false
namespace Go.Proofs.YtbndfgoklgdfdaaGreatDoor.P
open Go.RowKit Go.Proofs.YtbndfgoklgdfdaaGreatDoorW.PrintWords Go.Proofs.YtbndfgoklgdfdaaGreatDoorW.PrintLast Go.Proofs.YtbndfgoklgdfdaaGreatDoorW.PrintMore
/-- Is a token valid? -/
def okT (t : S65) : Bool :=
 match scanL t.f1.data.toList with
 | ([x], _, e) => e == 0 && x.f0 == t.f0 && x.f1.toList == t.f1.toList
 | _ => false
theorem ad0 (a : Addr) : a.add 0 = a := by unfold Addr.add; simp
theorem run_tkbox {o : Oper} {a : Act} {W : World} {k p : Int} {s : ByteArray} {v : Operand} (ho : o.op = .box 65 v) (hv : a.eval v = .agg #[.int .i64 k, .string s, .int .i64 p]) : (execOp a.eval o).run Tryz.prog W = .ok (.value (.pointer (some ⟨W.heap.size, 0, none⟩))) (W.alloc (.cells #[.int .i64 k, .string s, .int .i64 p] 65 (0, 0))) := by
 unfold execOp
 rw [ho]
 simp only [hv]
 first | (go_simp; done) | (go_simp; rfl)
set_option maxRecDepth 100000 in
set_option maxHeartbeats 8000000 in
theorem lexCheck_on (k p : Int) (s : ByteArray) (hs : s.size ≤ 140737488351232) (w : World) : Calls Tryz.prog 168 #[.agg #[.int .i64 k, .string s, .int .i64 p]] w fun e w' => e = .returned (.int .i64 (if okT ⟨k, s, p⟩ then 0 else 12)) ∧ Below w.heap.size w w' := by
 obtain ⟨l, at_, er, hsc⟩ : ∃ l at_ er, scanL s.data.toList = (l, at_, er) := ⟨_, _, _, rfl⟩
 have hf : lex_Scan.f s = some (l, at_, er) := by unfold lex_Scan.f; rw [if_pos hs, hsc]
 obtain ⟨r, hr⟩ : ∃ r : Int, r = (if okT ⟨k, s, p⟩ then 0 else 12) := ⟨_, rfl⟩
 have key : (er ≠ 0 ∧ r = 12) ∨ er = 0 ∧ (l.length ≠ 1 ∧ r = 12 ∨ ∃ x, l = [x] ∧ (x.f0 ≠ k ∧ r = 12 ∨ x.f0 = k ∧ (x.f1.toList ≠ s.toList ∧ r = 12 ∨ x.f1.toList = s.toList ∧ r = 0))) := by
  unfold okT at hr
  dsimp only at hr
  rw [hsc] at hr
  by_cases he : er = 0
  ·refine .inr ⟨he, ?_⟩
   rcases l with _ | ⟨x, _ | ⟨y, l⟩⟩
   ·exact .inl ⟨by simp, by simpa using hr⟩
   ·refine .inr ⟨x, rfl, ?_⟩
    by_cases h0 : x.f0 = k
    ·refine .inr ⟨h0, ?_⟩
     by_cases h1 : x.f1.toList = s.toList
     ·exact .inr ⟨h1, by simpa [he, h0, h1] using hr⟩
     ·exact .inl ⟨h1, by simpa [he, h0, h1] using hr⟩
    ·exact .inl ⟨h0, by simpa [he, h0] using hr⟩
   ·exact .inl ⟨by simp, by simpa using hr⟩
  ·refine .inl ⟨he, ?_⟩
   rcases l with _ | ⟨x, _ | ⟨y, l⟩⟩ <;> simpa [he] using hr
 rw [← hr]
 have HS := Lib.hid hf
 have HF := Lib.hid (Fz.refl w)
 clear hr hf hsc
 have mixed : (Tryz.prog).follows .mixedOrders = true := by kernel_rfl
 rcases key with ⟨he, rfl⟩ | ⟨rfl, ⟨hl, rfl⟩ | ⟨x, rfl, ⟨h0, rfl⟩ | ⟨h0, ⟨h1, rfl⟩ | ⟨h1, rfl⟩⟩⟩⟩
 ·have he_ : (er != 0) = true := bne_iff_ne.2 he
  go_enter Tryz.func168, Tryz.ntmps168
  go_wp2_with (first
   | ((with_reducible refine gate_dst (N := 1) rfl ?_); refine ez_box (t := 65) (cs := #[.int .i64 k, .string s, .int .i64 p]) HF rfl rfl (run_tkbox rfl rfl) ?_; clear HF; intro b1 w1 HF; obtain ⟨q1, q2, q3⟩ := rd3 HF.out.b0)
   | (go_at_call 54; refine (lex_Scan.calls s l at_ er _ HS.out).mono ?_; rintro e w2 ⟨v_, rfl, hR_, hb_⟩; clear q1 q2 q3; obtain ⟨A, c, rfl, hlc, hC_⟩ := Kd.R_reads hR_; have HF2_ := Lib.hid (HF.out.row hb_ (Nat.le_refl _) hR_); clear HF hR_ hb_; have HF := HF2_; clear HF2_; obtain ⟨q1, q2, q3⟩ := rd3 HF.out.b1))
  replace HF := Lib.hid HF.out.drew
  clear q1 q2 q3
  obtain ⟨q1, q2, q3⟩ := rd3 HF.out.b1
  go_region_o
  all_goals (go_wp2_with fail; go_ret; exact ⟨rfl, HF.out.below⟩)
 ·have hl_ : ((l.length : Int) != 1) = true := bne_iff_ne.2 (by omega)
  go_enter Tryz.func168, Tryz.ntmps168
  go_wp2_with (first
   | ((with_reducible refine gate_dst (N := 1) rfl ?_); refine ez_box (t := 65) (cs := #[.int .i64 k, .string s, .int .i64 p]) HF rfl rfl (run_tkbox rfl rfl) ?_; clear HF; intro b1 w1 HF; obtain ⟨q1, q2, q3⟩ := rd3 HF.out.b0)
   | (go_at_call 54; refine (lex_Scan.calls s l at_ 0 _ HS.out).mono ?_; rintro e w2 ⟨v_, rfl, hR_, hb_⟩; clear q1 q2 q3; obtain ⟨A, c, rfl, hlc, hC_⟩ := Kd.R_reads hR_; have HF2_ := Lib.hid (HF.out.row hb_ (Nat.le_refl _) hR_); clear HF hR_ hb_; have HF := HF2_; clear HF2_; obtain ⟨q1, q2, q3⟩ := rd3 HF.out.b1))
  replace HF := Lib.hid HF.out.drew
  clear q1 q2 q3
  obtain ⟨q1, q2, q3⟩ := rd3 HF.out.b1
  go_region_o
  all_goals (go_wp2_with fail; go_ret; exact ⟨rfl, HF.out.below⟩)
 all_goals
  go_enter Tryz.func168, Tryz.ntmps168
  go_wp2_with (first
   | ((with_reducible refine gate_dst (N := 1) rfl ?_); refine ez_box (t := 65) (cs := #[.int .i64 k, .string s, .int .i64 p]) HF rfl rfl (run_tkbox rfl rfl) ?_; clear HF; intro b1 w1 HF; obtain ⟨q1, q2, q3⟩ := rd3 HF.out.b0)
   | (go_at_call 54; refine (lex_Scan.calls s [x] at_ 0 _ HS.out).mono ?_; rintro e w2 ⟨v_, rfl, hR_, hb_⟩; clear q1 q2 q3; obtain ⟨A, c, rfl, hlc, hC_⟩ := Kd.R_reads hR_; obtain ⟨a0, e0, p0, p1, p2⟩ := at_T65 hC_ 0 (by omega) (by simp); subst e0; rw [show rd_T65 [x] 0 = x from rfl, show Int.toNat 0 * 3 = 0 from rfl, ad0] at p0 p1 p2; have HF2_ := Lib.hid (HF.out.row hb_ (Nat.le_refl _) hR_); clear HF hR_ hb_ hC_; have HF := HF2_; clear HF2_; obtain ⟨q1, q2, q3⟩ := rd3 HF.out.b1))
  have HP := Lib.hid (And.intro p0 (And.intro p1 p2))
  replace HF := Lib.hid HF.out.drew
  clear q1 q2 q3 p0 p1 p2
  obtain ⟨q1, q2, q3⟩ := rd3 HF.out.b1
  obtain ⟨p0, p1, p2⟩ : _ ∧ _ ∧ _ := ⟨HP.out.1, HP.out.2.1, HP.out.2.2⟩
  try have h0_ : (x.f0 != k) = true := bne_iff_ne.2 h0
  try have h0_ : (x.f0 != k) = false := bne_eq_false_iff_eq.2 h0
  try have h1_ : (x.f1.toList == s.toList) = false := beq_eq_false_iff_ne.2 h1
  try have h1_ : (x.f1.toList == s.toList) = true := beq_iff_eq.2 h1
  go_region_o
  all_goals (go_wp2_with fail; go_ret; exact ⟨rfl, HF.out.below⟩)
def lex_is.f (s : ByteArray) (k : Int) : Option Bool := if s.size ≤ 140737488351232 then some (okT ⟨k, s, 0⟩) else none
theorem lex_is.calls (s : ByteArray) (k : Int) (r : Bool) (w : World) (h : lex_is.f s k = some r) : Calls Tryz.prog 144 #[.string s, .int .i64 k] w fun e w' => e = .returned (.bool r) ∧ Below w.heap.size w w' := by
 unfold lex_is.f at h
 split at h
 ·rename_i hs
  cases h
  have HC : ∀ z : Int, z = (if okT ⟨k, s, 0⟩ then 0 else 12) → ∀ w, Calls Tryz.prog 168 #[.agg #[.int .i64 k, .string s, .int .i64 0]] w fun e w' => e = .returned (.int .i64 z) ∧ Below w.heap.size w w' := fun z hz w => by rw [hz]; exact lexCheck_on k 0 s hs w
  cases hok : okT ⟨k, s, 0⟩
  ·have H := Lib.hid (HC 12 (by rw [hok]; rfl))
   clear HC hok hs
   go_enter Tryz.func144, Tryz.ntmps144
   go_wp2_with (go_at_call 168; refine (H.out _).mono ?_; rintro e w1 ⟨rfl, hb⟩)
   go_ret
   exact ⟨rfl, hb⟩
  ·have H := Lib.hid (HC 0 (by rw [hok]; rfl))
   clear HC hok hs
   go_enter Tryz.func144, Tryz.ntmps144
   go_wp2_with (go_at_call 168; refine (H.out _).mono ?_; rintro e w1 ⟨rfl, hb⟩)
   go_ret
   exact ⟨rfl, hb⟩
 ·cases h
def lex_IsName.f (s : ByteArray) : Option Bool := lex_is.f s 1
def lex_IsVar.f (s : ByteArray) : Option Bool := lex_is.f s 2
theorem lex_IsName.calls (s : ByteArray) (r : Bool) (w : World) (h : lex_IsName.f s = some r) : Calls Tryz.prog 113 #[.string s] w fun e w' => e = .returned (.bool r) ∧ Below w.heap.size w w' := by
 have H := Lib.hid h
 clear h
 go_enter Tryz.func113, Tryz.ntmps113
 go_wp2_with (go_at_call 144; refine (lex_is.calls s 1 r _ H.out).mono ?_; rintro e w1 ⟨rfl, hb⟩)
 go_ret
 exact ⟨rfl, hb⟩
theorem lex_IsVar.calls (s : ByteArray) (r : Bool) (w : World) (h : lex_IsVar.f s = some r) : Calls Tryz.prog 115 #[.string s] w fun e w' => e = .returned (.bool r) ∧ Below w.heap.size w w' := by
 have H := Lib.hid h
 clear h
 go_enter Tryz.func115, Tryz.ntmps115
 go_wp2_with (go_at_call 144; refine (lex_is.calls s 2 r _ H.out).mono ?_; rintro e w1 ⟨rfl, hb⟩)
 go_ret
 exact ⟨rfl, hb⟩
def syntax_isName.f (s : ByteArray) : Option Bool := (lex_IsName.f s).bind fun a => if a = true then some true else lex_IsVar.f s
theorem syntax_isName.calls (s : ByteArray) (r : Bool) (w : World) (h : syntax_isName.f s = some r) : Calls Tryz.prog 145 #[.string s] w fun e w' => e = .returned (.bool r) ∧ Below w.heap.size w w' := by
 obtain ⟨a, ha, hr⟩ := Option.bind_eq_some_iff.1 h
 have H := Lib.hid ha
 clear h ha
 cases a
 ·rw [if_neg (by simp)] at hr
  have HR := Lib.hid hr
  clear hr
  go_enter Tryz.func145, Tryz.ntmps145
  go_wp2_with (first
   | (go_at_call 113; refine (lex_IsName.calls s false _ H.out).mono ?_; rintro e w1 ⟨rfl, hb⟩)
   | (go_at_call 115; refine (lex_IsVar.calls s r _ HR.out).mono ?_; rintro e w2 ⟨rfl, hb2⟩))
  go_ret
  exact ⟨rfl, below_step hb hb2⟩
 ·rw [if_pos rfl] at hr
  cases hr
  go_enter Tryz.func145, Tryz.ntmps145
  go_wp2_with (go_at_call 113; refine (lex_IsName.calls s true _ H.out).mono ?_; rintro e w1 ⟨rfl, hb⟩)
  go_ret
  exact ⟨rfl, hb⟩
end Go.Proofs.YtbndfgoklgdfdaaGreatDoor.P
end
section
set_option linter.unusedSimpArgs false
namespace Go.Proofs.YtbndfgoklgdfdaaGreatDoor.P
open Go.RowKit Go.Proofs.YtbndfgoklgdfdaaGreatDoorW.PrintWords Go.Proofs.YtbndfgoklgdfdaaGreatDoorW.PrintLast Go.Proofs.YtbndfgoklgdfdaaGreatDoorW.PrintMore

theorem enters_isType : Enters Tryz.prog 64 := enters_of Tryz.func64 (by kernel_rfl) rfl
/-- The greatest length of a string that a call may be handed. -/
abbrev strMax : Nat := 140737488351232
def nameB (s : ByteArray) : Bool := okT ⟨1, s, 0⟩
def varB (s : ByteArray) : Bool := okT ⟨2, s, 0⟩
theorem is_f (s : ByteArray) (k : Int) (h : s.size ≤ strMax) : lex_is.f s k = some (okT ⟨k, s, 0⟩) := by
 unfold lex_is.f
 rw [if_pos h]
theorem isName_f (s : ByteArray) (h : s.size ≤ strMax) : lex_IsName.f s = some (nameB s) := by
 unfold lex_IsName.f
 rw [is_f s 1 h]
 rfl
theorem isVar_f (s : ByteArray) (h : s.size ≤ strMax) : lex_IsVar.f s = some (varB s) := by
 unfold lex_IsVar.f
 rw [is_f s 2 h]
 rfl
theorem isNameS_f (s : ByteArray) (h : s.size ≤ strMax) : syntax_isName.f s = some (nameB s || varB s) := by
 unfold syntax_isName.f
 rw [isName_f s h, isVar_f s h]
 cases nameB s
 ·rw [Option.bind_some, if_neg (by simp)]; rfl
 ·rfl
def isWordB (x : S25) : Bool := x.f0 == 15 && nameB x.f1 && x.f2.isEmpty
def isModeB (x : S25) : Bool := isWordB x && (x.f1.toList == [105, 110] || x.f1.toList == [111, 117, 116] || x.f1.toList == [97, 110, 121])
mutual
/-- No name in a tree is longer than a string can be. -/
def szT : S25 → Bool
 | ⟨_, s, l⟩ => decide (s.size ≤ strMax) && szL l
def szL : List S25 → Bool
 | [] => true
 | x :: l => szT x && szL l
end
theorem szT_name {x : S25} (h : szT x = true) : x.f1.size ≤ strMax := by
 obtain ⟨_, s, l⟩ := x
 simp only [szT, Bool.and_eq_true, decide_eq_true_eq] at h
 exact h.1
theorem szL_mem : ∀ {l : List S25} (_ : szL l = true) {x : S25}, x ∈ l → szT x = true
 | [], _, x, hx => by simp at hx
 | y :: l, h, x, hx => by
  simp only [szL, Bool.and_eq_true] at h
  rcases List.mem_cons.1 hx with rfl | hx
  ·exact h.1
  ·exact szL_mem h.2 hx
theorem szT_kids {x : S25} (h : szT x = true) : szL x.f2 = true := by
 obtain ⟨_, s, l⟩ := x
 simp only [szT, Bool.and_eq_true, decide_eq_true_eq] at h
 exact h.2
theorem szT_mem {x y : S25} (h : szT x = true) (hy : y ∈ x.f2) : szT y = true := szL_mem (szT_kids h) hy
theorem kid_lt {x y : S25} (h : y ∈ x.f2) : SizeOf.sizeOf y < SizeOf.sizeOf x := by
 obtain ⟨_, s, l⟩ := x
 have := List.sizeOf_lt_of_mem (show y ∈ l from h)
 simp
 omega

mutual
def isTypeT : S25 → Bool
 | ⟨k, s, l⟩ => isWordB ⟨k, s, l⟩ || k == 31 && s.toList == [] && l.length == 2 && isTypeL l
def isTypeL : List S25 → Bool
 | [] => true
 | x :: l => isTypeT x && isTypeL l
end
theorem isTypeL_all : ∀ l, isTypeL l = l.all isTypeT
 | [] => rfl
 | x :: l => by simp only [isTypeL, List.all_cons, isTypeL_all l]
theorem isTypeT_eq (x : S25) : isTypeT x = (isWordB x || x.f0 == 31 && x.f1.toList == [] && (x.f2.length : Int) == 2 && x.f2.all isTypeT) := by
 obtain ⟨k, s, l⟩ := x
 simp only [isTypeT, isTypeL_all]
 congr 3
 exact Bool.eq_iff_iff.2 (by simp only [beq_iff_eq]; omega)

/-- What a test knows of the world: its tree lies in a variable; what came in lies below. -/
structure Bw (w W : World) (b : Nat) (x : S25) (A : Option Addr) (c : Nat) : Prop where
 below : Below w.heap.size w W
 at_ : W.heap[b]? = some (.cells #[.int .i64 x.f0, .string x.f1, .slice A x.f2.length c] 25 (0, 0))
section
variable {w W W' : World} {b : Nat} {x : S25} {A : Option Addr} {c : Nat} {ops : Array Oper} {rest : List Oper} {o : Oper} {a : Act} {Q : Exit → Act → World → Prop}
theorem Bw.call (h : Bw w W b x A c) (hb : Below W.heap.size W W') : Bw w W' b x A c := ⟨below_step h.below hb, (hb.block b (blk_lt h.at_)).trans h.at_⟩
theorem Bw.C (h : Bw w W b x A c) (hC : Kd.C k25 w A x.f2.length x.f2) : Kd.C k25 W A x.f2.length x.f2 := Kd.C_below hC h.below
theorem ev_tree {N : Tmp} {v : Operand} (hd : o.dst = some N) (hgd : o.guard = none) (ho : o.op = .box 25 v) (hv : a.eval v = .agg #[.int .i64 x.f0, .string x.f1, .slice A x.f2.length c])
  (h : ∀ b W', Hid (Bw W W' b x A c) → wpList Tryz.prog ops Q rest (a.put (some N) (.pointer (some ⟨b, 0, none⟩))) W') : wpList Tryz.prog ops Q (o :: rest) a W :=
 Kd.event_run hgd (v := .pointer (some ⟨W.heap.size, 0, none⟩)) (w1 := W.alloc (.cells #[.int .i64 x.f0, .string x.f1, .slice A x.f2.length c] 25 (0, 0)))
  (by unfold execOp; rw [ho]; simp only [hv]; first | (go_simp; done) | (go_simp; rfl)) (by rw [hd]; exact h _ _ (Lib.hid ⟨below_alloc (Below.refl _ _) _, blk_new W _⟩))
theorem isWord_on (hz : x.f1.size ≤ strMax) : IsOn 112 isWordB x := by
 intro A c w hc hC
 obtain ⟨k, s, l⟩ := x
 have HZ := Lib.hid hz
 unfold isWordB
 dsimp only at hc hC ⊢
 clear hC hz
 cases h15 : (k == 15) <;> cases hv : nameB s <;> cases hl : l.isEmpty
 all_goals
  have hl_ : ((l.length : Int) == 0) = l.isEmpty := by cases l <;> simp; omega
  rw [hl] at hl_
  go_enter Tryz.func112, Tryz.ntmps112
  go_wp2_with (first
   | ((with_reducible refine gate_dst (N := 1) rfl ?_); refine ev_tree (x := ⟨k, s, l⟩) (A := A) (c := c) rfl rfl rfl rfl ?_; intro b w1 HX; obtain ⟨qa, qb, qc⟩ := rd3 HX.out.at_; try dsimp only at qa qb qc)
   | (go_at_call 113; refine (lex_IsName.calls s _ _ (isName_f s HZ.out)).mono ?_; rw [hv]; rintro e w2 ⟨rfl, hb⟩; clear qa qb qc; have HX2 := Lib.hid (HX.out.call hb); clear HX hb; have HX := HX2; clear HX2; obtain ⟨qa, qb, qc⟩ := rd3 HX.out.at_; try dsimp only at qa qb qc))
  go_ret
  exact ⟨rfl, HX.out.below⟩
theorem isMode_on (hz : x.f1.size ≤ strMax) : IsOn 114 isModeB x := by
 intro A c w hc hC
 have HW := Lib.hid (isWord_on hz)
 obtain ⟨k, s, l⟩ := x
 unfold isModeB
 have HC := Lib.hid hC
 dsimp only at hc ⊢
 clear hC hz
 cases hv : isWordB ⟨k, s, l⟩ <;> cases h1 : (s.toList == [105, 110]) <;> cases h2 : (s.toList == [111, 117, 116]) <;> cases h3 : (s.toList == [97, 110, 121])
 all_goals
  go_enter Tryz.func114, Tryz.ntmps114
  go_wp2_with (first
   | ((with_reducible refine gate_dst (N := 1) rfl ?_); refine ev_tree (x := ⟨k, s, l⟩) (A := A) (c := c) rfl rfl rfl rfl ?_; intro b w1 HX; obtain ⟨qa, qb, qc⟩ := rd3 HX.out.at_; try dsimp only at qa qb qc)
   | (go_at_call 112; refine (HW.out A c _ hc (Kd.C_below HC.out HX.out.below)).mono ?_; rw [hv]; rintro e w2 ⟨rfl, hb⟩; clear qa qb qc; have HX2 := Lib.hid (HX.out.call hb); clear HX hb; have HX := HX2; clear HX2; obtain ⟨qa, qb, qc⟩ := rd3 HX.out.at_; try dsimp only at qa qb qc))
  go_ret
  exact ⟨rfl, HX.out.below⟩
end
set_option maxRecDepth 100000 in
set_option maxHeartbeats 4000000 in
theorem isType_on : ∀ (n : Nat) (x : S25), SizeOf.sizeOf x < n → szT x = true → IsOn 64 isTypeT x
 | 0, x, h, _ => absurd h (Nat.not_lt_zero _)
 | n + 1, x, hn, hz => by
  intro A c w hc hC
  have HIH : Hid (∀ y ∈ x.f2, IsOn 64 isTypeT y) := Lib.hid fun y hy => isType_on n y (by have := kid_lt hy; omega) (szT_mem hz hy)
  have HW := Lib.hid (isWord_on (szT_name hz))
  have HC := Lib.hid hC
  have HCC := Lib.hid hc
  have HE := Lib.hid (isTypeT_eq x)
  clear hC hc hz hn
  cases h1 : isWordB x
  ·cases h2 : (x.f0 == 31)
   ·have HE2 : Hid (isTypeT x = false) := Lib.hid (by rw [HE.out]; simp only [*, Bool.true_or, Bool.false_or, Bool.false_and, Bool.true_and])
    clear HE
    go_enter Tryz.func64, Tryz.ntmps64
    go_wp2_with (first
     | ((with_reducible refine gate_dst (N := 1) rfl ?_); go_loud (refine ev_tree (x := x) (A := A) (c := c) rfl rfl rfl rfl ?_; intro b w1_ HX; obtain ⟨qa_, qb_, qc_⟩ := rd3 HX.out.at_))
     | (go_at_call 112; go_loud (refine (HW.out A c _ HCC.out (HX.out.C HC.out)).mono ?_; rintro e w2_ ⟨rfl, hb_⟩; clear qa_ qb_ qc_; have HX2_ := Lib.hid (HX.out.call hb_); clear HX hb_; have HX := HX2_; clear HX2_; obtain ⟨qa_, qb_, qc_⟩ := rd3 HX.out.at_; rw [h1]))
     | (go_at_call 62; refine (every_on _ enters_isType isTypeT x.f2 HIH.out A c _ (HX.out.C HC.out)).mono ?_; rintro e w3_ ⟨rfl, hb_⟩; clear qa_ qb_ qc_; have HX2_ := Lib.hid (HX.out.call hb_); clear HX hb_; have HX := HX2_; clear HX2_; obtain ⟨qa_, qb_, qc_⟩ := rd3 HX.out.at_))
    go_ret
    exact ⟨by rw [HE2.out]; first | rfl | (simp only [*]; rfl) | (simp [*]; done), HX.out.below⟩
   ·cases h3 : (x.f1.toList == ([] : List UInt8))
    ·have HE2 : Hid (isTypeT x = false) := Lib.hid (by rw [HE.out]; simp only [*, Bool.true_or, Bool.false_or, Bool.false_and, Bool.true_and])
     clear HE
     go_enter Tryz.func64, Tryz.ntmps64
     go_wp2_with (first
      | ((with_reducible refine gate_dst (N := 1) rfl ?_); go_loud (refine ev_tree (x := x) (A := A) (c := c) rfl rfl rfl rfl ?_; intro b w1_ HX; obtain ⟨qa_, qb_, qc_⟩ := rd3 HX.out.at_))
      | (go_at_call 112; go_loud (refine (HW.out A c _ HCC.out (HX.out.C HC.out)).mono ?_; rintro e w2_ ⟨rfl, hb_⟩; clear qa_ qb_ qc_; have HX2_ := Lib.hid (HX.out.call hb_); clear HX hb_; have HX := HX2_; clear HX2_; obtain ⟨qa_, qb_, qc_⟩ := rd3 HX.out.at_; rw [h1]))
      | (go_at_call 62; refine (every_on _ enters_isType isTypeT x.f2 HIH.out A c _ (HX.out.C HC.out)).mono ?_; rintro e w3_ ⟨rfl, hb_⟩; clear qa_ qb_ qc_; have HX2_ := Lib.hid (HX.out.call hb_); clear HX hb_; have HX := HX2_; clear HX2_; obtain ⟨qa_, qb_, qc_⟩ := rd3 HX.out.at_))
     go_ret
     exact ⟨by rw [HE2.out]; first | rfl | (simp only [*]; rfl) | (simp [*]; done), HX.out.below⟩
    ·cases h4 : ((x.f2.length : Int) == 2)
     ·have HE2 : Hid (isTypeT x = false) := Lib.hid (by rw [HE.out]; simp only [*, Bool.true_or, Bool.false_or, Bool.false_and, Bool.true_and])
      clear HE
      go_enter Tryz.func64, Tryz.ntmps64
      go_wp2_with (first
       | ((with_reducible refine gate_dst (N := 1) rfl ?_); go_loud (refine ev_tree (x := x) (A := A) (c := c) rfl rfl rfl rfl ?_; intro b w1_ HX; obtain ⟨qa_, qb_, qc_⟩ := rd3 HX.out.at_))
       | (go_at_call 112; go_loud (refine (HW.out A c _ HCC.out (HX.out.C HC.out)).mono ?_; rintro e w2_ ⟨rfl, hb_⟩; clear qa_ qb_ qc_; have HX2_ := Lib.hid (HX.out.call hb_); clear HX hb_; have HX := HX2_; clear HX2_; obtain ⟨qa_, qb_, qc_⟩ := rd3 HX.out.at_; rw [h1]))
       | (go_at_call 62; refine (every_on _ enters_isType isTypeT x.f2 HIH.out A c _ (HX.out.C HC.out)).mono ?_; rintro e w3_ ⟨rfl, hb_⟩; clear qa_ qb_ qc_; have HX2_ := Lib.hid (HX.out.call hb_); clear HX hb_; have HX := HX2_; clear HX2_; obtain ⟨qa_, qb_, qc_⟩ := rd3 HX.out.at_))
      go_ret
      exact ⟨by rw [HE2.out]; first | rfl | (simp only [*]; rfl) | (simp [*]; done), HX.out.below⟩
     ·have HE2 : Hid (isTypeT x = x.f2.all isTypeT) := Lib.hid (by rw [HE.out]; simp only [*, Bool.true_or, Bool.false_or, Bool.false_and, Bool.true_and])
      clear HE
      go_enter Tryz.func64, Tryz.ntmps64
      go_wp2_with (first
       | ((with_reducible refine gate_dst (N := 1) rfl ?_); go_loud (refine ev_tree (x := x) (A := A) (c := c) rfl rfl rfl rfl ?_; intro b w1_ HX; obtain ⟨qa_, qb_, qc_⟩ := rd3 HX.out.at_))
       | (go_at_call 112; go_loud (refine (HW.out A c _ HCC.out (HX.out.C HC.out)).mono ?_; rintro e w2_ ⟨rfl, hb_⟩; clear qa_ qb_ qc_; have HX2_ := Lib.hid (HX.out.call hb_); clear HX hb_; have HX := HX2_; clear HX2_; obtain ⟨qa_, qb_, qc_⟩ := rd3 HX.out.at_; rw [h1]))
       | (go_at_call 62; refine (every_on _ enters_isType isTypeT x.f2 HIH.out A c _ (HX.out.C HC.out)).mono ?_; rintro e w3_ ⟨rfl, hb_⟩; clear qa_ qb_ qc_; have HX2_ := Lib.hid (HX.out.call hb_); clear HX hb_; have HX := HX2_; clear HX2_; obtain ⟨qa_, qb_, qc_⟩ := rd3 HX.out.at_))
      go_ret
      exact ⟨by rw [HE2.out]; first | rfl | (simp only [*]; rfl) | (simp [*]; done), HX.out.below⟩
  ·have HE2 : Hid (isTypeT x = true) := Lib.hid (by rw [HE.out]; simp only [*, Bool.true_or, Bool.false_or, Bool.false_and, Bool.true_and])
   clear HE
   go_enter Tryz.func64, Tryz.ntmps64
   go_wp2_with (first
    | ((with_reducible refine gate_dst (N := 1) rfl ?_); go_loud (refine ev_tree (x := x) (A := A) (c := c) rfl rfl rfl rfl ?_; intro b w1_ HX; obtain ⟨qa_, qb_, qc_⟩ := rd3 HX.out.at_))
    | (go_at_call 112; go_loud (refine (HW.out A c _ HCC.out (HX.out.C HC.out)).mono ?_; rintro e w2_ ⟨rfl, hb_⟩; clear qa_ qb_ qc_; have HX2_ := Lib.hid (HX.out.call hb_); clear HX hb_; have HX := HX2_; clear HX2_; obtain ⟨qa_, qb_, qc_⟩ := rd3 HX.out.at_; rw [h1]))
    | (go_at_call 62; refine (every_on _ enters_isType isTypeT x.f2 HIH.out A c _ (HX.out.C HC.out)).mono ?_; rintro e w3_ ⟨rfl, hb_⟩; clear qa_ qb_ qc_; have HX2_ := Lib.hid (HX.out.call hb_); clear HX hb_; have HX := HX2_; clear HX2_; obtain ⟨qa_, qb_, qc_⟩ := rd3 HX.out.at_))
   go_ret
   exact ⟨by rw [HE2.out]; first | rfl | (simp only [*]; rfl) | (simp [*]; done), HX.out.below⟩
end Go.Proofs.YtbndfgoklgdfdaaGreatDoor.P
end
section
namespace Go.Proofs.YtbndfgoklgdfdaaGreatDoor.P
open Go.RowKit Go.Proofs.YtbndfgoklgdfdaaGreatDoorW.PrintWords Go.Proofs.YtbndfgoklgdfdaaGreatDoorW.PrintLast Go.Proofs.YtbndfgoklgdfdaaGreatDoorW.PrintMore
mutual
def ndT : Tree → Nat
 | ⟨_, _, l⟩ => 1 + ndL l
def ndL : List Tree → Nat
 | [] => 0
 | x :: l => ndT x + ndL l
end
end Go.Proofs.YtbndfgoklgdfdaaGreatDoor.P
end
