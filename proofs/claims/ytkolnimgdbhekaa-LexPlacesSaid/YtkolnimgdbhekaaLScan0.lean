/- lex.Scan's deferred closure: what it does where the scan has panicked with a stop; where it has not. -/
import Derived.Test.YtkolnimgdbhekaaLIter
import Derived.RecoverIn
import Derived.RegionIn
import Derived.ChangeAlike
namespace Go.Proofs.Ytkolnimgdbhekaa.P
open Go.RowKit Go.Proofs.YtkolnimgdbhekaaW.PrintWords Go.Proofs.YtkolnimgdbhekaaW.PrintLast Go.Proofs.YtkolnimgdbhekaaW.PrintMore
attribute [local go_sem] Oper.semAt_some

set_option maxRecDepth 100000 in
set_option maxHeartbeats 1000000 in
theorem catch_idle (n : Nat) (pl pa pe : Nat) (w : World) :
    CallsDIn Fence.wide n Try.prog 46 #[.pointer (some ⟨pl, 0, none⟩), .pointer (some ⟨pa, 0, none⟩), .pointer (some ⟨pe, 0, none⟩)] .returning w fun e u' w' => e = .returned (.tuple #[]) ∧ u' = .returning ∧ w = w' := by
  refine callsDIn_of_wpSIn Try.func46 rfl trivial fun c₀ cs hu => ?_
  simp only [Try.ntmps46, List.size_toArray, List.length_cons, List.length_nil, Nat.reduceAdd, Nat.reduceSub, Array.replicate_succ, Array.replicate_zero, List.push_toArray, List.append_toArray, List.nil_append, List.cons_append]
  apply wpSIn_seq
  apply wpSIn_region
  simp [wpOpsSIn, go_sem, recoverD, hu, Exit.thenS]
  have hne : ∀ w, (binOp .neq 20 .nilIface .nilIface).run Try.prog w = .ok (.bool false) w := fun _ => by kernel_rfl
  apply wpSIn_seq
  apply wpSIn_region
  simp [wpOpsSIn, go_sem, hne, Exit.thenS]
  refine wpSIn_cond (t := false) (by simp [Act.eval]) ?_
  simp only [Bool.false_eq_true, if_false]
  refine wpSIn_of_wpIn rfl (wpIn_skip ?_)
  cases c₀
  simp_all [bodyPostS, results, Try.results46]

/-- What the closure has done: the three variables; nothing else that lay has turned. -/
def Caught (pl pa pe : Nat) (at_ c : Int) (w w' : World) : Prop :=
  w'.heap[pl]? = some (.cells #[.slice none 0 0] 23 (0, 0)) ∧ w'.heap[pa]? = some (.cells #[.int .i64 at_] 3 (0, 0)) ∧ w'.heap[pe]? = some (.cells #[.int .i64 c] 24 (0, 0)) ∧ w'.os = w.os ∧ w'.tape = w.tape ∧ w'.output = w.output ∧ w.heap.size ≤ w'.heap.size ∧
    ∀ b, b < w.heap.size → b ≠ pl → b ≠ pa → b ≠ pe → w'.heap[b]? = w.heap[b]?

set_option maxRecDepth 100000 in
set_option maxHeartbeats 1000000 in
theorem catch_stop (n : Nat) (pl pa pe : Nat) (at_ c : Int) (x0 x1 x2 : Value) (w : World) (h0 : w.heap[pl]? = some (.cells #[x0] 23 (0, 0))) (h1 : w.heap[pa]? = some (.cells #[x1] 3 (0, 0))) (h2 : w.heap[pe]? = some (.cells #[x2] 24 (0, 0)))
    (hla : pl ≠ pa) (hle : pl ≠ pe) (hae : pa ≠ pe) :
    CallsDIn Fence.wide n Try.prog 46 #[.pointer (some ⟨pl, 0, none⟩), .pointer (some ⟨pa, 0, none⟩), .pointer (some ⟨pe, 0, none⟩)]
      (.panicking [{ v := .iface 57 (.agg #[.int .i64 at_, .int .i64 c]), recovered := false }]) w fun e u' w' => e = .returned (.tuple #[]) ∧ u' = .panicking [{ v := .iface 57 (.agg #[.int .i64 at_, .int .i64 c]), recovered := true }] ∧
        Caught pl pa pe at_ c w w' := by
  refine callsDIn_of_wpSIn Try.func46 rfl trivial fun c₀ cs hu => ?_
  simp only [Try.ntmps46, List.size_toArray, List.length_cons, List.length_nil, Nat.reduceAdd, Nat.reduceSub, Array.replicate_succ, Array.replicate_zero, List.push_toArray, List.append_toArray, List.nil_append, List.cons_append]
  apply wpSIn_seq
  apply wpSIn_region
  simp [wpOpsSIn, go_sem, recoverD, hu, Exit.thenS]
  have hne : ∀ w, (binOp .neq 20 (.iface 57 (.agg #[.int .i64 at_, .int .i64 c])) .nilIface).run Try.prog w = .ok (.bool true) w := fun _ => by kernel_rfl
  apply wpSIn_seq
  apply wpSIn_region
  simp [wpOpsSIn, go_sem, hne, Exit.thenS]
  refine wpSIn_cond (t := true) (by simp [Act.eval]) ?_
  simp only [if_true]
  have hta : ∀ w, (Instr.typeAssert (.iface 57 (.agg #[.int .i64 at_, .int .i64 c])) 20 57 true).run Try.prog w = .ok (.tuple #[.agg #[.int .i64 at_, .int .i64 c], .bool true]) w := fun _ => by kernel_rfl
  apply wpSIn_seq
  apply wpSIn_region
  simp [wpOpsSIn, go_sem, hta, Exit.thenS]
  refine wpSIn_of_wpIn rfl ?_
  have lt0 := (Array.getElem?_eq_some_iff.1 h0).1
  have lt1 := (Array.getElem?_eq_some_iff.1 h1).1
  have lt2 := (Array.getElem?_eq_some_iff.1 h2).1
  refine wpIn_mono (Q := fun e a' w' => e = .normal ∧ a'.defers = [] ∧ Caught pl pa pe at_ c w w') ?_ ?_
  · obtain ⟨W, hW⟩ : ∃ W, W = w.alloc (.cells #[.int .i64 at_, .int .i64 c] 57) := ⟨_, rfl⟩
    obtain ⟨N, hN⟩ : ∃ N, N = w.heap.size := ⟨_, rfl⟩
    have c0 : W.cell? ⟨pl, 0, none⟩ = some x0 := by rw [hW]; simp [World.cell?, Below.heap_alloc _ _ _ lt0, h0]
    have c1 : W.cell? ⟨pa, 0, none⟩ = some x1 := by rw [hW]; simp [World.cell?, Below.heap_alloc _ _ _ lt1, h1]
    have c2 : W.cell? ⟨pe, 0, none⟩ = some x2 := by rw [hW]; simp [World.cell?, Below.heap_alloc _ _ _ lt2, h2]
    have f0 : W.frozen? ⟨pl, 0, none⟩ = false := by rw [hW]; simp [World.frozen?, Below.heap_alloc _ _ _ lt0, h0]
    have f1 : W.frozen? ⟨pa, 0, none⟩ = false := by rw [hW]; simp [World.frozen?, Below.heap_alloc _ _ _ lt1, h1]
    have f2 : W.frozen? ⟨pe, 0, none⟩ = false := by rw [hW]; simp [World.frozen?, Below.heap_alloc _ _ _ lt2, h2]
    have g0 : W.cell? ⟨N, 0, none⟩ = some (.int .i64 at_) := by
      rw [hW, hN]
      unfold World.cell?
      rw [show (w.alloc (.cells #[.int .i64 at_, .int .i64 c] 57)).heap[w.heap.size]? = _ from Go.heap_alloc_new w _]
      rfl
    have g1 : W.cell? ⟨N, 1, none⟩ = some (.int .i64 c) := by
      rw [hW, hN]
      unfold World.cell?
      rw [show (w.alloc (.cells #[.int .i64 at_, .int .i64 c] 57)).heap[w.heap.size]? = _ from Go.heap_alloc_new w _]
      rfl
    have n0 : ¬ N = pl := by omega
    have n1 : ¬ N = pa := by omega
    have n2 : ¬ N = pe := by omega
    have m0 : ¬ pl = N := by omega
    have m1 : ¬ pa = N := by omega
    have m2 : ¬ pe = N := by omega
    have q1 : ¬ pa = pl := by omega
    have q2 : ¬ pe = pl := by omega
    have q3 : ¬ pe = pa := by omega
    have k0 : W.heap[pl]? = some (.cells #[x0] 23 (0, 0)) := by rw [hW, Below.heap_alloc _ _ _ lt0]; exact h0
    have k1 : W.heap[pa]? = some (.cells #[x1] 3 (0, 0)) := by rw [hW, Below.heap_alloc _ _ _ lt1]; exact h1
    have k2 : W.heap[pe]? = some (.cells #[x2] 24 (0, 0)) := by rw [hW, Below.heap_alloc _ _ _ lt2]; exact h2
    have kb : Below w.heap.size w W := by rw [hW]; exact (Below.refl _ _).alloc (Nat.le_refl _) _
    rw [← hW, ← hN]
    have K0 := Lib.hid k0
    have K1 := Lib.hid k1
    have K2 := Lib.hid k2
    have KB := Lib.hid kb
    clear h0 h1 h2 hW hN k0 k1 k2 kb
    clear hne hta hu
    gi_wp2_with fail
    gi_region
    all_goals
      gi_wp2_with fail
      have u0 := heap_setCell_same W pl 0 #[x0] 23 (.slice none 0 0) K0.out
      have u1 : (W.setCell ⟨pl, 0, none⟩ (.slice none 0 0)).heap[pa]? = some (.cells #[x1] 3 (0, 0)) := (Go.heap_setCell_other W _ pa _ (by simpa using q1)).trans K1.out
      have u2 : (W.setCell ⟨pl, 0, none⟩ (.slice none 0 0)).heap[pe]? = some (.cells #[x2] 24 (0, 0)) := (Go.heap_setCell_other W _ pe _ (by simpa using q2)).trans K2.out
      have ub : ∀ b, b < w.heap.size → b ≠ pl → (W.setCell ⟨pl, 0, none⟩ (.slice none 0 0)).heap[b]? = w.heap[b]? := fun b hb hne => (Go.heap_setCell_other W _ b _ hne).trans (KB.out.block b hb)
      revert u0 u1 u2 ub
      have us : (W.setCell ⟨pl, 0, none⟩ (.slice none 0 0)).heap.size = W.heap.size := by simp
      have uo : (W.setCell ⟨pl, 0, none⟩ (.slice none 0 0)).os = W.os ∧ (W.setCell ⟨pl, 0, none⟩ (.slice none 0 0)).tape = W.tape ∧ (W.setCell ⟨pl, 0, none⟩ (.slice none 0 0)).output = W.output := ⟨rfl, rfl, rfl⟩
      revert us uo
      generalize W.setCell ⟨pl, 0, none⟩ (.slice none 0 0) = V
      intro us uo u0 u1 u2 ub
      have v0 : (V.setCell ⟨pa, 0, none⟩ (.int .i64 at_)).heap[pl]? = _ := (Go.heap_setCell_other V _ pl _ hla).trans u0
      have v1 := heap_setCell_same V pa 0 #[x1] 3 (.int .i64 at_) u1
      have v2 : (V.setCell ⟨pa, 0, none⟩ (.int .i64 at_)).heap[pe]? = _ := (Go.heap_setCell_other V _ pe _ (by simpa using q3)).trans u2
      have w0 : ((V.setCell ⟨pa, 0, none⟩ (.int .i64 at_)).setCell ⟨pe, 0, none⟩ (.int .i64 c)).heap[pl]? = _ := (Go.heap_setCell_other _ _ pl _ hle).trans v0
      have w1 : ((V.setCell ⟨pa, 0, none⟩ (.int .i64 at_)).setCell ⟨pe, 0, none⟩ (.int .i64 c)).heap[pa]? = _ := (Go.heap_setCell_other _ _ pa _ hae).trans v1
      have w2 := heap_setCell_same (V.setCell ⟨pa, 0, none⟩ (.int .i64 at_)) pe 0 #[x2] 24 (.int .i64 c) v2
      have hs := KB.out.size
      exact ⟨w0, w1, w2, uo.1.trans KB.out.os, uo.2.1.trans KB.out.tape, uo.2.2.trans KB.out.output, by simp [World.drew]; omega, fun b hb h1 h2 h3 => (Go.heap_setCell_other _ _ b _ h3).trans ((Go.heap_setCell_other _ _ b _ h2).trans (ub b hb h1))⟩
  · rintro e a' w' ⟨rfl, hd, hc⟩
    exact ⟨hd, _, rfl, _, results_none rfl _ _ _, rfl, rfl, hc⟩

end Go.Proofs.Ytkolnimgdbhekaa.P
