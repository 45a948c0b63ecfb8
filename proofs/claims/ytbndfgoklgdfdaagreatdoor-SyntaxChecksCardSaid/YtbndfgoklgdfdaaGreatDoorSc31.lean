/- A tree that came in as an argument: opened; its names' sizes. The table of operators, as the row's condition lays it. -/
import Derived.Test.YtbndfgoklgdfdaaGreatDoorSc04
import Derived.Test.YtbndfgoklgdfdaaGreatDoorSc08
import Derived.WalkKit
import Derived.ProofKit
import Derived.OpenShut
import Derived.ShutString
import Derived.ChangeOld
import Derived.Below
import Derived.SizedLaws
import Derived.Deep.Slices
import Derived.Deep.Strs
import Derived.Test.YtbndfgoklgdfdaaGreatDoorSc30
import Derived.Test.YtbndfgoklgdfdaaGreatDoorRows
import Derived.Test.YtbndfgoklgdfdaaGreatDoorSc13
import Derived.LaidMore
import Derived.Stop.Joined
set_option linter.all false
section
set_option linter.unusedSimpArgs false
namespace Go.Proofs.YtbndfgoklgdfdaaGreatDoor.P
open Go.ChangeShapes Go.WideShapes Go.ChangeAt Go.RowKit
open Go.Proofs.YtbndfgoklgdfdaaGreatDoorW.PrintWords Go.Proofs.YtbndfgoklgdfdaaGreatDoorW.PrintLast Go.Proofs.YtbndfgoklgdfdaaGreatDoorW.PrintMore
theorem weightsAll_mem {H : Type} {P : Program} {e : TypeId} : ∀ {l : List (DataW H)} {d : DataW H}, d ∈ l → ∀ n ∈ d.weights P e, n ∈ DataW.weightsAll P e l
 | y :: l, d, h, n, hn => by
  simp only [DataW.weightsAll, List.mem_append]
  rcases List.mem_cons.1 h with rfl | h
  ·exact .inl hn
  ·exact .inr (weightsAll_mem h n hn)
theorem slice_weights {H : Type} {es rest : List (DataW H)} {d : DataW H} (hd : d ∈ es) {q : Nat} (hq : q ∈ d.weights Tryz.prog 25) : q ∈ (DataW.slice es rest : DataW H).weights Tryz.prog 23 := by
 simp only [DataW.weights, Tryz.underlying23]
 exact List.mem_cons_of_mem _ (List.mem_append_left _ (weightsAll_mem hd _ hq))
theorem add_add (a : Addr) (i j : Nat) : (a.add i).add j = a.add (i + j) := by
 unfold Addr.add
 by_cases hi : i = 0 <;> by_cases hj : j = 0 <;> simp [hi, hj, Nat.add_assoc]
theorem szL_all : ∀ l : List Tree, (∀ x ∈ l, szT x = true) → szL l = true
 | [], _ => rfl
 | x :: l, h => by
  rw [szL, h x (by simp), szL_all l (fun y hy => h y (by simp [hy]))]
  rfl
/-- What a tree's cells are. -/
def TreeCells {H : Type} (w : World) (cs : List Value) (d : DataW H) (x : Tree) : Prop :=
 ∃ (A : Option Addr) (c : Nat), cs = [.int .i64 x.f0, .string x.f1, .slice A x.f2.length c] ∧ x.f2.length ≤ c ∧ Kd.C k25 w A x.f2.length x.f2 ∧ ((∀ n ∈ d.weights Tryz.prog 25, n ≤ reachBytes) → szT x = true)
set_option maxHeartbeats 1000000 in
set_option maxRecDepth 100000 in
theorem trod_tree {H : Type} {enc : TypeId × Value → H} {w : World} {base : Nat} {sp : Nat → Bool} {held : Bool} : ∀ (N fuel : Nat), fuel ≤ N → ∀ (cs : List Value) (y : DataW H × List MemPlace), DataW.trod enc Tryz.prog w base sp held fuel 25 cs = some y → ∃ x : Tree, TreeCells w cs y.1 x
 | N, fuel, hN, cs, y, h => by
  obtain ⟨xs, n, rfl, hx, hl, hxl, hfs⟩ := DataW.trod_struct Tryz.underlying25 h
  have c25 : Tryz.prog.cellsOf 25 = 3 := by kernel_rfl
  have c3 : Tryz.prog.cellsOf 3 = 1 := by kernel_rfl
  have c9 : Tryz.prog.cellsOf 9 = 1 := by kernel_rfl
  have c23 : Tryz.prog.cellsOf 23 = 1 := by kernel_rfl
  rw [c25] at hl
  match cs, hl, xs, hxl with
  | [v0, v1, v2], _, [y0, y1, y2], _ =>
   have g0 := hfs 0 _ rfl
   have g1 := hfs 1 _ rfl
   have g2 := hfs 2 _ rfl
   simp [c3, c9, c23] at g0 g1 g2
   obtain ⟨n0, e0, z0, w0⟩ := DataW.trod_int Tryz.underlying3 g0
   obtain ⟨s1, e1, z1, w1⟩ := DataW.trod_string Tryz.underlying9 g1
   simp at e0 e1
   subst e0 e1 z0 z1
   have hname : ∀ d2 : DataW H, s1.data.toList.length ∈ (DataW.agg [.lit (.int .i64 n0), .lit (.string s1.data.toList), d2] : DataW H).weights Tryz.prog 25 := fun d2 => by
    simp [DataW.weights, DataW.weightsEach, Tryz.underlying25]
   have hkids : ∀ (d2 : DataW H) (q : Nat), q ∈ d2.weights Tryz.prog 23 → q ∈ (DataW.agg [.lit (.int .i64 n0), .lit (.string s1.data.toList), d2] : DataW H).weights Tryz.prog 25 := fun d2 q hq => by
    simp [DataW.weights, DataW.weightsEach, Tryz.underlying25]
    exact .inr hq
   have hy1 : y.1 = .agg [.lit (.int .i64 n0), .lit (.string s1.data.toList), y2.1] := by rw [hx]; rfl
   rw [hy1]
   rcases DataW.trod_slice Tryz.underlying23 g2 with ⟨hcs, _⟩ | ⟨a, len, cap, elems, rest, n', hn', hcs, hy2, hb, hlc, hm, hlen, hel, _, _⟩
   ·simp at hcs
    subst hcs
    refine ⟨⟨n0, s1, []⟩, none, 0, rfl, Nat.le_refl _, Kd.C_nil k25 w, fun hw => ?_⟩
    have := hw _ (hname y2.1)
    rw [Array.length_toList] at this
    simp only [szT, szL, Bool.and_true, decide_eq_true_eq]
    exact this
   ·simp at hcs
    subst hcs
    rw [c25] at hel
    have hkid : ∀ i, i < len → ∃ x : Tree, ∃ (A : Option Addr) (c : Nat), w.cells? base (a.add (i * 3)) 3 = some [.int .i64 x.f0, .string x.f1, .slice A x.f2.length c] ∧ x.f2.length ≤ c ∧ Kd.C k25 w A x.f2.length x.f2 ∧ ((∀ n ∈ (elems.getD i (.nil, [])).1.weights Tryz.prog 25, n ≤ reachBytes) → szT x = true) := by
     intro i hi
     have h1 := hel i hi
     have hie : i < elems.length := by omega
     rw [List.getElem?_eq_getElem hie] at h1
     obtain ⟨cs', h2, h3⟩ := Option.bind_eq_some_iff.1 h1
     obtain ⟨x, A, c, rfl, h4, h5, h6⟩ := trod_tree (N - 1) n' (by omega) cs' _ h3
     refine ⟨x, A, c, h2, h4, h5, ?_⟩
     rw [List.getD_eq_getElem?_getD, List.getElem?_eq_getElem hie]
     exact h6
    haveI : Inhabited Tree := ⟨⟨0, ByteArray.empty, []⟩⟩
    obtain ⟨X, hX⟩ := Go.Deep.choose_lt (α := Tree) (n := len) hkid
    refine ⟨⟨n0, s1, (List.range len).map X⟩, some a, cap, by simp, by simpa using hlc, ⟨rfl, ?_, fun _ => ⟨a, rfl, ?_⟩⟩, fun hw => ?_⟩
    ·simp
     unfold maxLen at hm
     omega
    ·intro j p hj
     have hjl : j < len := by
      have := (List.getElem?_eq_some_iff.1 hj).1
      simpa using this
     rw [List.getElem?_map, List.getElem?_range hjl] at hj
     simp at hj
     subst hj
     obtain ⟨A, c, h1, h4, h5, _⟩ := hX j hjl
     obtain ⟨_, _, h2⟩ := World.cells?_some h1
     refine ⟨_, rfl, k25_mk w (X j) h4 h5, fun i u hi => ?_⟩
     show w.cell? (a.add (j * 3 + i)) = some u
     have hi3 : i < 3 := by
      have := (List.getElem?_eq_some_iff.1 hi).1
      simpa using this
     rw [← add_add, h2 i hi3]
     exact hi
    ·have hnm := hw _ (hname y2.1)
     rw [Array.length_toList] at hnm
     simp only [szT, Bool.and_eq_true, decide_eq_true_eq]
     refine ⟨hnm, szL_all _ fun z hz => ?_⟩
     obtain ⟨i, hi, rfl⟩ := List.mem_map.1 hz
     have hil : i < len := by simpa using hi
     obtain ⟨A, c, _, _, _, h6⟩ := hX i hil
     refine h6 fun q hq => hw q (hkids y2.1 q ?_)
     have hie : i < elems.length := by omega
     rw [List.getD_eq_getElem?_getD, List.getElem?_eq_getElem hie] at hq
     rw [hy2]
     exact slice_weights (List.mem_map.2 ⟨_, List.getElem_mem hie, rfl⟩) hq
termination_by N => N
decreasing_by omega

set_option maxRecDepth 100000 in
theorem open_tree {H : Type} {enc : TypeId × Value → H} {w : World} {base : Nat} {sp : Nat → Bool} {held : Bool} {r : Reach} {b0 : Nat} {v : Value} {d : DataW H} {ps : List MemPlace}
  (hval : Value.okWide Tryz.prog w r b0 25 v) (hd : DataW.Trod enc Tryz.prog w base sp held 25 v d ps) :
  ∃ (x : Tree) (A : Option Addr) (c : Nat), v = .agg (tN x A c) ∧ x.f2.length ≤ c ∧ Kd.C k25 w A x.f2.length x.f2 ∧ ((∀ n ∈ d.weights Tryz.prog 25, n ≤ reachBytes) → szT x = true) := by
 obtain ⟨cs, rfl, hsz⟩ := okWide_struct Tryz.underlying25 hval
 obtain ⟨fuel, hf⟩ := hd
 obtain ⟨x, A, c, hcs, h1, h2, h3⟩ := trod_tree fuel fuel (Nat.le_refl _) _ _ hf
 refine ⟨x, A, c, ?_, h1, h2, h3⟩
 have hcc : (Value.agg cs).cells.toList = cs.toList := by simp [Value.cells]
 rw [hcc] at hcs
 congr 1
 apply Array.ext'
 exact hcs
theorem tree_sized {H : Type} {ts : List TypeId} {ds : List (DataW H)} (hsz : (DataW.weightsEach Tryz.prog ts ds).all (· ≤ reachBytes) = true) {j : Nat} (ht : ts[j]? = some 25) {d : DataW H} (hd : ds[j]? = some d) : ∀ n ∈ d.weights Tryz.prog 25, n ≤ reachBytes := fun n hn => by
 have z := List.all_eq_true.1 hsz _ (DataW.weights_mem_each ht hd _ hn)
 simpa using z
end Go.Proofs.YtbndfgoklgdfdaaGreatDoor.P
end
section
set_option linter.unusedSimpArgs false
namespace Go.Proofs.YtbndfgoklgdfdaaGreatDoor.P
open Go.ChangeShapes Go.WideShapes Go.ChangeAt Go.RowKit
theorem own : ownKnob Tryz.prog.godebug = none := by kernel_rfl
theorem gOps : Tryz.prog.globalNamed "peculium/syntax.operators" = some 0 := by kernel_rfl
theorem tOps : (Tryz.prog.globals[0]?).map (·.type) = some 145 := by kernel_rfl
def laidOps : List (String × DataW Unit) := [("peculium/syntax.operators", Rows.laid_peculium_syntax_operators)]
theorem door_met (os : Os) (args : Array Value) : laidMetH Tryz.prog laidOps ((World.doorLaid Tryz.prog 400 os).forCall (fun _ _ => 0) ⟨#[], args, []⟩).memory :=
 laidMetH_of_parts3 (fuel := 8) (laidMet_of_run' 8 (by kernel_rfl) (by kernel_rfl)) (by kernel_rfl) (by kernel_rfl)
set_option maxRecDepth 100000 in
theorem trod_op {H : Type} {enc : TypeId × Value → H} {w : World} {base : Nat} {sp : Nat → Bool} {held : Bool} {n : Nat} {cs : List Value} {y : DataW H × List MemPlace}
  (h : DataW.trod enc Tryz.prog w base sp held n 129 cs = some y) : ∃ (s : ByteArray) (a b : Int), cs = [.string s, .int .i64 a, .int .i64 b] ∧ y.1 = .agg [.lit (.string s.data.toList), .lit (.int .i64 a), .lit (.int .i64 b)] := by
 obtain ⟨y0, y1, y2, m, hy, hl, h0, h1, h2⟩ := Go.Deep.trod_struct3 Tryz.underlying129 h
 have c3 : Tryz.prog.cellsOf 129 = 3 := by kernel_rfl
 have c1 : Tryz.prog.cellsOf 3 = 1 := by kernel_rfl
 have c9 : Tryz.prog.cellsOf 9 = 1 := by kernel_rfl
 rw [c3] at hl
 match cs, hl with
 | [v0, v1, v2], _ =>
  simp [c1, c9] at h0 h1 h2
  obtain ⟨s1, e1, z1, w1⟩ := DataW.trod_string Tryz.underlying9 h0
  obtain ⟨n0, e0, z0, w0⟩ := DataW.trod_int Tryz.underlying3 h1
  obtain ⟨n2, e2, z2, w2⟩ := DataW.trod_int Tryz.underlying3 h2
  simp at e0 e1 e2
  subst e0 e1 e2 z0 z1 z2
  exact ⟨s1, n0, n2, rfl, by rw [hy]⟩
set_option maxRecDepth 100000 in
theorem gok_of_laid {W : World} (h : laidMetH Tryz.prog laidOps W) : GOK W := by
 rw [MakeChecks.laidMetH_plain _ _ _ (by kernel_rfl)] at h
 obtain ⟨ps, ⟨g0, t0, cs0, f0, p0, q0, hg0, ht0, hv0, hd0, _⟩, _⟩ := h
 obtain rfl := Option.some.inj (gOps.symm.trans hg0)
 obtain rfl := Option.some.inj (tOps.symm.trans ht0)
 obtain ⟨xs, m1, rfl, hx1, hlen, hn, hel⟩ := DataW.trod_array Tryz.underlying145 hd0
 have c129 : Tryz.prog.cellsOf 129 = 3 := by kernel_rfl
 have c145 : Tryz.prog.cellsOf 145 = 21 := by kernel_rfl
 rw [c129] at hel
 rw [c145] at hlen
 have e := (Prod.mk.inj hx1).1
 clear hd0 hx1 ht0
 match xs, hn, hel, e with
 | [x0, x1, x2, x3, x4, x5, x6], _, hel, e =>
  simp only [Rows.laid_peculium_syntax_operators, List.map_cons, List.map_nil, DataW.agg.injEq, List.cons.injEq, and_true] at e
  obtain ⟨e0, e1, e2, e3, e4, e5, e6⟩ := e
  obtain ⟨l, hl⟩ : ∃ l, l = cs0.toList := ⟨_, rfl⟩
  rw [← hl] at hlen hel
  match l, hlen, hl, hel with
  | [c0, c1, c2, c3, c4, c5, c6, c7, c8, c9, c10, c11, c12, c13, c14, c15, c16, c17, c18, c19, c20], _, hl, hel =>
   obtain ⟨s0, a0, b0, k0, d0⟩ := trod_op ((hel 0 (by decide)).trans rfl)
   rw [← e0] at d0
   simp only [DataW.agg.injEq, List.cons.injEq, and_true, DataW.lit.injEq, Lit.string.injEq, Lit.int.injEq, true_and] at d0
   simp only [List.drop_succ_cons, List.drop_zero, List.take_succ_cons, List.take_zero, Nat.zero_mul, Nat.reduceMul, List.cons.injEq, and_true] at k0
   obtain ⟨f0, g0, h0⟩ := d0
   obtain ⟨p0, q0, r0⟩ := k0
   subst p0 q0 r0 g0 h0
   have t0 : s0 = ⟨s0.data.toList.toArray⟩ := by simp
   rw [← f0] at t0
   subst t0
   clear f0
   obtain ⟨s1, a1, b1, k1, d1⟩ := trod_op ((hel 1 (by decide)).trans rfl)
   rw [← e1] at d1
   simp only [DataW.agg.injEq, List.cons.injEq, and_true, DataW.lit.injEq, Lit.string.injEq, Lit.int.injEq, true_and] at d1
   simp only [List.drop_succ_cons, List.drop_zero, List.take_succ_cons, List.take_zero, Nat.zero_mul, Nat.reduceMul, List.cons.injEq, and_true] at k1
   obtain ⟨f1, g1, h1⟩ := d1
   obtain ⟨p1, q1, r1⟩ := k1
   subst p1 q1 r1 g1 h1
   have t1 : s1 = ⟨s1.data.toList.toArray⟩ := by simp
   rw [← f1] at t1
   subst t1
   clear f1
   obtain ⟨s2, a2, b2, k2, d2⟩ := trod_op ((hel 2 (by decide)).trans rfl)
   rw [← e2] at d2
   simp only [DataW.agg.injEq, List.cons.injEq, and_true, DataW.lit.injEq, Lit.string.injEq, Lit.int.injEq, true_and] at d2
   simp only [List.drop_succ_cons, List.drop_zero, List.take_succ_cons, List.take_zero, Nat.zero_mul, Nat.reduceMul, List.cons.injEq, and_true] at k2
   obtain ⟨f2, g2, h2⟩ := d2
   obtain ⟨p2, q2, r2⟩ := k2
   subst p2 q2 r2 g2 h2
   have t2 : s2 = ⟨s2.data.toList.toArray⟩ := by simp
   rw [← f2] at t2
   subst t2
   clear f2
   obtain ⟨s3, a3, b3, k3, d3⟩ := trod_op ((hel 3 (by decide)).trans rfl)
   rw [← e3] at d3
   simp only [DataW.agg.injEq, List.cons.injEq, and_true, DataW.lit.injEq, Lit.string.injEq, Lit.int.injEq, true_and] at d3
   simp only [List.drop_succ_cons, List.drop_zero, List.take_succ_cons, List.take_zero, Nat.zero_mul, Nat.reduceMul, List.cons.injEq, and_true] at k3
   obtain ⟨f3, g3, h3⟩ := d3
   obtain ⟨p3, q3, r3⟩ := k3
   subst p3 q3 r3 g3 h3
   have t3 : s3 = ⟨s3.data.toList.toArray⟩ := by simp
   rw [← f3] at t3
   subst t3
   clear f3
   obtain ⟨s4, a4, b4, k4, d4⟩ := trod_op ((hel 4 (by decide)).trans rfl)
   rw [← e4] at d4
   simp only [DataW.agg.injEq, List.cons.injEq, and_true, DataW.lit.injEq, Lit.string.injEq, Lit.int.injEq, true_and] at d4
   simp only [List.drop_succ_cons, List.drop_zero, List.take_succ_cons, List.take_zero, Nat.zero_mul, Nat.reduceMul, List.cons.injEq, and_true] at k4
   obtain ⟨f4, g4, h4⟩ := d4
   obtain ⟨p4, q4, r4⟩ := k4
   subst p4 q4 r4 g4 h4
   have t4 : s4 = ⟨s4.data.toList.toArray⟩ := by simp
   rw [← f4] at t4
   subst t4
   clear f4
   obtain ⟨s5, a5, b5, k5, d5⟩ := trod_op ((hel 5 (by decide)).trans rfl)
   rw [← e5] at d5
   simp only [DataW.agg.injEq, List.cons.injEq, and_true, DataW.lit.injEq, Lit.string.injEq, Lit.int.injEq, true_and] at d5
   simp only [List.drop_succ_cons, List.drop_zero, List.take_succ_cons, List.take_zero, Nat.zero_mul, Nat.reduceMul, List.cons.injEq, and_true] at k5
   obtain ⟨f5, g5, h5⟩ := d5
   obtain ⟨p5, q5, r5⟩ := k5
   subst p5 q5 r5 g5 h5
   have t5 : s5 = ⟨s5.data.toList.toArray⟩ := by simp
   rw [← f5] at t5
   subst t5
   clear f5
   obtain ⟨s6, a6, b6, k6, d6⟩ := trod_op ((hel 6 (by decide)).trans rfl)
   rw [← e6] at d6
   simp only [DataW.agg.injEq, List.cons.injEq, and_true, DataW.lit.injEq, Lit.string.injEq, Lit.int.injEq, true_and] at d6
   simp only [List.drop_succ_cons, List.drop_zero, List.take_succ_cons, List.take_zero, Nat.zero_mul, Nat.reduceMul, List.cons.injEq, and_true] at k6
   obtain ⟨f6, g6, h6⟩ := d6
   obtain ⟨p6, q6, r6⟩ := k6
   subst p6 q6 r6 g6 h6
   have t6 : s6 = ⟨s6.data.toList.toArray⟩ := by simp
   rw [← f6] at t6
   subst t6
   clear f6
   refine ⟨fun i hi => ?_, ?_⟩
   ·have hc := World.var?_cell hg0 hv0 i
    rw [hc, ← Array.getElem?_toList, ← hl]
    rfl
   ·have hc := World.var?_cell hg0 hv0 0
    rw [← Array.getElem?_toList, ← hl] at hc
    exact World.block_lt_of_cell? W ⟨0, 0, none⟩ (hc.trans rfl)
end Go.Proofs.YtbndfgoklgdfdaaGreatDoor.P
end
