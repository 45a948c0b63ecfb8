/- A token that came in as an argument: opened; what a law is handed of it. A list of tokens that came in as an argument: opened; its size. -/
import Derived.Test.YtkolnimgdbhekaaLSame
import Derived.WalkKit
import Derived.ProofKit
import Derived.OpenShut
import Derived.ShutString
import Derived.ChangeOld
import Derived.Below
import Derived.SizedLaws
import Derived.Deep.Slices
import Derived.Deep.Strs
import Derived.Test.YtkolnimgdbhekaaWSized
namespace Go.Proofs.Ytkolnimgdbhekaa.P
open Go.ChangeShapes Go.WideShapes Go.ChangeAt Go.RowKit

theorem open_token {H : Type} {enc : TypeId × Value → H} {w : World} {base : Nat} {sp : Nat → Bool} {held : Bool} {r : Reach} {b0 : Nat} {v : Value} {d : DataW H} {ps : List MemPlace}
    (hval : Value.okWide Try.prog w r b0 34 v) (hd : DataW.Trod enc Try.prog w base sp held 34 v d ps) :
    ∃ x : S34, v = aggT x ∧ d = .agg [.lit (.int .i64 x.f0), .lit (.string x.f1.data.toList), .lit (.int .i64 x.f2)] ∧ ps = [] ∧ (Lit.int .i64 x.f0).wf = true ∧ (Lit.int .i64 x.f2).wf = true := by
  obtain ⟨cs, rfl, hsz⟩ := okWide_struct Try.underlying34 hval
  obtain ⟨fuel, hf⟩ := hd
  obtain ⟨xs, n, rfl, hx, hl, hxl, hfs⟩ := DataW.trod_struct Try.underlying34 hf
  have c3 : Try.prog.cellsOf 34 = 3 := by kernel_rfl
  have c1 : Try.prog.cellsOf 3 = 1 := by kernel_rfl
  have c9 : Try.prog.cellsOf 9 = 1 := by kernel_rfl
  rw [c3] at hsz hl
  have hcc : (Value.agg cs).cells.toList = cs.toList := by simp [Value.cells]
  rw [hcc] at hfs hl
  obtain ⟨v0, v1, v2, rfl⟩ : ∃ v0 v1 v2, cs = #[v0, v1, v2] := by
    rcases cs with ⟨l⟩
    match l, hsz with
    | [v0, v1, v2], _ => exact ⟨v0, v1, v2, rfl⟩
  match xs, hxl with
  | [y0, y1, y2], _ =>
    have g0 := hfs 0 _ rfl
    have g1 := hfs 1 _ rfl
    have g2 := hfs 2 _ rfl
    simp [c1, c9] at g0 g1 g2
    obtain ⟨n0, e0, z0, w0⟩ := DataW.trod_int Try.underlying3 g0
    obtain ⟨s1, e1, z1, w1⟩ := DataW.trod_string Try.underlying9 g1
    obtain ⟨n2, e2, z2, w2⟩ := DataW.trod_int Try.underlying3 g2
    simp at e0 e1 e2
    subst e0 e1 e2 z0 z1 z2
    simp only [Prod.mk.injEq] at hx
    exact ⟨⟨n0, s1, n2⟩, rfl, by simpa using hx.1, by simpa using hx.2, w0, w2⟩
end Go.Proofs.Ytkolnimgdbhekaa.P

namespace Go.Proofs.Ytkolnimgdbhekaa.P
open Go.ChangeShapes Go.WideShapes Go.ChangeAt Go.RowKit
open Go.Proofs.YtkolnimgdbhekaaW.PrintWords Go.Proofs.YtkolnimgdbhekaaW.PrintLast Go.Proofs.YtkolnimgdbhekaaW.PrintMore

def litT {H : Type} (x : S34) : DataW H := .agg [.lit (.int .i64 x.f0), .lit (.string x.f1.data.toList), .lit (.int .i64 x.f2)]
theorem weightsAll_mem {H : Type} {P : Program} {e : TypeId} : ∀ {l : List (DataW H)} {d : DataW H}, d ∈ l → ∀ n ∈ d.weights P e, n ∈ DataW.weightsAll P e l
  | y :: l, d, h, n, hn => by
    simp only [DataW.weightsAll, List.mem_append]
    rcases List.mem_cons.1 h with rfl | h
    · exact .inl hn
    · exact .inr (weightsAll_mem h n hn)
/-- A token in memory. -/
theorem trod_token {H : Type} {enc : TypeId × Value → H} {w : World} {base : Nat} {sp : Nat → Bool} {held : Bool} {n : Nat} {cs : List Value} {y : DataW H × List MemPlace}
    (h : DataW.trod enc Try.prog w base sp held n 34 cs = some y) : ∃ x : S34, cs = [.int .i64 x.f0, .string x.f1, .int .i64 x.f2] ∧ y.1 = litT x := by
  obtain ⟨y0, y1, y2, m, hy, hl, h0, h1, h2⟩ := Go.Deep.trod_struct3 Try.underlying34 h
  have c3 : Try.prog.cellsOf 34 = 3 := by kernel_rfl
  have c1 : Try.prog.cellsOf 3 = 1 := by kernel_rfl
  have c9 : Try.prog.cellsOf 9 = 1 := by kernel_rfl
  rw [c3] at hl
  match cs, hl with
  | [v0, v1, v2], _ =>
    simp [c1, c9] at h0 h1 h2
    obtain ⟨n0, e0, z0, w0⟩ := DataW.trod_int Try.underlying3 h0
    obtain ⟨s1, e1, z1, w1⟩ := DataW.trod_string Try.underlying9 h1
    obtain ⟨n2, e2, z2, w2⟩ := DataW.trod_int Try.underlying3 h2
    simp at e0 e1 e2
    subst e0 e1 e2 z0 z1 z2
    exact ⟨⟨n0, s1, n2⟩, rfl, by rw [hy]; rfl⟩
theorem add_add (a : Addr) (i j : Nat) : (a.add i).add j = a.add (i + j) := by
  unfold Addr.add
  by_cases hi : i = 0 <;> by_cases hj : j = 0 <;> simp [hi, hj, Nat.add_assoc]
/-- A list of tokens. -/
theorem open_tokens {H : Type} {enc : TypeId × Value → H} {w : World} {base : Nat} {sp : Nat → Bool} {held : Bool} {r : Reach} {b0 : Nat} {v : Value} {d : DataW H} {ps : List MemPlace}
    (hval : Value.okWide Try.prog w r b0 23 v) (hd : DataW.Trod enc Try.prog w base sp held 23 v d ps) :
    ∃ (A : Option Addr) (c : Nat) (l : List S34), v = .slice A l.length c ∧ l.length ≤ c ∧ Kd.C k34 w A l.length l ∧ (l ≠ [] → ∃ rest, d = .slice (l.map litT) rest) := by
  obtain ⟨A, len, cap, rfl⟩ := okWide_slice Try.underlying23 hval
  obtain ⟨fuel, hf⟩ := hd
  rcases Go.Deep.open_slice Try.underlying23 hf with ⟨hcs, _⟩ | ⟨a, len', cap', m, n, D, Pl, hcs, _, hl, hm, hmm, hx, hall⟩
  · simp [Value.cells] at hcs
    obtain ⟨rfl, rfl, rfl⟩ := hcs
    exact ⟨none, 0, [], rfl, Nat.le_refl _, Kd.C_nil k34 w, fun h => absurd rfl h⟩
  · simp [Value.cells] at hcs
    obtain ⟨rfl, rfl, rfl⟩ := hcs
    have hle : len ≤ m := by rw [hmm]; split <;> omega
    have hc3 : Try.prog.cellsOf 34 = 3 := by kernel_rfl
    rw [hc3] at hall
    haveI : Inhabited S34 := ⟨⟨0, ByteArray.empty, 0⟩⟩
    obtain ⟨X, hX⟩ := Go.Deep.choose_lt (α := S34) (n := len) (p := fun i x => w.cells? base (a.add (i * 3)) 3 = some [.int .i64 x.f0, .string x.f1, .int .i64 x.f2] ∧ D i = litT x) (fun i hi => by
      obtain ⟨cs', h1, h2⟩ := hall i (by omega)
      obtain ⟨x, rfl, h3⟩ := trod_token h2
      exact ⟨x, h1, h3⟩)
    refine ⟨some a, cap, (List.range len).map X, by simp, by simpa using hl, ⟨rfl, ?_, fun _ => ⟨a, rfl, ?_⟩⟩, fun _ => ?_⟩
    · simp
      unfold maxLen at hm
      omega
    · intro j p hj
      have hjl : j < len := by
        have := (List.getElem?_eq_some_iff.1 hj).1
        simpa using this
      rw [List.getElem?_map, List.getElem?_range hjl] at hj
      simp at hj
      subst hj
      obtain ⟨h1, _⟩ := hX j hjl
      obtain ⟨_, _, h2⟩ := World.cells?_some h1
      refine ⟨_, rfl, k34_mk w (X j), fun i u hi => ?_⟩
      show w.cell? (a.add (j * 3 + i)) = some u
      have hi3 : i < 3 := by
        have := (List.getElem?_eq_some_iff.1 hi).1
        simpa using this
      rw [← add_add, h2 i hi3]
      exact hi
    · refine ⟨(List.range (m - len)).map fun j => D (len + j), (Prod.mk.inj hx).1.trans ?_⟩
      congr 1
      rw [List.map_map]
      exact List.map_congr_left fun i hi => (hX i (by simpa using hi)).2
/-- How large it is. -/
theorem tokens_sized {H : Type} {ts : List TypeId} {ds : List (DataW H)} (hsz : (DataW.weightsEach Try.prog ts ds).all (· ≤ reachBytes) = true) {j : Nat} (ht : ts[j]? = some 23) {l : List S34} {d : DataW H} (hd : ds[j]? = some d) (hl : l ≠ [] → ∃ rest, d = .slice (l.map litT) rest) :
    l.length ≤ 4398046511103 ∧ ∀ t ∈ l, t.f1.size ≤ 140737488351232 := by
  by_cases h0 : l = []
  · subst h0
    exact ⟨by simp, by simp⟩
  · obtain ⟨rest, rfl⟩ := hl h0
    refine ⟨?_, fun t ht' => ?_⟩
    · have := sized_slice hsz ht hd Try.underlying23
      have hb : Try.prog.bytesOf 34 = 32 := by kernel_rfl
      rw [hb, List.length_map] at this
      have hr : reachBytes = 140737488351232 := rfl
      omega
    · have h1 : t.f1.data.toList.length ∈ (litT t : DataW H).weights Try.prog 34 := by
        simp [litT, DataW.weights, DataW.weightsEach, Try.underlying34]
      have h2 := weightsAll_mem (List.mem_map.2 ⟨t, ht', rfl⟩ : (litT t : DataW H) ∈ l.map litT) _ h1
      have h3 : t.f1.data.toList.length ∈ (DataW.slice (l.map litT) rest : DataW H).weights Try.prog 23 := by
        simp only [DataW.weights, Try.underlying23]
        exact List.mem_cons_of_mem _ (List.mem_append_left _ h2)
      have z := List.all_eq_true.1 hsz _ (DataW.weights_mem_each ht hd _ h3)
      rw [Array.length_toList] at z
      exact (by simpa using z : t.f1.size ≤ reachBytes)
end Go.Proofs.Ytkolnimgdbhekaa.P
