/- A token that came in as an argument: opened; what a law is handed of it. -/
import Derived.Test.YtkolnimgdbhekaaLSame
import Derived.WalkKit
import Derived.ProofKit
import Derived.OpenShut
import Derived.ShutString
import Derived.ChangeOld
import Derived.Below
import Derived.SizedLaws
namespace Go.Proofs.Ytkolnimgdbhekaa.P
open Go.ChangeShapes Go.WideShapes Go.ChangeAt Go.RowKit

theorem open_token {H : Type} {enc : TypeId × Value → H} {w : World} {base : Nat} {sp : Nat → Bool} {held : Bool} {r : Reach} {b0 : Nat} {v : Value} {d : DataW H} {ps : List MemPlace}
    (hval : Value.okWide Try.prog w r b0 34 v) (hd : DataW.Trod enc Try.prog w base sp held 34 v d ps) :
    ∃ x : S34, v = aggT x ∧ d = .agg [.lit (.int .i64 x.f0), .lit (.string x.f1.data.toList), .lit (.int .i64 x.f2)] ∧ ps = [] ∧ (Lit.int .i64 x.f0).wf = true ∧ (Lit.int .i64 x.f2).wf = true := by
  obtain ⟨cs, rfl, hsz⟩ := okWide_struct Try.underlying34 hval
  obtain ⟨fuel, hf⟩ := hd
  obtain ⟨xs, n, rfl, hx, hl, hxl, hfs⟩ := DataW.trod_struct Try.underlying34 hf
  have c3 : Try.prog.cellsOf 34 = 3 := by kernel_rfl
  have c1 : Try.prog.cellsOf 3 = 1 := by kernel_rfl
  have c9 : Try.prog.cellsOf 9 = 1 := by kernel_rfl
  rw [c3] at hsz hl
  have hcc : (Value.agg cs).cells.toList = cs.toList := by simp [Value.cells]
  rw [hcc] at hfs hl
  obtain ⟨v0, v1, v2, rfl⟩ : ∃ v0 v1 v2, cs = #[v0, v1, v2] := by
    rcases cs with ⟨l⟩
    match l, hsz with
    | [v0, v1, v2], _ => exact ⟨v0, v1, v2, rfl⟩
  match xs, hxl with
  | [y0, y1, y2], _ =>
    have g0 := hfs 0 _ rfl
    have g1 := hfs 1 _ rfl
    have g2 := hfs 2 _ rfl
    simp [c1, c9] at g0 g1 g2
    obtain ⟨n0, e0, z0, w0⟩ := DataW.trod_int Try.underlying3 g0
    obtain ⟨s1, e1, z1, w1⟩ := DataW.trod_string Try.underlying9 g1
    obtain ⟨n2, e2, z2, w2⟩ := DataW.trod_int Try.underlying3 g2
    simp at e0 e1 e2
    subst e0 e1 e2 z0 z1 z2
    simp only [Prod.mk.injEq] at hx
    exact ⟨⟨n0, s1, n2⟩, rfl, by simpa using hx.1, by simpa using hx.2, w0, w2⟩
end Go.Proofs.Ytkolnimgdbhekaa.P
