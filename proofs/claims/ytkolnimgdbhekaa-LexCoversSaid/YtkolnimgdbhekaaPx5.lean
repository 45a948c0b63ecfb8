-- Written by wip/xprint.py over the kit's print (several laws in one namespace, some contracts by hand). Not trusted: Lean checks it.
import Derived.Test.YtkolnimgdbhekaaPx0
import Derived.Test.YtkolnimgdbhekaaPx4
namespace Go.Proofs.Ytkolnimgdbhekaa.P
open Go.RowKit Go.Proofs.YtkolnimgdbhekaaW.PrintWords Go.Proofs.YtkolnimgdbhekaaW.PrintLast Go.Proofs.YtkolnimgdbhekaaW.PrintMore
attribute [local go_sem] max2_int min2_int max_two min_two max_three min_three max_four min_four   -- for this text's walks alone
set_option linter.unusedVariables false
set_option linter.unusedSimpArgs false

/-! ### lex_is: function 60 -/
def lex_is.f (a0 : ByteArray) (a1 : Int) : Option (Bool) := (lex_Check.f a1 a0 0).bind fun t116 => (some (t116 == 0))
set_option maxHeartbeats 8000000 in
set_option maxRecDepth 100000 in
theorem lex_is.calls (a0 : ByteArray) (a1 : Int) (r : Bool) (w : World) (h : lex_is.f a0 a1 = some r) :
    Calls Try.prog 60 #[.string a0, .int .i64 a1] w fun e w' => e = .returned (.bool r) ∧ Below w.heap.size w w' := by
  have hu34 := Try.underlying34
  have HB := Aside0.mk (Below.refl w.heap.size w)
  have H : ((lex_Check.f a1 a0 0).bind fun t116 => (some (t116 == 0))) = some r := h
  clear h
  replace H := Option.bind_eq_some_iff.mp H
  obtain ⟨t116, A30, H⟩ := H
  replace H : (some (t116 == 0)) = some r := H
  have A3 := Aside0.mk A30
  clear A30
  obtain rfl := Option.some.inj H
  go_enter Try.func60, Try.ntmps60
  go_wp2_with (first | ((with_reducible refine gate_callee (f := 24) rfl ?_); refine goesL_ (some 8) rfl rfl Try.func24 (by kernel_rfl) rfl #[.agg #[.int .i64 a1, .string a0, .int .i64 0]] rfl (by (try simp only [List.map_toArray, List.map_cons, List.map_nil]); first | done | rfl | (simp only [List.length_drop, List.length_take]; rfl)) ?_; (with_reducible refine (lex_Check.calls a1 a0 0 t116 _ A3.out).mono ?_); rintro e w4 ⟨rfl, hb⟩; refine ⟨_, rfl, ?_⟩; have n0_ := Aside0.mk (below_step (by repeat (first | (with_reducible first | exact HB.out | apply below_alloc | apply pw_below_drewN | apply below_drew1) | exact HB.out)) hb); clear HB; have HB := n0_; clear n0_; (try clear hb); (try clear hb2); (try clear hk); (try clear hi)))
  go_ret
  exact ⟨by first | rfl | (simp [errW_none, errW_some] <;> rfl) | (simp [*, errW_none, errW_some] <;> rfl), by repeat (first | (with_reducible first | exact HB.out | apply below_alloc | apply pw_below_drewN | apply below_drew1) | exact HB.out)⟩

end Go.Proofs.Ytkolnimgdbhekaa.P
