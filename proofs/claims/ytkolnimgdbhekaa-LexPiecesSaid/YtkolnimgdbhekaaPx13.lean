-- Written by wip/xprint.py over the kit's print (several laws in one namespace, some contracts by hand). Not trusted: Lean checks it.
-- mended by wip/patch.py
import Derived.Test.YtkolnimgdbhekaaPx0
import Derived.Test.YtkolnimgdbhekaaPx1
import Derived.Test.YtkolnimgdbhekaaLSane
import Derived.Test.YtkolnimgdbhekaaLScan
import Derived.Test.YtkolnimgdbhekaaLScanBig
namespace Go.Proofs.Ytkolnimgdbhekaa.P
open Go.RowKit Go.Proofs.YtkolnimgdbhekaaW.PrintWords Go.Proofs.YtkolnimgdbhekaaW.PrintLast Go.Proofs.YtkolnimgdbhekaaW.PrintMore
attribute [local go_sem] max2_int min2_int max_two min_two max_three min_three max_four min_four   -- for this text's walks alone
set_option linter.unusedVariables false
set_option linter.unusedSimpArgs false

attribute [local go_sem high] eqA34
/-! ### peculiumlaw01_LexPieces: function 7 -/
mutual
def peculiumlaw01_LexPieces.j0 : Nat → ByteArray → ByteArray → Bool → List (S34) → List (S34) → List (S34) → Int → Int → Bool → Option (Bool)
  | 0, _, _, _, _, _, _, _, _, _ => none
  | k + 1, x0, x1, x5, x6, x9, x12, x13, x14, x48 => if x48 = true then (some x5) else (if (wrap64 ((wrap64 ((x0.size : Int) + 1)) + (x1.size : Int))) > 20000 then (peculiumlaw01_LexPieces.j1 k x0 x6 x9 x12 x13 x14 true) else (peculiumlaw01_LexPieces.j1 k x0 x6 x9 x12 x13 x14 (decide ((wrap64 ((x6.length : Int) + (x9.length : Int))) > 6000))))
def peculiumlaw01_LexPieces.j1 : Nat → ByteArray → List (S34) → List (S34) → List (S34) → Int → Int → Bool → Option (Bool)
  | 0, _, _, _, _, _, _, _ => none
  | k + 1, x0, x6, x9, x12, x13, x14, x64 => if x64 = true then (some (x14 == 2)) else (if x14 = 0 then (if x13 = 0 then (peculiumlaw01_LexPieces.j2 k x0 x6 x9 x12 ((x12.length : Int) != (wrap64 ((x6.length : Int) + (x9.length : Int))))) else (peculiumlaw01_LexPieces.j2 k x0 x6 x9 x12 true)) else (peculiumlaw01_LexPieces.j2 k x0 x6 x9 x12 true))
def peculiumlaw01_LexPieces.j2 : Nat → ByteArray → List (S34) → List (S34) → List (S34) → Bool → Option (Bool)
  | 0, _, _, _, _, _ => none
  | k + 1, x0, x6, x9, x12, x82 => if x82 = true then (some false) else (peculiumlaw01_LexPieces.l0 k x0 x6 x9 x12 0)
def peculiumlaw01_LexPieces.l0 : Nat → ByteArray → List (S34) → List (S34) → List (S34) → Int → Option (Bool)
  | 0, _, _, _, _, _ => none
  | k + 1, x0, x6, x9, x12, x15 => if x15 < (x12.length : Int) then (if x15 < (x6.length : Int) then (if 0 ≤ x15 then (if (!(((rd_T34 x12 x15).f0) == ((rd_T34 x6 x15).f0)) || (!((((rd_T34 x12 x15).f1).toList) == (((rd_T34 x6 x15).f1).toList)) || (!(((rd_T34 x12 x15).f2) == ((rd_T34 x6 x15).f2))))) = true then (some false) else (peculiumlaw01_LexPieces.l0 k x0 x6 x9 x12 (wrap64 (x15 + 1)))) else (none)) else (if 0 ≤ (wrap64 (x15 - (x6.length : Int))) then (if (wrap64 (x15 - (x6.length : Int))) < (x9.length : Int) then (if 0 ≤ x15 then (if (!(((rd_T34 x12 x15).f0) == ((rd_T34 x9 (wrap64 (x15 - (x6.length : Int)))).f0)) || (!((((rd_T34 x12 x15).f1).toList) == (((rd_T34 x9 (wrap64 (x15 - (x6.length : Int)))).f1).toList)) || (!(((rd_T34 x12 x15).f2) == (wrap64 (((rd_T34 x9 (wrap64 (x15 - (x6.length : Int)))).f2) + (wrap64 ((x0.size : Int) + 1)))))))) = true then (some false) else (peculiumlaw01_LexPieces.l0 k x0 x6 x9 x12 (wrap64 (x15 + 1)))) else (none)) else (none)) else (none))) else (some true)
end
def peculiumlaw01_LexPieces.f (k : Nat) (a0 : ByteArray) (a1 : ByteArray) : Option (Bool) := (peculiumlaw01_sane.f).bind fun t227 => ((lex_ScanB.f a0).bind fun bt228 => ((lex_ScanB.f a1).bind fun bt233 => (if a0.size + 1 ≤ 9223372036854775807 then (if (a0 ++ (⟨#[10]⟩ : ByteArray)).size + a1.size ≤ 9223372036854775807 then ((lex_ScanB.f ((a0 ++ (⟨#[10]⟩ : ByteArray)) ++ a1)).bind fun bt238 => (if t227 = true then (if bt228.2.2 = 0 then (peculiumlaw01_LexPieces.j0 k a0 a1 t227 bt228.1 bt233.1 bt238.1 bt238.2.1 bt238.2.2 (bt233.2.2 != 0)) else (peculiumlaw01_LexPieces.j0 k a0 a1 t227 bt228.1 bt233.1 bt238.1 bt238.2.1 bt238.2.2 true)) else (peculiumlaw01_LexPieces.j0 k a0 a1 t227 bt228.1 bt233.1 bt238.1 bt238.2.1 bt238.2.2 true))) else (none)) else (none))))
theorem peculiumlaw01_LexPieces.mono_l : ∀ k, (∀ y0 y1 y2 y3 y4 y5 y6 y7 y8, LeO (peculiumlaw01_LexPieces.j0 k y0 y1 y2 y3 y4 y5 y6 y7 y8) (peculiumlaw01_LexPieces.j0 (k + 1) y0 y1 y2 y3 y4 y5 y6 y7 y8)) ∧ (∀ y0 y1 y2 y3 y4 y5 y6, LeO (peculiumlaw01_LexPieces.j1 k y0 y1 y2 y3 y4 y5 y6) (peculiumlaw01_LexPieces.j1 (k + 1) y0 y1 y2 y3 y4 y5 y6)) ∧ (∀ y0 y1 y2 y3 y4, LeO (peculiumlaw01_LexPieces.j2 k y0 y1 y2 y3 y4) (peculiumlaw01_LexPieces.j2 (k + 1) y0 y1 y2 y3 y4)) ∧ (∀ y0 y1 y2 y3 y4, LeO (peculiumlaw01_LexPieces.l0 k y0 y1 y2 y3 y4) (peculiumlaw01_LexPieces.l0 (k + 1) y0 y1 y2 y3 y4))
  | 0 => ⟨fun _ _ _ _ _ _ _ _ _ r h => by simp [peculiumlaw01_LexPieces.j0] at h, fun _ _ _ _ _ _ _ r h => by simp [peculiumlaw01_LexPieces.j1] at h, fun _ _ _ _ _ r h => by simp [peculiumlaw01_LexPieces.j2] at h, fun _ _ _ _ _ r h => by simp [peculiumlaw01_LexPieces.l0] at h⟩
  | k + 1 => by
    obtain ⟨ih0, ih1, ih2, ih3⟩ := peculiumlaw01_LexPieces.mono_l k
    refine ⟨?_, ?_, ?_, ?_⟩
    · intro y0 y1 y2 y3 y4 y5 y6 y7 y8
      unfold peculiumlaw01_LexPieces.j0
      repeat' first
      | (with_reducible exact ih0 _ _ _ _ _ _ _ _ _)
      | (with_reducible exact ih1 _ _ _ _ _ _ _)
      | (with_reducible exact ih2 _ _ _ _ _)
      | (with_reducible exact ih3 _ _ _ _ _)
      | (with_reducible exact LeO.refl _)
      | (with_reducible exact LeO.none _)
      | (with_reducible refine LeO.ite ?_ ?_)
      | (with_reducible refine LeO.bind ?_ (fun _ => ?_))
      | exact ih0 _ _ _ _ _ _ _ _ _
      | exact ih1 _ _ _ _ _ _ _
      | exact ih2 _ _ _ _ _
      | exact ih3 _ _ _ _ _
      | exact LeO.none _
      | refine LeO.ite ?_ ?_
      | refine LeO.bind ?_ (fun _ => ?_)
    · intro y0 y1 y2 y3 y4 y5 y6
      unfold peculiumlaw01_LexPieces.j1
      repeat' first
      | (with_reducible exact ih0 _ _ _ _ _ _ _ _ _)
      | (with_reducible exact ih1 _ _ _ _ _ _ _)
      | (with_reducible exact ih2 _ _ _ _ _)
      | (with_reducible exact ih3 _ _ _ _ _)
      | (with_reducible exact LeO.refl _)
      | (with_reducible exact LeO.none _)
      | (with_reducible refine LeO.ite ?_ ?_)
      | (with_reducible refine LeO.bind ?_ (fun _ => ?_))
      | exact ih0 _ _ _ _ _ _ _ _ _
      | exact ih1 _ _ _ _ _ _ _
      | exact ih2 _ _ _ _ _
      | exact ih3 _ _ _ _ _
      | exact LeO.none _
      | refine LeO.ite ?_ ?_
      | refine LeO.bind ?_ (fun _ => ?_)
    · intro y0 y1 y2 y3 y4
      unfold peculiumlaw01_LexPieces.j2
      repeat' first
      | (with_reducible exact ih0 _ _ _ _ _ _ _ _ _)
      | (with_reducible exact ih1 _ _ _ _ _ _ _)
      | (with_reducible exact ih2 _ _ _ _ _)
      | (with_reducible exact ih3 _ _ _ _ _)
      | (with_reducible exact LeO.refl _)
      | (with_reducible exact LeO.none _)
      | (with_reducible refine LeO.ite ?_ ?_)
      | (with_reducible refine LeO.bind ?_ (fun _ => ?_))
      | exact ih0 _ _ _ _ _ _ _ _ _
      | exact ih1 _ _ _ _ _ _ _
      | exact ih2 _ _ _ _ _
      | exact ih3 _ _ _ _ _
      | exact LeO.none _
      | refine LeO.ite ?_ ?_
      | refine LeO.bind ?_ (fun _ => ?_)
    · intro y0 y1 y2 y3 y4
      unfold peculiumlaw01_LexPieces.l0
      repeat' first
      | (with_reducible exact ih0 _ _ _ _ _ _ _ _ _)
      | (with_reducible exact ih1 _ _ _ _ _ _ _)
      | (with_reducible exact ih2 _ _ _ _ _)
      | (with_reducible exact ih3 _ _ _ _ _)
      | (with_reducible exact LeO.refl _)
      | (with_reducible exact LeO.none _)
      | (with_reducible refine LeO.ite ?_ ?_)
      | (with_reducible refine LeO.bind ?_ (fun _ => ?_))
      | exact ih0 _ _ _ _ _ _ _ _ _
      | exact ih1 _ _ _ _ _ _ _
      | exact ih2 _ _ _ _ _
      | exact ih3 _ _ _ _ _
      | exact LeO.none _
      | refine LeO.ite ?_ ?_
      | refine LeO.bind ?_ (fun _ => ?_)
theorem peculiumlaw01_LexPieces.mono : ∀ a0 a1 k, LeO (peculiumlaw01_LexPieces.f k a0 a1) (peculiumlaw01_LexPieces.f (k + 1) a0 a1) := by
  intro a0 a1 k
  obtain ⟨ih0, ih1, ih2, ih3⟩ := peculiumlaw01_LexPieces.mono_l k
  unfold peculiumlaw01_LexPieces.f
  repeat' first
      | (with_reducible exact ih0 _ _ _ _ _ _ _ _ _)
      | (with_reducible exact ih1 _ _ _ _ _ _ _)
      | (with_reducible exact ih2 _ _ _ _ _)
      | (with_reducible exact ih3 _ _ _ _ _)
      | (with_reducible exact LeO.refl _)
      | (with_reducible exact LeO.none _)
      | (with_reducible refine LeO.ite ?_ ?_)
      | (with_reducible refine LeO.bind ?_ (fun _ => ?_))
      | exact ih0 _ _ _ _ _ _ _ _ _
      | exact ih1 _ _ _ _ _ _ _
      | exact ih2 _ _ _ _ _
      | exact ih3 _ _ _ _ _
      | exact LeO.none _
      | refine LeO.ite ?_ ?_
      | refine LeO.bind ?_ (fun _ => ?_)
set_option maxHeartbeats 8000000 in
set_option maxRecDepth 100000 in
theorem peculiumlaw01_LexPieces.calls (k : Nat) (a0 : ByteArray) (a1 : ByteArray) (r : Bool) (w : World) (h : peculiumlaw01_LexPieces.f k a0 a1 = some r) :
    Calls Try.prog 7 #[.string a0, .string a1] w fun e w' => e = .returned (.bool r) ∧ Below w.heap.size w w' := by
  have hu34 := Try.underlying34
  have HB := Aside0.mk (Below.refl w.heap.size w)
  have H : ((peculiumlaw01_sane.f).bind fun t227 => ((lex_ScanB.f a0).bind fun bt228 => ((lex_ScanB.f a1).bind fun bt233 => (if a0.size + 1 ≤ 9223372036854775807 then (if (a0 ++ (⟨#[10]⟩ : ByteArray)).size + a1.size ≤ 9223372036854775807 then ((lex_ScanB.f ((a0 ++ (⟨#[10]⟩ : ByteArray)) ++ a1)).bind fun bt238 => (if t227 = true then (if bt228.2.2 = 0 then (peculiumlaw01_LexPieces.j0 k a0 a1 t227 bt228.1 bt233.1 bt238.1 bt238.2.1 bt238.2.2 (bt233.2.2 != 0)) else (peculiumlaw01_LexPieces.j0 k a0 a1 t227 bt228.1 bt233.1 bt238.1 bt238.2.1 bt238.2.2 true)) else (peculiumlaw01_LexPieces.j0 k a0 a1 t227 bt228.1 bt233.1 bt238.1 bt238.2.1 bt238.2.2 true))) else (none)) else (none))))) = some r := h
  clear h
  replace H := Option.bind_eq_some_iff.mp H
  obtain ⟨t227, A30, H⟩ := H
  replace H : ((lex_ScanB.f a0).bind fun bt228 => ((lex_ScanB.f a1).bind fun bt233 => (if a0.size + 1 ≤ 9223372036854775807 then (if (a0 ++ (⟨#[10]⟩ : ByteArray)).size + a1.size ≤ 9223372036854775807 then ((lex_ScanB.f ((a0 ++ (⟨#[10]⟩ : ByteArray)) ++ a1)).bind fun bt238 => (if t227 = true then (if bt228.2.2 = 0 then (peculiumlaw01_LexPieces.j0 k a0 a1 t227 bt228.1 bt233.1 bt238.1 bt238.2.1 bt238.2.2 (bt233.2.2 != 0)) else (peculiumlaw01_LexPieces.j0 k a0 a1 t227 bt228.1 bt233.1 bt238.1 bt238.2.1 bt238.2.2 true)) else (peculiumlaw01_LexPieces.j0 k a0 a1 t227 bt228.1 bt233.1 bt238.1 bt238.2.1 bt238.2.2 true))) else (none)) else (none)))) = some r := H
  have A3 := Aside0.mk A30
  clear A30
  replace H := Option.bind_eq_some_iff.mp H
  obtain ⟨⟨t228, t229, t230⟩, A40, H⟩ := H
  replace H : ((lex_ScanB.f a1).bind fun bt233 => (if a0.size + 1 ≤ 9223372036854775807 then (if (a0 ++ (⟨#[10]⟩ : ByteArray)).size + a1.size ≤ 9223372036854775807 then ((lex_ScanB.f ((a0 ++ (⟨#[10]⟩ : ByteArray)) ++ a1)).bind fun bt238 => (if t227 = true then (if t230 = 0 then (peculiumlaw01_LexPieces.j0 k a0 a1 t227 t228 bt233.1 bt238.1 bt238.2.1 bt238.2.2 (bt233.2.2 != 0)) else (peculiumlaw01_LexPieces.j0 k a0 a1 t227 t228 bt233.1 bt238.1 bt238.2.1 bt238.2.2 true)) else (peculiumlaw01_LexPieces.j0 k a0 a1 t227 t228 bt233.1 bt238.1 bt238.2.1 bt238.2.2 true))) else (none)) else (none))) = some r := H
  have A4 := Aside0.mk A40
  clear A40
  replace H := Option.bind_eq_some_iff.mp H
  obtain ⟨⟨t233, t234, t235⟩, A50, H⟩ := H
  replace H : (if a0.size + 1 ≤ 9223372036854775807 then (if (a0 ++ (⟨#[10]⟩ : ByteArray)).size + a1.size ≤ 9223372036854775807 then ((lex_ScanB.f ((a0 ++ (⟨#[10]⟩ : ByteArray)) ++ a1)).bind fun bt238 => (if t227 = true then (if t230 = 0 then (peculiumlaw01_LexPieces.j0 k a0 a1 t227 t228 t233 bt238.1 bt238.2.1 bt238.2.2 (t235 != 0)) else (peculiumlaw01_LexPieces.j0 k a0 a1 t227 t228 t233 bt238.1 bt238.2.1 bt238.2.2 true)) else (peculiumlaw01_LexPieces.j0 k a0 a1 t227 t228 t233 bt238.1 bt238.2.1 bt238.2.2 true))) else (none)) else (none)) = some r := H
  have A5 := Aside0.mk A50
  clear A50
  by_cases c6 : a0.size + 1 ≤ 9223372036854775807
  · rw [if_pos c6] at H
    have c6b0 := eq_true c6
    have c6b1 : decide (a0.size + 1 ≤ 9223372036854775807) = true := decide_eq_true c6
    try have c6b2 : (9223372036854775807 < a0.size + 1) = False := eq_false (Nat.not_lt.2 c6)
    by_cases c7 : (a0 ++ (⟨#[10]⟩ : ByteArray)).size + a1.size ≤ 9223372036854775807
    · rw [if_pos c7] at H
      have c7b0 := eq_true c7
      have c7b1 : decide ((a0 ++ (⟨#[10]⟩ : ByteArray)).size + a1.size ≤ 9223372036854775807) = true := decide_eq_true c7
      try have c7b2 : (9223372036854775807 < (a0 ++ (⟨#[10]⟩ : ByteArray)).size + a1.size) = False := eq_false (Nat.not_lt.2 c7)
      replace H := Option.bind_eq_some_iff.mp H
      obtain ⟨⟨t238, t239, t240⟩, A80, H⟩ := H
      replace H : (if t227 = true then (if t230 = 0 then (peculiumlaw01_LexPieces.j0 k a0 a1 t227 t228 t233 t238 t239 t240 (t235 != 0)) else (peculiumlaw01_LexPieces.j0 k a0 a1 t227 t228 t233 t238 t239 t240 true)) else (peculiumlaw01_LexPieces.j0 k a0 a1 t227 t228 t233 t238 t239 t240 true)) = some r := H
      have A8 := Aside0.mk A80
      clear A80
      have HC9 := Aside0.mk H
      clear H
      go_enter Try.func7, Try.ntmps7
      go_upto_region 5 with (first | (go_at_call 13; (with_reducible refine (peculiumlaw01_sane.calls  t227 _ A3.out).mono ?_); rintro e w10 ⟨rfl, hb⟩; have n0_ := Aside0.mk (below_step (by repeat (first | (with_reducible first | exact HB.out | apply below_alloc | apply pw_below_drewN | apply below_drew1) | exact HB.out)) hb); clear HB; have HB := n0_; clear n0_; (try clear hb); (try clear hb2); (try clear hk); (try clear hi)) | (go_at_call 14; (with_reducible refine (lex_ScanB.calls a0 t228 t229 t230 _ A4.out).mono ?_); rintro e w11 ⟨v231, rfl, ho0, hb⟩; have n0_ := Aside0.mk (Kd.R_lower ho0 (below_size (by repeat (first | (with_reducible first | exact HB.out | apply below_alloc | apply pw_below_drewN | apply below_drew1) | exact HB.out)))); have n1_ := Aside0.mk (below_step (by repeat (first | (with_reducible first | exact HB.out | apply below_alloc | apply pw_below_drewN | apply below_drew1) | exact HB.out)) hb); clear HB; have HO232 := n0_; have HB := n1_; clear n0_ n1_; (try clear hb); (try clear hb2); (try clear hk); (try clear hi); (try clear ho0)) | (go_at_call 14; (with_reducible refine (lex_ScanB.calls a1 t233 t234 t235 _ A5.out).mono ?_); rintro e w12 ⟨v236, rfl, ho0, hb⟩; have n0_ := Aside0.mk (Kd.R_elder' (by (with_reducible repeat (first | apply Kd.R_alloc | apply Kd.R_drewN | apply Kd.R_drew)); exact HO232.out) (Kd.R_base ho0) hb); have n1_ := Aside0.mk (Kd.R_lower (Kd.R_new' ho0 (Kd.R_lt (by (with_reducible repeat (first | apply Kd.R_alloc | apply Kd.R_drewN | apply Kd.R_drew)); exact HO232.out))) (below_size (by repeat (first | (with_reducible first | exact HB.out | apply below_alloc | apply pw_below_drewN | apply below_drew1) | exact HB.out)))); have n2_ := Aside0.mk (below_step (by repeat (first | (with_reducible first | exact HB.out | apply below_alloc | apply pw_below_drewN | apply below_drew1) | exact HB.out)) hb); clear HO232; clear HB; have HO232 := n0_; have HO237 := n1_; have HB := n2_; clear n0_ n1_ n2_; (try clear hb); (try clear hb2); (try clear hk); (try clear hi); (try clear ho0)) | (go_at_call 14; (with_reducible refine (lex_ScanB.calls ((a0 ++ (⟨#[10]⟩ : ByteArray)) ++ a1) t238 t239 t240 _ A8.out).mono ?_); rintro e w13 ⟨v241, rfl, ho0, hb⟩; have n0_ := Aside0.mk (Kd.R_elder' (by (with_reducible repeat (first | apply Kd.R_alloc | apply Kd.R_drewN | apply Kd.R_drew)); exact HO232.out) (Kd.R_base ho0) hb); have n1_ := Aside0.mk (Kd.R_elder' (by (with_reducible repeat (first | apply Kd.R_alloc | apply Kd.R_drewN | apply Kd.R_drew)); exact HO237.out) (Kd.R_base ho0) hb); have n2_ := Aside0.mk (Kd.R_lower (Kd.R_new' (Kd.R_new' ho0 (Kd.R_lt (by (with_reducible repeat (first | apply Kd.R_alloc | apply Kd.R_drewN | apply Kd.R_drew)); exact HO232.out))) (Kd.R_lt (by (with_reducible repeat (first | apply Kd.R_alloc | apply Kd.R_drewN | apply Kd.R_drew)); exact HO237.out))) (below_size (by repeat (first | (with_reducible first | exact HB.out | apply below_alloc | apply pw_below_drewN | apply below_drew1) | exact HB.out)))); have n3_ := Aside0.mk (below_step (by repeat (first | (with_reducible first | exact HB.out | apply below_alloc | apply pw_below_drewN | apply below_drew1) | exact HB.out)) hb); clear HO232; clear HO237; clear HB; have HO232 := n0_; have HO237 := n1_; have HO242 := n2_; have HB := n3_; clear n0_ n1_ n2_ n3_; (try clear hb); (try clear hb2); (try clear hk); (try clear hi); (try clear ho0)))
      repeat (go_quiet (first | (go_at_call 13; (with_reducible refine (peculiumlaw01_sane.calls  t227 _ A3.out).mono ?_); rintro e w10 ⟨rfl, hb⟩; have n0_ := Aside0.mk (below_step (by repeat (first | (with_reducible first | exact HB.out | apply below_alloc | apply pw_below_drewN | apply below_drew1) | exact HB.out)) hb); clear HB; have HB := n0_; clear n0_; (try clear hb); (try clear hb2); (try clear hk); (try clear hi)) | (go_at_call 14; (with_reducible refine (lex_ScanB.calls a0 t228 t229 t230 _ A4.out).mono ?_); rintro e w11 ⟨v231, rfl, ho0, hb⟩; have n0_ := Aside0.mk (Kd.R_lower ho0 (below_size (by repeat (first | (with_reducible first | exact HB.out | apply below_alloc | apply pw_below_drewN | apply below_drew1) | exact HB.out)))); have n1_ := Aside0.mk (below_step (by repeat (first | (with_reducible first | exact HB.out | apply below_alloc | apply pw_below_drewN | apply below_drew1) | exact HB.out)) hb); clear HB; have HO232 := n0_; have HB := n1_; clear n0_ n1_; (try clear hb); (try clear hb2); (try clear hk); (try clear hi); (try clear ho0)) | (go_at_call 14; (with_reducible refine (lex_ScanB.calls a1 t233 t234 t235 _ A5.out).mono ?_); rintro e w12 ⟨v236, rfl, ho0, hb⟩; have n0_ := Aside0.mk (Kd.R_elder' (by (with_reducible repeat (first | apply Kd.R_alloc | apply Kd.R_drewN | apply Kd.R_drew)); exact HO232.out) (Kd.R_base ho0) hb); have n1_ := Aside0.mk (Kd.R_lower (Kd.R_new' ho0 (Kd.R_lt (by (with_reducible repeat (first | apply Kd.R_alloc | apply Kd.R_drewN | apply Kd.R_drew)); exact HO232.out))) (below_size (by repeat (first | (with_reducible first | exact HB.out | apply below_alloc | apply pw_below_drewN | apply below_drew1) | exact HB.out)))); have n2_ := Aside0.mk (below_step (by repeat (first | (with_reducible first | exact HB.out | apply below_alloc | apply pw_below_drewN | apply below_drew1) | exact HB.out)) hb); clear HO232; clear HB; have HO232 := n0_; have HO237 := n1_; have HB := n2_; clear n0_ n1_ n2_; (try clear hb); (try clear hb2); (try clear hk); (try clear hi); (try clear ho0)) | (go_at_call 14; (with_reducible refine (lex_ScanB.calls ((a0 ++ (⟨#[10]⟩ : ByteArray)) ++ a1) t238 t239 t240 _ A8.out).mono ?_); rintro e w13 ⟨v241, rfl, ho0, hb⟩; have n0_ := Aside0.mk (Kd.R_elder' (by (with_reducible repeat (first | apply Kd.R_alloc | apply Kd.R_drewN | apply Kd.R_drew)); exact HO232.out) (Kd.R_base ho0) hb); have n1_ := Aside0.mk (Kd.R_elder' (by (with_reducible repeat (first | apply Kd.R_alloc | apply Kd.R_drewN | apply Kd.R_drew)); exact HO237.out) (Kd.R_base ho0) hb); have n2_ := Aside0.mk (Kd.R_lower (Kd.R_new' (Kd.R_new' ho0 (Kd.R_lt (by (with_reducible repeat (first | apply Kd.R_alloc | apply Kd.R_drewN | apply Kd.R_drew)); exact HO232.out))) (Kd.R_lt (by (with_reducible repeat (first | apply Kd.R_alloc | apply Kd.R_drewN | apply Kd.R_drew)); exact HO237.out))) (below_size (by repeat (first | (with_reducible first | exact HB.out | apply below_alloc | apply pw_below_drewN | apply below_drew1) | exact HB.out)))); have n3_ := Aside0.mk (below_step (by repeat (first | (with_reducible first | exact HB.out | apply below_alloc | apply pw_below_drewN | apply below_drew1) | exact HB.out)) hb); clear HO232; clear HO237; clear HB; have HO232 := n0_; have HO237 := n1_; have HO242 := n2_; have HB := n3_; clear n0_ n1_ n2_ n3_; (try clear hb); (try clear hb2); (try clear hk); (try clear hi); (try clear ho0))); go_upto_region 5 with (first | (go_at_call 13; (with_reducible refine (peculiumlaw01_sane.calls  t227 _ A3.out).mono ?_); rintro e w10 ⟨rfl, hb⟩; have n0_ := Aside0.mk (below_step (by repeat (first | (with_reducible first | exact HB.out | apply below_alloc | apply pw_below_drewN | apply below_drew1) | exact HB.out)) hb); clear HB; have HB := n0_; clear n0_; (try clear hb); (try clear hb2); (try clear hk); (try clear hi)) | (go_at_call 14; (with_reducible refine (lex_ScanB.calls a0 t228 t229 t230 _ A4.out).mono ?_); rintro e w11 ⟨v231, rfl, ho0, hb⟩; have n0_ := Aside0.mk (Kd.R_lower ho0 (below_size (by repeat (first | (with_reducible first | exact HB.out | apply below_alloc | apply pw_below_drewN | apply below_drew1) | exact HB.out)))); have n1_ := Aside0.mk (below_step (by repeat (first | (with_reducible first | exact HB.out | apply below_alloc | apply pw_below_drewN | apply below_drew1) | exact HB.out)) hb); clear HB; have HO232 := n0_; have HB := n1_; clear n0_ n1_; (try clear hb); (try clear hb2); (try clear hk); (try clear hi); (try clear ho0)) | (go_at_call 14; (with_reducible refine (lex_ScanB.calls a1 t233 t234 t235 _ A5.out).mono ?_); rintro e w12 ⟨v236, rfl, ho0, hb⟩; have n0_ := Aside0.mk (Kd.R_elder' (by (with_reducible repeat (first | apply Kd.R_alloc | apply Kd.R_drewN | apply Kd.R_drew)); exact HO232.out) (Kd.R_base ho0) hb); have n1_ := Aside0.mk (Kd.R_lower (Kd.R_new' ho0 (Kd.R_lt (by (with_reducible repeat (first | apply Kd.R_alloc | apply Kd.R_drewN | apply Kd.R_drew)); exact HO232.out))) (below_size (by repeat (first | (with_reducible first | exact HB.out | apply below_alloc | apply pw_below_drewN | apply below_drew1) | exact HB.out)))); have n2_ := Aside0.mk (below_step (by repeat (first | (with_reducible first | exact HB.out | apply below_alloc | apply pw_below_drewN | apply below_drew1) | exact HB.out)) hb); clear HO232; clear HB; have HO232 := n0_; have HO237 := n1_; have HB := n2_; clear n0_ n1_ n2_; (try clear hb); (try clear hb2); (try clear hk); (try clear hi); (try clear ho0)) | (go_at_call 14; (with_reducible refine (lex_ScanB.calls ((a0 ++ (⟨#[10]⟩ : ByteArray)) ++ a1) t238 t239 t240 _ A8.out).mono ?_); rintro e w13 ⟨v241, rfl, ho0, hb⟩; have n0_ := Aside0.mk (Kd.R_elder' (by (with_reducible repeat (first | apply Kd.R_alloc | apply Kd.R_drewN | apply Kd.R_drew)); exact HO232.out) (Kd.R_base ho0) hb); have n1_ := Aside0.mk (Kd.R_elder' (by (with_reducible repeat (first | apply Kd.R_alloc | apply Kd.R_drewN | apply Kd.R_drew)); exact HO237.out) (Kd.R_base ho0) hb); have n2_ := Aside0.mk (Kd.R_lower (Kd.R_new' (Kd.R_new' ho0 (Kd.R_lt (by (with_reducible repeat (first | apply Kd.R_alloc | apply Kd.R_drewN | apply Kd.R_drew)); exact HO232.out))) (Kd.R_lt (by (with_reducible repeat (first | apply Kd.R_alloc | apply Kd.R_drewN | apply Kd.R_drew)); exact HO237.out))) (below_size (by repeat (first | (with_reducible first | exact HB.out | apply below_alloc | apply pw_below_drewN | apply below_drew1) | exact HB.out)))); have n3_ := Aside0.mk (below_step (by repeat (first | (with_reducible first | exact HB.out | apply below_alloc | apply pw_below_drewN | apply below_drew1) | exact HB.out)) hb); clear HO232; clear HO237; clear HB; have HO232 := n0_; have HO237 := n1_; have HO242 := n2_; have HB := n3_; clear n0_ n1_ n2_ n3_; (try clear hb); (try clear hb2); (try clear hk); (try clear hi); (try clear ho0))))
      (try simp only [Act.put, List.setIfInBounds_toArray, List.set_cons_zero, List.set_cons_succ])
      go_cut [48] (fun v48 wc => ∃ (kq : Nat) (x48_8 : Bool), v48 = .bool x48_8 ∧ Aside0 (peculiumlaw01_LexPieces.j0 kq a0 a1 t227 t228 t233 t238 t239 t240 x48_8 = some r) ∧ Aside0 (kq ≤ k) ∧ Aside0 (Kd.R k34 34 wc w.heap.size (fun k_ => some k_ ≠ (v236 : Value).ownBlock ∧ some k_ ≠ (v241 : Value).ownBlock) v231 t228) ∧ Aside0 (Kd.R k34 34 wc w.heap.size (fun k_ => some k_ ≠ (v231 : Value).ownBlock ∧ some k_ ≠ (v241 : Value).ownBlock) v236 t233) ∧ Aside0 (Kd.R k34 34 wc w.heap.size (fun k_ => some k_ ≠ (v231 : Value).ownBlock ∧ some k_ ≠ (v236 : Value).ownBlock) v241 t238) ∧ Aside0 (Below w.heap.size w wc))
      case first =>
        have H := HC9.out
        clear HC9
        by_cases c14 : t227 = true
        · subst c14
          have H1 : (if t230 = 0 then (peculiumlaw01_LexPieces.j0 k a0 a1 true t228 t233 t238 t239 t240 (t235 != 0)) else (peculiumlaw01_LexPieces.j0 k a0 a1 true t228 t233 t238 t239 t240 true)) = some r := by rw [if_pos rfl] at H; exact H
          clear H
          have H := H1
          clear H1
          by_cases c15 : t230 = 0
          · rw [if_pos c15] at H
            have c15b0 : (t230 == 0) = true := beq_iff_eq.mpr c15
            have c15b1 : (t230 != 0) = false := bne_eq_false_iff_eq.mpr c15
            clear c15
            (first | rw [c15b0] | (simp only [i64_w, i32_w]; rw [c15b0]) | skip)
            have H' := Aside0.mk H
            clear H
            go_wp2
            repeat (go_quiet (fail); try go_wp2)
            go_meet
            case rel => exact ⟨_, ((t235 != 0)), (by first | rfl | (simp; done) | (simp [*]; done)), H', ⟨by first | omega | exact Nat.le_refl _⟩, ⟨by (with_reducible repeat (first | apply Kd.R_alloc | apply Kd.R_drewN | apply Kd.R_drew)); exact Kd.R_mono HO232.out (fun _ hk => ⟨hk.1.2, hk.2⟩)⟩, ⟨by (with_reducible repeat (first | apply Kd.R_alloc | apply Kd.R_drewN | apply Kd.R_drew)); exact Kd.R_mono HO237.out (fun _ hk => ⟨hk.1.2, hk.2⟩)⟩, ⟨by (with_reducible repeat (first | apply Kd.R_alloc | apply Kd.R_drewN | apply Kd.R_drew)); exact Kd.R_mono HO242.out (fun _ hk => ⟨hk.1.2, hk.2⟩)⟩, ⟨by repeat (first | (with_reducible first | exact HB.out | apply below_alloc | apply pw_below_drewN | apply below_drew1) | exact HB.out)⟩⟩
          · rw [if_neg c15] at H
            have c15b0 : (t230 == 0) = false := beq_eq_false_iff_ne.mpr c15
            have c15b1 : (t230 != 0) = true := bne_iff_ne.mpr c15
            (first | rw [c15b0] | (simp only [i64_w, i32_w]; rw [c15b0]) | skip)
            have H' := Aside0.mk H
            clear H
            go_wp2
            repeat (go_quiet (fail); try go_wp2)
            go_meet
            case rel => exact ⟨_, (true), (by first | rfl | (simp; done) | (simp [*]; done)), H', ⟨by first | omega | exact Nat.le_refl _⟩, ⟨by (with_reducible repeat (first | apply Kd.R_alloc | apply Kd.R_drewN | apply Kd.R_drew)); exact Kd.R_mono HO232.out (fun _ hk => ⟨hk.1.2, hk.2⟩)⟩, ⟨by (with_reducible repeat (first | apply Kd.R_alloc | apply Kd.R_drewN | apply Kd.R_drew)); exact Kd.R_mono HO237.out (fun _ hk => ⟨hk.1.2, hk.2⟩)⟩, ⟨by (with_reducible repeat (first | apply Kd.R_alloc | apply Kd.R_drewN | apply Kd.R_drew)); exact Kd.R_mono HO242.out (fun _ hk => ⟨hk.1.2, hk.2⟩)⟩, ⟨by repeat (first | (with_reducible first | exact HB.out | apply below_alloc | apply pw_below_drewN | apply below_drew1) | exact HB.out)⟩⟩
        · replace c14 := Bool.eq_false_iff.mpr c14
          subst c14
          have H1 : (peculiumlaw01_LexPieces.j0 k a0 a1 false t228 t233 t238 t239 t240 true) = some r := by rw [if_neg (show ¬ (false = true) by decide)] at H; exact H
          clear H
          have H := H1
          clear H1
          have H' := Aside0.mk H
          clear H
          go_wp2
          repeat (go_quiet (fail); try go_wp2)
          go_meet
          case rel => exact ⟨_, (true), (by first | rfl | (simp; done) | (simp [*]; done)), H', ⟨by first | omega | exact Nat.le_refl _⟩, ⟨by (with_reducible repeat (first | apply Kd.R_alloc | apply Kd.R_drewN | apply Kd.R_drew)); exact Kd.R_mono HO232.out (fun _ hk => ⟨hk.1.2, hk.2⟩)⟩, ⟨by (with_reducible repeat (first | apply Kd.R_alloc | apply Kd.R_drewN | apply Kd.R_drew)); exact Kd.R_mono HO237.out (fun _ hk => ⟨hk.1.2, hk.2⟩)⟩, ⟨by (with_reducible repeat (first | apply Kd.R_alloc | apply Kd.R_drewN | apply Kd.R_drew)); exact Kd.R_mono HO242.out (fun _ hk => ⟨hk.1.2, hk.2⟩)⟩, ⟨by repeat (first | (with_reducible first | exact HB.out | apply below_alloc | apply pw_below_drewN | apply below_drew1) | exact HB.out)⟩⟩
      case rest =>
        clear HC9
        try clear c1
        try clear p2
        try clear c6
        try clear c6b0
        try clear c6b1
        try clear c6b2
        try clear c7
        try clear c7b0
        try clear c7b1
        try clear c7b2
        try clear c14
        try clear c15
        try clear c15b0
        try clear c15b1
        obtain ⟨kq, x48_8, rfl, HA, HJ8, HO_6, HO_9, HO_12, HB⟩ := hcut
        cases kq with
        | zero => exact absurd HA.out (by simp [peculiumlaw01_LexPieces.j0])
        | succ kj8 =>
          have H := HA.out
          clear HA
          simp only [peculiumlaw01_LexPieces.j0] at H
          by_cases c16 : x48_8 = true
          · subst c16
            have H1 : (some t227) = some r := by rw [if_pos rfl] at H; exact H
            clear H
            have H := H1
            clear H1
            obtain rfl := Option.some.inj H
            go_wp2
            repeat (go_quiet (fail); try go_wp2)
            go_ret
            exact ⟨by first | rfl | (simp [errW_none, errW_some] <;> rfl) | (simp [*, errW_none, errW_some] <;> rfl), by repeat (first | (with_reducible first | exact HB.out | apply below_alloc | apply pw_below_drewN | apply below_drew1) | exact HB.out)⟩
          · replace c16 := Bool.eq_false_iff.mpr c16
            subst c16
            have H1 : (if (wrap64 ((wrap64 ((a0.size : Int) + 1)) + (a1.size : Int))) > 20000 then (peculiumlaw01_LexPieces.j1 kj8 a0 t228 t233 t238 t239 t240 true) else (peculiumlaw01_LexPieces.j1 kj8 a0 t228 t233 t238 t239 t240 (decide ((wrap64 ((t228.length : Int) + (t233.length : Int))) > 6000)))) = some r := by rw [if_neg (show ¬ (false = true) by decide)] at H; exact H
            clear H
            have H := H1
            clear H1
            have HC17 := Aside0.mk H
            clear H
            go_upto_region 7 with (fail)
            repeat (go_quiet (fail); go_upto_region 7 with (fail))
            go_cut [64] (fun v64 wc => ∃ (kq : Nat) (x64_16 : Bool), v64 = .bool x64_16 ∧ Aside0 (peculiumlaw01_LexPieces.j1 kq a0 t228 t233 t238 t239 t240 x64_16 = some r) ∧ Aside0 (kq ≤ kj8) ∧ Aside0 (Kd.R k34 34 wc w.heap.size (fun k_ => some k_ ≠ (v236 : Value).ownBlock ∧ some k_ ≠ (v241 : Value).ownBlock) v231 t228) ∧ Aside0 (Kd.R k34 34 wc w.heap.size (fun k_ => some k_ ≠ (v231 : Value).ownBlock ∧ some k_ ≠ (v241 : Value).ownBlock) v236 t233) ∧ Aside0 (Kd.R k34 34 wc w.heap.size (fun k_ => some k_ ≠ (v231 : Value).ownBlock ∧ some k_ ≠ (v236 : Value).ownBlock) v241 t238) ∧ Aside0 (Below w.heap.size w wc))
            case first =>
              have H := HC17.out
              clear HC17
              by_cases c18 : (wrap64 ((wrap64 ((a0.size : Int) + 1)) + (a1.size : Int))) > 20000
              · rw [if_pos c18] at H
                have c18b0 : decide (20000 < (wrap64 ((wrap64 ((a0.size : Int) + 1)) + (a1.size : Int)))) = true := decide_eq_true c18
                clear c18
                (first | rw [c18b0] | (simp only [i64_w, i32_w]; rw [c18b0]) | skip)
                have H' := Aside0.mk H
                clear H
                go_wp2
                repeat (go_quiet (fail); try go_wp2)
                go_meet
                case rel => exact ⟨_, (true), (by first | rfl | (simp; done) | (simp [*]; done)), H', ⟨by have := HJ8.out; first | omega | exact Nat.le_refl _⟩, ⟨by (with_reducible repeat (first | apply Kd.R_alloc | apply Kd.R_drewN | apply Kd.R_drew)); exact HO_6.out⟩, ⟨by (with_reducible repeat (first | apply Kd.R_alloc | apply Kd.R_drewN | apply Kd.R_drew)); exact HO_9.out⟩, ⟨by (with_reducible repeat (first | apply Kd.R_alloc | apply Kd.R_drewN | apply Kd.R_drew)); exact HO_12.out⟩, ⟨by repeat (first | (with_reducible first | exact HB.out | apply below_alloc | apply pw_below_drewN | apply below_drew1) | exact HB.out)⟩⟩
              · rw [if_neg c18] at H
                have c18b0 : decide (20000 < (wrap64 ((wrap64 ((a0.size : Int) + 1)) + (a1.size : Int)))) = false := decide_eq_false c18
                clear c18
                (first | rw [c18b0] | (simp only [i64_w, i32_w]; rw [c18b0]) | skip)
                have H' := Aside0.mk H
                clear H
                obtain ⟨Ao19, co19, eo19⟩ := Kd.R_slice HO_6.out
                subst eo19
                obtain ⟨Ao20, co20, eo20⟩ := Kd.R_slice HO_9.out
                subst eo20
                go_wp2
                repeat (go_quiet (fail); try go_wp2)
                go_meet
                case rel => exact ⟨_, (decide ((wrap64 ((t228.length : Int) + (t233.length : Int))) > 6000)), (by first | rfl | (simp; done) | (simp [*]; done)), H', ⟨by have := HJ8.out; first | omega | exact Nat.le_refl _⟩, ⟨by (with_reducible repeat (first | apply Kd.R_alloc | apply Kd.R_drewN | apply Kd.R_drew)); exact HO_6.out⟩, ⟨by (with_reducible repeat (first | apply Kd.R_alloc | apply Kd.R_drewN | apply Kd.R_drew)); exact HO_9.out⟩, ⟨by (with_reducible repeat (first | apply Kd.R_alloc | apply Kd.R_drewN | apply Kd.R_drew)); exact HO_12.out⟩, ⟨by repeat (first | (with_reducible first | exact HB.out | apply below_alloc | apply pw_below_drewN | apply below_drew1) | exact HB.out)⟩⟩
            case rest =>
              clear HC17
              try clear c1
              try clear p2
              try clear c6
              try clear c6b0
              try clear c6b1
              try clear c6b2
              try clear p6
              try clear c7
              try clear c7b0
              try clear c7b1
              try clear c7b2
              try clear c14
              try clear c15
              try clear c15b0
              try clear c15b1
              try clear c16
              try clear c18
              try clear c18b0
              try clear p2
              obtain ⟨kq, x64_16, rfl, HA, HJ16, HO_6, HO_9, HO_12, HB⟩ := hcut
              cases kq with
              | zero => exact absurd HA.out (by simp [peculiumlaw01_LexPieces.j1])
              | succ kj16 =>
                have H := HA.out
                clear HA
                simp only [peculiumlaw01_LexPieces.j1] at H
                by_cases c21 : x64_16 = true
                · subst c21
                  have H1 : (some (t240 == 2)) = some r := by rw [if_pos rfl] at H; exact H
                  clear H
                  have H := H1
                  clear H1
                  obtain rfl := Option.some.inj H
                  go_wp2
                  repeat (go_quiet (fail); try go_wp2)
                  go_ret
                  exact ⟨by first | rfl | (simp [errW_none, errW_some] <;> rfl) | (simp [*, errW_none, errW_some] <;> rfl), by repeat (first | (with_reducible first | exact HB.out | apply below_alloc | apply pw_below_drewN | apply below_drew1) | exact HB.out)⟩
                · replace c21 := Bool.eq_false_iff.mpr c21
                  subst c21
                  have H1 : (if t240 = 0 then (if t239 = 0 then (peculiumlaw01_LexPieces.j2 kj16 a0 t228 t233 t238 ((t238.length : Int) != (wrap64 ((t228.length : Int) + (t233.length : Int))))) else (peculiumlaw01_LexPieces.j2 kj16 a0 t228 t233 t238 true)) else (peculiumlaw01_LexPieces.j2 kj16 a0 t228 t233 t238 true)) = some r := by rw [if_neg (show ¬ (false = true) by decide)] at H; exact H
                  clear H
                  have H := H1
                  clear H1
                  have HC22 := Aside0.mk H
                  clear H
                  go_upto_region 9 with (fail)
                  repeat (go_quiet (fail); go_upto_region 9 with (fail))
                  go_cut [82] (fun v82 wc => ∃ (kq : Nat) (x82_21 : Bool), v82 = .bool x82_21 ∧ Aside0 (peculiumlaw01_LexPieces.j2 kq a0 t228 t233 t238 x82_21 = some r) ∧ Aside0 (kq ≤ kj16) ∧ Aside0 (Kd.R k34 34 wc w.heap.size (fun k_ => some k_ ≠ (v236 : Value).ownBlock ∧ some k_ ≠ (v241 : Value).ownBlock) v231 t228) ∧ Aside0 (Kd.R k34 34 wc w.heap.size (fun k_ => some k_ ≠ (v231 : Value).ownBlock ∧ some k_ ≠ (v241 : Value).ownBlock) v236 t233) ∧ Aside0 (Kd.R k34 34 wc w.heap.size (fun k_ => some k_ ≠ (v231 : Value).ownBlock ∧ some k_ ≠ (v236 : Value).ownBlock) v241 t238) ∧ Aside0 (Below w.heap.size w wc))
                  case first =>
                    have H := HC22.out
                    clear HC22
                    by_cases c23 : t240 = 0
                    · rw [if_pos c23] at H
                      have c23b0 : (t240 == 0) = true := beq_iff_eq.mpr c23
                      have c23b1 : (t240 != 0) = false := bne_eq_false_iff_eq.mpr c23
                      clear c23
                      (first | rw [c23b0] | (simp only [i64_w, i32_w]; rw [c23b0]) | skip)
                      by_cases c24 : t239 = 0
                      · rw [if_pos c24] at H
                        have c24b0 : (t239 == 0) = true := beq_iff_eq.mpr c24
                        have c24b1 : (t239 != 0) = false := bne_eq_false_iff_eq.mpr c24
                        clear c24
                        have H' := Aside0.mk H
                        clear H
                        obtain ⟨Ao25, co25, eo25⟩ := Kd.R_slice HO_12.out
                        subst eo25
                        obtain ⟨Ao26, co26, eo26⟩ := Kd.R_slice HO_6.out
                        subst eo26
                        obtain ⟨Ao27, co27, eo27⟩ := Kd.R_slice HO_9.out
                        subst eo27
                        go_wp2
                        repeat (go_quiet (fail); try go_wp2)
                        go_meet
                        case rel => exact ⟨_, (((t238.length : Int) != (wrap64 ((t228.length : Int) + (t233.length : Int))))), (by first | rfl | (simp; done) | (simp [*]; done)), H', ⟨by have := HJ8.out; have := HJ16.out; first | omega | exact Nat.le_refl _⟩, ⟨by (with_reducible repeat (first | apply Kd.R_alloc | apply Kd.R_drewN | apply Kd.R_drew)); exact HO_6.out⟩, ⟨by (with_reducible repeat (first | apply Kd.R_alloc | apply Kd.R_drewN | apply Kd.R_drew)); exact HO_9.out⟩, ⟨by (with_reducible repeat (first | apply Kd.R_alloc | apply Kd.R_drewN | apply Kd.R_drew)); exact HO_12.out⟩, ⟨by repeat (first | (with_reducible first | exact HB.out | apply below_alloc | apply pw_below_drewN | apply below_drew1) | exact HB.out)⟩⟩
                      · rw [if_neg c24] at H
                        have c24b0 : (t239 == 0) = false := beq_eq_false_iff_ne.mpr c24
                        have c24b1 : (t239 != 0) = true := bne_iff_ne.mpr c24
                        have H' := Aside0.mk H
                        clear H
                        go_wp2
                        repeat (go_quiet (fail); try go_wp2)
                        go_meet
                        case rel => exact ⟨_, (true), (by first | rfl | (simp; done) | (simp [*]; done)), H', ⟨by have := HJ8.out; have := HJ16.out; first | omega | exact Nat.le_refl _⟩, ⟨by (with_reducible repeat (first | apply Kd.R_alloc | apply Kd.R_drewN | apply Kd.R_drew)); exact HO_6.out⟩, ⟨by (with_reducible repeat (first | apply Kd.R_alloc | apply Kd.R_drewN | apply Kd.R_drew)); exact HO_9.out⟩, ⟨by (with_reducible repeat (first | apply Kd.R_alloc | apply Kd.R_drewN | apply Kd.R_drew)); exact HO_12.out⟩, ⟨by repeat (first | (with_reducible first | exact HB.out | apply below_alloc | apply pw_below_drewN | apply below_drew1) | exact HB.out)⟩⟩
                    · rw [if_neg c23] at H
                      have c23b0 : (t240 == 0) = false := beq_eq_false_iff_ne.mpr c23
                      have c23b1 : (t240 != 0) = true := bne_iff_ne.mpr c23
                      (first | rw [c23b0] | (simp only [i64_w, i32_w]; rw [c23b0]) | skip)
                      have H' := Aside0.mk H
                      clear H
                      go_wp2
                      repeat (go_quiet (fail); try go_wp2)
                      go_meet
                      case rel => exact ⟨_, (true), (by first | rfl | (simp; done) | (simp [*]; done)), H', ⟨by have := HJ8.out; have := HJ16.out; first | omega | exact Nat.le_refl _⟩, ⟨by (with_reducible repeat (first | apply Kd.R_alloc | apply Kd.R_drewN | apply Kd.R_drew)); exact HO_6.out⟩, ⟨by (with_reducible repeat (first | apply Kd.R_alloc | apply Kd.R_drewN | apply Kd.R_drew)); exact HO_9.out⟩, ⟨by (with_reducible repeat (first | apply Kd.R_alloc | apply Kd.R_drewN | apply Kd.R_drew)); exact HO_12.out⟩, ⟨by repeat (first | (with_reducible first | exact HB.out | apply below_alloc | apply pw_below_drewN | apply below_drew1) | exact HB.out)⟩⟩
                  case rest =>
                    clear HC22
                    try clear c1
                    try clear c2
                    try clear p2
                    try clear c6
                    try clear c6b0
                    try clear c6b1
                    try clear c6b2
                    try clear p6
                    try clear c7
                    try clear c7b0
                    try clear c7b1
                    try clear c7b2
                    try clear c14
                    try clear c15
                    try clear c15b0
                    try clear c15b1
                    try clear c16
                    try clear c18
                    try clear c18b0
                    try clear c21
                    try clear c23
                    try clear c23b0
                    try clear c23b1
                    try clear c24
                    try clear c24b0
                    try clear c24b1
                    try clear p2
                    try clear p6
                    obtain ⟨kq, x82_21, rfl, HA, HJ21, HO_6, HO_9, HO_12, HB⟩ := hcut
                    cases kq with
                    | zero => exact absurd HA.out (by simp [peculiumlaw01_LexPieces.j2])
                    | succ kj21 =>
                      have H := HA.out
                      clear HA
                      simp only [peculiumlaw01_LexPieces.j2] at H
                      by_cases c28 : x82_21 = true
                      · subst c28
                        have H1 : (some false) = some r := by rw [if_pos rfl] at H; exact H
                        clear H
                        have H := H1
                        clear H1
                        obtain rfl := Option.some.inj H
                        go_wp2
                        repeat (go_quiet (fail); try go_wp2)
                        go_ret
                        exact ⟨by first | rfl | (simp [errW_none, errW_some] <;> rfl) | (simp [*, errW_none, errW_some] <;> rfl), by repeat (first | (with_reducible first | exact HB.out | apply below_alloc | apply pw_below_drewN | apply below_drew1) | exact HB.out)⟩
                      · replace c28 := Bool.eq_false_iff.mpr c28
                        subst c28
                        have H1 : (peculiumlaw01_LexPieces.l0 kj21 a0 t228 t233 t238 0) = some r := by rw [if_neg (show ¬ (false = true) by decide)] at H; exact H
                        clear H
                        have H := H1
                        clear H1
                        have H' := Aside0.mk H
                        clear H
                        go_wp2
                        repeat (go_quiet (fail); try go_wp2)
                        go_loopg [15] kj21 (fun kq v15 w' => ∃ (x15_4 : Int), v15 = .int .i64 x15_4 ∧ Aside0 (peculiumlaw01_LexPieces.l0 kq a0 t228 t233 t238 x15_4 = some r) ∧ Aside0 (kq ≤ kj21) ∧ Aside0 (Kd.R k34 34 w' w.heap.size (fun k_ => some k_ ≠ (v236 : Value).ownBlock ∧ some k_ ≠ (v241 : Value).ownBlock) v231 t228) ∧ Aside0 (Kd.R k34 34 w' w.heap.size (fun k_ => some k_ ≠ (v231 : Value).ownBlock ∧ some k_ ≠ (v241 : Value).ownBlock) v236 t233) ∧ Aside0 (Kd.R k34 34 w' w.heap.size (fun k_ => some k_ ≠ (v231 : Value).ownBlock ∧ some k_ ≠ (v236 : Value).ownBlock) v241 t238) ∧ Aside0 (Below w.heap.size w w'))
                        case atStart => exact ⟨(0), (by first | rfl | (simp; done) | (simp [*]; done)), H', ⟨Nat.le_refl _⟩, ⟨by (with_reducible repeat (first | apply Kd.R_alloc | apply Kd.R_drewN | apply Kd.R_drew)); exact HO_6.out⟩, ⟨by (with_reducible repeat (first | apply Kd.R_alloc | apply Kd.R_drewN | apply Kd.R_drew)); exact HO_9.out⟩, ⟨by (with_reducible repeat (first | apply Kd.R_alloc | apply Kd.R_drewN | apply Kd.R_drew)); exact HO_12.out⟩, ⟨by repeat (first | (with_reducible first | exact HB.out | apply below_alloc | apply pw_below_drewN | apply below_drew1) | exact HB.out)⟩⟩
                        case round =>
                          clear H'
                          try clear c1
                          try clear c2
                          try clear p2
                          try clear c6
                          try clear c6b0
                          try clear c6b1
                          try clear c6b2
                          try clear p6
                          try clear c7
                          try clear c7b0
                          try clear c7b1
                          try clear c7b2
                          try clear c14
                          try clear c15
                          try clear c15b0
                          try clear c15b1
                          try clear c16
                          try clear c18
                          try clear c18b0
                          try clear c21
                          try clear c23
                          try clear c23b0
                          try clear c23b1
                          try clear c24
                          try clear c24b0
                          try clear c24b1
                          try clear c28
                          try clear p2
                          try clear p6
                          obtain ⟨x15_4, rfl, HA, HK4, HO_6, HO_9, HO_12, HB⟩ := hrel
                          cases gk with
                          | zero => exact absurd HA.out (by simp [peculiumlaw01_LexPieces.l0])
                          | succ k4 =>
                            have H := HA.out
                            clear HA
                            simp only [peculiumlaw01_LexPieces.l0] at H
                            by_cases c29 : x15_4 < (t238.length : Int)
                            · rw [if_pos c29] at H
                              have c29b0 : decide (x15_4 < (t238.length : Int)) = true := decide_eq_true c29
                              clear c29
                              by_cases c30 : x15_4 < (t228.length : Int)
                              · rw [if_pos c30] at H
                                have c30b0 : decide (x15_4 < (t228.length : Int)) = true := decide_eq_true c30
                                clear c30
                                by_cases c31 : 0 ≤ x15_4
                                · rw [if_pos c31] at H
                                  have c31b0 : decide (0 ≤ x15_4) = true := decide_eq_true c31
                                  clear c31
                                  obtain ⟨A6, b6, e6⟩ := Kd.R_slice HO_6.out
                                  subst e6
                                  obtain ⟨A12, b12, e12⟩ := Kd.R_slice HO_12.out
                                  subst e12
                                  have p30 : 0 ≤ (x15_4 : Int) := of_decide_eq_true c31b0
                                  have q30 : x15_4 < (t228.length : Int) := of_decide_eq_true c30b0
                                  have r30 : x15_4 < (t238.length : Int) := of_decide_eq_true c29b0
                                  obtain ⟨a6, g6, l0, l1, l2⟩ := at_T34 (Kd.R_reads' HO_6.out).2.2 x15_4 p30 q30
                                  subst g6
                                  obtain ⟨a12, g12, m0, m1, m2⟩ := at_T34 (Kd.R_reads' HO_12.out).2.2 x15_4 p30 r30
                                  subst g12
                                  have hal : ∀ (p : Addr) (u : Value), wr.cell? p = some u → ∀ o : Obj, (wr.alloc o).cell? p = some u := fun p u h o => ((Below.refl wr.heap.size wr).alloc (Nat.le_refl _) o).cell (World.block_lt_of_cell? wr _ h) |>.trans h
                                  have L0 := hal _ _ l0
                                  have L1 := hal _ _ l1
                                  have L2 := hal _ _ l2
                                  have M0 := hal _ _ m0
                                  have M1 := hal _ _ m1
                                  have M2 := hal _ _ m2
                                  clear hal
                                  go_wp2_with fail
                                  by_cases c90 : (!(((rd_T34 t238 x15_4).f0) == ((rd_T34 t228 x15_4).f0)) || (!((((rd_T34 t238 x15_4).f1).toList) == (((rd_T34 t228 x15_4).f1).toList)) || (!(((rd_T34 t238 x15_4).f2) == ((rd_T34 t228 x15_4).f2))))) = true
                                  · rw [if_pos c90] at H
                                    obtain rfl := Option.some.inj H
                                    repeat (go_quiet (fail); try go_wp2_with fail)
                                    go_ret
                                    exact ⟨rfl, by repeat (first | (with_reducible first | exact HB.out | apply below_alloc | apply pw_below_drewN | apply below_drew1) | exact HB.out)⟩
                                  · rw [if_neg c90] at H
                                    have H' := Aside0.mk H
                                    clear H
                                    repeat (go_quiet (fail); try go_wp2_with fail)
                                    go_roundg k4
                                    case measure => have := HJ8.out; have := HJ16.out; have := HJ21.out; have := HK4.out; omega
                                    case rel => exact ⟨(wrap64 (x15_4 + 1)), (by first | rfl | (simp; done) | (simp [*]; done)), H', ⟨by have := HJ8.out; have := HJ16.out; have := HJ21.out; have := HK4.out; omega⟩, ⟨by (with_reducible repeat (first | apply Kd.R_alloc | apply Kd.R_drewN | apply Kd.R_drew)); exact HO_6.out⟩, ⟨by (with_reducible repeat (first | apply Kd.R_alloc | apply Kd.R_drewN | apply Kd.R_drew)); exact HO_9.out⟩, ⟨by (with_reducible repeat (first | apply Kd.R_alloc | apply Kd.R_drewN | apply Kd.R_drew)); exact HO_12.out⟩, ⟨by repeat (first | (with_reducible first | exact HB.out | apply below_alloc | apply pw_below_drewN | apply below_drew1) | exact HB.out)⟩⟩
                                · rw [if_neg c31] at H
                                  exact absurd H (by simp)
                              · rw [if_neg c30] at H
                                have c30b0 : decide (x15_4 < (t228.length : Int)) = false := decide_eq_false c30
                                clear c30
                                obtain ⟨ji41, hji41⟩ : ∃ j_ : Int, (wrap64 (x15_4 - (t228.length : Int))) = j_ := ⟨_, rfl⟩
                                replace H : (if 0 ≤ (ji41) then (if (ji41) < (t233.length : Int) then (if 0 ≤ x15_4 then (if (!(((rd_T34 t238 x15_4).f0) == ((rd_T34 t233 (ji41)).f0)) || (!((((rd_T34 t238 x15_4).f1).toList) == (((rd_T34 t233 (ji41)).f1).toList)) || (!(((rd_T34 t238 x15_4).f2) == (wrap64 (((rd_T34 t233 (ji41)).f2) + (wrap64 ((a0.size : Int) + 1)))))))) = true then (some false) else (peculiumlaw01_LexPieces.l0 k4 a0 t228 t233 t238 (wrap64 (x15_4 + 1)))) else (none)) else (none)) else (none)) = some r := by first | (rw [hji41] at H; exact H) | (simp only [hji41] at H ⊢; exact H)
                                have hji41w : (IntKind.i64.wrap (x15_4 - (t228.length : Int))) = ji41 := (i64_w _).trans hji41
                                by_cases c42 : 0 ≤ (ji41)
                                · rw [if_pos c42] at H
                                  have c42b0 : decide (0 ≤ (ji41)) = true := decide_eq_true c42
                                  clear c42
                                  by_cases c43 : (ji41) < (t233.length : Int)
                                  · rw [if_pos c43] at H
                                    have c43b0 : decide ((ji41) < (t233.length : Int)) = true := decide_eq_true c43
                                    clear c43
                                    by_cases c44 : 0 ≤ x15_4
                                    · rw [if_pos c44] at H
                                      have c44b0 : decide (0 ≤ x15_4) = true := decide_eq_true c44
                                      clear c44
                                      obtain ⟨A6, b6, e6⟩ := Kd.R_slice HO_6.out
                                      subst e6
                                      obtain ⟨A9, b9, e9⟩ := Kd.R_slice HO_9.out
                                      subst e9
                                      obtain ⟨A12, b12, e12⟩ := Kd.R_slice HO_12.out
                                      subst e12
                                      have p30 : 0 ≤ (x15_4 : Int) := of_decide_eq_true c44b0
                                      have p41 : 0 ≤ (ji41 : Int) := of_decide_eq_true c42b0
                                      have q30 : ji41 < (t233.length : Int) := of_decide_eq_true c43b0
                                      have r30 : x15_4 < (t238.length : Int) := of_decide_eq_true c29b0
                                      obtain ⟨a9, g9, l0, l1, l2⟩ := at_T34 (Kd.R_reads' HO_9.out).2.2 ji41 p41 q30
                                      subst g9
                                      obtain ⟨a12, g12, m0, m1, m2⟩ := at_T34 (Kd.R_reads' HO_12.out).2.2 x15_4 p30 r30
                                      subst g12
                                      have hal : ∀ (p : Addr) (u : Value), wr.cell? p = some u → ∀ o : Obj, (wr.alloc o).cell? p = some u := fun p u h o => ((Below.refl wr.heap.size wr).alloc (Nat.le_refl _) o).cell (World.block_lt_of_cell? wr _ h) |>.trans h
                                      have L0 := hal _ _ l0
                                      have L1 := hal _ _ l1
                                      have L2 := hal _ _ l2
                                      have M0 := hal _ _ m0
                                      have M1 := hal _ _ m1
                                      have M2 := hal _ _ m2
                                      clear hal
                                      go_wp2_with fail
                                      by_cases c90 : (!(((rd_T34 t238 x15_4).f0) == ((rd_T34 t233 (ji41)).f0)) || (!((((rd_T34 t238 x15_4).f1).toList) == (((rd_T34 t233 (ji41)).f1).toList)) || (!(((rd_T34 t238 x15_4).f2) == (wrap64 (((rd_T34 t233 (ji41)).f2) + (wrap64 ((a0.size : Int) + 1))))))))  = true
                                      · rw [if_pos c90] at H
                                        obtain rfl := Option.some.inj H
                                        repeat (go_quiet (fail); try go_wp2_with fail)
                                        go_ret
                                        exact ⟨rfl, by repeat (first | (with_reducible first | exact HB.out | apply below_alloc | apply pw_below_drewN | apply below_drew1) | exact HB.out)⟩
                                      · rw [if_neg c90] at H
                                        have H' := Aside0.mk H
                                        clear H
                                        repeat (go_quiet (fail); try go_wp2_with fail)
                                        go_roundg k4
                                        case measure => have := HJ8.out; have := HJ16.out; have := HJ21.out; have := HK4.out; omega
                                        case rel => exact ⟨(wrap64 (x15_4 + 1)), (by first | rfl | (simp; done) | (simp [*]; done)), H', ⟨by have := HJ8.out; have := HJ16.out; have := HJ21.out; have := HK4.out; omega⟩, ⟨by (with_reducible repeat (first | apply Kd.R_alloc | apply Kd.R_drewN | apply Kd.R_drew)); exact HO_6.out⟩, ⟨by (with_reducible repeat (first | apply Kd.R_alloc | apply Kd.R_drewN | apply Kd.R_drew)); exact HO_9.out⟩, ⟨by (with_reducible repeat (first | apply Kd.R_alloc | apply Kd.R_drewN | apply Kd.R_drew)); exact HO_12.out⟩, ⟨by repeat (first | (with_reducible first | exact HB.out | apply below_alloc | apply pw_below_drewN | apply below_drew1) | exact HB.out)⟩⟩
                                    · rw [if_neg c44] at H
                                      exact absurd H (by simp)
                                  · rw [if_neg c43] at H
                                    exact absurd H (by simp)
                                · rw [if_neg c42] at H
                                  exact absurd H (by simp)
                            · rw [if_neg c29] at H
                              have c29b0 : decide (x15_4 < (t238.length : Int)) = false := decide_eq_false c29
                              clear c29
                              obtain rfl := Option.some.inj H
                              obtain ⟨Ao56, co56, eo56⟩ := Kd.R_slice HO_12.out
                              subst eo56
                              go_wp2
                              repeat (go_quiet (fail); try go_wp2)
                              go_ret
                              exact ⟨by first | rfl | (simp [errW_none, errW_some] <;> rfl) | (simp [*, errW_none, errW_some] <;> rfl), by repeat (first | (with_reducible first | exact HB.out | apply below_alloc | apply pw_below_drewN | apply below_drew1) | exact HB.out)⟩
    · rw [if_neg c7] at H
      exact absurd H (by simp)
  · rw [if_neg c6] at H
    exact absurd H (by simp)

/-- THE ONE PURE STATEMENT of peculiumlaw01_LexPieces: yours. -/
def peculiumlaw01_LexPieces.Pure : Prop := ∀ (a0 : ByteArray) (a1 : ByteArray), a0.size ≤ 140737488351232 → a1.size ≤ 140737488351232 → ∃ k, peculiumlaw01_LexPieces.f k a0 a1 = some true
theorem peculiumlaw01_LexPieces.walk (P : peculiumlaw01_LexPieces.Pure) (a0 : ByteArray) (a1 : ByteArray) (w : World) (w0 : a0.size ≤ 140737488351232) (w1 : a1.size ≤ 140737488351232) :
    Calls Try.prog 7 #[.string a0, .string a1] w fun e w' => e = .returned (.bool true) ∧ Below w.heap.size w w' := by
  obtain ⟨k, h⟩ := P a0 a1 w0 w1
  refine (peculiumlaw01_LexPieces.calls k a0 a1 true w h).mono ?_
  rintro e w' ⟨rfl, hd⟩
  exact ⟨rfl, hd⟩

end Go.Proofs.Ytkolnimgdbhekaa.P
