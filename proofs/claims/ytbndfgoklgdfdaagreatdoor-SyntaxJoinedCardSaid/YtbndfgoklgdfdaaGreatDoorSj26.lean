/- SyntaxJoined (printed by mkjoin.py). The table of operators, as the row's condition lays it. -/
import Derived.Test.YtbndfgoklgdfdaaGreatDoorSj04
import Derived.Test.YtbndfgoklgdfdaaGreatDoorSj24
import Derived.Test.YtbndfgoklgdfdaaGreatDoorSj25
import Derived.Test.YtbndfgoklgdfdaaGreatDoorRows
import Derived.Test.YtbndfgoklgdfdaaGreatDoorSj12
import Derived.WalkKit
import Derived.ProofKit
import Derived.LaidMore
import Derived.OpenShut
import Derived.Deep.Strs
import Derived.Stop.Joined
set_option linter.all false
section
set_option linter.unusedSimpArgs false
namespace Go.Proofs.YtbndfgoklgdfdaaGreatDoor.P
open Go.RowKit Go.Proofs.YtbndfgoklgdfdaaGreatDoorW.PrintWords Go.Proofs.YtbndfgoklgdfdaaGreatDoorW.PrintLast Go.Proofs.YtbndfgoklgdfdaaGreatDoorW.PrintMore
theorem nd4 {n : Tree} (h : checkT n = 0) : n.f2.length ≤ 4000 := by
 have h1 : ¬ 4000 < cntT n 0 := by
  intro h1
  unfold checkT at h
  rw [if_pos h1] at h
  cases h
 rw [cnt_nd] at h1
 obtain ⟨k, s, l⟩ := n
 rw [ndT] at h1
 have := nd_len l
 show l.length ≤ 4000
 omega
def jn (s t : ByteArray) : ByteArray := s ++ ⟨#[10]⟩ ++ t
theorem jn_bytes (s t : ByteArray) : (jn s t).data.toList = s.data.toList ++ 10 :: t.data.toList := by
 unfold jn
 simp
theorem jn_size (s t : ByteArray) : (jn s t).size = s.size + 1 + t.size := by
 unfold jn
 rw [ByteArray.size_append, ByteArray.size_append]
 rfl
set_option maxRecDepth 100000 in
set_option maxHeartbeats 8000000 in
theorem joined_on (s t : ByteArray) (hs : s.size ≤ strMax) (ht : t.size ≤ strMax) (w : World) (hg : GOK w) :
  Calls Tryz.prog 3 #[.string s, .string t] w fun e W' => e = .returned (.bool true) ∧ Below w.heap.size w W' := by
 obtain ⟨k, hk⟩ : ∃ k, k = roundsP (scanL s.data.toList).1 + (roundsP (scanL t.data.toList).1 + roundsP (scanL (jn s t).data.toList).1) := ⟨_, rfl⟩
 have f1 := (text_fine _ (scanL_small s hs).2 (scanL_small s hs).1 k (by omega)).1
 have f2 := (text_fine _ (scanL_small t ht).2 (scanL_small t ht).1 k (by omega)).1
 have c1 := fun w (hg : GOK w) => Parse_onK k s (by omega) hs w hg
 have c2 := fun w (hg : GOK w) => Parse_onK k t (by omega) ht w hg
 have f3 := fun (hj : (jn s t).size ≤ strMax) => (text_fine _ (scanL_small (jn s t) hj).2 (scanL_small (jn s t) hj).1 k (by omega)).1
 have c3 := fun (hj : (jn s t).size ≤ strMax) w (hg : GOK w) => Parse_onK k (jn s t) (by omega) hj w hg
 clear hk
 have law := fun hj n1 n2 p1 p2 => joined_law (k := k) (n1 := n1) (n2 := n2) (p1 := p1) (p2 := p2) (jn_bytes s t) f1 f2 (f3 hj)
 have p1ok := fun n p => parse_ok (n := n) (p := p) f1
 have p2ok := fun n p => parse_ok (n := n) (p := p) f2
 clear f1 f2 f3
 obtain ⟨⟨n1, q1, e1⟩, hX1⟩ : ∃ X, X = parseT (textP k) s := ⟨_, rfl⟩
 obtain ⟨⟨n2, q2, e2⟩, hX2⟩ : ∃ X, X = parseT (textP k) t := ⟨_, rfl⟩
 obtain ⟨⟨n3, q3, e3⟩, hX3⟩ : ∃ X, X = parseT (textP k) (jn s t) := ⟨_, rfl⟩
 simp only [← hX1] at c1 p1ok law
 simp only [← hX2] at c2 p2ok law
 simp only [← hX3] at c3 law
 have key : e1 ≠ 0 ∨ e1 = 0 ∧ (e2 ≠ 0 ∨ e2 = 0 ∧ ((jn s t).size ≤ strMax ∧ s.size ≤ 20000 ∧ t.size ≤ 20000 ∧ n1.f2.length ≤ 4000 ∧ n2.f2.length ≤ 4000 ∧ (e3 = 2 ∨ e3 = 0 ∧ ∃ L, L = n1.f2 ++ n2.f2 ∧ n3 = ⟨1, ⟨#[]⟩, L⟩))) := by
  by_cases h1 : e1 = 0
  ·subst h1
   refine .inr ⟨rfl, ?_⟩
   by_cases h2 : e2 = 0
   ·subst h2
    refine .inr ⟨rfl, ?_⟩
    obtain ⟨l1, hl1, _, hc1, _⟩ := p1ok _ _ rfl
    obtain ⟨l2, hl2, _, hc2, _⟩ := p2ok _ _ rfl
    have z1 := (toks_of_scanL hl1).1
    have z2 := (toks_of_scanL hl2).1
    rw [Array.length_toList] at z1 z2
    have z1 : s.size ≤ 20000 := z1
    have z2 : t.size ≤ 20000 := z2
    have hj : (jn s t).size ≤ strMax := by rw [jn_size]; have h_ : 40001 ≤ strMax := (by decide); omega
    refine ⟨hj, z1, z2, nd4 hc1, nd4 hc2, ?_⟩
    rcases law hj n1 n2 _ _ rfl rfl with h | h
    ·exact .inl h
    ·simp only [Prod.mk.injEq] at h
     exact .inr ⟨h.2.2, _, rfl, h.1⟩
   ·exact .inl h2
  ·exact .inl h1
 clear law p1ok p2ok hX1 hX2 hX3
 have HG := Lib.hid hg
 have HF := Lib.hid (Fz.refl w)
 have HP1 := Lib.hid c1
 have HP2 := Lib.hid c2
 have HC3 := Lib.hid c3
 clear c1 c2 c3 hg hs ht
 rcases key with he1 | ⟨rfl, he2 | ⟨rfl, hj, z1, z2, l1, l2, rfl | ⟨rfl, L, hL, rfl⟩⟩⟩
 ·have he1b : (e1 != 0) = true := bne_iff_ne.2 he1
  clear HC3
  go_enter Tryz.func3, Tryz.ntmps3
  go_wp2_with (first
   | (go_at_call 7; refine (sane_on _ (HG.out.below HF.out.below)).mono ?_; rintro e w1 ⟨rfl, hb_⟩; replace HF := Lib.hid (HF.out.step hb_); clear hb_)
   | (go_at_call 8; refine (HP1.out _ (HG.out.below HF.out.below)).mono ?_; rintro e w2 ⟨A1, c1, rfl, hR_, hb_⟩; clear HP1; replace HF := Lib.hid (HF.out.row hb_ (Nat.le_refl _) hR_); clear hR_ hb_)
   | ((with_reducible refine gate_dst (N := 6) rfl ?_); refine ez_box (t := 25) (cs := zN) HF rfl rfl (run_node rfl) ?_; clear HF; intro b6 w3 HF)
   | ((with_reducible refine gate_store (t := 25) (p := 6) rfl ?_); refine ez_put (p := 6) HF rfl rfl rfl rfl rfl rfl rfl ?_; clear HF; intro w4 HF)
   | (go_at_call 8; refine (HP2.out _ (HG.out.below HF.out.below)).mono ?_; rintro e w5 ⟨A2, c2, rfl, hR_, hb_⟩; clear HP2; replace HF := Lib.hid (HF.out.row hb_ (Nat.le_refl _) hR_); clear hR_ hb_)
   | ((with_reducible refine gate_dst (N := 9) rfl ?_); refine ez_box (t := 25) (cs := zN) HF rfl rfl (run_node rfl) ?_; clear HF; intro b9 w6 HF)
   | ((with_reducible refine gate_store (t := 25) (p := 9) rfl ?_); refine ez_put (p := 9) HF rfl rfl rfl rfl rfl rfl rfl ?_; clear HF; intro w7 HF))
  go_ret
  exact ⟨rfl, HF.out.below⟩
 ·have he2b : (e2 != 0) = true := bne_iff_ne.2 he2
  clear HC3
  go_enter Tryz.func3, Tryz.ntmps3
  go_wp2_with (first
   | (go_at_call 7; refine (sane_on _ (HG.out.below HF.out.below)).mono ?_; rintro e w8 ⟨rfl, hb_⟩; replace HF := Lib.hid (HF.out.step hb_); clear hb_)
   | (go_at_call 8; refine (HP1.out _ (HG.out.below HF.out.below)).mono ?_; rintro e w9 ⟨A1, c1, rfl, hR_, hb_⟩; clear HP1; replace HF := Lib.hid (HF.out.row hb_ (Nat.le_refl _) hR_); clear hR_ hb_)
   | ((with_reducible refine gate_dst (N := 6) rfl ?_); refine ez_box (t := 25) (cs := zN) HF rfl rfl (run_node rfl) ?_; clear HF; intro b6 w10 HF)
   | ((with_reducible refine gate_store (t := 25) (p := 6) rfl ?_); refine ez_put (p := 6) HF rfl rfl rfl rfl rfl rfl rfl ?_; clear HF; intro w11 HF)
   | (go_at_call 8; refine (HP2.out _ (HG.out.below HF.out.below)).mono ?_; rintro e w12 ⟨A2, c2, rfl, hR_, hb_⟩; clear HP2; replace HF := Lib.hid (HF.out.row hb_ (Nat.le_refl _) hR_); clear hR_ hb_)
   | ((with_reducible refine gate_dst (N := 9) rfl ?_); refine ez_box (t := 25) (cs := zN) HF rfl rfl (run_node rfl) ?_; clear HF; intro b9 w13 HF)
   | ((with_reducible refine gate_store (t := 25) (p := 9) rfl ?_); refine ez_put (p := 9) HF rfl rfl rfl rfl rfl rfl rfl ?_; clear HF; intro w14 HF))
  go_ret
  exact ⟨rfl, HF.out.below⟩
 ·have HP3 := Lib.hid (HC3.out hj)
  clear HC3 hj
  have hz1 : (9223372036854775807 < s.size + 1) = False := eq_false (by omega)
  have hz2 : (9223372036854775807 < s.size + 1 + t.size) = False := eq_false (by omega)
  unfold jn at HP3
  go_enter Tryz.func3, Tryz.ntmps3
  go_wp2_with (first
   | (go_at_call 7; refine (sane_on _ (HG.out.below HF.out.below)).mono ?_; rintro e w15 ⟨rfl, hb_⟩; replace HF := Lib.hid (HF.out.step hb_); clear hb_)
   | (go_at_call 8; refine (HP1.out _ (HG.out.below HF.out.below)).mono ?_; rintro e w16 ⟨A1, c1, rfl, hR_, hb_⟩; clear HP1; replace HF := Lib.hid (HF.out.row hb_ (Nat.le_refl _) hR_); clear hR_ hb_)
   | ((with_reducible refine gate_dst (N := 6) rfl ?_); refine ez_box (t := 25) (cs := zN) HF rfl rfl (run_node rfl) ?_; clear HF; intro b6 w17 HF)
   | ((with_reducible refine gate_store (t := 25) (p := 6) rfl ?_); refine ez_put (p := 6) HF rfl rfl rfl rfl rfl rfl rfl ?_; clear HF; intro w18 HF)
   | (go_at_call 8; refine (HP2.out _ (HG.out.below HF.out.below)).mono ?_; rintro e w19 ⟨A2, c2, rfl, hR_, hb_⟩; clear HP2; replace HF := Lib.hid (HF.out.row hb_ (Nat.le_refl _) hR_); clear hR_ hb_)
   | ((with_reducible refine gate_dst (N := 9) rfl ?_); refine ez_box (t := 25) (cs := zN) HF rfl rfl (run_node rfl) ?_; clear HF; intro b9 w20 HF)
   | ((with_reducible refine gate_store (t := 25) (p := 9) rfl ?_); refine ez_put (p := 9) HF rfl rfl rfl rfl rfl rfl rfl ?_; clear HF; intro w21 HF)
   | (go_at_call 8; refine (HP3.out _ (HG.out.below HF.out.below)).mono ?_; rintro e w22 ⟨A3, c3, rfl, hR_, hb_⟩; clear HP3; replace HF := Lib.hid (HF.out.row hb_ (Nat.le_refl _) hR_); clear hR_ hb_)
   | ((with_reducible refine gate_dst (N := 12) rfl ?_); refine ez_box (t := 25) (cs := zN) HF rfl rfl (run_node rfl) ?_; clear HF; intro b12 w23 HF)
   | ((with_reducible refine gate_store (t := 25) (p := 12) rfl ?_); refine ez_put (p := 12) HF rfl rfl rfl rfl rfl rfl rfl ?_; clear HF; intro w24 HF))
  go_ret
  exact ⟨rfl, HF.out.below⟩
 ·have HLL := Lib.hid hL
  clear hL
  have HP3 := Lib.hid (HC3.out hj)
  clear HC3 hj
  have hz1 : (9223372036854775807 < s.size + 1) = False := eq_false (by omega)
  have hz2 : (9223372036854775807 < s.size + 1 + t.size) = False := eq_false (by omega)
  unfold jn at HP3
  go_enter Tryz.func3, Tryz.ntmps3
  go_wp2_with (first
   | (go_at_call 7; refine (sane_on _ (HG.out.below HF.out.below)).mono ?_; rintro e w25 ⟨rfl, hb_⟩; replace HF := Lib.hid (HF.out.step hb_); clear hb_)
   | (go_at_call 8; refine (HP1.out _ (HG.out.below HF.out.below)).mono ?_; rintro e w26 ⟨A1, c1, rfl, hR_, hb_⟩; clear HP1; replace HF := Lib.hid (HF.out.row hb_ (Nat.le_refl _) hR_); clear hR_ hb_)
   | ((with_reducible refine gate_dst (N := 6) rfl ?_); refine ez_box (t := 25) (cs := zN) HF rfl rfl (run_node rfl) ?_; clear HF; intro b6 w27 HF)
   | ((with_reducible refine gate_store (t := 25) (p := 6) rfl ?_); refine ez_put (p := 6) HF rfl rfl rfl rfl rfl rfl rfl ?_; clear HF; intro w28 HF)
   | (go_at_call 8; refine (HP2.out _ (HG.out.below HF.out.below)).mono ?_; rintro e w29 ⟨A2, c2, rfl, hR_, hb_⟩; clear HP2; replace HF := Lib.hid (HF.out.row hb_ (Nat.le_refl _) hR_); clear hR_ hb_)
   | ((with_reducible refine gate_dst (N := 9) rfl ?_); refine ez_box (t := 25) (cs := zN) HF rfl rfl (run_node rfl) ?_; clear HF; intro b9 w30 HF)
   | ((with_reducible refine gate_store (t := 25) (p := 9) rfl ?_); refine ez_put (p := 9) HF rfl rfl rfl rfl rfl rfl rfl ?_; clear HF; intro w31 HF)
   | (go_at_call 8; refine (HP3.out _ (HG.out.below HF.out.below)).mono ?_; rintro e w32 ⟨A3, c3, rfl, hR_, hb_⟩; clear HP3; replace HF := Lib.hid (HF.out.row hb_ (Nat.le_refl _) hR_); clear hR_ hb_)
   | ((with_reducible refine gate_dst (N := 12) rfl ?_); refine ez_box (t := 25) (cs := zN) HF rfl rfl (run_node rfl) ?_; clear HF; intro b12 w33 HF)
   | ((with_reducible refine gate_store (t := 25) (p := 12) rfl ?_); refine ez_put (p := 12) HF rfl rfl rfl rfl rfl rfl rfl ?_; clear HF; intro w34 HF))
  go_wp2_with fail
  go_wp2_with fail
  replace HF := Lib.hid HF.out.drew
  refine wp_only ?_
  refine start_ (n := 8) (S := (fun w' => True ∧ w'.cell? (⟨b6, 2, none⟩) = some (.slice A1 n1.f2.length c1) ∧ w'.cell? (⟨b9, 2, none⟩) = some (.slice A2 n2.f2.length c2))) (ds := [6]) #[false, false, false, false, false, false, false, false] (by kernel_rfl) rfl rfl ?_ (fun hHeld => ?_)
  ·exact ⟨trivial, (blk_cell HF.out.b4 2).trans rfl, (blk_cell HF.out.b2 2).trans rfl⟩
  refine pqo 1 #[false, true, false, false, false, false, false, false] (h := ?_)
  refine pqo 4 #[false, true, false, false, true, false, false, false] (h := ?_)
  refine tqo hHeld 2 #[false, true, true, false, true, false, false, false] (h := ?_)
  refine tqo hHeld 5 #[false, true, true, false, true, true, false, false] (h := ?_)
  refine one_ (i := 0) (N := some 52) #[true, true, true, false, true, true, false, false] rfl rfl (by kernel_rfl) (by decide) (fun K hK => ?_)
  clear hHeld
  refine jn_lit HF.out.below (N := 52) rfl rfl rfl ?_
  intro v1 w35 hj1
  have HJ := Lib.hid hj1
  clear hj1
  refine hK.out _ _ (⟨trivial, pw_cell_below HJ.out.2.1 ((blk_cell HF.out.b4 2).trans rfl), pw_cell_below HJ.out.2.1 ((blk_cell HF.out.b2 2).trans rfl)⟩) (fun hHeld => ?_)
  clear hK K
  (try simp only [Act.put, List.setIfInBounds_toArray, List.set_cons_zero, List.set_cons_succ])
  refine one_ (i := 3) (N := some 55) #[true, true, true, true, true, true, false, false] rfl rfl (by kernel_rfl) (by decide) (fun K hK => ?_)
  clear hHeld
  refine jn_app HF.out.below HJ.out (show Kd.R k25 25 _ _ _ (.slice A1 n1.f2.length c1) n1.f2 from HF.out.b5) (Nat.le_refl _) rfl (.tmp 52) (.tmp 54) rfl rfl rfl (by simp; omega) ?_
  intro v2 w36 hj1
  replace HJ := Lib.hid hj1
  clear hj1
  refine hK.out _ _ (⟨trivial, pw_cell_below HJ.out.2.1 ((blk_cell HF.out.b4 2).trans rfl), pw_cell_below HJ.out.2.1 ((blk_cell HF.out.b2 2).trans rfl)⟩) (fun hHeld => ?_)
  clear hK K
  (try simp only [Act.put, List.setIfInBounds_toArray, List.set_cons_zero, List.set_cons_succ])
  refine last_ (i := 6) (N := some 58) #[true, true, true, true, true, true, true, false] rfl rfl (by kernel_rfl) (by decide) (fun K hK => ?_)
  refine jn_app HF.out.below HJ.out (show Kd.R k25 25 _ _ _ (.slice A2 n2.f2.length c2) n2.f2 from HF.out.b3) (Nat.le_refl _) rfl (.tmp 55) (.tmp 57) rfl rfl rfl (by simp; omega) ?_
  intro v3 w37 hj1
  replace HJ := Lib.hid hj1
  clear hj1
  refine hK.out _ _ ?_
  clear hK K
  (try simp only [Act.put, List.setIfInBounds_toArray, List.set_cons_zero, List.set_cons_succ])
  refine pqo 7 (fl 8 8) (h := ?_)
  refine done_ (by kernel_rfl) ⟨rfl, ?_⟩
  skip
  try simp only [Act.put, List.setIfInBounds_toArray, List.set_cons_zero, List.set_cons_succ]
  have hj1 := HJ.out
  rw [List.nil_append, ← HLL.out] at hj1
  obtain ⟨A4, c4, rfl, hl4, hC4⟩ := jn_C hj1
  have HL4 := Lib.hid hl4
  have HC4 := Lib.hid hC4
  replace HF := Lib.hid (HF.out.step hj1.2.1)
  clear hj1 HJ hl4 hC4
  obtain ⟨q38a, q38b, q38c⟩ := rd3 HF.out.b0
  go_wp2_with fail
  go_wp2_with (first
   | (go_at_call 9; refine (rSame_on _ (⟨1, ⟨#[]⟩, L⟩ : Tree) (Nat.lt_succ_self _) (⟨1, ⟨#[]⟩, L⟩ : Tree) A3 A4 c3 c4 _ (Kd.R_reads' (show Kd.R k25 25 _ _ _ (.slice A3 L.length c3) L from HF.out.b1)).2.1 (Kd.R_reads' (show Kd.R k25 25 _ _ _ (.slice A3 L.length c3) L from HF.out.b1)).2.2 HL4.out HC4.out).mono ?_; rw [(sameT_eq (⟨1, ⟨#[]⟩, L⟩ : Tree) (⟨1, ⟨#[]⟩, L⟩ : Tree)).2 rfl]; rintro e w39 ⟨rfl, hb_⟩; replace HF := Lib.hid (HF.out.step hb_); clear hb_ q38a q38b q38c))
  go_ret
  exact ⟨rfl, HF.out.below⟩
end Go.Proofs.YtbndfgoklgdfdaaGreatDoor.P
end
section
set_option linter.unusedSimpArgs false
namespace Go.Proofs.YtbndfgoklgdfdaaGreatDoor.P
open Go.ChangeShapes Go.WideShapes Go.ChangeAt Go.RowKit
theorem own : ownKnob Tryz.prog.godebug = none := by kernel_rfl
theorem gOps : Tryz.prog.globalNamed "peculium/syntax.operators" = some 0 := by kernel_rfl
theorem tOps : (Tryz.prog.globals[0]?).map (·.type) = some 145 := by kernel_rfl
def laidOps : List (String × DataW Unit) := [("peculium/syntax.operators", Rows.laid_peculium_syntax_operators)]
theorem door_met (os : Os) (args : Array Value) : laidMetH Tryz.prog laidOps ((World.doorLaid Tryz.prog 400 os).forCall (fun _ _ => 0) ⟨#[], args, []⟩).memory :=
 laidMetH_of_parts3 (fuel := 8) (laidMet_of_run' 8 (by kernel_rfl) (by kernel_rfl)) (by kernel_rfl) (by kernel_rfl)
set_option maxRecDepth 100000 in
theorem trod_op {H : Type} {enc : TypeId × Value → H} {w : World} {base : Nat} {sp : Nat → Bool} {held : Bool} {n : Nat} {cs : List Value} {y : DataW H × List MemPlace}
  (h : DataW.trod enc Tryz.prog w base sp held n 129 cs = some y) : ∃ (s : ByteArray) (a b : Int), cs = [.string s, .int .i64 a, .int .i64 b] ∧ y.1 = .agg [.lit (.string s.data.toList), .lit (.int .i64 a), .lit (.int .i64 b)] := by
 obtain ⟨y0, y1, y2, m, hy, hl, h0, h1, h2⟩ := Go.Deep.trod_struct3 Tryz.underlying129 h
 have c3 : Tryz.prog.cellsOf 129 = 3 := by kernel_rfl
 have c1 : Tryz.prog.cellsOf 3 = 1 := by kernel_rfl
 have c9 : Tryz.prog.cellsOf 9 = 1 := by kernel_rfl
 rw [c3] at hl
 match cs, hl with
 | [v0, v1, v2], _ =>
  simp [c1, c9] at h0 h1 h2
  obtain ⟨s1, e1, z1, w1⟩ := DataW.trod_string Tryz.underlying9 h0
  obtain ⟨n0, e0, z0, w0⟩ := DataW.trod_int Tryz.underlying3 h1
  obtain ⟨n2, e2, z2, w2⟩ := DataW.trod_int Tryz.underlying3 h2
  simp at e0 e1 e2
  subst e0 e1 e2 z0 z1 z2
  exact ⟨s1, n0, n2, rfl, by rw [hy]⟩
set_option maxRecDepth 100000 in
theorem gok_of_laid {W : World} (h : laidMetH Tryz.prog laidOps W) : GOK W := by
 rw [MakeChecks.laidMetH_plain _ _ _ (by kernel_rfl)] at h
 obtain ⟨ps, ⟨g0, t0, cs0, f0, p0, q0, hg0, ht0, hv0, hd0, _⟩, _⟩ := h
 obtain rfl := Option.some.inj (gOps.symm.trans hg0)
 obtain rfl := Option.some.inj (tOps.symm.trans ht0)
 obtain ⟨xs, m1, rfl, hx1, hlen, hn, hel⟩ := DataW.trod_array Tryz.underlying145 hd0
 have c129 : Tryz.prog.cellsOf 129 = 3 := by kernel_rfl
 have c145 : Tryz.prog.cellsOf 145 = 21 := by kernel_rfl
 rw [c129] at hel
 rw [c145] at hlen
 have e := (Prod.mk.inj hx1).1
 clear hd0 hx1 ht0
 match xs, hn, hel, e with
 | [x0, x1, x2, x3, x4, x5, x6], _, hel, e =>
  simp only [Rows.laid_peculium_syntax_operators, List.map_cons, List.map_nil, DataW.agg.injEq, List.cons.injEq, and_true] at e
  obtain ⟨e0, e1, e2, e3, e4, e5, e6⟩ := e
  obtain ⟨l, hl⟩ : ∃ l, l = cs0.toList := ⟨_, rfl⟩
  rw [← hl] at hlen hel
  match l, hlen, hl, hel with
  | [c0, c1, c2, c3, c4, c5, c6, c7, c8, c9, c10, c11, c12, c13, c14, c15, c16, c17, c18, c19, c20], _, hl, hel =>
   obtain ⟨s0, a0, b0, k0, d0⟩ := trod_op ((hel 0 (by decide)).trans rfl)
   rw [← e0] at d0
   simp only [DataW.agg.injEq, List.cons.injEq, and_true, DataW.lit.injEq, Lit.string.injEq, Lit.int.injEq, true_and] at d0
   simp only [List.drop_succ_cons, List.drop_zero, List.take_succ_cons, List.take_zero, Nat.zero_mul, Nat.reduceMul, List.cons.injEq, and_true] at k0
   obtain ⟨f0, g0, h0⟩ := d0
   obtain ⟨p0, q0, r0⟩ := k0
   subst p0 q0 r0 g0 h0
   have t0 : s0 = ⟨s0.data.toList.toArray⟩ := by simp
   rw [← f0] at t0
   subst t0
   clear f0
   obtain ⟨s1, a1, b1, k1, d1⟩ := trod_op ((hel 1 (by decide)).trans rfl)
   rw [← e1] at d1
   simp only [DataW.agg.injEq, List.cons.injEq, and_true, DataW.lit.injEq, Lit.string.injEq, Lit.int.injEq, true_and] at d1
   simp only [List.drop_succ_cons, List.drop_zero, List.take_succ_cons, List.take_zero, Nat.zero_mul, Nat.reduceMul, List.cons.injEq, and_true] at k1
   obtain ⟨f1, g1, h1⟩ := d1
   obtain ⟨p1, q1, r1⟩ := k1
   subst p1 q1 r1 g1 h1
   have t1 : s1 = ⟨s1.data.toList.toArray⟩ := by simp
   rw [← f1] at t1
   subst t1
   clear f1
   obtain ⟨s2, a2, b2, k2, d2⟩ := trod_op ((hel 2 (by decide)).trans rfl)
   rw [← e2] at d2
   simp only [DataW.agg.injEq, List.cons.injEq, and_true, DataW.lit.injEq, Lit.string.injEq, Lit.int.injEq, true_and] at d2
   simp only [List.drop_succ_cons, List.drop_zero, List.take_succ_cons, List.take_zero, Nat.zero_mul, Nat.reduceMul, List.cons.injEq, and_true] at k2
   obtain ⟨f2, g2, h2⟩ := d2
   obtain ⟨p2, q2, r2⟩ := k2
   subst p2 q2 r2 g2 h2
   have t2 : s2 = ⟨s2.data.toList.toArray⟩ := by simp
   rw [← f2] at t2
   subst t2
   clear f2
   obtain ⟨s3, a3, b3, k3, d3⟩ := trod_op ((hel 3 (by decide)).trans rfl)
   rw [← e3] at d3
   simp only [DataW.agg.injEq, List.cons.injEq, and_true, DataW.lit.injEq, Lit.string.injEq, Lit.int.injEq, true_and] at d3
   simp only [List.drop_succ_cons, List.drop_zero, List.take_succ_cons, List.take_zero, Nat.zero_mul, Nat.reduceMul, List.cons.injEq, and_true] at k3
   obtain ⟨f3, g3, h3⟩ := d3
   obtain ⟨p3, q3, r3⟩ := k3
   subst p3 q3 r3 g3 h3
   have t3 : s3 = ⟨s3.data.toList.toArray⟩ := by simp
   rw [← f3] at t3
   subst t3
   clear f3
   obtain ⟨s4, a4, b4, k4, d4⟩ := trod_op ((hel 4 (by decide)).trans rfl)
   rw [← e4] at d4
   simp only [DataW.agg.injEq, List.cons.injEq, and_true, DataW.lit.injEq, Lit.string.injEq, Lit.int.injEq, true_and] at d4
   simp only [List.drop_succ_cons, List.drop_zero, List.take_succ_cons, List.take_zero, Nat.zero_mul, Nat.reduceMul, List.cons.injEq, and_true] at k4
   obtain ⟨f4, g4, h4⟩ := d4
   obtain ⟨p4, q4, r4⟩ := k4
   subst p4 q4 r4 g4 h4
   have t4 : s4 = ⟨s4.data.toList.toArray⟩ := by simp
   rw [← f4] at t4
   subst t4
   clear f4
   obtain ⟨s5, a5, b5, k5, d5⟩ := trod_op ((hel 5 (by decide)).trans rfl)
   rw [← e5] at d5
   simp only [DataW.agg.injEq, List.cons.injEq, and_true, DataW.lit.injEq, Lit.string.injEq, Lit.int.injEq, true_and] at d5
   simp only [List.drop_succ_cons, List.drop_zero, List.take_succ_cons, List.take_zero, Nat.zero_mul, Nat.reduceMul, List.cons.injEq, and_true] at k5
   obtain ⟨f5, g5, h5⟩ := d5
   obtain ⟨p5, q5, r5⟩ := k5
   subst p5 q5 r5 g5 h5
   have t5 : s5 = ⟨s5.data.toList.toArray⟩ := by simp
   rw [← f5] at t5
   subst t5
   clear f5
   obtain ⟨s6, a6, b6, k6, d6⟩ := trod_op ((hel 6 (by decide)).trans rfl)
   rw [← e6] at d6
   simp only [DataW.agg.injEq, List.cons.injEq, and_true, DataW.lit.injEq, Lit.string.injEq, Lit.int.injEq, true_and] at d6
   simp only [List.drop_succ_cons, List.drop_zero, List.take_succ_cons, List.take_zero, Nat.zero_mul, Nat.reduceMul, List.cons.injEq, and_true] at k6
   obtain ⟨f6, g6, h6⟩ := d6
   obtain ⟨p6, q6, r6⟩ := k6
   subst p6 q6 r6 g6 h6
   have t6 : s6 = ⟨s6.data.toList.toArray⟩ := by simp
   rw [← f6] at t6
   subst t6
   clear f6
   refine ⟨fun i hi => ?_, ?_⟩
   ·have hc := World.var?_cell hg0 hv0 i
    rw [hc, ← Array.getElem?_toList, ← hl]
    rfl
   ·have hc := World.var?_cell hg0 hv0 0
    rw [← Array.getElem?_toList, ← hl] at hc
    exact World.block_lt_of_cell? W ⟨0, 0, none⟩ (hc.trans rfl)
end Go.Proofs.YtbndfgoklgdfdaaGreatDoor.P
end
