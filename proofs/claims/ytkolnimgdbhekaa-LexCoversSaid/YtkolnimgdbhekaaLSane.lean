/- peculiumlaw01.sane: it returns true. -/
import Derived.Test.YtkolnimgdbhekaaLWritten
import Derived.Test.YtkolnimgdbhekaaLPlace
import Derived.Test.YtkolnimgdbhekaaLComm
import Derived.Test.YtkolnimgdbhekaaPx11
namespace Go.Proofs.Ytkolnimgdbhekaa.P
open Go.RowKit Go.Proofs.YtkolnimgdbhekaaW.PrintWords Go.Proofs.YtkolnimgdbhekaaW.PrintLast Go.Proofs.YtkolnimgdbhekaaW.PrintMore

def saneA : List S34 := [⟨4, ⟨#[114, 117, 108, 101]⟩, 0⟩, ⟨1, ⟨#[114]⟩, 5⟩, ⟨3, ⟨#[58]⟩, 7⟩, ⟨4, ⟨#[97, 108, 108]⟩, 9⟩, ⟨1, ⟨#[120]⟩, 13⟩, ⟨3, ⟨#[46]⟩, 14⟩, ⟨1, ⟨#[112]⟩, 16⟩, ⟨1, ⟨#[120]⟩, 18⟩, ⟨3, ⟨#[45, 111]⟩, 20⟩, ⟨1, ⟨#[113]⟩, 23⟩, ⟨3, ⟨#[46]⟩, 24⟩]
theorem saneA_f : lex_Scan.f ⟨#[114, 117, 108, 101, 32, 114, 32, 58, 32, 97, 108, 108, 32, 120, 46, 32, 112, 32, 120, 32, 45, 111, 32, 113, 46]⟩ = some (saneA, 0, 0) := by kernel_rfl
def saneB : List S34 := [⟨1, ⟨#[97]⟩, 0⟩, ⟨3, ⟨#[111, 45]⟩, 2⟩, ⟨2, ⟨#[66, 49]⟩, 5⟩, ⟨3, ⟨#[60, 61]⟩, 8⟩, ⟨1, ⟨#[99, 39, 64, 109]⟩, 11⟩]
theorem saneB_f : lex_Scan.f ⟨#[97, 32, 111, 45, 32, 66, 49, 32, 60, 61, 32, 99, 39, 64, 109]⟩ = some (saneB, 0, 0) := by kernel_rfl
def saneC : List S34 := [⟨3, ⟨#[111, 45]⟩, 0⟩, ⟨1, ⟨#[111]⟩, 2⟩]
theorem saneC_f : lex_Scan.f ⟨#[111, 45, 111]⟩ = some (saneC, 0, 0) := by kernel_rfl
def saneD : List S34 := []
theorem saneD_f : lex_Scan.f ⟨#[112, 32, 37, 32, 113, 10, 35]⟩ = some (saneD, 6, 10) := by kernel_rfl
def saneL : List S34 := [⟨1, ⟨#[112]⟩, 0⟩, ⟨1, ⟨#[120]⟩, 0⟩, ⟨3, ⟨#[45, 111]⟩, 0⟩, ⟨1, ⟨#[113]⟩, 0⟩]
theorem saneL_tight : lex_Tight.f saneL = some ⟨#[112, 32, 120, 45, 111, 32, 113]⟩ := by kernel_rfl
theorem saneL_join : lex_Join.f saneL = some ⟨#[112, 32, 120, 32, 45, 111, 32, 113]⟩ := by kernel_rfl
theorem sane_place : lex_Place.f ⟨#[97, 98, 10, 99]⟩ 3 = some (2, 1, 0) := by kernel_rfl
theorem sane_com : (comS none 0 [97, 37, 98, 10, 37, 37]).length = 2 := by kernel_rfl
theorem sane_all : lex_IsName.f ⟨#[97, 108, 108]⟩ = some false := by kernel_rfl
theorem sane_xm : lex_IsName.f ⟨#[120, 64, 109]⟩ = some true := by kernel_rfl

theorem cellsT_get : ∀ (l : List S34) (j : Nat) (x : S34) (i : Nat) (u : Value), l[j]? = some x → ([.int .i64 x.f0, .string x.f1, .int .i64 x.f2] : List Value)[i]? = some u → (cellsT l)[j * 3 + i]? = some u
  | [], j, x, i, u, h, _ => by simp at h
  | y :: l, 0, x, i, u, h, hu => by
    obtain rfl : y = x := by simpa using h
    match i, hu with
    | 0, hu => simpa [cellsT] using hu
    | 1, hu => simpa [cellsT] using hu
    | 2, hu => simpa [cellsT] using hu
  | y :: l, j + 1, x, i, u, h, hu => by
    have ih := cellsT_get l j x i u (by simpa using h) hu
    rw [show (j + 1) * 3 + i = (j * 3 + i) + 3 by omega]
    simpa [cellsT] using ih
theorem rowT_C {w : World} {b : Nat} {l : List S34} {t : TypeId} (h : w.heap[b]? = some (.cells (cellsT l).toArray t (0, 0))) (hl : l.length ≤ 9223372036854775807 := by decide) : Kd.C k34 w (some ⟨b, 0, none⟩) l.length l := by
  refine ⟨rfl, hl, fun _ => ⟨_, rfl, fun j p hj => ⟨_, rfl, k34_mk w p, fun i u hi => ?_⟩⟩⟩
  have hadd : ∀ n, (⟨b, 0, none⟩ : Addr).add n = ⟨b, n, none⟩ := fun n => by unfold Addr.add; split <;> simp_all
  rw [hadd, cell_of_row _ _ _ _ _ (0, 0) h, List.getElem?_toArray]
  exact cellsT_get l j p i u hj hi

/-- Of a row of tokens that the call owns: where it lies, and what its cells hold. -/
theorem R_cells {w : World} {base : Nat} {ok : Nat → Prop} {v : Value} {l : List S34} (h : Kd.R k34 34 w base ok v l) (hl : l ≠ []) :
    ∃ g c, v = .slice (some ⟨g, 0, none⟩) l.length c ∧ ∀ (i : Nat) (x : S34), l[i]? = some x → w.cell? ⟨g, i * 3, none⟩ = some (.int .i64 x.f0) ∧ w.cell? ⟨g, i * 3 + 1, none⟩ = some (.string x.f1) ∧ w.cell? ⟨g, i * 3 + 2, none⟩ = some (.int .i64 x.f2) := by
  obtain ⟨inner, hown⟩ := Kd.R_own h
  rcases hown.2 with ⟨_, h0⟩ | ⟨g, cap, cur, rfl, _⟩
  · exact absurd (List.length_eq_zero_iff.1 h0) hl
  · refine ⟨g, cap, rfl, fun i x hx => ?_⟩
    have hlt : i < l.length := (List.getElem?_eq_some_iff.1 hx).1
    obtain ⟨_, _, hC⟩ := Kd.R_reads' h
    obtain ⟨ad, e, h0, h1, h2⟩ := at_T34 hC i (by omega) (by omega)
    obtain rfl : (⟨g, 0, none⟩ : Addr) = ad := Option.some.inj e
    have hadd : ∀ n, (⟨g, 0, none⟩ : Addr).add n = ⟨g, n, none⟩ := fun n => by unfold Addr.add; split <;> simp_all
    have hrd : rd_T34 l i = x := by simp [rd_T34, hx]
    rw [Int.toNat_natCast, hadd, hrd] at h0 h1 h2
    exact ⟨h0, h1, h2⟩

set_option maxHeartbeats 4000000 in
set_option maxRecDepth 100000 in
theorem sane_any (w : World) : Calls Try.prog 13 #[] w fun e w' => e = .returned (.bool true) ∧ Below w.heap.size w w' := by
  go_enter Try.func13, Try.ntmps13
  go_wp2_with fail
  refine (lex_Scan.calls _ _ _ _ _ saneA_f).mono ?_
  rintro e w1 ⟨v1, rfl, r1, b1⟩
  obtain ⟨g1, c1, rfl, h1⟩ := R_cells r1 (by simp [saneA])
  clear r1
  go_wp2_with fail
  refine (lex_Scan.calls _ _ _ _ _ saneB_f).mono ?_
  rintro e w2 ⟨v2, rfl, r2, b2⟩
  obtain ⟨g2, c2, rfl, h2⟩ := R_cells r2 (by simp [saneB])
  clear r2
  go_wp2_with fail
  refine (lex_Scan.calls _ _ _ _ _ saneC_f).mono ?_
  rintro e w3 ⟨v3, rfl, r3, b3⟩
  obtain ⟨g3, c3, rfl, h3⟩ := R_cells r3 (by simp [saneC])
  clear r3
  go_wp2_with fail
  refine (lex_Scan.calls _ _ _ _ _ saneD_f).mono ?_
  rintro e w4 ⟨v4, rfl, r4, b4⟩
  obtain ⟨A4, c4, rfl⟩ := Kd.R_slice r4
  clear r4
  have k1 : ∀ (p : Addr) (u : Value), w1.cell? p = some u → w4.cell? p = some u := fun p u h => by
    have hl := World.block_lt_of_cell? w1 _ h
    have z2 := b2.size
    have z3 := b3.size
    rw [b4.cell (by omega), b3.cell (by omega), b2.cell hl, h]
  have k2 : ∀ (p : Addr) (u : Value), w2.cell? p = some u → w4.cell? p = some u := fun p u h => by
    have hl := World.block_lt_of_cell? w2 _ h
    have z3 := b3.size
    rw [b4.cell (by omega), b3.cell hl, h]
  have k3 : ∀ (p : Addr) (u : Value), w3.cell? p = some u → w4.cell? p = some u := fun p u h => by rw [b4.cell (World.block_lt_of_cell? w3 _ h), h]
  have a0 : w4.cell? ⟨g1, 0, none⟩ = some (.int .i64 4) := k1 _ _ (h1 0 _ rfl).1
  have a1 : w4.cell? ⟨g1, 3, none⟩ = some (.int .i64 1) := k1 _ _ (h1 1 _ rfl).1
  have a2 : w4.cell? ⟨g1, 7, none⟩ = some (.string ⟨#[58]⟩) := k1 _ _ (h1 2 _ rfl).2.1
  have a3 : w4.cell? ⟨g1, 8, none⟩ = some (.int .i64 7) := k1 _ _ (h1 2 _ rfl).2.2
  have a4 : w4.cell? ⟨g1, 25, none⟩ = some (.string ⟨#[45, 111]⟩) := k1 _ _ (h1 8 _ rfl).2.1
  have a5 : w4.cell? ⟨g1, 24, none⟩ = some (.int .i64 3) := k1 _ _ (h1 8 _ rfl).1
  have a6 : w4.cell? ⟨g2, 4, none⟩ = some (.string ⟨#[111, 45]⟩) := k2 _ _ (h2 1 _ rfl).2.1
  have a7 : w4.cell? ⟨g2, 6, none⟩ = some (.int .i64 2) := k2 _ _ (h2 2 _ rfl).1
  have a8 : w4.cell? ⟨g2, 13, none⟩ = some (.string ⟨#[99, 39, 64, 109]⟩) := k2 _ _ (h2 4 _ rfl).2.1
  have a9 : w4.cell? ⟨g3, 1, none⟩ = some (.string ⟨#[111, 45]⟩) := k3 _ _ (h3 0 _ rfl).2.1
  have BB := Lib.hid (((b1.trans (b2.mono b1.size)).trans (b3.mono (Nat.le_trans b1.size b2.size))).trans (b4.mono (Nat.le_trans b1.size (Nat.le_trans b2.size b3.size))))
  have e1 : saneA.length = 11 := rfl
  have e2 : saneB.length = 5 := rfl
  have e3 : saneC.length = 2 := rfl
  have e4 : saneD.length = 0 := rfl
  rw [e1, e2, e3, e4]
  clear k1 k2 k3 h1 h2 h3 b1 b2 b3 b4 e1 e2 e3 e4
  go_wp2_with fail
  refine (lex_Place.calls _ _ _ _ _ _ sane_place).mono ?_
  rintro e w6 ⟨rfl, ⟨nd, rfl⟩⟩
  have hC : Kd.C k34 ((w4.alloc (.cells (cellsT saneL).toArray 34)).drewN nd) (some ⟨w4.heap.size, 0, none⟩) saneL.length saneL := Kd.C_drewN (rowT_C (Go.heap_alloc_new _ _)) nd
  have HC := Lib.hid hC
  have hb5 : Below w.heap.size w ((w4.alloc (.cells (cellsT saneL).toArray 34)).drewN nd) := pw_below_drewN (BB.out.alloc BB.out.size _) nd
  have HB5 := Lib.hid hb5
  clear hC hb5
  simp only [cellsT, saneL, List.flatMap_cons, List.flatMap_nil, List.cons_append, List.nil_append] at HC HB5
  generalize hW : (w4.alloc _).drewN nd = W5 at HC HB5 ⊢
  clear hW
  clear a0 a1 a2 a3 a4 a5 a6 a7 a8 a9
  go_wp2_with fail
  refine (lex_Tight.calls _ 4 _ _ _ HC.out (by simp) saneL_tight).mono ?_
  rintro e w7 ⟨rfl, b7⟩
  have HC7 := Lib.hid (Kd.C_below HC.out b7)
  go_wp2_with fail
  refine (lex_Join.calls _ 4 _ _ _ HC7.out (by simp) saneL_join).mono ?_
  rintro e w8 ⟨rfl, b8⟩
  go_wp2_with fail
  refine (comments_any _ _ (by decide)).mono ?_
  rintro e w9 ⟨v9, rfl, o9, b9⟩
  obtain ⟨A9, c9, rfl⟩ : ∃ A9 c9, v9 = .slice A9 2 c9 := by
    rw [show (comS none 0 _).length = 2 from sane_com] at o9
    rcases o9.2 with ⟨_, h0⟩ | ⟨g, cap, _, rfl, _⟩
    · cases h0
    · exact ⟨_, _, rfl⟩
  clear o9
  go_wp2_with fail
  refine (lex_IsName.calls _ _ _ sane_all).mono ?_
  rintro e w10 ⟨rfl, b10⟩
  go_wp2_with fail
  refine (lex_IsName.calls _ _ _ sane_xm).mono ?_
  rintro e w11 ⟨rfl, b11⟩
  go_wp2_with fail
  go_ret
  have z5 := HB5.out.size
  have z7 := b7.size
  have z8 := b8.size
  have z9 := b9.size
  have z10 := b10.size
  exact ⟨rfl, ((((HB5.out.trans (b7.mono z5)).trans (b8.mono (by omega))).trans (b9.mono (by omega))).trans (b10.mono (by omega))).trans (b11.mono (by omega))⟩

/-- sane's contract, as the printed walks ask for it. -/
def peculiumlaw01_sane.f : Option Bool := some true
theorem peculiumlaw01_sane.calls (r : Bool) (w : World) (h : peculiumlaw01_sane.f = some r) : Calls Try.prog 13 #[] w fun e w' => e = .returned (.bool r) ∧ Below w.heap.size w w' := by
  obtain rfl := Option.some.inj h
  exact sane_any w

end Go.Proofs.Ytkolnimgdbhekaa.P
