/- Lists of pairs of whole numbers ([][2]int): read, compared; lex.Comments' result as such a list. -/
import Derived.Test.YtkolnimgdbhekaaLComm
import Derived.Deep.RegionHeld3
import Derived.ChangeKeysEq
import Derived.WalkSmall
namespace Go.Proofs.Ytkolnimgdbhekaa.P
open Go.RowKit Go.Proofs.YtkolnimgdbhekaaW.PrintWords Go.Proofs.YtkolnimgdbhekaaW.PrintLast Go.Proofs.YtkolnimgdbhekaaW.PrintMore

def kP : Kd (Nat × Nat) := Kd.iso (Kd.pair (Kd.int .i64) (Kd.int .i64)) (fun x => ((x.1 : Int), (x.2 : Int)))
theorem kP_open {w : World} {x : Nat × Nat} {cs : List Value} (h : kP.K w x cs) : cs = [.int .i64 x.1, .int .i64 x.2] := by
  obtain ⟨_, _, rfl, rfl, rfl⟩ := h
  exact rfl
theorem kP_mkM (w : World) (base : Nat) (ok : Nat → Prop) (x : Nat × Nat) : kP.M w base ok x [.int .i64 x.1, .int .i64 x.2] := ⟨[.int .i64 x.1], [.int .i64 x.2], rfl, rfl, rfl⟩
def rdP (xs : List (Nat × Nat)) (m : Nat) : Nat × Nat := xs.getD m (0, 0)
theorem rdP_drop (l : List (Nat × Nat)) (k : Nat) (h : k < l.length) : l.drop k = rdP l k :: l.drop (k + 1) := by
  rw [List.drop_eq_getElem_cons h]
  simp [rdP, h]
theorem at_P {w : World} {A : Option Addr} {n : Nat} {xs : List (Nat × Nat)} (h : Kd.C kP w A n xs) (m : Nat) (h1 : m < n) : ∃ ad , A = some ad ∧ w.cell? (ad.add (m * 2)) = some (.int .i64 (rdP xs m).1) ∧ w.cell? ⟨(ad.add (m * 2)).block, (ad.add (m * 2)).off + 1, none⟩ = some (.int .i64 (rdP xs m).2) := by
  obtain ⟨ad, c, e, _, hK, hc0⟩ := Kd.C_get h (0, 0) (m : Int) (by omega) (by omega)
  rw [Int.toNat_natCast] at hK hc0
  have hc : ∀ j u, c[j]? = some u → w.cell? (ad.add (m * 2 + j)) = some u := hc0
  obtain rfl := kP_open hK
  exact ⟨ad, e, hc 0 _ rfl, by rw [← add_field _ _ 1 (by omega)]; exact hc 1 _ rfl⟩
theorem repsP (w : World) (base : Nat) (ok : Nat → Prop) (l : List (Nat × Nat)) : Reps (kP.M w base ok) 2 l (cellsC l) := by
  have h : ∀ (l pre : List (Nat × Nat)), Reps (kP.M w base ok) 2 pre (cellsC pre) → Reps (kP.M w base ok) 2 (pre ++ l) (cellsC (pre ++ l)) := by
    intro l
    induction l with
    | nil => intro pre h; simpa using h
    | cons x l ih =>
      intro pre h
      have := ih (pre ++ [x]) (by rw [cellsC_snoc]; exact h.snoc (kP_mkM w base ok x) rfl)
      simpa using this
  simpa using h l [] (Reps.none _ _)
theorem pairs_R {W : World} {B : Nat} {v : Value} {l : List (Nat × Nat)} (h : W.ownsRow B 39 2 v l.length (cellsC l)) : Kd.R kP 39 W B (fun _ => True) v l :=
  ⟨fun _ _ => trivial, _, h, repsP _ _ _ _⟩
theorem lex_Comments.calls (s : ByteArray) (w : World) (hs : s.size ≤ 8796093022206) :
    Calls Try.prog 23 #[.string s] w fun e w' => ∃ A c, e = .returned (.slice A (comS none 0 s.data.toList).length c) ∧ Kd.C kP w' A (comS none 0 s.data.toList).length (comS none 0 s.data.toList) ∧ Below w.heap.size w w' := by
  refine (comments_any s w hs).mono ?_
  rintro e w' ⟨v, rfl, ho, hb⟩
  have hR := pairs_R ho
  obtain ⟨A, c, rfl⟩ := Kd.R_slice hR
  exact ⟨A, c, rfl, (Kd.R_reads' hR).2.2, hb⟩

theorem eq_pair (a b c e : Int) (w : World) : (Op.equalIn 10000 39 (.agg #[.int .i64 a, .int .i64 b]) (.agg #[.int .i64 c, .int .i64 e])).run Try.prog w = .ok (a == c && b == e) w := by
  obtain ⟨i, hi⟩ : ∃ i, Try.prog.info? 3 = some i := ⟨_, rfl⟩
  have hc : Try.prog.cellsOf 3 = 1 := by kernel_rfl
  have h1 : ∀ x y w, (Op.equalIn 9999 3 (.int .i64 x) (.int .i64 y)).run Try.prog w = .ok (x == y) w := fun x y w => run_equalIn_int w 9998 3 .i64 .i64 x y Try.underlying3
  rw [show (10000 : Nat) = 9999 + 1 from rfl, run_equalIn_array w 9999 _ _ Try.underlying39 hi, hc]
  rw [show List.range 2 = [0, 1] from rfl]
  have he : Try.prog.plainKey 3 = true := by kernel_rfl
  have p0 : ∀ x y w, (part 3 #[.int .i64 x, .int .i64 y] (0 * 1)).run Try.prog w = .ok (.int .i64 x) w := fun x y w => run_part_plain w he rfl
  have p1 : ∀ x y w, (part 3 #[.int .i64 x, .int .i64 y] 1).run Try.prog w = .ok (.int .i64 y) w := fun x y w => run_part_plain w he rfl
  simp only [Op.eqItems, Sem.run_bind, p0, h1, Result.andThen_ok]
  cases (a == c)
  · simp
  · simp [p1, h1]
    cases hbe : (b == e) <;> simp_all
theorem eq_pairD (x y : Nat × Nat) (w : World) : (Op.equalIn 10000 39 (.agg #[.int .i64 x.1, .int .i64 x.2]) (.agg #[.int .i64 y.1, .int .i64 y.2])).run Try.prog w = .ok (decide (x = y)) w := by
  rw [eq_pair]
  congr 1
  rw [Bool.eq_iff_iff]
  simp [Prod.ext_iff]
  omega

set_option maxRecDepth 100000 in
set_option maxHeartbeats 1000000 in
theorem samePairs_any (A0 : Option Addr) (c0 : Nat) (l0 : List (Nat × Nat)) (A1 : Option Addr) (c1 : Nat) (l1 : List (Nat × Nat)) (w : World) (hr0 : Kd.C kP w A0 l0.length l0) (hr1 : Kd.C kP w A1 l1.length l1) (hb0 : l0.length ≤ 4398046511103) :
    Calls Try.prog 42 #[.slice A0 l0.length c0, .slice A1 l1.length c1] w fun e w' => e = .returned (.bool (decide (l0 = l1))) ∧ Below w.heap.size w w' := by
  obtain ⟨R, hR⟩ : ∃ R, R = decide (l0 = l1) := ⟨_, rfl⟩
  rw [← hR]
  have HR := Lib.hid hR
  have HR0 := Lib.hid hr0
  have HR1 := Lib.hid hr1
  have hu := Try.underlying39
  clear hR hr0 hr1
  go_enter Try.func42, Try.ntmps42
  by_cases hl : l0.length = l1.length
  · go_wp2_with fail
    go_loopw [5] (fun i wr => ∃ (k : Nat), i = .int .i64 k ∧ k ≤ l0.length ∧ Below w.heap.size w wr ∧ R = decide (l0.drop k = l1.drop k)) (fun i _ => l0.length - (intOf i).toNat)
    case atStart => exact ⟨0, rfl, Nat.zero_le _, Below.refl _ _, HR.out⟩
    case round =>
      obtain ⟨k, rfl, hk, hb, hd⟩ := hrel
      have HB := Lib.hid hb
      have HD := Lib.hid hd
      clear hb hd
      by_cases hlt : k < l0.length
      · obtain ⟨a0, e0, p0, p1⟩ := at_P (Kd.C_below HR0.out HB.out) k hlt
        obtain ⟨a1, e1, q0, q1⟩ := at_P (Kd.C_below HR1.out HB.out) k (by omega)
        subst e0 e1
        have h3 := HD.out
        rw [rdP_drop l0 k hlt, rdP_drop l1 k (by omega)] at h3
        have H3 := Lib.hid h3
        clear h3
        obtain ⟨x, hx⟩ : ∃ x, x = rdP l0 k := ⟨_, rfl⟩
        obtain ⟨y, hy⟩ : ∃ y, y = rdP l1 k := ⟨_, rfl⟩
        rw [← hx] at p0 p1 H3
        rw [← hy] at q0 q1 H3
        clear hx hy
        have hlt1 : k < l1.length := by omega
        have hpq := fun w' => eq_pairD x y w'
        by_cases hxy : x = y
        · have hd : decide (x = y) = true := decide_eq_true hxy
          rw [hd] at hpq
          have H4 := H3.out
          rw [← hxy] at H4
          have H4 := Lib.hid H4
          clear hd hxy
          go_wp2_with fail
          go_quiet (fail)
          go_wp2_with fail
          refine ⟨⟨k + 1, by go_num, by omega, below_drewN HB.out _, ?_⟩, by simp [intOf]; omega⟩
          have H5 := H4.out
          simpa using H5
        · have hd : decide (x = y) = false := decide_eq_false hxy
          rw [hd] at hpq
          have hRf : R = false := by
            rw [H3.out]
            exact decide_eq_false fun h => hxy (List.cons.inj h).1
          subst hRf
          clear hd
          go_wp2_with fail
          go_quiet (fail)
          go_wp2_with fail
          go_ret
          exact ⟨rfl, below_drewN HB.out _⟩
      · go_wp2_with fail
        go_ret
        have h := HD.out
        rw [List.drop_of_length_le (by omega), List.drop_of_length_le (by omega)] at h
        exact ⟨by rw [h]; rfl, HB.out⟩
  · have h := HR.out
    rw [decide_eq_false (fun h => hl (by rw [h]))] at h
    subst h
    go_wp2_with fail
    go_ret
    exact ⟨rfl, Below.refl _ _⟩
end Go.Proofs.Ytkolnimgdbhekaa.P
