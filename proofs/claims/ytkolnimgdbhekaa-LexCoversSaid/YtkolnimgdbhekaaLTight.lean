/- The closures of lex.Join and lex.Tight: is a space asked for? -/
import Derived.Test.YtkolnimgdbhekaaLSame
import Derived.Test.YtkolnimgdbhekaaLScan
import Derived.Test.YtkolnimgdbhekaaPx4
import Derived.Deep.RegionHeld3
namespace Go.Proofs.Ytkolnimgdbhekaa.P
open Go.RowKit Go.Proofs.YtkolnimgdbhekaaW.PrintWords Go.Proofs.YtkolnimgdbhekaaW.PrintLast Go.Proofs.YtkolnimgdbhekaaW.PrintMore

/-- Is a token valid? -/
def okT (t : S34) : Bool :=
  match scanL t.f1.data.toList with
  | ([x], _, e) => e == 0 && x.f0 == t.f0 && x.f1.toList == t.f1.toList
  | _ => false
theorem check_f (t : S34) (h : t.f1.size ≤ 140737488351232) : lex_Check.f t.f0 t.f1 t.f2 = some (if okT t then 0 else 12) := by
  unfold lex_Check.f lex_Scan.f okT
  rw [if_pos h]
  simp only [Option.bind_some]
  rcases hs : scanL t.f1.data.toList with ⟨l, a, e⟩
  by_cases he : e = 0
  · rcases l with _ | ⟨x, _ | ⟨y, l⟩⟩
    · simp [he]
    · by_cases h0 : x.f0 = t.f0 <;> by_cases h1 : x.f1.toList = t.f1.toList <;> simp [he, rd_T34, h0, h1]
    · simp [he]
      intro h
      omega
  · rcases l with _ | ⟨x, _ | ⟨y, l⟩⟩ <;> simp [he]
theorem okT_size (t : S34) (h : okT t = true) : t.f1.size ≤ 20000 := by
  unfold okT scanL at h
  split at h
  · rename_i hs
    split at hs
    · simp at hs
    · rename_i h1
      simp at h1
      exact h1
  · cases h

def tightSp (x y : S34) : Bool := !(scanL (x.f1 ++ y.f1).data.toList).2.2 == 0 || !sameL (scanL (x.f1 ++ y.f1).data.toList).1 [x, y]
def joinSp (_ _ : S34) : Bool := true

theorem join1_any (x y : S34) (_hx : x.f1.size ≤ 20000) (_hy : y.f1.size ≤ 20000) (w : World) : Calls Try.prog 52 #[aggT x, aggT y] w fun e w' => e = .returned (.bool (joinSp x y)) ∧ Below w.heap.size w w' := by
  unfold aggT joinSp
  go_enter Try.func52, Try.ntmps52
  go_wp2_with fail
  go_ret
  exact ⟨rfl, ((Below.refl _ _).alloc (Nat.le_refl _) _).alloc (by simp) _⟩

/-- Two tokens that the walk has laid, as a row that reads. -/
theorem two_C {w : World} {b : Nat} {x y : S34} {t : TypeId} (h : w.heap[b]? = some (.cells #[.int .i64 x.f0, .string x.f1, .int .i64 x.f2, .int .i64 y.f0, .string y.f1, .int .i64 y.f2] t (0, 0))) :
    Kd.C k34 w (some ⟨b, 0, none⟩) [x, y].length [x, y] := by
  refine ⟨rfl, by simp, fun _ => ⟨_, rfl, ?_⟩⟩
  intro j p hj
  have hadd : ∀ n, (⟨b, 0, none⟩ : Addr).add n = ⟨b, n, none⟩ := fun n => by unfold Addr.add; split <;> simp_all
  match j, hj with
  | 0, hj =>
    obtain rfl : x = p := by simpa using hj
    refine ⟨_, rfl, k34_mk w x, fun i u hi => ?_⟩
    rw [hadd, cell_of_row _ _ _ _ _ (0, 0) h]
    match i, hi with
    | 0, hi => exact hi
    | 1, hi => exact hi
    | 2, hi => exact hi
  | 1, hj =>
    obtain rfl : y = p := by simpa using hj
    refine ⟨_, rfl, k34_mk w y, fun i u hi => ?_⟩
    rw [hadd, cell_of_row _ _ _ _ _ (0, 0) h]
    match i, hi with
    | 0, hi => exact hi
    | 1, hi => exact hi
    | 2, hi => exact hi
  | j + 2, hj => simp at hj

theorem two_kept {w w1 : World} {a b : Obj} (hb : Below ((w.alloc a).alloc b).heap.size ((w.alloc a).alloc b) w1) : w1.heap[w.heap.size]? = some a ∧ w1.heap[w.heap.size + 1]? = some b := by
  refine ⟨?_, ?_⟩
  · rw [hb.block _ (by simp; omega), Below.heap_alloc _ _ _ (by simp)]
    exact Go.heap_alloc_new _ _
  · rw [hb.block _ (by simp)]
    exact heap_last _ _ _ (by simp)

set_option maxHeartbeats 1000000 in
theorem tight1_any (x y : S34) (hx : x.f1.size ≤ 20000) (hy : y.f1.size ≤ 20000) (w : World) : Calls Try.prog 54 #[aggT x, aggT y] w fun e w' => e = .returned (.bool (tightSp x y)) ∧ Below w.heap.size w w' := by
  unfold aggT
  have hsz : (x.f1 ++ y.f1).size ≤ 140737488351232 := by rw [ByteArray.size_append]; omega
  have hsf : lex_Scan.f (x.f1 ++ y.f1) = some (scanL (x.f1 ++ y.f1).data.toList) := by unfold lex_Scan.f; rw [if_pos hsz]
  obtain ⟨R, hR⟩ : ∃ R, R = scanL (x.f1 ++ y.f1).data.toList := ⟨_, rfl⟩
  have htt : tightSp x y = (!R.2.2 == 0 || !sameL R.1 [x, y]) := by rw [hR]; rfl
  rw [← hR] at hsf
  rw [htt]
  obtain ⟨r1, r2, r3⟩ := R
  have HSF := Lib.hid hsf
  clear hR htt hsf
  go_enter Try.func54, Try.ntmps54
  go_wp2_with fail
  refine (lex_Scan.calls _ r1 r2 r3 _ HSF.out).mono ?_
  rintro e w1 ⟨v, rfl, hr, hb⟩
  obtain ⟨bx, by_⟩ := two_kept hb
  have x0 : w1.cell? ⟨w.heap.size, 0, none⟩ = some (.int .i64 x.f0) := by simp [World.cell?, bx]
  have x1 : w1.cell? ⟨w.heap.size, 1, none⟩ = some (.string x.f1) := by simp [World.cell?, bx]
  have x2 : w1.cell? ⟨w.heap.size, 2, none⟩ = some (.int .i64 x.f2) := by simp [World.cell?, bx]
  have y0 : w1.cell? ⟨w.heap.size + 1, 0, none⟩ = some (.int .i64 y.f0) := by simp [World.cell?, by_]
  have y1 : w1.cell? ⟨w.heap.size + 1, 1, none⟩ = some (.string y.f1) := by simp [World.cell?, by_]
  have y2 : w1.cell? ⟨w.heap.size + 1, 2, none⟩ = some (.int .i64 y.f2) := by simp [World.cell?, by_]
  obtain ⟨A, c, rfl⟩ := Kd.R_slice hr
  obtain ⟨_, hc, hC⟩ := Kd.R_reads' hr
  have hbb : Below w.heap.size w w1 := (((Below.refl w.heap.size w).alloc (Nat.le_refl _) _).alloc (by simp) _).trans (hb.mono (by simp; omega))
  have HBB := Lib.hid hbb
  have HC := Lib.hid hC
  have HCC := Lib.hid hc
  clear hr hb bx by_ hbb hC hc
  by_cases h3 : r3 = 0
  · subst h3
    have hsm : lex_Same.f r1 [x, y] = some (sameL r1 [x, y]) := rfl
    have HSM := Lib.hid hsm
    clear hsm
    go_wp2_with (go_at_call 21; refine (lex_Same.calls A c r1 (some ⟨w1.heap.size, 0, none⟩) 2 [x, y] (sameL r1 [x, y]) _ (Kd.C_alloc HC.out _) HCC.out (two_C (Go.heap_alloc_new _ _)) (by simp) HSM.out).mono ?_; rintro e w2 ⟨rfl, hb2⟩)
    go_ret
    exact ⟨rfl, (HBB.out.alloc HBB.out.size _).trans (hb2.mono (by have := HBB.out.size; simp; omega))⟩
  · have h3b : (r3 == 0) = false := by simpa using h3
    have h3c : (r3 != 0) = true := by simpa using h3
    go_wp2_with fail
    go_ret
    exact ⟨by rw [h3b]; rfl, HBB.out⟩

end Go.Proofs.Ytkolnimgdbhekaa.P
