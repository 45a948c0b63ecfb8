/- lex.Scan's contract for texts of any length. -/
import Derived.Test.YtkolnimgdbhekaaLScan
namespace Go.Proofs.Ytkolnimgdbhekaa.P
open Go.RowKit Go.Proofs.YtkolnimgdbhekaaW.PrintWords Go.Proofs.YtkolnimgdbhekaaW.PrintLast Go.Proofs.YtkolnimgdbhekaaW.PrintMore

theorem scan_longB (n : Nat) (s : ByteArray) (hs : 20000 < s.size) (hs2 : s.size ≤ 9223372036854775807) (w : World) : CallsIn Fence.wide n Try.prog 14 #[.string s] w fun e w' => ScanPost s w e w' := by
  have hR : scanL s.data.toList = ([], 0, 2) := by unfold scanL; rw [if_pos (by simpa using hs)]
  have HR := Lib.hid hR
  clear hR
  refine callsIn_of_wp_marks Try.func14 rfl trivial ?_ rfl
  simp only [Try.ntmps14, List.size_toArray, List.length_cons, List.length_nil, Nat.reduceAdd, Nat.reduceSub, Array.replicate_succ, Array.replicate_zero, List.push_toArray, List.append_toArray, List.nil_append, List.cons_append]
  gi_wp2_with fail
  refine ⟨.tuple #[.slice none 0 0, .int .i64 0, .int .i64 2], by simp [results, Try.results14, go_sem], .slice none 0 0, by rw [HR.out], by rw [HR.out]; exact Kd.R_nil _ _ _ _ _, ?_⟩
  exact (((Below.refl _ _).alloc (Nat.le_refl _) _).alloc (by simp) _).alloc (by simp; omega) _

/-- lex.Scan's contract, as the printed walks ask for it. -/
def lex_ScanB.f (a0 : ByteArray) : Option (List S34 × Int × Int) := if a0.size ≤ 9223372036854775807 then some (scanL a0.data.toList) else none
theorem lex_ScanB.calls (a0 : ByteArray) (r1 : List S34) (r2 r3 : Int) (w : World) (h : lex_ScanB.f a0 = some (r1, r2, r3)) :
    Calls Try.prog 14 #[.string a0] w fun e w' => ∃ v0_ : Value, e = .returned (.tuple #[v0_, .int .i64 r2, .int .i64 r3]) ∧ Kd.R k34 34 w' w.heap.size (fun _ => True) v0_ r1 ∧ Below w.heap.size w w' := by
  unfold lex_ScanB.f at h
  split at h
  case isFalse => cases h
  case isTrue hs =>
    have h2 : scanL a0.data.toList = (r1, r2, r3) := by simpa using h
    have h0 : CallsIn Fence.wide 0 Try.prog 14 #[.string a0] w fun e w' => ScanPost a0 w e w' := by
      by_cases hl : 20000 < a0.size
      · exact scan_longB 0 a0 hl hs w
      · exact scan_short 0 a0 (by omega) w
    refine (callsIn_wide.1 h0).mono ?_
    · rintro e w' ⟨v, rfl, hR, hb⟩
      rw [h2] at hR
      exact ⟨v, by rw [h2], hR, hb⟩

end Go.Proofs.Ytkolnimgdbhekaa.P
