/- lex.token's closures: run (how many name characters follow) and of (the token). -/
import Derived.Test.YtkolnimgdbhekaaLTok0
import Derived.Test.YtkolnimgdbhekaaLLex
import Derived.RegionTactic
namespace Go.Proofs.Ytkolnimgdbhekaa.P
open Go.RowKit Go.Proofs.YtkolnimgdbhekaaW.PrintWords Go.Proofs.YtkolnimgdbhekaaW.PrintLast Go.Proofs.YtkolnimgdbhekaaW.PrintMore

theorem ret_int {k : IntKind} {a b : Int} (h : a = b) : Ending.returned (.int k a) = .returned (.int k b) := by rw [h]
theorem drop_cons' (s : ByteArray) (k : Nat) (h : k < s.size) : s.data.toList.drop k = s[k] :: s.data.toList.drop (k + 1) := by
  rw [List.drop_eq_getElem_cons (by simpa using h)]; rfl
theorem runN_drop (s : ByteArray) (k : Nat) (h : k < s.size) : runN (s.data.toList.drop k) = if partB s[k] then runN (s.data.toList.drop (k + 1)) + 1 else 0 := by
  rw [drop_cons' s k h, runN]

set_option maxHeartbeats 400000 in
theorem run_any (s : ByteArray) (n : Nat) (pr pw : Nat) (w : World) (hn : n ≤ s.size) (hs : s.size ≤ 140737488351232)
    (hr : w.cell? ⟨pr, 0, none⟩ = some (.string s)) (ht : ∀ c : UInt8, w.cell? ⟨pw, c.toNat, none⟩ = some (.bool (partB c))) :
    Calls Try.prog 86 #[.int .i64 n, .pointer (some ⟨pr, 0, none⟩), .pointer (some ⟨pw, 0, none⟩)] w fun e w' => e = .returned (.int .i64 (n + runN (s.data.toList.drop n) : Nat)) ∧ w = w' := by
  go_enter Try.func86, Try.ntmps86
  go_wp2_with fail
  go_loop [0] (fun i => ∃ k : Nat, k ≤ s.size ∧ i = .int .i64 k ∧ k + runN (s.data.toList.drop k) = n + runN (s.data.toList.drop n)) (fun i => s.size - (intOf i).toNat)
  case atStart => exact ⟨n, hn, rfl, rfl⟩
  case round =>
    obtain ⟨k, hk, rfl, hkn⟩ := hrel
    have HKN := Lib.hid hkn
    clear hkn
    by_cases hlt : k < s.size
    · have htc := ht s[k]
      have HR := Lib.hid (runN_drop s k hlt)
      have hb := s[k].toNat_lt
      clear ht
      cases hp : partB s[k]
      · rw [hp] at htc
        have HP := Lib.hid hp
        clear hp
        go_wp2
        go_ret
        exact ⟨ret_int (by have h := HKN.out; rw [HR.out, HP.out] at h; simp at h; omega), rfl⟩
      · rw [hp] at htc
        have HP := Lib.hid hp
        clear hp
        go_wp2
        go_round
        case rel => exact ⟨k + 1, by omega, by go_num, by have h := HKN.out; rw [HR.out, HP.out] at h; simp at h; omega⟩
        case measure => simp [intOf]; omega
    · clear ht
      go_wp2
      go_ret
      exact ⟨ret_int (by have h := HKN.out; rw [List.drop_of_length_le (by simp; omega)] at h; simp [runN] at h; omega), rfl⟩

set_option maxHeartbeats 400000 in
theorem of_any (s : ByteArray) (kind at_ : Int) (n : Nat) (pr pa : Nat) (w : World) (hn : n ≤ s.size) (hs : s.size ≤ 140737488351232)
    (hr : w.cell? ⟨pr, 0, none⟩ = some (.string s)) (ha : w.cell? ⟨pa, 0, none⟩ = some (.int .i64 at_)) (hpr : pr < w.heap.size) (hpa : pa < w.heap.size) :
    Calls Try.prog 87 #[.int .i64 kind, .int .i64 n, .pointer (some ⟨pr, 0, none⟩), .pointer (some ⟨pa, 0, none⟩)] w fun e w' =>
      e = .returned (.tuple #[.agg #[.int .i64 kind, .string (s.extract 0 n), .int .i64 at_], .bool true]) ∧ Below w.heap.size w w' := by
  go_enter Try.func87, Try.ntmps87
  go_wp2
  go_region
  all_goals
    go_wp2

    refine bodyPost_ret (v := .tuple #[.agg #[.int .i64 kind, .string (s.extract 0 n), .int .i64 at_], .bool true]) (by simp [results, Try.results87, go_sem]) rfl ⟨rfl, ?_⟩
    repeat (first | exact Below.refl _ _ | refine Below.alloc ?_ (by simp) _ | refine Below.drew ?_ | refine Below.setCell ?_ (by simp) _)

end Go.Proofs.Ytkolnimgdbhekaa.P
