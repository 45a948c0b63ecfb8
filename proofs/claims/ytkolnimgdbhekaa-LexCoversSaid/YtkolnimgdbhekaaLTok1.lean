/- lex.classes: the table of bytes that a string holds; lex.token's closures run and of. lex.token's closures: run (how many name characters follow) and of (the token). -/
import Derived.Test.YtkolnimgdbhekaaPx0
import Derived.Laws.Rows
import Derived.Deep.WholeRow
import Derived.Lib.Hide
import Derived.Test.YtkolnimgdbhekaaLLex
import Derived.RegionTactic
namespace Go.Proofs.Ytkolnimgdbhekaa.P
open Go.RowKit Go.Proofs.YtkolnimgdbhekaaW.PrintWords Go.Proofs.YtkolnimgdbhekaaW.PrintLast Go.Proofs.YtkolnimgdbhekaaW.PrintMore

/-- The cells of a [256]bool in which the bytes of l are marked. -/
def tabA (l : List UInt8) : Array Value := ((List.range 256).map fun b => Value.bool (l.contains b.toUInt8)).toArray
theorem tabA_size (l : List UInt8) : (tabA l).size = 256 := by simp [tabA]
theorem tabA_nil : tabA [] = Try.zeroCells90 := by kernel_rfl
theorem tabA_get (l : List UInt8) (c : UInt8) : (tabA l)[c.toNat]? = some (.bool (l.contains c)) := by
  have h := c.toNat_lt
  simp [tabA, h]
theorem toUInt8_eq (i : Nat) (hi : i < 256) (c : UInt8) : (i.toUInt8 = c) ↔ c.toNat = i := by
  constructor
  · intro h
    rw [← h]
    simp [Nat.toUInt8, Nat.mod_eq_of_lt hi]
  · intro h
    rw [← h]
    simp
theorem tabA_snoc (l : List UInt8) (c : UInt8) : (tabA l).setIfInBounds c.toNat (.bool true) = tabA (l ++ [c]) := by
  apply Array.ext
  · rw [Array.size_setIfInBounds, tabA_size, tabA_size]
  · intro i h1 h2
    have hi : i < 256 := by rw [tabA_size] at h2; exact h2
    rw [Array.getElem_setIfInBounds (by rw [tabA_size]; exact hi)]
    by_cases e : c.toNat = i
    · subst e
      simp [tabA]
    · have e' := mt (toUInt8_eq i hi c).1 e
      rw [if_neg e]
      simp only [tabA, List.getElem_toArray, List.getElem_map, List.getElem_range]
      congr 1
      rw [Bool.eq_iff_iff]
      simp
      intro h
      exact absurd h e'
theorem tabA_one (l : List UInt8) : (tabA l).all (·.oneCell') = true := by
  rw [Array.all_eq_true_iff_forall_mem]
  intro v hv
  obtain ⟨i, hi⟩ : ∃ i : Nat, v = .bool (l.contains i.toUInt8) := by
    simp [tabA] at hv
    obtain ⟨a, _, rfl⟩ := hv
    exact ⟨a, by simp⟩
  subst hi
  rfl
theorem info90 : (Try.prog.info? 90).map (·.size) = some 256 := by kernel_rfl

theorem take_snoc' (s : ByteArray) (k : Nat) (h : k < s.size) : s.data.toList.take (k + 1) = s.data.toList.take k ++ [s[k]] := by
  rw [List.take_succ_eq_append_getElem (by simpa using h)]; rfl

set_option maxRecDepth 100000 in
set_option maxHeartbeats 1000000 in
theorem classes_any (s : ByteArray) (w : World) (hs : s.size ≤ 140737488351232) :
    Calls Try.prog 85 #[.string s] w fun e w' => e = .returned (.agg (tabA s.data.toList)) ∧ w' = w.alloc (.cells (tabA s.data.toList) 90) := by
  go_enter Try.func85, Try.ntmps85
  go_wp2_with fail
  go_loopw [6] (fun i wr => ∃ k : Nat, k ≤ s.size ∧ i = .int .i64 k ∧ wr = w.alloc (.cells (tabA (s.data.toList.take k)) 90)) (fun i _ => s.size - (intOf i).toNat)
  case atStart => exact ⟨0, Nat.zero_le _, rfl, by rw [← tabA_nil]; rfl⟩
  case round =>
    obtain ⟨k, hk, rfl, rfl⟩ := hrel
    have hb := (s.data.toList.take k)
    by_cases hlt : k < s.size
    · have hg := tabA_get (s.data.toList.take k) s[k]
      have hb := s[k].toNat_lt
      have HS := Lib.hid (tabA_snoc (s.data.toList.take k) s[k])
      have HT := Lib.hid (take_snoc' s k hlt)
      go_wp2
      go_roundw
      case rel => exact ⟨k + 1, by omega, by go_num, by rw [HT.out, ← HS.out]; first | rfl | skip⟩
      case measure => simp [intOf]; omega
    · have hz := tabA_size (s.data.toList.take k)
      go_wp2_with (first
        | (refine wpList_load_row (o := ⟨some 14, _, _, _, _, _⟩) rfl 90 _ rfl w.heap.size rfl 90 (tabA (s.data.toList.take k)) (0, 0) _ (heap_alloc_new _ _) Try.underlying90 rfl (by rw [tabA_size]; exact info90) ?_)
        | (refine wpList_store_row rfl 90 _ _ rfl w.heap.size (tabA (s.data.toList.take k)) rfl rfl 90 (tabA (s.data.toList.take k)) (heap_alloc_new _ _) (by rw [tabA_size]; exact info90) rfl (tabA_one _) ?_; rw [World.setRow_alloc_new]))
      refine bodyPost_ret (results_cell_row rfl _ _ w.heap.size 90 (tabA (s.data.toList.take k)) (0, 0) _ rfl (heap_alloc_new _ _) Try.underlying90 rfl (by rw [tabA_size]; exact info90)) rfl ?_
      have e : s.data.toList.take k = s.data.toList := List.take_of_length_le (by simp; omega)
      rw [e]
      exact ⟨rfl, rfl⟩
end Go.Proofs.Ytkolnimgdbhekaa.P

namespace Go.Proofs.Ytkolnimgdbhekaa.P
open Go.RowKit Go.Proofs.YtkolnimgdbhekaaW.PrintWords Go.Proofs.YtkolnimgdbhekaaW.PrintLast Go.Proofs.YtkolnimgdbhekaaW.PrintMore

theorem ret_int {k : IntKind} {a b : Int} (h : a = b) : Ending.returned (.int k a) = .returned (.int k b) := by rw [h]
theorem drop_cons' (s : ByteArray) (k : Nat) (h : k < s.size) : s.data.toList.drop k = s[k] :: s.data.toList.drop (k + 1) := by
  rw [List.drop_eq_getElem_cons (by simpa using h)]; rfl
theorem runN_drop (s : ByteArray) (k : Nat) (h : k < s.size) : runN (s.data.toList.drop k) = if partB s[k] then runN (s.data.toList.drop (k + 1)) + 1 else 0 := by
  rw [drop_cons' s k h, runN]

set_option maxHeartbeats 400000 in
theorem run_any (s : ByteArray) (n : Nat) (pr pw : Nat) (w : World) (hn : n ≤ s.size) (hs : s.size ≤ 140737488351232)
    (hr : w.cell? ⟨pr, 0, none⟩ = some (.string s)) (ht : ∀ c : UInt8, w.cell? ⟨pw, c.toNat, none⟩ = some (.bool (partB c))) :
    Calls Try.prog 86 #[.int .i64 n, .pointer (some ⟨pr, 0, none⟩), .pointer (some ⟨pw, 0, none⟩)] w fun e w' => e = .returned (.int .i64 (n + runN (s.data.toList.drop n) : Nat)) ∧ w = w' := by
  go_enter Try.func86, Try.ntmps86
  go_wp2_with fail
  go_loop [0] (fun i => ∃ k : Nat, k ≤ s.size ∧ i = .int .i64 k ∧ k + runN (s.data.toList.drop k) = n + runN (s.data.toList.drop n)) (fun i => s.size - (intOf i).toNat)
  case atStart => exact ⟨n, hn, rfl, rfl⟩
  case round =>
    obtain ⟨k, hk, rfl, hkn⟩ := hrel
    have HKN := Lib.hid hkn
    clear hkn
    by_cases hlt : k < s.size
    · have htc := ht s[k]
      have HR := Lib.hid (runN_drop s k hlt)
      have hb := s[k].toNat_lt
      clear ht
      cases hp : partB s[k]
      · rw [hp] at htc
        have HP := Lib.hid hp
        clear hp
        go_wp2
        go_ret
        exact ⟨ret_int (by have h := HKN.out; rw [HR.out, HP.out] at h; simp at h; omega), rfl⟩
      · rw [hp] at htc
        have HP := Lib.hid hp
        clear hp
        go_wp2
        go_round
        case rel => exact ⟨k + 1, by omega, by go_num, by have h := HKN.out; rw [HR.out, HP.out] at h; simp at h; omega⟩
        case measure => simp [intOf]; omega
    · clear ht
      go_wp2
      go_ret
      exact ⟨ret_int (by have h := HKN.out; rw [List.drop_of_length_le (by simp; omega)] at h; simp [runN] at h; omega), rfl⟩

set_option maxHeartbeats 400000 in
theorem of_any (s : ByteArray) (kind at_ : Int) (n : Nat) (pr pa : Nat) (w : World) (hn : n ≤ s.size) (_hs : s.size ≤ 140737488351232)
    (hr : w.cell? ⟨pr, 0, none⟩ = some (.string s)) (ha : w.cell? ⟨pa, 0, none⟩ = some (.int .i64 at_)) (hpr : pr < w.heap.size) (hpa : pa < w.heap.size) :
    Calls Try.prog 87 #[.int .i64 kind, .int .i64 n, .pointer (some ⟨pr, 0, none⟩), .pointer (some ⟨pa, 0, none⟩)] w fun e w' =>
      e = .returned (.tuple #[.agg #[.int .i64 kind, .string (s.extract 0 n), .int .i64 at_], .bool true]) ∧ Below w.heap.size w w' := by
  go_enter Try.func87, Try.ntmps87
  go_wp2
  go_region
  all_goals
    go_wp2

    refine bodyPost_ret (v := .tuple #[.agg #[.int .i64 kind, .string (s.extract 0 n), .int .i64 at_], .bool true]) (by simp [results, Try.results87, go_sem]) rfl ⟨rfl, ?_⟩
    repeat (first | exact Below.refl _ _ | refine Below.alloc ?_ (by simp) _ | refine Below.drew ?_ | refine Below.setCell ?_ (by simp) _)

end Go.Proofs.Ytkolnimgdbhekaa.P
