/- lex.classes: the table of bytes that a string holds; lex.token's closures run and of. -/
import Derived.Test.YtkolnimgdbhekaaPx0
import Derived.Laws.Rows
import Derived.Deep.WholeRow
import Derived.Lib.Hide
namespace Go.Proofs.Ytkolnimgdbhekaa.P
open Go.RowKit Go.Proofs.YtkolnimgdbhekaaW.PrintWords Go.Proofs.YtkolnimgdbhekaaW.PrintLast Go.Proofs.YtkolnimgdbhekaaW.PrintMore

/-- The cells of a [256]bool in which the bytes of l are marked. -/
def tabA (l : List UInt8) : Array Value := ((List.range 256).map fun b => Value.bool (l.contains b.toUInt8)).toArray
theorem tabA_size (l : List UInt8) : (tabA l).size = 256 := by simp [tabA]
theorem tabA_nil : tabA [] = Try.zeroCells90 := by kernel_rfl
theorem tabA_get (l : List UInt8) (c : UInt8) : (tabA l)[c.toNat]? = some (.bool (l.contains c)) := by
  have h := c.toNat_lt
  simp [tabA, List.getElem?_range, h]
theorem toUInt8_eq (i : Nat) (hi : i < 256) (c : UInt8) : (i.toUInt8 = c) ↔ c.toNat = i := by
  constructor
  · intro h
    rw [← h]
    simp [Nat.toUInt8, Nat.mod_eq_of_lt hi]
  · intro h
    rw [← h]
    simp
theorem tabA_snoc (l : List UInt8) (c : UInt8) : (tabA l).setIfInBounds c.toNat (.bool true) = tabA (l ++ [c]) := by
  apply Array.ext
  · rw [Array.size_setIfInBounds, tabA_size, tabA_size]
  · intro i h1 h2
    have hi : i < 256 := by rw [tabA_size] at h2; exact h2
    rw [Array.getElem_setIfInBounds (by rw [tabA_size]; exact hi)]
    by_cases e : c.toNat = i
    · subst e
      simp [tabA]
    · have e' := mt (toUInt8_eq i hi c).1 e
      rw [if_neg e]
      simp only [tabA, List.getElem_toArray, List.getElem_map, List.getElem_range]
      congr 1
      rw [Bool.eq_iff_iff]
      simp
      intro h
      exact absurd h e'
theorem tabA_one (l : List UInt8) : (tabA l).all (·.oneCell') = true := by
  rw [Array.all_eq_true_iff_forall_mem]
  intro v hv
  obtain ⟨i, hi⟩ : ∃ i : Nat, v = .bool (l.contains i.toUInt8) := by
    simp [tabA] at hv
    obtain ⟨a, _, rfl⟩ := hv
    exact ⟨a, by simp⟩
  subst hi
  rfl
theorem info90 : (Try.prog.info? 90).map (·.size) = some 256 := by kernel_rfl

theorem take_snoc' (s : ByteArray) (k : Nat) (h : k < s.size) : s.data.toList.take (k + 1) = s.data.toList.take k ++ [s[k]] := by
  rw [List.take_succ_eq_append_getElem (by simpa using h)]; rfl

set_option maxRecDepth 100000 in
set_option maxHeartbeats 1000000 in
theorem classes_any (s : ByteArray) (w : World) (hs : s.size ≤ 140737488351232) :
    Calls Try.prog 85 #[.string s] w fun e w' => e = .returned (.agg (tabA s.data.toList)) ∧ w' = w.alloc (.cells (tabA s.data.toList) 90) := by
  go_enter Try.func85, Try.ntmps85
  go_wp2_with fail
  go_loopw [6] (fun i wr => ∃ k : Nat, k ≤ s.size ∧ i = .int .i64 k ∧ wr = w.alloc (.cells (tabA (s.data.toList.take k)) 90)) (fun i _ => s.size - (intOf i).toNat)
  case atStart => exact ⟨0, Nat.zero_le _, rfl, by rw [← tabA_nil]; rfl⟩
  case round =>
    obtain ⟨k, hk, rfl, rfl⟩ := hrel
    have hb := (s.data.toList.take k)
    by_cases hlt : k < s.size
    · have hg := tabA_get (s.data.toList.take k) s[k]
      have hb := s[k].toNat_lt
      have HS := Lib.hid (tabA_snoc (s.data.toList.take k) s[k])
      have HT := Lib.hid (take_snoc' s k hlt)
      go_wp2
      go_roundw
      case rel => exact ⟨k + 1, by omega, by go_num, by rw [HT.out, ← HS.out]; first | rfl | skip⟩
      case measure => simp [intOf]; omega
    · have hz := tabA_size (s.data.toList.take k)
      go_wp2_with (first
        | (refine wpList_load_row (o := ⟨some 14, _, _, _, _, _⟩) rfl 90 _ rfl w.heap.size rfl 90 (tabA (s.data.toList.take k)) (0, 0) _ (heap_alloc_new _ _) Try.underlying90 rfl (by rw [tabA_size]; exact info90) ?_)
        | (refine wpList_store_row rfl 90 _ _ rfl w.heap.size (tabA (s.data.toList.take k)) rfl rfl 90 (tabA (s.data.toList.take k)) (heap_alloc_new _ _) (by rw [tabA_size]; exact info90) rfl (tabA_one _) ?_; rw [World.setRow_alloc_new]))
      refine bodyPost_ret (results_cell_row rfl _ _ w.heap.size 90 (tabA (s.data.toList.take k)) (0, 0) _ rfl (heap_alloc_new _ _) Try.underlying90 rfl (by rw [tabA_size]; exact info90)) rfl ?_
      have e : s.data.toList.take k = s.data.toList := List.take_of_length_le (by simp; omega)
      rw [e]
      exact ⟨rfl, rfl⟩
end Go.Proofs.Ytkolnimgdbhekaa.P
