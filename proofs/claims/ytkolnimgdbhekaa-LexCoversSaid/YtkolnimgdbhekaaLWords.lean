/- slices.Contains over the keywords, as a plain function. -/
import Derived.Test.YtkolnimgdbhekaaLLex
import Derived.Test.YtkolnimgdbhekaaPx2
import Derived.Lib.Strings
namespace Go.Proofs.Ytkolnimgdbhekaa.P
open Go.RowKit Go.Proofs.YtkolnimgdbhekaaW.PrintWords Go.Proofs.YtkolnimgdbhekaaW.PrintLast Go.Proofs.YtkolnimgdbhekaaW.PrintMore

def wordsB : List ByteArray := [⟨#[116, 121, 112, 101]⟩, ⟨#[99, 111, 110, 115, 116]⟩, ⟨#[112, 114, 101, 100]⟩, ⟨#[102, 97, 99, 116]⟩, ⟨#[108, 97, 115, 116, 105, 110, 103]⟩, ⟨#[109, 111, 100, 101]⟩, ⟨#[114, 117, 108, 101]⟩, ⟨#[111, 110, 99, 101]⟩, ⟨#[109, 111, 115, 116]⟩, ⟨#[113, 117, 101, 114, 121]⟩, ⟨#[109, 111, 100, 117, 108, 101]⟩, ⟨#[117, 115, 101]⟩, ⟨#[101, 120, 112, 111, 114, 116]⟩, ⟨#[97, 108, 108]⟩, ⟨#[101, 120]⟩, ⟨#[111, 110, 101]⟩, ⟨#[116, 111, 112]⟩]
theorem wordsB_eq : wordsB.map (fun b => b.data.toList) = wordsL := rfl

theorem index_pure (x : ByteArray) (l : List ByteArray) (hl : l.length < 1000000) : ∀ (d k i : Nat), i + d = l.length → d < k →
    ∃ j : Int, slices_Index_string_string.l0 k l x (l.length : Int) (i : Int) = some j ∧ decide (j ≥ 0) = ((l.drop i).map fun b => b.data.toList).contains x.data.toList := by
  intro d
  induction d with
  | zero =>
    intro k i h1 h2
    obtain ⟨k, rfl⟩ : ∃ m, k = m + 1 := ⟨k - 1, by omega⟩
    refine ⟨-1, ?_, ?_⟩
    · simp only [slices_Index_string_string.l0]
      rw [if_neg (by omega)]
    · rw [List.drop_of_length_le (by omega)]
      rfl
  | succ d ih =>
    intro k i h1 h2
    obtain ⟨k, rfl⟩ : ∃ m, k = m + 1 := ⟨k - 1, by omega⟩
    have hi : i < l.length := by omega
    have hd : l.drop i = l[i] :: l.drop (i + 1) := List.drop_eq_getElem_cons hi
    have hr : rdOf ByteArray.empty l (i : Int) = l[i] := by simp [rdOf, hi]
    have hw : wrap64 ((i : Int) + 1) = ((i + 1 : Nat) : Int) := by
      unfold wrap64
      omega
    by_cases he : x.toList = (rdOf ByteArray.empty l (i : Int)).toList
    · refine ⟨(i : Int), ?_, ?_⟩
      · simp only [slices_Index_string_string.l0]
        rw [if_pos (by omega), if_pos (by omega), if_pos (by omega), if_pos he]
      · rw [hd, List.map_cons, List.contains_cons]
        rw [hr, Lib.toList_data, Lib.toList_data] at he
        rw [he]
        simp
    · obtain ⟨j, hj, hc⟩ := ih k (i + 1) (by omega) (by omega)
      refine ⟨j, ?_, ?_⟩
      · simp only [slices_Index_string_string.l0]
        rw [if_pos (by omega), if_pos (by omega), if_pos (by omega), if_neg he, hw]
        exact hj
      · rw [hd, List.map_cons, List.contains_cons, hc]
        rw [hr, Lib.toList_data, Lib.toList_data] at he
        rw [show (x.data.toList == l[i].data.toList) = false by simpa using he]
        rfl
/-- Is it a keyword? -/
def wordB (x : ByteArray) : Bool := wordsL.contains x.data.toList
theorem contains_pure (x : ByteArray) : slices_Contains_string_string.f 100 wordsB x = some (wordB x) := by
  obtain ⟨j, hj, hc⟩ := index_pure x wordsB (by decide) 17 100 0 rfl (by omega)
  unfold slices_Contains_string_string.f slices_Index_string_string.f
  rw [show ((0 : Nat) : Int) = 0 from rfl] at hj
  rw [hj]
  simp only [Option.bind_some]
  rw [hc]
  rfl
end Go.Proofs.Ytkolnimgdbhekaa.P
