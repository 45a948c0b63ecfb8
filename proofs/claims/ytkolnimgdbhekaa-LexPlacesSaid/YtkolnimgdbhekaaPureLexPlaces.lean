import Derived.Test.YtkolnimgdbhekaaPx14
import Derived.Test.YtkolnimgdbhekaaLLines
namespace Go.Proofs.Ytkolnimgdbhekaa.Pure
open Go.RowKit Go.Proofs.Ytkolnimgdbhekaa.P Go.Proofs.YtkolnimgdbhekaaW.PrintWords Go.Proofs.YtkolnimgdbhekaaW.PrintLast

theorem LexPlaces : peculiumlaw01_LexPlaces.Pure := by
  intro a0 a1 h0 _
  refine ⟨40000, ?_⟩
  unfold peculiumlaw01_LexPlaces.f peculiumlaw01_sane.f
  rw [Option.bind_some]
  by_cases hbig : 30000 < a0.size
  · rw [if_pos (by omega), peculiumlaw01_LexPlaces.j0, if_pos rfl]
  · have hpf : ∀ x, lex_Place.f a0 x = some (placeL a0 x) := fun x => by unfold lex_Place.f; rw [if_pos h0]
    rw [if_neg (by omega), peculiumlaw01_LexPlaces.j0, if_neg (by simp), lexLines_f a0 (by omega) _ (by omega), Option.bind_some, hpf, Option.bind_some]
    by_cases hneg : a1 < 0
    · rw [if_pos hneg, peculiumlaw01_LexPlaces.j1, if_pos rfl]
      have : placeL a0 a1 = (0, 0, 1) := by unfold placeL; rw [if_pos (.inl hneg)]
      rw [this]
      rfl
    · rw [if_neg hneg]
      by_cases hgt : (a0.size : Int) < a1
      · rw [peculiumlaw01_LexPlaces.j1, if_pos (by simpa using hgt)]
        have : placeL a0 a1 = (0, 0, 1) := by unfold placeL; rw [if_pos (.inr hgt)]
        rw [this]
        rfl
      · obtain ⟨p, rfl⟩ := Int.eq_ofNat_of_zero_le (by omega : 0 ≤ a1)
        have hp : p ≤ a0.size := by omega
        obtain ⟨l, hl⟩ : ∃ l, l = a0.data.toList := ⟨_, rfl⟩
        have hct := ctN_le l p
        have hst := stN_le l p
        obtain ⟨t, ht1, ht2⟩ := lnN_more l p (a0.size - p)
        rw [show p + (a0.size - p) = a0.size by omega] at ht1
        have hln := lnN_len l p
        have hlast := lnN_last l p
        have hlast2 : (lnN l a0.size)[ctN l p]? = some (stN l p) := by rw [ht1, List.getElem?_append_left (by omega)]; exact hlast
        have hlen : (linesI l a0.size).length = ctN l p + 1 + t.length := by unfold linesI; rw [List.length_map, ht1, List.length_append, hln]
        have hzero : (lnN l a0.size)[0]? = some 0 := by
          obtain ⟨u, hu, _⟩ := lnN_more l 0 a0.size
          rw [Nat.zero_add] at hu
          rw [hu]
          rfl
        have hp2 : placeL a0 ((stN l p : Nat) : Int) = ((ctN l p : Int) + 1, 1, 0) := by
          rw [placeL_eq a0 _ (by omega), ← hl, (st_st l p).1, (st_st l p).2]
          congr 2
          omega
        rw [peculiumlaw01_LexPlaces.j1, if_neg (by simpa using hgt), placeL_eq a0 p hp, ← hl]
        dsimp only
        have hw1 : wrap64 ((ctN l p : Int) + 1 - 1) = (ctN l p : Int) := by unfold wrap64; omega
        have hr1 := rd_lines l a0.size (ctN l p) _ hlast2
        rw [if_pos rfl, if_neg (by omega), if_neg (by omega), hw1, if_pos (by omega), if_pos (by omega), hr1]
        have hw2 : wrap64 (wrap64 ((stN l p : Int) + ((p : Int) - ((stN l p : Int) - 1))) - 1) = (p : Int) := by unfold wrap64; omega
        rw [hw2, if_pos rfl, hpf, hp2]
        have hr0 := rd_lines l a0.size 0 _ hzero
        rw [show ((0 : Nat) : Int) = 0 from rfl] at hr0
        by_cases hmore : t.length = 0
        · rw [if_neg (by omega), Option.bind_some, if_pos rfl, if_pos rfl, if_pos rfl, if_pos (by omega), hr0]
          rfl
        · obtain ⟨y, hy⟩ : ∃ y, t[0]? = some y := ⟨t[0], by simp⟩
          have hy2 := ht2 y (List.mem_of_getElem? hy)
          have hny : (lnN l a0.size)[ctN l p + 1]? = some y := by rw [ht1, List.getElem?_append_right (by omega), show ctN l p + 1 - (lnN l p).length = 0 by omega]; exact hy
          have hr2 := rd_lines l a0.size (ctN l p + 1) _ hny
          rw [show ((ctN l p + 1 : Nat) : Int) = (ctN l p : Int) + 1 by omega] at hr2
          rw [if_pos (by omega), if_pos (by omega), hr2, if_neg (by omega), Option.bind_some, if_pos rfl, if_pos rfl, if_pos rfl, if_pos (by omega), hr0]
          rfl

end Go.Proofs.Ytkolnimgdbhekaa.Pure
