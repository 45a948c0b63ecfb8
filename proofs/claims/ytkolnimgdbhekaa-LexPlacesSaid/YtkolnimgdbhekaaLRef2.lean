/- The reference's token: the plain scanner's. -/
import Derived.Test.YtkolnimgdbhekaaLRef
namespace Go.Proofs.Ytkolnimgdbhekaa.P
open Go.RowKit Go.Proofs.YtkolnimgdbhekaaW.PrintWords Go.Proofs.YtkolnimgdbhekaaW.PrintLast Go.Proofs.YtkolnimgdbhekaaW.PrintMore

theorem byte64' (c : UInt8) : ((c.toNat : Int) = 64) ↔ c = 64 := byte_eq c 64 (by omega)
theorem rtok_small (s : ByteArray) (hs : s.size ≤ 140737488351232) (i : Nat) (hi : i < s.size) (hsm : smallB s[i] = true) (m : Nat) (hm : m = runN (s.data.toList.drop i)) (hrl2 : i + m ≤ s.size) (b : Bool) (hb : b = linkB (s.data.toList.drop i)) (k : Nat) (hk : s.size + 40 < k) :
    peculiumref01_token.j0 k s (i : Int) ((i + m : Nat) : Int) b = some (tokR (s.data.toList.drop i) i) := by
  obtain ⟨k, rfl⟩ : ∃ m, k = m + 1 := ⟨k - 1, by omega⟩
  rw [peculiumref01_token.j0]
  cases b
  · simp only [Bool.false_eq_true, if_false]
    have hn : nameN (s.data.toList.drop i) = m := by unfold nameN; rw [← hb, hm]; rfl
    have := tok2_f s hs i hi hsm k (by omega)
    rw [hn] at this
    exact this
  · simp only [if_true]
    have hlk := linkB_lt hb.symm
    rw [← hm] at hlk
    simp at hlk
    have hn : nameN (s.data.toList.drop i) = m + 1 + runN (s.data.toList.drop (i + m + 1)) := by
      unfold nameN
      rw [← hb, ← hm, if_pos rfl, List.drop_drop, show i + (m + 1) = i + m + 1 by omega]
    have hr2 := run_f s hs (s.size - (i + m + 1)) (i + m + 1) k (by omega) (by omega)
    rw [wrap_succ _ (by omega)]
    unfold peculiumref01_run.f
    rw [hr2]
    simp only [Option.bind_some]
    have := tok2_f s hs i hi hsm k (by omega)
    rw [hn] at this
    rw [show i + m + 1 + runN (s.data.toList.drop (i + m + 1)) = i + (m + 1 + runN (s.data.toList.drop (i + m + 1))) by omega]
    exact this
theorem find_signs (b : UInt8) (r : List UInt8) (hsm : smallB b = false) (hcap : capB b = false) (h4 : (b == 45 && r.head? == some 111) = false) (i : Nat) :
    (match ((⟨#[61, 62]⟩ : ByteArray) :: ⟨#[60, 61]⟩ :: ⟨#[45, 62]⟩ :: (onesL.map fun c => (⟨#[c]⟩ : ByteArray))).find? (signAt (b :: r)) with | none => ((0 : Int), (0 : Int)) | some p => ((3 : Int), ((i + p.size : Nat) : Int))) = tokR (b :: r) i := by
  rw [List.find?_cons, List.find?_cons, List.find?_cons, sign_two, sign_two, sign_two, find_ones]
  unfold tokR
  cases h2 : (b == 61 && r.head? == some 62)
  · cases h3 : (b == 60 && r.head? == some 61)
    · cases h1 : (b == 45 && r.head? == some 62)
      · cases ho : onesL.contains b
        · rw [tok_none1 hsm hcap h1 h2 h3 h4 ho]
          rfl
        · rw [tok_one hsm hcap h1 h2 h3 h4 ho]
          rfl
      · rw [tok_two hsm hcap (.inl h1)]
        rfl
    · rw [tok_two hsm hcap (.inr (.inr h3))]
      rfl
  · rw [tok_two hsm hcap (.inr (.inl h2))]
    rfl
theorem refSigns_le : ∀ p ∈ ((⟨#[45, 111]⟩ : ByteArray) :: ⟨#[111, 45]⟩ :: ⟨#[61, 62]⟩ :: ⟨#[60, 61]⟩ :: ⟨#[45, 62]⟩ :: (onesL.map fun c => (⟨#[c]⟩ : ByteArray))), p.size ≤ 100 := by
  intro p hp
  simp only [List.mem_cons, List.mem_map] at hp
  rcases hp with rfl | rfl | rfl | rfl | rfl | ⟨c, _, rfl⟩ <;> simp [ByteArray.size]
theorem rtok_sign (s : ByteArray) (hs : s.size ≤ 140737488351232) (i : Nat) (hi : i < s.size) (hsm : smallB s[i] = false) (hcap : capB s[i] = false) (h4 : (s[i] == 45 && (s.data.toList.drop (i + 1)).head? == some 111) = false) (k : Nat) (hk : s.size + 40 < k) :
    peculiumref01_token.l0 k s (i : Int) ((⟨#[45, 111]⟩ : ByteArray) :: ⟨#[111, 45]⟩ :: ⟨#[61, 62]⟩ :: ⟨#[60, 61]⟩ :: ⟨#[45, 62]⟩ :: (onesL.map fun c => (⟨#[c]⟩ : ByteArray))) 2 = some (tokR (s.data.toList.drop i) i) := by
  have h := signs_f s i hs (by omega) _ (by simp [onesL]) refSigns_le 15 k 2 (by simp [onesL]) (by omega)
  rw [drop_cons' s i hi] at h ⊢
  rw [← find_signs s[i] _ hsm hcap h4 i]
  exact h
theorem rtok_lolli (s : ByteArray) (hs : s.size ≤ 140737488351232) (i : Nat) (hi : i < s.size) (hsm : smallB s[i] = false) (hcap : capB s[i] = false) (h4 : (s[i] == 45 && (s.data.toList.drop (i + 1)).head? == some 111) = true) :
    (if (wrap64 ((i : Int) + 2)) < (s.size : Int) then (if 0 ≤ (wrap64 ((i : Int) + 2)) then ((peculiumref01_part.f (bt s (wrap64 ((i : Int) + 2)))).bind fun t157 => (if t157 = true then (some ((0 : Int), (0 : Int))) else (some (3, wrap64 ((i : Int) + 2))))) else (none)) else (some (3, wrap64 ((i : Int) + 2)))) = some (tokR (s.data.toList.drop i) i) := by
  have hdr := drop_cons' s i hi
  have h45 : s[i] = 45 := by simp at h4; exact h4.1
  have h111 : (s.data.toList.drop (i + 1)).head? = some 111 := by
    rw [Bool.and_eq_true] at h4
    exact beq_iff_eq.1 h4.2
  have hi1 : i + 1 < s.size := by
    rw [List.head?_drop] at h111
    have := (List.getElem?_eq_some_iff.1 h111).1
    simpa using this
  have h1 : (s[i] == 45 && (s.data.toList.drop (i + 1)).head? == some 62) = false := by rw [h111]; simp
  have h2 : (s[i] == 61 && (s.data.toList.drop (i + 1)).head? == some 62) = false := by rw [h111]; simp
  have h3 : (s[i] == 60 && (s.data.toList.drop (i + 1)).head? == some 61) = false := by rw [h111]; simp
  have hw2 : wrap64 ((i : Int) + 2) = ((i + 2 : Nat) : Int) := by unfold wrap64; omega
  rw [hw2]
  unfold tokR
  by_cases hi2 : i + 2 < s.size
  · have hd2 : (s[i] :: s.data.toList.drop (i + 1))[2]? = some s[i + 2] := by
      rw [← hdr, List.getElem?_drop]
      simp [hi2]
      rfl
    rw [if_pos (by omega), if_pos (by omega), bt_nat s (i + 2) hi2, part_f]
    simp only [Option.bind_some]
    rw [hdr]
    cases hp : partB s[i + 2]
    · rw [tok_lolli hsm hcap h1 h2 h3 h4 (.inr ⟨_, hd2, hp⟩)]
      rfl
    · rw [tok_none2 hsm hcap h1 h2 h3 h4 hd2 hp]
      rfl
  · rw [if_neg (by omega), hdr, tok_lolli hsm hcap h1 h2 h3 h4 (.inl (by simp; omega))]
    rfl
theorem rtok_f (s : ByteArray) (hs : s.size ≤ 140737488351232) (i : Nat) (hi : i < s.size) (k : Nat) (hk : s.size + 40 < k) :
    peculiumref01_token.f k s (i : Int) = some (tokR (s.data.toList.drop i) i) := by
  have hdr := drop_cons' s i hi
  have hrun := run_f s hs (s.size - i) i k (by omega) (by omega)
  have hrl := runN_le (s.data.toList.drop i)
  have hrl2 : i + runN (s.data.toList.drop i) ≤ s.size := by simp at hrl; omega
  unfold peculiumref01_token.f
  rw [if_pos (by omega), if_pos (by omega), bt_nat s i hi, capital_f, small_f, Option.bind_some]
  by_cases hcap : capB s[i] = true
  · rw [if_pos hcap]
    unfold peculiumref01_run.f
    rw [hrun]
    simp only [Option.bind_some]
    unfold tokR
    rw [hdr, tok_cap (small_not_cap _ hcap) hcap]
    rfl
  · have hcap' : capB s[i] = false := by simpa using hcap
    rw [if_neg hcap]
    by_cases hsm : smallB s[i] = true
    · rw [Option.bind_some, if_pos hsm]
      unfold peculiumref01_run.f
      rw [hrun, Option.bind_some]
      obtain ⟨m, hm⟩ : ∃ m, m = runN (s.data.toList.drop i) := ⟨_, rfl⟩
      rw [← hm] at hrl2 ⊢
      have hdm : (s.data.toList.drop i).drop m = s.data.toList.drop (i + m) := by rw [List.drop_drop]
      by_cases h1 : i + m + 1 < s.size
      · rw [wrap_succ _ (by omega), if_pos (by omega), if_pos (by omega), if_pos (by omega), bt_nat s (i + m) (by omega)]
        have hlk : linkB (s.data.toList.drop i) = (s[i + m] == 64 && smallB s[i + m + 1]) := by
          unfold linkB
          rw [← hm, hdm, drop_cons' s (i + m) (by omega), drop_cons' s (i + m + 1) (by omega)]
        by_cases h64 : s[i + m] = 64
        · rw [if_pos ((byte64' _).2 h64), if_pos (by omega), bt_nat s (i + m + 1) h1, small_f, Option.bind_some]
          exact rtok_small s hs i hi hsm m hm hrl2 _ (by rw [hlk, h64]; simp) k hk
        · rw [if_neg (fun h => h64 ((byte64' _).1 h))]
          exact rtok_small s hs i hi hsm m hm hrl2 _ (by rw [hlk, show (s[i + m] == 64) = false from beq_eq_false_iff_ne.2 h64, Bool.false_and]) k hk
      · rw [wrap_succ _ (by omega), if_neg (by omega)]
        refine rtok_small s hs i hi hsm m hm hrl2 _ ?_ k hk
        cases hb : linkB (s.data.toList.drop i)
        · rfl
        · have := linkB_lt hb
          rw [← hm] at this
          simp at this
          omega
    · have hsm' : smallB s[i] = false := by simpa using hsm
      rw [Option.bind_some, if_neg hsm, isAt_f s ⟨#[45, 111]⟩ i hs (by omega) (by decide), Option.bind_some]
      have hlo : ((s.data.toList.drop i).take (ByteArray.mk #[45, 111]).size == (ByteArray.mk #[45, 111]).data.toList) = (s[i] == 45 && (s.data.toList.drop (i + 1)).head? == some 111) := by
        rw [hdr]
        exact sign_two s[i] 45 111 (s.data.toList.drop (i + 1))
      rw [hlo]
      cases h4 : (s[i] == 45 && (s.data.toList.drop (i + 1)).head? == some 111)
      · rw [if_neg (by simp), refSigns_f]
        exact rtok_sign s hs i hi hsm' hcap' h4 k hk
      · rw [if_pos rfl]
        exact rtok_lolli s hs i hi hsm' hcap' h4

end Go.Proofs.Ytkolnimgdbhekaa.P
