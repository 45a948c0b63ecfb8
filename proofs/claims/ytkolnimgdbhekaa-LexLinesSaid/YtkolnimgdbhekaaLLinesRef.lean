/- The reference's Place, Lines, SameInts against the plain functions. LexLines: the walk. -/
import Derived.Test.YtkolnimgdbhekaaLLines
import Derived.Test.YtkolnimgdbhekaaLStrip
import Derived.Test.YtkolnimgdbhekaaLSane
import Derived.Test.YtkolnimgdbhekaaPx15
namespace Go.Proofs.Ytkolnimgdbhekaa.P
open Go.RowKit Go.Proofs.YtkolnimgdbhekaaW.PrintWords Go.Proofs.YtkolnimgdbhekaaW.PrintLast Go.Proofs.YtkolnimgdbhekaaW.PrintMore

theorem refPlace_l (s : ByteArray) (hs : s.size ≤ 30000) (p : Nat) (hp : p ≤ s.size) : ∀ (d i k : Nat), i + d = p → d < k → peculiumref01_Place.l0 k s (p : Int) (i : Int) ((ctN s.data.toList i : Int) + 1) ((i : Int) - ((stN s.data.toList i : Int) - 1)) 0 = some ((ctN s.data.toList p : Int) + 1, (p : Int) - ((stN s.data.toList p : Int) - 1), 0)
  | 0, i, k, hd, hk => by
    obtain ⟨k, rfl⟩ : ∃ m, k = m + 1 := ⟨k - 1, by omega⟩
    obtain rfl : i = p := by omega
    rw [peculiumref01_Place.l0, if_neg (by omega)]
  | d + 1, i, k, hd, hk => by
    obtain ⟨k, rfl⟩ : ∃ m, k = m + 1 := ⟨k - 1, by omega⟩
    have hi : i < s.size := by omega
    have hg : s.data.toList[i]? = some s[i] := by simp [hi]; rfl
    have ih := refPlace_l s hs p hp d (i + 1) k (by omega) (by omega)
    have hct := ctN_le s.data.toList i
    have hst := stN_le s.data.toList i
    rw [peculiumref01_Place.l0, if_pos (by omega), if_pos (by omega), if_pos (by omega), bt_nat s i hi, wrap_succ i (by omega)]
    by_cases h : s[i] = 10
    · rw [if_pos ((byte10 _).2 h)]
      rw [ctN, stN, hg, if_pos (by rw [h]), if_pos (by rw [h])] at ih
      have e1 : wrap64 ((ctN s.data.toList i : Int) + 1 + 1) = ((ctN s.data.toList i + 1 : Nat) : Int) + 1 := by unfold wrap64; omega
      have e2 : ((i + 1 : Nat) : Int) - (((i + 1 : Nat) : Int) - 1) = 1 := by omega
      rw [e2] at ih
      rw [e1]
      exact ih
    · rw [if_neg (fun h2 => h ((byte10 _).1 h2))]
      rw [ctN, stN, hg, if_neg (by simpa using h), if_neg (by simpa using h)] at ih
      have e1 : wrap64 ((i : Int) - ((stN s.data.toList i : Int) - 1) + 1) = ((i + 1 : Nat) : Int) - ((stN s.data.toList i : Int) - 1) := by unfold wrap64; omega
      rw [e1]
      exact ih
theorem refPlace_f (s : ByteArray) (hs : s.size ≤ 30000) (a : Int) (k : Nat) (hk : 30002 < k) : peculiumref01_Place.f k s a = some (placeL s a) := by
  obtain ⟨k, rfl⟩ : ∃ m, k = m + 1 := ⟨k - 1, by omega⟩
  unfold peculiumref01_Place.f
  have hj : peculiumref01_Place.j0 (k + 1) s a true = some (0, 0, 1) := by rw [peculiumref01_Place.j0, if_pos rfl]
  by_cases h0 : a < 0
  · rw [if_pos h0, hj, placeL, if_pos (.inl h0)]
  · rw [if_neg h0]
    by_cases h1 : a > (s.size : Int)
    · rw [decide_eq_true h1, hj, placeL, if_pos (.inr h1)]
    · obtain ⟨p, rfl⟩ := Int.eq_ofNat_of_zero_le (show 0 ≤ a by omega)
      rw [decide_eq_false h1, peculiumref01_Place.j0, if_neg (by decide), placeL_eq s p (by omega)]
      have := refPlace_l s hs p (by omega) p 0 k (by omega) (by omega)
      exact this
theorem refLines_l (s : ByteArray) (hs : s.size ≤ 30000) : ∀ (d i k : Nat), i + d = s.size → d < k → peculiumref01_Lines.l0 k s (linesI s.data.toList i) (i : Int) = some (linesI s.data.toList s.size)
  | 0, i, k, hd, hk => by
    obtain ⟨k, rfl⟩ : ∃ m, k = m + 1 := ⟨k - 1, by omega⟩
    rw [peculiumref01_Lines.l0, if_neg (by omega), show i = s.size by omega]
  | d + 1, i, k, hd, hk => by
    obtain ⟨k, rfl⟩ : ∃ m, k = m + 1 := ⟨k - 1, by omega⟩
    have hi : i < s.size := by omega
    have hg : s.data.toList[i]? = some s[i] := by simp [hi]; rfl
    have hl : (linesI s.data.toList i).length ≤ i + 1 := by
      have := ctN_le s.data.toList i
      unfold linesI
      rw [List.length_map, lnN_len]
      omega
    have ih' := refLines_l s hs d (i + 1) k (by omega) (by omega)
    rw [peculiumref01_Lines.l0, if_pos (by omega), if_pos (by omega), bt_nat s i hi, wrap_succ i (by omega)]
    by_cases h : s[i] = 10
    · rw [if_pos ((byte10 _).2 h), if_pos (by omega)]
      rw [show linesI s.data.toList (i + 1) = linesI s.data.toList i ++ [((i + 1 : Nat) : Int)] by unfold linesI; rw [lnN, hg, if_pos (by rw [h]), List.map_append]; rfl] at ih'
      exact ih'
    · rw [if_neg (fun h2 => h ((byte10 _).1 h2))]
      rw [show linesI s.data.toList (i + 1) = linesI s.data.toList i by unfold linesI; rw [lnN, hg, if_neg (by simpa using h)]] at ih'
      exact ih'
theorem refLines_f (s : ByteArray) (hs : s.size ≤ 30000) (k : Nat) (hk : 30001 < k) : peculiumref01_Lines.f k s = some (linesI s.data.toList s.size) :=
  refLines_l s hs s.size 0 k (by omega) (by omega)
theorem sameInts_l (l : List Int) (hl : l.length ≤ 1000000) : ∀ (d i k : Nat), i + d = l.length → d < k → peculiumref01_SameInts.l0 k l l (i : Int) = some true
  | 0, i, k, hd, hk => by
    obtain ⟨k, rfl⟩ : ∃ m, k = m + 1 := ⟨k - 1, by omega⟩
    rw [peculiumref01_SameInts.l0, if_neg (by omega)]
  | d + 1, i, k, hd, hk => by
    obtain ⟨k, rfl⟩ : ∃ m, k = m + 1 := ⟨k - 1, by omega⟩
    have ih' := sameInts_l l hl d (i + 1) k (by omega) (by omega)
    rw [peculiumref01_SameInts.l0, if_pos (by omega), if_pos (by omega), if_pos (by omega), if_pos rfl, wrap_succ i (by omega)]
    exact ih'
theorem sameInts_f (l : List Int) (hl : l.length ≤ 1000000) (k : Nat) (hk : l.length < k) : peculiumref01_SameInts.f k l l = some true := by
  unfold peculiumref01_SameInts.f
  rw [if_pos rfl]
  exact sameInts_l l hl l.length 0 k (by omega) hk

set_option maxHeartbeats 4000000 in
set_option maxRecDepth 100000 in
theorem LexLines_any (s : ByteArray) (a : Int) (w : World) (hs : s.size ≤ 140737488351232) :
    Calls Try.prog 11 #[.string s, .int .i64 a] w fun e w' => e = .returned (.bool true) ∧ Below w.heap.size w w' := by
  have HS := Lib.hid (fun w => peculiumlaw01_sane.calls true w rfl)
  have hu := Try.underlying51
  by_cases hbig : 30000 < s.size
  · go_enter Try.func11, Try.ntmps11
    go_wp2_with (go_at_call 13; refine (HS.out _).mono ?_; rintro e w1 ⟨rfl, hb1⟩)
    go_ret
    exact ⟨rfl, hb1⟩
  · have hs3 : s.size ≤ 30000 := by omega
    have hpf : lex_Place.f s a = some (placeL s a) := by unfold lex_Place.f; rw [if_pos hs]
    have hrp := refPlace_f s hs3 a 30003 (by omega)
    rcases hpq : placeL s a with ⟨p1, p2, p3⟩
    rw [hpq] at hpf hrp
    have HPL := Lib.hid (fun w => lex_Place.calls s a p1 p2 p3 w hpf)
    have HRP := Lib.hid (fun w => peculiumref01_Place.calls 30003 s a p1 p2 p3 w hrp)
    have HLL := Lib.hid (fun w => lex_Lines.calls 30002 s _ w (lexLines_f s hs3 30002 (by omega)))
    have HRL := Lib.hid (fun w => peculiumref01_Lines.calls 30002 s _ w (refLines_f s hs3 30002 (by omega)))
    have HCM := Lib.hid (fun w => lex_Comments.calls s w (by omega))
    have HRC := Lib.hid (fun w => refComments.calls s w hs3)
    have HST := Lib.hid (fun w => lex_Strip.calls s w (by omega))
    have HRS := Lib.hid (fun w => refStrip.calls s w hs3)
    obtain ⟨L, hL⟩ : ∃ L, L = linesI s.data.toList s.size := ⟨_, rfl⟩
    rw [← hL] at HLL HRL
    have hLl : L.length ≤ 30001 := by
      rw [hL]
      unfold linesI
      rw [List.length_map, lnN_len]
      have := ctN_le s.data.toList s.size
      omega
    have HSI := Lib.hid (sameInts_f L (by omega) 30002 (by omega))
    obtain ⟨cl, hcl⟩ : ∃ cl, cl = comS none 0 s.data.toList := ⟨_, rfl⟩
    have hok := (comS_ok s.data.toList).1 0 0 (Nat.le_refl _)
    rw [Nat.zero_add, Array.length_toList, ← hcl] at hok
    have hcll := okC_len cl 0 _ (Nat.zero_le _) hok
    have hcl3 : cl.length ≤ 30000 := by rw [show s.data.size = s.size from rfl] at hcll; omega
    rw [← hcl] at HCM HRC HST HRS
    clear hpf hrp hpq hL hcl hok hcll hu
    go_enter Try.func11, Try.ntmps11
    go_wp2_with (first
      | (go_at_call 13; refine (HS.out _).mono ?_; rintro e w1 ⟨rfl, hb1⟩)
      | (go_at_call 26; refine (HPL.out _).mono ?_; rintro e w2 ⟨rfl, hd2⟩)
      | (go_at_call 39; refine (HRP.out _).mono ?_; rintro e w3 ⟨rfl, hb3⟩)
      | (go_at_call 25; refine (HLL.out _).mono ?_; rintro e w4 ⟨v4, rfl, hR4, hb4⟩; obtain ⟨A4, c4, rfl⟩ := Kd.R_slice hR4)
      | (go_at_call 41; refine (HRL.out _).mono ?_; rintro e w5 ⟨v5, rfl, hR5, hb5⟩; obtain ⟨A5, c5, rfl⟩ := Kd.R_slice hR5)
      | (go_at_call 40; refine (peculiumref01_SameInts.calls 30002 A4 c4 L A5 c5 L true _ (Kd.C_below (Kd.R_reads' hR4).2.2 hb5) (Kd.R_reads' hR4).2.1 (Kd.R_reads' hR5).2.2 (Kd.R_reads' hR5).2.1 HSI.out).mono ?_; rintro e w6 ⟨rfl, hd6⟩)
      | (go_at_call 23; refine (HCM.out _).mono ?_; rintro e w7 ⟨A7, c7, rfl, hC7, hb7⟩)
      | (go_at_call 43; refine (HRC.out _).mono ?_; rintro e w8 ⟨A8, c8, rfl, hC8, hb8⟩)
      | (go_at_call 42; refine (samePairs_any A7 c7 cl A8 c8 cl _ (Kd.C_below hC7 hb8) hC8 (by omega)).mono ?_; rintro e w9 ⟨he9, hb9⟩; rw [decide_eq_true (rfl : cl = cl)] at he9; subst he9)
      | (go_at_call 44; refine (HST.out _).mono ?_; rintro e w10 ⟨rfl, hb10⟩)
      | (go_at_call 45; refine (HRS.out _).mono ?_; rintro e w11 ⟨rfl, hb11⟩))
    go_ret
    exact ⟨by simp, below_step (below_step (below_step (below_step (below_step (below_step (below_step (below_step (below_alloc (below_step (below_step hb1 hd2.below) hb3) _) hb4) hb5) hd6.below) hb7) hb8) hb9) hb10) hb11⟩
end Go.Proofs.Ytkolnimgdbhekaa.P
