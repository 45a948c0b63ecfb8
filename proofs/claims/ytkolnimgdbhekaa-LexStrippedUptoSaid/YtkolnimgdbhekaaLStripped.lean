/- LexStripped: the walk, for texts of at most 1048576 bytes. -/
import Derived.Test.YtkolnimgdbhekaaLStripP
import Derived.Test.YtkolnimgdbhekaaLSane
namespace Go.Proofs.Ytkolnimgdbhekaa.P
open Go.RowKit Go.Proofs.YtkolnimgdbhekaaW.PrintWords Go.Proofs.YtkolnimgdbhekaaW.PrintLast Go.Proofs.YtkolnimgdbhekaaW.PrintMore

theorem lines_len (l : List UInt8) : (linesI l l.length).length = Lib.countByte l 10 + 1 := by
  unfold linesI
  rw [List.length_map, lnN_len, ← ct_count l l.length (Nat.le_refl _), List.take_length]

set_option maxHeartbeats 4000000 in
set_option maxRecDepth 100000 in
theorem LexStripped_any (s : ByteArray) (w : World) (hs : s.size ≤ 1048576) :
    Calls Try.prog 12 #[.string s] w fun e w' => e = .returned (.bool true) ∧ Below w.heap.size w w' := by
  have HS := Lib.hid (fun w => peculiumlaw01_sane.calls true w rfl)
  obtain ⟨l, hl⟩ : ∃ l, l = s.data.toList := ⟨_, rfl⟩
  have hll : l.length = s.size := by rw [hl, Array.length_toList]; rfl
  obtain ⟨st, hst⟩ : ∃ st, st = stripP false l := ⟨_, rfl⟩
  have hstl : st.length ≤ l.length := by rw [hst]; exact strip_len _ _
  obtain ⟨S, hS⟩ : ∃ S : ByteArray, S = ⟨st.toArray⟩ := ⟨_, rfl⟩
  have hSz : S.size = st.length := by rw [hS]; show st.toArray.size = _; simp
  have hSl : S.data.toList = st := by rw [hS]
  have HST := Lib.hid (fun w => lex_Strip.calls s w (by omega))
  rw [← hl, strip_all, ← hst, ← hS] at HST
  rcases hsc : scanL l with ⟨r, a1, e1⟩
  have hf1 : lex_Scan.f s = some (r, a1, e1) := by unfold lex_Scan.f; rw [if_pos (by omega), ← hl, hsc]
  have HSC := Lib.hid (fun w => lex_Scan.calls s r a1 e1 w hf1)
  rcases hsm : scanL st with ⟨m, a2, e2⟩
  have hf2 : lex_Scan.f S = some (m, a2, e2) := by unfold lex_Scan.f; rw [if_pos (by omega), hSl, hsm]
  have HSM := Lib.hid (fun w => lex_Scan.calls S m a2 e2 w hf2)
  by_cases he : e1 = 0
  · subst he
    obtain ⟨m', h1, h2⟩ := scan_strip hsc
    rw [← hst, hsm] at h1
    simp only [Prod.mk.injEq] at h1
    obtain ⟨rfl, rfl, rfl⟩ := h1
    have h20 := (toks_of_scanL hsc).1
    have hsame : lex_Same.f r m = some true := by unfold lex_Same.f; rw [h2]
    have HSA := Lib.hid hsame
    have hc0 : comS none 0 st = [] := com_no37 st 0 (by rw [hst]; exact strip_no37 false l)
    have HCM := Lib.hid (fun w => lex_Comments.calls S w (by omega))
    rw [hSl, hc0] at HCM
    have HLS := Lib.hid (fun w => lex_Lines.calls 30002 S _ w (lexLines_f S (by omega) 30002 (by omega)))
    have HLT := Lib.hid (fun w => lex_Lines.calls 30002 s _ w (lexLines_f s (by omega) 30002 (by omega)))
    rw [hSl, hSz] at HLS
    rw [← hl, ← hll] at HLT
    have hlen : (linesI l l.length).length = (linesI st st.length).length := by rw [lines_len, lines_len, hst, strip_count]
    have HSS := Lib.hid (fun w => lex_Strip.calls S w (by omega))
    have hid2 : stripP false st = st := strip_no37_id st (by rw [hst]; exact strip_no37 false l)
    rw [hSl, strip_all, hid2, ← hS] at HSS
    obtain ⟨L1, hL1⟩ : ∃ L1, L1 = linesI l l.length := ⟨_, rfl⟩
    obtain ⟨L2, hL2⟩ : ∃ L2, L2 = linesI st st.length := ⟨_, rfl⟩
    rw [← hL1] at HLT hlen
    rw [← hL2] at HLS hlen
    clear hf1 hf2 hsm hsc h2 hsame hc0 hL1 hL2 hid2 hSl hSz hS hst hstl hl hll h20
    go_enter Try.func12, Try.ntmps12
    go_wp2_with (first
      | (go_at_call 13; refine (HS.out _).mono ?_; rintro e w1 ⟨rfl, hb1⟩)
      | (go_at_call 14; refine (HSC.out _).mono ?_; rintro e w2 ⟨v2, rfl, hR2, hb2⟩; obtain ⟨A2, c2, rfl⟩ := Kd.R_slice hR2; clear HSC)
      | (go_at_call 14; refine (HSM.out _).mono ?_; rintro e w4 ⟨v4, rfl, hR4, hb4⟩; obtain ⟨A4, c4, rfl⟩ := Kd.R_slice hR4; clear HSM)
      | (go_at_call 44; refine (HST.out _).mono ?_; rintro e w3 ⟨rfl, hb3⟩; clear HST)
      | (go_at_call 21; refine (lex_Same.calls A2 c2 r A4 c4 m true _ (Kd.C_below (Kd.C_below (Kd.R_reads' hR2).2.2 hb3) hb4) (Kd.R_reads' hR2).2.1 (Kd.R_reads' hR4).2.2 (Kd.R_reads' hR4).2.1 HSA.out).mono ?_; rintro e w5 ⟨rfl, hb5⟩)
      | (go_at_call 23; refine (HCM.out _).mono ?_; rintro e w6 ⟨A6, c6, rfl, hC6, hb6⟩)
      | (go_at_call 25; refine (HLS.out _).mono ?_; rintro e w7 ⟨v7, rfl, hR7, hb7⟩; obtain ⟨A7, c7, rfl⟩ := Kd.R_slice hR7; clear HLS)
      | (go_at_call 25; refine (HLT.out _).mono ?_; rintro e w8 ⟨v8, rfl, hR8, hb8⟩; obtain ⟨A8, c8, rfl⟩ := Kd.R_slice hR8; clear HLT)
      | (go_at_call 44; refine (HSS.out _).mono ?_; rintro e w9 ⟨rfl, hb9⟩))
    go_ret
    exact ⟨by simp, below_step (below_step (below_step (below_step (below_step (below_step (below_step (below_step hb1 hb2) hb3) hb4) hb5) hb6) hb7) hb8) hb9⟩
  · have he1 : (e1 != 0) = true := by simpa using he
    clear hf1 hf2 hsm hsc hSl hSz hS hst hstl hl hll
    go_enter Try.func12, Try.ntmps12
    go_wp2_with (first
      | (go_at_call 13; refine (HS.out _).mono ?_; rintro e w1 ⟨rfl, hb1⟩)
      | (go_at_call 14; refine (HSC.out _).mono ?_; rintro e w2 ⟨v2, rfl, hR2, hb2⟩; obtain ⟨A2, c2, rfl⟩ := Kd.R_slice hR2; clear HSC)
      | (go_at_call 14; refine (HSM.out _).mono ?_; rintro e w4 ⟨v4, rfl, hR4, hb4⟩; obtain ⟨A4, c4, rfl⟩ := Kd.R_slice hR4; clear HSM)
      | (go_at_call 44; refine (HST.out _).mono ?_; rintro e w3 ⟨rfl, hb3⟩; clear HST))
    go_ret
    exact ⟨by simp, below_step (below_step (below_step hb1 hb2) hb3) hb4⟩
end Go.Proofs.Ytkolnimgdbhekaa.P
