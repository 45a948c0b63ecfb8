/- LexBack, the plain law: what Join and Tight write of a text's tokens is scanned as the same tokens; Tight's is no longer than Join's. -/
import Derived.Test.YtkolnimgdbhekaaPx16
import Derived.Test.YtkolnimgdbhekaaLChain
namespace Go.Proofs.Ytkolnimgdbhekaa.P
open Go.RowKit Go.Proofs.YtkolnimgdbhekaaW.PrintWords Go.Proofs.YtkolnimgdbhekaaW.PrintLast Go.Proofs.YtkolnimgdbhekaaW.PrintMore

theorem joinE (l : List S34) (h : ∀ t ∈ l, okT t = true) : lex_Join.f l = some ⟨(writtenL joinSp l).toArray⟩ := by
  unfold lex_Join.f
  rw [if_pos (List.all_eq_true.2 fun t ht => decide_eq_true (by have := okT_size t (h t ht); omega))]
theorem tightE (l : List S34) (h : ∀ t ∈ l, okT t = true) : lex_Tight.f l = some ⟨(writtenL tightSp l).toArray⟩ := by
  unfold lex_Tight.f
  rw [if_pos (List.all_eq_true.2 fun t ht => decide_eq_true (by have := okT_size t (h t ht); omega))]
theorem scanE (l : List UInt8) (h : l.length ≤ 20000) : lex_Scan.f ⟨l.toArray⟩ = some (scanL l) := by
  have hz : (⟨l.toArray⟩ : ByteArray).size = l.length := by show l.toArray.size = _; simp
  unfold lex_Scan.f
  rw [if_pos (by omega)]
theorem mkE (l : List UInt8) : (⟨l.toArray⟩ : ByteArray).toList = l := by rw [Lib.toList_data]
/-- The end of LexBack. -/
theorem back_end (l : List S34) (a b : List UInt8) (k : Nat) (hb : b ≠ []) (h2 : b.length ≤ 20000) (hs : ∃ toks, scanL b = (toks, 0, 0) ∧ sameL toks l = true) (hab : a = [] ∨ b.length ≤ a.length) : peculiumlaw01_LexBack.j1 (k + 1) l ⟨a.toArray⟩ ⟨b.toArray⟩ = some true := by
  obtain ⟨toks, h3, h4⟩ := hs
  rw [peculiumlaw01_LexBack.j1, mkE, if_neg hb, scanE b h2, h3, Option.bind_some, if_pos rfl]
  unfold lex_Same.f
  rw [Option.bind_some, h4, if_pos rfl, mkE]
  by_cases ha : a = []
  · rw [if_pos ha]
  · rw [if_neg ha]
    have e1 : (⟨b.toArray⟩ : ByteArray).size = b.length := by show b.toArray.size = _; simp
    have e2 : (⟨a.toArray⟩ : ByteArray).size = a.length := by show a.toArray.size = _; simp
    rcases hab with h | h
    · exact absurd h ha
    · rw [e1, e2, decide_eq_true (by omega)]
end Go.Proofs.Ytkolnimgdbhekaa.P
namespace Go.Proofs.Ytkolnimgdbhekaa.Pure
open Go.RowKit Go.Proofs.Ytkolnimgdbhekaa.P Go.Proofs.YtkolnimgdbhekaaW.PrintWords Go.Proofs.YtkolnimgdbhekaaW.PrintLast

theorem LexBack : peculiumlaw01_LexBack.Pure := by
  intro s hs
  refine ⟨5, ?_⟩
  have hse : lex_Scan.f s = some (scanL s.data.toList) := by unfold lex_Scan.f; rw [if_pos hs]
  unfold peculiumlaw01_LexBack.f peculiumlaw01_sane.f
  rw [Option.bind_some, hse, Option.bind_some, if_pos rfl]
  rcases hsc : scanL s.data.toList with ⟨l, at_, e⟩
  show peculiumlaw01_LexBack.j0 5 true l (e != 0) = some true
  by_cases he : e = 0
  · subst he
    obtain ⟨h20, _, htk, h6⟩ := toks_of_scanL hsc
    have hok := toks_ok _ _ _ htk
    rw [peculiumlaw01_LexBack.j0, if_neg (by decide), joinE l hok, tightE l hok, Option.bind_some, Option.bind_some, mkE]
    cases l with
    | nil =>
      have hw : ∀ sp, writtenL sp ([] : List S34) = [] := fun sp => rfl
      rw [hw, hw, if_pos rfl, peculiumlaw01_LexBack.j1, if_pos (mkE [])]
      rfl
    | cons x r =>
      have hx := hok x (List.mem_cons_self ..)
      have hxl := (tok_ok hx).2.2.1
      have hA := written_flags joinSp x r hok h6
      have hT := written_flags tightSp x r hok h6
      have hTl := (tight_len _ _ _ htk).2
      have hdl : (s.data.toList.drop (skipN false s.data.toList)).length ≤ 20000 := by rw [List.length_drop]; omega
      rw [if_neg (by omega)] at hT
      have hle := tight_join_len r x
      have hTs := scan_written tightSp x r hok h6 (tight_chain r x hok) (by omega)
      have hTn : bsT x ++ wrW (flagsW tightSp x r) ≠ [] := by
        intro h0
        have := congrArg List.length h0
        rw [List.length_append] at this
        simp at this
        have h1 : (bsT x).length = 0 := by rw [this.1]; rfl
        omega
      rw [hT]
      by_cases hbig : 20000 < (bsT x ++ wrW (flagsW joinSp x r)).length
      · rw [if_pos hbig] at hA
        rw [hA, if_pos rfl]
        exact back_end _ _ _ _ hTn (by omega) hTs (.inl rfl)
      · rw [if_neg hbig] at hA
        have hAn : bsT x ++ wrW (flagsW joinSp x r) ≠ [] := by
          intro h0
          have := congrArg List.length h0
          rw [List.length_append] at this
          simp at this
          have h1 : (bsT x).length = 0 := by rw [this.1]; rfl
          omega
        obtain ⟨toks, h3, h4⟩ := scan_written joinSp x r hok h6 (join_chain r x) (by omega)
        rw [hA, if_neg hAn, scanE _ (by omega), h3, Option.bind_some, if_pos rfl]
        unfold lex_Same.f
        rw [Option.bind_some, h4, if_pos rfl]
        exact back_end _ _ _ _ hTn (by omega) hTs (.inr (by rw [List.length_append, List.length_append]; omega))
  · have : (e != 0) = true := by simpa using he
    rw [this, peculiumlaw01_LexBack.j0, if_pos rfl]
end Go.Proofs.Ytkolnimgdbhekaa.Pure
