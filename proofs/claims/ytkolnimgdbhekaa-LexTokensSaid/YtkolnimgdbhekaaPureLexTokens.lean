import Derived.Test.YtkolnimgdbhekaaPx12
import Derived.Test.YtkolnimgdbhekaaLCheck
namespace Go.Proofs.Ytkolnimgdbhekaa.P
open Go.RowKit Go.Proofs.YtkolnimgdbhekaaW.PrintWords Go.Proofs.YtkolnimgdbhekaaW.PrintLast

theorem lexIs (s : ByteArray) (kd : Int) (hs : s.size ≤ 140737488351232) : lex_is.f s kd = some (vTok kd s.data.toList) := by
  unfold lex_is.f
  have h := check_f ⟨kd, s, 0⟩ hs
  rw [okT_vTok] at h
  dsimp only at h
  rw [h, Option.bind_some]
  cases vTok kd s.data.toList <;> rfl
theorem runN_all : ∀ l : List UInt8, runN l = l.length → (64 : UInt8) ∉ l
  | [], _ => by simp
  | c :: l, h => by
    unfold runN at h
    split at h
    · rename_i hp
      have ih := runN_all l (by simpa using h)
      simp only [List.mem_cons, not_or]
      refine ⟨?_, ih⟩
      rintro rfl
      exact absurd hp (by decide)
    · simp at h
theorem index_mem : ∀ (l : List UInt8) (c : UInt8), decide (0 ≤ Lib.indexByte l c) = decide (c ∈ l)
  | [], c => by simp [Lib.indexByte]
  | b :: l, c => by
    have ih := index_mem l c
    have hge := Lib.indexByte_ge l c
    unfold Lib.indexByte
    by_cases hb : b = c
    · subst hb
      simp
    · rw [if_neg (by simpa using hb)]
      have hcm : (c ∈ b :: l) ↔ c ∈ l := by simp [Ne.symm hb]
      rw [decide_eq_decide] at ih ⊢
      rw [hcm, ← ih]
      split
      · rename_i h1
        simp at h1
        omega
      · rename_i h1
        simp at h1
        omega
/-- A plain or linked name: it has an '@' just where its name characters end ahead of its end. -/
theorem plain_run (l : List UInt8) (h : vTok 1 l = true) : (!decide (0 ≤ Lib.indexByte l 64)) = ((runN l : Int) == (l.length : Int)) := by
  rw [index_mem]
  unfold vTok at h
  split at h
  · cases h
  · rename_i k n ht
    have hle := runN_le l
    simp only [Bool.and_eq_true, beq_iff_eq, decide_eq_true_eq] at h
    obtain ⟨⟨h1, h2⟩, _⟩ := h
    by_cases hr : runN l = l.length
    · have := runN_all l hr
      simp [hr, this]
    · have hlk : linkB l = true := by
        match l, ht with
        | b :: r, ht =>
          have hk : k = 1 := by omega
          subst hk
          have hn : n = nameN (b :: r) := by
            simp only [tok] at ht
            split at ht
            · split at ht
              · simp at ht
              · split at ht
                · simp at ht
                · simp at ht
                  exact ht.symm
            · split at ht
              · simp at ht
              · split at ht
                · simp at ht
                · split at ht
                  · split at ht
                    · simp at ht
                    · split at ht <;> simp at ht
                  · split at ht <;> simp at ht
          cases hb : linkB (b :: r)
          · unfold nameN at hn
            rw [hb] at hn
            simp at hn
            omega
          · rfl
      have hmem : (64 : UInt8) ∈ l := by
        unfold linkB at hlk
        split at hlk
        · rename_i a c t hd
          simp only [Bool.and_eq_true, beq_iff_eq] at hlk
          have : a ∈ l := List.mem_of_mem_drop (i := runN l) (by rw [hd]; exact List.mem_cons_self ..)
          rw [hlk.1] at this
          exact this
        · cases hlk
      have hne : ((runN l : Int) == (l.length : Int)) = false := beq_eq_false_iff_ne.2 (by omega)
      rw [hne]
      simp [hmem]
theorem lexPlain (s : ByteArray) (hs : s.size ≤ 140737488351232) (k : Nat) (hk : 200 + s.size < k) : lex_IsPlain.f s = peculiumref01_IsPlain.f k s := by
  unfold lex_IsPlain.f peculiumref01_IsPlain.f peculiumref01_IsName.f
  rw [lexIs s 1 hs, Option.bind_some, refCheck_f 1 s 0 k (by omega) hs, Option.bind_some, Option.bind_some]
  cases hv : vTok 1 s.data.toList
  · rfl
  · have hr := run_f s hs s.size 0 k (by omega) (by omega)
    rw [Nat.zero_add, List.drop_zero] at hr
    unfold peculiumref01_run.f strings_Contains.f
    rw [show ((0 : Nat) : Int) = 0 from rfl] at hr
    have hp := plain_run _ hv
    simp only [if_true]
    rw [hr, Option.bind_some]
    rw [show (s.data.toList.length : Int) = (s.size : Int) by simp] at hp
    show some (!decide (0 ≤ Lib.indexByte s.data.toList 64)) = _
    rw [hp]
    rfl
theorem sameStr_refl (a : List ByteArray) (ha : a.length ≤ 1000000) (k : Nat) (hk : a.length < k) : peculiumref01_SameStrings.f k a a = some true := by
  unfold peculiumref01_SameStrings.f
  rw [if_pos rfl]
  have : ∀ (d i k : Nat), i + d = a.length → d < k → peculiumref01_SameStrings.l0 k a a (i : Int) = some true := by
    intro d
    induction d with
    | zero =>
      intro i k h1 h2
      obtain ⟨k, rfl⟩ : ∃ m, k = m + 1 := ⟨k - 1, by omega⟩
      rw [peculiumref01_SameStrings.l0, if_neg (by omega)]
    | succ d ih =>
      intro i k h1 h2
      obtain ⟨k, rfl⟩ : ∃ m, k = m + 1 := ⟨k - 1, by omega⟩
      rw [peculiumref01_SameStrings.l0, if_pos (by omega), if_pos (by omega), if_pos (by omega), if_pos rfl, wrap_succ i (by omega), ih (i + 1) k (by omega) (by omega)]
  exact this a.length 0 k (by omega) hk
theorem sameWords (k : Nat) (hk : 100 < k) : ∃ a b, lex_Words.f = some a ∧ peculiumref01_Words.f = some b ∧ peculiumref01_SameStrings.f k a b = some true :=
  ⟨_, _, rfl, rfl, sameStr_refl _ (by simp) k (by simp; omega)⟩
theorem sameSigns (k : Nat) (hk : 100 < k) : ∃ a b, lex_Signs.f = some a ∧ peculiumref01_Signs.f = some b ∧ peculiumref01_SameStrings.f k a b = some true :=
  ⟨_, _, rfl, rfl, sameStr_refl _ (by simp) k (by simp; omega)⟩
end Go.Proofs.Ytkolnimgdbhekaa.P
namespace Go.Proofs.Ytkolnimgdbhekaa.Pure
open Go.RowKit Go.Proofs.Ytkolnimgdbhekaa.P Go.Proofs.YtkolnimgdbhekaaW.PrintWords Go.Proofs.YtkolnimgdbhekaaW.PrintLast

theorem LexTokens (x : S34) (s : ByteArray) (hx : x.f1.size ≤ 140737488351232) (hs : s.size ≤ 140737488351232) : ∃ k, peculiumlaw01_LexTokens.f k x.f0 x.f1 x.f2 s = some true := by
  refine ⟨s.size + 1000, ?_⟩
  obtain ⟨k, hk⟩ : ∃ k, k + 1 = s.size + 1000 := ⟨s.size + 999, by omega⟩
  rw [← hk]
  unfold peculiumlaw01_LexTokens.f peculiumlaw01_sane.f lex_IsName.f peculiumref01_IsName.f lex_IsVar.f peculiumref01_IsVar.f
  rw [lexIs s 1 hs, lexIs s 2 hs, refCheck_f 1 s 0 (k + 1) (by omega) hs, refCheck_f 2 s 0 (k + 1) (by omega) hs, lexPlain s hs (k + 1) (by omega)]
  have hpl : ∃ b, peculiumref01_IsPlain.f (k + 1) s = some b := by
    rw [← lexPlain s hs (k + 1) (by omega)]
    unfold lex_IsPlain.f
    rw [lexIs s 1 hs, Option.bind_some]
    cases vTok 1 s.data.toList
    · exact ⟨_, rfl⟩
    · exact ⟨_, rfl⟩
  obtain ⟨b, hb⟩ := hpl
  rw [hb]
  have hvv : ∀ v : Bool, (v == ((if v = true then (0 : Int) else 12) == 0)) = true := by decide
  have hck := check_f x hx
  rw [okT_vTok] at hck
  have hrc := refCheck_f x.f0 x.f1 x.f2 k (by omega) hx
  obtain ⟨wa, wb, hw1, hw2, hw3⟩ := sameWords k (by omega)
  obtain ⟨sa, sb, hs1, hs2, hs3⟩ := sameSigns k (by omega)
  rw [Option.bind_some, Option.bind_some, Option.bind_some, Option.bind_some, Option.bind_some, if_pos (hvv _), Option.bind_some, Option.bind_some, if_pos (by simp), Option.bind_some, Option.bind_some, Option.bind_some, Option.bind_some, peculiumlaw01_LexTokens.j0, if_pos rfl, if_pos (hvv _)]
  rw [hck, Option.bind_some, hrc, Option.bind_some, if_pos rfl, hw1, Option.bind_some, hw2, Option.bind_some, hw3, Option.bind_some, if_pos rfl, hs1, Option.bind_some, hs2, Option.bind_some, hs3, Option.bind_some]

end Go.Proofs.Ytkolnimgdbhekaa.Pure
