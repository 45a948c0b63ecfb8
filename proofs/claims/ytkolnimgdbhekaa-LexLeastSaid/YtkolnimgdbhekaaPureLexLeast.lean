/- LexLeast, the plain law: without one of its spaces what Tight writes is scanned as other tokens, or not at all. -/
import Derived.Test.YtkolnimgdbhekaaPx17
import Derived.Test.YtkolnimgdbhekaaLChain
namespace Go.Proofs.Ytkolnimgdbhekaa.P
open Go.RowKit Go.Proofs.YtkolnimgdbhekaaW.PrintWords Go.Proofs.YtkolnimgdbhekaaW.PrintLast Go.Proofs.YtkolnimgdbhekaaW.PrintMore

theorem no32 {x : S34} (h : okT x = true) (i : Nat) : (bsT x)[i]? ≠ some 32 := by
  obtain ⟨h1, _, h3, _⟩ := tok_ok h
  intro h0
  have hi := (List.getElem?_eq_some_iff.1 h0).1
  have hd : (bsT x).drop i = 32 :: (bsT x).drop (i + 1) := by
    rw [List.drop_eq_getElem_cons hi]
    congr 1
    have := (List.getElem?_eq_some_iff.1 h0).2
    exact this
  have he : bsT x = (bsT x).take i ++ 32 :: (bsT x).drop (i + 1) := by rw [← hd, List.take_append_drop]
  by_cases hi0 : (bsT x).take i = []
  · rw [he, hi0, List.nil_append] at h1
    have h2 : tok (32 :: (bsT x).drop (i + 1)) = none := tok_blank (by rw [skipN, if_pos (by decide)]; omega)
    rw [h2] at h1
    cases h1
  · rw [he, tok_stop _ _ 32 (.inr rfl) hi0] at h1
    have h2 := (tok_le h1).2
    rw [← he, List.length_take] at h2
    omega
theorem sp_at : ∀ (L : List (Bool × S34)) (i : Nat), (∀ p ∈ L, okT p.2 = true) → (wrW L)[i]? = some 32 → ∃ L1 z L2, L = L1 ++ (true, z) :: L2 ∧ i = (wrW L1).length
  | [], i, _, h => by simp [wrW] at h
  | (s, y) :: L, i, hL, h => by
    have hy : okT y = true := hL (s, y) (List.mem_cons_self ..)
    rw [wrW] at h
    have key : ∀ j, i = (glW s).length + j → ∃ L1 z L2, (s, y) :: L = L1 ++ (true, z) :: L2 ∧ i = (wrW L1).length := by
      intro j hj
      rw [List.getElem?_append_right (by omega)] at h
      by_cases h3 : i - (glW s).length < (bsT y).length
      · rw [List.getElem?_append_left h3] at h
        exact absurd h (no32 hy _)
      · rw [List.getElem?_append_right (by omega)] at h
        obtain ⟨L1, z, L2, e1, e2⟩ := sp_at L _ (fun p hp => hL p (List.mem_cons_of_mem _ hp)) h
        exact ⟨(s, y) :: L1, z, L2, by rw [e1]; rfl, by rw [wrW, List.length_append, List.length_append]; omega⟩
    cases s
    · exact key i (by simp [glW])
    · match i with
      | 0 => exact ⟨[], y, L, rfl, rfl⟩
      | j + 1 => exact key j (by simp [glW]; omega)
theorem wrW_app : ∀ (L1 L2 : List (Bool × S34)), wrW (L1 ++ L2) = wrW L1 ++ wrW L2
  | [], _ => rfl
  | (s, y) :: L1, L2 => by simp only [List.cons_append, wrW, wrW_app L1 L2, List.append_assoc]
theorem chain_pre : ∀ (L1 L2 : List (Bool × S34)) (x : S34), chainW x (L1 ++ L2) → chainW x L1
  | [], _, _, _ => trivial
  | (_, y) :: L1, L2, _, ⟨h1, h2⟩ => ⟨h1, chain_pre L1 L2 y h2⟩
theorem flag_last (sp : S34 → S34 → Bool) : ∀ (L1 : List (Bool × S34)) (x z : S34) (L2 : List (Bool × S34)) (r : List S34), flagsW sp x r = L1 ++ (true, z) :: L2 → sp (lastW x L1) z = true
  | [], x, z, L2, y :: r, h => by
    simp only [flagsW, List.nil_append, List.cons.injEq, Prod.mk.injEq] at h
    rw [lastW, ← h.1.2]
    exact h.1.1
  | (s, y) :: L1, x, z, L2, y' :: r, h => by
    simp only [flagsW, List.cons_append, List.cons.injEq, Prod.mk.injEq] at h
    obtain ⟨⟨_, rfl⟩, h2⟩ := h
    exact flag_last sp L1 y' z L2 r h2
  | [], _, _, _, [], h => by simp [flagsW] at h
  | _ :: _, _, _, _, [], h => by simp [flagsW] at h
theorem last_ok : ∀ (L1 : List (Bool × S34)) (x : S34), okT x = true → (∀ p ∈ L1, okT p.2 = true) → okT (lastW x L1) = true
  | [], _, h, _ => h
  | (_, y) :: L1, _, _, hL => last_ok L1 y (hL _ (List.mem_cons_self ..)) (fun p hp => hL p (List.mem_cons_of_mem _ hp))
/-- One space taken away. -/
theorem hole (l : List S34) (hok : ∀ t ∈ l, okT t = true) (h6 : l.length ≤ 6000) (i : Nat) (hi : (writtenL tightSp l)[i]? = some 32) (toks : List S34) (a : Int) (hs : scanL ((writtenL tightSp l).take i ++ (writtenL tightSp l).drop (i + 1)) = (toks, a, 0)) : sameL toks l = false := by
  cases l with
  | nil => rw [show writtenL tightSp ([] : List S34) = [] from rfl] at hi; simp at hi
  | cons x r =>
    have hx := hok x (List.mem_cons_self ..)
    have hr : ∀ t ∈ r, okT t = true := fun t ht => hok t (List.mem_cons_of_mem _ ht)
    have hw := written_flags tightSp x r hok h6
    by_cases hbig : 20000 < (bsT x ++ wrW (flagsW tightSp x r)).length
    · rw [if_pos hbig] at hw
      rw [hw] at hi
      simp at hi
    · rw [if_neg hbig] at hw
      rw [hw] at hi hs
      by_cases hix : i < (bsT x).length
      · rw [List.getElem?_append_left hix] at hi
        exact absurd hi (no32 hx _)
      · rw [List.getElem?_append_right (by omega)] at hi
        have hF := flags_ok tightSp x r hr
        obtain ⟨L1, z, L2, e1, e2⟩ := sp_at _ _ hF hi
        have hc := tight_chain r x hok
        have hlast := flag_last tightSp L1 x z L2 r e1
        have hmap := flags_snd tightSp x r
        rw [e1] at hs hF hc hmap
        have hL1 : ∀ p ∈ L1, okT p.2 = true := fun p hp => hF p (List.mem_append_left _ hp)
        have hz : okT z = true := hF (true, z) (List.mem_append_right _ (List.mem_cons_self ..))
        have hform : bsT x ++ wrW (L1 ++ (true, z) :: L2) = (bsT x ++ wrW L1) ++ 32 :: (bsT z ++ wrW L2) := by
          rw [wrW_app, wrW, List.append_assoc]
          rfl
        have hlen : (bsT x ++ wrW L1).length = i := by rw [List.length_append]; omega
        rw [hform, ← hlen, List.take_left, show (bsT x ++ wrW L1).length + 1 = (bsT x ++ wrW L1).length + 1 from rfl, ← List.drop_drop, List.drop_left, List.drop_succ_cons, List.drop_zero, List.append_assoc] at hs
        obtain ⟨_, _, htk, _⟩ := toks_of_scanL hs
        rw [skip_ok hx, List.drop_zero] at htk
        have hng : ¬ goodW (lastW x L1) false z := by
          have hla := last_ok L1 x hx hL1
          rw [tight_apart _ z hla hz] at hlast
          unfold apartB at hlast
          rintro (hg | hg)
          · cases hg
          · rw [hg] at hlast
            simp at hlast
        have := toks_least L1 x z (wrW L2) 0 toks (L2.map (·.2)) hx hz hL1 (chain_pre L1 _ x hc) hng htk
        rw [← hmap, List.map_append, List.map_cons]
        exact this
theorem least_l (l : List S34) (b : List UInt8) (hb : b.length ≤ 20000) (h : ∀ i, b[i]? = some 32 → ∀ toks a, scanL (b.take i ++ b.drop (i + 1)) = (toks, a, 0) → sameL toks l = false) : ∀ (d i k : Nat), i + d = b.length → d < k →
    peculiumlaw01_LexLeast.l0 k l ⟨b.toArray⟩ (i : Int) = some true
  | 0, i, k, hd, hk => by
    obtain ⟨k, rfl⟩ : ∃ m, k = m + 1 := ⟨k - 1, by omega⟩
    have hz : (⟨b.toArray⟩ : ByteArray).size = b.length := by show b.toArray.size = _; simp
    rw [peculiumlaw01_LexLeast.l0, if_neg (by omega)]
  | d + 1, i, k, hd, hk => by
    obtain ⟨k, rfl⟩ : ∃ m, k = m + 1 := ⟨k - 1, by omega⟩
    have hz : (⟨b.toArray⟩ : ByteArray).size = b.length := by show b.toArray.size = _; simp
    have hi : i < (⟨b.toArray⟩ : ByteArray).size := by omega
    have ih := least_l l b hb h d (i + 1) k (by omega) (by omega)
    have hw : wrap64 ((i : Int) + 1) = ((i + 1 : Nat) : Int) := wrap_succ i (by omega)
    have hib : i < b.length := by omega
    have hgi : (⟨b.toArray⟩ : ByteArray)[i] = b[i] := rfl
    rw [peculiumlaw01_LexLeast.l0, if_pos (by omega), if_pos (by omega), bt_nat _ i hi, hgi, hw, ih]
    by_cases h32 : b[i] = 32
    · have h32' : ((b[i].toNat : Int)) = 32 := by rw [h32]; rfl
      have x1 := extract_mk ⟨b.toArray⟩ 0 i
      rw [Nat.zero_add, List.drop_zero] at x1
      have x2 := extract_mk ⟨b.toArray⟩ (i + 1) (b.length - (i + 1))
      rw [show i + 1 + (b.length - (i + 1)) = b.length by omega, ← hz] at x2
      have x3 : ((⟨b.toArray⟩ : ByteArray).data.toList.drop (i + 1)).take ((⟨b.toArray⟩ : ByteArray).size - (i + 1)) = b.drop (i + 1) := by
        show (b.drop (i + 1)).take _ = _
        exact List.take_of_length_le (by rw [List.length_drop]; omega)
      rw [x3] at x2
      have x4 : (⟨b.toArray⟩ : ByteArray).data.toList = b := rfl
      rw [x4] at x1
      have zt : (⟨(b.take i).toArray⟩ : ByteArray).size = i := by show (b.take i).toArray.size = _; simp; omega
      have zd : (⟨(b.drop (i + 1)).toArray⟩ : ByteArray).size = b.length - (i + 1) := by show (b.drop (i + 1)).toArray.size = _; simp
      rw [if_pos h32', if_pos (by omega), if_pos (by omega), if_pos (by omega), Int.toNat_natCast, Int.toNat_natCast, x1, x2, if_pos (by omega)]
      have hcat : (⟨(b.take i).toArray⟩ : ByteArray) ++ ⟨(b.drop (i + 1)).toArray⟩ = ⟨(b.take i ++ b.drop (i + 1)).toArray⟩ := by
        apply ByteArray.ext
        apply Array.ext'
        rw [ByteArray.data_append, Array.toList_append]
      have hsc : lex_Scan.f ⟨(b.take i ++ b.drop (i + 1)).toArray⟩ = some (scanL (b.take i ++ b.drop (i + 1))) := by
        have hz2 : (⟨(b.take i ++ b.drop (i + 1)).toArray⟩ : ByteArray).size ≤ 140737488351232 := by
          show (b.take i ++ b.drop (i + 1)).toArray.size ≤ _
          simp
          omega
        unfold lex_Scan.f
        rw [if_pos hz2]
      rw [hcat, hsc, Option.bind_some]
      rcases hres : scanL (b.take i ++ b.drop (i + 1)) with ⟨toks, a, e⟩
      by_cases he : e = 0
      · subst he
        rw [if_pos rfl]
        unfold lex_Same.f
        rw [Option.bind_some, h i (by rw [List.getElem?_eq_getElem hib, h32]) toks a hres, if_neg (by simp)]
      · rw [if_neg he]
    · have h32' : ¬ ((b[i].toNat : Int)) = 32 := fun hx => h32 ((byte_eq b[i] 32 (by omega)).1 hx)
      rw [if_neg h32']
theorem tightE' (l : List S34) (h : ∀ t ∈ l, okT t = true) : lex_Tight.f l = some ⟨(writtenL tightSp l).toArray⟩ := by
  unfold lex_Tight.f
  rw [if_pos (List.all_eq_true.2 fun t ht => decide_eq_true (by have := okT_size t (h t ht); omega))]
theorem written_len (sp : S34 → S34 → Bool) (l : List S34) : (writtenL sp l).length ≤ 20000 := by
  unfold writtenL cut20
  split
  · simp
  · split
    · simp
    · split
      · simp
      · omega
end Go.Proofs.Ytkolnimgdbhekaa.P
namespace Go.Proofs.Ytkolnimgdbhekaa.Pure
open Go.RowKit Go.Proofs.Ytkolnimgdbhekaa.P Go.Proofs.YtkolnimgdbhekaaW.PrintWords Go.Proofs.YtkolnimgdbhekaaW.PrintLast

theorem LexLeast : peculiumlaw01_LexLeast.Pure := by
  intro s hs
  refine ⟨20010, ?_⟩
  have hse : lex_Scan.f s = some (scanL s.data.toList) := by unfold lex_Scan.f; rw [if_pos hs]
  unfold peculiumlaw01_LexLeast.f peculiumlaw01_sane.f
  rw [Option.bind_some, hse, Option.bind_some, if_pos rfl]
  rcases hsc : scanL s.data.toList with ⟨l, at_, e⟩
  show (if e = 0 then peculiumlaw01_LexLeast.j0 20010 true l (decide ((s.size : Int) > 1500)) else peculiumlaw01_LexLeast.j0 20010 true l true) = some true
  have hj : peculiumlaw01_LexLeast.j0 20010 true l true = some true := by rw [peculiumlaw01_LexLeast.j0, if_pos rfl]
  by_cases he : e = 0
  · subst he
    rw [if_pos rfl]
    by_cases hbig : (s.size : Int) > 1500
    · rw [decide_eq_true hbig]
      exact hj
    · rw [decide_eq_false hbig]
      obtain ⟨_, _, htk, h6⟩ := toks_of_scanL hsc
      have hok := toks_ok _ _ _ htk
      rw [peculiumlaw01_LexLeast.j0, if_neg (by decide), tightE' l hok, Option.bind_some]
      have hl := written_len tightSp l
      exact least_l l _ hl (hole l hok h6) (writtenL tightSp l).length 0 20009 (by omega) (by omega)
  · rw [if_neg he]
    exact hj
end Go.Proofs.Ytkolnimgdbhekaa.Pure
