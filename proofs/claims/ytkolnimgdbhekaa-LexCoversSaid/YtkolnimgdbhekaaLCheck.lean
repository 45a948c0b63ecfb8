/- Check: the program's and the reference's, as one plain test on bytes. -/
import Derived.Test.YtkolnimgdbhekaaLRef
import Derived.Test.YtkolnimgdbhekaaLTight
import Derived.Test.YtkolnimgdbhekaaPx11
namespace Go.Proofs.Ytkolnimgdbhekaa.P
open Go.RowKit Go.Proofs.YtkolnimgdbhekaaW.PrintWords Go.Proofs.YtkolnimgdbhekaaW.PrintLast Go.Proofs.YtkolnimgdbhekaaW.PrintMore

/-- Is it, from end to end, a token of this kind? -/
def vTok (kd : Int) (l : List UInt8) : Bool :=
  match tok l with
  | none => false
  | some (k, n) => (k : Int) == kd && n == l.length && decide (l.length ≤ 40)
theorem scanA_prefix : ∀ (f : Nat) (l : List UInt8) (i : Nat) (acc : List S34), (scanA f l i acc).2.2 = 0 → ∃ t, (scanA f l i acc).1 = acc ++ t
  | 0, _, _, acc, _ => ⟨[], by simp [scanA]⟩
  | _ + 1, [], _, acc, _ => ⟨[], by simp [scanA]⟩
  | f + 1, b :: r, i, acc, h => by
    simp only [scanA] at h ⊢
    split
    · rename_i ht; rw [ht] at h; simp at h
    · rename_i kd n ht
      rw [ht] at h
      simp only at h
      split
      · rename_i h6; rw [if_pos h6] at h; simp at h
      · rename_i h6
        rw [if_neg h6] at h
        split
        · rename_i h40; rw [if_pos h40] at h; simp at h
        · rename_i h40
          rw [if_neg h40] at h
          obtain ⟨t, ht2⟩ := scanA_prefix f _ _ _ h
          exact ⟨_ :: t, by rw [ht2, List.append_assoc]; rfl⟩
theorem tok_blank {l : List UInt8} (h : skipN false l ≠ 0) : tok l = none := by
  match l, h with
  | b :: r, h =>
    have hb : blankB b = true ∨ b = 37 := by
      by_cases hb : blankB b = true
      · exact .inl hb
      · by_cases h37 : b = 37
        · exact .inr h37
        · simp [skipN, hb, h37] at h
    have := of_bytes (p := fun b => !(blankB b || b == 37) || (!smallB b && !capB b && !(b == 45) && !(b == 61) && !(b == 60) && !onesL.contains b)) (by decide +kernel) b
    have hbb : (blankB b || b == 37) = true := by rcases hb with h | h <;> simp [h]
    rw [hbb] at this
    simp only [Bool.not_true, Bool.false_or, Bool.and_eq_true, Bool.not_eq_true', beq_eq_false_iff_ne] at this
    obtain ⟨⟨⟨⟨⟨h1, h2⟩, h3⟩, h4⟩, h5⟩, h6⟩ := this
    simp only [tok]
    rw [if_neg (by rw [h1]; simp), if_neg (by rw [h2]; simp), if_neg (by simp [h3, h4, h5]), if_neg (by simp [h3]), if_neg (by rw [h6]; simp)]
theorem mk_toList (l : List UInt8) : (ByteArray.mk l.toArray).toList = l := by rw [Lib.toList_data]
theorem okT_vTok (t : S34) : okT t = vTok t.f0 t.f1.data.toList := by
  obtain ⟨l, hl⟩ : ∃ l, l = t.f1.data.toList := ⟨_, rfl⟩
  have hlt : t.f1.toList = l := by rw [Lib.toList_data, hl]
  unfold okT
  rw [hlt, ← hl]
  unfold vTok
  by_cases hbig : 20000 < l.length
  · have : scanL l = ([], 0, 2) := by unfold scanL; rw [if_pos hbig]
    rw [this]
    cases ht : tok l with
    | none => rfl
    | some p =>
      obtain ⟨kd, n⟩ := p
      simp
      omega
  · have hsc : scanL l = scanA (l.length + 1) (l.drop (skipN false l)) (skipN false l) [] := by unfold scanL; rw [if_neg hbig]
    by_cases hsk : skipN false l = 0
    · rw [hsk, List.drop_zero] at hsc
      match l, hsc with
      | [], hsc => rw [hsc]; rfl
      | b :: r, hsc =>
        cases ht : tok (b :: r) with
        | none =>
          have : scanL (b :: r) = ([], ((0 : Nat) : Int), 10) := by rw [hsc]; simp only [scanA, ht]
          rw [this]
        | some p =>
          obtain ⟨kd, n⟩ := p
          have hk := tok_kind ht
          have hn := tok_le ht
          by_cases h40 : (kd = 1 ∨ kd = 2) ∧ 40 < n
          · have : scanL (b :: r) = ([], ((0 : Nat) : Int), 11) := by
              rw [hsc]
              simp only [scanA, ht]
              rw [if_neg (by simp), if_pos h40]
            rw [this]
            simp at hn ⊢
            omega
          · have hst : scanL (b :: r) = scanA (b :: r).length (((b :: r).drop n).drop (skipN false ((b :: r).drop n))) (0 + n + skipN false ((b :: r).drop n)) ([] ++ [⟨kd, ⟨((b :: r).take n).toArray⟩, ((0 : Nat) : Int)⟩]) := by
              rw [hsc]
              simp only [scanA, ht]
              rw [if_neg (by simp), if_neg h40]
            rw [List.nil_append] at hst
            by_cases hnl : n = (b :: r).length
            · have hfin : scanL (b :: r) = ([⟨kd, ⟨((b :: r).take n).toArray⟩, ((0 : Nat) : Int)⟩], 0, 0) := by
                rw [hst, hnl, List.drop_length]
                simp [skipN, scanA]
              rw [hfin]
              simp only [mk_toList]
              rw [hnl, List.take_length]
              simp at hk hnl ⊢
              intro _
              omega
            · have hpre := scanA_prefix (b :: r).length (((b :: r).drop n).drop (skipN false ((b :: r).drop n))) (0 + n + skipN false ((b :: r).drop n)) [⟨kd, ⟨((b :: r).take n).toArray⟩, ((0 : Nat) : Int)⟩]
              rw [← hst] at hpre
              have hrhs : (match (some (kd, n) : Option (Nat × Nat)) with | none => false | some (k, n) => (k : Int) == t.f0 && n == (b :: r).length && decide ((b :: r).length ≤ 40)) = false := by
                show ((kd : Int) == t.f0 && n == (b :: r).length && decide ((b :: r).length ≤ 40)) = false
                rw [show (n == (b :: r).length) = false from beq_eq_false_iff_ne.2 hnl, Bool.and_false, Bool.false_and]
              refine Eq.trans ?_ hrhs.symm
              rcases hs : scanL (b :: r) with ⟨res, a, e⟩
              rw [hs] at hpre
              match res, hpre with
              | [], _ => rfl
              | [y], hpre =>
                by_cases he : e = 0
                · obtain ⟨t', ht'⟩ := hpre he
                  have hy : y = ⟨kd, ⟨((b :: r).take n).toArray⟩, ((0 : Nat) : Int)⟩ := by
                    simp at ht'
                    exact ht'.1
                  rw [hy]
                  simp only [mk_toList]
                  rw [show ((b :: r).take n == b :: r) = false from beq_eq_false_iff_ne.2 fun h => by
                    have := congrArg List.length h
                    rw [List.length_take] at this
                    omega]
                  simp
                · simp [he]
              | _ :: _ :: _, _ => rfl
    · rw [tok_blank hsk]
      rw [hsc]
      rcases hs : scanA (l.length + 1) (l.drop (skipN false l)) (skipN false l) [] with ⟨res, a, e⟩
      match res, hs with
      | [], _ => rfl
      | _ :: _ :: _, _ => rfl
      | [y], hs =>
        by_cases he : e = 0
        · have hys : y.f1.toList.length ≤ l.length - skipN false l := by
            rcases hd : l.drop (skipN false l) with _ | ⟨b, r⟩
            · rw [hd] at hs
              simp [scanA] at hs
            · rw [hd] at hs
              have hlen := congrArg List.length hd
              rw [List.length_drop] at hlen
              simp only [scanA] at hs
              split at hs
              · simp at hs
              · rename_i kd n ht
                have hn := tok_le ht
                split at hs
                · simp at hs
                · split at hs
                  · simp at hs
                  · have hpre := scanA_prefix _ _ _ _ (by rw [hs]; exact he)
                    obtain ⟨t', ht'⟩ := hpre
                    rw [hs] at ht'
                    simp at ht'
                    rw [ht'.1, mk_toList, List.length_take]
                    simp at hn hlen ⊢
                    omega
          simp only
          rw [show (y.f1.toList == l) = false from beq_eq_false_iff_ne.2 fun h => by
            have h1 := congrArg List.length h
            have h2 := skipN_le false l
            omega]
          simp
        · simp [he]
theorem refCheck_f (kd : Int) (s : ByteArray) (a : Int) (k : Nat) (hk : 200 < k) (hs : s.size ≤ 140737488351232) : peculiumref01_Check.f k kd s a = some (if vTok kd s.data.toList then 0 else 12) := by
  obtain ⟨k, rfl⟩ : ∃ m, k = m + 1 := ⟨k - 1, by omega⟩
  have ht12 : peculiumref01_Check.j0 (k + 1) true kd s a = some 12 := by rw [peculiumref01_Check.j0, if_pos rfl]
  unfold peculiumref01_Check.f
  by_cases h0 : s.size = 0
  · rw [if_pos (by omega), ht12]
    have : s.data.toList = [] := List.eq_nil_of_length_eq_zero (by simpa using h0)
    rw [this]
    rfl
  · rw [if_neg (by omega)]
    by_cases h40 : 40 < s.size
    · rw [if_pos (by omega), ht12]
      have : vTok kd s.data.toList = false := by
        unfold vTok
        split
        · rfl
        · simp
          omega
      rw [this]
      rfl
    · rw [if_neg (by omega), if_pos (by omega)]
      have hdr := drop_cons' s 0 (by omega)
      rw [List.drop_zero] at hdr
      have hb0 := bt_nat s 0 (by omega)
      rw [show ((0 : Nat) : Int) = 0 from rfl] at hb0
      rw [hb0, blank_f, Option.bind_some]
      by_cases hb : blankB s[0] = true
      · rw [if_pos hb, ht12]
        have : vTok kd s.data.toList = false := by
          unfold vTok
          rw [tok_blank (by rw [hdr, skipN, if_pos hb]; omega)]
        rw [this]
        rfl
      · rw [if_neg hb]
        by_cases h37 : s[0] = 37
        · have : (((s[0].toNat : Int)) == 37) = true := by rw [h37]; rfl
          rw [this, ht12]
          have : vTok kd s.data.toList = false := by
            unfold vTok
            rw [tok_blank (by rw [hdr, skipN, if_neg hb, if_pos h37]; omega)]
          rw [this]
          rfl
        · have : (((s[0].toNat : Int)) == 37) = false := beq_eq_false_iff_ne.2 fun h => h37 ((byte37 _).1 h)
          rw [this, peculiumref01_Check.j0, if_neg (by simp)]
          have ht := rtok_f s hs 0 (by omega) k (by omega)
          rw [show ((0 : Nat) : Int) = 0 from rfl] at ht
          rw [ht, Option.bind_some, List.drop_zero]
          unfold tokR vTok
          cases htk : tok s.data.toList with
          | none =>
            simp only
            rw [if_neg (show ¬ (0 : Int) = (s.size : Int) by omega)]
            split <;> rfl
          | some p =>
            obtain ⟨kk, n⟩ := p
            have hkk := tok_kind htk
            simp only
            by_cases h1 : (kk : Int) = kd
            · rw [if_pos h1]
              by_cases h2 : n = s.size
              · rw [if_pos (by omega), if_neg (by omega)]
                simp [h1, h2]
                omega
              · rw [if_neg (by omega)]
                simp [h2]
            · rw [if_neg h1]
              simp [h1]

end Go.Proofs.Ytkolnimgdbhekaa.P
