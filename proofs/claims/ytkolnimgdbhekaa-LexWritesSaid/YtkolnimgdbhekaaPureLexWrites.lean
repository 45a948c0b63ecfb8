/- The reference's apart, written, Join and Tight against the plain functions. LexWrites, the plain law: Join, Tight and Same of the program and of the document agree. -/
import Derived.Test.YtkolnimgdbhekaaLApart
import Derived.Test.YtkolnimgdbhekaaLWritten
import Derived.Test.YtkolnimgdbhekaaPx18
import Derived.Test.YtkolnimgdbhekaaPx19
import Derived.Test.YtkolnimgdbhekaaPx20
import Derived.Test.YtkolnimgdbhekaaPx21
namespace Go.Proofs.Ytkolnimgdbhekaa.P
open Go.RowKit Go.Proofs.YtkolnimgdbhekaaW.PrintWords Go.Proofs.YtkolnimgdbhekaaW.PrintLast Go.Proofs.YtkolnimgdbhekaaW.PrintMore

theorem refApart_f (x y : S34) (hx : okT x = true) (hy : okT y = true) (k : Nat) (hk : 200 < k) : peculiumref01_apart.f k x.f0 x.f1 x.f2 y.f0 y.f1 y.f2 = some (apartB x y) := by
  obtain ⟨kx, ex, tx, lx⟩ := (okT_iff x).1 hx
  obtain ⟨ky, ey, ty, ly⟩ := (okT_iff y).1 hy
  have nx := tok_le tx
  have ny := tok_le ty
  have kdx := tok_kind tx
  have hS : (x.f1 ++ y.f1).data.toList = bsT x ++ bsT y := by rw [ByteArray.data_append, Array.toList_append]; rfl
  have sx := bsT_len x
  have sy := bsT_len y
  have hsz : (x.f1 ++ y.f1).size = (bsT x).length + (bsT y).length := by rw [ByteArray.size_append, sx, sy]
  unfold peculiumref01_apart.f
  rw [if_pos (by omega)]
  have h0 := rtok_f (x.f1 ++ y.f1) (by omega) 0 (by omega) k (by omega)
  rw [List.drop_zero, hS, show ((0 : Nat) : Int) = 0 from rfl] at h0
  rw [h0, Option.bind_some]
  unfold apartB tokR
  by_cases hb : tok (bsT x ++ bsT y) = some (kx, (bsT x).length)
  · have h1 := rtok_f (x.f1 ++ y.f1) (by omega) (bsT x).length (by omega) k (by omega)
    rw [hS, List.drop_left] at h1
    have hz : ((0 + (bsT x).length : Nat) : Int) = ((bsT x).length : Int) := by omega
    rw [hb]
    simp only
    rw [ex, if_pos rfl, hz, if_pos (by omega), h1, Option.bind_some]
    unfold tokR
    rw [ty]
    simp only
    rw [ey, if_pos rfl, Int.toNat_natCast]
    have e1 : (((((bsT x).length + (bsT y).length : Nat) : Int)) != ((x.f1 ++ y.f1).size : Int)) = false := by rw [hsz]; simp
    rw [e1]
    simp
  · have hA : (tok (bsT x ++ bsT y) == some (x.f0.toNat, (bsT x).length)) = false := by
      rw [ex, Int.toNat_natCast]
      exact beq_eq_false_iff_ne.2 hb
    rw [hA]
    cases ht : tok (bsT x ++ bsT y) with
    | none =>
      simp only
      rw [ex, if_neg (by omega)]
      rfl
    | some p =>
      obtain ⟨kk, n⟩ := p
      simp only
      by_cases h1 : ((kk : Nat) : Int) = x.f0
      · rw [if_pos h1, if_neg (fun h2 => hb (by
          rw [ht]
          obtain rfl : kk = kx := by omega
          obtain rfl : n = (bsT x).length := by omega
          rfl))]
        rfl
      · rw [if_neg h1]
        rfl

theorem numsT (acc : List UInt8) : strOfNums (acc.map fun c => (c.toNat : Int)) = ⟨acc.toArray⟩ := by
  unfold strOfNums
  rw [List.map_map]
  congr 2
  rw [show ((fun (n : Int) => UInt8.ofNat n.toNat) ∘ fun (c : UInt8) => (c.toNat : Int)) = id from by funext c; simp]
  simp

/-- The separator that the reference asks for. -/
def refSp (all : Bool) (x y : S34) : Bool := if all = true then joinSp x y else tightSp x y
theorem refWritten_l (l : List S34) (all : Bool) (hl : l.length ≤ 6000) (hsz : ∀ t ∈ l, t.f1.size ≤ 140737488351232) : ∀ (d i k : Nat) (acc : List UInt8) (prev : Option S34), i + d = l.length → d + 300 < k → acc.length ≤ i * 41 →
    (i = 0 ∧ prev = none ∨ 0 < i ∧ prev = some (rd_T34 l ((i : Int) - 1)) ∧ okT (rd_T34 l ((i : Int) - 1)) = true) →
    peculiumref01_written.l0 k l all (acc.map fun c => (c.toNat : Int)) (i : Int) = some ⟨(cut20 (joinW (refSp all) prev (l.drop i) acc)).toArray⟩
  | 0, i, k, acc, prev, hd, hk, hacc, hp => by
    obtain ⟨k, rfl⟩ : ∃ m, k = m + 1 := ⟨k - 1, by omega⟩
    rw [peculiumref01_written.l0, if_neg (by omega), List.drop_eq_nil_of_le (by omega)]
    simp only [joinW, cut20, List.length_map]
    by_cases h2 : 20000 < acc.length
    · rw [if_pos (by omega), if_pos h2]
    · rw [if_neg (by omega), if_neg h2, numsT]
  | d + 1, i, k, acc, prev, hd, hk, hacc, hp => by
    obtain ⟨k, rfl⟩ : ∃ m, k = m + 1 := ⟨k - 1, by omega⟩
    have hi : i < l.length := by omega
    have hdr := rdT_drop l i hi
    obtain ⟨x, hx⟩ : ∃ x, x = rd_T34 l (i : Int) := ⟨_, rfl⟩
    rw [← hx] at hdr
    have hxs : x.f1.size ≤ 140737488351232 := hsz x (List.mem_of_mem_drop (i := i) (by rw [hdr]; exact List.mem_cons_self ..))
    have hw : wrap64 ((i : Int) + 1) = ((i + 1 : Nat) : Int) := wrap_succ i (by omega)
    have hw1 : 0 < i → wrap64 ((i : Int) - 1) = (i : Int) - 1 := by unfold wrap64; omega
    have hml : (acc.map fun c => (c.toNat : Int)).length = acc.length := List.length_map _
    have hbl : (bytesOf x.f1) = (bsT x).map fun c => (c.toNat : Int) := rfl
    have hxl := bsT_len x
    rw [peculiumref01_written.l0, if_pos (by omega), if_pos (by omega), ← hx, refCheck_f x.f0 x.f1 x.f2 k (by omega) hxs, Option.bind_some, ← okT_vTok, hdr, joinW]
    cases hok : okT x
    · simp only [Bool.false_eq_true, if_false]
      rw [if_neg (by decide)]
      rfl
    · simp only [if_true]
      obtain ⟨kx, ex, tx, lx⟩ := (okT_iff x).1 hok
      have hi41 : (i + 1) * 41 = i * 41 + 41 := by omega
      have ih := fun (sp : List UInt8) (hsp : sp.length ≤ 1) => refWritten_l l all hl hsz d (i + 1) k (acc ++ (sp ++ x.f1.data.toList)) (some x) (by omega) (by omega) (by rw [List.length_append, List.length_append]; change _ + (_ + (bsT x).length) ≤ _; omega)
        (.inr ⟨by omega, by rw [show ((i + 1 : Nat) : Int) - 1 = (i : Int) by omega, hx], by rw [show ((i + 1 : Nat) : Int) - 1 = (i : Int) by omega, ← hx]; exact hok⟩)
      have mapE : ∀ sp : List UInt8, (acc ++ (sp ++ x.f1.data.toList)).map (fun (c : UInt8) => (c.toNat : Int)) = acc.map (fun (c : UInt8) => (c.toNat : Int)) ++ (sp.map (fun (c : UInt8) => (c.toNat : Int)) ++ bytesOf x.f1) := by
        intro sp
        rw [List.map_append, List.map_append]
        rfl
      have ihN : peculiumref01_written.l0 k l all (acc.map (fun (c : UInt8) => (c.toNat : Int)) ++ bytesOf x.f1) ((i + 1 : Nat) : Int) = some ⟨(cut20 (joinW (refSp all) (some x) (l.drop (i + 1)) (acc ++ ([] ++ x.f1.data.toList)))).toArray⟩ := by
        have := ih [] (by simp)
        rw [mapE, List.map_nil, List.nil_append] at this
        exact this
      have ihS : peculiumref01_written.l0 k l all (acc.map (fun (c : UInt8) => (c.toNat : Int)) ++ [32] ++ bytesOf x.f1) ((i + 1 : Nat) : Int) = some ⟨(cut20 (joinW (refSp all) (some x) (l.drop (i + 1)) (acc ++ ([32] ++ x.f1.data.toList)))).toArray⟩ := by
        have := ih [32] (by simp)
        rw [mapE, ← List.append_assoc] at this
        exact this
      have hlS : (acc.map (fun (c : UInt8) => (c.toNat : Int)) ++ [32]).length = acc.length + 1 := by rw [List.length_append, hml]; rfl
      have z1 : (acc.map (fun (c : UInt8) => (c.toNat : Int))).length < 140737488355328 := by rw [hml]; omega
      have z2 : (acc.map (fun (c : UInt8) => (c.toNat : Int)) ++ [32]).length + x.f1.size < 140737488355328 := by rw [hlS]; omega
      have z3 : (acc.map (fun (c : UInt8) => (c.toNat : Int))).length + x.f1.size < 140737488355328 := by rw [hml]; omega
      rcases hp with ⟨h0, rfl⟩ | ⟨h0, rfl, hok1⟩
      · rw [if_neg (by omega), if_pos z3, hw, ihN]
        rfl
      · rw [if_pos (by omega)]
        cases all
        · simp only [Bool.false_eq_true, if_false]
          rw [hw1 h0, if_pos (by omega), if_pos (by omega)]
          rw [refApart_f _ x hok1 hok k (by omega), Option.bind_some]
          have hs : sepB (refSp false) (some (rd_T34 l ((i : Int) - 1))) x = apartB (rd_T34 l ((i : Int) - 1)) x := by
            rw [← tight_apart _ x hok1 hok]
            rfl
          rw [hs]
          cases hap : apartB (rd_T34 l ((i : Int) - 1)) x
          · simp only [Bool.false_eq_true, if_false]
            rw [if_pos z3, hw, ihN]
          · simp only [if_true]
            rw [if_pos z1, Option.bind_some, if_pos z2, hw, ihS]
        · simp only [if_true]
          rw [if_pos z1, Option.bind_some, if_pos z2, hw, ihS]
          rfl
theorem refWritten_f (l : List S34) (all : Bool) (hsz : ∀ t ∈ l, t.f1.size ≤ 140737488351232) (k : Nat) (hk : 6400 < k) : peculiumref01_written.f k l all = some ⟨(writtenL (refSp all) l).toArray⟩ := by
  unfold peculiumref01_written.f writtenL
  by_cases h6 : 6000 < l.length
  · rw [if_pos (by omega), if_pos h6]
  · rw [if_neg (by omega), if_neg h6]
    have := refWritten_l l all (by omega) hsz l.length 0 k [] none (by omega) (by omega) (by simp) (.inl ⟨rfl, rfl⟩)
    rw [List.drop_zero, List.map_nil, show ((0 : Nat) : Int) = 0 from rfl] at this
    exact this
theorem refSp_true : refSp true = joinSp := by funext x y; rfl
theorem refSp_false : refSp false = tightSp := by funext x y; rfl
theorem refJoin_f (l : List S34) (hsz : ∀ t ∈ l, t.f1.size ≤ 140737488351232) (k : Nat) (hk : 6400 < k) : peculiumref01_Join.f k l = some ⟨(writtenL joinSp l).toArray⟩ := by
  unfold peculiumref01_Join.f
  rw [refWritten_f l true hsz k hk, refSp_true, Option.bind_some]
theorem refTight_f (l : List S34) (hsz : ∀ t ∈ l, t.f1.size ≤ 140737488351232) (k : Nat) (hk : 6400 < k) : peculiumref01_Tight.f k l = some ⟨(writtenL tightSp l).toArray⟩ := by
  unfold peculiumref01_Tight.f
  rw [refWritten_f l false hsz k hk, refSp_false, Option.bind_some]
end Go.Proofs.Ytkolnimgdbhekaa.P

namespace Go.Proofs.Ytkolnimgdbhekaa.P
open Go.RowKit Go.Proofs.YtkolnimgdbhekaaW.PrintWords Go.Proofs.YtkolnimgdbhekaaW.PrintLast Go.Proofs.YtkolnimgdbhekaaW.PrintMore

theorem refSameBig_f (a b : List S34) (ha : a.length ≤ 4398046511104) (hab : a.length = b.length) : ∀ (d i k : Nat), i + d = a.length → d < k →
    peculiumref01_Same.l0 k a b (i : Int) = some (sameL (a.drop i) (b.drop i)) := by
  intro d
  induction d with
  | zero =>
    intro i k h1 h2
    obtain ⟨k, rfl⟩ : ∃ m, k = m + 1 := ⟨k - 1, by omega⟩
    rw [peculiumref01_Same.l0, if_neg (by omega), List.drop_of_length_le (by omega), List.drop_of_length_le (by omega)]
    rfl
  | succ d ih =>
    intro i k h1 h2
    obtain ⟨k, rfl⟩ : ∃ m, k = m + 1 := ⟨k - 1, by omega⟩
    rw [peculiumref01_Same.l0, if_pos (by omega), if_pos (by omega), if_pos (by omega)]
    rw [rdT_drop a i (by omega), rdT_drop b i (by omega), sameL]
    unfold sameT
    by_cases h0 : (rd_T34 a i).f0 = (rd_T34 b i).f0
    · rw [if_pos h0]
      by_cases h1 : (rd_T34 a i).f1.toList = (rd_T34 b i).f1.toList
      · rw [if_pos h1, wrap_succ i (by omega), ih (i + 1) k (by omega) (by omega)]
        simp [h0, h1]
      · rw [if_neg h1]
        simp [h0, h1]
    · rw [if_neg h0]
      simp [h0]
theorem refSameBig (a b : List S34) (ha : a.length ≤ 4398046511104) (k : Nat) (hk : a.length < k) : peculiumref01_Same.f k a b = some (sameL a b) := by
  unfold peculiumref01_Same.f
  by_cases h : a.length = b.length
  · rw [if_pos (by omega)]
    have := refSameBig_f a b ha h a.length 0 k (by omega) hk
    simpa using this
  · rw [if_neg (by omega)]
    cases hb : sameL a b
    · rfl
    · exact absurd (sameL_len _ _ hb) h
theorem lexJoin_f (l : List S34) (hsz : ∀ t ∈ l, t.f1.size ≤ 140737488351232) : lex_Join.f l = some ⟨(writtenL joinSp l).toArray⟩ := by
  unfold lex_Join.f
  rw [if_pos (List.all_eq_true.2 fun t ht => decide_eq_true (hsz t ht))]
theorem lexTight_f (l : List S34) (hsz : ∀ t ∈ l, t.f1.size ≤ 140737488351232) : lex_Tight.f l = some ⟨(writtenL tightSp l).toArray⟩ := by
  unfold lex_Tight.f
  rw [if_pos (List.all_eq_true.2 fun t ht => decide_eq_true (hsz t ht))]
end Go.Proofs.Ytkolnimgdbhekaa.P
namespace Go.Proofs.Ytkolnimgdbhekaa.Pure
open Go.RowKit Go.Proofs.Ytkolnimgdbhekaa.P Go.Proofs.YtkolnimgdbhekaaW.PrintWords Go.Proofs.YtkolnimgdbhekaaW.PrintLast

theorem LexWrites (a b : List S34) (ha : a.length ≤ 4398046511103) (hsz : ∀ t ∈ a, t.f1.size ≤ 140737488351232) : ∃ k, peculiumlaw01_LexWrites.f k a b = some true := by
  refine ⟨a.length + 7000, ?_⟩
  unfold peculiumlaw01_LexWrites.f peculiumlaw01_sane.f
  rw [Option.bind_some, if_pos rfl, lexJoin_f a hsz, Option.bind_some, refJoin_f a hsz _ (by omega), Option.bind_some, if_pos rfl, lexTight_f a hsz, Option.bind_some, refTight_f a hsz _ (by omega), Option.bind_some, if_pos rfl]
  unfold lex_Same.f
  rw [Option.bind_some, refSameBig a b (by omega) _ (by omega), Option.bind_some, if_pos (by simp), Option.bind_some, sameL_refl]
end Go.Proofs.Ytkolnimgdbhekaa.Pure
