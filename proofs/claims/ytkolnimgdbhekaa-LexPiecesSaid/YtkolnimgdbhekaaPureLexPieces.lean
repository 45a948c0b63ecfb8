/- LexPieces, the plain law: the tokens of two texts with a line feed between them are those of both, the latter moved. -/
import Derived.Test.YtkolnimgdbhekaaPx13
import Derived.Test.YtkolnimgdbhekaaLChain
namespace Go.Proofs.Ytkolnimgdbhekaa.P
open Go.RowKit Go.Proofs.YtkolnimgdbhekaaW.PrintWords Go.Proofs.YtkolnimgdbhekaaW.PrintLast Go.Proofs.YtkolnimgdbhekaaW.PrintMore

theorem skip_app10 : ∀ (r b : List UInt8) (c : Bool), skipN c (r ++ 10 :: b) = if skipN c r = r.length then r.length + 1 + skipN false b else skipN c r
  | [], b, true => by
    simp [skipN]
    omega
  | [], b, false => by
    simp [skipN, blankB]
    omega
  | x :: r, b, true => by
    rw [List.cons_append, skipN, skipN, List.length_cons]
    by_cases hx : x = 10
    · rw [if_pos hx, if_pos hx, skip_app10 r b false]
      split <;> split <;> omega
    · rw [if_neg hx, if_neg hx, skip_app10 r b true]
      split <;> split <;> omega
  | x :: r, b, false => by
    rw [List.cons_append, skipN, skipN, List.length_cons]
    by_cases hx : blankB x = true
    · rw [if_pos hx, if_pos hx, skip_app10 r b false]
      split <;> split <;> omega
    · rw [if_neg hx, if_neg hx]
      by_cases h37 : x = 37
      · rw [if_pos h37, if_pos h37, skip_app10 r b true]
        split <;> split <;> omega
      · rw [if_neg h37, if_neg h37, if_neg (by omega)]
theorem wrap_addN (a b : Nat) (h : a + b ≤ 9223372036854775807) : wrap64 ((a : Int) + (b : Int)) = ((a + b : Nat) : Int) := by
  rw [← Int.natCast_add]
  exact wrap_nat _ h
def shiftT (d : Int) (t : S34) : S34 := ⟨t.f0, t.f1, t.f2 + d⟩
theorem toks_shift (d : Nat) : ∀ (toks : List S34) (l : List UInt8) (i : Nat), Toks l i toks → Toks l (i + d) (toks.map (shiftT d))
  | [], _, _, h => h
  | t :: ts, l, i, ⟨k, n, ht, h40, he, h⟩ => by
    have h2 := toks_shift d ts _ _ h
    refine ⟨k, n, ht, h40, ?_, ?_⟩
    · rw [he]
      show S34.mk _ _ _ = S34.mk _ _ _
      congr 1
    · rw [show i + d + n + skipN false (l.drop n) = i + n + skipN false (l.drop n) + d by omega]
      exact h2
theorem toks_nil {i : Nat} {ts : List S34} (h : Toks [] i ts) : ts = [] := by
  cases ts with
  | nil => rfl
  | cons t ts =>
    obtain ⟨k, n, ht, _⟩ := h
    cases ht
theorem toks_app : ∀ (toks : List S34) (l : List UInt8) (i : Nat) (b : List UInt8) (tb : List S34), l ≠ [] → Toks l i toks → Toks (b.drop (skipN false b)) (i + l.length + 1 + skipN false b) tb → Toks (l ++ 10 :: b) i (toks ++ tb)
  | [], l, i, b, tb, hl, h, _ => absurd h hl
  | t :: ts, l, i, b, tb, hl, ⟨k, n, ht, h40, he, h⟩, hb => by
    have hn := (tok_le ht).2
    have hd : (l ++ 10 :: b).drop n = l.drop n ++ 10 :: b := drop_app hn rfl
    have hsk := skip_app10 (l.drop n) b false
    refine ⟨k, n, by rw [tok_stop l b 10 (.inl rfl) hl, ht], h40, by rw [he, List.take_append_of_le_length hn], ?_⟩
    rw [hd, hsk]
    unfold restT
    rw [hd, hsk]
    unfold restT at h
    have hlen : (l.drop n).length = l.length - n := List.length_drop
    by_cases hf : skipN false (l.drop n) = (l.drop n).length
    · rw [if_pos hf]
      rw [hf, List.drop_length] at h
      have h0 := toks_nil h
      subst h0
      show Toks _ _ tb
      have e1 : (l.drop n ++ 10 :: b).drop ((l.drop n).length + 1 + skipN false b) = b.drop (skipN false b) := by
        rw [Nat.add_assoc, ← List.drop_drop, List.drop_left, Nat.add_comm 1, List.drop_succ_cons]
      rw [e1, show i + n + ((l.drop n).length + 1 + skipN false b) = i + l.length + 1 + skipN false b by omega]
      exact hb
    · rw [if_neg hf]
      have hle := skipN_le false (l.drop n)
      have e1 : (l.drop n ++ 10 :: b).drop (skipN false (l.drop n)) = (l.drop n).drop (skipN false (l.drop n)) ++ 10 :: b := drop_app hle rfl
      rw [e1]
      have hlen2 : ((l.drop n).drop (skipN false (l.drop n))).length = l.length - n - skipN false (l.drop n) := by rw [List.length_drop, hlen]
      refine toks_app ts _ _ b tb ?_ h ?_
      · intro h0
        rw [h0] at hlen2
        simp at hlen2
        omega
      · rw [hlen2, show i + n + skipN false (l.drop n) + (l.length - n - skipN false (l.drop n)) + 1 + skipN false b = i + l.length + 1 + skipN false b by omega]
        exact hb
theorem toks_both (a b : List UInt8) (l m : List S34) (hl : Toks (a.drop (skipN false a)) (skipN false a) l) (hm : Toks (b.drop (skipN false b)) (skipN false b) m) :
    Toks ((a ++ 10 :: b).drop (skipN false (a ++ 10 :: b))) (skipN false (a ++ 10 :: b)) (l ++ m.map (shiftT (a.length + 1 : Nat))) := by
  have hsk := skip_app10 a b false
  have hle := skipN_le false a
  have hm2 := toks_shift (a.length + 1) m _ _ hm
  rw [hsk]
  by_cases hf : skipN false a = a.length
  · rw [if_pos hf]
    rw [hf, List.drop_length] at hl
    rw [toks_nil hl, List.nil_append]
    have e1 : (a ++ 10 :: b).drop (a.length + 1 + skipN false b) = b.drop (skipN false b) := by
      rw [Nat.add_assoc, ← List.drop_drop, List.drop_left, Nat.add_comm 1, List.drop_succ_cons]
    rw [e1, show a.length + 1 + skipN false b = skipN false b + (a.length + 1) by omega]
    exact hm2
  · rw [if_neg hf]
    have e1 : (a ++ 10 :: b).drop (skipN false a) = a.drop (skipN false a) ++ 10 :: b := drop_app hle rfl
    have hlen : (a.drop (skipN false a)).length = a.length - skipN false a := List.length_drop
    rw [e1]
    refine toks_app l _ _ b _ ?_ hl ?_
    · intro h0
      rw [h0] at hlen
      simp at hlen
      omega
    · rw [hlen, show skipN false a + (a.length - skipN false a) + 1 + skipN false b = skipN false b + (a.length + 1) by omega]
      exact hm2
theorem pieces_l (a0 : ByteArray) (ha : a0.size ≤ 20000) (l m : List S34) (hl : l.length ≤ 6000) (hm : m.length ≤ 6000) (hf : ∀ t ∈ m, wrap64 (t.f2 + ((a0.size + 1 : Nat) : Int)) = t.f2 + ((a0.size + 1 : Nat) : Int)) : ∀ (d i k : Nat), i + d = (l ++ m.map (shiftT (a0.size + 1 : Nat))).length → d < k →
    peculiumlaw01_LexPieces.l0 k a0 l m (l ++ m.map (shiftT (a0.size + 1 : Nat))) (i : Int) = some true
  | 0, i, k, hd, hk => by
    obtain ⟨k, rfl⟩ : ∃ m, k = m + 1 := ⟨k - 1, by omega⟩
    rw [peculiumlaw01_LexPieces.l0, if_neg (by omega)]
  | d + 1, i, k, hd, hk => by
    obtain ⟨k, rfl⟩ : ∃ m, k = m + 1 := ⟨k - 1, by omega⟩
    have hlen : (l ++ m.map (shiftT (a0.size + 1 : Nat))).length = l.length + m.length := by rw [List.length_append, List.length_map]
    have ih := pieces_l a0 ha l m hl hm hf d (i + 1) k (by omega) (by omega)
    have hw : wrap64 ((i : Int) + 1) = ((i + 1 : Nat) : Int) := wrap_succ i (by omega)
    have hi : i < (l ++ m.map (shiftT (a0.size + 1 : Nat))).length := by omega
    rw [peculiumlaw01_LexPieces.l0, if_pos (by omega), rd_at _ i hi, hw, ih]
    by_cases hil : i < l.length
    · rw [if_pos (by omega), if_pos (by omega), rd_at l i hil]
      rw [List.getElem_append_left hil]
      simp
    · have hw2 : wrap64 ((i : Int) - (l.length : Int)) = ((i - l.length : Nat) : Int) := by unfold wrap64; omega
      have him : i - l.length < m.length := by omega
      rw [if_neg (by omega), hw2, if_pos (by omega), if_pos (by omega), if_pos (by omega), rd_at m _ him]
      rw [List.getElem_append_right (by omega), List.getElem_map]
      have h1 : wrap64 ((a0.size : Int) + 1) = ((a0.size + 1 : Nat) : Int) := wrap_succ _ (by omega)
      rw [h1, hf _ (List.getElem_mem him)]
      simp [shiftT]
theorem toks_at : ∀ (toks : List S34) (l : List UInt8) (i : Nat), Toks l i toks → ∀ t ∈ toks, 0 ≤ t.f2 ∧ t.f2 ≤ ((i + l.length : Nat) : Int)
  | [], _, _, _, _, h => by cases h
  | t :: ts, l, i, ⟨k, n, ht, h40, he, h⟩, u, hu => by
    have hn := tok_le ht
    have hr := restT_len l n
    rcases List.mem_cons.1 hu with rfl | hu
    · rw [he]
      show 0 ≤ (i : Int) ∧ (i : Int) ≤ _
      omega
    · have := toks_at ts _ _ h u hu
      omega
end Go.Proofs.Ytkolnimgdbhekaa.P
namespace Go.Proofs.Ytkolnimgdbhekaa.Pure
open Go.RowKit Go.Proofs.Ytkolnimgdbhekaa.P Go.Proofs.YtkolnimgdbhekaaW.PrintWords Go.Proofs.YtkolnimgdbhekaaW.PrintLast

theorem LexPieces : peculiumlaw01_LexPieces.Pure := by
  intro s t hs ht
  refine ⟨12010, ?_⟩
  obtain ⟨K, hK⟩ : ∃ K, K + 3 = 12010 := ⟨12007, rfl⟩
  rw [← hK]
  have hcat : ((s ++ (⟨#[10]⟩ : ByteArray)) ++ t).data.toList = s.data.toList ++ 10 :: t.data.toList := by
    rw [ByteArray.data_append, ByteArray.data_append, Array.toList_append, Array.toList_append, List.append_assoc]
    rfl
  have hsl : s.data.toList.length = s.size := by rw [Array.length_toList]; rfl
  have htl : t.data.toList.length = t.size := by rw [Array.length_toList]; rfl
  have h1s : (s ++ (⟨#[10]⟩ : ByteArray)).size = s.size + 1 := by rw [ByteArray.size_append]; rfl
  have hz : ((s ++ (⟨#[10]⟩ : ByteArray)) ++ t).size = s.size + 1 + t.size := by rw [ByteArray.size_append, h1s]
  have hse : ∀ x : ByteArray, x.size ≤ 9223372036854775807 → lex_ScanB.f x = some (scanL x.data.toList) := fun x h => by unfold lex_ScanB.f; rw [if_pos h]
  have e1 := hse s (by omega)
  have e2 := hse t (by omega)
  have e3 := hse ((s ++ (⟨#[10]⟩ : ByteArray)) ++ t) (by omega)
  rw [hcat] at e3
  unfold peculiumlaw01_LexPieces.f peculiumlaw01_sane.f
  rw [Option.bind_some, e1, Option.bind_some, e2, Option.bind_some, if_pos (by omega), if_pos (by omega), e3, Option.bind_some, if_pos rfl]
  rcases hr1 : scanL s.data.toList with ⟨l, at1, c1⟩
  rcases hr2 : scanL t.data.toList with ⟨m, at2, c2⟩
  rcases hr3 : scanL (s.data.toList ++ 10 :: t.data.toList) with ⟨al, at3, c3⟩
  show (if c1 = 0 then peculiumlaw01_LexPieces.j0 (K + 3) s t true l m al at3 c3 (c2 != 0) else peculiumlaw01_LexPieces.j0 (K + 3) s t true l m al at3 c3 true) = some true
  have hj : peculiumlaw01_LexPieces.j0 (K + 3) s t true l m al at3 c3 true = some true := by rw [peculiumlaw01_LexPieces.j0, if_pos rfl]
  by_cases h1 : c1 = 0
  · subst h1
    rw [if_pos rfl]
    by_cases h2 : c2 = 0
    · subst h2
      obtain ⟨l1, _, tk1, n1⟩ := toks_of_scanL hr1
      obtain ⟨l2, _, tk2, n2⟩ := toks_of_scanL hr2
      have hb := toks_both _ _ _ _ tk1 tk2
      rw [hsl] at hb
      have hlen : (s.data.toList ++ 10 :: t.data.toList).length = s.size + 1 + t.size := by rw [List.length_append, List.length_cons, hsl, htl]; omega
      have w1 : wrap64 ((wrap64 ((s.size : Int) + 1)) + (t.size : Int)) = ((s.size + 1 + t.size : Nat) : Int) := by
        rw [wrap_succ s.size (by omega)]
        exact wrap_addN (s.size + 1) t.size (by omega)
      have w2 : wrap64 ((l.length : Int) + (m.length : Int)) = ((l.length + m.length : Nat) : Int) := wrap_addN l.length m.length (by omega)
      rw [show ((0 : Int) != 0) = false from rfl, peculiumlaw01_LexPieces.j0, if_neg (by decide), w1, w2]
      clear w1 w2
      by_cases hbig : 20000 < s.size + 1 + t.size
      · have hb1 : ((s.size + 1 + t.size : Nat) : Int) > 20000 := by omega
        rw [if_pos hb1, peculiumlaw01_LexPieces.j1, if_pos rfl]
        unfold scanL at hr3
        rw [if_pos (by omega)] at hr3
        simp only [Prod.mk.injEq] at hr3
        rw [← hr3.2.2]
        rfl
      · have hb1 : ¬ ((s.size + 1 + t.size : Nat) : Int) > 20000 := by omega
        rw [if_neg hb1]
        have hl3 : (l ++ m.map (shiftT (s.size + 1 : Nat))).length = l.length + m.length := by rw [List.length_append, List.length_map]
        by_cases hmany : 6000 < l.length + m.length
        · rw [decide_eq_true (by omega), peculiumlaw01_LexPieces.j1, if_pos rfl]
          have := long_of_toks _ ((s.data.toList ++ 10 :: t.data.toList).length + 1) _ _ [] (by rw [List.length_drop]; omega) hb (by simp) (by rw [hl3]; simpa using hmany)
          unfold scanL at hr3
          rw [if_neg (by omega)] at hr3
          rw [hr3] at this
          simp only at this
          rw [this]
          rfl
        · rw [decide_eq_false (by omega), peculiumlaw01_LexPieces.j1, if_neg (by decide)]
          have h3 := scanL_of_toks (by omega) hb (by omega)
          rw [hr3] at h3
          simp only [Prod.mk.injEq] at h3
          obtain ⟨rfl, rfl, rfl⟩ := h3
          rw [if_pos rfl, if_pos rfl, hl3, wrap_addN l.length m.length (by omega), show (((l.length + m.length : Nat) : Int) != ((l.length + m.length : Nat) : Int)) = false by simp, peculiumlaw01_LexPieces.j2, if_neg (by decide)]
          refine pieces_l s (by omega) l m n1 n2 (fun u hu => ?_) (l ++ m.map (shiftT (s.size + 1 : Nat))).length 0 K (by rw [Nat.zero_add]) (by omega)
          have := toks_at _ _ _ tk2 u hu
          rw [List.length_drop, htl] at this
          have h9 := skipN_le false t.data.toList
          unfold wrap64
          omega
    · have : (c2 != 0) = true := by simpa using h2
      rw [this]
      exact hj
  · rw [if_neg h1]
    exact hj
end Go.Proofs.Ytkolnimgdbhekaa.Pure
