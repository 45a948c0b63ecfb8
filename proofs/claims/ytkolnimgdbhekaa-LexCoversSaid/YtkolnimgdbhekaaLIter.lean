/- lex.tokens: the iterator, over whatever rounds keep their word. -/
import Derived.RangeFuncNested
import Derived.RangeFuncBound
import Derived.RangeFuncCalls
import Derived.RangeFuncLeaves
import Derived.OwnWalkIn
import Derived.TacticsInMore
import Derived.LoopNIn
import Derived.LoopIn
import Derived.Test.YtkolnimgdbhekaaLTok3
import Derived.Test.YtkolnimgdbhekaaLSkip
namespace Go.Proofs.Ytkolnimgdbhekaa.P
open Go.RowKit Go.Proofs.YtkolnimgdbhekaaW.PrintWords Go.Proofs.YtkolnimgdbhekaaW.PrintLast Go.Proofs.YtkolnimgdbhekaaW.PrintMore
attribute [local go_sem] Oper.semAt_some

theorem lt_of_cell {W : World} {b o : Nat} {v : Value} (h : W.cell? ⟨b, o, none⟩ = some v) : b < W.heap.size := World.block_lt_of_cell? W _ h
def encT (x : S34) : Array Value := #[.agg #[.int .i64 x.f0, .string x.f1, .int .i64 x.f2]]

/-- WHAT THE ROUNDS PROMISE: J pre W: what the caller knows, pre having come; 'mine': the blocks that a round may turn. -/
structure Rounds (n l : Nat) (J : List S34 → World → Prop) (mine : World → Nat → Prop) : Prop where
  below : ∀ pre W W', J pre W → Below W.heap.size W W' → J pre W'
  mineB : ∀ pre W W' b, J pre W → Below W.heap.size W W' → mine W' b → mine W b
  mineL : ∀ pre W b, J pre W → mine W b → b < W.heap.size
  round : ∀ pre x W, J pre W → pre.length < 6000 → YieldAt Fence.wide n Try.prog l (encT x) W fun e W' => e = .returned (.bool true) ∧ J (pre ++ [x]) W' ∧ W.heap.size ≤ W'.heap.size ∧ ∀ b, b < W.heap.size → ¬ mine W b → W'.heap[b]? = W.heap[b]? ∧ ¬ mine W' b

/-- How the iterator ends. -/
def IterEnd (J : List S34 → World → Prop) (R : List S34 × Int × Int) (e : Ending) (W' : World) : Prop :=
  (∃ v xs, e = .returned v ∧ R = (xs, 0, 0) ∧ J xs W') ∨
  (∃ (at_ : Nat) (c : Int) (pre : List S34), e = .panicked [{ v := .iface 57 (.agg #[.int .i64 at_, .int .i64 c]), recovered := false }] ∧ R = ([], (at_ : Int), c) ∧ c ≠ 0 ∧ J pre W')

set_option maxRecDepth 100000 in
set_option maxHeartbeats 4000000 in
theorem tokens1_in (n l : Nat) (s : ByteArray) (hs : s.size ≤ 140737488351232) (tb : Nat) (J : List S34 → World → Prop) (mine : World → Nat → Prop) (hR : Rounds (n - 1) l J mine)
    (W : World) (htb : W.cell? ⟨tb, 0, none⟩ = some (.string s)) (hnm : ¬ mine W tb) (h0 : J [] W) :
    CallsIn Fence.wide n Try.prog 67 #[.func (.yield l) #[] #[], .pointer (some ⟨tb, 0, none⟩)] W fun e W' => IterEnd J (scanA (s.data.toList.length + 1) (s.data.toList.drop (skipN false s.data.toList)) (skipN false s.data.toList) []) e W' := by
  have hsk := skipN_le false s.data.toList
  obtain ⟨a0, ha0⟩ : ∃ a0, a0 = skipN false s.data.toList := ⟨_, rfl⟩
  rw [← ha0] at hsk ⊢
  obtain ⟨R, hRES⟩ : ∃ R, R = scanA (s.data.toList.length + 1) (s.data.toList.drop a0) a0 [] := ⟨_, rfl⟩
  rw [← hRES]
  have HRES := Lib.hid hRES
  have HR := Lib.hid hR
  have HNM := Lib.hid hnm
  have hsk2 : a0 ≤ s.size := by simpa using hsk
  have HA0 : Hid ((0 + skipN false (s.data.toList.drop 0) : Nat) = a0) := Lib.hid (by rw [ha0]; simp)
  clear hRES ha0 hR hnm hsk
  refine callsIn_of_wp Try.func67 rfl trivial ?_ rfl
  simp only [Try.ntmps67, List.size_toArray, List.length_cons, List.length_nil, Nat.reduceAdd, Nat.reduceSub, Array.replicate_succ, Array.replicate_zero, List.push_toArray, List.append_toArray, List.nil_append, List.cons_append]
  gi_wp2_with fail
  refine ⟨trivial, fun h => (by cases h), (callsIn_wide.2 (skip_any s 0 W (Nat.zero_le _) hs)).mono ?_⟩
  rintro e w' ⟨rfl, rfl⟩
  rw [HA0.out]
  gi_wp2_with fail
  gi_loopw [3, 4] (fun many i wr => ∃ (acc : List S34) (k f : Nat), many = .int .i64 acc.length ∧ i = .int .i64 k ∧ k ≤ s.size ∧ s.size < f + k ∧ J acc wr ∧ wr.cell? ⟨tb, 0, none⟩ = some (.string s) ∧ ¬ mine wr tb ∧ acc.length ≤ 6000 ∧ scanA f (s.data.toList.drop k) k acc = R)
    (fun _ i _ => s.size - (intOf i).toNat)
  case atStart => exact ⟨[], a0, s.data.toList.length + 1, rfl, rfl, hsk2, by simp; omega, h0, htb, HNM.out, by simp, HRES.out.symm⟩
  case round =>
    obtain ⟨acc, k, f, rfl, rfl, hk, hf, hJ, htb2, hnm2, hlen, hres⟩ := hrel
    clear htb h0
    have HJ := Lib.hid hJ
    have HN := Lib.hid hnm2
    have HS := Lib.hid hres
    clear hJ hnm2 hres
    by_cases hlt : k < s.size
    · gi_wp2_with fail
      refine ⟨trivial, fun h => (by cases h), (callsIn_wide.2 (token_any s k wr hlt hs)).mono ?_⟩
      rintro e w' ⟨he, hb⟩
      have hdr := drop_cons' s k hlt
      have HDR := Lib.hid hdr
      have HJ2 := Lib.hid (HR.out.below _ _ _ HJ.out hb)
      have htbl : tb < wr.heap.size := lt_of_cell htb2
      have htbl' : tb < w'.heap.size := Nat.lt_of_lt_of_le htbl hb.size
      have htb3 : w'.cell? ⟨tb, 0, none⟩ = some (.string s) := (hb.cell (p := ⟨tb, 0, none⟩) htbl).trans htb2
      obtain ⟨f', hf'⟩ : ∃ f', f = f' + 1 := ⟨f - 1, by omega⟩
      cases htok : tok (s.data.toList.drop k) with
      | none =>
        rw [htok] at he
        subst he
        have HTOK := Lib.hid htok
        have HF := Lib.hid hf'
        clear htok hdr htb2 hf'
        gi_wp2_with fail
        refine ⟨rfl, .inr ⟨k, 10, acc, rfl, ?_, by decide, HR.out.below _ _ _ HJ2.out (by first | exact Below.refl _ _ | exact (Below.refl _ _).alloc (Nat.le_refl _) _)⟩⟩
        rw [← HS.out, HF.out, HDR.out]
        simp only [scanA]
        rw [← HDR.out, HTOK.out]
      | some p =>
        obtain ⟨kind, n⟩ := p
        rw [htok] at he
        simp only [] at he
        have htl := tok_le htok
        have hn2 : k + n ≤ s.size := by have := htl.2; simp at this; omega
        have hn1 := htl.1
        have HTOK := Lib.hid htok
        have hts : (s.extract k (k + n)).size = n := by simp; omega
        have htt : (⟨((s.data.toList.drop k).take n).toArray⟩ : ByteArray) = s.extract k (k + n) := by
          apply ByteArray.ext
          apply Array.ext'
          simp [List.extract_eq_take_drop]
        revert he
        generalize s.extract k (k + n) = t at hts htt
        intro he
        subst he
        have HTS := Lib.hid hts
        have HTT := Lib.hid htt
        have hts1 : (t.size : Int) ≤ n := by omega
        have hts2 : (n : Int) ≤ t.size := by omega
        clear htok hdr htb2 htl hts htt
        have htb4 : (w'.alloc (.cells #[.int .i64 kind, .string t, .int .i64 k] 34)).cell? ⟨tb, 0, none⟩ = some (.string s) := by rw [World.cell?_of_block (Below.heap_alloc w' _ tb htbl')]; exact htb3
        have hct : (w'.alloc (.cells #[.int .i64 kind, .string t, .int .i64 k] 34)).cell? ⟨w'.heap.size, 1, none⟩ = some (.string t) := by unfold World.cell?; rw [show (w'.alloc (.cells #[.int .i64 kind, .string t, .int .i64 k] 34)).heap[w'.heap.size]? = _ from Go.heap_alloc_new w' _]; rfl
        have htbl2 : tb < (w'.alloc (.cells #[.int .i64 kind, .string t, .int .i64 k] 34)).heap.size := by simp; omega
        have hba : Below w'.heap.size w' (w'.alloc (.cells #[.int .i64 kind, .string t, .int .i64 k] 34)) := (Below.refl _ _).alloc (Nat.le_refl _) _
        have HN2 : Hid (¬ mine (w'.alloc (.cells #[.int .i64 kind, .string t, .int .i64 k] 34)) tb) := Lib.hid (fun h => HN.out (HR.out.mineB _ _ _ _ HJ.out hb (HR.out.mineB _ _ _ _ HJ2.out hba h)))
        have HNT : Hid (¬ mine (w'.alloc (.cells #[.int .i64 kind, .string t, .int .i64 k] 34)) w'.heap.size) := Lib.hid (fun h => Nat.lt_irrefl _ (HR.out.mineL _ _ _ HJ2.out (HR.out.mineB _ _ _ _ HJ2.out hba h)))
        have HBA := Lib.hid hba
        clear hba
        by_cases h6 : acc.length = 6000
        · have h6b : ((acc.length : Int) == 6000) = true := by rw [beq_iff_eq]; omega
          have H6 := Lib.hid h6
          have HF := Lib.hid hf'
          clear h6 hf'
          gi_wp2_with fail
          refine ⟨rfl, .inr ⟨k, 2, acc, rfl, ?_, by decide, HR.out.below _ _ _ HJ2.out (by first | exact Below.refl _ _ | exact (Below.refl _ _).alloc (Nat.le_refl _) _)⟩⟩
          rw [← HS.out, HF.out, HDR.out]
          simp only [scanA]
          rw [← HDR.out, HTOK.out]
          simp only []
          rw [if_pos H6.out]
        · have h6b : ((acc.length : Int) == 6000) = false := by rw [beq_eq_false_iff_ne]; omega
          by_cases hbad : (kind = 1 ∨ kind = 2) ∧ 40 < n
          · have HF := Lib.hid hf'
            clear hf'
            rcases hbad with ⟨rfl | rfl, h40⟩
            all_goals
              gi_wp2_with fail
              refine ⟨rfl, .inr ⟨k, 11, acc, rfl, ?_, by decide, HR.out.below _ _ _ HJ2.out (by first | exact Below.refl _ _ | exact (Below.refl _ _).alloc (Nat.le_refl _) _)⟩⟩
              rw [← HS.out, HF.out, HDR.out]
              simp only [scanA]
              rw [← HDR.out, HTOK.out]
              simp only []
              rw [if_neg h6, if_pos (by simp; omega)]
          · obtain ⟨fn, tmps, assign, body, hy, hRd⟩ := HR.out.round acc ⟨kind, t, k⟩ (w'.alloc (.cells #[.int .i64 kind, .string t, .int .i64 k] 34)) (HR.out.below _ _ _ HJ2.out HBA.out) (by omega)
            dsimp only [encT] at hy
            have HF := Lib.hid hf'
            clear hf'
            by_cases h40 : 40 < n
            · have g1 : ((kind : Int) == 1) = false := by rw [beq_eq_false_iff_ne]; intro h; exact hbad ⟨.inl (by omega), h40⟩
              have g2 : ((kind : Int) == 2) = false := by rw [beq_eq_false_iff_ne]; intro h; exact hbad ⟨.inr (by omega), h40⟩
              gi_wp2_with fail
              refine ⟨fun h => (by cases h), hRd.mono ?_⟩
              rintro e W3 ⟨rfl, hJ3, hsz, hkeep⟩
              have HJ3 := Lib.hid hJ3
              obtain ⟨k1, k2⟩ := hkeep tb htbl2 HN2.out
              have htb3 : W3.cell? ⟨tb, 0, none⟩ = some (.string s) := (World.cell?_of_block k1).trans htb4
              have HN3 := Lib.hid k2
              have k3 := (hkeep w'.heap.size (by simp) HNT.out).1
              have hct3 : W3.cell? ⟨w'.heap.size, 1, none⟩ = some (.string t) := (World.cell?_of_block k3).trans hct
              clear hJ3 hkeep k1 k2 k3 hsz
              gi_wp2_with fail
              rw [show ((k : Int) + (t.size : Int)) = ((k + n : Nat) : Int) by have := HTS.out; omega]
              refine ⟨trivial, fun h => (by cases h), (callsIn_wide.2 (skip_any s (k + n) W3 (by omega) hs)).mono ?_⟩
              rintro e w4 ⟨rfl, rfl⟩
              have hsl := skipN_le false (s.data.toList.drop (k + n))
              have hsl2 : k + n + skipN false (s.data.toList.drop (k + n)) ≤ s.size := by simp at hsl; omega
              have HNX : Hid (scanA f' (s.data.toList.drop (k + n + skipN false (s.data.toList.drop (k + n)))) (k + n + skipN false (s.data.toList.drop (k + n))) (acc ++ [⟨kind, t, k⟩]) = R) := by
                refine Lib.hid ?_
                rw [← HS.out, HF.out, HDR.out]
                simp only [scanA]
                rw [← HDR.out, HTOK.out]
                simp only []
                rw [if_neg h6, if_neg hbad, HTT.out]
                simp only [List.drop_drop]
              obtain ⟨q, hq⟩ : ∃ q, q = skipN false (s.data.toList.drop (k + n)) := ⟨_, rfl⟩
              rw [← hq] at HNX hsl2 ⊢
              clear hq hsl
              gi_wp2_with fail
              go_roundw
              case rel => exact ⟨acc ++ [⟨kind, t, k⟩], k + n + q, f', by simp, by first | rfl | go_num, by omega, by have := HF.out; omega, HJ3.out, htb3, HN3.out, by simp; omega, HNX.out⟩
              case measure => simp [intOf]; omega
            · cases g1 : ((kind : Int) == 1) <;> cases g2 : ((kind : Int) == 2)
              all_goals
                gi_wp2_with fail
                refine ⟨fun h => (by cases h), hRd.mono ?_⟩
                rintro e W3 ⟨rfl, hJ3, hsz, hkeep⟩
                have HJ3 := Lib.hid hJ3
                obtain ⟨k1, k2⟩ := hkeep tb htbl2 HN2.out
                have htb3 : W3.cell? ⟨tb, 0, none⟩ = some (.string s) := (World.cell?_of_block k1).trans htb4
                have HN3 := Lib.hid k2
                have k3 := (hkeep w'.heap.size (by simp) HNT.out).1
                have hct3 : W3.cell? ⟨w'.heap.size, 1, none⟩ = some (.string t) := (World.cell?_of_block k3).trans hct
                clear hJ3 hkeep k1 k2 k3 hsz
                gi_wp2_with fail
                rw [show ((k : Int) + (t.size : Int)) = ((k + n : Nat) : Int) by have := HTS.out; omega]
                refine ⟨trivial, fun h => (by cases h), (callsIn_wide.2 (skip_any s (k + n) W3 (by omega) hs)).mono ?_⟩
                rintro e w4 ⟨rfl, rfl⟩
                have hsl := skipN_le false (s.data.toList.drop (k + n))
                have hsl2 : k + n + skipN false (s.data.toList.drop (k + n)) ≤ s.size := by simp at hsl; omega
                have HNX : Hid (scanA f' (s.data.toList.drop (k + n + skipN false (s.data.toList.drop (k + n)))) (k + n + skipN false (s.data.toList.drop (k + n))) (acc ++ [⟨kind, t, k⟩]) = R) := by
                  refine Lib.hid ?_
                  rw [← HS.out, HF.out, HDR.out]
                  simp only [scanA]
                  rw [← HDR.out, HTOK.out]
                  simp only []
                  rw [if_neg h6, if_neg hbad, HTT.out]
                  simp only [List.drop_drop]
                obtain ⟨q, hq⟩ : ∃ q, q = skipN false (s.data.toList.drop (k + n)) := ⟨_, rfl⟩
                rw [← hq] at HNX hsl2 ⊢
                clear hq hsl
                gi_wp2_with fail
                go_roundw
                case rel => exact ⟨acc ++ [⟨kind, t, k⟩], k + n + q, f', by simp, by first | rfl | go_num, by omega, by have := HF.out; omega, HJ3.out, htb3, HN3.out, by simp; omega, HNX.out⟩
                case measure => simp [intOf]; omega
    · gi_wp2_with fail
      refine ⟨rfl, _, results_none rfl _ _ _, .inl ⟨_, acc, rfl, ?_, HJ.out⟩⟩
      rw [← HS.out, List.drop_of_length_le (by simp; omega)]
      cases f <;> rfl
end Go.Proofs.Ytkolnimgdbhekaa.P
