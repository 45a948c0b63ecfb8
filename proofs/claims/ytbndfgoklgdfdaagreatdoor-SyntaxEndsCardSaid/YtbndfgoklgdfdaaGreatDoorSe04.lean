/- syntax.deeper: are there more levels than some? (slices.ContainsFunc with its closure.) Regions that draw their order: the steps with what is ever proved alike left to the prover. What a method that makes trees knows of the world: a state behind a pointer, variables in memory, rows made; what its steps leave. -/
import Derived.Test.YtbndfgoklgdfdaaGreatDoorProg
import Derived.Below
import Derived.Deep.Draws
import Derived.Deep.AppendLies
import Derived.Maps.AppendAt
import Derived.OwnWalk
import Derived.Laws.BytesArg
import Derived.Laws.MakeOwn
import Derived.Laws.OwnMore
import Derived.Deep.OwnRows
import Derived.Tactics
import Derived.Lib.ConvBytes
import Derived.Laws.Slices
import Derived.WalkKit
import Derived.KernelRfl
import Derived.RowKit3
import Derived.Deep.LoopGhost
import Derived.Deep.QuietTactic
import Derived.BigQuiet
import Derived.WideLaws
import Derived.Deep.DeepCutAuto
import Derived.Deep.CutBlock
import Derived.Deep.RegionHeld3
import Derived.Laws.Rows
import Derived.Lib.AppendStr
import Derived.ArgAppend
import Derived.Laws.IdiomCopy
import Derived.OrdersHeld
import Derived.Laws.BitsLemmas
import Derived.RowKit
import Derived.Test.YtbndfgoklgdfdaaGreatDoorSe01
import Derived.Test.YtbndfgoklgdfdaaGreatDoorSe02
import Derived.Test.YtbndfgoklgdfdaaGreatDoorSe03
import Derived.Lib.Hide
import Derived.WalkSmall
import Derived.Deep.MidRow
set_option linter.all false
section
-- Written by wip/xprint.py over the kit's print (several laws in one namespace, some contracts by hand). Not trusted: Lean checks it.
namespace Go.Proofs.YtbndfgoklgdfdaaGreatDoor.P
open Go.RowKit Go.Proofs.YtbndfgoklgdfdaaGreatDoorW.PrintWords Go.Proofs.YtbndfgoklgdfdaaGreatDoorW.PrintLast Go.Proofs.YtbndfgoklgdfdaaGreatDoorW.PrintMore
attribute [local go_sem] max2_int min2_int max_two min_two max_three min_three max_four min_four   -- for this text's walks alone
set_option linter.unusedVariables false
set_option linter.unusedSimpArgs false



theorem info9 : (Tryz.prog.info? 9).map (fun i => (i.zero, i.size, i.bytes)) = some (some (.string ⟨#[]⟩), 1, 16) := by kernel_rfl
theorem info65 : (Tryz.prog.info? 65).map (fun i => (i.zero, i.size, i.bytes)) = some (some (.agg #[(.int .i64 0), (.string ⟨#[]⟩), (.int .i64 0)]), 3, 32) := by kernel_rfl
-- the values' own types
/-! #### struct type 65 -/
structure S65 where
 f0 : Int
 f1 : ByteArray
 f2 : Int
def z65 : S65 := ⟨(0 : Int), (⟨#[]⟩ : ByteArray), (0 : Int)⟩
def k65 : Kd S65 := Kd.iso (Kd.pair (Kd.int .i64) (Kd.pair Kd.string (Kd.int .i64))) (fun x : S65 => (x.f0, x.f1, x.f2))
theorem k65_open {w : World} {x : S65} {cs : List Value} (h : k65.K w x cs) : cs = [.int .i64 x.f0, .string x.f1, .int .i64 x.f2] := by
 obtain ⟨_, _, rfl, rfl, ⟨_, _, rfl, rfl, rfl⟩⟩ := h
 exact rfl
theorem k65_mkM (w : World) (base : Nat) (ok : Nat → Prop) (x : S65)  : k65.M w base ok x [.int .i64 x.f0, .string x.f1, .int .i64 x.f2] := ⟨[.int .i64 x.f0], [.string x.f1, .int .i64 x.f2], rfl, rfl, ⟨[.string x.f1], [.int .i64 x.f2], rfl, rfl, rfl⟩⟩
def rd_T65 (xs : List S65) (i : Int) : S65 := xs.getD i.toNat z65
theorem at_T65 {w : World} {A : Option Addr} {n : Nat} {xs : List S65} (h : Kd.C k65 w A n xs) (i : Int) (h0 : 0 ≤ i) (h1 : i < n) : ∃ ad , A = some ad ∧ w.cell? (ad.add (i.toNat * 3)) = some (.int .i64 (rd_T65 xs i).f0) ∧ w.cell? ⟨(ad.add (i.toNat * 3)).block, (ad.add (i.toNat * 3)).off + 1, none⟩ = some (.string (rd_T65 xs i).f1) ∧ w.cell? ⟨(ad.add (i.toNat * 3)).block, (ad.add (i.toNat * 3)).off + 2, none⟩ = some (.int .i64 (rd_T65 xs i).f2) := by
 obtain ⟨ad, c, e, _, hK, hc0⟩ := Kd.C_get h z65 i h0 h1
 have hc : ∀ j u, c[j]? = some u → w.cell? (ad.add (i.toNat * 3 + j)) = some u := hc0
 obtain rfl := k65_open hK
 exact ⟨ad, e, hc 0 _ rfl, by rw [← add_field _ _ 1 (by omega)]; exact hc 1 _ rfl, by rw [← add_field _ _ 2 (by omega)]; exact hc 2 _ rfl⟩

/-! #### struct type 25, nested in itself -/
structure S25 where
 f0 : Int
 f1 : ByteArray
 f2 : (List S25)
def z25 : S25 := ⟨(0 : Int), (⟨#[]⟩ : ByteArray), ([] : List S25)⟩
def F25 (d : Kd S25) : Kd S25 := Kd.iso (Kd.pair (Kd.int .i64) (Kd.pair Kd.string (Kd.slice 25 d))) (fun x : S25 => (x.f0, x.f1, x.f2))
theorem mono25 : Kd.Mono F25 := Kd.mono_iso _ (Kd.mono_pair (Kd.mono_const _) (Kd.mono_pair (Kd.mono_const _) (Kd.mono_slice 25 Kd.mono_id)))
theorem sub25 : Kd.Sub F25 [25] := Kd.sub_iso _ (Kd.sub_pair (Kd.sub_const _ (by decide)) (Kd.sub_pair (Kd.sub_const _ (by decide)) (Kd.sub_slice 25 (by decide) Kd.sub_id)))
theorem sz25 : ∀ n, (Kd.upto F25 3 [25] n).sz = 3 := Kd.upto_sz (fun _ => rfl)
def k25 : Kd S25 := Kd.fix F25 3 [25] sz25 (Kd.upto_E sub25)
theorem k25_open {w : World} {x : S25} {cs : List Value} (h : k25.K w x cs) : ∃ A2 c2, cs = [.int .i64 x.f0, .string x.f1, .slice A2 x.f2.length c2] ∧ x.f2.length ≤ c2 ∧ k25.C w A2 x.f2.length x.f2 := by
 obtain ⟨n, h⟩ := h
 cases n with
 | zero => exact h.elim
 | succ n =>
  obtain ⟨_, _, rfl, rfl, ⟨_, _, rfl, rfl, ⟨A2, c2, rfl, l2, g2⟩⟩⟩ := h
  exact ⟨A2, c2, rfl, l2, Kd.fix_C g2⟩
theorem k25_mk (w : World) (x : S25) {A2 : Option Addr} {c2 : Nat} (l2 : x.f2.length ≤ c2) (g2 : k25.C w A2 x.f2.length x.f2) : k25.K w x [.int .i64 x.f0, .string x.f1, .slice A2 x.f2.length c2] := by
 obtain ⟨n2, q2⟩ := Kd.fix_C_back mono25 g2
 have r2 := Kd.upto_C_le mono25 sz25 (show n2 ≤ n2 by omega) q2
 exact ⟨n2 + 1, ⟨[.int .i64 x.f0], [.string x.f1, .slice A2 x.f2.length c2], rfl, rfl, ⟨[.string x.f1], [.slice A2 x.f2.length c2], rfl, rfl, ⟨A2, c2, rfl, l2, r2⟩⟩⟩⟩
theorem k25_mkM (w : World) (base : Nat) (ok : Nat → Prop) (x : S25) {v2 : Value} (g2 : k25.R 25 w base ok v2 x.f2) : k25.M w base ok x [.int .i64 x.f0, .string x.f1, v2] := by
 obtain ⟨n2, q2⟩ := Kd.fix_R_back mono25 g2
 have r2 := Kd.upto_R_le mono25 sz25 (show n2 ≤ n2 by omega) q2
 exact ⟨n2 + 1, ⟨[.int .i64 x.f0], [.string x.f1, v2], rfl, rfl, ⟨[.string x.f1], [v2], rfl, rfl, ⟨v2, rfl, r2⟩⟩⟩⟩
def rd_T25 (xs : List S25) (i : Int) : S25 := xs.getD i.toNat z25
theorem at_T25 {w : World} {A : Option Addr} {n : Nat} {xs : List S25} (h : Kd.C k25 w A n xs) (i : Int) (h0 : 0 ≤ i) (h1 : i < n) : ∃ ad A2 c2, A = some ad ∧ w.cell? (ad.add (i.toNat * 3)) = some (.int .i64 (rd_T25 xs i).f0) ∧ w.cell? ⟨(ad.add (i.toNat * 3)).block, (ad.add (i.toNat * 3)).off + 1, none⟩ = some (.string (rd_T25 xs i).f1) ∧ w.cell? ⟨(ad.add (i.toNat * 3)).block, (ad.add (i.toNat * 3)).off + 2, none⟩ = some (.slice A2 (rd_T25 xs i).f2.length c2) ∧ (rd_T25 xs i).f2.length ≤ c2 ∧ k25.C w A2 (rd_T25 xs i).f2.length (rd_T25 xs i).f2 := by
 obtain ⟨ad, c, e, _, hK, hc0⟩ := Kd.C_get h z25 i h0 h1
 have hc : ∀ j u, c[j]? = some u → w.cell? (ad.add (i.toNat * 3 + j)) = some u := hc0
 obtain ⟨A2, c2, rfl, l2, g2⟩ := k25_open hK
 exact ⟨ad, A2, c2, e, hc 0 _ rfl, by rw [← add_field _ _ 1 (by omega)]; exact hc 1 _ rfl, by rw [← add_field _ _ 2 (by omega)]; exact hc 2 _ rfl, l2, g2⟩

end Go.Proofs.YtbndfgoklgdfdaaGreatDoor.P
end
section
namespace Go.Proofs.YtbndfgoklgdfdaaGreatDoor.P
open Go.RowKit Go.Proofs.YtbndfgoklgdfdaaGreatDoorW.PrintWords Go.Proofs.YtbndfgoklgdfdaaGreatDoorW.PrintLast Go.Proofs.YtbndfgoklgdfdaaGreatDoorW.PrintMore

def deepN : Nat → S25 → Bool
 | 0, _ => true
 | m + 1, x => x.f2.any (deepN m)
theorem rdN_drop (l : List S25) (k : Nat) (h : k < l.length) : l.drop k = rd_T25 l k :: l.drop (k + 1) := by
 rw [List.drop_eq_getElem_cons h]
 simp [rd_T25, h]
theorem heap_last2 (w : World) (a b : Obj) : ((w.alloc a).alloc b).heap[w.heap.size + 1]? = some b := by
 have := Go.heap_alloc_new (w.alloc a) b
 rwa [World.size_alloc] at this
/-- deeper's contract for one number of levels. -/
def DeepAt (m : Nat) : Prop := ∀ (x : S25) (A : Option Addr) (c : Nat) (w : World), x.f2.length ≤ c → Kd.C k25 w A x.f2.length x.f2 →
 Calls Tryz.prog 33 #[.agg #[.int .i64 x.f0, .string x.f1, .slice A x.f2.length c], .int .i64 m] w fun e w' => e = .returned (.bool (deepN m x)) ∧ Below w.heap.size w w'

set_option maxHeartbeats 1000000 in
theorem deeper1_any (m : Nat) (hm : m ≤ 1000) (ih : DeepAt m) (b : Nat) (x : S25) (A : Option Addr) (c : Nat) (w : World) (hc : x.f2.length ≤ c) (hC : Kd.C k25 w A x.f2.length x.f2) (hb : w.heap[b]? = some (.cells #[.int .i64 ((m + 1 : Nat) : Int)] 3 (0, 0))) :
  Calls Tryz.prog 61 #[.agg #[.int .i64 x.f0, .string x.f1, .slice A x.f2.length c], .pointer (some ⟨b, 0, none⟩)] w fun e w' => e = .returned (.bool (deepN m x)) ∧ Below w.heap.size w w' := by
 have x0 : w.cell? ⟨b, 0, none⟩ = some (.int .i64 ((m + 1 : Nat) : Int)) := by simp [World.cell?, hb]
 have hw : wrap64 (((m + 1 : Nat) : Int) - 1) = (m : Int) := by unfold wrap64; omega
 have xa : ∀ o : Obj, (w.alloc o).cell? ⟨b, 0, none⟩ = some (.int .i64 ((m + 1 : Nat) : Int)) := fun o => (((Below.refl w.heap.size w).alloc (Nat.le_refl _) o).cell (World.block_lt_of_cell? w _ x0)).trans x0
 have HC := Lib.hid hC
 have HCC := Lib.hid hc
 have HIH := Lib.hid ih
 clear hC hc hb ih
 go_enter Tryz.func61, Tryz.ntmps61
 go_wp2_with (go_at_call 33; refine (HIH.out x A c _ HCC.out (Kd.C_alloc HC.out _)).mono ?_; rintro e w2 ⟨rfl, hb2⟩)
 go_ret
 exact ⟨rfl, below_step (below_alloc (Below.refl _ _) _) hb2⟩
set_option maxHeartbeats 1000000 in
theorem deepIndex_any (m : Nat) (hm : m ≤ 1000) (ih : DeepAt m) (b : Nat) (l : List S25) (A : Option Addr) (c : Nat) (w : World) (hC : Kd.C k25 w A l.length l) (hb : w.heap[b]? = some (.cells #[.int .i64 ((m + 1 : Nat) : Int)] 3 (0, 0))) :
  Calls Tryz.prog 110 #[.slice A l.length c, .func (.func 61) #[] #[.pointer (some ⟨b, 0, none⟩)]] w fun e w' => (∃ r : Int, e = .returned (.int .i64 r) ∧ decide (0 ≤ r) = l.any (deepN m)) ∧ Below w.heap.size w w' := by
 obtain ⟨R, hR⟩ : ∃ R, R = l.any (deepN m) := ⟨_, rfl⟩
 rw [← hR]
 have hln : l.length ≤ 9223372036854775807 := hC.2.1
 have HR := Lib.hid hR
 have HC := Lib.hid hC
 have HBB := Lib.hid hb
 have HIH := Lib.hid ih
 clear hR hC hb ih
 go_enter Tryz.func110, Tryz.ntmps110
 go_wp2_with fail
 go_loopw [8] (fun i wr => ∃ k : Nat, i = .int .i64 k ∧ k ≤ l.length ∧ Below w.heap.size w wr ∧ R = (l.drop k).any (deepN m)) (fun i _ => l.length - (intOf i).toNat)
 case atStart => exact ⟨0, rfl, Nat.zero_le _, Below.refl _ _, HR.out⟩
 case round =>
  obtain ⟨k, rfl, hk, hbw, hd⟩ := hrel
  have HB := Lib.hid hbw
  have HD := Lib.hid hd
  clear hbw hd
  by_cases hlt : k < l.length
  ·obtain ⟨a0, A2, c2, e0, p0, p1, p2, hl2, hc2⟩ := at_T25 (Kd.C_below HC.out HB.out) k (by omega) (by omega)
   subst e0
   obtain ⟨x, hx⟩ : ∃ x, x = rd_T25 l k := ⟨_, rfl⟩
   have hdr := rdN_drop l k hlt
   rw [← hx] at p0 p1 p2 hl2 hc2 hdr
   rw [Int.toNat_natCast] at p0 p1 p2
   have hbk := (HB.out.block b ((Array.getElem?_eq_some_iff.1 HBB.out).1)).trans HBB.out
   have HBK := Lib.hid hbk
   have HC2 := Lib.hid hc2
   have hD2 := HD.out
   rw [hdr, List.any_cons] at hD2
   have HD2 := Lib.hid hD2
   clear hx hdr hbk hc2 hD2
   cases hp : deepN m x
   ·have hDf := HD2.out
    rw [hp, Bool.false_or] at hDf
    have HDF := Lib.hid hDf
    clear hDf
    go_wp2_with (go_at_call 61; refine (deeper1_any m hm HIH.out b x A2 c2 _ hl2 HC2.out HBK.out).mono ?_; rintro e w2 ⟨rfl, hb2⟩; rw [hp])
    exact ⟨⟨k + 1, by go_num, by omega, below_step HB.out hb2, HDF.out⟩, by simp [intOf]; omega⟩
   ·have hDf := HD2.out
    rw [hp, Bool.true_or] at hDf
    have HDF := Lib.hid hDf
    clear hDf
    go_wp2_with (go_at_call 61; refine (deeper1_any m hm HIH.out b x A2 c2 _ hl2 HC2.out HBK.out).mono ?_; rintro e w2 ⟨rfl, hb2⟩; rw [hp])
    go_ret
    exact ⟨⟨k, rfl, by rw [HDF.out]; exact decide_eq_true (by omega)⟩, below_step HB.out hb2⟩
  ·go_wp2_with fail
   go_ret
   have h := HD.out
   rw [List.drop_of_length_le (by omega)] at h
   exact ⟨⟨-1, rfl, by rw [h]; rfl⟩, HB.out⟩

set_option maxHeartbeats 1000000 in
theorem deepContains_any (m : Nat) (hm : m ≤ 1000) (ih : DeepAt m) (b : Nat) (l : List S25) (A : Option Addr) (c : Nat) (w : World) (hC : Kd.C k25 w A l.length l) (hb : w.heap[b]? = some (.cells #[.int .i64 ((m + 1 : Nat) : Int)] 3 (0, 0))) :
  Calls Tryz.prog 60 #[.slice A l.length c, .func (.func 61) #[] #[.pointer (some ⟨b, 0, none⟩)]] w fun e w' => e = .returned (.bool (l.any (deepN m))) ∧ Below w.heap.size w w' := by
 have HC := Lib.hid hC
 have HBB := Lib.hid hb
 have HIH := Lib.hid ih
 clear hC hb ih
 go_enter Tryz.func60, Tryz.ntmps60
 go_wp2_with (go_at_call 110; refine (deepIndex_any m hm HIH.out b l A c _ HC.out HBB.out).mono ?_; rintro e w2 ⟨⟨r, rfl, hr⟩, hb2⟩; have HRR := Lib.hid hr; clear hr)
 go_ret
 exact ⟨by rw [← HRR.out]; rfl, hb2⟩
set_option maxHeartbeats 1000000 in
theorem deeper_any : ∀ m : Nat, m ≤ 1000 → DeepAt m
 | 0, _ => by
  intro x A c w hc hC
  clear hC
  go_enter Tryz.func33, Tryz.ntmps33
  go_wp2_with fail
  go_ret
  exact ⟨rfl, by repeat (first | exact Below.refl _ _ | apply below_alloc)⟩
 | m + 1, hm => by
  intro x A c w hc hC
  have hih := deeper_any m (by omega)
  have HIH := Lib.hid hih
  have HC := Lib.hid hC
  have hne : ((((m + 1 : Nat) : Int)) == 0) = false := by simp; omega
  clear hih hC
  go_enter Tryz.func33, Tryz.ntmps33
  go_wp2_with (go_at_call 60; refine (deepContains_any m (by omega) HIH.out (w.heap.size + 1) x.f2 A c _ (Kd.C_alloc (Kd.C_alloc HC.out _) _) (heap_last2 _ _ _)).mono ?_; rintro e w2 ⟨rfl, hb2⟩)
  go_ret
  exact ⟨rfl, below_step (below_alloc (below_alloc (Below.refl _ _) _) _) hb2⟩
end Go.Proofs.YtbndfgoklgdfdaaGreatDoor.P
end
section
namespace Go.Proofs.YtbndfgoklgdfdaaGreatDoor.P
open Go.RowKit Go.Proofs.YtbndfgoklgdfdaaGreatDoorW.PrintWords Go.Proofs.YtbndfgoklgdfdaaGreatDoorW.PrintLast Go.Proofs.YtbndfgoklgdfdaaGreatDoorW.PrintMore
/-- The first k of n have come up. -/
abbrev fl (n k : Nat) : Array Bool := ⟨List.replicate k true ++ List.replicate (n - k) false⟩
section
variable {P : Program} {ops : Array Oper} {Q : Exit → Act → World → Prop} {md : Region.Mode} {S : World → Prop} {ds : List Nat}
theorem pq {N : Option Tmp} {oi : Oper} {v : Value} {fuel : Nat} {l : Array Bool} {a : Act} {w : World} (i : Nat) (l' : Array Bool) {a' : Act} (hi : ops[i]? = some oi := by first | (simp only [List.getElem?_toArray, List.getElem?_cons_succ, List.getElem?_cons_zero]; exact rfl) | rfl) (hN : oi.dst = N := by rfl) (hc : anyB md ops l l' i = true := by kernel_rfl)
  (hQ : ∀ c a w, Q (.panic c) (a.put oi.dst v) w → Q (.panic c) a w := by first | exact fun _ _ _ h => (by cases h.1) | exact fun _ _ _ h => h) (hw : Region.wanted oi (yielded ops a.tmps) = true := by rfl)
  (hv : ∀ w', (execOp a.eval oi).run P w' = .ok (.value v) w' := by intro w'; first | (go_simp; done) | (go_simp; with_reducible rfl)) (ha : a.put N v = a' := by first | (simp only [Act.put, List.setIfInBounds_toArray, List.set_cons_zero, List.set_cons_succ]; exact rfl) | rfl)
  (h : wpAnyLast P md ops Q S ds fuel l' a' w) : wpAnyLast P md ops Q S ds (fuel + 1) l a w :=
 pure_ l' hi hN hc hQ (Or.inl ⟨hw, hv⟩) ha h
theorem pqs {N : Option Tmp} {oi : Oper} {v : Value} {fuel : Nat} {l : Array Bool} {a : Act} {w : World} (i : Nat) (l' : Array Bool) {a' : Act} (hi : ops[i]? = some oi := by first | (simp only [List.getElem?_toArray, List.getElem?_cons_succ, List.getElem?_cons_zero]; exact rfl) | rfl) (hN : oi.dst = N := by rfl) (hc : anyB md ops l l' i = true := by kernel_rfl)
  (hQ : ∀ c a w, Q (.panic c) (a.put oi.dst v) w → Q (.panic c) a w := by first | exact fun _ _ _ h => (by cases h.1) | exact fun _ _ _ h => h) (hw : Region.wanted oi (yielded ops a.tmps) = true := by rfl)
  (hv : ∀ w', (execOp a.eval oi).run P w' = .ok (.value v) w' := by intro w'; first | (go_simp; done) | (go_simp; with_reducible rfl)) (ha : a.put N v = a' := by simp only [Act.put, List.setIfInBounds_toArray, List.set_cons_zero, List.set_cons_succ]; rfl)
  (h : wpAnyLast P md ops Q S ds fuel l' a' w) : wpAnyLast P md ops Q S ds (fuel + 1) l a w :=
 pure_ l' hi hN hc hQ (Or.inl ⟨hw, hv⟩) ha h
theorem tq {N : Option Tmp} {oi : Oper} {v : Value} {fuel : Nat} {l : Array Bool} {a : Act} {w : World} (hS : S w) (i : Nat) (l' : Array Bool) {a' : Act} (hi : ops[i]? = some oi := by first | (simp only [List.getElem?_toArray, List.getElem?_cons_succ, List.getElem?_cons_zero]; exact rfl) | rfl) (hN : oi.dst = N := by rfl) (hc : takeB md ops ds l l' i = true := by kernel_rfl)
  (hQ : ∀ c a w, Q (.panic c) (a.put oi.dst v) w → Q (.panic c) a w := by first | exact fun _ _ _ h => (by cases h.1) | exact fun _ _ _ h => h) (hw : Region.wanted oi (yielded ops a.tmps) = true := by rfl)
  (hv : ∀ w', S w' → (execOp a.eval oi).run P w' = .ok (.value v) w' := by intro w' hSw; (try dsimp only at hSw); first | (go_simp; done) | (go_simp; with_reducible rfl)) (ha : a.put N v = a' := by first | (simp only [Act.put, List.setIfInBounds_toArray, List.set_cons_zero, List.set_cons_succ]; exact rfl) | rfl)
  (h : wpAnyLast P md ops Q S ds fuel l' a' w) : wpAnyLast P md ops Q S ds (fuel + 1) l a w :=
 take_ l' hi hN hc hQ (Or.inl ⟨hw, hv⟩) hS ha h
end
end Go.Proofs.YtbndfgoklgdfdaaGreatDoor.P
end
section
namespace Go.Proofs.YtbndfgoklgdfdaaGreatDoor.P
open Go.RowKit Go.Proofs.YtbndfgoklgdfdaaGreatDoorW.PrintWords Go.Proofs.YtbndfgoklgdfdaaGreatDoorW.PrintLast Go.Proofs.YtbndfgoklgdfdaaGreatDoorW.PrintMore
theorem info25 : (Tryz.prog.info? 25).map (fun i => (i.zero, i.size, i.bytes)) = some (some (.agg #[(.int .i64 0), (.string ⟨#[]⟩), (.slice none 0 0)]), 3, 48) := by kernel_rfl

abbrev Tree := S25
abbrev nilS : Value := .slice none 0 0
abbrev zN : Array Value := #[.int .i64 0, .string (⟨#[]⟩ : ByteArray), .slice none 0 0]
/-- A tree's cells, its children's row at A. -/
abbrev tN (x : Tree) (A : Option Addr) (c : Nat) : Array Value := #[.int .i64 x.f0, .string x.f1, .slice A x.f2.length c]
/-- A row of trees that the call has made: its blocks (ok), its value, its trees. -/
structure Ow where
 ok : Nat → Prop
 v : Value
 xs : List Tree
/-- A variable in memory (or another thing that the method has made there): its block, what lies there. -/
abbrev Bx := Nat × Obj
abbrev vb (b : Nat) (t : TypeId) (cs : Array Value) : Bx := (b, .cells cs t (0, 0))
/-- W: the world at hand, w: the method's first one, w0: an elder one under which the state's own data lie; g: the state's block, S: what the state says; bs: variables in memory; os: rows made. -/
structure Fr (w0 w W : World) (g : Nat) (S : World → Prop) (bs : List Bx) (os : List Ow) : Prop where
 st : S W
 stab : ∀ W1 W2, S W1 → W2.heap[g]? = W1.heap[g]? → Below w0.heap.size w0 W2 → S W2
 keep : KeepBut w W g none
 low : Below w0.heap.size w0 W
 glt : g < w.heap.size
 g0 : w0.heap.size ≤ g
 w0w : w0.heap.size ≤ w.heap.size
 bx : ∀ b ∈ bs, W.heap[b.1]? = some b.2 ∧ w.heap.size ≤ b.1
 ow : ∀ o ∈ os, Kd.R k25 25 W w.heap.size o.ok o.v o.xs ∧ (∀ k, o.ok k → w.heap.size ≤ k ∧ k < W.heap.size) ∧ ∀ b ∈ bs, ¬ o.ok b.1
 pw : os.Pairwise fun a b => ∀ k, a.ok k → ¬ b.ok k
 bpw : bs.Pairwise fun a b => a.1 ≠ b.1
section
variable {w0 w W W' : World} {g : Nat} {S S' : World → Prop} {bs : List Bx} {os : List Ow}
theorem keepTr (h : KeepBut w W g none) (k : KeepBut W W' g none) : KeepBut w W' g none := h.trans k (.inl rfl)
/-- Another world: the state is another one, the variables and the rows lie as before. -/
theorem Fr.moved (h : Fr w0 w W g S bs os) (hs : S' W') (h2 : ∀ W1 W2, S' W1 → W2.heap[g]? = W1.heap[g]? → Below w0.heap.size w0 W2 → S' W2) (hb : Below w0.heap.size w0 W') (hk : KeepBut W W' g none) : Fr w0 w W' g S' bs os :=
 ⟨hs, h2, keepTr h.keep hk, hb, h.glt, h.g0, h.w0w,
  fun b hb => ⟨(hk.2 b.1 (blk_lt (h.bx b hb).1) (by have := (h.bx b hb).2; have := h.glt; omega) (by simp)).trans (h.bx b hb).1, (h.bx b hb).2⟩,
  fun o ho => ⟨Kd.R_step (h.ow o ho).1 (fun k hk2 hlt => hk.2 k hlt (by have := ((h.ow o ho).2.1 k hk2).1; have := h.glt; omega) (by simp)), fun k hk2 => ⟨((h.ow o ho).2.1 k hk2).1, Nat.lt_of_lt_of_le ((h.ow o ho).2.1 k hk2).2 hk.1⟩, (h.ow o ho).2.2⟩, h.pw, h.bpw⟩
theorem Fr.below (h : Fr w0 w W g S bs os) (hb : Below W.heap.size W W') : Fr w0 w W' g S bs os := by
 have hg : g < W.heap.size := Nat.lt_of_lt_of_le h.glt h.keep.1
 have hl := below_step h.low hb
 exact h.moved (h.stab _ _ h.st (hb.block g hg) hl) h.stab hl (KeepBut.of_below hb g none)
theorem Fr.alloc (h : Fr w0 w W g S bs os) (o : Obj) : Fr w0 w (W.alloc o) g S bs os := h.below (below_alloc (Below.refl _ _) o)
theorem Fr.drew (h : Fr w0 w W g S bs os) : Fr w0 w W.drew g S bs os := h.below (pw_below_drewN (Below.refl _ _) 1)
/-- A variable in memory is made. -/
theorem Fr.box (h : Fr w0 w W g S bs os) {b : Nat} {o : Obj} (hb : W.heap.size ≤ b) (hc : W'.heap[b]? = some o) (hw : Below W.heap.size W W') : Fr w0 w W' g S ((b, o) :: bs) os := by
 have h2 := h.below hw
 refine ⟨h2.st, h2.stab, h2.keep, h2.low, h2.glt, h2.g0, h2.w0w, ?_, ?_, h2.pw, .cons ?_ h2.bpw⟩
 ·intro x hx
  rcases List.mem_cons.1 hx with rfl | hx
  ·exact ⟨hc, Nat.le_trans h.keep.1 hb⟩
  ·exact h2.bx x hx
 ·intro o ho
  refine ⟨(h2.ow o ho).1, (h2.ow o ho).2.1, ?_⟩
  intro x hx
  rcases List.mem_cons.1 hx with rfl | hx
  ·intro hk
   have := ((h.ow o ho).2.1 _ hk).2
   have h3 : b < W.heap.size := this
   omega
  ·exact (h2.ow o ho).2.2 x hx
 ·intro x hx
  have := blk_lt (h.bx x hx).1
  simp only
  omega
/-- Behind a call that hands back a row (a tree's children). -/
theorem Fr.tree (h : Fr w0 w W g S bs os) (h' : Fr w0 w W' g S' bs os) {u : Value} {xs : List Tree} (hr : Kd.R k25 25 W' W.heap.size (fun _ => True) u xs) :
  Fr w0 w W' g S' bs (⟨fun k => W.heap.size ≤ k ∧ k < W'.heap.size, u, xs⟩ :: os) := by
 refine ⟨h'.st, h'.stab, h'.keep, h'.low, h'.glt, h'.g0, h'.w0w, h'.bx, ?_, .cons ?_ h'.pw, h'.bpw⟩
 ·intro o ho
  rcases List.mem_cons.1 ho with rfl | ho
  ·refine ⟨Kd.R_lower (Kd.R_mono (Kd.R_bound hr) (fun k hk => ⟨hk.2.1, hk.2.2.1⟩)) h.keep.1, fun k hk2 => ⟨Nat.le_trans h.keep.1 hk2.1, hk2.2⟩, ?_⟩
   intro b hb hk2
   have := blk_lt (h.bx b hb).1
   exact Nat.not_lt.2 hk2.1 this
  ·exact h'.ow o ho
 ·intro o ho k hk1 hk2
  have := ((h.ow o ho).2.1 k hk2).2
  exact Nat.not_lt.2 hk1.1 this
/-- A store into the first of the variables. -/
theorem Fr.set {b : Nat} {t : TypeId} {cs : Array Value} (h : Fr w0 w W g S (vb b t cs :: bs) os) (i : Nat) (u : Value) {cs' : Array Value} (e : cs.setIfInBounds i u = cs') :
  Fr w0 w (W.setCell ⟨b, i, none⟩ u) g S (vb b t cs' :: bs) os := by
 have hb := h.bx _ (List.mem_cons_self ..)
 have hb2 : w.heap.size ≤ b := hb.2
 have hg : g ≠ b := by have := h.glt; omega
 have ho : ∀ k, k ≠ b → (W.setCell ⟨b, i, none⟩ u).heap[k]? = W.heap[k]? := fun k hk => Below.heap_setCell W _ u k hk
 have hsz : (W.setCell ⟨b, i, none⟩ u).heap.size = W.heap.size := by simp
 have hn := List.pairwise_cons.1 h.bpw
 have hl := below_set (g := b) (j := i) (v := u) h.low (Nat.le_trans h.w0w hb2)
 refine ⟨h.stab _ _ h.st (ho g hg) hl, h.stab, keep_far h.keep hb.2 u, hl, h.glt, h.g0, h.w0w, ?_, ?_, h.pw, List.pairwise_cons.2 ⟨hn.1, hn.2⟩⟩
 ·intro x hx
  rcases List.mem_cons.1 hx with rfl | hx
  ·exact ⟨blk_put hb.1 i u e, hb.2⟩
  ·exact ⟨(ho _ (fun e2 => hn.1 x hx e2.symm)).trans (h.bx x (List.mem_cons_of_mem _ hx)).1, (h.bx x (List.mem_cons_of_mem _ hx)).2⟩
 ·intro o hoo
  have hno : ¬ o.ok b := (h.ow o hoo).2.2 _ (List.mem_cons_self ..)
  refine ⟨Kd.R_step (h.ow o hoo).1 (fun k hk _ => ho k (fun e2 => hno (e2 ▸ hk))), fun k hk => by rw [hsz]; exact (h.ow o hoo).2.1 k hk, ?_⟩
  intro x hx
  rcases List.mem_cons.1 hx with rfl | hx
  ·exact hno
  ·exact (h.ow o hoo).2.2 x (List.mem_cons_of_mem _ hx)
theorem Fr.put3 {b : Nat} {t : TypeId} {x0 x1 x2 : Value} (h : Fr w0 w W g S (vb b t #[x0, x1, x2] :: bs) os) (u0 u1 u2 : Value) :
  Fr w0 w (((W.setCell ⟨b, 0, none⟩ u0).setCell ⟨b, 1, none⟩ u1).setCell ⟨b, 2, none⟩ u2) g S (vb b t #[u0, u1, u2] :: bs) os := ((h.set 0 u0 rfl).set 1 u1 rfl).set 2 u2 rfl
/-- Other variables told: some of these, in whatever order. -/
theorem Fr.pick (h : Fr w0 w W g S bs os) {bs' : List Bx} (hm : ∀ x ∈ bs', x ∈ bs) (hp : bs'.Pairwise fun a b => a.1 ≠ b.1) : Fr w0 w W g S bs' os :=
 ⟨h.st, h.stab, h.keep, h.low, h.glt, h.g0, h.w0w, fun x hx => h.bx x (hm x hx), fun o ho => ⟨(h.ow o ho).1, (h.ow o ho).2.1, fun x hx => (h.ow o ho).2.2 x (hm x hx)⟩, h.pw, hp⟩
theorem Fr.swap {b1 b2 : Bx} (h : Fr w0 w W g S (b1 :: b2 :: bs) os) : Fr w0 w W g S (b2 :: b1 :: bs) os := by
 have hp := List.pairwise_cons.1 h.bpw
 have hp2 := List.pairwise_cons.1 hp.2
 refine h.pick (fun x hx => by simp only [List.mem_cons] at hx ⊢; rcases hx with h | h | h <;> simp [h]) (.cons ?_ (.cons (fun x hx => hp.1 x (List.mem_cons_of_mem _ hx)) hp2.2))
 intro x hx
 rcases List.mem_cons.1 hx with rfl | hx
 ·exact fun e => hp.1 b2 (List.mem_cons_self ..) e.symm
 ·exact hp2.1 x hx
/-- The second variable is forgotten. -/
theorem Fr.forget {b1 b2 : Bx} (h : Fr w0 w W g S (b1 :: b2 :: bs) os) : Fr w0 w W g S (b1 :: bs) os := by
 have hp := List.pairwise_cons.1 h.bpw
 have hp2 := List.pairwise_cons.1 hp.2
 exact h.pick (fun x hx => by simp only [List.mem_cons] at hx ⊢; rcases hx with h | h <;> simp [h]) (.cons (fun x hx => hp.1 x (List.mem_cons_of_mem _ hx)) hp2.2)
theorem Fr.third {b1 b2 b3 : Bx} (h : Fr w0 w W g S (b1 :: b2 :: b3 :: bs) os) : Fr w0 w W g S (b3 :: b1 :: b2 :: bs) os := by
 have hp := List.pairwise_cons.1 h.bpw
 have hp2 := List.pairwise_cons.1 hp.2
 have hp3 := List.pairwise_cons.1 hp2.2
 refine h.pick (fun x hx => by simp only [List.mem_cons] at hx ⊢; rcases hx with h | h | h | h <;> simp [h]) (.cons ?_ (.cons ?_ (.cons ?_ hp3.2)))
 ·intro x hx
  simp only [List.mem_cons] at hx
  rcases hx with rfl | rfl | hx
  ·exact fun e => hp.1 b3 (by simp) e.symm
  ·exact fun e => hp2.1 b3 (by simp) e.symm
  ·exact hp3.1 x hx
 ·intro x hx
  simp only [List.mem_cons] at hx
  rcases hx with rfl | hx
  ·exact hp.1 _ (by simp)
  ·exact hp.1 x (by simp [hx])
 ·exact fun x hx => hp2.1 x (by simp [hx])
/-- The row of no trees. -/
theorem Fr.nil (h : Fr w0 w W g S bs os) : Fr w0 w W g S bs (⟨fun _ => False, nilS, []⟩ :: os) :=
 ⟨h.st, h.stab, h.keep, h.low, h.glt, h.g0, h.w0w, h.bx, fun o ho => by
  rcases List.mem_cons.1 ho with rfl | ho
  ·exact ⟨Kd.R_nil _ _ _ _ _, fun _ hk => hk.elim, fun _ _ hk => hk⟩
  ·exact h.ow o ho, .cons (fun _ _ _ hk => hk.elim) h.pw, h.bpw⟩
theorem Fr.made {o : Ow} (h : Fr w0 w W g S bs (o :: os)) : Kd.R k25 25 W w.heap.size (fun _ => True) o.v o.xs := Kd.R_mono (h.ow o (List.mem_cons_self ..)).1 (fun _ _ => trivial)
theorem lit_R {base : Nat} {xs : List Tree} {inner : List Value} {ok : Nat → Prop} (hrep : Reps (k25.M W base ok) 3 xs inner) (hbase : base ≤ W.heap.size) (hm : xs.length ≤ 9223372036854775807) :
  Kd.R k25 25 (W.alloc (.cells inner.toArray 25)) base (fun k => ok k ∨ k = W.heap.size) (.slice (some ⟨W.heap.size, 0, none⟩) xs.length xs.length) xs := by
 refine ⟨fun k hk => ?_, inner, ?_, ?_⟩
 ·have : W.heap.size = k := by simpa [Value.ownBlock] using hk
  exact .inr this.symm
 ·have h2 := World.ownsRow_lit (base := base) (e := 25) (size := 3) W inner.toArray xs.length hbase (by simpa [maxLen] using hm) (by simpa using hrep.1)
  show World.ownsRow _ _ _ 3 _ _ _
  simpa using h2
 ·refine hrep.imp_ (fun p c hp => k25.M_mono (fun k hk => ⟨.inl hk.1, fun he => ?_⟩) (Kd.M_below (k25.M_bound hp) (below_alloc (Below.refl _ _) _)))
  have h3 : k = W.heap.size := by simpa [Value.ownBlock] using he
  have := hk.2.2.1
  omega
/-- A literal of one tree. -/
theorem Fr.lit1 {x : Ow} (h : Fr w0 w W g S bs (x :: os)) (t : Tree) (ht : t.f2 = x.xs) :
  Fr w0 w (W.alloc (.cells #[.int .i64 t.f0, .string t.f1, x.v] 25)) g S bs (⟨fun i => x.ok i ∨ i = W.heap.size, .slice (some ⟨W.heap.size, 0, none⟩) 1 1, [t]⟩ :: os) := by
 obtain ⟨k, s, kids⟩ := t
 obtain rfl : kids = x.xs := ht
 have h2 := h.alloc (.cells #[.int .i64 k, .string s, x.v] 25)
 have hx := h.ow x (List.mem_cons_self ..)
 have hrep : Reps (k25.M W w.heap.size x.ok) 3 [(⟨k, s, x.xs⟩ : Tree)] [.int .i64 k, .string s, x.v] := Reps.c3 (k25_mkM W w.heap.size x.ok ⟨k, s, x.xs⟩ hx.1) (Reps.none _ _)
 have hp := List.pairwise_cons.1 h.pw
 refine ⟨h2.st, h2.stab, h2.keep, h2.low, h2.glt, h2.g0, h2.w0w, h2.bx, ?_, .cons ?_ hp.2, h2.bpw⟩
 ·intro o ho
  rcases List.mem_cons.1 ho with rfl | ho
  ·refine ⟨lit_R hrep h.keep.1 (by simp), ?_, ?_⟩
   ·rintro i (hi | hi)
    ·exact ⟨(hx.2.1 i hi).1, by have := (hx.2.1 i hi).2; simp; omega⟩
    ·have := h.keep.1
     exact ⟨by omega, by simp; omega⟩
   ·rintro b hb (hi | hi)
    ·exact hx.2.2 b hb hi
    ·have := blk_lt (h.bx b hb).1
     omega
  ·exact h2.ow o (List.mem_cons_of_mem _ ho)
 ·rintro o ho i (hi | hi)
  ·exact hp.1 o ho i hi
  ·intro hk
   have := ((h.ow o (List.mem_cons_of_mem _ ho)).2.1 i hk).2
   omega
/-- A literal of two trees. -/
theorem Fr.lit2 {x y : Ow} (h : Fr w0 w W g S bs (y :: x :: os)) (t t2 : Tree) (ht : t.f2 = x.xs) (ht2 : t2.f2 = y.xs) :
  Fr w0 w (W.alloc (.cells #[.int .i64 t.f0, .string t.f1, x.v, .int .i64 t2.f0, .string t2.f1, y.v] 25)) g S bs (⟨fun i => (x.ok i ∨ y.ok i) ∨ i = W.heap.size, .slice (some ⟨W.heap.size, 0, none⟩) 2 2, [t, t2]⟩ :: os) := by
 obtain ⟨k, s, kids⟩ := t
 obtain rfl : kids = x.xs := ht
 obtain ⟨k2, s2, kids2⟩ := t2
 obtain rfl : kids2 = y.xs := ht2
 have h2 := h.alloc (.cells #[.int .i64 k, .string s, x.v, .int .i64 k2, .string s2, y.v] 25)
 have hy := h.ow y (List.mem_cons_self ..)
 have hx := h.ow x (List.mem_cons_of_mem _ (List.mem_cons_self ..))
 have hrep : Reps (k25.M W w.heap.size (fun i => x.ok i ∨ y.ok i)) 3 [(⟨k, s, x.xs⟩ : Tree), ⟨k2, s2, y.xs⟩] [.int .i64 k, .string s, x.v, .int .i64 k2, .string s2, y.v] :=
  Reps.c3 (k25_mkM W w.heap.size _ ⟨k, s, x.xs⟩ (Kd.R_mono hx.1 (fun _ h => .inl h))) (Reps.c3 (k25_mkM W w.heap.size _ ⟨k2, s2, y.xs⟩ (Kd.R_mono hy.1 (fun _ h => .inr h))) (Reps.none _ _))
 have hp := List.pairwise_cons.1 h.pw
 have hp2 := List.pairwise_cons.1 hp.2
 refine ⟨h2.st, h2.stab, h2.keep, h2.low, h2.glt, h2.g0, h2.w0w, h2.bx, ?_, .cons ?_ hp2.2, h2.bpw⟩
 ·intro o ho
  rcases List.mem_cons.1 ho with rfl | ho
  ·refine ⟨lit_R hrep h.keep.1 (by simp), ?_, ?_⟩
   ·rintro i ((hi | hi) | hi)
    ·exact ⟨(hx.2.1 i hi).1, by have := (hx.2.1 i hi).2; simp; omega⟩
    ·exact ⟨(hy.2.1 i hi).1, by have := (hy.2.1 i hi).2; simp; omega⟩
    ·have := h.keep.1
     exact ⟨by omega, by simp; omega⟩
   ·rintro b hb ((hi | hi) | hi)
    ·exact hx.2.2 b hb hi
    ·exact hy.2.2 b hb hi
    ·have := blk_lt (h.bx b hb).1
     omega
  ·exact h2.ow o (List.mem_cons_of_mem _ (List.mem_cons_of_mem _ ho))
 ·rintro o ho i ((hi | hi) | hi)
  ·exact hp2.1 o ho i hi
  ·exact hp.1 o (List.mem_cons_of_mem _ ho) i hi
  ·intro hk
   have := ((h.ow o (List.mem_cons_of_mem _ (List.mem_cons_of_mem _ ho))).2.1 i hk).2
   omega
/-- What an append of a tree (x: its children's row) to a row (v) leaves. -/
def okApp (W : World) (x v : Ow) : Nat → Prop := fun i => v.ok i ∨ x.ok i ∨ W.heap.size ≤ i
theorem Fr.appended {x v : Ow} (h : Fr w0 w W g S bs (x :: v :: os)) (t : Tree) {v1 : Value} {w1 : World}
  (hr : Kd.R k25 25 w1 w.heap.size (okApp W x v) v1 (v.xs ++ [t])) (hg : W.grownBy w1 v.v.ownBlock) :
  Fr w0 w w1 g S bs (⟨fun i => okApp W x v i ∧ i < w1.heap.size, v1, v.xs ++ [t]⟩ :: os) := by
 have hx := h.ow x (List.mem_cons_self ..)
 have hv := h.ow v (List.mem_cons_of_mem _ (List.mem_cons_self ..))
 have hp := List.pairwise_cons.1 h.pw
 have hp2 := List.pairwise_cons.1 hp.2
 have hvo : ∀ i, v.v.ownBlock = some i → v.ok i := hv.1.1
 have hne : ∀ i, ¬ v.ok i → some i ≠ v.v.ownBlock := fun i hi e => hi (hvo i e.symm)
 have hgn : ¬ v.ok g := fun hi => by have := (hv.2.1 g hi).1; have := h.glt; omega
 have hb0 : Below w0.heap.size w0 w1 := by
  refine ⟨hg.os.trans h.low.os, hg.tape.trans h.low.tape, hg.output.trans h.low.output, Nat.le_trans h.low.size hg.size, fun i hi => ?_⟩
  refine (hg.block i (Nat.lt_of_lt_of_le hi h.low.size) (hne i fun hi2 => ?_)).trans (h.low.block i hi)
  have := (hv.2.1 i hi2).1
  have := h.w0w
  omega
 have hk : KeepBut w w1 g none := ⟨Nat.le_trans h.keep.1 hg.size, fun i hi hig _ => (hg.block i (Nat.lt_of_lt_of_le hi h.keep.1) (hne i fun hi2 => by have := (hv.2.1 i hi2).1; omega)).trans (h.keep.2 i hi hig (by simp))⟩
 have hmv : ∀ i, i < W.heap.size → ¬ v.ok i → w1.heap[i]? = W.heap[i]? := fun i hi hn => hg.block i hi (hne i hn)
 refine ⟨h.stab _ _ h.st (hmv g (Nat.lt_of_lt_of_le h.glt h.keep.1) hgn) hb0, h.stab, hk, hb0, h.glt, h.g0, h.w0w, ?_, ?_, .cons ?_ hp2.2, h.bpw⟩
 ·intro b hb
  exact ⟨(hmv b.1 (blk_lt (h.bx b hb).1) (hv.2.2 b hb)).trans (h.bx b hb).1, (h.bx b hb).2⟩
 ·intro o ho
  rcases List.mem_cons.1 ho with rfl | ho
  ·refine ⟨Kd.R_mono (Kd.R_bound hr) (fun i hi => ⟨hi.1, hi.2.2.1⟩), ?_, ?_⟩
   ·rintro i ⟨hi | hi | hi, hlt⟩
    ·exact ⟨(hv.2.1 i hi).1, hlt⟩
    ·exact ⟨(hx.2.1 i hi).1, hlt⟩
    ·exact ⟨Nat.le_trans h.keep.1 hi, hlt⟩
   ·rintro b hb ⟨hi | hi | hi, _⟩
    ·exact hv.2.2 b hb hi
    ·exact hx.2.2 b hb hi
    ·have := blk_lt (h.bx b hb).1
     omega
  ·have ho2 := h.ow o (List.mem_cons_of_mem _ (List.mem_cons_of_mem _ ho))
   exact ⟨Kd.R_step ho2.1 (fun i hi hlt => hmv i hlt (fun hvi => hp2.1 o ho i hvi hi)), fun i hi => ⟨(ho2.2.1 i hi).1, Nat.lt_of_lt_of_le (ho2.2.1 i hi).2 hg.size⟩, ho2.2.2⟩
 ·rintro o ho i ⟨hi | hi | hi, _⟩
  ·exact hp2.1 o ho i hi
  ·exact hp.1 o (List.mem_cons_of_mem _ ho) i hi
  ·intro hk2
   have := ((h.ow o (List.mem_cons_of_mem _ (List.mem_cons_of_mem _ ho))).2.1 i hk2).2
   omega
theorem Fr.appR {x v : Ow} (h : Fr w0 w W g S bs (x :: v :: os)) : Kd.R k25 25 W w.heap.size (okApp W x v) v.v v.xs := Kd.R_mono (h.ow v (List.mem_cons_of_mem _ (List.mem_cons_self ..))).1 (fun _ h => .inl h)
theorem Fr.appM {x v : Ow} (h : Fr w0 w W g S bs (x :: v :: os)) (t : Tree) (ht : t.f2 = x.xs) : k25.M W w.heap.size x.ok t [.int .i64 t.f0, .string t.f1, x.v] := by
 obtain ⟨k, s, kids⟩ := t
 obtain rfl : kids = x.xs := ht
 exact k25_mkM W w.heap.size x.ok ⟨k, s, x.xs⟩ (h.ow x (List.mem_cons_self ..)).1
theorem Fr.appOk {x v : Ow} (h : Fr w0 w W g S bs (x :: v :: os)) : ∀ i, x.ok i → okApp W x v i ∧ some i ≠ v.v.ownBlock := fun i hi => ⟨.inr (.inl hi), fun e =>
 (List.pairwise_cons.1 h.pw).1 v (List.mem_cons_self ..) i hi ((h.ow v (List.mem_cons_of_mem _ (List.mem_cons_self ..))).1.1 i e.symm)⟩
/-- What lies in the first, the second, the third variable. -/
theorem Fr.b0 {b : Nat} {t : TypeId} {cs : Array Value} (h : Fr w0 w W g S (vb b t cs :: bs) os) : W.heap[b]? = some (.cells cs t (0, 0)) := (h.bx _ (List.mem_cons_self ..)).1
theorem Fr.b1 {b : Nat} {t : TypeId} {cs : Array Value} {x : Bx} (h : Fr w0 w W g S (x :: vb b t cs :: bs) os) : W.heap[b]? = some (.cells cs t (0, 0)) := (h.bx (vb b t cs) (by simp)).1
theorem Fr.o2 {b : Nat} {o : Obj} {x y : Bx} (h : Fr w0 w W g S (x :: y :: (b, o) :: bs) os) : W.heap[b]? = some o := (h.bx (b, o) (by simp)).1
theorem Fr.o3 {b : Nat} {o : Obj} {x y z : Bx} (h : Fr w0 w W g S (x :: y :: z :: (b, o) :: bs) os) : W.heap[b]? = some o := (h.bx (b, o) (by simp)).1
/-- A tree's three cells. -/
theorem rd3 {b : Nat} {t : TypeId} {x y z : Value} (h : W.heap[b]? = some (.cells #[x, y, z] t (0, 0))) : W.cell? ⟨b, 0, none⟩ = some x ∧ W.cell? ⟨b, 1, none⟩ = some y ∧ W.cell? ⟨b, 2, none⟩ = some z :=
 ⟨(blk_cell h 0).trans rfl, (blk_cell h 1).trans rfl, (blk_cell h 2).trans rfl⟩
theorem fz3 {b : Nat} {t : TypeId} {cs : Array Value} (h : W.heap[b]? = some (.cells cs t (0, 0))) : W.frozen? ⟨b, 0, none⟩ = false ∧ W.frozen? ⟨b, 1, none⟩ = false ∧ W.frozen? ⟨b, 2, none⟩ = false :=
 ⟨blk_frozen h 0, blk_frozen h 1, blk_frozen h 2⟩
end
end Go.Proofs.YtbndfgoklgdfdaaGreatDoor.P

namespace Go.Proofs.YtbndfgoklgdfdaaGreatDoor.P
open Go.RowKit Go.Proofs.YtbndfgoklgdfdaaGreatDoorW.PrintWords Go.Proofs.YtbndfgoklgdfdaaGreatDoorW.PrintLast Go.Proofs.YtbndfgoklgdfdaaGreatDoorW.PrintMore
section
variable {w0 w W W' : World} {g : Nat} {S S' : World → Prop} {bs : List Bx} {os : List Ow} {ops : Array Oper} {rest : List Oper} {o : Oper} {a : Act} {Q : Exit → Act → World → Prop}
/-- A variable in memory is made (N: its place). -/
theorem ev_box {N : Tmp} {t : TypeId} {cs : Array Value} (HF : Hid (Fr w0 w W g S bs os)) (hd : o.dst = some N) (hgd : o.guard = none)
  (hrun : (execOp a.eval o).run Tryz.prog W = .ok (.value (.pointer (some ⟨W.heap.size, 0, none⟩))) (W.alloc (.cells cs t (0, 0))))
  (h : ∀ b W', Hid (Fr w0 w W' g S (vb b t cs :: bs) os) → wpList Tryz.prog ops Q rest (a.put (some N) (.pointer (some ⟨b, 0, none⟩))) W') : wpList Tryz.prog ops Q (o :: rest) a W :=
 Kd.event_run hgd hrun (by rw [hd]; exact h _ _ (Lib.hid (HF.out.box (Nat.le_refl _) (blk_new W _) (below_alloc (Below.refl _ _) _))))
theorem st_box {N : Tmp} {t : TypeId} {cs : Array Value} {K : Act → World → Prop} (HF : Hid (Fr w0 w W g S bs os)) (hw : Region.wanted o (yielded ops a.tmps) = true) (hd : o.dst = some N)
  (hrun : (execOp a.eval o).run Tryz.prog W = .ok (.value (.pointer (some ⟨W.heap.size, 0, none⟩))) (W.alloc (.cells cs t (0, 0))))
  (h : ∀ b W', Below W.heap.size W W' → Hid (Fr w0 w W' g S (vb b t cs :: bs) os) → K (a.put (some N) (.pointer (some ⟨b, 0, none⟩))) W') : if Region.wanted o (yielded ops a.tmps) = true then Oper.wp Tryz.prog o a W K Q else K (a.put o.dst undef) W := by
 rw [if_pos hw]
 unfold Oper.wp
 rw [hrun]
 show K (a.put o.dst _) _
 rw [hd]
 exact h _ _ (below_alloc (Below.refl _ _) _) (Lib.hid (HF.out.box (Nat.le_refl _) (blk_new W _) (below_alloc (Below.refl _ _) _)))
theorem run_node (ho : o.op = .alloc 25) : (execOp a.eval o).run Tryz.prog W = .ok (.value (.pointer (some ⟨W.heap.size, 0, none⟩))) (W.alloc (.cells zN 25 (0, 0))) := by
 unfold execOp
 rw [ho]
 first | (go_simp; done) | (go_simp; rfl)
theorem there3 {b : Nat} {t : TypeId} {x y z : Value} (h : W.heap[b]? = some (.cells #[x, y, z] t (0, 0))) : W.there b 0 3 := fun j hj => by
 obtain ⟨c0, c1, c2⟩ := rd3 h
 obtain ⟨f0, f1, f2⟩ := fz3 h
 match j, hj with
 | 0, _ => exact ⟨by rw [show 0 + 0 = 0 from rfl, c0]; rfl, f0⟩
 | 1, _ => exact ⟨by rw [show 0 + 1 = 1 from rfl, c1]; rfl, f1⟩
 | 2, _ => exact ⟨by rw [show 0 + 2 = 2 from rfl, c2]; rfl, f2⟩
theorem there2 {b : Nat} {t : TypeId} {x y : Value} (h : W.heap[b]? = some (.cells #[x, y] t (0, 0))) : W.there b 0 2 := fun j hj => by
 match j, hj with
 | 0, _ => exact ⟨by rw [show 0 + 0 = 0 from rfl, blk_cell h 0]; rfl, blk_frozen h 0⟩
 | 1, _ => exact ⟨by rw [show 0 + 1 = 1 from rfl, blk_cell h 1]; rfl, blk_frozen h 1⟩
theorem st_put2 {p : Tmp} {v : Operand} {b : Nat} {t : TypeId} {x0 x1 u0 u1 : Value} {K : Act → World → Prop} (HF : Hid (Fr w0 w W g S (vb b t #[x0, x1] :: bs) os)) (hw : Region.wanted o (yielded ops a.tmps) = true) (ho : o.op = .store t (.tmp p) v) (hd : o.dst = none)
  (hi : (Tryz.prog.info? t).map (·.size) = some 2) (hp : a.eval (.tmp p) = .pointer (some ⟨b, 0, none⟩)) (hv : a.eval v = .agg #[u0, u1]) (h1 : [u0, u1].all (·.oneCell') = true)
  (h : ∀ W', Hid (Fr w0 w W' g S (vb b t #[u0, u1] :: bs) os) → K a W') : if Region.wanted o (yielded ops a.tmps) = true then Oper.wp Tryz.prog o a W K Q else K (a.put o.dst undef) W := by
 rw [if_pos hw]
 refine wp_store_mid t (.tmp p) v ho b 0 #[u0, u1] hp hv (there2 HF.out.b0) hi (by simpa using h1) ?_
 rw [hd]
 exact h _ (Lib.hid ((HF.out.set 0 u0 rfl).set 1 u1 rfl))
/-- A tree into the first variable. -/
theorem ev_put {p : Tmp} {v : Operand} {b : Nat} {t : TypeId} {x0 x1 x2 u0 u1 u2 : Value} (HF : Hid (Fr w0 w W g S (vb b t #[x0, x1, x2] :: bs) os)) (ho : o.op = .store t (.tmp p) v) (hd : o.dst = none) (hgd : o.guard = none)
  (hi : (Tryz.prog.info? t).map (·.size) = some 3) (hp : a.eval (.tmp p) = .pointer (some ⟨b, 0, none⟩)) (hv : a.eval v = .agg #[u0, u1, u2]) (h1 : [u0, u1, u2].all (·.oneCell') = true)
  (h : ∀ W', Hid (Fr w0 w W' g S (vb b t #[u0, u1, u2] :: bs) os) → wpList Tryz.prog ops Q rest a W') : wpList Tryz.prog ops Q (o :: rest) a W := by
 refine wpList_store_mid hgd t (.tmp p) v ho b 0 #[u0, u1, u2] hp hv (there3 HF.out.b0) hi (by simpa using h1) ?_
 rw [hd]
 exact h _ (Lib.hid (HF.out.put3 u0 u1 u2))
/-- The same in a region that draws. -/
theorem st_put {p : Tmp} {v : Operand} {b : Nat} {t : TypeId} {x0 x1 x2 u0 u1 u2 : Value} {K : Act → World → Prop} (HF : Hid (Fr w0 w W g S (vb b t #[x0, x1, x2] :: bs) os)) (hw : Region.wanted o (yielded ops a.tmps) = true) (ho : o.op = .store t (.tmp p) v) (hd : o.dst = none)
  (hi : (Tryz.prog.info? t).map (·.size) = some 3) (hp : a.eval (.tmp p) = .pointer (some ⟨b, 0, none⟩)) (hv : a.eval v = .agg #[u0, u1, u2]) (h1 : [u0, u1, u2].all (·.oneCell') = true)
  (h : ∀ W', Hid (Fr w0 w W' g S (vb b t #[u0, u1, u2] :: bs) os) → K a W') : if Region.wanted o (yielded ops a.tmps) = true then Oper.wp Tryz.prog o a W K Q else K (a.put o.dst undef) W := by
 rw [if_pos hw]
 refine wp_store_mid t (.tmp p) v ho b 0 #[u0, u1, u2] hp hv (there3 HF.out.b0) hi (by simpa using h1) ?_
 rw [hd]
 exact h _ (Lib.hid (HF.out.put3 u0 u1 u2))
theorem run_cell {t : TypeId} {p v : Operand} {b i : Nat} {x u : Value} (ho : o.op = .store t p v) (hp : a.eval p = .pointer (some ⟨b, i, none⟩)) (hv : a.eval v = u) (hi : (Tryz.prog.info? t).map (·.size) = some 1) (h1 : (∃ A n c, u = .slice A n c) ∨ ∃ z, u = .int .i64 z) (hc : W.cell? ⟨b, i, none⟩ = some x) (hf : W.frozen? ⟨b, i, none⟩ = false) :
  (execOp a.eval o).run Tryz.prog W = .ok .skip (W.setCell ⟨b, i, none⟩ u) := by
 have hsz : (sizeOf t).run Tryz.prog W = .ok 1 W := by
  cases hq : Tryz.prog.info? t with
  | none => simp [hq] at hi
  | some j =>
   have hs : j.size = 1 := by simpa [hq] using hi
   simp [sizeOf, Sem.run_bind, typeInfo, hq, hs]
 unfold execOp
 rw [ho]
 simp only [hp, hv]
 rcases h1 with ⟨A, n, c, rfl⟩ | ⟨z, rfl⟩
 ·go_simp
  first | done | (simp [hsz]; first | done | go_simp)
 ·go_simp
  first | done | (simp [hsz]; first | done | go_simp)
/-- A cell (that is no struct) of the first variable. -/
theorem ev_cell {p : Tmp} {v : Operand} {b i : Nat} {t tb : TypeId} {cs cs' : Array Value} {x u : Value} (HF : Hid (Fr w0 w W g S (vb b tb cs :: bs) os)) (ho : o.op = .store t (.tmp p) v) (hd : o.dst = none) (hgd : o.guard = none)
  (hi : (Tryz.prog.info? t).map (·.size) = some 1) (hp : a.eval (.tmp p) = .pointer (some ⟨b, i, none⟩)) (hv : a.eval v = u) (h1 : (∃ A n c, u = .slice A n c) ∨ ∃ z, u = .int .i64 z) (hx : cs[i]? = some x) (hcs : cs.setIfInBounds i u = cs')
  (h : ∀ W', Hid (Fr w0 w W' g S (vb b tb cs' :: bs) os) → wpList Tryz.prog ops Q rest a W') : wpList Tryz.prog ops Q (o :: rest) a W := by
 refine wpList_plain hgd fun K hK => ?_
 unfold Oper.wp
 rw [run_cell ho hp hv hi h1 ((blk_cell HF.out.b0 i).trans hx) (blk_frozen HF.out.b0 i)]
 show K (a.put o.dst undef) _
 rw [hd]
 exact hK _ _ (h _ (Lib.hid (HF.out.set i u hcs)))
theorem st_cell {p : Tmp} {v : Operand} {b i : Nat} {t tb : TypeId} {cs cs' : Array Value} {x u : Value} {K : Act → World → Prop} (HF : Hid (Fr w0 w W g S (vb b tb cs :: bs) os)) (hw : Region.wanted o (yielded ops a.tmps) = true) (ho : o.op = .store t (.tmp p) v) (hd : o.dst = none)
  (hi : (Tryz.prog.info? t).map (·.size) = some 1) (hp : a.eval (.tmp p) = .pointer (some ⟨b, i, none⟩)) (hv : a.eval v = u) (h1 : (∃ A n c, u = .slice A n c) ∨ ∃ z, u = .int .i64 z) (hx : cs[i]? = some x) (hcs : cs.setIfInBounds i u = cs')
  (h : ∀ W', Hid (Fr w0 w W' g S (vb b tb cs' :: bs) os) → K a W') : if Region.wanted o (yielded ops a.tmps) = true then Oper.wp Tryz.prog o a W K Q else K (a.put o.dst undef) W := by
 rw [if_pos hw]
 unfold Oper.wp
 rw [run_cell ho hp hv hi h1 ((blk_cell HF.out.b0 i).trans hx) (blk_frozen HF.out.b0 i)]
 show K (a.put o.dst undef) _
 rw [hd]
 exact h _ (Lib.hid (HF.out.set i u hcs))
/-- append(the row, a tree), behind 'at_builtin'. -/
theorem ev_app {x v : Ow} {s y : Operand} (t : Tree) (ht : t.f2 = x.xs) (HF : Hid (Fr w0 w W g S bs (x :: v :: os))) (hgd : o.guard = none) (ho : o.op = .call { callee := .builtin .append, args := #[s, y], argTypes := #[23, 23] })
  (hs : a.eval s = v.v) (hy : a.eval y = .slice (some ⟨W.heap.size, 0, none⟩) 1 1) (hl : v.xs.length ≤ 6000)
  (h : ∀ A c W' ok, Hid (Fr w0 w W' g S bs (⟨ok, .slice A (v.xs ++ [t]).length c, v.xs ++ [t]⟩ :: os)) → wpList Tryz.prog ops Q rest (a.put o.dst (.slice A (v.xs ++ [t]).length c)) W') :
  wpList Tryz.prog ops Q (o :: rest) a (W.alloc (.cells #[.int .i64 t.f0, .string t.f1, x.v] 25)) := by
 refine Kd.R_append k25 w.heap.size hgd s y 23 25 (.agg zN) 48 ho Tryz.underlying23 info25 rfl (by decide) (by omega) v.v v.xs t [.int .i64 t.f0, .string t.f1, x.v] (okApp W x v) x.ok hs hy (HF.out.appM t ht) HF.out.appOk (fun _ h => .inr (.inr h)) HF.out.appR (Below.refl _ _) HF.out.keep.1 (by omega) ?_
 intro v1 w1 hr _ hg _
 have h2 := HF.out.appended t hr hg
 obtain ⟨A, c, rfl⟩ := Kd.R_slice hr
 exact h A c w1 _ (Lib.hid h2)
theorem st_app {x v : Ow} {s y : Operand} {K : Act → World → Prop} (t : Tree) (ht : t.f2 = x.xs) (HF : Hid (Fr w0 w W g S bs (x :: v :: os))) (hw : Region.wanted o (yielded ops a.tmps) = true) (ho : o.op = .call { callee := .builtin .append, args := #[s, y], argTypes := #[23, 23] })
  (hs : a.eval s = v.v) (hy : a.eval y = .slice (some ⟨W.heap.size, 0, none⟩) 1 1) (hl : v.xs.length ≤ 6000)
  (h : ∀ A c W' ok, Hid (Fr w0 w W' g S bs (⟨ok, .slice A (v.xs ++ [t]).length c, v.xs ++ [t]⟩ :: os)) → K (a.put o.dst (.slice A (v.xs ++ [t]).length c)) W') :
  if Region.wanted o (yielded ops a.tmps) = true then Oper.wp Tryz.prog o a (W.alloc (.cells #[.int .i64 t.f0, .string t.f1, x.v] 25)) K Q else K (a.put o.dst undef) (W.alloc (.cells #[.int .i64 t.f0, .string t.f1, x.v] 25)) := by
 refine Kd.R_append_step k25 w.heap.size hw s y 23 25 (.agg zN) 48 ho Tryz.underlying23 info25 rfl (by decide) (by omega) v.v v.xs t [.int .i64 t.f0, .string t.f1, x.v] (okApp W x v) x.ok hs hy (HF.out.appM t ht) HF.out.appOk (fun _ h => .inr (.inr h)) HF.out.appR (Below.refl _ _) HF.out.keep.1 (by omega) ?_
 intro v1 w1 hr _ hg _
 have h2 := HF.out.appended t hr hg
 obtain ⟨A, c, rfl⟩ := Kd.R_slice hr
 exact h A c w1 _ (Lib.hid h2)
end
end Go.Proofs.YtbndfgoklgdfdaaGreatDoor.P
end
