/- The names that occur free: plain words; slices.Contains at strings; what is asked of the rounds. append of a name to s[:n:n]: a new row, ever. syntax's tests on trees: binders, terms (printed by mkchk.py). syntax's tests on trees: terms (printed by mkchk2.py). syntax's printer: its builder as a thing in memory; writing a string. syntax's printer: what a method writes; parentheses. -/
import Derived.Test.YtbndfgoklgdfdaaGreatDoorSe05
import Derived.Test.YtbndfgoklgdfdaaGreatDoorSe04
import Derived.Test.YtbndfgoklgdfdaaGreatDoorSe08
import Derived.Test.YtbndfgoklgdfdaaGreatDoorSe06
import Derived.RangeFuncNested
import Derived.RangeFuncBound
import Derived.RangeFuncCalls
import Derived.RangeFuncLeaves
import Derived.OwnWalkIn
import Derived.TacticsInMore
import Derived.LoopNIn
import Derived.LoopIn
import Derived.Deep.RegionLawGrows
import Derived.Lib.AppendStr
import Derived.Lib.Builder
import Derived.Lib.UnsafeStr
import Derived.Laws.Externs
import Derived.Shelf.Abstract
set_option linter.all false
section
set_option linter.unusedSimpArgs false
namespace Go.Proofs.YtbndfgoklgdfdaaGreatDoor.P
open Go.RowKit Go.Proofs.YtbndfgoklgdfdaaGreatDoorW.PrintWords Go.Proofs.YtbndfgoklgdfdaaGreatDoorW.PrintLast Go.Proofs.YtbndfgoklgdfdaaGreatDoorW.PrintMore
/-- Does a string stand in a list? -/
def hasB (l : List ByteArray) (s : ByteArray) : Bool := l.any fun x => x.data.toList == s.data.toList
theorem toList_eq (a : ByteArray) : a.toList = a.data.toList := Lib.toList_data a
theorem index_f (l : List ByteArray) (a : ByteArray) (hl : l.length ≤ 9223372036854775807) : ∀ d j, d + j = l.length → ∃ r : Int, slices_Index_string_string.l0 (d + 1) l a l.length j = some r ∧ decide (r ≥ 0) = hasB (l.drop j) a
 | 0, j, hd => by
  refine ⟨-1, ?_, ?_⟩
  ·rw [slices_Index_string_string.l0, if_neg (by omega)]
  ·rw [List.drop_of_length_le (by omega)]; rfl
 | d + 1, j, hd => by
  have hj : j < l.length := by omega
  have hr : rdOf ByteArray.empty l (j : Int) = l[j] := by
   unfold rdOf
   rw [Int.toNat_natCast, List.getD_eq_getElem?_getD, List.getElem?_eq_getElem hj]; rfl
  have hdr : l.drop j = l[j] :: l.drop (j + 1) := List.drop_eq_getElem_cons hj
  rw [slices_Index_string_string.l0, if_pos (by omega), if_pos (by omega), if_pos (by omega), hr, hdr]
  by_cases h : a.toList = l[j].toList
  ·rw [if_pos h]
   refine ⟨j, rfl, ?_⟩
   have h2 : l[j].data.toList == a.data.toList := by rw [← toList_eq, ← toList_eq, h]; simp
   unfold hasB
   rw [List.any_cons, h2]
   simp
  ·rw [if_neg h]
   have hw : wrap64 ((j : Int) + 1) = ((j + 1 : Nat) : Int) := by unfold wrap64; omega
   obtain ⟨r, h1, h2⟩ := index_f l a hl d (j + 1) (by omega)
   refine ⟨r, by rw [hw]; exact h1, ?_⟩
   have h3 : (l[j].data.toList == a.data.toList) = false := by
    rw [← toList_eq, ← toList_eq]
    exact beq_eq_false_iff_ne.2 (fun e => h e.symm)
   rw [h2]
   unfold hasB
   rw [List.any_cons, h3]
   rfl
theorem contains_on (l : List ByteArray) (s : ByteArray) (A : Option Addr) (c : Nat) (w : World) (hc : l.length ≤ c) (hC : Kd.C Kd.string w A l.length l) :
  Calls Tryz.prog 101 #[.slice A l.length c, .string s] w fun e w' => e = .returned (.bool (hasB l s)) ∧ Drawn0 w w' := by
 obtain ⟨r, h1, h2⟩ := index_f l s hC.2.1 l.length 0 rfl
 refine slices_Contains_string_string.calls (l.length + 1) A c l s (hasB l s) w hC hc ?_
 unfold slices_Contains_string_string.f slices_Index_string_string.f
 have h1' : slices_Index_string_string.l0 (l.length + 1) l s (l.length : Int) 0 = some r := h1
 rw [h1', Option.bind_some, h2]
 rfl
/-- s[:n:n]. -/
theorem cut_hm {P : Program} (t e : TypeId) (kh km : IntKind) {i : TypeInfo} (ht : P.underlying t = some (.slice e)) (hi : P.info? e = some i) (A : Option Addr) (n c : Nat) (hc : n ≤ c) :
  ∀ W : World, (Instr.slice t (.slice A n c) none (some (.int kh n)) (some (.int km n))).run P W = .ok (.slice A n n) W := by
 intro W
 have hel : P.elem t = e := by simp [Program.elem, ht]
 have hu : P.underlying t = some (.slice (P.elem t)) := by rw [hel]; exact ht
 have ha : (A.map fun x => x.add 0) = A := by cases A <;> simp [Addr.add]
 rw [run_slice_hm W t A n c hu kh km n n (by omega) (by omega) (by omega), hel]
 simp [sizeOf, typeInfo, hi, sliced, Result.andThen, ha]
theorem Fz.mem {w W : World} {ts : List Th} {t : Th} (h : Fz w W ts) (ht : t ∈ ts) : t.holds W := (h.th t ht).1
/-- A list of names lies in memory, in one of the things. -/
def Ar (ts : List Th) (ar : List ByteArray) (A : Option Addr) (c : Nat) : Prop := ar.length ≤ c ∧ (A = none → ar.length = 0 ∧ c = 0) ∧ ∃ t ∈ ts, ∀ W, t.holds W → Kd.C Kd.string W A ar.length ar
theorem Ar.more {ts ts' : List Th} {ar : List ByteArray} {A : Option Addr} {c : Nat} (h : Ar ts ar A c) (hs : ∀ t ∈ ts, t ∈ ts') : Ar ts' ar A c := by
 obtain ⟨h1, h2, t, ht, h3⟩ := h
 exact ⟨h1, h2, t, hs t ht, h3⟩
theorem Ar.C {w W : World} {ts ts' : List Th} {ar : List ByteArray} {A : Option Addr} {c : Nat} (h : Ar ts ar A c) (hF : Fz w W ts') (hs : ∀ t ∈ ts, t ∈ ts') : Kd.C Kd.string W A ar.length ar := by
 obtain ⟨_, _, t, ht, h3⟩ := h
 exact h3 W (hF.mem (hs t ht))
def nameK (k : Int) : Bool := k == 15 || k == 16
def bindK (k : Int) : Bool := k == 17 || k == 18 || k == 19
theorem isBinder_on (x : Tree) (A : Option Addr) (c : Nat) (w : World) : Calls Tryz.prog 138 #[.agg #[.int .i64 x.f0, .string x.f1, .slice A x.f2.length c]] w fun e w' => e = .returned (.bool (bindK x.f0)) ∧ Below w.heap.size w w' := by
 unfold bindK
 cases h1 : (x.f0 == 17) <;> cases h2 : (x.f0 == 18) <;> cases h3 : (x.f0 == 19)
 all_goals
  go_enter Tryz.func138, Tryz.ntmps138
  go_wp2_with ((with_reducible refine gate_dst (N := 1) rfl ?_); refine ev_tree (x := x) (A := A) (c := c) rfl rfl rfl rfl ?_; intro b w1 HX; obtain ⟨qa, qb, qc⟩ := rd3 HX.out.at_)
  go_ret
  exact ⟨rfl, HX.out.below⟩
section
variable {σ : Type} (st : σ → Tree → List ByteArray → σ × Bool)
mutual
/-- The names that occur free, one after the other: what is known turns at each; where a round says so the walk stops. -/
def visT : Tree → List ByteArray → σ → σ × Bool
 | ⟨k, s, l⟩, ar, z =>
  if k = 7 then (z, true) else
  let r := if nameK k = true ∧ hasB ar s = false then st z ⟨k, s, l⟩ ar else (z, true)
  if r.2 = true then visL (bindK k) s l ar r.1 else (r.1, false)
def visL : Bool → ByteArray → List Tree → List ByteArray → σ → σ × Bool
 | _, _, [], _, z => (z, true)
 | b, s, x :: l, ar, z =>
  let r := visT x (if b = true ∧ l.isEmpty = true then ar ++ [s] else ar) z
  if r.2 = true then visL b s l ar r.1 else (r.1, false)
end
theorem vis_mu (μ : σ → Nat) (h : ∀ z x ar, μ (st z x ar).1 ≤ μ z + 1) : ∀ (n : Nat),
  (∀ (x : Tree) (ar : List ByteArray) (z : σ), SizeOf.sizeOf x < n → μ (visT st x ar z).1 ≤ μ z + ndT x) ∧ (∀ (b : Bool) (s : ByteArray) (l : List Tree) (ar : List ByteArray) (z : σ), SizeOf.sizeOf l < n → μ (visL st b s l ar z).1 ≤ μ z + ndL l)
 | 0 => ⟨fun _ _ _ h => absurd h (Nat.not_lt_zero _), fun _ _ _ _ _ h => absurd h (Nat.not_lt_zero _)⟩
 | n + 1 => by
  obtain ⟨ih1, ih2⟩ := vis_mu μ h n
  refine ⟨?_, ?_⟩
  ·rintro ⟨k, s, l⟩ ar z hn
   rw [visT, ndT]
   split
   ·dsimp only; omega
   dsimp only
   have h1 : μ (if nameK k = true ∧ hasB ar s = false then st z ⟨k, s, l⟩ ar else (z, true)).1 ≤ μ z + 1 := by
    split
    ·exact h _ _ _
    ·exact Nat.le_succ _
   obtain ⟨r1, hr1⟩ : ∃ r1, (if nameK k = true ∧ hasB ar s = false then st z ⟨k, s, l⟩ ar else (z, true)) = r1 := ⟨_, rfl⟩
   rw [hr1] at h1 ⊢
   by_cases h2 : r1.2 = true
   ·rw [if_pos h2]
    have := ih2 (bindK k) s l ar r1.1 (by simp at hn; omega)
    omega
   ·rw [if_neg h2]
    show μ r1.1 ≤ _
    omega
  ·intro b s l ar z hn
   cases l with
   | nil => simp [visL, ndL]
   | cons x l =>
    rw [visL, ndL]
    have h1 := ih1 x (if b = true ∧ l.isEmpty = true then ar ++ [s] else ar) z (by simp at hn; omega)
    obtain ⟨r1, hr1⟩ : ∃ r1, visT st x (if b = true ∧ l.isEmpty = true then ar ++ [s] else ar) z = r1 := ⟨_, rfl⟩
    rw [hr1] at h1 ⊢
    by_cases h2 : r1.2 = true
    ·rw [if_pos h2]
     have := ih2 b s l ar r1.1 (by simp at hn; omega)
     omega
    ·rw [if_neg h2]
     show μ r1.1 ≤ _
     omega
theorem visT_mu (μ : σ → Nat) (h : ∀ z x ar, μ (st z x ar).1 ≤ μ z + 1) (x : Tree) (ar : List ByteArray) (z : σ) : μ (visT st x ar z).1 ≤ μ z + ndT x := (vis_mu st μ h _).1 x ar z (Nat.lt_succ_self _)
/-- WHAT A ROUND PROMISES. -/
def RoundW (μ : σ → Nat) (B : Nat) (lb : Nat) (w : World) (Q : σ → (Nat → Prop) → Th) (tF : Th) : Prop :=
 ∀ (m : Nat) (W : World) (ts : List Th) (z : σ) (ok : Nat → Prop) (x : Tree) (A : Option Addr) (c : Nat) (ar : List ByteArray) (Aa : Option Addr) (ca : Nat), μ z < B → tF ∈ ts → x.f2.length ≤ c → Kd.C k25 w A x.f2.length x.f2 → Ar ts ar Aa ca → Hid (Fz w W (Q z ok :: ts)) →
  YieldAt Fence.wide m Tryz.prog lb #[.agg #[.int .i64 x.f0, .string x.f1, .slice A x.f2.length c, .slice Aa ar.length ca]] W fun e W' => e = .returned (.bool (st z x ar).2) ∧ ∃ ok', Hid (Fz w W' (Q (st z x ar).1 ok' :: ts))
abbrev yT (b2 lb : Nat) : Th := vT b2 136 #[.func (.yield lb) #[] #[]]
abbrev fT (b2 b3 : Nat) : Th := vT b3 137 #[.func (.func 137) #[] #[.pointer (some ⟨b2, 0, none⟩), .pointer (some ⟨b3, 0, none⟩)]]
/-- visit at a tree. -/
def VisW (μ : σ → Nat) (B : Nat) (lb b2 b3 : Nat) (w : World) (Q : σ → (Nat → Prop) → Th) (tF : Th) (x : Tree) (m : Nat) : Prop :=
 ∀ (W : World) (ts : List Th) (z : σ) (ok : Nat → Prop) (A : Option Addr) (c : Nat) (ar : List ByteArray) (Aa : Option Addr) (ca : Nat), μ z + ndT x ≤ B → tF ∈ ts → yT b2 lb ∈ ts → fT b2 b3 ∈ ts → x.f2.length ≤ c → Kd.C k25 w A x.f2.length x.f2 → ar.length + m ≤ 100 → Ar ts ar Aa ca → Hid (Fz w W (Q z ok :: ts)) →
  Calls Tryz.prog 137 #[.agg (tN x A c), .slice Aa ar.length ca, .pointer (some ⟨b2, 0, none⟩), .pointer (some ⟨b3, 0, none⟩)] W fun e W' => e = .returned (.bool (visT st x ar z).2) ∧ ∃ ok', Hid (Fz w W' (Q (visT st x ar z).1 ok' :: ts))
end
end Go.Proofs.YtbndfgoklgdfdaaGreatDoor.P
end
section
set_option linter.unusedSimpArgs false
namespace Go.Proofs.YtbndfgoklgdfdaaGreatDoor.P
open Go.RowKit Go.Proofs.YtbndfgoklgdfdaaGreatDoorW.PrintWords Go.Proofs.YtbndfgoklgdfdaaGreatDoorW.PrintLast Go.Proofs.YtbndfgoklgdfdaaGreatDoorW.PrintMore
theorem repsB (w : World) (base : Nat) (ok : Nat → Prop) (l : List ByteArray) : Reps (Kd.string.M w base ok) 1 l (l.map Value.string) := by
 refine ⟨by simp, fun j p h => ?_⟩
 show ((l.map Value.string).drop (j * 1)).take 1 = [Value.string p]
 obtain ⟨hj, h2⟩ := List.getElem?_eq_some_iff.1 h
 rw [Nat.mul_one, List.drop_eq_getElem_cons (by simpa using hj)]
 simp [h2]
theorem own_R {W : World} {B : Nat} {v : Value} {l : List ByteArray} (h : W.ownsRow B 9 1 v l.length (l.map Value.string)) : Kd.R Kd.string 9 W B (fun _ => True) v l :=
 ⟨fun _ _ => trivial, _, h, repsB _ _ _ _⟩
theorem C_cells {W : World} {A : Option Addr} {l : List ByteArray} (h : Kd.C Kd.string W A l.length l) : ∀ b, A = some b → ∀ j u, (l.map Value.string)[j]? = some u → W.cell? (b.add j) = some u := by
 intro b hb j u hu
 rw [List.getElem?_map] at hu
 obtain ⟨p, hp, rfl⟩ := Option.map_eq_some_iff.1 hu
 have hj : j < l.length := (List.getElem?_eq_some_iff.1 hp).1
 obtain ⟨ad, e, hc⟩ := h.2.2 (by omega)
 obtain rfl : ad = b := Option.some.inj (e.symm.trans hb)
 obtain ⟨c, _, hr, hcell⟩ := hc j p hp
 have hr2 : c = [Value.string p] := hr
 subst hr2
 have h2 := hcell 0 _ rfl
 rw [show j * Kd.string.sz + 0 = j from by show j * 1 + 0 = j; omega] at h2
 exact h2
set_option maxHeartbeats 1000000 in
theorem zs_appstr {w W : World} {ts ts0 : List Th} {ar : List ByteArray} {Aa : Option Addr} {ca : Nat} {s : ByteArray} {ops : Array Oper} {o : Oper} {a : Act} {sl y : Operand} {K : Act → World → Prop} {Q : Exit → Act → World → Prop} (hA : Ar ts0 ar Aa ca) (hsub : ∀ t ∈ ts0, t ∈ ts) (hl : ar.length ≤ 100) (HF : Hid (Fz w W ts)) (hg : o.guard = none)
  (ho : o.op = .call { callee := .builtin .append, args := #[sl, y], argTypes := #[49, 49] }) (hs : a.eval sl = .slice Aa ar.length ar.length) (hy : a.eval y = .slice (some ⟨W.heap.size, 0, none⟩) 1 1)
  (h : ∀ A c W' ok, Hid (Fz w W' (rT Kd.string 9 w.heap.size ok (.slice A (ar ++ [s]).length c) (ar ++ [s]) :: ts)) → K (a.put o.dst (.slice A (ar ++ [s]).length c)) W') :
  if Region.wanted o (yielded ops a.tmps) = true then Oper.wp Tryz.prog o a (W.alloc (.cells #[.string s] 9)) K Q else K (a.put o.dst undef) (W.alloc (.cells #[.string s] 9)) := by
 have hC := hA.C HF.out hsub
 have hb0 : Below W.heap.size W (W.alloc (.cells #[.string s] 9)) := below_alloc (Below.refl _ _) _
 have hC2 := Kd.C_below hC hb0
 obtain ⟨i0, hi0, hz, hsz, hby⟩ := info_parts info9
 refine step_append_grows hg sl y 49 ho 9 i0 (.string ⟨#[]⟩) 1 16 Tryz.underlying49 hi0 hz hsz hby rfl (by decide) Aa ar.length ar.length (ar.map Value.string) hs (fun h0 => ⟨(hA.2.1 h0).1, (hA.2.1 h0).1⟩) (by simp) (C_cells hC2) ⟨W.heap.size, 0, none⟩ 1 1 [.string s] hy rfl ?_ ?_ (by omega) (by unfold maxLen; omega) (by omega) ?_
 ·intro j u hu
  have hnew : (W.alloc (.cells #[.string s] 9)).heap[W.heap.size]? = some (.cells #[.string s] 9) := Go.heap_alloc_new W _
  match j, hu with
  | 0, hu =>
   obtain rfl : Value.string s = u := by simpa using hu
   rw [show (⟨W.heap.size, 0, none⟩ : Addr).add 0 = ⟨W.heap.size, 0, none⟩ from by unfold Addr.add; simp]
   unfold World.cell?
   rw [hnew]; rfl
 ·intro u hu
  rw [List.mem_singleton.1 hu]; rfl
 ·intro v' w' hown hgr
  have hb1 : Below W.heap.size W w' := pw_below_grown hb0 none (by simp) hgr (by simp)
  have hR : Kd.R Kd.string 9 w' (W.alloc (.cells #[.string s] 9)).heap.size (fun _ => True) v' (ar ++ [s]) := own_R (by simpa using hown)
  obtain ⟨A, c, rfl⟩ := Kd.R_slice hR
  have h2 := HF.out.row hb1 (by simp) hR
  exact h A c w' _ (Lib.hid h2)
/-- The row that was made, as a list of names in memory. -/
theorem Ar.made {ts : List Th} {ar : List ByteArray} {s : ByteArray} {A : Option Addr} {c base : Nat} {ok : Nat → Prop} {w W : World} (hF : Fz w W (rT Kd.string 9 base ok (.slice A (ar ++ [s]).length c) (ar ++ [s]) :: ts)) : Ar [rT Kd.string 9 base ok (.slice A (ar ++ [s]).length c) (ar ++ [s])] (ar ++ [s]) A c := by
 obtain ⟨_, h1, h2⟩ := Kd.R_reads' (show Kd.R Kd.string 9 W base ok (.slice A (ar ++ [s]).length c) (ar ++ [s]) from hF.b0)
 refine ⟨h1, fun h => ?_, _, List.mem_cons_self .., fun W h => (Kd.R_reads' (show Kd.R Kd.string 9 W base ok (.slice A (ar ++ [s]).length c) (ar ++ [s]) from h)).2.2⟩
 obtain ⟨ad, e, _⟩ := h2.2.2 (by simp)
 rw [h] at e; cases e
end Go.Proofs.YtbndfgoklgdfdaaGreatDoor.P
end
section
set_option linter.unusedSimpArgs false
namespace Go.Proofs.YtbndfgoklgdfdaaGreatDoor.P
open Go.RowKit Go.Proofs.YtbndfgoklgdfdaaGreatDoorW.PrintWords Go.Proofs.YtbndfgoklgdfdaaGreatDoorW.PrintLast Go.Proofs.YtbndfgoklgdfdaaGreatDoorW.PrintMore
def bindsB (p : S25 → Bool) (x : S25) : Bool := (nameB x.f1 || varB x.f1) && match x.f2 with
 | [y] => p y
 | [t, y] => isTypeT t && p y
 | _ => false
theorem addr_add0 (a : Addr) : a.add 0 = a := by unfold Addr.add; simp
theorem addr_add3 (a : Addr) : a.add 3 = ⟨a.block, a.off + 3, none⟩ := by unfold Addr.add; simp
/-- The cells of a child. -/
theorem kid_at {w : World} {l : List S25} {A : Option Addr} (hC : Kd.C k25 w A l.length l) (i : Nat) (hi : i < l.length) (y : S25) (hy : l[i]? = some y) : ∃ a A2 c2, A = some a ∧ w.cell? (a.add (i * 3)) = some (.int .i64 y.f0) ∧
  w.cell? ⟨(a.add (i * 3)).block, (a.add (i * 3)).off + 1, none⟩ = some (.string y.f1) ∧ w.cell? ⟨(a.add (i * 3)).block, (a.add (i * 3)).off + 2, none⟩ = some (.slice A2 y.f2.length c2) ∧ y.f2.length ≤ c2 ∧ Kd.C k25 w A2 y.f2.length y.f2 := by
 obtain ⟨a, A2, c2, e0, p0, p1, p2, hl2, hc2⟩ := at_T25 hC i (by omega) (by omega)
 have e : rd_T25 l i = y := by unfold rd_T25; rw [Int.toNat_natCast, List.getD_eq_getElem?_getD, hy]; rfl
 rw [e] at p0 p1 p2 hl2 hc2
 rw [Int.toNat_natCast] at p0 p1 p2
 exact ⟨a, A2, c2, e0, p0, p1, p2, hl2, hc2⟩

set_option maxRecDepth 100000 in
set_option maxHeartbeats 4000000 in
theorem binds_on (F : FuncId) (hF : Enters Tryz.prog F) (p : S25 → Bool) (x : S25) (hz : szT x = true) (ih : ∀ y ∈ x.f2, IsOn F p y) (A : Option Addr) (c : Nat) (w : World) (hc : x.f2.length ≤ c) (hC : Kd.C k25 w A x.f2.length x.f2) :
  Calls Tryz.prog 116 #[.agg #[.int .i64 x.f0, .string x.f1, .slice A x.f2.length c], .func (.func F) #[] #[]] w fun e w' => e = .returned (.bool (bindsB p x)) ∧ Below w.heap.size w w' := by
 have hcf_ : ∀ (args : Array Value) (w : World), (callFunc F args).run Tryz.prog w = .ok (.enter F args) w := hF
 have HIH := Lib.hid ih
 have HT : Hid (∀ y ∈ x.f2, IsOn 64 isTypeT y) := Lib.hid fun y hy => isType_on _ y (Nat.lt_succ_self _) (szT_mem hz hy)
 have HZ := Lib.hid (szT_name hz)
 have HC := Lib.hid hC
 have HCC := Lib.hid hc
 have HE : Hid (bindsB p x = ((nameB x.f1 || varB x.f1) && match x.f2 with | [y] => p y | [t, y] => isTypeT t && p y | _ => false)) := Lib.hid rfl
 clear ih hC hc hz hF
 cases h1 : (nameB x.f1 || varB x.f1)
 ·have HE2 : Hid (bindsB p x = false) := Lib.hid (by rw [HE.out]; simp only [*, Bool.true_or, Bool.false_or, Bool.false_and, Bool.true_and])
  clear HE
  go_enter Tryz.func116, Tryz.ntmps116
  go_wp2_with (first
   | ((with_reducible refine gate_dst (N := 2) rfl ?_); refine ev_tree (x := x) (A := A) (c := c) rfl rfl rfl rfl ?_; intro b w1_ HX; obtain ⟨qa_, qb_, qc_⟩ := rd3 HX.out.at_)
   | (go_at_call 145; refine (syntax_isName.calls x.f1 _ _ (isNameS_f x.f1 HZ.out)).mono ?_; rintro e w4_ ⟨rfl, hb_⟩; clear qa_ qb_ qc_; have HX2_ := Lib.hid (HX.out.call hb_); clear HX hb_; have HX := HX2_; clear HX2_; obtain ⟨qa_, qb_, qc_⟩ := rd3 HX.out.at_; rw [h1]))
  go_ret
  exact ⟨by rw [HE2.out]; first | rfl | (simp only [*]; rfl) | (simp [*]; done), HX.out.below⟩
 ·obtain ⟨l2, hx⟩ : ∃ l2, x.f2 = l2 := ⟨_, rfl⟩
  rcases l2 with _ | ⟨y, _ | ⟨t, _ | ⟨z, l⟩⟩⟩
  ·have hl : (x.f2.length : Int) = 0 := by rw [hx]; simp
   have HE1 : Hid (bindsB p x = ((nameB x.f1 || varB x.f1) && false)) := Lib.hid (by rw [HE.out, hx])
   clear HE hx
   have HE := HE1
   clear HE1
   have HE2 : Hid (bindsB p x = false) := Lib.hid (by rw [HE.out]; simp only [*, Bool.true_or, Bool.false_or, Bool.false_and, Bool.true_and])
   clear HE
   go_enter Tryz.func116, Tryz.ntmps116
   go_wp2_with (first
    | ((with_reducible refine gate_dst (N := 2) rfl ?_); refine ev_tree (x := x) (A := A) (c := c) rfl rfl rfl rfl ?_; intro b w1_ HX; obtain ⟨qa_, qb_, qc_⟩ := rd3 HX.out.at_)
    | (go_at_call 145; refine (syntax_isName.calls x.f1 _ _ (isNameS_f x.f1 HZ.out)).mono ?_; rintro e w4_ ⟨rfl, hb_⟩; clear qa_ qb_ qc_; have HX2_ := Lib.hid (HX.out.call hb_); clear HX hb_; have HX := HX2_; clear HX2_; obtain ⟨qa_, qb_, qc_⟩ := rd3 HX.out.at_; rw [h1]))
   go_ret
   exact ⟨by rw [HE2.out]; first | rfl | (simp only [*]; rfl) | (simp [*]; done), HX.out.below⟩
  ·have hl : (x.f2.length : Int) = 1 := by rw [hx]; simp
   have HPB := Lib.hid (HIH.out y (by rw [hx]; simp))
   obtain ⟨a0B, AB, cB, e0B, p0, p1, p2, hl2, hc2⟩ := kid_at HC.out 0 (by omega) y (by rw [hx]; rfl)
   try simp only [Nat.zero_mul, Nat.one_mul, addr_add0, addr_add3] at p0 p1 p2
   have KPB := Lib.hid (And.intro p0 (And.intro p1 p2))
   have HLB := Lib.hid hl2
   have HKB := Lib.hid hc2
   clear p0 p1 p2 hl2 hc2
   subst e0B
   have HE1 : Hid (bindsB p x = ((nameB x.f1 || varB x.f1) && p y)) := Lib.hid (by rw [HE.out, hx])
   clear HE hx
   have HE := HE1
   clear HE1
   have HE2 : Hid (bindsB p x = p y) := Lib.hid (by rw [HE.out]; simp only [*, Bool.true_or, Bool.false_or, Bool.false_and, Bool.true_and])
   clear HE
   go_enter Tryz.func116, Tryz.ntmps116
   go_wp2_with (first
    | ((with_reducible refine gate_dst (N := 2) rfl ?_); refine ev_tree (x := x) (A := some a0B) (c := c) rfl rfl rfl rfl ?_; intro b w1_ HX; obtain ⟨qa_, qb_, qc_⟩ := rd3 HX.out.at_)
    | (go_at_call 145; refine (syntax_isName.calls x.f1 _ _ (isNameS_f x.f1 HZ.out)).mono ?_; rintro e w4_ ⟨rfl, hb_⟩; clear qa_ qb_ qc_; have HX2_ := Lib.hid (HX.out.call hb_); clear HX hb_; have HX := HX2_; clear HX2_; obtain ⟨qa_, qb_, qc_⟩ := rd3 HX.out.at_; rw [h1]; obtain ⟨k0B, k1B, k2B⟩ : _ ∧ _ ∧ _ := ⟨pw_cell_below HX.out.below KPB.out.1, pw_cell_below HX.out.below KPB.out.2.1, pw_cell_below HX.out.below KPB.out.2.2⟩)
    | (refine (HPB.out AB cB _ HLB.out (Kd.C_below HKB.out HX.out.below)).mono ?_; rintro e w5_ ⟨rfl, hb_⟩; clear qa_ qb_ qc_ k0B k1B k2B; have HX2_ := Lib.hid (HX.out.call hb_); clear HX hb_; have HX := HX2_; clear HX2_; obtain ⟨qa_, qb_, qc_⟩ := rd3 HX.out.at_))
   go_ret
   exact ⟨by rw [HE2.out]; first | rfl | (simp only [*]; rfl) | (simp [*]; done), HX.out.below⟩
  ·have hl : (x.f2.length : Int) = 2 := by rw [hx]; simp
   have HPT := Lib.hid (HT.out y (by rw [hx]; simp))
   obtain ⟨a0T, AT, cT, e0T, p0, p1, p2, hl2, hc2⟩ := kid_at HC.out 0 (by omega) y (by rw [hx]; rfl)
   try simp only [Nat.zero_mul, Nat.one_mul, addr_add0, addr_add3] at p0 p1 p2
   have KPT := Lib.hid (And.intro p0 (And.intro p1 p2))
   have HLT := Lib.hid hl2
   have HKT := Lib.hid hc2
   clear p0 p1 p2 hl2 hc2
   have HPB := Lib.hid (HIH.out t (by rw [hx]; simp))
   obtain ⟨a0B, AB, cB, e0B, p0, p1, p2, hl2, hc2⟩ := kid_at HC.out 1 (by omega) t (by rw [hx]; rfl)
   try simp only [Nat.zero_mul, Nat.one_mul, addr_add0, addr_add3] at p0 p1 p2
   have KPB := Lib.hid (And.intro p0 (And.intro p1 p2))
   have HLB := Lib.hid hl2
   have HKB := Lib.hid hc2
   clear p0 p1 p2 hl2 hc2
   subst e0T
   have e1B : a0T = a0B := Option.some.inj e0B
   clear e0B
   subst a0T
   have HE1 : Hid (bindsB p x = ((nameB x.f1 || varB x.f1) && (isTypeT y && p t))) := Lib.hid (by rw [HE.out, hx])
   clear HE hx
   have HE := HE1
   clear HE1
   cases h2 : isTypeT y
   ·have HE2 : Hid (bindsB p x = false) := Lib.hid (by rw [HE.out]; simp only [*, Bool.true_or, Bool.false_or, Bool.false_and, Bool.true_and])
    clear HE
    go_enter Tryz.func116, Tryz.ntmps116
    go_wp2_with (first
     | ((with_reducible refine gate_dst (N := 2) rfl ?_); refine ev_tree (x := x) (A := some a0B) (c := c) rfl rfl rfl rfl ?_; intro b w1_ HX; obtain ⟨qa_, qb_, qc_⟩ := rd3 HX.out.at_)
     | (go_at_call 145; refine (syntax_isName.calls x.f1 _ _ (isNameS_f x.f1 HZ.out)).mono ?_; rintro e w4_ ⟨rfl, hb_⟩; clear qa_ qb_ qc_; have HX2_ := Lib.hid (HX.out.call hb_); clear HX hb_; have HX := HX2_; clear HX2_; obtain ⟨qa_, qb_, qc_⟩ := rd3 HX.out.at_; rw [h1]; obtain ⟨k0T, k1T, k2T⟩ : _ ∧ _ ∧ _ := ⟨pw_cell_below HX.out.below KPT.out.1, pw_cell_below HX.out.below KPT.out.2.1, pw_cell_below HX.out.below KPT.out.2.2⟩; obtain ⟨k0B, k1B, k2B⟩ : _ ∧ _ ∧ _ := ⟨pw_cell_below HX.out.below KPB.out.1, pw_cell_below HX.out.below KPB.out.2.1, pw_cell_below HX.out.below KPB.out.2.2⟩)
     | (go_at_call 64; refine (HPT.out AT cT _ HLT.out (Kd.C_below HKT.out HX.out.below)).mono ?_; rintro e w6_ ⟨rfl, hb_⟩; clear qa_ qb_ qc_ k0T k1T k2T k0B k1B k2B; have HX2_ := Lib.hid (HX.out.call hb_); clear HX hb_; have HX := HX2_; clear HX2_; obtain ⟨qa_, qb_, qc_⟩ := rd3 HX.out.at_; obtain ⟨k0T, k1T, k2T⟩ : _ ∧ _ ∧ _ := ⟨pw_cell_below HX.out.below KPT.out.1, pw_cell_below HX.out.below KPT.out.2.1, pw_cell_below HX.out.below KPT.out.2.2⟩; obtain ⟨k0B, k1B, k2B⟩ : _ ∧ _ ∧ _ := ⟨pw_cell_below HX.out.below KPB.out.1, pw_cell_below HX.out.below KPB.out.2.1, pw_cell_below HX.out.below KPB.out.2.2⟩; (first | rw [h2] | skip)))
    go_ret
    exact ⟨by rw [HE2.out]; first | rfl | (simp only [*]; rfl) | (simp [*]; done), HX.out.below⟩
   ·have HE2 : Hid (bindsB p x = p t) := Lib.hid (by rw [HE.out]; simp only [*, Bool.true_or, Bool.false_or, Bool.false_and, Bool.true_and])
    clear HE
    go_enter Tryz.func116, Tryz.ntmps116
    go_wp2_with (first
     | ((with_reducible refine gate_dst (N := 2) rfl ?_); refine ev_tree (x := x) (A := some a0B) (c := c) rfl rfl rfl rfl ?_; intro b w1_ HX; obtain ⟨qa_, qb_, qc_⟩ := rd3 HX.out.at_)
     | (go_at_call 145; refine (syntax_isName.calls x.f1 _ _ (isNameS_f x.f1 HZ.out)).mono ?_; rintro e w4_ ⟨rfl, hb_⟩; clear qa_ qb_ qc_; have HX2_ := Lib.hid (HX.out.call hb_); clear HX hb_; have HX := HX2_; clear HX2_; obtain ⟨qa_, qb_, qc_⟩ := rd3 HX.out.at_; rw [h1]; obtain ⟨k0T, k1T, k2T⟩ : _ ∧ _ ∧ _ := ⟨pw_cell_below HX.out.below KPT.out.1, pw_cell_below HX.out.below KPT.out.2.1, pw_cell_below HX.out.below KPT.out.2.2⟩; obtain ⟨k0B, k1B, k2B⟩ : _ ∧ _ ∧ _ := ⟨pw_cell_below HX.out.below KPB.out.1, pw_cell_below HX.out.below KPB.out.2.1, pw_cell_below HX.out.below KPB.out.2.2⟩)
     | (go_at_call 64; refine (HPT.out AT cT _ HLT.out (Kd.C_below HKT.out HX.out.below)).mono ?_; rintro e w6_ ⟨rfl, hb_⟩; clear qa_ qb_ qc_ k0T k1T k2T k0B k1B k2B; have HX2_ := Lib.hid (HX.out.call hb_); clear HX hb_; have HX := HX2_; clear HX2_; obtain ⟨qa_, qb_, qc_⟩ := rd3 HX.out.at_; obtain ⟨k0T, k1T, k2T⟩ : _ ∧ _ ∧ _ := ⟨pw_cell_below HX.out.below KPT.out.1, pw_cell_below HX.out.below KPT.out.2.1, pw_cell_below HX.out.below KPT.out.2.2⟩; obtain ⟨k0B, k1B, k2B⟩ : _ ∧ _ ∧ _ := ⟨pw_cell_below HX.out.below KPB.out.1, pw_cell_below HX.out.below KPB.out.2.1, pw_cell_below HX.out.below KPB.out.2.2⟩; (first | rw [h2] | skip))
     | (refine (HPB.out AB cB _ HLB.out (Kd.C_below HKB.out HX.out.below)).mono ?_; rintro e w5_ ⟨rfl, hb_⟩; clear qa_ qb_ qc_ k0T k1T k2T k0B k1B k2B; have HX2_ := Lib.hid (HX.out.call hb_); clear HX hb_; have HX := HX2_; clear HX2_; obtain ⟨qa_, qb_, qc_⟩ := rd3 HX.out.at_))
    go_ret
    exact ⟨by rw [HE2.out]; first | rfl | (simp only [*]; rfl) | (simp [*]; done), HX.out.below⟩
  ·have hl : (x.f2.length : Int) = (l.length : Int) + 1 + 1 + 1 := by rw [hx]; simp
   have HE1 : Hid (bindsB p x = ((nameB x.f1 || varB x.f1) && false)) := Lib.hid (by rw [HE.out, hx])
   clear HE hx
   have HE := HE1
   clear HE1
   have hl1 : ((l.length : Int) + 1 + 1 + 1 == 1) = false := beq_eq_false_iff_ne.2 (by omega)
   have hl2 : ((l.length : Int) + 1 + 1 + 1 == 2) = false := beq_eq_false_iff_ne.2 (by omega)
   have HE2 : Hid (bindsB p x = false) := Lib.hid (by rw [HE.out]; simp only [*, Bool.true_or, Bool.false_or, Bool.false_and, Bool.true_and])
   clear HE
   go_enter Tryz.func116, Tryz.ntmps116
   go_wp2_with (first
    | ((with_reducible refine gate_dst (N := 2) rfl ?_); refine ev_tree (x := x) (A := A) (c := c) rfl rfl rfl rfl ?_; intro b w1_ HX; obtain ⟨qa_, qb_, qc_⟩ := rd3 HX.out.at_)
    | (go_at_call 145; refine (syntax_isName.calls x.f1 _ _ (isNameS_f x.f1 HZ.out)).mono ?_; rintro e w4_ ⟨rfl, hb_⟩; clear qa_ qb_ qc_; have HX2_ := Lib.hid (HX.out.call hb_); clear HX hb_; have HX := HX2_; clear HX2_; obtain ⟨qa_, qb_, qc_⟩ := rd3 HX.out.at_; rw [h1]))
   go_ret
   exact ⟨by rw [HE2.out]; first | rfl | (simp only [*]; rfl) | (simp [*]; done), HX.out.below⟩
end Go.Proofs.YtbndfgoklgdfdaaGreatDoor.P
end
section
set_option linter.unusedSimpArgs false
namespace Go.Proofs.YtbndfgoklgdfdaaGreatDoor.P
open Go.RowKit Go.Proofs.YtbndfgoklgdfdaaGreatDoorW.PrintWords Go.Proofs.YtbndfgoklgdfdaaGreatDoorW.PrintLast Go.Proofs.YtbndfgoklgdfdaaGreatDoorW.PrintMore
def headB : List Tree → Bool
 | [_] => true
 | [t, _] => isTypeT t
 | _ => false
def lastB (p : Tree → Bool) : List Tree → Bool
 | [] => false
 | [y] => p y
 | _ :: z :: l => lastB p (z :: l)
theorem bindsB_eq (p : Tree → Bool) (k : Int) (s : ByteArray) (l : List Tree) : bindsB p ⟨k, s, l⟩ = ((nameB s || varB s) && (headB l && lastB p l)) := by
 unfold bindsB headB
 rcases l with _ | ⟨a, _ | ⟨b, _ | ⟨c, l⟩⟩⟩ <;> simp [lastB]
def sizeF (k : Int) : Int := if k = 20 ∨ k = 21 then 0 else if k = 29 ∨ k = 30 then 1 else if k = 22 ∨ k = 23 ∨ k = 24 ∨ k = 25 ∨ k = 26 ∨ k = 27 ∨ k = 28 then 2 else -1
mutual
def isTermT : Tree → Bool
 | ⟨k, s, l⟩ => if k = 15 then nameB s && (decide ((l.length : Int) ≤ 8) && isTermL l) else if k = 16 then varB s && (decide ((l.length : Int) ≤ 8) && isTermL l) else if k = 17 then (nameB s || varB s) && (headB l && isTermE l) else false
def isTermL : List Tree → Bool
 | [] => true
 | x :: l => isTermT x && isTermL l
def isTermE : List Tree → Bool
 | [] => false
 | x :: l => if l.isEmpty then isTermT x else isTermE l
end
theorem isTermL_all : ∀ l, isTermL l = l.all isTermT
 | [] => rfl
 | x :: l => by simp only [isTermL, List.all_cons, isTermL_all l]
theorem isTermE_last : ∀ l, isTermE l = lastB isTermT l
 | [] => rfl
 | [x] => by simp [isTermE, lastB]
 | x :: y :: l => by have := isTermE_last (y :: l); rw [lastB, ← this, isTermE]; rfl
theorem isTermT_eq (k : Int) (s : ByteArray) (l : List Tree) : isTermT ⟨k, s, l⟩ = if k = 15 then nameB s && (decide ((l.length : Int) ≤ 8) && l.all isTermT) else if k = 16 then varB s && (decide ((l.length : Int) ≤ 8) && l.all isTermT) else if k = 17 then bindsB isTermT ⟨k, s, l⟩ else false := by
 simp only [isTermT, isTermL_all, isTermE_last, bindsB_eq]
mutual
def isFormT : Tree → Bool
 | ⟨k, s, l⟩ => if k = 15 then isTermT ⟨k, s, l⟩ else if k = 18 ∨ k = 19 then (nameB s || varB s) && (headB l && isFormE l) else s.toList == [] && ((l.length : Int) == sizeF k && isFormL l)
def isFormL : List Tree → Bool
 | [] => true
 | x :: l => isFormT x && isFormL l
def isFormE : List Tree → Bool
 | [] => false
 | x :: l => if l.isEmpty then isFormT x else isFormE l
end
theorem isFormL_all : ∀ l, isFormL l = l.all isFormT
 | [] => rfl
 | x :: l => by simp only [isFormL, List.all_cons, isFormL_all l]
theorem isFormE_last : ∀ l, isFormE l = lastB isFormT l
 | [] => rfl
 | [x] => by simp [isFormE, lastB]
 | x :: y :: l => by have := isFormE_last (y :: l); rw [lastB, ← this, isFormE]; rfl
theorem isFormT_eq (k : Int) (s : ByteArray) (l : List Tree) : isFormT ⟨k, s, l⟩ = if k = 15 then isTermT ⟨k, s, l⟩ else if k = 18 ∨ k = 19 then bindsB isFormT ⟨k, s, l⟩ else s.toList == [] && ((l.length : Int) == sizeF k && l.all isFormT) := by
 simp only [isFormT, isFormL_all, isFormE_last, bindsB_eq]
theorem enters_isTerm : Enters Tryz.prog 65 := enters_of Tryz.func65 (by kernel_rfl) rfl
theorem enters_isForm : Enters Tryz.prog 66 := enters_of Tryz.func66 (by kernel_rfl) rfl
set_option maxRecDepth 100000 in
set_option maxHeartbeats 16000000 in
theorem isTerm_on : ∀ (n : Nat) (x : Tree), SizeOf.sizeOf x < n → szT x = true → IsOn 65 isTermT x
 | 0, x, h, _ => absurd h (Nat.not_lt_zero _)
 | n + 1, x, hn_, hz => by
  intro A c w hc hC
  have HIH : Hid (∀ y ∈ x.f2, IsOn 65 isTermT y) := Lib.hid fun y hy => isTerm_on n y (by have := kid_lt hy; omega) (szT_mem hz hy)
  have HZT := Lib.hid hz
  have HC := Lib.hid hC
  have HCC := Lib.hid hc
  clear hC hc hz
  obtain ⟨k, s, l⟩ := x
  have HZ : Hid (s.size ≤ strMax) := Lib.hid (szT_name HZT.out)
  have HE := Lib.hid (isTermT_eq k s l)
  clear hn_
  have key : ∀ (k : Int) (n : Bool) (z : Bool) (m : Int), k = 15 ∧ n = false ∨ k = 15 ∧ n = true ∧ ¬ m ≤ 8 ∨ k = 15 ∧ n = true ∧ m ≤ 8 ∨ k = 16 ∧ z = false ∨ k = 16 ∧ z = true ∧ ¬ m ≤ 8 ∨ k = 16 ∧ z = true ∧ m ≤ 8 ∨ k = 17 ∨ (k == 15) = false ∧ k ≠ 15 ∧ (k == 16) = false ∧ k ≠ 16 ∧ (k == 17) = false ∧ k ≠ 17 := by
   intro k n z m
   by_cases y15 : k = 15
   ·skip
    subst y15
    cases n <;> cases z <;> simp <;> omega
   by_cases y16 : k = 16
   ·clear y15
    subst y16
    cases n <;> cases z <;> simp <;> omega
   by_cases y17 : k = 17
   ·clear y15 y16
    subst y17
    cases n <;> cases z <;> simp <;> omega
   cases n <;> cases z <;> simp [y15, y16, y17]
  rcases key k (nameB s) (varB s) (l.length : Int) with ⟨rfl, hn⟩ | ⟨rfl, hn, hm⟩ | ⟨rfl, hn, hm⟩ | ⟨rfl, hv⟩ | ⟨rfl, hv, hm⟩ | ⟨rfl, hv, hm⟩ | rfl | ⟨g15, q15, g16, q16, g17, q17⟩
  all_goals
   go_enter Tryz.func65, Tryz.ntmps65
   go_wp2_with (first
    | ((with_reducible refine gate_dst (N := 1) rfl ?_); refine ev_tree (x := ⟨_, s, l⟩) (A := A) (c := c) rfl rfl rfl rfl ?_; intro b w1_ HX; obtain ⟨qa_, qb_, qc_⟩ := rd3 HX.out.at_; try dsimp only at qa_ qb_ qc_)
    | (go_at_call 113; refine (lex_IsName.calls s _ _ (isName_f s HZ.out)).mono ?_; rintro e w2_ ⟨rfl, hb_⟩; clear qa_ qb_ qc_; have HX2_ := Lib.hid (HX.out.call hb_); clear HX hb_; have HX := HX2_; clear HX2_; obtain ⟨qa_, qb_, qc_⟩ := rd3 HX.out.at_; try dsimp only at qa_ qb_ qc_; (first | rw [hn] | skip))
    | (go_at_call 115; refine (lex_IsVar.calls s _ _ (isVar_f s HZ.out)).mono ?_; rintro e w2_ ⟨rfl, hb_⟩; clear qa_ qb_ qc_; have HX2_ := Lib.hid (HX.out.call hb_); clear HX hb_; have HX := HX2_; clear HX2_; obtain ⟨qa_, qb_, qc_⟩ := rd3 HX.out.at_; try dsimp only at qa_ qb_ qc_; (first | rw [hv] | skip))
    | (go_at_call 62; refine (every_on _ enters_isTerm isTermT l HIH.out A c _ (HX.out.C HC.out)).mono ?_; rintro e w2_ ⟨rfl, hb_⟩; clear qa_ qb_ qc_; have HX2_ := Lib.hid (HX.out.call hb_); clear HX hb_; have HX := HX2_; clear HX2_; obtain ⟨qa_, qb_, qc_⟩ := rd3 HX.out.at_; try dsimp only at qa_ qb_ qc_)
    | (go_at_call 116; refine (binds_on _ enters_isTerm isTermT ⟨_, s, l⟩ HZT.out HIH.out A c _ HCC.out (HX.out.C HC.out)).mono ?_; rintro e w2_ ⟨rfl, hb_⟩; clear qa_ qb_ qc_; have HX2_ := Lib.hid (HX.out.call hb_); clear HX hb_; have HX := HX2_; clear HX2_; obtain ⟨qa_, qb_, qc_⟩ := rd3 HX.out.at_; try dsimp only at qa_ qb_ qc_))
   go_ret
   exact ⟨by rw [HE.out]; first | (simp [*]; done) | (simp [*]; intro h_; omega), HX.out.below⟩
end Go.Proofs.YtbndfgoklgdfdaaGreatDoor.P
end
section
set_option linter.unusedSimpArgs false
namespace Go.Proofs.YtbndfgoklgdfdaaGreatDoor.P
open Go.RowKit Go.Proofs.YtbndfgoklgdfdaaGreatDoorW.PrintWords Go.Proofs.YtbndfgoklgdfdaaGreatDoorW.PrintLast Go.Proofs.YtbndfgoklgdfdaaGreatDoorW.PrintMore

/-- A printer's block, and the row of bytes that it has written. -/
def prT (g base : Nat) (ok : Nat → Prop) (bs : List UInt8) : Th where
 ok := fun k => k = g ∨ ok k
 holds := fun W => ∃ p v, (p = .pointer none ∨ p = .pointer (some ⟨g, 0, none⟩)) ∧ W.heap[g]? = some (.cells #[p, v] 105 (0, 0)) ∧ W.ownsRow base 5 1 v bs.length (Lib.byteCells bs) ∧ (∀ k, v.ownBlock = some k → ok k) ∧ ¬ ok g
 stab := by
  rintro W W' ⟨p, v, hp, hg, ho, hk, hn⟩ h
  exact ⟨p, v, hp, (h g (.inl rfl) (blk_lt hg)).trans hg, own_move ho (fun k hkk => h k (.inr (hk k hkk)) (ho.lt k hkk).2), hk, hn⟩

section
variable {P : Program} (w : World)
/-- append(bytes, string...): and where the new row lies. -/
theorem append_str_at (base : Nat) (t u ty e : TypeId) (i : TypeInfo) (ht : P.underlying t = some (.slice e)) (hu : P.underlying u = some .string) (hi : P.info? e = some i) (hz : i.zero = some (.int .u8 0)) (hsize : i.size = 1) (hby : i.bytes = 1)
  (v : Value) (n : Nat) (xs : List Value) (hown : w.ownsRow base e 1 v n xs) (s : ByteArray) (hbytes : n + s.size ≤ 140737488355328) (hbase : base ≤ w.heap.size) :
  ∃ v' w', (Builtin.append_ #[t, u] ty #[v, .string s]).run P w = .ok v' w' ∧ w'.ownsRow base e 1 v' (n + s.size) (xs ++ Lib.strCells s) ∧ w.grownBy w' v.ownBlock ∧ (v'.ownBlock = v.ownBlock ∨ ∃ k, v'.ownBlock = some k ∧ w.heap.size ≤ k) := by
 obtain ⟨v', w', hr, ho, hg, _⟩ := Lib.run_append_own_string (P := P) w base t u ty e i ht hu hi hz hsize hby v n xs hown s (by simp only [maxLen]; omega) hbytes hbase
 refine ⟨v', w', hr, ho, hg, ?_⟩
 have hxl : xs.length = n := by simpa using hown.1
 rcases hown.2 with ⟨rfl, rfl⟩ | ⟨g, cap, cur, rfl, hbg, hgc, hnc, hcm, hcs, htake⟩
 ·have hx : xs = [] := List.eq_nil_of_length_eq_zero hxl
  subst hx
  obtain ⟨v2, w2, hr2, ho2, _, _⟩ := Lib.run_append_own_string (P := P) w w.heap.size t u ty e i ht hu hi hz hsize hby (.slice none 0 0) 0 [] (World.ownsRow_nil w _ e 1) s (by simp only [maxLen]; omega) hbytes (Nat.le_refl _)
  have he := hr.symm.trans hr2
  injection he with e1 e2
  subst e1
  cases hob : v'.ownBlock with
  | none => exact .inl rfl
  | some k => exact .inr ⟨k, rfl, (ho2.lt k hob).1⟩
 ·have hcur : cur.size = cap := by simpa using hcs
  by_cases hroom : n + s.size ≤ cap
  ·have hr2 := Lib.run_append_room_string (P := P) w t u ty e i ht hu hi hsize g n cap cur hgc s hroom (by omega)
   have he := hr.symm.trans hr2
   injection he with e1 e2
   subst e1
   exact .inl rfl
  ·have holds : ∀ j u, xs[j]? = some u → w.cell? ((⟨g, 0, none⟩ : Addr).add j) = some u := hown.cells (g := g) rfl
   have hr2 := Lib.run_append_grow_string (P := P) w t u ty e i (.int .u8 0) ht hu hi hz ⟨g, 0, none⟩ n cap xs (by rw [hsize]; simpa using hxl) holds s (by omega) (by omega) (by rw [hby]; exact growslice_fits (by omega) (by omega))
   have he := hr.symm.trans hr2
   injection he with e1 e2
   subst e1
   exact .inr ⟨_, rfl, Nat.le_refl _⟩
end
set_option maxHeartbeats 1000000 in
set_option maxRecDepth 100000 in
theorem cc_fresh (g : Nat) (w : World) (h0 : w.cell? ⟨g, 0, none⟩ = some (.pointer none)) (hsh : w.shape? g = some (105, 2)) (hfz : w.frozen? ⟨g, 0, none⟩ = false) :
  Calls Tryz.prog 128 #[.pointer (some ⟨g, 0, none⟩)] w fun e w' => e = .returned (.tuple #[]) ∧ w' = w.setCell ⟨g, 0, none⟩ (.pointer (some ⟨g, 0, none⟩)) := by
 have hx : ((Tryz.prog).info? 103).map (·.size) = some 2 := by kernel_rfl
 obtain ⟨j, hj, hjs⟩ := Option.map_eq_some_iff.1 hx
 go_enter Tryz.func128, Tryz.ntmps128
 go_wp2_with fail
 rw [Lib.run_to_unsafe w ⟨g, 0, none⟩ Tryz.underlying101 Tryz.underlying146 hj (by rw [hjs]; decide) hsh (Nat.zero_lt_succ 1)]
 simp only [Result.andThen]
 rw [Oper.upon_value]
 go_wp2_with fail
 rw [run_callFunc_extern Tryz.func159 (by kernel_rfl) (by kernel_rfl) (by kernel_rfl) (e := Extern.AbiNoEscape.same) (by kernel_rfl)]
 rw [Lib.run_noEscape]
 simp only [Result.andThen]
 rw [Oper.upon_value]
 go_wp2_with fail
 rw [Lib.run_from_unsafe w ⟨g, 0, none⟩ Tryz.underlying146 Tryz.underlying101 hj hsh (by kernel_rfl)]
 simp only [Result.andThen]
 rw [Oper.upon_value]
 go_wp2_with fail
 go_end0
 exact ⟨rfl, rfl⟩
set_option maxHeartbeats 1000000 in
set_option maxRecDepth 100000 in
theorem cc_used (g : Nat) (w : World) (h0 : w.cell? ⟨g, 0, none⟩ = some (.pointer (some ⟨g, 0, none⟩))) :
  Calls Tryz.prog 128 #[.pointer (some ⟨g, 0, none⟩)] w fun e w' => e = .returned (.tuple #[]) ∧ w' = w := by
 have hx : ((Tryz.prog).info? 103).map (·.size) = some 2 := by kernel_rfl
 obtain ⟨j, hj, hjs⟩ := Option.map_eq_some_iff.1 hx
 go_enter Tryz.func128, Tryz.ntmps128
 go_wp2_with fail
 rw [Lib.run_neq_ptr_same w _ Tryz.underlying101 hj]
 go_wp2_with fail
 go_end0
 exact ⟨rfl, rfl⟩
theorem ez_appstr {w w' : World} {ops : Array Oper} {rest : List Oper} {o : Oper} {a : Act} {Q : Exit → Act → World → Prop} {sl x : Operand} {v v' : Value} {s : ByteArray} (hgd : o.guard = none)
  (ho : o.op = .call { callee := .builtin .append, args := #[sl, x], argTypes := #[97, 9] }) (hs : a.eval sl = v) (hx : a.eval x = .string s) (hr : (Builtin.append_ #[97, 9] o.type #[v, .string s]).run Tryz.prog w = .ok v' w')
  (h : wpList Tryz.prog ops Q rest (a.put o.dst v') w') : wpList Tryz.prog ops Q (o :: rest) a w := by
 refine wpList_plain hgd fun K hK => ?_
 unfold Oper.wp execOp
 simp only [ho, resolve, invoke, builtin, Sem.run_bind, Sem.run_pure, Result.andThen_ok, List.map_toArray, List.map_cons, List.map_nil, hs, hx, hr]
 exact hK _ _ h
set_option maxHeartbeats 2000000 in
set_option maxRecDepth 100000 in
/-- WriteString at a printer's builder. -/
theorem ws_on (w W : World) (ts : List Th) (g : Nat) (ok : Nat → Prop) (bs : List UInt8) (s : ByteArray) (HF : Hid (Fz w W (prT g w.heap.size ok bs :: ts))) (hlen : bs.length + s.size ≤ 140737488355328) :
  Calls Tryz.prog 94 #[.pointer (some ⟨g, 0, none⟩), .string s] W fun e W' => e = .returned (.tuple #[.int .i64 s.size, .nilIface]) ∧ ∃ ok', Hid (Fz w W' (prT g w.heap.size ok' (bs ++ s.data.toList) :: ts)) := by
 obtain ⟨p, v, hp, hg, ho, hk, hn⟩ := HF.out.b0
 have hglt := blk_lt hg
 -- the state behind copyCheck
 obtain ⟨W1, hW1, hcc⟩ : ∃ W1 : World, (W1.heap[g]? = some (.cells #[.pointer (some ⟨g, 0, none⟩), v] 105 (0, 0)) ∧ W1.heap.size = W.heap.size ∧ (W1.os = W.os ∧ W1.tape = W.tape ∧ W1.output = W.output) ∧ (∀ k, k ≠ g → W1.heap[k]? = W.heap[k]?)) ∧
   Calls Tryz.prog 128 #[.pointer (some ⟨g, 0, none⟩)] W fun e w' => e = .returned (.tuple #[]) ∧ w' = W1 := by
  rcases hp with rfl | rfl
  ·refine ⟨W.setCell ⟨g, 0, none⟩ (.pointer (some ⟨g, 0, none⟩)), ⟨blk_put hg 0 _ rfl, by simp, ⟨rfl, rfl, rfl⟩, fun k hk => Below.heap_setCell W _ _ k hk⟩, ?_⟩
   exact cc_fresh g W ((blk_cell hg 0).trans rfl) (by simp [World.shape?, hg]) (blk_frozen hg 0)
  ·exact ⟨W, ⟨hg, rfl, ⟨rfl, rfl, rfl⟩, fun k _ => rfl⟩, cc_used g W ((blk_cell hg 0).trans rfl)⟩
 obtain ⟨h1g, h1s, h1o, h1k⟩ := hW1
 have hi : ∃ i, (Tryz.prog).info? 5 = some i ∧ i.zero = some (.int .u8 0) ∧ i.size = 1 ∧ i.bytes = 1 := by
  have hx : ((Tryz.prog).info? 5).map (fun i => (i.zero, i.size, i.bytes)) = some (some (.int .u8 0), 1, 1) := by kernel_rfl
  obtain ⟨i0, h1, h2⟩ := Option.map_eq_some_iff.1 hx
  simp only [Prod.mk.injEq] at h2
  exact ⟨i0, h1, h2.1, h2.2.1, h2.2.2⟩
 obtain ⟨i, hi, hz0, hz1, hz2⟩ := hi
 have ho1 : W1.ownsRow w.heap.size 5 1 v bs.length (Lib.byteCells bs) := own_move ho (fun k hkk => h1k k (fun e => hn (e ▸ hk k hkk)))
 have hwW : w.heap.size ≤ W.heap.size := HF.out.below.size
 obtain ⟨v', W2, hr, ho2, hgr, hat⟩ := append_str_at (P := Tryz.prog) W1 w.heap.size 97 9 97 5 i Tryz.underlying97 Tryz.underlying9 hi hz0 hz1 hz2 v bs.length (Lib.byteCells bs) ho1 s hlen (by omega)
 obtain ⟨A', c', hv'⟩ := own_slice ho2
 subst hv'
 have hgv : v.ownBlock ≠ some g := fun e => hn (hk g e)
 have h2g : W2.heap[g]? = some (.cells #[.pointer (some ⟨g, 0, none⟩), v] 105 (0, 0)) := (hgr.block g (by omega) (fun e => hgv e.symm)).trans h1g
 have HR := Lib.hid hr
 have HCC := Lib.hid hcc
 have c1 := (blk_cell h1g 1).trans rfl
 have c2 := (blk_cell h2g 1).trans rfl
 have f2 := blk_frozen h2g 1
 have HEND : Hid (∃ ok', Hid (Fz w (W2.setCell ⟨g, 1, none⟩ (.slice A' (bs.length + s.size) c')) (prT g w.heap.size ok' (bs ++ s.data.toList) :: ts))) := Lib.hid (by
  refine ⟨fun k => ok k ∨ W.heap.size ≤ k ∧ k < W2.heap.size, Lib.hid (HF.out.change _ ?_ ?_ ?_ ?_ ?_)⟩
  ·have := hgr.size; simp; omega
  ·exact ⟨hgr.os.trans h1o.1, hgr.tape.trans h1o.2.1, hgr.output.trans h1o.2.2⟩
  ·intro k hlt hnk
   have hkg : k ≠ g := fun e => hnk (.inl e)
   rw [Below.heap_setCell W2 _ _ k hkg, hgr.block k (by omega) (fun e => hnk (.inr (hk k e.symm))), h1k k hkg]
  ·refine ⟨.pointer (some ⟨g, 0, none⟩), _, .inr rfl, blk_put h2g 1 _ rfl, ?_, ?_, ?_⟩
   ·rw [List.length_append, Array.length_toList, Lib.byteCells_append]
    refine own_setCell ho2 ?_ _
    ·intro e0
     have e : some g = (Value.slice A' (bs.length + s.size) c').ownBlock := e0
     rcases hat with h4 | ⟨k, h4, h5⟩
     ·exact hgv (h4 ▸ e.symm)
     ·rw [h4] at e; have := Option.some.inj e; omega
   ·intro k hkk
    rcases hat with h4 | ⟨k2, h4, h5⟩
    ·exact .inl (hk k (h4 ▸ hkk))
    ·rw [h4] at hkk; obtain rfl := Option.some.inj hkk; exact .inr ⟨by omega, (ho2.lt _ h4).2⟩
   ·rintro (h4 | h4)
    ·exact hn h4
    ·omega
  ·rintro k (h4 | h4 | h4)
   ·exact .inl (.inl h4)
   ·exact .inl (.inr h4)
   ·exact .inr ⟨h4.1, by simpa using h4.2⟩)
 clear hr hcc HF hp hg ho hk hn hglt h1g h1s h1o h1k hi hz0 hz1 hz2 ho1 hwW ho2 hgr hat hgv h2g hlen
 go_enter Tryz.func94, Tryz.ntmps94
 go_wp2_with (first
  | (go_at_call 128; refine HCC.out.mono ?_; rintro e w1_ ⟨rfl, rfl⟩)
  | (at_builtin; refine ez_appstr rfl rfl rfl rfl HR.out ?_))
 refine bodyPost_ret (v := .tuple #[.int .i64 s.size, .nilIface]) (by simp [results, Tryz.results94, go_sem]) rfl ?_
 exact ⟨rfl, HEND.out⟩
end Go.Proofs.YtbndfgoklgdfdaaGreatDoor.P
end
section
set_option linter.unusedSimpArgs false
namespace Go.Proofs.YtbndfgoklgdfdaaGreatDoor.P
open Go.RowKit Go.Proofs.YtbndfgoklgdfdaaGreatDoorW.PrintWords Go.Proofs.YtbndfgoklgdfdaaGreatDoorW.PrintLast Go.Proofs.YtbndfgoklgdfdaaGreatDoorW.PrintMore

abbrev outMax : Nat := 140737488355328
/-- A call that writes t, and turns nothing else that is told. -/
def Writes (F : FuncId) (args : Array Value) (w : World) (ts : List Th) (g : Nat) (t : List UInt8) : Prop :=
 ∀ (W : World) (ok : Nat → Prop) (bs : List UInt8), Hid (Fz w W (prT g w.heap.size ok bs :: ts)) → bs.length + t.length ≤ outMax →
  Calls Tryz.prog F args W fun e W' => e = .returned (.tuple #[]) ∧ ∃ ok', Hid (Fz w W' (prT g w.heap.size ok' (bs ++ t) :: ts))
/-- WriteString of a literal. -/
theorem ws_lit {w W : World} {ts : List Th} {g : Nat} {ok : Nat → Prop} {bs : List UInt8} (s : List UInt8) (HF : Hid (Fz w W (prT g w.heap.size ok bs :: ts))) (hlen : bs.length + s.length ≤ outMax) :
  Calls Tryz.prog 94 #[.pointer (some ⟨g, 0, none⟩), .string ⟨s.toArray⟩] W fun e W' => e = .returned (.tuple #[.int .i64 s.length, .nilIface]) ∧ ∃ ok', Hid (Fz w W' (prT g w.heap.size ok' (bs ++ s) :: ts)) :=
 ws_on w W ts g ok bs ⟨s.toArray⟩ HF hlen
set_option maxHeartbeats 1000000 in
set_option maxRecDepth 100000 in
theorem within_writes (F : FuncId) (hF : Enters Tryz.prog F) (caps : Array Value) (w : World) (ts : List Th) (g : Nat) (t : List UInt8) (is : Bool) (h : Writes F caps w ts g t) :
  Writes 126 #[.pointer (some ⟨g, 0, none⟩), .bool is, .func (.func F) #[] caps] w ts g (if is then [40] ++ (t ++ [41]) else t) := by
 intro W ok bs HF hlen
 have hcf_ : ∀ (args : Array Value) (w : World), (callFunc F args).run Tryz.prog w = .ok (.enter F args) w := hF
 have HW := Lib.hid h
 have HL := Lib.hid hlen
 clear h hlen hF
 cases is
 ·go_enter Tryz.func126, Tryz.ntmps126
  go_wp2_with (first
   | (refine (HW.out _ _ _ HF (by have := HL.out; simpa using this)).mono ?_; rintro e w1_ ⟨rfl, ok', HF2_⟩; clear HF; have HF := HF2_; clear HF2_))
  go_end0
  exact ⟨rfl, _, HF⟩
 ·have HL2 : Hid (bs.length + (1 + (t.length + 1)) ≤ outMax) := Lib.hid (by have := HL.out; simp at this ⊢; omega)
  clear HL
  go_enter Tryz.func126, Tryz.ntmps126
  go_wp2_with fail
  refine (ws_lit [40] HF (by have := HL2.out; simp; omega)).mono ?_
  rintro e w1_ ⟨rfl, ok1, HF1⟩
  clear HF
  go_wp2_with fail
  refine (HW.out _ _ _ HF1 (by have := HL2.out; simp; omega)).mono ?_
  rintro e w2_ ⟨rfl, ok2, HF2⟩
  clear HF1
  go_wp2_with fail
  refine (ws_lit [41] HF2 (by have := HL2.out; simp; omega)).mono ?_
  rintro e w3_ ⟨rfl, ok3, HF3⟩
  clear HF2
  go_wp2_with fail
  go_end0
  refine ⟨rfl, ok3, ?_⟩
  simpa only [if_true, List.append_assoc, List.cons_append, List.nil_append] using HF3
end Go.Proofs.YtbndfgoklgdfdaaGreatDoor.P
end
