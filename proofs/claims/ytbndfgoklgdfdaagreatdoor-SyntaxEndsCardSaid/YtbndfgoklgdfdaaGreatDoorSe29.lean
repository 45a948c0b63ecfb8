/- The reference's Join: tokens with spaces between (printed by mkljoin.py). How the plain parser takes one more token behind its tokens; it does not see where tokens lie. The reference's Count, Deep, Size and huge against plain functions. The reference's tests on types, binders, terms (printed by mkr.py). The reference's tests on formulas and lists (printed by mkr.py). The reference's tests on lists, items and texts; Check (printed by mkr.py). The reference's tests on items and texts; Check (printed by mkr.py). The reference's IsText and Check, by hand. A tree with one more leaf at its end: what is valid with it was so without. -/
import Derived.Test.YtbndfgoklgdfdaaGreatDoorSe28
import Derived.Test.YtbndfgoklgdfdaaGreatDoorSe13
import Derived.Test.YtbndfgoklgdfdaaGreatDoorSe23
import Derived.Test.YtbndfgoklgdfdaaGreatDoorSe11
import Derived.Test.YtbndfgoklgdfdaaGreatDoorSe08
import Derived.Test.YtbndfgoklgdfdaaGreatDoorSe24
set_option linter.all false
section
set_option linter.unusedSimpArgs false
namespace Go.Proofs.YtbndfgoklgdfdaaGreatDoor.P
open Go.RowKit Go.Proofs.YtbndfgoklgdfdaaGreatDoorW.PrintWords Go.Proofs.YtbndfgoklgdfdaaGreatDoorW.PrintLast Go.Proofs.YtbndfgoklgdfdaaGreatDoorW.PrintMore
theorem info8 : (Tryz.prog.info? 5).map (fun i => (i.zero, i.size, i.bytes)) = some (some (.int .u8 0), 1, 1) := by kernel_rfl
section
variable {P : Program} {ops : Array Oper} {Q : Exit → Act → World → Prop} {md : Region.Mode} {S : World → Prop} {ds : List Nat}
theorem uqs {N : Option Tmp} {oi : Oper} {fuel : Nat} {l : Array Bool} {a : Act} {w : World} (i : Nat) (l' : Array Bool) {a' : Act} (hi : ops[i]? = some oi := by first | (simp only [List.getElem?_toArray, List.getElem?_cons_succ, List.getElem?_cons_zero]; exact rfl) | rfl) (hN : oi.dst = N := by rfl) (hc : anyB md ops l l' i = true := by kernel_rfl)
  (hQ : ∀ c a w, Q (.panic c) (a.put oi.dst undef) w → Q (.panic c) a w := by exact fun _ _ _ h => h) (hw : Region.wanted oi (yielded ops a.tmps) = false := by rfl) (ha : a.put N undef = a' := by simp only [Act.put, List.setIfInBounds_toArray, List.set_cons_zero, List.set_cons_succ]; rfl)
  (h : wpAnyLast P md ops Q S ds fuel l' a' w) : wpAnyLast P md ops Q S ds (fuel + 1) l a w :=
 pure_ l' hi hN hc hQ (Or.inr ⟨hw, rfl⟩) ha h
end
def wrR.T9 : Bool × List (List Nat × List Nat) := (true, [([], []), ([0], [0]), ([1], [1]), ([2], [2]), ([3, 2, 2], [2, 3]), ([4], [4]), ([4], [4]), ([6, 4], [4, 6]), ([5, 7, 4], [4, 5, 7]), ([8, 4], [4, 8]), ([4], [4]), ([4], [4]), ([10, 11, 4], [4, 10, 11]), ([12, 4], [4, 12]), ([9, 13, 4, 4], [4, 9, 13]), ([4, 14, 2], [2, 4, 14]), ([2, 15], [2, 15])])
def wrR.B9 : List Nat := [0, 1, 3, 7, 15, 31, 31, 95, 255, 511, 31, 31, 3103, 7199, 16383, 32767, 65535]
theorem wrR.tab9 : rtab .any (opsOf Tryz.f50 9) = wrR.T9 := by kernel_rfl
theorem wrR.bits9 : waitsOk wrR.T9.2 wrR.B9 = true := by kernel_rfl
/-- The tokens' texts, with a space ahead of each. -/
def restJ : List Tok → List UInt8
 | [] => []
 | t :: l => 32 :: (t.f1.data.toList ++ restJ l)
/-- With spaces between. -/
def wrJ : List Tok → List UInt8
 | [] => []
 | t :: l => t.f1.data.toList ++ restJ l
def strJ (l : List Tok) : ByteArray := if (wrJ l).length ≤ 20000 then ⟨(wrJ l).toArray⟩ else ⟨#[]⟩
def nb (l : List UInt8) : List Int := l.map fun c => (c.toNat : Int)
theorem nb_len (l : List UInt8) : (nb l).length = l.length := List.length_map _
theorem nb_str (acc : List UInt8) : strOfNums (nb acc) = ⟨acc.toArray⟩ := by
 unfold strOfNums nb
 rw [List.map_map]
 congr 2
 rw [show ((fun (n : Int) => UInt8.ofNat n.toNat) ∘ fun (c : UInt8) => (c.toNat : Int)) = id from by funext c; simp]
 simp
theorem nb_app (l m : List UInt8) : nb (l ++ m) = nb l ++ nb m := List.map_append
/-- A token in a row: its cells. -/
structure Kt (w : World) (a : Addr) (x : Tok) : Prop where
 c0 : w.cell? a = some (.int .i64 x.f0)
 c1 : w.cell? ⟨a.block, a.off + 1, none⟩ = some (.string x.f1)
 c2 : w.cell? ⟨a.block, a.off + 2, none⟩ = some (.int .i64 x.f2)
theorem Kt.at_ {w W : World} {a : Addr} {x : Tok} (h : Kt w a x) (hb : Below w.heap.size w W) : W.cell? a = some (.int .i64 x.f0) ∧ W.cell? ⟨a.block, a.off + 1, none⟩ = some (.string x.f1) ∧ W.cell? ⟨a.block, a.off + 2, none⟩ = some (.int .i64 x.f2) :=
 ⟨pw_cell_below hb h.c0, pw_cell_below hb h.c1, pw_cell_below hb h.c2⟩
theorem tok_j {w : World} {l : List Tok} {A : Option Addr} (hC : Kd.C k65 w A l.length l) (j : Nat) (hj : j < l.length) : ∃ a x, A = some a ∧ x ∈ l ∧ l.drop j = x :: l.drop (j + 1) ∧ Kt w (a.add (j * 3)) x := by
 obtain ⟨a, e0, p0, p1, p2⟩ := at_T65 hC j (by omega) (by omega)
 rw [Int.toNat_natCast] at p0 p1 p2
 have he : rd_T65 l (j : Int) = l[j] := by simp [rd_T65, hj]
 exact ⟨a, l[j], e0, List.getElem_mem hj, List.drop_eq_getElem_cons hj, by rw [← he]; exact ⟨p0, p1, p2⟩⟩
theorem okT_40 {x : Tok} (h : okT x = true) : x.f1.size ≤ 40 := by
 rw [okT_vTok] at h
 unfold vTok at h
 have e : x.f1.data.toList.length = x.f1.size := by simp
 split at h
 ·cases h
 ·simp only [Bool.and_eq_true, decide_eq_true_eq] at h
  omega
set_option maxRecDepth 100000 in
set_option maxHeartbeats 8000000 in
theorem rWritten_on (l : List Tok) (hl : l.length ≤ 6000) (hok : ∀ t ∈ l, okT t = true) (A : Option Addr) (c : Nat) (w : World) (hc : l.length ≤ c) (hC : Kd.C k65 w A l.length l) :
  Calls Tryz.prog 50 #[.slice A l.length c, .bool true] w fun e w' => e = .returned (.string (strJ l)) ∧ Below w.heap.size w w' := by
 have HOK : Hid (∀ t ∈ l, okT t = true) := Lib.hid hok
 have HC := Lib.hid hC
 have HB : Hid (Below w.heap.size w w) := Lib.hid (Below.refl _ _)
 obtain ⟨R, hR⟩ : ∃ R, R = strJ l := ⟨_, rfl⟩
 rw [← hR]
 have HR := Lib.hid hR
 clear hR hC hok
 go_enter Tryz.func50, Tryz.ntmps50
 go_wp2_with fail
 go_loopw [5, 6] (fun v i wr => ∃ (j : Nat) (acc : List UInt8), i = .int .i64 j ∧ j ≤ l.length ∧ Hid (acc.length ≤ j * 41) ∧ Hid ((j = 0 ∧ acc = []) ∨ (0 < j ∧ acc ++ restJ (l.drop j) = wrJ l)) ∧ Hid (Kd.R (Kd.int .u8) 5 wr w.heap.size (fun _ => True) v (nb acc)) ∧ Hid (Below w.heap.size w wr)) (fun _ i _ => l.length - (intOf i).toNat)
 case atStart => exact ⟨0, [], rfl, Nat.zero_le _, Lib.hid (by simp), Lib.hid (.inl ⟨rfl, rfl⟩), Lib.hid (Kd.R_nil _ _ _ _ _), HB⟩
 case round =>
  clear HB
  obtain ⟨j, acc, rfl, hj, HN, HA, HO, HB⟩ := hrel
  by_cases hlt : j < l.length
  ·obtain ⟨a0, x, rfl, hmem, hdr, hk⟩ := tok_j HC.out j hlt
   have hx := okT_40 (HOK.out x hmem)
   have hn := HN.out
   have HCK : Hid (∀ w : World, Calls Tryz.prog 91 #[.agg #[.int .i64 x.f0, .string x.f1, .int .i64 x.f2]] w fun e w' => e = .returned (.int .i64 0) ∧ Below w.heap.size w w') := Lib.hid fun w => by
    refine peculiumref01_Check.calls 201 x.f0 x.f1 x.f2 _ w ?_
    rw [refCheck_f _ _ _ 201 (by omega) (by omega)]
    have := HOK.out x hmem
    rw [okT_vTok] at this
    rw [this]
    rfl
   have HK := Lib.hid hk
   obtain ⟨p0, p1, p2⟩ := hk.at_ HB.out
   have HD := Lib.hid hdr
   clear hdr hmem hk HOK
   rcases HA.out with ⟨hj0, rfl⟩ | ⟨hj0, hacc⟩
   ·clear HA
    have hz : decide ((0 : Int) < (j : Int)) = false := decide_eq_false (by omega)
    have hz2 : decide (0 < j) = false := decide_eq_false (by omega)
    have HJ0 := Lib.hid hj0
    clear hj0
    go_wp2_with (go_at_call 91; refine (HCK.out _).mono ?_; rintro e w2 ⟨rfl, hb_⟩; replace HO := Lib.hid (Kd.R_below HO.out hb_); replace HB := Lib.hid (below_step HB.out hb_); clear hb_ p0 p1 p2)
    replace HO := Lib.hid (Kd.R_drew HO.out)
    replace HB := Lib.hid (below_drew1 HB.out)
    refine start_ (n := 17) (S := fun w' => True) (ds := []) #[false, false, false, false, false, false, false, false, false, false, false, false, false, false, false, false, false] (by kernel_rfl) rfl rfl trivial (fun hHeld => ?_)
    refine with_tabW wrR.tab9 wrR.bits9 (fun HT_ HW_ => ?_)
    clear hHeld
    generalize wr.drew = w3 at HO HB ⊢
    refine pqs 0 (fl 17 1) (hc := any_of HT_.out (by kernel_rfl)) (h := ?_)
    refine pqs 1 (fl 17 2) (hc := any_of HT_.out (by kernel_rfl)) (h := ?_)
    refine pqs 2 (fl 17 3) (hc := any_of HT_.out (by kernel_rfl)) (h := ?_)
    refine uqs 3 (fl 17 4) (hc := any_of HT_.out (by kernel_rfl)) (h := ?_)
    refine uqs 4 (fl 17 5) (hc := any_of HT_.out (by kernel_rfl)) (h := ?_)
    refine uqs 5 (fl 17 6) (hc := any_of HT_.out (by kernel_rfl)) (h := ?_)
    refine uqs 6 (fl 17 7) (hc := any_of HT_.out (by kernel_rfl)) (h := ?_)
    refine uqs 7 (fl 17 8) (hc := any_of HT_.out (by kernel_rfl)) (h := ?_)
    refine uqs 8 (fl 17 9) (hc := any_of HT_.out (by kernel_rfl)) (h := ?_)
    refine uqs 9 (fl 17 10) (hc := any_of HT_.out (by kernel_rfl)) (h := ?_)
    refine uqs 10 (fl 17 11) (hc := any_of HT_.out (by kernel_rfl)) (h := ?_)
    refine uqs 11 (fl 17 12) (hc := any_of HT_.out (by kernel_rfl)) (h := ?_)
    refine uqs 12 (fl 17 13) (hc := any_of HT_.out (by kernel_rfl)) (h := ?_)
    refine uqs 13 (fl 17 14) (hc := any_of HT_.out (by kernel_rfl)) (h := ?_)
    refine uqs 14 (fl 17 15) (hc := any_of HT_.out (by kernel_rfl)) (h := ?_)
    refine uqs 15 (fl 17 16) (hc := any_of HT_.out (by kernel_rfl)) (h := ?_)
    refine pqs 16 (fl 17 17) (hc := any_of HT_.out (by kernel_rfl)) (h := ?_)
    refine done_ (done_of HT_.out (by kernel_rfl)) ?_
    clear HT_ HW_
    try simp only [Act.put, List.setIfInBounds_toArray, List.set_cons_zero, List.set_cons_succ]
    obtain ⟨p0, p1, p2⟩ := HK.out.at_ HB.out
    go_wp2_with (at_builtin; refine print_append_str (w0 := w) w.heap.size rfl (.tmp 42) _ 97 9 5 rfl Tryz.underlying97 Tryz.underlying9 info8 u5 (nb []) x.f1 rfl rfl (Kd.own_of_R HO.out) HB.out (below_size HB.out) (by simp only [List.length_append, nb_len, List.length_singleton]; omega) ?_; intro v2 w5 ho0 hb _; have ho := Kd.R_of_own (h1 := fun _ => rfl) (ok := fun _ => True) ho0 (fun _ _ => trivial); replace HB := Lib.hid hb; clear HO; have HO : Hid (Kd.R (Kd.int .u8) 5 w5 w.heap.size (fun _ => True) v2 ((nb []) ++ bytesOf x.f1)) := Lib.hid ho; clear ho ho0 hb)
    go_roundw
    case rel => exact ⟨j + 1, x.f1.data.toList, by go_num, by omega, Lib.hid (by have h_ : x.f1.data.toList.length = x.f1.size := (by simp); omega), Lib.hid (.inr ⟨by omega, by have hj0 := HJ0.out; clear HJ0; subst hj0; have h := HD.out; rw [List.drop_zero] at h; rw [h]; rfl⟩), HO, HB⟩
    case measure => simp [intOf]; omega
   ·have HA2 := Lib.hid hacc
    have hz : decide ((0 : Int) < (j : Int)) = true := decide_eq_true (by omega)
    have hz2 : decide (0 < j) = true := decide_eq_true (by omega)
    clear HA hacc
    go_wp2_with (go_at_call 91; refine (HCK.out _).mono ?_; rintro e w2 ⟨rfl, hb_⟩; replace HO := Lib.hid (Kd.R_below HO.out hb_); replace HB := Lib.hid (below_step HB.out hb_); clear hb_ p0 p1 p2)
    replace HO := Lib.hid (Kd.R_drew HO.out)
    replace HB := Lib.hid (below_drew1 HB.out)
    refine start_ (n := 17) (S := fun w' => True) (ds := []) #[false, false, false, false, false, false, false, false, false, false, false, false, false, false, false, false, false] (by kernel_rfl) rfl rfl trivial (fun hHeld => ?_)
    refine with_tabW wrR.tab9 wrR.bits9 (fun HT_ HW_ => ?_)
    clear hHeld
    generalize wr.drew = w3 at HO HB ⊢
    refine pqs 0 (fl 17 1) (hc := any_of HT_.out (by kernel_rfl)) (h := ?_)
    refine pqs 1 (fl 17 2) (hc := any_of HT_.out (by kernel_rfl)) (h := ?_)
    refine pqs 2 (fl 17 3) (hc := any_of HT_.out (by kernel_rfl)) (h := ?_)
    refine pqs 3 (fl 17 4) (hc := any_of HT_.out (by kernel_rfl)) (h := ?_)
    refine pqs 4 (fl 17 5) (hc := any_of HT_.out (by kernel_rfl)) (h := ?_)
    refine uqs 5 (fl 17 6) (hc := any_of HT_.out (by kernel_rfl)) (h := ?_)
    refine uqs 6 (fl 17 7) (hc := any_of HT_.out (by kernel_rfl)) (h := ?_)
    refine uqs 7 (fl 17 8) (hc := any_of HT_.out (by kernel_rfl)) (h := ?_)
    refine uqs 8 (fl 17 9) (hc := any_of HT_.out (by kernel_rfl)) (h := ?_)
    refine uqs 9 (fl 17 10) (hc := any_of HT_.out (by kernel_rfl)) (h := ?_)
    refine uqs 10 (fl 17 11) (hc := any_of HT_.out (by kernel_rfl)) (h := ?_)
    refine uqs 11 (fl 17 12) (hc := any_of HT_.out (by kernel_rfl)) (h := ?_)
    refine uqs 12 (fl 17 13) (hc := any_of HT_.out (by kernel_rfl)) (h := ?_)
    refine uqs 13 (fl 17 14) (hc := any_of HT_.out (by kernel_rfl)) (h := ?_)
    refine uqs 14 (fl 17 15) (hc := any_of HT_.out (by kernel_rfl)) (h := ?_)
    refine pqs 15 (fl 17 16) (hc := any_of HT_.out (by kernel_rfl)) (h := ?_)
    refine pqs 16 (fl 17 17) (hc := any_of HT_.out (by kernel_rfl)) (h := ?_)
    refine done_ (done_of HT_.out (by kernel_rfl)) ?_
    clear HT_ HW_
    try simp only [Act.put, List.setIfInBounds_toArray, List.set_cons_zero, List.set_cons_succ]
    go_wp2_with (first
     | ((with_reducible refine gate_builtin (b := .append) (xs := #[.tmp 39, .tmp 40]) rfl ?_); at_builtin; refine Kd.R_append (Kd.int .u8) (w0 := w) w.heap.size rfl (.tmp 39) (.tmp 40) 97 5 (.int .u8 0) 1 rfl Tryz.underlying97 info8 rfl (by decide) (by omega) u5 (nb acc) 32 [.int .u8 32] (fun _ => True) (fun _ => False) rfl rfl rfl (fun _ hk => hk.elim) (fun _ _ => trivial) HO.out HB.out (below_size HB.out) (by rw [nb_len]; omega) ?_; intro v1 w4 ho hb _ _; replace HB := Lib.hid hb; replace HO := Lib.hid ho; clear ho hb; obtain ⟨p0, p1, p2⟩ := (HK.out.at_ HB.out))
     | (at_builtin; refine print_append_str (w0 := w) w.heap.size rfl (.tmp 42) _ 97 9 5 rfl Tryz.underlying97 Tryz.underlying9 info8 v1 (nb acc ++ [32]) x.f1 rfl rfl (Kd.own_of_R HO.out) HB.out (below_size HB.out) (by simp only [List.length_append, nb_len, List.length_singleton]; omega) ?_; intro v2 w5 ho0 hb _; have ho := Kd.R_of_own (h1 := fun _ => rfl) (ok := fun _ => True) ho0 (fun _ _ => trivial); replace HB := Lib.hid hb; clear HO; have HO : Hid (Kd.R (Kd.int .u8) 5 w5 w.heap.size (fun _ => True) v2 ((nb acc ++ [32]) ++ bytesOf x.f1)) := Lib.hid ho; clear ho ho0 hb))
    go_roundw
    case rel => exact ⟨j + 1, acc ++ ([32] ++ x.f1.data.toList), by go_num, by omega, Lib.hid (by have h_ : x.f1.data.toList.length = x.f1.size := (by simp); simp only [List.length_append, List.length_singleton]; omega), Lib.hid (.inr ⟨by omega, by have h := HA2.out; rw [HD.out, restJ] at h; rw [← h]; simp⟩), Lib.hid (by have h := HO.out; rw [nb_app, nb_app, ← List.append_assoc]; exact h), HB⟩
    case measure => simp [intOf]; omega
  ·have hje : j = l.length := by omega
   have hacc : acc = wrJ l := by
    rcases HA.out with ⟨h0, h1⟩ | ⟨_, h1⟩
    ·rw [h1]
     have : l = [] := List.eq_nil_of_length_eq_zero (by omega)
     rw [this]; rfl
    ·rw [List.drop_of_length_le (by omega), restJ, List.append_nil] at h1
     exact h1
   subst hacc
   clear HA
   obtain ⟨Ao, co, rfl⟩ := Kd.R_slice HO.out
   rw [nb_len] at *
   by_cases h2 : (wrJ l).length ≤ 20000
   ·have hR : R = ⟨(wrJ l).toArray⟩ := by rw [HR.out]; exact if_pos h2
    have hcv := own_string (P := Tryz.prog) Tryz.underlying97 Tryz.underlying5 Tryz.underlying9 (Kd.own_of_R HO.out)
    rw [nb_str] at hcv
    go_wp2_with fail
    go_ret
    exact ⟨by rw [hR]; rfl, HB.out⟩
   ·have hR : R = ⟨#[]⟩ := by rw [HR.out]; exact if_neg h2
    go_wp2_with fail
    go_ret
    exact ⟨by rw [hR]; rfl, HB.out⟩
set_option maxRecDepth 100000 in
theorem rJoin_on (l : List Tok) (hl : l.length ≤ 6000) (hok : ∀ t ∈ l, okT t = true) (A : Option Addr) (c : Nat) (w : World) (hc : l.length ≤ c) (hC : Kd.C k65 w A l.length l) :
  Calls Tryz.prog 25 #[.slice A l.length c] w fun e w' => e = .returned (.string (strJ l)) ∧ Below w.heap.size w w' := by
 have HH := Lib.hid (rWritten_on l hl hok A c w hc hC)
 clear hC hok
 go_enter Tryz.func25, Tryz.ntmps25
 go_wp2_with (go_at_call 50; refine HH.out.mono ?_; rintro e w2 ⟨rfl, hb⟩)
 go_ret
 exact ⟨rfl, hb⟩
end Go.Proofs.YtbndfgoklgdfdaaGreatDoor.P
end
section
namespace Go.Proofs.YtbndfgoklgdfdaaGreatDoor.P
open Go.RowKit Go.Proofs.YtbndfgoklgdfdaaGreatDoorW.PrintWords Go.Proofs.YtbndfgoklgdfdaaGreatDoorW.PrintLast Go.Proofs.YtbndfgoklgdfdaaGreatDoorW.PrintMore

/-- A token without its place. -/
def er (t : Tok) : Tok := ⟨t.f0, t.f1, 0⟩
def PR.er {α : Type} : PR α → PR α
 | .out => .out
 | .bad l => .bad (l.map P.er)
 | .ok x l => .ok x (l.map P.er)
/-- What a reader comes to (first), and with one more token t behind (second). -/
inductive Rel {α : Type} (Q : α → α → Prop) (t : Tok) : PR α → PR α → Prop
 | out (r : PR α) : Rel Q t .out r
 | ok (x : α) (a : Tok) (l : List Tok) : Rel Q t (.ok x (a :: l)) (.ok x (a :: (l ++ [t])))
 | bad (a : Tok) (l : List Tok) : Rel Q t (.bad (a :: l)) (.bad (a :: (l ++ [t])))
 | bad0 (r : PR α) : Rel Q t (.bad []) r
 | same (x : α) : Rel Q t (.ok x []) (.ok x [t])
 | grown (x y : α) (h : Q x y) : Rel Q t (.ok x []) (.ok y [])
 | deadBad (x : α) (l : List Tok) : Rel Q t (.ok x []) (.bad l)
 | deadOut (x : α) : Rel Q t (.ok x []) .out
/-- With no token left. -/
inductive Z {α : Type} : PR α → Prop
 | out : Z .out
 | bad : Z (.bad [])
 | ok (x : α) : Z (.ok x [])
/-- It cannot do without a token. -/
inductive D {α : Type} : PR α → Prop
 | out : D .out
 | bad : D (.bad [])
theorem Z.toBad {α : Type} {Q : α → α → Prop} {t : Tok} {r : PR α} (h : Z r) (l : List Tok) : Rel Q t r (.bad l) := by
 cases h
 ·exact .out _
 ·exact .bad0 _
 ·exact .deadBad _ _
theorem Z.toOut {α : Type} {Q : α → α → Prop} {t : Tok} {r : PR α} (h : Z r) : Rel Q t r .out := by
 cases h
 ·exact .out _
 ·exact .bad0 _
 ·exact .deadOut _
theorem D.rel {α : Type} {Q : α → α → Prop} {t : Tok} {r s : PR α} (h : D r) : Rel Q t r s := by cases h <;> constructor
theorem Rel.dead {α : Type} {Q : α → α → Prop} {t : Tok} {r s : PR α} (hz : Z r) (h : D s) : Rel Q t r s := by
 cases h
 ·exact hz.toOut
 ·exact hz.toBad _
theorem D.bind {α β : Type} {r : PR α} (h : D r) (f : α → List Tok → PR β) : D (r.bind f) := by cases h <;> constructor
abbrev No {α : Type} (_ _ : α) : Prop := False
abbrev Any {α : Type} (_ _ : α) : Prop := True
theorem Rel.mono {α : Type} {Q Q' : α → α → Prop} {t : Tok} {r s : PR α} (h : Rel Q t r s) (hq : ∀ x y, Q x y → Q' x y) : Rel Q' t r s := by
 cases h
 ·exact .out _
 ·exact .ok _ _ _
 ·exact .bad _ _
 ·exact .bad0 _
 ·exact .same _
 ·rename_i x y h; exact .grown _ _ (hq x y h)
 ·exact .deadBad _ _
 ·exact .deadOut _
structure Loc {α : Type} (Q : α → α → Prop) (p : List Tok → PR α) : Prop where
 nil : Z (p [])
 rel : ∀ (ts : List Tok) (t : Tok), Rel Q t (p ts) (p (ts ++ [t]))
 inv : ∀ ts : List Tok, p (ts.map er) = (p ts).er
section
variable {α β : Type} {Q : α → α → Prop} {Q' : β → β → Prop}
theorem Loc.mono {Q2 : α → α → Prop} {p : List Tok → PR α} (h : Loc Q p) (hq : ∀ x y, Q x y → Q2 x y) : Loc Q2 p := ⟨h.nil, fun ts t => (h.rel ts t).mono hq, h.inv⟩
theorem Loc.out : Loc Q fun _ => (.out : PR α) := ⟨.out, fun _ _ => .out _, fun _ => rfl⟩
theorem Loc.ret (x : α) : Loc Q fun ts => .ok x ts := ⟨.ok _, fun ts t => by cases ts <;> constructor, fun _ => rfl⟩
theorem Loc.bind {p : List Tok → PR α} {f : α → List Tok → PR β} (hp : Loc Q p) (hf : ∀ x, Loc Q' (f x)) (hg : ∀ x y, Q x y → ∀ t, Rel Q' t (f x []) (f y [])) : Loc Q' fun ts => (p ts).bind f := by
 refine ⟨?_, fun ts t => ?_, fun ts => ?_⟩
 ·show Z ((p []).bind f)
  have h := hp.nil
  generalize p [] = r at h
  cases h
  ·exact .out
  ·exact .bad
  ·exact (hf _).nil
 ·show Rel Q' t ((p ts).bind f) ((p (ts ++ [t])).bind f)
  have h := hp.rel ts t
  generalize p ts = r at h
  generalize p (ts ++ [t]) = s at h
  cases h
  ·exact .out _
  ·rename_i x a l; exact (hf x).rel (a :: l) t
  ·exact .bad _ _
  ·exact .bad0 _
  ·rename_i x; exact (hf x).rel [] t
  ·rename_i x y h; exact hg x y h t
  ·rename_i x l; exact (hf x).nil.toBad l
  ·rename_i x; exact (hf x).nil.toOut
 ·show (p (ts.map er)).bind f = ((p ts).bind f).er
  rw [hp.inv]
  cases p ts with
  | out => rfl
  | bad l => rfl
  | ok x l => exact (hf x).inv l
theorem Loc.bindN {p : List Tok → PR α} {f : α → List Tok → PR β} (hp : Loc No p) (hf : ∀ x, Loc Q' (f x)) : Loc Q' fun ts => (p ts).bind f := hp.bind hf fun _ _ h => h.elim
theorem Loc.bindV {V : α → Prop} {p : List Tok → PR α} {f : α → List Tok → PR β} (hp : Loc No p) (hv : ∀ ts x l, p ts = .ok x l → V x) (hf : ∀ x, V x → Loc Q' (f x)) : Loc Q' fun ts => (p ts).bind f := by
 refine ⟨?_, fun ts t => ?_, fun ts => ?_⟩
 ·show Z ((p []).bind f)
  have h := hp.nil
  have h2 := hv []
  generalize p [] = r at h h2
  cases h
  ·exact .out
  ·exact .bad
  ·exact (hf _ (h2 _ _ rfl)).nil
 ·show Rel Q' t ((p ts).bind f) ((p (ts ++ [t])).bind f)
  have h := hp.rel ts t
  have h2 := hv ts
  generalize p ts = r at h h2
  generalize p (ts ++ [t]) = s at h
  cases h
  ·exact .out _
  ·rename_i x a l; exact (hf x (h2 _ _ rfl)).rel (a :: l) t
  ·exact .bad _ _
  ·exact .bad0 _
  ·rename_i x; exact (hf x (h2 _ _ rfl)).rel [] t
  ·rename_i x y h; exact h.elim
  ·rename_i x l; exact (hf x (h2 _ _ rfl)).nil.toBad l
  ·rename_i x; exact (hf x (h2 _ _ rfl)).nil.toOut
 ·show (p (ts.map er)).bind f = ((p ts).bind f).er
  have h2 := hv ts
  rw [hp.inv]
  generalize p ts = r at h2
  cases r with
  | out => rfl
  | bad l => rfl
  | ok x l => exact (hf x (h2 _ _ rfl)).inv l
/-- Behind it a token is wanted: how it grows does not matter. -/
theorem Loc.bindD {p : List Tok → PR α} {f : α → List Tok → PR β} (hp : Loc Q p) (hf : ∀ x, Loc Q' (f x)) (hd : ∀ x, D (f x [])) : Loc Q' fun ts => (p ts).bind f := hp.bind hf fun x _ _ _ => (hd x).rel
theorem Loc.ite {s : List UInt8} {p q : List Tok → PR α} (hp : Loc Q p) (hq : Loc Q q) (h0 : ∀ t, isP s [t] = true → Rel Q t (q []) (p [t])) : Loc Q fun ts => if isP s ts = true then p ts else q ts := by
 refine ⟨hq.nil, fun ts t => ?_, fun ts => ?_⟩
 ·cases ts with
  | nil =>
   show Rel Q t (q []) (if isP s [t] = true then p [t] else q [t])
   by_cases h : isP s [t] = true
   ·rw [if_pos h]; exact h0 t h
   ·rw [if_neg h]; exact hq.rel [] t
  | cons a l =>
   show Rel Q t (if isP s (a :: l) = true then p (a :: l) else q (a :: l)) (if isP s (a :: l) = true then p (a :: l ++ [t]) else q (a :: l ++ [t]))
   split
   ·exact hp.rel _ _
   ·exact hq.rel _ _
 ·cases ts with
  | nil => exact hq.inv []
  | cons a l =>
   show (if isP s (a :: l) = true then p ((a :: l).map er) else q ((a :: l).map er)) = (if isP s (a :: l) = true then p (a :: l) else q (a :: l)).er
   split
   ·exact hp.inv _
   ·exact hq.inv _
theorem Loc.ift {s : List UInt8} {f q : List Tok → PR α} (hf : Loc Q f) (hq : Loc Q q) (h0 : ∀ t, isP s [t] = true → Rel Q t (q []) (f [])) : Loc Q fun ts => if isP s ts = true then f ts.tail else q ts := by
 refine ⟨hq.nil, fun ts t => ?_, fun ts => ?_⟩
 ·cases ts with
  | nil =>
   show Rel Q t (q []) (if isP s [t] = true then f [] else q [t])
   by_cases h : isP s [t] = true
   ·rw [if_pos h]; exact h0 t h
   ·rw [if_neg h]; exact hq.rel [] t
  | cons a l =>
   show Rel Q t (if isP s (a :: l) = true then f l else q (a :: l)) (if isP s (a :: l) = true then f (l ++ [t]) else q (a :: l ++ [t]))
   split
   ·exact hf.rel _ _
   ·exact hq.rel _ _
 ·cases ts with
  | nil => exact hq.inv []
  | cons a l =>
   show (if isP s (a :: l) = true then f (l.map er) else q ((a :: l).map er)) = (if isP s (a :: l) = true then f l else q (a :: l)).er
   split
   ·exact hf.inv _
   ·exact hq.inv _
theorem Loc.ifk {c : Int} {p q : List Tok → PR α} (hc : c ≠ 0) (hp : Loc Q p) (hq : Loc Q q) (h0 : ∀ t, t.f0 = c → Rel Q t (q []) (p [t])) : Loc Q fun ts => if kindP ts = c then p ts else q ts := by
 have hn : ¬ kindP [] = c := fun h => hc h.symm
 refine ⟨?_, fun ts t => ?_, fun ts => ?_⟩
 ·show Z (if kindP [] = c then p [] else q [])
  rw [if_neg hn]
  exact hq.nil
 ·cases ts with
  | nil =>
   show Rel Q t (if kindP [] = c then p [] else q []) (if t.f0 = c then p [t] else q [t])
   rw [if_neg hn]
   by_cases h : t.f0 = c
   ·rw [if_pos h]; exact h0 t h
   ·rw [if_neg h]; exact hq.rel [] t
  | cons a l =>
   show Rel Q t (if a.f0 = c then p (a :: l) else q (a :: l)) (if a.f0 = c then p (a :: l ++ [t]) else q (a :: l ++ [t]))
   split
   ·exact hp.rel _ _
   ·exact hq.rel _ _
 ·cases ts with
  | nil =>
   show (if kindP [] = c then p [] else q []) = (if kindP [] = c then p [] else q []).er
   rw [if_neg hn]
   exact hq.inv []
  | cons a l =>
   show (if a.f0 = c then p ((a :: l).map er) else q ((a :: l).map er)) = (if a.f0 = c then p (a :: l) else q (a :: l)).er
   split
   ·exact hp.inv _
   ·exact hq.inv _
end
theorem loc_want (s : List UInt8) : Loc No (wantP s) := by
 refine ⟨.bad, fun ts t => ?_, fun ts => ?_⟩
 ·cases ts with
  | nil => exact .bad0 _
  | cons a l =>
   show Rel No t (if isP s (a :: l) = true then .ok () l else .bad (a :: l)) (if isP s (a :: l) = true then .ok () (l ++ [t]) else .bad (a :: l ++ [t]))
   split
   ·cases l
    ·exact .same _
    ·exact .ok _ _ _
   ·exact .bad _ _
 ·cases ts with
  | nil => rfl
  | cons a l =>
   show (if isP s (a :: l) = true then .ok () (l.map er) else .bad ((a :: l).map er)) = (if isP s (a :: l) = true then PR.ok () l else .bad (a :: l)).er
   split <;> rfl
theorem loc_small : Loc No smallP := by
 refine ⟨.bad, fun ts t => ?_, fun ts => ?_⟩
 ·cases ts with
  | nil => exact .bad0 _
  | cons a l =>
   show Rel No t (if a.f0 = 1 then .ok a.f1 l else .bad (a :: l)) (if a.f0 = 1 then .ok a.f1 (l ++ [t]) else .bad (a :: l ++ [t]))
   split
   ·cases l
    ·exact .same _
    ·exact .ok _ _ _
   ·exact .bad _ _
 ·cases ts with
  | nil => rfl
  | cons a l =>
   show (if a.f0 = 1 then PR.ok a.f1 (l.map er) else .bad ((a :: l).map er)) = (if a.f0 = 1 then PR.ok a.f1 l else .bad (a :: l)).er
   split <;> rfl
theorem loc_name : Loc No nameP := by
 refine ⟨.bad, fun ts t => ?_, fun ts => ?_⟩
 ·cases ts with
  | nil => exact .bad0 _
  | cons a l =>
   show Rel No t (if a.f0 = 1 ∨ a.f0 = 2 then .ok a.f1 l else .bad (a :: l)) (if a.f0 = 1 ∨ a.f0 = 2 then .ok a.f1 (l ++ [t]) else .bad (a :: l ++ [t]))
   split
   ·cases l
    ·exact .same _
    ·exact .ok _ _ _
   ·exact .bad _ _
 ·cases ts with
  | nil => rfl
  | cons a l =>
   show (if a.f0 = 1 ∨ a.f0 = 2 then PR.ok a.f1 (l.map er) else .bad ((a :: l).map er)) = (if a.f0 = 1 ∨ a.f0 = 2 then PR.ok a.f1 l else .bad (a :: l)).er
   split <;> rfl
theorem loc_node : Loc No nodeP := by
 refine ⟨.bad, fun ts t => ?_, fun ts => ?_⟩
 ·cases ts with
  | nil => exact .bad0 _
  | cons a l =>
   show Rel No t ((if a.f0 = 1 ∨ a.f0 = 2 then PR.ok a.f1 l else .bad (a :: l)).bind fun s tl => .ok (⟨if a.f0 = 2 then 16 else 15, s, []⟩ : Tree) tl) ((if a.f0 = 1 ∨ a.f0 = 2 then PR.ok a.f1 (l ++ [t]) else .bad (a :: l ++ [t])).bind fun s tl => .ok (⟨if a.f0 = 2 then 16 else 15, s, []⟩ : Tree) tl)
   split
   ·cases l
    ·exact .same _
    ·exact .ok _ _ _
   ·exact .bad _ _
 ·cases ts with
  | nil => rfl
  | cons a l =>
   show ((if a.f0 = 1 ∨ a.f0 = 2 then PR.ok a.f1 (l.map er) else .bad ((a :: l).map er)).bind fun s tl => .ok (⟨if a.f0 = 2 then 16 else 15, s, []⟩ : Tree) tl) = ((if a.f0 = 1 ∨ a.f0 = 2 then PR.ok a.f1 l else .bad (a :: l)).bind fun s tl => PR.ok (⟨if a.f0 = 2 then 16 else 15, s, []⟩ : Tree) tl).er
   split <;> rfl
theorem d_want (s : List UInt8) : D (wantP s []) := .bad
theorem loc_in (o s : List UInt8) {Q : Tree → Tree → Prop} {f : List Tok → PR Tree} (hf : Loc Q f) : Loc No (inP o s f) :=
 (loc_want o).bindN fun _ => hf.bindD (fun n => (loc_want s).bindN fun _ => .ret n) fun _ => (d_want s).bind _
/-- Where the sign o stands last, what is between the two signs lacks. -/
theorem d_in1 {o s : List UInt8} {f : List Tok → PR Tree} (hd : D (f [])) {t : Tok} (h : isP o [t] = true) : D (inP o s f [t]) := by
 unfold inP
 rw [wantP_ok h]
 exact hd.bind _
theorem simp_d : ∀ k, D (simpleP k [])
 | 0 => .out
 | _ + 1 => .bad
theorem typ_d : ∀ k, D (typP k [])
 | 0 => .out
 | k + 1 => by unfold typP; exact (simp_d k).bind _
theorem loc_typ : ∀ k, Loc No (simpleP k) ∧ Loc No (typP k)
 | 0 => ⟨by show Loc No fun ts => simpleP 0 ts; simp only [simpleP]; exact .out, by show Loc No fun ts => typP 0 ts; simp only [typP]; exact .out⟩
 | k + 1 => by
  obtain ⟨h1, h2⟩ := loc_typ k
  constructor
  ·show Loc No fun ts => simpleP (k + 1) ts
   simp only [simpleP]
   exact .ite (loc_in _ _ h2) (loc_small.bindN fun s => .ret _) fun t _ => .bad0 _
  ·show Loc No fun ts => typP (k + 1) ts
   simp only [typP]
   exact h1.bindN fun n => .ift (h2.bindN fun m => .ret _) (.ret n) fun t _ => .dead (.ok n) ((typ_d k).bind _)
/-- A tree, and the same with one more leaf at its end. -/
inductive Gr : Tree → Tree → Prop
 | more (k : Int) (s : ByteArray) (l : List Tree) (a : Int) (nm : ByteArray) (hk : k = 15 ∨ k = 16) : Gr ⟨k, s, l⟩ ⟨k, s, l ++ [⟨a, nm, []⟩]⟩
 | last (k : Int) (s : ByteArray) (l : List Tree) (x y : Tree) (hk : 17 ≤ k ∧ k ≤ 30) (h : Gr x y) : Gr ⟨k, s, l ++ [x]⟩ ⟨k, s, l ++ [y]⟩
def GrL (l m : List Tree) : Prop := ∃ a nm, m = l ++ [⟨a, nm, []⟩]
theorem loc_binder (kt : Nat) (kind : Int) (hk : 17 ≤ kind ∧ kind ≤ 30) {body : List Tok → PR Tree} (hb : Loc Gr body) : Loc Gr (binderP kt kind body) :=
 loc_name.bindN fun s => .ift ((loc_typ kt).2.bindN fun ty => (loc_want _).bindN fun _ => hb.bind (fun _ => .ret _) fun x y h t => .grown _ _ (.last kind s [ty] x y hk h))
  ((loc_want _).bindN fun _ => hb.bind (fun _ => .ret _) fun x y h t => .grown _ _ (.last kind s [] x y hk h)) fun t _ => .bad0 _
theorem node_one {t : Tok} (h : t.f0 = 1 ∨ t.f0 = 2) : nodeP [t] = .ok ⟨if t.f0 = 2 then 16 else 15, t.f1, []⟩ [] := by
 show (if t.f0 = 1 ∨ t.f0 = 2 then PR.ok t.f1 [] else .bad [t]).bind _ = _
 rw [if_pos h]
 rfl
theorem args_nil (f : List Tok → PR Tree) (k : Nat) (acc : List Tree) : argsP f k [] acc = .out ∨ argsP f k [] acc = .ok acc [] := by
 cases k with
 | zero => exact .inl rfl
 | succ k =>
  simp only [argsP]
  by_cases h : 6000 < acc.length
  ·rw [if_pos h]; exact .inl rfl
  ·rw [if_neg h]; exact .inr rfl
theorem args_more (f : List Tok → PR Tree) (k : Nat) (acc : List Tree) (t : Tok) (h : t.f0 = 1 ∨ t.f0 = 2) : Rel GrL t (.ok acc []) ((nodeP [t]).bind fun n tl => argsP f k tl (acc ++ [n])) := by
 rw [node_one h]
 show Rel GrL t _ (argsP f k [] _)
 rcases args_nil f k (acc ++ [⟨if t.f0 = 2 then 16 else 15, t.f1, []⟩]) with e | e <;> rw [e]
 ·exact .deadOut _
 ·exact .grown _ _ ⟨_, _, rfl⟩
theorem loc_args {f : List Tok → PR Tree} (hf : Loc Gr f) (hd : D (f [])) : ∀ (k : Nat) (acc : List Tree), Loc GrL fun ts => argsP f k ts acc
 | 0, _ => .out
 | k + 1, acc => by
  have ih := loc_args hf hd k
  simp only [argsP]
  by_cases h6 : 6000 < acc.length
  ·simp only [if_pos h6]; exact .out
  ·simp only [if_neg h6]
   exact .ite ((loc_in _ _ hf).bindN fun n => ih _) (.ifk (by decide) (loc_node.bindN fun n => ih _) (.ifk (by decide) (loc_node.bindN fun n => ih _) (.ret acc) fun t h => args_more f k acc t (.inr h)) fun t h => args_more f k acc t (.inl h))
    fun t h => .dead (.ok acc) ((d_in1 hd h).bind _)
theorem term_d : ∀ k, D (termP k [])
 | 0 => .out
 | _ + 1 => .bad
theorem grl {k : Int} (hk : k = 15 ∨ k = 16) {s : ByteArray} {x y : List Tree} (h : GrL x y) : Gr ⟨k, s, x⟩ ⟨k, s, y⟩ := by obtain ⟨a, nm, rfl⟩ := h; exact .more _ _ _ _ _ hk
theorem node_kind (ts : List Tok) (x : Tree) (l : List Tok) (h : nodeP ts = .ok x l) : x.f0 = 15 ∨ x.f0 = 16 := by
 unfold nodeP at h
 cases h1 : nameP ts with
 | out => rw [h1] at h; cases h
 | bad _ => rw [h1] at h; cases h
 | ok s tl =>
  rw [h1] at h
  injection h with h _
  rw [← h]
  show (if kindP ts = 2 then (16 : Int) else 15) = 15 ∨ _
  split <;> simp
theorem loc_term : ∀ k, Loc Gr (termP k)
 | 0 => by show Loc Gr fun ts => termP 0 ts; simp only [termP]; exact .out
 | k + 1 => by
  have ih := loc_term k
  show Loc Gr fun ts => termP (k + 1) ts
  simp only [termP]
  exact .ift (loc_binder _ _ (by decide) ih) (.ite ((loc_in _ _ ih).mono fun _ _ h => h.elim) (loc_node.bindV node_kind fun n hn => (loc_args ih (term_d k) k []).bind (fun l => .ret _) fun x y h t => .grown _ _ (grl hn h)) fun t _ => .bad0 _) fun t _ => .bad0 _
theorem part_d : ∀ k, D (partP k [])
 | 0 => .out
 | _ + 1 => .bad
theorem level_d : ∀ (k lv : Nat), D (levelP k lv [])
 | 0, _ => .out
 | k + 1, lv => by
  simp only [levelP]
  split
  ·exact part_d k
  ·exact (level_d k _).bind _
theorem nextP_nil (lv : Int) : nextP lv [] = none := by simp [nextP, isP]
theorem loop_nil (k lv : Nat) (n : Tree) : loopP k lv n [] = .out ∨ loopP k lv n [] = .ok n [] := by
 cases k with
 | zero => exact .inl (by simp only [loopP])
 | succ k => exact .inr (by simp only [loopP, nextP_nil])
theorem nextP_hd (lv : Int) (a : Tok) (l m : List Tok) : nextP lv (a :: l) = nextP lv (a :: m) := rfl
theorem nextP_er (lv : Int) (l : List Tok) : nextP lv (l.map er) = nextP lv l := by cases l <;> rfl
theorem loc_next {Q : Tree → Tree → Prop} (lv : Int) {f : List UInt8 × Int × Int → List Tok → PR Tree} {n : Tree} (hf : ∀ o, o ∈ opsL → Loc Q (f o)) (hd : ∀ o, D (f o [])) :
  Loc Q fun ts => match nextP lv ts with | none => .ok n ts | some o => f o ts.tail := by
 refine ⟨by show Z (match nextP lv [] with | none => .ok n [] | some o => f o []); rw [nextP_nil]; exact .ok n, fun ts t => ?_, fun ts => ?_⟩
 ·cases ts with
  | nil =>
   show Rel Q t (match nextP lv [] with | none => .ok n [] | some o => f o []) (match nextP lv [t] with | none => .ok n [t] | some o => f o [])
   rw [nextP_nil]
   show Rel Q t (.ok n []) _
   cases nextP lv [t] with
   | none => exact .same _
   | some o => exact .dead (.ok n) (hd o)
  | cons a l =>
   show Rel Q t (match nextP lv (a :: l) with | none => .ok n (a :: l) | some o => f o l) (match nextP lv (a :: (l ++ [t])) with | none => .ok n (a :: (l ++ [t])) | some o => f o (l ++ [t]))
   rw [nextP_hd lv a (l ++ [t]) l]
   cases hn : nextP lv (a :: l) with
   | none => exact .ok _ _ _
   | some o => exact (hf o (List.mem_of_find?_eq_some hn)).rel l t
 ·show (match nextP lv (ts.map er) with | none => .ok n (ts.map er) | some o => f o (ts.map er).tail) = (match nextP lv ts with | none => PR.ok n ts | some o => f o ts.tail).er
  rw [nextP_er, ← List.map_tail]
  cases hn : nextP lv ts with
  | none => rfl
  | some o => exact (hf o (List.mem_of_find?_eq_some hn)).inv _
theorem opsL_kind : ∀ o ∈ opsL, 17 ≤ o.2.1 ∧ o.2.1 ≤ 30 := by decide
theorem loc_level : ∀ k, (∀ lv, Loc Gr (levelP k lv)) ∧ (∀ lv n, Loc Gr (loopP k lv n)) ∧ Loc Gr (partP k)
 | 0 => ⟨fun lv => by show Loc Gr fun ts => levelP 0 lv ts; simp only [levelP]; exact .out, fun lv n => by show Loc Gr fun ts => loopP 0 lv n ts; simp only [loopP]; exact .out, by show Loc Gr fun ts => partP 0 ts; simp only [partP]; exact .out⟩
 | k + 1 => by
  obtain ⟨h1, h2, h3⟩ := loc_level k
  refine ⟨fun lv => ?_, fun lv n => ?_, ?_⟩
  ·show Loc Gr fun ts => levelP (k + 1) lv ts
   simp only [levelP]
   by_cases h : lv = 5
   ·simp only [if_pos h]; exact h3
   ·simp only [if_neg h]
    refine (h1 _).bind (fun n => h2 lv n) fun x y g t => ?_
    rcases loop_nil k lv x with e | e <;> rw [e]
    ·exact .out _
    ·rcases loop_nil k lv y with e | e <;> rw [e]
     ·exact .deadOut _
     ·exact .grown _ _ g
  ·show Loc Gr fun ts => loopP (k + 1) lv n ts
   simp only [loopP]
   by_cases h : lv = 0
   ·simp only [if_pos h]
    refine loc_next lv (f := fun o ts => (levelP k (lv + 1) ts).bind fun m t2 => loopP k lv ⟨o.2.1, ⟨#[]⟩, [n, m]⟩ t2) (fun o ho => (h1 _).bind (fun m => h2 lv _) fun x y g t => ?_) fun o => (level_d k _).bind _
    rcases loop_nil k lv ⟨o.2.1, ⟨#[]⟩, [n, x]⟩ with e | e <;> rw [e]
    ·exact .out _
    ·rcases loop_nil k lv ⟨o.2.1, ⟨#[]⟩, [n, y]⟩ with e | e <;> rw [e]
     ·exact .deadOut _
     ·exact .grown _ _ (.last _ _ [n] _ _ (opsL_kind o ho) g)
   ·simp only [if_neg h]
    exact loc_next lv (f := fun o ts => (levelP k lv ts).bind fun m t2 => .ok ⟨o.2.1, ⟨#[]⟩, [n, m]⟩ t2) (fun o ho => (h1 _).bind (fun m => .ret _) fun x y g t => .grown _ _ (.last _ _ [n] _ _ (opsL_kind o ho) g)) fun o => (level_d k _).bind _
  ·show Loc Gr fun ts => partP (k + 1) ts
   simp only [partP]
   exact .ift (h3.bind (fun n => .ret _) fun x y g t => .grown _ _ (.last _ _ [] _ _ (by decide) g)) (.ift (loc_binder _ _ (by decide) (h1 0)) (.ift (loc_binder _ _ (by decide) (h1 0)) (.ift (.ret _) (.ift (.ret _) (.ite ((loc_in _ _ (h1 0)).bindN fun n => .ret _)
    (.ite ((loc_in _ _ (h1 0)).mono fun _ _ h => h.elim) (loc_small.bindN fun s => (loc_args (loc_term k) (term_d k) k []).bind (fun l => .ret _) fun x y h t => .grown _ _ (grl (.inl rfl) h))
     fun t _ => .bad0 _) fun t _ => .bad0 _) fun t _ => .bad0 _) fun t _ => .bad0 _) fun t _ => .bad0 _) fun t _ => .bad0 _) fun t _ => .bad0 _
theorem loc_namesL : ∀ (k : Nat) (acc : List Tree), Loc No fun ts => namesL k ts acc
 | 0, _ => .out
 | k + 1, acc => by
  have ih := loc_namesL k
  simp only [namesL]
  by_cases h6 : 6000 < acc.length
  ·simp only [if_pos h6]; exact .out
  ·simp only [if_neg h6]
   exact .ift (loc_small.bindN fun s => ih _) (.ret acc) fun _ _ => .dead (.ok acc) .bad
theorem loc_list (k : Nat) (kd : Int) : Loc No (listP k kd) := by
 show Loc No fun ts => (namesP k ts).bind _
 exact Loc.bindN (p := namesP k) (loc_small.bindN fun s => loc_namesL k _) fun l => .ret _
theorem loc_const (k : Nat) (kd : Int) : Loc No (constP k kd) :=
 (loc_list k kd).bindN fun n => (loc_want _).bindN fun _ => (loc_typ k).2.bindN fun y => .ret _
theorem predT_nil (f : List Tok → PR Tree) (kd : Int) (s : ByteArray) (k : Nat) (acc : List Tree) : predT f kd s k [] acc = .out ∨ predT f kd s k [] acc = .ok ⟨kd, s, acc⟩ [] := by
 cases k with
 | zero => exact .inl rfl
 | succ k =>
  simp only [predT]
  by_cases h : 6000 < acc.length
  ·rw [if_pos h]; exact .inl rfl
  ·rw [if_neg h]; exact .inr rfl
theorem simp_one (k : Nat) {t : Tok} (h : t.f0 = 1) : simpleP k [t] = .out ∨ simpleP k [t] = .ok ⟨15, t.f1, []⟩ [] := by
 cases k with
 | zero => exact .inl (by simp only [simpleP])
 | succ k =>
  right
  have hp : isP [40] [t] = false := by
   show (t.f1.toList == [40] && (t.f0 == 3 || t.f0 == 4)) = false
   rw [h]
   simp
  have hs : smallP [t] = .ok t.f1 [] := by unfold smallP; exact if_pos h
  simp only [simpleP]
  rw [hp, if_neg (by decide), hs]
  rfl
theorem simp_sign (k : Nat) {t : Tok} (h : isP [40] [t] = true) : D (simpleP k [t]) := by
 cases k with
 | zero => simp only [simpleP]; exact .out
 | succ k =>
  simp only [simpleP]
  rw [if_pos h]
  exact d_in1 (typ_d k) h
theorem loc_predT (n : Nat) (kd : Int) (s : ByteArray) : ∀ (k : Nat) (acc : List Tree), Loc Any fun ts => predT (simpleP n) kd s k ts acc
 | 0, _ => .out
 | k + 1, acc => by
  have ih := loc_predT n kd s k
  have hf := (loc_typ n).1
  simp only [predT]
  by_cases h6 : 6000 < acc.length
  ·simp only [if_pos h6]; exact .out
  ·simp only [if_neg h6]
   refine .ite (hf.bindN fun n => ih _) (.ifk (by decide) (hf.bindN fun n => ih _) (.ret _) fun t h => ?_) fun t h => .dead (.ok _) ((simp_sign n h).bind _)
   rcases simp_one n h with e | e <;> rw [e]
   ·exact .deadOut _
   ·show Rel Any t _ (predT _ _ _ _ [] _)
    rcases predT_nil (simpleP n) kd s k (acc ++ [⟨15, t.f1, []⟩]) with e | e <;> rw [e]
    ·exact .deadOut _
    ·exact .grown _ _ trivial
theorem modeT_nil (kd : Int) (s : ByteArray) (k : Nat) (acc : List Tree) : modeT kd s k [] acc = .out ∨ modeT kd s k [] acc = .ok ⟨kd, s, acc⟩ [] := by
 cases k with
 | zero => exact .inl rfl
 | succ k =>
  simp only [modeT]
  by_cases h : 6000 < acc.length
  ·rw [if_pos h]; exact .inl rfl
  ·rw [if_neg h]; exact .inr rfl
theorem loc_modeT (kd : Int) (s : ByteArray) : ∀ (k : Nat) (acc : List Tree), Loc Any fun ts => modeT kd s k ts acc
 | 0, _ => .out
 | k + 1, acc => by
  have ih := loc_modeT kd s k
  simp only [modeT]
  by_cases h6 : 6000 < acc.length
  ·simp only [if_pos h6]; exact .out
  ·simp only [if_neg h6]
   refine .ifk (by decide) (loc_node.bindN fun n => ih _) (.ret _) fun t h => ?_
   rw [node_one (.inl h)]
   show Rel Any t _ (modeT _ _ _ [] _)
   rcases modeT_nil kd s k (acc ++ [⟨if t.f0 = 2 then 16 else 15, t.f1, []⟩]) with e | e <;> rw [e]
   ·exact .deadOut _
   ·exact .grown _ _ trivial
theorem loc_item (k : Nat) (F : FuncId) (kd : Int) : Loc Any (itemF k F kd) := by
 have no : ∀ {p : List Tok → PR Tree}, Loc No p → Loc Any p := fun h => h.mono fun _ _ h => h.elim
 unfold itemF
 split
 ·exact no (loc_list k kd)
 split
 ·exact no (loc_const k kd)
 split
 ·exact loc_small.bindN fun s => loc_predT k kd s k _
 split
 ·exact loc_small.bindN fun s => loc_modeT kd s k _
 split
 ·exact loc_small.bindN fun s => (loc_want _).bindN fun _ => ((loc_level k).1 0).bind (fun y => .ret _) fun x y _ t => .grown _ _ trivial
 ·exact no (loc_small.bindN fun s => .ret _)
theorem item_d (k : Nat) (F : FuncId) (kd : Int) : D (itemF k F kd []) := by
 unfold itemF
 repeat' split
 all_goals exact .bad
def textB1 (kk k : Nat) (acc : List Tree) (r : List UInt8 × Int × FuncId) (ts : List Tok) : PR Tree := (itemF kk r.2.2 r.2.1 ts).bind fun y t2 => (wantP [46] t2).bind fun _ t3 => textT kk k t3 (acc ++ [y])
theorem loc_textT (kk : Nat) : ∀ (k : Nat) (acc : List Tree), Loc No fun ts => textT kk k ts acc
 | 0, _ => .out
 | k + 1, acc => by
  have ih := loc_textT kk k
  have hb : ∀ r, Loc No (textB1 kk k acc r) := fun r => (loc_item kk _ _).bindD (fun y => (loc_want _).bindN fun _ => ih _) fun x => (d_want _).bind _
  have hd : ∀ r, D (textB1 kk k acc r []) := fun r => (item_d kk _ _).bind _
  by_cases h6 : 6000 < acc.length
  ·simp only [textT, if_pos h6]; exact .out
  refine ⟨?_, fun ts t => ?_, fun ts => ?_⟩
  ·simp only [textT, if_neg h6]; exact .ok _
  ·cases ts with
   | nil =>
    simp only [textT, if_neg h6, List.nil_append]
    split
    ·exact .deadBad _ _
    ·split
     ·exact .dead (.ok _) (hd _)
     ·exact .deadBad _ _
   | cons a l =>
    simp only [textT, if_neg h6, List.cons_append]
    split
    ·exact .bad _ _
    ·split
     ·exact (hb _).rel l t
     ·exact .bad _ _
  ·cases ts with
   | nil => simp only [textT, if_neg h6, List.map_nil]; rfl
   | cons a l =>
    simp only [textT, if_neg h6, List.map_cons]
    show (match itemL.find? (fun (r : List UInt8 × Int × FuncId) => a.f1 == (⟨r.1.toArray⟩ : ByteArray)) with | none => PR.bad (er a :: l.map er) | some r => if a.f0 = 4 then textB1 kk k acc r (l.map er) else .bad (er a :: l.map er)) = (match itemL.find? (fun (r : List UInt8 × Int × FuncId) => a.f1 == (⟨r.1.toArray⟩ : ByteArray)) with | none => PR.bad (a :: l) | some r => if a.f0 = 4 then textB1 kk k acc r l else .bad (a :: l)).er
    generalize itemL.find? (fun (r : List UInt8 × Int × FuncId) => a.f1 == (⟨r.1.toArray⟩ : ByteArray)) = o
    cases o with
    | none => rfl
    | some r =>
     show (if a.f0 = 4 then textB1 kk k acc r (l.map er) else .bad (er a :: l.map er)) = (if a.f0 = 4 then textB1 kk k acc r l else .bad (a :: l)).er
     split
     ·exact (hb _).inv l
     ·rfl
theorem loc_text (k : Nat) : Loc No (textP k) := loc_textT k k []
end Go.Proofs.YtbndfgoklgdfdaaGreatDoor.P
end
section
set_option linter.unusedSimpArgs false
namespace Go.Proofs.YtbndfgoklgdfdaaGreatDoor.P
open Go.RowKit Go.Proofs.YtbndfgoklgdfdaaGreatDoorW.PrintWords Go.Proofs.YtbndfgoklgdfdaaGreatDoorW.PrintLast Go.Proofs.YtbndfgoklgdfdaaGreatDoorW.PrintMore
theorem nd_pos (x : Tree) : 1 ≤ ndT x := by obtain ⟨k, s, l⟩ := x; rw [ndT]; omega
mutual
theorem cnt_min : ∀ (x : Tree) (s : Int), s ≤ 4000 → cntT x s = min (s + ndT x) 4001
 | ⟨_, _, l⟩, s, h => by
  rw [cntT, cntL_min l (s + 1) (by omega), ndT]
  congr 1
  omega
theorem cntL_min : ∀ (l : List Tree) (s : Int), s ≤ 4001 → cntL l s = min (s + ndL l) 4001
 | [], s, h => by rw [cntL, ndL]; omega
 | x :: l, s, h => by
  rw [cntL, ndL]
  by_cases h1 : s ≤ 4000
  ·rw [if_pos h1, cnt_min x s h1, cntL_min l _ (by omega)]
   omega
  ·rw [if_neg h1]
   have := nd_pos x
   omega
end
theorem cnt_nd (x : Tree) : cntT x 0 = min (ndT x : Int) 4001 := by rw [cnt_min x 0 (by omega)]; omega
/-- A child in a row: its cells, and its own row. -/
structure Kid (w : World) (a : Addr) (y : Tree) (A : Option Addr) (c : Nat) : Prop where
 c0 : w.cell? a = some (.int .i64 y.f0)
 c1 : w.cell? ⟨a.block, a.off + 1, none⟩ = some (.string y.f1)
 c2 : w.cell? ⟨a.block, a.off + 2, none⟩ = some (.slice A y.f2.length c)
 len : y.f2.length ≤ c
 row : Kd.C k25 w A y.f2.length y.f2
end Go.Proofs.YtbndfgoklgdfdaaGreatDoor.P
end
section
set_option linter.unusedSimpArgs false
namespace Go.Proofs.YtbndfgoklgdfdaaGreatDoor.P
open Go.RowKit Go.Proofs.YtbndfgoklgdfdaaGreatDoorW.PrintWords Go.Proofs.YtbndfgoklgdfdaaGreatDoorW.PrintLast Go.Proofs.YtbndfgoklgdfdaaGreatDoorW.PrintMore
end Go.Proofs.YtbndfgoklgdfdaaGreatDoor.P
end
section
set_option linter.unusedSimpArgs false
namespace Go.Proofs.YtbndfgoklgdfdaaGreatDoor.P
open Go.RowKit Go.Proofs.YtbndfgoklgdfdaaGreatDoorW.PrintWords Go.Proofs.YtbndfgoklgdfdaaGreatDoorW.PrintLast Go.Proofs.YtbndfgoklgdfdaaGreatDoorW.PrintMore
end Go.Proofs.YtbndfgoklgdfdaaGreatDoor.P
end
section
set_option linter.unusedSimpArgs false
namespace Go.Proofs.YtbndfgoklgdfdaaGreatDoor.P
open Go.RowKit Go.Proofs.YtbndfgoklgdfdaaGreatDoorW.PrintWords Go.Proofs.YtbndfgoklgdfdaaGreatDoorW.PrintLast Go.Proofs.YtbndfgoklgdfdaaGreatDoorW.PrintMore
end Go.Proofs.YtbndfgoklgdfdaaGreatDoor.P
end
section
set_option linter.unusedSimpArgs false
namespace Go.Proofs.YtbndfgoklgdfdaaGreatDoor.P
open Go.RowKit Go.Proofs.YtbndfgoklgdfdaaGreatDoorW.PrintWords Go.Proofs.YtbndfgoklgdfdaaGreatDoorW.PrintLast Go.Proofs.YtbndfgoklgdfdaaGreatDoorW.PrintMore
end Go.Proofs.YtbndfgoklgdfdaaGreatDoor.P
end
section
set_option linter.unusedSimpArgs false
namespace Go.Proofs.YtbndfgoklgdfdaaGreatDoor.P
open Go.RowKit Go.Proofs.YtbndfgoklgdfdaaGreatDoorW.PrintWords Go.Proofs.YtbndfgoklgdfdaaGreatDoorW.PrintLast Go.Proofs.YtbndfgoklgdfdaaGreatDoorW.PrintMore
def textB (x : Tree) : Bool := x.f0 == 1 && (x.f1.toList == [] && x.f2.all isItemT)
theorem tree_parts (x : Tree) : isTreeT x = (isTypeT x || (isTermT x || (isFormT x || (isItemT x || textB x)))) := by
 obtain ⟨a, s, l⟩ := x
 unfold isTreeT textB
 dsimp only
 by_cases h1 : a = 1
 ·subst h1
  rw [if_pos rfl]
  have e1 : isTypeT ⟨1, s, l⟩ = false := by rw [isTypeT_eq]; rfl
  have e2 : isTermT ⟨1, s, l⟩ = false := by rw [isTermT_eq]; rfl
  have e3 : isFormT ⟨1, s, l⟩ = false := by
   rw [isFormT_eq, if_neg (by decide), if_neg (by decide)]
   have hs1 : sizeF 1 = -1 := by decide
   have : ((l.length : Int) == sizeF 1) = false := beq_eq_false_iff_ne.2 (by omega)
   rw [this, Bool.false_and, Bool.and_false]
  have e4 : isItemT ⟨1, s, l⟩ = false := by
   unfold isItemT
   dsimp only
   rw [if_neg (by decide), if_neg (by decide), if_neg (by decide), if_neg (by decide), if_neg (by decide)]
   simp
  rw [e1, e2, e3, e4]
  rfl
 ·rw [if_neg h1, show (a == 1) = false from beq_eq_false_iff_ne.2 h1, Bool.false_and, Bool.or_false]
/-- The reference's Check. -/
theorem checkT_parts (x : Tree) : checkT x = if 4000 < min (ndT x : Int) 4001 then 2 else if deepN 100 x then 5 else if isTypeT x then 0 else if isTermT x then 0 else if isFormT x then 0 else if isItemT x then 0 else if textB x then 0 else 21 := by
 unfold checkT
 rw [cnt_nd, tree_parts]
 cases isTypeT x <;> cases isTermT x <;> cases isFormT x <;> cases isItemT x <;> cases textB x <;> rfl
end Go.Proofs.YtbndfgoklgdfdaaGreatDoor.P
end
section
namespace Go.Proofs.YtbndfgoklgdfdaaGreatDoor.P
open Go.RowKit Go.Proofs.YtbndfgoklgdfdaaGreatDoorW.PrintWords Go.Proofs.YtbndfgoklgdfdaaGreatDoorW.PrintLast Go.Proofs.YtbndfgoklgdfdaaGreatDoorW.PrintMore
theorem ndL_app : ∀ (l m : List Tree), ndL (l ++ m) = ndL l + ndL m
 | [], m => by rw [List.nil_append, ndL]; omega
 | x :: l, m => by rw [List.cons_append, ndL, ndL, ndL_app l m]; omega
theorem gr_nd {x y : Tree} (h : Gr x y) : ndT x ≤ ndT y := by
 induction h with
 | more k s l a nm hk => rw [ndT, ndT, ndL_app]; omega
 | last k s l x y hk h ih => rw [ndT, ndT, ndL_app, ndL_app, ndL, ndL]; simp only [ndL]; omega
theorem gr_deep : ∀ (m : Nat) {x y : Tree}, Gr x y → deepN m x = true → deepN m y = true
 | 0, _, _, _, _ => rfl
 | m + 1, x, y, h, hd => by
  cases h with
  | more k s l a nm hk =>
   simp only [deepN, List.any_append, Bool.or_eq_true] at hd ⊢
   exact .inl hd
  | last k s l x y hk h =>
   simp only [deepN, List.any_append, Bool.or_eq_true, List.any_cons, List.any_nil, Bool.or_false] at hd ⊢
   exact hd.imp id (gr_deep m h)
theorem gr_type {x y : Tree} (h : Gr x y) : isTypeT y = false := by
 rw [isTypeT_eq]
 cases h with
 | more k s l a nm hk =>
  have h1 : (k == 31) = false := beq_eq_false_iff_ne.2 (by omega)
  simp [isWordB, h1]
 | last k s l x y hk h =>
  have h1 : (k == 31) = false := beq_eq_false_iff_ne.2 (by omega)
  simp [isWordB, h1]
theorem headB_snoc (l : List Tree) (x y : Tree) : headB (l ++ [x]) = headB (l ++ [y]) := by
 rcases l with _ | ⟨a, _ | ⟨b, l⟩⟩
 ·rfl
 ·rfl
 ·cases l <;> rfl
theorem term_15 (s : ByteArray) (l : List Tree) : isTermT ⟨15, s, l⟩ = (nameB s && (decide ((l.length : Int) ≤ 8) && l.all isTermT)) := by rw [isTermT_eq, if_pos rfl]
theorem term_16 (s : ByteArray) (l : List Tree) : isTermT ⟨16, s, l⟩ = (varB s && (decide ((l.length : Int) ≤ 8) && l.all isTermT)) := by rw [isTermT_eq, if_neg (by decide), if_pos rfl]
theorem term_17 (s : ByteArray) (l : List Tree) : isTermT ⟨17, s, l⟩ = ((nameB s || varB s) && (headB l && lastB isTermT l)) := by rw [isTermT_eq, if_neg (by decide), if_neg (by decide), if_pos rfl, bindsB_eq]
theorem term_18 {k : Int} (hk : 17 < k) (s : ByteArray) (l : List Tree) : isTermT ⟨k, s, l⟩ = false := by rw [isTermT_eq, if_neg (by omega), if_neg (by omega), if_neg (by omega)]
theorem and8 {a : Bool} {l : List Tree} {x : Tree} (h : (a && (decide (((l ++ [x]).length : Int) ≤ 8) && (l ++ [x]).all isTermT)) = true) : (a && (decide ((l.length : Int) ≤ 8) && l.all isTermT)) = true := by
 simp only [Bool.and_eq_true, decide_eq_true_eq, List.all_append, List.length_append] at h ⊢
 obtain ⟨h1, h2, h3, _⟩ := h
 exact ⟨h1, by omega, h3⟩
theorem gr_term {x y : Tree} (h : Gr x y) : isTermT y = true → isTermT x = true := by
 induction h with
 | more k s l a nm hk =>
  rcases hk with rfl | rfl
  ·rw [term_15, term_15]; exact and8
  ·rw [term_16, term_16]; exact and8
 | last k s l x y hk h ih =>
  by_cases h17 : k = 17
  ·subst h17
   rw [term_17, term_17, lastB_snoc, lastB_snoc, headB_snoc l x y]
   simp only [Bool.and_eq_true]
   rintro ⟨h1, h2, h3⟩
   exact ⟨h1, h2, ih h3⟩
  ·rw [term_18 (by omega)]
   intro h
   cases h
theorem form_15 (s : ByteArray) (l : List Tree) : isFormT ⟨15, s, l⟩ = isTermT ⟨15, s, l⟩ := by rw [isFormT_eq, if_pos rfl]
theorem form_18 {k : Int} (hk : k = 18 ∨ k = 19) (s : ByteArray) (l : List Tree) : isFormT ⟨k, s, l⟩ = ((nameB s || varB s) && (headB l && lastB isFormT l)) := by rw [isFormT_eq, if_neg (by omega), if_pos hk, bindsB_eq]
theorem form_20 {k : Int} (h15 : k ≠ 15) (hk : ¬ (k = 18 ∨ k = 19)) (s : ByteArray) (l : List Tree) : isFormT ⟨k, s, l⟩ = (s.toList == [] && ((l.length : Int) == sizeF k && l.all isFormT)) := by rw [isFormT_eq, if_neg h15, if_neg hk]
theorem gr_form {x y : Tree} (h : Gr x y) : isFormT y = true → isFormT x = true := by
 induction h with
 | more k s l a nm hk =>
  rcases hk with rfl | rfl
  ·rw [form_15, form_15]
   exact gr_term (Gr.more 15 s l a nm (.inl rfl))
  ·rw [form_20 (by decide) (by decide), show sizeF 16 = -1 by decide, beq_eq_false_iff_ne.2 (show (((l ++ [(⟨a, nm, []⟩ : Tree)]).length : Int) ≠ -1) by omega)]
   simp
 | last k s l x y hk h ih =>
  by_cases h18 : k = 18 ∨ k = 19
  ·rw [form_18 h18, form_18 h18, lastB_snoc, lastB_snoc, headB_snoc l x y]
   simp only [Bool.and_eq_true]
   rintro ⟨h1, h2, h3⟩
   exact ⟨h1, h2, ih h3⟩
  ·rw [form_20 (by omega) h18, form_20 (by omega) h18]
   simp only [Bool.and_eq_true, List.all_append, List.all_cons, List.all_nil, Bool.and_true, List.length_append, List.length_cons, List.length_nil]
   rintro ⟨h1, h2, h3, h4⟩
   exact ⟨h1, h2, h3, ih h4⟩
theorem gr_kind {x y : Tree} (h : Gr x y) : 15 ≤ y.f0 ∧ y.f0 ≤ 30 := by
 cases h with
 | more k s l a nm hk => exact ⟨by show 15 ≤ k; omega, by show k ≤ 30; omega⟩
 | last k s l x y hk h => exact ⟨by show 15 ≤ k; omega, by show k ≤ 30; omega⟩
theorem item_kind {x : Tree} (h : 15 ≤ x.f0) : isItemT x = false := by
 unfold isItemT
 rw [if_neg (by omega), if_neg (by omega), if_neg (by omega), if_neg (by omega), if_neg (by omega)]
 have h1 : (x.f0 == 12) = false := beq_eq_false_iff_ne.2 (by omega)
 have h2 : (x.f0 == 13) = false := beq_eq_false_iff_ne.2 (by omega)
 rw [h1, h2]
 simp
/-- What is valid with one more leaf at its end was valid without. -/
theorem gr_check {x y : Tree} (h : Gr x y) (hc : checkT y = 0) : checkT x = 0 := by
 rw [checkT_parts] at hc ⊢
 by_cases h1 : 4000 < min (ndT y : Int) 4001
 ·rw [if_pos h1] at hc; cases hc
 rw [if_neg h1] at hc
 rw [if_neg (by have := gr_nd h; omega)]
 by_cases h2 : deepN 100 y = true
 ·rw [if_pos h2] at hc; cases hc
 rw [if_neg h2] at hc
 rw [if_neg (fun hd => h2 (gr_deep 100 h hd))]
 have f : ¬ (false = true) := by decide
 have hk := gr_kind h
 have hi := item_kind hk.1
 have ht : textB y = false := by unfold textB; rw [beq_eq_false_iff_ne.2 (by omega)]; rfl
 rw [gr_type h, hi, ht, if_neg f] at hc
 have key : isTermT x = true ∨ isFormT x = true := by
  by_cases h3 : isTermT y = true
  ·exact .inl (gr_term h h3)
  rw [if_neg h3] at hc
  by_cases h4 : isFormT y = true
  ·exact .inr (gr_form h h4)
  ·rw [if_neg h4, if_neg f, if_neg f] at hc; cases hc
 rcases key with e | e <;> rw [e] <;> simp
end Go.Proofs.YtbndfgoklgdfdaaGreatDoor.P
end
