/- Check: the program's and the reference's, as one plain test on bytes. The reference's tests on types, binders, terms (printed by mkr.py). The reference's tests on formulas and lists (printed by mkr.py). The reference's tests on lists, items and texts; Check (printed by mkr.py). -/
import Derived.Test.YtbndfgoklgdfdaaGreatDoorSc27
import Derived.Test.YtbndfgoklgdfdaaGreatDoorSc08
import Derived.Test.YtbndfgoklgdfdaaGreatDoorSc25
import Derived.Test.YtbndfgoklgdfdaaGreatDoorSc24
set_option linter.all false
section
namespace Go.Proofs.YtbndfgoklgdfdaaGreatDoor.P
open Go.RowKit Go.Proofs.YtbndfgoklgdfdaaGreatDoorW.PrintWords Go.Proofs.YtbndfgoklgdfdaaGreatDoorW.PrintLast Go.Proofs.YtbndfgoklgdfdaaGreatDoorW.PrintMore

/-- Is it, from end to end, a token of this kind? -/
def vTok (kd : Int) (l : List UInt8) : Bool :=
 match tok l with
 | none => false
 | some (k, n) => (k : Int) == kd && n == l.length && decide (l.length ≤ 40)
theorem scanA_prefix : ∀ (f : Nat) (l : List UInt8) (i : Nat) (acc : List S65), (scanA f l i acc).2.2 = 0 → ∃ t, (scanA f l i acc).1 = acc ++ t
 | 0, _, _, acc, _ => ⟨[], by simp [scanA]⟩
 | _ + 1, [], _, acc, _ => ⟨[], by simp [scanA]⟩
 | f + 1, b :: r, i, acc, h => by
  simp only [scanA] at h ⊢
  split
  ·rename_i ht; rw [ht] at h; simp at h
  ·rename_i kd n ht
   rw [ht] at h
   simp only at h
   split
   ·rename_i h6; rw [if_pos h6] at h; simp at h
   ·rename_i h6
    rw [if_neg h6] at h
    split
    ·rename_i h40; rw [if_pos h40] at h; simp at h
    ·rename_i h40
     rw [if_neg h40] at h
     obtain ⟨t, ht2⟩ := scanA_prefix f _ _ _ h
     exact ⟨_ :: t, by rw [ht2, List.append_assoc]; rfl⟩
theorem tok_blank {l : List UInt8} (h : skipN false l ≠ 0) : tok l = none := by
 match l, h with
 | b :: r, h =>
  have hb : blankB b = true ∨ b = 37 := by
   by_cases hb : blankB b = true
   ·exact .inl hb
   ·by_cases h37 : b = 37
    ·exact .inr h37
    ·simp [skipN, hb, h37] at h
  have := of_bytes (p := fun b => !(blankB b || b == 37) || (!smallB b && !capB b && !(b == 45) && !(b == 61) && !(b == 60) && !onesL.contains b)) (by decide +kernel) b
  have hbb : (blankB b || b == 37) = true := by rcases hb with h | h <;> simp [h]
  rw [hbb] at this
  simp only [Bool.not_true, Bool.false_or, Bool.and_eq_true, Bool.not_eq_true', beq_eq_false_iff_ne] at this
  obtain ⟨⟨⟨⟨⟨h1, h2⟩, h3⟩, h4⟩, h5⟩, h6⟩ := this
  simp only [tok]
  rw [if_neg (by rw [h1]; simp), if_neg (by rw [h2]; simp), if_neg (by simp [h3, h4, h5]), if_neg (by simp [h3]), if_neg (by rw [h6]; simp)]
theorem mk_toList (l : List UInt8) : (ByteArray.mk l.toArray).toList = l := by rw [Lib.toList_data]
theorem okT_vTok (t : S65) : okT t = vTok t.f0 t.f1.data.toList := by
 obtain ⟨l, hl⟩ : ∃ l, l = t.f1.data.toList := ⟨_, rfl⟩
 have hlt : t.f1.toList = l := by rw [Lib.toList_data, hl]
 unfold okT
 rw [hlt, ← hl]
 unfold vTok
 by_cases hbig : 20000 < l.length
 ·have : scanL l = ([], 0, 2) := by unfold scanL; rw [if_pos hbig]
  rw [this]
  cases ht : tok l with
  | none => rfl
  | some p =>
   obtain ⟨kd, n⟩ := p
   simp
   omega
 ·have hsc : scanL l = scanA (l.length + 1) (l.drop (skipN false l)) (skipN false l) [] := by unfold scanL; rw [if_neg hbig]
  by_cases hsk : skipN false l = 0
  ·rw [hsk, List.drop_zero] at hsc
   match l, hsc with
   | [], hsc => rw [hsc]; rfl
   | b :: r, hsc =>
    cases ht : tok (b :: r) with
    | none =>
     have : scanL (b :: r) = ([], ((0 : Nat) : Int), 10) := by rw [hsc]; simp only [scanA, ht]
     rw [this]
    | some p =>
     obtain ⟨kd, n⟩ := p
     have hk := tok_kind ht
     have hn := tok_le ht
     by_cases h40 : (kd = 1 ∨ kd = 2) ∧ 40 < n
     ·have : scanL (b :: r) = ([], ((0 : Nat) : Int), 11) := by
       rw [hsc]
       simp only [scanA, ht]
       rw [if_neg (by simp), if_pos h40]
      rw [this]
      simp at hn ⊢
      omega
     ·have hst : scanL (b :: r) = scanA (b :: r).length (((b :: r).drop n).drop (skipN false ((b :: r).drop n))) (0 + n + skipN false ((b :: r).drop n)) ([] ++ [⟨kd, ⟨((b :: r).take n).toArray⟩, ((0 : Nat) : Int)⟩]) := by
       rw [hsc]
       simp only [scanA, ht]
       rw [if_neg (by simp), if_neg h40]
      rw [List.nil_append] at hst
      by_cases hnl : n = (b :: r).length
      ·have hfin : scanL (b :: r) = ([⟨kd, ⟨((b :: r).take n).toArray⟩, ((0 : Nat) : Int)⟩], 0, 0) := by
        rw [hst, hnl, List.drop_length]
        simp [skipN, scanA]
       rw [hfin]
       simp only [mk_toList]
       rw [hnl, List.take_length]
       simp at hk hnl ⊢
       intro _
       omega
      ·have hpre := scanA_prefix (b :: r).length (((b :: r).drop n).drop (skipN false ((b :: r).drop n))) (0 + n + skipN false ((b :: r).drop n)) [⟨kd, ⟨((b :: r).take n).toArray⟩, ((0 : Nat) : Int)⟩]
       rw [← hst] at hpre
       have hrhs : (match (some (kd, n) : Option (Nat × Nat)) with | none => false | some (k, n) => (k : Int) == t.f0 && n == (b :: r).length && decide ((b :: r).length ≤ 40)) = false := by
        show ((kd : Int) == t.f0 && n == (b :: r).length && decide ((b :: r).length ≤ 40)) = false
        rw [show (n == (b :: r).length) = false from beq_eq_false_iff_ne.2 hnl, Bool.and_false, Bool.false_and]
       refine Eq.trans ?_ hrhs.symm
       rcases hs : scanL (b :: r) with ⟨res, a, e⟩
       rw [hs] at hpre
       match res, hpre with
       | [], _ => rfl
       | [y], hpre =>
        by_cases he : e = 0
        ·obtain ⟨t', ht'⟩ := hpre he
         have hy : y = ⟨kd, ⟨((b :: r).take n).toArray⟩, ((0 : Nat) : Int)⟩ := by
          simp at ht'
          exact ht'.1
         rw [hy]
         simp only [mk_toList]
         rw [show ((b :: r).take n == b :: r) = false from beq_eq_false_iff_ne.2 fun h => by
          have := congrArg List.length h
          rw [List.length_take] at this
          omega]
         simp
        ·simp [he]
       | _ :: _ :: _, _ => rfl
  ·rw [tok_blank hsk]
   rw [hsc]
   rcases hs : scanA (l.length + 1) (l.drop (skipN false l)) (skipN false l) [] with ⟨res, a, e⟩
   match res, hs with
   | [], _ => rfl
   | _ :: _ :: _, _ => rfl
   | [y], hs =>
    by_cases he : e = 0
    ·have hys : y.f1.toList.length ≤ l.length - skipN false l := by
      rcases hd : l.drop (skipN false l) with _ | ⟨b, r⟩
      ·rw [hd] at hs
       simp [scanA] at hs
      ·rw [hd] at hs
       have hlen := congrArg List.length hd
       rw [List.length_drop] at hlen
       simp only [scanA] at hs
       split at hs
       ·simp at hs
       ·rename_i kd n ht
        have hn := tok_le ht
        split at hs
        ·simp at hs
        ·split at hs
         ·simp at hs
         ·have hpre := scanA_prefix _ _ _ _ (by rw [hs]; exact he)
          obtain ⟨t', ht'⟩ := hpre
          rw [hs] at ht'
          simp at ht'
          rw [ht'.1, mk_toList, List.length_take]
          simp at hn hlen ⊢
          omega
     simp only
     rw [show (y.f1.toList == l) = false from beq_eq_false_iff_ne.2 fun h => by
      have h1 := congrArg List.length h
      have h2 := skipN_le false l
      omega]
     simp
    ·simp [he]
theorem refCheck_f (kd : Int) (s : ByteArray) (a : Int) (k : Nat) (hk : 200 < k) (hs : s.size ≤ 140737488351232) : peculiumref01_Check.f k kd s a = some (if vTok kd s.data.toList then 0 else 12) := by
 obtain ⟨k, rfl⟩ : ∃ m, k = m + 1 := ⟨k - 1, by omega⟩
 have ht12 : peculiumref01_Check.j0 (k + 1) true kd s a = some 12 := by rw [peculiumref01_Check.j0, if_pos rfl]
 unfold peculiumref01_Check.f
 by_cases h0 : s.size = 0
 ·rw [if_pos (by omega), ht12]
  have : s.data.toList = [] := List.eq_nil_of_length_eq_zero (by simpa using h0)
  rw [this]
  rfl
 ·rw [if_neg (by omega)]
  by_cases h40 : 40 < s.size
  ·rw [if_pos (by omega), ht12]
   have : vTok kd s.data.toList = false := by
    unfold vTok
    split
    ·rfl
    ·simp
     omega
   rw [this]
   rfl
  ·rw [if_neg (by omega), if_pos (by omega)]
   have hdr := drop_cons' s 0 (by omega)
   rw [List.drop_zero] at hdr
   have hb0 := bt_nat s 0 (by omega)
   rw [show ((0 : Nat) : Int) = 0 from rfl] at hb0
   rw [hb0, blank_f, Option.bind_some]
   by_cases hb : blankB s[0] = true
   ·rw [if_pos hb, ht12]
    have : vTok kd s.data.toList = false := by
     unfold vTok
     rw [tok_blank (by rw [hdr, skipN, if_pos hb]; omega)]
    rw [this]
    rfl
   ·rw [if_neg hb]
    by_cases h37 : s[0] = 37
    ·have : (((s[0].toNat : Int)) == 37) = true := by rw [h37]; rfl
     rw [this, ht12]
     have : vTok kd s.data.toList = false := by
      unfold vTok
      rw [tok_blank (by rw [hdr, skipN, if_neg hb, if_pos h37]; omega)]
     rw [this]
     rfl
    ·have : (((s[0].toNat : Int)) == 37) = false := beq_eq_false_iff_ne.2 fun h => h37 ((byte37 _).1 h)
     rw [this, peculiumref01_Check.j0, if_neg (by simp)]
     have ht := rtok_f s hs 0 (by omega) k (by omega)
     rw [show ((0 : Nat) : Int) = 0 from rfl] at ht
     rw [ht, Option.bind_some, List.drop_zero]
     unfold tokR vTok
     cases htk : tok s.data.toList with
     | none =>
      simp only
      rw [if_neg (show ¬ (0 : Int) = (s.size : Int) by omega)]
      split <;> rfl
     | some p =>
      obtain ⟨kk, n⟩ := p
      have hkk := tok_kind htk
      simp only
      by_cases h1 : (kk : Int) = kd
      ·rw [if_pos h1]
       by_cases h2 : n = s.size
       ·rw [if_pos (by omega), if_neg (by omega)]
        simp [h1, h2]
        omega
       ·rw [if_neg (by omega)]
        simp [h2]
      ·rw [if_neg h1]
       simp [h1]

end Go.Proofs.YtbndfgoklgdfdaaGreatDoor.P
end
section
set_option linter.unusedSimpArgs false
namespace Go.Proofs.YtbndfgoklgdfdaaGreatDoor.P
open Go.RowKit Go.Proofs.YtbndfgoklgdfdaaGreatDoorW.PrintWords Go.Proofs.YtbndfgoklgdfdaaGreatDoorW.PrintLast Go.Proofs.YtbndfgoklgdfdaaGreatDoorW.PrintMore
theorem rName_on (s : ByteArray) (hs : s.size ≤ strMax) (w : World) : Calls Tryz.prog 67 #[.string s] w fun e w' => e = .returned (.bool (nameB s)) ∧ Below w.heap.size w w' := by
 refine peculiumref01_IsName.calls 201 s _ w ?_
 unfold peculiumref01_IsName.f nameB
 rw [refCheck_f 1 s 0 201 (by omega) hs, okT_vTok, Option.bind_some]
 cases vTok 1 s.data.toList <;> rfl
theorem rVar_on (s : ByteArray) (hs : s.size ≤ strMax) (w : World) : Calls Tryz.prog 69 #[.string s] w fun e w' => e = .returned (.bool (varB s)) ∧ Below w.heap.size w w' := by
 refine peculiumref01_IsVar.calls 201 s _ w ?_
 unfold peculiumref01_IsVar.f varB
 rw [refCheck_f 2 s 0 201 (by omega) hs, okT_vTok, Option.bind_some]
 cases vTok 2 s.data.toList <;> rfl
theorem Kid.cells {w : World} {a : Addr} {y : Tree} {A : Option Addr} {c : Nat} (h : Kid w a y A c) : w.cell? a = some (.int .i64 y.f0) ∧ w.cell? ⟨a.block, a.off + 1, none⟩ = some (.string y.f1) ∧ w.cell? ⟨a.block, a.off + 2, none⟩ = some (.slice A y.f2.length c) := ⟨h.c0, h.c1, h.c2⟩
theorem kid_0 {w : World} {l : List Tree} {A : Option Addr} (hC : Kd.C k25 w A l.length l) (y : Tree) (hy : l[0]? = some y) : ∃ a A2 c2, A = some a ∧ Kid w a y A2 c2 := by
 obtain ⟨a, A2, c2, e, p0, p1, p2, h1, h2⟩ := kid_at hC 0 (by have := (List.getElem?_eq_some_iff.1 hy).1; omega) y hy
 simp only [Nat.zero_mul, addr_add0] at p0 p1 p2
 exact ⟨a, A2, c2, e, p0, p1, p2, h1, h2⟩
theorem kid_1 {w : World} {l : List Tree} {a : Addr} (hC : Kd.C k25 w (some a) l.length l) (y : Tree) (hy : l[1]? = some y) : ∃ A2 c2, Kid w ⟨a.block, a.off + 3, none⟩ y A2 c2 := by
 obtain ⟨a', A2, c2, e, p0, p1, p2, h1, h2⟩ := kid_at hC 1 (List.getElem?_eq_some_iff.1 hy).1 y hy
 cases e
 simp only [Nat.one_mul, addr_add3] at p0 p1 p2
 exact ⟨A2, c2, p0, p1, p2, h1, h2⟩
set_option maxRecDepth 100000 in
set_option maxHeartbeats 16000000 in
theorem rType_on : ∀ (n : Nat) (x : Tree), SizeOf.sizeOf x < n → szT x = true → IsOn 37 isTypeT x
 | 0, x, h, _ => absurd h (Nat.not_lt_zero _)
 | n + 1, ⟨k, s, l⟩, hn, hz => by
  intro A c w hc hC
  have HIH : Hid (∀ y ∈ l, IsOn 37 isTypeT y) := Lib.hid fun y hy => rType_on n y (by have := kid_lt (x := ⟨k, s, l⟩) hy; omega) (szT_mem hz hy)
  have HZ : Hid (s.size ≤ strMax) := Lib.hid (szT_name hz)
  have HC : Hid (Kd.C k25 w A l.length l) := Lib.hid hC
  obtain ⟨R, hR⟩ : ∃ R, R = isTypeT ⟨k, s, l⟩ := ⟨_, rfl⟩
  rw [← hR]
  rw [isTypeT_eq] at hR
  unfold isWordB at hR
  dsimp only at hR hc ⊢
  have HR := Lib.hid hR
  clear hC hz hn hR
  have hll : l.isEmpty = ((l.length : Int) == 0) := by cases l <;> simp; omega
  have key : (∃ b c, l = [b, c]) ∨ ((l.length : Int) == 2) = false := by
   rcases l with _ | ⟨b, _ | ⟨c, _ | ⟨d, l⟩⟩⟩
   ·exact .inr rfl
   ·exact .inr rfl
   ·exact .inl ⟨b, c, rfl⟩
   ·exact .inr (beq_eq_false_iff_ne.2 (by simp; omega))
  cases h31 : (k == 31)
  ·cases h15 : (k == 15) <;> cases h0 : ((l.length : Int) == 0) <;> cases hv : nameB s
   all_goals
    go_enter Tryz.func37, Tryz.ntmps37
    go_wp2_with (first
     | ((with_reducible refine gate_dst (N := 1) rfl ?_); refine ev_tree (x := ⟨_, s, l⟩) (A := A) (c := c) rfl rfl rfl rfl ?_; intro b w1_ HX; obtain ⟨qa, qb, qc⟩ := rd3 HX.out.at_; try dsimp only at qa qb qc)
     | (go_at_call 67; refine (rName_on s HZ.out _).mono ?_; rintro e w2_ ⟨rfl, hb_⟩; clear qa qb qc; replace HX := Lib.hid (HX.out.call hb_); clear hb_; obtain ⟨qa, qb, qc⟩ := rd3 HX.out.at_; try dsimp only at qa qb qc; rw [hv]))
    go_ret
    exact ⟨by rw [HR.out]; simp [*], HX.out.below⟩
  ·have h15 : (k == 15) = false := by rw [beq_iff_eq.1 h31]; rfl
   rcases key with ⟨y, z, hx⟩ | h2
   ·have h2 : (l.length : Int) = 2 := by rw [hx]; rfl
    have HIY := Lib.hid (HIH.out y (by rw [hx]; simp))
    have HIZ := Lib.hid (HIH.out z (by rw [hx]; simp))
    obtain ⟨a0, AY, cY, e0, kk⟩ := kid_0 HC.out y (by rw [hx]; rfl)
    subst e0
    have KY := Lib.hid kk
    clear kk
    obtain ⟨AZ, cZ, kk⟩ := kid_1 HC.out z (by rw [hx]; rfl)
    have KZ := Lib.hid kk
    clear kk
    have HR2 : Hid (R = (s.toList == [] && (isTypeT y && isTypeT z))) := Lib.hid (by rw [HR.out, h15, h31, hx]; simp)
    clear hx HR
    cases he : (s.toList == ([] : List UInt8)) <;> cases hy : isTypeT y
    all_goals
     go_enter Tryz.func37, Tryz.ntmps37
     go_wp2_with (first
      | ((with_reducible refine gate_dst (N := 1) rfl ?_); refine ev_tree (x := ⟨_, s, l⟩) (A := (some a0)) (c := c) rfl rfl rfl rfl ?_; intro b w1_ HX; obtain ⟨qa, qb, qc⟩ := rd3 HX.out.at_; try dsimp only at qa qb qc; obtain ⟨Y0, Y1, Y2⟩ := (KY.out.below HX.out.below).cells; obtain ⟨Z0, Z1, Z2⟩ := (KZ.out.below HX.out.below).cells)
      | (go_at_call 37; refine (HIY.out AY cY _ KY.out.len (KY.out.below HX.out.below).row).mono ?_; rintro e w2_ ⟨rfl, hb_⟩; clear qa qb qc Z0 Z1 Z2; replace HX := Lib.hid (HX.out.call hb_); clear hb_; obtain ⟨qa, qb, qc⟩ := rd3 HX.out.at_; try dsimp only at qa qb qc; obtain ⟨Z0, Z1, Z2⟩ := (KZ.out.below HX.out.below).cells; clear HIY Y0 Y1 Y2; rw [hy])
      | (go_at_call 37; refine (HIZ.out AZ cZ _ KZ.out.len (KZ.out.below HX.out.below).row).mono ?_; rintro e w2_ ⟨rfl, hb_⟩; clear qa qb qc Z0 Z1 Z2; replace HX := Lib.hid (HX.out.call hb_); clear hb_; obtain ⟨qa, qb, qc⟩ := rd3 HX.out.at_; try dsimp only at qa qb qc; obtain ⟨Z0, Z1, Z2⟩ := (KZ.out.below HX.out.below).cells))
     go_ret
     exact ⟨by rw [HR2.out]; simp [*], HX.out.below⟩
   ·cases he : (s.toList == ([] : List UInt8))
    all_goals
     go_enter Tryz.func37, Tryz.ntmps37
     go_wp2_with (first
      | ((with_reducible refine gate_dst (N := 1) rfl ?_); refine ev_tree (x := ⟨_, s, l⟩) (A := A) (c := c) rfl rfl rfl rfl ?_; intro b w1_ HX; obtain ⟨qa, qb, qc⟩ := rd3 HX.out.at_; try dsimp only at qa qb qc))
     go_ret
     exact ⟨by rw [HR.out]; simp [*], HX.out.below⟩
def binderB (x : Tree) : Bool := (nameB x.f1 || varB x.f1) && headB x.f2
theorem heads (l : List Tree) : (∃ b, l = [b]) ∨ (∃ b c, l = [b, c]) ∨ ((l.length : Int) == 1) = false ∧ ((l.length : Int) == 2) = false ∧ headB l = false := by
 rcases l with _ | ⟨b, _ | ⟨c, _ | ⟨d, l⟩⟩⟩
 ·exact .inr (.inr ⟨rfl, rfl, rfl⟩)
 ·exact .inl ⟨b, rfl⟩
 ·exact .inr (.inl ⟨b, c, rfl⟩)
 ·exact .inr (.inr ⟨beq_eq_false_iff_ne.2 (by simp; omega), beq_eq_false_iff_ne.2 (by simp; omega), rfl⟩)
set_option maxRecDepth 100000 in
set_option maxHeartbeats 16000000 in
theorem rBinder_on : ∀ (x : Tree), szT x = true → IsOn 70 binderB x
 | ⟨k, s, l⟩, hz => by
  intro A c w hc hC
  have HIH : Hid (∀ y ∈ l, IsOn 37 isTypeT y) := Lib.hid fun y hy => rType_on _ y (Nat.lt_succ_self _) (szT_mem hz hy)
  have HZ : Hid (s.size ≤ strMax) := Lib.hid (szT_name hz)
  have HC : Hid (Kd.C k25 w A l.length l) := Lib.hid hC
  have hB : binderB ⟨k, s, l⟩ = ((nameB s || varB s) && headB l) := rfl
  rw [hB]
  dsimp only at hc ⊢
  clear hC hz hB
  rcases heads l with ⟨y, hx⟩ | ⟨y, z, hx⟩ | ⟨h1, h2, h3⟩
  rotate_left
  ·have h2 : (l.length : Int) = 2 := by rw [hx]; rfl
   have HIY := Lib.hid (HIH.out y (by rw [hx]; simp))
   have h3 : headB l = isTypeT y := by rw [hx]; rfl
   rw [h3]
   obtain ⟨a0, AY, cY, e0, kk⟩ := kid_0 HC.out y (by rw [hx]; rfl)
   subst e0
   have KY := Lib.hid kk
   clear kk
   clear hx h3
   cases hv : nameB s <;> cases hw : varB s
   all_goals
    go_enter Tryz.func70, Tryz.ntmps70
    go_wp2_with (first
     | ((with_reducible refine gate_dst (N := 1) rfl ?_); refine ev_tree (x := ⟨_, s, l⟩) (A := (some a0)) (c := c) rfl rfl rfl rfl ?_; intro b w1_ HX; obtain ⟨qa, qb, qc⟩ := rd3 HX.out.at_; try dsimp only at qa qb qc; obtain ⟨Y0, Y1, Y2⟩ := (KY.out.below HX.out.below).cells)
     | (go_at_call 67; refine (rName_on s HZ.out _).mono ?_; rintro e w2_ ⟨rfl, hb_⟩; clear qa qb qc Y0 Y1 Y2; replace HX := Lib.hid (HX.out.call hb_); clear hb_; obtain ⟨qa, qb, qc⟩ := rd3 HX.out.at_; try dsimp only at qa qb qc; obtain ⟨Y0, Y1, Y2⟩ := (KY.out.below HX.out.below).cells; rw [hv])
     | (go_at_call 69; refine (rVar_on s HZ.out _).mono ?_; rintro e w2_ ⟨rfl, hb_⟩; clear qa qb qc Y0 Y1 Y2; replace HX := Lib.hid (HX.out.call hb_); clear hb_; obtain ⟨qa, qb, qc⟩ := rd3 HX.out.at_; try dsimp only at qa qb qc; obtain ⟨Y0, Y1, Y2⟩ := (KY.out.below HX.out.below).cells; rw [hw])
     | (go_at_call 37; refine (HIY.out AY cY _ KY.out.len (KY.out.below HX.out.below).row).mono ?_; rintro e w2_ ⟨rfl, hb_⟩; clear qa qb qc; replace HX := Lib.hid (HX.out.call hb_); clear hb_; obtain ⟨qa, qb, qc⟩ := rd3 HX.out.at_; try dsimp only at qa qb qc; clear Y0 Y1 Y2))
    go_ret
    exact ⟨by first | rfl | simp [*], HX.out.below⟩
  ·rw [h3]
   cases hv : nameB s <;> cases hw : varB s
   all_goals
    go_enter Tryz.func70, Tryz.ntmps70
    go_wp2_with (first
     | ((with_reducible refine gate_dst (N := 1) rfl ?_); refine ev_tree (x := ⟨_, s, l⟩) (A := A) (c := c) rfl rfl rfl rfl ?_; intro b w1_ HX; obtain ⟨qa, qb, qc⟩ := rd3 HX.out.at_; try dsimp only at qa qb qc)
     | (go_at_call 67; refine (rName_on s HZ.out _).mono ?_; rintro e w2_ ⟨rfl, hb_⟩; clear qa qb qc; replace HX := Lib.hid (HX.out.call hb_); clear hb_; obtain ⟨qa, qb, qc⟩ := rd3 HX.out.at_; try dsimp only at qa qb qc; rw [hv])
     | (go_at_call 69; refine (rVar_on s HZ.out _).mono ?_; rintro e w2_ ⟨rfl, hb_⟩; clear qa qb qc; replace HX := Lib.hid (HX.out.call hb_); clear hb_; obtain ⟨qa, qb, qc⟩ := rd3 HX.out.at_; try dsimp only at qa qb qc; rw [hw]))
    go_ret
    exact ⟨by first | rfl | simp [*], HX.out.below⟩
  ·have h2 : (l.length : Int) = 1 := by rw [hx]; rfl
   have h3 : headB l = true := by rw [hx]; rfl
   rw [h3]
   clear hx
   cases hv : nameB s <;> cases hw : varB s
   all_goals
    go_enter Tryz.func70, Tryz.ntmps70
    go_wp2_with (first
     | ((with_reducible refine gate_dst (N := 1) rfl ?_); refine ev_tree (x := ⟨_, s, l⟩) (A := A) (c := c) rfl rfl rfl rfl ?_; intro b w1_ HX; obtain ⟨qa, qb, qc⟩ := rd3 HX.out.at_; try dsimp only at qa qb qc)
     | (go_at_call 67; refine (rName_on s HZ.out _).mono ?_; rintro e w2_ ⟨rfl, hb_⟩; clear qa qb qc; replace HX := Lib.hid (HX.out.call hb_); clear hb_; obtain ⟨qa, qb, qc⟩ := rd3 HX.out.at_; try dsimp only at qa qb qc; rw [hv])
     | (go_at_call 69; refine (rVar_on s HZ.out _).mono ?_; rintro e w2_ ⟨rfl, hb_⟩; clear qa qb qc; replace HX := Lib.hid (HX.out.call hb_); clear hb_; obtain ⟨qa, qb, qc⟩ := rd3 HX.out.at_; try dsimp only at qa qb qc; rw [hw]))
    go_ret
    exact ⟨by first | rfl | simp [*], HX.out.below⟩
set_option maxRecDepth 100000 in
set_option maxHeartbeats 16000000 in
theorem rTerms_on (l : List Tree) (ih : ∀ y ∈ l, IsOn 38 isTermT y) (A : Option Addr) (c : Nat) (w : World) (hC : Kd.C k25 w A l.length l) :
  Calls Tryz.prog 68 #[.slice A l.length c] w fun e w' => e = .returned (.bool (decide ((l.length : Int) ≤ 8) && l.all isTermT)) ∧ Below w.heap.size w w' := by
 obtain ⟨R, hR⟩ : ∃ R, R = (decide ((l.length : Int) ≤ 8) && l.all isTermT) := ⟨_, rfl⟩
 rw [← hR]
 have hln : l.length ≤ 9223372036854775807 := hC.2.1
 have HR := Lib.hid hR
 have HC := Lib.hid hC
 have HIH := Lib.hid ih
 clear hR hC ih
 go_enter Tryz.func68, Tryz.ntmps68
 go_wp2_with fail
 go_loopw [3] (fun i wr => ∃ j : Nat, i = .int .i64 j ∧ j ≤ l.length ∧ Hid (Below w.heap.size w wr) ∧ Hid ((decide ((l.length : Int) ≤ 8) && (l.drop j).all isTermT) = R)) (fun i _ => l.length - (intOf i).toNat)
 case atStart => exact ⟨0, rfl, Nat.zero_le _, Lib.hid (Below.refl _ _), Lib.hid HR.out.symm⟩
 case round =>
  clear HR
  obtain ⟨j, rfl, hj, HB, HR⟩ := hrel
  by_cases hlt : j < l.length
  ·by_cases h8 : j ≤ 8
   ·obtain ⟨a0, y, A2, c2, rfl, hmem, hdr, hk⟩ := kid_j HB.out HC.out j hlt
    have hR := HR.out
    rw [hdr, List.all_cons] at hR
    have HR2 := Lib.hid hR
    have HY := Lib.hid (HIH.out y hmem)
    have HK := Lib.hid hk
    obtain ⟨p0, p1, p2, _, _⟩ := hk
    clear hR hdr hmem HR
    cases hp : isTermT y
    ·go_wp2_with (go_at_call 38; refine (HY.out A2 c2 _ HK.out.len HK.out.row).mono ?_; rintro e w2 ⟨rfl, hb⟩; clear p0 p1 p2; rw [hp])
     go_ret
     exact ⟨by rw [← HR2.out, hp, Bool.false_and, Bool.and_false]; rfl, below_step HB.out hb⟩
    ·go_wp2_with (go_at_call 38; refine (HY.out A2 c2 _ HK.out.len HK.out.row).mono ?_; rintro e w2 ⟨rfl, hb⟩; clear p0 p1 p2; rw [hp])
     go_roundw
     case rel => exact ⟨j + 1, by go_num, by omega, Lib.hid (below_step HB.out hb), Lib.hid (by rw [← HR2.out, hp, Bool.true_and])⟩
     case measure => simp [intOf]; omega
   ·have hR := HR.out
    rw [decide_eq_false (by omega), Bool.false_and] at hR
    have h9 : decide ((l.length : Int) ≤ 8) = false := decide_eq_false (by omega)
    go_wp2_with fail
    go_ret
    exact ⟨by rw [← hR]; first | rfl | simp [h9], HB.out⟩
  ·have hR := HR.out
   rw [List.drop_of_length_le (by omega), List.all_nil, Bool.and_true] at hR
   go_wp2_with fail
   go_ret
   exact ⟨by rw [← hR]; rfl, HB.out⟩
set_option maxRecDepth 100000 in
set_option maxHeartbeats 16000000 in
theorem rTerm_on : ∀ (n : Nat) (x : Tree), SizeOf.sizeOf x < n → szT x = true → IsOn 38 isTermT x
 | 0, x, h, _ => absurd h (Nat.not_lt_zero _)
 | n + 1, ⟨k, s, l⟩, hn, hz => by
  intro A c w hc hC
  have HIH : Hid (∀ y ∈ l, IsOn 38 isTermT y) := Lib.hid fun y hy => rTerm_on n y (by have := kid_lt (x := ⟨k, s, l⟩) hy; omega) (szT_mem hz hy)
  have HZ : Hid (s.size ≤ strMax) := Lib.hid (szT_name hz)
  have HC : Hid (Kd.C k25 w A l.length l) := Lib.hid hC
  have HL := Lib.hid (rTerms_on l HIH.out)
  have HB := Lib.hid (rBinder_on ⟨k, s, l⟩ hz)
  rw [isTermT_eq]
  dsimp only at hc ⊢
  clear hC hz hn
  by_cases h15 : k = 15
  ·subst h15
   rw [if_pos rfl]
   cases hv : nameB s
   all_goals
    go_enter Tryz.func38, Tryz.ntmps38
    go_wp2_with (first
     | ((with_reducible refine gate_dst (N := 1) rfl ?_); refine ev_tree (x := ⟨_, s, l⟩) (A := A) (c := c) rfl rfl rfl rfl ?_; intro b w1_ HX; obtain ⟨qa, qb, qc⟩ := rd3 HX.out.at_; try dsimp only at qa qb qc)
     | (go_at_call 67; refine (rName_on s HZ.out _).mono ?_; rintro e w2_ ⟨rfl, hb_⟩; clear qa qb qc; replace HX := Lib.hid (HX.out.call hb_); clear hb_; obtain ⟨qa, qb, qc⟩ := rd3 HX.out.at_; try dsimp only at qa qb qc; rw [hv])
     | (go_at_call 68; refine (HL.out _ c _ (HX.out.C HC.out)).mono ?_; rintro e w2_ ⟨rfl, hb_⟩; clear qa qb qc; replace HX := Lib.hid (HX.out.call hb_); clear hb_; obtain ⟨qa, qb, qc⟩ := rd3 HX.out.at_; try dsimp only at qa qb qc))
    go_ret
    exact ⟨by first | rfl | simp, HX.out.below⟩
  rw [if_neg h15]
  by_cases h16 : k = 16
  ·subst h16
   rw [if_pos rfl]
   cases hv : varB s
   all_goals
    go_enter Tryz.func38, Tryz.ntmps38
    go_wp2_with (first
     | ((with_reducible refine gate_dst (N := 1) rfl ?_); refine ev_tree (x := ⟨_, s, l⟩) (A := A) (c := c) rfl rfl rfl rfl ?_; intro b w1_ HX; obtain ⟨qa, qb, qc⟩ := rd3 HX.out.at_; try dsimp only at qa qb qc)
     | (go_at_call 69; refine (rVar_on s HZ.out _).mono ?_; rintro e w2_ ⟨rfl, hb_⟩; clear qa qb qc; replace HX := Lib.hid (HX.out.call hb_); clear hb_; obtain ⟨qa, qb, qc⟩ := rd3 HX.out.at_; try dsimp only at qa qb qc; rw [hv])
     | (go_at_call 68; refine (HL.out _ c _ (HX.out.C HC.out)).mono ?_; rintro e w2_ ⟨rfl, hb_⟩; clear qa qb qc; replace HX := Lib.hid (HX.out.call hb_); clear hb_; obtain ⟨qa, qb, qc⟩ := rd3 HX.out.at_; try dsimp only at qa qb qc))
    go_ret
    exact ⟨by first | rfl | simp, HX.out.below⟩
  rw [if_neg h16]
  by_cases h17 : k = 17
  ·subst h17
   rw [if_pos rfl, bindsB_eq, ← Bool.and_assoc]
   have hb2 : ((nameB s || varB s) && headB l) = binderB ⟨17, s, l⟩ := rfl
   rw [hb2]
   cases hv : binderB ⟨17, s, l⟩
   ·go_enter Tryz.func38, Tryz.ntmps38
    go_wp2_with (first
     | ((with_reducible refine gate_dst (N := 1) rfl ?_); refine ev_tree (x := ⟨_, s, l⟩) (A := A) (c := c) rfl rfl rfl rfl ?_; intro b w1_ HX; obtain ⟨qa, qb, qc⟩ := rd3 HX.out.at_; try dsimp only at qa qb qc)
     | (go_at_call 70; refine (HB.out _ c _ hc (HX.out.C HC.out)).mono ?_; rintro e w2_ ⟨rfl, hb_⟩; clear qa qb qc; replace HX := Lib.hid (HX.out.call hb_); clear hb_; obtain ⟨qa, qb, qc⟩ := rd3 HX.out.at_; try dsimp only at qa qb qc; rw [hv]))
    go_ret
    exact ⟨by first | rfl | simp, HX.out.below⟩
   ·rcases heads l with ⟨y, hx⟩ | ⟨t, y, hx⟩ | ⟨_, _, h3⟩
    ·have h2 : (l.length : Int) = 1 := by rw [hx]; rfl
     have HIY := Lib.hid (HIH.out y (by rw [hx]; simp))
     have h3 : lastB isTermT l = isTermT y := by rw [hx]; rfl
     rw [h3]
     obtain ⟨a0, AY, cY, e0, kk⟩ := kid_0 HC.out y (by rw [hx]; rfl)
     subst e0
     have KY := Lib.hid kk
     clear kk
     clear hx h3 hb2
     go_enter Tryz.func38, Tryz.ntmps38
     go_wp2_with (first
      | ((with_reducible refine gate_dst (N := 1) rfl ?_); refine ev_tree (x := ⟨_, s, l⟩) (A := (some a0)) (c := c) rfl rfl rfl rfl ?_; intro b w1_ HX; obtain ⟨qa, qb, qc⟩ := rd3 HX.out.at_; try dsimp only at qa qb qc; obtain ⟨Y0, Y1, Y2⟩ := (KY.out.below HX.out.below).cells)
      | (go_at_call 70; refine (HB.out _ c _ hc (HX.out.C HC.out)).mono ?_; rintro e w2_ ⟨rfl, hb_⟩; clear qa qb qc Y0 Y1 Y2; replace HX := Lib.hid (HX.out.call hb_); clear hb_; obtain ⟨qa, qb, qc⟩ := rd3 HX.out.at_; try dsimp only at qa qb qc; obtain ⟨Y0, Y1, Y2⟩ := (KY.out.below HX.out.below).cells; rw [hv])
      | (go_at_call 38; refine (HIY.out AY cY _ KY.out.len (KY.out.below HX.out.below).row).mono ?_; rintro e w2_ ⟨rfl, hb_⟩; clear qa qb qc; replace HX := Lib.hid (HX.out.call hb_); clear hb_; obtain ⟨qa, qb, qc⟩ := rd3 HX.out.at_; try dsimp only at qa qb qc; clear Y0 Y1 Y2))
     go_ret
     exact ⟨by first | rfl | simp, HX.out.below⟩
    ·have h2 : (l.length : Int) = 2 := by rw [hx]; rfl
     have HIY := Lib.hid (HIH.out y (by rw [hx]; simp))
     have h3 : lastB isTermT l = isTermT y := by rw [hx]; rfl
     rw [h3]
     obtain ⟨a0, AT, cT, e0, kk⟩ := kid_0 HC.out t (by rw [hx]; rfl)
     subst e0
     clear kk
     obtain ⟨AY, cY, kk⟩ := kid_1 HC.out y (by rw [hx]; rfl)
     have KY := Lib.hid kk
     clear kk
     clear hx h3 hb2
     go_enter Tryz.func38, Tryz.ntmps38
     go_wp2_with (first
      | ((with_reducible refine gate_dst (N := 1) rfl ?_); refine ev_tree (x := ⟨_, s, l⟩) (A := (some a0)) (c := c) rfl rfl rfl rfl ?_; intro b w1_ HX; obtain ⟨qa, qb, qc⟩ := rd3 HX.out.at_; try dsimp only at qa qb qc; obtain ⟨Y0, Y1, Y2⟩ := (KY.out.below HX.out.below).cells)
      | (go_at_call 70; refine (HB.out _ c _ hc (HX.out.C HC.out)).mono ?_; rintro e w2_ ⟨rfl, hb_⟩; clear qa qb qc Y0 Y1 Y2; replace HX := Lib.hid (HX.out.call hb_); clear hb_; obtain ⟨qa, qb, qc⟩ := rd3 HX.out.at_; try dsimp only at qa qb qc; obtain ⟨Y0, Y1, Y2⟩ := (KY.out.below HX.out.below).cells; rw [hv])
      | (go_at_call 38; refine (HIY.out AY cY _ KY.out.len (KY.out.below HX.out.below).row).mono ?_; rintro e w2_ ⟨rfl, hb_⟩; clear qa qb qc; replace HX := Lib.hid (HX.out.call hb_); clear hb_; obtain ⟨qa, qb, qc⟩ := rd3 HX.out.at_; try dsimp only at qa qb qc; clear Y0 Y1 Y2))
     go_ret
     exact ⟨by first | rfl | simp, HX.out.below⟩
    ·rw [← hb2, h3, Bool.and_false] at hv
     cases hv
  rw [if_neg h17]
  have g15 : (k == 15) = false := beq_eq_false_iff_ne.2 h15
  have g16 : (k == 16) = false := beq_eq_false_iff_ne.2 h16
  have g17 : (k == 17) = false := beq_eq_false_iff_ne.2 h17
  go_enter Tryz.func38, Tryz.ntmps38
  go_wp2_with (first
    | ((with_reducible refine gate_dst (N := 1) rfl ?_); refine ev_tree (x := ⟨_, s, l⟩) (A := A) (c := c) rfl rfl rfl rfl ?_; intro b w1_ HX; obtain ⟨qa, qb, qc⟩ := rd3 HX.out.at_; try dsimp only at qa qb qc))
  go_ret
  exact ⟨rfl, HX.out.below⟩
end Go.Proofs.YtbndfgoklgdfdaaGreatDoor.P
end
section
set_option linter.unusedSimpArgs false
namespace Go.Proofs.YtbndfgoklgdfdaaGreatDoor.P
open Go.RowKit Go.Proofs.YtbndfgoklgdfdaaGreatDoorW.PrintWords Go.Proofs.YtbndfgoklgdfdaaGreatDoorW.PrintLast Go.Proofs.YtbndfgoklgdfdaaGreatDoorW.PrintMore
def levR (k : Int) : Int := if k = 27 ∨ k = 28 then 1 else if k = 25 ∨ k = 26 then 2 else if k = 24 then 3 else if k = 23 then 4 else if k = 22 then 5 else 6
theorem levR_lt (k : Int) : levR k < 6 ↔ 22 ≤ k ∧ k ≤ 28 := by unfold levR; repeat' split <;> omega
theorem rLevel_on (k : Int) (w : World) : Calls Tryz.prog 71 #[.int .i64 k] w fun e w' => e = .returned (.int .i64 (levR k)) ∧ Below w.heap.size w w' := by
 have key : k = 27 ∨ k = 28 ∨ k = 25 ∨ k = 26 ∨ k = 24 ∨ k = 23 ∨ k = 22 ∨ (k == 27) = false ∧ (k == 28) = false ∧ (k == 25) = false ∧ (k == 26) = false ∧ (k == 24) = false ∧ (k == 23) = false ∧ (k == 22) = false ∧ levR k = 6 := by
  simp only [beq_eq_false_iff_ne]
  unfold levR
  omega
 rcases key with rfl | rfl | rfl | rfl | rfl | rfl | rfl | ⟨g1, g2, g3, g4, g5, g6, g7, g8⟩
 rotate_right
 ·rw [g8]
  go_enter Tryz.func71, Tryz.ntmps71
  go_wp2_with fail
  go_ret
  exact ⟨rfl, Below.refl _ _⟩
 all_goals
  go_enter Tryz.func71, Tryz.ntmps71
  go_wp2_with fail
  go_ret
  exact ⟨rfl, Below.refl _ _⟩
set_option maxRecDepth 100000 in
set_option maxHeartbeats 16000000 in
theorem rForm_on : ∀ (n : Nat) (x : Tree), SizeOf.sizeOf x < n → szT x = true → IsOn 39 isFormT x
 | 0, x, h, _ => absurd h (Nat.not_lt_zero _)
 | n + 1, ⟨k, s, l⟩, hn, hz => by
  intro A c w hc hC
  have HIH : Hid (∀ y ∈ l, IsOn 39 isFormT y) := Lib.hid fun y hy => rForm_on n y (by have := kid_lt (x := ⟨k, s, l⟩) hy; omega) (szT_mem hz hy)
  have HC : Hid (Kd.C k25 w A l.length l) := Lib.hid hC
  have HT := Lib.hid (rTerm_on _ ⟨k, s, l⟩ (Nat.lt_succ_self _) hz)
  have HB := Lib.hid (rBinder_on ⟨k, s, l⟩ hz)
  rw [isFormT_eq]
  dsimp only at hc ⊢
  clear hC hz hn
  by_cases h15 : k = 15
  ·subst h15
   rw [if_pos rfl]
   go_enter Tryz.func39, Tryz.ntmps39
   go_wp2_with (first
    | ((with_reducible refine gate_dst (N := 1) rfl ?_); refine ev_tree (x := ⟨_, s, l⟩) (A := A) (c := c) rfl rfl rfl rfl ?_; intro b w1_ HX; obtain ⟨qa, qb, qc⟩ := rd3 HX.out.at_; try dsimp only at qa qb qc)
    | (go_at_call 38; refine (HT.out _ c _ hc (HX.out.C HC.out)).mono ?_; rintro e w2_ ⟨rfl, hb_⟩; clear qa qb qc; replace HX := Lib.hid (HX.out.call hb_); clear hb_; obtain ⟨qa, qb, qc⟩ := rd3 HX.out.at_; try dsimp only at qa qb qc))
   go_ret
   exact ⟨rfl, HX.out.below⟩
  rw [if_neg h15]
  have g15 : (k == 15) = false := beq_eq_false_iff_ne.2 h15
  by_cases h18 : k = 18 ∨ k = 19
  ·rw [if_pos h18, bindsB_eq, ← Bool.and_assoc]
   have hb2 : ((nameB s || varB s) && headB l) = binderB ⟨k, s, l⟩ := rfl
   rw [hb2]
   cases hv : binderB ⟨k, s, l⟩
   ·clear hb2
    rcases h18 with rfl | rfl
    all_goals
     go_enter Tryz.func39, Tryz.ntmps39
     go_wp2_with (first
      | ((with_reducible refine gate_dst (N := 1) rfl ?_); refine ev_tree (x := ⟨_, s, l⟩) (A := A) (c := c) rfl rfl rfl rfl ?_; intro b w1_ HX; obtain ⟨qa, qb, qc⟩ := rd3 HX.out.at_; try dsimp only at qa qb qc)
      | (go_at_call 70; refine (HB.out _ c _ hc (HX.out.C HC.out)).mono ?_; rintro e w2_ ⟨rfl, hb_⟩; clear qa qb qc; replace HX := Lib.hid (HX.out.call hb_); clear hb_; obtain ⟨qa, qb, qc⟩ := rd3 HX.out.at_; try dsimp only at qa qb qc; rw [hv]))
     go_ret
     exact ⟨by first | rfl | simp, HX.out.below⟩
   ·rcases heads l with ⟨y, hx⟩ | ⟨t, y, hx⟩ | ⟨_, _, h3⟩
    ·have h2 : (l.length : Int) = 1 := by rw [hx]; rfl
     have HIY := Lib.hid (HIH.out y (by rw [hx]; simp))
     have h3 : lastB isFormT l = isFormT y := by rw [hx]; rfl
     rw [h3]
     obtain ⟨a0, AY, cY, e0, kk⟩ := kid_0 HC.out y (by rw [hx]; rfl)
     subst e0
     have KY := Lib.hid kk
     clear kk
     clear hx h3 hb2
     rcases h18 with rfl | rfl
     all_goals
      go_enter Tryz.func39, Tryz.ntmps39
      go_wp2_with (first
       | ((with_reducible refine gate_dst (N := 1) rfl ?_); refine ev_tree (x := ⟨_, s, l⟩) (A := (some a0)) (c := c) rfl rfl rfl rfl ?_; intro b w1_ HX; obtain ⟨qa, qb, qc⟩ := rd3 HX.out.at_; try dsimp only at qa qb qc; obtain ⟨Y0, Y1, Y2⟩ := (KY.out.below HX.out.below).cells)
       | (go_at_call 70; refine (HB.out _ c _ hc (HX.out.C HC.out)).mono ?_; rintro e w2_ ⟨rfl, hb_⟩; clear qa qb qc Y0 Y1 Y2; replace HX := Lib.hid (HX.out.call hb_); clear hb_; obtain ⟨qa, qb, qc⟩ := rd3 HX.out.at_; try dsimp only at qa qb qc; obtain ⟨Y0, Y1, Y2⟩ := (KY.out.below HX.out.below).cells; rw [hv])
       | (go_at_call 39; refine (HIY.out AY cY _ KY.out.len (KY.out.below HX.out.below).row).mono ?_; rintro e w2_ ⟨rfl, hb_⟩; clear qa qb qc; replace HX := Lib.hid (HX.out.call hb_); clear hb_; obtain ⟨qa, qb, qc⟩ := rd3 HX.out.at_; try dsimp only at qa qb qc; clear Y0 Y1 Y2))
      go_ret
      exact ⟨by first | rfl | simp, HX.out.below⟩
    ·have h2 : (l.length : Int) = 2 := by rw [hx]; rfl
     have HIY := Lib.hid (HIH.out y (by rw [hx]; simp))
     have h3 : lastB isFormT l = isFormT y := by rw [hx]; rfl
     rw [h3]
     obtain ⟨a0, AT, cT, e0, kk⟩ := kid_0 HC.out t (by rw [hx]; rfl)
     subst e0
     clear kk
     obtain ⟨AY, cY, kk⟩ := kid_1 HC.out y (by rw [hx]; rfl)
     have KY := Lib.hid kk
     clear kk
     clear hx h3 hb2
     rcases h18 with rfl | rfl
     all_goals
      go_enter Tryz.func39, Tryz.ntmps39
      go_wp2_with (first
       | ((with_reducible refine gate_dst (N := 1) rfl ?_); refine ev_tree (x := ⟨_, s, l⟩) (A := (some a0)) (c := c) rfl rfl rfl rfl ?_; intro b w1_ HX; obtain ⟨qa, qb, qc⟩ := rd3 HX.out.at_; try dsimp only at qa qb qc; obtain ⟨Y0, Y1, Y2⟩ := (KY.out.below HX.out.below).cells)
       | (go_at_call 70; refine (HB.out _ c _ hc (HX.out.C HC.out)).mono ?_; rintro e w2_ ⟨rfl, hb_⟩; clear qa qb qc Y0 Y1 Y2; replace HX := Lib.hid (HX.out.call hb_); clear hb_; obtain ⟨qa, qb, qc⟩ := rd3 HX.out.at_; try dsimp only at qa qb qc; obtain ⟨Y0, Y1, Y2⟩ := (KY.out.below HX.out.below).cells; rw [hv])
       | (go_at_call 39; refine (HIY.out AY cY _ KY.out.len (KY.out.below HX.out.below).row).mono ?_; rintro e w2_ ⟨rfl, hb_⟩; clear qa qb qc; replace HX := Lib.hid (HX.out.call hb_); clear hb_; obtain ⟨qa, qb, qc⟩ := rd3 HX.out.at_; try dsimp only at qa qb qc; clear Y0 Y1 Y2))
      go_ret
      exact ⟨by first | rfl | simp, HX.out.below⟩
    ·rw [← hb2, h3, Bool.and_false] at hv
     cases hv
  rw [if_neg h18]
  have g18 : (k == 18) = false := beq_eq_false_iff_ne.2 (fun h => h18 (.inl h))
  have g19 : (k == 19) = false := beq_eq_false_iff_ne.2 (fun h => h18 (.inr h))
  clear HB HT
  by_cases h20 : k = 20 ∨ k = 21
  ·have hz0 : sizeF k = 0 := by unfold sizeF; rw [if_pos h20]
   have e4 : ((l.length : Int) == 0 && l.all isFormT) = ((l.length : Int) == 0) := by
    cases l with
    | nil => rfl
    | cons y l => rw [beq_eq_false_iff_ne.2 (show ((y :: l).length : Int) ≠ 0 by simp; omega), Bool.false_and]
   rw [hz0, e4]
   clear e4 hz0 g15 g18 g19 h15 h18
   rcases h20 with rfl | rfl <;> cases he : (s.toList == ([] : List UInt8))
   all_goals
    go_enter Tryz.func39, Tryz.ntmps39
    go_wp2_with (first
     | ((with_reducible refine gate_dst (N := 1) rfl ?_); refine ev_tree (x := ⟨_, s, l⟩) (A := A) (c := c) rfl rfl rfl rfl ?_; intro b w1_ HX; obtain ⟨qa, qb, qc⟩ := rd3 HX.out.at_; try dsimp only at qa qb qc))
    go_ret
    exact ⟨by first | rfl | simp, HX.out.below⟩
  have g20 : (k == 20) = false := beq_eq_false_iff_ne.2 (fun h => h20 (.inl h))
  have g21 : (k == 21) = false := beq_eq_false_iff_ne.2 (fun h => h20 (.inr h))
  by_cases h29 : k = 29 ∨ k = 30
  ·have hz0 : sizeF k = 1 := by unfold sizeF; rw [if_neg h20, if_pos h29]
   rw [hz0]
   clear hz0 g15 g18 g19 h15 h18 g20 g21 h20
   by_cases h1 : (l.length : Int) = 1
   ·obtain ⟨y, hx⟩ : ∃ y, l = [y] := List.length_eq_one_iff.1 (by omega)
    have HIY := Lib.hid (HIH.out y (by rw [hx]; simp))
    have h3 : ((l.length : Int) == 1 && l.all isFormT) = isFormT y := by rw [hx]; simp
    rw [h3]
    obtain ⟨a0, AY, cY, e0, kk⟩ := kid_0 HC.out y (by rw [hx]; rfl)
    subst e0
    have KY := Lib.hid kk
    clear kk
    clear hx h3
    rcases h29 with rfl | rfl <;> cases he : (s.toList == ([] : List UInt8))
    all_goals
     go_enter Tryz.func39, Tryz.ntmps39
     go_wp2_with (first
      | ((with_reducible refine gate_dst (N := 1) rfl ?_); refine ev_tree (x := ⟨_, s, l⟩) (A := (some a0)) (c := c) rfl rfl rfl rfl ?_; intro b w1_ HX; obtain ⟨qa, qb, qc⟩ := rd3 HX.out.at_; try dsimp only at qa qb qc; obtain ⟨Y0, Y1, Y2⟩ := (KY.out.below HX.out.below).cells)
      | (go_at_call 39; refine (HIY.out AY cY _ KY.out.len (KY.out.below HX.out.below).row).mono ?_; rintro e w2_ ⟨rfl, hb_⟩; clear qa qb qc; replace HX := Lib.hid (HX.out.call hb_); clear hb_; obtain ⟨qa, qb, qc⟩ := rd3 HX.out.at_; try dsimp only at qa qb qc; clear Y0 Y1 Y2))
     go_ret
     exact ⟨by first | rfl | simp, HX.out.below⟩
   ·have h2 : ((l.length : Int) == 1) = false := beq_eq_false_iff_ne.2 h1
    rw [h2, Bool.false_and, Bool.and_false]
    rcases h29 with rfl | rfl <;> cases he : (s.toList == ([] : List UInt8))
    all_goals
     go_enter Tryz.func39, Tryz.ntmps39
     go_wp2_with (first
      | ((with_reducible refine gate_dst (N := 1) rfl ?_); refine ev_tree (x := ⟨_, s, l⟩) (A := A) (c := c) rfl rfl rfl rfl ?_; intro b w1_ HX; obtain ⟨qa, qb, qc⟩ := rd3 HX.out.at_; try dsimp only at qa qb qc))
     go_ret
     exact ⟨by first | rfl | simp [*], HX.out.below⟩
  have g29 : (k == 29) = false := beq_eq_false_iff_ne.2 (fun h => h29 (.inl h))
  have g30 : (k == 30) = false := beq_eq_false_iff_ne.2 (fun h => h29 (.inr h))
  have HLv := Lib.hid (rLevel_on k)
  have hlv := levR_lt k
  obtain ⟨v, hv⟩ : ∃ v, v = levR k := ⟨_, rfl⟩
  rw [← hv] at hlv HLv
  clear hv
  by_cases h6 : v < 6
  ·have hz0 : sizeF k = 2 := by have := hlv.1 h6; unfold sizeF; rw [if_neg h20, if_neg h29, if_pos (by omega)]
   have b6 : decide (v < 6) = true := decide_eq_true h6
   rw [hz0]
   clear hz0 h15 h18 h20 h29 hlv
   have key : (∃ b c, l = [b, c]) ∨ ((l.length : Int) == 2) = false := by
    rcases l with _ | ⟨b, _ | ⟨c, _ | ⟨d, l⟩⟩⟩
    ·exact .inr rfl
    ·exact .inr rfl
    ·exact .inl ⟨b, c, rfl⟩
    ·exact .inr (beq_eq_false_iff_ne.2 (by simp; omega))
   rcases key with ⟨y, z, hx⟩ | h2
   ·have h2 : (l.length : Int) = 2 := by rw [hx]; rfl
    have HIY := Lib.hid (HIH.out y (by rw [hx]; simp))
    have HIZ := Lib.hid (HIH.out z (by rw [hx]; simp))
    have h3 : ((l.length : Int) == 2 && l.all isFormT) = (isFormT y && isFormT z) := by rw [hx]; simp
    rw [h3]
    obtain ⟨a0, AY, cY, e0, kk⟩ := kid_0 HC.out y (by rw [hx]; rfl)
    subst e0
    have KY := Lib.hid kk
    clear kk
    obtain ⟨AZ, cZ, kk⟩ := kid_1 HC.out z (by rw [hx]; rfl)
    have KZ := Lib.hid kk
    clear kk
    clear hx h3
    cases he : (s.toList == ([] : List UInt8)) <;> cases hy : isFormT y
    all_goals
     go_enter Tryz.func39, Tryz.ntmps39
     go_wp2_with (first
      | ((with_reducible refine gate_dst (N := 1) rfl ?_); refine ev_tree (x := ⟨_, s, l⟩) (A := (some a0)) (c := c) rfl rfl rfl rfl ?_; intro b w1_ HX; obtain ⟨qa, qb, qc⟩ := rd3 HX.out.at_; try dsimp only at qa qb qc; obtain ⟨Y0, Y1, Y2⟩ := (KY.out.below HX.out.below).cells; obtain ⟨Z0, Z1, Z2⟩ := (KZ.out.below HX.out.below).cells)
      | (go_at_call 71; refine (HLv.out _).mono ?_; rintro e w2_ ⟨rfl, hb_⟩; clear qa qb qc Y0 Y1 Y2 Z0 Z1 Z2; replace HX := Lib.hid (HX.out.call hb_); clear hb_; obtain ⟨qa, qb, qc⟩ := rd3 HX.out.at_; try dsimp only at qa qb qc; obtain ⟨Y0, Y1, Y2⟩ := (KY.out.below HX.out.below).cells; obtain ⟨Z0, Z1, Z2⟩ := (KZ.out.below HX.out.below).cells)
      | (go_at_call 39; refine (HIY.out AY cY _ KY.out.len (KY.out.below HX.out.below).row).mono ?_; rintro e w2_ ⟨rfl, hb_⟩; clear qa qb qc Z0 Z1 Z2; replace HX := Lib.hid (HX.out.call hb_); clear hb_; obtain ⟨qa, qb, qc⟩ := rd3 HX.out.at_; try dsimp only at qa qb qc; obtain ⟨Z0, Z1, Z2⟩ := (KZ.out.below HX.out.below).cells; clear HIY Y0 Y1 Y2; rw [hy])
      | (go_at_call 39; refine (HIZ.out AZ cZ _ KZ.out.len (KZ.out.below HX.out.below).row).mono ?_; rintro e w2_ ⟨rfl, hb_⟩; clear qa qb qc Z0 Z1 Z2; replace HX := Lib.hid (HX.out.call hb_); clear hb_; obtain ⟨qa, qb, qc⟩ := rd3 HX.out.at_; try dsimp only at qa qb qc; obtain ⟨Z0, Z1, Z2⟩ := (KZ.out.below HX.out.below).cells))
     go_ret
     exact ⟨by first | rfl | simp, HX.out.below⟩
   ·rw [h2, Bool.false_and, Bool.and_false]
    cases he : (s.toList == ([] : List UInt8))
    all_goals
     go_enter Tryz.func39, Tryz.ntmps39
     go_wp2_with (first
      | ((with_reducible refine gate_dst (N := 1) rfl ?_); refine ev_tree (x := ⟨_, s, l⟩) (A := A) (c := c) rfl rfl rfl rfl ?_; intro b w1_ HX; obtain ⟨qa, qb, qc⟩ := rd3 HX.out.at_; try dsimp only at qa qb qc)
      | (go_at_call 71; refine (HLv.out _).mono ?_; rintro e w2_ ⟨rfl, hb_⟩; clear qa qb qc; replace HX := Lib.hid (HX.out.call hb_); clear hb_; obtain ⟨qa, qb, qc⟩ := rd3 HX.out.at_; try dsimp only at qa qb qc))
     go_ret
     exact ⟨by first | rfl | simp [*], HX.out.below⟩
  ·have hz0 : sizeF k = -1 := by unfold sizeF; rw [if_neg h20, if_neg h29, if_neg (by omega)]
   have b6 : decide (v < 6) = false := decide_eq_false h6
   have h2 : ((l.length : Int) == -1) = false := beq_eq_false_iff_ne.2 (by omega)
   rw [hz0, h2, Bool.false_and, Bool.and_false]
   clear h2
   go_enter Tryz.func39, Tryz.ntmps39
   go_wp2_with (first
    | ((with_reducible refine gate_dst (N := 1) rfl ?_); refine ev_tree (x := ⟨_, s, l⟩) (A := A) (c := c) rfl rfl rfl rfl ?_; intro b w1_ HX; obtain ⟨qa, qb, qc⟩ := rd3 HX.out.at_; try dsimp only at qa qb qc)
    | (go_at_call 71; refine (HLv.out _).mono ?_; rintro e w2_ ⟨rfl, hb_⟩; clear qa qb qc; replace HX := Lib.hid (HX.out.call hb_); clear hb_; obtain ⟨qa, qb, qc⟩ := rd3 HX.out.at_; try dsimp only at qa qb qc))
   go_ret
   exact ⟨by first | rfl | simp [*], HX.out.below⟩
end Go.Proofs.YtbndfgoklgdfdaaGreatDoor.P
end
section
set_option linter.unusedSimpArgs false
namespace Go.Proofs.YtbndfgoklgdfdaaGreatDoor.P
open Go.RowKit Go.Proofs.YtbndfgoklgdfdaaGreatDoorW.PrintWords Go.Proofs.YtbndfgoklgdfdaaGreatDoorW.PrintLast Go.Proofs.YtbndfgoklgdfdaaGreatDoorW.PrintMore
set_option maxRecDepth 100000 in
set_option maxHeartbeats 16000000 in
theorem rTypes_on (l : List Tree) (ih : ∀ y ∈ l, IsOn 37 isTypeT y) (A : Option Addr) (c : Nat) (w : World) (hC : Kd.C k25 w A l.length l) :
  Calls Tryz.prog 73 #[.slice A l.length c] w fun e w' => e = .returned (.bool (decide ((l.length : Int) ≤ 8) && l.all isTypeT)) ∧ Below w.heap.size w w' := by
 obtain ⟨R, hR⟩ : ∃ R, R = (decide ((l.length : Int) ≤ 8) && l.all isTypeT) := ⟨_, rfl⟩
 rw [← hR]
 have hln : l.length ≤ 9223372036854775807 := hC.2.1
 have HR := Lib.hid hR
 have HC := Lib.hid hC
 have HIH := Lib.hid ih
 clear hR hC ih
 go_enter Tryz.func73, Tryz.ntmps73
 go_wp2_with fail
 go_loopw [3] (fun i wr => ∃ j : Nat, i = .int .i64 j ∧ j ≤ l.length ∧ Hid (Below w.heap.size w wr) ∧ Hid ((decide ((l.length : Int) ≤ 8) && (l.drop j).all isTypeT) = R)) (fun i _ => l.length - (intOf i).toNat)
 case atStart => exact ⟨0, rfl, Nat.zero_le _, Lib.hid (Below.refl _ _), Lib.hid HR.out.symm⟩
 case round =>
  clear HR
  obtain ⟨j, rfl, hj, HB, HR⟩ := hrel
  by_cases hlt : j < l.length
  ·obtain ⟨a0, y, A2, c2, rfl, hmem, hdr, hk⟩ := kid_j HB.out HC.out j hlt
   have hR := HR.out
   rw [hdr, List.all_cons] at hR
   have HR2 := Lib.hid hR
   have HY := Lib.hid (HIH.out y hmem)
   have HK := Lib.hid hk
   obtain ⟨p0, p1, p2, _, _⟩ := hk
   clear hR hdr hmem HR
   cases hp : isTypeT y
   ·go_wp2_with (go_at_call 37; refine (HY.out A2 c2 _ HK.out.len HK.out.row).mono ?_; rintro e w2 ⟨rfl, hb⟩; clear p0 p1 p2; rw [hp])
    go_ret
    exact ⟨by rw [← HR2.out, hp, Bool.false_and, Bool.and_false]; rfl, below_step HB.out hb⟩
   ·go_wp2_with (go_at_call 37; refine (HY.out A2 c2 _ HK.out.len HK.out.row).mono ?_; rintro e w2 ⟨rfl, hb⟩; clear p0 p1 p2; rw [hp])
    go_roundw
    case rel => exact ⟨j + 1, by go_num, by omega, Lib.hid (below_step HB.out hb), Lib.hid (by rw [← HR2.out, hp, Bool.true_and])⟩
    case measure => simp [intOf]; omega
  ·have hR := HR.out
   rw [List.drop_of_length_le (by omega), List.all_nil, Bool.and_true] at hR
   go_wp2_with fail
   go_ret
   exact ⟨by rw [← hR]; rfl, HB.out⟩
theorem word_key (y : Tree) : y.f0 ≠ 15 ∧ isWordB y = false ∨ y.f0 = 15 ∧ (y.f2 ≠ [] ∧ isWordB y = false ∨ y.f2 = [] ∧ (nameB y.f1 = false ∧ isWordB y = false ∨ nameB y.f1 = true ∧ isWordB y = true)) := by
 unfold isWordB
 by_cases h : y.f0 = 15 <;> rcases h2 : y.f2 with _ | ⟨a, l⟩ <;> cases nameB y.f1 <;> simp [h]
set_option maxRecDepth 100000 in
set_option maxHeartbeats 16000000 in
theorem rNames_on (l : List Tree) (hz : ∀ y ∈ l, szT y = true) (A : Option Addr) (c : Nat) (w : World) (hC : Kd.C k25 w A l.length l) :
  Calls Tryz.prog 72 #[.slice A l.length c] w fun e w' => e = .returned (.bool (l.all isWordB)) ∧ Below w.heap.size w w' := by
 obtain ⟨R, hR⟩ : ∃ R, R = (l.all isWordB) := ⟨_, rfl⟩
 rw [← hR]
 have hln : l.length ≤ 9223372036854775807 := hC.2.1
 have HR := Lib.hid hR
 have HC := Lib.hid hC
 have HIH := Lib.hid hz
 clear hR hC hz
 go_enter Tryz.func72, Tryz.ntmps72
 go_wp2_with fail
 go_loopw [3] (fun i wr => ∃ j : Nat, i = .int .i64 j ∧ j ≤ l.length ∧ Hid (Below w.heap.size w wr) ∧ Hid ((l.drop j).all isWordB = R)) (fun i _ => l.length - (intOf i).toNat)
 case atStart => exact ⟨0, rfl, Nat.zero_le _, Lib.hid (Below.refl _ _), Lib.hid HR.out.symm⟩
 case round =>
  clear HR
  obtain ⟨j, rfl, hj, HB, HR⟩ := hrel
  by_cases hlt : j < l.length
  ·obtain ⟨a0, y, A2, c2, rfl, hmem, hdr, hk⟩ := kid_j HB.out HC.out j hlt
   have hR := HR.out
   rw [hdr, List.all_cons] at hR
   have HR2 := Lib.hid hR
   have HZ := Lib.hid (szT_name (HIH.out y hmem))
   obtain ⟨p0, p1, p2, _, _⟩ := hk
   clear hR hdr hmem HR
   have key := word_key y
   rcases key with ⟨h15, hwd⟩ | ⟨h15, ⟨hl, hwd⟩ | ⟨hl, ⟨hv, hwd⟩ | ⟨hv, hwd⟩⟩⟩
   all_goals try have e15 : (y.f0 != 15) = true := bne_iff_ne.2 h15
   all_goals try have e15 : (y.f0 != 15) = false := bne_eq_false_iff_eq.2 h15
   all_goals try have hlp : (0 < y.f2.length) = True := eq_true (List.length_pos_iff.2 hl)
   all_goals try have hlp : (0 < y.f2.length) = False := eq_false (by rw [hl]; simp)
   rotate_right
   ·go_wp2_with (go_at_call 67; refine (rName_on y.f1 HZ.out _).mono ?_; rintro e w2 ⟨rfl, hb⟩; clear p0 p1 p2; rw [hv])
    go_roundw
    case rel => exact ⟨j + 1, by go_num, by omega, by first | exact HB | exact Lib.hid (below_step HB.out hb), Lib.hid (by rw [← HR2.out, hwd, Bool.true_and])⟩
    case measure => simp [intOf]; omega
   all_goals
    go_wp2_with (go_at_call 67; refine (rName_on y.f1 HZ.out _).mono ?_; rintro e w2 ⟨rfl, hb⟩; clear p0 p1 p2; rw [hv])
    go_ret
    exact ⟨by rw [← HR2.out, hwd]; simp, by first | exact HB.out | exact below_step HB.out hb⟩
  ·have hR := HR.out
   rw [List.drop_of_length_le (by omega), List.all_nil] at hR
   go_wp2_with fail
   go_ret
   exact ⟨by rw [← hR]; rfl, HB.out⟩
theorem mode_names : nameB ⟨#[105, 110]⟩ = true ∧ nameB ⟨#[111, 117, 116]⟩ = true ∧ nameB ⟨#[97, 110, 121]⟩ = true := ⟨by kernel_rfl, by kernel_rfl, by kernel_rfl⟩
theorem name_of {s : ByteArray} {l : List UInt8} (h : s.toList = l) (hn : nameB ⟨l.toArray⟩ = true) : nameB s = true := by
 have : s = ⟨l.toArray⟩ := bytes_ext (by rw [h, mk_toList])
 rw [this]; exact hn
theorem mode_key (y : Tree) : y.f0 ≠ 15 ∧ isModeB y = false ∨ y.f0 = 15 ∧ (y.f2 ≠ [] ∧ isModeB y = false ∨ y.f2 = [] ∧
    ((y.f1.toList == [105, 110]) = false ∧ (y.f1.toList == [111, 117, 116]) = false ∧ (y.f1.toList == [97, 110, 121]) = false ∧ isModeB y = false ∨ (y.f1.toList == [105, 110]) = false ∧ (y.f1.toList == [111, 117, 116]) = false ∧ (y.f1.toList == [97, 110, 121]) = true ∧ isModeB y = true ∨
     (y.f1.toList == [105, 110]) = false ∧ (y.f1.toList == [111, 117, 116]) = true ∧ isModeB y = true ∨ (y.f1.toList == [105, 110]) = true ∧ isModeB y = true)) := by
  have n1 : (y.f1.toList == [105, 110]) = true → nameB y.f1 = true := fun h => name_of (beq_iff_eq.1 h) mode_names.1
  have n2 : (y.f1.toList == [111, 117, 116]) = true → nameB y.f1 = true := fun h => name_of (beq_iff_eq.1 h) mode_names.2.1
  have n3 : (y.f1.toList == [97, 110, 121]) = true → nameB y.f1 = true := fun h => name_of (beq_iff_eq.1 h) mode_names.2.2
  unfold isModeB isWordB
  generalize (y.f1.toList == [105, 110]) = e1 at n1 ⊢
  generalize (y.f1.toList == [111, 117, 116]) = e2 at n2 ⊢
  generalize (y.f1.toList == [97, 110, 121]) = e3 at n3 ⊢
  by_cases h : y.f0 = 15 <;> rcases h2 : y.f2 with _ | ⟨a, l⟩ <;> cases e1 <;> cases e2 <;> cases e3 <;> simp_all
set_option maxRecDepth 100000 in
set_option maxHeartbeats 16000000 in
theorem rModes_on (l : List Tree) (hz : ∀ y ∈ l, szT y = true) (A : Option Addr) (c : Nat) (w : World) (hC : Kd.C k25 w A l.length l) :
    Calls Tryz.prog 74 #[.slice A l.length c] w fun e w' => e = .returned (.bool (decide ((l.length : Int) ≤ 8) && l.all isModeB)) ∧ Below w.heap.size w w' := by
  obtain ⟨R, hR⟩ : ∃ R, R = (decide ((l.length : Int) ≤ 8) && l.all isModeB) := ⟨_, rfl⟩
  rw [← hR]
  have hln : l.length ≤ 9223372036854775807 := hC.2.1
  have HR := Lib.hid hR
  have HC := Lib.hid hC
  have HIH := Lib.hid hz
  clear hR hC hz
  go_enter Tryz.func74, Tryz.ntmps74
  go_wp2_with fail
  go_loopw [3] (fun i wr => ∃ j : Nat, i = .int .i64 j ∧ j ≤ l.length ∧ Hid (Below w.heap.size w wr) ∧ Hid ((decide ((l.length : Int) ≤ 8) && (l.drop j).all isModeB) = R)) (fun i _ => l.length - (intOf i).toNat)
  case atStart => exact ⟨0, rfl, Nat.zero_le _, Lib.hid (Below.refl _ _), Lib.hid HR.out.symm⟩
  case round =>
    clear HR
    obtain ⟨j, rfl, hj, HB, HR⟩ := hrel
    by_cases hlt : j < l.length
    · obtain ⟨a0, y, A2, c2, rfl, hmem, hdr, hk⟩ := kid_j HB.out HC.out j hlt
      have hR := HR.out
      rw [hdr, List.all_cons] at hR
      have HR2 := Lib.hid hR
      have HZ := Lib.hid (szT_name (HIH.out y hmem))
      obtain ⟨p0, p1, p2, _, _⟩ := hk
      clear hR hdr hmem HR
      have key := mode_key y
      rcases key with ⟨h15, hwd⟩ | ⟨h15, ⟨hl, hwd⟩ | ⟨hl, ⟨e1, e2, e3, hwd⟩ | ⟨e1, e2, e3, hwd⟩ | ⟨e1, e2, hwd⟩ | ⟨e1, hwd⟩⟩⟩
      all_goals try have e15 : (y.f0 != 15) = true := bne_iff_ne.2 h15
      all_goals try have e15 : (y.f0 != 15) = false := bne_eq_false_iff_eq.2 h15
      all_goals try have hlp : (0 < y.f2.length) = True := eq_true (List.length_pos_iff.2 hl)
      all_goals try have hlp : (0 < y.f2.length) = False := eq_false (by rw [hl]; simp)
      iterate 3 (rotate_left)
      iterate 3
        (go_wp2_with (fail)
         go_roundw
         case rel => exact ⟨j + 1, by go_num, by omega, by first | exact HB | exact Lib.hid (below_step HB.out hb), Lib.hid (by rw [← HR2.out, hwd, Bool.true_and])⟩
         case measure => simp [intOf]; omega)
      all_goals
        go_wp2_with (fail)
        go_ret
        exact ⟨by rw [← HR2.out, hwd]; simp, by first | exact HB.out | exact below_step HB.out hb⟩
    · have hR := HR.out
      rw [List.drop_of_length_le (by omega), List.all_nil, Bool.and_true] at hR
      go_wp2_with fail
      go_ret
      exact ⟨by rw [← hR]; rfl, HB.out⟩
end Go.Proofs.YtbndfgoklgdfdaaGreatDoor.P
end
