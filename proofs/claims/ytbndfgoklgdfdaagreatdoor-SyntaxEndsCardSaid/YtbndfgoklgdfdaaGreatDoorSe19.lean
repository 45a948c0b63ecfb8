/- syntax's printer: items: predicates, modes (printed by mkpr.py). syntax's printer: items, all kinds. How long what is printed can be. How long what is printed of a valid tree can be. syntax.free: the names of a kind that occur free. syntax.free whatever the tree; Vars. strings.Builder's String at a printer. strings.Builder's String at a printer that has written nothing. -/
import Derived.Test.YtbndfgoklgdfdaaGreatDoorSe18
import Derived.Test.YtbndfgoklgdfdaaGreatDoorSe11
import Derived.Test.YtbndfgoklgdfdaaGreatDoorSe08
import Derived.Test.YtbndfgoklgdfdaaGreatDoorSe10
import Derived.Test.YtbndfgoklgdfdaaGreatDoorSe09
import Derived.Lib.UnsafeStr
import Derived.Lib.OthersKept
import Derived.Shelf.RegionOpenPlain
set_option linter.all false
section
set_option linter.unusedSimpArgs false
namespace Go.Proofs.YtbndfgoklgdfdaaGreatDoor.P
open Go.RowKit Go.Proofs.YtbndfgoklgdfdaaGreatDoorW.PrintWords Go.Proofs.YtbndfgoklgdfdaaGreatDoorW.PrintLast Go.Proofs.YtbndfgoklgdfdaaGreatDoorW.PrintMore
set_option maxRecDepth 100000 in
set_option maxHeartbeats 8000000 in
theorem item1_writes (x z : Tree) (A2 A : Option Addr) (c2 c : Nat) (w : World) (ts : List Th) (g b2 b3 b6 : Nat) (t : List UInt8)
  (h : Writes 95 #[.pointer (some ⟨g, 0, none⟩), .agg (tN x A2 c2)] w (vT b6 25 (tN x A2 c2) :: vT b3 25 (tN z A c) :: vT b2 100 #[.pointer (some ⟨g, 0, none⟩)] :: ts) g t) :
  Writes 127 #[.pointer (some ⟨b2, 0, none⟩), .pointer (some ⟨b6, 0, none⟩)] w (vT b6 25 (tN x A2 c2) :: vT b3 25 (tN z A c) :: vT b2 100 #[.pointer (some ⟨g, 0, none⟩)] :: ts) g t := by
 intro W ok bs HF hlen
 have HL := Lib.hid hlen
 have HH := Lib.hid h
 clear hlen h
 have q393 := (blk_cell HF.out.b3 0).trans rfl
 obtain ⟨q394a, q394b, q394c⟩ := rd3 HF.out.b1
 go_enter Tryz.func127, Tryz.ntmps127
 go_wp2_with fail
 refine (HH.out _ _ _ HF (HL.out)).mono ?_
 rintro e w395 ⟨rfl, oko396, HFn⟩
 clear HF; clear q393 q394a q394b q394c
 have HF := HFn
 clear HFn
 go_wp2_with fail
 go_end0
 exact ⟨rfl, _, HF⟩
set_option maxRecDepth 100000 in
set_option maxHeartbeats 8000000 in
theorem item_pred (k : Int) (hk : k = 4 ∨ k = 5 ∨ k = 6 ∨ k = 7) (s : ByteArray) (l : List Tree) (hty : ∀ y ∈ l, isTypeT y = true) (w : World) (ts : List Th) (g : Nat) (A : Option Addr) (c : Nat) (hC : Kd.C k25 w A l.length l) :
  Writes 93 #[.pointer (some ⟨g, 0, none⟩), .agg (tN ⟨k, s, l⟩ A c)] w ts g (wordS k ++ ((([32] ++ s.data.toList) ++ typesS l) ++ [46])) := by
 intro W ok bs HF hlen
 rcases hk with hk | hk | hk | hk
 all_goals
  have e2_ := congrArg (fun z : Int => z == 2) hk
  have e14_ := congrArg (fun z : Int => z == 14) hk
  have e3_ := congrArg (fun z : Int => z == 3) hk
  have e4_ := congrArg (fun z : Int => z == 4) hk
  have e5_ := congrArg (fun z : Int => z == 5) hk
  have e6_ := congrArg (fun z : Int => z == 6) hk
  have e7_ := congrArg (fun z : Int => z == 7) hk
  have e8_ := congrArg (fun z : Int => z == 8) hk
  have e9_ := congrArg (fun z : Int => z == 9) hk
  have e10_ := congrArg (fun z : Int => z == 10) hk
  have e11_ := congrArg (fun z : Int => z == 11) hk
  simp only [Int.reduceBEq] at e2_ e14_ e3_ e4_ e5_ e6_ e7_ e8_ e9_ e10_ e11_
  have HK_ := Lib.hid hk
  clear hk
  obtain ⟨wd, hwd⟩ : ∃ wd, wd = wordS k := ⟨_, rfl⟩
  rw [← hwd] at hlen ⊢
  have HL := Lib.hid hlen
  have HWE := Lib.hid hwd
  have HC := Lib.hid hC
  have HTY := Lib.hid hty
  have hln : l.length ≤ 9223372036854775807 := hC.2.1
  clear hC hty
  clear hlen hwd
  go_enter Tryz.func93, Tryz.ntmps93
  go_wp2_with (first
   | ((with_reducible refine gate_dst (N := 2) rfl ?_); refine ez_box (t := 100) (cs := #[.pointer (some ⟨g, 0, none⟩)]) HF rfl rfl (run_pr rfl rfl) ?_; clear HF; intro b2 w397 HF)
   | ((with_reducible refine gate_dst (N := 3) rfl ?_); refine ez_box (t := 25) (cs := (tN ⟨k, s, l⟩ A c)) HF rfl rfl (run_tree rfl rfl) ?_; clear HF; intro b3 w398 HF))
  go_wp2_with fail
  replace HF := Lib.hid HF.out.drew
  refine wp_only ?_
  refine start_ (n := 8) (S := (fun w' => True ∧ w'.cell? (⟨b2, 0, none⟩) = some (.pointer (some ⟨g, 0, none⟩)) ∧ w'.cell? (⟨b3, 0, none⟩) = some (.int .i64 k))) (ds := [7]) #[false, false, false, false, false, false, false, false] (by kernel_rfl) rfl rfl ?_ (fun hHeld => ?_)
  ·exact ⟨trivial, (blk_cell HF.out.b1 0).trans rfl, (blk_cell HF.out.b0 0).trans rfl⟩
  refine pqo 4 #[false, false, false, false, true, false, false, false] (h := ?_)
  refine tqo hHeld 0 #[true, false, false, false, true, false, false, false] (h := ?_)
  refine pqo 1 #[true, true, false, false, true, false, false, false] (h := ?_)
  refine pqo 2 #[true, true, true, false, true, false, false, false] (h := ?_)
  refine tqo hHeld 5 #[true, true, true, false, true, true, false, false] (h := ?_)
  refine one_ (i := 3) (N := some 10) #[true, true, true, true, true, true, false, false] rfl rfl (by kernel_rfl) (by decide) (fun K hK => ?_)
  clear hHeld
  go_simp
  refine (words_on _).mono ?_
  rintro e w399 ⟨bw, rfl, hW_, hb_⟩
  have HWD := Lib.hid hW_
  replace HF := Lib.hid (HF.out.step hb_)
  clear hW_ hb_
  refine hK.out _ _ (⟨trivial, (blk_cell HF.out.b1 0).trans rfl, (blk_cell HF.out.b0 0).trans rfl⟩) (fun hHeld => ?_)
  clear hK K
  (try simp only [Act.put, List.setIfInBounds_toArray, List.set_cons_zero, List.set_cons_succ])
  refine one_ (i := 6) (N := some 13) #[true, true, true, true, true, true, true, false] rfl rfl (by kernel_rfl) (by decide) (fun K hK => ?_)
  clear hHeld
  refine sz_lookr (N := 13) (mv := .map (some bw)) (kv := .int .i64 k) rfl rfl rfl rfl rfl (words_look HWD.out k) ?_
  clear HWD
  refine hK.out _ _ (⟨trivial, (blk_cell HF.out.b1 0).trans rfl, (blk_cell HF.out.b0 0).trans rfl⟩) (fun hHeld => ?_)
  clear hK K
  (try simp only [Act.put, List.setIfInBounds_toArray, List.set_cons_zero, List.set_cons_succ])
  refine last_ (i := 7) (N := some 14) #[true, true, true, true, true, true, true, true] rfl rfl (by kernel_rfl) (by decide) (fun K hK => ?_)
  go_simp
  rw [← HWE.out]
  replace HF := Lib.hid HF.out.up3
  refine (ws_lit wd HF (by have := HL.out; simp at this ⊢; omega)).mono ?_
  rintro e w400 ⟨rfl, oko401, HFn⟩
  clear HF
  have HF := HFn
  clear HFn
  refine hK.out _ _ ?_
  clear hK K
  (try simp only [Act.put, List.setIfInBounds_toArray, List.set_cons_zero, List.set_cons_succ])
  refine done_ (by kernel_rfl) ⟨rfl, ?_⟩
  skip
  try simp only [Act.put, List.setIfInBounds_toArray, List.set_cons_zero, List.set_cons_succ]
  obtain ⟨q402a, q402b, q402c⟩ := rd3 HF.out.b1
  go_wp2_with fail
  have hs1_ : (9223372036854775807 < 1 + s.size) = False := eq_false (by have := HL.out; have e_ : outMax = 140737488355328 := rfl; have e2_ : s.data.size = s.size := rfl; simp [Array.length_toList] at this; omega)
  go_wp2_with fail
  go_wp2_with fail
  replace HF := Lib.hid HF.out.drew
  refine wp_only ?_
  refine start_ (n := 7) (S := (fun w' => True ∧ w'.cell? (⟨b2, 0, none⟩) = some (.pointer (some ⟨g, 0, none⟩)) ∧ w'.cell? (⟨b3, 1, none⟩) = some (.string s))) (ds := [6]) #[false, false, false, false, false, false, false] (by kernel_rfl) rfl rfl ?_ (fun hHeld => ?_)
  ·exact ⟨trivial, (blk_cell HF.out.b2 0).trans rfl, (blk_cell HF.out.b1 1).trans rfl⟩
  refine pqo 3 #[false, false, false, true, false, false, false] (h := ?_)
  refine tqo hHeld 0 #[true, false, false, true, false, false, false] (h := ?_)
  refine pqo 1 #[true, true, false, true, false, false, false] (h := ?_)
  refine pqo 2 (fl 7 4) (h := ?_)
  refine tqo hHeld 4 (fl 7 5) (h := ?_)
  refine pqo 5 (fl 7 6) (h := ?_)
  refine last_ (i := 6) (N := some 65) #[true, true, true, true, true, true, true] rfl rfl (by kernel_rfl) (by decide) (fun K hK => ?_)
  go_simp
  refine (ws_on _ _ _ _ _ _ _ HF (by have := HL.out; have e_ : outMax = 140737488355328 := rfl; (try rw [sp_size]); simp [Array.length_toList] at this ⊢; omega)).mono ?_
  rintro e w403 ⟨rfl, oko404, HFn⟩
  clear HF
  have HF := HFn
  clear HFn
  rw [sp_text] at HF
  generalize ((⟨#[32]⟩ : ByteArray) ++ s).size = zz_
  refine hK.out _ _ ?_
  clear hK K
  (try simp only [Act.put, List.setIfInBounds_toArray, List.set_cons_zero, List.set_cons_succ])
  refine done_ (by kernel_rfl) ⟨rfl, ?_⟩
  skip
  try simp only [Act.put, List.setIfInBounds_toArray, List.set_cons_zero, List.set_cons_succ]
  have q405 := (blk_cell HF.out.b1 2).trans rfl
  go_wp2_with fail
  replace HF := Lib.hid HF.out.up3
  replace HF := Lib.hid HF.out.up3
  replace HF := Lib.hid HF.out.up3
  try simp only [Act.put, List.setIfInBounds_toArray, List.set_cons_zero, List.set_cons_succ]
  go_loopw [69] (fun i wr => ∃ (k_ : Nat) (ok' : Nat → Prop) (pre : List UInt8), i = .int .i64 k_ ∧ k_ ≤ l.length ∧ Hid (pre ++ typesS (l.drop k_) = typesS l) ∧ Hid (Fz w wr (prT g w.heap.size ok' (bs ++ (wd ++ (([32] ++ s.data.toList) ++ pre))) :: vT b3 25 (tN ⟨k, s, l⟩ A c) :: vT b2 100 #[.pointer (some ⟨g, 0, none⟩)] :: ts))) (fun i _ => l.length - (intOf i).toNat)
  case atStart => exact ⟨0, _, [], rfl, Nat.zero_le _, Lib.hid rfl, by simpa only [List.append_nil, List.append_assoc, List.cons_append, List.nil_append] using HF⟩
  case round =>
   clear HF; clear q405
   obtain ⟨k_, ok', pre, rfl, hk_, HP, HF⟩ := hrel
   by_cases hlt : k_ < l.length
   ·obtain ⟨a0, A2, c2, e0, p0, p1, p2, hl2, hc2⟩ := at_T25 HC.out k_ (by omega) (by omega)
    subst e0
    obtain ⟨x, hx⟩ : ∃ x, x = rd_T25 l k_ := ⟨_, rfl⟩
    have hdr := rdN_drop l k_ hlt
    have hmem := rdN_mem l k_ hlt
    rw [← hx] at p0 p1 p2 hl2 hc2 hdr hmem
    rw [Int.toNat_natCast] at p0 p1 p2
    have HX := Lib.hid (typ_writes _ x (Nat.lt_succ_self _) (HTY.out x hmem))
    have HL2 := Lib.hid hl2
    have HC2 := Lib.hid hc2
    obtain ⟨pc, hpc⟩ : ∃ pc, pc = (if (x.f0 == 31) = true then [40] ++ (typeS x ++ [41]) else typeS x) := ⟨_, rfl⟩
    have hP := HP.out
    rw [hdr, typesS, ← hpc] at hP
    have HPC := Lib.hid hpc
    have HP2 := Lib.hid hP
    have HLN : Hid (bs.length + (wd.length + (1 + (s.size + (pre.length + (1 + pc.length))))) ≤ outMax) := Lib.hid (by have h1 := congrArg List.length hP; have h2 := HL.out; have e2_ : s.data.size = s.size := rfl; simp [Array.length_toList] at h1 h2 ⊢; omega)
    have KX := Lib.hid (And.intro p0 (And.intro p1 p2))
    clear hx hl2 hc2 hpc hP hdr hmem HP p0 p1 p2
    obtain ⟨p0, p1, p2⟩ : _ ∧ _ ∧ _ := ⟨pw_cell_below HF.out.below KX.out.1, pw_cell_below HF.out.below KX.out.2.1, pw_cell_below HF.out.below KX.out.2.2⟩
    go_wp2_with (first
     | ((with_reducible refine gate_dst (N := 6) rfl ?_); refine ez_box (t := 25) (cs := zN) HF rfl rfl (run_node rfl) ?_; clear HF; clear p0 p1 p2; intro b6 w406 HF)
     | ((with_reducible refine gate_store (t := 25) (p := 6) rfl ?_); refine ez_put (p := 6) HF rfl rfl rfl rfl rfl rfl rfl ?_; clear HF; intro w407 HF; have q408 := (blk_cell HF.out.b3 0).trans rfl))
    replace HF := Lib.hid HF.out.swap
    refine (ws_lit [32] HF (by have := HLN.out; have e_ : outMax = 140737488355328 := rfl; have e2_ : s.data.size = s.size := rfl; simp [Array.length_toList] at this ⊢; omega)).mono ?_
    rintro e w409 ⟨rfl, oko410, HFn⟩
    clear HF; clear q408
    have HF := HFn
    clear HFn
    obtain ⟨q411a, q411b, q411c⟩ := rd3 HF.out.b1
    have q412 := (blk_cell HF.out.b3 0).trans rfl
    go_wp2_with fail
    replace HF := Lib.hid HF.out.up4
    replace HF := Lib.hid HF.out.up4
    replace HF := Lib.hid HF.out.up4
    replace HF := Lib.hid HF.out.up4
    refine (within_writes _ (enters_of Tryz.func127 (by kernel_rfl) rfl) _ w _ g (typeS x) (x.f0 == 31) (item1_writes x ⟨k, s, l⟩ A2 (some a0) c2 c w ts g b2 b3 b6 (typeS x) (HX.out w _ g A2 c2 HL2.out HC2.out)) _ _ _ HF (by have := HLN.out; rw [← HPC.out]; have e_ : outMax = 140737488355328 := rfl; have e2_ : s.data.size = s.size := rfl; simp [Array.length_toList] at this ⊢; omega)).mono ?_
    rintro e w413 ⟨rfl, oko414, HFn⟩
    clear HF; clear q411a q411b q411c q412
    have HF := HFn
    clear HFn
    rw [← HPC.out] at HF
    go_wp2_with fail
    replace HF := Lib.hid HF.out.swap
    replace HF := Lib.hid HF.out.lose
    go_roundw
    case rel => exact ⟨k_ + 1, _, pre ++ ([32] ++ pc), by go_num, by omega, Lib.hid (by have := HP2.out; simpa only [List.append_assoc] using this), by simpa only [List.append_assoc, List.cons_append, List.nil_append] using HF⟩
    case measure => simp [intOf]; omega
   ·have hke_ : k_ = l.length := by omega
    have hP := HP.out
    rw [List.drop_of_length_le (by omega), typesS, List.append_nil] at hP
    subst hP
    clear HP
    have q415 := (blk_cell HF.out.b2 0).trans rfl
    go_wp2_with fail
    refine (ws_lit [46] HF (by have := HL.out; simp at this ⊢; omega)).mono ?_
    rintro e w416 ⟨rfl, oko417, HFn⟩
    clear HF; clear q415
    have HF := HFn
    clear HFn
    go_wp2_with fail
    go_end0
    replace HF := Lib.hid HF.out.swap
    replace HF := Lib.hid HF.out.lose
    replace HF := Lib.hid HF.out.swap
    replace HF := Lib.hid HF.out.lose
    exact ⟨rfl, _, by simpa only [List.append_assoc, List.cons_append, List.nil_append] using HF⟩
end Go.Proofs.YtbndfgoklgdfdaaGreatDoor.P
end
section
set_option linter.unusedSimpArgs false
namespace Go.Proofs.YtbndfgoklgdfdaaGreatDoor.P
open Go.RowKit Go.Proofs.YtbndfgoklgdfdaaGreatDoorW.PrintWords Go.Proofs.YtbndfgoklgdfdaaGreatDoorW.PrintLast Go.Proofs.YtbndfgoklgdfdaaGreatDoorW.PrintMore

theorem mode_type {y : Tree} (h : isModeB y = true) : isTypeT y = true := by
 rw [isTypeT_eq]
 simp only [isModeB, Bool.and_eq_true] at h
 rw [h.1]; rfl
theorem item_writes (x : Tree) (ht : isItemT x = true) (w : World) (ts : List Th) (g : Nat) (A : Option Addr) (c : Nat) (hg : GOK w) (hc : x.f2.length ≤ c) (hC : Kd.C k25 w A x.f2.length x.f2) :
  Writes 93 #[.pointer (some ⟨g, 0, none⟩), .agg (tN x A c)] w ts g (itemS x) := by
 obtain ⟨k, s, l⟩ := x
 unfold isItemT at ht
 unfold itemS midS
 dsimp only at ht hc hC ⊢
 by_cases h2 : k = 2
 ·subst h2; exact item_names 2 (.inl rfl) s l w ts g A c hC
 by_cases h14 : k = 14
 ·subst h14; exact item_names 14 (.inr rfl) s l w ts g A c hC
 rw [if_neg (by omega)] at ht
 rw [if_neg (by omega)]
 by_cases h3 : k = 3
 ·subst h3
  rw [if_pos rfl] at ht
  rw [if_pos rfl]
  simp only [Bool.and_eq_true, decide_eq_true_eq] at ht
  obtain ⟨pre, y, rfl⟩ : ∃ pre y, l = pre ++ [y] := ⟨l.dropLast, l.getLast (by intro h; rw [h] at ht; simp at ht), (List.dropLast_concat_getLast _).symm⟩
  rw [lastB_snoc] at ht
  rw [List.dropLast_concat, List.getLast?_concat]
  exact item_const 3 rfl s pre y ht.2.2.2 w ts g A c hc hC
 rw [if_neg h3] at ht
 rw [if_neg h3]
 simp only [Bool.and_eq_true] at ht
 obtain ⟨_, ht⟩ := ht
 by_cases h4 : k = 4 ∨ k = 5 ∨ k = 6
 ·rw [if_pos h4] at ht
  simp only [Bool.and_eq_true, List.all_eq_true] at ht
  rw [if_pos (by omega)]
  rcases h4 with rfl | rfl | rfl
  ·exact item_pred 4 (by decide) s l ht.2 w ts g A c hC
  ·exact item_pred 5 (by decide) s l ht.2 w ts g A c hC
  ·exact item_pred 6 (by decide) s l ht.2 w ts g A c hC
 rw [if_neg h4] at ht
 by_cases h7 : k = 7
 ·subst h7
  rw [if_pos rfl] at ht
  simp only [Bool.and_eq_true, List.all_eq_true] at ht
  rw [if_pos (by omega)]
  exact item_pred 7 (by decide) s l (fun y hy => mode_type (ht.2 y hy)) w ts g A c hC
 rw [if_neg h7] at ht
 rw [if_neg (by omega)]
 by_cases h8 : k = 8 ∨ k = 9 ∨ k = 10 ∨ k = 11
 ·rw [if_pos h8] at ht
  rw [if_pos h8]
  simp only [Bool.and_eq_true, beq_iff_eq] at ht
  obtain ⟨a, rfl⟩ := List.length_eq_one_iff.1 (show l.length = 1 by omega)
  have hA := form_writes _ a (Nat.lt_succ_self _) (show isFormT a = true from ht.2)
  have hA2 : ∀ (w : World) (ts : List Th) (g : Nat) (A : Option Addr) (c : Nat), GOK w → a.f2.length ≤ c → Kd.C k25 w A a.f2.length a.f2 → Writes 98 #[.pointer (some ⟨g, 0, none⟩), .agg (tN a A c), .int .i64 0, .bool true] w ts g (formS a 0 true) := fun w ts g A c h1 h2 h3 => hA 0 true (by omega) (by omega) w ts g A c h1 h2 h3
  rcases h8 with rfl | rfl | rfl | rfl
  ·exact item_rule 8 (by decide) s a w ts g A c _ hg hc hC hA2
  ·exact item_rule 9 (by decide) s a w ts g A c _ hg hc hC hA2
  ·exact item_rule 10 (by decide) s a w ts g A c _ hg hc hC hA2
  ·exact item_rule 11 (by decide) s a w ts g A c _ hg hc hC hA2
 rw [if_neg h8] at ht
 rw [if_neg h8]
 simp only [Bool.and_eq_true, Bool.or_eq_true, beq_iff_eq] at ht
 rcases ht.1 with rfl | rfl
 ·exact item_single 12 (by decide) s l w ts g A c
 ·exact item_single 13 (by decide) s l w ts g A c
end Go.Proofs.YtbndfgoklgdfdaaGreatDoor.P
end
section
set_option linter.unusedSimpArgs false
namespace Go.Proofs.YtbndfgoklgdfdaaGreatDoor.P
open Go.RowKit Go.Proofs.YtbndfgoklgdfdaaGreatDoorW.PrintWords Go.Proofs.YtbndfgoklgdfdaaGreatDoorW.PrintLast Go.Proofs.YtbndfgoklgdfdaaGreatDoorW.PrintMore
mutual
def wtT : Tree → Nat
 | ⟨_, s, l⟩ => s.size + 40 + wtL l
def wtL : List Tree → Nat
 | [] => 0
 | x :: l => wtT x + wtL l
end
theorem bsz (s : ByteArray) : s.data.toList.length = s.size := by rw [Array.length_toList]; rfl
theorem typeS_len : ∀ (n : Nat) (x : Tree), SizeOf.sizeOf x < n → (typeS x).length + 20 ≤ wtT x
 | 0, _, h => absurd h (Nat.not_lt_zero _)
 | n + 1, ⟨k, s, l⟩, hn => by
  have ih : ∀ y ∈ l, (typeS y).length + 20 ≤ wtT y := fun y hy => typeS_len n y (by have := kid_lt (x := ⟨k, s, l⟩) hy; omega)
  rw [typeS, wtT]
  by_cases hk : k = 31
  ·rw [if_pos hk]
   rcases l with _ | ⟨a, _ | ⟨b, l⟩⟩
   ·simp [typeS2]; omega
   ·have h1 := ih a (by simp)
    simp only [typeS2, typeS3, wtL, List.append_nil]
    split <;> simp <;> omega
   ·have h1 := ih a (by simp)
    have h2 := ih b (by simp)
    simp only [typeS2, typeS3, wtL]
    split <;> simp <;> omega
  ·rw [if_neg hk, bsz]; omega
theorem type_len (x : Tree) : (typeS x).length + 20 ≤ wtT x := typeS_len _ x (Nat.lt_succ_self _)
theorem binder_len (s : ByteArray) (l : List Tree) (body : List UInt8) : (binderS s l body).length ≤ s.size + 4 + body.length + (match l with | [t, _] => (typeS t).length | _ => 0) := by
 unfold binderS
 rcases l with _ | ⟨a, _ | ⟨b, _ | ⟨c, l⟩⟩⟩ <;> simp <;> (have e2_ : s.data.size = s.size := rfl; omega)
theorem termS_len : ∀ (n : Nat) (x : Tree), SizeOf.sizeOf x < n → (termS x).length + 20 ≤ wtT x
 | 0, _, h => absurd h (Nat.not_lt_zero _)
 | n + 1, ⟨k, s, l⟩, hn => by
  have ih : ∀ y ∈ l, (termS y).length + 20 ≤ wtT y := fun y hy => termS_len n y (by have := kid_lt (x := ⟨k, s, l⟩) hy; omega)
  have hE : ∀ l : List Tree, (∀ y ∈ l, (termS y).length + 20 ≤ wtT y) → (termSE l).length ≤ wtL l := by
   intro l
   induction l with
   | nil => intro _; simp [termSE]
   | cons a l ih2 =>
    intro h
    have h1 := h a (by simp)
    have h2 := ih2 (fun y hy => h y (by simp [hy]))
    rw [termSE, wtL]
    split <;> omega
  have hL : ∀ l : List Tree, (∀ y ∈ l, (termS y).length + 20 ≤ wtT y) → (termSL l).length ≤ wtL l := by
   intro l
   induction l with
   | nil => intro _; simp [termSL]
   | cons a l ih2 =>
    intro h
    have h1 := h a (by simp)
    have h2 := ih2 (fun y hy => h y (by simp [hy]))
    rw [termSL, wtL]
    split <;> simp <;> omega
  rw [termS, wtT]
  by_cases hk : k = 17
  ·rw [if_pos hk]
   have h1 := binder_len s l (termSE l)
   have h2 := hE l ih
   rcases l with _ | ⟨a, _ | ⟨b, _ | ⟨c, l⟩⟩⟩
   ·simp at h1 h2 ⊢; omega
   ·simp at h1 h2 ⊢; omega
   ·have h3 := ih b (by simp)
    have h4 := type_len a
    simp [termSE, wtL] at h1 h2 ⊢; omega
   ·simp at h1 h2 ⊢; omega
  ·rw [if_neg hk]
   have h2 := hL l ih
   simp only [List.length_append, bsz]; omega
theorem term_len (x : Tree) : (termS x).length + 20 ≤ wtT x := termS_len _ x (Nat.lt_succ_self _)
theorem find_len {k : Int} {o : List UInt8 × Int × Int} (h : findP k = some o) : o.1.length ≤ 4 := by
 have h1 := List.mem_of_find?_eq_some h
 have h2 : ∀ o ∈ opsL, o.1.length ≤ 4 := by decide
 exact h2 o h1
theorem formS_len : ∀ (n : Nat) (x : Tree), SizeOf.sizeOf x < n → ∀ (lv : Int) (last : Bool), (formS x lv last).length ≤ wtT x
 | 0, _, h, _, _ => absurd h (Nat.not_lt_zero _)
 | n + 1, ⟨k, s, l⟩, hn, lv, last => by
  have ih : ∀ y ∈ l, ∀ (lv : Int) (last : Bool), (formS y lv last).length ≤ wtT y := fun y hy => formS_len n y (by have := kid_lt (x := ⟨k, s, l⟩) hy; omega)
  have hE : ∀ l : List Tree, (∀ y ∈ l, ∀ (lv : Int) (last : Bool), (formS y lv last).length ≤ wtT y) → (formE l).length ≤ wtL l := by
   intro l
   induction l with
   | nil => intro _; simp [formE]
   | cons a l ih2 =>
    intro h
    have h1 := h a (by simp) 0 true
    have h2 := ih2 (fun y hy => h y (by simp [hy]))
    rw [formE, wtL]
    split <;> omega
  have hAB : ∀ (a b : Int) (p q : Bool), (formA l a p).length + (formB l b q).length ≤ wtL l := by
   intro a b p q
   rcases l with _ | ⟨y, _ | ⟨z, l⟩⟩
   ·simp [formA, formB]
   ·have h1 := ih y (by simp) a p
    simp [formA, formB, wtL]; omega
   ·have h1 := ih y (by simp) a p
    have h2 := ih z (by simp) b q
    simp [formA, formB, wtL]; omega
  have hA : ∀ (a : Int) (p : Bool), (formA l a p).length ≤ wtL l := fun a p => by have := hAB a 0 p true; omega
  rw [formS, wtT]
  cases hf : findP k with
  | some o =>
   have h1 := find_len hf
   dsimp only
   split
   ·have h2 := hAB (leftL o.2.2) (rightL o.2.2) false true
    simp; omega
   ·have h2 := hAB (leftL o.2.2) (rightL o.2.2) false last
    simp; omega
  | none =>
   dsimp only
   by_cases hq : k = 18 ∨ k = 19
   ·rw [if_pos hq]
    have hqs : (quantS k).length ≤ 4 := by unfold quantS; split <;> simp
    have h1 := binder_len s l (formE l)
    have h2 := hE l ih
    have h5 : (binderS s l (formE l)).length ≤ s.size + 4 + wtL l := by
     rcases l with _ | ⟨a, _ | ⟨b, _ | ⟨c, l⟩⟩⟩
     ·simp at h1 h2 ⊢; omega
     ·simp at h1 h2 ⊢; omega
     ·have h3 := ih b (by simp) 0 true
      have h4 := type_len a
      simp [formE, wtL] at h1 h2 ⊢; omega
     ·simp at h1 h2 ⊢; omega
    split <;> simp <;> omega
   ·rw [if_neg hq]
    by_cases h20 : k = 20
    ·rw [if_pos h20]; simp; omega
    rw [if_neg h20]
    by_cases h21 : k = 21
    ·rw [if_pos h21]; simp; omega
    rw [if_neg h21]
    by_cases h29 : k = 29
    ·rw [if_pos h29]; have := hA 5 last; simp; omega
    rw [if_neg h29]
    by_cases h30 : k = 30
    ·rw [if_pos h30]; have := hA 0 true; simp; omega
    rw [if_neg h30]
    have := term_len ⟨k, s, l⟩
    rw [wtT] at this; omega
theorem form_len (x : Tree) (lv : Int) (last : Bool) : (formS x lv last).length ≤ wtT x := formS_len _ x (Nat.lt_succ_self _) lv last
theorem word_len (k : Int) : (wordS k).length ≤ 8 := by
 unfold wordS
 cases h : itemL.find? (fun r => k == r.2.1) with
 | none => simp
 | some r =>
  have h1 := List.mem_of_find?_eq_some h
  have h2 : ∀ r ∈ itemL, r.1.length ≤ 8 := by decide
  exact h2 r h1
theorem names_len : ∀ (l : List Tree) (i : Nat), (namesS i l).length ≤ wtL l
 | [], i => by simp [namesS]
 | ⟨k, s, m⟩ :: l, i => by
  have := names_len l (i + 1)
  have e2_ : s.data.size = s.size := rfl
  rw [namesS, wtL, wtT]
  split <;> simp <;> omega
theorem types_len : ∀ (l : List Tree), (typesS l).length ≤ wtL l
 | [] => by simp [typesS]
 | x :: l => by
  have := types_len l
  have h1 := type_len x
  rw [typesS, wtL]
  split <;> simp <;> omega
theorem wtL_app : ∀ (l m : List Tree), wtL (l ++ m) = wtL l + wtL m
 | [], m => by simp [wtL]
 | x :: l, m => by rw [List.cons_append, wtL, wtL, wtL_app l m]; omega
theorem item_len (x : Tree) : (itemS x).length + 1 ≤ wtT x := by
 obtain ⟨k, s, l⟩ := x
 have hw := word_len k
 have e2_ : s.data.size = s.size := rfl
 have h1 := names_len l 0
 have h2 := types_len l
 have h3 : (formA l 0 true).length ≤ wtL l := by
  rcases l with _ | ⟨y, l⟩
  ·simp [formA]
  ·have := form_len y 0 true
   simp [formA, wtL]; omega
 have h4 : (namesS 0 l.dropLast ++ ([58, 32] ++ typeS (l.getLast?.getD ⟨0, ⟨#[]⟩, []⟩))).length ≤ wtL l + 2 := by
  rcases List.eq_nil_or_concat l with rfl | ⟨m, y, rfl⟩
  ·simp [namesS, typeS]
  ·rw [List.concat_eq_append, List.dropLast_concat, List.getLast?_concat, wtL_app]
   have h5 := names_len m 0
   have h6 := type_len y
   simp [wtL]; omega
 unfold itemS midS
 rw [wtT]
 dsimp only
 split
 ·simp; omega
 split
 ·simp at h4 ⊢; omega
 split
 ·simp; omega
 split
 ·simp; omega
 ·simp; omega
end Go.Proofs.YtbndfgoklgdfdaaGreatDoor.P
end
section
set_option linter.unusedSimpArgs false
namespace Go.Proofs.YtbndfgoklgdfdaaGreatDoor.P
open Go.RowKit Go.Proofs.YtbndfgoklgdfdaaGreatDoorW.PrintWords Go.Proofs.YtbndfgoklgdfdaaGreatDoorW.PrintLast Go.Proofs.YtbndfgoklgdfdaaGreatDoorW.PrintMore
mutual
theorem nd_cnt : ∀ (x : Tree) (s : Int), s ≤ 4000 → cntT x s ≤ 4000 → s + ndT x ≤ cntT x s
 | ⟨_, _, l⟩, s, h0, h => by
  rw [cntT] at h ⊢
  have := ndL_cnt l (s + 1) (by omega) h
  rw [ndT]; omega
theorem ndL_cnt : ∀ (l : List Tree) (s : Int), s ≤ 4001 → cntL l s ≤ 4000 → s + ndL l ≤ cntL l s
 | [], s, _, h => by rw [cntL, ndL]; omega
 | x :: l, s, h0, h => by
  rw [cntL] at h ⊢
  by_cases h1 : s ≤ 4000
  ·rw [if_pos h1] at h ⊢
   have h2 := cntT_le x s h1
   have h3 := cntL_le l (cntT x s) h2.2
   have h4 := nd_cnt x s h1 (by omega)
   have h5 := ndL_cnt l (cntT x s) h2.2 h
   rw [ndL]; omega
  ·rw [if_neg h1] at h; omega
end
mutual
def nmT : Tree → Bool
 | ⟨_, s, l⟩ => decide (s.size ≤ 20000) && nmL l
def nmL : List Tree → Bool
 | [] => true
 | x :: l => nmT x && nmL l
end
theorem nmL_all : ∀ l, nmL l = l.all nmT
 | [] => rfl
 | x :: l => by simp only [nmL, List.all_cons, nmL_all l]
theorem nmT_iff (k : Int) (s : ByteArray) (l : List Tree) : nmT ⟨k, s, l⟩ = true ↔ s.size ≤ 20000 ∧ ∀ y ∈ l, nmT y = true := by
 rw [nmT, nmL_all]; simp
theorem ok_size {k : Int} {s : ByteArray} (h : okT ⟨k, s, 0⟩ = true) : s.size ≤ 20000 := by
 by_cases h1 : 20000 < s.data.toList.length
 ·unfold okT scanL at h
  dsimp only at h
  rw [if_pos h1] at h
  cases h
 ·rw [bsz] at h1; omega
theorem nil_size {s : ByteArray} (h : (s.toList == []) = true) : s.size ≤ 20000 := by
 have h1 : s.toList = [] := by simpa using h
 have h2 : s.data.toList = [] := by rw [← Lib.toList_data]; exact h1
 have h3 := congrArg List.length h2
 rw [bsz] at h3
 have h4 : ([] : List UInt8).length = 0 := rfl
 omega
theorem type_nm : ∀ (n : Nat) (x : Tree), SizeOf.sizeOf x < n → isTypeT x = true → nmT x = true
 | 0, _, h, _ => absurd h (Nat.not_lt_zero _)
 | n + 1, ⟨k, s, l⟩, hn, h => by
  have ih : ∀ y ∈ l, isTypeT y = true → nmT y = true := fun y hy => type_nm n y (by have := kid_lt (x := ⟨k, s, l⟩) hy; omega)
  rw [isTypeT_eq] at h
  rw [nmT_iff]
  rcases Bool.or_eq_true _ _ ▸ h with h | h
  ·unfold isWordB at h
   simp only [Bool.and_eq_true] at h
   obtain ⟨⟨_, h1⟩, h2⟩ := h
   have h3 : l = [] := by simpa using h2
   subst h3
   exact ⟨ok_size h1, by simp⟩
  ·simp only [Bool.and_eq_true, List.all_eq_true] at h
   exact ⟨nil_size h.1.1.2, fun y hy => ih y hy (h.2 y hy)⟩
theorem types_nm {x : Tree} (h : isTypeT x = true) : nmT x = true := type_nm _ x (Nat.lt_succ_self _) h
theorem or_size {s : ByteArray} (h : (nameB s || varB s) = true) : s.size ≤ 20000 := by
 rcases Bool.or_eq_true _ _ ▸ h with h | h
 ·exact ok_size h
 ·exact ok_size h
theorem binds_nm {p : Tree → Bool} {k : Int} {s : ByteArray} {l : List Tree} (hp : ∀ y ∈ l, p y = true → nmT y = true) (h : bindsB p ⟨k, s, l⟩ = true) : nmT ⟨k, s, l⟩ = true := by
 rw [nmT_iff]
 have h2 := h
 rw [bindsB_eq] at h2
 simp only [Bool.and_eq_true] at h2
 refine ⟨or_size h2.1, ?_⟩
 rcases binds_kids h with ⟨y, rfl, hy⟩ | ⟨t, y, rfl, ht, hy⟩
 ·intro z hz
  rw [List.mem_singleton.1 hz]
  exact hp y (by simp) hy
 ·intro z hz
  simp only [List.mem_cons, List.not_mem_nil, or_false] at hz
  rcases hz with rfl | rfl
  ·exact types_nm ht
  ·exact hp z (by simp) hy
theorem term_nm : ∀ (n : Nat) (x : Tree), SizeOf.sizeOf x < n → isTermT x = true → nmT x = true
 | 0, _, h, _ => absurd h (Nat.not_lt_zero _)
 | n + 1, ⟨k, s, l⟩, hn, h => by
  have ih : ∀ y ∈ l, isTermT y = true → nmT y = true := fun y hy => term_nm n y (by have := kid_lt (x := ⟨k, s, l⟩) hy; omega)
  have h0 := h
  rw [isTermT_eq] at h
  by_cases h15 : k = 15
  ·rw [if_pos h15] at h
   simp only [Bool.and_eq_true, List.all_eq_true] at h
   rw [nmT_iff]
   exact ⟨ok_size h.1, fun y hy => ih y hy (h.2.2 y hy)⟩
  rw [if_neg h15] at h
  by_cases h16 : k = 16
  ·rw [if_pos h16] at h
   simp only [Bool.and_eq_true, List.all_eq_true] at h
   rw [nmT_iff]
   exact ⟨ok_size h.1, fun y hy => ih y hy (h.2.2 y hy)⟩
  rw [if_neg h16] at h
  by_cases h17 : k = 17
  ·rw [if_pos h17] at h
   exact binds_nm ih h
  ·rw [if_neg h17] at h; cases h
theorem terms_nm {x : Tree} (h : isTermT x = true) : nmT x = true := term_nm _ x (Nat.lt_succ_self _) h
theorem form_nm : ∀ (n : Nat) (x : Tree), SizeOf.sizeOf x < n → isFormT x = true → nmT x = true
 | 0, _, h, _ => absurd h (Nat.not_lt_zero _)
 | n + 1, ⟨k, s, l⟩, hn, h => by
  have ih : ∀ y ∈ l, isFormT y = true → nmT y = true := fun y hy => form_nm n y (by have := kid_lt (x := ⟨k, s, l⟩) hy; omega)
  rw [isFormT_eq] at h
  by_cases h15 : k = 15
  ·rw [if_pos h15] at h; exact terms_nm h
  rw [if_neg h15] at h
  by_cases h18 : k = 18 ∨ k = 19
  ·rw [if_pos h18] at h; exact binds_nm ih h
  rw [if_neg h18] at h
  simp only [Bool.and_eq_true, List.all_eq_true] at h
  rw [nmT_iff]
  exact ⟨nil_size h.1, fun y hy => ih y hy (h.2.2 y hy)⟩
theorem forms_nm {x : Tree} (h : isFormT x = true) : nmT x = true := form_nm _ x (Nat.lt_succ_self _) h
theorem word_nm {x : Tree} (h : isWordB x = true) : nmT x = true := types_nm (by rw [isTypeT_eq, h]; rfl)
theorem items_nm {x : Tree} (h : isItemT x = true) : nmT x = true := by
 obtain ⟨k, s, l⟩ := x
 unfold isItemT at h
 dsimp only at h
 rw [nmT_iff]
 split at h
 ·simp only [Bool.and_eq_true, List.all_eq_true] at h
  exact ⟨nil_size h.1, fun y hy => word_nm (h.2.2 y hy)⟩
 split at h
 ·simp only [Bool.and_eq_true, List.all_eq_true] at h
  refine ⟨nil_size h.1, fun y hy => ?_⟩
  rcases List.eq_nil_or_concat l with rfl | ⟨m, z, rfl⟩
  ·cases hy
  ·rw [List.concat_eq_append] at h hy
   rw [List.dropLast_concat, lastB_snoc] at h
   rcases List.mem_append.1 hy with hy | hy
   ·exact word_nm (h.2.2.1 y hy)
   ·rw [List.mem_singleton.1 hy]; exact types_nm h.2.2.2
 simp only [Bool.and_eq_true] at h
 obtain ⟨h1, h⟩ := h
 refine ⟨ok_size h1, ?_⟩
 split at h
 ·simp only [Bool.and_eq_true, List.all_eq_true] at h
  exact fun y hy => types_nm (h.2 y hy)
 split at h
 ·simp only [Bool.and_eq_true, List.all_eq_true] at h
  exact fun y hy => types_nm (mode_type (h.2 y hy))
 split at h
 ·simp only [Bool.and_eq_true, beq_iff_eq] at h
  obtain ⟨a, rfl⟩ := List.length_eq_one_iff.1 (show l.length = 1 by omega)
  intro y hy
  rw [List.mem_singleton.1 hy]
  exact forms_nm h.2
 ·simp only [Bool.and_eq_true, beq_iff_eq] at h
  obtain rfl : l = [] := List.length_eq_zero_iff.1 (by omega)
  simp
theorem trees_nm {x : Tree} (h : isTreeT x = true) : nmT x = true := by
 obtain ⟨k, s, l⟩ := x
 unfold isTreeT at h
 split at h
 ·simp only [Bool.and_eq_true, List.all_eq_true] at h
  rw [nmT_iff]
  exact ⟨nil_size h.1, fun y hy => items_nm (h.2 y hy)⟩
 ·simp only [Bool.or_eq_true] at h
  rcases h with h | h | h | h
  ·exact types_nm h
  ·exact terms_nm h
  ·exact forms_nm h
  ·exact items_nm h
mutual
theorem wt_nd : ∀ (x : Tree), nmT x = true → wtT x ≤ 20040 * ndT x
 | ⟨k, s, l⟩, h => by
  rw [nmT] at h
  simp only [Bool.and_eq_true, decide_eq_true_eq] at h
  have := wtL_nd l h.2
  rw [wtT, ndT]; omega
theorem wtL_nd : ∀ (l : List Tree), nmL l = true → wtL l ≤ 20040 * ndL l
 | [], _ => by simp [wtL, ndL]
 | x :: l, h => by
  rw [nmL] at h
  simp only [Bool.and_eq_true] at h
  have := wt_nd x h.1
  have := wtL_nd l h.2
  rw [wtL, ndL]; omega
end
theorem check_parts {x : Tree} (h : checkT x = 0) : cntT x 0 ≤ 4000 ∧ deepN 100 x = false ∧ isTreeT x = true := by
 unfold checkT at h
 split at h
 ·cases h
 split at h
 ·cases h
 split at h
 ·rename_i h1 h2 h3; exact ⟨by omega, by simpa using h2, h3⟩
 ·cases h
theorem check_wt {x : Tree} (h : checkT x = 0) : wtT x ≤ 80160000 := by
 obtain ⟨h1, _, h3⟩ := check_parts h
 have h4 := wt_nd x (trees_nm h3)
 have h5 := nd_cnt x 0 (by omega) h1
 omega
def linesS : List Tree → List UInt8
 | [] => []
 | x :: l => itemS x ++ ([10] ++ linesS l)
theorem lines_len : ∀ l : List Tree, (linesS l).length ≤ wtL l
 | [] => by simp [linesS]
 | x :: l => by have := lines_len l; have := item_len x; rw [linesS, wtL]; simp; omega
/-- The canonical text of a valid tree. -/
def printedS (x : Tree) : List UInt8 := if x.f0 = 1 then linesS x.f2 else if x.f0 = 31 then typeS x else if x.f0 = 17 ∨ x.f0 = 16 then termS x else if wordS x.f0 ≠ [] then itemS x else formS x 0 true
theorem printed_len (x : Tree) : (printedS x).length ≤ wtT x := by
 unfold printedS
 split
 ·obtain ⟨k, s, l⟩ := x
  have := lines_len l
  rw [wtT]; dsimp only; omega
 split
 ·have := type_len x; omega
 split
 ·have := term_len x; omega
 split
 ·have := item_len x; omega
 ·exact form_len x 0 true
/-- What a valid tree is, by its kind. -/
theorem tree_kind {x : Tree} (h : isTreeT x = true) : (x.f0 = 1 → ∀ y ∈ x.f2, isItemT y = true) ∧ (x.f0 = 31 → isTypeT x = true) ∧ (x.f0 = 17 ∨ x.f0 = 16 → isTermT x = true) ∧ (x.f0 ≠ 1 → x.f0 ≠ 31 → ¬ (x.f0 = 17 ∨ x.f0 = 16) → wordS x.f0 ≠ [] → isItemT x = true) ∧ (x.f0 ≠ 1 → x.f0 ≠ 31 → ¬ (x.f0 = 17 ∨ x.f0 = 16) → wordS x.f0 = [] → isFormT x = true) := by
 obtain ⟨k, s, l⟩ := x
 dsimp only
 unfold isTreeT at h
 dsimp only at h
 by_cases h1 : k = 1
 ·rw [if_pos h1] at h
  simp only [Bool.and_eq_true, List.all_eq_true] at h
  exact ⟨fun _ => h.2, fun e => by omega, fun e => by omega, fun e => absurd h1 e, fun e => absurd h1 e⟩
 rw [if_neg h1] at h
 simp only [Bool.or_eq_true] at h
 have hT : isTypeT ⟨k, s, l⟩ = true → k = 15 ∧ isTermT ⟨k, s, l⟩ = true ∨ k = 31 := by
  intro h
  rw [isTypeT_eq] at h
  unfold isWordB at h
  simp only [Bool.or_eq_true, Bool.and_eq_true, beq_iff_eq] at h
  rcases h with h | h
  ·refine .inl ⟨h.1.1, ?_⟩
   have h3 : l = [] := by simpa using h.2
   subst h3
   rw [isTermT_eq, if_pos h.1.1]
   simp [h.1.2]
  ·exact .inr h.1.1.1
 have hM : isTermT ⟨k, s, l⟩ = true → k = 15 ∨ k = 16 ∨ k = 17 := by
  intro h
  rw [isTermT_eq] at h
  split at h
  ·omega
  split at h
  ·omega
  split at h
  ·omega
  ·cases h
 have hF : isFormT ⟨k, s, l⟩ = true → k = 15 ∨ k = 18 ∨ k = 19 ∨ sizeF k ≠ -1 := by
  intro h
  rw [isFormT_eq] at h
  split at h
  ·omega
  split at h
  ·omega
  ·simp only [Bool.and_eq_true, beq_iff_eq] at h
   right; right; right; omega
 have hI : isItemT ⟨k, s, l⟩ = true → 2 ≤ k ∧ k ≤ 14 := by
  intro h
  unfold isItemT at h
  dsimp only at h
  split at h
  ·omega
  split at h
  ·omega
  simp only [Bool.and_eq_true] at h
  have h := h.2
  split at h
  ·omega
  split at h
  ·omega
  split at h
  ·omega
  ·simp only [Bool.and_eq_true, Bool.or_eq_true, beq_iff_eq] at h; omega
 have hz : sizeF k ≠ -1 → 20 ≤ k ∧ k ≤ 30 := by
  intro h
  unfold sizeF at h
  split at h
  ·omega
  split at h
  ·omega
  split at h
  ·omega
  ·omega
 have hw : ∀ k : Int, 2 ≤ k ∧ k ≤ 14 → wordS k ≠ [] := by
  intro k hk
  have : k = 2 ∨ k = 3 ∨ k = 4 ∨ k = 5 ∨ k = 6 ∨ k = 7 ∨ k = 8 ∨ k = 9 ∨ k = 10 ∨ k = 11 ∨ k = 12 ∨ k = 13 ∨ k = 14 := by omega
  rcases this with rfl | rfl | rfl | rfl | rfl | rfl | rfl | rfl | rfl | rfl | rfl | rfl | rfl <;> decide
 have hw2 : wordS k ≠ [] → 2 ≤ k ∧ k ≤ 14 := by
  intro h
  unfold wordS at h
  cases hf : itemL.find? (fun r => k == r.2.1) with
  | none => rw [hf] at h; exact absurd rfl h
  | some r =>
   have h2 := List.mem_of_find?_eq_some hf
   have h3 := List.find?_some hf
   have h4 : ∀ r ∈ itemL, 2 ≤ r.2.1 ∧ r.2.1 ≤ 14 := by decide
   have h5 := h4 r h2
   have h6 : k = r.2.1 := by simpa using h3
   omega
 refine ⟨fun e => absurd e h1, fun e => ?_, fun e => ?_, fun _ e1 e2 e3 => ?_, fun _ e1 e2 e3 => ?_⟩
 ·rcases h with h | h | h | h
  ·exact h
  ·have := hM h; omega
  ·rcases hF h with h | h | h | h
   ·omega
   ·omega
   ·omega
   ·have := hz h; omega
  ·have := hI h; omega
 ·rcases h with h | h | h | h
  ·rcases hT h with h | h
   ·exact h.2
   ·omega
  ·exact h
  ·rcases hF h with h | h | h | h
   ·omega
   ·omega
   ·omega
   ·have := hz h; omega
  ·have := hI h; omega
 ·have h9 := hw2 e3
  rcases h with h | h | h | h
  ·rcases hT h with h | h <;> omega
  ·have := hM h; omega
  ·rcases hF h with h | h | h | h
   ·omega
   ·omega
   ·omega
   ·have := hz h; omega
  ·exact h
 ·have h15 : k = 15 → isTermT ⟨k, s, l⟩ = true → isFormT ⟨k, s, l⟩ = true := by
   intro h1 h2
   rw [isFormT_eq, if_pos h1]; exact h2
  rcases h with h | h | h | h
  ·rcases hT h with h | h
   ·exact h15 h.1 h.2
   ·omega
  ·rcases hM h with h2 | h2 | h2
   ·exact h15 h2 h
   ·omega
   ·omega
  ·exact h
  ·exact absurd e3 (hw k (hI h))
end Go.Proofs.YtbndfgoklgdfdaaGreatDoor.P
end
section
set_option linter.unusedSimpArgs false
namespace Go.Proofs.YtbndfgoklgdfdaaGreatDoor.P
open Go.RowKit Go.Proofs.YtbndfgoklgdfdaaGreatDoorW.PrintWords Go.Proofs.YtbndfgoklgdfdaaGreatDoorW.PrintLast Go.Proofs.YtbndfgoklgdfdaaGreatDoorW.PrintMore
attribute [local go_sem] Oper.semAt_some
def freeSt (kd : Int) (z : List ByteArray) (x : Tree) (_ : List ByteArray) : List ByteArray × Bool := (if x.f0 = kd ∧ hasB z x.f1 = false then z ++ [x.f1] else z, true)
theorem freeSt_mu (kd : Int) (z : List ByteArray) (x : Tree) (ar : List ByteArray) : (freeSt kd z x ar).1.length ≤ z.length + 1 := by
 unfold freeSt
 dsimp only
 split <;> simp
/-- The names of a kind that occur free; the error. -/
def freeT (kd : Int) (x : Tree) : List ByteArray × Int := if checkT x = 0 then ((visT (freeSt kd) x [] []).1, 0) else ([], checkT x)
section
variable {o : Oper} {a : Act} {W : World}
theorem run_ibox {z : Int} {v : Operand} (ho : o.op = .box 3 v) (hv : a.eval v = .int .i64 z) : (execOp a.eval o).run Tryz.prog W = .ok (.value (.pointer (some ⟨W.heap.size, 0, none⟩))) (W.alloc (.cells #[.int .i64 z] 3 (0, 0))) := by
 unfold execOp
 rw [ho]
 simp only [hv]
 first | (go_simp; done) | (go_simp; rfl)
theorem run_lnew (ho : o.op = .alloc 49) : (execOp a.eval o).run Tryz.prog W = .ok (.value (.pointer (some ⟨W.heap.size, 0, none⟩))) (W.alloc (.cells #[nilS] 49 (0, 0))) := by
 unfold execOp
 rw [ho]
 first | (go_simp; done) | (go_simp; rfl)
end
set_option maxRecDepth 100000 in
set_option maxHeartbeats 8000000 in
theorem free_ok (x : Tree) (kd : Int) (hz : szT x = true) (hck : checkT x = 0) (w : World) (A : Option Addr) (c : Nat) (hc : x.f2.length ≤ c) (hC : Kd.C k25 w A x.f2.length x.f2) :
  Calls Tryz.prog 53 #[.agg (tN x A c), .int .i64 kd] w fun e W' => ∃ v, e = .returned (.tuple #[v, .int .i64 0]) ∧ Kd.R Kd.string 9 W' w.heap.size (fun _ => True) v (visT (freeSt kd) x [] []).1 ∧ Below w.heap.size w W' := by
 have HC := Lib.hid hC
 have HZ := Lib.hid hz
 have HCK := Lib.hid hck
 have HF := Lib.hid (Fz.refl w)
 clear hC hz hck
 refine (callsIn_wide (n := 0)).1 ?_
 refine callsIn_of_wp_marks Tryz.func53 rfl trivial ?_ rfl
 simp only [Tryz.ntmps53, List.size_toArray, List.length_cons, List.length_nil, Nat.reduceAdd, Nat.reduceSub, Array.replicate_succ, Array.replicate_zero, List.push_toArray, List.append_toArray, List.nil_append, List.cons_append]
 refine wpIn_wide.2 ?_
 go_wp2_with (first
  | ((with_reducible refine gate_dst (N := 2) rfl ?_); refine ez_box (t := 25) (cs := (tN x A c)) HF rfl rfl (run_tree rfl rfl) ?_; clear HF; intro b2 w1 HF)
  | ((with_reducible refine gate_dst (N := 3) rfl ?_); refine ez_box (t := 3) (cs := #[.int .i64 kd]) HF rfl rfl (run_ibox rfl rfl) ?_; clear HF; intro b3 w2 HF; obtain ⟨q1a, q1b, q1c⟩ := rd3 HF.out.b1)
  | (go_at_call 10; refine (check_on x HZ.out A c _ hc (Kd.C_below HC.out HF.out.below)).mono ?_; rw [HCK.out]; rintro e w2_ ⟨rfl, hb_⟩; clear q1a q1b q1c; have HF2_ := Lib.hid (HF.out.step hb_); clear HF hb_; have HF := HF2_; clear HF2_)
  | ((with_reducible refine gate_dst (N := 7) rfl ?_); refine ez_box (t := 49) (cs := #[nilS]) HF rfl rfl (run_lnew rfl) ?_; clear HF; intro bo w3 HF; obtain ⟨q1a, q1b, q1c⟩ := rd3 HF.out.b2)
  | (go_at_call 100; refine (occ_on x A c w _ _ HF).mono ?_; rintro e w4 ⟨tb, rfl, HF⟩; clear q1a q1b q1c))
 refine (wpIn_wide (n := 0)).1 ?_
 refine rangeFunc_bare rfl (fun h => by cases h) rfl trivial (enters_of Tryz.func136 (by kernel_rfl) rfl) fun fn rec D W1 hfn hrec hD hW1 => ?_
 have HF1 := (HF.out.alloc (.deferred (some []))).alloc (.loop rec)
 rw [← hW1, World.size_alloc, ← hD] at HF1
 have HF2 := (HF1.new (Below.refl _ _) (rT Kd.string 9 w.heap.size (fun _ => False) nilS []) (Kd.R_nil _ _ _ _ _) (fun _ h => h.elim)).up5.up3
 have HF3 := Lib.hid HF2.join
 clear HF HF1 HF2 hW1 hD
 have HREC := Lib.hid hrec
 have hRounds : RoundW (freeSt kd) List.length 4000 (D + 1) w (fun z ok => qT (D + 1) bo w.heap.size rec z ok) (vT b3 3 #[.int .i64 kd]) := by
  clear HF3 hrec
  intro m W ts z ok x1 A1 c1 ar Aa ca hmu hF hc1 hC1 hA HF
  obtain ⟨v, HF⟩ := HF.out.split
  have hy := run_yield (P := Tryz.prog) (args := #[.agg #[.int .i64 x1.f0, .string x1.f1, .slice A1 x1.f2.length c1, .slice Aa ar.length ca]]) HF.b0 (by rw [HREC.out]; rfl)
  rw [HREC.out] at hy
  refine ⟨fn, _, _, _, hy, roundIn_of_wpIn trivial ?_⟩
  clear hy
  simp
  gi_wp2_with fail
  obtain ⟨A0, c0, rfl⟩ := Kd.R_slice (show Kd.R Kd.string 9 W w.heap.size ok v z from HF.b2)
  have HF1 := HF.alloc (.cells #[.int .i64 x1.f0, .string x1.f1, .slice A1 x1.f2.length c1, .slice Aa ar.length ca] 118)
  obtain ⟨V1, hV1⟩ : ∃ V1, V1 = W.alloc (.cells #[.int .i64 x1.f0, .string x1.f1, .slice A1 x1.f2.length c1, .slice Aa ar.length ca] 118) := ⟨_, rfl⟩
  obtain ⟨n8, hn8⟩ : ∃ n8, n8 = W.heap.size := ⟨_, rfl⟩
  rw [← hV1, ← hn8] at HF1 ⊢
  have HF2 := HF1.swap
  refine ⟨_, run_beginRound HF2.b0 (by rw [HREC.out]), ?_⟩
  have HF3 := Lib.hid (HF2.obj (o' := .loop { rec with state := .busy }))
  obtain ⟨V2, hV2⟩ : ∃ V2, V2 = V1.putObj (D + 1) (.loop { rec with state := .busy }) := ⟨_, rfl⟩
  rw [← hV2] at HF3 ⊢
  clear HF HF1 HF2 hV1 hV2 hn8
  have HF := HF3
  clear HF3
  have HTF := Lib.hid hF
  have HMU := Lib.hid hmu
  clear hF hmu hA hC1 hc1
  have hB0 := Kd.R_reads' (show Kd.R Kd.string 9 V2 w.heap.size ok (.slice A0 z.length c0) z from HF.out.b3)
  have HB1 := Lib.hid hB0.2.1
  have HB2 := Lib.hid hB0.2.2
  clear hB0
  have q0 := (blk_cell HF.out.b1 0).trans rfl
  have q1 := (blk_cell HF.out.b1 1).trans rfl
  have q2 := (blk_cell HF.out.b2 0).trans rfl
  have q3 := (blk_cell (HF.out.mem (List.mem_cons_of_mem _ (List.mem_cons_of_mem _ (List.mem_cons_of_mem _ (List.mem_cons_of_mem _ HTF.out))))) 0).trans rfl
  by_cases hk : x1.f0 = kd
  ·have hke_ : (x1.f0 == kd) = true := beq_iff_eq.2 hk
   gi_wp2_with fail
   refine ⟨trivial, fun h => (by cases h), ((callsIn_wide.2 (contains_on z x1.f1 A0 c0 _ HB1.out HB2.out)).inRound (D + 1)).mono ?_⟩
   rintro e V3 ⟨rfl, hb_⟩
   have HF4 := Lib.hid (HF.out.step hb_.below)
   clear HF hb_ q0 q1 q2 q3
   have HF := HF4
   clear HF4 hke_
   have q0 := (blk_cell HF.out.b1 0).trans rfl
   have q1 := (blk_cell HF.out.b1 1).trans rfl
   have q2 := (blk_cell HF.out.b2 0).trans rfl
   have f2_ := blk_frozen (show V3.heap[bo]? = _ from HF.out.b2) 0
   cases hh : hasB z x1.f1
   ·have HH := Lib.hid hh
    clear hh
    have hown := (R_ownB (show Kd.R Kd.string 9 V3 w.heap.size ok (.slice A0 z.length c0) z from HF.out.b3)).alloc (.cells #[.string x1.f1] 9)
    have HOWN := Lib.hid hown
    clear hown
    obtain ⟨i0, hi, hz0, hz1, hz2⟩ := info_parts info9
    gi_wp2_with (gi_at_builtin; (refine wpListIn_append_own_at _ rfl _ _ 49 rfl w.heap.size 9 i0 _ 1 16 Tryz.underlying49 hi hz0 hz1 hz2 rfl (by decide) (.slice A0 z.length c0) z.length (z.map Value.string) rfl HOWN.out ⟨V3.heap.size, 0, none⟩ 1 1 [.string x1.f1] rfl rfl ?cells (by intro u hu; rw [List.mem_singleton.1 hu]; rfl) (by have := HMU.out; unfold maxLen; omega) (by have := HMU.out; omega) (by have := HF.out.below.size; simp; omega) ?after))
    case cells =>
     intro j u h
     rw [show (⟨V3.heap.size, 0, none⟩ : Addr).add j = ⟨V3.heap.size, j, none⟩ from by unfold Addr.add; split <;> simp_all, cell_of_row _ _ j _ _ (0, 0) (Go.heap_alloc_new _ _)]
     simpa using h
    case after =>
     intro v' w1' hown' hgrow _ hat
     obtain ⟨g', cap', rfl⟩ := ownsRow_succ hown'
     have HF4 := (HF.out.alloc (.cells #[.string x1.f1] 9)).lose.up4
     obtain ⟨ok', HF5⟩ := HF4.longer (z' := z ++ [x1.f1]) hgrow (by simpa using hown') (by rw [World.size_alloc]; exact hat)
     have HF6 := Lib.hid HF5.up4
     clear HF HF4 HF5 hown' hgrow hat q0 q1 q2 f2_ HOWN HB1 HB2
     have HF := HF6
     clear HF6
     have q2 := (blk_cell HF.out.b0 0).trans rfl
     have f2_ := blk_frozen (show w1'.heap[bo]? = _ from HF.out.b0) 0
     gi_wp2_with fail
     have HF4 := HF.out.set 0 (.slice (some ⟨g', 0, none⟩) (z.length + 1) cap') rfl
     have HF5 := HF4.up3
     refine ⟨_, _, run_endRound none HF5.b0, rfl, ?_⟩
     have HF6 := (HF5.obj (o' := .loop rec)).up4.lose
     rw [show ({ ({ rec with state := .busy } : Loop) with state := if (none : Option Code).isNone then .ready else .done, pending := none } : Loop) = rec by rw [HREC.out]; rfl]
     have hst : freeSt kd z x1 ar = (z ++ [x1.f1], true) := by unfold freeSt; rw [if_pos ⟨hk, HH.out⟩]
     rw [hst]
     exact ⟨_, Lib.hid HF6.join⟩
   ·have HH := Lib.hid hh
    clear hh
    gi_wp2_with fail
    refine ⟨_, _, run_endRound none HF.out.b0, rfl, ?_⟩
    have HF4 := (HF.out.obj (o' := .loop rec)).swap.lose.join
    rw [show ({ ({ rec with state := .busy } : Loop) with state := if (none : Option Code).isNone then .ready else .done, pending := none } : Loop) = rec by rw [HREC.out]; rfl]
    have hst : freeSt kd z x1 ar = (z, true) := by unfold freeSt; rw [if_neg (fun h => by rw [HH.out] at h; cases h.2)]
    rw [hst]
    exact ⟨_, Lib.hid HF4⟩
  ·have hke_ : (x1.f0 == kd) = false := beq_eq_false_iff_ne.2 hk
   gi_wp2_with fail
   refine ⟨trivial, ?_⟩
   gi_wp2_with fail
   refine ⟨_, _, run_endRound none HF.out.b0, rfl, ?_⟩
   have HF4 := (HF.out.obj (o' := .loop rec)).swap.lose.join
   rw [show ({ ({ rec with state := .busy } : Loop) with state := if (none : Option Code).isNone then .ready else .done, pending := none } : Loop) = rec by rw [HREC.out]; rfl]
   have hst : freeSt kd z x1 ar = (z, true) := by unfold freeSt; rw [if_neg (fun h => hk h.1)]
   rw [hst]
   exact ⟨_, Lib.hid HF4⟩
 have HST : Hid (∀ z x ar, (freeSt kd z x ar).1.length ≤ z.length + 1) := Lib.hid (freeSt_mu kd)
 obtain ⟨hcp1, hcp2, hcp3⟩ := check_parts HCK.out
 have hnd := nd_cnt x 0 (by omega) hcp1
 have hb3 : vT b3 3 #[.int .i64 kd] ∈ [bT D (.deferred (some [])), vT tb 25 (tN x A c), vT b3 3 #[.int .i64 kd], vT b2 25 (tN x A c)] := by simp
 refine ((callsIn_wide (n := 0 - 1)).2 (occ1_on (freeSt kd) List.length 4000 HST (D + 1) tb w (fun z ok => qT (D + 1) bo w.heap.size rec z ok) (vT b3 3 #[.int .i64 kd]) hRounds x hcp2 A c hc HC.out _ hb3 (by simp) [] _ (by simp; omega) W1 HF3)).mono ?_
 rintro e W2 ⟨rfl, ok2, HF⟩
 obtain ⟨v, HF1⟩ := HF.out.split
 obtain ⟨A0, c0, rfl⟩ := Kd.R_slice (show Kd.R Kd.string 9 W2 w.heap.size ok2 v (visT (freeSt kd) x [] []).1 from HF1.b2)
 have hp : rec.pending = none := by rw [HREC.out]
 obtain ⟨rec2, hre⟩ : ∃ rec2, (Instr.endLoop (D + 1)).run Tryz.prog W2 = .ok none (W2.putObj (D + 1) (.loop rec2)) := ⟨_, by
  have h := run_endLoop (P := Tryz.prog) HF1.b0 (by rw [HREC.out]; simp)
  rw [hp] at h
  exact h⟩
 have HF2 := Lib.hid (HF1.obj (o' := .loop rec2)).lose.up3
 obtain ⟨V, hV⟩ : ∃ V, V = W2.putObj (D + 1) (.loop rec2) := ⟨_, rfl⟩
 refine ⟨_, _, hre, ?_⟩
 rw [← hV] at HF2 ⊢
 clear hre hV HF HF1 hRounds HST hcp1 hcp2 hcp3 hnd hb3 hp HF3 hrec HREC
 have HF := HF2
 clear HF2
 have q0 := (blk_cell HF.out.b1 0).trans rfl
 simp only
 go_wp2_with fail
 refine ⟨by simp, .inl ⟨_, V.putObj D (.deferred none), rfl, run_takeDeferred HF.out.b0, ?_⟩⟩
 have HF2 := (HF.out.obj (o' := .deferred none)).lose
 refine ⟨.tuple #[.slice A0 (visT (freeSt kd) x [] []).1.length c0, .int .i64 0], by simp [results, Tryz.results53, go_sem], _, rfl, ?_, HF2.below⟩
 exact Kd.R_mono (show Kd.R Kd.string 9 _ w.heap.size ok2 (.slice A0 (visT (freeSt kd) x [] []).1.length c0) (visT (freeSt kd) x [] []).1 from HF2.b1) (fun _ _ => trivial)
end Go.Proofs.YtbndfgoklgdfdaaGreatDoor.P
end
section
set_option linter.unusedSimpArgs false
namespace Go.Proofs.YtbndfgoklgdfdaaGreatDoor.P
open Go.RowKit Go.Proofs.YtbndfgoklgdfdaaGreatDoorW.PrintWords Go.Proofs.YtbndfgoklgdfdaaGreatDoorW.PrintLast Go.Proofs.YtbndfgoklgdfdaaGreatDoorW.PrintMore
set_option maxRecDepth 100000 in
set_option maxHeartbeats 4000000 in
theorem free_on (x : Tree) (kd : Int) (hz : szT x = true) (w : World) (A : Option Addr) (c : Nat) (hc : x.f2.length ≤ c) (hC : Kd.C k25 w A x.f2.length x.f2) :
  Calls Tryz.prog 53 #[.agg (tN x A c), .int .i64 kd] w fun e W' => ∃ v, e = .returned (.tuple #[v, .int .i64 (freeT kd x).2]) ∧ Kd.R Kd.string 9 W' w.heap.size (fun _ => True) v (freeT kd x).1 ∧ Below w.heap.size w W' := by
 by_cases hck : checkT x = 0
 ·have e : freeT kd x = ((visT (freeSt kd) x [] []).1, 0) := by unfold freeT; rw [if_pos hck]
  rw [e]
  exact free_ok x kd hz hck w A c hc hC
 ·have e : freeT kd x = ([], checkT x) := by unfold freeT; rw [if_neg hck]
  have hn0 : (checkT x != 0) = true := by simp [hck]
  have HC := Lib.hid hC
  have HZ := Lib.hid hz
  have HF := Lib.hid (Fz.refl w)
  rw [e]
  clear hC hz e
  refine (callsIn_wide (n := 0)).1 ?_
  refine callsIn_of_wp_marks Tryz.func53 rfl trivial ?_ rfl
  simp only [Tryz.ntmps53, List.size_toArray, List.length_cons, List.length_nil, Nat.reduceAdd, Nat.reduceSub, Array.replicate_succ, Array.replicate_zero, List.push_toArray, List.append_toArray, List.nil_append, List.cons_append]
  refine wpIn_wide.2 ?_
  go_wp2_with (first
   | ((with_reducible refine gate_dst (N := 2) rfl ?_); refine ez_box (t := 25) (cs := (tN x A c)) HF rfl rfl (run_tree rfl rfl) ?_; clear HF; intro b2 w1 HF)
   | ((with_reducible refine gate_dst (N := 3) rfl ?_); refine ez_box (t := 3) (cs := #[.int .i64 kd]) HF rfl rfl (run_ibox rfl rfl) ?_; clear HF; intro b3 w2 HF; obtain ⟨q1a, q1b, q1c⟩ := rd3 HF.out.b1)
   | (go_at_call 10; refine (check_on x HZ.out A c _ hc (Kd.C_below HC.out HF.out.below)).mono ?_; rintro e w2_ ⟨rfl, hb_⟩; clear q1a q1b q1c; have HF2_ := Lib.hid (HF.out.step hb_); clear HF hb_; have HF := HF2_; clear HF2_))
  refine ⟨.tuple #[.slice none 0 0, .int .i64 (checkT x)], by simp [results, Tryz.results53, go_sem], _, rfl, Kd.R_nil _ _ _ _ _, HF.out.below⟩
set_option maxRecDepth 100000 in
set_option maxHeartbeats 4000000 in
theorem vars_on (x : Tree) (hz : szT x = true) (w : World) (A : Option Addr) (c : Nat) (hc : x.f2.length ≤ c) (hC : Kd.C k25 w A x.f2.length x.f2) :
  Calls Tryz.prog 29 #[.agg (tN x A c)] w fun e W' => ∃ v, e = .returned (.tuple #[v, .int .i64 (freeT 16 x).2]) ∧ Kd.R Kd.string 9 W' w.heap.size (fun _ => True) v (freeT 16 x).1 ∧ Below w.heap.size w W' := by
 have HC := Lib.hid hC
 have HZ := Lib.hid hz
 have HF := Lib.hid (Fz.refl w)
 clear hC hz
 go_enter Tryz.func29, Tryz.ntmps29
 go_wp2_with (first
  | ((with_reducible refine gate_dst (N := 1) rfl ?_); refine ez_box (t := 25) (cs := (tN x A c)) HF rfl rfl (run_tree rfl rfl) ?_; clear HF; intro b1 w1 HF; obtain ⟨q1a, q1b, q1c⟩ := rd3 HF.out.b0)
  | (go_at_call 53; refine (free_on x 16 HZ.out _ A c hc (Kd.C_below HC.out HF.out.below)).mono ?_; rintro e w2_ ⟨v_, rfl, hR_, hb_⟩; clear q1a q1b q1c; have HR := Lib.hid (Kd.R_lower hR_ HF.out.below.size); have HB := Lib.hid (below_step HF.out.below hb_); clear hR_ hb_ HF))
 refine bodyPost_ret (v := .tuple #[v_, .int .i64 (freeT 16 x).2]) (by simp [results, Tryz.results29, go_sem]) rfl ?_
 exact ⟨_, rfl, HR.out, HB.out⟩
end Go.Proofs.YtbndfgoklgdfdaaGreatDoor.P
end
section
set_option linter.unusedSimpArgs false
namespace Go.Proofs.YtbndfgoklgdfdaaGreatDoor.P
open Go.RowKit Go.Proofs.YtbndfgoklgdfdaaGreatDoorW.PrintWords Go.Proofs.YtbndfgoklgdfdaaGreatDoorW.PrintLast Go.Proofs.YtbndfgoklgdfdaaGreatDoorW.PrintMore

set_option maxHeartbeats 2000000 in
set_option maxRecDepth 100000 in
/-- String at a printer that has written something. -/
theorem str_on (w W : World) (ts : List Th) (g : Nat) (ok : Nat → Prop) (l : List UInt8) (HF : Hid (Fz w W (prT g w.heap.size ok l :: ts))) (h0 : l ≠ []) :
  Calls Tryz.prog 99 #[.pointer (some ⟨g, 0, none⟩)] W fun e W' => e = .returned (.string ⟨l.toArray⟩) ∧ Below w.heap.size w W' := by
 obtain ⟨p, v, hp, hbk, hown, hk, hn⟩ := HF.out.b0
 have hl0 : l.length ≠ 0 := by simpa using h0
 obtain ⟨gb, cap, cur, rfl, hbg, hgc, hnc, hcm, hcs, htake⟩ : ∃ gb cap cur, v = .slice (some ⟨gb, 0, none⟩) l.length cap ∧ w.heap.size ≤ gb ∧ W.heap[gb]? = some (.cells cur 5 (0, 0)) ∧ l.length ≤ cap ∧ cap ≤ maxLen ∧ cur.size = cap * 1 ∧ cur.toList.take (l.length * 1) = Lib.byteCells l := by
  rcases hown.2 with ⟨_, hz⟩ | ⟨gb, cap, cur, hv, r⟩
  ·exact absurd hz hl0
  ·exact ⟨gb, cap, cur, hv, r⟩
 have c1 : W.drew.cell? ⟨g, 1, none⟩ = some (.slice (some ⟨gb, 0, none⟩) l.length cap) := (blk_cell (show W.drew.heap[g]? = _ from hbk) 1).trans rfl
 have hSD : (Builtin.unsafeSliceData_ #[97] 135 #[.slice (some ⟨gb, 0, none⟩) l.length cap]).run Tryz.prog W.drew = .ok (.pointer (some ⟨gb, 0, none⟩)) W.drew :=
  Lib.run_unsafeSliceData_row _ _ _ _ _ _ (by omega)
 have hUS : (Builtin.unsafeString_ #[135, 3] 9 #[.pointer (some ⟨gb, 0, none⟩), .int .i64 l.length]).run Tryz.prog W.drew = .ok (.string ⟨l.toArray⟩) (W.drew.freeze ⟨gb, 0, none⟩ l.length) := by
  refine Lib.run_unsafeString_row W.drew 135 3 9 5 Tryz.underlying135 (by kernel_rfl) gb cur.size (by have hg' : W.drew.heap[gb]? = some (.cells cur 5 (0, 0)) := hgc; simp [World.shape?, hg']) l h0 (by omega) (by unfold maxLen at hcm; omega) ?_
  intro j x hx
  have := hown.cells (g := gb) rfl j (.int .u8 x.toNat) (by simp [Lib.byteCells, hx])
  exact this
 have HEND : Hid (Below w.heap.size w (W.drew.freeze ⟨gb, 0, none⟩ l.length)) := Lib.hid (Lib.below_freeze (Below.drew HF.out.below) (p := ⟨gb, 0, none⟩) hbg _)
 clear HF hp hbk hown hk hn hl0 h0 hbg hgc hnc hcm hcs htake
 have mixed : (Tryz.prog).follows .mixedOrders = true := by kernel_rfl
 go_enter Tryz.func99, Tryz.ntmps99
 go_wp2_with fail
 go_region_o
 all_goals (go_wp2_with fail; go_ret; exact ⟨rfl, HEND.out⟩)
end Go.Proofs.YtbndfgoklgdfdaaGreatDoor.P
end
section
set_option linter.unusedSimpArgs false
namespace Go.Proofs.YtbndfgoklgdfdaaGreatDoor.P
open Go.RowKit Go.Proofs.YtbndfgoklgdfdaaGreatDoorW.PrintWords Go.Proofs.YtbndfgoklgdfdaaGreatDoorW.PrintLast Go.Proofs.YtbndfgoklgdfdaaGreatDoorW.PrintMore

set_option maxHeartbeats 2000000 in
set_option maxRecDepth 100000 in
theorem str_nil (w W : World) (ts : List Th) (g : Nat) (p : Value) (HF : Hid (Fz w W (vT g 105 #[p, nilS] :: ts))) :
  Calls Tryz.prog 99 #[.pointer (some ⟨g, 0, none⟩)] W fun e W' => e = .returned (.string ⟨#[]⟩) ∧ Below w.heap.size w W' := by
 have c1 : W.drew.cell? ⟨g, 1, none⟩ = some nilS := (blk_cell (show W.drew.heap[g]? = _ from HF.out.b0) 1).trans rfl
 have hSD : (Builtin.unsafeSliceData_ #[97] 135 #[nilS]).run Tryz.prog W.drew = .ok (.pointer none) W.drew := by rfl
 have hUS : (Builtin.unsafeString_ #[135, 3] 9 #[.pointer none, .int .i64 0]).run Tryz.prog W.drew = .ok (.string ⟨#[]⟩) W.drew := by
  first | rfl | (unfold Builtin.unsafeString_; go_simp; done) | (unfold Builtin.unsafeString_; go_simp; rfl)
 have HEND : Hid (Below w.heap.size w W.drew) := Lib.hid (Below.drew HF.out.below)
 clear HF
 have mixed : (Tryz.prog).follows .mixedOrders = true := by kernel_rfl
 go_enter Tryz.func99, Tryz.ntmps99
 go_wp2_with fail
 go_region_o
 all_goals (go_wp2_with fail; go_ret; exact ⟨rfl, HEND.out⟩)
/-- A printer that has been made: nothing is written yet. -/
theorem Fz.pr {w W : World} {ts : List Th} {g : Nat} (h : Fz w W (vT g 105 #[.pointer none, nilS] :: ts)) : Fz w W (prT g w.heap.size (fun _ => False) [] :: ts) :=
 h.change _ (Nat.le_refl _) ⟨rfl, rfl, rfl⟩ (fun _ _ _ => rfl) ⟨.pointer none, nilS, .inl rfl, h.b0, World.ownsRow_nil _ _ _ _, fun k hk => by simp [Value.ownBlock] at hk, fun h => h⟩ (fun k hk => by
  rcases hk with hk | hk
  ·exact .inl hk
  ·exact hk.elim)
end Go.Proofs.YtbndfgoklgdfdaaGreatDoor.P
end
