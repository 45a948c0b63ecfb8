/- syntax's parser: texts. (printed by mkp2.py) syntax's plain parser: with enough rounds it comes to an end; it eats tokens; the names in its trees are tokens' texts. -/
import Derived.Test.YtbndfgoklgdfdaaGreatDoorSe22
import Derived.Test.YtbndfgoklgdfdaaGreatDoorSe17
import Derived.Shelf.Abstract
import Derived.Test.YtbndfgoklgdfdaaGreatDoorSe08
set_option linter.all false
section
set_option linter.unusedSimpArgs false
namespace Go.Proofs.YtbndfgoklgdfdaaGreatDoor.P
open Go.RowKit Go.Proofs.YtbndfgoklgdfdaaGreatDoorW.PrintWords Go.Proofs.YtbndfgoklgdfdaaGreatDoorW.PrintLast Go.Proofs.YtbndfgoklgdfdaaGreatDoorW.PrintMore
/-- The method that reads what stands behind an item's word. -/
def itemF (k : Nat) (F : FuncId) (kd : Int) : List Tok → PR Tree :=
 if F = 104 then listP k kd else if F = 105 then constP k kd else if F = 106 then predP k kd else if F = 107 then modeP k kd else if F = 108 then ruleP k kd else singleP kd
theorem item_par (k : Nat) : ∀ r ∈ itemL, PAll r.2.2 (fun g => #[.pointer (some ⟨g, 0, none⟩), .int .i64 r.2.1]) (itemF k r.2.2 r.2.1) := by
 intro r hr
 simp only [itemL, List.mem_cons, List.not_mem_nil, or_false] at hr
 rcases hr with rfl | rfl | rfl | rfl | rfl | rfl | rfl | rfl | rfl | rfl | rfl | rfl | rfl
 ·exact list_par k 2
 ·exact list_par k 14
 ·exact constant_par k 3
 ·exact predicate_par k 4
 ·exact predicate_par k 5
 ·exact predicate_par k 6
 ·exact mode_par k 7
 ·exact rule_par k 8
 ·exact rule_par k 9
 ·exact rule_par k 10
 ·exact rule_par k 11
 ·exact single_par 12
 ·exact single_par 13
theorem item_enter : ∀ r ∈ itemL, ∀ (args : Array Value) (w : World), (callFunc r.2.2 args).run Tryz.prog w = .ok (.enter r.2.2 args) w := by
 intro r hr
 simp only [itemL, List.mem_cons, List.not_mem_nil, or_false] at hr
 rcases hr with rfl | rfl | rfl | rfl | rfl | rfl | rfl | rfl | rfl | rfl | rfl | rfl | rfl
 ·exact enters_of Tryz.func104 (by kernel_rfl) rfl
 ·exact enters_of Tryz.func104 (by kernel_rfl) rfl
 ·exact enters_of Tryz.func105 (by kernel_rfl) rfl
 ·exact enters_of Tryz.func106 (by kernel_rfl) rfl
 ·exact enters_of Tryz.func106 (by kernel_rfl) rfl
 ·exact enters_of Tryz.func106 (by kernel_rfl) rfl
 ·exact enters_of Tryz.func107 (by kernel_rfl) rfl
 ·exact enters_of Tryz.func108 (by kernel_rfl) rfl
 ·exact enters_of Tryz.func108 (by kernel_rfl) rfl
 ·exact enters_of Tryz.func108 (by kernel_rfl) rfl
 ·exact enters_of Tryz.func108 (by kernel_rfl) rfl
 ·exact enters_of Tryz.func109 (by kernel_rfl) rfl
 ·exact enters_of Tryz.func109 (by kernel_rfl) rfl
def textT (kk : Nat) : Nat → List Tok → List Tree → PR Tree
 | 0, _, _ => .out
 | k + 1, ts, acc =>
  if 6000 < acc.length then .out
  else match ts with
  | [] => .ok ⟨1, ⟨#[]⟩, acc⟩ []
  | t :: tl =>
   match itemL.find? (fun r => t.f1 == (⟨r.1.toArray⟩ : ByteArray)) with
   | none => .bad (t :: tl)
   | some r => if t.f0 = 4 then (itemF kk r.2.2 r.2.1 tl).bind fun y t2 => (wantP [46] t2).bind fun _ t3 => textT kk k t3 (acc ++ [y]) else .bad (t :: tl)
def textP (k : Nat) (ts : List Tok) : PR Tree := textT k k ts []

set_option maxRecDepth 100000 in
set_option maxHeartbeats 8000000 in
theorem text_par (k : Nat) : PAll 31 (fun g => #[.pointer (some ⟨g, 0, none⟩)]) (textP k) := by
 intro w0 w g l ts h hne
 obtain ⟨r, hr⟩ : ∃ r, (textP k) ts = r := ⟨_, rfl⟩
 have HNE := Lib.hid hne
 have HF := Lib.hid (Fr.begin h)
 rw [hr] at HNE ⊢
 simp only [textP] at hr
 have HR := Lib.hid hr
 clear h hne hr
 go_enter Tryz.func31, Tryz.ntmps31
 go_wp2_with (first
  | ((with_reducible refine gate_dst (N := 2) rfl ?_); refine ev_box HF rfl rfl (run_node rfl) ?_; clear HF; intro b1 w428 HF)
  | ((with_reducible refine gate_dst (N := 3) rfl ?_); refine ev_box HF rfl rfl (run_node rfl) ?_; clear HF; intro b2 w429 HF)
  | ((with_reducible refine gate_store (t := 25) (p := 3) rfl ?_); have HF2_ := Lib.hid (HF.out.nil); clear HF; have HF := HF2_; clear HF2_; refine ev_put (p := 3) HF rfl rfl rfl rfl rfl rfl rfl ?_; clear HF; intro w430 HF))
 refine (rules_par _).mono ?_
 rintro e wm_ ⟨mb, rfl, hm_⟩
 replace HF := Lib.hid (HF.out.map hm_).third.third
 clear hm_
 go_wp2_with fail
 try simp only [Act.put, List.setIfInBounds_toArray, List.set_cons_zero, List.set_cons_succ]
 go_loopg [6] k (fun kq _ w' => ∃ (acc : List Tree) (ts' : List Tok) (A : Option Addr) (c : Nat) (ok : Nat → Prop) (wr : World), wr = w' ∧ True ∧ Hid (textT k kq ts' acc = r) ∧ Hid (kq ≤ k) ∧ Hid (Fr w0 w w' g (SP w0 g l ts') [vb b2 25 (tN ⟨1, ⟨#[]⟩, acc⟩ A c), vb b1 25 zN, (mb, .map itemEs 13)] [⟨ok, .slice A acc.length c, acc⟩]))
 case atStart => exact ⟨[], ts, none, 0, _, _, rfl, trivial, HR, Lib.hid (Nat.le_refl _), HF⟩
 case round =>
  clear HF HR
  obtain ⟨acc, ts', A, c, ok, wr, rfl, _, HA, HK, HF⟩ := hrel
  cases gk with
  | zero => exact absurd HA.out.symm (by simpa only [textT] using HNE.out)
  | succ k1 =>
   have h_ := HA.out
   clear HA
   simp only [textT] at h_
   have HR := Lib.hid h_
   clear h_
   by_cases h6 : 6000 < acc.length
   ·exact absurd ((if_pos h6).symm.trans HR.out).symm HNE.out
   have h_ := (if_neg h6).symm.trans HR.out
   clear HR
   try dsimp only at h_
   have HR := Lib.hid h_
   clear h_
   have HL_ := Lib.hid h6
   clear h6
   cases ts' with
   | nil =>
    have h_ := HR.out
    clear HR
    try dsimp only at h_
    have HR := Lib.hid h_
    clear h_
    obtain ⟨A0, c0, q0_, q1_⟩ := HF.out.st.none
    have b0_ : decide ((l.length : Int) < (l.length : Int)) = false := by simp
    go_wp2_with fail
    replace HF := Lib.hid HF.out.drew
    refine start_ (n := 10) (S := (fun w' => w'.cell? ⟨g, 0, none⟩ = some (.slice A0 l.length c0) ∧ w'.cell? ⟨g, 1, none⟩ = some (.int .i64 ((l.length : Int))))) (ds := []) #[false, false, false, false, false, false, false, false, false, false] (by kernel_rfl) rfl rfl ?_ (fun hHeld => ?_)
    ·exact ⟨q0_, q1_⟩
    refine pq 0 (fl 10 1) (h := ?_)
    refine pq 1 (fl 10 2) (h := ?_)
    refine pq 2 (fl 10 3) (h := ?_)
    refine pq 4 #[true, true, true, false, true, false, false, false, false, false] (h := ?_)
    refine pq 5 #[true, true, true, false, true, true, false, false, false, false] (h := ?_)
    refine pq 6 #[true, true, true, false, true, true, true, false, false, false] (h := ?_)
    refine tq hHeld 3 (fl 10 7) (h := ?_)
    refine tq hHeld 7 (fl 10 8) (h := ?_)
    refine pq 8 (fl 10 9) (h := ?_)
    refine pq 9 (fl 10 10) (h := ?_)
    refine done_ (by kernel_rfl) ?_
    clear hHeld
    try simp only [Act.put, List.setIfInBounds_toArray, List.set_cons_zero, List.set_cons_succ]
    clear q0_ q1_
    obtain ⟨q431a, q431b, q431c⟩ := rd3 HF.out.b0
    replace HF := Lib.hid HF.out.swap
    go_wp2_with (first
     | ((with_reducible refine gate_store (t := 25) (p := 2) rfl ?_); refine ev_put (p := 2) HF rfl rfl rfl rfl rfl rfl rfl ?_; clear HF; clear q431a q431b q431c; intro w432 HF))
    obtain rfl : PR.ok ⟨1, ⟨#[]⟩, acc⟩ [] = r := HR.out
    refine bodyPost_ret (results_cell_row rfl _ _ _ 25 _ (0, 0) _ rfl HF.out.b0 Tryz.underlying25 rfl (by kernel_rfl)) rfl ?_
    exact ⟨⟨_, _, (by first | rfl | simp), HF.out.made⟩, HF.out.st, HF.out.keep⟩
   | cons t tl =>
    obtain ⟨ad, c0, q0_, q1_, q2_⟩ := HF.out.st.tok
    have hp_ := HF.out.st.le
    have b0_ : decide ((l.length : Int) - ((tl.length : Int) + 1) < (l.length : Int)) = true := decide_eq_true (by omega)
    have b1_ : ((tl.length : Int) + 1 ≤ (l.length : Int)) = True := eq_true (by simp at hp_; omega)
    have b2_ : ((l.length : Int) - ((tl.length : Int) + 1) < (l.length : Int)) = True := eq_true (by omega)
    clear hp_
    go_wp2_with fail
    replace HF := Lib.hid HF.out.drew
    refine start_ (n := 10) (S := (fun w' => w'.cell? ⟨g, 0, none⟩ = some (.slice (some ad) l.length c0) ∧ w'.cell? ⟨g, 1, none⟩ = some (.int .i64 ((l.length : Int) - ((tl.length : Int) + 1))))) (ds := []) #[false, false, false, false, false, false, false, false, false, false] (by kernel_rfl) rfl rfl ?_ (fun hHeld => ?_)
    ·exact ⟨q0_, q1_⟩
    refine pq 0 (fl 10 1) (h := ?_)
    refine pq 1 (fl 10 2) (h := ?_)
    refine pq 2 (fl 10 3) (h := ?_)
    refine pq 4 #[true, true, true, false, true, false, false, false, false, false] (h := ?_)
    refine pq 5 #[true, true, true, false, true, true, false, false, false, false] (h := ?_)
    refine pq 6 #[true, true, true, false, true, true, true, false, false, false] (h := ?_)
    refine tq hHeld 3 (fl 10 7) (h := ?_)
    refine tq hHeld 7 (fl 10 8) (h := ?_)
    refine pq 8 (fl 10 9) (h := ?_)
    refine pq 9 (fl 10 10) (h := ?_)
    refine done_ (by kernel_rfl) ?_
    clear hHeld
    try simp only [Act.put, List.setIfInBounds_toArray, List.set_cons_zero, List.set_cons_succ]
    clear q0_ q1_ q2_
    obtain ⟨ad2, c2, q3_, q4_, q5_⟩ := HF.out.st.tok
    cases hfi : itemL.find? (fun r => t.f1 == (⟨r.1.toArray⟩ : ByteArray)) with
    | none =>
     have h_ := HR.out
     clear HR
     rw [hfi] at h_
     try dsimp only at h_
     have HR := Lib.hid h_
     clear h_
     go_wp2_with fail
     replace HF := Lib.hid HF.out.drew
     refine start_ (n := 19) (S := (fun w' => w'.cell? ⟨g, 0, none⟩ = some (.slice (some ad2) l.length c2) ∧ w'.cell? ⟨g, 1, none⟩ = some (.int .i64 ((l.length : Int) - ((tl.length : Int) + 1))) ∧ w'.cell? ⟨(ad2.add (((l.length : Int) - ((tl.length : Int) + 1)).toNat * 3)).block, (ad2.add (((l.length : Int) - ((tl.length : Int) + 1)).toNat * 3)).off + 1, none⟩ = some (.string t.f1) ∧ w'.heap[mb]? = some (.map itemEs 13))) (ds := [17]) #[false, false, false, false, false, false, false, false, false, false, false, false, false, false, false, false, false, false, false] (by kernel_rfl) rfl rfl ?_ (fun hHeld => ?_)
     ·exact ⟨q3_, q4_, q5_, HF.out.o2⟩
     refine pq 0 (fl 19 1) (h := ?_)
     refine pq 1 (fl 19 2) (h := ?_)
     refine pq 2 (fl 19 3) (h := ?_)
     refine pq 3 (fl 19 4) (h := ?_)
     refine pq 5 #[true, true, true, true, false, true, false, false, false, false, false, false, false, false, false, false, false, false, false] (h := ?_)
     refine pq 6 #[true, true, true, true, false, true, true, false, false, false, false, false, false, false, false, false, false, false, false] (h := ?_)
     refine pq 7 #[true, true, true, true, false, true, true, true, false, false, false, false, false, false, false, false, false, false, false] (h := ?_)
     refine tq hHeld 4 (fl 19 8) (h := ?_)
     refine tq hHeld 8 (fl 19 9) (h := ?_)
     refine pq 9 (fl 19 10) (h := ?_)
     refine pq 10 (fl 19 11) (h := ?_)
     refine tq hHeld 11 (fl 19 12) (h := ?_)
     refine tq hHeld 12 (fl 19 13) (hv := by intro w' hSw; go_simp; rw [look_none hSw.2.2.2 hfi]; rfl) (h := ?_)
     refine pq 13 (fl 19 14) (h := ?_)
     refine pq 14 (fl 19 15) (h := ?_)
     refine pq 15 (fl 19 16) (h := ?_)
     refine one_ (i := 16) (N := some 5) #[true, true, true, true, true, true, true, true, true, true, true, true, true, true, true, true, true, false, false] rfl rfl (by kernel_rfl) (by decide) (fun K hK => ?_)
     clear hHeld
     refine st_box (N := 5) HF rfl rfl (run_rule rfl) ?_
     clear HF
     intro b5 w433 hb_ HF
     refine hK.out _ _ (⟨pw_cell_below hb_ q3_, pw_cell_below hb_ q4_, pw_cell_below hb_ q5_, HF.out.o3⟩) (fun hHeld => ?_)
     clear hK K
     (try simp only [Act.put, List.setIfInBounds_toArray, List.set_cons_zero, List.set_cons_succ])
     refine last_ (i := 17) (N := none) #[true, true, true, true, true, true, true, true, true, true, true, true, true, true, true, true, true, true, false] rfl rfl (by kernel_rfl) (by decide) (fun K hK => ?_)
     refine st_put2 (p := 5) HF rfl rfl rfl rfl rfl rfl rfl ?_
     clear HF q3_ q4_ q5_
     intro w434 HF
     refine hK.out _ _ ?_
     clear hK K
     (try simp only [Act.put, List.setIfInBounds_toArray, List.set_cons_zero, List.set_cons_succ])
     refine pq 18 (fl 19 19) (h := ?_)
     refine done_ (by kernel_rfl) ?_
     skip
     try simp only [Act.put, List.setIfInBounds_toArray, List.set_cons_zero, List.set_cons_succ]
     go_wp2_with fail
     obtain rfl : PR.bad (t :: tl) = r := HR.out
     refine (c_refuse HF).mono ?_
     rintro e w_ ⟨rfl, HE⟩
     exact ⟨rfl, rfl, HE.out⟩
    | some ru =>
     have h_ := HR.out
     clear HR
     rw [hfi] at h_
     try dsimp only at h_
     have HR := Lib.hid h_
     clear h_
     go_wp2_with fail
     replace HF := Lib.hid HF.out.drew
     refine start_ (n := 19) (S := (fun w' => w'.cell? ⟨g, 0, none⟩ = some (.slice (some ad2) l.length c2) ∧ w'.cell? ⟨g, 1, none⟩ = some (.int .i64 ((l.length : Int) - ((tl.length : Int) + 1))) ∧ w'.cell? ⟨(ad2.add (((l.length : Int) - ((tl.length : Int) + 1)).toNat * 3)).block, (ad2.add (((l.length : Int) - ((tl.length : Int) + 1)).toNat * 3)).off + 1, none⟩ = some (.string t.f1) ∧ w'.heap[mb]? = some (.map itemEs 13))) (ds := [17]) #[false, false, false, false, false, false, false, false, false, false, false, false, false, false, false, false, false, false, false] (by kernel_rfl) rfl rfl ?_ (fun hHeld => ?_)
     ·exact ⟨q3_, q4_, q5_, HF.out.o2⟩
     refine pq 0 (fl 19 1) (h := ?_)
     refine pq 1 (fl 19 2) (h := ?_)
     refine pq 2 (fl 19 3) (h := ?_)
     refine pq 3 (fl 19 4) (h := ?_)
     refine pq 5 #[true, true, true, true, false, true, false, false, false, false, false, false, false, false, false, false, false, false, false] (h := ?_)
     refine pq 6 #[true, true, true, true, false, true, true, false, false, false, false, false, false, false, false, false, false, false, false] (h := ?_)
     refine pq 7 #[true, true, true, true, false, true, true, true, false, false, false, false, false, false, false, false, false, false, false] (h := ?_)
     refine tq hHeld 4 (fl 19 8) (h := ?_)
     refine tq hHeld 8 (fl 19 9) (h := ?_)
     refine pq 9 (fl 19 10) (h := ?_)
     refine pq 10 (fl 19 11) (h := ?_)
     refine tq hHeld 11 (fl 19 12) (h := ?_)
     refine tq hHeld 12 (fl 19 13) (hv := by intro w' hSw; go_simp; rw [look_some hSw.2.2.2 hfi]; rfl) (h := ?_)
     refine pq 13 (fl 19 14) (h := ?_)
     refine pq 14 (fl 19 15) (h := ?_)
     refine pq 15 (fl 19 16) (h := ?_)
     refine one_ (i := 16) (N := some 5) #[true, true, true, true, true, true, true, true, true, true, true, true, true, true, true, true, true, false, false] rfl rfl (by kernel_rfl) (by decide) (fun K hK => ?_)
     clear hHeld
     refine st_box (N := 5) HF rfl rfl (run_rule rfl) ?_
     clear HF
     intro b5 w435 hb_ HF
     refine hK.out _ _ (⟨pw_cell_below hb_ q3_, pw_cell_below hb_ q4_, pw_cell_below hb_ q5_, HF.out.o3⟩) (fun hHeld => ?_)
     clear hK K
     (try simp only [Act.put, List.setIfInBounds_toArray, List.set_cons_zero, List.set_cons_succ])
     refine last_ (i := 17) (N := none) #[true, true, true, true, true, true, true, true, true, true, true, true, true, true, true, true, true, true, false] rfl rfl (by kernel_rfl) (by decide) (fun K hK => ?_)
     refine st_put2 (p := 5) HF rfl rfl rfl rfl rfl rfl rfl ?_
     clear HF q3_ q4_ q5_
     intro w436 HF
     refine hK.out _ _ ?_
     clear hK K
     (try simp only [Act.put, List.setIfInBounds_toArray, List.set_cons_zero, List.set_cons_succ])
     refine pq 18 (fl 19 19) (h := ?_)
     refine done_ (by kernel_rfl) ?_
     skip
     try simp only [Act.put, List.setIfInBounds_toArray, List.set_cons_zero, List.set_cons_succ]
     go_wp2_with fail
     by_cases h4_ : t.f0 = 4
     ·have h_ := (if_pos h4_).symm.trans HR.out
      clear HR
      try dsimp only at h_
      have HR := Lib.hid h_
      clear h_
      refine (c_kind HF (k := 4) h4_).mono ?_
      clear HF h4_
      rintro e w437 ⟨rfl, HF⟩
      have q438 := HF.out.at1
      go_wp2_with (first
       | ((with_reducible refine gate_store (t := 3) (p := 50) rfl ?_); refine ev_next (p := 50) HF rfl rfl rfl rfl rfl ?_; clear HF; clear q438; intro w439 HF; have HF2_ := Lib.hid HF.out.swap; clear HF; have HF := HF2_; clear HF2_))
      replace HF := Lib.hid HF.out.drew
      refine start_ (n := 12) (S := (fun w' => w'.cell? ⟨b2, 2, none⟩ = some (.slice A acc.length c) ∧ w'.cell? ⟨b5, 0, none⟩ = some (.int .i64 ru.2.1) ∧ w'.cell? ⟨b5, 1, none⟩ = some (.func (.func ru.2.2) #[] #[]))) (ds := [9, 11]) #[false, false, false, false, false, false, false, false, false, false, false, false] (by kernel_rfl) rfl rfl ?_ (fun hHeld => ?_)
      ·exact ⟨(rd3 HF.out.b0).2.2, (blk_cell HF.out.b1 0).trans rfl, (blk_cell HF.out.b1 1).trans rfl⟩
      refine pq 0 (fl 12 1) (h := ?_)
      refine pq 2 #[true, false, true, false, false, false, false, false, false, false, false, false] (h := ?_)
      refine pq 4 #[true, false, true, false, true, false, false, false, false, false, false, false] (h := ?_)
      refine pq 5 #[true, false, true, false, true, true, false, false, false, false, false, false] (h := ?_)
      refine tq hHeld 1 #[true, true, true, false, true, true, false, false, false, false, false, false] (h := ?_)
      refine tq hHeld 3 (fl 12 6) (h := ?_)
      refine tq hHeld 6 (fl 12 7) (h := ?_)
      refine one_ (i := 7) (N := some 58) #[true, true, true, true, true, true, true, true, false, false, false, false] rfl rfl (by kernel_rfl) (by decide) (fun K hK => ?_)
      clear hHeld
      have hcf_ := item_enter ru (List.mem_of_find?_eq_some hfi)
      go_simp
      go_wp2_with fail
      cases h440 : itemF k ru.2.2 ru.2.1 tl with
      | out => exact absurd ((PR.bind_out h440 _).symm.trans HR.out).symm HNE.out
      | bad t_ =>
       obtain rfl : PR.bad t_ = r := (PR.bind_bad h440 _).symm.trans HR.out
       refine (c_treeBad HF (item_par k ru (List.mem_of_find?_eq_some hfi)) h440).mono ?_
       rintro e w_ ⟨rfl, HE⟩
       exact ⟨rfl, rfl, HE.out⟩
      | ok y_ t2_ =>
       have h_ := (PR.bind_ok h440 _).symm.trans HR.out
       clear HR
       try dsimp only at h_
       have HR := Lib.hid h_
       clear h_
       refine (c_tree HF (item_par k ru (List.mem_of_find?_eq_some hfi)) h440).mono ?_
       clear HF h440
       rintro e w441 ⟨Auy, cuy, okuy, rfl, HF⟩
       refine hK.out _ _ (⟨(rd3 HF.out.b0).2.2, (blk_cell HF.out.b1 0).trans rfl, (blk_cell HF.out.b1 1).trans rfl⟩) (fun hHeld => ?_)
       clear hK K
       (try simp only [Act.put, List.setIfInBounds_toArray, List.set_cons_zero, List.set_cons_succ])
       refine one_ (i := 8) (N := some 59) #[true, true, true, true, true, true, true, true, true, false, false, false] rfl rfl (by kernel_rfl) (by decide) (fun K hK => ?_)
       clear hHeld
       go_simp
       refine hK.out _ _ (⟨(rd3 (HF.out.alloc _).b0).2.2, (blk_cell (HF.out.alloc _).b1 0).trans rfl, (blk_cell (HF.out.alloc _).b1 1).trans rfl⟩) (fun hHeld => ?_)
       clear hK K
       (try simp only [Act.put, List.setIfInBounds_toArray, List.set_cons_zero, List.set_cons_succ])
       refine last_ (i := 9) (N := some 60) #[true, true, true, true, true, true, true, true, true, true, false, false] rfl rfl (by kernel_rfl) (by decide) (fun K hK => ?_)
       refine st_app y_ rfl HF rfl rfl rfl rfl (by have := HL_.out; simp at this ⊢; omega) ?_
       clear HF
       intro Av442 cv442 w443 okv442 HF
       refine hK.out _ _ ?_
       clear hK K
       (try simp only [Act.put, List.setIfInBounds_toArray, List.set_cons_zero, List.set_cons_succ])
       refine pq 10 (fl 12 11) (h := ?_)
       refine last_ (i := 11) (N := none) #[true, true, true, true, true, true, true, true, true, true, true, true] rfl rfl (by kernel_rfl) (by decide) (fun K hK => ?_)
       refine st_cell (p := 61) HF rfl rfl rfl rfl rfl rfl (.inl ⟨_, _, _, rfl⟩) rfl rfl ?_
       clear HF
       intro w444 HF
       refine hK.out _ _ ?_
       clear hK K
       (try simp only [Act.put, List.setIfInBounds_toArray, List.set_cons_zero, List.set_cons_succ])
       refine done_ (by kernel_rfl) ?_
       skip
       try simp only [Act.put, List.setIfInBounds_toArray, List.set_cons_zero, List.set_cons_succ]
       go_wp2_with fail
       cases h445 : wantP [46] t2_ with
       | out => exact absurd ((PR.bind_out h445 _).symm.trans HR.out).symm HNE.out
       | bad t_ =>
        obtain rfl : PR.bad t_ = r := (PR.bind_bad h445 _).symm.trans HR.out
        refine (c_want_bad HF [46] h445).mono ?_
        rintro e w_ ⟨rfl, HE⟩
        exact ⟨rfl, rfl, HE.out⟩
       | ok u_ t3_ =>
        have h_ := (PR.bind_ok h445 _).symm.trans HR.out
        clear HR
        try dsimp only at h_
        have HR := Lib.hid h_
        clear h_
        refine (c_want HF [46] h445).mono ?_
        clear HF h445
        rintro e w446 ⟨rfl, HF⟩
        go_wp2_with fail
        go_roundg k1
        case measure => have := HK.out; omega
        case rel => exact ⟨acc ++ [y_], t3_, _, _, _, _, rfl, trivial, HR, Lib.hid (by have := HK.out; omega), Lib.hid HF.out.forget⟩
     ·have h_ := (if_neg h4_).symm.trans HR.out
      clear HR
      try dsimp only at h_
      have HR := Lib.hid h_
      clear h_
      have e1_ : (t.f0 != 4) = true := bne_iff_ne.2 h4_
      have e2_ : (t.f0 == 4) = false := beq_eq_false_iff_ne.2 h4_
      refine (c_kind HF (k := t.f0) rfl).mono ?_
      clear HF h4_
      rintro e w447 ⟨rfl, HF⟩
      go_wp2_with fail
      obtain rfl : PR.bad (t :: tl) = r := HR.out
      refine (c_refuse HF).mono ?_
      rintro e w_ ⟨rfl, HE⟩
      exact ⟨rfl, rfl, HE.out⟩
end Go.Proofs.YtbndfgoklgdfdaaGreatDoor.P
end
section
namespace Go.Proofs.YtbndfgoklgdfdaaGreatDoor.P
open Go.RowKit Go.Proofs.YtbndfgoklgdfdaaGreatDoorW.PrintWords Go.Proofs.YtbndfgoklgdfdaaGreatDoorW.PrintLast Go.Proofs.YtbndfgoklgdfdaaGreatDoorW.PrintMore

/-- No token's text is longer than a string can be. -/
def Tk (ts : List Tok) : Prop := ∀ t ∈ ts, t.f1.size ≤ strMax
theorem Tk.tail {t : Tok} {ts : List Tok} (h : Tk (t :: ts)) : Tk ts := fun x hx => h x (List.mem_cons_of_mem _ hx)
/-- Rounds enough; what is left are fewer than m tokens; V of what was read. -/
def Sh {α : Type} (V : α → Prop) (m : Nat) (r : PR α) : Prop := r ≠ .out ∧ ∀ x tl, r = .ok x tl → tl.length < m ∧ Tk tl ∧ V x
section
variable {α β : Type} {V : α → Prop} {V' : β → Prop} {m m' : Nat}
theorem Sh.ok {x : α} {tl : List Tok} (h : tl.length < m ∧ Tk tl ∧ V x) : Sh V m (.ok x tl) := by
 constructor
 ·intro e; cases e
 ·intro y t e; injection e with e1 e2; subst e1; subst e2; exact h
theorem Sh.bad {tl : List Tok} : Sh V m (.bad tl) := by
 constructor
 ·intro e; cases e
 ·intro y t e; cases e
theorem Sh.bind {r : PR α} {f : α → List Tok → PR β} (h : Sh V m r) (hf : ∀ x tl, (tl.length < m ∧ Tk tl ∧ V x) → Sh V' m' (f x tl)) : Sh V' m' (r.bind f) := by
 cases r with
 | out => exact absurd rfl h.1
 | bad t => exact .bad
 | ok x tl => exact hf x tl (h.2 x tl rfl)
theorem Sh.mono {r : PR α} (h : Sh V m r) (hm : m ≤ m') : Sh V m' r := ⟨h.1, fun x tl e => ⟨Nat.lt_of_lt_of_le (h.2 x tl e).1 hm, (h.2 x tl e).2⟩⟩
end
abbrev Vs (s : ByteArray) : Prop := s.size ≤ strMax
abbrev Vt (x : Tree) : Prop := szT x = true
abbrev Vl (l : List Tree) : Prop := szL l = true
abbrev Vu (_ : Unit) : Prop := True
theorem vt_mk {k : Int} {s : ByteArray} {l : List Tree} (hs : Vs s) (hl : Vl l) : Vt ⟨k, s, l⟩ := by simp only [Vt, szT, Bool.and_eq_true, decide_eq_true_eq]; exact ⟨hs, hl⟩
theorem vs_nil : Vs ⟨#[]⟩ := by show (0 : Nat) ≤ _; omega
theorem vl_nil : Vl [] := rfl
theorem vl_cons {x : Tree} {l : List Tree} (h : Vt x) (hl : Vl l) : Vl (x :: l) := by simp only [Vl, szL, Bool.and_eq_true]; exact ⟨h, hl⟩
theorem vl_snoc {x : Tree} (h : Vt x) : ∀ {l : List Tree}, Vl l → Vl (l ++ [x])
 | [], _ => vl_cons h vl_nil
 | y :: l, hl => by
  simp only [Vl, szL, Bool.and_eq_true] at hl
  exact vl_cons hl.1 (vl_snoc h hl.2)
theorem vt_name {x : Tree} (h : Vt x) : Vs x.f1 := szT_name h
theorem vt_kids {x : Tree} (h : Vt x) : Vl x.f2 := szT_kids h
theorem sh_want (s : List UInt8) (ts : List Tok) (ht : Tk ts) : Sh Vu ts.length (wantP s ts) := by
 cases ts with
 | nil => exact .bad
 | cons t tl =>
  simp only [wantP]
  split
  ·exact .ok ⟨Nat.lt_succ_self _, ht.tail, trivial⟩
  ·exact .bad
theorem sh_small (ts : List Tok) (ht : Tk ts) : Sh Vs ts.length (smallP ts) := by
 cases ts with
 | nil => exact .bad
 | cons t tl =>
  simp only [smallP]
  split
  ·exact .ok ⟨Nat.lt_succ_self _, ht.tail, ht t (List.mem_cons_self ..)⟩
  ·exact .bad
theorem sh_name (ts : List Tok) (ht : Tk ts) : Sh Vs ts.length (nameP ts) := by
 cases ts with
 | nil => exact .bad
 | cons t tl =>
  simp only [nameP]
  split
  ·exact .ok ⟨Nat.lt_succ_self _, ht.tail, ht t (List.mem_cons_self ..)⟩
  ·exact .bad
theorem sh_node (ts : List Tok) (ht : Tk ts) : Sh Vt ts.length (nodeP ts) := (sh_name ts ht).bind fun _ _ ⟨h, k, v⟩ => .ok ⟨h, k, vt_mk v vl_nil⟩
theorem sh_in (o s : List UInt8) (f : List Tok → PR Tree) (ts : List Tok) (ht : Tk ts) (hf : ∀ t, t.length < ts.length → Tk t → Sh Vt t.length (f t)) : Sh Vt ts.length (inP o s f ts) :=
 (sh_want o ts ht).bind fun _ t1 ⟨h1, k1, _⟩ => (hf t1 h1 k1).bind fun _ t2 ⟨h2, k2, v2⟩ => (sh_want s t2 k2).bind fun _ t3 ⟨h3, k3, _⟩ => .ok ⟨by omega, k3, v2⟩
theorem sh_typ : ∀ (k : Nat) (ts : List Tok), Tk ts → (2 * ts.length + 1 ≤ k → Sh Vt ts.length (simpleP k ts)) ∧ (2 * ts.length + 2 ≤ k → Sh Vt ts.length (typP k ts))
 | 0, ts, _ => ⟨fun h => by omega, fun h => by omega⟩
 | k + 1, ts, ht => by
  constructor
  ·intro h
   simp only [simpleP]
   by_cases h1 : isP [40] ts = true
   ·rw [if_pos h1]
    exact sh_in _ _ _ _ ht fun t hl kt => (sh_typ k t kt).2 (by omega)
   ·rw [if_neg h1]
    exact (sh_small ts ht).bind fun _ _ ⟨h, k, v⟩ => .ok ⟨h, k, vt_mk v vl_nil⟩
  ·intro h
   simp only [typP]
   refine Sh.bind ((sh_typ k ts ht).1 (by omega)) fun n tl ⟨hl, kl, vl⟩ => ?_
   by_cases h1 : isP [45, 62] tl = true
   ·obtain ⟨t, t1, rfl⟩ := isP_cons h1
    simp only [List.length_cons] at hl
    rw [if_pos h1, List.tail_cons]
    exact Sh.bind ((sh_typ k t1 kl.tail).2 (by omega)) fun m t2 ⟨h2, k2, v2⟩ => .ok ⟨by omega, k2, vt_mk vs_nil (vl_cons vl (vl_cons v2 vl_nil))⟩
   ·rw [if_neg h1]
    exact .ok ⟨hl, kl, vl⟩
theorem sh_binder (kt : Nat) (kind : Int) (body : List Tok → PR Tree) (ts : List Tok) (ht : Tk ts) (hk : 2 * ts.length ≤ kt) (hb : ∀ t, t.length < ts.length → Tk t → Sh Vt t.length (body t)) : Sh Vt ts.length (binderP kt kind body ts) := by
 unfold binderP
 refine (sh_name ts ht).bind fun s t1 ⟨h1, k1, v1⟩ => ?_
 by_cases h2 : isP [58] t1 = true
 ·obtain ⟨t, t2, rfl⟩ := isP_cons h2
  simp only [List.length_cons] at h1
  rw [if_pos h2, List.tail_cons]
  exact ((sh_typ kt t2 k1.tail).2 (by omega)).bind fun _ t3 ⟨h3, k3, v3⟩ => (sh_want _ t3 k3).bind fun _ t4 ⟨h4, k4, _⟩ => (hb t4 (by omega) k4).bind fun _ t5 ⟨h5, k5, v5⟩ => .ok ⟨by omega, k5, vt_mk v1 (vl_cons v3 (vl_cons v5 vl_nil))⟩
 ·rw [if_neg h2]
  exact (sh_want _ t1 k1).bind fun _ t4 ⟨h4, k4, _⟩ => (hb t4 (by omega) k4).bind fun _ t5 ⟨h5, k5, v5⟩ => .ok ⟨by omega, k5, vt_mk v1 (vl_cons v5 vl_nil)⟩
theorem sh_args (f : List Tok → PR Tree) : ∀ (k : Nat) (ts : List Tok) (acc : List Tree), Tk ts → Vl acc → ts.length < k → acc.length + ts.length ≤ 6000 → (∀ t, t.length < ts.length → Tk t → Sh Vt t.length (f t)) → Sh Vl (ts.length + 1) (argsP f k ts acc)
 | 0, _, _, _, _, h, _, _ => by omega
 | k + 1, ts, acc, ht, va, h, ha, hf => by
  simp only [argsP]
  rw [if_neg (by omega)]
  have go : ∀ (n : Tree) (tl : List Tok), (tl.length < ts.length ∧ Tk tl ∧ Vt n) → Sh Vl (ts.length + 1) (argsP f k tl (acc ++ [n])) := fun n tl ⟨hl, kl, vn⟩ =>
   (sh_args f k tl (acc ++ [n]) kl (vl_snoc vn va) (by omega) (by simp only [List.length_append, List.length_cons, List.length_nil]; omega) (fun t h2 k2 => hf t (by omega) k2)).mono (by omega)
  by_cases h1 : isP [40] ts = true
  ·rw [if_pos h1]
   exact (sh_in _ _ f ts ht hf).bind go
  ·rw [if_neg h1]
   by_cases h2 : kindP ts = 1
   ·rw [if_pos h2]
    exact (sh_node ts ht).bind go
   ·rw [if_neg h2]
    by_cases h3 : kindP ts = 2
    ·rw [if_pos h3]
     exact (sh_node ts ht).bind go
    ·rw [if_neg h3]
     exact .ok ⟨by omega, ht, va⟩
theorem sh_term : ∀ (k : Nat) (ts : List Tok), Tk ts → ts.length ≤ 6000 → 2 * ts.length + 2 ≤ k → Sh Vt ts.length (termP k ts)
 | 0, _, _, _, h => by omega
 | k + 1, ts, ht, h6, h => by
  simp only [termP]
  by_cases h1 : isP [92] ts = true
  ·obtain ⟨t, t1, rfl⟩ := isP_cons h1
   simp only [List.length_cons] at h6 h ⊢
   rw [if_pos h1, List.tail_cons]
   exact (sh_binder k 17 (termP k) t1 ht.tail (by omega) fun t2 h2 k2 => sh_term k t2 k2 (by omega) (by omega)).mono (by omega)
  ·rw [if_neg h1]
   by_cases h2 : isP [40] ts = true
   ·rw [if_pos h2]
    exact sh_in _ _ _ _ ht fun t2 h2 k2 => sh_term k t2 k2 (by omega) (by omega)
   ·rw [if_neg h2]
    exact (sh_node ts ht).bind fun n tl ⟨hl, kl, vn⟩ => (sh_args (termP k) k tl [] kl vl_nil (by omega) (by simp only [List.length_nil]; omega) fun t2 h2 k2 => sh_term k t2 k2 (by omega) (by omega)).bind fun _ t2 ⟨h2, k2, v2⟩ => .ok ⟨by omega, k2, vt_mk (vt_name vn) v2⟩
theorem next_cons {lv : Int} {ts : List Tok} {o : List UInt8 × Int × Int} (h : nextP lv ts = some o) : ∃ t tl, ts = t :: tl := by
 have h1 := List.find?_some h
 simp only [Bool.and_eq_true] at h1
 exact isP_cons h1.2
theorem sh_level : ∀ (k : Nat) (ts : List Tok), Tk ts → ts.length ≤ 6000 → (∀ lv, lv ≤ 5 → 8 * ts.length + 8 - lv ≤ k → Sh Vt ts.length (levelP k lv ts)) ∧ (∀ lv n, Vt n → lv ≤ 4 → 8 * ts.length + 1 ≤ k → Sh Vt (ts.length + 1) (loopP k lv n ts)) ∧ (8 * ts.length + 2 ≤ k → Sh Vt ts.length (partP k ts))
 | 0, ts, _, _ => ⟨fun lv h1 h => by omega, fun lv n _ h1 h => by omega, fun h => by omega⟩
 | k + 1, ts, kt, ht => by
  refine ⟨fun lv h1 h => ?_, fun lv n vn h1 h => ?_, fun h => ?_⟩
  ·simp only [levelP]
   by_cases h2 : lv = 5
   ·rw [if_pos h2]
    exact (sh_level k ts kt ht).2.2 (by omega)
   ·rw [if_neg h2]
    exact ((sh_level k ts kt ht).1 (lv + 1) (by omega) (by omega)).bind fun n tl ⟨hl, kl, vn⟩ => ((sh_level k tl kl (by omega)).2.1 lv n vn (by omega) (by omega)).mono (by omega)
  ·simp only [loopP]
   cases h2 : nextP lv ts with
   | none => exact .ok ⟨by omega, kt, vn⟩
   | some o =>
    obtain ⟨t, tl, rfl⟩ := next_cons h2
    simp only [List.length_cons] at ht h ⊢
    simp only [List.tail_cons]
    by_cases h3 : lv = 0
    ·rw [if_pos h3]
     exact ((sh_level k tl kt.tail (by omega)).1 (lv + 1) (by omega) (by omega)).bind fun m t2 ⟨hl, kl, vm⟩ => ((sh_level k t2 kl (by omega)).2.1 lv _ (vt_mk vs_nil (vl_cons vn (vl_cons vm vl_nil))) (by omega) (by omega)).mono (by omega)
    ·rw [if_neg h3]
     exact ((sh_level k tl kt.tail (by omega)).1 lv (by omega) (by omega)).bind fun m t2 ⟨hl, kl, vm⟩ => .ok ⟨by omega, kl, vt_mk vs_nil (vl_cons vn (vl_cons vm vl_nil))⟩
  ·simp only [partP]
   have lvl : ∀ t : List Tok, t.length < ts.length → Tk t → Sh Vt t.length (levelP k 0 t) := fun t h1 k1 => (sh_level k t k1 (by omega)).1 0 (by omega) (by omega)
   by_cases h1 : isP [33] ts = true
   ·obtain ⟨t, tl, rfl⟩ := isP_cons h1
    simp only [List.length_cons] at ht h ⊢
    rw [if_pos h1, List.tail_cons]
    exact ((sh_level k tl kt.tail (by omega)).2.2 (by omega)).bind fun m t2 ⟨hl, kl, vm⟩ => .ok ⟨by omega, kl, vt_mk vs_nil (vl_cons vm vl_nil)⟩
   rw [if_neg h1]
   by_cases h2 : isP [97, 108, 108] ts = true
   ·obtain ⟨t, tl, rfl⟩ := isP_cons h2
    simp only [List.length_cons] at ht h lvl ⊢
    rw [if_pos h2, List.tail_cons]
    exact (sh_binder k 18 (levelP k 0) tl kt.tail (by omega) fun t2 h2 k2 => lvl t2 (by omega) k2).mono (by omega)
   rw [if_neg h2]
   by_cases h3 : isP [101, 120] ts = true
   ·obtain ⟨t, tl, rfl⟩ := isP_cons h3
    simp only [List.length_cons] at ht h lvl ⊢
    rw [if_pos h3, List.tail_cons]
    exact (sh_binder k 19 (levelP k 0) tl kt.tail (by omega) fun t2 h2 k2 => lvl t2 (by omega) k2).mono (by omega)
   rw [if_neg h3]
   by_cases h4 : isP [111, 110, 101] ts = true
   ·obtain ⟨t, tl, rfl⟩ := isP_cons h4
    rw [if_pos h4, List.tail_cons]
    exact .ok ⟨by simp, kt.tail, vt_mk vs_nil vl_nil⟩
   rw [if_neg h4]
   by_cases h5 : isP [116, 111, 112] ts = true
   ·obtain ⟨t, tl, rfl⟩ := isP_cons h5
    rw [if_pos h5, List.tail_cons]
    exact .ok ⟨by simp, kt.tail, vt_mk vs_nil vl_nil⟩
   rw [if_neg h5]
   by_cases h6 : isP [123] ts = true
   ·rw [if_pos h6]
    exact (sh_in _ _ _ ts kt lvl).bind fun _ t2 ⟨h2, k2, v2⟩ => .ok ⟨h2, k2, vt_mk vs_nil (vl_cons v2 vl_nil)⟩
   rw [if_neg h6]
   by_cases h7 : isP [40] ts = true
   ·rw [if_pos h7]
    exact sh_in _ _ _ ts kt lvl
   rw [if_neg h7]
   exact (sh_small ts kt).bind fun s tl ⟨hl, kl, vs⟩ => (sh_args (termP k) k tl [] kl vl_nil (by omega) (by simp only [List.length_nil]; omega) fun t2 h2 k2 => sh_term k t2 k2 (by omega) (by omega)).bind fun _ t2 ⟨h2, k2, v2⟩ => .ok ⟨by omega, k2, vt_mk vs v2⟩
theorem sh_namesL : ∀ (k : Nat) (ts : List Tok) (acc : List Tree), Tk ts → Vl acc → ts.length < k → acc.length + ts.length ≤ 6000 → Sh Vl (ts.length + 1) (namesL k ts acc)
 | 0, _, _, _, _, h, _ => by omega
 | k + 1, ts, acc, kt, va, h, ha => by
  simp only [namesL]
  rw [if_neg (by omega)]
  by_cases h1 : isP [44] ts = true
  ·obtain ⟨t, tl, rfl⟩ := isP_cons h1
   simp only [List.length_cons] at h ha ⊢
   rw [if_pos h1, List.tail_cons]
   exact (sh_small tl kt.tail).bind fun s t2 ⟨h2, k2, v2⟩ => (sh_namesL k t2 _ k2 (vl_snoc (vt_mk v2 vl_nil) va) (by omega) (by simp only [List.length_append, List.length_cons, List.length_nil]; omega)).mono (by omega)
  ·rw [if_neg h1]
   exact .ok ⟨by omega, kt, va⟩
theorem sh_list (k : Nat) (kd : Int) (ts : List Tok) (kt : Tk ts) (h : ts.length < k) (ha : ts.length ≤ 6000) : Sh Vt ts.length (listP k kd ts) := by
 unfold listP namesP
 exact Sh.bind (V := Vl) ((sh_small ts kt).bind fun s tl ⟨hl, kl, vs⟩ => (sh_namesL k tl _ kl (vl_cons (vt_mk vs vl_nil) vl_nil) (by omega) (by simp only [List.length_cons, List.length_nil]; omega)).mono (show tl.length + 1 ≤ ts.length by omega)) fun _ t2 ⟨h2, k2, v2⟩ => .ok ⟨h2, k2, vt_mk vs_nil v2⟩
theorem sh_const (k : Nat) (kd : Int) (ts : List Tok) (kt : Tk ts) (h : 2 * ts.length + 2 ≤ k) (ha : ts.length ≤ 6000) : Sh Vt ts.length (constP k kd ts) :=
 (sh_list k kd ts kt (by omega) ha).bind fun n t1 ⟨h1, k1, vn⟩ => (sh_want _ t1 k1).bind fun _ t2 ⟨h2, k2, _⟩ => ((sh_typ k t2 k2).2 (by omega)).bind fun _ t3 ⟨h3, k3, v3⟩ => .ok ⟨by omega, k3, vt_mk (vt_name vn) (vl_snoc v3 (vt_kids vn))⟩
theorem sh_predT (f : List Tok → PR Tree) (kd : Int) (s : ByteArray) (vs : Vs s) : ∀ (k : Nat) (ts : List Tok) (acc : List Tree), Tk ts → Vl acc → ts.length < k → acc.length + ts.length ≤ 6000 → (∀ t, t.length ≤ ts.length → Tk t → Sh Vt t.length (f t)) → Sh Vt (ts.length + 1) (predT f kd s k ts acc)
 | 0, _, _, _, _, h, _, _ => by omega
 | k + 1, ts, acc, kt, va, h, ha, hf => by
  simp only [predT]
  rw [if_neg (by omega)]
  have go : ∀ (n : Tree) (tl : List Tok), (tl.length < ts.length ∧ Tk tl ∧ Vt n) → Sh Vt (ts.length + 1) (predT f kd s k tl (acc ++ [n])) := fun n tl ⟨hl, kl, vn⟩ =>
   (sh_predT f kd s vs k tl (acc ++ [n]) kl (vl_snoc vn va) (by omega) (by simp only [List.length_append, List.length_cons, List.length_nil]; omega) (fun t h2 k2 => hf t (by omega) k2)).mono (by omega)
  by_cases h1 : isP [40] ts = true
  ·rw [if_pos h1]
   exact (hf ts (Nat.le_refl _) kt).bind go
  ·rw [if_neg h1]
   by_cases h2 : kindP ts = 1
   ·rw [if_pos h2]
    exact (hf ts (Nat.le_refl _) kt).bind go
   ·rw [if_neg h2]
    exact .ok ⟨by omega, kt, vt_mk vs va⟩
theorem sh_modeT (kd : Int) (s : ByteArray) (vs : Vs s) : ∀ (k : Nat) (ts : List Tok) (acc : List Tree), Tk ts → Vl acc → ts.length < k → acc.length + ts.length ≤ 6000 → Sh Vt (ts.length + 1) (modeT kd s k ts acc)
 | 0, _, _, _, _, h, _ => by omega
 | k + 1, ts, acc, kt, va, h, ha => by
  simp only [modeT]
  rw [if_neg (by omega)]
  by_cases h2 : kindP ts = 1
  ·rw [if_pos h2]
   exact (sh_node ts kt).bind fun n tl ⟨hl, kl, vn⟩ => (sh_modeT kd s vs k tl (acc ++ [n]) kl (vl_snoc vn va) (by omega) (by simp only [List.length_append, List.length_cons, List.length_nil]; omega)).mono (by omega)
  ·rw [if_neg h2]
   exact .ok ⟨by omega, kt, vt_mk vs va⟩
theorem sh_item (k : Nat) (F : FuncId) (kd : Int) (ts : List Tok) (kt : Tk ts) (h : 8 * ts.length + 8 ≤ k) (ha : ts.length ≤ 6000) : Sh Vt ts.length (itemF k F kd ts) := by
 unfold itemF
 split
 ·exact sh_list k kd ts kt (by omega) ha
 split
 ·exact sh_const k kd ts kt (by omega) ha
 split
 ·exact (sh_small ts kt).bind fun s tl ⟨hl, kl, vs⟩ => (sh_predT _ kd s vs k tl [] kl vl_nil (by omega) (by simp only [List.length_nil]; omega) fun t ht k2 => (sh_typ k t k2).1 (by omega)).mono (by omega)
 split
 ·exact (sh_small ts kt).bind fun s tl ⟨hl, kl, vs⟩ => (sh_modeT kd s vs k tl [] kl vl_nil (by omega) (by simp only [List.length_nil]; omega)).mono (by omega)
 split
 ·exact (sh_small ts kt).bind fun s t1 ⟨h1, k1, vs⟩ => (sh_want _ t1 k1).bind fun _ t2 ⟨h2, k2, _⟩ => ((sh_level k t2 k2 (by omega)).1 0 (by omega) (by omega)).bind fun _ t3 ⟨h3, k3, v3⟩ => .ok ⟨by omega, k3, vt_mk vs (vl_cons v3 vl_nil)⟩
 ·exact (sh_small ts kt).bind fun s tl ⟨hl, kl, vs⟩ => .ok ⟨hl, kl, vt_mk vs vl_nil⟩
theorem sh_textT (kk : Nat) : ∀ (k : Nat) (ts : List Tok) (acc : List Tree), Tk ts → Vl acc → ts.length < k → 8 * ts.length + 8 ≤ kk → acc.length + ts.length ≤ 6000 → Sh Vt (ts.length + 1) (textT kk k ts acc)
 | 0, _, _, _, _, h, _, _ => by omega
 | k + 1, ts, acc, kt, va, h, hk, ha => by
  simp only [textT]
  rw [if_neg (by omega)]
  cases ts with
  | nil => exact .ok ⟨by simp, kt, vt_mk vs_nil va⟩
  | cons t tl =>
   simp only [List.length_cons] at h hk ha ⊢
   split
   ·exact .bad
   ·split
    ·exact (sh_item kk _ _ tl kt.tail (by omega) (by omega)).bind fun y t2 ⟨h2, k2, vy⟩ => (sh_want _ t2 k2).bind fun _ t3 ⟨h3, k3, _⟩ => (sh_textT kk k t3 _ k3 (vl_snoc vy va) (by omega) (by omega) (by simp only [List.length_append, List.length_cons, List.length_nil]; omega)).mono (by omega)
    ·exact .bad
/-- Rounds enough for so many tokens. -/
def roundsP (ts : List Tok) : Nat := 8 * ts.length + 8
/-- What a reader comes to, with rounds enough. -/
def Fine (f : List Tok → PR Tree) (ts : List Tok) : Prop := f ts ≠ .out ∧ ∀ x tl, f ts = .ok x tl → szT x = true
theorem text_fine (ts : List Tok) (kt : Tk ts) (h : ts.length ≤ 6000) (k : Nat) (hk : roundsP ts ≤ k) : Fine (textP k) ts := by
 unfold roundsP at hk
 have := sh_textT k k ts [] kt vl_nil (by omega) (by omega) (by simpa using h)
 exact ⟨this.1, fun x tl e => (this.2 x tl e).2.2⟩
theorem form_fine (ts : List Tok) (kt : Tk ts) (h : ts.length ≤ 6000) (k : Nat) (hk : roundsP ts ≤ k) : Fine (levelP k 0) ts := by
 unfold roundsP at hk
 have := (sh_level k ts kt h).1 0 (by omega) (by omega)
 exact ⟨this.1, fun x tl e => (this.2 x tl e).2.2⟩
theorem term_fine (ts : List Tok) (kt : Tk ts) (h : ts.length ≤ 6000) (k : Nat) (hk : roundsP ts ≤ k) : Fine (termP k) ts := by
 unfold roundsP at hk
 have := sh_term k ts kt h (by omega)
 exact ⟨this.1, fun x tl e => (this.2 x tl e).2.2⟩
theorem typ_fine (ts : List Tok) (kt : Tk ts) (k : Nat) (hk : roundsP ts ≤ k) : Fine (typP k) ts := by
 unfold roundsP at hk
 have := (sh_typ k ts kt).2 (by omega)
 exact ⟨this.1, fun x tl e => (this.2 x tl e).2.2⟩
end Go.Proofs.YtbndfgoklgdfdaaGreatDoor.P
end
