/- syntax's parser: arguments, terms. (printed by mkp2.py) -/
import Derived.Test.YtbndfgoklgdfdaaGreatDoorSe13
set_option linter.all false
set_option linter.unusedSimpArgs false
namespace Go.Proofs.YtbndfgoklgdfdaaGreatDoor.P
open Go.RowKit Go.Proofs.YtbndfgoklgdfdaaGreatDoorW.PrintWords Go.Proofs.YtbndfgoklgdfdaaGreatDoorW.PrintLast Go.Proofs.YtbndfgoklgdfdaaGreatDoorW.PrintMore
set_option maxRecDepth 100000 in
set_option maxHeartbeats 8000000 in
theorem inside_term (f : List Tok → PR Tree) (ih : PAll 45 (fun g => #[.pointer (some ⟨g, 0, none⟩)]) f) (o s : List UInt8) : PAll 79 (fun g => #[.pointer (some ⟨g, 0, none⟩), .string ⟨o.toArray⟩, .string ⟨s.toArray⟩, .func (.func 45) #[] #[]]) (inP o s f) := by
 intro w0 w g l ts h hne
 obtain ⟨r, hr⟩ : ∃ r, (inP o s f) ts = r := ⟨_, rfl⟩
 have HNE := Lib.hid hne
 have HF := Lib.hid (Fr.begin h)
 rw [hr] at HNE ⊢
 simp only [inP] at hr
 have HR := Lib.hid hr
 clear h hne hr
 go_enter Tryz.func79, Tryz.ntmps79
 go_wp2_with (first
  | ((with_reducible refine gate_dst (N := 8) rfl ?_); refine ev_box HF rfl rfl (run_node rfl) ?_; clear HF; intro b1 w51 HF))
 cases h52 : wantP o ts with
 | out => exact absurd ((PR.bind_out h52 _).symm.trans HR.out).symm HNE.out
 | bad t_ =>
  obtain rfl : PR.bad t_ = r := (PR.bind_bad h52 _).symm.trans HR.out
  refine (c_want_bad HF o h52).mono ?_
  rintro e w_ ⟨rfl, HE⟩
  exact ⟨rfl, rfl, HE.out⟩
 | ok u_ t1_ =>
  have h_ := (PR.bind_ok h52 _).symm.trans HR.out
  clear HR
  try dsimp only at h_
  have HR := Lib.hid h_
  clear h_
  refine (c_want HF o h52).mono ?_
  clear HF h52
  rintro e w53 ⟨rfl, HF⟩
  go_wp2_with fail
  cases h54 : f t1_ with
  | out => exact absurd ((PR.bind_out h54 _).symm.trans HR.out).symm HNE.out
  | bad t_ =>
   obtain rfl : PR.bad t_ = r := (PR.bind_bad h54 _).symm.trans HR.out
   refine (c_treeBad HF ih h54).mono ?_
   rintro e w_ ⟨rfl, HE⟩
   exact ⟨rfl, rfl, HE.out⟩
  | ok x_ t2_ =>
   have h_ := (PR.bind_ok h54 _).symm.trans HR.out
   clear HR
   try dsimp only at h_
   have HR := Lib.hid h_
   clear h_
   refine (c_tree HF ih h54).mono ?_
   clear HF h54
   rintro e w55 ⟨Au, cu, oku, rfl, HF⟩
   go_wp2_with (first
    | ((with_reducible refine gate_dst (N := 9) rfl ?_); refine ev_box HF rfl rfl (run_node rfl) ?_; clear HF; intro b2 w56 HF)
    | ((with_reducible refine gate_store (t := 25) (p := 9) rfl ?_); refine ev_put (p := 9) HF rfl rfl rfl rfl rfl rfl rfl ?_; clear HF; intro w57 HF))
   cases h58 : wantP s t2_ with
   | out => exact absurd ((PR.bind_out h58 _).symm.trans HR.out).symm HNE.out
   | bad t_ =>
    obtain rfl : PR.bad t_ = r := (PR.bind_bad h58 _).symm.trans HR.out
    refine (c_want_bad HF s h58).mono ?_
    rintro e w_ ⟨rfl, HE⟩
    exact ⟨rfl, rfl, HE.out⟩
   | ok u_ t3_ =>
    have h_ := (PR.bind_ok h58 _).symm.trans HR.out
    clear HR
    try dsimp only at h_
    have HR := Lib.hid h_
    clear h_
    refine (c_want HF s h58).mono ?_
    clear HF h58
    rintro e w59 ⟨rfl, HF⟩
    obtain ⟨q60a, q60b, q60c⟩ := rd3 HF.out.b0
    replace HF := Lib.hid HF.out.swap
    go_wp2_with (first
     | ((with_reducible refine gate_store (t := 25) (p := 8) rfl ?_); refine ev_put (p := 8) HF rfl rfl rfl rfl rfl rfl rfl ?_; clear HF; clear q60a q60b q60c; intro w61 HF))
    obtain rfl : PR.ok x_ t3_ = r := HR.out
    refine bodyPost_ret (results_cell_row rfl _ _ _ 25 _ (0, 0) _ rfl HF.out.b0 Tryz.underlying25 rfl (by kernel_rfl)) rfl ?_
    exact ⟨⟨_, _, (by first | rfl | simp), HF.out.made⟩, HF.out.st, HF.out.keep⟩

set_option maxRecDepth 100000 in
set_option maxHeartbeats 8000000 in
theorem args_par (f : List Tok → PR Tree) (ih : PAll 45 (fun g => #[.pointer (some ⟨g, 0, none⟩)]) f) (k : Nat) : PAllL 81 (fun g => #[.pointer (some ⟨g, 0, none⟩)]) (fun ts => argsP f k ts []) := by
 intro w0 w g l ts h hne
 obtain ⟨r, hr⟩ : ∃ r, (fun ts => argsP f k ts []) ts = r := ⟨_, rfl⟩
 have HNE := Lib.hid hne
 have HF := Lib.hid (Fr.begin h)
 rw [hr] at HNE ⊢
 dsimp only at hr
 have HR := Lib.hid hr
 clear h hne hr
 go_enter Tryz.func81, Tryz.ntmps81
 go_wp2_with fail
 go_loopg [2] k (fun kq v2 w' => ∃ (acc : List Tree) (ts' : List Tok) (A : Option Addr) (c : Nat) (ok : Nat → Prop), v2 = .slice A acc.length c ∧ Hid (argsP f kq ts' acc = r) ∧ Hid (kq ≤ k) ∧ Hid (Fr w0 w w' g (SP w0 g l ts') [] [⟨ok, .slice A acc.length c, acc⟩]))
 case atStart => exact ⟨[], ts, none, 0, _, rfl, HR, Lib.hid (Nat.le_refl _), Lib.hid HF.out.nil⟩
 case round =>
  clear HF HR
  obtain ⟨acc, ts', A, c, ok, rfl, HA, HK, HF⟩ := hrel
  cases gk with
  | zero => exact absurd HA.out.symm (by simpa only [argsP] using HNE.out)
  | succ k1 =>
   have h_ := HA.out
   clear HA
   simp only [argsP] at h_
   have HR := Lib.hid h_
   clear h_
   by_cases h6 : 6000 < acc.length
   ·exact absurd ((if_pos h6).symm.trans HR.out).symm HNE.out
   have h_ := (if_neg h6).symm.trans HR.out
   clear HR
   try dsimp only at h_
   have HR := Lib.hid h_
   clear h_
   have HL_ := Lib.hid h6
   clear h6
   go_wp2_with fail
   cases h62 : isP [40] ts'
   ·have h_ := (if_neg (Bool.eq_false_iff.1 h62)).symm.trans HR.out
    clear HR
    try dsimp only at h_
    have HR := Lib.hid h_
    clear h_
    refine (c_is HF [40] h62).mono ?_
    clear HF h62
    rintro e w63 ⟨rfl, HF⟩
    go_wp2_with fail
    by_cases h64 : kindP ts' = 1
    ·have h_ := (if_pos h64).symm.trans HR.out
     clear HR
     try dsimp only at h_
     have HR := Lib.hid h_
     clear h_
     go_wp2_with fail
     refine (c_kind HF (k := 1) h64).mono ?_
     clear HF
     rintro e w65 ⟨rfl, HF⟩
     go_wp2_with fail
     cases h66 : nodeP ts' with
     | out => exact absurd ((PR.bind_out h66 _).symm.trans HR.out).symm HNE.out
     | bad t_ =>
      obtain rfl : PR.bad t_ = r := (PR.bind_bad h66 _).symm.trans HR.out
      refine (c_treeBad HF node_par h66).mono ?_
      rintro e w_ ⟨rfl, HE⟩
      exact ⟨rfl, rfl, HE.out⟩
     | ok x_ t5_ =>
      have h_ := (PR.bind_ok h66 _).symm.trans HR.out
      clear HR
      try dsimp only at h_
      have HR := Lib.hid h_
      clear h_
      refine (c_tree HF node_par h66).mono ?_
      clear HF h66
      rintro e w67 ⟨Au, cu, oku, rfl, HF⟩
      go_wp2_with (first
       | (at_builtin; refine ev_app x_ rfl HF rfl rfl rfl rfl (by have := HL_.out; simp at this ⊢; omega) ?_; clear HF; intro Av68 cv68 w69 okv68 HF))
      go_roundg k1
      case measure => have := HK.out; omega
      case rel => exact ⟨acc ++ [x_], t5_, _, _, _, (by simp), HR, Lib.hid (by have := HK.out; omega), HF⟩
    ·have h_ := (if_neg h64).symm.trans HR.out
     clear HR
     try dsimp only at h_
     have HR := Lib.hid h_
     clear h_
     have b1_ : (kindP ts' == 1) = false := beq_eq_false_iff_ne.2 h64
     go_wp2_with fail
     refine (c_kind HF (k := _) rfl).mono ?_
     clear HF
     rintro e w70 ⟨rfl, HF⟩
     go_wp2_with fail
     by_cases h2_ : kindP ts' = 2
     ·have h_ := (if_pos h2_).symm.trans HR.out
      clear HR
      try dsimp only at h_
      have HR := Lib.hid h_
      clear h_
      go_wp2_with fail
      refine (c_kind HF (k := 2) h2_).mono ?_
      clear HF
      rintro e w71 ⟨rfl, HF⟩
      go_wp2_with fail
      cases h72 : nodeP ts' with
      | out => exact absurd ((PR.bind_out h72 _).symm.trans HR.out).symm HNE.out
      | bad t_ =>
       obtain rfl : PR.bad t_ = r := (PR.bind_bad h72 _).symm.trans HR.out
       refine (c_treeBad HF node_par h72).mono ?_
       rintro e w_ ⟨rfl, HE⟩
       exact ⟨rfl, rfl, HE.out⟩
      | ok x_ t5_ =>
       have h_ := (PR.bind_ok h72 _).symm.trans HR.out
       clear HR
       try dsimp only at h_
       have HR := Lib.hid h_
       clear h_
       refine (c_tree HF node_par h72).mono ?_
       clear HF h72
       rintro e w73 ⟨Au, cu, oku, rfl, HF⟩
       go_wp2_with (first
        | (at_builtin; refine ev_app x_ rfl HF rfl rfl rfl rfl (by have := HL_.out; simp at this ⊢; omega) ?_; clear HF; intro Av74 cv74 w75 okv74 HF))
       go_roundg k1
       case measure => have := HK.out; omega
       case rel => exact ⟨acc ++ [x_], t5_, _, _, _, (by simp), HR, Lib.hid (by have := HK.out; omega), HF⟩
     ·have h_ := (if_neg h2_).symm.trans HR.out
      clear HR
      try dsimp only at h_
      have HR := Lib.hid h_
      clear h_
      have b2_ : (kindP ts' == 2) = false := beq_eq_false_iff_ne.2 h2_
      go_wp2_with fail
      refine (c_kind HF (k := _) rfl).mono ?_
      clear HF
      rintro e w76 ⟨rfl, HF⟩
      go_wp2_with fail
      go_ret
      obtain rfl : PR.ok acc ts' = r := HR.out
      exact ⟨⟨_, _, rfl, HF.out.made⟩, HF.out.st, HF.out.keep⟩
   ·obtain ⟨t77, tl78, rfl⟩ := isP_cons h62
    have h_ := (if_pos h62).symm.trans HR.out
    clear HR
    try simp only [List.tail_cons] at h_
    try dsimp only at h_
    have HR := Lib.hid h_
    clear h_
    refine (c_is HF [40] h62).mono ?_
    clear HF h62
    rintro e w79 ⟨rfl, HF⟩
    go_wp2_with fail
    cases h80 : inP [40] [41] f (t77 :: tl78) with
    | out => exact absurd ((PR.bind_out h80 _).symm.trans HR.out).symm HNE.out
    | bad t_ =>
     obtain rfl : PR.bad t_ = r := (PR.bind_bad h80 _).symm.trans HR.out
     refine (c_treeBad HF (inside_term f ih [40] [41]) h80).mono ?_
     rintro e w_ ⟨rfl, HE⟩
     exact ⟨rfl, rfl, HE.out⟩
    | ok x_ t5_ =>
     have h_ := (PR.bind_ok h80 _).symm.trans HR.out
     clear HR
     try dsimp only at h_
     have HR := Lib.hid h_
     clear h_
     refine (c_tree HF (inside_term f ih [40] [41]) h80).mono ?_
     clear HF h80
     rintro e w81 ⟨Au, cu, oku, rfl, HF⟩
     go_wp2_with (first
      | (at_builtin; refine ev_app x_ rfl HF rfl rfl rfl rfl (by have := HL_.out; simp at this ⊢; omega) ?_; clear HF; intro Av82 cv82 w83 okv82 HF))
     go_roundg k1
     case measure => have := HK.out; omega
     case rel => exact ⟨acc ++ [x_], t5_, _, _, _, (by simp), HR, Lib.hid (by have := HK.out; omega), HF⟩

set_option maxRecDepth 100000 in
set_option maxHeartbeats 8000000 in
theorem binder_term (kt : Nat) (kd : Int) (f : List Tok → PR Tree) (ih : PAll 45 (fun g => #[.pointer (some ⟨g, 0, none⟩)]) f) (ihy : PAll 46 (fun g => #[.pointer (some ⟨g, 0, none⟩)]) (typP kt)) : PAll 78 (fun g => #[.pointer (some ⟨g, 0, none⟩), .int .i64 kd, .func (.func 45) #[] #[]]) (binderP kt kd f) := by
 intro w0 w g l ts h hne
 obtain ⟨r, hr⟩ : ∃ r, (binderP kt kd f) ts = r := ⟨_, rfl⟩
 have HNE := Lib.hid hne
 have HF := Lib.hid (Fr.begin h)
 rw [hr] at HNE ⊢
 simp only [binderP] at hr
 have HR := Lib.hid hr
 clear h hne hr
 go_enter Tryz.func78, Tryz.ntmps78
 go_wp2_with (first
  | ((with_reducible refine gate_dst (N := 6) rfl ?_); refine ev_box HF rfl rfl (run_node rfl) ?_; clear HF; intro b1 w84 HF))
 cases h85 : nameP ts with
 | out => exact absurd ((PR.bind_out h85 _).symm.trans HR.out).symm HNE.out
 | bad t_ =>
  obtain rfl : PR.bad t_ = r := (PR.bind_bad h85 _).symm.trans HR.out
  refine (c_name_bad HF h85).mono ?_
  rintro e w_ ⟨rfl, HE⟩
  exact ⟨rfl, rfl, HE.out⟩
 | ok s_ t1_ =>
  have h_ := (PR.bind_ok h85 _).symm.trans HR.out
  clear HR
  try dsimp only at h_
  have HR := Lib.hid h_
  clear h_
  refine (c_name HF h85).mono ?_
  clear HF h85
  rintro e w86 ⟨rfl, HF⟩
  go_wp2_with (first
   | ((with_reducible refine gate_dst (N := 7) rfl ?_); refine ev_box HF rfl rfl (run_node rfl) ?_; clear HF; intro b2 w87 HF)
   | ((with_reducible refine gate_store (t := 25) (p := 7) rfl ?_); have HF2_ := Lib.hid (HF.out.nil); clear HF; have HF := HF2_; clear HF2_; refine ev_put (p := 7) HF rfl rfl rfl rfl rfl rfl rfl ?_; clear HF; intro w88 HF))
  cases h89 : isP [58] t1_
  ·have h_ := (if_neg (Bool.eq_false_iff.1 h89)).symm.trans HR.out
   clear HR
   try dsimp only at h_
   have HR := Lib.hid h_
   clear h_
   refine (c_is HF [58] h89).mono ?_
   clear HF h89
   rintro e w90 ⟨rfl, HF⟩
   go_wp2_with fail
   cases h91 : wantP [46] t1_ with
   | out => exact absurd ((PR.bind_out h91 _).symm.trans HR.out).symm HNE.out
   | bad t_ =>
    obtain rfl : PR.bad t_ = r := (PR.bind_bad h91 _).symm.trans HR.out
    refine (c_want_bad HF [46] h91).mono ?_
    rintro e w_ ⟨rfl, HE⟩
    exact ⟨rfl, rfl, HE.out⟩
   | ok u_ t3_ =>
    have h_ := (PR.bind_ok h91 _).symm.trans HR.out
    clear HR
    try dsimp only at h_
    have HR := Lib.hid h_
    clear h_
    refine (c_want HF [46] h91).mono ?_
    clear HF h91
    rintro e w92 ⟨rfl, HF⟩
    go_wp2_with fail
    replace HF := Lib.hid HF.out.drew
    refine start_ (n := 9) (S := (fun w' => w'.cell? ⟨b2, 2, none⟩ = some (.slice none 0 0))) (ds := [6, 8]) #[false, false, false, false, false, false, false, false, false] (by kernel_rfl) rfl rfl ?_ (fun hHeld => ?_)
    ·exact (rd3 HF.out.b0).2.2
    refine pq 0 (fl 9 1) (h := ?_)
    refine pq 2 #[true, false, true, false, false, false, false, false, false] (h := ?_)
    refine pq 3 #[true, false, true, true, false, false, false, false, false] (h := ?_)
    refine tq hHeld 1 (fl 9 4) (h := ?_)
    refine one_ (i := 4) (N := some 34) #[true, true, true, true, true, false, false, false, false] rfl rfl (by kernel_rfl) (by decide) (fun K hK => ?_)
    clear hHeld
    go_simp
    go_wp2_with fail
    cases h93 : f t3_ with
    | out => exact absurd ((PR.bind_out h93 _).symm.trans HR.out).symm HNE.out
    | bad t_ =>
     obtain rfl : PR.bad t_ = r := (PR.bind_bad h93 _).symm.trans HR.out
     refine (c_treeBad HF ih h93).mono ?_
     rintro e w_ ⟨rfl, HE⟩
     exact ⟨rfl, rfl, HE.out⟩
    | ok b_ t4_ =>
     have h_ := (PR.bind_ok h93 _).symm.trans HR.out
     clear HR
     try dsimp only at h_
     have HR := Lib.hid h_
     clear h_
     refine (c_tree HF ih h93).mono ?_
     clear HF h93
     rintro e w94 ⟨Aub, cub, okub, rfl, HF⟩
     refine hK.out _ _ ((rd3 HF.out.b0).2.2) (fun hHeld => ?_)
     clear hK K
     (try simp only [Act.put, List.setIfInBounds_toArray, List.set_cons_zero, List.set_cons_succ])
     refine one_ (i := 5) (N := some 35) #[true, true, true, true, true, true, false, false, false] rfl rfl (by kernel_rfl) (by decide) (fun K hK => ?_)
     clear hHeld
     go_simp
     refine hK.out _ _ ((rd3 (HF.out.alloc _).b0).2.2) (fun hHeld => ?_)
     clear hK K
     (try simp only [Act.put, List.setIfInBounds_toArray, List.set_cons_zero, List.set_cons_succ])
     refine last_ (i := 6) (N := some 36) #[true, true, true, true, true, true, true, false, false] rfl rfl (by kernel_rfl) (by decide) (fun K hK => ?_)
     refine st_app b_ rfl HF rfl rfl rfl rfl (by simp) ?_
     clear HF
     intro Av95 cv95 w96 okv95 HF
     refine hK.out _ _ ?_
     clear hK K
     (try simp only [Act.put, List.setIfInBounds_toArray, List.set_cons_zero, List.set_cons_succ])
     refine pq 7 (fl 9 8) (h := ?_)
     refine last_ (i := 8) (N := none) #[true, true, true, true, true, true, true, true, true] rfl rfl (by kernel_rfl) (by decide) (fun K hK => ?_)
     refine st_cell (p := 37) HF rfl rfl rfl rfl rfl rfl (.inl ⟨_, _, _, rfl⟩) rfl rfl ?_
     clear HF
     intro w97 HF
     refine hK.out _ _ ?_
     clear hK K
     (try simp only [Act.put, List.setIfInBounds_toArray, List.set_cons_zero, List.set_cons_succ])
     refine done_ (by kernel_rfl) ?_
     skip
     try simp only [Act.put, List.setIfInBounds_toArray, List.set_cons_zero, List.set_cons_succ]
     obtain ⟨q98a, q98b, q98c⟩ := rd3 HF.out.b0
     replace HF := Lib.hid HF.out.swap
     go_wp2_with (first
      | ((with_reducible refine gate_store (t := 25) (p := 6) rfl ?_); refine ev_put (p := 6) HF rfl rfl rfl rfl rfl rfl rfl ?_; clear HF; clear q98a q98b q98c; intro w99 HF))
     obtain rfl : PR.ok ⟨kd, s_, [b_]⟩ t4_ = r := HR.out
     refine bodyPost_ret (results_cell_row rfl _ _ _ 25 _ (0, 0) _ rfl HF.out.b0 Tryz.underlying25 rfl (by kernel_rfl)) rfl ?_
     exact ⟨⟨_, _, (by first | rfl | simp), HF.out.made⟩, HF.out.st, HF.out.keep⟩
  ·obtain ⟨t100, tl101, rfl⟩ := isP_cons h89
   have h_ := (if_pos h89).symm.trans HR.out
   clear HR
   try simp only [List.tail_cons] at h_
   try dsimp only at h_
   have HR := Lib.hid h_
   clear h_
   refine (c_is HF [58] h89).mono ?_
   clear HF h89
   rintro e w102 ⟨rfl, HF⟩
   have q103 := HF.out.at1
   go_wp2_with (first
    | ((with_reducible refine gate_store (t := 3) (p := 20) rfl ?_); refine ev_next (p := 20) HF rfl rfl rfl rfl rfl ?_; clear HF; clear q103; intro w104 HF))
   replace HF := Lib.hid HF.out.drew
   refine start_ (n := 8) (S := (fun w' => w'.cell? ⟨b2, 2, none⟩ = some (.slice none 0 0))) (ds := [5, 7]) #[false, false, false, false, false, false, false, false] (by kernel_rfl) rfl rfl ?_ (fun hHeld => ?_)
   ·exact (rd3 HF.out.b0).2.2
   refine pq 0 (fl 8 1) (h := ?_)
   refine pq 2 #[true, false, true, false, false, false, false, false] (h := ?_)
   refine tq hHeld 1 (fl 8 3) (h := ?_)
   refine one_ (i := 3) (N := some 24) #[true, true, true, true, false, false, false, false] rfl rfl (by kernel_rfl) (by decide) (fun K hK => ?_)
   clear hHeld
   go_simp
   go_wp2_with fail
   cases h105 : typP kt tl101 with
   | out => exact absurd ((PR.bind_out h105 _).symm.trans HR.out).symm HNE.out
   | bad t_ =>
    obtain rfl : PR.bad t_ = r := (PR.bind_bad h105 _).symm.trans HR.out
    refine (c_treeBad HF ihy h105).mono ?_
    rintro e w_ ⟨rfl, HE⟩
    exact ⟨rfl, rfl, HE.out⟩
   | ok ty_ t2_ =>
    have h_ := (PR.bind_ok h105 _).symm.trans HR.out
    clear HR
    try dsimp only at h_
    have HR := Lib.hid h_
    clear h_
    refine (c_tree HF ihy h105).mono ?_
    clear HF h105
    rintro e w106 ⟨Aut, cut, okut, rfl, HF⟩
    refine hK.out _ _ ((rd3 HF.out.b0).2.2) (fun hHeld => ?_)
    clear hK K
    (try simp only [Act.put, List.setIfInBounds_toArray, List.set_cons_zero, List.set_cons_succ])
    refine one_ (i := 4) (N := some 25) #[true, true, true, true, true, false, false, false] rfl rfl (by kernel_rfl) (by decide) (fun K hK => ?_)
    clear hHeld
    go_simp
    refine hK.out _ _ ((rd3 (HF.out.alloc _).b0).2.2) (fun hHeld => ?_)
    clear hK K
    (try simp only [Act.put, List.setIfInBounds_toArray, List.set_cons_zero, List.set_cons_succ])
    refine last_ (i := 5) (N := some 26) #[true, true, true, true, true, true, false, false] rfl rfl (by kernel_rfl) (by decide) (fun K hK => ?_)
    refine st_app ty_ rfl HF rfl rfl rfl rfl (by simp) ?_
    clear HF
    intro Av107 cv107 w108 okv107 HF
    refine hK.out _ _ ?_
    clear hK K
    (try simp only [Act.put, List.setIfInBounds_toArray, List.set_cons_zero, List.set_cons_succ])
    refine pq 6 (fl 8 7) (h := ?_)
    refine last_ (i := 7) (N := none) #[true, true, true, true, true, true, true, true] rfl rfl (by kernel_rfl) (by decide) (fun K hK => ?_)
    refine st_cell (p := 27) HF rfl rfl rfl rfl rfl rfl (.inl ⟨_, _, _, rfl⟩) rfl rfl ?_
    clear HF
    intro w109 HF
    refine hK.out _ _ ?_
    clear hK K
    (try simp only [Act.put, List.setIfInBounds_toArray, List.set_cons_zero, List.set_cons_succ])
    refine done_ (by kernel_rfl) ?_
    skip
    try simp only [Act.put, List.setIfInBounds_toArray, List.set_cons_zero, List.set_cons_succ]
    go_wp2_with fail
    cases h110 : wantP [46] t2_ with
    | out => exact absurd ((PR.bind_out h110 _).symm.trans HR.out).symm HNE.out
    | bad t_ =>
     obtain rfl : PR.bad t_ = r := (PR.bind_bad h110 _).symm.trans HR.out
     refine (c_want_bad HF [46] h110).mono ?_
     rintro e w_ ⟨rfl, HE⟩
     exact ⟨rfl, rfl, HE.out⟩
    | ok u_ t3_ =>
     have h_ := (PR.bind_ok h110 _).symm.trans HR.out
     clear HR
     try dsimp only at h_
     have HR := Lib.hid h_
     clear h_
     refine (c_want HF [46] h110).mono ?_
     clear HF h110
     rintro e w111 ⟨rfl, HF⟩
     go_wp2_with fail
     replace HF := Lib.hid HF.out.drew
     refine start_ (n := 9) (S := (fun w' => w'.cell? ⟨b2, 2, none⟩ = some (.slice Av107 ([] ++ [ty_]).length cv107))) (ds := [6, 8]) #[false, false, false, false, false, false, false, false, false] (by kernel_rfl) rfl rfl ?_ (fun hHeld => ?_)
     ·exact (rd3 HF.out.b0).2.2
     refine pq 0 (fl 9 1) (h := ?_)
     refine pq 2 #[true, false, true, false, false, false, false, false, false] (h := ?_)
     refine pq 3 #[true, false, true, true, false, false, false, false, false] (h := ?_)
     refine tq hHeld 1 (fl 9 4) (h := ?_)
     refine one_ (i := 4) (N := some 34) #[true, true, true, true, true, false, false, false, false] rfl rfl (by kernel_rfl) (by decide) (fun K hK => ?_)
     clear hHeld
     go_simp
     go_wp2_with fail
     cases h112 : f t3_ with
     | out => exact absurd ((PR.bind_out h112 _).symm.trans HR.out).symm HNE.out
     | bad t_ =>
      obtain rfl : PR.bad t_ = r := (PR.bind_bad h112 _).symm.trans HR.out
      refine (c_treeBad HF ih h112).mono ?_
      rintro e w_ ⟨rfl, HE⟩
      exact ⟨rfl, rfl, HE.out⟩
     | ok b_ t4_ =>
      have h_ := (PR.bind_ok h112 _).symm.trans HR.out
      clear HR
      try dsimp only at h_
      have HR := Lib.hid h_
      clear h_
      refine (c_tree HF ih h112).mono ?_
      clear HF h112
      rintro e w113 ⟨Aub, cub, okub, rfl, HF⟩
      refine hK.out _ _ ((rd3 HF.out.b0).2.2) (fun hHeld => ?_)
      clear hK K
      (try simp only [Act.put, List.setIfInBounds_toArray, List.set_cons_zero, List.set_cons_succ])
      refine one_ (i := 5) (N := some 35) #[true, true, true, true, true, true, false, false, false] rfl rfl (by kernel_rfl) (by decide) (fun K hK => ?_)
      clear hHeld
      go_simp
      refine hK.out _ _ ((rd3 (HF.out.alloc _).b0).2.2) (fun hHeld => ?_)
      clear hK K
      (try simp only [Act.put, List.setIfInBounds_toArray, List.set_cons_zero, List.set_cons_succ])
      refine last_ (i := 6) (N := some 36) #[true, true, true, true, true, true, true, false, false] rfl rfl (by kernel_rfl) (by decide) (fun K hK => ?_)
      refine st_app b_ rfl HF rfl rfl rfl rfl (by simp) ?_
      clear HF
      intro Av114 cv114 w115 okv114 HF
      refine hK.out _ _ ?_
      clear hK K
      (try simp only [Act.put, List.setIfInBounds_toArray, List.set_cons_zero, List.set_cons_succ])
      refine pq 7 (fl 9 8) (h := ?_)
      refine last_ (i := 8) (N := none) #[true, true, true, true, true, true, true, true, true] rfl rfl (by kernel_rfl) (by decide) (fun K hK => ?_)
      refine st_cell (p := 37) HF rfl rfl rfl rfl rfl rfl (.inl ⟨_, _, _, rfl⟩) rfl rfl ?_
      clear HF
      intro w116 HF
      refine hK.out _ _ ?_
      clear hK K
      (try simp only [Act.put, List.setIfInBounds_toArray, List.set_cons_zero, List.set_cons_succ])
      refine done_ (by kernel_rfl) ?_
      skip
      try simp only [Act.put, List.setIfInBounds_toArray, List.set_cons_zero, List.set_cons_succ]
      obtain ⟨q117a, q117b, q117c⟩ := rd3 HF.out.b0
      replace HF := Lib.hid HF.out.swap
      go_wp2_with (first
       | ((with_reducible refine gate_store (t := 25) (p := 6) rfl ?_); refine ev_put (p := 6) HF rfl rfl rfl rfl rfl rfl rfl ?_; clear HF; clear q117a q117b q117c; intro w118 HF))
      obtain rfl : PR.ok ⟨kd, s_, [ty_, b_]⟩ t4_ = r := HR.out
      refine bodyPost_ret (results_cell_row rfl _ _ _ 25 _ (0, 0) _ rfl HF.out.b0 Tryz.underlying25 rfl (by kernel_rfl)) rfl ?_
      exact ⟨⟨_, _, (by first | rfl | simp), HF.out.made⟩, HF.out.st, HF.out.keep⟩

set_option maxRecDepth 100000 in
set_option maxHeartbeats 8000000 in
theorem term_par (k : Nat) (ih : PAll 45 (fun g => #[.pointer (some ⟨g, 0, none⟩)]) (termP k)) (ihy : PAll 46 (fun g => #[.pointer (some ⟨g, 0, none⟩)]) (typP k)) : PAll 45 (fun g => #[.pointer (some ⟨g, 0, none⟩)]) (termP (k + 1)) := by
 intro w0 w g l ts h hne
 obtain ⟨r, hr⟩ : ∃ r, (termP (k + 1)) ts = r := ⟨_, rfl⟩
 have HNE := Lib.hid hne
 have HF := Lib.hid (Fr.begin h)
 rw [hr] at HNE ⊢
 simp only [termP] at hr
 have HR := Lib.hid hr
 clear h hne hr
 go_enter Tryz.func45, Tryz.ntmps45
 go_wp2_with (first
  | ((with_reducible refine gate_dst (N := 2) rfl ?_); refine ev_box HF rfl rfl (run_node rfl) ?_; clear HF; intro b1 w119 HF))
 cases h120 : isP [92] ts
 ·have h_ := (if_neg (Bool.eq_false_iff.1 h120)).symm.trans HR.out
  clear HR
  try dsimp only at h_
  have HR := Lib.hid h_
  clear h_
  refine (c_is HF [92] h120).mono ?_
  clear HF h120
  rintro e w121 ⟨rfl, HF⟩
  go_wp2_with fail
  cases h122 : isP [40] ts
  ·have h_ := (if_neg (Bool.eq_false_iff.1 h122)).symm.trans HR.out
   clear HR
   try dsimp only at h_
   have HR := Lib.hid h_
   clear h_
   refine (c_is HF [40] h122).mono ?_
   clear HF h122
   rintro e w123 ⟨rfl, HF⟩
   go_wp2_with fail
   cases h124 : nodeP ts with
   | out => exact absurd ((PR.bind_out h124 _).symm.trans HR.out).symm HNE.out
   | bad t_ =>
    obtain rfl : PR.bad t_ = r := (PR.bind_bad h124 _).symm.trans HR.out
    refine (c_treeBad HF node_par h124).mono ?_
    rintro e w_ ⟨rfl, HE⟩
    exact ⟨rfl, rfl, HE.out⟩
   | ok n_ t1_ =>
    have h_ := (PR.bind_ok h124 _).symm.trans HR.out
    clear HR
    try dsimp only at h_
    have HR := Lib.hid h_
    clear h_
    refine (c_tree HF node_par h124).mono ?_
    clear HF h124
    rintro e w125 ⟨Aun, cun, okun, rfl, HF⟩
    go_wp2_with (first
     | ((with_reducible refine gate_dst (N := 3) rfl ?_); refine ev_box HF rfl rfl (run_node rfl) ?_; clear HF; intro b2 w126 HF)
     | ((with_reducible refine gate_store (t := 25) (p := 3) rfl ?_); refine ev_put (p := 3) HF rfl rfl rfl rfl rfl rfl rfl ?_; clear HF; intro w127 HF))
    cases h128 : argsP (termP k) k t1_ [] with
    | out => exact absurd ((PR.bind_out h128 _).symm.trans HR.out).symm HNE.out
    | bad t_ =>
     obtain rfl : PR.bad t_ = r := (PR.bind_bad h128 _).symm.trans HR.out
     refine (c_listBad HF (args_par (termP k) ih k) h128).mono ?_
     rintro e w_ ⟨rfl, HE⟩
     exact ⟨rfl, rfl, HE.out⟩
    | ok l_ t2_ =>
     have h_ := (PR.bind_ok h128 _).symm.trans HR.out
     clear HR
     try dsimp only at h_
     have HR := Lib.hid h_
     clear h_
     refine (c_list HF (args_par (termP k) ih k) h128).mono ?_
     clear HF h128
     rintro e w129 ⟨Aul, cul, okul, rfl, HF⟩
     go_wp2_with (first
      | ((with_reducible refine gate_store (t := 23) (p := 25) rfl ?_); refine ev_cell (p := 25) HF rfl rfl rfl rfl rfl rfl (.inl ⟨_, _, _, rfl⟩) rfl rfl ?_; clear HF; intro w130 HF; obtain ⟨q131a, q131b, q131c⟩ := rd3 HF.out.b0; have HF2_ := Lib.hid HF.out.swap; clear HF; have HF := HF2_; clear HF2_)
      | ((with_reducible refine gate_store (t := 25) (p := 2) rfl ?_); refine ev_put (p := 2) HF rfl rfl rfl rfl rfl rfl rfl ?_; clear HF; clear q131a q131b q131c; intro w132 HF))
     obtain rfl : PR.ok ⟨n_.f0, n_.f1, l_⟩ t2_ = r := HR.out
     refine bodyPost_ret (results_cell_row rfl _ _ _ 25 _ (0, 0) _ rfl HF.out.b0 Tryz.underlying25 rfl (by kernel_rfl)) rfl ?_
     exact ⟨⟨_, _, (by first | rfl | simp), HF.out.made⟩, HF.out.st, HF.out.keep⟩
  ·obtain ⟨t133, tl134, rfl⟩ := isP_cons h122
   have h_ := (if_pos h122).symm.trans HR.out
   clear HR
   try simp only [List.tail_cons] at h_
   try dsimp only at h_
   have HR := Lib.hid h_
   clear h_
   refine (c_is HF [40] h122).mono ?_
   clear HF h122
   rintro e w135 ⟨rfl, HF⟩
   go_wp2_with fail
   cases h136 : inP [40] [41] (termP k) (t133 :: tl134) with
   | out => exact absurd (h136.symm.trans HR.out).symm HNE.out
   | bad t_ =>
    obtain rfl : PR.bad t_ = r := h136.symm.trans HR.out
    refine (c_treeBad HF (inside_term (termP k) ih [40] [41]) h136).mono ?_
    rintro e w_ ⟨rfl, HE⟩
    exact ⟨rfl, rfl, HE.out⟩
   | ok x_ tz_ =>
    have h_ := h136.symm.trans HR.out
    clear HR
    try dsimp only at h_
    have HR := Lib.hid h_
    clear h_
    refine (c_tree HF (inside_term (termP k) ih [40] [41]) h136).mono ?_
    clear HF h136
    rintro e w137 ⟨Au, cu, oku, rfl, HF⟩
    go_wp2_with (first
     | ((with_reducible refine gate_store (t := 25) (p := 2) rfl ?_); refine ev_put (p := 2) HF rfl rfl rfl rfl rfl rfl rfl ?_; clear HF; intro w138 HF))
    obtain rfl : PR.ok x_ tz_ = r := HR.out
    refine bodyPost_ret (results_cell_row rfl _ _ _ 25 _ (0, 0) _ rfl HF.out.b0 Tryz.underlying25 rfl (by kernel_rfl)) rfl ?_
    exact ⟨⟨_, _, (by first | rfl | simp), HF.out.made⟩, HF.out.st, HF.out.keep⟩
 ·obtain ⟨t139, tl140, rfl⟩ := isP_cons h120
  have h_ := (if_pos h120).symm.trans HR.out
  clear HR
  try simp only [List.tail_cons] at h_
  try dsimp only at h_
  have HR := Lib.hid h_
  clear h_
  refine (c_is HF [92] h120).mono ?_
  clear HF h120
  rintro e w141 ⟨rfl, HF⟩
  have q142 := HF.out.at1
  go_wp2_with (first
   | ((with_reducible refine gate_store (t := 3) (p := 13) rfl ?_); refine ev_next (p := 13) HF rfl rfl rfl rfl rfl ?_; clear HF; clear q142; intro w143 HF))
  cases h144 : binderP k 17 (termP k) tl140 with
  | out => exact absurd (h144.symm.trans HR.out).symm HNE.out
  | bad t_ =>
   obtain rfl : PR.bad t_ = r := h144.symm.trans HR.out
   refine (c_treeBad HF (binder_term k 17 (termP k) ih ihy) h144).mono ?_
   rintro e w_ ⟨rfl, HE⟩
   exact ⟨rfl, rfl, HE.out⟩
  | ok x_ tz_ =>
   have h_ := h144.symm.trans HR.out
   clear HR
   try dsimp only at h_
   have HR := Lib.hid h_
   clear h_
   refine (c_tree HF (binder_term k 17 (termP k) ih ihy) h144).mono ?_
   clear HF h144
   rintro e w145 ⟨Au, cu, oku, rfl, HF⟩
   go_wp2_with (first
    | ((with_reducible refine gate_store (t := 25) (p := 2) rfl ?_); refine ev_put (p := 2) HF rfl rfl rfl rfl rfl rfl rfl ?_; clear HF; intro w146 HF))
   obtain rfl : PR.ok x_ tz_ = r := HR.out
   refine bodyPost_ret (results_cell_row rfl _ _ _ 25 _ (0, 0) _ rfl HF.out.b0 Tryz.underlying25 rfl (by kernel_rfl)) rfl ?_
   exact ⟨⟨_, _, (by first | rfl | simp), HF.out.made⟩, HF.out.st, HF.out.keep⟩

theorem term_all : ∀ k, PAll 45 (fun g => #[.pointer (some ⟨g, 0, none⟩)]) (termP k)
 | 0 => fun _ _ _ _ _ _ h => absurd rfl h
 | k + 1 => term_par k (term_all k) (typ_all k).2
end Go.Proofs.YtbndfgoklgdfdaaGreatDoor.P
