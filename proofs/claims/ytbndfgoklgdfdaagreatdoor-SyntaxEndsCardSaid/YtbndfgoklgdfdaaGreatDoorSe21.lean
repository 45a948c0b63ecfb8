/- syntax's parser: formulas. (printed by mkp2.py) -/
import Derived.Test.YtbndfgoklgdfdaaGreatDoorSe15
set_option linter.all false
set_option linter.unusedSimpArgs false
namespace Go.Proofs.YtbndfgoklgdfdaaGreatDoor.P
open Go.RowKit Go.Proofs.YtbndfgoklgdfdaaGreatDoorW.PrintWords Go.Proofs.YtbndfgoklgdfdaaGreatDoorW.PrintLast Go.Proofs.YtbndfgoklgdfdaaGreatDoorW.PrintMore
set_option maxRecDepth 100000 in
set_option maxHeartbeats 8000000 in
theorem inside_form (f : List Tok → PR Tree) (ih : PAll 44 (fun g => #[.pointer (some ⟨g, 0, none⟩)]) f) (o s : List UInt8) : PAll 79 (fun g => #[.pointer (some ⟨g, 0, none⟩), .string ⟨o.toArray⟩, .string ⟨s.toArray⟩, .func (.func 44) #[] #[]]) (inP o s f) := by
 intro w0 w g l ts h hne
 obtain ⟨r, hr⟩ : ∃ r, (inP o s f) ts = r := ⟨_, rfl⟩
 have HNE := Lib.hid hne
 have HF := Lib.hid (Fr.begin h)
 rw [hr] at HNE ⊢
 simp only [inP] at hr
 have HR := Lib.hid hr
 clear h hne hr
 go_enter Tryz.func79, Tryz.ntmps79
 go_wp2_with (first
  | ((with_reducible refine gate_dst (N := 8) rfl ?_); refine ev_box HF rfl rfl (run_node rfl) ?_; clear HF; intro b1 w190 HF))
 cases h191 : wantP o ts with
 | out => exact absurd ((PR.bind_out h191 _).symm.trans HR.out).symm HNE.out
 | bad t_ =>
  obtain rfl : PR.bad t_ = r := (PR.bind_bad h191 _).symm.trans HR.out
  refine (c_want_bad HF o h191).mono ?_
  rintro e w_ ⟨rfl, HE⟩
  exact ⟨rfl, rfl, HE.out⟩
 | ok u_ t1_ =>
  have h_ := (PR.bind_ok h191 _).symm.trans HR.out
  clear HR
  try dsimp only at h_
  have HR := Lib.hid h_
  clear h_
  refine (c_want HF o h191).mono ?_
  clear HF h191
  rintro e w192 ⟨rfl, HF⟩
  go_wp2_with fail
  cases h193 : f t1_ with
  | out => exact absurd ((PR.bind_out h193 _).symm.trans HR.out).symm HNE.out
  | bad t_ =>
   obtain rfl : PR.bad t_ = r := (PR.bind_bad h193 _).symm.trans HR.out
   refine (c_treeBad HF ih h193).mono ?_
   rintro e w_ ⟨rfl, HE⟩
   exact ⟨rfl, rfl, HE.out⟩
  | ok x_ t2_ =>
   have h_ := (PR.bind_ok h193 _).symm.trans HR.out
   clear HR
   try dsimp only at h_
   have HR := Lib.hid h_
   clear h_
   refine (c_tree HF ih h193).mono ?_
   clear HF h193
   rintro e w194 ⟨Au, cu, oku, rfl, HF⟩
   go_wp2_with (first
    | ((with_reducible refine gate_dst (N := 9) rfl ?_); refine ev_box HF rfl rfl (run_node rfl) ?_; clear HF; intro b2 w195 HF)
    | ((with_reducible refine gate_store (t := 25) (p := 9) rfl ?_); refine ev_put (p := 9) HF rfl rfl rfl rfl rfl rfl rfl ?_; clear HF; intro w196 HF))
   cases h197 : wantP s t2_ with
   | out => exact absurd ((PR.bind_out h197 _).symm.trans HR.out).symm HNE.out
   | bad t_ =>
    obtain rfl : PR.bad t_ = r := (PR.bind_bad h197 _).symm.trans HR.out
    refine (c_want_bad HF s h197).mono ?_
    rintro e w_ ⟨rfl, HE⟩
    exact ⟨rfl, rfl, HE.out⟩
   | ok u_ t3_ =>
    have h_ := (PR.bind_ok h197 _).symm.trans HR.out
    clear HR
    try dsimp only at h_
    have HR := Lib.hid h_
    clear h_
    refine (c_want HF s h197).mono ?_
    clear HF h197
    rintro e w198 ⟨rfl, HF⟩
    obtain ⟨q199a, q199b, q199c⟩ := rd3 HF.out.b0
    replace HF := Lib.hid HF.out.swap
    go_wp2_with (first
     | ((with_reducible refine gate_store (t := 25) (p := 8) rfl ?_); refine ev_put (p := 8) HF rfl rfl rfl rfl rfl rfl rfl ?_; clear HF; clear q199a q199b q199c; intro w200 HF))
    obtain rfl : PR.ok x_ t3_ = r := HR.out
    refine bodyPost_ret (results_cell_row rfl _ _ _ 25 _ (0, 0) _ rfl HF.out.b0 Tryz.underlying25 rfl (by kernel_rfl)) rfl ?_
    exact ⟨⟨_, _, (by first | rfl | simp), HF.out.made⟩, HF.out.st, HF.out.keep⟩

set_option maxRecDepth 100000 in
set_option maxHeartbeats 8000000 in
theorem binder_form (kt : Nat) (kd : Int) (f : List Tok → PR Tree) (ih : PAll 44 (fun g => #[.pointer (some ⟨g, 0, none⟩)]) f) (ihy : PAll 46 (fun g => #[.pointer (some ⟨g, 0, none⟩)]) (typP kt)) : PAll 78 (fun g => #[.pointer (some ⟨g, 0, none⟩), .int .i64 kd, .func (.func 44) #[] #[]]) (binderP kt kd f) := by
 intro w0 w g l ts h hne
 obtain ⟨r, hr⟩ : ∃ r, (binderP kt kd f) ts = r := ⟨_, rfl⟩
 have HNE := Lib.hid hne
 have HF := Lib.hid (Fr.begin h)
 rw [hr] at HNE ⊢
 simp only [binderP] at hr
 have HR := Lib.hid hr
 clear h hne hr
 go_enter Tryz.func78, Tryz.ntmps78
 go_wp2_with (first
  | ((with_reducible refine gate_dst (N := 6) rfl ?_); refine ev_box HF rfl rfl (run_node rfl) ?_; clear HF; intro b1 w201 HF))
 cases h202 : nameP ts with
 | out => exact absurd ((PR.bind_out h202 _).symm.trans HR.out).symm HNE.out
 | bad t_ =>
  obtain rfl : PR.bad t_ = r := (PR.bind_bad h202 _).symm.trans HR.out
  refine (c_name_bad HF h202).mono ?_
  rintro e w_ ⟨rfl, HE⟩
  exact ⟨rfl, rfl, HE.out⟩
 | ok s_ t1_ =>
  have h_ := (PR.bind_ok h202 _).symm.trans HR.out
  clear HR
  try dsimp only at h_
  have HR := Lib.hid h_
  clear h_
  refine (c_name HF h202).mono ?_
  clear HF h202
  rintro e w203 ⟨rfl, HF⟩
  go_wp2_with (first
   | ((with_reducible refine gate_dst (N := 7) rfl ?_); refine ev_box HF rfl rfl (run_node rfl) ?_; clear HF; intro b2 w204 HF)
   | ((with_reducible refine gate_store (t := 25) (p := 7) rfl ?_); have HF2_ := Lib.hid (HF.out.nil); clear HF; have HF := HF2_; clear HF2_; refine ev_put (p := 7) HF rfl rfl rfl rfl rfl rfl rfl ?_; clear HF; intro w205 HF))
  cases h206 : isP [58] t1_
  ·have h_ := (if_neg (Bool.eq_false_iff.1 h206)).symm.trans HR.out
   clear HR
   try dsimp only at h_
   have HR := Lib.hid h_
   clear h_
   refine (c_is HF [58] h206).mono ?_
   clear HF h206
   rintro e w207 ⟨rfl, HF⟩
   go_wp2_with fail
   cases h208 : wantP [46] t1_ with
   | out => exact absurd ((PR.bind_out h208 _).symm.trans HR.out).symm HNE.out
   | bad t_ =>
    obtain rfl : PR.bad t_ = r := (PR.bind_bad h208 _).symm.trans HR.out
    refine (c_want_bad HF [46] h208).mono ?_
    rintro e w_ ⟨rfl, HE⟩
    exact ⟨rfl, rfl, HE.out⟩
   | ok u_ t3_ =>
    have h_ := (PR.bind_ok h208 _).symm.trans HR.out
    clear HR
    try dsimp only at h_
    have HR := Lib.hid h_
    clear h_
    refine (c_want HF [46] h208).mono ?_
    clear HF h208
    rintro e w209 ⟨rfl, HF⟩
    go_wp2_with fail
    replace HF := Lib.hid HF.out.drew
    refine start_ (n := 9) (S := (fun w' => w'.cell? ⟨b2, 2, none⟩ = some (.slice none 0 0))) (ds := [6, 8]) #[false, false, false, false, false, false, false, false, false] (by kernel_rfl) rfl rfl ?_ (fun hHeld => ?_)
    ·exact (rd3 HF.out.b0).2.2
    refine pq 0 (fl 9 1) (h := ?_)
    refine pq 2 #[true, false, true, false, false, false, false, false, false] (h := ?_)
    refine pq 3 #[true, false, true, true, false, false, false, false, false] (h := ?_)
    refine tq hHeld 1 (fl 9 4) (h := ?_)
    refine one_ (i := 4) (N := some 34) #[true, true, true, true, true, false, false, false, false] rfl rfl (by kernel_rfl) (by decide) (fun K hK => ?_)
    clear hHeld
    go_simp
    go_wp2_with fail
    cases h210 : f t3_ with
    | out => exact absurd ((PR.bind_out h210 _).symm.trans HR.out).symm HNE.out
    | bad t_ =>
     obtain rfl : PR.bad t_ = r := (PR.bind_bad h210 _).symm.trans HR.out
     refine (c_treeBad HF ih h210).mono ?_
     rintro e w_ ⟨rfl, HE⟩
     exact ⟨rfl, rfl, HE.out⟩
    | ok b_ t4_ =>
     have h_ := (PR.bind_ok h210 _).symm.trans HR.out
     clear HR
     try dsimp only at h_
     have HR := Lib.hid h_
     clear h_
     refine (c_tree HF ih h210).mono ?_
     clear HF h210
     rintro e w211 ⟨Aub, cub, okub, rfl, HF⟩
     refine hK.out _ _ ((rd3 HF.out.b0).2.2) (fun hHeld => ?_)
     clear hK K
     (try simp only [Act.put, List.setIfInBounds_toArray, List.set_cons_zero, List.set_cons_succ])
     refine one_ (i := 5) (N := some 35) #[true, true, true, true, true, true, false, false, false] rfl rfl (by kernel_rfl) (by decide) (fun K hK => ?_)
     clear hHeld
     go_simp
     refine hK.out _ _ ((rd3 (HF.out.alloc _).b0).2.2) (fun hHeld => ?_)
     clear hK K
     (try simp only [Act.put, List.setIfInBounds_toArray, List.set_cons_zero, List.set_cons_succ])
     refine last_ (i := 6) (N := some 36) #[true, true, true, true, true, true, true, false, false] rfl rfl (by kernel_rfl) (by decide) (fun K hK => ?_)
     refine st_app b_ rfl HF rfl rfl rfl rfl (by simp) ?_
     clear HF
     intro Av212 cv212 w213 okv212 HF
     refine hK.out _ _ ?_
     clear hK K
     (try simp only [Act.put, List.setIfInBounds_toArray, List.set_cons_zero, List.set_cons_succ])
     refine pq 7 (fl 9 8) (h := ?_)
     refine last_ (i := 8) (N := none) #[true, true, true, true, true, true, true, true, true] rfl rfl (by kernel_rfl) (by decide) (fun K hK => ?_)
     refine st_cell (p := 37) HF rfl rfl rfl rfl rfl rfl (.inl ⟨_, _, _, rfl⟩) rfl rfl ?_
     clear HF
     intro w214 HF
     refine hK.out _ _ ?_
     clear hK K
     (try simp only [Act.put, List.setIfInBounds_toArray, List.set_cons_zero, List.set_cons_succ])
     refine done_ (by kernel_rfl) ?_
     skip
     try simp only [Act.put, List.setIfInBounds_toArray, List.set_cons_zero, List.set_cons_succ]
     obtain ⟨q215a, q215b, q215c⟩ := rd3 HF.out.b0
     replace HF := Lib.hid HF.out.swap
     go_wp2_with (first
      | ((with_reducible refine gate_store (t := 25) (p := 6) rfl ?_); refine ev_put (p := 6) HF rfl rfl rfl rfl rfl rfl rfl ?_; clear HF; clear q215a q215b q215c; intro w216 HF))
     obtain rfl : PR.ok ⟨kd, s_, [b_]⟩ t4_ = r := HR.out
     refine bodyPost_ret (results_cell_row rfl _ _ _ 25 _ (0, 0) _ rfl HF.out.b0 Tryz.underlying25 rfl (by kernel_rfl)) rfl ?_
     exact ⟨⟨_, _, (by first | rfl | simp), HF.out.made⟩, HF.out.st, HF.out.keep⟩
  ·obtain ⟨t217, tl218, rfl⟩ := isP_cons h206
   have h_ := (if_pos h206).symm.trans HR.out
   clear HR
   try simp only [List.tail_cons] at h_
   try dsimp only at h_
   have HR := Lib.hid h_
   clear h_
   refine (c_is HF [58] h206).mono ?_
   clear HF h206
   rintro e w219 ⟨rfl, HF⟩
   have q220 := HF.out.at1
   go_wp2_with (first
    | ((with_reducible refine gate_store (t := 3) (p := 20) rfl ?_); refine ev_next (p := 20) HF rfl rfl rfl rfl rfl ?_; clear HF; clear q220; intro w221 HF))
   replace HF := Lib.hid HF.out.drew
   refine start_ (n := 8) (S := (fun w' => w'.cell? ⟨b2, 2, none⟩ = some (.slice none 0 0))) (ds := [5, 7]) #[false, false, false, false, false, false, false, false] (by kernel_rfl) rfl rfl ?_ (fun hHeld => ?_)
   ·exact (rd3 HF.out.b0).2.2
   refine pq 0 (fl 8 1) (h := ?_)
   refine pq 2 #[true, false, true, false, false, false, false, false] (h := ?_)
   refine tq hHeld 1 (fl 8 3) (h := ?_)
   refine one_ (i := 3) (N := some 24) #[true, true, true, true, false, false, false, false] rfl rfl (by kernel_rfl) (by decide) (fun K hK => ?_)
   clear hHeld
   go_simp
   go_wp2_with fail
   cases h222 : typP kt tl218 with
   | out => exact absurd ((PR.bind_out h222 _).symm.trans HR.out).symm HNE.out
   | bad t_ =>
    obtain rfl : PR.bad t_ = r := (PR.bind_bad h222 _).symm.trans HR.out
    refine (c_treeBad HF ihy h222).mono ?_
    rintro e w_ ⟨rfl, HE⟩
    exact ⟨rfl, rfl, HE.out⟩
   | ok ty_ t2_ =>
    have h_ := (PR.bind_ok h222 _).symm.trans HR.out
    clear HR
    try dsimp only at h_
    have HR := Lib.hid h_
    clear h_
    refine (c_tree HF ihy h222).mono ?_
    clear HF h222
    rintro e w223 ⟨Aut, cut, okut, rfl, HF⟩
    refine hK.out _ _ ((rd3 HF.out.b0).2.2) (fun hHeld => ?_)
    clear hK K
    (try simp only [Act.put, List.setIfInBounds_toArray, List.set_cons_zero, List.set_cons_succ])
    refine one_ (i := 4) (N := some 25) #[true, true, true, true, true, false, false, false] rfl rfl (by kernel_rfl) (by decide) (fun K hK => ?_)
    clear hHeld
    go_simp
    refine hK.out _ _ ((rd3 (HF.out.alloc _).b0).2.2) (fun hHeld => ?_)
    clear hK K
    (try simp only [Act.put, List.setIfInBounds_toArray, List.set_cons_zero, List.set_cons_succ])
    refine last_ (i := 5) (N := some 26) #[true, true, true, true, true, true, false, false] rfl rfl (by kernel_rfl) (by decide) (fun K hK => ?_)
    refine st_app ty_ rfl HF rfl rfl rfl rfl (by simp) ?_
    clear HF
    intro Av224 cv224 w225 okv224 HF
    refine hK.out _ _ ?_
    clear hK K
    (try simp only [Act.put, List.setIfInBounds_toArray, List.set_cons_zero, List.set_cons_succ])
    refine pq 6 (fl 8 7) (h := ?_)
    refine last_ (i := 7) (N := none) #[true, true, true, true, true, true, true, true] rfl rfl (by kernel_rfl) (by decide) (fun K hK => ?_)
    refine st_cell (p := 27) HF rfl rfl rfl rfl rfl rfl (.inl ⟨_, _, _, rfl⟩) rfl rfl ?_
    clear HF
    intro w226 HF
    refine hK.out _ _ ?_
    clear hK K
    (try simp only [Act.put, List.setIfInBounds_toArray, List.set_cons_zero, List.set_cons_succ])
    refine done_ (by kernel_rfl) ?_
    skip
    try simp only [Act.put, List.setIfInBounds_toArray, List.set_cons_zero, List.set_cons_succ]
    go_wp2_with fail
    cases h227 : wantP [46] t2_ with
    | out => exact absurd ((PR.bind_out h227 _).symm.trans HR.out).symm HNE.out
    | bad t_ =>
     obtain rfl : PR.bad t_ = r := (PR.bind_bad h227 _).symm.trans HR.out
     refine (c_want_bad HF [46] h227).mono ?_
     rintro e w_ ⟨rfl, HE⟩
     exact ⟨rfl, rfl, HE.out⟩
    | ok u_ t3_ =>
     have h_ := (PR.bind_ok h227 _).symm.trans HR.out
     clear HR
     try dsimp only at h_
     have HR := Lib.hid h_
     clear h_
     refine (c_want HF [46] h227).mono ?_
     clear HF h227
     rintro e w228 ⟨rfl, HF⟩
     go_wp2_with fail
     replace HF := Lib.hid HF.out.drew
     refine start_ (n := 9) (S := (fun w' => w'.cell? ⟨b2, 2, none⟩ = some (.slice Av224 ([] ++ [ty_]).length cv224))) (ds := [6, 8]) #[false, false, false, false, false, false, false, false, false] (by kernel_rfl) rfl rfl ?_ (fun hHeld => ?_)
     ·exact (rd3 HF.out.b0).2.2
     refine pq 0 (fl 9 1) (h := ?_)
     refine pq 2 #[true, false, true, false, false, false, false, false, false] (h := ?_)
     refine pq 3 #[true, false, true, true, false, false, false, false, false] (h := ?_)
     refine tq hHeld 1 (fl 9 4) (h := ?_)
     refine one_ (i := 4) (N := some 34) #[true, true, true, true, true, false, false, false, false] rfl rfl (by kernel_rfl) (by decide) (fun K hK => ?_)
     clear hHeld
     go_simp
     go_wp2_with fail
     cases h229 : f t3_ with
     | out => exact absurd ((PR.bind_out h229 _).symm.trans HR.out).symm HNE.out
     | bad t_ =>
      obtain rfl : PR.bad t_ = r := (PR.bind_bad h229 _).symm.trans HR.out
      refine (c_treeBad HF ih h229).mono ?_
      rintro e w_ ⟨rfl, HE⟩
      exact ⟨rfl, rfl, HE.out⟩
     | ok b_ t4_ =>
      have h_ := (PR.bind_ok h229 _).symm.trans HR.out
      clear HR
      try dsimp only at h_
      have HR := Lib.hid h_
      clear h_
      refine (c_tree HF ih h229).mono ?_
      clear HF h229
      rintro e w230 ⟨Aub, cub, okub, rfl, HF⟩
      refine hK.out _ _ ((rd3 HF.out.b0).2.2) (fun hHeld => ?_)
      clear hK K
      (try simp only [Act.put, List.setIfInBounds_toArray, List.set_cons_zero, List.set_cons_succ])
      refine one_ (i := 5) (N := some 35) #[true, true, true, true, true, true, false, false, false] rfl rfl (by kernel_rfl) (by decide) (fun K hK => ?_)
      clear hHeld
      go_simp
      refine hK.out _ _ ((rd3 (HF.out.alloc _).b0).2.2) (fun hHeld => ?_)
      clear hK K
      (try simp only [Act.put, List.setIfInBounds_toArray, List.set_cons_zero, List.set_cons_succ])
      refine last_ (i := 6) (N := some 36) #[true, true, true, true, true, true, true, false, false] rfl rfl (by kernel_rfl) (by decide) (fun K hK => ?_)
      refine st_app b_ rfl HF rfl rfl rfl rfl (by simp) ?_
      clear HF
      intro Av231 cv231 w232 okv231 HF
      refine hK.out _ _ ?_
      clear hK K
      (try simp only [Act.put, List.setIfInBounds_toArray, List.set_cons_zero, List.set_cons_succ])
      refine pq 7 (fl 9 8) (h := ?_)
      refine last_ (i := 8) (N := none) #[true, true, true, true, true, true, true, true, true] rfl rfl (by kernel_rfl) (by decide) (fun K hK => ?_)
      refine st_cell (p := 37) HF rfl rfl rfl rfl rfl rfl (.inl ⟨_, _, _, rfl⟩) rfl rfl ?_
      clear HF
      intro w233 HF
      refine hK.out _ _ ?_
      clear hK K
      (try simp only [Act.put, List.setIfInBounds_toArray, List.set_cons_zero, List.set_cons_succ])
      refine done_ (by kernel_rfl) ?_
      skip
      try simp only [Act.put, List.setIfInBounds_toArray, List.set_cons_zero, List.set_cons_succ]
      obtain ⟨q234a, q234b, q234c⟩ := rd3 HF.out.b0
      replace HF := Lib.hid HF.out.swap
      go_wp2_with (first
       | ((with_reducible refine gate_store (t := 25) (p := 6) rfl ?_); refine ev_put (p := 6) HF rfl rfl rfl rfl rfl rfl rfl ?_; clear HF; clear q234a q234b q234c; intro w235 HF))
      obtain rfl : PR.ok ⟨kd, s_, [ty_, b_]⟩ t4_ = r := HR.out
      refine bodyPost_ret (results_cell_row rfl _ _ _ 25 _ (0, 0) _ rfl HF.out.b0 Tryz.underlying25 rfl (by kernel_rfl)) rfl ?_
      exact ⟨⟨_, _, (by first | rfl | simp), HF.out.made⟩, HF.out.st, HF.out.keep⟩

theorem nextP_cons {lv : Int} {ts : List Tok} {o : List UInt8 × Int × Int} (h : nextP lv ts = some o) : ∃ t tl, ts = t :: tl := by
 have := List.find?_some h
 simp only [Bool.and_eq_true] at this
 exact isP_cons this.2
section
variable {w0 w W : World} {g : Nat} {l ts : List Tok} {bs : List Bx} {os : List Ow} {z : Int}
theorem c_nextS {o : List UInt8 × Int × Int} (HF : Hid (Fr w0 w W g (SP w0 g l ts) bs os)) (h : nextP z ts = some o) :
  Calls Tryz.prog 122 #[.pointer (some ⟨g, 0, none⟩), .int .i64 z] W fun e W' => e = .returned (.tuple #[.agg #[.string ⟨o.1.toArray⟩, .int .i64 o.2.1, .int .i64 o.2.2], .bool true]) ∧ Hid (Fr w0 w W' g (SP w0 g l ts) bs os) :=
 (next_par w0 W g l ts z HF.out.st).mono fun e W' h2 => by
  rw [h] at h2
  exact ⟨h2.1, Lib.hid (HF.out.call h2.2.1 h2.2.2)⟩
theorem c_nextN (HF : Hid (Fr w0 w W g (SP w0 g l ts) bs os)) (h : nextP z ts = none) :
  Calls Tryz.prog 122 #[.pointer (some ⟨g, 0, none⟩), .int .i64 z] W fun e W' => e = .returned (.tuple #[.agg #[.string (⟨#[]⟩ : ByteArray), .int .i64 0, .int .i64 0], .bool false]) ∧ Hid (Fr w0 w W' g (SP w0 g l ts) bs os) :=
 (next_par w0 W g l ts z HF.out.st).mono fun e W' h2 => by
  rw [h] at h2
  exact ⟨h2.1, Lib.hid (HF.out.call h2.2.1 h2.2.2)⟩
end
/-- The contract of 'level' at so many rounds. -/
def PLev (k : Nat) : Prop := ∀ (lv : Nat) (z : Int), z = lv → lv ≤ 5 → PAll 76 (fun g => #[.pointer (some ⟨g, 0, none⟩), .int .i64 z]) (levelP k lv)

set_option maxRecDepth 100000 in
set_option maxHeartbeats 8000000 in
theorem form_par (k : Nat) (ih : PLev k) : PAll 44 (fun g => #[.pointer (some ⟨g, 0, none⟩)]) (levelP k 0) := by
 intro w0 w g l ts h hne
 obtain ⟨r, hr⟩ : ∃ r, (levelP k 0) ts = r := ⟨_, rfl⟩
 have HNE := Lib.hid hne
 have HF := Lib.hid (Fr.begin h)
 rw [hr] at HNE ⊢
 have HR := Lib.hid hr
 clear h hne hr
 go_enter Tryz.func44, Tryz.ntmps44
 go_wp2_with (first
  | ((with_reducible refine gate_dst (N := 2) rfl ?_); refine ev_box HF rfl rfl (run_node rfl) ?_; clear HF; intro b1 w236 HF))
 cases h237 : levelP k 0 ts with
 | out => exact absurd (h237.symm.trans HR.out).symm HNE.out
 | bad t_ =>
  obtain rfl : PR.bad t_ = r := h237.symm.trans HR.out
  refine (c_treeBad HF (ih 0 0 rfl (by decide)) h237).mono ?_
  rintro e w_ ⟨rfl, HE⟩
  exact ⟨rfl, rfl, HE.out⟩
 | ok x_ tz_ =>
  have h_ := h237.symm.trans HR.out
  clear HR
  try dsimp only at h_
  have HR := Lib.hid h_
  clear h_
  refine (c_tree HF (ih 0 0 rfl (by decide)) h237).mono ?_
  clear HF h237
  rintro e w238 ⟨Au, cu, oku, rfl, HF⟩
  go_wp2_with (first
   | ((with_reducible refine gate_store (t := 25) (p := 2) rfl ?_); refine ev_put (p := 2) HF rfl rfl rfl rfl rfl rfl rfl ?_; clear HF; intro w239 HF))
  obtain rfl : PR.ok x_ tz_ = r := HR.out
  refine bodyPost_ret (results_cell_row rfl _ _ _ 25 _ (0, 0) _ rfl HF.out.b0 Tryz.underlying25 rfl (by kernel_rfl)) rfl ?_
  exact ⟨⟨_, _, (by first | rfl | simp), HF.out.made⟩, HF.out.st, HF.out.keep⟩

set_option maxRecDepth 100000 in
set_option maxHeartbeats 8000000 in
theorem level_par (k : Nat) (ih : ∀ j, j ≤ k → PLev j) (ihp : PAll 121 (fun g => #[.pointer (some ⟨g, 0, none⟩)]) (partP k)) (lv : Nat) (z : Int) (hz : z = lv) (hlv : lv ≤ 5) : PAll 76 (fun g => #[.pointer (some ⟨g, 0, none⟩), .int .i64 z]) (levelP (k + 1) lv) := by
 intro w0 w g l ts h hne
 obtain ⟨r, hr⟩ : ∃ r, (levelP (k + 1) lv) ts = r := ⟨_, rfl⟩
 have HNE := Lib.hid hne
 have HF := Lib.hid (Fr.begin h)
 rw [hr] at HNE ⊢
 simp only [levelP] at hr
 have HR := Lib.hid hr
 clear h hne hr
 go_enter Tryz.func76, Tryz.ntmps76
 have HZ := Lib.hid hz
 have HLV := Lib.hid hlv
 clear hz hlv
 by_cases h5 : lv = 5
 ·subst h5
  obtain rfl : z = 5 := by have := HZ.out; omega
  clear HZ HLV
  have h_ := (if_pos rfl).symm.trans HR.out
  clear HR
  try dsimp only at h_
  have HR := Lib.hid h_
  clear h_
  go_wp2_with (first
   | ((with_reducible refine gate_dst (N := 4) rfl ?_); refine ev_box HF rfl rfl (run_node rfl) ?_; clear HF; intro b1 w240 HF))
  cases h241 : partP k ts with
  | out => exact absurd (h241.symm.trans HR.out).symm HNE.out
  | bad t_ =>
   obtain rfl : PR.bad t_ = r := h241.symm.trans HR.out
   refine (c_treeBad HF ihp h241).mono ?_
   rintro e w_ ⟨rfl, HE⟩
   exact ⟨rfl, rfl, HE.out⟩
  | ok x_ tz_ =>
   have h_ := h241.symm.trans HR.out
   clear HR
   try dsimp only at h_
   have HR := Lib.hid h_
   clear h_
   refine (c_tree HF ihp h241).mono ?_
   clear HF h241
   rintro e w242 ⟨Au, cu, oku, rfl, HF⟩
   go_wp2_with (first
    | ((with_reducible refine gate_store (t := 25) (p := 4) rfl ?_); refine ev_put (p := 4) HF rfl rfl rfl rfl rfl rfl rfl ?_; clear HF; intro w243 HF))
   obtain rfl : PR.ok x_ tz_ = r := HR.out
   refine bodyPost_ret (results_cell_row rfl _ _ _ 25 _ (0, 0) _ rfl HF.out.b0 Tryz.underlying25 rfl (by kernel_rfl)) rfl ?_
   exact ⟨⟨_, _, (by first | rfl | simp), HF.out.made⟩, HF.out.st, HF.out.keep⟩
 ·have h_ := (if_neg h5).symm.trans HR.out
  clear HR
  try dsimp only at h_
  have HR := Lib.hid h_
  clear h_
  have hz5 : (z == 5) = false := beq_eq_false_iff_ne.2 (by have := HZ.out; omega)
  have hw1 : wrap64 (z + 1) = z + 1 := by have := HZ.out; have := HLV.out; unfold wrap64; omega
  have H5 := Lib.hid h5
  clear h5
  go_wp2_with (first
   | ((with_reducible refine gate_dst (N := 4) rfl ?_); refine ev_box HF rfl rfl (run_node rfl) ?_; clear HF; intro b1 w244 HF))
  cases h245 : levelP k (lv + 1) ts with
  | out => exact absurd ((PR.bind_out h245 _).symm.trans HR.out).symm HNE.out
  | bad t_ =>
   obtain rfl : PR.bad t_ = r := (PR.bind_bad h245 _).symm.trans HR.out
   refine (c_treeBad HF (ih k (Nat.le_refl _) (lv + 1) (z + 1) (by have := HZ.out; omega) (by have := HLV.out; have := H5.out; omega)) h245).mono ?_
   rintro e w_ ⟨rfl, HE⟩
   exact ⟨rfl, rfl, HE.out⟩
  | ok n_ t1_ =>
   have h_ := (PR.bind_ok h245 _).symm.trans HR.out
   clear HR
   try dsimp only at h_
   have HR := Lib.hid h_
   clear h_
   refine (c_tree HF (ih k (Nat.le_refl _) (lv + 1) (z + 1) (by have := HZ.out; omega) (by have := HLV.out; have := H5.out; omega)) h245).mono ?_
   clear HF h245
   rintro e w246 ⟨Au, cu, oku, rfl, HF⟩
   go_wp2_with (first
    | ((with_reducible refine gate_dst (N := 5) rfl ?_); refine ev_box HF rfl rfl (run_node rfl) ?_; clear HF; intro b2 w247 HF)
    | ((with_reducible refine gate_store (t := 25) (p := 5) rfl ?_); refine ev_put (p := 5) HF rfl rfl rfl rfl rfl rfl rfl ?_; clear HF; intro w248 HF))
   try simp only [Act.put, List.setIfInBounds_toArray, List.set_cons_zero, List.set_cons_succ]
   go_loopg [7] k (fun kq _ w' => ∃ (n1 : Tree) (ts' : List Tok) (A : Option Addr) (c : Nat) (ok : Nat → Prop) (wr : World), wr = w' ∧ True ∧ Hid (loopP kq lv n1 ts' = r) ∧ Hid (kq ≤ k) ∧ Hid (Fr w0 w w' g (SP w0 g l ts') [vb b2 25 (tN n1 A c), vb b1 25 zN] [⟨ok, .slice A n1.f2.length c, n1.f2⟩]))
   case atStart => exact ⟨n_, t1_, Au, cu, _, _, rfl, trivial, HR, Lib.hid (Nat.le_refl _), HF⟩
   case round =>
    clear HF HR
    obtain ⟨n1, ts', A, c, ok, wr, rfl, _, HA, HK, HF⟩ := hrel
    cases gk with
    | zero => exact absurd HA.out.symm (by simpa only [loopP] using HNE.out)
    | succ k1 =>
     have HR := Lib.hid HA.out
     clear HA
     go_wp2_with fail
     cases hn : nextP z ts' with
     | none =>
      have h_ := HR.out
      simp only [loopP] at h_
      rw [show (lv : Int) = z from HZ.out.symm, hn] at h_
      clear HR
      dsimp only at h_
      have HR := Lib.hid h_
      clear h_
      refine (c_nextN HF hn).mono ?_
      clear HF hn
      rintro e w249 ⟨rfl, HF⟩
      go_wp2_with (first
       | ((with_reducible refine gate_dst (N := 6) rfl ?_); refine ev_box (cs := #[.string (⟨#[]⟩ : ByteArray), .int .i64 0, .int .i64 0]) HF rfl rfl (run_op rfl) ?_; clear HF; intro b3 w250 HF)
       | ((with_reducible refine gate_store (t := 129) (p := 6) rfl ?_); refine ev_put (p := 6) HF rfl rfl rfl rfl rfl rfl rfl ?_; clear HF; intro w251 HF; obtain ⟨q252a, q252b, q252c⟩ := rd3 HF.out.b1; have HF2_ := Lib.hid HF.out.third; clear HF; have HF := HF2_; clear HF2_)
       | ((with_reducible refine gate_store (t := 25) (p := 4) rfl ?_); refine ev_put (p := 4) HF rfl rfl rfl rfl rfl rfl rfl ?_; clear HF; clear q252a q252b q252c; intro w253 HF))
      obtain rfl : PR.ok n1 ts' = r := HR.out
      refine bodyPost_ret (results_cell_row rfl _ _ _ 25 _ (0, 0) _ rfl HF.out.b0 Tryz.underlying25 rfl (by kernel_rfl)) rfl ?_
      exact ⟨⟨_, _, (by first | rfl | simp), HF.out.made⟩, HF.out.st, HF.out.keep⟩
     | some o =>
      obtain ⟨t, tl, rfl⟩ := nextP_cons hn
      have h_ := HR.out
      simp only [loopP] at h_
      rw [show (lv : Int) = z from HZ.out.symm, hn] at h_
      clear HR
      dsimp only at h_
      simp only [List.tail_cons] at h_
      have HR := Lib.hid h_
      clear h_
      refine (c_nextS HF hn).mono ?_
      clear HF hn
      rintro e w254 ⟨rfl, HF⟩
      by_cases h0 : lv = 0
      ·have h_ := (if_pos h0).symm.trans HR.out
       clear HR
       try dsimp only at h_
       have HR := Lib.hid h_
       clear h_
       obtain rfl : z = 0 := by have := HZ.out; omega
       have H0 := Lib.hid h0
       clear h0
       go_wp2_with (first
        | ((with_reducible refine gate_dst (N := 6) rfl ?_); refine ev_box (cs := #[.string (⟨#[]⟩ : ByteArray), .int .i64 0, .int .i64 0]) HF rfl rfl (run_op rfl) ?_; clear HF; intro b3 w255 HF)
        | ((with_reducible refine gate_store (t := 129) (p := 6) rfl ?_); refine ev_put (p := 6) HF rfl rfl rfl rfl rfl rfl rfl ?_; clear HF; intro w256 HF; have q257 := HF.out.at1)
        | ((with_reducible refine gate_store (t := 3) (p := 31) rfl ?_); refine ev_next (p := 31) HF rfl rfl rfl rfl rfl ?_; clear HF; clear q257; intro w258 HF))
       replace HF := Lib.hid HF.out.drew
       refine start_ (n := 10) (S := (fun w' => w'.cell? ⟨b3, 1, none⟩ = some (.int .i64 o.2.1) ∧ w'.cell? ⟨b2, 0, none⟩ = some (.int .i64 n1.f0) ∧ w'.cell? ⟨b2, 1, none⟩ = some (.string n1.f1) ∧ w'.cell? ⟨b2, 2, none⟩ = some (.slice A n1.f2.length c))) (ds := [9]) #[false, false, false, false, false, false, false, false, false, false] (by kernel_rfl) rfl rfl ?_ (fun hHeld => ?_)
       ·exact ⟨(rd3 HF.out.b0).2.1, rd3 HF.out.b1⟩
       refine pq 0 (fl 10 1) (h := ?_)
       refine pq 3 #[true, false, false, true, false, false, false, false, false, false] (h := ?_)
       refine pq 4 #[true, false, false, true, true, false, false, false, false, false] (h := ?_)
       refine pq 5 #[true, false, false, true, true, true, false, false, false, false] (h := ?_)
       refine tq hHeld 1 #[true, true, false, true, true, true, false, false, false, false] (h := ?_)
       refine tq hHeld 2 (fl 10 6) (h := ?_)
       refine one_ (i := 6) (N := some 40) #[true, true, true, true, true, true, true, false, false, false] rfl rfl (by kernel_rfl) (by decide) (fun K hK => ?_)
       clear hHeld
       go_simp
       go_wp2_with fail
       cases h259 : levelP k1 (lv + 1) tl with
       | out => exact absurd ((PR.bind_out h259 _).symm.trans HR.out).symm HNE.out
       | bad t_ =>
        obtain rfl : PR.bad t_ = r := (PR.bind_bad h259 _).symm.trans HR.out
        refine (c_treeBad HF (ih k1 (by have := HK.out; omega) (lv + 1) 1 (by have := HZ.out; omega) (by have := HLV.out; have := H5.out; omega)) h259).mono ?_
        rintro e w_ ⟨rfl, HE⟩
        exact ⟨rfl, rfl, HE.out⟩
       | ok m_ t5_ =>
        have h_ := (PR.bind_ok h259 _).symm.trans HR.out
        clear HR
        try dsimp only at h_
        have HR := Lib.hid h_
        clear h_
        refine (c_tree HF (ih k1 (by have := HK.out; omega) (lv + 1) 1 (by have := HZ.out; omega) (by have := HLV.out; have := H5.out; omega)) h259).mono ?_
        clear HF h259
        rintro e w260 ⟨Aum, cum, okum, rfl, HF⟩
        refine hK.out _ _ (⟨(rd3 HF.out.b0).2.1, rd3 HF.out.b1⟩) (fun hHeld => ?_)
        clear hK K
        (try simp only [Act.put, List.setIfInBounds_toArray, List.set_cons_zero, List.set_cons_succ])
        refine one_ (i := 7) (N := some 41) #[true, true, true, true, true, true, true, true, false, false] rfl rfl (by kernel_rfl) (by decide) (fun K hK => ?_)
        clear hHeld
        go_simp
        refine hK.out _ _ (⟨(rd3 (HF.out.alloc _).b0).2.1, rd3 (HF.out.alloc _).b1⟩) (fun hHeld => ?_)
        clear hK K
        (try simp only [Act.put, List.setIfInBounds_toArray, List.set_cons_zero, List.set_cons_succ])
        refine pq 8 (fl 10 9) (h := ?_)
        refine last_ (i := 9) (N := none) #[true, true, true, true, true, true, true, true, true, true] rfl rfl (by kernel_rfl) (by decide) (fun K hK => ?_)
        replace HF := Lib.hid (HF.out.lit2 n1 m_ rfl rfl).swap
        refine st_put (p := 5) HF rfl rfl rfl rfl rfl rfl rfl ?_
        clear HF
        intro w261 HF
        refine hK.out _ _ ?_
        clear hK K
        (try simp only [Act.put, List.setIfInBounds_toArray, List.set_cons_zero, List.set_cons_succ])
        refine done_ (by kernel_rfl) ?_
        skip
        try simp only [Act.put, List.setIfInBounds_toArray, List.set_cons_zero, List.set_cons_succ]
        go_wp2_with fail
        go_roundg k1
        case measure => have := HK.out; omega
        case rel => exact ⟨⟨o.2.1, ⟨#[]⟩, [n1, m_]⟩, t5_, _, 2, _, _, rfl, trivial, HR, Lib.hid (by have := HK.out; omega), Lib.hid HF.out.forget⟩
      ·have h_ := (if_neg h0).symm.trans HR.out
       clear HR
       try dsimp only at h_
       have HR := Lib.hid h_
       clear h_
       have hz0 : (z == 0) = false := beq_eq_false_iff_ne.2 (by have := HZ.out; omega)
       have H0 := Lib.hid h0
       clear h0
       go_wp2_with (first
        | ((with_reducible refine gate_dst (N := 6) rfl ?_); refine ev_box (cs := #[.string (⟨#[]⟩ : ByteArray), .int .i64 0, .int .i64 0]) HF rfl rfl (run_op rfl) ?_; clear HF; intro b3 w262 HF)
        | ((with_reducible refine gate_store (t := 129) (p := 6) rfl ?_); refine ev_put (p := 6) HF rfl rfl rfl rfl rfl rfl rfl ?_; clear HF; intro w263 HF; have q264 := HF.out.at1)
        | ((with_reducible refine gate_store (t := 3) (p := 31) rfl ?_); refine ev_next (p := 31) HF rfl rfl rfl rfl rfl ?_; clear HF; clear q264; intro w265 HF))
       replace HF := Lib.hid HF.out.drew
       refine start_ (n := 9) (S := (fun w' => w'.cell? ⟨b3, 1, none⟩ = some (.int .i64 o.2.1) ∧ w'.cell? ⟨b2, 0, none⟩ = some (.int .i64 n1.f0) ∧ w'.cell? ⟨b2, 1, none⟩ = some (.string n1.f1) ∧ w'.cell? ⟨b2, 2, none⟩ = some (.slice A n1.f2.length c))) (ds := [8]) #[false, false, false, false, false, false, false, false, false] (by kernel_rfl) rfl rfl ?_ (fun hHeld => ?_)
       ·exact ⟨(rd3 HF.out.b0).2.1, rd3 HF.out.b1⟩
       refine pq 0 (fl 9 1) (h := ?_)
       refine pq 3 #[true, false, false, true, false, false, false, false, false] (h := ?_)
       refine pq 4 #[true, false, false, true, true, false, false, false, false] (h := ?_)
       refine tq hHeld 1 #[true, true, false, true, true, false, false, false, false] (h := ?_)
       refine tq hHeld 2 (fl 9 5) (h := ?_)
       refine one_ (i := 5) (N := some 48) #[true, true, true, true, true, true, false, false, false] rfl rfl (by kernel_rfl) (by decide) (fun K hK => ?_)
       clear hHeld
       go_simp
       go_wp2_with fail
       cases h266 : levelP k1 lv tl with
       | out => exact absurd ((PR.bind_out h266 _).symm.trans HR.out).symm HNE.out
       | bad t_ =>
        obtain rfl : PR.bad t_ = r := (PR.bind_bad h266 _).symm.trans HR.out
        refine (c_treeBad HF (ih k1 (by have := HK.out; omega) lv z (by have := HZ.out; omega) (by have := HLV.out; have := H5.out; omega)) h266).mono ?_
        rintro e w_ ⟨rfl, HE⟩
        exact ⟨rfl, rfl, HE.out⟩
       | ok m_ t5_ =>
        have h_ := (PR.bind_ok h266 _).symm.trans HR.out
        clear HR
        try dsimp only at h_
        have HR := Lib.hid h_
        clear h_
        refine (c_tree HF (ih k1 (by have := HK.out; omega) lv z (by have := HZ.out; omega) (by have := HLV.out; have := H5.out; omega)) h266).mono ?_
        clear HF h266
        rintro e w267 ⟨Aum, cum, okum, rfl, HF⟩
        refine hK.out _ _ (⟨(rd3 HF.out.b0).2.1, rd3 HF.out.b1⟩) (fun hHeld => ?_)
        clear hK K
        (try simp only [Act.put, List.setIfInBounds_toArray, List.set_cons_zero, List.set_cons_succ])
        refine one_ (i := 6) (N := some 49) #[true, true, true, true, true, true, true, false, false] rfl rfl (by kernel_rfl) (by decide) (fun K hK => ?_)
        clear hHeld
        go_simp
        refine hK.out _ _ (⟨(rd3 (HF.out.alloc _).b0).2.1, rd3 (HF.out.alloc _).b1⟩) (fun hHeld => ?_)
        clear hK K
        (try simp only [Act.put, List.setIfInBounds_toArray, List.set_cons_zero, List.set_cons_succ])
        refine pq 7 (fl 9 8) (h := ?_)
        refine last_ (i := 8) (N := none) #[true, true, true, true, true, true, true, true, true] rfl rfl (by kernel_rfl) (by decide) (fun K hK => ?_)
        replace HF := Lib.hid (HF.out.lit2 n1 m_ rfl rfl).third
        refine st_put (p := 4) HF rfl rfl rfl rfl rfl rfl rfl ?_
        clear HF
        intro w268 HF
        refine hK.out _ _ ?_
        clear hK K
        (try simp only [Act.put, List.setIfInBounds_toArray, List.set_cons_zero, List.set_cons_succ])
        refine done_ (by kernel_rfl) ?_
        skip
        try simp only [Act.put, List.setIfInBounds_toArray, List.set_cons_zero, List.set_cons_succ]
        go_wp2_with fail
        obtain rfl : PR.ok ⟨o.2.1, ⟨#[]⟩, [n1, m_]⟩ t5_ = r := HR.out
        refine bodyPost_ret (results_cell_row rfl _ _ _ 25 _ (0, 0) _ rfl HF.out.b0 Tryz.underlying25 rfl (by kernel_rfl)) rfl ?_
        exact ⟨⟨_, _, (by first | rfl | simp), HF.out.made⟩, HF.out.st, HF.out.keep⟩

set_option maxRecDepth 100000 in
set_option maxHeartbeats 8000000 in
theorem part_par (k : Nat) (ih : PAll 121 (fun g => #[.pointer (some ⟨g, 0, none⟩)]) (partP k)) (ihl : PLev k) : PAll 121 (fun g => #[.pointer (some ⟨g, 0, none⟩)]) (partP (k + 1)) := by
 intro w0 w g l ts h hne
 obtain ⟨r, hr⟩ : ∃ r, (partP (k + 1)) ts = r := ⟨_, rfl⟩
 have HNE := Lib.hid hne
 have HF := Lib.hid (Fr.begin h)
 rw [hr] at HNE ⊢
 simp only [partP] at hr
 have HR := Lib.hid hr
 clear h hne hr
 go_enter Tryz.func121, Tryz.ntmps121
 go_wp2_with (first
  | ((with_reducible refine gate_dst (N := 2) rfl ?_); refine ev_box HF rfl rfl (run_node rfl) ?_; clear HF; intro b1 w269 HF))
 cases h270 : isP [33] ts
 ·have h_ := (if_neg (Bool.eq_false_iff.1 h270)).symm.trans HR.out
  clear HR
  try dsimp only at h_
  have HR := Lib.hid h_
  clear h_
  refine (c_is HF [33] h270).mono ?_
  clear HF h270
  rintro e w271 ⟨rfl, HF⟩
  go_wp2_with fail
  cases h272 : isP [97, 108, 108] ts
  ·have h_ := (if_neg (Bool.eq_false_iff.1 h272)).symm.trans HR.out
   clear HR
   try dsimp only at h_
   have HR := Lib.hid h_
   clear h_
   refine (c_is HF [97, 108, 108] h272).mono ?_
   clear HF h272
   rintro e w273 ⟨rfl, HF⟩
   go_wp2_with fail
   cases h274 : isP [101, 120] ts
   ·have h_ := (if_neg (Bool.eq_false_iff.1 h274)).symm.trans HR.out
    clear HR
    try dsimp only at h_
    have HR := Lib.hid h_
    clear h_
    refine (c_is HF [101, 120] h274).mono ?_
    clear HF h274
    rintro e w275 ⟨rfl, HF⟩
    go_wp2_with fail
    cases h276 : isP [111, 110, 101] ts
    ·have h_ := (if_neg (Bool.eq_false_iff.1 h276)).symm.trans HR.out
     clear HR
     try dsimp only at h_
     have HR := Lib.hid h_
     clear h_
     refine (c_is HF [111, 110, 101] h276).mono ?_
     clear HF h276
     rintro e w277 ⟨rfl, HF⟩
     go_wp2_with fail
     cases h278 : isP [116, 111, 112] ts
     ·have h_ := (if_neg (Bool.eq_false_iff.1 h278)).symm.trans HR.out
      clear HR
      try dsimp only at h_
      have HR := Lib.hid h_
      clear h_
      refine (c_is HF [116, 111, 112] h278).mono ?_
      clear HF h278
      rintro e w279 ⟨rfl, HF⟩
      go_wp2_with fail
      cases h280 : isP [123] ts
      ·have h_ := (if_neg (Bool.eq_false_iff.1 h280)).symm.trans HR.out
       clear HR
       try dsimp only at h_
       have HR := Lib.hid h_
       clear h_
       refine (c_is HF [123] h280).mono ?_
       clear HF h280
       rintro e w281 ⟨rfl, HF⟩
       go_wp2_with fail
       cases h282 : isP [40] ts
       ·have h_ := (if_neg (Bool.eq_false_iff.1 h282)).symm.trans HR.out
        clear HR
        try dsimp only at h_
        have HR := Lib.hid h_
        clear h_
        refine (c_is HF [40] h282).mono ?_
        clear HF h282
        rintro e w283 ⟨rfl, HF⟩
        go_wp2_with fail
        cases h284 : smallP ts with
        | out => exact absurd ((PR.bind_out h284 _).symm.trans HR.out).symm HNE.out
        | bad t_ =>
         obtain rfl : PR.bad t_ = r := (PR.bind_bad h284 _).symm.trans HR.out
         refine (c_small_bad HF h284).mono ?_
         rintro e w_ ⟨rfl, HE⟩
         exact ⟨rfl, rfl, HE.out⟩
        | ok s_ t1_ =>
         have h_ := (PR.bind_ok h284 _).symm.trans HR.out
         clear HR
         try dsimp only at h_
         have HR := Lib.hid h_
         clear h_
         refine (c_small HF h284).mono ?_
         clear HF h284
         rintro e w285 ⟨rfl, HF⟩
         go_wp2_with (first
          | ((with_reducible refine gate_dst (N := 3) rfl ?_); refine ev_box HF rfl rfl (run_node rfl) ?_; clear HF; intro b2 w286 HF)
          | ((with_reducible refine gate_store (t := 25) (p := 3) rfl ?_); have HF2_ := Lib.hid (HF.out.nil); clear HF; have HF := HF2_; clear HF2_; refine ev_put (p := 3) HF rfl rfl rfl rfl rfl rfl rfl ?_; clear HF; intro w287 HF))
         cases h288 : argsP (termP k) k t1_ [] with
         | out => exact absurd ((PR.bind_out h288 _).symm.trans HR.out).symm HNE.out
         | bad t_ =>
          obtain rfl : PR.bad t_ = r := (PR.bind_bad h288 _).symm.trans HR.out
          refine (c_listBad HF (args_par (termP k) (term_all k) k) h288).mono ?_
          rintro e w_ ⟨rfl, HE⟩
          exact ⟨rfl, rfl, HE.out⟩
         | ok l_ t2_ =>
          have h_ := (PR.bind_ok h288 _).symm.trans HR.out
          clear HR
          try dsimp only at h_
          have HR := Lib.hid h_
          clear h_
          refine (c_list HF (args_par (termP k) (term_all k) k) h288).mono ?_
          clear HF h288
          rintro e w289 ⟨Aul, cul, okul, rfl, HF⟩
          go_wp2_with (first
           | ((with_reducible refine gate_store (t := 23) (p := 81) rfl ?_); refine ev_cell (p := 81) HF rfl rfl rfl rfl rfl rfl (.inl ⟨_, _, _, rfl⟩) rfl rfl ?_; clear HF; intro w290 HF; obtain ⟨q291a, q291b, q291c⟩ := rd3 HF.out.b0; have HF2_ := Lib.hid HF.out.swap; clear HF; have HF := HF2_; clear HF2_)
           | ((with_reducible refine gate_store (t := 25) (p := 2) rfl ?_); refine ev_put (p := 2) HF rfl rfl rfl rfl rfl rfl rfl ?_; clear HF; clear q291a q291b q291c; intro w292 HF))
          obtain rfl : PR.ok ⟨15, s_, l_⟩ t2_ = r := HR.out
          refine bodyPost_ret (results_cell_row rfl _ _ _ 25 _ (0, 0) _ rfl HF.out.b0 Tryz.underlying25 rfl (by kernel_rfl)) rfl ?_
          exact ⟨⟨_, _, (by first | rfl | simp), HF.out.made⟩, HF.out.st, HF.out.keep⟩
       ·obtain ⟨t293, tl294, rfl⟩ := isP_cons h282
        have h_ := (if_pos h282).symm.trans HR.out
        clear HR
        try simp only [List.tail_cons] at h_
        try dsimp only at h_
        have HR := Lib.hid h_
        clear h_
        refine (c_is HF [40] h282).mono ?_
        clear HF h282
        rintro e w295 ⟨rfl, HF⟩
        go_wp2_with fail
        cases h296 : inP [40] [41] (levelP k 0) (t293 :: tl294) with
        | out => exact absurd (h296.symm.trans HR.out).symm HNE.out
        | bad t_ =>
         obtain rfl : PR.bad t_ = r := h296.symm.trans HR.out
         refine (c_treeBad HF (inside_form (levelP k 0) (form_par k ihl) [40] [41]) h296).mono ?_
         rintro e w_ ⟨rfl, HE⟩
         exact ⟨rfl, rfl, HE.out⟩
        | ok x_ tz_ =>
         have h_ := h296.symm.trans HR.out
         clear HR
         try dsimp only at h_
         have HR := Lib.hid h_
         clear h_
         refine (c_tree HF (inside_form (levelP k 0) (form_par k ihl) [40] [41]) h296).mono ?_
         clear HF h296
         rintro e w297 ⟨Au, cu, oku, rfl, HF⟩
         go_wp2_with (first
          | ((with_reducible refine gate_store (t := 25) (p := 2) rfl ?_); refine ev_put (p := 2) HF rfl rfl rfl rfl rfl rfl rfl ?_; clear HF; intro w298 HF))
         obtain rfl : PR.ok x_ tz_ = r := HR.out
         refine bodyPost_ret (results_cell_row rfl _ _ _ 25 _ (0, 0) _ rfl HF.out.b0 Tryz.underlying25 rfl (by kernel_rfl)) rfl ?_
         exact ⟨⟨_, _, (by first | rfl | simp), HF.out.made⟩, HF.out.st, HF.out.keep⟩
      ·obtain ⟨t299, tl300, rfl⟩ := isP_cons h280
       have h_ := (if_pos h280).symm.trans HR.out
       clear HR
       try simp only [List.tail_cons] at h_
       try dsimp only at h_
       have HR := Lib.hid h_
       clear h_
       refine (c_is HF [123] h280).mono ?_
       clear HF h280
       rintro e w301 ⟨rfl, HF⟩
       go_wp2_with fail
       cases h302 : inP [123] [125] (levelP k 0) (t299 :: tl300) with
       | out => exact absurd ((PR.bind_out h302 _).symm.trans HR.out).symm HNE.out
       | bad t_ =>
        obtain rfl : PR.bad t_ = r := (PR.bind_bad h302 _).symm.trans HR.out
        refine (c_treeBad HF (inside_form (levelP k 0) (form_par k ihl) [123] [125]) h302).mono ?_
        rintro e w_ ⟨rfl, HE⟩
        exact ⟨rfl, rfl, HE.out⟩
       | ok x_ tz_ =>
        have h_ := (PR.bind_ok h302 _).symm.trans HR.out
        clear HR
        try dsimp only at h_
        have HR := Lib.hid h_
        clear h_
        refine (c_tree HF (inside_form (levelP k 0) (form_par k ihl) [123] [125]) h302).mono ?_
        clear HF h302
        rintro e w303 ⟨Au, cu, oku, rfl, HF⟩
        go_wp2_with (first
         | ((with_reducible refine gate_store (t := 25) (p := 2) rfl ?_); have HF2_ := Lib.hid (HF.out.lit1 x_ rfl); clear HF; have HF := HF2_; clear HF2_; refine ev_put (p := 2) HF rfl rfl rfl rfl rfl rfl rfl ?_; clear HF; intro w304 HF))
        obtain rfl : PR.ok ⟨30, ⟨#[]⟩, [x_]⟩ tz_ = r := HR.out
        refine bodyPost_ret (results_cell_row rfl _ _ _ 25 _ (0, 0) _ rfl HF.out.b0 Tryz.underlying25 rfl (by kernel_rfl)) rfl ?_
        exact ⟨⟨_, _, (by first | rfl | simp), HF.out.made⟩, HF.out.st, HF.out.keep⟩
     ·obtain ⟨t305, tl306, rfl⟩ := isP_cons h278
      have h_ := (if_pos h278).symm.trans HR.out
      clear HR
      try simp only [List.tail_cons] at h_
      try dsimp only at h_
      have HR := Lib.hid h_
      clear h_
      refine (c_is HF [116, 111, 112] h278).mono ?_
      clear HF h278
      rintro e w307 ⟨rfl, HF⟩
      have q308 := HF.out.at1
      go_wp2_with (first
       | ((with_reducible refine gate_store (t := 3) (p := 62) rfl ?_); refine ev_next (p := 62) HF rfl rfl rfl rfl rfl ?_; clear HF; clear q308; intro w309 HF; have HF2_ := Lib.hid HF.out.nil; clear HF; have HF := HF2_; clear HF2_)
       | ((with_reducible refine gate_store (t := 25) (p := 2) rfl ?_); refine ev_put (p := 2) HF rfl rfl rfl rfl rfl rfl rfl ?_; clear HF; intro w310 HF))
      obtain rfl : PR.ok ⟨21, ⟨#[]⟩, []⟩ tl306 = r := HR.out
      refine bodyPost_ret (results_cell_row rfl _ _ _ 25 _ (0, 0) _ rfl HF.out.b0 Tryz.underlying25 rfl (by kernel_rfl)) rfl ?_
      exact ⟨⟨_, _, (by first | rfl | simp), HF.out.made⟩, HF.out.st, HF.out.keep⟩
    ·obtain ⟨t311, tl312, rfl⟩ := isP_cons h276
     have h_ := (if_pos h276).symm.trans HR.out
     clear HR
     try simp only [List.tail_cons] at h_
     try dsimp only at h_
     have HR := Lib.hid h_
     clear h_
     refine (c_is HF [111, 110, 101] h276).mono ?_
     clear HF h276
     rintro e w313 ⟨rfl, HF⟩
     have q314 := HF.out.at1
     go_wp2_with (first
      | ((with_reducible refine gate_store (t := 3) (p := 51) rfl ?_); refine ev_next (p := 51) HF rfl rfl rfl rfl rfl ?_; clear HF; clear q314; intro w315 HF; have HF2_ := Lib.hid HF.out.nil; clear HF; have HF := HF2_; clear HF2_)
      | ((with_reducible refine gate_store (t := 25) (p := 2) rfl ?_); refine ev_put (p := 2) HF rfl rfl rfl rfl rfl rfl rfl ?_; clear HF; intro w316 HF))
     obtain rfl : PR.ok ⟨20, ⟨#[]⟩, []⟩ tl312 = r := HR.out
     refine bodyPost_ret (results_cell_row rfl _ _ _ 25 _ (0, 0) _ rfl HF.out.b0 Tryz.underlying25 rfl (by kernel_rfl)) rfl ?_
     exact ⟨⟨_, _, (by first | rfl | simp), HF.out.made⟩, HF.out.st, HF.out.keep⟩
   ·obtain ⟨t317, tl318, rfl⟩ := isP_cons h274
    have h_ := (if_pos h274).symm.trans HR.out
    clear HR
    try simp only [List.tail_cons] at h_
    try dsimp only at h_
    have HR := Lib.hid h_
    clear h_
    refine (c_is HF [101, 120] h274).mono ?_
    clear HF h274
    rintro e w319 ⟨rfl, HF⟩
    have q320 := HF.out.at1
    go_wp2_with (first
     | ((with_reducible refine gate_store (t := 3) (p := 39) rfl ?_); refine ev_next (p := 39) HF rfl rfl rfl rfl rfl ?_; clear HF; clear q320; intro w321 HF))
    cases h322 : binderP k 19 (levelP k 0) tl318 with
    | out => exact absurd (h322.symm.trans HR.out).symm HNE.out
    | bad t_ =>
     obtain rfl : PR.bad t_ = r := h322.symm.trans HR.out
     refine (c_treeBad HF (binder_form k 19 (levelP k 0) (form_par k ihl) (typ_all k).2) h322).mono ?_
     rintro e w_ ⟨rfl, HE⟩
     exact ⟨rfl, rfl, HE.out⟩
    | ok x_ tz_ =>
     have h_ := h322.symm.trans HR.out
     clear HR
     try dsimp only at h_
     have HR := Lib.hid h_
     clear h_
     refine (c_tree HF (binder_form k 19 (levelP k 0) (form_par k ihl) (typ_all k).2) h322).mono ?_
     clear HF h322
     rintro e w323 ⟨Au, cu, oku, rfl, HF⟩
     go_wp2_with (first
      | ((with_reducible refine gate_store (t := 25) (p := 2) rfl ?_); refine ev_put (p := 2) HF rfl rfl rfl rfl rfl rfl rfl ?_; clear HF; intro w324 HF))
     obtain rfl : PR.ok x_ tz_ = r := HR.out
     refine bodyPost_ret (results_cell_row rfl _ _ _ 25 _ (0, 0) _ rfl HF.out.b0 Tryz.underlying25 rfl (by kernel_rfl)) rfl ?_
     exact ⟨⟨_, _, (by first | rfl | simp), HF.out.made⟩, HF.out.st, HF.out.keep⟩
  ·obtain ⟨t325, tl326, rfl⟩ := isP_cons h272
   have h_ := (if_pos h272).symm.trans HR.out
   clear HR
   try simp only [List.tail_cons] at h_
   try dsimp only at h_
   have HR := Lib.hid h_
   clear h_
   refine (c_is HF [97, 108, 108] h272).mono ?_
   clear HF h272
   rintro e w327 ⟨rfl, HF⟩
   have q328 := HF.out.at1
   go_wp2_with (first
    | ((with_reducible refine gate_store (t := 3) (p := 27) rfl ?_); refine ev_next (p := 27) HF rfl rfl rfl rfl rfl ?_; clear HF; clear q328; intro w329 HF))
   cases h330 : binderP k 18 (levelP k 0) tl326 with
   | out => exact absurd (h330.symm.trans HR.out).symm HNE.out
   | bad t_ =>
    obtain rfl : PR.bad t_ = r := h330.symm.trans HR.out
    refine (c_treeBad HF (binder_form k 18 (levelP k 0) (form_par k ihl) (typ_all k).2) h330).mono ?_
    rintro e w_ ⟨rfl, HE⟩
    exact ⟨rfl, rfl, HE.out⟩
   | ok x_ tz_ =>
    have h_ := h330.symm.trans HR.out
    clear HR
    try dsimp only at h_
    have HR := Lib.hid h_
    clear h_
    refine (c_tree HF (binder_form k 18 (levelP k 0) (form_par k ihl) (typ_all k).2) h330).mono ?_
    clear HF h330
    rintro e w331 ⟨Au, cu, oku, rfl, HF⟩
    go_wp2_with (first
     | ((with_reducible refine gate_store (t := 25) (p := 2) rfl ?_); refine ev_put (p := 2) HF rfl rfl rfl rfl rfl rfl rfl ?_; clear HF; intro w332 HF))
    obtain rfl : PR.ok x_ tz_ = r := HR.out
    refine bodyPost_ret (results_cell_row rfl _ _ _ 25 _ (0, 0) _ rfl HF.out.b0 Tryz.underlying25 rfl (by kernel_rfl)) rfl ?_
    exact ⟨⟨_, _, (by first | rfl | simp), HF.out.made⟩, HF.out.st, HF.out.keep⟩
 ·obtain ⟨t333, tl334, rfl⟩ := isP_cons h270
  have h_ := (if_pos h270).symm.trans HR.out
  clear HR
  try simp only [List.tail_cons] at h_
  try dsimp only at h_
  have HR := Lib.hid h_
  clear h_
  refine (c_is HF [33] h270).mono ?_
  clear HF h270
  rintro e w335 ⟨rfl, HF⟩
  have q336 := HF.out.at1
  go_wp2_with (first
   | ((with_reducible refine gate_store (t := 3) (p := 13) rfl ?_); refine ev_next (p := 13) HF rfl rfl rfl rfl rfl ?_; clear HF; clear q336; intro w337 HF))
  cases h338 : partP k tl334 with
  | out => exact absurd ((PR.bind_out h338 _).symm.trans HR.out).symm HNE.out
  | bad t_ =>
   obtain rfl : PR.bad t_ = r := (PR.bind_bad h338 _).symm.trans HR.out
   refine (c_treeBad HF ih h338).mono ?_
   rintro e w_ ⟨rfl, HE⟩
   exact ⟨rfl, rfl, HE.out⟩
  | ok x_ tz_ =>
   have h_ := (PR.bind_ok h338 _).symm.trans HR.out
   clear HR
   try dsimp only at h_
   have HR := Lib.hid h_
   clear h_
   refine (c_tree HF ih h338).mono ?_
   clear HF h338
   rintro e w339 ⟨Au, cu, oku, rfl, HF⟩
   go_wp2_with (first
    | ((with_reducible refine gate_store (t := 25) (p := 2) rfl ?_); have HF2_ := Lib.hid (HF.out.lit1 x_ rfl); clear HF; have HF := HF2_; clear HF2_; refine ev_put (p := 2) HF rfl rfl rfl rfl rfl rfl rfl ?_; clear HF; intro w340 HF))
   obtain rfl : PR.ok ⟨29, ⟨#[]⟩, [x_]⟩ tz_ = r := HR.out
   refine bodyPost_ret (results_cell_row rfl _ _ _ 25 _ (0, 0) _ rfl HF.out.b0 Tryz.underlying25 rfl (by kernel_rfl)) rfl ?_
   exact ⟨⟨_, _, (by first | rfl | simp), HF.out.made⟩, HF.out.st, HF.out.keep⟩

theorem level_all : ∀ k, (∀ j, j ≤ k → PLev j) ∧ PAll 121 (fun g => #[.pointer (some ⟨g, 0, none⟩)]) (partP k)
  | 0 => ⟨fun j hj _ _ _ _ => by obtain rfl : j = 0 := by omega
                                 exact fun _ _ _ _ _ _ h => absurd (by simp only [levelP]) h, fun _ _ _ _ _ _ h => absurd (by simp only [partP]) h⟩
  | k + 1 => by
    obtain ⟨h1, h2⟩ := level_all k
    refine ⟨fun j hj => ?_, part_par k h2 (h1 k (Nat.le_refl _))⟩
    by_cases he : j = k + 1
    · subst he; exact level_par k h1 h2
    · exact h1 j (by omega)
end Go.Proofs.YtbndfgoklgdfdaaGreatDoor.P
