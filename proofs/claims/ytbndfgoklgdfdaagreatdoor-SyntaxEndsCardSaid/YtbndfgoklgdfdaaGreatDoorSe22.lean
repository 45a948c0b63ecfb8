/- syntax's parser: items. (printed by mkp2.py) -/
import Derived.Test.YtbndfgoklgdfdaaGreatDoorSe21
set_option linter.all false
set_option linter.unusedSimpArgs false
namespace Go.Proofs.YtbndfgoklgdfdaaGreatDoor.P
open Go.RowKit Go.Proofs.YtbndfgoklgdfdaaGreatDoorW.PrintWords Go.Proofs.YtbndfgoklgdfdaaGreatDoorW.PrintLast Go.Proofs.YtbndfgoklgdfdaaGreatDoorW.PrintMore
set_option maxRecDepth 100000 in
set_option maxHeartbeats 8000000 in
theorem names_par (k : Nat) : PAllL 143 (fun g => #[.pointer (some ⟨g, 0, none⟩)]) (namesP k) := by
 intro w0 w g l ts h hne
 obtain ⟨r, hr⟩ : ∃ r, (namesP k) ts = r := ⟨_, rfl⟩
 have HNE := Lib.hid hne
 have HF := Lib.hid (Fr.begin h)
 rw [hr] at HNE ⊢
 simp only [namesP] at hr
 have HR := Lib.hid hr
 clear h hne hr
 go_enter Tryz.func143, Tryz.ntmps143
 go_wp2_with fail
 cases h341 : smallP ts with
 | out => exact absurd ((PR.bind_out h341 _).symm.trans HR.out).symm HNE.out
 | bad t_ =>
  obtain rfl : PR.bad t_ = r := (PR.bind_bad h341 _).symm.trans HR.out
  refine (c_small_bad HF h341).mono ?_
  rintro e w_ ⟨rfl, HE⟩
  exact ⟨rfl, rfl, HE.out⟩
 | ok s_ t1_ =>
  have h_ := (PR.bind_ok h341 _).symm.trans HR.out
  clear HR
  try dsimp only at h_
  have HR := Lib.hid h_
  clear h_
  refine (c_small HF h341).mono ?_
  clear HF h341
  rintro e w342 ⟨rfl, HF⟩
  replace HF := Lib.hid HF.out.nil.lit1 ⟨15, s_, []⟩ rfl
  go_wp2_with fail
  go_loopg [3] k (fun kq v2 w' => ∃ (acc : List Tree) (ts' : List Tok) (A : Option Addr) (c : Nat) (ok : Nat → Prop), v2 = .slice A acc.length c ∧ Hid (namesL kq ts' acc = r) ∧ Hid (kq ≤ k) ∧ Hid (Fr w0 w w' g (SP w0 g l ts') [] [⟨ok, .slice A acc.length c, acc⟩]))
  case atStart => exact ⟨[⟨15, s_, []⟩], t1_, _, 1, _, rfl, HR, Lib.hid (Nat.le_refl _), HF⟩
  case round =>
   clear HF HR
   obtain ⟨acc, ts', A, c, ok, rfl, HA, HK, HF⟩ := hrel
   cases gk with
   | zero => exact absurd HA.out.symm (by simpa only [namesL] using HNE.out)
   | succ k1 =>
    have h_ := HA.out
    clear HA
    simp only [namesL] at h_
    have HR := Lib.hid h_
    clear h_
    by_cases h6 : 6000 < acc.length
    ·exact absurd ((if_pos h6).symm.trans HR.out).symm HNE.out
    have h_ := (if_neg h6).symm.trans HR.out
    clear HR
    try dsimp only at h_
    have HR := Lib.hid h_
    clear h_
    have HL_ := Lib.hid h6
    clear h6
    go_wp2_with fail
    cases h343 : isP [44] ts'
    ·have h_ := (if_neg (Bool.eq_false_iff.1 h343)).symm.trans HR.out
     clear HR
     try dsimp only at h_
     have HR := Lib.hid h_
     clear h_
     refine (c_is HF [44] h343).mono ?_
     clear HF h343
     rintro e w344 ⟨rfl, HF⟩
     go_wp2_with fail
     go_ret
     obtain rfl : PR.ok acc ts' = r := HR.out
     exact ⟨⟨_, _, rfl, HF.out.made⟩, HF.out.st, HF.out.keep⟩
    ·obtain ⟨t345, tl346, rfl⟩ := isP_cons h343
     have h_ := (if_pos h343).symm.trans HR.out
     clear HR
     try simp only [List.tail_cons] at h_
     try dsimp only at h_
     have HR := Lib.hid h_
     clear h_
     refine (c_is HF [44] h343).mono ?_
     clear HF h343
     rintro e w347 ⟨rfl, HF⟩
     have q348 := HF.out.at1
     go_wp2_with (first
      | ((with_reducible refine gate_store (t := 3) (p := 16) rfl ?_); refine ev_next (p := 16) HF rfl rfl rfl rfl rfl ?_; clear HF; clear q348; intro w349 HF))
     cases h350 : smallP tl346 with
     | out => exact absurd ((PR.bind_out h350 _).symm.trans HR.out).symm HNE.out
     | bad t_ =>
      obtain rfl : PR.bad t_ = r := (PR.bind_bad h350 _).symm.trans HR.out
      refine (c_small_bad HF h350).mono ?_
      rintro e w_ ⟨rfl, HE⟩
      exact ⟨rfl, rfl, HE.out⟩
     | ok sn_ t5_ =>
      have h_ := (PR.bind_ok h350 _).symm.trans HR.out
      clear HR
      try dsimp only at h_
      have HR := Lib.hid h_
      clear h_
      refine (c_small HF h350).mono ?_
      clear HF h350
      rintro e w351 ⟨rfl, HF⟩
      replace HF := Lib.hid HF.out.nil
      go_wp2_with (first
       | (at_builtin; refine ev_app ⟨15, sn_, []⟩ rfl HF rfl rfl rfl rfl (by have := HL_.out; simp at this ⊢; omega) ?_; clear HF; intro Av352 cv352 w353 okv352 HF))
      go_roundg k1
      case measure => have := HK.out; omega
      case rel => exact ⟨acc ++ [⟨15, sn_, []⟩], t5_, _, _, _, (by simp), HR, Lib.hid (by have := HK.out; omega), HF⟩

set_option maxRecDepth 100000 in
set_option maxHeartbeats 8000000 in
theorem list_par (k : Nat) (kd : Int) : PAll 104 (fun g => #[.pointer (some ⟨g, 0, none⟩), .int .i64 kd]) (listP k kd) := by
 intro w0 w g l ts h hne
 obtain ⟨r, hr⟩ : ∃ r, (listP k kd) ts = r := ⟨_, rfl⟩
 have HNE := Lib.hid hne
 have HF := Lib.hid (Fr.begin h)
 rw [hr] at HNE ⊢
 simp only [listP] at hr
 have HR := Lib.hid hr
 clear h hne hr
 go_enter Tryz.func104, Tryz.ntmps104
 go_wp2_with (first
  | ((with_reducible refine gate_dst (N := 4) rfl ?_); refine ev_box HF rfl rfl (run_node rfl) ?_; clear HF; intro b1 w354 HF))
 cases h355 : namesP k ts with
 | out => exact absurd ((PR.bind_out h355 _).symm.trans HR.out).symm HNE.out
 | bad t_ =>
  obtain rfl : PR.bad t_ = r := (PR.bind_bad h355 _).symm.trans HR.out
  refine (c_listBad HF (names_par k) h355).mono ?_
  rintro e w_ ⟨rfl, HE⟩
  exact ⟨rfl, rfl, HE.out⟩
 | ok l_ t1_ =>
  have h_ := (PR.bind_ok h355 _).symm.trans HR.out
  clear HR
  try dsimp only at h_
  have HR := Lib.hid h_
  clear h_
  refine (c_list HF (names_par k) h355).mono ?_
  clear HF h355
  rintro e w356 ⟨Au, cu, oku, rfl, HF⟩
  go_wp2_with (first
   | ((with_reducible refine gate_store (t := 25) (p := 4) rfl ?_); refine ev_put (p := 4) HF rfl rfl rfl rfl rfl rfl rfl ?_; clear HF; intro w357 HF))
  obtain rfl : PR.ok ⟨kd, ⟨#[]⟩, l_⟩ t1_ = r := HR.out
  refine bodyPost_ret (results_cell_row rfl _ _ _ 25 _ (0, 0) _ rfl HF.out.b0 Tryz.underlying25 rfl (by kernel_rfl)) rfl ?_
  exact ⟨⟨_, _, (by first | rfl | simp), HF.out.made⟩, HF.out.st, HF.out.keep⟩

set_option maxRecDepth 100000 in
set_option maxHeartbeats 8000000 in
theorem constant_par (k : Nat) (kd : Int) : PAll 105 (fun g => #[.pointer (some ⟨g, 0, none⟩), .int .i64 kd]) (constP k kd) := by
 intro w0 w g l ts h hne
 obtain ⟨r, hr⟩ : ∃ r, (constP k kd) ts = r := ⟨_, rfl⟩
 have HNE := Lib.hid hne
 have HF := Lib.hid (Fr.begin h)
 rw [hr] at HNE ⊢
 simp only [constP] at hr
 have HR := Lib.hid hr
 clear h hne hr
 go_enter Tryz.func105, Tryz.ntmps105
 go_wp2_with (first
  | ((with_reducible refine gate_dst (N := 4) rfl ?_); refine ev_box HF rfl rfl (run_node rfl) ?_; clear HF; intro b1 w358 HF))
 cases h359 : listP k kd ts with
 | out => exact absurd ((PR.bind_out h359 _).symm.trans HR.out).symm HNE.out
 | bad t_ =>
  obtain rfl : PR.bad t_ = r := (PR.bind_bad h359 _).symm.trans HR.out
  refine (c_treeBad HF (list_par k kd) h359).mono ?_
  rintro e w_ ⟨rfl, HE⟩
  exact ⟨rfl, rfl, HE.out⟩
 | ok n_ t1_ =>
  have h_ := (PR.bind_ok h359 _).symm.trans HR.out
  clear HR
  try dsimp only at h_
  have HR := Lib.hid h_
  clear h_
  have HB_ := Lib.hid (listP_len h359)
  refine (c_tree HF (list_par k kd) h359).mono ?_
  clear HF h359
  rintro e w360 ⟨Au, cu, oku, rfl, HF⟩
  go_wp2_with (first
   | ((with_reducible refine gate_dst (N := 5) rfl ?_); refine ev_box HF rfl rfl (run_node rfl) ?_; clear HF; intro b2 w361 HF)
   | ((with_reducible refine gate_store (t := 25) (p := 5) rfl ?_); refine ev_put (p := 5) HF rfl rfl rfl rfl rfl rfl rfl ?_; clear HF; intro w362 HF))
  cases h363 : wantP [58] t1_ with
  | out => exact absurd ((PR.bind_out h363 _).symm.trans HR.out).symm HNE.out
  | bad t_ =>
   obtain rfl : PR.bad t_ = r := (PR.bind_bad h363 _).symm.trans HR.out
   refine (c_want_bad HF [58] h363).mono ?_
   rintro e w_ ⟨rfl, HE⟩
   exact ⟨rfl, rfl, HE.out⟩
  | ok u_ t2_ =>
   have h_ := (PR.bind_ok h363 _).symm.trans HR.out
   clear HR
   try dsimp only at h_
   have HR := Lib.hid h_
   clear h_
   refine (c_want HF [58] h363).mono ?_
   clear HF h363
   rintro e w364 ⟨rfl, HF⟩
   go_wp2_with fail
   replace HF := Lib.hid HF.out.drew
   refine start_ (n := 8) (S := (fun w' => w'.cell? ⟨b2, 2, none⟩ = some (.slice Au n_.f2.length cu))) (ds := [5, 7]) #[false, false, false, false, false, false, false, false] (by kernel_rfl) rfl rfl ?_ (fun hHeld => ?_)
   ·exact (rd3 HF.out.b0).2.2
   refine pq 0 (fl 8 1) (h := ?_)
   refine pq 2 #[true, false, true, false, false, false, false, false] (h := ?_)
   refine tq hHeld 1 (fl 8 3) (h := ?_)
   refine one_ (i := 3) (N := some 14) #[true, true, true, true, false, false, false, false] rfl rfl (by kernel_rfl) (by decide) (fun K hK => ?_)
   clear hHeld
   go_simp
   go_wp2_with fail
   cases h365 : typP k t2_ with
   | out => exact absurd ((PR.bind_out h365 _).symm.trans HR.out).symm HNE.out
   | bad t_ =>
    obtain rfl : PR.bad t_ = r := (PR.bind_bad h365 _).symm.trans HR.out
    refine (c_treeBad HF (typ_all k).2 h365).mono ?_
    rintro e w_ ⟨rfl, HE⟩
    exact ⟨rfl, rfl, HE.out⟩
   | ok y_ t5_ =>
    have h_ := (PR.bind_ok h365 _).symm.trans HR.out
    clear HR
    try dsimp only at h_
    have HR := Lib.hid h_
    clear h_
    refine (c_tree HF (typ_all k).2 h365).mono ?_
    clear HF h365
    rintro e w366 ⟨Auy_, cuy_, okuy_, rfl, HF⟩
    refine hK.out _ _ ((rd3 HF.out.b0).2.2) (fun hHeld => ?_)
    clear hK K
    (try simp only [Act.put, List.setIfInBounds_toArray, List.set_cons_zero, List.set_cons_succ])
    refine one_ (i := 4) (N := some 15) #[true, true, true, true, true, false, false, false] rfl rfl (by kernel_rfl) (by decide) (fun K hK => ?_)
    clear hHeld
    go_simp
    refine hK.out _ _ ((rd3 (HF.out.alloc _).b0).2.2) (fun hHeld => ?_)
    clear hK K
    (try simp only [Act.put, List.setIfInBounds_toArray, List.set_cons_zero, List.set_cons_succ])
    refine last_ (i := 5) (N := some 16) #[true, true, true, true, true, true, false, false] rfl rfl (by kernel_rfl) (by decide) (fun K hK => ?_)
    refine st_app y_ rfl HF rfl rfl rfl rfl (by have := HB_.out; first | omega | (simp; omega)) ?_
    clear HF
    intro Av367 cv367 w368 okv367 HF
    refine hK.out _ _ ?_
    clear hK K
    (try simp only [Act.put, List.setIfInBounds_toArray, List.set_cons_zero, List.set_cons_succ])
    refine pq 6 (fl 8 7) (h := ?_)
    refine last_ (i := 7) (N := none) #[true, true, true, true, true, true, true, true] rfl rfl (by kernel_rfl) (by decide) (fun K hK => ?_)
    refine st_cell (p := 17) HF rfl rfl rfl rfl rfl rfl (.inl ⟨_, _, _, rfl⟩) rfl rfl ?_
    clear HF
    intro w369 HF
    refine hK.out _ _ ?_
    clear hK K
    (try simp only [Act.put, List.setIfInBounds_toArray, List.set_cons_zero, List.set_cons_succ])
    refine done_ (by kernel_rfl) ?_
    skip
    try simp only [Act.put, List.setIfInBounds_toArray, List.set_cons_zero, List.set_cons_succ]
    obtain ⟨q370a, q370b, q370c⟩ := rd3 HF.out.b0
    replace HF := Lib.hid HF.out.swap
    go_wp2_with (first
     | ((with_reducible refine gate_store (t := 25) (p := 4) rfl ?_); refine ev_put (p := 4) HF rfl rfl rfl rfl rfl rfl rfl ?_; clear HF; clear q370a q370b q370c; intro w371 HF))
    obtain rfl : PR.ok ⟨n_.f0, n_.f1, n_.f2 ++ [y_]⟩ t5_ = r := HR.out
    refine bodyPost_ret (results_cell_row rfl _ _ _ 25 _ (0, 0) _ rfl HF.out.b0 Tryz.underlying25 rfl (by kernel_rfl)) rfl ?_
    exact ⟨⟨_, _, (by first | rfl | simp), HF.out.made⟩, HF.out.st, HF.out.keep⟩

set_option maxRecDepth 100000 in
set_option maxHeartbeats 8000000 in
theorem predicate_par (k : Nat) (kd : Int) : PAll 106 (fun g => #[.pointer (some ⟨g, 0, none⟩), .int .i64 kd]) (predP k kd) := by
 intro w0 w g l ts h hne
 obtain ⟨r, hr⟩ : ∃ r, (predP k kd) ts = r := ⟨_, rfl⟩
 have HNE := Lib.hid hne
 have HF := Lib.hid (Fr.begin h)
 rw [hr] at HNE ⊢
 simp only [predP] at hr
 have HR := Lib.hid hr
 clear h hne hr
 go_enter Tryz.func106, Tryz.ntmps106
 go_wp2_with (first
  | ((with_reducible refine gate_dst (N := 4) rfl ?_); refine ev_box HF rfl rfl (run_node rfl) ?_; clear HF; intro b1 w372 HF))
 cases h373 : smallP ts with
 | out => exact absurd ((PR.bind_out h373 _).symm.trans HR.out).symm HNE.out
 | bad t_ =>
  obtain rfl : PR.bad t_ = r := (PR.bind_bad h373 _).symm.trans HR.out
  refine (c_small_bad HF h373).mono ?_
  rintro e w_ ⟨rfl, HE⟩
  exact ⟨rfl, rfl, HE.out⟩
 | ok s_ t1_ =>
  have h_ := (PR.bind_ok h373 _).symm.trans HR.out
  clear HR
  try dsimp only at h_
  have HR := Lib.hid h_
  clear h_
  refine (c_small HF h373).mono ?_
  clear HF h373
  rintro e w374 ⟨rfl, HF⟩
  go_wp2_with (first
   | ((with_reducible refine gate_dst (N := 5) rfl ?_); refine ev_box HF rfl rfl (run_node rfl) ?_; clear HF; intro b2 w375 HF)
   | ((with_reducible refine gate_store (t := 25) (p := 5) rfl ?_); have HF2_ := Lib.hid (HF.out.nil); clear HF; have HF := HF2_; clear HF2_; refine ev_put (p := 5) HF rfl rfl rfl rfl rfl rfl rfl ?_; clear HF; intro w376 HF))
  try simp only [Act.put, List.setIfInBounds_toArray, List.set_cons_zero, List.set_cons_succ]
  go_loopg [] k (fun kq w' => ∃ (acc : List Tree) (ts' : List Tok) (A : Option Addr) (c : Nat) (ok : Nat → Prop) (wr : World), wr = w' ∧ Hid (predT (simpleP k) kd s_ kq ts' acc = r) ∧ Hid (kq ≤ k) ∧ Hid (Fr w0 w w' g (SP w0 g l ts') [vb b2 25 (tN ⟨kd, s_, acc⟩ A c), vb b1 25 zN] [⟨ok, .slice A acc.length c, acc⟩]))
  case atStart => exact ⟨[], t1_, none, 0, _, _, rfl, HR, Lib.hid (Nat.le_refl _), HF⟩
  case round =>
   clear HF HR
   obtain ⟨acc, ts', A, c, ok, wr, rfl, HA, HK, HF⟩ := hrel
   cases gk with
   | zero => exact absurd HA.out.symm (by simpa only [predT] using HNE.out)
   | succ k1 =>
    have h_ := HA.out
    clear HA
    simp only [predT] at h_
    have HR := Lib.hid h_
    clear h_
    by_cases h6 : 6000 < acc.length
    ·exact absurd ((if_pos h6).symm.trans HR.out).symm HNE.out
    have h_ := (if_neg h6).symm.trans HR.out
    clear HR
    try dsimp only at h_
    have HR := Lib.hid h_
    clear h_
    have HL_ := Lib.hid h6
    clear h6
    go_wp2_with fail
    cases h377 : isP [40] ts'
    ·have h_ := (if_neg (Bool.eq_false_iff.1 h377)).symm.trans HR.out
     clear HR
     try dsimp only at h_
     have HR := Lib.hid h_
     clear h_
     refine (c_is HF [40] h377).mono ?_
     clear HF h377
     rintro e w378 ⟨rfl, HF⟩
     go_wp2_with fail
     by_cases h2_ : kindP ts' = 1
     ·have h_ := (if_pos h2_).symm.trans HR.out
      clear HR
      try dsimp only at h_
      have HR := Lib.hid h_
      clear h_
      go_wp2_with fail
      refine (c_kind HF (k := 1) h2_).mono ?_
      clear HF
      rintro e w379 ⟨rfl, HF⟩
      go_wp2_with fail
      replace HF := Lib.hid HF.out.drew
      refine start_ (n := 8) (S := (fun w' => w'.cell? ⟨b2, 2, none⟩ = some (.slice A acc.length c))) (ds := [5, 7]) #[false, false, false, false, false, false, false, false] (by kernel_rfl) rfl rfl ?_ (fun hHeld => ?_)
      ·exact (rd3 HF.out.b0).2.2
      refine pq 0 (fl 8 1) (h := ?_)
      refine pq 2 #[true, false, true, false, false, false, false, false] (h := ?_)
      refine tq hHeld 1 (fl 8 3) (h := ?_)
      refine one_ (i := 3) (N := some 20) #[true, true, true, true, false, false, false, false] rfl rfl (by kernel_rfl) (by decide) (fun K hK => ?_)
      clear hHeld
      go_simp
      go_wp2_with fail
      cases h380 : simpleP k ts' with
      | out => exact absurd ((PR.bind_out h380 _).symm.trans HR.out).symm HNE.out
      | bad t_ =>
       obtain rfl : PR.bad t_ = r := (PR.bind_bad h380 _).symm.trans HR.out
       refine (c_treeBad HF (typ_all k).1 h380).mono ?_
       rintro e w_ ⟨rfl, HE⟩
       exact ⟨rfl, rfl, HE.out⟩
      | ok y_ t5_ =>
       have h_ := (PR.bind_ok h380 _).symm.trans HR.out
       clear HR
       try dsimp only at h_
       have HR := Lib.hid h_
       clear h_
       refine (c_tree HF (typ_all k).1 h380).mono ?_
       clear HF h380
       rintro e w381 ⟨Auy_, cuy_, okuy_, rfl, HF⟩
       refine hK.out _ _ ((rd3 HF.out.b0).2.2) (fun hHeld => ?_)
       clear hK K
       (try simp only [Act.put, List.setIfInBounds_toArray, List.set_cons_zero, List.set_cons_succ])
       refine one_ (i := 4) (N := some 21) #[true, true, true, true, true, false, false, false] rfl rfl (by kernel_rfl) (by decide) (fun K hK => ?_)
       clear hHeld
       go_simp
       refine hK.out _ _ ((rd3 (HF.out.alloc _).b0).2.2) (fun hHeld => ?_)
       clear hK K
       (try simp only [Act.put, List.setIfInBounds_toArray, List.set_cons_zero, List.set_cons_succ])
       refine last_ (i := 5) (N := some 22) #[true, true, true, true, true, true, false, false] rfl rfl (by kernel_rfl) (by decide) (fun K hK => ?_)
       refine st_app y_ rfl HF rfl rfl rfl rfl (by have := HL_.out; simp at this ⊢; omega) ?_
       clear HF
       intro Av382 cv382 w383 okv382 HF
       refine hK.out _ _ ?_
       clear hK K
       (try simp only [Act.put, List.setIfInBounds_toArray, List.set_cons_zero, List.set_cons_succ])
       refine pq 6 (fl 8 7) (h := ?_)
       refine last_ (i := 7) (N := none) #[true, true, true, true, true, true, true, true] rfl rfl (by kernel_rfl) (by decide) (fun K hK => ?_)
       refine st_cell (p := 23) HF rfl rfl rfl rfl rfl rfl (.inl ⟨_, _, _, rfl⟩) rfl rfl ?_
       clear HF
       intro w384 HF
       refine hK.out _ _ ?_
       clear hK K
       (try simp only [Act.put, List.setIfInBounds_toArray, List.set_cons_zero, List.set_cons_succ])
       refine done_ (by kernel_rfl) ?_
       skip
       try simp only [Act.put, List.setIfInBounds_toArray, List.set_cons_zero, List.set_cons_succ]
       go_wp2_with fail
       go_roundg k1
       case measure => have := HK.out; omega
       case rel => exact ⟨acc ++ [y_], t5_, _, _, _, _, rfl, HR, Lib.hid (by have := HK.out; omega), HF⟩
     ·have h_ := (if_neg h2_).symm.trans HR.out
      clear HR
      try dsimp only at h_
      have HR := Lib.hid h_
      clear h_
      have b1_ : (kindP ts' == 1) = false := beq_eq_false_iff_ne.2 h2_
      go_wp2_with fail
      refine (c_kind HF (k := _) rfl).mono ?_
      clear HF
      rintro e w385 ⟨rfl, HF⟩
      obtain ⟨q386a, q386b, q386c⟩ := rd3 HF.out.b0
      replace HF := Lib.hid HF.out.swap
      go_wp2_with (first
       | ((with_reducible refine gate_store (t := 25) (p := 4) rfl ?_); refine ev_put (p := 4) HF rfl rfl rfl rfl rfl rfl rfl ?_; clear HF; clear q386a q386b q386c; intro w387 HF))
      obtain rfl : PR.ok ⟨kd, s_, acc⟩ ts' = r := HR.out
      refine bodyPost_ret (results_cell_row rfl _ _ _ 25 _ (0, 0) _ rfl HF.out.b0 Tryz.underlying25 rfl (by kernel_rfl)) rfl ?_
      exact ⟨⟨_, _, (by first | rfl | simp), HF.out.made⟩, HF.out.st, HF.out.keep⟩
    ·obtain ⟨t388, tl389, rfl⟩ := isP_cons h377
     have h_ := (if_pos h377).symm.trans HR.out
     clear HR
     try simp only [List.tail_cons] at h_
     try dsimp only at h_
     have HR := Lib.hid h_
     clear h_
     refine (c_is HF [40] h377).mono ?_
     clear HF h377
     rintro e w390 ⟨rfl, HF⟩
     go_wp2_with fail
     replace HF := Lib.hid HF.out.drew
     refine start_ (n := 8) (S := (fun w' => w'.cell? ⟨b2, 2, none⟩ = some (.slice A acc.length c))) (ds := [5, 7]) #[false, false, false, false, false, false, false, false] (by kernel_rfl) rfl rfl ?_ (fun hHeld => ?_)
     ·exact (rd3 HF.out.b0).2.2
     refine pq 0 (fl 8 1) (h := ?_)
     refine pq 2 #[true, false, true, false, false, false, false, false] (h := ?_)
     refine tq hHeld 1 (fl 8 3) (h := ?_)
     refine one_ (i := 3) (N := some 20) #[true, true, true, true, false, false, false, false] rfl rfl (by kernel_rfl) (by decide) (fun K hK => ?_)
     clear hHeld
     go_simp
     go_wp2_with fail
     cases h391 : simpleP k (t388 :: tl389) with
     | out => exact absurd ((PR.bind_out h391 _).symm.trans HR.out).symm HNE.out
     | bad t_ =>
      obtain rfl : PR.bad t_ = r := (PR.bind_bad h391 _).symm.trans HR.out
      refine (c_treeBad HF (typ_all k).1 h391).mono ?_
      rintro e w_ ⟨rfl, HE⟩
      exact ⟨rfl, rfl, HE.out⟩
     | ok y_ t5_ =>
      have h_ := (PR.bind_ok h391 _).symm.trans HR.out
      clear HR
      try dsimp only at h_
      have HR := Lib.hid h_
      clear h_
      refine (c_tree HF (typ_all k).1 h391).mono ?_
      clear HF h391
      rintro e w392 ⟨Auy_, cuy_, okuy_, rfl, HF⟩
      refine hK.out _ _ ((rd3 HF.out.b0).2.2) (fun hHeld => ?_)
      clear hK K
      (try simp only [Act.put, List.setIfInBounds_toArray, List.set_cons_zero, List.set_cons_succ])
      refine one_ (i := 4) (N := some 21) #[true, true, true, true, true, false, false, false] rfl rfl (by kernel_rfl) (by decide) (fun K hK => ?_)
      clear hHeld
      go_simp
      refine hK.out _ _ ((rd3 (HF.out.alloc _).b0).2.2) (fun hHeld => ?_)
      clear hK K
      (try simp only [Act.put, List.setIfInBounds_toArray, List.set_cons_zero, List.set_cons_succ])
      refine last_ (i := 5) (N := some 22) #[true, true, true, true, true, true, false, false] rfl rfl (by kernel_rfl) (by decide) (fun K hK => ?_)
      refine st_app y_ rfl HF rfl rfl rfl rfl (by have := HL_.out; simp at this ⊢; omega) ?_
      clear HF
      intro Av393 cv393 w394 okv393 HF
      refine hK.out _ _ ?_
      clear hK K
      (try simp only [Act.put, List.setIfInBounds_toArray, List.set_cons_zero, List.set_cons_succ])
      refine pq 6 (fl 8 7) (h := ?_)
      refine last_ (i := 7) (N := none) #[true, true, true, true, true, true, true, true] rfl rfl (by kernel_rfl) (by decide) (fun K hK => ?_)
      refine st_cell (p := 23) HF rfl rfl rfl rfl rfl rfl (.inl ⟨_, _, _, rfl⟩) rfl rfl ?_
      clear HF
      intro w395 HF
      refine hK.out _ _ ?_
      clear hK K
      (try simp only [Act.put, List.setIfInBounds_toArray, List.set_cons_zero, List.set_cons_succ])
      refine done_ (by kernel_rfl) ?_
      skip
      try simp only [Act.put, List.setIfInBounds_toArray, List.set_cons_zero, List.set_cons_succ]
      go_wp2_with fail
      go_roundg k1
      case measure => have := HK.out; omega
      case rel => exact ⟨acc ++ [y_], t5_, _, _, _, _, rfl, HR, Lib.hid (by have := HK.out; omega), HF⟩

set_option maxRecDepth 100000 in
set_option maxHeartbeats 8000000 in
theorem mode_par (k : Nat) (kd : Int) : PAll 107 (fun g => #[.pointer (some ⟨g, 0, none⟩), .int .i64 kd]) (modeP k kd) := by
 intro w0 w g l ts h hne
 obtain ⟨r, hr⟩ : ∃ r, (modeP k kd) ts = r := ⟨_, rfl⟩
 have HNE := Lib.hid hne
 have HF := Lib.hid (Fr.begin h)
 rw [hr] at HNE ⊢
 simp only [modeP] at hr
 have HR := Lib.hid hr
 clear h hne hr
 go_enter Tryz.func107, Tryz.ntmps107
 go_wp2_with (first
  | ((with_reducible refine gate_dst (N := 4) rfl ?_); refine ev_box HF rfl rfl (run_node rfl) ?_; clear HF; intro b1 w396 HF))
 cases h397 : smallP ts with
 | out => exact absurd ((PR.bind_out h397 _).symm.trans HR.out).symm HNE.out
 | bad t_ =>
  obtain rfl : PR.bad t_ = r := (PR.bind_bad h397 _).symm.trans HR.out
  refine (c_small_bad HF h397).mono ?_
  rintro e w_ ⟨rfl, HE⟩
  exact ⟨rfl, rfl, HE.out⟩
 | ok s_ t1_ =>
  have h_ := (PR.bind_ok h397 _).symm.trans HR.out
  clear HR
  try dsimp only at h_
  have HR := Lib.hid h_
  clear h_
  refine (c_small HF h397).mono ?_
  clear HF h397
  rintro e w398 ⟨rfl, HF⟩
  go_wp2_with (first
   | ((with_reducible refine gate_dst (N := 5) rfl ?_); refine ev_box HF rfl rfl (run_node rfl) ?_; clear HF; intro b2 w399 HF)
   | ((with_reducible refine gate_store (t := 25) (p := 5) rfl ?_); have HF2_ := Lib.hid (HF.out.nil); clear HF; have HF := HF2_; clear HF2_; refine ev_put (p := 5) HF rfl rfl rfl rfl rfl rfl rfl ?_; clear HF; intro w400 HF))
  try simp only [Act.put, List.setIfInBounds_toArray, List.set_cons_zero, List.set_cons_succ]
  go_loopg [] k (fun kq w' => ∃ (acc : List Tree) (ts' : List Tok) (A : Option Addr) (c : Nat) (ok : Nat → Prop) (wr : World), wr = w' ∧ Hid (modeT kd s_ kq ts' acc = r) ∧ Hid (kq ≤ k) ∧ Hid (Fr w0 w w' g (SP w0 g l ts') [vb b2 25 (tN ⟨kd, s_, acc⟩ A c), vb b1 25 zN] [⟨ok, .slice A acc.length c, acc⟩]))
  case atStart => exact ⟨[], t1_, none, 0, _, _, rfl, HR, Lib.hid (Nat.le_refl _), HF⟩
  case round =>
   clear HF HR
   obtain ⟨acc, ts', A, c, ok, wr, rfl, HA, HK, HF⟩ := hrel
   cases gk with
   | zero => exact absurd HA.out.symm (by simpa only [modeT] using HNE.out)
   | succ k1 =>
    have h_ := HA.out
    clear HA
    simp only [modeT] at h_
    have HR := Lib.hid h_
    clear h_
    by_cases h6 : 6000 < acc.length
    ·exact absurd ((if_pos h6).symm.trans HR.out).symm HNE.out
    have h_ := (if_neg h6).symm.trans HR.out
    clear HR
    try dsimp only at h_
    have HR := Lib.hid h_
    clear h_
    have HL_ := Lib.hid h6
    clear h6
    go_wp2_with fail
    by_cases h2_ : kindP ts' = 1
    ·have h_ := (if_pos h2_).symm.trans HR.out
     clear HR
     try dsimp only at h_
     have HR := Lib.hid h_
     clear h_
     go_wp2_with fail
     refine (c_kind HF (k := 1) h2_).mono ?_
     clear HF
     rintro e w401 ⟨rfl, HF⟩
     go_wp2_with fail
     replace HF := Lib.hid HF.out.drew
     refine start_ (n := 8) (S := (fun w' => w'.cell? ⟨b2, 2, none⟩ = some (.slice A acc.length c))) (ds := [5, 7]) #[false, false, false, false, false, false, false, false] (by kernel_rfl) rfl rfl ?_ (fun hHeld => ?_)
     ·exact (rd3 HF.out.b0).2.2
     refine pq 0 (fl 8 1) (h := ?_)
     refine pq 2 #[true, false, true, false, false, false, false, false] (h := ?_)
     refine tq hHeld 1 (fl 8 3) (h := ?_)
     refine one_ (i := 3) (N := some 16) #[true, true, true, true, false, false, false, false] rfl rfl (by kernel_rfl) (by decide) (fun K hK => ?_)
     clear hHeld
     go_simp
     go_wp2_with fail
     cases h402 : nodeP ts' with
     | out => exact absurd ((PR.bind_out h402 _).symm.trans HR.out).symm HNE.out
     | bad t_ =>
      obtain rfl : PR.bad t_ = r := (PR.bind_bad h402 _).symm.trans HR.out
      refine (c_treeBad HF node_par h402).mono ?_
      rintro e w_ ⟨rfl, HE⟩
      exact ⟨rfl, rfl, HE.out⟩
     | ok y_ t5_ =>
      have h_ := (PR.bind_ok h402 _).symm.trans HR.out
      clear HR
      try dsimp only at h_
      have HR := Lib.hid h_
      clear h_
      refine (c_tree HF node_par h402).mono ?_
      clear HF h402
      rintro e w403 ⟨Auy_, cuy_, okuy_, rfl, HF⟩
      refine hK.out _ _ ((rd3 HF.out.b0).2.2) (fun hHeld => ?_)
      clear hK K
      (try simp only [Act.put, List.setIfInBounds_toArray, List.set_cons_zero, List.set_cons_succ])
      refine one_ (i := 4) (N := some 17) #[true, true, true, true, true, false, false, false] rfl rfl (by kernel_rfl) (by decide) (fun K hK => ?_)
      clear hHeld
      go_simp
      refine hK.out _ _ ((rd3 (HF.out.alloc _).b0).2.2) (fun hHeld => ?_)
      clear hK K
      (try simp only [Act.put, List.setIfInBounds_toArray, List.set_cons_zero, List.set_cons_succ])
      refine last_ (i := 5) (N := some 18) #[true, true, true, true, true, true, false, false] rfl rfl (by kernel_rfl) (by decide) (fun K hK => ?_)
      refine st_app y_ rfl HF rfl rfl rfl rfl (by have := HL_.out; simp at this ⊢; omega) ?_
      clear HF
      intro Av404 cv404 w405 okv404 HF
      refine hK.out _ _ ?_
      clear hK K
      (try simp only [Act.put, List.setIfInBounds_toArray, List.set_cons_zero, List.set_cons_succ])
      refine pq 6 (fl 8 7) (h := ?_)
      refine last_ (i := 7) (N := none) #[true, true, true, true, true, true, true, true] rfl rfl (by kernel_rfl) (by decide) (fun K hK => ?_)
      refine st_cell (p := 19) HF rfl rfl rfl rfl rfl rfl (.inl ⟨_, _, _, rfl⟩) rfl rfl ?_
      clear HF
      intro w406 HF
      refine hK.out _ _ ?_
      clear hK K
      (try simp only [Act.put, List.setIfInBounds_toArray, List.set_cons_zero, List.set_cons_succ])
      refine done_ (by kernel_rfl) ?_
      skip
      try simp only [Act.put, List.setIfInBounds_toArray, List.set_cons_zero, List.set_cons_succ]
      go_wp2_with fail
      go_roundg k1
      case measure => have := HK.out; omega
      case rel => exact ⟨acc ++ [y_], t5_, _, _, _, _, rfl, HR, Lib.hid (by have := HK.out; omega), HF⟩
    ·have h_ := (if_neg h2_).symm.trans HR.out
     clear HR
     try dsimp only at h_
     have HR := Lib.hid h_
     clear h_
     have b1_ : (kindP ts' == 1) = false := beq_eq_false_iff_ne.2 h2_
     go_wp2_with fail
     refine (c_kind HF (k := _) rfl).mono ?_
     clear HF
     rintro e w407 ⟨rfl, HF⟩
     obtain ⟨q408a, q408b, q408c⟩ := rd3 HF.out.b0
     replace HF := Lib.hid HF.out.swap
     go_wp2_with (first
      | ((with_reducible refine gate_store (t := 25) (p := 4) rfl ?_); refine ev_put (p := 4) HF rfl rfl rfl rfl rfl rfl rfl ?_; clear HF; clear q408a q408b q408c; intro w409 HF))
     obtain rfl : PR.ok ⟨kd, s_, acc⟩ ts' = r := HR.out
     refine bodyPost_ret (results_cell_row rfl _ _ _ 25 _ (0, 0) _ rfl HF.out.b0 Tryz.underlying25 rfl (by kernel_rfl)) rfl ?_
     exact ⟨⟨_, _, (by first | rfl | simp), HF.out.made⟩, HF.out.st, HF.out.keep⟩

set_option maxRecDepth 100000 in
set_option maxHeartbeats 8000000 in
theorem rule_par (k : Nat) (kd : Int) : PAll 108 (fun g => #[.pointer (some ⟨g, 0, none⟩), .int .i64 kd]) (ruleP k kd) := by
 intro w0 w g l ts h hne
 obtain ⟨r, hr⟩ : ∃ r, (ruleP k kd) ts = r := ⟨_, rfl⟩
 have HNE := Lib.hid hne
 have HF := Lib.hid (Fr.begin h)
 rw [hr] at HNE ⊢
 simp only [ruleP] at hr
 have HR := Lib.hid hr
 clear h hne hr
 go_enter Tryz.func108, Tryz.ntmps108
 go_wp2_with (first
  | ((with_reducible refine gate_dst (N := 4) rfl ?_); refine ev_box HF rfl rfl (run_node rfl) ?_; clear HF; intro b1 w410 HF))
 cases h411 : smallP ts with
 | out => exact absurd ((PR.bind_out h411 _).symm.trans HR.out).symm HNE.out
 | bad t_ =>
  obtain rfl : PR.bad t_ = r := (PR.bind_bad h411 _).symm.trans HR.out
  refine (c_small_bad HF h411).mono ?_
  rintro e w_ ⟨rfl, HE⟩
  exact ⟨rfl, rfl, HE.out⟩
 | ok s_ t1_ =>
  have h_ := (PR.bind_ok h411 _).symm.trans HR.out
  clear HR
  try dsimp only at h_
  have HR := Lib.hid h_
  clear h_
  refine (c_small HF h411).mono ?_
  clear HF h411
  rintro e w412 ⟨rfl, HF⟩
  go_wp2_with (first
   | ((with_reducible refine gate_dst (N := 5) rfl ?_); refine ev_box HF rfl rfl (run_node rfl) ?_; clear HF; intro b2 w413 HF)
   | ((with_reducible refine gate_store (t := 25) (p := 5) rfl ?_); have HF2_ := Lib.hid (HF.out.nil); clear HF; have HF := HF2_; clear HF2_; refine ev_put (p := 5) HF rfl rfl rfl rfl rfl rfl rfl ?_; clear HF; intro w414 HF))
  cases h415 : wantP [58] t1_ with
  | out => exact absurd ((PR.bind_out h415 _).symm.trans HR.out).symm HNE.out
  | bad t_ =>
   obtain rfl : PR.bad t_ = r := (PR.bind_bad h415 _).symm.trans HR.out
   refine (c_want_bad HF [58] h415).mono ?_
   rintro e w_ ⟨rfl, HE⟩
   exact ⟨rfl, rfl, HE.out⟩
  | ok u_ t2_ =>
   have h_ := (PR.bind_ok h415 _).symm.trans HR.out
   clear HR
   try dsimp only at h_
   have HR := Lib.hid h_
   clear h_
   refine (c_want HF [58] h415).mono ?_
   clear HF h415
   rintro e w416 ⟨rfl, HF⟩
   go_wp2_with fail
   replace HF := Lib.hid HF.out.drew
   refine start_ (n := 8) (S := (fun w' => w'.cell? ⟨b2, 2, none⟩ = some (.slice none 0 0))) (ds := [5, 7]) #[false, false, false, false, false, false, false, false] (by kernel_rfl) rfl rfl ?_ (fun hHeld => ?_)
   ·exact (rd3 HF.out.b0).2.2
   refine pq 0 (fl 8 1) (h := ?_)
   refine pq 2 #[true, false, true, false, false, false, false, false] (h := ?_)
   refine tq hHeld 1 (fl 8 3) (h := ?_)
   refine one_ (i := 3) (N := some 15) #[true, true, true, true, false, false, false, false] rfl rfl (by kernel_rfl) (by decide) (fun K hK => ?_)
   clear hHeld
   go_simp
   go_wp2_with fail
   cases h417 : levelP k 0 t2_ with
   | out => exact absurd ((PR.bind_out h417 _).symm.trans HR.out).symm HNE.out
   | bad t_ =>
    obtain rfl : PR.bad t_ = r := (PR.bind_bad h417 _).symm.trans HR.out
    refine (c_treeBad HF (form_par k ((level_all k).1 k (Nat.le_refl k))) h417).mono ?_
    rintro e w_ ⟨rfl, HE⟩
    exact ⟨rfl, rfl, HE.out⟩
   | ok y_ t5_ =>
    have h_ := (PR.bind_ok h417 _).symm.trans HR.out
    clear HR
    try dsimp only at h_
    have HR := Lib.hid h_
    clear h_
    refine (c_tree HF (form_par k ((level_all k).1 k (Nat.le_refl k))) h417).mono ?_
    clear HF h417
    rintro e w418 ⟨Auy_, cuy_, okuy_, rfl, HF⟩
    refine hK.out _ _ ((rd3 HF.out.b0).2.2) (fun hHeld => ?_)
    clear hK K
    (try simp only [Act.put, List.setIfInBounds_toArray, List.set_cons_zero, List.set_cons_succ])
    refine one_ (i := 4) (N := some 16) #[true, true, true, true, true, false, false, false] rfl rfl (by kernel_rfl) (by decide) (fun K hK => ?_)
    clear hHeld
    go_simp
    refine hK.out _ _ ((rd3 (HF.out.alloc _).b0).2.2) (fun hHeld => ?_)
    clear hK K
    (try simp only [Act.put, List.setIfInBounds_toArray, List.set_cons_zero, List.set_cons_succ])
    refine last_ (i := 5) (N := some 17) #[true, true, true, true, true, true, false, false] rfl rfl (by kernel_rfl) (by decide) (fun K hK => ?_)
    refine st_app y_ rfl HF rfl rfl rfl rfl (by simp) ?_
    clear HF
    intro Av419 cv419 w420 okv419 HF
    refine hK.out _ _ ?_
    clear hK K
    (try simp only [Act.put, List.setIfInBounds_toArray, List.set_cons_zero, List.set_cons_succ])
    refine pq 6 (fl 8 7) (h := ?_)
    refine last_ (i := 7) (N := none) #[true, true, true, true, true, true, true, true] rfl rfl (by kernel_rfl) (by decide) (fun K hK => ?_)
    refine st_cell (p := 18) HF rfl rfl rfl rfl rfl rfl (.inl ⟨_, _, _, rfl⟩) rfl rfl ?_
    clear HF
    intro w421 HF
    refine hK.out _ _ ?_
    clear hK K
    (try simp only [Act.put, List.setIfInBounds_toArray, List.set_cons_zero, List.set_cons_succ])
    refine done_ (by kernel_rfl) ?_
    skip
    try simp only [Act.put, List.setIfInBounds_toArray, List.set_cons_zero, List.set_cons_succ]
    obtain ⟨q422a, q422b, q422c⟩ := rd3 HF.out.b0
    replace HF := Lib.hid HF.out.swap
    go_wp2_with (first
     | ((with_reducible refine gate_store (t := 25) (p := 4) rfl ?_); refine ev_put (p := 4) HF rfl rfl rfl rfl rfl rfl rfl ?_; clear HF; clear q422a q422b q422c; intro w423 HF))
    obtain rfl : PR.ok ⟨kd, s_, [y_]⟩ t5_ = r := HR.out
    refine bodyPost_ret (results_cell_row rfl _ _ _ 25 _ (0, 0) _ rfl HF.out.b0 Tryz.underlying25 rfl (by kernel_rfl)) rfl ?_
    exact ⟨⟨_, _, (by first | rfl | simp), HF.out.made⟩, HF.out.st, HF.out.keep⟩

set_option maxRecDepth 100000 in
set_option maxHeartbeats 8000000 in
theorem single_par (kd : Int) : PAll 109 (fun g => #[.pointer (some ⟨g, 0, none⟩), .int .i64 kd]) (singleP kd) := by
 intro w0 w g l ts h hne
 obtain ⟨r, hr⟩ : ∃ r, (singleP kd) ts = r := ⟨_, rfl⟩
 have HNE := Lib.hid hne
 have HF := Lib.hid (Fr.begin h)
 rw [hr] at HNE ⊢
 simp only [singleP] at hr
 have HR := Lib.hid hr
 clear h hne hr
 go_enter Tryz.func109, Tryz.ntmps109
 go_wp2_with (first
  | ((with_reducible refine gate_dst (N := 4) rfl ?_); refine ev_box HF rfl rfl (run_node rfl) ?_; clear HF; intro b1 w424 HF))
 cases h425 : smallP ts with
 | out => exact absurd ((PR.bind_out h425 _).symm.trans HR.out).symm HNE.out
 | bad t_ =>
  obtain rfl : PR.bad t_ = r := (PR.bind_bad h425 _).symm.trans HR.out
  refine (c_small_bad HF h425).mono ?_
  rintro e w_ ⟨rfl, HE⟩
  exact ⟨rfl, rfl, HE.out⟩
 | ok s_ t1_ =>
  have h_ := (PR.bind_ok h425 _).symm.trans HR.out
  clear HR
  try dsimp only at h_
  have HR := Lib.hid h_
  clear h_
  refine (c_small HF h425).mono ?_
  clear HF h425
  rintro e w426 ⟨rfl, HF⟩
  go_wp2_with (first
   | ((with_reducible refine gate_store (t := 25) (p := 4) rfl ?_); have HF2_ := Lib.hid (HF.out.nil); clear HF; have HF := HF2_; clear HF2_; refine ev_put (p := 4) HF rfl rfl rfl rfl rfl rfl rfl ?_; clear HF; intro w427 HF))
  obtain rfl : PR.ok ⟨kd, s_, []⟩ t1_ = r := HR.out
  refine bodyPost_ret (results_cell_row rfl _ _ _ 25 _ (0, 0) _ rfl HF.out.b0 Tryz.underlying25 rfl (by kernel_rfl)) rfl ?_
  exact ⟨⟨_, _, (by first | rfl | simp), HF.out.made⟩, HF.out.st, HF.out.keep⟩
end Go.Proofs.YtbndfgoklgdfdaaGreatDoor.P
