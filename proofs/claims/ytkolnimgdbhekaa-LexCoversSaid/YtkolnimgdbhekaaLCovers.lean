/- LexCovers: the walk. -/
import Derived.Test.YtkolnimgdbhekaaLStripP
import Derived.Test.YtkolnimgdbhekaaLSane
namespace Go.Proofs.Ytkolnimgdbhekaa.P
open Go.RowKit Go.Proofs.YtkolnimgdbhekaaW.PrintWords Go.Proofs.YtkolnimgdbhekaaW.PrintLast Go.Proofs.YtkolnimgdbhekaaW.PrintMore
set_option linter.unusedSimpArgs false
set_option linter.unusedVariables false

theorem info4 : (Try.prog.info? 4).map (fun i => (i.zero, i.size, i.bytes)) = some (some (.bool false), 1, 1) := by kernel_rfl
/-- What holds in LexCovers once the marks are made: the marks (block g), the tokens' row, the comments' row. -/
structure CovW (w : World) (g : Nat) (M : List Bool) (vT vC : Value) (ts : List S34) (cl : List (Nat × Nat)) (wr : World) : Prop where
  m : wr.heap[g]? = some (.cells (M.map Value.bool).toArray 4 (0, 0))
  t : Kd.R k34 34 wr w.heap.size (fun k => k ≠ g) vT ts
  c : Kd.R kP 39 wr w.heap.size (fun k => k ≠ g) vC cl
  b : Below w.heap.size w wr
  g : w.heap.size ≤ g
section
variable {w wr : World} {g : Nat} {M : List Bool} {vT vC : Value} {ts : List S34} {cl : List (Nat × Nat)}
theorem CovW.lt (h : CovW w g M vT vC ts cl wr) : g < wr.heap.size := (Array.getElem?_eq_some_iff.1 h.m).1
theorem CovW.below (h : CovW w g M vT vC ts cl wr) {w1 : World} (hb : Below wr.heap.size wr w1) : CovW w g M vT vC ts cl w1 :=
  ⟨(hb.block g h.lt).trans h.m, Kd.R_below h.t hb, Kd.R_below h.c hb, below_step h.b hb, h.g⟩
theorem CovW.set (h : CovW w g M vT vC ts cl wr) (k : Nat) : CovW w g (M.set k true) vT vC ts cl (wr.setCell ⟨g, k, none⟩ (.bool true)) := by
  refine ⟨?_, Kd.R_far h.t (p := ⟨g, k, none⟩) (fun _ hk => hk) _, Kd.R_far h.c (p := ⟨g, k, none⟩) (fun _ hk => hk) _, h.b.setCell (p := ⟨g, k, none⟩) h.g _, h.g⟩
  unfold World.setCell
  rw [Array.getElem?_modify, if_pos rfl, h.m]
  simp [List.map_set]
theorem CovW.cell (h : CovW w g M vT vC ts cl wr) (k : Nat) (hk : k < M.length) : wr.cell? ⟨g, k, none⟩ = some (.bool (M.getD k false)) := by
  simp [World.cell?, h.m, hk]
theorem CovW.frozen (h : CovW w g M vT vC ts cl wr) (k : Nat) : wr.frozen? ⟨g, k, none⟩ = false := by
  simp [World.frozen?, h.m]
end
theorem made_false (n : Nat) : madeCells #[.bool false] n = ((List.replicate n false).map Value.bool).toArray := by
  apply Array.ext'
  unfold madeCells
  simp [Nat.mod_one]
  apply List.ext_getElem
  · simp
  · intro i h1 h2
    simp
theorem getD_set (M : List Bool) (y x : Nat) : (M.set y true).getD x false = if x = y ∧ y < M.length then true else M.getD x false := by
  rw [List.getD_eq_getElem?_getD, List.getD_eq_getElem?_getD, List.getElem?_set]
  by_cases hxy : y = x
  · rw [if_pos hxy]
    by_cases hl : y < M.length
    · rw [if_pos hl, if_pos ⟨hxy.symm, hl⟩]
      rfl
    · rw [if_neg hl, if_neg (fun h => hl h.2), List.getElem?_eq_none (by omega)]
  · rw [if_neg hxy, if_neg (fun h => hxy h.1.symm)]
theorem inC_snoc (cl : List (Nat × Nat)) (k : Nat) (h : k < cl.length) (x : Nat) : inC (cl.take (k + 1)) x = (inC (cl.take k) x || (decide ((rdP cl k).1 ≤ x) && decide (x < (rdP cl k).2))) := by
  unfold inC rdP
  rw [List.take_succ_eq_append_getElem h, List.any_append]
  simp [h]
theorem inT_snoc (ts : List S34) (k : Nat) (h : k < ts.length) (x : Nat) : inT (ts.take (k + 1)) x = (inT (ts.take k) x || (decide (atT (rd_T34 ts k) ≤ x) && decide (x < atT (rd_T34 ts k) + (bsT (rd_T34 ts k)).length))) := by
  rw [rd_at ts k h]
  unfold inT
  rw [List.take_succ_eq_append_getElem h, List.any_append]
  simp
theorem okC_at : ∀ (l : List (Nat × Nat)) (f n k : Nat), okC l f n → k < l.length → (rdP l k).1 < (rdP l k).2 ∧ (rdP l k).2 ≤ n
  | (b, e) :: r, f, n, 0, ⟨_, h2, h3, _⟩, _ => ⟨h2, h3⟩
  | (b, e) :: r, f, n, k + 1, ⟨_, _, _, h4⟩, h => okC_at r e n k h4 (by simpa using h)

-- TABLE 21
def LexCovers.T21 : Bool × List (List Nat × List Nat) := (true, [([], []), ([0], [0]), ([1], [1]), ([2, 1], [2]), ([3], [3]), ([4, 3], [3, 4]), ([3], [3]), ([5, 6, 3], [3, 5, 6]), ([3, 7], [3, 7]), ([8, 3], [8]), ([9], [9]), ([10, 9], [9, 10]), ([9], [9]), ([12, 9], [9, 12]), ([13, 9], [9, 13]), ([11, 14, 9], [9, 11, 14]), ([9], [9]), ([16, 9], [9, 16]), ([15, 17, 9], [9, 15, 17]), ([9, 18], [9, 18]), ([19, 9], [19]), ([20], [20]), ([20], [20]), ([22, 20], [20, 22]), ([20], [20]), ([24, 20], [20, 24]), ([20], [20]), ([26, 20], [20, 26]), ([27, 20], [20, 27]), ([25, 28, 20], [20, 25, 28]), ([21, 23, 29, 20], [20, 21, 23, 29]), ([20], [20]), ([31, 20], [20, 31]), ([30, 32, 20], [20, 30, 32]), ([20, 33], [20, 33])])
def LexCovers.B21 : List Nat := [0, 1, 3, 7, 15, 31, 15, 127, 255, 511, 1023, 2047, 1023, 5119, 13311, 32767, 1023, 66559, 262143, 524287, 1048575, 2097151, 2097151, 6291455, 2097151, 18874367, 2097151, 69206015, 203423743, 522190847, 1073741823, 2097151, 2149580799, 8589934591, 17179869183]
theorem LexCovers.tab21 : rtab .any (opsOf Try.f8 21) = LexCovers.T21 := by kernel_rfl
theorem LexCovers.bits21 : waitsOk LexCovers.T21.2 LexCovers.B21 = true := by kernel_rfl
-- TABLE 21 END
set_option maxHeartbeats 8000000 in
set_option maxRecDepth 100000 in
theorem LexCovers_any (s : ByteArray) (w : World) (hs : s.size ≤ 140737488351232) :
    Calls Try.prog 8 #[.string s] w fun e w' => e = .returned (.bool true) ∧ Below w.heap.size w w' := by
  have HS := Lib.hid (fun w => peculiumlaw01_sane.calls true w rfl)
  rcases hsc : scanL s.data.toList with ⟨ts, a1, e1⟩
  have hf1 : lex_Scan.f s = some (ts, a1, e1) := by unfold lex_Scan.f; rw [if_pos hs, hsc]
  have HSC := Lib.hid (fun w => lex_Scan.calls s ts a1 e1 w hf1)
  by_cases he : e1 = 0
  · subst he
    have h20 := (toks_of_scanL hsc).1
    obtain ⟨ho, hcov⟩ := cover_all hsc
    have hnl : s.data.toList.length = s.size := by rw [Array.length_toList]; rfl
    have hsn : s.size ≤ 20000 := by omega
    have HCM := Lib.hid (fun w => comments_any s w (by omega))
    obtain ⟨cl, hcl⟩ : ∃ cl, cl = comS none 0 s.data.toList := ⟨_, rfl⟩
    have hok := (comS_ok s.data.toList).1 0 0 (Nat.le_refl _)
    rw [Nat.zero_add, hnl, ← hcl] at hok
    have hcll := okC_len cl 0 s.size (Nat.zero_le _) hok
    rw [← hcl] at HCM hcov
    rw [hnl] at hcov
    have htl : ts.length ≤ 6000 := (toks_of_scanL hsc).2.2.2
    obtain ⟨i0, hi, hz0, hz1, hz2⟩ := info_parts info4
    have hmk : ∀ u : World, (Instr.makeSlice 36 (.int .i64 (s.size : Int)) (.int .i64 (s.size : Int))).run Try.prog u =
        .ok (.slice (some ⟨u.heap.size, 0, none⟩) s.size s.size) (u.alloc (.cells (madeCells #[.bool false] s.size) 4)) := fun u => by
      have h := run_make (P := Try.prog) u 36 4 i0 (.bool false) Try.underlying36 hi hz0 .i64 .i64 (s.size : Int) (s.size : Int) (by omega) (Int.le_refl _) (by rw [hz2]; omega) (by omega)
      rw [Int.toNat_natCast] at h
      simpa [hz1, Value.cells] using h
    have HO := Lib.hid ho
    have HCV := Lib.hid hcov
    have HOK := Lib.hid hok
    have HNL := Lib.hid hnl
    clear hsc hf1 hcl hnl ho hcov hok hi hz0 hz1 hz2 h20
    go_enter Try.func8, Try.ntmps8
    go_wp2_with (first
      | (go_at_call 13; refine (HS.out _).mono ?_; rintro e w1 ⟨rfl, hb1⟩)
      | (go_at_call 14; refine (HSC.out _).mono ?_; rintro e w2 ⟨v2, rfl, hR2, hb2⟩; obtain ⟨A2, c2, rfl⟩ := Kd.R_slice hR2)
      | (go_at_call 23; refine (HCM.out _).mono ?_; rintro e w3 ⟨v3, rfl, hR3, hb3⟩; obtain ⟨A3, c3, rfl⟩ := Kd.R_slice (pairs_R hR3)))
    obtain ⟨g, hg⟩ : ∃ g, g = w2.heap.size := ⟨_, rfl⟩
    have hW0 : CovW w g (List.replicate s.size false) (.slice A2 ts.length c2) (.slice A3 cl.length c3) ts cl w3 := by
      refine ⟨?_, ?_, ?_, ?_, ?_⟩
      · rw [hg, hb3.block _ (by simp), ← made_false]
        exact Go.heap_alloc_new _ _
      · have h1 := Kd.R_elderB hR2 g (by omega)
        exact Kd.R_lower (Kd.R_mono (Kd.R_below (Kd.R_alloc h1 _) hb3) (fun _ hk => hk.2)) hb1.size
      · have h1 := pairs_R hR3
        rw [World.size_alloc] at h1
        have := hb1.size
        have := hb2.size
        exact Kd.R_lower (Kd.R_mono (Kd.R_bound h1) (fun k hk => by have := hk.2.1; omega)) (by omega)
      · exact below_step (below_alloc (below_step hb1 hb2) _) hb3
      · have := hb1.size
        have := hb2.size
        omega
    rw [← hg]
    have HW0 := Lib.hid hW0
    clear hW0 hR2 hR3 hb1 hb2 hb3 hg
    go_loopw [9] (fun i wr => ∃ (k : Nat) (M : List Bool), i = .int .i64 k ∧ k ≤ cl.length ∧ M.length = s.size ∧ CovW w g M (.slice A2 ts.length c2) (.slice A3 cl.length c3) ts cl wr ∧ ∀ x, x < s.size → M.getD x false = inC (cl.take k) x) (fun i _ => cl.length - (intOf i).toNat)
    case atStart => exact ⟨0, _, rfl, Nat.zero_le _, List.length_replicate, HW0.out, fun x hx => by simp [inC, hx]⟩
    case round =>
      obtain ⟨k, M, rfl, hk, hM, hW, hx⟩ := hrel
      have HW := Lib.hid hW
      have HX := Lib.hid hx
      clear hW hx
      by_cases hlt : k < cl.length
      · obtain ⟨a0, e0, p0, p1⟩ := at_P (Kd.R_reads' HW.out.c).2.2 k hlt
        subst e0
        obtain ⟨q, hq⟩ : ∃ q, q = rdP cl k := ⟨_, rfl⟩
        rw [← hq] at p0 p1
        obtain ⟨h1, h2⟩ := okC_at cl 0 s.size k HOK.out hlt
        rw [← hq] at h1 h2
        have HQ := Lib.hid hq
        clear hq
        go_wp2_with fail
        go_quiet (fail)
        go_wp2_with fail
        go_loopw [10] (fun kk wz => ∃ (y : Nat) (M1 : List Bool), kk = .int .i64 y ∧ q.1 ≤ y ∧ y ≤ q.2 ∧ M1.length = s.size ∧ CovW w g M1 (.slice A2 ts.length c2) (.slice (some a0) cl.length c3) ts cl wz ∧ ∀ x, x < s.size → M1.getD x false = (inC (cl.take k) x || (decide (q.1 ≤ x) && decide (x < y)))) (fun kk _ => q.2 - (intOf kk).toNat)
        case atStart =>
          refine ⟨q.1, M, rfl, Nat.le_refl _, by omega, hM, HW.out.below (pw_below_drewN (Below.refl _ _) _), fun x hx => ?_⟩
          rw [HX.out x hx]
          by_cases hqx : q.1 ≤ x
          · rw [decide_eq_false (show ¬ x < q.1 by omega), Bool.and_false, Bool.or_false]
          · rw [decide_eq_false hqx, Bool.false_and, Bool.or_false]
        case round =>
          obtain ⟨y, M1, rfl, hy1, hy2, hM1, hW1, hx1⟩ := hrel
          have HW1 := Lib.hid hW1
          have HX1 := Lib.hid hx1
          obtain ⟨a9, e9, p2, p3⟩ := at_P (Kd.R_reads' HW1.out.c).2.2 k hlt
          cases e9
          rw [← HQ.out] at p2 p3
          clear hW1 hx1
          by_cases hy : y < q.2
          · have hyM : y < s.size := by omega
            have f1 := HW1.out.frozen y
            have c1 := HW1.out.cell y (by omega)
            go_wp2_with fail
            refine ⟨⟨y + 1, M1.set y true, by go_num, by omega, by omega, by rw [List.length_set]; exact hM1, HW1.out.set y, fun x hx => ?_⟩, by simp [intOf]; omega⟩
            rw [getD_set, HX1.out x hx]
            by_cases hxy : x = y
            · rw [if_pos ⟨hxy, by omega⟩, decide_eq_true (show q.1 ≤ x by omega), decide_eq_true (show x < y + 1 by omega)]
              simp
            · rw [if_neg (fun h => hxy h.1)]
              congr 2
              rw [Bool.eq_iff_iff]
              simp
              omega
          · go_wp2_with fail
            refine ⟨⟨k + 1, M1, by go_num, by omega, hM1, HW1.out, fun x hx => ?_⟩, by simp [intOf]; omega⟩
            rw [HX1.out x hx, inC_snoc cl k hlt x, ← HQ.out, show y = q.2 by omega]
      · have hkl : k = cl.length := by omega
        have hx := HX.out
        rw [List.take_of_length_le (by omega)] at hx
        have HX2 := Lib.hid hx
        clear hx
        go_wp2_with fail
        go_loopw [11, 12] (fun e i wz => ∃ (j f : Nat) (M1 : List Bool), e = .int .i64 f ∧ i = .int .i64 j ∧ j ≤ ts.length ∧ M1.length = s.size ∧ CovW w g M1 (.slice A2 ts.length c2) (.slice A3 cl.length c3) ts cl wz ∧ (∀ x, x < s.size → M1.getD x false = (inC cl x || inT (ts.take j) x)) ∧ ordT s.data.toList f (ts.drop j) ∧ ∀ x, f ≤ x → inT (ts.take j) x = false) (fun _ i _ => ts.length - (intOf i).toNat)
        case atStart => exact ⟨0, 0, M, rfl, rfl, Nat.zero_le _, hM, HW.out, fun x hx => by rw [HX2.out x hx]; simp [inT], HO.out, fun x _ => rfl⟩
        case round =>
          obtain ⟨j, f, M1, rfl, rfl, hj, hM1, hW1, hx1, ho1, hf1⟩ := hrel
          have HW1 := Lib.hid hW1
          have HX1 := Lib.hid hx1
          have HO1 := Lib.hid ho1
          have HF1 := Lib.hid hf1
          clear hW1 hx1 ho1 hf1
          by_cases hjl : j < ts.length
          · obtain ⟨a0, e0, p0, p1, p2⟩ := at_T34 (Kd.R_reads' HW1.out.t).2.2 j (by omega) (by omega)
            subst e0
            obtain ⟨t, ht⟩ : ∃ t, t = rd_T34 ts j := ⟨_, rfl⟩
            have hdr := rdT_drop ts j hjl
            rw [← ht] at p0 p1 p2 hdr
            rw [Int.toNat_natCast] at p0 p1 p2
            have ho := HO1.out
            rw [hdr] at ho
            obtain ⟨o1, o2, o3, o4, o5, o6⟩ := ho
            obtain ⟨a, ha⟩ : ∃ a, a = atT t := ⟨_, rfl⟩
            rw [← ha] at o1 o2 o3 o4 o6
            have HT := Lib.hid ht
            have HD := Lib.hid hdr
            have H4 := Lib.hid o4
            have H6 := Lib.hid o6
            have HA := Lib.hid ha
            have hz := okT_size t o5
            have hck : lex_Check.f t.f0 t.f1 t.f2 = some 0 := by rw [check_f t (by omega), o5]; rfl
            rw [o1] at hck
            have hat1 : a + t.f1.size ≤ s.size := by rw [bsT_len] at o3; rw [← HNL.out]; exact o3
            have hslice : (s.extract a (a + t.f1.size)).toList = t.f1.toList := by
              rw [extract_take, Lib.toList_data, ← bsT_len]
              exact o4
            have HCK := Lib.hid hck
            have H5 := Lib.hid o5
            rw [o1] at p2
            clear ht hdr o4 o6 ha o5 hck
            go_wp2_with fail
            obtain ⟨N, hN⟩ : ∃ N, N = wr.heap.size := ⟨_, rfl⟩
            obtain ⟨W2, hW2⟩ : ∃ W2, W2 = wr.alloc (.cells #[.int .i64 t.f0, .string t.f1, .int .i64 (a : Int)] 34) := ⟨_, rfl⟩
            rw [← hN, ← hW2]
            have hCW : CovW w g M1 (.slice (some a0) ts.length c2) (.slice A3 cl.length c3) ts cl W2 := by rw [hW2]; exact HW1.out.below (below_alloc (Below.refl _ _) _)
            have HCW := Lib.hid hCW
            have hblk : W2.heap[N]? = some (.cells #[.int .i64 t.f0, .string t.f1, .int .i64 (a : Int)] 34 (0, 0)) := by rw [hW2, hN]; exact Go.heap_alloc_new _ _
            have x0 : W2.cell? ⟨N, 0, none⟩ = some (.int .i64 t.f0) := by simp [World.cell?, hblk]
            have x1 : W2.cell? ⟨N, 1, none⟩ = some (.string t.f1) := by simp [World.cell?, hblk]
            have x2 : W2.cell? ⟨N, 2, none⟩ = some (.int .i64 (a : Int)) := by simp [World.cell?, hblk]
            obtain ⟨z, hz⟩ : ∃ z, z = a + t.f1.size := ⟨_, rfl⟩
            have hn1 : decide (a < f) = false := decide_eq_false (by omega)
            have hd1 : decide ((a : Int) < (f : Int)) = false := decide_eq_false (by omega)
            have hd2 : decide ((s.size : Int) < (z : Int)) = false := decide_eq_false (by omega)
            have hn2 : decide (s.size < z) = false := decide_eq_false (by omega)
            have hz1 : a ≤ z := by omega
            have hz2 : z ≤ s.size := by omega
            have hz3 : z ≤ 20000 := by omega
            have HZ := Lib.hid hz
            have hw1 : wrap64 ((a : Int) + (t.f1.size : Int)) = (z : Int) := by rw [hz, ← Int.natCast_add]; exact wrap_nat _ (by omega)
            have hw2 : IntKind.i64.wrap ((a : Int) + (t.f1.size : Int)) = (z : Int) := (i64_w _).trans hw1
            rw [← hz] at hslice
            have hd3 : ((s.extract a z).toList != t.f1.toList) = false := by rw [hslice]; simp
            have hn3 : ((s.extract a z).toList == t.f1.toList) = true := by rw [hslice]; simp
            clear hN hW2 p0 p1 p2 hz hat1 hCW hblk
            -- REGION 21
            refine start_ (n := 35) (S := fun w' => w'.cell? ⟨N, 0, none⟩ = some (.int .i64 t.f0) ∧ w'.cell? ⟨N, 1, none⟩ = some (.string t.f1) ∧ w'.cell? ⟨N, 2, none⟩ = some (.int .i64 (a : Int))) (ds := []) #[false, false, false, false, false, false, false, false, false, false, false, false, false, false, false, false, false, false, false, false, false, false, false, false, false, false, false, false, false, false, false, false, false, false, false] (by kernel_rfl) rfl rfl ⟨x0, x1, x2⟩ (fun hHeld => ?_)
            refine with_tabW LexCovers.tab21 LexCovers.bits21 (fun HT_ HW_ => ?_)
            obtain ⟨Wd, hWd⟩ : ∃ Wd, Wd = W2.drew := ⟨_, rfl⟩
            rw [← hWd] at hHeld ⊢
            refine take_ (i := 0) (N := some 97) (v := ?_) (a' := ?_) #[true, false, false, false, false, false, false, false, false, false, false, false, false, false, false, false, false, false, false, false, false, false, false, false, false, false, false, false, false, false, false, false, false, false, false] rfl rfl (take_ofW HT_.out HW_.out (by kernel_rfl)) (fun _ _ _ h => h) (Or.inl ⟨by rfl, ?_⟩) hHeld ?_ ?_
            rotate_left
            · rintro w' ⟨s0, s1, s2⟩
              go_simp
              with_reducible rfl
            rotate_left
            · simp only [Act.put, List.setIfInBounds_toArray, List.set_cons_zero, List.set_cons_succ, i64_w, i32_w]
              rfl
            refine one_ (i := 1) (N := some 98) #[true, true, false, false, false, false, false, false, false, false, false, false, false, false, false, false, false, false, false, false, false, false, false, false, false, false, false, false, false, false, false, false, false, false, false] rfl rfl (one_of HT_.out (by kernel_rfl)) (by decide) (fun K hK => ?_)
            refine goes_ Try.func24 (by kernel_rfl) rfl #[.agg #[.int .i64 t.f0, .string t.f1, .int .i64 (a : Int)]] (by rfl) rfl rfl (by (try simp only [List.map_toArray, List.map_cons, List.map_nil]); first | done | rfl) ?_
            refine (lex_Check.calls _ _ _ _ _ HCK.out).mono ?_
            rintro e w3 ⟨rfl, hb3⟩
            refine ⟨_, rfl, ?_⟩
            obtain ⟨s0, s1, s2⟩ := hHeld
            have hS3 : w3.cell? ⟨N, 0, none⟩ = some (.int .i64 t.f0) ∧ w3.cell? ⟨N, 1, none⟩ = some (.string t.f1) ∧ w3.cell? ⟨N, 2, none⟩ = some (.int .i64 (a : Int)) := ⟨(hb3.cell (World.block_lt_of_cell? _ _ s0)).trans s0, (hb3.cell (World.block_lt_of_cell? _ _ s1)).trans s1, (hb3.cell (World.block_lt_of_cell? _ _ s2)).trans s2⟩
            refine hK.out _ _ hS3 (fun hHeld => ?_)
            clear hK K
            refine norm_ (a' := ?_) ?_ ?_
            rotate_left
            · show Act.put _ (some 98) _ = _
              simp only [Act.put, List.setIfInBounds_toArray, List.set_cons_zero, List.set_cons_succ, i64_w, i32_w]
              rfl
            refine pure_ (i := 2) (N := some 99) (v := ?_) (a' := ?_) #[true, true, true, false, false, false, false, false, false, false, false, false, false, false, false, false, false, false, false, false, false, false, false, false, false, false, false, false, false, false, false, false, false, false, false] rfl rfl (any_of HT_.out (by kernel_rfl)) (fun _ _ _ h => h) (Or.inl ⟨by rfl, ?_⟩) ?_ ?_
            rotate_left
            · intro w'
              go_simp
              with_reducible rfl
            rotate_left
            · simp only [Act.put, List.setIfInBounds_toArray, List.set_cons_zero, List.set_cons_succ, i64_w, i32_w]
              rfl
            refine pure_ (i := 3) (N := some 100) (v := ?_) (a' := ?_) #[true, true, true, true, false, false, false, false, false, false, false, false, false, false, false, false, false, false, false, false, false, false, false, false, false, false, false, false, false, false, false, false, false, false, false] rfl rfl (any_of HT_.out (by kernel_rfl)) (fun _ _ _ h => h) (Or.inl ⟨by rfl, ?_⟩) ?_ ?_
            rotate_left
            · intro w'
              go_simp
              with_reducible rfl
            rotate_left
            · simp only [Act.put, List.setIfInBounds_toArray, List.set_cons_zero, List.set_cons_succ, i64_w, i32_w]
              rfl
            refine pure_ (i := 4) (N := some 101) (v := ?_) (a' := ?_) #[true, true, true, true, true, false, false, false, false, false, false, false, false, false, false, false, false, false, false, false, false, false, false, false, false, false, false, false, false, false, false, false, false, false, false] rfl rfl (any_of HT_.out (by kernel_rfl)) (fun _ _ _ h => h) (Or.inl ⟨by rfl, ?_⟩) ?_ ?_
            rotate_left
            · intro w'
              go_simp
              with_reducible rfl
            rotate_left
            · simp only [Act.put, List.setIfInBounds_toArray, List.set_cons_zero, List.set_cons_succ, i64_w, i32_w]
              rfl
            refine pure_ (i := 6) (N := some 103) (v := ?_) (a' := ?_) #[true, true, true, true, true, false, true, false, false, false, false, false, false, false, false, false, false, false, false, false, false, false, false, false, false, false, false, false, false, false, false, false, false, false, false] rfl rfl (any_of HT_.out (by kernel_rfl)) (fun _ _ _ h => h) (Or.inl ⟨by rfl, ?_⟩) ?_ ?_
            rotate_left
            · intro w'
              go_simp
              with_reducible rfl
            rotate_left
            · simp only [Act.put, List.setIfInBounds_toArray, List.set_cons_zero, List.set_cons_succ, i64_w, i32_w]
              rfl
            refine take_ (i := 5) (N := some 102) (v := ?_) (a' := ?_) #[true, true, true, true, true, true, true, false, false, false, false, false, false, false, false, false, false, false, false, false, false, false, false, false, false, false, false, false, false, false, false, false, false, false, false] rfl rfl (take_ofW HT_.out HW_.out (by kernel_rfl)) (fun _ _ _ h => h) (Or.inl ⟨by rfl, ?_⟩) hHeld ?_ ?_
            rotate_left
            · rintro w' ⟨s0, s1, s2⟩
              go_simp
              with_reducible rfl
            rotate_left
            · simp only [Act.put, List.setIfInBounds_toArray, List.set_cons_zero, List.set_cons_succ, i64_w, i32_w]
              rfl
            refine pure_ (i := 7) (N := some 104) (v := ?_) (a' := ?_) #[true, true, true, true, true, true, true, true, false, false, false, false, false, false, false, false, false, false, false, false, false, false, false, false, false, false, false, false, false, false, false, false, false, false, false] rfl rfl (any_of HT_.out (by kernel_rfl)) (fun _ _ _ h => h) (Or.inl ⟨by rfl, ?_⟩) ?_ ?_
            rotate_left
            · intro w'
              go_simp
              first | rw [hd1] | rw [hn1] | skip
              with_reducible rfl
            rotate_left
            · simp only [Act.put, List.setIfInBounds_toArray, List.set_cons_zero, List.set_cons_succ, i64_w, i32_w]
              rfl
            refine pure_ (i := 8) (N := some 105) (v := ?_) (a' := ?_) #[true, true, true, true, true, true, true, true, true, false, false, false, false, false, false, false, false, false, false, false, false, false, false, false, false, false, false, false, false, false, false, false, false, false, false] rfl rfl (any_of HT_.out (by kernel_rfl)) (fun _ _ _ h => h) (Or.inl ⟨by rfl, ?_⟩) ?_ ?_
            rotate_left
            · intro w'
              go_simp
              with_reducible rfl
            rotate_left
            · simp only [Act.put, List.setIfInBounds_toArray, List.set_cons_zero, List.set_cons_succ, i64_w, i32_w]
              rfl
            refine pure_ (i := 9) (N := some 106) (v := ?_) (a' := ?_) #[true, true, true, true, true, true, true, true, true, true, false, false, false, false, false, false, false, false, false, false, false, false, false, false, false, false, false, false, false, false, false, false, false, false, false] rfl rfl (any_of HT_.out (by kernel_rfl)) (fun _ _ _ h => h) (Or.inl ⟨by rfl, ?_⟩) ?_ ?_
            rotate_left
            · intro w'
              go_simp
              with_reducible rfl
            rotate_left
            · simp only [Act.put, List.setIfInBounds_toArray, List.set_cons_zero, List.set_cons_succ, i64_w, i32_w]
              rfl
            refine pure_ (i := 10) (N := some 107) (v := ?_) (a' := ?_) #[true, true, true, true, true, true, true, true, true, true, true, false, false, false, false, false, false, false, false, false, false, false, false, false, false, false, false, false, false, false, false, false, false, false, false] rfl rfl (any_of HT_.out (by kernel_rfl)) (fun _ _ _ h => h) (Or.inl ⟨by rfl, ?_⟩) ?_ ?_
            rotate_left
            · intro w'
              go_simp
              with_reducible rfl
            rotate_left
            · simp only [Act.put, List.setIfInBounds_toArray, List.set_cons_zero, List.set_cons_succ, i64_w, i32_w]
              rfl
            refine pure_ (i := 12) (N := some 109) (v := ?_) (a' := ?_) #[true, true, true, true, true, true, true, true, true, true, true, false, true, false, false, false, false, false, false, false, false, false, false, false, false, false, false, false, false, false, false, false, false, false, false] rfl rfl (any_of HT_.out (by kernel_rfl)) (fun _ _ _ h => h) (Or.inl ⟨by rfl, ?_⟩) ?_ ?_
            rotate_left
            · intro w'
              go_simp
              with_reducible rfl
            rotate_left
            · simp only [Act.put, List.setIfInBounds_toArray, List.set_cons_zero, List.set_cons_succ, i64_w, i32_w]
              rfl
            refine pure_ (i := 16) (N := some 113) (v := ?_) (a' := ?_) #[true, true, true, true, true, true, true, true, true, true, true, false, true, false, false, false, true, false, false, false, false, false, false, false, false, false, false, false, false, false, false, false, false, false, false] rfl rfl (any_of HT_.out (by kernel_rfl)) (fun _ _ _ h => h) (Or.inl ⟨by rfl, ?_⟩) ?_ ?_
            rotate_left
            · intro w'
              go_simp
              with_reducible rfl
            rotate_left
            · simp only [Act.put, List.setIfInBounds_toArray, List.set_cons_zero, List.set_cons_succ, i64_w, i32_w]
              rfl
            refine pure_ (i := 17) (N := some 114) (v := ?_) (a' := ?_) #[true, true, true, true, true, true, true, true, true, true, true, false, true, false, false, false, true, true, false, false, false, false, false, false, false, false, false, false, false, false, false, false, false, false, false] rfl rfl (any_of HT_.out (by kernel_rfl)) (fun _ _ _ h => h) (Or.inl ⟨by rfl, ?_⟩) ?_ ?_
            rotate_left
            · intro w'
              go_simp
              with_reducible rfl
            rotate_left
            · simp only [Act.put, List.setIfInBounds_toArray, List.set_cons_zero, List.set_cons_succ, i64_w, i32_w]
              rfl
            refine take_ (i := 11) (N := some 108) (v := ?_) (a' := ?_) #[true, true, true, true, true, true, true, true, true, true, true, true, true, false, false, false, true, true, false, false, false, false, false, false, false, false, false, false, false, false, false, false, false, false, false] rfl rfl (take_ofW HT_.out HW_.out (by kernel_rfl)) (fun _ _ _ h => h) (Or.inl ⟨by rfl, ?_⟩) hHeld ?_ ?_
            rotate_left
            · rintro w' ⟨s0, s1, s2⟩
              go_simp
              with_reducible rfl
            rotate_left
            · simp only [Act.put, List.setIfInBounds_toArray, List.set_cons_zero, List.set_cons_succ, i64_w, i32_w]
              rfl
            refine take_ (i := 13) (N := some 110) (v := ?_) (a' := ?_) #[true, true, true, true, true, true, true, true, true, true, true, true, true, true, false, false, true, true, false, false, false, false, false, false, false, false, false, false, false, false, false, false, false, false, false] rfl rfl (take_ofW HT_.out HW_.out (by kernel_rfl)) (fun _ _ _ h => h) (Or.inl ⟨by rfl, ?_⟩) hHeld ?_ ?_
            rotate_left
            · rintro w' ⟨s0, s1, s2⟩
              go_simp
              with_reducible rfl
            rotate_left
            · simp only [Act.put, List.setIfInBounds_toArray, List.set_cons_zero, List.set_cons_succ, i64_w, i32_w]
              rfl
            refine pure_ (i := 14) (N := some 111) (v := ?_) (a' := ?_) #[true, true, true, true, true, true, true, true, true, true, true, true, true, true, true, false, true, true, false, false, false, false, false, false, false, false, false, false, false, false, false, false, false, false, false] rfl rfl (any_of HT_.out (by kernel_rfl)) (fun _ _ _ h => h) (Or.inl ⟨by rfl, ?_⟩) ?_ ?_
            rotate_left
            · intro w'
              go_simp
              with_reducible rfl
            rotate_left
            · simp only [Act.put, List.setIfInBounds_toArray, List.set_cons_zero, List.set_cons_succ, i64_w, i32_w]
              rfl
            refine pure_ (i := 15) (N := some 112) (v := ?_) (a' := ?_) #[true, true, true, true, true, true, true, true, true, true, true, true, true, true, true, true, true, true, false, false, false, false, false, false, false, false, false, false, false, false, false, false, false, false, false] rfl rfl (any_of HT_.out (by kernel_rfl)) (fun _ _ _ h => h) (Or.inl ⟨by rfl, ?_⟩) ?_ ?_
            rotate_left
            · intro w'
              go_simp
              first | rw [hw2] | rw [hw1] | skip
              with_reducible rfl
            rotate_left
            · simp only [Act.put, List.setIfInBounds_toArray, List.set_cons_zero, List.set_cons_succ, i64_w, i32_w]
              rfl
            refine pure_ (i := 18) (N := some 115) (v := ?_) (a' := ?_) #[true, true, true, true, true, true, true, true, true, true, true, true, true, true, true, true, true, true, true, false, false, false, false, false, false, false, false, false, false, false, false, false, false, false, false] rfl rfl (any_of HT_.out (by kernel_rfl)) (fun _ _ _ h => h) (Or.inl ⟨by rfl, ?_⟩) ?_ ?_
            rotate_left
            · intro w'
              go_simp
              first | rw [hd2] | rw [hn2] | skip
              with_reducible rfl
            rotate_left
            · simp only [Act.put, List.setIfInBounds_toArray, List.set_cons_zero, List.set_cons_succ, i64_w, i32_w]
              rfl
            refine pure_ (i := 19) (N := some 116) (v := ?_) (a' := ?_) #[true, true, true, true, true, true, true, true, true, true, true, true, true, true, true, true, true, true, true, true, false, false, false, false, false, false, false, false, false, false, false, false, false, false, false] rfl rfl (any_of HT_.out (by kernel_rfl)) (fun _ _ _ h => h) (Or.inl ⟨by rfl, ?_⟩) ?_ ?_
            rotate_left
            · intro w'
              go_simp
              with_reducible rfl
            rotate_left
            · simp only [Act.put, List.setIfInBounds_toArray, List.set_cons_zero, List.set_cons_succ, i64_w, i32_w]
              rfl
            refine pure_ (i := 20) (N := some 117) (v := ?_) (a' := ?_) #[true, true, true, true, true, true, true, true, true, true, true, true, true, true, true, true, true, true, true, true, true, false, false, false, false, false, false, false, false, false, false, false, false, false, false] rfl rfl (any_of HT_.out (by kernel_rfl)) (fun _ _ _ h => h) (Or.inl ⟨by rfl, ?_⟩) ?_ ?_
            rotate_left
            · intro w'
              go_simp
              with_reducible rfl
            rotate_left
            · simp only [Act.put, List.setIfInBounds_toArray, List.set_cons_zero, List.set_cons_succ, i64_w, i32_w]
              rfl
            refine pure_ (i := 21) (N := some 118) (v := ?_) (a' := ?_) #[true, true, true, true, true, true, true, true, true, true, true, true, true, true, true, true, true, true, true, true, true, true, false, false, false, false, false, false, false, false, false, false, false, false, false] rfl rfl (any_of HT_.out (by kernel_rfl)) (fun _ _ _ h => h) (Or.inl ⟨by rfl, ?_⟩) ?_ ?_
            rotate_left
            · intro w'
              go_simp
              with_reducible rfl
            rotate_left
            · simp only [Act.put, List.setIfInBounds_toArray, List.set_cons_zero, List.set_cons_succ, i64_w, i32_w]
              rfl
            refine pure_ (i := 22) (N := some 119) (v := ?_) (a' := ?_) #[true, true, true, true, true, true, true, true, true, true, true, true, true, true, true, true, true, true, true, true, true, true, true, false, false, false, false, false, false, false, false, false, false, false, false] rfl rfl (any_of HT_.out (by kernel_rfl)) (fun _ _ _ h => h) (Or.inl ⟨by rfl, ?_⟩) ?_ ?_
            rotate_left
            · intro w'
              go_simp
              with_reducible rfl
            rotate_left
            · simp only [Act.put, List.setIfInBounds_toArray, List.set_cons_zero, List.set_cons_succ, i64_w, i32_w]
              rfl
            refine pure_ (i := 24) (N := some 121) (v := ?_) (a' := ?_) #[true, true, true, true, true, true, true, true, true, true, true, true, true, true, true, true, true, true, true, true, true, true, true, false, true, false, false, false, false, false, false, false, false, false, false] rfl rfl (any_of HT_.out (by kernel_rfl)) (fun _ _ _ h => h) (Or.inl ⟨by rfl, ?_⟩) ?_ ?_
            rotate_left
            · intro w'
              go_simp
              with_reducible rfl
            rotate_left
            · simp only [Act.put, List.setIfInBounds_toArray, List.set_cons_zero, List.set_cons_succ, i64_w, i32_w]
              rfl
            refine pure_ (i := 26) (N := some 123) (v := ?_) (a' := ?_) #[true, true, true, true, true, true, true, true, true, true, true, true, true, true, true, true, true, true, true, true, true, true, true, false, true, false, true, false, false, false, false, false, false, false, false] rfl rfl (any_of HT_.out (by kernel_rfl)) (fun _ _ _ h => h) (Or.inl ⟨by rfl, ?_⟩) ?_ ?_
            rotate_left
            · intro w'
              go_simp
              with_reducible rfl
            rotate_left
            · simp only [Act.put, List.setIfInBounds_toArray, List.set_cons_zero, List.set_cons_succ, i64_w, i32_w]
              rfl
            refine pure_ (i := 31) (N := some 128) (v := ?_) (a' := ?_) #[true, true, true, true, true, true, true, true, true, true, true, true, true, true, true, true, true, true, true, true, true, true, true, false, true, false, true, false, false, false, false, true, false, false, false] rfl rfl (any_of HT_.out (by kernel_rfl)) (fun _ _ _ h => h) (Or.inl ⟨by rfl, ?_⟩) ?_ ?_
            rotate_left
            · intro w'
              go_simp
              with_reducible rfl
            rotate_left
            · simp only [Act.put, List.setIfInBounds_toArray, List.set_cons_zero, List.set_cons_succ, i64_w, i32_w]
              rfl
            refine take_ (i := 23) (N := some 120) (v := ?_) (a' := ?_) #[true, true, true, true, true, true, true, true, true, true, true, true, true, true, true, true, true, true, true, true, true, true, true, true, true, false, true, false, false, false, false, true, false, false, false] rfl rfl (take_ofW HT_.out HW_.out (by kernel_rfl)) (fun _ _ _ h => h) (Or.inl ⟨by rfl, ?_⟩) hHeld ?_ ?_
            rotate_left
            · rintro w' ⟨s0, s1, s2⟩
              go_simp
              with_reducible rfl
            rotate_left
            · simp only [Act.put, List.setIfInBounds_toArray, List.set_cons_zero, List.set_cons_succ, i64_w, i32_w]
              rfl
            refine take_ (i := 25) (N := some 122) (v := ?_) (a' := ?_) #[true, true, true, true, true, true, true, true, true, true, true, true, true, true, true, true, true, true, true, true, true, true, true, true, true, true, true, false, false, false, false, true, false, false, false] rfl rfl (take_ofW HT_.out HW_.out (by kernel_rfl)) (fun _ _ _ h => h) (Or.inl ⟨by rfl, ?_⟩) hHeld ?_ ?_
            rotate_left
            · rintro w' ⟨s0, s1, s2⟩
              go_simp
              with_reducible rfl
            rotate_left
            · simp only [Act.put, List.setIfInBounds_toArray, List.set_cons_zero, List.set_cons_succ, i64_w, i32_w]
              rfl
            refine take_ (i := 27) (N := some 124) (v := ?_) (a' := ?_) #[true, true, true, true, true, true, true, true, true, true, true, true, true, true, true, true, true, true, true, true, true, true, true, true, true, true, true, true, false, false, false, true, false, false, false] rfl rfl (take_ofW HT_.out HW_.out (by kernel_rfl)) (fun _ _ _ h => h) (Or.inl ⟨by rfl, ?_⟩) hHeld ?_ ?_
            rotate_left
            · rintro w' ⟨s0, s1, s2⟩
              go_simp
              with_reducible rfl
            rotate_left
            · simp only [Act.put, List.setIfInBounds_toArray, List.set_cons_zero, List.set_cons_succ, i64_w, i32_w]
              rfl
            refine pure_ (i := 28) (N := some 125) (v := ?_) (a' := ?_) #[true, true, true, true, true, true, true, true, true, true, true, true, true, true, true, true, true, true, true, true, true, true, true, true, true, true, true, true, true, false, false, true, false, false, false] rfl rfl (any_of HT_.out (by kernel_rfl)) (fun _ _ _ h => h) (Or.inl ⟨by rfl, ?_⟩) ?_ ?_
            rotate_left
            · intro w'
              go_simp
              with_reducible rfl
            rotate_left
            · simp only [Act.put, List.setIfInBounds_toArray, List.set_cons_zero, List.set_cons_succ, i64_w, i32_w]
              rfl
            refine pure_ (i := 29) (N := some 126) (v := ?_) (a' := ?_) #[true, true, true, true, true, true, true, true, true, true, true, true, true, true, true, true, true, true, true, true, true, true, true, true, true, true, true, true, true, true, false, true, false, false, false] rfl rfl (any_of HT_.out (by kernel_rfl)) (fun _ _ _ h => h) (Or.inl ⟨by rfl, ?_⟩) ?_ ?_
            rotate_left
            · intro w'
              go_simp
              first | rw [hw2] | rw [hw1] | skip
              with_reducible rfl
            rotate_left
            · simp only [Act.put, List.setIfInBounds_toArray, List.set_cons_zero, List.set_cons_succ, i64_w, i32_w]
              rfl
            refine pure_ (i := 30) (N := some 127) (v := ?_) (a' := ?_) #[true, true, true, true, true, true, true, true, true, true, true, true, true, true, true, true, true, true, true, true, true, true, true, true, true, true, true, true, true, true, true, true, false, false, false] rfl rfl (any_of HT_.out (by kernel_rfl)) (fun _ _ _ h => h) (Or.inl ⟨by rfl, ?_⟩) ?_ ?_
            rotate_left
            · intro w'
              go_simp
              with_reducible rfl
            rotate_left
            · simp only [Act.put, List.setIfInBounds_toArray, List.set_cons_zero, List.set_cons_succ, i64_w, i32_w]
              rfl
            refine take_ (i := 32) (N := some 129) (v := ?_) (a' := ?_) #[true, true, true, true, true, true, true, true, true, true, true, true, true, true, true, true, true, true, true, true, true, true, true, true, true, true, true, true, true, true, true, true, true, false, false] rfl rfl (take_ofW HT_.out HW_.out (by kernel_rfl)) (fun _ _ _ h => h) (Or.inl ⟨by rfl, ?_⟩) hHeld ?_ ?_
            rotate_left
            · rintro w' ⟨s0, s1, s2⟩
              go_simp
              with_reducible rfl
            rotate_left
            · simp only [Act.put, List.setIfInBounds_toArray, List.set_cons_zero, List.set_cons_succ, i64_w, i32_w]
              rfl
            refine pure_ (i := 33) (N := some 130) (v := ?_) (a' := ?_) #[true, true, true, true, true, true, true, true, true, true, true, true, true, true, true, true, true, true, true, true, true, true, true, true, true, true, true, true, true, true, true, true, true, true, false] rfl rfl (any_of HT_.out (by kernel_rfl)) (fun _ _ _ h => h) (Or.inl ⟨by rfl, ?_⟩) ?_ ?_
            rotate_left
            · intro w'
              go_simp
              first | rw [hd3] | rw [hn3] | skip
              with_reducible rfl
            rotate_left
            · simp only [Act.put, List.setIfInBounds_toArray, List.set_cons_zero, List.set_cons_succ, i64_w, i32_w]
              rfl
            refine pure_ (i := 34) (N := some 131) (v := ?_) (a' := ?_) #[true, true, true, true, true, true, true, true, true, true, true, true, true, true, true, true, true, true, true, true, true, true, true, true, true, true, true, true, true, true, true, true, true, true, true] rfl rfl (any_of HT_.out (by kernel_rfl)) (fun _ _ _ h => h) (Or.inl ⟨by rfl, ?_⟩) ?_ ?_
            rotate_left
            · intro w'
              go_simp
              with_reducible rfl
            rotate_left
            · simp only [Act.put, List.setIfInBounds_toArray, List.set_cons_zero, List.set_cons_succ, i64_w, i32_w]
              rfl
            -- REGION 21 END
            refine done_ (done_of HT_.out (by kernel_rfl)) ?_
            obtain ⟨s0, s1, s2⟩ := hHeld
            have hbd : Below W2.heap.size W2 Wd := by rw [hWd]; exact below_drew1 (Below.refl _ _)
            have hC3 : CovW w g M1 (.slice (some a0) ts.length c2) (.slice A3 cl.length c3) ts cl w3 := (HCW.out.below hbd).below hb3
            have HC3 := Lib.hid hC3
            clear hb3 hWd hC3 x0 x1 x2 hbd
            have hlen : (bsT t).length = t.f1.size := bsT_len t
            have hlen2 : a + (bsT t).length = z := by rw [hlen]; exact HZ.out.symm
            have H6' := H6.out
            rw [hlen2] at H6'
            have H6z := Lib.hid H6'
            have hin : ∀ x, inT (ts.take (j + 1)) x = (inT (ts.take j) x || (decide (a ≤ x) && decide (x < z))) := fun x => by
              rw [← hlen2, HA.out, HT.out]
              exact inT_snoc ts j hjl x
            have hall : ∀ x, a ≤ x → x < z → inT ts x = true := fun x h1 h2 => by
              have h3 : ts = ts.take (j + 1) ++ ts.drop (j + 1) := (List.take_append_drop _ _).symm
              rw [h3]
              show ((ts.take (j + 1) ++ ts.drop (j + 1)).any _) = true
              rw [List.any_append]
              have h4 := hin x
              unfold inT at h4
              rw [h4, decide_eq_true h1, decide_eq_true h2]
              simp
            have HIN := Lib.hid hin
            have HALL := Lib.hid hall
            clear hin hall hlen hlen2 H6' hd1 hn1 hd2 hn2 hd3 hn3
            go_wp2_with fail
            clear hw1 hw2
            go_loopw [14] (fun kk wz => ∃ (y : Nat) (M2 : List Bool), kk = .int .i64 y ∧ a ≤ y ∧ y ≤ z ∧ M2.length = s.size ∧ CovW w g M2 (.slice (some a0) ts.length c2) (.slice A3 cl.length c3) ts cl wz ∧ ∀ x, x < s.size → M2.getD x false = (inC cl x || inT (ts.take j) x || (decide (a ≤ x) && decide (x < y)))) (fun kk _ => z - (intOf kk).toNat)
            case atStart =>
              refine ⟨a, M1, rfl, Nat.le_refl _, hz1, hM1, HC3.out, fun x hx => ?_⟩
              rw [HX1.out x hx]
              by_cases hqx : a ≤ x
              · rw [decide_eq_false (show ¬ x < a by omega), Bool.and_false, Bool.or_false]
              · rw [decide_eq_false hqx, Bool.false_and, Bool.or_false]
            case round =>
              obtain ⟨y, M2, rfl, hy1, hy2, hM2, hW2, hx2⟩ := hrel
              have HW2 := Lib.hid hW2
              have HX2' := Lib.hid hx2
              clear hW2 hx2
              by_cases hy : y < z
              · have hys : y < s.size := by omega
                have hmk0 : M2.getD y false = false := by
                  rw [HX2'.out y hys, (HCV.out y hys).1 (HALL.out y hy1 hy), HF1.out y (by omega), decide_eq_false (show ¬ y < y by omega), Bool.and_false]
                  rfl
                have f1 := HW2.out.frozen y
                have c1 := HW2.out.cell y (by omega)
                rw [hmk0] at c1
                clear hmk0
                go_wp2_with fail
                refine ⟨⟨y + 1, M2.set y true, by go_num, by omega, by omega, by rw [List.length_set]; exact hM2, HW2.out.set y, fun x hx => ?_⟩, by simp [intOf]; omega⟩
                rw [getD_set, HX2'.out x hx]
                by_cases hxy : x = y
                · rw [if_pos ⟨hxy, by omega⟩, decide_eq_true (show a ≤ x by omega), decide_eq_true (show x < y + 1 by omega)]
                  simp
                · rw [if_neg (fun h => hxy h.1)]
                  congr 2
                  rw [Bool.eq_iff_iff]
                  simp
                  omega
              · go_wp2_with fail
                have hyz : y = z := by omega
                refine ⟨⟨j + 1, z, M2, rfl, by go_num, by omega, hM2, HW2.out, fun x hx => ?_, H6z.out, fun x hx => ?_⟩, by simp [intOf]; omega⟩
                · rw [HX2'.out x hx, HIN.out x, hyz, Bool.or_assoc]
                · rw [HIN.out x, HF1.out x (by omega), decide_eq_false (show ¬ x < z by omega), Bool.and_false]
                  rfl
          · have hjt : j = ts.length := by omega
            have hx := HX1.out
            rw [List.take_of_length_le (by omega)] at hx
            have HXF := Lib.hid hx
            clear hx
            go_wp2_with fail
            go_loopw [15] (fun i wz => ∃ (y : Nat), i = .int .i64 y ∧ y ≤ s.size ∧ CovW w g M1 (.slice A2 ts.length c2) (.slice A3 cl.length c3) ts cl wz) (fun i _ => s.size - (intOf i).toNat)
            case atStart => exact ⟨0, rfl, Nat.zero_le _, HW1.out⟩
            case round =>
              obtain ⟨y, rfl, hy, hW3⟩ := hrel
              have HW3 := Lib.hid hW3
              clear hW3
              by_cases hys : y < s.size
              · have c1 := HW3.out.cell y (by omega)
                have hg : s.data.toList[y]? = some s[y] := by simp [hys]; rfl
                have hmv : M1.getD y false = true ∨ (M1.getD y false = false ∧ (s[y] = 32 ∨ s[y] = 9 ∨ s[y] = 10)) := by
                  rw [HXF.out y hys]
                  cases hc : inC cl y
                  · cases ht : inT ts y
                    · rcases (HCV.out y hys).2 ht with h | ⟨b, h1, h2⟩
                      · rw [hc] at h; cases h
                      · rw [hg] at h1
                        obtain rfl := Option.some.inj h1
                        refine .inr ⟨rfl, ?_⟩
                        unfold blankB at h2
                        simp at h2
                        rcases h2 with (h2 | h2) | h2
                        · exact .inl h2
                        · exact .inr (.inl h2)
                        · exact .inr (.inr h2)
                    · exact .inl rfl
                  · exact .inl rfl
                rcases hmv with hm | ⟨hm, h32 | h9 | h10⟩
                · rw [hm] at c1
                  go_wp2_with fail
                  exact ⟨⟨y + 1, by go_num, by omega, HW3.out⟩, by simp [intOf]; omega⟩
                · rw [hm] at c1
                  have g1 : ((s[y].toNat : Int) != 32) = false := by rw [h32]; rfl
                  clear h32 hg
                  go_wp2_with fail
                  exact ⟨⟨y + 1, by go_num, by omega, HW3.out⟩, by simp [intOf]; omega⟩
                · rw [hm] at c1
                  have g1 : ((s[y].toNat : Int) != 32) = true := by rw [h9]; rfl
                  have g2 : ((s[y].toNat : Int) != 9) = false := by rw [h9]; rfl
                  clear h9 hg
                  go_wp2_with fail
                  exact ⟨⟨y + 1, by go_num, by omega, HW3.out⟩, by simp [intOf]; omega⟩
                · rw [hm] at c1
                  have g1 : ((s[y].toNat : Int) != 32) = true := by rw [h10]; rfl
                  have g2 : ((s[y].toNat : Int) != 9) = true := by rw [h10]; rfl
                  have g3 : ((s[y].toNat : Int) != 10) = false := by rw [h10]; rfl
                  clear h10 hg
                  go_wp2_with fail
                  exact ⟨⟨y + 1, by go_num, by omega, HW3.out⟩, by simp [intOf]; omega⟩
              · go_wp2_with fail
                go_ret
                exact ⟨rfl, HW3.out.b⟩
  · have he1 : (e1 != 0) = true := by simpa using he
    clear hsc hf1
    go_enter Try.func8, Try.ntmps8
    go_wp2_with (first
      | (go_at_call 13; refine (HS.out _).mono ?_; rintro e w1 ⟨rfl, hb1⟩)
      | (go_at_call 14; refine (HSC.out _).mono ?_; rintro e w2 ⟨v2, rfl, hR2, hb2⟩; obtain ⟨A2, c2, rfl⟩ := Kd.R_slice hR2))
    go_ret
    exact ⟨by simp, below_step hb1 hb2⟩
end Go.Proofs.Ytkolnimgdbhekaa.P
