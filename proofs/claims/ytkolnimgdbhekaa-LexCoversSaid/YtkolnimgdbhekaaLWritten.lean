/- lex.written with each of the two closures; lex.Join, lex.Tight. -/
import Derived.Test.YtkolnimgdbhekaaLTight
import Derived.Test.YtkolnimgdbhekaaLBuild
import Derived.Deep.DeepCutAuto
namespace Go.Proofs.Ytkolnimgdbhekaa.P
open Go.RowKit Go.Proofs.YtkolnimgdbhekaaW.PrintWords Go.Proofs.YtkolnimgdbhekaaW.PrintLast Go.Proofs.YtkolnimgdbhekaaW.PrintMore

theorem bAt_below {tb e : TypeId} {B b : Nat} {p : Value} {bs : List Value} {W W' : World} (h : Lib.BuilderAtF tb e B b p bs W) (hb : Below W.heap.size W W') : Lib.BuilderAtF tb e B b p bs W' := by
  have hlt := h.lt
  obtain ⟨hB, v, hbk, hown, hne⟩ := h
  exact ⟨hB, v, (hb.block b hlt).trans hbk, hown.kept (row := none) ⟨hb.os, hb.tape, hb.output, hb.size, fun k hk _ => hb.block k hk⟩ (by cases v.ownBlock <;> simp), hne⟩
theorem bIs_below {tb e : TypeId} {B b : Nat} {bs : List Value} {W W' : World} (h : Lib.IsBuilderF tb e B b bs W) (hb : Below W.heap.size W W') : Lib.IsBuilderF tb e B b bs W' :=
  h.elim (fun x => .inl (bAt_below x hb)) (fun x => .inr (bAt_below x hb))

def sepB (sp : S34 → S34 → Bool) : Option S34 → S34 → Bool
  | none, _ => false
  | some q, t => sp q t
def joinW (sp : S34 → S34 → Bool) : Option S34 → List S34 → List UInt8 → Option (List UInt8)
  | _, [], acc => some acc
  | p, t :: r, acc => if okT t then joinW sp (some t) r (acc ++ ((if sepB sp p t then [32] else []) ++ t.f1.data.toList)) else none
def cut20 : Option (List UInt8) → List UInt8
  | none => []
  | some acc => if 20000 < acc.length then [] else acc
def writtenL (sp : S34 → S34 → Bool) (l : List S34) : List UInt8 :=
  if 6000 < l.length then [] else cut20 (joinW sp none l [])

set_option maxHeartbeats 4000000 in
set_option maxRecDepth 100000 in
theorem written_join (A0 : Option Addr) (c0 : Nat) (l : List S34) (w : World) (hr0 : Kd.C k34 w A0 l.length l) (hsz : ∀ t ∈ l, t.f1.size ≤ 140737488351232) :
    Calls Try.prog 51 #[.slice A0 l.length c0, .func (.func 52) #[] #[]] w fun e w' => e = .returned (.string ⟨(writtenL joinSp l).toArray⟩) ∧ Below w.heap.size w w' := by
  by_cases h6 : 6000 < l.length
  · have hw : writtenL joinSp l = [] := by unfold writtenL; rw [if_pos h6]
    rw [hw]
    clear hw
    go_enter Try.func51, Try.ntmps51
    go_wp2_with fail
    go_ret
    exact ⟨rfl, Below.refl _ _⟩
  · obtain ⟨R, hR⟩ : ∃ R, R = joinW joinSp none l [] := ⟨_, rfl⟩
    have hw : writtenL joinSp l = cut20 R := by unfold writtenL; rw [if_neg h6, ← hR]
    rw [hw]
    have HR := Lib.hid hR
    have HR0 := Lib.hid hr0
    have HSZ := Lib.hid hsz
    clear hR hw hr0 hsz
    go_enter Try.func51, Try.ntmps51
    go_wp2_with fail
    obtain ⟨B, hB⟩ : ∃ B, B = w.heap.size := ⟨_, rfl⟩
    rw [← hB]
    have HB := Lib.hid hB
    clear hB
    go_loopw [13] (fun i wr => ∃ (k : Nat) (acc : List UInt8) (prev : Option S34), i = .int .i64 k ∧ k ≤ l.length ∧ Lib.IsBuilderF 75 5 B B (Lib.byteCells acc) wr ∧ Below B w wr ∧ joinW joinSp prev (l.drop k) acc = R ∧ acc.length ≤ k * 20001 ∧ (k = 0 ∧ prev = none ∨ 0 < k ∧ prev = some (rd_T34 l ((k : Int) - 1)) ∧ okT (rd_T34 l ((k : Int) - 1)) = true)) (fun i _ => l.length - (intOf i).toNat)
    case atStart =>
      refine ⟨0, [], none, rfl, Nat.zero_le _, ?_, ?_, HR.out.symm, by simp, .inl ⟨rfl, rfl⟩⟩
      · have := Lib.IsBuilderF.of (Lib.fresh_isBuilder 75 5 w)
        rw [← HB.out] at this
        exact this
      · rw [HB.out]
        exact (Below.refl _ _).alloc (Nat.le_refl _) _
    case round =>
      obtain ⟨k, acc, prev, rfl, hk, hI, hbw, hj, hacc, hprev⟩ := hrel
      have HI := Lib.hid hI
      have HBW := Lib.hid hbw
      have HJ := Lib.hid hj
      have HP := Lib.hid hprev
      have hbz : B ≤ wr.heap.size := by have := hbw.size; have := HB.out; omega
      clear hI hbw hj hprev
      by_cases hlt : k < l.length
      · obtain ⟨a0, e0, p0, p1, p2⟩ := at_T34 (Kd.C_below HR0.out (by rw [← HB.out]; exact HBW.out)) k (by omega) (by omega)
        obtain ⟨x, hx⟩ : ∃ x, x = rd_T34 l k := ⟨_, rfl⟩
        have hdr := rdT_drop l k hlt
        rw [← hx] at p0 p1 p2 hdr
        rw [Int.toNat_natCast] at p0 p1 p2
        have hxs : x.f1.size ≤ 140737488351232 := HSZ.out x (List.mem_of_mem_drop (i := k) (by rw [hdr]; exact List.mem_cons_self ..))
        have HX := Lib.hid hx
        have HDR := Lib.hid hdr
        clear hx hdr
        subst e0
        cases hok : okT x
        · have hck : lex_Check.f x.f0 x.f1 x.f2 = some 12 := by rw [check_f x hxs, hok]; rfl
          have HCK := Lib.hid hck
          have hRn : R = none := by rw [← HJ.out, HDR.out]; simp [joinW, hok]
          subst hRn
          clear hck hok
          go_wp2_with (go_at_call 24; refine (lex_Check.calls x.f0 x.f1 x.f2 12 _ HCK.out).mono ?_; rintro e w2 ⟨rfl, hb2⟩)
          go_ret
          refine ⟨rfl, ?_⟩
          rw [← HB.out]
          exact (HBW.out.alloc hbz _).trans (hb2.mono (by simp; omega))
        · have hck : lex_Check.f x.f0 x.f1 x.f2 = some 0 := by rw [check_f x hxs, hok]; rfl
          have HCK := Lib.hid hck
          have hx2 := okT_size x hok
          have HOK := Lib.hid hok
          clear hck hok
          go_upto_region 9 with (go_at_call 24; refine (lex_Check.calls x.f0 x.f1 x.f2 0 _ HCK.out).mono ?_; rintro e w2 ⟨rfl, hb2⟩)
          have hbn : w2.heap[wr.heap.size]? = some (.cells #[.int .i64 x.f0, .string x.f1, .int .i64 x.f2] 34 (0, 0)) := by rw [hb2.block _ (by simp)]; exact Go.heap_alloc_new _ _
          have hI2 : Lib.IsBuilderF 75 5 B B (Lib.byteCells acc) w2 := bIs_below (HI.out.alloc _) hb2
          have hbw2 : Below B w w2 := (HBW.out.alloc hbz _).trans (hb2.mono (by simp; omega))
          have hNB : B ≠ wr.heap.size := by rcases HI.out with h | h <;> (have := h.lt; omega)
          have hN2 : wr.heap.size < w2.heap.size := by have := hb2.size; simp at this; omega
          have hz2 : B ≤ w2.heap.size := by omega
          obtain ⟨N, hN⟩ : ∃ N, N = wr.heap.size := ⟨_, rfl⟩
          rw [← hN] at hbn hNB hN2 ⊢
          have HI2 := Lib.hid hI2
          have HBW2 := Lib.hid hbw2
          have HBN := Lib.hid hbn
          have x0 : w2.cell? ⟨N, 0, none⟩ = some (.int .i64 x.f0) := by simp [World.cell?, hbn]
          have x1 : w2.cell? ⟨N, 1, none⟩ = some (.string x.f1) := by simp [World.cell?, hbn]
          have x2 : w2.cell? ⟨N, 2, none⟩ = some (.int .i64 x.f2) := by simp [World.cell?, hbn]
          clear hI2 hbw2 hbn hb2 hN p0 p1 p2
          go_cut [32] (fun v wx => v = .bool (sepB joinSp prev x) ∧ Below w2.heap.size w2 wx)
          case first =>
            rcases HP.out with ⟨rfl, rfl⟩ | ⟨hk0, rfl, hok1⟩
            · go_region
              go_wp2_with fail
              go_meet
              exact ⟨rfl, (Below.refl _ _).drew⟩
            · obtain ⟨m, rfl⟩ : ∃ m, k = m + 1 := ⟨k - 1, by omega⟩
              have em : ((m + 1 : Nat) : Int) - 1 = (m : Int) := by omega
              obtain ⟨y, hy⟩ : ∃ y, y = rd_T34 l (((m + 1 : Nat) : Int) - 1) := ⟨_, rfl⟩
              have hm1 : m < l.length := by omega
              have hm2 : (m : Int) < (l.length : Int) := by omega
              have hm3 : (0 : Int) ≤ (m : Int) := by omega
              have hm4 : IntKind.i64.wrap (m : Int) = (m : Int) := by rw [IntKind.wrap_i64]; omega
              rw [← hy] at hok1
              have HY := Lib.hid hy
              have hys := okT_size y hok1
              rw [em] at hy
              obtain ⟨a1, e1, q0, q1, q2⟩ := at_T34 (Kd.C_below HR0.out (by rw [← HB.out]; exact HBW2.out)) m (by omega) (by omega)
              obtain rfl : a0 = a1 := Option.some.inj e1
              rw [Int.toNat_natCast, ← hy] at q0 q1 q2
              clear e1 hy em hok1
              go_region_held3 (fun w' => w'.cell? ⟨N, 0, none⟩ = some (.int .i64 x.f0) ∧ w'.cell? ⟨N, 1, none⟩ = some (.string x.f1) ∧ w'.cell? ⟨N, 2, none⟩ = some (.int .i64 x.f2) ∧ w'.cell? (a0.add (m * 3)) = some (.int .i64 y.f0) ∧ w'.cell? ⟨(a0.add (m * 3)).block, (a0.add (m * 3)).off + 1, none⟩ = some (.string y.f1) ∧ w'.cell? ⟨(a0.add (m * 3)).block, (a0.add (m * 3)).off + 2, none⟩ = some (.int .i64 y.f2))
                (first | go_keep | (have kp : ∀ (p : Addr) (u : Value), w2.cell? p = some u → w3.cell? p = some u := (fun p u h => (hb3.cell (World.block_lt_of_cell? w2 _ h)).trans h); exact ⟨kp _ _ x0, kp _ _ x1, kp _ _ x2, kp _ _ q0, kp _ _ q1, kp _ _ q2⟩))
                (first | (go_at_call 52; refine (join1_any y x hys hx2 _).mono ?_; rintro e w3 ⟨rfl, hb3⟩))
              go_wp2_with fail
              go_meet
              exact ⟨by rw [← HY.out]; rfl, ((Below.refl w2.heap.size w2).drew).trans hb3⟩
          case rest =>
            obtain ⟨rfl, hb3⟩ := hcut
            have hIc : Lib.IsBuilderF 75 5 B B (Lib.byteCells acc) wc := bIs_below HI2.out hb3
            have hbc : Below B w wc := HBW2.out.trans (hb3.mono hz2)
            have hbnc : wc.heap[N]? = some (.cells #[.int .i64 x.f0, .string x.f1, .int .i64 x.f2] 34 (0, 0)) := (hb3.block N hN2).trans HBN.out
            have hzc : B ≤ wc.heap.size := Nat.le_trans hz2 hb3.size
            have hl1 : (Lib.byteCells acc).length + x.f1.size ≤ 140737488355328 := by rw [Lib.byteCells_length]; omega
            have hl2 : (Lib.byteCells acc).length + 1 ≤ 140737488355328 := by rw [Lib.byteCells_length]; omega
            have hl3 : (Lib.byteCells acc ++ [Value.int .u8 32]).length + x.f1.size ≤ 140737488355328 := by rw [List.length_append, Lib.byteCells_length]; simp; omega
            have hnu : ∀ c fz, (Obj.cells #[.int .i64 x.f0, .string x.f1, .int .i64 x.f2] 34 (0, 0)) ≠ .cells c 5 fz := fun c fz h => by cases h
            have HIC := Lib.hid hIc
            have HBC := Lib.hid hbc
            have HBNC := Lib.hid hbnc
            have HNU := Lib.hid hnu
            clear hIc hbc hbnc hb3 x0 x1 x2 hnu
            cases hsp : sepB joinSp prev x
            · have HSP := Lib.hid hsp
              have x1 : wc.cell? ⟨N, 1, none⟩ = some (.string x.f1) := by simp [World.cell?, HBNC.out]
              clear hsp
              go_wp2_with (go_at_call 65; refine (bWriteString B B (Lib.byteCells acc) x.f1 wc HIC.out hl1 hzc).mono ?_; rintro e w4 ⟨rfl, h4, b4, k4⟩)
              have hJ := HJ.out
              rw [HDR.out] at hJ
              simp only [joinW, HOK.out, HSP.out, if_true, Bool.false_eq_true, if_false, List.nil_append] at hJ
              refine ⟨⟨k + 1, acc ++ x.f1.data.toList, some x, by go_num, by omega, .inr ?_, HBC.out.trans b4, hJ, ?_, .inr ⟨by omega, ?_, ?_⟩⟩, by simp [intOf]; omega⟩
              · rw [Lib.byteCells_append]; exact h4
              · simp; omega
              · rw [show ((k + 1 : Nat) : Int) - 1 = (k : Int) by omega, ← HX.out]
              · rw [show ((k + 1 : Nat) : Int) - 1 = (k : Int) by omega, ← HX.out]; exact HOK.out
            · have HSP := Lib.hid hsp
              clear hsp
              go_wp2_with fail
              refine (bWriteByte B B (Lib.byteCells acc) 32 wc HIC.out hl2 hzc).mono ?_
              rintro e w4 ⟨rfl, h4, b4, k4⟩
              have x1 : w4.cell? ⟨N, 1, none⟩ = some (.string x.f1) := by simp [World.cell?, k4 N _ HBNC.out (by simp; omega) HNU.out]
              have H4 := Lib.hid h4
              have B4 := Lib.hid b4
              have hz4 : B ≤ w4.heap.size := Nat.le_trans hzc b4.size
              clear h4 b4 k4
              go_wp2_with (go_at_call 65; refine (bWriteString B B (Lib.byteCells acc ++ [.int .u8 32]) x.f1 w4 (.inr H4.out) hl3 hz4).mono ?_; rintro e w5 ⟨rfl, h5, b5, k5⟩)
              have hJ := HJ.out
              rw [HDR.out] at hJ
              simp only [joinW, HOK.out, HSP.out, if_true, List.cons_append, List.nil_append] at hJ
              refine ⟨⟨k + 1, acc ++ 32 :: x.f1.data.toList, some x, by go_num, by omega, .inr ?_, (HBC.out.trans B4.out).trans b5, hJ, ?_, .inr ⟨by omega, ?_, ?_⟩⟩, by simp [intOf]; omega⟩
              · rw [show acc ++ 32 :: x.f1.data.toList = (acc ++ [32]) ++ x.f1.data.toList by simp, Lib.byteCells_append, Lib.byteCells_append]; exact h5
              · simp; omega
              · rw [show ((k + 1 : Nat) : Int) - 1 = (k : Int) by omega, ← HX.out]
              · rw [show ((k + 1 : Nat) : Int) - 1 = (k : Int) by omega, ← HX.out]; exact HOK.out
      · have hz := hbz
        have hRs : R = some acc := by rw [← HJ.out, List.drop_of_length_le (by omega)]; rfl
        have HRS := Lib.hid hRs
        clear hRs
        by_cases h20 : 20000 < acc.length
        · have hc : (decide (20000 < (Lib.byteCells acc).length)) = true := by rw [Lib.byteCells_length]; simpa using h20
          go_wp2_with (go_at_call 76; refine (bLen B B (Lib.byteCells acc) wr HI.out).mono ?_; rintro e w2 ⟨rfl, rfl⟩; rw [Lib.byteCells_length])
          go_ret
          refine ⟨?_, by rw [← HB.out]; exact HBW.out⟩
          rw [HRS.out, cut20, if_pos h20]
          rfl
        · go_wp2_with (first | (go_at_call 76; refine (bLen B B (Lib.byteCells acc) wr HI.out).mono ?_; rintro e w2 ⟨rfl, hw⟩; obtain rfl : wr = w2 := hw.symm; rw [Lib.byteCells_length]) | (go_at_call 66; refine (bString B B acc wr HI.out hbz).mono ?_; rintro e w3 ⟨rfl, h3, b3, k3⟩))
          go_ret
          refine ⟨?_, by rw [← HB.out]; exact HBW.out.trans b3⟩
          rw [HRS.out, cut20, if_neg h20]
          rfl


set_option maxHeartbeats 4000000 in
set_option maxRecDepth 100000 in
theorem written_tight (A0 : Option Addr) (c0 : Nat) (l : List S34) (w : World) (hr0 : Kd.C k34 w A0 l.length l) (hsz : ∀ t ∈ l, t.f1.size ≤ 140737488351232) :
    Calls Try.prog 51 #[.slice A0 l.length c0, .func (.func 54) #[] #[]] w fun e w' => e = .returned (.string ⟨(writtenL tightSp l).toArray⟩) ∧ Below w.heap.size w w' := by
  by_cases h6 : 6000 < l.length
  · have hw : writtenL tightSp l = [] := by unfold writtenL; rw [if_pos h6]
    rw [hw]
    clear hw
    go_enter Try.func51, Try.ntmps51
    go_wp2_with fail
    go_ret
    exact ⟨rfl, Below.refl _ _⟩
  · obtain ⟨R, hR⟩ : ∃ R, R = joinW tightSp none l [] := ⟨_, rfl⟩
    have hw : writtenL tightSp l = cut20 R := by unfold writtenL; rw [if_neg h6, ← hR]
    rw [hw]
    have HR := Lib.hid hR
    have HR0 := Lib.hid hr0
    have HSZ := Lib.hid hsz
    clear hR hw hr0 hsz
    go_enter Try.func51, Try.ntmps51
    go_wp2_with fail
    obtain ⟨B, hB⟩ : ∃ B, B = w.heap.size := ⟨_, rfl⟩
    rw [← hB]
    have HB := Lib.hid hB
    clear hB
    go_loopw [13] (fun i wr => ∃ (k : Nat) (acc : List UInt8) (prev : Option S34), i = .int .i64 k ∧ k ≤ l.length ∧ Lib.IsBuilderF 75 5 B B (Lib.byteCells acc) wr ∧ Below B w wr ∧ joinW tightSp prev (l.drop k) acc = R ∧ acc.length ≤ k * 20001 ∧ (k = 0 ∧ prev = none ∨ 0 < k ∧ prev = some (rd_T34 l ((k : Int) - 1)) ∧ okT (rd_T34 l ((k : Int) - 1)) = true)) (fun i _ => l.length - (intOf i).toNat)
    case atStart =>
      refine ⟨0, [], none, rfl, Nat.zero_le _, ?_, ?_, HR.out.symm, by simp, .inl ⟨rfl, rfl⟩⟩
      · have := Lib.IsBuilderF.of (Lib.fresh_isBuilder 75 5 w)
        rw [← HB.out] at this
        exact this
      · rw [HB.out]
        exact (Below.refl _ _).alloc (Nat.le_refl _) _
    case round =>
      obtain ⟨k, acc, prev, rfl, hk, hI, hbw, hj, hacc, hprev⟩ := hrel
      have HI := Lib.hid hI
      have HBW := Lib.hid hbw
      have HJ := Lib.hid hj
      have HP := Lib.hid hprev
      have hbz : B ≤ wr.heap.size := by have := hbw.size; have := HB.out; omega
      clear hI hbw hj hprev
      by_cases hlt : k < l.length
      · obtain ⟨a0, e0, p0, p1, p2⟩ := at_T34 (Kd.C_below HR0.out (by rw [← HB.out]; exact HBW.out)) k (by omega) (by omega)
        obtain ⟨x, hx⟩ : ∃ x, x = rd_T34 l k := ⟨_, rfl⟩
        have hdr := rdT_drop l k hlt
        rw [← hx] at p0 p1 p2 hdr
        rw [Int.toNat_natCast] at p0 p1 p2
        have hxs : x.f1.size ≤ 140737488351232 := HSZ.out x (List.mem_of_mem_drop (i := k) (by rw [hdr]; exact List.mem_cons_self ..))
        have HX := Lib.hid hx
        have HDR := Lib.hid hdr
        clear hx hdr
        subst e0
        cases hok : okT x
        · have hck : lex_Check.f x.f0 x.f1 x.f2 = some 12 := by rw [check_f x hxs, hok]; rfl
          have HCK := Lib.hid hck
          have hRn : R = none := by rw [← HJ.out, HDR.out]; simp [joinW, hok]
          subst hRn
          clear hck hok
          go_wp2_with (go_at_call 24; refine (lex_Check.calls x.f0 x.f1 x.f2 12 _ HCK.out).mono ?_; rintro e w2 ⟨rfl, hb2⟩)
          go_ret
          refine ⟨rfl, ?_⟩
          rw [← HB.out]
          exact (HBW.out.alloc hbz _).trans (hb2.mono (by simp; omega))
        · have hck : lex_Check.f x.f0 x.f1 x.f2 = some 0 := by rw [check_f x hxs, hok]; rfl
          have HCK := Lib.hid hck
          have hx2 := okT_size x hok
          have HOK := Lib.hid hok
          clear hck hok
          go_upto_region 9 with (go_at_call 24; refine (lex_Check.calls x.f0 x.f1 x.f2 0 _ HCK.out).mono ?_; rintro e w2 ⟨rfl, hb2⟩)
          have hbn : w2.heap[wr.heap.size]? = some (.cells #[.int .i64 x.f0, .string x.f1, .int .i64 x.f2] 34 (0, 0)) := by rw [hb2.block _ (by simp)]; exact Go.heap_alloc_new _ _
          have hI2 : Lib.IsBuilderF 75 5 B B (Lib.byteCells acc) w2 := bIs_below (HI.out.alloc _) hb2
          have hbw2 : Below B w w2 := (HBW.out.alloc hbz _).trans (hb2.mono (by simp; omega))
          have hNB : B ≠ wr.heap.size := by rcases HI.out with h | h <;> (have := h.lt; omega)
          have hN2 : wr.heap.size < w2.heap.size := by have := hb2.size; simp at this; omega
          have hz2 : B ≤ w2.heap.size := by omega
          obtain ⟨N, hN⟩ : ∃ N, N = wr.heap.size := ⟨_, rfl⟩
          rw [← hN] at hbn hNB hN2 ⊢
          have HI2 := Lib.hid hI2
          have HBW2 := Lib.hid hbw2
          have HBN := Lib.hid hbn
          have x0 : w2.cell? ⟨N, 0, none⟩ = some (.int .i64 x.f0) := by simp [World.cell?, hbn]
          have x1 : w2.cell? ⟨N, 1, none⟩ = some (.string x.f1) := by simp [World.cell?, hbn]
          have x2 : w2.cell? ⟨N, 2, none⟩ = some (.int .i64 x.f2) := by simp [World.cell?, hbn]
          clear hI2 hbw2 hbn hb2 hN p0 p1 p2
          go_cut [32] (fun v wx => v = .bool (sepB tightSp prev x) ∧ Below w2.heap.size w2 wx)
          case first =>
            rcases HP.out with ⟨rfl, rfl⟩ | ⟨hk0, rfl, hok1⟩
            · go_region
              go_wp2_with fail
              go_meet
              exact ⟨rfl, (Below.refl _ _).drew⟩
            · obtain ⟨m, rfl⟩ : ∃ m, k = m + 1 := ⟨k - 1, by omega⟩
              have em : ((m + 1 : Nat) : Int) - 1 = (m : Int) := by omega
              obtain ⟨y, hy⟩ : ∃ y, y = rd_T34 l (((m + 1 : Nat) : Int) - 1) := ⟨_, rfl⟩
              have hm1 : m < l.length := by omega
              have hm2 : (m : Int) < (l.length : Int) := by omega
              have hm3 : (0 : Int) ≤ (m : Int) := by omega
              have hm4 : IntKind.i64.wrap (m : Int) = (m : Int) := by rw [IntKind.wrap_i64]; omega
              rw [← hy] at hok1
              have HY := Lib.hid hy
              have hys := okT_size y hok1
              rw [em] at hy
              obtain ⟨a1, e1, q0, q1, q2⟩ := at_T34 (Kd.C_below HR0.out (by rw [← HB.out]; exact HBW2.out)) m (by omega) (by omega)
              obtain rfl : a0 = a1 := Option.some.inj e1
              rw [Int.toNat_natCast, ← hy] at q0 q1 q2
              clear e1 hy em hok1
              go_region_held3 (fun w' => w'.cell? ⟨N, 0, none⟩ = some (.int .i64 x.f0) ∧ w'.cell? ⟨N, 1, none⟩ = some (.string x.f1) ∧ w'.cell? ⟨N, 2, none⟩ = some (.int .i64 x.f2) ∧ w'.cell? (a0.add (m * 3)) = some (.int .i64 y.f0) ∧ w'.cell? ⟨(a0.add (m * 3)).block, (a0.add (m * 3)).off + 1, none⟩ = some (.string y.f1) ∧ w'.cell? ⟨(a0.add (m * 3)).block, (a0.add (m * 3)).off + 2, none⟩ = some (.int .i64 y.f2))
                (first | go_keep | (have kp : ∀ (p : Addr) (u : Value), w2.cell? p = some u → w3.cell? p = some u := (fun p u h => (hb3.cell (World.block_lt_of_cell? w2 _ h)).trans h); exact ⟨kp _ _ x0, kp _ _ x1, kp _ _ x2, kp _ _ q0, kp _ _ q1, kp _ _ q2⟩))
                (first | (go_at_call 54; refine (tight1_any y x hys hx2 _).mono ?_; rintro e w3 ⟨rfl, hb3⟩))
              go_wp2_with fail
              go_meet
              exact ⟨by rw [← HY.out]; rfl, ((Below.refl w2.heap.size w2).drew).trans hb3⟩
          case rest =>
            obtain ⟨rfl, hb3⟩ := hcut
            have hIc : Lib.IsBuilderF 75 5 B B (Lib.byteCells acc) wc := bIs_below HI2.out hb3
            have hbc : Below B w wc := HBW2.out.trans (hb3.mono hz2)
            have hbnc : wc.heap[N]? = some (.cells #[.int .i64 x.f0, .string x.f1, .int .i64 x.f2] 34 (0, 0)) := (hb3.block N hN2).trans HBN.out
            have hzc : B ≤ wc.heap.size := Nat.le_trans hz2 hb3.size
            have hl1 : (Lib.byteCells acc).length + x.f1.size ≤ 140737488355328 := by rw [Lib.byteCells_length]; omega
            have hl2 : (Lib.byteCells acc).length + 1 ≤ 140737488355328 := by rw [Lib.byteCells_length]; omega
            have hl3 : (Lib.byteCells acc ++ [Value.int .u8 32]).length + x.f1.size ≤ 140737488355328 := by rw [List.length_append, Lib.byteCells_length]; simp; omega
            have hnu : ∀ c fz, (Obj.cells #[.int .i64 x.f0, .string x.f1, .int .i64 x.f2] 34 (0, 0)) ≠ .cells c 5 fz := fun c fz h => by cases h
            have HIC := Lib.hid hIc
            have HBC := Lib.hid hbc
            have HBNC := Lib.hid hbnc
            have HNU := Lib.hid hnu
            clear hIc hbc hbnc hb3 x0 x1 x2 hnu
            cases hsp : sepB tightSp prev x
            · have HSP := Lib.hid hsp
              have x1 : wc.cell? ⟨N, 1, none⟩ = some (.string x.f1) := by simp [World.cell?, HBNC.out]
              clear hsp
              go_wp2_with (go_at_call 65; refine (bWriteString B B (Lib.byteCells acc) x.f1 wc HIC.out hl1 hzc).mono ?_; rintro e w4 ⟨rfl, h4, b4, k4⟩)
              have hJ := HJ.out
              rw [HDR.out] at hJ
              simp only [joinW, HOK.out, HSP.out, if_true, Bool.false_eq_true, if_false, List.nil_append] at hJ
              refine ⟨⟨k + 1, acc ++ x.f1.data.toList, some x, by go_num, by omega, .inr ?_, HBC.out.trans b4, hJ, ?_, .inr ⟨by omega, ?_, ?_⟩⟩, by simp [intOf]; omega⟩
              · rw [Lib.byteCells_append]; exact h4
              · simp; omega
              · rw [show ((k + 1 : Nat) : Int) - 1 = (k : Int) by omega, ← HX.out]
              · rw [show ((k + 1 : Nat) : Int) - 1 = (k : Int) by omega, ← HX.out]; exact HOK.out
            · have HSP := Lib.hid hsp
              clear hsp
              go_wp2_with fail
              refine (bWriteByte B B (Lib.byteCells acc) 32 wc HIC.out hl2 hzc).mono ?_
              rintro e w4 ⟨rfl, h4, b4, k4⟩
              have x1 : w4.cell? ⟨N, 1, none⟩ = some (.string x.f1) := by simp [World.cell?, k4 N _ HBNC.out (by simp; omega) HNU.out]
              have H4 := Lib.hid h4
              have B4 := Lib.hid b4
              have hz4 : B ≤ w4.heap.size := Nat.le_trans hzc b4.size
              clear h4 b4 k4
              go_wp2_with (go_at_call 65; refine (bWriteString B B (Lib.byteCells acc ++ [.int .u8 32]) x.f1 w4 (.inr H4.out) hl3 hz4).mono ?_; rintro e w5 ⟨rfl, h5, b5, k5⟩)
              have hJ := HJ.out
              rw [HDR.out] at hJ
              simp only [joinW, HOK.out, HSP.out, if_true, List.cons_append, List.nil_append] at hJ
              refine ⟨⟨k + 1, acc ++ 32 :: x.f1.data.toList, some x, by go_num, by omega, .inr ?_, (HBC.out.trans B4.out).trans b5, hJ, ?_, .inr ⟨by omega, ?_, ?_⟩⟩, by simp [intOf]; omega⟩
              · rw [show acc ++ 32 :: x.f1.data.toList = (acc ++ [32]) ++ x.f1.data.toList by simp, Lib.byteCells_append, Lib.byteCells_append]; exact h5
              · simp; omega
              · rw [show ((k + 1 : Nat) : Int) - 1 = (k : Int) by omega, ← HX.out]
              · rw [show ((k + 1 : Nat) : Int) - 1 = (k : Int) by omega, ← HX.out]; exact HOK.out
      · have hz := hbz
        have hRs : R = some acc := by rw [← HJ.out, List.drop_of_length_le (by omega)]; rfl
        have HRS := Lib.hid hRs
        clear hRs
        by_cases h20 : 20000 < acc.length
        · have hc : (decide (20000 < (Lib.byteCells acc).length)) = true := by rw [Lib.byteCells_length]; simpa using h20
          go_wp2_with (go_at_call 76; refine (bLen B B (Lib.byteCells acc) wr HI.out).mono ?_; rintro e w2 ⟨rfl, rfl⟩; rw [Lib.byteCells_length])
          go_ret
          refine ⟨?_, by rw [← HB.out]; exact HBW.out⟩
          rw [HRS.out, cut20, if_pos h20]
          rfl
        · go_wp2_with (first | (go_at_call 76; refine (bLen B B (Lib.byteCells acc) wr HI.out).mono ?_; rintro e w2 ⟨rfl, hw⟩; obtain rfl : wr = w2 := hw.symm; rw [Lib.byteCells_length]) | (go_at_call 66; refine (bString B B acc wr HI.out hbz).mono ?_; rintro e w3 ⟨rfl, h3, b3, k3⟩))
          go_ret
          refine ⟨?_, by rw [← HB.out]; exact HBW.out.trans b3⟩
          rw [HRS.out, cut20, if_neg h20]
          rfl



/-- lex.Join's contract, as the printed walks ask for it. -/
def lex_Join.f (l : List S34) : Option ByteArray := if l.all (fun t => decide (t.f1.size ≤ 140737488351232)) then some ⟨(writtenL joinSp l).toArray⟩ else none
theorem lex_Join.calls (A0 : Option Addr) (c0 : Nat) (l0 : List S34) (r : ByteArray) (w : World) (hr0 : Kd.C k34 w A0 l0.length l0) (_hc0 : l0.length ≤ c0) (h : lex_Join.f l0 = some r) :
    Calls Try.prog 17 #[.slice A0 l0.length c0] w fun e w' => e = .returned (.string r) ∧ Below w.heap.size w w' := by
  unfold lex_Join.f at h
  split at h
  case isFalse => cases h
  case isTrue hs =>
    have h2 : ByteArray.mk (writtenL joinSp l0).toArray = r := by simpa using h
    have hsz : ∀ t ∈ l0, t.f1.size ≤ 140737488351232 := fun t ht => by simpa using List.all_eq_true.1 hs t ht
    rw [← h2]
    clear h h2 hs
    go_enter Try.func17, Try.ntmps17
    go_wp2_with (go_at_call 51; refine (written_join A0 c0 l0 _ hr0 hsz).mono ?_; rintro e w' ⟨rfl, hb2⟩)
    go_ret
    exact ⟨rfl, hb2⟩


/-- lex.Tight's contract, as the printed walks ask for it. -/
def lex_Tight.f (l : List S34) : Option ByteArray := if l.all (fun t => decide (t.f1.size ≤ 140737488351232)) then some ⟨(writtenL tightSp l).toArray⟩ else none
theorem lex_Tight.calls (A0 : Option Addr) (c0 : Nat) (l0 : List S34) (r : ByteArray) (w : World) (hr0 : Kd.C k34 w A0 l0.length l0) (_hc0 : l0.length ≤ c0) (h : lex_Tight.f l0 = some r) :
    Calls Try.prog 19 #[.slice A0 l0.length c0] w fun e w' => e = .returned (.string r) ∧ Below w.heap.size w w' := by
  unfold lex_Tight.f at h
  split at h
  case isFalse => cases h
  case isTrue hs =>
    have h2 : ByteArray.mk (writtenL tightSp l0).toArray = r := by simpa using h
    have hsz : ∀ t ∈ l0, t.f1.size ≤ 140737488351232 := fun t ht => by simpa using List.all_eq_true.1 hs t ht
    rw [← h2]
    clear h h2 hs
    go_enter Try.func19, Try.ntmps19
    go_wp2_with (go_at_call 51; refine (written_tight A0 c0 l0 _ hr0 hsz).mono ?_; rintro e w' ⟨rfl, hb2⟩)
    go_ret
    exact ⟨rfl, hb2⟩

end Go.Proofs.Ytkolnimgdbhekaa.P
