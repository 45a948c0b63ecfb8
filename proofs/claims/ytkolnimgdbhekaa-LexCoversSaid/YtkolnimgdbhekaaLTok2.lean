/- lex.token: the token that begins at an offset. -/
import Derived.Test.YtkolnimgdbhekaaLTok1
import Derived.Test.YtkolnimgdbhekaaLContains
import Derived.Test.YtkolnimgdbhekaaPx2
import Derived.Test.YtkolnimgdbhekaaLWords
import Derived.RegionTactic
import Derived.Deep.RegionHeld3
import Derived.Deep.DeepCutAuto
namespace Go.Proofs.Ytkolnimgdbhekaa.P
open Go.RowKit Go.Proofs.YtkolnimgdbhekaaW.PrintWords Go.Proofs.YtkolnimgdbhekaaW.PrintLast Go.Proofs.YtkolnimgdbhekaaW.PrintMore

theorem ret_bool {a b : Bool} (h : a = b) : Ending.returned (.bool a) = .returned (.bool b) := by rw [h]
theorem val_bool {a b : Bool} (h : a = b) : Value.bool a = Value.bool b := by rw [h]
theorem val_int {k : IntKind} {a b : Int} (h : a = b) : Value.int k a = Value.int k b := by rw [h]
theorem byte64 (c : UInt8) : ((c.toNat : Int) == 64) = (c == 64) := by
  rw [Bool.eq_iff_iff]
  simp only [beq_iff_eq]
  exact ⟨fun h => UInt8.toNat_inj.1 (by have : c.toNat = 64 := by omega
                                        rw [this]; rfl), fun h => by rw [h]; rfl⟩
theorem byte45 (c : UInt8) : ((c.toNat : Int) == 45) = (c == 45) := by
  rw [Bool.eq_iff_iff]
  simp only [beq_iff_eq]
  exact ⟨fun h => UInt8.toNat_inj.1 (by have : c.toNat = 45 := by omega
                                        rw [this]; rfl), fun h => by rw [h]; rfl⟩
theorem extract_toList (s : ByteArray) (n : Nat) : (s.extract 0 n).toList = s.data.toList.take n := by
  rw [Lib.toList_data, ByteArray.data_extract, Array.toList_extract, List.extract_eq_take_drop]
  simp
theorem heap_last (W : World) (o : Obj) (g : Nat) (h : g = W.heap.size) : (W.alloc o).heap[g]? = some o := by subst h; exact heap_alloc_new W o
theorem setRow_last (W : World) (c c' : Array Value) (t : TypeId) (g : Nat) (h : g = W.heap.size) : (W.alloc (.cells c t)).setRow g c' = W.alloc (.cells c' t) := by subst h; exact World.setRow_alloc_new ..

theorem small_any (c : UInt8) (w : World) :
    Calls Try.prog 88 #[.int .u8 c.toNat] w fun e w' => e = .returned (.bool (smallB c)) ∧ w = w' := by
  have hb := c.toNat_lt
  unfold smallB
  by_cases h1 : (97 : Int) ≤ c.toNat
  · go_enter Try.func88, Try.ntmps88
    go_wp2
    all_goals
      go_ret
      exact ⟨ret_bool (by rw [Bool.eq_iff_iff]; simp; omega), rfl⟩
  · go_enter Try.func88, Try.ntmps88
    go_wp2
    go_ret
    exact ⟨ret_bool (by rw [Bool.eq_iff_iff]; simp; omega), rfl⟩

theorem capital_any (c : UInt8) (w : World) :
    Calls Try.prog 90 #[.int .u8 c.toNat] w fun e w' => e = .returned (.bool (capB c)) ∧ w = w' := by
  have hb := c.toNat_lt
  unfold capB
  by_cases h1 : (65 : Int) ≤ c.toNat
  · go_enter Try.func90, Try.ntmps90
    go_wp2
    all_goals
      go_ret
      exact ⟨ret_bool (by rw [Bool.eq_iff_iff]; simp; omega), rfl⟩
  · go_enter Try.func90, Try.ntmps90
    go_wp2
    go_ret
    exact ⟨ret_bool (by rw [Bool.eq_iff_iff]; simp; omega), rfl⟩

def lettersS : ByteArray := ⟨lettersL.toArray⟩

/-- What lex.token's frame has in memory behind its first statements. -/
structure TokW (B : Nat) (w W : World) (r : ByteArray) (at_ : Nat) : Prop where
  size : B + 5 ≤ W.heap.size
  below : Below B w W
  a : W.cell? ⟨B, 0, none⟩ = some (.int .i64 at_)
  v0 : (W.cell? ⟨B + 1, 0, none⟩).isSome = true
  v1 : (W.cell? ⟨B + 1, 1, none⟩).isSome = true
  v2 : (W.cell? ⟨B + 1, 2, none⟩).isSome = true
  f0 : W.frozen? ⟨B + 1, 0, none⟩ = false
  f1 : W.frozen? ⟨B + 1, 1, none⟩ = false
  f2 : W.frozen? ⟨B + 1, 2, none⟩ = false
  r : W.cell? ⟨B + 1 + 1, 0, none⟩ = some (.string r)
  t : ∀ c : UInt8, W.cell? ⟨B + 1 + 1 + 1 + 1, c.toNat, none⟩ = some (.bool (partB c))

theorem TokW.start (w : World) (r : ByteArray) (at_ : Nat) : TokW w.heap.size w (((((w.alloc (.cells #[.int .i64 at_] 3)).alloc (.cells #[.int .i64 0, .string ⟨#[]⟩, .int .i64 0] 34)).alloc (.cells #[.string r] 9)).alloc (.cells (tabA lettersS.data.toList) 90)).alloc (.cells (tabA lettersL) 90)) r at_ := by
  have b0 : (((((w.alloc (.cells #[.int .i64 at_] 3)).alloc (.cells #[.int .i64 0, .string ⟨#[]⟩, .int .i64 0] 34)).alloc (.cells #[.string r] 9)).alloc (.cells (tabA lettersS.data.toList) 90)).alloc (.cells (tabA lettersL) 90)).heap[w.heap.size]? = some (.cells #[.int .i64 at_] 3) := by rw [Below.heap_alloc _ _ _ (by simp <;> omega), Below.heap_alloc _ _ _ (by simp <;> omega), Below.heap_alloc _ _ _ (by simp <;> omega), Below.heap_alloc _ _ _ (by simp <;> omega), heap_last _ _ _ (by simp)]
  have b1 : (((((w.alloc (.cells #[.int .i64 at_] 3)).alloc (.cells #[.int .i64 0, .string ⟨#[]⟩, .int .i64 0] 34)).alloc (.cells #[.string r] 9)).alloc (.cells (tabA lettersS.data.toList) 90)).alloc (.cells (tabA lettersL) 90)).heap[w.heap.size + 1]? = some (.cells #[.int .i64 0, .string ⟨#[]⟩, .int .i64 0] 34) := by rw [Below.heap_alloc _ _ _ (by simp <;> omega), Below.heap_alloc _ _ _ (by simp <;> omega), Below.heap_alloc _ _ _ (by simp <;> omega), heap_last _ _ _ (by simp)]
  have b2 : (((((w.alloc (.cells #[.int .i64 at_] 3)).alloc (.cells #[.int .i64 0, .string ⟨#[]⟩, .int .i64 0] 34)).alloc (.cells #[.string r] 9)).alloc (.cells (tabA lettersS.data.toList) 90)).alloc (.cells (tabA lettersL) 90)).heap[w.heap.size + 1 + 1]? = some (.cells #[.string r] 9) := by rw [Below.heap_alloc _ _ _ (by simp <;> omega), Below.heap_alloc _ _ _ (by simp <;> omega), heap_last _ _ _ (by simp)]
  have b4 : (((((w.alloc (.cells #[.int .i64 at_] 3)).alloc (.cells #[.int .i64 0, .string ⟨#[]⟩, .int .i64 0] 34)).alloc (.cells #[.string r] 9)).alloc (.cells (tabA lettersS.data.toList) 90)).alloc (.cells (tabA lettersL) 90)).heap[w.heap.size + 1 + 1 + 1 + 1]? = some (.cells (tabA lettersL) 90) := by rw [heap_last _ _ _ (by simp)]
  have hb : Below w.heap.size w (((((w.alloc (.cells #[.int .i64 at_] 3)).alloc (.cells #[.int .i64 0, .string ⟨#[]⟩, .int .i64 0] 34)).alloc (.cells #[.string r] 9)).alloc (.cells (tabA lettersS.data.toList) 90)).alloc (.cells (tabA lettersL) 90)) := ((((((Below.refl _ w).alloc (Nat.le_refl _) _).alloc (by simp) _).alloc (by simp; omega) _).alloc (by simp; omega) _).alloc (by simp; omega) _)
  have hz : w.heap.size + 5 ≤ (((((w.alloc (.cells #[.int .i64 at_] 3)).alloc (.cells #[.int .i64 0, .string ⟨#[]⟩, .int .i64 0] 34)).alloc (.cells #[.string r] 9)).alloc (.cells (tabA lettersS.data.toList) 90)).alloc (.cells (tabA lettersL) 90)).heap.size := by simp
  revert b0 b1 b2 b4 hb hz
  generalize (((((w.alloc (.cells #[.int .i64 at_] 3)).alloc (.cells #[.int .i64 0, .string ⟨#[]⟩, .int .i64 0] 34)).alloc (.cells #[.string r] 9)).alloc (.cells (tabA lettersS.data.toList) 90)).alloc (.cells (tabA lettersL) 90)) = W
  intro b0 b1 b2 b4 hb hz
  exact ⟨hz, hb, by simp [World.cell?, b0], by simp [World.cell?, b1], by simp [World.cell?, b1], by simp [World.cell?, b1], by simp [World.frozen?, b1], by simp [World.frozen?, b1], by simp [World.frozen?, b1], by simp [World.cell?, b2], fun c => by simp [World.cell?, b4, tabA_get, partB]⟩

theorem TokW.later {B : Nat} {w W W' : World} {r : ByteArray} {at_ : Nat} (h : TokW B w W r at_) (hb : Below W.heap.size W W') : TokW B w W' r at_ := by
  have hs := h.size
  have c : ∀ k o, k < B + 5 → W'.cell? ⟨k, o, none⟩ = W.cell? ⟨k, o, none⟩ := fun k o hk => hb.cell (p := ⟨k, o, none⟩) (by show k < _; omega)
  have f : ∀ k o, k < B + 5 → W'.frozen? ⟨k, o, none⟩ = W.frozen? ⟨k, o, none⟩ := fun k o hk => hb.frozen (p := ⟨k, o, none⟩) (by show k < _; omega)
  exact ⟨Nat.le_trans hs hb.size, h.below.trans (hb.mono (by omega)), (c _ _ (by omega)).trans h.a, by rw [c _ _ (by omega)]; exact h.v0, by rw [c _ _ (by omega)]; exact h.v1, by rw [c _ _ (by omega)]; exact h.v2,
    (f _ _ (by omega)).trans h.f0, (f _ _ (by omega)).trans h.f1, (f _ _ (by omega)).trans h.f2, (c _ _ (by omega)).trans h.r, fun x => (c _ _ (by omega)).trans (h.t x)⟩

theorem extract_drop (s : ByteArray) (a : Nat) : (s.extract a s.size).data.toList = s.data.toList.drop a := by
  rw [ByteArray.data_extract, Array.toList_extract, List.extract_eq_take_drop]
  exact List.take_of_length_le (by simp)

/-- The token, and nothing that lay has turned. -/
def TokPost (s : ByteArray) (at_ kind len : Nat) (w : World) (e : Ending) (w' : World) : Prop :=
  e = .returned (.tuple #[.agg #[.int .i64 kind, .string (s.extract at_ (at_ + len)), .int .i64 at_], .bool true]) ∧ Below w.heap.size w w'

theorem extract_cut (s : ByteArray) (a n : Nat) (h : n ≤ (s.extract a s.size).size) : (s.extract a s.size).extract 0 n = s.extract a (a + n) := by
  apply ByteArray.ext
  apply Array.ext'
  simp only [ByteArray.data_extract, Array.toList_extract, List.extract_eq_take_drop, ByteArray.size_extract] at *
  simp only [Nat.sub_zero, List.drop_zero, List.take_take]
  congr 1
  omega

theorem words_any (w : World) :
    Calls Try.prog 63 #[] w fun e w' => ∃ A c, e = .returned (.slice A 17 c) ∧ 17 ≤ c ∧ Kd.C Kd.string w' A 17 wordsB ∧ Below w.heap.size w w' := by
  refine (lex_keywords.calls wordsB w rfl).mono ?_
  rintro e w' ⟨v, rfl, hR, hb⟩
  obtain ⟨A, c, rfl, hc, hC⟩ := Kd.R_reads hR
  exact ⟨A, c, rfl, hc, hC, hb⟩

theorem contains_any (A : Option Addr) (c : Nat) (x : ByteArray) (w : World) (hc : 17 ≤ c) (h : Kd.C Kd.string w A 17 wordsB) :
    Calls Try.prog 89 #[.slice A 17 c, .string x] w fun e w' => e = .returned (.bool (wordB x)) ∧ Drawn0 w w' := by
  exact slices_Contains_string_string.calls 100 A c wordsB x _ w h hc (contains_pure x)

set_option maxRecDepth 100000 in
set_option maxHeartbeats 4000000 in
theorem token_small (s : ByteArray) (at_ kind len : Nat) (w : World) (hat : at_ < s.size) (hs : s.size ≤ 140737488351232) (htok : tok (s.data.toList.drop at_) = some (kind, len))
    (hsm : ∀ h : 0 < (s.extract at_ s.size).size, smallB (s.extract at_ s.size)[0] = true) :
    Calls Try.prog 69 #[.string s, .int .i64 at_] w fun e w' => TokPost s at_ kind len w e w' := by
  have hrs : 0 < (s.extract at_ s.size).size := by simp; omega
  have HTOK := Lib.hid htok
  clear htok
  have HCUT := Lib.hid (extract_cut s at_)
  have hsm1 := Lib.hid (hsm hrs)
  clear hsm
  go_enter Try.func69, Try.ntmps69
  go_wp2_with fail
  refine (classes_any lettersS _ (by decide)).mono ?_
  rintro e w' ⟨rfl, rfl⟩
  go_wp2_with (first
        | (refine wpList_store_row rfl 90 _ _ rfl (w.heap.size + 1 + 1 + 1 + 1) (tabA lettersL) rfl rfl 90 Try.zeroCells90 (heap_last _ _ _ (by simp)) (by rw [tabA_size]; exact info90) (by rw [← tabA_nil, tabA_size, tabA_size]) (tabA_one _) ?_; rw [setRow_last _ _ _ _ _ (by simp)]))
  have TW := TokW.start w (s.extract at_ s.size) at_
  revert TW
  generalize (((((w.alloc (Obj.cells #[.int .i64 at_] 3)).alloc (.cells #[.int .i64 0, .string ⟨#[]⟩, .int .i64 0] 34)).alloc (.cells #[.string (s.extract at_ s.size)] 9)).alloc (.cells (tabA lettersS.data.toList) 90)).alloc (.cells (tabA lettersL) 90)) = W
  intro TW
  have hrl := extract_drop s at_
  have hrz : (s.extract at_ s.size).size = s.size - at_ := by simp
  have hq := hsm1.out
  obtain ⟨c0, hc0⟩ : ∃ c, c = (s.extract at_ s.size)[0]'hrs := ⟨_, rfl⟩
  rw [← hc0] at hq ⊢
  have hl0 : ∃ t, (s.extract at_ s.size).data.toList = c0 :: t := ⟨_, by rw [hc0]; exact (drop_cons' (s.extract at_ s.size) 0 hrs)⟩
  clear hsm1 hc0
  revert TW hrl hrz hrs hl0 HCUT
  generalize s.extract at_ s.size = r
  intro hrs HCUT TW hrl hrz hl0
  have HRL := Lib.hid hrl
  have HRZ := Lib.hid hrz
  have HL0 := Lib.hid hl0
  have HQ := Lib.hid hq
  have hrm : r.size ≤ 140737488351232 := by omega
  clear hrl hrz hl0 hq
  obtain ⟨B, hB⟩ : ∃ B, B = w.heap.size := ⟨_, rfl⟩
  rw [← hB] at TW ⊢
  have HB := Lib.hid hB
  clear hB
  refine (small_any _ _).mono ?_
  rintro e w' ⟨rfl, rfl⟩
  rw [HQ.out]
  have cr := TW.r
  have ct := TW.t
  have hBz := TW.size
  go_wp2_with fail
  refine (run_any r 0 (B + 1 + 1) (B + 1 + 1 + 1 + 1) W (by omega) hrm cr ct).mono ?_
  rintro e w' ⟨rfl, rfl⟩
  clear ct
  have hm := runN_le r.data.toList
  obtain ⟨m, hmd⟩ : ∃ m, m = runN r.data.toList := ⟨_, rfl⟩
  have hm0 : (0 + runN (r.data.toList.drop 0) : Nat) = m := by rw [hmd]; simp
  rw [hm0]
  have HM := Lib.hid hmd
  rw [← hmd] at hm
  clear hm0 hmd
  have hm2 : m ≤ r.size := by simpa using hm
  clear hm
  go_upto_region 8 with fail
  go_cut [42] (fun v wx => v = .bool (linkB r.data.toList) ∧ W = wx)
  case first =>
    by_cases hA : m + 1 < r.size
    · have hd1 : r.data.toList.drop m = r[m] :: r[m + 1] :: r.data.toList.drop (m + 1 + 1) := by rw [drop_cons' r m (by omega), drop_cons' r (m + 1) hA]
      have HD := Lib.hid hd1
      clear hd1
      have hlk : linkB r.data.toList = (r[m] == 64 && smallB r[m + 1]) := by unfold linkB; rw [← HM.out, HD.out]
      have HLK := Lib.hid hlk
      clear hlk
      cases hB4 : ((r[m].toNat : Int) == 64)
      · have HB4 := Lib.hid hB4
        go_wp2_with fail
        go_meet
        exact ⟨val_bool (by rw [HLK.out, ← byte64, HB4.out]; rfl), rfl⟩
      · have HB4 := Lib.hid hB4
        go_wp2_with (go_at_call 88; refine (small_any _ _).mono ?_; rintro e w' ⟨rfl, rfl⟩)
        go_meet
        exact ⟨val_bool (by rw [HLK.out, ← byte64, HB4.out]; rfl), rfl⟩
    · have hlk : linkB r.data.toList = false := by
        cases h : linkB r.data.toList
        · rfl
        · have h1 := linkB_lt h
          rw [← HM.out] at h1
          simp at h1
          exact absurd h1 hA
      have HLK := Lib.hid hlk
      clear hlk
      go_wp2_with fail
      go_meet
      exact ⟨val_bool (by rw [HLK.out]), rfl⟩
  case rest =>
    obtain ⟨rfl, rfl⟩ := hcut
    go_upto_if 42 with fail
    go_cut [11] (fun v wx => v = .int .i64 (nameN r.data.toList : Nat) ∧ W = wx)
    case first =>
      cases hlk : linkB r.data.toList
      · have HN : Hid (nameN r.data.toList = m) := Lib.hid (by unfold nameN; rw [hlk, HM.out]; rfl)
        go_wp2_with fail
        go_meet
        exact ⟨val_int (by have h := HN.out; omega), rfl⟩
      · have h1 := linkB_lt hlk
        rw [← HM.out] at h1
        simp only [Array.length_toList, ByteArray.size_data] at h1
        have HN : Hid (nameN r.data.toList = m + 1 + runN (r.data.toList.drop (m + 1))) := Lib.hid (by unfold nameN; rw [hlk, HM.out]; rfl)
        have ct := TW.t
        go_wp2_with fail
        refine (run_any r (m + 1) (B + 1 + 1) (B + 1 + 1 + 1 + 1) W (by omega) hrm cr ct).mono ?_
        rintro e w' ⟨rfl, rfl⟩
        clear ct
        go_wp2_with fail
        go_meet
        exact ⟨val_int (by have h := HN.out; omega), rfl⟩
    case rest =>
      obtain ⟨rfl, rfl⟩ := hcut
      have hn := nameN_le r.data.toList
      obtain ⟨n, hnd⟩ : ∃ n, n = nameN r.data.toList := ⟨_, rfl⟩
      rw [← hnd] at hn ⊢
      simp only [Array.length_toList, ByteArray.size_data] at hn
      have HN := Lib.hid hnd
      clear hnd
      go_upto_region 10 with fail
      go_cut [60] (fun v wx => v = .bool (oB r.data.toList) ∧ W = wx)
      case first =>
        have e0 : (r.extract 0 n).toList = r.data.toList.take (nameN r.data.toList) := by rw [← HN.out, extract_toList]
        have E0 := Lib.hid e0
        clear e0
        cases h0 : ((r.extract 0 n).toList == [111])
        · have HO : Hid (oB r.data.toList = false) := Lib.hid (by unfold oB; rw [← E0.out, h0]; rfl)
          go_wp2_with fail
          go_meet
          exact ⟨val_bool (by rw [HO.out]), rfl⟩
        · by_cases h1 : 1 < r.size
          · have hg1 : r.data.toList[1]? = some r[1] := by simp [h1]; rfl
            have HO : Hid (oB r.data.toList = (r[1] == 45)) := Lib.hid (by unfold oB; rw [← E0.out, h0, hg1]; simp only [Bool.true_and]; rfl)
            clear hg1
            go_wp2_with fail
            go_meet
            exact ⟨val_bool (by rw [HO.out, byte45]), rfl⟩
          · have HO : Hid (oB r.data.toList = false) := Lib.hid (by unfold oB; rw [List.getElem?_eq_none (by simp; omega)]; simp)
            go_wp2_with fail
            go_meet
            exact ⟨val_bool (by rw [HO.out]), rfl⟩
      case rest =>
        obtain ⟨rfl, rfl⟩ := hcut
        cases hob : oB r.data.toList
        · have HOB := Lib.hid hob
          clear hob
          go_wp2_with fail
          go_region_held3 (fun w' => w'.cell? ⟨B + 1 + 1, 0, none⟩ = some (.string r) ∧ W.heap.size ≤ w'.heap.size)
            (first | go_keep | (exact ⟨(hb.cell (p := ⟨B + 1 + 1, 0, none⟩) (by show B + 1 + 1 < _; omega)).trans cr, hb.size⟩))
            (first
              | (go_at_call 63; refine (words_any _).mono ?_; rintro e w1 ⟨A, c, rfl, hc, hC, hb⟩)
              | (go_at_call 89; refine (contains_any _ _ _ _ hc hC).mono ?_; rintro e w2 ⟨rfl, ⟨q, rfl⟩⟩))
          have hb' : Below W.heap.size W w1 := ((Below.refl W.heap.size W).drew).trans hb
          have TW1 := (TW.later hb').later (pw_below_drewN (Below.refl w1.heap.size w1) q)
          have hs1 : W.heap.size ≤ (w1.drewN q).heap.size := hb'.size
          have h11 : B + 1 + 1 < (w1.drewN q).heap.size := by omega
          have h12 : B < (w1.drewN q).heap.size := by omega
          cases hw : wordB (r.extract 0 n)
          · have HW := Lib.hid hw
            go_wp2_with fail
            clear hw
            refine (of_any r 1 at_ n (B + 1 + 1) B (w1.drewN q) hn hrm TW1.r TW1.a h11 h12).mono ?_
            rintro e w' ⟨rfl, hb2⟩
            have TW' := TW1.later hb2
            clear hb2
            obtain ⟨x0, hx0⟩ := Option.isSome_iff_exists.1 TW'.v0
            obtain ⟨x1, hx1⟩ := Option.isSome_iff_exists.1 TW'.v1
            obtain ⟨x2, hx2⟩ := Option.isSome_iff_exists.1 TW'.v2
            have hf0 := TW'.f0
            have hf1 := TW'.f1
            have hf2 := TW'.f2
            go_wp2_with fail
            have hfin : tok r.data.toList = some (1, n) := by
              obtain ⟨t, ht⟩ := HL0.out
              have e1 : n = nameN (c0 :: t) := by rw [← ht]; exact HN.out
              have e2 : (r.extract 0 n).data.toList = (c0 :: t).take (nameN (c0 :: t)) := by rw [← Lib.toList_data, extract_toList, ht, ← e1]
              rw [ht, e1]
              exact tok_name HQ.out (by rw [← ht]; exact HOB.out) (by rw [← e2]; exact HW.out)
            rw [HRL.out, HTOK.out] at hfin
            simp only [Option.some.injEq, Prod.mk.injEq] at hfin
            obtain ⟨rfl, rfl⟩ := hfin
            refine bodyPost_ret (v := .tuple #[.agg #[.int .i64 (1 : Nat), .string (r.extract 0 len), .int .i64 at_], .bool true]) (by simp [results, Try.results69, go_sem, hx0, hx1, hx2]) rfl ⟨?_, ?_⟩
            · rw [HCUT.out len hn]
            · rw [← HB.out]
              exact ((TW'.below.setCell (by show B ≤ B + 1; omega) _).setCell (by show B ≤ B + 1; omega) _).setCell (by show B ≤ B + 1; omega) _
          · have HW := Lib.hid hw
            go_wp2_with fail
            clear hw
            refine (of_any r 4 at_ n (B + 1 + 1) B (w1.drewN q) hn hrm TW1.r TW1.a h11 h12).mono ?_
            rintro e w' ⟨rfl, hb2⟩
            have TW' := TW1.later hb2
            clear hb2
            obtain ⟨x0, hx0⟩ := Option.isSome_iff_exists.1 TW'.v0
            obtain ⟨x1, hx1⟩ := Option.isSome_iff_exists.1 TW'.v1
            obtain ⟨x2, hx2⟩ := Option.isSome_iff_exists.1 TW'.v2
            have hf0 := TW'.f0
            have hf1 := TW'.f1
            have hf2 := TW'.f2
            go_wp2_with fail
            have hfin : tok r.data.toList = some (4, n) := by
              obtain ⟨t, ht⟩ := HL0.out
              have e1 : n = nameN (c0 :: t) := by rw [← ht]; exact HN.out
              have e2 : (r.extract 0 n).data.toList = (c0 :: t).take (nameN (c0 :: t)) := by rw [← Lib.toList_data, extract_toList, ht, ← e1]
              rw [ht, e1]
              exact tok_word HQ.out (by rw [← ht]; exact HOB.out) (by rw [← e2]; exact HW.out)
            rw [HRL.out, HTOK.out] at hfin
            simp only [Option.some.injEq, Prod.mk.injEq] at hfin
            obtain ⟨rfl, rfl⟩ := hfin
            refine bodyPost_ret (v := .tuple #[.agg #[.int .i64 (4 : Nat), .string (r.extract 0 len), .int .i64 at_], .bool true]) (by simp [results, Try.results69, go_sem, hx0, hx1, hx2]) rfl ⟨?_, ?_⟩
            · rw [HCUT.out len hn]
            · rw [← HB.out]
              exact ((TW'.below.setCell (by show B ≤ B + 1; omega) _).setCell (by show B ≤ B + 1; omega) _).setCell (by show B ≤ B + 1; omega) _
        · have h2 : 2 ≤ r.size := by
            unfold oB at hob
            have := (Bool.and_eq_true _ _ ▸ hob).2
            have h3 : r.data.toList[1]? = some 45 := by simpa using this
            have := (List.getElem?_eq_some_iff.1 h3).1
            have h4 : 1 < r.size := by simpa using this
            omega
          have HOB := Lib.hid hob
          clear hob
          go_wp2_with fail
          refine (of_any r 3 at_ 2 (B + 1 + 1) B W h2 hrm cr TW.a (by omega) (by omega)).mono ?_
          rintro e w' ⟨rfl, hb⟩
          have TW' := TW.later hb
          clear hb
          obtain ⟨x0, hx0⟩ := Option.isSome_iff_exists.1 TW'.v0
          obtain ⟨x1, hx1⟩ := Option.isSome_iff_exists.1 TW'.v1
          obtain ⟨x2, hx2⟩ := Option.isSome_iff_exists.1 TW'.v2
          have hf0 := TW'.f0
          have hf1 := TW'.f1
          have hf2 := TW'.f2
          go_wp2_with fail
          have hfin : tok r.data.toList = some (3, 2) := by
            obtain ⟨t, ht⟩ := HL0.out
            rw [ht]
            exact tok_o HQ.out (ht ▸ HOB.out)
          rw [HRL.out, HTOK.out] at hfin
          simp only [Option.some.injEq, Prod.mk.injEq] at hfin
          obtain ⟨rfl, rfl⟩ := hfin
          refine bodyPost_ret (v := .tuple #[.agg #[.int .i64 (3 : Nat), .string (r.extract 0 2), .int .i64 at_], .bool true]) (by simp [results, Try.results69, go_sem, hx0, hx1, hx2]) rfl ⟨?_, ?_⟩
          · rw [HCUT.out 2 h2]
          · rw [← HB.out]
            exact ((TW'.below.setCell (by show B ≤ B + 1; omega) _).setCell (by show B ≤ B + 1; omega) _).setCell (by show B ≤ B + 1; omega) _

end Go.Proofs.Ytkolnimgdbhekaa.P
