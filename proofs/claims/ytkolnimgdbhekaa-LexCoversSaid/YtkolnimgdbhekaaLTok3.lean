/- lex.token where no small letter stands: capital names and signs. -/
import Derived.Test.YtkolnimgdbhekaaLTok2
namespace Go.Proofs.Ytkolnimgdbhekaa.P
open Go.RowKit Go.Proofs.YtkolnimgdbhekaaW.PrintWords Go.Proofs.YtkolnimgdbhekaaW.PrintLast Go.Proofs.YtkolnimgdbhekaaW.PrintMore

/-- Do these two bytes stand at the beginning? -/
def pre2 (r : ByteArray) (a b : UInt8) : Bool := r.data.toList.take 2 == [a, b]
theorem stringslite_HasPrefix_any (r : ByteArray) (a b : UInt8) (w : World) (hr : r.size ≤ 140737488351232) :
    Calls Try.prog 96 #[.string r, .string ⟨#[a, b]⟩] w fun e w' => e = .returned (.bool (pre2 r a b)) ∧ w = w' := by
  by_cases h : 2 ≤ r.size
  · have hp := Lib.hid (show pre2 r a b = ((r.extract 0 2).toList == [a, b]) by unfold pre2; rw [extract_toList])
    go_enter Try.func96, Try.ntmps96
    go_wp2
    all_goals
      go_ret
      exact ⟨ret_bool (by first | (rw [hp.out]; done) | (rw [hp.out]; simp [*])), rfl⟩
  · have hp := Lib.hid (show pre2 r a b = false by
      unfold pre2
      rw [List.take_of_length_le (by simp; omega)]
      cases h2 : (r.data.toList == [a, b])
      · rfl
      · have h3 := congrArg List.length (beq_iff_eq.1 h2)
        simp at h3
        omega)
    go_enter Try.func96, Try.ntmps96
    go_wp2
    go_ret
    exact ⟨ret_bool (by rw [hp.out]), rfl⟩
theorem hasPrefix_any (r : ByteArray) (a b : UInt8) (w : World) (hr : r.size ≤ 140737488351232) :
    Calls Try.prog 91 #[.string r, .string ⟨#[a, b]⟩] w fun e w' => e = .returned (.bool (pre2 r a b)) ∧ w = w' := by
  go_enter Try.func91, Try.ntmps91
  go_wp2_with (go_at_call 96; refine (stringslite_HasPrefix_any _ _ _ _ hr).mono ?_; rintro e w' ⟨rfl, rfl⟩)
  go_ret
  exact ⟨rfl, rfl⟩
theorem pre2_size {r : ByteArray} {a b : UInt8} (h : pre2 r a b = true) : 2 ≤ r.size := by
  unfold pre2 at h
  have h3 := congrArg List.length (beq_iff_eq.1 h)
  simp at h3
  omega
theorem pre2_cons {r : ByteArray} {c : UInt8} {t : List UInt8} (h : r.data.toList = c :: t) (a b : UInt8) : pre2 r a b = (c == a && t.head? == some b) := by
  unfold pre2
  rw [h]
  cases t with
  | nil => simp
  | cons x t => simp [List.take, Bool.beq_eq_decide_eq]
/-- Is it a sign of one byte? -/
def oneB (c : UInt8) : Bool := onesL.contains c
theorem ones_yes (c : UInt8) (w : World) (h : oneB c = true) :
    Calls Try.prog 57 #[.string ⟨#[42, 38, 43, 33, 123, 125, 40, 41, 46, 44, 58, 92]⟩, .int .u8 c.toNat] w fun e w' => (∃ j : Nat, e = .returned (.int .i64 j)) ∧ w = w' := by
  refine (strings_IndexByte_any _ _ w).mono ?_
  rintro e w' ⟨rfl, rfl⟩
  unfold oneB at h
  rw [Lib.contains_iff_indexByte] at h
  have h2 : 0 ≤ Lib.indexByte onesL c := by simpa using h
  obtain ⟨j, hj⟩ := Int.eq_ofNat_of_zero_le h2
  refine ⟨⟨j, ?_⟩, rfl⟩
  rw [← hj]
  simp [onesL]
theorem ones_no (c : UInt8) (w : World) (h : oneB c = false) :
    Calls Try.prog 57 #[.string ⟨#[42, 38, 43, 33, 123, 125, 40, 41, 46, 44, 58, 92]⟩, .int .u8 c.toNat] w fun e w' => e = .returned (.int .i64 (-1)) ∧ w = w' := by
  refine (strings_IndexByte_any _ _ w).mono ?_
  rintro e w' ⟨rfl, rfl⟩
  unfold oneB at h
  rw [Lib.contains_iff_indexByte] at h
  have h2 : ¬ 0 ≤ Lib.indexByte onesL c := by simpa using h
  have h3 := Lib.indexByte_ge onesL c
  refine ⟨?_, rfl⟩
  rw [show Lib.indexByte (⟨#[42, 38, 43, 33, 123, 125, 40, 41, 46, 44, 58, 92]⟩ : ByteArray).data.toList ((c.toNat : Int).toNat.toUInt8) = Lib.indexByte onesL c by simp [onesL]]
  rw [show Lib.indexByte onesL c = -1 by omega]

/-- What lex.token hands back; nothing that lay has turned. -/
def TokRes (s : ByteArray) (at_ : Nat) (w : World) (e : Ending) (w' : World) : Prop :=
  (match tok (s.data.toList.drop at_) with
   | some (kind, len) => e = .returned (.tuple #[.agg #[.int .i64 kind, .string (s.extract at_ (at_ + len)), .int .i64 at_], .bool true])
   | none => e = .returned (.tuple #[.agg #[.int .i64 0, .string ⟨#[]⟩, .int .i64 0], .bool false])) ∧ Below w.heap.size w w'

set_option maxRecDepth 100000 in
set_option maxHeartbeats 8000000 in
theorem token_other (s : ByteArray) (at_ : Nat) (w : World) (hat : at_ < s.size) (hs : s.size ≤ 140737488351232)
    (hsm : ∀ h : 0 < (s.extract at_ s.size).size, smallB (s.extract at_ s.size)[0] = false) :
    Calls Try.prog 69 #[.string s, .int .i64 at_] w fun e w' => TokRes s at_ w e w' := by
  have hrs : 0 < (s.extract at_ s.size).size := by simp; omega
  have HCUT := Lib.hid (extract_cut s at_)
  have hsm1 := Lib.hid (hsm hrs)
  clear hsm
  go_enter Try.func69, Try.ntmps69
  go_wp2_with fail
  refine (classes_any lettersS _ (by decide)).mono ?_
  rintro e w' ⟨rfl, rfl⟩
  go_wp2_with (first
        | (refine wpList_store_row rfl 90 _ _ rfl (w.heap.size + 1 + 1 + 1 + 1) (tabA lettersL) rfl rfl 90 Try.zeroCells90 (heap_last _ _ _ (by simp)) (by rw [tabA_size]; exact info90) (by rw [← tabA_nil, tabA_size, tabA_size]) (tabA_one _) ?_; rw [setRow_last _ _ _ _ _ (by simp)]))
  have TW := TokW.start w (s.extract at_ s.size) at_
  revert TW
  generalize (((((w.alloc (Obj.cells #[.int .i64 at_] 3)).alloc (.cells #[.int .i64 0, .string ⟨#[]⟩, .int .i64 0] 34)).alloc (.cells #[.string (s.extract at_ s.size)] 9)).alloc (.cells (tabA lettersS.data.toList) 90)).alloc (.cells (tabA lettersL) 90)) = W
  intro TW
  have hrl := extract_drop s at_
  have hrz : (s.extract at_ s.size).size = s.size - at_ := by simp
  have hq := hsm1.out
  obtain ⟨c0, hc0⟩ : ∃ c, c = (s.extract at_ s.size)[0]'hrs := ⟨_, rfl⟩
  rw [← hc0] at hq ⊢
  have hl0 : ∃ t, (s.extract at_ s.size).data.toList = c0 :: t := ⟨_, by rw [hc0]; exact (drop_cons' (s.extract at_ s.size) 0 hrs)⟩
  clear hsm1 hc0
  revert TW hrl hrz hrs hl0 HCUT
  generalize s.extract at_ s.size = r
  intro hrs HCUT TW hrl hrz hl0
  have HRL := Lib.hid hrl
  have HRZ := Lib.hid hrz
  have HL0 := Lib.hid hl0
  have HQ := Lib.hid hq
  have hrm : r.size ≤ 140737488351232 := by omega
  clear hrl hrz hl0 hq
  obtain ⟨B, hB⟩ : ∃ B, B = w.heap.size := ⟨_, rfl⟩
  rw [← hB] at TW ⊢
  have HB := Lib.hid hB
  clear hB
  have cr := TW.r
  have hBz := TW.size
  have h11 : B + 1 + 1 < W.heap.size := by omega
  have h12 : B < W.heap.size := by omega
  refine (small_any _ _).mono ?_
  rintro e w' ⟨rfl, rfl⟩
  rw [HQ.out]
  go_wp2_with fail
  refine (capital_any _ _).mono ?_
  rintro e w' ⟨rfl, rfl⟩
  cases hcap : capB c0
  · have HCAP := Lib.hid hcap
    clear hcap
    go_wp2_with fail
    refine (hasPrefix_any r 45 62 W hrm).mono ?_
    rintro e w' ⟨rfl, rfl⟩
    cases hp1 : pre2 r 45 62
    · have HP1 := Lib.hid hp1
      clear hp1
      go_wp2_with fail
      refine (hasPrefix_any r 61 62 W hrm).mono ?_
      rintro e w' ⟨rfl, rfl⟩
      cases hp2 : pre2 r 61 62
      · have HP2 := Lib.hid hp2
        clear hp2
        go_wp2_with fail
        refine (hasPrefix_any r 60 61 W hrm).mono ?_
        rintro e w' ⟨rfl, rfl⟩
        cases hp3 : pre2 r 60 61
        · have HP3 := Lib.hid hp3
          clear hp3
          go_wp2_with fail
          refine (hasPrefix_any r 45 111 W hrm).mono ?_
          rintro e w' ⟨rfl, rfl⟩
          cases hp4 : pre2 r 45 111
          · have HP4 := Lib.hid hp4
            clear hp4
            go_wp2_with fail
            cases hone : oneB c0
            · have HONE := Lib.hid hone
              refine (ones_no c0 W hone).mono ?_
              rintro e w' ⟨rfl, rfl⟩
              clear hone
              obtain ⟨x0, hx0⟩ := Option.isSome_iff_exists.1 TW.v0
              obtain ⟨x1, hx1⟩ := Option.isSome_iff_exists.1 TW.v1
              obtain ⟨x2, hx2⟩ := Option.isSome_iff_exists.1 TW.v2
              have hf0 := TW.f0
              have hf1 := TW.f1
              have hf2 := TW.f2
              go_wp2_with fail
              refine bodyPost_ret (v := .tuple #[.agg #[.int .i64 0, .string ⟨#[]⟩, .int .i64 0], .bool false]) (by simp [results, Try.results69, go_sem, hx0, hx1, hx2]) rfl ⟨?_, ?_⟩
              · have hfin : tok r.data.toList = none := by
                  obtain ⟨t, ht⟩ := HL0.out
                  rw [ht]; exact tok_none1 HQ.out HCAP.out (pre2_cons ht _ _ ▸ HP1.out) (pre2_cons ht _ _ ▸ HP2.out) (pre2_cons ht _ _ ▸ HP3.out) (pre2_cons ht _ _ ▸ HP4.out) HONE.out
                rw [HRL.out] at hfin
                rw [hfin]
              · rw [← HB.out]
                exact ((TW.below.setCell (by show B ≤ B + 1; omega) _).setCell (by show B ≤ B + 1; omega) _).setCell (by show B ≤ B + 1; omega) _
            · have HONE := Lib.hid hone
              refine (ones_yes c0 W hone).mono ?_
              rintro e w' ⟨⟨j, rfl⟩, rfl⟩
              clear hone
              have h1 : 1 ≤ r.size := by omega
              go_wp2_with fail
              refine (of_any r 3 at_ 1 (B + 1 + 1) B W h1 hrm cr TW.a h11 h12).mono ?_
              rintro e w' ⟨rfl, hb⟩
              have TW' := TW.later hb
              clear hb
              obtain ⟨x0, hx0⟩ := Option.isSome_iff_exists.1 TW'.v0
              obtain ⟨x1, hx1⟩ := Option.isSome_iff_exists.1 TW'.v1
              obtain ⟨x2, hx2⟩ := Option.isSome_iff_exists.1 TW'.v2
              have hf0 := TW'.f0
              have hf1 := TW'.f1
              have hf2 := TW'.f2
              go_wp2_with fail
              refine bodyPost_ret (v := .tuple #[.agg #[.int .i64 (3 : Nat), .string (r.extract 0 1), .int .i64 at_], .bool true]) (by simp [results, Try.results69, go_sem, hx0, hx1, hx2]) rfl ⟨?_, ?_⟩
              · have hfin : tok r.data.toList = some (3, 1) := by
                  obtain ⟨t, ht⟩ := HL0.out
                  rw [ht]; exact tok_one HQ.out HCAP.out (pre2_cons ht _ _ ▸ HP1.out) (pre2_cons ht _ _ ▸ HP2.out) (pre2_cons ht _ _ ▸ HP3.out) (pre2_cons ht _ _ ▸ HP4.out) HONE.out
                rw [HRL.out] at hfin
                rw [hfin, HCUT.out 1 h1]
              · rw [← HB.out]
                exact ((TW'.below.setCell (by show B ≤ B + 1; omega) _).setCell (by show B ≤ B + 1; omega) _).setCell (by show B ≤ B + 1; omega) _
          · have HP4 := Lib.hid hp4
            have h2 := pre2_size hp4
            clear hp4
            by_cases h3 : r.size = 2
            · have h3b : ((r.size : Int) == 2) = true := by rw [h3]; rfl
              have H3 := Lib.hid h3
              clear h3
              go_wp2_with fail
              refine (of_any r 3 at_ 2 (B + 1 + 1) B W h2 hrm cr TW.a h11 h12).mono ?_
              rintro e w' ⟨rfl, hb⟩
              have TW' := TW.later hb
              clear hb
              obtain ⟨x0, hx0⟩ := Option.isSome_iff_exists.1 TW'.v0
              obtain ⟨x1, hx1⟩ := Option.isSome_iff_exists.1 TW'.v1
              obtain ⟨x2, hx2⟩ := Option.isSome_iff_exists.1 TW'.v2
              have hf0 := TW'.f0
              have hf1 := TW'.f1
              have hf2 := TW'.f2
              go_wp2_with fail
              refine bodyPost_ret (v := .tuple #[.agg #[.int .i64 (3 : Nat), .string (r.extract 0 2), .int .i64 at_], .bool true]) (by simp [results, Try.results69, go_sem, hx0, hx1, hx2]) rfl ⟨?_, ?_⟩
              · have hfin : tok r.data.toList = some (3, 2) := by
                  obtain ⟨t, ht⟩ := HL0.out
                  rw [ht]; exact tok_lolli HQ.out HCAP.out (pre2_cons ht _ _ ▸ HP1.out) (pre2_cons ht _ _ ▸ HP2.out) (pre2_cons ht _ _ ▸ HP3.out) (pre2_cons ht _ _ ▸ HP4.out) (.inl (by have h := congrArg List.length ht; simp at h; have := H3.out; omega))
                rw [HRL.out] at hfin
                rw [hfin, HCUT.out 2 h2]
              · rw [← HB.out]
                exact ((TW'.below.setCell (by show B ≤ B + 1; omega) _).setCell (by show B ≤ B + 1; omega) _).setCell (by show B ≤ B + 1; omega) _
            · have h3c : 2 < r.size := by omega
              have h3b : ((r.size : Int) == 2) = false := by rw [beq_eq_false_iff_ne]; omega
              have hd2 : r.data.toList[2]? = some r[2] := by simp [h3c]; rfl
              have HD2 := Lib.hid hd2
              have htc := TW.t r[2]
              have hby := r[2].toNat_lt
              clear h3 hd2
              cases hp : partB r[2]
              · rw [hp] at htc
                have HPB := Lib.hid hp
                clear hp
                go_wp2_with fail
                refine (of_any r 3 at_ 2 (B + 1 + 1) B W h2 hrm cr TW.a h11 h12).mono ?_
                rintro e w' ⟨rfl, hb⟩
                have TW' := TW.later hb
                clear hb
                obtain ⟨x0, hx0⟩ := Option.isSome_iff_exists.1 TW'.v0
                obtain ⟨x1, hx1⟩ := Option.isSome_iff_exists.1 TW'.v1
                obtain ⟨x2, hx2⟩ := Option.isSome_iff_exists.1 TW'.v2
                have hf0 := TW'.f0
                have hf1 := TW'.f1
                have hf2 := TW'.f2
                go_wp2_with fail
                refine bodyPost_ret (v := .tuple #[.agg #[.int .i64 (3 : Nat), .string (r.extract 0 2), .int .i64 at_], .bool true]) (by simp [results, Try.results69, go_sem, hx0, hx1, hx2]) rfl ⟨?_, ?_⟩
                · have hfin : tok r.data.toList = some (3, 2) := by
                    obtain ⟨t, ht⟩ := HL0.out
                    rw [ht]; exact tok_lolli HQ.out HCAP.out (pre2_cons ht _ _ ▸ HP1.out) (pre2_cons ht _ _ ▸ HP2.out) (pre2_cons ht _ _ ▸ HP3.out) (pre2_cons ht _ _ ▸ HP4.out) (.inr ⟨_, by have h := HD2.out; rw [ht] at h; exact h, HPB.out⟩)
                  rw [HRL.out] at hfin
                  rw [hfin, HCUT.out 2 h2]
                · rw [← HB.out]
                  exact ((TW'.below.setCell (by show B ≤ B + 1; omega) _).setCell (by show B ≤ B + 1; omega) _).setCell (by show B ≤ B + 1; omega) _
              · rw [hp] at htc
                have HPB := Lib.hid hp
                clear hp
                obtain ⟨x0, hx0⟩ := Option.isSome_iff_exists.1 TW.v0
                obtain ⟨x1, hx1⟩ := Option.isSome_iff_exists.1 TW.v1
                obtain ⟨x2, hx2⟩ := Option.isSome_iff_exists.1 TW.v2
                have hf0 := TW.f0
                have hf1 := TW.f1
                have hf2 := TW.f2
                go_wp2_with fail
                refine bodyPost_ret (v := .tuple #[.agg #[.int .i64 0, .string ⟨#[]⟩, .int .i64 0], .bool false]) (by simp [results, Try.results69, go_sem, hx0, hx1, hx2]) rfl ⟨?_, ?_⟩
                · have hfin : tok r.data.toList = none := by
                    obtain ⟨t, ht⟩ := HL0.out
                    rw [ht]; exact tok_none2 HQ.out HCAP.out (pre2_cons ht _ _ ▸ HP1.out) (pre2_cons ht _ _ ▸ HP2.out) (pre2_cons ht _ _ ▸ HP3.out) (pre2_cons ht _ _ ▸ HP4.out) (by have h := HD2.out; rw [ht] at h; exact h) HPB.out
                  rw [HRL.out] at hfin
                  rw [hfin]
                · rw [← HB.out]
                  exact ((TW.below.setCell (by show B ≤ B + 1; omega) _).setCell (by show B ≤ B + 1; omega) _).setCell (by show B ≤ B + 1; omega) _
        · have HP3 := Lib.hid hp3
          have h2 := pre2_size hp3
          clear hp3
          go_wp2_with fail
          refine (of_any r 3 at_ 2 (B + 1 + 1) B W h2 hrm cr TW.a h11 h12).mono ?_
          rintro e w' ⟨rfl, hb⟩
          have TW' := TW.later hb
          clear hb
          obtain ⟨x0, hx0⟩ := Option.isSome_iff_exists.1 TW'.v0
          obtain ⟨x1, hx1⟩ := Option.isSome_iff_exists.1 TW'.v1
          obtain ⟨x2, hx2⟩ := Option.isSome_iff_exists.1 TW'.v2
          have hf0 := TW'.f0
          have hf1 := TW'.f1
          have hf2 := TW'.f2
          go_wp2_with fail
          refine bodyPost_ret (v := .tuple #[.agg #[.int .i64 (3 : Nat), .string (r.extract 0 2), .int .i64 at_], .bool true]) (by simp [results, Try.results69, go_sem, hx0, hx1, hx2]) rfl ⟨?_, ?_⟩
          · have hfin : tok r.data.toList = some (3, 2) := by
              obtain ⟨t, ht⟩ := HL0.out
              rw [ht]; exact tok_two HQ.out HCAP.out (.inr (.inr (pre2_cons ht _ _ ▸ HP3.out)))
            rw [HRL.out] at hfin
            rw [hfin, HCUT.out 2 h2]
          · rw [← HB.out]
            exact ((TW'.below.setCell (by show B ≤ B + 1; omega) _).setCell (by show B ≤ B + 1; omega) _).setCell (by show B ≤ B + 1; omega) _
      · have HP2 := Lib.hid hp2
        have h2 := pre2_size hp2
        clear hp2
        go_wp2_with fail
        refine (of_any r 3 at_ 2 (B + 1 + 1) B W h2 hrm cr TW.a h11 h12).mono ?_
        rintro e w' ⟨rfl, hb⟩
        have TW' := TW.later hb
        clear hb
        obtain ⟨x0, hx0⟩ := Option.isSome_iff_exists.1 TW'.v0
        obtain ⟨x1, hx1⟩ := Option.isSome_iff_exists.1 TW'.v1
        obtain ⟨x2, hx2⟩ := Option.isSome_iff_exists.1 TW'.v2
        have hf0 := TW'.f0
        have hf1 := TW'.f1
        have hf2 := TW'.f2
        go_wp2_with fail
        refine bodyPost_ret (v := .tuple #[.agg #[.int .i64 (3 : Nat), .string (r.extract 0 2), .int .i64 at_], .bool true]) (by simp [results, Try.results69, go_sem, hx0, hx1, hx2]) rfl ⟨?_, ?_⟩
        · have hfin : tok r.data.toList = some (3, 2) := by
            obtain ⟨t, ht⟩ := HL0.out
            rw [ht]; exact tok_two HQ.out HCAP.out (.inr (.inl (pre2_cons ht _ _ ▸ HP2.out)))
          rw [HRL.out] at hfin
          rw [hfin, HCUT.out 2 h2]
        · rw [← HB.out]
          exact ((TW'.below.setCell (by show B ≤ B + 1; omega) _).setCell (by show B ≤ B + 1; omega) _).setCell (by show B ≤ B + 1; omega) _
    · have HP1 := Lib.hid hp1
      have h2 := pre2_size hp1
      clear hp1
      go_wp2_with fail
      refine (of_any r 3 at_ 2 (B + 1 + 1) B W h2 hrm cr TW.a h11 h12).mono ?_
      rintro e w' ⟨rfl, hb⟩
      have TW' := TW.later hb
      clear hb
      obtain ⟨x0, hx0⟩ := Option.isSome_iff_exists.1 TW'.v0
      obtain ⟨x1, hx1⟩ := Option.isSome_iff_exists.1 TW'.v1
      obtain ⟨x2, hx2⟩ := Option.isSome_iff_exists.1 TW'.v2
      have hf0 := TW'.f0
      have hf1 := TW'.f1
      have hf2 := TW'.f2
      go_wp2_with fail
      refine bodyPost_ret (v := .tuple #[.agg #[.int .i64 (3 : Nat), .string (r.extract 0 2), .int .i64 at_], .bool true]) (by simp [results, Try.results69, go_sem, hx0, hx1, hx2]) rfl ⟨?_, ?_⟩
      · have hfin : tok r.data.toList = some (3, 2) := by
          obtain ⟨t, ht⟩ := HL0.out
          rw [ht]; exact tok_two HQ.out HCAP.out (.inl (pre2_cons ht _ _ ▸ HP1.out))
        rw [HRL.out] at hfin
        rw [hfin, HCUT.out 2 h2]
      · rw [← HB.out]
        exact ((TW'.below.setCell (by show B ≤ B + 1; omega) _).setCell (by show B ≤ B + 1; omega) _).setCell (by show B ≤ B + 1; omega) _
  · have HCAP := Lib.hid hcap
    clear hcap
    have ct := TW.t
    have hm := runN_le r.data.toList
    obtain ⟨m, hmd⟩ : ∃ m, m = runN r.data.toList := ⟨_, rfl⟩
    have hm0 : (0 + runN (r.data.toList.drop 0) : Nat) = m := by rw [hmd]; simp
    have HM := Lib.hid hmd
    rw [← hmd] at hm
    have HM0 := Lib.hid hm0
    clear hm0 hmd
    have hm2 : m ≤ r.size := by simpa using hm
    clear hm
    go_wp2_with fail
    refine (run_any r 0 (B + 1 + 1) (B + 1 + 1 + 1 + 1) W (by omega) hrm cr ct).mono ?_
    rintro e w' ⟨rfl, rfl⟩
    clear ct
    rw [HM0.out]
    go_wp2_with fail
    refine (of_any r 2 at_ m (B + 1 + 1) B W hm2 hrm cr TW.a h11 h12).mono ?_
    rintro e w' ⟨rfl, hb⟩
    have TW' := TW.later hb
    clear hb
    obtain ⟨x0, hx0⟩ := Option.isSome_iff_exists.1 TW'.v0
    obtain ⟨x1, hx1⟩ := Option.isSome_iff_exists.1 TW'.v1
    obtain ⟨x2, hx2⟩ := Option.isSome_iff_exists.1 TW'.v2
    have hf0 := TW'.f0
    have hf1 := TW'.f1
    have hf2 := TW'.f2
    go_wp2_with fail
    refine bodyPost_ret (v := .tuple #[.agg #[.int .i64 (2 : Nat), .string (r.extract 0 m), .int .i64 at_], .bool true]) (by simp [results, Try.results69, go_sem, hx0, hx1, hx2]) rfl ⟨?_, ?_⟩
    · have hfin : tok r.data.toList = some (2, m) := by
        obtain ⟨t, ht⟩ := HL0.out
        rw [ht, HM.out, ht]; exact tok_cap HQ.out HCAP.out
      rw [HRL.out] at hfin
      rw [hfin, HCUT.out m hm2]
    · rw [← HB.out]
      exact ((TW'.below.setCell (by show B ≤ B + 1; omega) _).setCell (by show B ≤ B + 1; omega) _).setCell (by show B ≤ B + 1; omega) _

theorem token_any (s : ByteArray) (at_ : Nat) (w : World) (hat : at_ < s.size) (hs : s.size ≤ 140737488351232) :
    Calls Try.prog 69 #[.string s, .int .i64 at_] w fun e w' => TokRes s at_ w e w' := by
  have hrs : 0 < (s.extract at_ s.size).size := by simp; omega
  cases hsm : smallB ((s.extract at_ s.size)[0]'hrs)
  · exact token_other s at_ w hat hs (fun _ => hsm)
  · have hl : ∃ t, s.data.toList.drop at_ = (s.extract at_ s.size)[0]'hrs :: t := ⟨_, by rw [← extract_drop]; exact drop_cons' (s.extract at_ s.size) 0 hrs⟩
    obtain ⟨t, ht⟩ := hl
    have hex : ∃ kind len, tok (s.data.toList.drop at_) = some (kind, len) := by
      rw [ht]
      cases ho : oB ((s.extract at_ s.size)[0] :: t)
      · cases hw : wordsL.contains (((s.extract at_ s.size)[0] :: t).take (nameN ((s.extract at_ s.size)[0] :: t)))
        · exact ⟨_, _, tok_name hsm ho hw⟩
        · exact ⟨_, _, tok_word hsm ho hw⟩
      · exact ⟨_, _, tok_o hsm ho⟩
    obtain ⟨kind, len, htok⟩ := hex
    refine (token_small s at_ kind len w hat hs htok (fun _ => hsm)).mono ?_
    rintro e w' ⟨he, hb⟩
    exact ⟨by rw [htok]; exact he, hb⟩

end Go.Proofs.Ytkolnimgdbhekaa.P
