/- lex.token where no small letter stands: capital names and signs. lex.skip: the offset behind blanks and comments. lex.tokens: the iterator, over whatever rounds keep their word. -/
import Derived.Test.YtbndfgoklgdfdaaGreatDoorSe06
import Derived.Test.YtbndfgoklgdfdaaGreatDoorSe05
import Derived.RangeFuncNested
import Derived.RangeFuncBound
import Derived.RangeFuncCalls
import Derived.RangeFuncLeaves
import Derived.OwnWalkIn
import Derived.TacticsInMore
import Derived.LoopNIn
import Derived.LoopIn
set_option linter.all false
section
namespace Go.Proofs.YtbndfgoklgdfdaaGreatDoor.P
open Go.RowKit Go.Proofs.YtbndfgoklgdfdaaGreatDoorW.PrintWords Go.Proofs.YtbndfgoklgdfdaaGreatDoorW.PrintLast Go.Proofs.YtbndfgoklgdfdaaGreatDoorW.PrintMore

/-- Do these two bytes stand at the beginning? -/
def pre2 (r : ByteArray) (a b : UInt8) : Bool := r.data.toList.take 2 == [a, b]
theorem stringslite_HasPrefix_any (r : ByteArray) (a b : UInt8) (w : World) (hr : r.size ≤ 140737488351232) :
  Calls Tryz.prog 172 #[.string r, .string ⟨#[a, b]⟩] w fun e w' => e = .returned (.bool (pre2 r a b)) ∧ w = w' := by
 by_cases h : 2 ≤ r.size
 ·have hp := Lib.hid (show pre2 r a b = ((r.extract 0 2).toList == [a, b]) by unfold pre2; rw [extract_toList])
  go_enter Tryz.func172, Tryz.ntmps172
  go_wp2
  all_goals
   go_ret
   exact ⟨ret_bool (by first | (rw [hp.out]; done) | (rw [hp.out]; simp [*])), rfl⟩
 ·have hp := Lib.hid (show pre2 r a b = false by
   unfold pre2
   rw [List.take_of_length_le (by simp; omega)]
   cases h2 : (r.data.toList == [a, b])
   ·rfl
   ·have h3 := congrArg List.length (beq_iff_eq.1 h2)
    simp at h3
    omega)
  go_enter Tryz.func172, Tryz.ntmps172
  go_wp2
  go_ret
  exact ⟨ret_bool (by rw [hp.out]), rfl⟩
theorem hasPrefix_any (r : ByteArray) (a b : UInt8) (w : World) (hr : r.size ≤ 140737488351232) :
  Calls Tryz.prog 167 #[.string r, .string ⟨#[a, b]⟩] w fun e w' => e = .returned (.bool (pre2 r a b)) ∧ w = w' := by
 go_enter Tryz.func167, Tryz.ntmps167
 go_wp2_with (go_at_call 172; refine (stringslite_HasPrefix_any _ _ _ _ hr).mono ?_; rintro e w' ⟨rfl, rfl⟩)
 go_ret
 exact ⟨rfl, rfl⟩
theorem pre2_size {r : ByteArray} {a b : UInt8} (h : pre2 r a b = true) : 2 ≤ r.size := by
 unfold pre2 at h
 have h3 := congrArg List.length (beq_iff_eq.1 h)
 simp at h3
 omega
theorem pre2_cons {r : ByteArray} {c : UInt8} {t : List UInt8} (h : r.data.toList = c :: t) (a b : UInt8) : pre2 r a b = (c == a && t.head? == some b) := by
 unfold pre2
 rw [h]
 cases t with
 | nil => simp
 | cons x t => simp [List.take, Bool.beq_eq_decide_eq]
/-- Is it a sign of one byte? -/
def oneB (c : UInt8) : Bool := onesL.contains c
theorem ones_yes (c : UInt8) (w : World) (h : oneB c = true) :
  Calls Tryz.prog 160 #[.string ⟨#[42, 38, 43, 33, 123, 125, 40, 41, 46, 44, 58, 92]⟩, .int .u8 c.toNat] w fun e w' => (∃ j : Nat, e = .returned (.int .i64 j)) ∧ w = w' := by
 refine (strings_IndexByte_any _ _ w).mono ?_
 rintro e w' ⟨rfl, rfl⟩
 unfold oneB at h
 rw [Lib.contains_iff_indexByte] at h
 have h2 : 0 ≤ Lib.indexByte onesL c := by simpa using h
 obtain ⟨j, hj⟩ := Int.eq_ofNat_of_zero_le h2
 refine ⟨⟨j, ?_⟩, rfl⟩
 rw [← hj]
 simp [onesL]
theorem ones_no (c : UInt8) (w : World) (h : oneB c = false) :
  Calls Tryz.prog 160 #[.string ⟨#[42, 38, 43, 33, 123, 125, 40, 41, 46, 44, 58, 92]⟩, .int .u8 c.toNat] w fun e w' => e = .returned (.int .i64 (-1)) ∧ w = w' := by
 refine (strings_IndexByte_any _ _ w).mono ?_
 rintro e w' ⟨rfl, rfl⟩
 unfold oneB at h
 rw [Lib.contains_iff_indexByte] at h
 have h2 : ¬ 0 ≤ Lib.indexByte onesL c := by simpa using h
 have h3 := Lib.indexByte_ge onesL c
 refine ⟨?_, rfl⟩
 rw [show Lib.indexByte (⟨#[42, 38, 43, 33, 123, 125, 40, 41, 46, 44, 58, 92]⟩ : ByteArray).data.toList ((c.toNat : Int).toNat.toUInt8) = Lib.indexByte onesL c by simp [onesL]]
 rw [show Lib.indexByte onesL c = -1 by omega]

/-- What lex.token hands back; nothing that lay has turned. -/
def TokRes (s : ByteArray) (at_ : Nat) (w : World) (e : Ending) (w' : World) : Prop :=
  (match tok (s.data.toList.drop at_) with
   | some (kind, len) => e = .returned (.tuple #[.agg #[.int .i64 kind, .string (s.extract at_ (at_ + len)), .int .i64 at_], .bool true])
   | none => e = .returned (.tuple #[.agg #[.int .i64 0, .string ⟨#[]⟩, .int .i64 0], .bool false])) ∧ Below w.heap.size w w'

set_option maxRecDepth 100000 in
set_option maxHeartbeats 8000000 in
theorem token_other (s : ByteArray) (at_ : Nat) (w : World) (hat : at_ < s.size) (hs : s.size ≤ 140737488351232)
    (hsm : ∀ h : 0 < (s.extract at_ s.size).size, smallB (s.extract at_ s.size)[0] = false) :
    Calls Tryz.prog 142 #[.string s, .int .i64 at_] w fun e w' => TokRes s at_ w e w' := by
  have hrs : 0 < (s.extract at_ s.size).size := by simp; omega
  have HCUT := Lib.hid (extract_cut s at_)
  have hsm1 := Lib.hid (hsm hrs)
  clear hsm
  go_enter Tryz.func142, Tryz.ntmps142
  go_wp2_with fail
  refine (classes_any lettersS _ (by decide)).mono ?_
  rintro e w' ⟨rfl, rfl⟩
  go_wp2_with (first
        | (refine wpList_store_row rfl 149 _ _ rfl (w.heap.size + 1 + 1 + 1 + 1) (tabA lettersL) rfl rfl 149 Tryz.zeroCells149 (heap_last _ _ _ (by simp)) (by rw [tabA_size]; exact info90) (by rw [← tabA_nil, tabA_size, tabA_size]) (tabA_one _) ?_; rw [setRow_last _ _ _ _ _ (by simp)]))
  have TW := TokW.start w (s.extract at_ s.size) at_
  revert TW
  generalize (((((w.alloc (Obj.cells #[.int .i64 at_] 3)).alloc (.cells #[.int .i64 0, .string ⟨#[]⟩, .int .i64 0] 65)).alloc (.cells #[.string (s.extract at_ s.size)] 9)).alloc (.cells (tabA lettersS.data.toList) 149)).alloc (.cells (tabA lettersL) 149)) = W
  intro TW
  have hrl := extract_drop s at_
  have hrz : (s.extract at_ s.size).size = s.size - at_ := by simp
  have hq := hsm1.out
  obtain ⟨c0, hc0⟩ : ∃ c, c = (s.extract at_ s.size)[0]'hrs := ⟨_, rfl⟩
  rw [← hc0] at hq ⊢
  have hl0 : ∃ t, (s.extract at_ s.size).data.toList = c0 :: t := ⟨_, by rw [hc0]; exact (drop_cons' (s.extract at_ s.size) 0 hrs)⟩
  clear hsm1 hc0
  revert TW hrl hrz hrs hl0 HCUT
  generalize s.extract at_ s.size = r
  intro hrs HCUT TW hrl hrz hl0
  have HRL := Lib.hid hrl
  have HRZ := Lib.hid hrz
  have HL0 := Lib.hid hl0
  have HQ := Lib.hid hq
  have hrm : r.size ≤ 140737488351232 := by omega
  clear hrl hrz hl0 hq
  obtain ⟨B, hB⟩ : ∃ B, B = w.heap.size := ⟨_, rfl⟩
  rw [← hB] at TW ⊢
  have HB := Lib.hid hB
  clear hB
  have cr := TW.r
  have hBz := TW.size
  have h11 : B + 1 + 1 < W.heap.size := by omega
  have h12 : B < W.heap.size := by omega
  refine (small_any _ _).mono ?_
  rintro e w' ⟨rfl, rfl⟩
  rw [HQ.out]
  go_wp2_with fail
  refine (capital_any _ _).mono ?_
  rintro e w' ⟨rfl, rfl⟩
  cases hcap : capB c0
  · have HCAP := Lib.hid hcap
    clear hcap
    go_wp2_with fail
    refine (hasPrefix_any r 45 62 W hrm).mono ?_
    rintro e w' ⟨rfl, rfl⟩
    cases hp1 : pre2 r 45 62
    · have HP1 := Lib.hid hp1
      clear hp1
      go_wp2_with fail
      refine (hasPrefix_any r 61 62 W hrm).mono ?_
      rintro e w' ⟨rfl, rfl⟩
      cases hp2 : pre2 r 61 62
      · have HP2 := Lib.hid hp2
        clear hp2
        go_wp2_with fail
        refine (hasPrefix_any r 60 61 W hrm).mono ?_
        rintro e w' ⟨rfl, rfl⟩
        cases hp3 : pre2 r 60 61
        · have HP3 := Lib.hid hp3
          clear hp3
          go_wp2_with fail
          refine (hasPrefix_any r 45 111 W hrm).mono ?_
          rintro e w' ⟨rfl, rfl⟩
          cases hp4 : pre2 r 45 111
          · have HP4 := Lib.hid hp4
            clear hp4
            go_wp2_with fail
            cases hone : oneB c0
            · have HONE := Lib.hid hone
              refine (ones_no c0 W hone).mono ?_
              rintro e w' ⟨rfl, rfl⟩
              clear hone
              obtain ⟨x0, hx0⟩ := Option.isSome_iff_exists.1 TW.v0
              obtain ⟨x1, hx1⟩ := Option.isSome_iff_exists.1 TW.v1
              obtain ⟨x2, hx2⟩ := Option.isSome_iff_exists.1 TW.v2
              have hf0 := TW.f0
              have hf1 := TW.f1
              have hf2 := TW.f2
              go_wp2_with fail
              refine bodyPost_ret (v := .tuple #[.agg #[.int .i64 0, .string ⟨#[]⟩, .int .i64 0], .bool false]) (by simp [results, Tryz.results142, go_sem, hx0, hx1, hx2]) rfl ⟨?_, ?_⟩
              · have hfin : tok r.data.toList = none := by
                  obtain ⟨t, ht⟩ := HL0.out
                  rw [ht]; exact tok_none1 HQ.out HCAP.out (pre2_cons ht _ _ ▸ HP1.out) (pre2_cons ht _ _ ▸ HP2.out) (pre2_cons ht _ _ ▸ HP3.out) (pre2_cons ht _ _ ▸ HP4.out) HONE.out
                rw [HRL.out] at hfin
                rw [hfin]
              · rw [← HB.out]
                exact ((TW.below.setCell (by show B ≤ B + 1; omega) _).setCell (by show B ≤ B + 1; omega) _).setCell (by show B ≤ B + 1; omega) _
            · have HONE := Lib.hid hone
              refine (ones_yes c0 W hone).mono ?_
              rintro e w' ⟨⟨j, rfl⟩, rfl⟩
              clear hone
              have h1 : 1 ≤ r.size := by omega
              go_wp2_with fail
              refine (of_any r 3 at_ 1 (B + 1 + 1) B W h1 hrm cr TW.a h11 h12).mono ?_
              rintro e w' ⟨rfl, hb⟩
              have TW' := TW.later hb
              clear hb
              obtain ⟨x0, hx0⟩ := Option.isSome_iff_exists.1 TW'.v0
              obtain ⟨x1, hx1⟩ := Option.isSome_iff_exists.1 TW'.v1
              obtain ⟨x2, hx2⟩ := Option.isSome_iff_exists.1 TW'.v2
              have hf0 := TW'.f0
              have hf1 := TW'.f1
              have hf2 := TW'.f2
              go_wp2_with fail
              refine bodyPost_ret (v := .tuple #[.agg #[.int .i64 (3 : Nat), .string (r.extract 0 1), .int .i64 at_], .bool true]) (by simp [results, Tryz.results142, go_sem, hx0, hx1, hx2]) rfl ⟨?_, ?_⟩
              · have hfin : tok r.data.toList = some (3, 1) := by
                  obtain ⟨t, ht⟩ := HL0.out
                  rw [ht]; exact tok_one HQ.out HCAP.out (pre2_cons ht _ _ ▸ HP1.out) (pre2_cons ht _ _ ▸ HP2.out) (pre2_cons ht _ _ ▸ HP3.out) (pre2_cons ht _ _ ▸ HP4.out) HONE.out
                rw [HRL.out] at hfin
                rw [hfin, HCUT.out 1 h1]
              · rw [← HB.out]
                exact ((TW'.below.setCell (by show B ≤ B + 1; omega) _).setCell (by show B ≤ B + 1; omega) _).setCell (by show B ≤ B + 1; omega) _
          · have HP4 := Lib.hid hp4
            have h2 := pre2_size hp4
            clear hp4
            by_cases h3 : r.size = 2
            · have h3b : ((r.size : Int) == 2) = true := by rw [h3]; rfl
              have H3 := Lib.hid h3
              clear h3
              go_wp2_with fail
              refine (of_any r 3 at_ 2 (B + 1 + 1) B W h2 hrm cr TW.a h11 h12).mono ?_
              rintro e w' ⟨rfl, hb⟩
              have TW' := TW.later hb
              clear hb
              obtain ⟨x0, hx0⟩ := Option.isSome_iff_exists.1 TW'.v0
              obtain ⟨x1, hx1⟩ := Option.isSome_iff_exists.1 TW'.v1
              obtain ⟨x2, hx2⟩ := Option.isSome_iff_exists.1 TW'.v2
              have hf0 := TW'.f0
              have hf1 := TW'.f1
              have hf2 := TW'.f2
              go_wp2_with fail
              refine bodyPost_ret (v := .tuple #[.agg #[.int .i64 (3 : Nat), .string (r.extract 0 2), .int .i64 at_], .bool true]) (by simp [results, Tryz.results142, go_sem, hx0, hx1, hx2]) rfl ⟨?_, ?_⟩
              · have hfin : tok r.data.toList = some (3, 2) := by
                  obtain ⟨t, ht⟩ := HL0.out
                  rw [ht]; exact tok_lolli HQ.out HCAP.out (pre2_cons ht _ _ ▸ HP1.out) (pre2_cons ht _ _ ▸ HP2.out) (pre2_cons ht _ _ ▸ HP3.out) (pre2_cons ht _ _ ▸ HP4.out) (.inl (by have h := congrArg List.length ht; simp at h; have := H3.out; omega))
                rw [HRL.out] at hfin
                rw [hfin, HCUT.out 2 h2]
              · rw [← HB.out]
                exact ((TW'.below.setCell (by show B ≤ B + 1; omega) _).setCell (by show B ≤ B + 1; omega) _).setCell (by show B ≤ B + 1; omega) _
            · have h3c : 2 < r.size := by omega
              have h3b : ((r.size : Int) == 2) = false := by rw [beq_eq_false_iff_ne]; omega
              have hd2 : r.data.toList[2]? = some r[2] := by simp [h3c]; rfl
              have HD2 := Lib.hid hd2
              have htc := TW.t r[2]
              have hby := r[2].toNat_lt
              clear h3 hd2
              cases hp : partB r[2]
              · rw [hp] at htc
                have HPB := Lib.hid hp
                clear hp
                go_wp2_with fail
                refine (of_any r 3 at_ 2 (B + 1 + 1) B W h2 hrm cr TW.a h11 h12).mono ?_
                rintro e w' ⟨rfl, hb⟩
                have TW' := TW.later hb
                clear hb
                obtain ⟨x0, hx0⟩ := Option.isSome_iff_exists.1 TW'.v0
                obtain ⟨x1, hx1⟩ := Option.isSome_iff_exists.1 TW'.v1
                obtain ⟨x2, hx2⟩ := Option.isSome_iff_exists.1 TW'.v2
                have hf0 := TW'.f0
                have hf1 := TW'.f1
                have hf2 := TW'.f2
                go_wp2_with fail
                refine bodyPost_ret (v := .tuple #[.agg #[.int .i64 (3 : Nat), .string (r.extract 0 2), .int .i64 at_], .bool true]) (by simp [results, Tryz.results142, go_sem, hx0, hx1, hx2]) rfl ⟨?_, ?_⟩
                · have hfin : tok r.data.toList = some (3, 2) := by
                    obtain ⟨t, ht⟩ := HL0.out
                    rw [ht]; exact tok_lolli HQ.out HCAP.out (pre2_cons ht _ _ ▸ HP1.out) (pre2_cons ht _ _ ▸ HP2.out) (pre2_cons ht _ _ ▸ HP3.out) (pre2_cons ht _ _ ▸ HP4.out) (.inr ⟨_, by have h := HD2.out; rw [ht] at h; exact h, HPB.out⟩)
                  rw [HRL.out] at hfin
                  rw [hfin, HCUT.out 2 h2]
                · rw [← HB.out]
                  exact ((TW'.below.setCell (by show B ≤ B + 1; omega) _).setCell (by show B ≤ B + 1; omega) _).setCell (by show B ≤ B + 1; omega) _
              · rw [hp] at htc
                have HPB := Lib.hid hp
                clear hp
                obtain ⟨x0, hx0⟩ := Option.isSome_iff_exists.1 TW.v0
                obtain ⟨x1, hx1⟩ := Option.isSome_iff_exists.1 TW.v1
                obtain ⟨x2, hx2⟩ := Option.isSome_iff_exists.1 TW.v2
                have hf0 := TW.f0
                have hf1 := TW.f1
                have hf2 := TW.f2
                go_wp2_with fail
                refine bodyPost_ret (v := .tuple #[.agg #[.int .i64 0, .string ⟨#[]⟩, .int .i64 0], .bool false]) (by simp [results, Tryz.results142, go_sem, hx0, hx1, hx2]) rfl ⟨?_, ?_⟩
                · have hfin : tok r.data.toList = none := by
                    obtain ⟨t, ht⟩ := HL0.out
                    rw [ht]; exact tok_none2 HQ.out HCAP.out (pre2_cons ht _ _ ▸ HP1.out) (pre2_cons ht _ _ ▸ HP2.out) (pre2_cons ht _ _ ▸ HP3.out) (pre2_cons ht _ _ ▸ HP4.out) (by have h := HD2.out; rw [ht] at h; exact h) HPB.out
                  rw [HRL.out] at hfin
                  rw [hfin]
                · rw [← HB.out]
                  exact ((TW.below.setCell (by show B ≤ B + 1; omega) _).setCell (by show B ≤ B + 1; omega) _).setCell (by show B ≤ B + 1; omega) _
        · have HP3 := Lib.hid hp3
          have h2 := pre2_size hp3
          clear hp3
          go_wp2_with fail
          refine (of_any r 3 at_ 2 (B + 1 + 1) B W h2 hrm cr TW.a h11 h12).mono ?_
          rintro e w' ⟨rfl, hb⟩
          have TW' := TW.later hb
          clear hb
          obtain ⟨x0, hx0⟩ := Option.isSome_iff_exists.1 TW'.v0
          obtain ⟨x1, hx1⟩ := Option.isSome_iff_exists.1 TW'.v1
          obtain ⟨x2, hx2⟩ := Option.isSome_iff_exists.1 TW'.v2
          have hf0 := TW'.f0
          have hf1 := TW'.f1
          have hf2 := TW'.f2
          go_wp2_with fail
          refine bodyPost_ret (v := .tuple #[.agg #[.int .i64 (3 : Nat), .string (r.extract 0 2), .int .i64 at_], .bool true]) (by simp [results, Tryz.results142, go_sem, hx0, hx1, hx2]) rfl ⟨?_, ?_⟩
          · have hfin : tok r.data.toList = some (3, 2) := by
              obtain ⟨t, ht⟩ := HL0.out
              rw [ht]; exact tok_two HQ.out HCAP.out (.inr (.inr (pre2_cons ht _ _ ▸ HP3.out)))
            rw [HRL.out] at hfin
            rw [hfin, HCUT.out 2 h2]
          · rw [← HB.out]
            exact ((TW'.below.setCell (by show B ≤ B + 1; omega) _).setCell (by show B ≤ B + 1; omega) _).setCell (by show B ≤ B + 1; omega) _
      · have HP2 := Lib.hid hp2
        have h2 := pre2_size hp2
        clear hp2
        go_wp2_with fail
        refine (of_any r 3 at_ 2 (B + 1 + 1) B W h2 hrm cr TW.a h11 h12).mono ?_
        rintro e w' ⟨rfl, hb⟩
        have TW' := TW.later hb
        clear hb
        obtain ⟨x0, hx0⟩ := Option.isSome_iff_exists.1 TW'.v0
        obtain ⟨x1, hx1⟩ := Option.isSome_iff_exists.1 TW'.v1
        obtain ⟨x2, hx2⟩ := Option.isSome_iff_exists.1 TW'.v2
        have hf0 := TW'.f0
        have hf1 := TW'.f1
        have hf2 := TW'.f2
        go_wp2_with fail
        refine bodyPost_ret (v := .tuple #[.agg #[.int .i64 (3 : Nat), .string (r.extract 0 2), .int .i64 at_], .bool true]) (by simp [results, Tryz.results142, go_sem, hx0, hx1, hx2]) rfl ⟨?_, ?_⟩
        · have hfin : tok r.data.toList = some (3, 2) := by
            obtain ⟨t, ht⟩ := HL0.out
            rw [ht]; exact tok_two HQ.out HCAP.out (.inr (.inl (pre2_cons ht _ _ ▸ HP2.out)))
          rw [HRL.out] at hfin
          rw [hfin, HCUT.out 2 h2]
        · rw [← HB.out]
          exact ((TW'.below.setCell (by show B ≤ B + 1; omega) _).setCell (by show B ≤ B + 1; omega) _).setCell (by show B ≤ B + 1; omega) _
    · have HP1 := Lib.hid hp1
      have h2 := pre2_size hp1
      clear hp1
      go_wp2_with fail
      refine (of_any r 3 at_ 2 (B + 1 + 1) B W h2 hrm cr TW.a h11 h12).mono ?_
      rintro e w' ⟨rfl, hb⟩
      have TW' := TW.later hb
      clear hb
      obtain ⟨x0, hx0⟩ := Option.isSome_iff_exists.1 TW'.v0
      obtain ⟨x1, hx1⟩ := Option.isSome_iff_exists.1 TW'.v1
      obtain ⟨x2, hx2⟩ := Option.isSome_iff_exists.1 TW'.v2
      have hf0 := TW'.f0
      have hf1 := TW'.f1
      have hf2 := TW'.f2
      go_wp2_with fail
      refine bodyPost_ret (v := .tuple #[.agg #[.int .i64 (3 : Nat), .string (r.extract 0 2), .int .i64 at_], .bool true]) (by simp [results, Tryz.results142, go_sem, hx0, hx1, hx2]) rfl ⟨?_, ?_⟩
      · have hfin : tok r.data.toList = some (3, 2) := by
          obtain ⟨t, ht⟩ := HL0.out
          rw [ht]; exact tok_two HQ.out HCAP.out (.inl (pre2_cons ht _ _ ▸ HP1.out))
        rw [HRL.out] at hfin
        rw [hfin, HCUT.out 2 h2]
      · rw [← HB.out]
        exact ((TW'.below.setCell (by show B ≤ B + 1; omega) _).setCell (by show B ≤ B + 1; omega) _).setCell (by show B ≤ B + 1; omega) _
  · have HCAP := Lib.hid hcap
    clear hcap
    have ct := TW.t
    have hm := runN_le r.data.toList
    obtain ⟨m, hmd⟩ : ∃ m, m = runN r.data.toList := ⟨_, rfl⟩
    have hm0 : (0 + runN (r.data.toList.drop 0) : Nat) = m := by rw [hmd]; simp
    have HM := Lib.hid hmd
    rw [← hmd] at hm
    have HM0 := Lib.hid hm0
    clear hm0 hmd
    have hm2 : m ≤ r.size := by simpa using hm
    clear hm
    go_wp2_with fail
    refine (run_any r 0 (B + 1 + 1) (B + 1 + 1 + 1 + 1) W (by omega) hrm cr ct).mono ?_
    rintro e w' ⟨rfl, rfl⟩
    clear ct
    rw [HM0.out]
    go_wp2_with fail
    refine (of_any r 2 at_ m (B + 1 + 1) B W hm2 hrm cr TW.a h11 h12).mono ?_
    rintro e w' ⟨rfl, hb⟩
    have TW' := TW.later hb
    clear hb
    obtain ⟨x0, hx0⟩ := Option.isSome_iff_exists.1 TW'.v0
    obtain ⟨x1, hx1⟩ := Option.isSome_iff_exists.1 TW'.v1
    obtain ⟨x2, hx2⟩ := Option.isSome_iff_exists.1 TW'.v2
    have hf0 := TW'.f0
    have hf1 := TW'.f1
    have hf2 := TW'.f2
    go_wp2_with fail
    refine bodyPost_ret (v := .tuple #[.agg #[.int .i64 (2 : Nat), .string (r.extract 0 m), .int .i64 at_], .bool true]) (by simp [results, Tryz.results142, go_sem, hx0, hx1, hx2]) rfl ⟨?_, ?_⟩
    · have hfin : tok r.data.toList = some (2, m) := by
        obtain ⟨t, ht⟩ := HL0.out
        rw [ht, HM.out, ht]; exact tok_cap HQ.out HCAP.out
      rw [HRL.out] at hfin
      rw [hfin, HCUT.out m hm2]
    · rw [← HB.out]
      exact ((TW'.below.setCell (by show B ≤ B + 1; omega) _).setCell (by show B ≤ B + 1; omega) _).setCell (by show B ≤ B + 1; omega) _

theorem token_any (s : ByteArray) (at_ : Nat) (w : World) (hat : at_ < s.size) (hs : s.size ≤ 140737488351232) :
  Calls Tryz.prog 142 #[.string s, .int .i64 at_] w fun e w' => TokRes s at_ w e w' := by
 have hrs : 0 < (s.extract at_ s.size).size := by simp; omega
 cases hsm : smallB ((s.extract at_ s.size)[0]'hrs)
 ·exact token_other s at_ w hat hs (fun _ => hsm)
 ·have hl : ∃ t, s.data.toList.drop at_ = (s.extract at_ s.size)[0]'hrs :: t := ⟨_, by rw [← extract_drop]; exact drop_cons' (s.extract at_ s.size) 0 hrs⟩
  obtain ⟨t, ht⟩ := hl
  have hex : ∃ kind len, tok (s.data.toList.drop at_) = some (kind, len) := by
   rw [ht]
   cases ho : oB ((s.extract at_ s.size)[0] :: t)
   ·cases hw : wordsL.contains (((s.extract at_ s.size)[0] :: t).take (nameN ((s.extract at_ s.size)[0] :: t)))
    ·exact ⟨_, _, tok_name hsm ho hw⟩
    ·exact ⟨_, _, tok_word hsm ho hw⟩
   ·exact ⟨_, _, tok_o hsm ho⟩
  obtain ⟨kind, len, htok⟩ := hex
  refine (token_small s at_ kind len w hat hs htok (fun _ => hsm)).mono ?_
  rintro e w' ⟨he, hb⟩
  exact ⟨by rw [htok]; exact he, hb⟩

end Go.Proofs.YtbndfgoklgdfdaaGreatDoor.P
end
section
namespace Go.Proofs.YtbndfgoklgdfdaaGreatDoor.P
open Go.RowKit Go.Proofs.YtbndfgoklgdfdaaGreatDoorW.PrintWords Go.Proofs.YtbndfgoklgdfdaaGreatDoorW.PrintLast Go.Proofs.YtbndfgoklgdfdaaGreatDoorW.PrintMore

theorem skipN_drop (s : ByteArray) (k : Nat) (h : k < s.size) : skipN false (s.data.toList.drop k) = if blankB s[k] then skipN false (s.data.toList.drop (k + 1)) + 1 else if s[k] = 37 then skipN true (s.data.toList.drop (k + 1)) + 1 else 0 := by
 rw [drop_cons' s k h, skipN]
theorem byteEq (c : UInt8) (k : Nat) (hk : k < 256) : ((c.toNat : Int) == (k : Int)) = (c == k.toUInt8) := by
 rw [Bool.eq_iff_iff]
 simp only [beq_iff_eq]
 have := c.toNat_lt
 constructor
 ·intro h
  apply UInt8.toNat_inj.1
  simp [Nat.toUInt8]
  omega
 ·intro h
  rw [h]
  simp [Nat.toUInt8]
  omega
theorem drop_tail (s : ByteArray) (k : Nat) : (s.extract k s.size).data.toList = s.data.toList.drop k := by
 rw [ByteArray.data_extract, Array.toList_extract, List.extract_eq_take_drop]
 exact List.take_of_length_le (by simp)

set_option maxHeartbeats 1000000 in
theorem skip_any (s : ByteArray) (n : Nat) (w : World) (hn : n ≤ s.size) (hs : s.size ≤ 140737488351232) :
  Calls Tryz.prog 141 #[.string s, .int .i64 n] w fun e w' => e = .returned (.int .i64 (n + skipN false (s.data.toList.drop n) : Nat)) ∧ w = w' := by
 go_enter Tryz.func141, Tryz.ntmps141
 go_wp2_with fail
 go_loop [1, 5] (fun i _ => ∃ k : Nat, k ≤ s.size ∧ i = .int .i64 k ∧ k + skipN false (s.data.toList.drop k) = n + skipN false (s.data.toList.drop n)) (fun i _ => s.size - (intOf i).toNat)
 case atStart => exact ⟨n, hn, rfl, rfl⟩
 case round =>
  obtain ⟨k, hk, rfl, hkn⟩ := hrel
  have HKN := Lib.hid hkn
  clear hkn
  by_cases hlt : k < s.size
  ·have HR := Lib.hid (skipN_drop s k hlt)
   have hb := s[k].toNat_lt
   have e32 := byteEq s[k] 32 (by omega)
   have e9 := byteEq s[k] 9 (by omega)
   have e10 := byteEq s[k] 10 (by omega)
   have e37 := byteEq s[k] 37 (by omega)
   cases hbl : blankB s[k]
   ·have hbl' := hbl
    simp only [blankB, Bool.or_eq_false_iff] at hbl'
    obtain ⟨⟨q1, q2⟩, q3⟩ := hbl'
    rw [show (32 : Nat).toUInt8 = 32 from rfl, q1] at e32
    rw [show (9 : Nat).toUInt8 = 9 from rfl, q2] at e9
    rw [show (10 : Nat).toUInt8 = 10 from rfl, q3] at e10
    have g32 : ((s[k].toNat : Int) == 32) = false := e32
    have g9 : ((s[k].toNat : Int) == 9) = false := e9
    have g10 : ((s[k].toNat : Int) == 10) = false := e10
    have HBL := Lib.hid hbl
    clear hbl q1 q2 q3 e32 e9 e10
    cases h37 : (s[k] == 37)
    ·have g37 : ((s[k].toNat : Int) == 37) = false := by rw [show (37 : Nat).toUInt8 = 37 from rfl, h37] at e37; exact e37
     have H37 := Lib.hid h37
     clear h37 e37
     go_wp2
     go_ret
     exact ⟨ret_int (by have h := HKN.out; rw [HR.out, HBL.out, if_neg (by simp), if_neg (by simpa using H37.out)] at h; omega), rfl⟩
    ·have g37 : ((s[k].toNat : Int) == 37) = true := by rw [show (37 : Nat).toUInt8 = 37 from rfl, h37] at e37; exact e37
     have h37' : s[k] = 37 := by simpa using h37
     have hdr : s.data.toList.drop k = 37 :: s.data.toList.drop (k + 1) := by rw [drop_cons' s k hlt, h37']
     have HDR := Lib.hid hdr
     have hss := skip_sign (s.data.toList.drop (k + 1))
     have HSS := Lib.hid hss
     have hge := Lib.indexByte_ge (s.data.toList.drop k) 10
     obtain ⟨j, hj⟩ : ∃ j, j = Lib.indexByte (s.data.toList.drop k) 10 := ⟨_, rfl⟩
     rw [← hj] at hge
     have HJ := Lib.hid hj
     clear h37 e37 h37' hdr hss hj
     by_cases hj0 : 0 ≤ j
     ·obtain ⟨m, rfl⟩ := Int.eq_ofNat_of_zero_le hj0
      have h1 := HSS.out.1 m (by rw [← HDR.out]; exact HJ.out.symm)
      have hm1 : k + m < s.size := by have := h1.1; simp at this; omega
      have hm2 : 1 ≤ m := h1.2.1
      have H3 := Lib.hid h1.2.2
      clear h1
      go_wp2_with (go_at_call 160; refine (strings_IndexByte_any _ _ _).mono ?_; rintro e w' ⟨rfl, rfl⟩; rw [drop_tail s k]; rw [show (10 : Int).toNat.toUInt8 = 10 from rfl]; rw [← HJ.out])
      go_round
      case rel => exact ⟨k + m, by omega, by go_num, by have h := HKN.out; rw [HDR.out, H3.out, ← HDR.out, List.drop_drop] at h; omega⟩
      case measure => simp [intOf]; omega
     ·have h1 := HSS.out.2 (by rw [← HDR.out, ← HJ.out]; omega)
      have H3 := Lib.hid h1
      clear h1
      go_wp2_with (go_at_call 160; refine (strings_IndexByte_any _ _ _).mono ?_; rintro e w' ⟨rfl, rfl⟩; rw [drop_tail s k]; rw [show (10 : Int).toNat.toUInt8 = 10 from rfl]; rw [← HJ.out])
      go_round
      case rel => exact ⟨s.size, by omega, by go_num, by have h := HKN.out; rw [HDR.out, H3.out] at h; simp at h; rw [List.drop_of_length_le (by simp)]; simp [skipN]; omega⟩
      case measure => simp [intOf]; omega
   ·have HBL := Lib.hid hbl
    simp only [blankB, Bool.or_eq_true] at hbl
    clear e37
    rcases hbl with (q | q) | q
    ·rw [show (32 : Nat).toUInt8 = 32 from rfl, q] at e32
     have g32 : ((s[k].toNat : Int) == 32) = true := e32
     clear q e32 e9 e10
     go_wp2
     go_round
     case rel => exact ⟨k + 1, by omega, by go_num, by have h := HKN.out; rw [HR.out, HBL.out] at h; simp at h; omega⟩
     case measure => simp [intOf]; omega
    ·rw [show (9 : Nat).toUInt8 = 9 from rfl, q] at e9
     have g9 : ((s[k].toNat : Int) == 9) = true := e9
     have g32 : ((s[k].toNat : Int) == 32) = false := by
      have q' : s[k] = 9 := by simpa using q
      have q2 : s[k].toNat = 9 := by rw [q']; rfl
      rw [beq_eq_false_iff_ne]; omega
     clear q e32 e9 e10
     go_wp2
     go_round
     case rel => exact ⟨k + 1, by omega, by go_num, by have h := HKN.out; rw [HR.out, HBL.out] at h; simp at h; omega⟩
     case measure => simp [intOf]; omega
    ·rw [show (10 : Nat).toUInt8 = 10 from rfl, q] at e10
     have q' : s[k] = 10 := by simpa using q
     have q2 : s[k].toNat = 10 := by rw [q']; rfl
     have g10 : ((s[k].toNat : Int) == 10) = true := e10
     have g32 : ((s[k].toNat : Int) == 32) = false := by rw [beq_eq_false_iff_ne]; omega
     have g9 : ((s[k].toNat : Int) == 9) = false := by rw [beq_eq_false_iff_ne]; omega
     clear q q' q2 e32 e9 e10
     go_wp2
     go_round
     case rel => exact ⟨k + 1, by omega, by go_num, by have h := HKN.out; rw [HR.out, HBL.out] at h; simp at h; omega⟩
     case measure => simp [intOf]; omega
  ·go_wp2
   go_ret
   exact ⟨ret_int (by have h := HKN.out; rw [List.drop_of_length_le (by simp; omega)] at h; simp [skipN] at h; omega), rfl⟩
end Go.Proofs.YtbndfgoklgdfdaaGreatDoor.P
end
section
namespace Go.Proofs.YtbndfgoklgdfdaaGreatDoor.P
open Go.RowKit Go.Proofs.YtbndfgoklgdfdaaGreatDoorW.PrintWords Go.Proofs.YtbndfgoklgdfdaaGreatDoorW.PrintLast Go.Proofs.YtbndfgoklgdfdaaGreatDoorW.PrintMore
attribute [local go_sem] Oper.semAt_some

theorem lt_of_cell {W : World} {b o : Nat} {v : Value} (h : W.cell? ⟨b, o, none⟩ = some v) : b < W.heap.size := World.block_lt_of_cell? W _ h
def encT (x : S65) : Array Value := #[.agg #[.int .i64 x.f0, .string x.f1, .int .i64 x.f2]]

/-- WHAT THE ROUNDS PROMISE: J pre W: what the caller knows, pre having come; 'mine': the blocks that a round may turn. -/
structure Rounds (n l : Nat) (J : List S65 → World → Prop) (mine : World → Nat → Prop) : Prop where
 below : ∀ pre W W', J pre W → Below W.heap.size W W' → J pre W'
 mineB : ∀ pre W W' b, J pre W → Below W.heap.size W W' → mine W' b → mine W b
 mineL : ∀ pre W b, J pre W → mine W b → b < W.heap.size
 round : ∀ pre x W, J pre W → pre.length < 6000 → YieldAt Fence.wide n Tryz.prog l (encT x) W fun e W' => e = .returned (.bool true) ∧ J (pre ++ [x]) W' ∧ W.heap.size ≤ W'.heap.size ∧ ∀ b, b < W.heap.size → ¬ mine W b → W'.heap[b]? = W.heap[b]? ∧ ¬ mine W' b

/-- How the iterator ends. -/
def IterEnd (J : List S65 → World → Prop) (R : List S65 × Int × Int) (e : Ending) (W' : World) : Prop :=
 (∃ v xs, e = .returned v ∧ R = (xs, 0, 0) ∧ J xs W') ∨
 (∃ (at_ : Nat) (c : Int) (pre : List S65), e = .panicked [{ v := .iface 121 (.agg #[.int .i64 at_, .int .i64 c]), recovered := false }] ∧ R = ([], (at_ : Int), c) ∧ c ≠ 0 ∧ J pre W')

set_option maxRecDepth 100000 in
set_option maxHeartbeats 4000000 in
theorem tokens1_in (n l : Nat) (s : ByteArray) (hs : s.size ≤ 140737488351232) (tb : Nat) (J : List S65 → World → Prop) (mine : World → Nat → Prop) (hR : Rounds (n - 1) l J mine)
  (W : World) (htb : W.cell? ⟨tb, 0, none⟩ = some (.string s)) (hnm : ¬ mine W tb) (h0 : J [] W) :
  CallsIn Fence.wide n Tryz.prog 140 #[.func (.yield l) #[] #[], .pointer (some ⟨tb, 0, none⟩)] W fun e W' => IterEnd J (scanA (s.data.toList.length + 1) (s.data.toList.drop (skipN false s.data.toList)) (skipN false s.data.toList) []) e W' := by
 have hsk := skipN_le false s.data.toList
 obtain ⟨a0, ha0⟩ : ∃ a0, a0 = skipN false s.data.toList := ⟨_, rfl⟩
 rw [← ha0] at hsk ⊢
 obtain ⟨R, hRES⟩ : ∃ R, R = scanA (s.data.toList.length + 1) (s.data.toList.drop a0) a0 [] := ⟨_, rfl⟩
 rw [← hRES]
 have HRES := Lib.hid hRES
 have HR := Lib.hid hR
 have HNM := Lib.hid hnm
 have hsk2 : a0 ≤ s.size := by simpa using hsk
 have HA0 : Hid ((0 + skipN false (s.data.toList.drop 0) : Nat) = a0) := Lib.hid (by rw [ha0]; simp)
 clear hRES ha0 hR hnm hsk
 refine callsIn_of_wp Tryz.func140 rfl trivial ?_ rfl
 simp only [Tryz.ntmps140, List.size_toArray, List.length_cons, List.length_nil, Nat.reduceAdd, Nat.reduceSub, Array.replicate_succ, Array.replicate_zero, List.push_toArray, List.append_toArray, List.nil_append, List.cons_append]
 gi_wp2_with fail
 refine ⟨trivial, fun h => (by cases h), (callsIn_wide.2 (skip_any s 0 W (Nat.zero_le _) hs)).mono ?_⟩
 rintro e w' ⟨rfl, rfl⟩
 rw [HA0.out]
 gi_wp2_with fail
 gi_loopw [3, 4] (fun many i wr => ∃ (acc : List S65) (k f : Nat), many = .int .i64 acc.length ∧ i = .int .i64 k ∧ k ≤ s.size ∧ s.size < f + k ∧ J acc wr ∧ wr.cell? ⟨tb, 0, none⟩ = some (.string s) ∧ ¬ mine wr tb ∧ acc.length ≤ 6000 ∧ scanA f (s.data.toList.drop k) k acc = R)
  (fun _ i _ => s.size - (intOf i).toNat)
 case atStart => exact ⟨[], a0, s.data.toList.length + 1, rfl, rfl, hsk2, by simp; omega, h0, htb, HNM.out, by simp, HRES.out.symm⟩
 case round =>
  obtain ⟨acc, k, f, rfl, rfl, hk, hf, hJ, htb2, hnm2, hlen, hres⟩ := hrel
  clear htb h0
  have HJ := Lib.hid hJ
  have HN := Lib.hid hnm2
  have HS := Lib.hid hres
  clear hJ hnm2 hres
  by_cases hlt : k < s.size
  ·gi_wp2_with fail
   refine ⟨trivial, fun h => (by cases h), (callsIn_wide.2 (token_any s k wr hlt hs)).mono ?_⟩
   rintro e w' ⟨he, hb⟩
   have hdr := drop_cons' s k hlt
   have HDR := Lib.hid hdr
   have HJ2 := Lib.hid (HR.out.below _ _ _ HJ.out hb)
   have htbl : tb < wr.heap.size := lt_of_cell htb2
   have htbl' : tb < w'.heap.size := Nat.lt_of_lt_of_le htbl hb.size
   have htb3 : w'.cell? ⟨tb, 0, none⟩ = some (.string s) := (hb.cell (p := ⟨tb, 0, none⟩) htbl).trans htb2
   obtain ⟨f', hf'⟩ : ∃ f', f = f' + 1 := ⟨f - 1, by omega⟩
   cases htok : tok (s.data.toList.drop k) with
   | none =>
    rw [htok] at he
    subst he
    have HTOK := Lib.hid htok
    have HF := Lib.hid hf'
    clear htok hdr htb2 hf'
    gi_wp2_with fail
    refine ⟨rfl, .inr ⟨k, 10, acc, rfl, ?_, by decide, HR.out.below _ _ _ HJ2.out (by first | exact Below.refl _ _ | exact (Below.refl _ _).alloc (Nat.le_refl _) _)⟩⟩
    rw [← HS.out, HF.out, HDR.out]
    simp only [scanA]
    rw [← HDR.out, HTOK.out]
   | some p =>
    obtain ⟨kind, n⟩ := p
    rw [htok] at he
    simp only [] at he
    have htl := tok_le htok
    have hn2 : k + n ≤ s.size := by have := htl.2; simp at this; omega
    have hn1 := htl.1
    have HTOK := Lib.hid htok
    have hts : (s.extract k (k + n)).size = n := by simp; omega
    have htt : (⟨((s.data.toList.drop k).take n).toArray⟩ : ByteArray) = s.extract k (k + n) := by
     apply ByteArray.ext
     apply Array.ext'
     simp [List.extract_eq_take_drop]
    revert he
    generalize s.extract k (k + n) = t at hts htt
    intro he
    subst he
    have HTS := Lib.hid hts
    have HTT := Lib.hid htt
    have hts1 : (t.size : Int) ≤ n := by omega
    have hts2 : (n : Int) ≤ t.size := by omega
    clear htok hdr htb2 htl hts htt
    have htb4 : (w'.alloc (.cells #[.int .i64 kind, .string t, .int .i64 k] 65)).cell? ⟨tb, 0, none⟩ = some (.string s) := by rw [World.cell?_of_block (Below.heap_alloc w' _ tb htbl')]; exact htb3
    have hct : (w'.alloc (.cells #[.int .i64 kind, .string t, .int .i64 k] 65)).cell? ⟨w'.heap.size, 1, none⟩ = some (.string t) := by unfold World.cell?; rw [show (w'.alloc (.cells #[.int .i64 kind, .string t, .int .i64 k] 65)).heap[w'.heap.size]? = _ from Go.heap_alloc_new w' _]; rfl
    have htbl2 : tb < (w'.alloc (.cells #[.int .i64 kind, .string t, .int .i64 k] 65)).heap.size := by simp; omega
    have hba : Below w'.heap.size w' (w'.alloc (.cells #[.int .i64 kind, .string t, .int .i64 k] 65)) := (Below.refl _ _).alloc (Nat.le_refl _) _
    have HN2 : Hid (¬ mine (w'.alloc (.cells #[.int .i64 kind, .string t, .int .i64 k] 65)) tb) := Lib.hid (fun h => HN.out (HR.out.mineB _ _ _ _ HJ.out hb (HR.out.mineB _ _ _ _ HJ2.out hba h)))
    have HNT : Hid (¬ mine (w'.alloc (.cells #[.int .i64 kind, .string t, .int .i64 k] 65)) w'.heap.size) := Lib.hid (fun h => Nat.lt_irrefl _ (HR.out.mineL _ _ _ HJ2.out (HR.out.mineB _ _ _ _ HJ2.out hba h)))
    have HBA := Lib.hid hba
    clear hba
    by_cases h6 : acc.length = 6000
    ·have h6b : ((acc.length : Int) == 6000) = true := by rw [beq_iff_eq]; omega
     have H6 := Lib.hid h6
     have HF := Lib.hid hf'
     clear h6 hf'
     gi_wp2_with fail
     refine ⟨rfl, .inr ⟨k, 2, acc, rfl, ?_, by decide, HR.out.below _ _ _ HJ2.out (by first | exact Below.refl _ _ | exact (Below.refl _ _).alloc (Nat.le_refl _) _)⟩⟩
     rw [← HS.out, HF.out, HDR.out]
     simp only [scanA]
     rw [← HDR.out, HTOK.out]
     simp only []
     rw [if_pos H6.out]
    ·have h6b : ((acc.length : Int) == 6000) = false := by rw [beq_eq_false_iff_ne]; omega
     by_cases hbad : (kind = 1 ∨ kind = 2) ∧ 40 < n
     ·have HF := Lib.hid hf'
      clear hf'
      rcases hbad with ⟨rfl | rfl, h40⟩
      all_goals
       gi_wp2_with fail
       refine ⟨rfl, .inr ⟨k, 11, acc, rfl, ?_, by decide, HR.out.below _ _ _ HJ2.out (by first | exact Below.refl _ _ | exact (Below.refl _ _).alloc (Nat.le_refl _) _)⟩⟩
       rw [← HS.out, HF.out, HDR.out]
       simp only [scanA]
       rw [← HDR.out, HTOK.out]
       simp only []
       rw [if_neg h6, if_pos (by simp; omega)]
     ·obtain ⟨fn, tmps, assign, body, hy, hRd⟩ := HR.out.round acc ⟨kind, t, k⟩ (w'.alloc (.cells #[.int .i64 kind, .string t, .int .i64 k] 65)) (HR.out.below _ _ _ HJ2.out HBA.out) (by omega)
      dsimp only [encT] at hy
      have HF := Lib.hid hf'
      clear hf'
      by_cases h40 : 40 < n
      ·have g1 : ((kind : Int) == 1) = false := by rw [beq_eq_false_iff_ne]; intro h; exact hbad ⟨.inl (by omega), h40⟩
       have g2 : ((kind : Int) == 2) = false := by rw [beq_eq_false_iff_ne]; intro h; exact hbad ⟨.inr (by omega), h40⟩
       gi_wp2_with fail
       refine ⟨fun h => (by cases h), hRd.mono ?_⟩
       rintro e W3 ⟨rfl, hJ3, hsz, hkeep⟩
       have HJ3 := Lib.hid hJ3
       obtain ⟨k1, k2⟩ := hkeep tb htbl2 HN2.out
       have htb3 : W3.cell? ⟨tb, 0, none⟩ = some (.string s) := (World.cell?_of_block k1).trans htb4
       have HN3 := Lib.hid k2
       have k3 := (hkeep w'.heap.size (by simp) HNT.out).1
       have hct3 : W3.cell? ⟨w'.heap.size, 1, none⟩ = some (.string t) := (World.cell?_of_block k3).trans hct
       clear hJ3 hkeep k1 k2 k3 hsz
       gi_wp2_with fail
       rw [show ((k : Int) + (t.size : Int)) = ((k + n : Nat) : Int) by have := HTS.out; omega]
       refine ⟨trivial, fun h => (by cases h), (callsIn_wide.2 (skip_any s (k + n) W3 (by omega) hs)).mono ?_⟩
       rintro e w4 ⟨rfl, rfl⟩
       have hsl := skipN_le false (s.data.toList.drop (k + n))
       have hsl2 : k + n + skipN false (s.data.toList.drop (k + n)) ≤ s.size := by simp at hsl; omega
       have HNX : Hid (scanA f' (s.data.toList.drop (k + n + skipN false (s.data.toList.drop (k + n)))) (k + n + skipN false (s.data.toList.drop (k + n))) (acc ++ [⟨kind, t, k⟩]) = R) := by
        refine Lib.hid ?_
        rw [← HS.out, HF.out, HDR.out]
        simp only [scanA]
        rw [← HDR.out, HTOK.out]
        simp only []
        rw [if_neg h6, if_neg hbad, HTT.out]
        simp only [List.drop_drop]
       obtain ⟨q, hq⟩ : ∃ q, q = skipN false (s.data.toList.drop (k + n)) := ⟨_, rfl⟩
       rw [← hq] at HNX hsl2 ⊢
       clear hq hsl
       gi_wp2_with fail
       go_roundw
       case rel => exact ⟨acc ++ [⟨kind, t, k⟩], k + n + q, f', by simp, by first | rfl | go_num, by omega, by have := HF.out; omega, HJ3.out, htb3, HN3.out, by simp; omega, HNX.out⟩
       case measure => simp [intOf]; omega
      ·cases g1 : ((kind : Int) == 1) <;> cases g2 : ((kind : Int) == 2)
       all_goals
        gi_wp2_with fail
        refine ⟨fun h => (by cases h), hRd.mono ?_⟩
        rintro e W3 ⟨rfl, hJ3, hsz, hkeep⟩
        have HJ3 := Lib.hid hJ3
        obtain ⟨k1, k2⟩ := hkeep tb htbl2 HN2.out
        have htb3 : W3.cell? ⟨tb, 0, none⟩ = some (.string s) := (World.cell?_of_block k1).trans htb4
        have HN3 := Lib.hid k2
        have k3 := (hkeep w'.heap.size (by simp) HNT.out).1
        have hct3 : W3.cell? ⟨w'.heap.size, 1, none⟩ = some (.string t) := (World.cell?_of_block k3).trans hct
        clear hJ3 hkeep k1 k2 k3 hsz
        gi_wp2_with fail
        rw [show ((k : Int) + (t.size : Int)) = ((k + n : Nat) : Int) by have := HTS.out; omega]
        refine ⟨trivial, fun h => (by cases h), (callsIn_wide.2 (skip_any s (k + n) W3 (by omega) hs)).mono ?_⟩
        rintro e w4 ⟨rfl, rfl⟩
        have hsl := skipN_le false (s.data.toList.drop (k + n))
        have hsl2 : k + n + skipN false (s.data.toList.drop (k + n)) ≤ s.size := by simp at hsl; omega
        have HNX : Hid (scanA f' (s.data.toList.drop (k + n + skipN false (s.data.toList.drop (k + n)))) (k + n + skipN false (s.data.toList.drop (k + n))) (acc ++ [⟨kind, t, k⟩]) = R) := by
         refine Lib.hid ?_
         rw [← HS.out, HF.out, HDR.out]
         simp only [scanA]
         rw [← HDR.out, HTOK.out]
         simp only []
         rw [if_neg h6, if_neg hbad, HTT.out]
         simp only [List.drop_drop]
        obtain ⟨q, hq⟩ : ∃ q, q = skipN false (s.data.toList.drop (k + n)) := ⟨_, rfl⟩
        rw [← hq] at HNX hsl2 ⊢
        clear hq hsl
        gi_wp2_with fail
        go_roundw
        case rel => exact ⟨acc ++ [⟨kind, t, k⟩], k + n + q, f', by simp, by first | rfl | go_num, by omega, by have := HF.out; omega, HJ3.out, htb3, HN3.out, by simp; omega, HNX.out⟩
        case measure => simp [intOf]; omega
  ·gi_wp2_with fail
   refine ⟨rfl, _, results_none rfl _ _ _, .inl ⟨_, acc, rfl, ?_, HJ.out⟩⟩
   rw [← HS.out, List.drop_of_length_le (by simp; omega)]
   cases f <;> rfl
end Go.Proofs.YtbndfgoklgdfdaaGreatDoor.P
end
