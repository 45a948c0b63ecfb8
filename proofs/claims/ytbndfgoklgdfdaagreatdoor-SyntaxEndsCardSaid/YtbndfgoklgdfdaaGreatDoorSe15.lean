/- syntax's parser: the operator that follows. (printed by mkp2.py) syntax's printer: the operator of a kind (printed by mkpr.py). -/
import Derived.Test.YtbndfgoklgdfdaaGreatDoorSe14
import Derived.Test.YtbndfgoklgdfdaaGreatDoorSe11
set_option linter.all false
section
set_option linter.unusedSimpArgs false
namespace Go.Proofs.YtbndfgoklgdfdaaGreatDoor.P
open Go.RowKit Go.Proofs.YtbndfgoklgdfdaaGreatDoorW.PrintWords Go.Proofs.YtbndfgoklgdfdaaGreatDoorW.PrintLast Go.Proofs.YtbndfgoklgdfdaaGreatDoorW.PrintMore
theorem run_op {W : World} {o : Oper} {a : Act} (ho : o.op = .alloc 129) : (execOp a.eval o).run Tryz.prog W = .ok (.value (.pointer (some ⟨W.heap.size, 0, none⟩))) (W.alloc (.cells #[.string (⟨#[]⟩ : ByteArray), .int .i64 0, .int .i64 0] 129 (0, 0))) := by
 unfold execOp
 rw [ho]
 first | (go_simp; done) | (go_simp; rfl)

set_option maxRecDepth 100000 in
set_option maxHeartbeats 8000000 in
theorem next_par (w0 w : World) (g : Nat) (l ts : List Tok) (lv : Int) : PSt w0 w g l ts → Calls Tryz.prog 122 #[.pointer (some ⟨g, 0, none⟩), .int .i64 lv] w fun e w' => (match nextP lv ts with | some o => e = .returned (.tuple #[opV o, .bool true]) | none => e = .returned (.tuple #[.agg #[.string (⟨#[]⟩ : ByteArray), .int .i64 0, .int .i64 0], .bool false])) ∧ PSt w0 w' g l ts ∧ KeepBut w w' g none := by
 intro h
 have HF := Lib.hid (Fr.begin h)
 clear h
 obtain ⟨R, hR⟩ : ∃ R, R = nextP lv ts := ⟨_, rfl⟩
 rw [← hR]
 have HR : Hid ((opsL.drop 0).find? (fun o => o.2.2 == lv && isP o.1 ts) = R) := Lib.hid hR.symm
 clear hR
 go_enter Tryz.func122, Tryz.ntmps122
 go_wp2_with (first
  | ((with_reducible refine gate_dst (N := 4) rfl ?_); refine ev_box (cs := #[.string (⟨#[]⟩ : ByteArray), .int .i64 0, .int .i64 0]) HF rfl rfl (run_op rfl) ?_; clear HF; intro b1 w1_ HF; have hrg := HF.out.st.gokw.range)
  | ((with_reducible refine gate_dst (N := 8) rfl ?_); refine wpList_load_mid rfl 145 (.global 0) rfl 0 0 rfl opsCells _ hrg Tryz.underlying145 rfl (by kernel_rfl) ?_; clear hrg))
 go_loopg [9] 8 (fun kq v9 w' => ∃ (i : Nat) (z : Int) (wr : World), wr = w' ∧ v9 = .int .i64 z ∧ Hid (z = i) ∧ Hid (i + kq = 8) ∧ Hid (i ≤ 7) ∧ Hid ((opsL.drop i).find? (fun o => o.2.2 == lv && isP o.1 ts) = R) ∧ Hid (Fr w0 w w' g (SP w0 g l ts) [vb b1 129 #[.string (⟨#[]⟩ : ByteArray), .int .i64 0, .int .i64 0]] []))
 case atStart => exact ⟨0, 0, _, rfl, rfl, Lib.hid rfl, Lib.hid rfl, Lib.hid (by decide), HR, HF⟩
 case round =>
  clear HF HR
  obtain ⟨i, z, wr, rfl, rfl, HZ, HK, HI, HR, HF⟩ := hrel
  cases gk with
  | zero => exact absurd HI.out (by have := HK.out; omega)
  | succ k1 =>
   have hi := HI.out
   have hz := HZ.out
   clear HZ
   match i, hi, hz with
   | 0, _, hz2 =>
    clear hi hz
    obtain rfl : z = 0 := hz2
    have hR := HR.out
    clear HR
    rw [show opsL.drop 0 = ([111, 45], 27, 0) :: opsL.drop 1 from rfl, List.find?_cons] at hR
    by_cases hl : lv = 0
    ·subst hl
     go_wp2_with (first
      | ((with_reducible refine gate_dst (N := 11) rfl ?_); refine Kd.event_run rfl (v := .agg #[.string (⟨#[111, 45]⟩ : ByteArray), .int .i64 27, .int .i64 0]) (w1 := wr) (by kernel_rfl) ?_)
      | ((with_reducible refine gate_dst (N := 7) rfl ?_); refine ev_box (cs := #[.string (⟨#[]⟩ : ByteArray), .int .i64 0, .int .i64 0]) HF rfl rfl (run_op rfl) ?_; clear HF; intro b2 w2_ HF)
      | ((with_reducible refine gate_store (t := 129) (p := 7) rfl ?_); refine ev_put (p := 7) HF rfl rfl rfl rfl rfl rfl rfl ?_; clear HF; intro w147 HF; obtain ⟨q148a, q148b, q148c⟩ := rd3 HF.out.b0))
     cases hs : isP [111, 45] ts
     ·rw [hs] at hR
      have HR := Lib.hid (show List.find? _ (opsL.drop 1) = R from hR)
      refine (c_is HF [111, 45] hs).mono ?_
      clear HF hs hR q148a q148b q148c
      rintro e w3_ ⟨rfl, HF⟩
      go_wp2_with fail
      go_roundg k1
      case measure => have := HK.out; omega
      case rel => exact ⟨1, _, _, rfl, (by first | rfl | (simp; done) | decide), Lib.hid rfl, Lib.hid (by have := HK.out; omega), Lib.hid (by decide), HR, Lib.hid HF.out.swap.forget⟩
     ·rw [hs] at hR
      obtain rfl : some ([111, 45], (27 : Int), (0 : Int)) = R := hR
      refine (c_is HF [111, 45] hs).mono ?_
      clear HF hs q148a q148b q148c
      rintro e w3_ ⟨rfl, HF⟩
      obtain ⟨q149a, q149b, q149c⟩ := rd3 HF.out.b0
      replace HF := Lib.hid HF.out.swap
      go_wp2_with (first
       | ((with_reducible refine gate_store (t := 129) (p := 4) rfl ?_); refine ev_put (p := 4) HF rfl rfl rfl rfl rfl rfl rfl ?_; clear HF; clear q149a q149b q149c; intro w150 HF))
      refine bodyPost_ret (results_ct rfl _ _ b1 129 _ (0, 0) _ rfl HF.out.b0 Tryz.underlying129 rfl (by kernel_rfl)) rfl ?_
      exact ⟨rfl, HF.out.st, HF.out.keep⟩
    ·have hl2 : ((0 : Int) == lv) = false := beq_eq_false_iff_ne.2 (fun e => hl e.symm)
     rw [show ((([111, 45], (27 : Int), (0 : Int)) : List UInt8 × Int × Int).2.2 == lv) = false from hl2, Bool.false_and] at hR
     have HR := Lib.hid (show List.find? _ (opsL.drop 1) = R from hR)
     clear hR
     have hl3 : ((0 : Int) == lv) = false := hl2
     clear hl hl2
     go_wp2_with (first
      | ((with_reducible refine gate_dst (N := 11) rfl ?_); refine Kd.event_run rfl (v := .agg #[.string (⟨#[111, 45]⟩ : ByteArray), .int .i64 27, .int .i64 0]) (w1 := wr) (by kernel_rfl) ?_)
      | ((with_reducible refine gate_dst (N := 7) rfl ?_); refine ev_box (cs := #[.string (⟨#[]⟩ : ByteArray), .int .i64 0, .int .i64 0]) HF rfl rfl (run_op rfl) ?_; clear HF; intro b2 w2_ HF)
      | ((with_reducible refine gate_store (t := 129) (p := 7) rfl ?_); refine ev_put (p := 7) HF rfl rfl rfl rfl rfl rfl rfl ?_; clear HF; intro w151 HF; obtain ⟨q152a, q152b, q152c⟩ := rd3 HF.out.b0))
     go_roundg k1
     case measure => have := HK.out; omega
     case rel => exact ⟨1, _, _, rfl, (by first | rfl | (simp; done) | decide), Lib.hid rfl, Lib.hid (by have := HK.out; omega), Lib.hid (by decide), HR, Lib.hid HF.out.swap.forget⟩
   | 1, _, hz2 =>
    clear hi hz
    obtain rfl : z = 1 := hz2
    have hR := HR.out
    clear HR
    rw [show opsL.drop 1 = ([60, 61], 28, 0) :: opsL.drop 2 from rfl, List.find?_cons] at hR
    by_cases hl : lv = 0
    ·subst hl
     go_wp2_with (first
      | ((with_reducible refine gate_dst (N := 11) rfl ?_); refine Kd.event_run rfl (v := .agg #[.string (⟨#[60, 61]⟩ : ByteArray), .int .i64 28, .int .i64 0]) (w1 := wr) (by kernel_rfl) ?_)
      | ((with_reducible refine gate_dst (N := 7) rfl ?_); refine ev_box (cs := #[.string (⟨#[]⟩ : ByteArray), .int .i64 0, .int .i64 0]) HF rfl rfl (run_op rfl) ?_; clear HF; intro b2 w2_ HF)
      | ((with_reducible refine gate_store (t := 129) (p := 7) rfl ?_); refine ev_put (p := 7) HF rfl rfl rfl rfl rfl rfl rfl ?_; clear HF; intro w153 HF; obtain ⟨q154a, q154b, q154c⟩ := rd3 HF.out.b0))
     cases hs : isP [60, 61] ts
     ·rw [hs] at hR
      have HR := Lib.hid (show List.find? _ (opsL.drop 2) = R from hR)
      refine (c_is HF [60, 61] hs).mono ?_
      clear HF hs hR q154a q154b q154c
      rintro e w3_ ⟨rfl, HF⟩
      go_wp2_with fail
      go_roundg k1
      case measure => have := HK.out; omega
      case rel => exact ⟨2, _, _, rfl, (by first | rfl | (simp; done) | decide), Lib.hid rfl, Lib.hid (by have := HK.out; omega), Lib.hid (by decide), HR, Lib.hid HF.out.swap.forget⟩
     ·rw [hs] at hR
      obtain rfl : some ([60, 61], (28 : Int), (0 : Int)) = R := hR
      refine (c_is HF [60, 61] hs).mono ?_
      clear HF hs q154a q154b q154c
      rintro e w3_ ⟨rfl, HF⟩
      obtain ⟨q155a, q155b, q155c⟩ := rd3 HF.out.b0
      replace HF := Lib.hid HF.out.swap
      go_wp2_with (first
       | ((with_reducible refine gate_store (t := 129) (p := 4) rfl ?_); refine ev_put (p := 4) HF rfl rfl rfl rfl rfl rfl rfl ?_; clear HF; clear q155a q155b q155c; intro w156 HF))
      refine bodyPost_ret (results_ct rfl _ _ b1 129 _ (0, 0) _ rfl HF.out.b0 Tryz.underlying129 rfl (by kernel_rfl)) rfl ?_
      exact ⟨rfl, HF.out.st, HF.out.keep⟩
    ·have hl2 : ((0 : Int) == lv) = false := beq_eq_false_iff_ne.2 (fun e => hl e.symm)
     rw [show ((([60, 61], (28 : Int), (0 : Int)) : List UInt8 × Int × Int).2.2 == lv) = false from hl2, Bool.false_and] at hR
     have HR := Lib.hid (show List.find? _ (opsL.drop 2) = R from hR)
     clear hR
     have hl3 : ((0 : Int) == lv) = false := hl2
     clear hl hl2
     go_wp2_with (first
      | ((with_reducible refine gate_dst (N := 11) rfl ?_); refine Kd.event_run rfl (v := .agg #[.string (⟨#[60, 61]⟩ : ByteArray), .int .i64 28, .int .i64 0]) (w1 := wr) (by kernel_rfl) ?_)
      | ((with_reducible refine gate_dst (N := 7) rfl ?_); refine ev_box (cs := #[.string (⟨#[]⟩ : ByteArray), .int .i64 0, .int .i64 0]) HF rfl rfl (run_op rfl) ?_; clear HF; intro b2 w2_ HF)
      | ((with_reducible refine gate_store (t := 129) (p := 7) rfl ?_); refine ev_put (p := 7) HF rfl rfl rfl rfl rfl rfl rfl ?_; clear HF; intro w157 HF; obtain ⟨q158a, q158b, q158c⟩ := rd3 HF.out.b0))
     go_roundg k1
     case measure => have := HK.out; omega
     case rel => exact ⟨2, _, _, rfl, (by first | rfl | (simp; done) | decide), Lib.hid rfl, Lib.hid (by have := HK.out; omega), Lib.hid (by decide), HR, Lib.hid HF.out.swap.forget⟩
   | 2, _, hz2 =>
    clear hi hz
    obtain rfl : z = 2 := hz2
    have hR := HR.out
    clear HR
    rw [show opsL.drop 2 = ([45, 111], 25, 1) :: opsL.drop 3 from rfl, List.find?_cons] at hR
    by_cases hl : lv = 1
    ·subst hl
     go_wp2_with (first
      | ((with_reducible refine gate_dst (N := 11) rfl ?_); refine Kd.event_run rfl (v := .agg #[.string (⟨#[45, 111]⟩ : ByteArray), .int .i64 25, .int .i64 1]) (w1 := wr) (by kernel_rfl) ?_)
      | ((with_reducible refine gate_dst (N := 7) rfl ?_); refine ev_box (cs := #[.string (⟨#[]⟩ : ByteArray), .int .i64 0, .int .i64 0]) HF rfl rfl (run_op rfl) ?_; clear HF; intro b2 w2_ HF)
      | ((with_reducible refine gate_store (t := 129) (p := 7) rfl ?_); refine ev_put (p := 7) HF rfl rfl rfl rfl rfl rfl rfl ?_; clear HF; intro w159 HF; obtain ⟨q160a, q160b, q160c⟩ := rd3 HF.out.b0))
     cases hs : isP [45, 111] ts
     ·rw [hs] at hR
      have HR := Lib.hid (show List.find? _ (opsL.drop 3) = R from hR)
      refine (c_is HF [45, 111] hs).mono ?_
      clear HF hs hR q160a q160b q160c
      rintro e w3_ ⟨rfl, HF⟩
      go_wp2_with fail
      go_roundg k1
      case measure => have := HK.out; omega
      case rel => exact ⟨3, _, _, rfl, (by first | rfl | (simp; done) | decide), Lib.hid rfl, Lib.hid (by have := HK.out; omega), Lib.hid (by decide), HR, Lib.hid HF.out.swap.forget⟩
     ·rw [hs] at hR
      obtain rfl : some ([45, 111], (25 : Int), (1 : Int)) = R := hR
      refine (c_is HF [45, 111] hs).mono ?_
      clear HF hs q160a q160b q160c
      rintro e w3_ ⟨rfl, HF⟩
      obtain ⟨q161a, q161b, q161c⟩ := rd3 HF.out.b0
      replace HF := Lib.hid HF.out.swap
      go_wp2_with (first
       | ((with_reducible refine gate_store (t := 129) (p := 4) rfl ?_); refine ev_put (p := 4) HF rfl rfl rfl rfl rfl rfl rfl ?_; clear HF; clear q161a q161b q161c; intro w162 HF))
      refine bodyPost_ret (results_ct rfl _ _ b1 129 _ (0, 0) _ rfl HF.out.b0 Tryz.underlying129 rfl (by kernel_rfl)) rfl ?_
      exact ⟨rfl, HF.out.st, HF.out.keep⟩
    ·have hl2 : ((1 : Int) == lv) = false := beq_eq_false_iff_ne.2 (fun e => hl e.symm)
     rw [show ((([45, 111], (25 : Int), (1 : Int)) : List UInt8 × Int × Int).2.2 == lv) = false from hl2, Bool.false_and] at hR
     have HR := Lib.hid (show List.find? _ (opsL.drop 3) = R from hR)
     clear hR
     have hl3 : ((1 : Int) == lv) = false := hl2
     clear hl hl2
     go_wp2_with (first
      | ((with_reducible refine gate_dst (N := 11) rfl ?_); refine Kd.event_run rfl (v := .agg #[.string (⟨#[45, 111]⟩ : ByteArray), .int .i64 25, .int .i64 1]) (w1 := wr) (by kernel_rfl) ?_)
      | ((with_reducible refine gate_dst (N := 7) rfl ?_); refine ev_box (cs := #[.string (⟨#[]⟩ : ByteArray), .int .i64 0, .int .i64 0]) HF rfl rfl (run_op rfl) ?_; clear HF; intro b2 w2_ HF)
      | ((with_reducible refine gate_store (t := 129) (p := 7) rfl ?_); refine ev_put (p := 7) HF rfl rfl rfl rfl rfl rfl rfl ?_; clear HF; intro w163 HF; obtain ⟨q164a, q164b, q164c⟩ := rd3 HF.out.b0))
     go_roundg k1
     case measure => have := HK.out; omega
     case rel => exact ⟨3, _, _, rfl, (by first | rfl | (simp; done) | decide), Lib.hid rfl, Lib.hid (by have := HK.out; omega), Lib.hid (by decide), HR, Lib.hid HF.out.swap.forget⟩
   | 3, _, hz2 =>
    clear hi hz
    obtain rfl : z = 3 := hz2
    have hR := HR.out
    clear HR
    rw [show opsL.drop 3 = ([61, 62], 26, 1) :: opsL.drop 4 from rfl, List.find?_cons] at hR
    by_cases hl : lv = 1
    ·subst hl
     go_wp2_with (first
      | ((with_reducible refine gate_dst (N := 11) rfl ?_); refine Kd.event_run rfl (v := .agg #[.string (⟨#[61, 62]⟩ : ByteArray), .int .i64 26, .int .i64 1]) (w1 := wr) (by kernel_rfl) ?_)
      | ((with_reducible refine gate_dst (N := 7) rfl ?_); refine ev_box (cs := #[.string (⟨#[]⟩ : ByteArray), .int .i64 0, .int .i64 0]) HF rfl rfl (run_op rfl) ?_; clear HF; intro b2 w2_ HF)
      | ((with_reducible refine gate_store (t := 129) (p := 7) rfl ?_); refine ev_put (p := 7) HF rfl rfl rfl rfl rfl rfl rfl ?_; clear HF; intro w165 HF; obtain ⟨q166a, q166b, q166c⟩ := rd3 HF.out.b0))
     cases hs : isP [61, 62] ts
     ·rw [hs] at hR
      have HR := Lib.hid (show List.find? _ (opsL.drop 4) = R from hR)
      refine (c_is HF [61, 62] hs).mono ?_
      clear HF hs hR q166a q166b q166c
      rintro e w3_ ⟨rfl, HF⟩
      go_wp2_with fail
      go_roundg k1
      case measure => have := HK.out; omega
      case rel => exact ⟨4, _, _, rfl, (by first | rfl | (simp; done) | decide), Lib.hid rfl, Lib.hid (by have := HK.out; omega), Lib.hid (by decide), HR, Lib.hid HF.out.swap.forget⟩
     ·rw [hs] at hR
      obtain rfl : some ([61, 62], (26 : Int), (1 : Int)) = R := hR
      refine (c_is HF [61, 62] hs).mono ?_
      clear HF hs q166a q166b q166c
      rintro e w3_ ⟨rfl, HF⟩
      obtain ⟨q167a, q167b, q167c⟩ := rd3 HF.out.b0
      replace HF := Lib.hid HF.out.swap
      go_wp2_with (first
       | ((with_reducible refine gate_store (t := 129) (p := 4) rfl ?_); refine ev_put (p := 4) HF rfl rfl rfl rfl rfl rfl rfl ?_; clear HF; clear q167a q167b q167c; intro w168 HF))
      refine bodyPost_ret (results_ct rfl _ _ b1 129 _ (0, 0) _ rfl HF.out.b0 Tryz.underlying129 rfl (by kernel_rfl)) rfl ?_
      exact ⟨rfl, HF.out.st, HF.out.keep⟩
    ·have hl2 : ((1 : Int) == lv) = false := beq_eq_false_iff_ne.2 (fun e => hl e.symm)
     rw [show ((([61, 62], (26 : Int), (1 : Int)) : List UInt8 × Int × Int).2.2 == lv) = false from hl2, Bool.false_and] at hR
     have HR := Lib.hid (show List.find? _ (opsL.drop 4) = R from hR)
     clear hR
     have hl3 : ((1 : Int) == lv) = false := hl2
     clear hl hl2
     go_wp2_with (first
      | ((with_reducible refine gate_dst (N := 11) rfl ?_); refine Kd.event_run rfl (v := .agg #[.string (⟨#[61, 62]⟩ : ByteArray), .int .i64 26, .int .i64 1]) (w1 := wr) (by kernel_rfl) ?_)
      | ((with_reducible refine gate_dst (N := 7) rfl ?_); refine ev_box (cs := #[.string (⟨#[]⟩ : ByteArray), .int .i64 0, .int .i64 0]) HF rfl rfl (run_op rfl) ?_; clear HF; intro b2 w2_ HF)
      | ((with_reducible refine gate_store (t := 129) (p := 7) rfl ?_); refine ev_put (p := 7) HF rfl rfl rfl rfl rfl rfl rfl ?_; clear HF; intro w169 HF; obtain ⟨q170a, q170b, q170c⟩ := rd3 HF.out.b0))
     go_roundg k1
     case measure => have := HK.out; omega
     case rel => exact ⟨4, _, _, rfl, (by first | rfl | (simp; done) | decide), Lib.hid rfl, Lib.hid (by have := HK.out; omega), Lib.hid (by decide), HR, Lib.hid HF.out.swap.forget⟩
   | 4, _, hz2 =>
    clear hi hz
    obtain rfl : z = 4 := hz2
    have hR := HR.out
    clear HR
    rw [show opsL.drop 4 = ([43], 24, 2) :: opsL.drop 5 from rfl, List.find?_cons] at hR
    by_cases hl : lv = 2
    ·subst hl
     go_wp2_with (first
      | ((with_reducible refine gate_dst (N := 11) rfl ?_); refine Kd.event_run rfl (v := .agg #[.string (⟨#[43]⟩ : ByteArray), .int .i64 24, .int .i64 2]) (w1 := wr) (by kernel_rfl) ?_)
      | ((with_reducible refine gate_dst (N := 7) rfl ?_); refine ev_box (cs := #[.string (⟨#[]⟩ : ByteArray), .int .i64 0, .int .i64 0]) HF rfl rfl (run_op rfl) ?_; clear HF; intro b2 w2_ HF)
      | ((with_reducible refine gate_store (t := 129) (p := 7) rfl ?_); refine ev_put (p := 7) HF rfl rfl rfl rfl rfl rfl rfl ?_; clear HF; intro w171 HF; obtain ⟨q172a, q172b, q172c⟩ := rd3 HF.out.b0))
     cases hs : isP [43] ts
     ·rw [hs] at hR
      have HR := Lib.hid (show List.find? _ (opsL.drop 5) = R from hR)
      refine (c_is HF [43] hs).mono ?_
      clear HF hs hR q172a q172b q172c
      rintro e w3_ ⟨rfl, HF⟩
      go_wp2_with fail
      go_roundg k1
      case measure => have := HK.out; omega
      case rel => exact ⟨5, _, _, rfl, (by first | rfl | (simp; done) | decide), Lib.hid rfl, Lib.hid (by have := HK.out; omega), Lib.hid (by decide), HR, Lib.hid HF.out.swap.forget⟩
     ·rw [hs] at hR
      obtain rfl : some ([43], (24 : Int), (2 : Int)) = R := hR
      refine (c_is HF [43] hs).mono ?_
      clear HF hs q172a q172b q172c
      rintro e w3_ ⟨rfl, HF⟩
      obtain ⟨q173a, q173b, q173c⟩ := rd3 HF.out.b0
      replace HF := Lib.hid HF.out.swap
      go_wp2_with (first
       | ((with_reducible refine gate_store (t := 129) (p := 4) rfl ?_); refine ev_put (p := 4) HF rfl rfl rfl rfl rfl rfl rfl ?_; clear HF; clear q173a q173b q173c; intro w174 HF))
      refine bodyPost_ret (results_ct rfl _ _ b1 129 _ (0, 0) _ rfl HF.out.b0 Tryz.underlying129 rfl (by kernel_rfl)) rfl ?_
      exact ⟨rfl, HF.out.st, HF.out.keep⟩
    ·have hl2 : ((2 : Int) == lv) = false := beq_eq_false_iff_ne.2 (fun e => hl e.symm)
     rw [show ((([43], (24 : Int), (2 : Int)) : List UInt8 × Int × Int).2.2 == lv) = false from hl2, Bool.false_and] at hR
     have HR := Lib.hid (show List.find? _ (opsL.drop 5) = R from hR)
     clear hR
     have hl3 : ((2 : Int) == lv) = false := hl2
     clear hl hl2
     go_wp2_with (first
      | ((with_reducible refine gate_dst (N := 11) rfl ?_); refine Kd.event_run rfl (v := .agg #[.string (⟨#[43]⟩ : ByteArray), .int .i64 24, .int .i64 2]) (w1 := wr) (by kernel_rfl) ?_)
      | ((with_reducible refine gate_dst (N := 7) rfl ?_); refine ev_box (cs := #[.string (⟨#[]⟩ : ByteArray), .int .i64 0, .int .i64 0]) HF rfl rfl (run_op rfl) ?_; clear HF; intro b2 w2_ HF)
      | ((with_reducible refine gate_store (t := 129) (p := 7) rfl ?_); refine ev_put (p := 7) HF rfl rfl rfl rfl rfl rfl rfl ?_; clear HF; intro w175 HF; obtain ⟨q176a, q176b, q176c⟩ := rd3 HF.out.b0))
     go_roundg k1
     case measure => have := HK.out; omega
     case rel => exact ⟨5, _, _, rfl, (by first | rfl | (simp; done) | decide), Lib.hid rfl, Lib.hid (by have := HK.out; omega), Lib.hid (by decide), HR, Lib.hid HF.out.swap.forget⟩
   | 5, _, hz2 =>
    clear hi hz
    obtain rfl : z = 5 := hz2
    have hR := HR.out
    clear HR
    rw [show opsL.drop 5 = ([38], 23, 3) :: opsL.drop 6 from rfl, List.find?_cons] at hR
    by_cases hl : lv = 3
    ·subst hl
     go_wp2_with (first
      | ((with_reducible refine gate_dst (N := 11) rfl ?_); refine Kd.event_run rfl (v := .agg #[.string (⟨#[38]⟩ : ByteArray), .int .i64 23, .int .i64 3]) (w1 := wr) (by kernel_rfl) ?_)
      | ((with_reducible refine gate_dst (N := 7) rfl ?_); refine ev_box (cs := #[.string (⟨#[]⟩ : ByteArray), .int .i64 0, .int .i64 0]) HF rfl rfl (run_op rfl) ?_; clear HF; intro b2 w2_ HF)
      | ((with_reducible refine gate_store (t := 129) (p := 7) rfl ?_); refine ev_put (p := 7) HF rfl rfl rfl rfl rfl rfl rfl ?_; clear HF; intro w177 HF; obtain ⟨q178a, q178b, q178c⟩ := rd3 HF.out.b0))
     cases hs : isP [38] ts
     ·rw [hs] at hR
      have HR := Lib.hid (show List.find? _ (opsL.drop 6) = R from hR)
      refine (c_is HF [38] hs).mono ?_
      clear HF hs hR q178a q178b q178c
      rintro e w3_ ⟨rfl, HF⟩
      go_wp2_with fail
      go_roundg k1
      case measure => have := HK.out; omega
      case rel => exact ⟨6, _, _, rfl, (by first | rfl | (simp; done) | decide), Lib.hid rfl, Lib.hid (by have := HK.out; omega), Lib.hid (by decide), HR, Lib.hid HF.out.swap.forget⟩
     ·rw [hs] at hR
      obtain rfl : some ([38], (23 : Int), (3 : Int)) = R := hR
      refine (c_is HF [38] hs).mono ?_
      clear HF hs q178a q178b q178c
      rintro e w3_ ⟨rfl, HF⟩
      obtain ⟨q179a, q179b, q179c⟩ := rd3 HF.out.b0
      replace HF := Lib.hid HF.out.swap
      go_wp2_with (first
       | ((with_reducible refine gate_store (t := 129) (p := 4) rfl ?_); refine ev_put (p := 4) HF rfl rfl rfl rfl rfl rfl rfl ?_; clear HF; clear q179a q179b q179c; intro w180 HF))
      refine bodyPost_ret (results_ct rfl _ _ b1 129 _ (0, 0) _ rfl HF.out.b0 Tryz.underlying129 rfl (by kernel_rfl)) rfl ?_
      exact ⟨rfl, HF.out.st, HF.out.keep⟩
    ·have hl2 : ((3 : Int) == lv) = false := beq_eq_false_iff_ne.2 (fun e => hl e.symm)
     rw [show ((([38], (23 : Int), (3 : Int)) : List UInt8 × Int × Int).2.2 == lv) = false from hl2, Bool.false_and] at hR
     have HR := Lib.hid (show List.find? _ (opsL.drop 6) = R from hR)
     clear hR
     have hl3 : ((3 : Int) == lv) = false := hl2
     clear hl hl2
     go_wp2_with (first
      | ((with_reducible refine gate_dst (N := 11) rfl ?_); refine Kd.event_run rfl (v := .agg #[.string (⟨#[38]⟩ : ByteArray), .int .i64 23, .int .i64 3]) (w1 := wr) (by kernel_rfl) ?_)
      | ((with_reducible refine gate_dst (N := 7) rfl ?_); refine ev_box (cs := #[.string (⟨#[]⟩ : ByteArray), .int .i64 0, .int .i64 0]) HF rfl rfl (run_op rfl) ?_; clear HF; intro b2 w2_ HF)
      | ((with_reducible refine gate_store (t := 129) (p := 7) rfl ?_); refine ev_put (p := 7) HF rfl rfl rfl rfl rfl rfl rfl ?_; clear HF; intro w181 HF; obtain ⟨q182a, q182b, q182c⟩ := rd3 HF.out.b0))
     go_roundg k1
     case measure => have := HK.out; omega
     case rel => exact ⟨6, _, _, rfl, (by first | rfl | (simp; done) | decide), Lib.hid rfl, Lib.hid (by have := HK.out; omega), Lib.hid (by decide), HR, Lib.hid HF.out.swap.forget⟩
   | 6, _, hz2 =>
    clear hi hz
    obtain rfl : z = 6 := hz2
    have hR := HR.out
    clear HR
    rw [show opsL.drop 6 = ([42], 22, 4) :: opsL.drop 7 from rfl, List.find?_cons] at hR
    by_cases hl : lv = 4
    ·subst hl
     go_wp2_with (first
      | ((with_reducible refine gate_dst (N := 11) rfl ?_); refine Kd.event_run rfl (v := .agg #[.string (⟨#[42]⟩ : ByteArray), .int .i64 22, .int .i64 4]) (w1 := wr) (by kernel_rfl) ?_)
      | ((with_reducible refine gate_dst (N := 7) rfl ?_); refine ev_box (cs := #[.string (⟨#[]⟩ : ByteArray), .int .i64 0, .int .i64 0]) HF rfl rfl (run_op rfl) ?_; clear HF; intro b2 w2_ HF)
      | ((with_reducible refine gate_store (t := 129) (p := 7) rfl ?_); refine ev_put (p := 7) HF rfl rfl rfl rfl rfl rfl rfl ?_; clear HF; intro w183 HF; obtain ⟨q184a, q184b, q184c⟩ := rd3 HF.out.b0))
     cases hs : isP [42] ts
     ·rw [hs] at hR
      have HR := Lib.hid (show List.find? _ (opsL.drop 7) = R from hR)
      refine (c_is HF [42] hs).mono ?_
      clear HF hs hR q184a q184b q184c
      rintro e w3_ ⟨rfl, HF⟩
      go_wp2_with fail
      go_roundg k1
      case measure => have := HK.out; omega
      case rel => exact ⟨7, _, _, rfl, (by first | rfl | (simp; done) | decide), Lib.hid rfl, Lib.hid (by have := HK.out; omega), Lib.hid (by decide), HR, Lib.hid HF.out.swap.forget⟩
     ·rw [hs] at hR
      obtain rfl : some ([42], (22 : Int), (4 : Int)) = R := hR
      refine (c_is HF [42] hs).mono ?_
      clear HF hs q184a q184b q184c
      rintro e w3_ ⟨rfl, HF⟩
      obtain ⟨q185a, q185b, q185c⟩ := rd3 HF.out.b0
      replace HF := Lib.hid HF.out.swap
      go_wp2_with (first
       | ((with_reducible refine gate_store (t := 129) (p := 4) rfl ?_); refine ev_put (p := 4) HF rfl rfl rfl rfl rfl rfl rfl ?_; clear HF; clear q185a q185b q185c; intro w186 HF))
      refine bodyPost_ret (results_ct rfl _ _ b1 129 _ (0, 0) _ rfl HF.out.b0 Tryz.underlying129 rfl (by kernel_rfl)) rfl ?_
      exact ⟨rfl, HF.out.st, HF.out.keep⟩
    ·have hl2 : ((4 : Int) == lv) = false := beq_eq_false_iff_ne.2 (fun e => hl e.symm)
     rw [show ((([42], (22 : Int), (4 : Int)) : List UInt8 × Int × Int).2.2 == lv) = false from hl2, Bool.false_and] at hR
     have HR := Lib.hid (show List.find? _ (opsL.drop 7) = R from hR)
     clear hR
     have hl3 : ((4 : Int) == lv) = false := hl2
     clear hl hl2
     go_wp2_with (first
      | ((with_reducible refine gate_dst (N := 11) rfl ?_); refine Kd.event_run rfl (v := .agg #[.string (⟨#[42]⟩ : ByteArray), .int .i64 22, .int .i64 4]) (w1 := wr) (by kernel_rfl) ?_)
      | ((with_reducible refine gate_dst (N := 7) rfl ?_); refine ev_box (cs := #[.string (⟨#[]⟩ : ByteArray), .int .i64 0, .int .i64 0]) HF rfl rfl (run_op rfl) ?_; clear HF; intro b2 w2_ HF)
      | ((with_reducible refine gate_store (t := 129) (p := 7) rfl ?_); refine ev_put (p := 7) HF rfl rfl rfl rfl rfl rfl rfl ?_; clear HF; intro w187 HF; obtain ⟨q188a, q188b, q188c⟩ := rd3 HF.out.b0))
     go_roundg k1
     case measure => have := HK.out; omega
     case rel => exact ⟨7, _, _, rfl, (by first | rfl | (simp; done) | decide), Lib.hid rfl, Lib.hid (by have := HK.out; omega), Lib.hid (by decide), HR, Lib.hid HF.out.swap.forget⟩
   | 7, _, hz2 =>
    clear hi hz
    obtain rfl : z = 7 := hz2
    obtain rfl : none = R := HR.out
    clear HR
    go_wp2_with (first
     | ((with_reducible refine gate_store (t := 129) (p := 4) rfl ?_); refine ev_put (p := 4) HF rfl rfl rfl rfl rfl rfl rfl ?_; clear HF; intro w189 HF))
    refine bodyPost_ret (results_ct rfl _ _ b1 129 _ (0, 0) _ rfl HF.out.b0 Tryz.underlying129 rfl (by kernel_rfl)) rfl ?_
    exact ⟨rfl, HF.out.st, HF.out.keep⟩
end Go.Proofs.YtbndfgoklgdfdaaGreatDoor.P
end
section
set_option linter.unusedSimpArgs false
namespace Go.Proofs.YtbndfgoklgdfdaaGreatDoor.P
open Go.RowKit Go.Proofs.YtbndfgoklgdfdaaGreatDoorW.PrintWords Go.Proofs.YtbndfgoklgdfdaaGreatDoorW.PrintLast Go.Proofs.YtbndfgoklgdfdaaGreatDoorW.PrintMore
def findP (kd : Int) : Option (List UInt8 × Int × Int) := opsL.find? (fun o => o.2.1 == kd)
set_option maxRecDepth 100000 in
set_option maxHeartbeats 8000000 in
theorem find_on (kd : Int) (w : World) (hg : GOK w) : Calls Tryz.prog 132 #[.int .i64 kd] w fun e w' => (match findP kd with | some o => e = .returned (.tuple #[opV o, .bool true]) | none => e = .returned (.tuple #[.agg #[.string (⟨#[]⟩ : ByteArray), .int .i64 0, .int .i64 0], .bool false])) ∧ Below w.heap.size w w' := by
 obtain ⟨R, hR⟩ : ∃ R, R = findP kd := ⟨_, rfl⟩
 rw [← hR]
 have HR : Hid ((opsL.drop 0).find? (fun o => o.2.1 == kd) = R) := Lib.hid hR.symm
 have HG := Lib.hid hg
 have HF := Lib.hid (Fz.refl w)
 clear hR hg
 go_enter Tryz.func132, Tryz.ntmps132
 go_wp2_with (first
  | ((with_reducible refine gate_dst (N := 2) rfl ?_); refine ez_box (t := 129) (cs := #[.string (⟨#[]⟩ : ByteArray), .int .i64 0, .int .i64 0]) HF rfl rfl (run_op rfl) ?_; clear HF; intro b1 w93 HF; have hrg := (HG.out.below HF.out.below).range)
  | ((with_reducible refine gate_dst (N := 6) rfl ?_); refine wpList_load_mid rfl 145 (.global 0) rfl 0 0 rfl opsCells _ hrg Tryz.underlying145 rfl (by kernel_rfl) ?_; clear hrg))
 go_loopg [7] 8 (fun kq v7 w' => ∃ (i : Nat) (z : Int) (wr : World), wr = w' ∧ v7 = .int .i64 z ∧ Hid (z = i) ∧ Hid (i + kq = 8) ∧ Hid (i ≤ 7) ∧ Hid ((opsL.drop i).find? (fun o => o.2.1 == kd) = R) ∧ Hid (Fz w w' [vT b1 129 #[.string (⟨#[]⟩ : ByteArray), .int .i64 0, .int .i64 0]]))
 case atStart => exact ⟨0, 0, _, rfl, rfl, Lib.hid rfl, Lib.hid rfl, Lib.hid (by decide), HR, HF⟩
 case round =>
  clear HF HR
  obtain ⟨i, z, wr, rfl, rfl, HZ, HK, HI, HR, HF⟩ := hrel
  cases gk with
  | zero => exact absurd HI.out (by have := HK.out; omega)
  | succ k1 =>
   have hi := HI.out
   have hz := HZ.out
   clear HZ
   match i, hi, hz with
   | 0, _, hz2 =>
    clear hi hz
    obtain rfl : z = 0 := hz2
    have hR := HR.out
    clear HR
    rw [show opsL.drop 0 = ([111, 45], 27, 0) :: opsL.drop 1 from rfl, List.find?_cons] at hR
    by_cases hl : kd = 27
    ·subst hl
     obtain rfl : some ([111, 45], (27 : Int), (0 : Int)) = R := hR
     go_wp2_with (first
      | ((with_reducible refine gate_dst (N := 9) rfl ?_); refine Kd.event_run rfl (v := .agg #[.string (⟨#[111, 45]⟩ : ByteArray), .int .i64 27, .int .i64 0]) (w1 := wr) (by kernel_rfl) ?_)
      | ((with_reducible refine gate_dst (N := 5) rfl ?_); refine ez_box (t := 129) (cs := #[.string (⟨#[]⟩ : ByteArray), .int .i64 0, .int .i64 0]) HF rfl rfl (run_op rfl) ?_; clear HF; intro b2 w94 HF)
      | ((with_reducible refine gate_store (t := 129) (p := 5) rfl ?_); refine ez_put (p := 5) HF rfl rfl rfl rfl rfl rfl rfl ?_; clear HF; intro w95 HF; obtain ⟨q96a, q96b, q96c⟩ := rd3 HF.out.b0; have HF2_ := Lib.hid HF.out.swap; clear HF; have HF := HF2_; clear HF2_)
      | ((with_reducible refine gate_store (t := 129) (p := 2) rfl ?_); refine ez_put (p := 2) HF rfl rfl rfl rfl rfl rfl rfl ?_; clear HF; clear q96a q96b q96c; intro w97 HF))
     refine bodyPost_ret (results_ct rfl _ _ b1 129 _ (0, 0) _ rfl HF.out.b0 Tryz.underlying129 rfl (by kernel_rfl)) rfl ?_
     exact ⟨rfl, HF.out.below⟩
    ·have hl3 : ((27 : Int) == kd) = false := beq_eq_false_iff_ne.2 (fun e => hl e.symm)
     rw [show ((([111, 45], (27 : Int), (0 : Int)) : List UInt8 × Int × Int).2.1 == kd) = false from hl3] at hR
     have HR := Lib.hid (show List.find? _ (opsL.drop 1) = R from hR)
     clear hR hl
     go_wp2_with (first
      | ((with_reducible refine gate_dst (N := 9) rfl ?_); refine Kd.event_run rfl (v := .agg #[.string (⟨#[111, 45]⟩ : ByteArray), .int .i64 27, .int .i64 0]) (w1 := wr) (by kernel_rfl) ?_)
      | ((with_reducible refine gate_dst (N := 5) rfl ?_); refine ez_box (t := 129) (cs := #[.string (⟨#[]⟩ : ByteArray), .int .i64 0, .int .i64 0]) HF rfl rfl (run_op rfl) ?_; clear HF; intro b2 w98 HF)
      | ((with_reducible refine gate_store (t := 129) (p := 5) rfl ?_); refine ez_put (p := 5) HF rfl rfl rfl rfl rfl rfl rfl ?_; clear HF; intro w99 HF; obtain ⟨q100a, q100b, q100c⟩ := rd3 HF.out.b0))
     go_roundg k1
     case measure => have := HK.out; omega
     case rel => exact ⟨1, _, _, rfl, (by first | rfl | (simp; done) | decide), Lib.hid rfl, Lib.hid (by have := HK.out; omega), Lib.hid (by decide), HR, Lib.hid HF.out.lose⟩
   | 1, _, hz2 =>
    clear hi hz
    obtain rfl : z = 1 := hz2
    have hR := HR.out
    clear HR
    rw [show opsL.drop 1 = ([60, 61], 28, 0) :: opsL.drop 2 from rfl, List.find?_cons] at hR
    by_cases hl : kd = 28
    ·subst hl
     obtain rfl : some ([60, 61], (28 : Int), (0 : Int)) = R := hR
     go_wp2_with (first
      | ((with_reducible refine gate_dst (N := 9) rfl ?_); refine Kd.event_run rfl (v := .agg #[.string (⟨#[60, 61]⟩ : ByteArray), .int .i64 28, .int .i64 0]) (w1 := wr) (by kernel_rfl) ?_)
      | ((with_reducible refine gate_dst (N := 5) rfl ?_); refine ez_box (t := 129) (cs := #[.string (⟨#[]⟩ : ByteArray), .int .i64 0, .int .i64 0]) HF rfl rfl (run_op rfl) ?_; clear HF; intro b2 w101 HF)
      | ((with_reducible refine gate_store (t := 129) (p := 5) rfl ?_); refine ez_put (p := 5) HF rfl rfl rfl rfl rfl rfl rfl ?_; clear HF; intro w102 HF; obtain ⟨q103a, q103b, q103c⟩ := rd3 HF.out.b0; have HF2_ := Lib.hid HF.out.swap; clear HF; have HF := HF2_; clear HF2_)
      | ((with_reducible refine gate_store (t := 129) (p := 2) rfl ?_); refine ez_put (p := 2) HF rfl rfl rfl rfl rfl rfl rfl ?_; clear HF; clear q103a q103b q103c; intro w104 HF))
     refine bodyPost_ret (results_ct rfl _ _ b1 129 _ (0, 0) _ rfl HF.out.b0 Tryz.underlying129 rfl (by kernel_rfl)) rfl ?_
     exact ⟨rfl, HF.out.below⟩
    ·have hl3 : ((28 : Int) == kd) = false := beq_eq_false_iff_ne.2 (fun e => hl e.symm)
     rw [show ((([60, 61], (28 : Int), (0 : Int)) : List UInt8 × Int × Int).2.1 == kd) = false from hl3] at hR
     have HR := Lib.hid (show List.find? _ (opsL.drop 2) = R from hR)
     clear hR hl
     go_wp2_with (first
      | ((with_reducible refine gate_dst (N := 9) rfl ?_); refine Kd.event_run rfl (v := .agg #[.string (⟨#[60, 61]⟩ : ByteArray), .int .i64 28, .int .i64 0]) (w1 := wr) (by kernel_rfl) ?_)
      | ((with_reducible refine gate_dst (N := 5) rfl ?_); refine ez_box (t := 129) (cs := #[.string (⟨#[]⟩ : ByteArray), .int .i64 0, .int .i64 0]) HF rfl rfl (run_op rfl) ?_; clear HF; intro b2 w105 HF)
      | ((with_reducible refine gate_store (t := 129) (p := 5) rfl ?_); refine ez_put (p := 5) HF rfl rfl rfl rfl rfl rfl rfl ?_; clear HF; intro w106 HF; obtain ⟨q107a, q107b, q107c⟩ := rd3 HF.out.b0))
     go_roundg k1
     case measure => have := HK.out; omega
     case rel => exact ⟨2, _, _, rfl, (by first | rfl | (simp; done) | decide), Lib.hid rfl, Lib.hid (by have := HK.out; omega), Lib.hid (by decide), HR, Lib.hid HF.out.lose⟩
   | 2, _, hz2 =>
    clear hi hz
    obtain rfl : z = 2 := hz2
    have hR := HR.out
    clear HR
    rw [show opsL.drop 2 = ([45, 111], 25, 1) :: opsL.drop 3 from rfl, List.find?_cons] at hR
    by_cases hl : kd = 25
    ·subst hl
     obtain rfl : some ([45, 111], (25 : Int), (1 : Int)) = R := hR
     go_wp2_with (first
      | ((with_reducible refine gate_dst (N := 9) rfl ?_); refine Kd.event_run rfl (v := .agg #[.string (⟨#[45, 111]⟩ : ByteArray), .int .i64 25, .int .i64 1]) (w1 := wr) (by kernel_rfl) ?_)
      | ((with_reducible refine gate_dst (N := 5) rfl ?_); refine ez_box (t := 129) (cs := #[.string (⟨#[]⟩ : ByteArray), .int .i64 0, .int .i64 0]) HF rfl rfl (run_op rfl) ?_; clear HF; intro b2 w108 HF)
      | ((with_reducible refine gate_store (t := 129) (p := 5) rfl ?_); refine ez_put (p := 5) HF rfl rfl rfl rfl rfl rfl rfl ?_; clear HF; intro w109 HF; obtain ⟨q110a, q110b, q110c⟩ := rd3 HF.out.b0; have HF2_ := Lib.hid HF.out.swap; clear HF; have HF := HF2_; clear HF2_)
      | ((with_reducible refine gate_store (t := 129) (p := 2) rfl ?_); refine ez_put (p := 2) HF rfl rfl rfl rfl rfl rfl rfl ?_; clear HF; clear q110a q110b q110c; intro w111 HF))
     refine bodyPost_ret (results_ct rfl _ _ b1 129 _ (0, 0) _ rfl HF.out.b0 Tryz.underlying129 rfl (by kernel_rfl)) rfl ?_
     exact ⟨rfl, HF.out.below⟩
    ·have hl3 : ((25 : Int) == kd) = false := beq_eq_false_iff_ne.2 (fun e => hl e.symm)
     rw [show ((([45, 111], (25 : Int), (1 : Int)) : List UInt8 × Int × Int).2.1 == kd) = false from hl3] at hR
     have HR := Lib.hid (show List.find? _ (opsL.drop 3) = R from hR)
     clear hR hl
     go_wp2_with (first
      | ((with_reducible refine gate_dst (N := 9) rfl ?_); refine Kd.event_run rfl (v := .agg #[.string (⟨#[45, 111]⟩ : ByteArray), .int .i64 25, .int .i64 1]) (w1 := wr) (by kernel_rfl) ?_)
      | ((with_reducible refine gate_dst (N := 5) rfl ?_); refine ez_box (t := 129) (cs := #[.string (⟨#[]⟩ : ByteArray), .int .i64 0, .int .i64 0]) HF rfl rfl (run_op rfl) ?_; clear HF; intro b2 w112 HF)
      | ((with_reducible refine gate_store (t := 129) (p := 5) rfl ?_); refine ez_put (p := 5) HF rfl rfl rfl rfl rfl rfl rfl ?_; clear HF; intro w113 HF; obtain ⟨q114a, q114b, q114c⟩ := rd3 HF.out.b0))
     go_roundg k1
     case measure => have := HK.out; omega
     case rel => exact ⟨3, _, _, rfl, (by first | rfl | (simp; done) | decide), Lib.hid rfl, Lib.hid (by have := HK.out; omega), Lib.hid (by decide), HR, Lib.hid HF.out.lose⟩
   | 3, _, hz2 =>
    clear hi hz
    obtain rfl : z = 3 := hz2
    have hR := HR.out
    clear HR
    rw [show opsL.drop 3 = ([61, 62], 26, 1) :: opsL.drop 4 from rfl, List.find?_cons] at hR
    by_cases hl : kd = 26
    ·subst hl
     obtain rfl : some ([61, 62], (26 : Int), (1 : Int)) = R := hR
     go_wp2_with (first
      | ((with_reducible refine gate_dst (N := 9) rfl ?_); refine Kd.event_run rfl (v := .agg #[.string (⟨#[61, 62]⟩ : ByteArray), .int .i64 26, .int .i64 1]) (w1 := wr) (by kernel_rfl) ?_)
      | ((with_reducible refine gate_dst (N := 5) rfl ?_); refine ez_box (t := 129) (cs := #[.string (⟨#[]⟩ : ByteArray), .int .i64 0, .int .i64 0]) HF rfl rfl (run_op rfl) ?_; clear HF; intro b2 w115 HF)
      | ((with_reducible refine gate_store (t := 129) (p := 5) rfl ?_); refine ez_put (p := 5) HF rfl rfl rfl rfl rfl rfl rfl ?_; clear HF; intro w116 HF; obtain ⟨q117a, q117b, q117c⟩ := rd3 HF.out.b0; have HF2_ := Lib.hid HF.out.swap; clear HF; have HF := HF2_; clear HF2_)
      | ((with_reducible refine gate_store (t := 129) (p := 2) rfl ?_); refine ez_put (p := 2) HF rfl rfl rfl rfl rfl rfl rfl ?_; clear HF; clear q117a q117b q117c; intro w118 HF))
     refine bodyPost_ret (results_ct rfl _ _ b1 129 _ (0, 0) _ rfl HF.out.b0 Tryz.underlying129 rfl (by kernel_rfl)) rfl ?_
     exact ⟨rfl, HF.out.below⟩
    ·have hl3 : ((26 : Int) == kd) = false := beq_eq_false_iff_ne.2 (fun e => hl e.symm)
     rw [show ((([61, 62], (26 : Int), (1 : Int)) : List UInt8 × Int × Int).2.1 == kd) = false from hl3] at hR
     have HR := Lib.hid (show List.find? _ (opsL.drop 4) = R from hR)
     clear hR hl
     go_wp2_with (first
      | ((with_reducible refine gate_dst (N := 9) rfl ?_); refine Kd.event_run rfl (v := .agg #[.string (⟨#[61, 62]⟩ : ByteArray), .int .i64 26, .int .i64 1]) (w1 := wr) (by kernel_rfl) ?_)
      | ((with_reducible refine gate_dst (N := 5) rfl ?_); refine ez_box (t := 129) (cs := #[.string (⟨#[]⟩ : ByteArray), .int .i64 0, .int .i64 0]) HF rfl rfl (run_op rfl) ?_; clear HF; intro b2 w119 HF)
      | ((with_reducible refine gate_store (t := 129) (p := 5) rfl ?_); refine ez_put (p := 5) HF rfl rfl rfl rfl rfl rfl rfl ?_; clear HF; intro w120 HF; obtain ⟨q121a, q121b, q121c⟩ := rd3 HF.out.b0))
     go_roundg k1
     case measure => have := HK.out; omega
     case rel => exact ⟨4, _, _, rfl, (by first | rfl | (simp; done) | decide), Lib.hid rfl, Lib.hid (by have := HK.out; omega), Lib.hid (by decide), HR, Lib.hid HF.out.lose⟩
   | 4, _, hz2 =>
    clear hi hz
    obtain rfl : z = 4 := hz2
    have hR := HR.out
    clear HR
    rw [show opsL.drop 4 = ([43], 24, 2) :: opsL.drop 5 from rfl, List.find?_cons] at hR
    by_cases hl : kd = 24
    ·subst hl
     obtain rfl : some ([43], (24 : Int), (2 : Int)) = R := hR
     go_wp2_with (first
      | ((with_reducible refine gate_dst (N := 9) rfl ?_); refine Kd.event_run rfl (v := .agg #[.string (⟨#[43]⟩ : ByteArray), .int .i64 24, .int .i64 2]) (w1 := wr) (by kernel_rfl) ?_)
      | ((with_reducible refine gate_dst (N := 5) rfl ?_); refine ez_box (t := 129) (cs := #[.string (⟨#[]⟩ : ByteArray), .int .i64 0, .int .i64 0]) HF rfl rfl (run_op rfl) ?_; clear HF; intro b2 w122 HF)
      | ((with_reducible refine gate_store (t := 129) (p := 5) rfl ?_); refine ez_put (p := 5) HF rfl rfl rfl rfl rfl rfl rfl ?_; clear HF; intro w123 HF; obtain ⟨q124a, q124b, q124c⟩ := rd3 HF.out.b0; have HF2_ := Lib.hid HF.out.swap; clear HF; have HF := HF2_; clear HF2_)
      | ((with_reducible refine gate_store (t := 129) (p := 2) rfl ?_); refine ez_put (p := 2) HF rfl rfl rfl rfl rfl rfl rfl ?_; clear HF; clear q124a q124b q124c; intro w125 HF))
     refine bodyPost_ret (results_ct rfl _ _ b1 129 _ (0, 0) _ rfl HF.out.b0 Tryz.underlying129 rfl (by kernel_rfl)) rfl ?_
     exact ⟨rfl, HF.out.below⟩
    ·have hl3 : ((24 : Int) == kd) = false := beq_eq_false_iff_ne.2 (fun e => hl e.symm)
     rw [show ((([43], (24 : Int), (2 : Int)) : List UInt8 × Int × Int).2.1 == kd) = false from hl3] at hR
     have HR := Lib.hid (show List.find? _ (opsL.drop 5) = R from hR)
     clear hR hl
     go_wp2_with (first
      | ((with_reducible refine gate_dst (N := 9) rfl ?_); refine Kd.event_run rfl (v := .agg #[.string (⟨#[43]⟩ : ByteArray), .int .i64 24, .int .i64 2]) (w1 := wr) (by kernel_rfl) ?_)
      | ((with_reducible refine gate_dst (N := 5) rfl ?_); refine ez_box (t := 129) (cs := #[.string (⟨#[]⟩ : ByteArray), .int .i64 0, .int .i64 0]) HF rfl rfl (run_op rfl) ?_; clear HF; intro b2 w126 HF)
      | ((with_reducible refine gate_store (t := 129) (p := 5) rfl ?_); refine ez_put (p := 5) HF rfl rfl rfl rfl rfl rfl rfl ?_; clear HF; intro w127 HF; obtain ⟨q128a, q128b, q128c⟩ := rd3 HF.out.b0))
     go_roundg k1
     case measure => have := HK.out; omega
     case rel => exact ⟨5, _, _, rfl, (by first | rfl | (simp; done) | decide), Lib.hid rfl, Lib.hid (by have := HK.out; omega), Lib.hid (by decide), HR, Lib.hid HF.out.lose⟩
   | 5, _, hz2 =>
    clear hi hz
    obtain rfl : z = 5 := hz2
    have hR := HR.out
    clear HR
    rw [show opsL.drop 5 = ([38], 23, 3) :: opsL.drop 6 from rfl, List.find?_cons] at hR
    by_cases hl : kd = 23
    ·subst hl
     obtain rfl : some ([38], (23 : Int), (3 : Int)) = R := hR
     go_wp2_with (first
      | ((with_reducible refine gate_dst (N := 9) rfl ?_); refine Kd.event_run rfl (v := .agg #[.string (⟨#[38]⟩ : ByteArray), .int .i64 23, .int .i64 3]) (w1 := wr) (by kernel_rfl) ?_)
      | ((with_reducible refine gate_dst (N := 5) rfl ?_); refine ez_box (t := 129) (cs := #[.string (⟨#[]⟩ : ByteArray), .int .i64 0, .int .i64 0]) HF rfl rfl (run_op rfl) ?_; clear HF; intro b2 w129 HF)
      | ((with_reducible refine gate_store (t := 129) (p := 5) rfl ?_); refine ez_put (p := 5) HF rfl rfl rfl rfl rfl rfl rfl ?_; clear HF; intro w130 HF; obtain ⟨q131a, q131b, q131c⟩ := rd3 HF.out.b0; have HF2_ := Lib.hid HF.out.swap; clear HF; have HF := HF2_; clear HF2_)
      | ((with_reducible refine gate_store (t := 129) (p := 2) rfl ?_); refine ez_put (p := 2) HF rfl rfl rfl rfl rfl rfl rfl ?_; clear HF; clear q131a q131b q131c; intro w132 HF))
     refine bodyPost_ret (results_ct rfl _ _ b1 129 _ (0, 0) _ rfl HF.out.b0 Tryz.underlying129 rfl (by kernel_rfl)) rfl ?_
     exact ⟨rfl, HF.out.below⟩
    ·have hl3 : ((23 : Int) == kd) = false := beq_eq_false_iff_ne.2 (fun e => hl e.symm)
     rw [show ((([38], (23 : Int), (3 : Int)) : List UInt8 × Int × Int).2.1 == kd) = false from hl3] at hR
     have HR := Lib.hid (show List.find? _ (opsL.drop 6) = R from hR)
     clear hR hl
     go_wp2_with (first
      | ((with_reducible refine gate_dst (N := 9) rfl ?_); refine Kd.event_run rfl (v := .agg #[.string (⟨#[38]⟩ : ByteArray), .int .i64 23, .int .i64 3]) (w1 := wr) (by kernel_rfl) ?_)
      | ((with_reducible refine gate_dst (N := 5) rfl ?_); refine ez_box (t := 129) (cs := #[.string (⟨#[]⟩ : ByteArray), .int .i64 0, .int .i64 0]) HF rfl rfl (run_op rfl) ?_; clear HF; intro b2 w133 HF)
      | ((with_reducible refine gate_store (t := 129) (p := 5) rfl ?_); refine ez_put (p := 5) HF rfl rfl rfl rfl rfl rfl rfl ?_; clear HF; intro w134 HF; obtain ⟨q135a, q135b, q135c⟩ := rd3 HF.out.b0))
     go_roundg k1
     case measure => have := HK.out; omega
     case rel => exact ⟨6, _, _, rfl, (by first | rfl | (simp; done) | decide), Lib.hid rfl, Lib.hid (by have := HK.out; omega), Lib.hid (by decide), HR, Lib.hid HF.out.lose⟩
   | 6, _, hz2 =>
    clear hi hz
    obtain rfl : z = 6 := hz2
    have hR := HR.out
    clear HR
    rw [show opsL.drop 6 = ([42], 22, 4) :: opsL.drop 7 from rfl, List.find?_cons] at hR
    by_cases hl : kd = 22
    ·subst hl
     obtain rfl : some ([42], (22 : Int), (4 : Int)) = R := hR
     go_wp2_with (first
      | ((with_reducible refine gate_dst (N := 9) rfl ?_); refine Kd.event_run rfl (v := .agg #[.string (⟨#[42]⟩ : ByteArray), .int .i64 22, .int .i64 4]) (w1 := wr) (by kernel_rfl) ?_)
      | ((with_reducible refine gate_dst (N := 5) rfl ?_); refine ez_box (t := 129) (cs := #[.string (⟨#[]⟩ : ByteArray), .int .i64 0, .int .i64 0]) HF rfl rfl (run_op rfl) ?_; clear HF; intro b2 w136 HF)
      | ((with_reducible refine gate_store (t := 129) (p := 5) rfl ?_); refine ez_put (p := 5) HF rfl rfl rfl rfl rfl rfl rfl ?_; clear HF; intro w137 HF; obtain ⟨q138a, q138b, q138c⟩ := rd3 HF.out.b0; have HF2_ := Lib.hid HF.out.swap; clear HF; have HF := HF2_; clear HF2_)
      | ((with_reducible refine gate_store (t := 129) (p := 2) rfl ?_); refine ez_put (p := 2) HF rfl rfl rfl rfl rfl rfl rfl ?_; clear HF; clear q138a q138b q138c; intro w139 HF))
     refine bodyPost_ret (results_ct rfl _ _ b1 129 _ (0, 0) _ rfl HF.out.b0 Tryz.underlying129 rfl (by kernel_rfl)) rfl ?_
     exact ⟨rfl, HF.out.below⟩
    ·have hl3 : ((22 : Int) == kd) = false := beq_eq_false_iff_ne.2 (fun e => hl e.symm)
     rw [show ((([42], (22 : Int), (4 : Int)) : List UInt8 × Int × Int).2.1 == kd) = false from hl3] at hR
     have HR := Lib.hid (show List.find? _ (opsL.drop 7) = R from hR)
     clear hR hl
     go_wp2_with (first
      | ((with_reducible refine gate_dst (N := 9) rfl ?_); refine Kd.event_run rfl (v := .agg #[.string (⟨#[42]⟩ : ByteArray), .int .i64 22, .int .i64 4]) (w1 := wr) (by kernel_rfl) ?_)
      | ((with_reducible refine gate_dst (N := 5) rfl ?_); refine ez_box (t := 129) (cs := #[.string (⟨#[]⟩ : ByteArray), .int .i64 0, .int .i64 0]) HF rfl rfl (run_op rfl) ?_; clear HF; intro b2 w140 HF)
      | ((with_reducible refine gate_store (t := 129) (p := 5) rfl ?_); refine ez_put (p := 5) HF rfl rfl rfl rfl rfl rfl rfl ?_; clear HF; intro w141 HF; obtain ⟨q142a, q142b, q142c⟩ := rd3 HF.out.b0))
     go_roundg k1
     case measure => have := HK.out; omega
     case rel => exact ⟨7, _, _, rfl, (by first | rfl | (simp; done) | decide), Lib.hid rfl, Lib.hid (by have := HK.out; omega), Lib.hid (by decide), HR, Lib.hid HF.out.lose⟩
   | 7, _, hz2 =>
    clear hi hz
    obtain rfl : z = 7 := hz2
    obtain rfl : none = R := HR.out
    clear HR
    go_wp2_with (first
     | ((with_reducible refine gate_store (t := 129) (p := 2) rfl ?_); refine ez_put (p := 2) HF rfl rfl rfl rfl rfl rfl rfl ?_; clear HF; intro w143 HF))
    refine bodyPost_ret (results_ct rfl _ _ b1 129 _ (0, 0) _ rfl HF.out.b0 Tryz.underlying129 rfl (by kernel_rfl)) rfl ?_
    exact ⟨rfl, HF.out.below⟩
end Go.Proofs.YtbndfgoklgdfdaaGreatDoor.P
end
