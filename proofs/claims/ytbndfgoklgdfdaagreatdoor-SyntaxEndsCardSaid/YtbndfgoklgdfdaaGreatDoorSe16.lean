/- syntax's printer: formulas: signs (printed by mkpr.py). syntax's printer: formulas: what has no sign (printed by mkpr.py). -/
import Derived.Test.YtbndfgoklgdfdaaGreatDoorSe15
set_option linter.all false
section
set_option linter.unusedSimpArgs false
namespace Go.Proofs.YtbndfgoklgdfdaaGreatDoor.P
open Go.RowKit Go.Proofs.YtbndfgoklgdfdaaGreatDoorW.PrintWords Go.Proofs.YtbndfgoklgdfdaaGreatDoorW.PrintLast Go.Proofs.YtbndfgoklgdfdaaGreatDoorW.PrintMore
def leftL (ol : Int) : Int := if ol = 0 then 0 else ol + 1
def rightL (ol : Int) : Int := if ol = 0 then 1 else ol
/-- A quantifier's word. -/
def quantS (k : Int) : List UInt8 := if k = 18 then [97, 108, 108, 32] else [101, 120, 32]
mutual
/-- A formula's text at a place of a level. -/
def formS : Tree → Int → Bool → List UInt8
 | ⟨k, s, l⟩, lv, last =>
  match findP k with
  | some o => if o.2.2 < lv then [40] ++ ((formA l (leftL o.2.2) false ++ ((([32] ++ o.1) ++ [32]) ++ formB l (rightL o.2.2) true)) ++ [41]) else formA l (leftL o.2.2) false ++ ((([32] ++ o.1) ++ [32]) ++ formB l (rightL o.2.2) last)
  | none =>
   if k = 18 ∨ k = 19 then (if (!last) = true then [40] ++ ((quantS k ++ binderS s l (formE l)) ++ [41]) else quantS k ++ binderS s l (formE l))
   else if k = 20 then [111, 110, 101] else if k = 21 then [116, 111, 112] else if k = 29 then [33] ++ formA l 5 last else if k = 30 then [123] ++ (formA l 0 true ++ [125]) else termS ⟨k, s, l⟩
def formA : List Tree → Int → Bool → List UInt8
 | [], _, _ => []
 | x :: _, lv, last => formS x lv last
def formB : List Tree → Int → Bool → List UInt8
 | [], _, _ => []
 | _ :: l, lv, last => formA l lv last
def formE : List Tree → List UInt8
 | [] => []
 | y :: l => if l.isEmpty then formS y 0 true else formE l
end
/-- form's contract at one tree. -/
def FormW (x : Tree) : Prop := ∀ (lv : Int) (last : Bool), 0 ≤ lv → lv ≤ 5 → ∀ (w : World) (ts : List Th) (g : Nat) (A : Option Addr) (c : Nat), GOK w → x.f2.length ≤ c → Kd.C k25 w A x.f2.length x.f2 →
 Writes 98 #[.pointer (some ⟨g, 0, none⟩), .agg (tN x A c), .int .i64 lv, .bool last] w ts g (formS x lv last)
theorem sgn_text (t : List UInt8) : (((⟨#[32]⟩ : ByteArray) ++ (⟨t.toArray⟩ : ByteArray)) ++ (⟨#[32]⟩ : ByteArray)).data.toList = ([32] ++ t) ++ [32] := by simp
theorem sgn_size (t : List UInt8) : (((⟨#[32]⟩ : ByteArray) ++ (⟨t.toArray⟩ : ByteArray)) ++ (⟨#[32]⟩ : ByteArray)).size = t.length + 2 := by
 simp [ByteArray.size_append]
 show 1 + t.toArray.size + 1 = t.length + 2
 simp
 omega
set_option maxRecDepth 100000 in
set_option maxHeartbeats 8000000 in
theorem formop_zero (k : Int) (s : ByteArray) (a b : Tree) (o : List UInt8 × Int × Int) (hfo : findP k = some o) (h0 : o.2.2 = 0) (h4 : o.2.2 ≤ 4) (h5 : o.1.length ≤ 2) (hA : ∀ lv last, 0 ≤ lv → lv ≤ 5 → ∀ (w : World) (ts : List Th) (g : Nat) (A : Option Addr) (c : Nat), GOK w → a.f2.length ≤ c → Kd.C k25 w A a.f2.length a.f2 → Writes 98 #[.pointer (some ⟨g, 0, none⟩), .agg (tN a A c), .int .i64 lv, .bool last] w ts g (formS a lv last))
  (hB : ∀ lv last, 0 ≤ lv → lv ≤ 5 → ∀ (w : World) (ts : List Th) (g : Nat) (A : Option Addr) (c : Nat), GOK w → b.f2.length ≤ c → Kd.C k25 w A b.f2.length b.f2 → Writes 98 #[.pointer (some ⟨g, 0, none⟩), .agg (tN b A c), .int .i64 lv, .bool last] w ts g (formS b lv last))
  (lv : Int) (last : Bool) (hlv : ¬ o.2.2 < lv) (w : World) (ts : List Th) (g : Nat) (A : Option Addr) (c : Nat) (hg : GOK w) (hc : [a, b].length ≤ c) (hC : Kd.C k25 w A [a, b].length [a, b]) :
  Writes 98 #[.pointer (some ⟨g, 0, none⟩), .agg (tN ⟨k, s, [a, b]⟩ A c), .int .i64 lv, .bool last] w ts g (formS a 0 false ++ ((([32] ++ o.1) ++ [32]) ++ formS b 1 last)) := by
 intro W ok bs HF hlen
 obtain ⟨a0A, AA, cA, e0A, p0, p1, p2, hl2, hc2⟩ := kid_at hC 0 (by simp) a rfl
 try simp only [Nat.zero_mul, Nat.one_mul, addr_add0, addr_add3] at p0 p1 p2
 have KA := Lib.hid (And.intro p0 (And.intro p1 p2))
 have HLA := Lib.hid hl2
 have HCA := Lib.hid hc2
 clear p0 p1 p2 hl2 hc2
 obtain ⟨a0B, AB, cB, e0B, p0, p1, p2, hl2, hc2⟩ := kid_at hC 1 (by simp) b rfl
 try simp only [Nat.zero_mul, Nat.one_mul, addr_add0, addr_add3] at p0 p1 p2
 have KB := Lib.hid (And.intro p0 (And.intro p1 p2))
 have HLB := Lib.hid hl2
 have HCB := Lib.hid hc2
 clear p0 p1 p2 hl2 hc2
 subst e0A
 have e1_ : a0A = a0B := Option.some.inj e0B
 clear e0B
 subst e1_
 obtain ⟨ta, hta⟩ : ∃ ta, ta = formS a 0 false := ⟨_, rfl⟩
 obtain ⟨tb, htb⟩ : ∃ tb, tb = formS b 1 last := ⟨_, rfl⟩
 rw [← hta, ← htb] at hlen ⊢
 have HL := Lib.hid hlen
 have HA := Lib.hid (hA 0 false (by omega) (by omega))
 have HB := Lib.hid (hB 1 last (by omega) (by omega))
 skip
 have HG := Lib.hid hg
 have HFO := Lib.hid hfo
 have HTA := Lib.hid hta
 have HTB := Lib.hid htb
 have hlt_ : decide (o.2.2 < lv) = false := decide_eq_false hlv
 have hw1_ : wrap64 (o.2.2 + 1) = o.2.2 + 1 := by unfold wrap64; omega
 have hw2_ : IntKind.i64.wrap (o.2.2 + 1) = o.2.2 + 1 := by rw [IntKind.wrap_i64]; omega
 have hz_ : (o.2.2 == 0) = true := by simp [h0]
 clear hlen hA hB hg hfo hta htb hlv hc hC h0
 go_enter Tryz.func98, Tryz.ntmps98
 go_wp2_with (first
  | ((with_reducible refine gate_dst (N := 4) rfl ?_); refine ez_box (t := 100) (cs := #[.pointer (some ⟨g, 0, none⟩)]) HF rfl rfl (run_pr rfl rfl) ?_; clear HF; intro b4 w144 HF)
  | ((with_reducible refine gate_dst (N := 5) rfl ?_); refine ez_box (t := 25) (cs := (tN ⟨k, s, [a, b]⟩ (some a0A) c)) HF rfl rfl (run_tree rfl rfl) ?_; clear HF; intro b5 w145 HF; obtain ⟨q146a, q146b, q146c⟩ := rd3 HF.out.b0)
  | (go_at_call 132; refine (find_on k _ (HG.out.below HF.out.below)).mono ?_; rintro e w147 ⟨h_, hb_⟩; rw [HFO.out] at h_; obtain rfl := h_; clear q146a q146b q146c; have HF2_ := Lib.hid (HF.out.step hb_); clear HF hb_; have HF := HF2_; clear HF2_)
  | ((with_reducible refine gate_dst (N := 8) rfl ?_); refine ez_box (t := 129) (cs := #[.string (⟨#[]⟩ : ByteArray), .int .i64 0, .int .i64 0]) HF rfl rfl (run_op rfl) ?_; clear HF; intro b8 w148 HF)
  | ((with_reducible refine gate_store (t := 129) (p := 8) rfl ?_); refine ez_put (p := 8) HF rfl rfl rfl rfl rfl rfl rfl ?_; clear HF; intro w149 HF; obtain ⟨q150a, q150b, q150c⟩ := rd3 HF.out.b0))
 go_wp2_with fail
 go_wp2_with fail
 replace HF := Lib.hid HF.out.drew
 refine wp_only ?_
 refine start_ (n := 7) (S := (fun w' => True ∧ w'.cell? (⟨b8, 2, none⟩) = some (.int .i64 o.2.2))) (ds := []) #[false, false, false, false, false, false, false] (by kernel_rfl) rfl rfl ?_ (fun hHeld => ?_)
 ·exact ⟨trivial, (blk_cell HF.out.b0 2).trans rfl⟩
 refine pq 0 (fl 7 1) (h := ?_)
 refine pq 3 #[true, false, false, true, false, false, false] (h := ?_)
 refine tq hHeld 1 #[true, true, false, true, false, false, false] (h := ?_)
 refine pq 2 (fl 7 4) (h := ?_)
 refine pq 5 #[true, true, true, true, false, true, false] (h := ?_)
 refine tq hHeld 4 (fl 7 6) (h := ?_)
 refine pq 6 (fl 7 7) (h := ?_)
 refine done_ (by kernel_rfl) ⟨rfl, ?_⟩
 clear hHeld
 try simp only [Act.put, List.setIfInBounds_toArray, List.set_cons_zero, List.set_cons_succ]
 obtain ⟨q151a, q151b, q151c⟩ := rd3 HF.out.b0
 go_wp2_with fail
 go_wp2_with fail
 replace HF := Lib.hid HF.out.drew
 refine wp_only ?_
 refine start_ (n := 7) (S := (fun w' => True ∧ w'.cell? (⟨b4, 0, none⟩) = some (.pointer (some ⟨g, 0, none⟩)) ∧ w'.cell? (⟨b5, 2, none⟩) = some (.slice (some a0A) 2 c) ∧ w'.cell? (a0A) = some (.int .i64 a.f0) ∧ w'.cell? (⟨a0A.block, a0A.off + 1, none⟩) = some (.string a.f1) ∧ w'.cell? (⟨a0A.block, a0A.off + 2, none⟩) = some (.slice AA a.f2.length cA))) (ds := [6]) #[false, false, false, false, false, false, false] (by kernel_rfl) rfl rfl ?_ (fun hHeld => ?_)
 ·exact ⟨trivial, (blk_cell HF.out.b2 0).trans rfl, (blk_cell HF.out.b1 2).trans rfl, pw_cell_below HF.out.below KA.out.1, pw_cell_below HF.out.below KA.out.2.1, pw_cell_below HF.out.below KA.out.2.2⟩
 refine pq 1 #[false, true, false, false, false, false, false] (h := ?_)
 refine pq 5 #[false, true, false, false, false, true, false] (h := ?_)
 refine tq hHeld 0 #[true, true, false, false, false, true, false] (h := ?_)
 refine tq hHeld 2 #[true, true, true, false, false, true, false] (h := ?_)
 refine pq 3 #[true, true, true, true, false, true, false] (h := ?_)
 refine tq hHeld 4 (fl 7 6) (h := ?_)
 refine last_ (i := 6) (N := some 40) #[true, true, true, true, true, true, true] rfl rfl (by kernel_rfl) (by decide) (fun K hK => ?_)
 go_simp
 replace HF := Lib.hid HF.out.up4
 refine (HA.out w _ g AA cA HG.out HLA.out HCA.out _ _ _ HF (by have := HL.out; rw [← HTA.out]; simp at this ⊢; omega)).mono ?_
 rintro e w152 ⟨rfl, oko153, HFn⟩
 clear HF; clear q150a q150b q150c q151a q151b q151c
 have HF := HFn
 clear HFn
 rw [← HTA.out] at HF
 refine hK.out _ _ ?_
 clear hK K
 (try simp only [Act.put, List.setIfInBounds_toArray, List.set_cons_zero, List.set_cons_succ])
 refine done_ (by kernel_rfl) ⟨rfl, ?_⟩
 skip
 try simp only [Act.put, List.setIfInBounds_toArray, List.set_cons_zero, List.set_cons_succ]
 have hs1_ : (9223372036854775807 < 1 + o.1.length) = False := eq_false (by omega)
 have hs2_ : (9223372036854775807 < 1 + o.1.length + 1) = False := eq_false (by omega)
 go_wp2_with fail
 go_wp2_with fail
 replace HF := Lib.hid HF.out.drew
 refine wp_only ?_
 refine start_ (n := 8) (S := (fun w' => True ∧ w'.cell? (⟨b4, 0, none⟩) = some (.pointer (some ⟨g, 0, none⟩)) ∧ w'.cell? (⟨b8, 0, none⟩) = some (.string ⟨o.1.toArray⟩))) (ds := [7]) #[false, false, false, false, false, false, false, false] (by kernel_rfl) rfl rfl ?_ (fun hHeld => ?_)
 ·exact ⟨trivial, (blk_cell HF.out.b3 0).trans rfl, (blk_cell HF.out.b1 0).trans rfl⟩
 refine pq 3 #[false, false, false, true, false, false, false, false] (h := ?_)
 refine tq hHeld 0 #[true, false, false, true, false, false, false, false] (h := ?_)
 refine pq 1 #[true, true, false, true, false, false, false, false] (h := ?_)
 refine pq 2 (fl 8 4) (h := ?_)
 refine tq hHeld 4 (fl 8 5) (h := ?_)
 refine pq 5 (fl 8 6) (h := ?_)
 refine pq 6 (fl 8 7) (h := ?_)
 refine last_ (i := 7) (N := some 48) #[true, true, true, true, true, true, true, true] rfl rfl (by kernel_rfl) (by decide) (fun K hK => ?_)
 go_simp
 refine (ws_on _ _ _ _ _ _ _ HF (by have := HL.out; have e_ : outMax = 140737488355328 := rfl; rw [sgn_size]; simp at this ⊢; omega)).mono ?_
 rintro e w154 ⟨rfl, oko155, HFn⟩
 clear HF
 have HF := HFn
 clear HFn
 rw [sgn_text] at HF
 refine hK.out _ _ ?_
 clear hK K
 (try simp only [Act.put, List.setIfInBounds_toArray, List.set_cons_zero, List.set_cons_succ])
 refine done_ (by kernel_rfl) ⟨rfl, ?_⟩
 skip
 try simp only [Act.put, List.setIfInBounds_toArray, List.set_cons_zero, List.set_cons_succ]
 go_wp2_with fail
 go_wp2_with fail
 replace HF := Lib.hid HF.out.drew
 refine wp_only ?_
 refine start_ (n := 8) (S := (fun w' => True ∧ w'.cell? (⟨b4, 0, none⟩) = some (.pointer (some ⟨g, 0, none⟩)) ∧ w'.cell? (⟨b5, 2, none⟩) = some (.slice (some a0A) 2 c) ∧ w'.cell? (⟨a0A.block, a0A.off + 3, none⟩) = some (.int .i64 b.f0) ∧ w'.cell? (⟨a0A.block, a0A.off + 3 + 1, none⟩) = some (.string b.f1) ∧ w'.cell? (⟨a0A.block, a0A.off + 3 + 2, none⟩) = some (.slice AB b.f2.length cB))) (ds := [7]) #[false, false, false, false, false, false, false, false] (by kernel_rfl) rfl rfl ?_ (fun hHeld => ?_)
 ·exact ⟨trivial, (blk_cell HF.out.b3 0).trans rfl, (blk_cell HF.out.b2 2).trans rfl, pw_cell_below HF.out.below KB.out.1, pw_cell_below HF.out.below KB.out.2.1, pw_cell_below HF.out.below KB.out.2.2⟩
 refine pq 1 #[false, true, false, false, false, false, false, false] (h := ?_)
 refine pq 5 #[false, true, false, false, false, true, false, false] (h := ?_)
 refine pq 6 #[false, true, false, false, false, true, true, false] (h := ?_)
 refine tq hHeld 0 #[true, true, false, false, false, true, true, false] (h := ?_)
 refine tq hHeld 2 #[true, true, true, false, false, true, true, false] (h := ?_)
 refine pq 3 #[true, true, true, true, false, true, true, false] (h := ?_)
 refine tq hHeld 4 (fl 8 7) (h := ?_)
 refine last_ (i := 7) (N := some 56) #[true, true, true, true, true, true, true, true] rfl rfl (by kernel_rfl) (by decide) (fun K hK => ?_)
 go_simp
 refine (HB.out w _ g AB cB HG.out HLB.out HCB.out _ _ _ HF (by have := HL.out; rw [← HTB.out]; simp at this ⊢; omega)).mono ?_
 rintro e w156 ⟨rfl, oko157, HFn⟩
 clear HF
 have HF := HFn
 clear HFn
 rw [← HTB.out] at HF
 refine hK.out _ _ ?_
 clear hK K
 (try simp only [Act.put, List.setIfInBounds_toArray, List.set_cons_zero, List.set_cons_succ])
 refine done_ (by kernel_rfl) ⟨rfl, ?_⟩
 skip
 try simp only [Act.put, List.setIfInBounds_toArray, List.set_cons_zero, List.set_cons_succ]
 go_wp2_with fail
 refine bodyPost_ret (v := .tuple #[]) (results_none rfl _ _ _) rfl ?_
 replace HF := Lib.hid HF.out.swap
 replace HF := Lib.hid HF.out.lose
 replace HF := Lib.hid HF.out.swap
 replace HF := Lib.hid HF.out.lose
 replace HF := Lib.hid HF.out.swap
 replace HF := Lib.hid HF.out.lose
 exact ⟨rfl, _, by simpa only [List.append_assoc, List.cons_append, List.nil_append] using HF⟩
set_option maxRecDepth 100000 in
set_option maxHeartbeats 8000000 in
theorem formop_more (k : Int) (s : ByteArray) (a b : Tree) (o : List UInt8 × Int × Int) (hfo : findP k = some o) (h0 : 0 < o.2.2) (h4 : o.2.2 ≤ 4) (h5 : o.1.length ≤ 2) (hA : ∀ lv last, 0 ≤ lv → lv ≤ 5 → ∀ (w : World) (ts : List Th) (g : Nat) (A : Option Addr) (c : Nat), GOK w → a.f2.length ≤ c → Kd.C k25 w A a.f2.length a.f2 → Writes 98 #[.pointer (some ⟨g, 0, none⟩), .agg (tN a A c), .int .i64 lv, .bool last] w ts g (formS a lv last))
  (hB : ∀ lv last, 0 ≤ lv → lv ≤ 5 → ∀ (w : World) (ts : List Th) (g : Nat) (A : Option Addr) (c : Nat), GOK w → b.f2.length ≤ c → Kd.C k25 w A b.f2.length b.f2 → Writes 98 #[.pointer (some ⟨g, 0, none⟩), .agg (tN b A c), .int .i64 lv, .bool last] w ts g (formS b lv last))
  (lv : Int) (last : Bool) (hlv : ¬ o.2.2 < lv) (w : World) (ts : List Th) (g : Nat) (A : Option Addr) (c : Nat) (hg : GOK w) (hc : [a, b].length ≤ c) (hC : Kd.C k25 w A [a, b].length [a, b]) :
  Writes 98 #[.pointer (some ⟨g, 0, none⟩), .agg (tN ⟨k, s, [a, b]⟩ A c), .int .i64 lv, .bool last] w ts g (formS a (o.2.2 + 1) false ++ ((([32] ++ o.1) ++ [32]) ++ formS b o.2.2 last)) := by
 intro W ok bs HF hlen
 obtain ⟨a0A, AA, cA, e0A, p0, p1, p2, hl2, hc2⟩ := kid_at hC 0 (by simp) a rfl
 try simp only [Nat.zero_mul, Nat.one_mul, addr_add0, addr_add3] at p0 p1 p2
 have KA := Lib.hid (And.intro p0 (And.intro p1 p2))
 have HLA := Lib.hid hl2
 have HCA := Lib.hid hc2
 clear p0 p1 p2 hl2 hc2
 obtain ⟨a0B, AB, cB, e0B, p0, p1, p2, hl2, hc2⟩ := kid_at hC 1 (by simp) b rfl
 try simp only [Nat.zero_mul, Nat.one_mul, addr_add0, addr_add3] at p0 p1 p2
 have KB := Lib.hid (And.intro p0 (And.intro p1 p2))
 have HLB := Lib.hid hl2
 have HCB := Lib.hid hc2
 clear p0 p1 p2 hl2 hc2
 subst e0A
 have e1_ : a0A = a0B := Option.some.inj e0B
 clear e0B
 subst e1_
 obtain ⟨ta, hta⟩ : ∃ ta, ta = formS a (o.2.2 + 1) false := ⟨_, rfl⟩
 obtain ⟨tb, htb⟩ : ∃ tb, tb = formS b o.2.2 last := ⟨_, rfl⟩
 rw [← hta, ← htb] at hlen ⊢
 have HL := Lib.hid hlen
 have HA := Lib.hid (hA (o.2.2 + 1) false (by omega) (by omega))
 have HB := Lib.hid (hB o.2.2 last (by omega) (by omega))
 skip
 have HG := Lib.hid hg
 have HFO := Lib.hid hfo
 have HTA := Lib.hid hta
 have HTB := Lib.hid htb
 have hlt_ : decide (o.2.2 < lv) = false := decide_eq_false hlv
 have hw1_ : wrap64 (o.2.2 + 1) = o.2.2 + 1 := by unfold wrap64; omega
 have hw2_ : IntKind.i64.wrap (o.2.2 + 1) = o.2.2 + 1 := by rw [IntKind.wrap_i64]; omega
 have hz_ : (o.2.2 == 0) = false := by simp; omega
 clear hlen hA hB hg hfo hta htb hlv hc hC h0
 go_enter Tryz.func98, Tryz.ntmps98
 go_wp2_with (first
  | ((with_reducible refine gate_dst (N := 4) rfl ?_); refine ez_box (t := 100) (cs := #[.pointer (some ⟨g, 0, none⟩)]) HF rfl rfl (run_pr rfl rfl) ?_; clear HF; intro b4 w158 HF)
  | ((with_reducible refine gate_dst (N := 5) rfl ?_); refine ez_box (t := 25) (cs := (tN ⟨k, s, [a, b]⟩ (some a0A) c)) HF rfl rfl (run_tree rfl rfl) ?_; clear HF; intro b5 w159 HF; obtain ⟨q160a, q160b, q160c⟩ := rd3 HF.out.b0)
  | (go_at_call 132; refine (find_on k _ (HG.out.below HF.out.below)).mono ?_; rintro e w161 ⟨h_, hb_⟩; rw [HFO.out] at h_; obtain rfl := h_; clear q160a q160b q160c; have HF2_ := Lib.hid (HF.out.step hb_); clear HF hb_; have HF := HF2_; clear HF2_)
  | ((with_reducible refine gate_dst (N := 8) rfl ?_); refine ez_box (t := 129) (cs := #[.string (⟨#[]⟩ : ByteArray), .int .i64 0, .int .i64 0]) HF rfl rfl (run_op rfl) ?_; clear HF; intro b8 w162 HF)
  | ((with_reducible refine gate_store (t := 129) (p := 8) rfl ?_); refine ez_put (p := 8) HF rfl rfl rfl rfl rfl rfl rfl ?_; clear HF; intro w163 HF; obtain ⟨q164a, q164b, q164c⟩ := rd3 HF.out.b0))
 go_wp2_with fail
 go_wp2_with fail
 replace HF := Lib.hid HF.out.drew
 refine wp_only ?_
 refine start_ (n := 7) (S := (fun w' => True ∧ w'.cell? (⟨b8, 2, none⟩) = some (.int .i64 o.2.2))) (ds := []) #[false, false, false, false, false, false, false] (by kernel_rfl) rfl rfl ?_ (fun hHeld => ?_)
 ·exact ⟨trivial, (blk_cell HF.out.b0 2).trans rfl⟩
 refine pq 0 (fl 7 1) (h := ?_)
 refine pq 3 #[true, false, false, true, false, false, false] (h := ?_)
 refine tq hHeld 1 #[true, true, false, true, false, false, false] (h := ?_)
 refine pq 2 (fl 7 4) (h := ?_)
 refine pq 5 #[true, true, true, true, false, true, false] (h := ?_)
 refine tq hHeld 4 (fl 7 6) (h := ?_)
 refine pq 6 (fl 7 7) (h := ?_)
 refine done_ (by kernel_rfl) ⟨rfl, ?_⟩
 clear hHeld
 try simp only [Act.put, List.setIfInBounds_toArray, List.set_cons_zero, List.set_cons_succ]
 obtain ⟨q165a, q165b, q165c⟩ := rd3 HF.out.b0
 go_wp2_with fail
 go_wp2_with fail
 replace HF := Lib.hid HF.out.drew
 refine wp_only ?_
 refine start_ (n := 7) (S := (fun w' => True ∧ w'.cell? (⟨b4, 0, none⟩) = some (.pointer (some ⟨g, 0, none⟩)) ∧ w'.cell? (⟨b5, 2, none⟩) = some (.slice (some a0A) 2 c) ∧ w'.cell? (a0A) = some (.int .i64 a.f0) ∧ w'.cell? (⟨a0A.block, a0A.off + 1, none⟩) = some (.string a.f1) ∧ w'.cell? (⟨a0A.block, a0A.off + 2, none⟩) = some (.slice AA a.f2.length cA))) (ds := [6]) #[false, false, false, false, false, false, false] (by kernel_rfl) rfl rfl ?_ (fun hHeld => ?_)
 ·exact ⟨trivial, (blk_cell HF.out.b2 0).trans rfl, (blk_cell HF.out.b1 2).trans rfl, pw_cell_below HF.out.below KA.out.1, pw_cell_below HF.out.below KA.out.2.1, pw_cell_below HF.out.below KA.out.2.2⟩
 refine pq 1 #[false, true, false, false, false, false, false] (h := ?_)
 refine pq 5 #[false, true, false, false, false, true, false] (h := ?_)
 refine tq hHeld 0 #[true, true, false, false, false, true, false] (h := ?_)
 refine tq hHeld 2 #[true, true, true, false, false, true, false] (h := ?_)
 refine pq 3 #[true, true, true, true, false, true, false] (h := ?_)
 refine tq hHeld 4 (fl 7 6) (h := ?_)
 refine last_ (i := 6) (N := some 40) #[true, true, true, true, true, true, true] rfl rfl (by kernel_rfl) (by decide) (fun K hK => ?_)
 go_simp
 replace HF := Lib.hid HF.out.up4
 refine (HA.out w _ g AA cA HG.out HLA.out HCA.out _ _ _ HF (by have := HL.out; rw [← HTA.out]; simp at this ⊢; omega)).mono ?_
 rintro e w166 ⟨rfl, oko167, HFn⟩
 clear HF; clear q164a q164b q164c q165a q165b q165c
 have HF := HFn
 clear HFn
 rw [← HTA.out] at HF
 refine hK.out _ _ ?_
 clear hK K
 (try simp only [Act.put, List.setIfInBounds_toArray, List.set_cons_zero, List.set_cons_succ])
 refine done_ (by kernel_rfl) ⟨rfl, ?_⟩
 skip
 try simp only [Act.put, List.setIfInBounds_toArray, List.set_cons_zero, List.set_cons_succ]
 have hs1_ : (9223372036854775807 < 1 + o.1.length) = False := eq_false (by omega)
 have hs2_ : (9223372036854775807 < 1 + o.1.length + 1) = False := eq_false (by omega)
 go_wp2_with fail
 go_wp2_with fail
 replace HF := Lib.hid HF.out.drew
 refine wp_only ?_
 refine start_ (n := 8) (S := (fun w' => True ∧ w'.cell? (⟨b4, 0, none⟩) = some (.pointer (some ⟨g, 0, none⟩)) ∧ w'.cell? (⟨b8, 0, none⟩) = some (.string ⟨o.1.toArray⟩))) (ds := [7]) #[false, false, false, false, false, false, false, false] (by kernel_rfl) rfl rfl ?_ (fun hHeld => ?_)
 ·exact ⟨trivial, (blk_cell HF.out.b3 0).trans rfl, (blk_cell HF.out.b1 0).trans rfl⟩
 refine pq 3 #[false, false, false, true, false, false, false, false] (h := ?_)
 refine tq hHeld 0 #[true, false, false, true, false, false, false, false] (h := ?_)
 refine pq 1 #[true, true, false, true, false, false, false, false] (h := ?_)
 refine pq 2 (fl 8 4) (h := ?_)
 refine tq hHeld 4 (fl 8 5) (h := ?_)
 refine pq 5 (fl 8 6) (h := ?_)
 refine pq 6 (fl 8 7) (h := ?_)
 refine last_ (i := 7) (N := some 48) #[true, true, true, true, true, true, true, true] rfl rfl (by kernel_rfl) (by decide) (fun K hK => ?_)
 go_simp
 refine (ws_on _ _ _ _ _ _ _ HF (by have := HL.out; have e_ : outMax = 140737488355328 := rfl; rw [sgn_size]; simp at this ⊢; omega)).mono ?_
 rintro e w168 ⟨rfl, oko169, HFn⟩
 clear HF
 have HF := HFn
 clear HFn
 rw [sgn_text] at HF
 refine hK.out _ _ ?_
 clear hK K
 (try simp only [Act.put, List.setIfInBounds_toArray, List.set_cons_zero, List.set_cons_succ])
 refine done_ (by kernel_rfl) ⟨rfl, ?_⟩
 skip
 try simp only [Act.put, List.setIfInBounds_toArray, List.set_cons_zero, List.set_cons_succ]
 go_wp2_with fail
 go_wp2_with fail
 replace HF := Lib.hid HF.out.drew
 refine wp_only ?_
 refine start_ (n := 8) (S := (fun w' => True ∧ w'.cell? (⟨b4, 0, none⟩) = some (.pointer (some ⟨g, 0, none⟩)) ∧ w'.cell? (⟨b5, 2, none⟩) = some (.slice (some a0A) 2 c) ∧ w'.cell? (⟨a0A.block, a0A.off + 3, none⟩) = some (.int .i64 b.f0) ∧ w'.cell? (⟨a0A.block, a0A.off + 3 + 1, none⟩) = some (.string b.f1) ∧ w'.cell? (⟨a0A.block, a0A.off + 3 + 2, none⟩) = some (.slice AB b.f2.length cB))) (ds := [7]) #[false, false, false, false, false, false, false, false] (by kernel_rfl) rfl rfl ?_ (fun hHeld => ?_)
 ·exact ⟨trivial, (blk_cell HF.out.b3 0).trans rfl, (blk_cell HF.out.b2 2).trans rfl, pw_cell_below HF.out.below KB.out.1, pw_cell_below HF.out.below KB.out.2.1, pw_cell_below HF.out.below KB.out.2.2⟩
 refine pq 1 #[false, true, false, false, false, false, false, false] (h := ?_)
 refine pq 5 #[false, true, false, false, false, true, false, false] (h := ?_)
 refine pq 6 #[false, true, false, false, false, true, true, false] (h := ?_)
 refine tq hHeld 0 #[true, true, false, false, false, true, true, false] (h := ?_)
 refine tq hHeld 2 #[true, true, true, false, false, true, true, false] (h := ?_)
 refine pq 3 #[true, true, true, true, false, true, true, false] (h := ?_)
 refine tq hHeld 4 (fl 8 7) (h := ?_)
 refine last_ (i := 7) (N := some 56) #[true, true, true, true, true, true, true, true] rfl rfl (by kernel_rfl) (by decide) (fun K hK => ?_)
 go_simp
 refine (HB.out w _ g AB cB HG.out HLB.out HCB.out _ _ _ HF (by have := HL.out; rw [← HTB.out]; simp at this ⊢; omega)).mono ?_
 rintro e w170 ⟨rfl, oko171, HFn⟩
 clear HF
 have HF := HFn
 clear HFn
 rw [← HTB.out] at HF
 refine hK.out _ _ ?_
 clear hK K
 (try simp only [Act.put, List.setIfInBounds_toArray, List.set_cons_zero, List.set_cons_succ])
 refine done_ (by kernel_rfl) ⟨rfl, ?_⟩
 skip
 try simp only [Act.put, List.setIfInBounds_toArray, List.set_cons_zero, List.set_cons_succ]
 go_wp2_with fail
 refine bodyPost_ret (v := .tuple #[]) (results_none rfl _ _ _) rfl ?_
 replace HF := Lib.hid HF.out.swap
 replace HF := Lib.hid HF.out.lose
 replace HF := Lib.hid HF.out.swap
 replace HF := Lib.hid HF.out.lose
 replace HF := Lib.hid HF.out.swap
 replace HF := Lib.hid HF.out.lose
 exact ⟨rfl, _, by simpa only [List.append_assoc, List.cons_append, List.nil_append] using HF⟩
end Go.Proofs.YtbndfgoklgdfdaaGreatDoor.P
end
section
set_option linter.unusedSimpArgs false
namespace Go.Proofs.YtbndfgoklgdfdaaGreatDoor.P
open Go.RowKit Go.Proofs.YtbndfgoklgdfdaaGreatDoorW.PrintWords Go.Proofs.YtbndfgoklgdfdaaGreatDoorW.PrintLast Go.Proofs.YtbndfgoklgdfdaaGreatDoorW.PrintMore
set_option maxRecDepth 100000 in
set_option maxHeartbeats 8000000 in
theorem form1_writes (k : Int) (s : ByteArray) (l : List Tree) (v : Array Value) (A : Option Addr) (c : Nat) (w : World) (ts : List Th) (g b4 b5 b8 : Nat) (t : List UInt8)
  (h : Writes 98 #[.pointer (some ⟨g, 0, none⟩), .agg (tN ⟨k, s, l⟩ A c), .int .i64 0, .bool true] w (vT b8 129 v :: vT b5 25 (tN ⟨k, s, l⟩ A c) :: vT b4 100 #[.pointer (some ⟨g, 0, none⟩)] :: ts) g t) :
  Writes 133 #[.pointer (some ⟨b4, 0, none⟩), .pointer (some ⟨b5, 0, none⟩)] w (vT b8 129 v :: vT b5 25 (tN ⟨k, s, l⟩ A c) :: vT b4 100 #[.pointer (some ⟨g, 0, none⟩)] :: ts) g t := by
 intro W ok bs HF hlen
 have HL := Lib.hid hlen
 have HH := Lib.hid h
 clear hlen h
 have q172 := (blk_cell HF.out.b3 0).trans rfl
 obtain ⟨q173a, q173b, q173c⟩ := rd3 HF.out.b2
 go_enter Tryz.func133, Tryz.ntmps133
 go_wp2_with fail
 refine (HH.out _ _ _ HF (HL.out)).mono ?_
 rintro e w174 ⟨rfl, oko175, HFn⟩
 clear HF; clear q172 q173a q173b q173c
 have HF := HFn
 clear HFn
 go_wp2_with fail
 go_end0
 exact ⟨rfl, _, HF⟩
set_option maxRecDepth 100000 in
set_option maxHeartbeats 8000000 in
theorem form_paren (k : Int) (s : ByteArray) (l : List Tree) (o : List UInt8 × Int × Int) (hfo : findP k = some o) (lv : Int) (last : Bool) (hlv : o.2.2 < lv) (w : World) (ts : List Th) (g : Nat) (A : Option Addr) (c : Nat) (t : List UInt8) (hg : GOK w)
  (h : ∀ ts, Writes 98 #[.pointer (some ⟨g, 0, none⟩), .agg (tN ⟨k, s, l⟩ A c), .int .i64 0, .bool true] w ts g t) :
  Writes 98 #[.pointer (some ⟨g, 0, none⟩), .agg (tN ⟨k, s, l⟩ A c), .int .i64 lv, .bool last] w ts g ([40] ++ (t ++ [41])) := by
 intro W ok bs HF hlen
 have HL := Lib.hid hlen
 have HH := Lib.hid h
 have HG := Lib.hid hg
 have HFO := Lib.hid hfo
 have hlt_ : decide (o.2.2 < lv) = true := decide_eq_true hlv
 clear hlen h hg hfo hlv
 go_enter Tryz.func98, Tryz.ntmps98
 go_wp2_with (first
  | ((with_reducible refine gate_dst (N := 4) rfl ?_); refine ez_box (t := 100) (cs := #[.pointer (some ⟨g, 0, none⟩)]) HF rfl rfl (run_pr rfl rfl) ?_; clear HF; intro b4 w176 HF)
  | ((with_reducible refine gate_dst (N := 5) rfl ?_); refine ez_box (t := 25) (cs := (tN ⟨k, s, l⟩ A c)) HF rfl rfl (run_tree rfl rfl) ?_; clear HF; intro b5 w177 HF; obtain ⟨q178a, q178b, q178c⟩ := rd3 HF.out.b0)
  | (go_at_call 132; refine (find_on k _ (HG.out.below HF.out.below)).mono ?_; rintro e w179 ⟨h_, hb_⟩; rw [HFO.out] at h_; obtain rfl := h_; clear q178a q178b q178c; have HF2_ := Lib.hid (HF.out.step hb_); clear HF hb_; have HF := HF2_; clear HF2_)
  | ((with_reducible refine gate_dst (N := 8) rfl ?_); refine ez_box (t := 129) (cs := #[.string (⟨#[]⟩ : ByteArray), .int .i64 0, .int .i64 0]) HF rfl rfl (run_op rfl) ?_; clear HF; intro b8 w180 HF)
  | ((with_reducible refine gate_store (t := 129) (p := 8) rfl ?_); refine ez_put (p := 8) HF rfl rfl rfl rfl rfl rfl rfl ?_; clear HF; intro w181 HF; obtain ⟨q182a, q182b, q182c⟩ := rd3 HF.out.b0; have q183 := (blk_cell HF.out.b2 0).trans rfl))
 replace HF := Lib.hid HF.out.up3
 replace HF := Lib.hid HF.out.up3
 replace HF := Lib.hid HF.out.up3
 replace HF := Lib.hid HF.out.up4
 refine (within_writes _ (enters_of Tryz.func133 (by kernel_rfl) rfl) _ w _ g t true (form1_writes k s l _ A c w ts g b4 b5 b8 t (HH.out _)) _ _ _ HF (by rw [if_pos rfl]; exact HL.out)).mono ?_
 rintro e w184 ⟨rfl, oko185, HFn⟩
 clear HF; clear q182a q182b q182c q183
 have HF := HFn
 clear HFn
 go_wp2_with fail
 refine bodyPost_ret (v := .tuple #[]) (results_none rfl _ _ _) rfl ?_
 replace HF := Lib.hid HF.out.swap
 replace HF := Lib.hid HF.out.lose
 replace HF := Lib.hid HF.out.swap
 replace HF := Lib.hid HF.out.lose
 replace HF := Lib.hid HF.out.swap
 replace HF := Lib.hid HF.out.lose
 exact ⟨rfl, _, by simpa using HF⟩
set_option maxRecDepth 100000 in
set_option maxHeartbeats 8000000 in
theorem form_one (s : ByteArray) (l : List Tree) (lv : Int) (last : Bool) (w : World) (ts : List Th) (g : Nat) (A : Option Addr) (c : Nat) (hg : GOK w) :
  Writes 98 #[.pointer (some ⟨g, 0, none⟩), .agg (tN ⟨20, s, l⟩ A c), .int .i64 lv, .bool last] w ts g [111, 110, 101] := by
 intro W ok bs HF hlen
 have HL := Lib.hid hlen
 have HG := Lib.hid hg
 have HFO : Hid (findP 20 = none) := Lib.hid (by decide)
 clear hlen hg
 go_enter Tryz.func98, Tryz.ntmps98
 go_wp2_with (first
  | ((with_reducible refine gate_dst (N := 4) rfl ?_); refine ez_box (t := 100) (cs := #[.pointer (some ⟨g, 0, none⟩)]) HF rfl rfl (run_pr rfl rfl) ?_; clear HF; intro b4 w186 HF)
  | ((with_reducible refine gate_dst (N := 5) rfl ?_); refine ez_box (t := 25) (cs := (tN ⟨20, s, l⟩ A c)) HF rfl rfl (run_tree rfl rfl) ?_; clear HF; intro b5 w187 HF; obtain ⟨q188a, q188b, q188c⟩ := rd3 HF.out.b0)
  | (go_at_call 132; refine (find_on 20 _ (HG.out.below HF.out.below)).mono ?_; rintro e w189 ⟨h_, hb_⟩; rw [HFO.out] at h_; obtain rfl := h_; clear q188a q188b q188c; have HF2_ := Lib.hid (HF.out.step hb_); clear HF hb_; have HF := HF2_; clear HF2_)
  | ((with_reducible refine gate_dst (N := 8) rfl ?_); refine ez_box (t := 129) (cs := #[.string (⟨#[]⟩ : ByteArray), .int .i64 0, .int .i64 0]) HF rfl rfl (run_op rfl) ?_; clear HF; intro b8 w190 HF)
  | ((with_reducible refine gate_store (t := 129) (p := 8) rfl ?_); refine ez_put (p := 8) HF rfl rfl rfl rfl rfl rfl rfl ?_; clear HF; intro w191 HF; obtain ⟨q192a, q192b, q192c⟩ := rd3 HF.out.b0; obtain ⟨q193a, q193b, q193c⟩ := rd3 HF.out.b1; have q194 := (blk_cell HF.out.b2 0).trans rfl))
 replace HF := Lib.hid HF.out.up4
 refine (ws_lit [111, 110, 101] HF (HL.out)).mono ?_
 rintro e w195 ⟨rfl, oko196, HFn⟩
 clear HF; clear q192a q192b q192c q193a q193b q193c q194
 have HF := HFn
 clear HFn
 go_wp2_with fail
 go_end0
 replace HF := Lib.hid HF.out.swap
 replace HF := Lib.hid HF.out.lose
 replace HF := Lib.hid HF.out.swap
 replace HF := Lib.hid HF.out.lose
 replace HF := Lib.hid HF.out.swap
 replace HF := Lib.hid HF.out.lose
 exact ⟨rfl, _, HF⟩
set_option maxRecDepth 100000 in
set_option maxHeartbeats 8000000 in
theorem form_top (s : ByteArray) (l : List Tree) (lv : Int) (last : Bool) (w : World) (ts : List Th) (g : Nat) (A : Option Addr) (c : Nat) (hg : GOK w) :
  Writes 98 #[.pointer (some ⟨g, 0, none⟩), .agg (tN ⟨21, s, l⟩ A c), .int .i64 lv, .bool last] w ts g [116, 111, 112] := by
 intro W ok bs HF hlen
 have HL := Lib.hid hlen
 have HG := Lib.hid hg
 have HFO : Hid (findP 21 = none) := Lib.hid (by decide)
 clear hlen hg
 go_enter Tryz.func98, Tryz.ntmps98
 go_wp2_with (first
  | ((with_reducible refine gate_dst (N := 4) rfl ?_); refine ez_box (t := 100) (cs := #[.pointer (some ⟨g, 0, none⟩)]) HF rfl rfl (run_pr rfl rfl) ?_; clear HF; intro b4 w197 HF)
  | ((with_reducible refine gate_dst (N := 5) rfl ?_); refine ez_box (t := 25) (cs := (tN ⟨21, s, l⟩ A c)) HF rfl rfl (run_tree rfl rfl) ?_; clear HF; intro b5 w198 HF; obtain ⟨q199a, q199b, q199c⟩ := rd3 HF.out.b0)
  | (go_at_call 132; refine (find_on 21 _ (HG.out.below HF.out.below)).mono ?_; rintro e w200 ⟨h_, hb_⟩; rw [HFO.out] at h_; obtain rfl := h_; clear q199a q199b q199c; have HF2_ := Lib.hid (HF.out.step hb_); clear HF hb_; have HF := HF2_; clear HF2_)
  | ((with_reducible refine gate_dst (N := 8) rfl ?_); refine ez_box (t := 129) (cs := #[.string (⟨#[]⟩ : ByteArray), .int .i64 0, .int .i64 0]) HF rfl rfl (run_op rfl) ?_; clear HF; intro b8 w201 HF)
  | ((with_reducible refine gate_store (t := 129) (p := 8) rfl ?_); refine ez_put (p := 8) HF rfl rfl rfl rfl rfl rfl rfl ?_; clear HF; intro w202 HF; obtain ⟨q203a, q203b, q203c⟩ := rd3 HF.out.b0; obtain ⟨q204a, q204b, q204c⟩ := rd3 HF.out.b1; have q205 := (blk_cell HF.out.b2 0).trans rfl))
 replace HF := Lib.hid HF.out.up4
 refine (ws_lit [116, 111, 112] HF (HL.out)).mono ?_
 rintro e w206 ⟨rfl, oko207, HFn⟩
 clear HF; clear q203a q203b q203c q204a q204b q204c q205
 have HF := HFn
 clear HFn
 go_wp2_with fail
 go_end0
 replace HF := Lib.hid HF.out.swap
 replace HF := Lib.hid HF.out.lose
 replace HF := Lib.hid HF.out.swap
 replace HF := Lib.hid HF.out.lose
 replace HF := Lib.hid HF.out.swap
 replace HF := Lib.hid HF.out.lose
 exact ⟨rfl, _, HF⟩
set_option maxRecDepth 100000 in
set_option maxHeartbeats 8000000 in
theorem form_atom (s : ByteArray) (l : List Tree) (lv : Int) (last : Bool) (w : World) (ts : List Th) (g : Nat) (A : Option Addr) (c : Nat) (t : List UInt8) (hg : GOK w) (h : ∀ ts, Writes 96 #[.pointer (some ⟨g, 0, none⟩), .agg (tN ⟨15, s, l⟩ A c)] w ts g t) :
  Writes 98 #[.pointer (some ⟨g, 0, none⟩), .agg (tN ⟨15, s, l⟩ A c), .int .i64 lv, .bool last] w ts g t := by
 intro W ok bs HF hlen
 have HL := Lib.hid hlen
 have HG := Lib.hid hg
 have HH := Lib.hid h
 have HFO : Hid (findP 15 = none) := Lib.hid (by decide)
 clear hlen hg h
 go_enter Tryz.func98, Tryz.ntmps98
 go_wp2_with (first
  | ((with_reducible refine gate_dst (N := 4) rfl ?_); refine ez_box (t := 100) (cs := #[.pointer (some ⟨g, 0, none⟩)]) HF rfl rfl (run_pr rfl rfl) ?_; clear HF; intro b4 w208 HF)
  | ((with_reducible refine gate_dst (N := 5) rfl ?_); refine ez_box (t := 25) (cs := (tN ⟨15, s, l⟩ A c)) HF rfl rfl (run_tree rfl rfl) ?_; clear HF; intro b5 w209 HF; obtain ⟨q210a, q210b, q210c⟩ := rd3 HF.out.b0)
  | (go_at_call 132; refine (find_on 15 _ (HG.out.below HF.out.below)).mono ?_; rintro e w211 ⟨h_, hb_⟩; rw [HFO.out] at h_; obtain rfl := h_; clear q210a q210b q210c; have HF2_ := Lib.hid (HF.out.step hb_); clear HF hb_; have HF := HF2_; clear HF2_)
  | ((with_reducible refine gate_dst (N := 8) rfl ?_); refine ez_box (t := 129) (cs := #[.string (⟨#[]⟩ : ByteArray), .int .i64 0, .int .i64 0]) HF rfl rfl (run_op rfl) ?_; clear HF; intro b8 w212 HF)
  | ((with_reducible refine gate_store (t := 129) (p := 8) rfl ?_); refine ez_put (p := 8) HF rfl rfl rfl rfl rfl rfl rfl ?_; clear HF; intro w213 HF; obtain ⟨q214a, q214b, q214c⟩ := rd3 HF.out.b0; obtain ⟨q215a, q215b, q215c⟩ := rd3 HF.out.b1; have q216 := (blk_cell HF.out.b2 0).trans rfl))
 replace HF := Lib.hid HF.out.up4
 refine (HH.out _ _ _ _ HF (HL.out)).mono ?_
 rintro e w217 ⟨rfl, oko218, HFn⟩
 clear HF; clear q214a q214b q214c q215a q215b q215c q216
 have HF := HFn
 clear HFn
 go_wp2_with fail
 go_end0
 replace HF := Lib.hid HF.out.swap
 replace HF := Lib.hid HF.out.lose
 replace HF := Lib.hid HF.out.swap
 replace HF := Lib.hid HF.out.lose
 replace HF := Lib.hid HF.out.swap
 replace HF := Lib.hid HF.out.lose
 exact ⟨rfl, _, HF⟩
set_option maxRecDepth 100000 in
set_option maxHeartbeats 8000000 in
theorem form_bang (s : ByteArray) (a : Tree) (lv : Int) (last : Bool) (w : World) (ts : List Th) (g : Nat) (A : Option Addr) (c : Nat) (t : List UInt8) (hg : GOK w) (hc : [a].length ≤ c) (hC : Kd.C k25 w A [a].length [a])
  (hA : ∀ (w : World) (ts : List Th) (g : Nat) (A : Option Addr) (c : Nat), GOK w → a.f2.length ≤ c → Kd.C k25 w A a.f2.length a.f2 → Writes 98 #[.pointer (some ⟨g, 0, none⟩), .agg (tN a A c), .int .i64 5, .bool last] w ts g t) :
  Writes 98 #[.pointer (some ⟨g, 0, none⟩), .agg (tN ⟨29, s, [a]⟩ A c), .int .i64 lv, .bool last] w ts g ([33] ++ t) := by
 intro W ok bs HF hlen
 obtain ⟨a0A, AA, cA, e0A, p0, p1, p2, hl2, hc2⟩ := kid_at hC 0 (by simp) a rfl
 try simp only [Nat.zero_mul, Nat.one_mul, addr_add0, addr_add3] at p0 p1 p2
 have KA := Lib.hid (And.intro p0 (And.intro p1 p2))
 have HLA := Lib.hid hl2
 have HCA := Lib.hid hc2
 clear p0 p1 p2 hl2 hc2
 subst e0A
 have HL := Lib.hid hlen
 have HG := Lib.hid hg
 have HA := Lib.hid (fun w ts g A c hg h1 h2 => hA w ts g A c hg h1 h2)
 have HFO : Hid (findP 29 = none) := Lib.hid (by decide)
 clear hlen hg hA hc hC
 go_enter Tryz.func98, Tryz.ntmps98
 go_wp2_with (first
  | ((with_reducible refine gate_dst (N := 4) rfl ?_); refine ez_box (t := 100) (cs := #[.pointer (some ⟨g, 0, none⟩)]) HF rfl rfl (run_pr rfl rfl) ?_; clear HF; intro b4 w219 HF)
  | ((with_reducible refine gate_dst (N := 5) rfl ?_); refine ez_box (t := 25) (cs := (tN ⟨29, s, [a]⟩ (some a0A) c)) HF rfl rfl (run_tree rfl rfl) ?_; clear HF; intro b5 w220 HF; obtain ⟨q221a, q221b, q221c⟩ := rd3 HF.out.b0)
  | (go_at_call 132; refine (find_on 29 _ (HG.out.below HF.out.below)).mono ?_; rintro e w222 ⟨h_, hb_⟩; rw [HFO.out] at h_; obtain rfl := h_; clear q221a q221b q221c; have HF2_ := Lib.hid (HF.out.step hb_); clear HF hb_; have HF := HF2_; clear HF2_)
  | ((with_reducible refine gate_dst (N := 8) rfl ?_); refine ez_box (t := 129) (cs := #[.string (⟨#[]⟩ : ByteArray), .int .i64 0, .int .i64 0]) HF rfl rfl (run_op rfl) ?_; clear HF; intro b8 w223 HF)
  | ((with_reducible refine gate_store (t := 129) (p := 8) rfl ?_); refine ez_put (p := 8) HF rfl rfl rfl rfl rfl rfl rfl ?_; clear HF; intro w224 HF; obtain ⟨q225a, q225b, q225c⟩ := rd3 HF.out.b0; obtain ⟨q226a, q226b, q226c⟩ := rd3 HF.out.b1; have q227 := (blk_cell HF.out.b2 0).trans rfl))
 replace HF := Lib.hid HF.out.up4
 refine (ws_lit [33] HF (by have := HL.out; simp at this ⊢; omega)).mono ?_
 rintro e w228 ⟨rfl, oko229, HFn⟩
 clear HF; clear q225a q225b q225c q226a q226b q226c q227
 have HF := HFn
 clear HFn
 go_wp2_with fail
 go_wp2_with fail
 replace HF := Lib.hid HF.out.drew
 refine wp_only ?_
 refine start_ (n := 7) (S := (fun w' => True ∧ w'.cell? (⟨b4, 0, none⟩) = some (.pointer (some ⟨g, 0, none⟩)) ∧ w'.cell? (⟨b5, 2, none⟩) = some (.slice (some a0A) 1 c) ∧ w'.cell? (a0A) = some (.int .i64 a.f0) ∧ w'.cell? (⟨a0A.block, a0A.off + 1, none⟩) = some (.string a.f1) ∧ w'.cell? (⟨a0A.block, a0A.off + 2, none⟩) = some (.slice AA a.f2.length cA))) (ds := [6]) #[false, false, false, false, false, false, false] (by kernel_rfl) rfl rfl ?_ (fun hHeld => ?_)
 ·exact ⟨trivial, (blk_cell HF.out.b3 0).trans rfl, (blk_cell HF.out.b2 2).trans rfl, pw_cell_below HF.out.below KA.out.1, pw_cell_below HF.out.below KA.out.2.1, pw_cell_below HF.out.below KA.out.2.2⟩
 refine pq 1 #[false, true, false, false, false, false, false] (h := ?_)
 refine pq 5 #[false, true, false, false, false, true, false] (h := ?_)
 refine tq hHeld 0 #[true, true, false, false, false, true, false] (h := ?_)
 refine tq hHeld 2 #[true, true, true, false, false, true, false] (h := ?_)
 refine pq 3 #[true, true, true, true, false, true, false] (h := ?_)
 refine tq hHeld 4 (fl 7 6) (h := ?_)
 refine last_ (i := 6) (N := some 94) #[true, true, true, true, true, true, true] rfl rfl (by kernel_rfl) (by decide) (fun K hK => ?_)
 go_simp
 refine (HA.out w _ g AA cA HG.out HLA.out HCA.out _ _ _ HF (by have := HL.out; simp at this ⊢; omega)).mono ?_
 rintro e w230 ⟨rfl, oko231, HFn⟩
 clear HF
 have HF := HFn
 clear HFn
 refine hK.out _ _ ?_
 clear hK K
 (try simp only [Act.put, List.setIfInBounds_toArray, List.set_cons_zero, List.set_cons_succ])
 refine done_ (by kernel_rfl) ⟨rfl, ?_⟩
 skip
 try simp only [Act.put, List.setIfInBounds_toArray, List.set_cons_zero, List.set_cons_succ]
 go_wp2_with fail
 go_end0
 replace HF := Lib.hid HF.out.swap
 replace HF := Lib.hid HF.out.lose
 replace HF := Lib.hid HF.out.swap
 replace HF := Lib.hid HF.out.lose
 replace HF := Lib.hid HF.out.swap
 replace HF := Lib.hid HF.out.lose
 exact ⟨rfl, _, by simpa only [List.append_assoc, List.cons_append, List.nil_append] using HF⟩
set_option maxRecDepth 100000 in
set_option maxHeartbeats 8000000 in
theorem form_monad (s : ByteArray) (a : Tree) (lv : Int) (last : Bool) (w : World) (ts : List Th) (g : Nat) (A : Option Addr) (c : Nat) (t : List UInt8) (hg : GOK w) (hc : [a].length ≤ c) (hC : Kd.C k25 w A [a].length [a])
  (hA : ∀ (w : World) (ts : List Th) (g : Nat) (A : Option Addr) (c : Nat), GOK w → a.f2.length ≤ c → Kd.C k25 w A a.f2.length a.f2 → Writes 98 #[.pointer (some ⟨g, 0, none⟩), .agg (tN a A c), .int .i64 0, .bool true] w ts g t) :
  Writes 98 #[.pointer (some ⟨g, 0, none⟩), .agg (tN ⟨30, s, [a]⟩ A c), .int .i64 lv, .bool last] w ts g ([123] ++ (t ++ [125])) := by
 intro W ok bs HF hlen
 obtain ⟨a0A, AA, cA, e0A, p0, p1, p2, hl2, hc2⟩ := kid_at hC 0 (by simp) a rfl
 try simp only [Nat.zero_mul, Nat.one_mul, addr_add0, addr_add3] at p0 p1 p2
 have KA := Lib.hid (And.intro p0 (And.intro p1 p2))
 have HLA := Lib.hid hl2
 have HCA := Lib.hid hc2
 clear p0 p1 p2 hl2 hc2
 subst e0A
 have HL := Lib.hid hlen
 have HG := Lib.hid hg
 have HA := Lib.hid (fun w ts g A c hg h1 h2 => hA w ts g A c hg h1 h2)
 have HFO : Hid (findP 30 = none) := Lib.hid (by decide)
 clear hlen hg hA hc hC
 go_enter Tryz.func98, Tryz.ntmps98
 go_wp2_with (first
  | ((with_reducible refine gate_dst (N := 4) rfl ?_); refine ez_box (t := 100) (cs := #[.pointer (some ⟨g, 0, none⟩)]) HF rfl rfl (run_pr rfl rfl) ?_; clear HF; intro b4 w232 HF)
  | ((with_reducible refine gate_dst (N := 5) rfl ?_); refine ez_box (t := 25) (cs := (tN ⟨30, s, [a]⟩ (some a0A) c)) HF rfl rfl (run_tree rfl rfl) ?_; clear HF; intro b5 w233 HF; obtain ⟨q234a, q234b, q234c⟩ := rd3 HF.out.b0)
  | (go_at_call 132; refine (find_on 30 _ (HG.out.below HF.out.below)).mono ?_; rintro e w235 ⟨h_, hb_⟩; rw [HFO.out] at h_; obtain rfl := h_; clear q234a q234b q234c; have HF2_ := Lib.hid (HF.out.step hb_); clear HF hb_; have HF := HF2_; clear HF2_)
  | ((with_reducible refine gate_dst (N := 8) rfl ?_); refine ez_box (t := 129) (cs := #[.string (⟨#[]⟩ : ByteArray), .int .i64 0, .int .i64 0]) HF rfl rfl (run_op rfl) ?_; clear HF; intro b8 w236 HF)
  | ((with_reducible refine gate_store (t := 129) (p := 8) rfl ?_); refine ez_put (p := 8) HF rfl rfl rfl rfl rfl rfl rfl ?_; clear HF; intro w237 HF; obtain ⟨q238a, q238b, q238c⟩ := rd3 HF.out.b0; obtain ⟨q239a, q239b, q239c⟩ := rd3 HF.out.b1; have q240 := (blk_cell HF.out.b2 0).trans rfl))
 replace HF := Lib.hid HF.out.up4
 refine (ws_lit [123] HF (by have := HL.out; simp at this ⊢; omega)).mono ?_
 rintro e w241 ⟨rfl, oko242, HFn⟩
 clear HF; clear q238a q238b q238c q239a q239b q239c q240
 have HF := HFn
 clear HFn
 go_wp2_with fail
 go_wp2_with fail
 replace HF := Lib.hid HF.out.drew
 refine wp_only ?_
 refine start_ (n := 6) (S := (fun w' => True ∧ w'.cell? (⟨b4, 0, none⟩) = some (.pointer (some ⟨g, 0, none⟩)) ∧ w'.cell? (⟨b5, 2, none⟩) = some (.slice (some a0A) 1 c) ∧ w'.cell? (a0A) = some (.int .i64 a.f0) ∧ w'.cell? (⟨a0A.block, a0A.off + 1, none⟩) = some (.string a.f1) ∧ w'.cell? (⟨a0A.block, a0A.off + 2, none⟩) = some (.slice AA a.f2.length cA))) (ds := [5]) #[false, false, false, false, false, false] (by kernel_rfl) rfl rfl ?_ (fun hHeld => ?_)
 ·exact ⟨trivial, (blk_cell HF.out.b3 0).trans rfl, (blk_cell HF.out.b2 2).trans rfl, pw_cell_below HF.out.below KA.out.1, pw_cell_below HF.out.below KA.out.2.1, pw_cell_below HF.out.below KA.out.2.2⟩
 refine pq 1 #[false, true, false, false, false, false] (h := ?_)
 refine tq hHeld 0 (fl 6 2) (h := ?_)
 refine tq hHeld 2 (fl 6 3) (h := ?_)
 refine pq 3 (fl 6 4) (h := ?_)
 refine tq hHeld 4 (fl 6 5) (h := ?_)
 refine last_ (i := 5) (N := some 106) #[true, true, true, true, true, true] rfl rfl (by kernel_rfl) (by decide) (fun K hK => ?_)
 go_simp
 refine (HA.out w _ g AA cA HG.out HLA.out HCA.out _ _ _ HF (by have := HL.out; simp at this ⊢; omega)).mono ?_
 rintro e w243 ⟨rfl, oko244, HFn⟩
 clear HF
 have HF := HFn
 clear HFn
 refine hK.out _ _ ?_
 clear hK K
 (try simp only [Act.put, List.setIfInBounds_toArray, List.set_cons_zero, List.set_cons_succ])
 refine done_ (by kernel_rfl) ⟨rfl, ?_⟩
 skip
 try simp only [Act.put, List.setIfInBounds_toArray, List.set_cons_zero, List.set_cons_succ]
 have q245 := (blk_cell HF.out.b3 0).trans rfl
 go_wp2_with fail
 refine (ws_lit [125] HF (by have := HL.out; simp at this ⊢; omega)).mono ?_
 rintro e w246 ⟨rfl, oko247, HFn⟩
 clear HF; clear q245
 have HF := HFn
 clear HFn
 go_wp2_with fail
 go_end0
 replace HF := Lib.hid HF.out.swap
 replace HF := Lib.hid HF.out.lose
 replace HF := Lib.hid HF.out.swap
 replace HF := Lib.hid HF.out.lose
 replace HF := Lib.hid HF.out.swap
 replace HF := Lib.hid HF.out.lose
 exact ⟨rfl, _, by simpa only [List.append_assoc, List.cons_append, List.nil_append] using HF⟩
set_option maxRecDepth 100000 in
set_option maxHeartbeats 8000000 in
theorem form_quant18 (s : ByteArray) (l : List Tree) (lv : Int) (last : Bool) (w : World) (ts : List Th) (g : Nat) (A : Option Addr) (c : Nat) (t : List UInt8) (hg : GOK w)
  (h : ∀ (b4 b5 b8 : Nat) (v : Array Value), Writes 134 #[.pointer (some ⟨b4, 0, none⟩), .pointer (some ⟨b5, 0, none⟩)] w (vT b8 129 v :: vT b5 25 (tN ⟨18, s, l⟩ A c) :: vT b4 100 #[.pointer (some ⟨g, 0, none⟩)] :: ts) g t) :
  Writes 98 #[.pointer (some ⟨g, 0, none⟩), .agg (tN ⟨18, s, l⟩ A c), .int .i64 lv, .bool last] w ts g (if (!last) = true then [40] ++ (t ++ [41]) else t) := by
 intro W ok bs HF hlen
 have HL := Lib.hid hlen
 have HG := Lib.hid hg
 have HH := Lib.hid h
 have HFO : Hid (findP 18 = none) := Lib.hid (by decide)
 clear hlen hg h
 cases last
 ·go_enter Tryz.func98, Tryz.ntmps98
  go_wp2_with (first
   | ((with_reducible refine gate_dst (N := 4) rfl ?_); refine ez_box (t := 100) (cs := #[.pointer (some ⟨g, 0, none⟩)]) HF rfl rfl (run_pr rfl rfl) ?_; clear HF; intro b4 w248 HF)
   | ((with_reducible refine gate_dst (N := 5) rfl ?_); refine ez_box (t := 25) (cs := (tN ⟨18, s, l⟩ A c)) HF rfl rfl (run_tree rfl rfl) ?_; clear HF; intro b5 w249 HF; obtain ⟨q250a, q250b, q250c⟩ := rd3 HF.out.b0)
   | (go_at_call 132; refine (find_on 18 _ (HG.out.below HF.out.below)).mono ?_; rintro e w251 ⟨h_, hb_⟩; rw [HFO.out] at h_; obtain rfl := h_; clear q250a q250b q250c; have HF2_ := Lib.hid (HF.out.step hb_); clear HF hb_; have HF := HF2_; clear HF2_)
   | ((with_reducible refine gate_dst (N := 8) rfl ?_); refine ez_box (t := 129) (cs := #[.string (⟨#[]⟩ : ByteArray), .int .i64 0, .int .i64 0]) HF rfl rfl (run_op rfl) ?_; clear HF; intro b8 w252 HF)
   | ((with_reducible refine gate_store (t := 129) (p := 8) rfl ?_); refine ez_put (p := 8) HF rfl rfl rfl rfl rfl rfl rfl ?_; clear HF; intro w253 HF; obtain ⟨q254a, q254b, q254c⟩ := rd3 HF.out.b0; obtain ⟨q255a, q255b, q255c⟩ := rd3 HF.out.b1; have q256 := (blk_cell HF.out.b2 0).trans rfl))
  replace HF := Lib.hid HF.out.up3
  replace HF := Lib.hid HF.out.up3
  replace HF := Lib.hid HF.out.up3
  replace HF := Lib.hid HF.out.up4
  refine (within_writes _ (enters_of Tryz.func134 (by kernel_rfl) rfl) _ w _ g t true (HH.out b4 b5 b8 _) _ _ _ HF (by have := HL.out; simpa using this)).mono ?_
  rintro e w257 ⟨rfl, oko258, HFn⟩
  clear HF; clear q254a q254b q254c q255a q255b q255c q256
  have HF := HFn
  clear HFn
  go_wp2_with fail
  go_end0
  replace HF := Lib.hid HF.out.swap
  replace HF := Lib.hid HF.out.lose
  replace HF := Lib.hid HF.out.swap
  replace HF := Lib.hid HF.out.lose
  replace HF := Lib.hid HF.out.swap
  replace HF := Lib.hid HF.out.lose
  exact ⟨rfl, _, by simpa using HF⟩
 ·go_enter Tryz.func98, Tryz.ntmps98
  go_wp2_with (first
   | ((with_reducible refine gate_dst (N := 4) rfl ?_); refine ez_box (t := 100) (cs := #[.pointer (some ⟨g, 0, none⟩)]) HF rfl rfl (run_pr rfl rfl) ?_; clear HF; intro b4 w259 HF)
   | ((with_reducible refine gate_dst (N := 5) rfl ?_); refine ez_box (t := 25) (cs := (tN ⟨18, s, l⟩ A c)) HF rfl rfl (run_tree rfl rfl) ?_; clear HF; intro b5 w260 HF; obtain ⟨q261a, q261b, q261c⟩ := rd3 HF.out.b0)
   | (go_at_call 132; refine (find_on 18 _ (HG.out.below HF.out.below)).mono ?_; rintro e w262 ⟨h_, hb_⟩; rw [HFO.out] at h_; obtain rfl := h_; clear q261a q261b q261c; have HF2_ := Lib.hid (HF.out.step hb_); clear HF hb_; have HF := HF2_; clear HF2_)
   | ((with_reducible refine gate_dst (N := 8) rfl ?_); refine ez_box (t := 129) (cs := #[.string (⟨#[]⟩ : ByteArray), .int .i64 0, .int .i64 0]) HF rfl rfl (run_op rfl) ?_; clear HF; intro b8 w263 HF)
   | ((with_reducible refine gate_store (t := 129) (p := 8) rfl ?_); refine ez_put (p := 8) HF rfl rfl rfl rfl rfl rfl rfl ?_; clear HF; intro w264 HF; obtain ⟨q265a, q265b, q265c⟩ := rd3 HF.out.b0; obtain ⟨q266a, q266b, q266c⟩ := rd3 HF.out.b1; have q267 := (blk_cell HF.out.b2 0).trans rfl))
  replace HF := Lib.hid HF.out.up3
  replace HF := Lib.hid HF.out.up3
  replace HF := Lib.hid HF.out.up3
  replace HF := Lib.hid HF.out.up4
  refine (within_writes _ (enters_of Tryz.func134 (by kernel_rfl) rfl) _ w _ g t false (HH.out b4 b5 b8 _) _ _ _ HF (by have := HL.out; simpa using this)).mono ?_
  rintro e w268 ⟨rfl, oko269, HFn⟩
  clear HF; clear q265a q265b q265c q266a q266b q266c q267
  have HF := HFn
  clear HFn
  go_wp2_with fail
  go_end0
  replace HF := Lib.hid HF.out.swap
  replace HF := Lib.hid HF.out.lose
  replace HF := Lib.hid HF.out.swap
  replace HF := Lib.hid HF.out.lose
  replace HF := Lib.hid HF.out.swap
  replace HF := Lib.hid HF.out.lose
  exact ⟨rfl, _, by simpa using HF⟩
set_option maxRecDepth 100000 in
set_option maxHeartbeats 8000000 in
theorem form_quant19 (s : ByteArray) (l : List Tree) (lv : Int) (last : Bool) (w : World) (ts : List Th) (g : Nat) (A : Option Addr) (c : Nat) (t : List UInt8) (hg : GOK w)
  (h : ∀ (b4 b5 b8 : Nat) (v : Array Value), Writes 134 #[.pointer (some ⟨b4, 0, none⟩), .pointer (some ⟨b5, 0, none⟩)] w (vT b8 129 v :: vT b5 25 (tN ⟨19, s, l⟩ A c) :: vT b4 100 #[.pointer (some ⟨g, 0, none⟩)] :: ts) g t) :
  Writes 98 #[.pointer (some ⟨g, 0, none⟩), .agg (tN ⟨19, s, l⟩ A c), .int .i64 lv, .bool last] w ts g (if (!last) = true then [40] ++ (t ++ [41]) else t) := by
 intro W ok bs HF hlen
 have HL := Lib.hid hlen
 have HG := Lib.hid hg
 have HH := Lib.hid h
 have HFO : Hid (findP 19 = none) := Lib.hid (by decide)
 clear hlen hg h
 cases last
 ·go_enter Tryz.func98, Tryz.ntmps98
  go_wp2_with (first
   | ((with_reducible refine gate_dst (N := 4) rfl ?_); refine ez_box (t := 100) (cs := #[.pointer (some ⟨g, 0, none⟩)]) HF rfl rfl (run_pr rfl rfl) ?_; clear HF; intro b4 w270 HF)
   | ((with_reducible refine gate_dst (N := 5) rfl ?_); refine ez_box (t := 25) (cs := (tN ⟨19, s, l⟩ A c)) HF rfl rfl (run_tree rfl rfl) ?_; clear HF; intro b5 w271 HF; obtain ⟨q272a, q272b, q272c⟩ := rd3 HF.out.b0)
   | (go_at_call 132; refine (find_on 19 _ (HG.out.below HF.out.below)).mono ?_; rintro e w273 ⟨h_, hb_⟩; rw [HFO.out] at h_; obtain rfl := h_; clear q272a q272b q272c; have HF2_ := Lib.hid (HF.out.step hb_); clear HF hb_; have HF := HF2_; clear HF2_)
   | ((with_reducible refine gate_dst (N := 8) rfl ?_); refine ez_box (t := 129) (cs := #[.string (⟨#[]⟩ : ByteArray), .int .i64 0, .int .i64 0]) HF rfl rfl (run_op rfl) ?_; clear HF; intro b8 w274 HF)
   | ((with_reducible refine gate_store (t := 129) (p := 8) rfl ?_); refine ez_put (p := 8) HF rfl rfl rfl rfl rfl rfl rfl ?_; clear HF; intro w275 HF; obtain ⟨q276a, q276b, q276c⟩ := rd3 HF.out.b0; obtain ⟨q277a, q277b, q277c⟩ := rd3 HF.out.b1; have q278 := (blk_cell HF.out.b2 0).trans rfl))
  replace HF := Lib.hid HF.out.up3
  replace HF := Lib.hid HF.out.up3
  replace HF := Lib.hid HF.out.up3
  replace HF := Lib.hid HF.out.up4
  refine (within_writes _ (enters_of Tryz.func134 (by kernel_rfl) rfl) _ w _ g t true (HH.out b4 b5 b8 _) _ _ _ HF (by have := HL.out; simpa using this)).mono ?_
  rintro e w279 ⟨rfl, oko280, HFn⟩
  clear HF; clear q276a q276b q276c q277a q277b q277c q278
  have HF := HFn
  clear HFn
  go_wp2_with fail
  go_end0
  replace HF := Lib.hid HF.out.swap
  replace HF := Lib.hid HF.out.lose
  replace HF := Lib.hid HF.out.swap
  replace HF := Lib.hid HF.out.lose
  replace HF := Lib.hid HF.out.swap
  replace HF := Lib.hid HF.out.lose
  exact ⟨rfl, _, by simpa using HF⟩
 ·go_enter Tryz.func98, Tryz.ntmps98
  go_wp2_with (first
   | ((with_reducible refine gate_dst (N := 4) rfl ?_); refine ez_box (t := 100) (cs := #[.pointer (some ⟨g, 0, none⟩)]) HF rfl rfl (run_pr rfl rfl) ?_; clear HF; intro b4 w281 HF)
   | ((with_reducible refine gate_dst (N := 5) rfl ?_); refine ez_box (t := 25) (cs := (tN ⟨19, s, l⟩ A c)) HF rfl rfl (run_tree rfl rfl) ?_; clear HF; intro b5 w282 HF; obtain ⟨q283a, q283b, q283c⟩ := rd3 HF.out.b0)
   | (go_at_call 132; refine (find_on 19 _ (HG.out.below HF.out.below)).mono ?_; rintro e w284 ⟨h_, hb_⟩; rw [HFO.out] at h_; obtain rfl := h_; clear q283a q283b q283c; have HF2_ := Lib.hid (HF.out.step hb_); clear HF hb_; have HF := HF2_; clear HF2_)
   | ((with_reducible refine gate_dst (N := 8) rfl ?_); refine ez_box (t := 129) (cs := #[.string (⟨#[]⟩ : ByteArray), .int .i64 0, .int .i64 0]) HF rfl rfl (run_op rfl) ?_; clear HF; intro b8 w285 HF)
   | ((with_reducible refine gate_store (t := 129) (p := 8) rfl ?_); refine ez_put (p := 8) HF rfl rfl rfl rfl rfl rfl rfl ?_; clear HF; intro w286 HF; obtain ⟨q287a, q287b, q287c⟩ := rd3 HF.out.b0; obtain ⟨q288a, q288b, q288c⟩ := rd3 HF.out.b1; have q289 := (blk_cell HF.out.b2 0).trans rfl))
  replace HF := Lib.hid HF.out.up3
  replace HF := Lib.hid HF.out.up3
  replace HF := Lib.hid HF.out.up3
  replace HF := Lib.hid HF.out.up4
  refine (within_writes _ (enters_of Tryz.func134 (by kernel_rfl) rfl) _ w _ g t false (HH.out b4 b5 b8 _) _ _ _ HF (by have := HL.out; simpa using this)).mono ?_
  rintro e w290 ⟨rfl, oko291, HFn⟩
  clear HF; clear q287a q287b q287c q288a q288b q288c q289
  have HF := HFn
  clear HFn
  go_wp2_with fail
  go_end0
  replace HF := Lib.hid HF.out.swap
  replace HF := Lib.hid HF.out.lose
  replace HF := Lib.hid HF.out.swap
  replace HF := Lib.hid HF.out.lose
  replace HF := Lib.hid HF.out.swap
  replace HF := Lib.hid HF.out.lose
  exact ⟨rfl, _, by simpa using HF⟩
end Go.Proofs.YtbndfgoklgdfdaaGreatDoor.P
end
