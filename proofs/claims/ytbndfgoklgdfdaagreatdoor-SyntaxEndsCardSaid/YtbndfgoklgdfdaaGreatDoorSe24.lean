/- syntax.parse: a text read by whatever reader (printed by mkz.py). syntax.Parse, ParseForm, ParseTerm, ParseType (printed by mkz.py). syntax.Same: equal trees. The frame of a call that has no state of its own. The chapter's examples, by the plain functions. the chapter's examples (printed by mksane2.py). Regions that draw their order, ahead of what is deferred, by their table: the steps. -/
import Derived.Test.YtbndfgoklgdfdaaGreatDoorSe20
import Derived.Test.YtbndfgoklgdfdaaGreatDoorSe23
import Derived.Test.YtbndfgoklgdfdaaGreatDoorSe09
import Derived.Test.YtbndfgoklgdfdaaGreatDoorSe19
import Derived.Test.YtbndfgoklgdfdaaGreatDoorSe04
set_option linter.all false
section
set_option linter.unusedSimpArgs false
namespace Go.Proofs.YtbndfgoklgdfdaaGreatDoor.P
open Go.RowKit Go.Proofs.YtbndfgoklgdfdaaGreatDoorW.PrintWords Go.Proofs.YtbndfgoklgdfdaaGreatDoorW.PrintLast Go.Proofs.YtbndfgoklgdfdaaGreatDoorW.PrintMore
attribute [local go_sem] Oper.semAt_some
def zT : Tree := ⟨0, ⟨#[]⟩, []⟩
/-- syntax.parse with a reader: the tree, the place, the error. -/
def parseT (f : List Tok → PR Tree) (s : ByteArray) : Tree × Int × Int :=
 let r := scanL s.data.toList
 if r.2.2 = 0 then
  match f r.1 with
  | .out => (zT, 0, 0)
  | .bad ts => (zT, badAt s ts, 20)
  | .ok n ts => if ts.isEmpty then (if checkT n = 0 then (n, 0, 0) else (zT, 0, checkT n)) else (zT, badAt s ts, 20)
 else (zT, r.2.1, r.2.2)
section
variable {o : Oper} {a : Act} {W : World}
theorem run_bs {s : ByteArray} {v : Operand} (ho : o.op = .box 9 v) (hv : a.eval v = .string s) : (execOp a.eval o).run Tryz.prog W = .ok (.value (.pointer (some ⟨W.heap.size, 0, none⟩))) (W.alloc (.cells #[.string s] 9 (0, 0))) := by
 unfold execOp
 rw [ho]
 simp only [hv]
 first | (go_simp; done) | (go_simp; rfl)
theorem run_z3 (ho : o.op = .alloc 3) : (execOp a.eval o).run Tryz.prog W = .ok (.value (.pointer (some ⟨W.heap.size, 0, none⟩))) (W.alloc (.cells #[.int .i64 0] 3 (0, 0))) := by
 unfold execOp
 rw [ho]
 first | (go_simp; done) | (go_simp; rfl)
theorem run_z26 (ho : o.op = .alloc 26) : (execOp a.eval o).run Tryz.prog W = .ok (.value (.pointer (some ⟨W.heap.size, 0, none⟩))) (W.alloc (.cells #[.int .i64 0] 26 (0, 0))) := by
 unfold execOp
 rw [ho]
 first | (go_simp; done) | (go_simp; rfl)
theorem run_z41 (ho : o.op = .alloc 39) : (execOp a.eval o).run Tryz.prog W = .ok (.value (.pointer (some ⟨W.heap.size, 0, none⟩))) (W.alloc (.cells #[nilS] 39 (0, 0))) := by
 unfold execOp
 rw [ho]
 first | (go_simp; done) | (go_simp; rfl)
theorem pst_start {base : Nat} {ok : Nat → Prop} {A : Option Addr} {c : Nat} {l : List Tok} (h : (rT k65 65 base ok (.slice A l.length c) l).holds W) (hg : GOK W) (hl : l.length ≤ 6000) :
  PSt W (W.alloc (.cells #[.slice A l.length c, .int .i64 0] 75)) W.heap.size l l := by
 obtain ⟨_, _, hC⟩ := Kd.R_reads' (show Kd.R k65 65 W base ok (.slice A l.length c) l from h)
 refine ⟨⟨A, c, ?_, Nat.le_refl _, hC⟩, by simp, Nat.le_refl _, hl, below_alloc (Below.refl _ _) _, hg⟩
 rw [show (l.length : Int) - l.length = 0 by omega]
 exact blk_new W _
theorem tree_low {w W W' : World} {o : Obj} {g : Nat} {v : Value} {xs : List Tree} (h : Kd.R k25 25 W' (W.alloc o).heap.size (fun _ => True) v xs) (hb : w.heap.size ≤ W.heap.size) (hg : g = W.heap.size) :
  (rT k25 25 w.heap.size (fun k => g < k ∧ k < W'.heap.size) v xs).holds W' := by
 subst hg
 refine Kd.R_lower (Kd.R_mono (Kd.R_bound h) fun k hk => ?_) ?_
 ·have := hk.2.1
  simp at this
  exact ⟨by omega, hk.2.2.1⟩
 ·simp; omega
theorem refuse_raw (g : Nat) (z : Int) (w : World) (c1 : w.cell? ⟨g, 1, none⟩ = some (.int .i64 z)) :
  Calls Tryz.prog 56 #[.pointer (some ⟨g, 0, none⟩)] w fun e w' => e = .panicked [{ v := .iface 73 (.agg #[.int .i64 z]), recovered := false }] ∧ w' = w := by
 go_enter Tryz.func56, Tryz.ntmps56
 go_wp2_with fail
 exact ⟨rfl, rfl, rfl⟩
end
set_option maxRecDepth 100000 in
set_option maxHeartbeats 8000000 in
theorem parse_on (F : FuncId) (hF : Enters Tryz.prog F) (f : List Tok → PR Tree) (hf : PAll F (fun g => #[.pointer (some ⟨g, 0, none⟩)]) f) (s : ByteArray) (hs : s.size ≤ strMax) (w : World) (hg : GOK w) (hfine : Fine f (scanL s.data.toList).1) (hlen : (scanL s.data.toList).1.length ≤ 6000) :
  Calls Tryz.prog 30 #[.string s, .func (.func F) #[] #[]] w fun e w' => ∃ A c, e = .returned (.tuple #[.agg (tN (parseT f s).1 A c), .int .i64 (parseT f s).2.1, .int .i64 (parseT f s).2.2]) ∧
   Kd.R k25 25 w' w.heap.size (fun _ => True) (.slice A (parseT f s).1.f2.length c) (parseT f s).1.f2 ∧ Below w.heap.size w w' := by
 refine (callsIn_wide (n := 0)).1 ?_
 have hmf : ∀ (fn : Fn) (first cap : Array Value) (w : World), (Instr.makeFunc fn first cap).run Tryz.prog w = .ok (.func fn first cap) w := fun _ _ _ _ => rfl
 have hcf_ : ∀ (args : Array Value) (w : World), (callFunc F args).run Tryz.prog w = .ok (.enter F args) w := hF
 obtain ⟨l, at_, er, hsc⟩ : ∃ l at_ er, scanL s.data.toList = (l, at_, er) := ⟨_, _, _, rfl⟩
 obtain ⟨X, hX⟩ : ∃ X, X = parseT f s := ⟨_, rfl⟩
 have hX2 := hX
 unfold parseT at hX2
 rw [hsc] at hX2 hfine hlen
 dsimp only at hX2 hfine hlen
 rw [← hX]
 have HX := Lib.hid hX2
 have HFI := Lib.hid hfine
 have HPA := Lib.hid hf
 have HG := Lib.hid hg
 have HLEN := Lib.hid hlen
 have hscf : lex_Scan.f s = some (l, at_, er) := by unfold lex_Scan.f; rw [if_pos hs, hsc]
 have HSC := Lib.hid hscf
 have HF := Lib.hid (Fz.refl w)
 have HS := Lib.hid hs
 clear hX hX2 hfine hf hg hlen hscf hsc hF hs
 by_cases her : er = 0
 ·subst her
  refine callsIn_of_wp_marks Tryz.func30 rfl trivial ?_ rfl
  simp only [Tryz.ntmps30, List.size_toArray, List.length_cons, List.length_nil, Nat.reduceAdd, Nat.reduceSub, Array.replicate_succ, Array.replicate_zero, List.push_toArray, List.append_toArray, List.nil_append, List.cons_append]
  refine wpIn_wide.2 ?_
  go_wp2_with (first
   | ((with_reducible refine gate_dst (N := 2) rfl ?_); refine ez_box (t := 9) (cs := #[.string s]) HF rfl rfl (run_bs rfl rfl) ?_; clear HF; intro p0 w1 HF)
   | ((with_reducible refine gate_dst (N := 4) rfl ?_); refine ez_box (t := 25) (cs := zN) HF rfl rfl (run_node rfl) ?_; clear HF; intro pn w2 HF)
   | ((with_reducible refine gate_dst (N := 5) rfl ?_); refine ez_box (t := 3) (cs := #[.int .i64 0]) HF rfl rfl (run_z3 rfl) ?_; clear HF; intro pa w3 HF)
   | ((with_reducible refine gate_dst (N := 6) rfl ?_); refine ez_box (t := 26) (cs := #[.int .i64 0]) HF rfl rfl (run_z26 rfl) ?_; clear HF; intro pe w4 HF; have q5 := (blk_cell HF.out.b3 0).trans rfl)
   | (go_at_call 54; refine (lex_Scan.calls s l at_ 0 _ HSC.out).mono ?_; rintro e w6 ⟨v_, rfl, hR_, hb_⟩; clear q5; obtain ⟨A, c, rfl, hlc, hC_⟩ := Kd.R_reads hR_; have HLC := Lib.hid hlc; have HF2_ := Lib.hid (HF.out.row hb_ (Nat.le_refl _) hR_); clear HF hR_ hb_ hC_ hlc; have HF := HF2_; clear HF2_)
   | ((with_reducible refine gate_dst (N := 7) rfl ?_); refine ez_box (t := 39) (cs := #[nilS]) HF rfl rfl (run_z41 rfl) ?_; clear HF; intro pl w7 HF)
   | ((with_reducible refine gate_store (t := 39) (p := 7) rfl ?_); refine ez_cell (p := 7) (u := (.slice A l.length c)) (cs' := #[(.slice A l.length c)]) HF rfl rfl rfl rfl rfl rfl (.inl ⟨_, _, _, rfl⟩) rfl rfl ?_; clear HF; intro w8 HF; have HF2_ := Lib.hid HF.out.up4; clear HF; have HF := HF2_; clear HF2_)
   | ((with_reducible refine gate_store (t := 3) (p := 5) rfl ?_); refine ez_cell (p := 5) (u := (.int .i64 at_)) (cs' := #[(.int .i64 at_)]) HF rfl rfl rfl rfl rfl rfl (.inr ⟨_, rfl⟩) rfl rfl ?_; clear HF; intro w9 HF; have HF2_ := Lib.hid HF.out.up4; clear HF; have HF := HF2_; clear HF2_)
   | ((with_reducible refine gate_store (t := 26) (p := 6) rfl ?_); refine ez_cell (p := 6) (u := (.int .i64 0)) (cs' := #[(.int .i64 0)]) HF rfl rfl rfl rfl rfl rfl (.inr ⟨_, rfl⟩) rfl rfl ?_; clear HF; intro w10 HF; have q11 := (blk_cell HF.out.b0 0).trans rfl; have q12 := (blk_cell HF.out.b2 0).trans rfl))
  go_simp
  skip
  have HP := pst_start (HF.out.b3) (HG.out.below HF.out.below) HLEN.out
  cases hfl : f l with
  | out => exact absurd hfl HFI.out.1
  | bad ts =>
   have h2 := HPA.out _ _ _ l l HP (by rw [hfl]; exact fun e => by cases e)
   rw [hfl] at h2
   refine h2.mono ?_
   rintro e w_ ⟨rfl, hst, hk⟩
   replace HF := Lib.hid (HF.out.step hst.below)
   replace HF := Lib.hid HF.out.up4
   replace HF := Lib.hid HF.out.up4
   replace HF := Lib.hid HF.out.up6
   replace HF := Lib.hid HF.out.up4
   replace HF := Lib.hid HF.out.up5
   replace HF := Lib.hid HF.out.up6
   refine ⟨by simp, .inr ?_⟩
   refine ⟨fun h => (by cases h), _, _, 55, _, rfl, by simp [go_sem], fun _ _ => trivial, (refused_stop _ p0 pn pa pe pl s l ts A c _ _ _ _ _ _ w _ HS.out HLC.out (HF.out.first6) hst.suf hst.le).mono ?_⟩
   rintro e_ u_ w_ ⟨rfl, rfl, hb_, hn_, ha_, he_⟩
   obtain ⟨q0_, q1_, q2_⟩ := rd3 hn_
   have q3_ := (blk_cell ha_ 0).trans rfl
   have q4_ := (blk_cell he_ 0).trans rfl
   have hXX : X = (zT, badAt s ts, 20) := by rw [HX.out, hfl]; first | rfl | simp
   subst hXX
   refine ⟨.tuple #[.agg zN, .int .i64 (badAt s ts), .int .i64 20], by simp [results, Tryz.results30, go_sem, q0_, q1_, q2_, q3_, q4_], none, 0, rfl, Kd.R_nil _ _ _ _ _, hb_⟩
  | ok x ts =>
   have h2 := HPA.out _ _ _ l l HP (by rw [hfl]; exact fun e => by cases e)
   rw [hfl] at h2
   refine h2.mono ?_
   rintro e w_ ⟨⟨A2, c2, rfl, hR⟩, hst, hk⟩
   have HST := Lib.hid (And.intro hst.suf hst.le)
   obtain ⟨A0, c0, hgc, hge, _⟩ := hst.st
   replace HF := Lib.hid (HF.out.two hst.below (vT (w10.heap.size) 75 #[.slice A0 l.length c0, .int .i64 ((l.length : Int) - ts.length)]) (rT k25 25 w.heap.size (fun k => w10.heap.size < k ∧ k < w_.heap.size) (.slice A2 x.f2.length c2) x.f2) hgc (tree_low hR HF.out.below.size rfl) (by intro k hk; subst hk; exact ⟨hge, blk_lt hgc⟩) (by intro k hk; have hk2 : w10.heap.size < k ∧ k < w_.heap.size := hk; omega) (by intro k h1 h2; have h3 : k = w10.heap.size := h1; have h4 : w10.heap.size < k ∧ k < w_.heap.size := h2; omega))
   clear hR hst hgc hge hk h2 HP
   replace HF := Lib.hid HF.out.up7
   go_wp2_with (first
    | ((with_reducible refine gate_store (t := 25) (p := 4) rfl ?_); refine ez_put (p := 4) HF rfl rfl rfl rfl rfl rfl rfl ?_; clear HF; clear q11 q12; intro w13 HF))
   go_wp2_with fail
   cases ts with
   | nil =>
    have hz := HFI.out.2 x [] hfl
    have HZ := Lib.hid hz
    clear hz
    have g1_ := blk_cell HF.out.drew.b1 1
    simp only [List.length_nil, List.length_cons, Int.natCast_add, Int.natCast_zero, Int.sub_zero, Int.natCast_one, List.getElem?_toArray, List.getElem?_cons_succ, List.getElem?_cons_zero] at g1_
    go_wp2_with fail
    replace HF := Lib.hid HF.out.drew
    refine wp_only ?_
    refine start_ (n := 7) (S := (fun w' => w'.cell? ⟨w10.heap.size, 1, none⟩ = some (.int .i64 ((l.length : Int))) ∧ w'.cell? ⟨pl, 0, none⟩ = some (.slice A l.length c))) (ds := []) #[false, false, false, false, false, false, false] (by kernel_rfl) rfl rfl ?_ (fun hHeld => ?_)
    ·exact ⟨g1_, (blk_cell HF.out.b5 0).trans rfl⟩
    refine pq 0 (fl 7 1) (h := ?_)
    refine pq 1 (fl 7 2) (h := ?_)
    refine pq 2 (fl 7 3) (h := ?_)
    refine tq hHeld 3 (fl 7 4) (h := ?_)
    refine tq hHeld 4 (fl 7 5) (h := ?_)
    refine pq 5 (fl 7 6) (h := ?_)
    refine pq 6 (fl 7 7) (h := ?_)
    refine done_ (by kernel_rfl) ⟨rfl, ?_⟩
    clear hHeld
    try simp only [Act.put, List.setIfInBounds_toArray, List.set_cons_zero, List.set_cons_succ]
    clear g1_
    obtain ⟨q14a, q14b, q14c⟩ := rd3 HF.out.b0
    by_cases hck : checkT x = 0
    ·have hck2 : (checkT x != 0) = false := by simp [hck]
     have HCK := Lib.hid hck
     clear hck
     go_wp2_with (first
      | (go_at_call 10; refine (check_on x HZ.out A2 c2 _ (Kd.R_reads' (show Kd.R k25 25 _ _ _ (.slice A2 x.f2.length c2) x.f2 from HF.out.b2)).2.1 (Kd.R_reads' (show Kd.R k25 25 _ _ _ (.slice A2 x.f2.length c2) x.f2 from HF.out.b2)).2.2).mono ?_; rintro e w15 ⟨rfl, hb_⟩; clear q14a q14b q14c; have HF2_ := Lib.hid (HF.out.step hb_); clear HF hb_; have HF := HF2_; clear HF2_; obtain ⟨q16a, q16b, q16c⟩ := rd3 HF.out.b0)
      | ((with_reducible refine gate_store (t := 25) (p := 4) rfl ?_); refine ez_put (p := 4) HF rfl rfl rfl rfl rfl rfl rfl ?_; clear HF; clear q16a q16b q16c; intro w17 HF; have HF2_ := Lib.hid HF.out.up5; clear HF; have HF := HF2_; clear HF2_)
      | ((with_reducible refine gate_store (t := 3) (p := 5) rfl ?_); refine ez_cell (p := 5) (u := (.int .i64 0)) (cs' := #[(.int .i64 0)]) HF rfl rfl rfl rfl rfl rfl (.inr ⟨_, rfl⟩) rfl rfl ?_; clear HF; intro w18 HF; have HF2_ := Lib.hid HF.out.up5; clear HF; have HF := HF2_; clear HF2_)
      | ((with_reducible refine gate_store (t := 26) (p := 6) rfl ?_); refine ez_cell (p := 6) (u := (.int .i64 0)) (cs' := #[(.int .i64 0)]) HF rfl rfl rfl rfl rfl rfl (.inr ⟨_, rfl⟩) rfl rfl ?_; clear HF; intro w19 HF))
     have hXX : X = (x, 0, 0) := by rw [HX.out, hfl]; simp [HCK.out]
     subst hXX
     obtain ⟨q20a, q20b, q20c⟩ := rd3 HF.out.b2
     have q21 := (blk_cell HF.out.b1 0).trans rfl
     have q22 := (blk_cell HF.out.b0 0).trans rfl
     refine ⟨by simp, .inr ?_⟩
     refine ⟨fun h => (by cases h), _, _, 55, _, rfl, by simp [go_sem], fun _ _ => trivial, (refused_idle _ p0 pn pa pe pl _).mono ?_⟩
     rintro e_ u_ w_ ⟨rfl, rfl, rfl⟩
     refine ⟨.tuple #[.agg (tN x A2 c2), .int .i64 (0), .int .i64 (0)], by simp [results, Tryz.results30, go_sem, q20a, q20b, q20c, q21, q22], A2, c2, rfl, Kd.R_mono (show Kd.R k25 25 _ _ _ (.slice A2 x.f2.length c2) x.f2 from HF.out.b4) (fun _ _ => trivial), HF.out.below⟩
    ·have hck2 : (checkT x != 0) = true := by simp [hck]
     have HCK := Lib.hid hck
     clear hck
     go_wp2_with (first
      | (go_at_call 10; refine (check_on x HZ.out A2 c2 _ (Kd.R_reads' (show Kd.R k25 25 _ _ _ (.slice A2 x.f2.length c2) x.f2 from HF.out.b2)).2.1 (Kd.R_reads' (show Kd.R k25 25 _ _ _ (.slice A2 x.f2.length c2) x.f2 from HF.out.b2)).2.2).mono ?_; rintro e w23 ⟨rfl, hb_⟩; clear q14a q14b q14c; have HF2_ := Lib.hid (HF.out.step hb_); clear HF hb_; have HF := HF2_; clear HF2_; obtain ⟨q24a, q24b, q24c⟩ := rd3 HF.out.b0)
      | ((with_reducible refine gate_store (t := 25) (p := 4) rfl ?_); refine ez_put (p := 4) HF rfl rfl rfl rfl rfl rfl rfl ?_; clear HF; clear q24a q24b q24c; intro w25 HF; have HF2_ := Lib.hid HF.out.up5; clear HF; have HF := HF2_; clear HF2_)
      | ((with_reducible refine gate_store (t := 3) (p := 5) rfl ?_); refine ez_cell (p := 5) (u := (.int .i64 0)) (cs' := #[(.int .i64 0)]) HF rfl rfl rfl rfl rfl rfl (.inr ⟨_, rfl⟩) rfl rfl ?_; clear HF; intro w26 HF; have HF2_ := Lib.hid HF.out.up5; clear HF; have HF := HF2_; clear HF2_)
      | ((with_reducible refine gate_store (t := 26) (p := 6) rfl ?_); refine ez_cell (p := 6) (u := (.int .i64 (checkT x))) (cs' := #[(.int .i64 (checkT x))]) HF rfl rfl rfl rfl rfl rfl (.inr ⟨_, rfl⟩) rfl rfl ?_; clear HF; intro w27 HF))
     have hXX : X = (zT, 0, checkT x) := by rw [HX.out, hfl]; simp [HCK.out]
     subst hXX
     obtain ⟨q28a, q28b, q28c⟩ := rd3 HF.out.b2
     have q29 := (blk_cell HF.out.b1 0).trans rfl
     have q30 := (blk_cell HF.out.b0 0).trans rfl
     refine ⟨by simp, .inr ?_⟩
     refine ⟨fun h => (by cases h), _, _, 55, _, rfl, by simp [go_sem], fun _ _ => trivial, (refused_idle _ p0 pn pa pe pl _).mono ?_⟩
     rintro e_ u_ w_ ⟨rfl, rfl, rfl⟩
     refine ⟨.tuple #[.agg zN, .int .i64 (0), .int .i64 (checkT x)], by simp [results, Tryz.results30, go_sem, q28a, q28b, q28c, q29, q30], none, 0, rfl, Kd.R_nil _ _ _ _ _, HF.out.below⟩
   | cons t tl =>
    have hlt_ : decide ((l.length : Int) - ((tl.length : Int) + 1) < (l.length : Int)) = true := decide_eq_true (by omega)
    have g1_ := blk_cell HF.out.drew.b1 1
    simp only [List.length_nil, List.length_cons, Int.natCast_add, Int.natCast_zero, Int.sub_zero, Int.natCast_one, List.getElem?_toArray, List.getElem?_cons_succ, List.getElem?_cons_zero] at g1_
    go_wp2_with fail
    replace HF := Lib.hid HF.out.drew
    refine wp_only ?_
    refine start_ (n := 7) (S := (fun w' => w'.cell? ⟨w10.heap.size, 1, none⟩ = some (.int .i64 ((l.length : Int) - ((tl.length : Int) + 1))) ∧ w'.cell? ⟨pl, 0, none⟩ = some (.slice A l.length c))) (ds := []) #[false, false, false, false, false, false, false] (by kernel_rfl) rfl rfl ?_ (fun hHeld => ?_)
    ·exact ⟨g1_, (blk_cell HF.out.b5 0).trans rfl⟩
    refine pq 0 (fl 7 1) (h := ?_)
    refine pq 1 (fl 7 2) (h := ?_)
    refine pq 2 (fl 7 3) (h := ?_)
    refine tq hHeld 3 (fl 7 4) (h := ?_)
    refine tq hHeld 4 (fl 7 5) (h := ?_)
    refine pq 5 (fl 7 6) (h := ?_)
    refine pq 6 (fl 7 7) (h := ?_)
    refine done_ (by kernel_rfl) ⟨rfl, ?_⟩
    clear hHeld
    try simp only [Act.put, List.setIfInBounds_toArray, List.set_cons_zero, List.set_cons_succ]
    clear g1_
    go_wp2_with fail
    refine (refuse_raw _ ((l.length : Int) - ((t :: tl).length : Int)) _ ((blk_cell HF.out.b1 1).trans rfl)).mono ?_
    rintro e w_ ⟨rfl, rfl⟩
    replace HF := Lib.hid HF.out.up7
    replace HF := Lib.hid HF.out.up7
    replace HF := Lib.hid HF.out.up8
    replace HF := Lib.hid HF.out.up7
    replace HF := Lib.hid HF.out.up8
    replace HF := Lib.hid HF.out.up6
    refine ⟨by simp, .inr ?_⟩
    refine ⟨fun h => (by cases h), _, _, 55, _, rfl, by simp [go_sem], fun _ _ => trivial, (refused_stop _ p0 pn pa pe pl s l (t :: tl) A c _ _ _ _ _ _ w _ HS.out HLC.out (HF.out.first6) HST.out.1 HST.out.2).mono ?_⟩
    rintro e_ u_ w_ ⟨rfl, rfl, hb_, hn_, ha_, he_⟩
    obtain ⟨q0_, q1_, q2_⟩ := rd3 hn_
    have q3_ := (blk_cell ha_ 0).trans rfl
    have q4_ := (blk_cell he_ 0).trans rfl
    have hXX : X = (zT, badAt s (t :: tl), 20) := by rw [HX.out, hfl]; first | rfl | simp
    subst hXX
    refine ⟨.tuple #[.agg zN, .int .i64 (badAt s (t :: tl)), .int .i64 20], by simp [results, Tryz.results30, go_sem, q0_, q1_, q2_, q3_, q4_], none, 0, rfl, Kd.R_nil _ _ _ _ _, hb_⟩
 ·have hne0_ : (er != 0) = true := bne_iff_ne.2 her
  refine callsIn_of_wp_marks Tryz.func30 rfl trivial ?_ rfl
  simp only [Tryz.ntmps30, List.size_toArray, List.length_cons, List.length_nil, Nat.reduceAdd, Nat.reduceSub, Array.replicate_succ, Array.replicate_zero, List.push_toArray, List.append_toArray, List.nil_append, List.cons_append]
  refine wpIn_wide.2 ?_
  go_wp2_with (first
   | ((with_reducible refine gate_dst (N := 2) rfl ?_); refine ez_box (t := 9) (cs := #[.string s]) HF rfl rfl (run_bs rfl rfl) ?_; clear HF; intro p0 w31 HF)
   | ((with_reducible refine gate_dst (N := 4) rfl ?_); refine ez_box (t := 25) (cs := zN) HF rfl rfl (run_node rfl) ?_; clear HF; intro pn w32 HF)
   | ((with_reducible refine gate_dst (N := 5) rfl ?_); refine ez_box (t := 3) (cs := #[.int .i64 0]) HF rfl rfl (run_z3 rfl) ?_; clear HF; intro pa w33 HF)
   | ((with_reducible refine gate_dst (N := 6) rfl ?_); refine ez_box (t := 26) (cs := #[.int .i64 0]) HF rfl rfl (run_z26 rfl) ?_; clear HF; intro pe w34 HF; have q35 := (blk_cell HF.out.b3 0).trans rfl)
   | (go_at_call 54; refine (lex_Scan.calls s l at_ er _ HSC.out).mono ?_; rintro e w36 ⟨v_, rfl, hR_, hb_⟩; clear q35; obtain ⟨A, c, rfl, hlc, hC_⟩ := Kd.R_reads hR_; have HLC := Lib.hid hlc; have HF2_ := Lib.hid (HF.out.row hb_ (Nat.le_refl _) hR_); clear HF hR_ hb_ hC_ hlc; have HF := HF2_; clear HF2_)
   | ((with_reducible refine gate_dst (N := 7) rfl ?_); refine ez_box (t := 39) (cs := #[nilS]) HF rfl rfl (run_z41 rfl) ?_; clear HF; intro pl w37 HF)
   | ((with_reducible refine gate_store (t := 39) (p := 7) rfl ?_); refine ez_cell (p := 7) (u := (.slice A l.length c)) (cs' := #[(.slice A l.length c)]) HF rfl rfl rfl rfl rfl rfl (.inl ⟨_, _, _, rfl⟩) rfl rfl ?_; clear HF; intro w38 HF; have HF2_ := Lib.hid HF.out.up4; clear HF; have HF := HF2_; clear HF2_)
   | ((with_reducible refine gate_store (t := 3) (p := 5) rfl ?_); refine ez_cell (p := 5) (u := (.int .i64 at_)) (cs' := #[(.int .i64 at_)]) HF rfl rfl rfl rfl rfl rfl (.inr ⟨_, rfl⟩) rfl rfl ?_; clear HF; intro w39 HF; have HF2_ := Lib.hid HF.out.up4; clear HF; have HF := HF2_; clear HF2_)
   | ((with_reducible refine gate_store (t := 26) (p := 6) rfl ?_); refine ez_cell (p := 6) (u := (.int .i64 er)) (cs' := #[(.int .i64 er)]) HF rfl rfl rfl rfl rfl rfl (.inr ⟨_, rfl⟩) rfl rfl ?_; clear HF; intro w40 HF; have q41 := (blk_cell HF.out.b0 0).trans rfl))
  go_wp2_with fail
  replace HF := Lib.hid HF.out.drew
  refine wp_only ?_
  refine start_ (n := 6) (S := (fun w' => w'.cell? ⟨pa, 0, none⟩ = some (.int .i64 at_) ∧ w'.cell? ⟨pe, 0, none⟩ = some (.int .i64 er))) (ds := [5]) #[false, false, false, false, false, false] (by kernel_rfl) rfl rfl ?_ (fun hHeld => ?_)
  ·exact ⟨(blk_cell HF.out.b1 0).trans rfl, (blk_cell HF.out.b0 0).trans rfl⟩
  refine pq 0 (fl 6 1) (h := ?_)
  refine tq hHeld 1 (fl 6 2) (h := ?_)
  refine tq hHeld 2 (fl 6 3) (h := ?_)
  refine one_ (i := 3) (N := none) #[true, true, true, true, false, false] rfl rfl (by kernel_rfl) (by decide) (fun K hK => ?_)
  clear hHeld
  replace HF := Lib.hid HF.out.up5
  refine sz_put (p := 4) HF rfl rfl rfl rfl rfl rfl rfl ?_
  clear HF
  intro w42 HF
  refine hK.out _ _ (⟨(blk_cell HF.out.b2 0).trans rfl, (blk_cell HF.out.b1 0).trans rfl⟩) (fun hHeld => ?_)
  clear hK K
  (try simp only [Act.put, List.setIfInBounds_toArray, List.set_cons_zero, List.set_cons_succ])
  refine one_ (i := 4) (N := none) #[true, true, true, true, true, false] rfl rfl (by kernel_rfl) (by decide) (fun K hK => ?_)
  clear hHeld
  replace HF := Lib.hid HF.out.up3
  refine sz_cell (p := 5) (u := (.int .i64 at_)) (cs' := #[(.int .i64 at_)]) HF rfl rfl rfl rfl rfl rfl (.inr ⟨_, rfl⟩) rfl rfl ?_
  clear HF
  intro w43 HF
  refine hK.out _ _ (⟨(blk_cell HF.out.b0 0).trans rfl, (blk_cell HF.out.b2 0).trans rfl⟩) (fun hHeld => ?_)
  clear hK K
  (try simp only [Act.put, List.setIfInBounds_toArray, List.set_cons_zero, List.set_cons_succ])
  refine last_ (i := 5) (N := none) #[true, true, true, true, true, true] rfl rfl (by kernel_rfl) (by decide) (fun K hK => ?_)
  replace HF := Lib.hid HF.out.up3
  refine sz_cell (p := 6) (u := (.int .i64 er)) (cs' := #[(.int .i64 er)]) HF rfl rfl rfl rfl rfl rfl (.inr ⟨_, rfl⟩) rfl rfl ?_
  clear HF
  intro w44 HF
  refine hK.out _ _ ?_
  clear hK K
  (try simp only [Act.put, List.setIfInBounds_toArray, List.set_cons_zero, List.set_cons_succ])
  refine done_ (by kernel_rfl) ⟨rfl, ?_⟩
  skip
  try simp only [Act.put, List.setIfInBounds_toArray, List.set_cons_zero, List.set_cons_succ]
  go_wp2_with fail
  have hXX : X = (zT, at_, er) := by rw [HX.out]; simp [her]
  subst hXX
  obtain ⟨q45a, q45b, q45c⟩ := rd3 HF.out.b2
  have q46 := (blk_cell HF.out.b1 0).trans rfl
  have q47 := (blk_cell HF.out.b0 0).trans rfl
  refine ⟨.tuple #[.agg zN, .int .i64 at_, .int .i64 er], by simp [results, Tryz.results30, go_sem, q45a, q45b, q45c, q46, q47], none, 0, rfl, Kd.R_nil _ _ _ _ _, HF.out.below⟩
end Go.Proofs.YtbndfgoklgdfdaaGreatDoor.P
end
section
set_option linter.unusedSimpArgs false
namespace Go.Proofs.YtbndfgoklgdfdaaGreatDoor.P
open Go.RowKit Go.Proofs.YtbndfgoklgdfdaaGreatDoorW.PrintWords Go.Proofs.YtbndfgoklgdfdaaGreatDoorW.PrintLast Go.Proofs.YtbndfgoklgdfdaaGreatDoorW.PrintMore
attribute [local go_sem] Oper.semAt_some
theorem scanA_small (L : Nat) : ∀ (k : Nat) (l : List UInt8) (i : Nat) (acc : List Tok), l.length ≤ L → acc.length ≤ 6000 → (∀ t ∈ acc, t.f1.size ≤ L) → (scanA k l i acc).1.length ≤ 6000 ∧ ∀ t ∈ (scanA k l i acc).1, t.f1.size ≤ L
 | 0, _, _, acc, _, h, h2 => ⟨h, h2⟩
 | _ + 1, [], _, acc, _, h, h2 => ⟨h, h2⟩
 | k + 1, b :: r, i, acc, hl, h, h2 => by
  simp only [scanA]
  split
  ·simp
  ·rename_i kind n ht
   split
   ·simp
   ·split
    ·simp
    ·have hn := tok_le ht
     refine scanA_small L k _ _ _ ?_ ?_ ?_
     ·simp only [List.length_drop]; omega
     ·simp only [List.length_append, List.length_cons, List.length_nil]; omega
     ·intro t hm
      rcases List.mem_append.1 hm with hm | hm
      ·exact h2 t hm
      ·obtain rfl := List.mem_singleton.1 hm
       show ((b :: r).take n).toArray.size ≤ L
       simp only [List.size_toArray, List.length_take]
       omega
theorem scanL_small (s : ByteArray) (hs : s.size ≤ strMax) : (scanL s.data.toList).1.length ≤ 6000 ∧ Tk (scanL s.data.toList).1 := by
 unfold scanL
 split
 ·exact ⟨by simp, fun t h => by simp at h⟩
 ·have h := scanA_small strMax (s.data.toList.length + 1) (s.data.toList.drop (skipN false s.data.toList)) (skipN false s.data.toList) [] (by rw [List.length_drop, Array.length_toList]; have : s.data.size = s.size := rfl; omega) (by simp) (by simp)
  exact h
def parseTextT (s : ByteArray) : Tree × Int × Int := parseT (textP (roundsP (scanL s.data.toList).1)) s
set_option maxRecDepth 100000 in
set_option maxHeartbeats 4000000 in
theorem Parse_onK (k : Nat) (s : ByteArray) (hk : roundsP (scanL s.data.toList).1 ≤ k) (hs : s.size ≤ strMax) (w : World) (hg : GOK w) :
  Calls Tryz.prog 8 #[.string s] w fun e w' => ∃ A c, e = .returned (.tuple #[.agg (tN (parseT (textP k) s).1 A c), .int .i64 (parseT (textP k) s).2.1, .int .i64 (parseT (textP k) s).2.2]) ∧ Kd.R k25 25 w' w.heap.size (fun _ => True) (.slice A (parseT (textP k) s).1.f2.length c) (parseT (textP k) s).1.f2 ∧ Below w.heap.size w w' := by
 obtain ⟨hl6, hTk⟩ := scanL_small s hs
 have hp := fun (w : World) (hg : GOK w) => parse_on 31 (enters_of Tryz.func31 (by kernel_rfl) rfl) _ (text_par k) s hs w hg (text_fine _ hTk hl6 k hk) hl6
 have HG := Lib.hid hg
 have HF := Lib.hid (Fz.refl w)
 obtain ⟨X, hX⟩ : ∃ X, parseT (textP k) s = X := ⟨_, rfl⟩
 rw [hX]
 simp only [hX] at hp
 have HP := Lib.hid hp
 clear hX hg hl6 hTk hp
 go_enter Tryz.func8, Tryz.ntmps8
 go_wp2_with (first
  | ((with_reducible refine gate_dst (N := 2) rfl ?_); refine ez_box (t := 25) (cs := zN) HF rfl rfl (run_node rfl) ?_; clear HF; intro pn w48 HF)
  | (go_at_call 30; refine (HP.out _ (HG.out.below HF.out.below)).mono ?_; rintro e w49 ⟨A, c, rfl, hR_, hb_⟩; have HF2_ := Lib.hid (HF.out.row hb_ (Nat.le_refl _) hR_); clear HF hR_ hb_; have HF := HF2_; clear HF2_; have HF2_ := Lib.hid HF.out.swap; clear HF; have HF := HF2_; clear HF2_)
  | ((with_reducible refine gate_store (t := 25) (p := 2) rfl ?_); refine ez_put (p := 2) HF rfl rfl rfl rfl rfl rfl rfl ?_; clear HF; intro w50 HF))
 obtain ⟨q51a, q51b, q51c⟩ := rd3 HF.out.b0
 refine bodyPost_ret (v := .tuple #[.agg (tN X.1 A c), .int .i64 X.2.1, .int .i64 X.2.2]) (by simp [results, Tryz.results8, go_sem, q51a, q51b, q51c]) rfl ?_
 exact ⟨A, c, rfl, Kd.R_mono (show Kd.R k25 25 _ _ _ (.slice A X.1.f2.length c) X.1.f2 from HF.out.b1) (fun _ _ => trivial), HF.out.below⟩
theorem Parse_on (s : ByteArray) (hs : s.size ≤ strMax) (w : World) (hg : GOK w) :
  Calls Tryz.prog 8 #[.string s] w fun e w' => ∃ A c, e = .returned (.tuple #[.agg (tN (parseTextT s).1 A c), .int .i64 (parseTextT s).2.1, .int .i64 (parseTextT s).2.2]) ∧ Kd.R k25 25 w' w.heap.size (fun _ => True) (.slice A (parseTextT s).1.f2.length c) (parseTextT s).1.f2 ∧ Below w.heap.size w w' := Parse_onK _ s (Nat.le_refl _) hs w hg
def parseFormT (s : ByteArray) : Tree × Int × Int := parseT (levelP (roundsP (scanL s.data.toList).1) 0) s
set_option maxRecDepth 100000 in
set_option maxHeartbeats 4000000 in
theorem ParseForm_onK (k : Nat) (s : ByteArray) (hk : roundsP (scanL s.data.toList).1 ≤ k) (hs : s.size ≤ strMax) (w : World) (hg : GOK w) :
  Calls Tryz.prog 17 #[.string s] w fun e w' => ∃ A c, e = .returned (.tuple #[.agg (tN (parseT (levelP k 0) s).1 A c), .int .i64 (parseT (levelP k 0) s).2.1, .int .i64 (parseT (levelP k 0) s).2.2]) ∧ Kd.R k25 25 w' w.heap.size (fun _ => True) (.slice A (parseT (levelP k 0) s).1.f2.length c) (parseT (levelP k 0) s).1.f2 ∧ Below w.heap.size w w' := by
 obtain ⟨hl6, hTk⟩ := scanL_small s hs
 have hp := fun (w : World) (hg : GOK w) => parse_on 44 (enters_of Tryz.func44 (by kernel_rfl) rfl) _ (form_par k ((level_all k).1 _ (Nat.le_refl _))) s hs w hg (form_fine _ hTk hl6 k hk) hl6
 have HG := Lib.hid hg
 have HF := Lib.hid (Fz.refl w)
 obtain ⟨X, hX⟩ : ∃ X, parseT (levelP k 0) s = X := ⟨_, rfl⟩
 rw [hX]
 simp only [hX] at hp
 have HP := Lib.hid hp
 clear hX hg hl6 hTk hp
 go_enter Tryz.func17, Tryz.ntmps17
 go_wp2_with (first
  | ((with_reducible refine gate_dst (N := 2) rfl ?_); refine ez_box (t := 25) (cs := zN) HF rfl rfl (run_node rfl) ?_; clear HF; intro pn w52 HF)
  | (go_at_call 30; refine (HP.out _ (HG.out.below HF.out.below)).mono ?_; rintro e w53 ⟨A, c, rfl, hR_, hb_⟩; have HF2_ := Lib.hid (HF.out.row hb_ (Nat.le_refl _) hR_); clear HF hR_ hb_; have HF := HF2_; clear HF2_; have HF2_ := Lib.hid HF.out.swap; clear HF; have HF := HF2_; clear HF2_)
  | ((with_reducible refine gate_store (t := 25) (p := 2) rfl ?_); refine ez_put (p := 2) HF rfl rfl rfl rfl rfl rfl rfl ?_; clear HF; intro w54 HF))
 obtain ⟨q55a, q55b, q55c⟩ := rd3 HF.out.b0
 refine bodyPost_ret (v := .tuple #[.agg (tN X.1 A c), .int .i64 X.2.1, .int .i64 X.2.2]) (by simp [results, Tryz.results17, go_sem, q55a, q55b, q55c]) rfl ?_
 exact ⟨A, c, rfl, Kd.R_mono (show Kd.R k25 25 _ _ _ (.slice A X.1.f2.length c) X.1.f2 from HF.out.b1) (fun _ _ => trivial), HF.out.below⟩
theorem ParseForm_on (s : ByteArray) (hs : s.size ≤ strMax) (w : World) (hg : GOK w) :
  Calls Tryz.prog 17 #[.string s] w fun e w' => ∃ A c, e = .returned (.tuple #[.agg (tN (parseFormT s).1 A c), .int .i64 (parseFormT s).2.1, .int .i64 (parseFormT s).2.2]) ∧ Kd.R k25 25 w' w.heap.size (fun _ => True) (.slice A (parseFormT s).1.f2.length c) (parseFormT s).1.f2 ∧ Below w.heap.size w w' := ParseForm_onK _ s (Nat.le_refl _) hs w hg
set_option maxRecDepth 100000 in
set_option maxHeartbeats 4000000 in
theorem ParseTerm_onK (k : Nat) (s : ByteArray) (hk : roundsP (scanL s.data.toList).1 ≤ k) (hs : s.size ≤ strMax) (w : World) (hg : GOK w) :
  Calls Tryz.prog 19 #[.string s] w fun e w' => ∃ A c, e = .returned (.tuple #[.agg (tN (parseT (termP k) s).1 A c), .int .i64 (parseT (termP k) s).2.1, .int .i64 (parseT (termP k) s).2.2]) ∧ Kd.R k25 25 w' w.heap.size (fun _ => True) (.slice A (parseT (termP k) s).1.f2.length c) (parseT (termP k) s).1.f2 ∧ Below w.heap.size w w' := by
 obtain ⟨hl6, hTk⟩ := scanL_small s hs
 have hp := fun (w : World) (hg : GOK w) => parse_on 45 (enters_of Tryz.func45 (by kernel_rfl) rfl) _ (term_all k) s hs w hg (term_fine _ hTk hl6 k hk) hl6
 have HG := Lib.hid hg
 have HF := Lib.hid (Fz.refl w)
 obtain ⟨X, hX⟩ : ∃ X, parseT (termP k) s = X := ⟨_, rfl⟩
 rw [hX]
 simp only [hX] at hp
 have HP := Lib.hid hp
 clear hX hg hl6 hTk hp
 go_enter Tryz.func19, Tryz.ntmps19
 go_wp2_with (first
  | ((with_reducible refine gate_dst (N := 2) rfl ?_); refine ez_box (t := 25) (cs := zN) HF rfl rfl (run_node rfl) ?_; clear HF; intro pn w56 HF)
  | (go_at_call 30; refine (HP.out _ (HG.out.below HF.out.below)).mono ?_; rintro e w57 ⟨A, c, rfl, hR_, hb_⟩; have HF2_ := Lib.hid (HF.out.row hb_ (Nat.le_refl _) hR_); clear HF hR_ hb_; have HF := HF2_; clear HF2_; have HF2_ := Lib.hid HF.out.swap; clear HF; have HF := HF2_; clear HF2_)
  | ((with_reducible refine gate_store (t := 25) (p := 2) rfl ?_); refine ez_put (p := 2) HF rfl rfl rfl rfl rfl rfl rfl ?_; clear HF; intro w58 HF))
 obtain ⟨q59a, q59b, q59c⟩ := rd3 HF.out.b0
 refine bodyPost_ret (v := .tuple #[.agg (tN X.1 A c), .int .i64 X.2.1, .int .i64 X.2.2]) (by simp [results, Tryz.results19, go_sem, q59a, q59b, q59c]) rfl ?_
 exact ⟨A, c, rfl, Kd.R_mono (show Kd.R k25 25 _ _ _ (.slice A X.1.f2.length c) X.1.f2 from HF.out.b1) (fun _ _ => trivial), HF.out.below⟩
set_option maxRecDepth 100000 in
set_option maxHeartbeats 4000000 in
theorem ParseType_onK (k : Nat) (s : ByteArray) (hk : roundsP (scanL s.data.toList).1 ≤ k) (hs : s.size ≤ strMax) (w : World) (hg : GOK w) :
  Calls Tryz.prog 21 #[.string s] w fun e w' => ∃ A c, e = .returned (.tuple #[.agg (tN (parseT (typP k) s).1 A c), .int .i64 (parseT (typP k) s).2.1, .int .i64 (parseT (typP k) s).2.2]) ∧ Kd.R k25 25 w' w.heap.size (fun _ => True) (.slice A (parseT (typP k) s).1.f2.length c) (parseT (typP k) s).1.f2 ∧ Below w.heap.size w w' := by
 obtain ⟨hl6, hTk⟩ := scanL_small s hs
 have hp := fun (w : World) (hg : GOK w) => parse_on 46 (enters_of Tryz.func46 (by kernel_rfl) rfl) _ (typ_all k).2 s hs w hg (typ_fine _ hTk k hk) hl6
 have HG := Lib.hid hg
 have HF := Lib.hid (Fz.refl w)
 obtain ⟨X, hX⟩ : ∃ X, parseT (typP k) s = X := ⟨_, rfl⟩
 rw [hX]
 simp only [hX] at hp
 have HP := Lib.hid hp
 clear hX hg hl6 hTk hp
 go_enter Tryz.func21, Tryz.ntmps21
 go_wp2_with (first
  | ((with_reducible refine gate_dst (N := 2) rfl ?_); refine ez_box (t := 25) (cs := zN) HF rfl rfl (run_node rfl) ?_; clear HF; intro pn w60 HF)
  | (go_at_call 30; refine (HP.out _ (HG.out.below HF.out.below)).mono ?_; rintro e w61 ⟨A, c, rfl, hR_, hb_⟩; have HF2_ := Lib.hid (HF.out.row hb_ (Nat.le_refl _) hR_); clear HF hR_ hb_; have HF := HF2_; clear HF2_; have HF2_ := Lib.hid HF.out.swap; clear HF; have HF := HF2_; clear HF2_)
  | ((with_reducible refine gate_store (t := 25) (p := 2) rfl ?_); refine ez_put (p := 2) HF rfl rfl rfl rfl rfl rfl rfl ?_; clear HF; intro w62 HF))
 obtain ⟨q63a, q63b, q63c⟩ := rd3 HF.out.b0
 refine bodyPost_ret (v := .tuple #[.agg (tN X.1 A c), .int .i64 X.2.1, .int .i64 X.2.2]) (by simp [results, Tryz.results21, go_sem, q63a, q63b, q63c]) rfl ?_
 exact ⟨A, c, rfl, Kd.R_mono (show Kd.R k25 25 _ _ _ (.slice A X.1.f2.length c) X.1.f2 from HF.out.b1) (fun _ _ => trivial), HF.out.below⟩
end Go.Proofs.YtbndfgoklgdfdaaGreatDoor.P
end
section
set_option linter.unusedSimpArgs false
namespace Go.Proofs.YtbndfgoklgdfdaaGreatDoor.P
open Go.RowKit Go.Proofs.YtbndfgoklgdfdaaGreatDoorW.PrintWords Go.Proofs.YtbndfgoklgdfdaaGreatDoorW.PrintLast Go.Proofs.YtbndfgoklgdfdaaGreatDoorW.PrintMore

/-- Nothing that lay has turned (the state is the block 0). -/
abbrev S0 (w : World) : World → Prop := fun W => W.heap[0]? = w.heap[0]?
def w00 (w : World) : World := { w with heap := #[] }
theorem s0_stab (w w0 : World) : ∀ W1 W2, S0 w W1 → W2.heap[0]? = W1.heap[0]? → Below w0.heap.size w0 W2 → S0 w W2 := fun _ _ h1 h2 _ => h2.trans h1
theorem Fr.free {w : World} (h : 0 < w.heap.size) : Fr (w00 w) w w 0 (S0 w) [] [] :=
 ⟨rfl, s0_stab w _, KeepBut.refl _ _ _, ⟨rfl, rfl, rfl, Nat.zero_le _, fun b hb => absurd hb (Nat.not_lt_zero _)⟩, h, Nat.zero_le _, Nat.zero_le _, by simp, by simp, .nil, .nil⟩
theorem Fr.fin {w W : World} {bs : List Bx} {os : List Ow} (h : Fr (w00 w) w W 0 (S0 w) bs os) : Below w.heap.size w W :=
 ⟨h.low.os, h.low.tape, h.low.output, h.keep.1, fun b hb => by
  by_cases h0 : b = 0
  ·subst h0; exact h.st
  ·exact h.keep.2 b hb h0 (by simp)⟩
theorem Fr.after {w W W' : World} {bs : List Bx} {os : List Ow} (h : Fr (w00 w) w W 0 (S0 w) bs os) (hb : Below W.heap.size W W') : Fr (w00 w) w W' 0 (S0 w) bs os := h.below hb

mutual
def sameT : Tree → Tree → Bool
 | ⟨k, s, l⟩, ⟨k2, s2, l2⟩ => k == k2 && (s.toList == s2.toList && sameL l l2)
def sameL : List Tree → List Tree → Bool
 | [], [] => true
 | x :: l, y :: m => sameT x y && sameL l m
 | _, _ => false
end
theorem sameL_len : ∀ (l m : List Tree), l.length ≠ m.length → sameL l m = false
 | [], [], h => absurd rfl h
 | [], _ :: _, _ => rfl
 | _ :: _, [], _ => rfl
 | x :: l, y :: m, h => by rw [sameL, sameL_len l m (by simpa using h), Bool.and_false]
/-- Same's contract at one tree. -/
def SameOn (x : Tree) : Prop := ∀ (y : Tree) (A B : Option Addr) (c d : Nat) (w : World), x.f2.length ≤ c → Kd.C k25 w A x.f2.length x.f2 → y.f2.length ≤ d → Kd.C k25 w B y.f2.length y.f2 →
 Calls Tryz.prog 15 #[.agg #[.int .i64 x.f0, .string x.f1, .slice A x.f2.length c], .agg #[.int .i64 y.f0, .string y.f1, .slice B y.f2.length d]] w fun e w' => e = .returned (.bool (sameT x y)) ∧ Below w.heap.size w w'
theorem enters_Same : Enters Tryz.prog 15 := enters_of Tryz.func15 (by kernel_rfl) rfl

set_option maxRecDepth 100000 in
set_option maxHeartbeats 4000000 in
theorem equal_on (l m : List Tree) (ih : ∀ x ∈ l, SameOn x) (A B : Option Addr) (c d : Nat) (w : World) (hC : Kd.C k25 w A l.length l) (hD : Kd.C k25 w B m.length m) :
  Calls Tryz.prog 42 #[.slice A l.length c, .slice B m.length d, .func (.func 15) #[] #[]] w fun e w' => e = .returned (.bool (sameL l m)) ∧ Below w.heap.size w w' := by
 obtain ⟨R, hR⟩ : ∃ R, R = sameL l m := ⟨_, rfl⟩
 rw [← hR]
 have hcf_ : ∀ (args : Array Value) (w : World), (callFunc 15 args).run Tryz.prog w = .ok (.enter 15 args) w := enters_Same
 have hln : l.length ≤ 9223372036854775807 := hC.2.1
 have HR := Lib.hid hR
 have HC := Lib.hid hC
 have HD := Lib.hid hD
 have HIH := Lib.hid ih
 clear hR hC hD ih
 by_cases hlen : l.length = m.length
 ·have b0_ : ((l.length : Int) != (m.length : Int)) = false := by rw [hlen]; simp
  have HLEN := Lib.hid hlen
  clear hlen
  go_enter Tryz.func42, Tryz.ntmps42
  go_wp2_with fail
  go_loopw [17] (fun i wr => ∃ k : Nat, i = .int .i64 k ∧ k ≤ l.length ∧ Below w.heap.size w wr ∧ R = sameL (l.drop k) (m.drop k)) (fun i _ => l.length - (intOf i).toNat)
  case atStart => exact ⟨0, rfl, Nat.zero_le _, Below.refl _ _, HR.out⟩
  case round =>
   obtain ⟨k, rfl, hk, hbw, hd⟩ := hrel
   have HB := Lib.hid hbw
   have HE := Lib.hid hd
   clear hbw hd
   by_cases hlt : k < l.length
   ·have hltm : k < m.length := by rw [← HLEN.out]; exact hlt
    have hltm2 : ((k : Int) < (m.length : Int)) = True := eq_true (by omega)
    obtain ⟨a0, A2, c2, e0, p0, p1, p2, hl2, hc2⟩ := at_T25 (Kd.C_below HC.out HB.out) k (by omega) (by omega)
    obtain ⟨a1, A3, c3, e1, p3, p4, p5, hl3, hc3⟩ := at_T25 (Kd.C_below HD.out HB.out) k (by omega) (by omega)
    subst e0
    subst e1
    obtain ⟨x, hx⟩ : ∃ x, x = rd_T25 l k := ⟨_, rfl⟩
    obtain ⟨y, hy⟩ : ∃ y, y = rd_T25 m k := ⟨_, rfl⟩
    have hdr := rdN_drop l k hlt
    have hdm := rdN_drop m k hltm
    have hmem := rdN_mem l k hlt
    rw [← hx] at p0 p1 p2 hl2 hc2 hdr hmem
    rw [← hy] at p3 p4 p5 hl3 hc3 hdm
    rw [Int.toNat_natCast] at p0 p1 p2 p3 p4 p5
    have HX := Lib.hid (HIH.out x hmem)
    have HC2 := Lib.hid hc2
    have HC3 := Lib.hid hc3
    have HL2 := Lib.hid hl2
    have HL3 := Lib.hid hl3
    have HM := Lib.hid (And.intro p3 (And.intro p4 p5))
    have hD2 := HE.out
    rw [hdr, hdm, sameL] at hD2
    have HD2 := Lib.hid hD2
    have HF := Lib.hid (Fr.free (w := wr) (by have := World.block_lt_of_cell? wr _ p0; omega))
    clear hx hy hdr hdm hc2 hc3 hl2 hl3 p3 p4 p5 hD2 hmem hltm
    cases hp : sameT x y
    ·have hDf := HD2.out
     rw [hp, Bool.false_and] at hDf
     have HDF := Lib.hid hDf
     clear hDf
     go_wp2_with (first
      | ((with_reducible refine gate_dst (N := 8) rfl ?_); refine ev_box HF rfl rfl (run_node rfl) ?_; clear HF; intro b1 w1_ HF)
      | ((with_reducible refine gate_store (t := 25) (p := 8) rfl ?_); refine ev_put (p := 8) HF rfl rfl rfl rfl rfl rfl rfl ?_; clear HF p0 p1 p2; intro w2_ HF; obtain ⟨p3_, p4_, p5_⟩ : _ ∧ _ ∧ _ := ⟨pw_cell_below HF.out.fin HM.out.1, pw_cell_below HF.out.fin HM.out.2.1, pw_cell_below HF.out.fin HM.out.2.2⟩)
      | ((with_reducible refine gate_dst (N := 9) rfl ?_); refine ev_box HF rfl rfl (run_node rfl) ?_; clear HF p3_ p4_ p5_; intro b2 w3_ HF)
      | ((with_reducible refine gate_store (t := 25) (p := 9) rfl ?_); refine ev_put (p := 9) HF rfl rfl rfl rfl rfl rfl rfl ?_; clear HF; intro w4_ HF; obtain ⟨q0_, q1_, q2_⟩ := rd3 HF.out.b0; obtain ⟨q3_, q4_, q5_⟩ := rd3 HF.out.b1)
      | (refine (HX.out y A2 A3 c2 c3 _ HL2.out (Kd.C_below HC2.out HF.out.fin) HL3.out (Kd.C_below HC3.out HF.out.fin)).mono ?_; rintro e w5_ ⟨rfl, hb_⟩; clear q0_ q1_ q2_ q3_ q4_ q5_; have HF2_ := Lib.hid (HF.out.after hb_); clear HF hb_; have HF := HF2_; clear HF2_; rw [hp]))
     go_ret
     exact ⟨by rw [HDF.out]; rfl, below_step HB.out HF.out.fin⟩
    ·have hDf := HD2.out
     rw [hp, Bool.true_and] at hDf
     have HDF := Lib.hid hDf
     clear hDf
     go_wp2_with (first
      | ((with_reducible refine gate_dst (N := 8) rfl ?_); refine ev_box HF rfl rfl (run_node rfl) ?_; clear HF; intro b1 w1_ HF)
      | ((with_reducible refine gate_store (t := 25) (p := 8) rfl ?_); refine ev_put (p := 8) HF rfl rfl rfl rfl rfl rfl rfl ?_; clear HF p0 p1 p2; intro w2_ HF; obtain ⟨p3_, p4_, p5_⟩ : _ ∧ _ ∧ _ := ⟨pw_cell_below HF.out.fin HM.out.1, pw_cell_below HF.out.fin HM.out.2.1, pw_cell_below HF.out.fin HM.out.2.2⟩)
      | ((with_reducible refine gate_dst (N := 9) rfl ?_); refine ev_box HF rfl rfl (run_node rfl) ?_; clear HF p3_ p4_ p5_; intro b2 w3_ HF)
      | ((with_reducible refine gate_store (t := 25) (p := 9) rfl ?_); refine ev_put (p := 9) HF rfl rfl rfl rfl rfl rfl rfl ?_; clear HF; intro w4_ HF; obtain ⟨q0_, q1_, q2_⟩ := rd3 HF.out.b0; obtain ⟨q3_, q4_, q5_⟩ := rd3 HF.out.b1)
      | (refine (HX.out y A2 A3 c2 c3 _ HL2.out (Kd.C_below HC2.out HF.out.fin) HL3.out (Kd.C_below HC3.out HF.out.fin)).mono ?_; rintro e w5_ ⟨rfl, hb_⟩; clear q0_ q1_ q2_ q3_ q4_ q5_; have HF2_ := Lib.hid (HF.out.after hb_); clear HF hb_; have HF := HF2_; clear HF2_; rw [hp]))
     exact ⟨⟨k + 1, by go_num, by omega, below_step HB.out HF.out.fin, HDF.out⟩, by simp [intOf]; omega⟩
   ·have hk2 : k = l.length := by omega
    go_wp2_with fail
    go_ret
    have h := HE.out
    rw [List.drop_of_length_le (by omega), List.drop_of_length_le (by have := HLEN.out; omega)] at h
    exact ⟨by rw [h]; rfl, HB.out⟩
 ·have b0_ : ((l.length : Int) != (m.length : Int)) = true := bne_iff_ne.2 (by omega)
  have hF := sameL_len l m hlen
  rw [← HR.out] at hF
  have HLF := Lib.hid hF
  clear hF hlen
  go_enter Tryz.func42, Tryz.ntmps42
  go_wp2_with fail
  go_ret
  exact ⟨by rw [HLF.out]; rfl, Below.refl _ _⟩
set_option maxRecDepth 100000 in
set_option maxHeartbeats 4000000 in
theorem same_on : ∀ (n : Nat) (x : Tree), SizeOf.sizeOf x < n → SameOn x
 | 0, x, h => absurd h (Nat.not_lt_zero _)
 | n + 1, x, hn => by
  intro y A B c d w hc hC hd hD
  have HIH : Hid (∀ z ∈ x.f2, SameOn z) := Lib.hid fun z hz => same_on n z (by have := kid_lt hz; omega)
  have HE : Hid (sameT x y = (x.f0 == y.f0 && (x.f1.toList == y.f1.toList && sameL x.f2 y.f2))) := Lib.hid (by obtain ⟨_, _, _⟩ := x; obtain ⟨_, _, _⟩ := y; rw [sameT])
  have HC := Lib.hid hC
  have HD := Lib.hid hD
  clear hC hc hD hd hn
  have key : ∀ a b : Bool, a = false ∨ a = true ∧ b = false ∨ a = true ∧ b = true := by intro a b; cases a <;> cases b <;> simp
  rcases key (x.f0 == y.f0) (x.f1.toList == y.f1.toList) with h1 | ⟨h1, h2⟩ | ⟨h1, h2⟩
  all_goals
   clear key
   go_enter Tryz.func15, Tryz.ntmps15
   go_wp2_with (first
    | ((with_reducible refine gate_dst (N := 2) rfl ?_); refine ev_tree (x := x) (A := A) (c := c) rfl rfl rfl rfl ?_; intro b w1_ HX)
    | ((with_reducible refine gate_dst (N := 3) rfl ?_); refine ev_tree (x := y) (A := B) (c := d) rfl rfl rfl rfl ?_; intro b2 w2_ HY; obtain ⟨q3_, q4_, q5_⟩ := rd3 HY.out.at_; obtain ⟨q0_, q1_, q2_⟩ := rd3 (blk_below HX.out.at_ HY.out.below))
    | (go_at_call 42; refine (equal_on x.f2 y.f2 HIH.out A B c d _ (Kd.C_below HC.out (below_step HX.out.below HY.out.below)) (Kd.C_below HD.out (below_step HX.out.below HY.out.below))).mono ?_; rintro e w3_ ⟨rfl, hb_⟩))
   go_ret
   exact ⟨by rw [HE.out]; simp [*], by first | exact below_step (below_step HX.out.below HY.out.below) hb_ | exact below_step HX.out.below HY.out.below⟩
theorem Same_calls (x y : Tree) (A B : Option Addr) (c d : Nat) (w : World) (hc : x.f2.length ≤ c) (hC : Kd.C k25 w A x.f2.length x.f2) (hd : y.f2.length ≤ d) (hD : Kd.C k25 w B y.f2.length y.f2) :
  Calls Tryz.prog 15 #[.agg #[.int .i64 x.f0, .string x.f1, .slice A x.f2.length c], .agg #[.int .i64 y.f0, .string y.f1, .slice B y.f2.length d]] w fun e w' => e = .returned (.bool (sameT x y)) ∧ Below w.heap.size w w' :=
 same_on _ x (Nat.lt_succ_self _) y A B c d w hc hC hd hD
end Go.Proofs.YtbndfgoklgdfdaaGreatDoor.P
end
section
namespace Go.Proofs.YtbndfgoklgdfdaaGreatDoor.P
open Go.RowKit Go.Proofs.YtbndfgoklgdfdaaGreatDoorW.PrintWords Go.Proofs.YtbndfgoklgdfdaaGreatDoorW.PrintLast Go.Proofs.YtbndfgoklgdfdaaGreatDoorW.PrintMore
def sn1 : ByteArray := ⟨#[97, 32, 45, 111, 32, 98, 32, 42, 32, 99, 32, 38, 32, 100]⟩
def sn2 : ByteArray := ⟨#[97, 32, 111, 45, 32, 40, 98, 32, 60, 61, 32, 99, 41, 32, 111, 45, 32, 40, 40, 100, 41, 41]⟩
def sn3 : ByteArray := ⟨#[97, 32, 45, 111]⟩
def sn4 : ByteArray := ⟨#[97, 32, 41, 32, 98]⟩
def sn5 : ByteArray := ⟨#[112, 114, 101, 100, 32, 112, 32, 105, 32, 40, 105, 32, 45, 62, 32, 105, 41, 46, 32, 114, 117, 108, 101, 32, 114, 58, 32, 112, 32, 88, 32, 111, 45, 32, 113, 32, 88, 46]⟩
def sp2 : ByteArray := ⟨#[97, 32, 111, 45, 32, 40, 98, 32, 60, 61, 32, 99, 41, 32, 111, 45, 32, 100]⟩
def sp5 : ByteArray := ⟨#[112, 114, 101, 100, 32, 112, 32, 105, 32, 40, 105, 32, 45, 62, 32, 105, 41, 46, 10, 114, 117, 108, 101, 32, 114, 58, 32, 112, 32, 88, 32, 111, 45, 32, 113, 32, 88, 46, 10]⟩
def sp6 : ByteArray := ⟨#[33, 40, 97, 108, 108, 32, 120, 46, 32, 112, 32, 120, 41, 32, 42, 32, 113]⟩
def sx1 : Tree := ⟨25, ⟨#[]⟩, [⟨15, ⟨#[97]⟩, []⟩, ⟨23, ⟨#[]⟩, [⟨22, ⟨#[]⟩, [⟨15, ⟨#[98]⟩, []⟩, ⟨15, ⟨#[99]⟩, []⟩]⟩, ⟨15, ⟨#[100]⟩, []⟩]⟩]⟩
def sx2 : Tree := ⟨27, ⟨#[]⟩, [⟨27, ⟨#[]⟩, [⟨15, ⟨#[97]⟩, []⟩, ⟨28, ⟨#[]⟩, [⟨15, ⟨#[98]⟩, []⟩, ⟨15, ⟨#[99]⟩, []⟩]⟩]⟩, ⟨15, ⟨#[100]⟩, []⟩]⟩
def sx5a : Tree := ⟨4, ⟨#[112]⟩, [⟨15, ⟨#[105]⟩, []⟩, ⟨31, ⟨#[]⟩, [⟨15, ⟨#[105]⟩, []⟩, ⟨15, ⟨#[105]⟩, []⟩]⟩]⟩
def sxX : Tree := ⟨16, ⟨#[88]⟩, []⟩
def sx5p : Tree := ⟨15, ⟨#[112]⟩, [sxX]⟩
def sx5q : Tree := ⟨15, ⟨#[113]⟩, [sxX]⟩
def sx5n : Tree := ⟨27, ⟨#[]⟩, [sx5p, sx5q]⟩
def sx5b : Tree := ⟨8, ⟨#[114]⟩, [sx5n]⟩
def sx5 : Tree := ⟨1, ⟨#[]⟩, [sx5a, sx5b]⟩
def sx6x : Tree := ⟨15, ⟨#[120]⟩, []⟩
def sx6p : Tree := ⟨15, ⟨#[112]⟩, [sx6x]⟩
def sx6a : Tree := ⟨18, ⟨#[120]⟩, [sx6p]⟩
def sx6b : Tree := ⟨29, ⟨#[]⟩, [sx6a]⟩
def sx6q : Tree := ⟨15, ⟨#[113]⟩, []⟩
def sx6 : Tree := ⟨22, ⟨#[]⟩, [sx6b, sx6q]⟩
set_option maxRecDepth 100000
theorem sn1_v : parseFormT sn1 = (sx1, 0, 0) := by kernel_rfl
theorem sn2_v : parseFormT sn2 = (sx2, 0, 0) := by kernel_rfl
theorem sn3_v : parseFormT sn3 = (zT, 4, 20) := by kernel_rfl
theorem sn4_v : parseFormT sn4 = (zT, 2, 20) := by kernel_rfl
theorem sn5_v : parseTextT sn5 = (sx5, 0, 0) := by kernel_rfl
theorem sx1_p : printT sx1 = (sn1, 0) := by kernel_rfl
theorem sx2_p : printT sx2 = (sp2, 0) := by kernel_rfl
theorem sx5_p : printT sx5 = (sp5, 0) := by kernel_rfl
theorem sx6_p : printT sx6 = (sp6, 0) := by kernel_rfl
theorem sx5_f : freeT 16 sx5 = ([⟨#[88]⟩], 0) := by kernel_rfl
theorem sxX_s : sameT sxX sxX = true := by kernel_rfl
theorem sx1_z : szT sx1 = true := by kernel_rfl
theorem sx2_z : szT sx2 = true := by kernel_rfl
theorem sx5_z : szT sx5 = true := by kernel_rfl
theorem sx6_z : szT sx6 = true := by kernel_rfl
end Go.Proofs.YtbndfgoklgdfdaaGreatDoor.P
end
section
set_option linter.unusedSimpArgs false
namespace Go.Proofs.YtbndfgoklgdfdaaGreatDoor.P
open Go.RowKit Go.Proofs.YtbndfgoklgdfdaaGreatDoorW.PrintWords Go.Proofs.YtbndfgoklgdfdaaGreatDoorW.PrintLast Go.Proofs.YtbndfgoklgdfdaaGreatDoorW.PrintMore
section
variable {o : Oper} {a : Act} {w W : World} {ts : List Th} {ops : Array Oper} {rest : List Oper} {Q : Exit → Act → World → Prop}
theorem ez_build {N : Tmp} {n : Nat} {cs : Array Value} (HF : Hid (Fz w W ts)) (hd : o.dst = some N) (hgd : o.guard = none)
  (hrun : (execOp a.eval o).run Tryz.prog W = .ok (.value (.slice (some ⟨W.heap.size, 0, none⟩) n n)) (W.alloc (.cells cs 25 (0, 0))))
  (h : ∀ b W', Hid (Fz w W' (vT b 25 cs :: ts)) → wpList Tryz.prog ops Q rest (a.put (some N) (.slice (some ⟨b, 0, none⟩) n n)) W') : wpList Tryz.prog ops Q (o :: rest) a W :=
 Kd.event_run hgd hrun (by rw [hd]; exact h _ _ (Lib.hid (HF.out.alloc _)))
theorem run_build1 {x : Tree} {A : Option Addr} {c : Nat} {ev : Operand → Value} {v : Operand} (ho : o.op = .buildSlice 23 1 #[(0, v)]) (hv : ev v = .agg (tN x A c)) : (execOp ev o).run Tryz.prog W = .ok (.value (.slice (some ⟨W.heap.size, 0, none⟩) 1 1)) (W.alloc (.cells (tN x A c) 25 (0, 0))) := by
 unfold execOp
 rw [ho]
 go_simp
 try simp only [hv]
 all_goals first | done | rfl | (go_simp; done) | (go_simp; rfl)
theorem run_build2 {x y : Tree} {A B : Option Addr} {c d : Nat} {ev : Operand → Value} {u v : Operand} (ho : o.op = .buildSlice 23 2 #[(0, u), (1, v)]) (hu : ev u = .agg (tN x A c)) (hv : ev v = .agg (tN y B d)) : (execOp ev o).run Tryz.prog W = .ok (.value (.slice (some ⟨W.heap.size, 0, none⟩) 2 2)) (W.alloc (.cells #[.int .i64 x.f0, .string x.f1, .slice A x.f2.length c, .int .i64 y.f0, .string y.f1, .slice B y.f2.length d] 25 (0, 0))) := by
 unfold execOp
 rw [ho]
 go_simp
 try simp only [hu, hv]
 all_goals first | done | rfl | (go_simp; done) | (go_simp; rfl)
end
theorem Kd_C_nil (W : World) {A : Option Addr} : Kd.C k25 W A ([] : List Tree).length [] := ⟨rfl, by simp, fun h => absurd h (by simp)⟩
theorem adn (b n : Nat) : (⟨b, 0, none⟩ : Addr).add n = ⟨b, n, none⟩ := by unfold Addr.add; split <;> simp_all
theorem row1_C {W : World} {b : Nat} {x : Tree} {A : Option Addr} {c : Nat} {t : TypeId} (h : W.heap[b]? = some (.cells (tN x A c) t (0, 0))) (hl : x.f2.length ≤ c) (hC : Kd.C k25 W A x.f2.length x.f2) : Kd.C k25 W (some ⟨b, 0, none⟩) [x].length [x] := by
 refine ⟨rfl, by simp, fun _ => ⟨_, rfl, ?_⟩⟩
 intro j p hj
 match j, hj with
 | 0, hj =>
  obtain rfl : x = p := by simpa using hj
  refine ⟨_, rfl, k25_mk W x hl hC, fun i u hi => ?_⟩
  rw [adn, cell_of_row _ _ _ _ _ (0, 0) h]
  match i, hi with
  | 0, hi => simpa using hi
  | 1, hi => simpa using hi
  | 2, hi => simpa using hi
  | n + 3, hi => simp at hi
 | n + 1, hj => simp at hj
theorem row2_C {W : World} {b : Nat} {x y : Tree} {A B : Option Addr} {c d : Nat} {t : TypeId} (h : W.heap[b]? = some (.cells #[.int .i64 x.f0, .string x.f1, .slice A x.f2.length c, .int .i64 y.f0, .string y.f1, .slice B y.f2.length d] t (0, 0))) (hl : x.f2.length ≤ c) (hC : Kd.C k25 W A x.f2.length x.f2) (hm : y.f2.length ≤ d) (hD : Kd.C k25 W B y.f2.length y.f2) : Kd.C k25 W (some ⟨b, 0, none⟩) [x, y].length [x, y] := by
 refine ⟨rfl, by simp, fun _ => ⟨_, rfl, ?_⟩⟩
 intro j p hj
 match j, hj with
 | 0, hj =>
  obtain rfl : x = p := by simpa using hj
  refine ⟨_, rfl, k25_mk W x hl hC, fun i u hi => ?_⟩
  rw [adn, cell_of_row _ _ _ _ _ (0, 0) h]
  match i, hi with
  | 0, hi => simpa using hi
  | 1, hi => simpa using hi
  | 2, hi => simpa using hi
  | n + 3, hi => simp at hi
 | 1, hj =>
  obtain rfl : y = p := by simpa using hj
  refine ⟨_, rfl, k25_mk W y hm hD, fun i u hi => ?_⟩
  rw [adn, cell_of_row _ _ _ _ _ (0, 0) h]
  match i, hi with
  | 0, hi => simpa [show k25.sz = 3 from rfl] using hi
  | 1, hi => simpa [show k25.sz = 3 from rfl] using hi
  | 2, hi => simpa [show k25.sz = 3 from rfl] using hi
  | n + 3, hi => simp at hi
 | n + 2, hj => simp at hj
set_option maxRecDepth 100000 in
set_option maxHeartbeats 8000000 in
theorem node_on (k : Int) (s : ByteArray) (A : Option Addr) (n c : Nat) (w : World) : Calls Tryz.prog 27 #[.int .i64 k, .string s, .slice A n c] w fun e W' => e = .returned (.agg #[.int .i64 k, .string s, .slice A n c]) ∧ Below w.heap.size w W' := by
 have HF := Lib.hid (Fz.refl w)
 go_enter Tryz.func27, Tryz.ntmps27
 go_wp2_with (first
  | ((with_reducible refine gate_dst (N := 6) rfl ?_); refine ez_box (t := 25) (cs := zN) HF rfl rfl (run_node rfl) ?_; clear HF; intro b w1 HF)
  | ((with_reducible refine gate_store (t := 25) (p := 6) rfl ?_); refine ez_put (p := 6) HF rfl rfl rfl rfl rfl rfl rfl ?_; clear HF; intro w2 HF))
 refine bodyPost_ret (results_cell_row rfl _ _ _ 25 _ (0, 0) _ rfl HF.out.b0 Tryz.underlying25 rfl (by kernel_rfl)) rfl ?_
 exact ⟨by first | rfl | simp, HF.out.below⟩
set_option maxRecDepth 100000 in
set_option maxHeartbeats 8000000 in
theorem atom_on (s : ByteArray) (A : Option Addr) (n c : Nat) (w : World) : Calls Tryz.prog 28 #[.string s, .slice A n c] w fun e W' => e = .returned (.agg #[.int .i64 15, .string s, .slice A n c]) ∧ Below w.heap.size w W' := by
 have HF := Lib.hid (Fz.refl w)
 go_enter Tryz.func28, Tryz.ntmps28
 go_wp2_with (first
  | ((with_reducible refine gate_dst (N := 4) rfl ?_); refine ez_box (t := 25) (cs := zN) HF rfl rfl (run_node rfl) ?_; clear HF; intro b w3 HF)
  | ((with_reducible refine gate_store (t := 25) (p := 4) rfl ?_); refine ez_put (p := 4) HF rfl rfl rfl rfl rfl rfl rfl ?_; clear HF; intro w4 HF))
 refine bodyPost_ret (results_cell_row rfl _ _ _ 25 _ (0, 0) _ rfl HF.out.b0 Tryz.underlying25 rfl (by kernel_rfl)) rfl ?_
 exact ⟨by first | rfl | simp, HF.out.below⟩
end Go.Proofs.YtbndfgoklgdfdaaGreatDoor.P
end
section
namespace Go.Proofs.YtbndfgoklgdfdaaGreatDoor.P
open Go.RowKit Go.Proofs.YtbndfgoklgdfdaaGreatDoorW.PrintWords Go.Proofs.YtbndfgoklgdfdaaGreatDoorW.PrintLast Go.Proofs.YtbndfgoklgdfdaaGreatDoorW.PrintMore
section
variable {P : Program} {ops : Array Oper} {md : Region.Mode} {S : World → Prop} {ds : List Nat}
theorem pqso {Q0 : Act → World → Prop} {N : Option Tmp} {oi : Oper} {v : Value} {fuel : Nat} {l : Array Bool} {a : Act} {w : World} (i : Nat) (l' : Array Bool) {a' : Act} (hi : ops[i]? = some oi := by first | (simp only [List.getElem?_toArray, List.getElem?_cons_succ, List.getElem?_cons_zero]; exact rfl) | rfl) (hN : oi.dst = N := by rfl) (hc : anyB md ops l l' i = true := by kernel_rfl)
  (hw : Region.wanted oi (yielded ops a.tmps) = true := by rfl)
  (hv : ∀ w', (execOp a.eval oi).run P w' = .ok (.value v) w' := by intro w'; first | (go_simp; done) | (go_simp; with_reducible rfl)) (ha : a.put N v = a' := by simp only [Act.put, List.setIfInBounds_toArray, List.set_cons_zero, List.set_cons_succ]; rfl)
  (h : wpAnyLast P md ops (fun e a' w' => e = Exit.normal ∧ Q0 a' w') S ds fuel l' a' w) : wpAnyLast P md ops (fun e a' w' => e = Exit.normal ∧ Q0 a' w') S ds (fuel + 1) l a w :=
 pure_ l' hi hN hc (fun _ _ _ h => by cases h.1) (Or.inl ⟨hw, hv⟩) ha h
theorem tqso {Q0 : Act → World → Prop} {N : Option Tmp} {oi : Oper} {v : Value} {fuel : Nat} {l : Array Bool} {a : Act} {w : World} (hS : S w) (i : Nat) (l' : Array Bool) {a' : Act} (hi : ops[i]? = some oi := by first | (simp only [List.getElem?_toArray, List.getElem?_cons_succ, List.getElem?_cons_zero]; exact rfl) | rfl) (hN : oi.dst = N := by rfl) (hc : takeB md ops ds l l' i = true := by kernel_rfl)
  (hw : Region.wanted oi (yielded ops a.tmps) = true := by rfl)
  (hv : ∀ w', S w' → (execOp a.eval oi).run P w' = .ok (.value v) w' := by intro w' hSw; (try dsimp only at hSw); first | (go_simp; done) | (go_simp; with_reducible rfl)) (ha : a.put N v = a' := by simp only [Act.put, List.setIfInBounds_toArray, List.set_cons_zero, List.set_cons_succ]; rfl)
  (h : wpAnyLast P md ops (fun e a' w' => e = Exit.normal ∧ Q0 a' w') S ds fuel l' a' w) : wpAnyLast P md ops (fun e a' w' => e = Exit.normal ∧ Q0 a' w') S ds (fuel + 1) l a w :=
 take_ l' hi hN hc (fun _ _ _ h => by cases h.1) (Or.inl ⟨hw, hv⟩) hS ha h
end
end Go.Proofs.YtbndfgoklgdfdaaGreatDoor.P
end
