/- lex.Strip and the reference's Strip: a text without its comments. -/
import Derived.Test.YtkolnimgdbhekaaLRComm
import Derived.Test.YtkolnimgdbhekaaLWritten
namespace Go.Proofs.Ytkolnimgdbhekaa.P
open Go.RowKit Go.Proofs.YtkolnimgdbhekaaW.PrintWords Go.Proofs.YtkolnimgdbhekaaW.PrintLast Go.Proofs.YtkolnimgdbhekaaW.PrintMore

/-- A text from an offset on, without these pieces. -/
def stripC : List (Nat × Nat) → Nat → List UInt8 → List UInt8
  | [], f, l => l.drop f
  | (b, e) :: r, f, l => (l.drop f).take (b - f) ++ stripC r e l
/-- Pieces in their order, within a text. -/
def okC : List (Nat × Nat) → Nat → Nat → Prop
  | [], _, _ => True
  | (b, e) :: r, f, n => f ≤ b ∧ b < e ∧ e ≤ n ∧ okC r e n
theorem comS_ok : ∀ l : List UInt8, (∀ k f : Nat, f ≤ k → okC (comS none k l) f (k + l.length)) ∧ (∀ b k f : Nat, f ≤ b → b < k → okC (comS (some b) k l) f (k + l.length))
  | [] => ⟨fun _ _ _ => trivial, fun _ _ _ h1 h2 => ⟨h1, h2, by simp, trivial⟩⟩
  | c :: l => by
    obtain ⟨ih1, ih2⟩ := comS_ok l
    refine ⟨fun k f h => ?_, fun b k f h1 h2 => ?_⟩
    · rw [comS, List.length_cons, show k + (l.length + 1) = k + 1 + l.length by omega]
      split
      · exact ih2 k (k + 1) f h (by omega)
      · exact ih1 (k + 1) f (by omega)
    · rw [comS, List.length_cons, show k + (l.length + 1) = k + 1 + l.length by omega]
      split
      · exact ⟨h1, h2, by omega, ih1 (k + 1) k (by omega)⟩
      · exact ih2 b (k + 1) f h1 (by omega)
theorem okC_len : ∀ (l : List (Nat × Nat)) (f n : Nat), f ≤ n → okC l f n → l.length ≤ n - f
  | [], _, _, _, _ => Nat.zero_le _
  | (b, e) :: r, f, n, _, ⟨h1, h2, h3, h4⟩ => by
    have := okC_len r e n h3 h4
    rw [List.length_cons]
    omega
theorem ext_bytes (s : ByteArray) (f b : Nat) (h : f ≤ b) : (s.extract f b).data.toList = (s.data.toList.drop f).take (b - f) := by
  have := extract_take s f (b - f)
  rw [Lib.toList_data, show f + (b - f) = b by omega] at this
  exact this
theorem ext_end (s : ByteArray) (f : Nat) (h : f ≤ s.size) : (s.extract f s.size).data.toList = s.data.toList.drop f := by
  rw [ext_bytes s f s.size h, List.take_of_length_le]
  rw [List.length_drop, Array.length_toList]
  exact Nat.le_refl _
theorem own_alloc' {W : World} {base n : Nat} {v : Value} {cs : List Value} (h : W.ownsRow base 39 2 v n cs) (o : Obj) : (W.alloc o).ownsRow base 39 2 v n cs := h.alloc o
theorem own_others {W W' : World} {base n B : Nat} {v : Value} {cs : List Value} (h : W.ownsRow base 39 2 v n cs) (hB : B < base) (hk : Lib.OthersKept 5 (some B) W W') : W'.ownsRow base 39 2 v n cs := by
  refine own_move h fun k hv => ?_
  obtain ⟨cells, hc⟩ := own_typed h k hv
  rw [hc]
  have := own_base h k hv
  exact hk k _ hc (by simp; omega) (fun c fz e => by cases e)

set_option maxHeartbeats 4000000 in
set_option maxRecDepth 100000 in
theorem lex_Strip.calls (s : ByteArray) (w : World) (hs : s.size ≤ 8796093022206) :
    Calls Try.prog 44 #[.string s] w fun e w' => e = .returned (.string ⟨(stripC (comS none 0 s.data.toList) 0 s.data.toList).toArray⟩) ∧ Below w.heap.size w w' := by
  obtain ⟨cl, hcl⟩ : ∃ cl, cl = comS none 0 s.data.toList := ⟨_, rfl⟩
  have hok := (comS_ok s.data.toList).1 0 0 (Nat.le_refl _)
  rw [Nat.zero_add, Array.length_toList, ← hcl] at hok
  rw [show s.data.size = s.size from rfl] at hok
  have hcll : cl.length ≤ s.size := by have := okC_len cl 0 s.size (Nat.zero_le _) hok; omega
  obtain ⟨R, hR⟩ : ∃ R, R = stripC cl 0 s.data.toList := ⟨_, rfl⟩
  have hcm := fun w => comments_any s w hs
  rw [← hcl] at hcm ⊢
  rw [← hR]
  have HR := Lib.hid hR
  have HOK := Lib.hid hok
  have HCM := Lib.hid hcm
  clear hR hok hcl hcm
  go_enter Try.func44, Try.ntmps44
  go_wp2_with (go_at_call 23; refine (HCM.out _).mono ?_; rintro e w1 ⟨v, rfl, ho, hb1⟩; obtain ⟨A, c, rfl⟩ := Kd.R_slice (pairs_R ho))
  obtain ⟨B, hB⟩ : ∃ B, B = w.heap.size := ⟨_, rfl⟩
  have hI0 := bIs_below (Lib.IsBuilderF.of (Lib.fresh_isBuilder 75 5 w)) hb1
  have hb0 : Below w.heap.size w w1 := ((Below.refl w.heap.size w).alloc (Nat.le_refl _) _).trans (hb1.mono (by simp))
  rw [World.size_alloc] at ho
  rw [← hB] at hI0 hb0 ho ⊢
  have HO := Lib.hid ho
  have HI0 := Lib.hid hI0
  have HB0 := Lib.hid hb0
  have HBQ := Lib.hid hB
  clear hB hI0 hb0 ho hb1
  go_loopw [4, 10] (fun fr i wr => ∃ (k f : Nat) (acc : List UInt8), fr = .int .i64 f ∧ i = .int .i64 k ∧ k ≤ cl.length ∧ f ≤ s.size ∧ Lib.IsBuilderF 75 5 B B (Lib.byteCells acc) wr ∧ wr.ownsRow (B + 1) 39 2 (.slice A cl.length c) cl.length (cellsC cl) ∧ Below B w wr ∧ acc ++ stripC (cl.drop k) f s.data.toList = R ∧ okC (cl.drop k) f s.size ∧ acc.length ≤ f ∧ B < wr.heap.size) (fun _ i _ => cl.length - (intOf i).toNat)
  case atStart => exact ⟨0, 0, [], rfl, rfl, Nat.zero_le _, Nat.zero_le _, HI0.out, HO.out, HB0.out, HR.out.symm, HOK.out, Nat.le_refl _, by rcases HI0.out with h | h <;> exact h.lt⟩
  case round =>
    obtain ⟨k, f, acc, rfl, rfl, hk, hf, hI, hown, hb, hr, hokk, hacc, hBz⟩ := hrel
    have HI := Lib.hid hI
    have HW := Lib.hid hown
    have HB := Lib.hid hb
    have HRR := Lib.hid hr
    have HKK := Lib.hid hokk
    have HBZ := Lib.hid hBz
    clear hI hown hb hr hokk hBz
    by_cases hlt : k < cl.length
    · obtain ⟨a0, e0, p0, p1⟩ := at_P (Kd.R_reads' (pairs_R HW.out)).2.2 k hlt
      subst e0
      obtain ⟨x, hx⟩ : ∃ x, x = rdP cl k := ⟨_, rfl⟩
      have hdr := rdP_drop cl k hlt
      rw [← hx] at p0 p1 hdr
      obtain ⟨b, e⟩ := x
      have hokk := HKK.out
      rw [hdr] at hokk
      obtain ⟨h1, h2, h3, h4⟩ := hokk
      have H4 := Lib.hid h4
      have hr := HRR.out
      rw [hdr] at hr
      have HR2 := Lib.hid hr
      have hes : (s.extract f b).size = b - f := by rw [ByteArray.size_extract]; omega
      have hl1 : (Lib.byteCells acc).length + (s.extract f b).size ≤ 140737488355328 := by rw [Lib.byteCells_length]; omega
      have HNU := Lib.hid (show ∀ c fz, (Obj.cells #[.int .i64 b, .int .i64 e] 39 (0, 0)) ≠ .cells c 5 fz from fun c fz h => by cases h)
      have HBE := Lib.hid (ext_bytes s f b h1)
      have hbs : b ≤ s.size := by omega
      clear hx hdr h4 hr
      go_wp2_with (go_at_call 65; refine (bWriteString B B (Lib.byteCells acc) (s.extract f b) _ (HI.out.alloc _) hl1 (by have := HBZ.out; simp; omega)).mono ?_; rintro e4 w4 ⟨rfl, h5, b5, k5⟩; have bx := k5 wr.heap.size _ (Go.heap_alloc_new _ _) (by have := HBZ.out; simp; omega) HNU.out; have y1 : w4.cell? ⟨wr.heap.size, 1, none⟩ = some (.int .i64 e) := (by simp [World.cell?, bx]))
      refine ⟨⟨k + 1, e, acc ++ (s.extract f b).data.toList, rfl, by go_num, by omega, h3, .inr ?_, own_others (own_alloc' HW.out _) (by omega) k5, (HB.out.alloc (by have := HB0.out.size; have := HBZ.out; omega) _).trans b5, ?_, H4.out, ?_, ?_⟩, by simp [intOf]; omega⟩
      · rw [Lib.byteCells_append]; exact h5
      · rw [List.append_assoc, HBE.out]; exact HR2.out
      · have h9 : (s.extract f b).data.toList.length = b - f := by rw [Array.length_toList]; exact hes
        rw [List.length_append, h9]
        omega
      · have h8 := b5.size
        have h9 := HBZ.out
        rw [World.size_alloc] at h8
        omega
    · have hkl : k = cl.length := by omega
      have hr := HRR.out
      rw [List.drop_of_length_le (by omega), stripC] at hr
      have HR2 := Lib.hid hr
      have hes : (s.extract f s.size).size = s.size - f := by rw [ByteArray.size_extract]; omega
      have hl1 : (Lib.byteCells acc).length + (s.extract f s.size).size ≤ 140737488355328 := by rw [Lib.byteCells_length]; omega
      have HBE := Lib.hid (ext_end s f hf)
      clear hr
      go_wp2_with (first
        | (go_at_call 65; refine (bWriteString B B (Lib.byteCells acc) (s.extract f s.size) _ HI.out hl1 (by have := HBZ.out; omega)).mono ?_; rintro e4 w4 ⟨rfl, h5, b5, k5⟩; have HH := Lib.hid (show Lib.IsBuilderF 75 5 B B (Lib.byteCells (acc ++ (s.extract f s.size).data.toList)) w4 from by rw [Lib.byteCells_append]; exact .inr h5))
        | (go_at_call 66; refine (bString B B _ w4 HH.out (by have := HBZ.out; have := b5.size; omega)).mono ?_; rintro e w3 ⟨rfl, h6, b6, k6⟩))
      go_ret
      refine ⟨?_, by rw [← HBQ.out]; exact (HB.out.trans b5).trans b6⟩
      have htk : (s.data.toList.drop f).take (s.size - f) = s.data.toList.drop f := List.take_of_length_le (by rw [List.length_drop, Array.length_toList]; exact Nat.le_refl _)
      rw [htk, HR2.out]
      rfl

theorem own_grown {W W' : World} {base base' n m : Nat} {v u : Value} {cs xs : List Value} (hc : W.ownsRow base 39 2 v n cs) (ho : W.ownsRow base' 5 1 u m xs) (hg : W.grownBy W' u.ownBlock) : W'.ownsRow base 39 2 v n cs := by
  refine own_move hc fun k hv => hg.block k (own_lt hc k hv) fun e => ?_
  obtain ⟨c1, h1⟩ := own_typed hc k hv
  obtain ⟨c2, h2⟩ := own_typed ho k e.symm
  rw [h1] at h2
  simp at h2
def natsI (l : List UInt8) : List Int := l.map fun c => (c.toNat : Int)
theorem natsI_ext (s : ByteArray) (acc : List UInt8) : natsI acc ++ bytesOf s = natsI (acc ++ s.data.toList) := by
  unfold natsI bytesOf
  rw [List.map_append]
theorem natsI_str (acc : List UInt8) : strOfNums (natsI acc) = ⟨acc.toArray⟩ := by
  unfold strOfNums natsI
  rw [List.map_map]
  congr 2
  rw [show ((fun (n : Int) => UInt8.ofNat n.toNat) ∘ fun (c : UInt8) => (c.toNat : Int)) = id from by funext c; simp]
  simp

set_option maxHeartbeats 4000000 in
set_option maxRecDepth 100000 in
theorem refStrip.calls (s : ByteArray) (w : World) (hs : s.size ≤ 30000) :
    Calls Try.prog 45 #[.string s] w fun e w' => e = .returned (.string ⟨(stripC (comS none 0 s.data.toList) 0 s.data.toList).toArray⟩) ∧ Below w.heap.size w w' := by
  obtain ⟨cl, hcl⟩ : ∃ cl, cl = comS none 0 s.data.toList := ⟨_, rfl⟩
  have hok := (comS_ok s.data.toList).1 0 0 (Nat.le_refl _)
  rw [Nat.zero_add, Array.length_toList, ← hcl] at hok
  rw [show s.data.size = s.size from rfl] at hok
  have hcll : cl.length ≤ s.size := by have := okC_len cl 0 s.size (Nat.zero_le _) hok; omega
  obtain ⟨R, hR⟩ : ∃ R, R = stripC cl 0 s.data.toList := ⟨_, rfl⟩
  have hcm := fun w => refComments_any s w hs
  rw [← hcl] at hcm ⊢
  rw [← hR]
  have HR := Lib.hid hR
  have HOK := Lib.hid hok
  have HCM := Lib.hid hcm
  clear hR hok hcl hcm
  go_enter Try.func45, Try.ntmps45
  go_wp2_with (go_at_call 43; refine (HCM.out _).mono ?_; rintro e w1 ⟨v, rfl, ho, hb1⟩; obtain ⟨A, c, rfl⟩ := Kd.R_slice (pairs_R ho))
  have HO := Lib.hid ho
  have HB0 := Lib.hid hb1
  clear hb1 ho
  go_loopw [3, 5, 6] (fun out fr i wr => ∃ (k f : Nat) (acc : List UInt8) (A1 : Option Addr) (c1 : Nat), out = .slice A1 acc.length c1 ∧ fr = .int .i64 f ∧ i = .int .i64 k ∧ k ≤ cl.length ∧ f ≤ s.size ∧ wr.ownsRow w.heap.size 5 1 (.slice A1 acc.length c1) (natsI acc).length (nums .u8 (natsI acc)) ∧ wr.ownsRow w.heap.size 39 2 (.slice A cl.length c) cl.length (cellsC cl) ∧ Below w.heap.size w wr ∧ acc ++ stripC (cl.drop k) f s.data.toList = R ∧ okC (cl.drop k) f s.size ∧ acc.length ≤ f) (fun _ _ i _ => cl.length - (intOf i).toNat)
  case atStart => exact ⟨0, 0, [], none, 0, rfl, rfl, rfl, Nat.zero_le _, Nat.zero_le _, own_nil _ _ _ _, HO.out, HB0.out, HR.out.symm, HOK.out, Nat.le_refl _⟩
  case round =>
    obtain ⟨k, f, acc, A1, c1, rfl, rfl, rfl, hk, hf, hout, hown, hb, hr, hokk, hacc⟩ := hrel
    have HI := Lib.hid hout
    have HW := Lib.hid hown
    have HB := Lib.hid hb
    have HRR := Lib.hid hr
    have HKK := Lib.hid hokk
    have hbz := hb.size
    have HBZ := Lib.hid hbz
    have hnl : (natsI acc).length = acc.length := List.length_map _
    have HNL := Lib.hid hnl
    clear hout hown hb hr hokk hbz hnl
    by_cases hlt : k < cl.length
    · obtain ⟨a0, e0, p0, p1⟩ := at_P (Kd.R_reads' (pairs_R HW.out)).2.2 k hlt
      subst e0
      obtain ⟨x, hx⟩ : ∃ x, x = rdP cl k := ⟨_, rfl⟩
      have hdr := rdP_drop cl k hlt
      rw [← hx] at p0 p1 hdr
      obtain ⟨b, e⟩ := x
      have HX := Lib.hid hx
      have hokk := HKK.out
      rw [hdr] at hokk
      obtain ⟨h1, h2, h3, h4⟩ := hokk
      have H4 := Lib.hid h4
      have hr := HRR.out
      rw [hdr] at hr
      have HR2 := Lib.hid hr
      have hes : (s.extract f b).size = b - f := by rw [ByteArray.size_extract]; omega
      have HES := Lib.hid hes
      have HBE := Lib.hid (ext_bytes s f b h1)
      have hbs : b ≤ s.size := by omega
      clear hx hdr h4 hr hes
      go_wp2_with (at_builtin; refine print_append_str (w0 := w) w.heap.size rfl _ _ 73 9 5 rfl Try.underlying73 Try.underlying9 info5 (.slice A1 acc.length c1) (natsI acc) (s.extract f b) rfl rfl HI.out HB.out HBZ.out (by have := HES.out; have := HNL.out; omega) ?_; intro v1 w4 hown1 hb4 hg4; rw [natsI_ext] at hown1; obtain ⟨A4, c4, rfl⟩ := own_slice hown1; have HW4 := Lib.hid (own_grown HW.out HI.out hg4); obtain ⟨a9, e9, q0, q1⟩ := at_P (Kd.R_reads' (pairs_R HW4.out)).2.2 k hlt; cases e9; rw [← HX.out] at q0 q1)
      refine ⟨⟨k + 1, e, acc ++ (s.extract f b).data.toList, A4, c4, ?_, rfl, by go_num, by omega, h3, ?_, HW4.out, hb4, ?_, H4.out, ?_⟩, by simp [intOf]; omega⟩
      · rw [HBE.out]
        congr 1
        exact List.length_map _
      · have h9 : (natsI (acc ++ (s.extract f b).data.toList)).length = (acc ++ (s.extract f b).data.toList).length := List.length_map _
        rw [h9] at hown1 ⊢
        exact hown1
      · rw [List.append_assoc, HBE.out]; exact HR2.out
      · have h9 : (s.extract f b).data.toList.length = b - f := by rw [Array.length_toList]; exact HES.out
        rw [List.length_append, h9]
        omega
    · have hkl : k = cl.length := by omega
      have hr := HRR.out
      rw [List.drop_of_length_le (by omega), stripC] at hr
      have HR2 := Lib.hid hr
      have hes : (s.extract f s.size).size = s.size - f := by rw [ByteArray.size_extract]; omega
      have HES := Lib.hid hes
      have HBE := Lib.hid (ext_end s f hf)
      clear hr hes
      go_wp2_with (at_builtin; refine print_append_str (w0 := w) w.heap.size rfl _ _ 73 9 5 rfl Try.underlying73 Try.underlying9 info5 (.slice A1 acc.length c1) (natsI acc) (s.extract f s.size) rfl rfl HI.out HB.out HBZ.out (by have := HES.out; have := HNL.out; omega) ?_; intro v1 w4 hown1 hb4 hg4; rw [natsI_ext, HBE.out, HR2.out] at hown1; obtain ⟨A4, c4, rfl⟩ := own_slice hown1; have hcv := own_string (P := Try.prog) Try.underlying73 Try.underlying5 Try.underlying9 hown1)
      go_ret
      refine ⟨?_, hb4⟩
      rw [natsI_str]
      rfl
end Go.Proofs.Ytkolnimgdbhekaa.P
