/- lex.Same: the kinds and the texts of two lists of tokens. -/
import Derived.Test.YtkolnimgdbhekaaPx0
import Derived.Test.YtkolnimgdbhekaaLLex
import Derived.Lib.Hide
namespace Go.Proofs.Ytkolnimgdbhekaa.P
open Go.RowKit Go.Proofs.YtkolnimgdbhekaaW.PrintWords Go.Proofs.YtkolnimgdbhekaaW.PrintLast Go.Proofs.YtkolnimgdbhekaaW.PrintMore

def aggT (x : S34) : Value := .agg #[.int .i64 x.f0, .string x.f1, .int .i64 x.f2]
def sameT (x y : S34) : Bool := x.f0 == y.f0 && x.f1.toList == y.f1.toList
def sameL : List S34 → List S34 → Bool
  | [], [] => true
  | x :: a, y :: b => sameT x y && sameL a b
  | _, _ => false
theorem sameL_len : ∀ (a b : List S34), sameL a b = true → a.length = b.length
  | [], [], _ => rfl
  | x :: a, y :: b, h => by simp only [sameL, Bool.and_eq_true] at h; simp [sameL_len a b h.2]
  | [], _ :: _, h => by simp [sameL] at h
  | _ :: _, [], h => by simp [sameL] at h

theorem rdT_drop (l : List S34) (k : Nat) (h : k < l.length) : l.drop k = rd_T34 l k :: l.drop (k + 1) := by
  rw [List.drop_eq_getElem_cons h]
  simp [rd_T34, h]

theorem same1_any (x y : S34) (w : World) : Calls Try.prog 56 #[aggT x, aggT y] w fun e w' => e = .returned (.bool (sameT x y)) ∧ Below w.heap.size w w' := by
  unfold aggT
  go_enter Try.func56, Try.ntmps56
  go_wp2_with fail
  · rename_i h
    go_ret
    exact ⟨by simp [sameT, h], ((Below.refl _ _).alloc (Nat.le_refl _) _).alloc (by simp) _⟩
  · rename_i h
    go_ret
    exact ⟨by simp [sameT, h], ((Below.refl _ _).alloc (Nat.le_refl _) _).alloc (by simp) _⟩

set_option maxHeartbeats 1000000 in
theorem equal_any (A0 : Option Addr) (c0 : Nat) (l0 : List S34) (A1 : Option Addr) (c1 : Nat) (l1 : List S34) (w : World) (hr0 : Kd.C k34 w A0 l0.length l0) (hr1 : Kd.C k34 w A1 l1.length l1) (hb : l0.length ≤ 9223372036854775807) :
    Calls Try.prog 78 #[.slice A0 l0.length c0, .slice A1 l1.length c1, .func (.func 56) #[] #[]] w
      fun e w' => e = .returned (.bool (sameL l0 l1)) ∧ Below w.heap.size w w' := by
  go_enter Try.func78, Try.ntmps78
  by_cases hlen : l0.length = l1.length
  · have HL := Lib.hid hlen
    have HR0 := Lib.hid hr0
    have HR1 := Lib.hid hr1
    have hle2 : ((l0.length : Int) != l1.length) = false := by simp [hlen]
    clear hlen hr0 hr1
    go_wp2_with fail
    go_loopw [17] (fun i wr => ∃ k : Nat, i = .int .i64 k ∧ k ≤ l0.length ∧ Below w.heap.size w wr ∧ sameL (l0.drop k) (l1.drop k) = sameL l0 l1) (fun i _ => l0.length - (intOf i).toNat)
    case atStart => exact ⟨0, rfl, Nat.zero_le _, Below.refl _ _, rfl⟩
    case round =>
      obtain ⟨k, rfl, hk, hbw, hs⟩ := hrel
      have HBW := Lib.hid hbw
      have HS := Lib.hid hs
      clear hbw hs
      by_cases hlt : k < l0.length
      · obtain ⟨a0, e0, p0, p1, p2⟩ := at_T34 (Kd.C_below HR0.out HBW.out) k (by omega) (by omega)
        obtain ⟨a1, e1, q0, q1, q2⟩ := at_T34 (Kd.C_below HR1.out HBW.out) k (by omega) (by have := HL.out; omega)
        obtain ⟨x, hx⟩ : ∃ x, x = rd_T34 l0 k := ⟨_, rfl⟩
        obtain ⟨y, hy⟩ : ∃ y, y = rd_T34 l1 k := ⟨_, rfl⟩
        rw [← hx] at p0 p1 p2
        rw [← hy] at q0 q1 q2
        rw [Int.toNat_natCast] at p0 p1 p2 q0 q1 q2
        have HX := Lib.hid hx
        have HY := Lib.hid hy
        clear hx hy
        subst e0 e1
        have hlt1 : k < l1.length := by have := HL.out; omega
        have wk : ∀ (p : Addr) (v : Value), wr.cell? p = some v → (wr.alloc (.cells #[.int .i64 x.f0, .string x.f1, .int .i64 x.f2] 34)).cell? p = some v := fun p v h => (((Below.refl wr.heap.size wr).alloc (Nat.le_refl _) _).cell (World.block_lt_of_cell? wr _ h)).trans h
        have q0 := wk _ _ q0
        have q1 := wk _ _ q1
        have q2 := wk _ _ q2
        clear wk
        go_wp2_with (go_at_call 56; refine (same1_any x y _).mono ?_; rintro e w' ⟨rfl, hb2⟩)
        · rename_i h
          have h' : sameT x y = false := by simpa using h
          go_ret
          have hS := HS.out
          rw [rdT_drop l0 k hlt, rdT_drop l1 k hlt1, ← HX.out, ← HY.out] at hS
          simp only [sameL, h', Bool.false_and] at hS
          exact ⟨by rw [← hS]; rfl, ((HBW.out.alloc HBW.out.size _).alloc (by have := HBW.out.size; simp; omega) _).trans (hb2.mono (by have := HBW.out.size; simp; omega))⟩
        · rename_i h
          have h' : sameT x y = true := by simpa using h
          have hS := HS.out
          rw [rdT_drop l0 k hlt, rdT_drop l1 k hlt1, ← HX.out, ← HY.out] at hS
          simp only [sameL, h', Bool.true_and] at hS
          exact ⟨⟨k + 1, by go_num, by omega, ((HBW.out.alloc HBW.out.size _).alloc (by have := HBW.out.size; simp; omega) _).trans (hb2.mono (by have := HBW.out.size; simp; omega)), hS⟩, by simp [intOf]; omega⟩
      · go_wp2_with fail
        go_ret
        have hS := HS.out
        rw [List.drop_of_length_le (by omega), List.drop_of_length_le (by have := HL.out; omega)] at hS
        exact ⟨by rw [← hS]; rfl, HBW.out⟩
  · have hle2 : ((l0.length : Int) != l1.length) = true := by simp; omega
    go_wp2_with fail
    go_ret
    refine ⟨?_, Below.refl _ _⟩
    rw [show sameL l0 l1 = false by cases h : sameL l0 l1 <;> first | rfl | exact absurd (sameL_len _ _ h) hlen]
    rfl

theorem alike_any (A0 : Option Addr) (c0 : Nat) (l0 : List S34) (A1 : Option Addr) (c1 : Nat) (l1 : List S34) (w : World) (hr0 : Kd.C k34 w A0 l0.length l0) (hr1 : Kd.C k34 w A1 l1.length l1) (hb : l0.length ≤ 9223372036854775807) :
    Calls Try.prog 55 #[.slice A0 l0.length c0, .slice A1 l1.length c1, .func (.func 56) #[] #[]] w fun e w' => e = .returned (.bool (sameL l0 l1)) ∧ Below w.heap.size w w' := by
  go_enter Try.func55, Try.ntmps55
  go_wp2_with (go_at_call 78; refine (equal_any A0 c0 l0 A1 c1 l1 _ hr0 hr1 hb).mono ?_; rintro e w' ⟨rfl, hb2⟩)
  go_ret
  exact ⟨rfl, hb2⟩

/-- lex.Same's contract, as the printed walks ask for it. -/
def lex_Same.f (l0 l1 : List S34) : Option Bool := some (sameL l0 l1)
theorem lex_Same.calls (A0 : Option Addr) (c0 : Nat) (l0 : List S34) (A1 : Option Addr) (c1 : Nat) (l1 : List S34) (r : Bool) (w : World) (hr0 : Kd.C k34 w A0 l0.length l0) (_hc0 : l0.length ≤ c0) (hr1 : Kd.C k34 w A1 l1.length l1) (_hc1 : l1.length ≤ c1) (h : lex_Same.f l0 l1 = some r) :
    Calls Try.prog 21 #[.slice A0 l0.length c0, .slice A1 l1.length c1] w fun e w' => e = .returned (.bool r) ∧ Below w.heap.size w w' := by
  have hb := hr0.2.1
  have h2 : sameL l0 l1 = r := by simpa [lex_Same.f] using h
  · rw [← h2]
    clear h h2
    go_enter Try.func21, Try.ntmps21
    go_wp2_with (go_at_call 55; refine (alike_any A0 c0 l0 A1 c1 l1 _ hr0 hr1 hb).mono ?_; rintro e w' ⟨rfl, hb2⟩)
    go_ret
    exact ⟨rfl, hb2⟩

end Go.Proofs.Ytkolnimgdbhekaa.P
