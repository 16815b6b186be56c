/- The walks of the laws Near, Parted, Rises and Parts of layer 6 over the contracts: each returns true; the conditions are the ranges of the kinds. -/
import Derived.Test.YtnnnbgndbmcffaaAmMost
namespace Go.Proofs.Ytnnnbgndbmcffaa
open Go.RowKit

/-- the end of a law: true, and what was there is there -/
def Fine (w : World) (e : Ending) (w' : World) : Prop := e = .returned (.bool true) ∧ Below w.heap.size w w'

section
variable (w0 : World)
theorem fee_ok (base rate n : Int) (w : World) (h : Below w0.heap.size w0 w) (hb : U64 base) (hr : U64 rate) (hn : U64 n) :
    Calls Try.prog 20 #[.int .u64 base, .int .u64 rate, .int .u64 n] w fun e w' => e = .returned (.tuple #[.int .u64 (Am.feeF base rate n).1, .int .i64 (Am.feeF base rate n).2]) ∧ Below w0.heap.size w0 w' :=
  (fee_any base rate n w hb hr hn).mono fun _ _ ⟨he, hw⟩ => ⟨he, h.trans (hw.mono h.size)⟩
theorem enough_ok (inn out base rate : Int) (w : World) (h : Below w0.heap.size w0 w) (hi : U64 inn) (ho : U64 out) (hb : U64 base) (hr : U64 rate) :
    Calls Try.prog 22 #[.int .u64 inn, .int .u64 out, .int .u64 base, .int .u64 rate] w fun e w' => e = .returned (.bool (Am.enough inn out base rate)) ∧ Below w0.heap.size w0 w' :=
  (enough_any inn out base rate w hi ho hb hr).mono fun _ _ ⟨he, hw⟩ => ⟨he, h.trans (hw.mono h.size)⟩
theorem rfee_ok (base rate n : Int) (w : World) (h : Below w0.heap.size w0 w) (hb : U64 base) (hr : U64 rate) (hn : U64 n) :
    Calls Try.prog 32 #[.int .u64 base, .int .u64 rate, .int .u64 n] w fun e w' => e = .returned (.tuple #[.int .u64 (Am.feeF base rate n).1, .int .i64 (Am.feeF base rate n).2]) ∧ Below w0.heap.size w0 w' :=
  (rfee_any base rate n w hb hr hn).mono fun _ _ ⟨he, hw⟩ => ⟨he, h.trans (hw.mono h.size)⟩
theorem renough_ok (inn out base rate : Int) (w : World) (h : Below w0.heap.size w0 w) (hi : U64 inn) (ho : U64 out) (hb : U64 base) (hr : U64 rate) :
    Calls Try.prog 33 #[.int .u64 inn, .int .u64 out, .int .u64 base, .int .u64 rate] w fun e w' => e = .returned (.bool (Am.enough inn out base rate)) ∧ Below w0.heap.size w0 w' :=
  (renough_any inn out base rate w hi ho hb hr).mono fun _ _ ⟨he, hw⟩ => ⟨he, h.trans (hw.mono h.size)⟩
theorem shown_ok (w : World) (h : Below w0.heap.size w0 w) :
    Calls Try.prog 21 #[] w fun e w' => e = .returned (.bool true) ∧ Below w0.heap.size w0 w' :=
  (shown_any w).mono fun _ _ ⟨he, hw⟩ => ⟨he, h.trans (hw.mono h.size)⟩
end

theorem feeF_small (base rate n : Int) (h : base + n * rate / 1000000 ≤ 1125899906842624) : Am.feeF base rate n = (base + n * rate / 1000000, 0) := by
  unfold Am.feeF Am.mx; rw [if_pos h]

theorem mul_le {a b A B : Int} (a0 : 0 ≤ a) (a1 : a ≤ A) (b0 : 0 ≤ b) (b1 : b ≤ B) : 0 ≤ a * b ∧ a * b ≤ A * B := by
  refine ⟨Int.mul_nonneg a0 b0, ?_⟩
  have h1 : a * b ≤ A * b := Int.mul_le_mul_of_nonneg_right a1 b0
  have h2 : A * b ≤ A * B := Int.mul_le_mul_of_nonneg_left b1 (by omega)
  omega

set_option maxHeartbeats 1000000 in
theorem near_walk (base rate n : Int) (w : World) (b0 : 0 ≤ base) (b1 : base ≤ 4294967295) (r0 : 0 ≤ rate) (r1 : rate ≤ 4294967295) (n0 : 0 ≤ n) (n1 : n ≤ 4294967295) :
    Calls Try.prog 3 #[.int .u32 base, .int .u32 rate, .int .u32 n] w (Fine w) := by
  have hm := fee_ok w base rate n w (Below.refl _ _) ⟨b0, by omega⟩ ⟨r0, by omega⟩ ⟨n0, by omega⟩
  obtain ⟨N0, N1⟩ := mul_le n0 n1 r0 r1
  have hf := feeF_small base rate n (by omega)
  rw [hf] at hm; clear hf
  obtain ⟨N, hN⟩ : ∃ N, n * rate = N := ⟨_, rfl⟩
  rw [hN] at hm N0 N1
  have q0 : 0 ≤ N / 1000000 := by omega
  have q1 : N / 1000000 * 1000000 ≤ N := by omega
  have q2 : N < (N / 1000000 + 1) * 1000000 := by omega
  have HM := Lib.hid hm; clear hm
  go_enter Try.func3, Try.ntmps3
  go_wp2_with fail
  refine (HM.out).mono ?_
  rintro e w1 ⟨rfl, h1⟩
  go_wp2_with fail
  refine (shown_ok w w1 h1).mono ?_
  rintro e w2 ⟨rfl, h2⟩
  go_wp2
  go_ret
  exact ⟨rfl, h2⟩

set_option maxHeartbeats 1000000 in
theorem parted_walk (rate a b : Int) (w : World) (r0 : 0 ≤ rate) (r1 : rate ≤ 4294967295) (a0 : 0 ≤ a) (a1 : a ≤ 4294967295) (b0 : 0 ≤ b) (b1 : b ≤ 4294967295) :
    Calls Try.prog 4 #[.int .u32 rate, .int .u32 a, .int .u32 b] w (Fine w) := by
  obtain ⟨A0, A1⟩ := mul_le a0 a1 r0 r1
  obtain ⟨B0, B1⟩ := mul_le b0 b1 r0 r1
  have hsum : (a + b) * rate = a * rate + b * rate := Int.add_mul _ _ _
  have f1 := feeF_small 0 rate a (by omega)
  have f2 := feeF_small 0 rate b (by omega)
  have f3 := feeF_small 0 rate (a + b) (by rw [hsum]; omega)
  rw [hsum] at f3
  generalize a * rate = A at *
  generalize b * rate = B at *
  rw [Int.zero_add] at f1 f2 f3
  have q1 : A / 1000000 + B / 1000000 ≤ (A + B) / 1000000 := by omega
  have q2 : (A + B) / 1000000 ≤ A / 1000000 + B / 1000000 + 1 := by omega
  have q3 : 0 ≤ A / 1000000 := by omega
  have q4 : 0 ≤ B / 1000000 := by omega
  have F1 := Lib.hid f1; have F2 := Lib.hid f2; have F3 := Lib.hid f3
  clear f1 f2 f3 hsum
  go_enter Try.func4, Try.ntmps4
  go_wp2_with fail
  refine (fee_ok w 0 rate a w (Below.refl _ _) ⟨by omega, by omega⟩ ⟨r0, by omega⟩ ⟨a0, by omega⟩).mono ?_
  rintro e w1 ⟨rfl, h1⟩
  rw [F1.out]
  go_wp2_with fail
  refine (fee_ok w 0 rate b w1 h1 ⟨by omega, by omega⟩ ⟨r0, by omega⟩ ⟨b0, by omega⟩).mono ?_
  rintro e w2 ⟨rfl, h2⟩
  rw [F2.out]
  go_wp2_with fail
  refine (fee_ok w 0 rate (a + b) w2 h2 ⟨by omega, by omega⟩ ⟨r0, by omega⟩ ⟨by omega, by omega⟩).mono ?_
  rintro e w3 ⟨rfl, h3⟩
  rw [F3.out]
  go_wp2_with fail
  refine (shown_ok w w3 h3).mono ?_
  rintro e w4 ⟨rfl, h4⟩
  go_wp2
  go_ret
  exact ⟨rfl, h4⟩

theorem rises_core (base rate x y : Int) (hr : 0 ≤ rate) (hx : 0 ≤ x) (hxy : x ≤ y) :
    ((Am.feeF base rate y).2 == 0) = false ∨ ((Am.feeF base rate y).2 == 0) = true ∧ (Am.feeF base rate x).2 = 0 ∧ (Am.feeF base rate x).1 ≤ (Am.feeF base rate y).1 := by
  have := Am.mul_mono hxy hr
  have h0 : 0 ≤ x * rate := Int.mul_nonneg hx hr
  unfold Am.feeF Am.mx
  split <;> split <;> simp <;> omega

set_option maxHeartbeats 2000000 in
theorem rises_lt (inn out less base rate : Int) (w : World) (hi : U64 inn) (ho : U64 out) (hl : U64 less) (hb : U64 base) (hr : U64 rate) (hol : out < less) :
    Calls Try.prog 5 #[.int .u64 inn, .int .u64 out, .int .u64 less, .int .u64 base, .int .u64 rate] w (Fine w) := by
  have hc := rises_core base rate out less hr.lo ho.lo (Int.le_of_lt hol)
  have hmono : Am.enough inn less base rate = true → Am.enough inn out base rate = true := Am.enough_mono (Int.le_of_lt hol) hr.lo
  have HMO := Lib.hid hmono; clear hmono
  generalize hfx : Am.feeF base rate out = fx at *
  generalize hfy : Am.feeF base rate less = fy at *
  obtain ⟨x1, x2⟩ := fx
  obtain ⟨y1, y2⟩ := fy
  simp only at hc
  have HFX := Lib.hid hfx; have HFY := Lib.hid hfy; clear hfx hfy
  have c1 := fee_ok w base rate out w (Below.refl _ _) hb hr ho
  have c2 := fun w1 h1 => fee_ok w base rate less w1 h1 hb hr hl
  rw [HFX.out] at c1; rw [HFY.out] at c2
  have C1 := Lib.hid c1; have C2 := Lib.hid c2; clear c1 c2
  have hE : Am.enough inn less base rate = false ∨ Am.enough inn less base rate = true ∧ Am.enough inn out base rate = true := by
    cases h : Am.enough inn less base rate
    · exact .inl rfl
    · exact .inr ⟨rfl, HMO.out h⟩
  have HE := Lib.hid hE; clear hE HMO
  go_enter Try.func5, Try.ntmps5
  go_wp2_with fail
  refine (C1.out).mono ?_
  rintro e w1 ⟨rfl, h1⟩
  go_wp2_with fail
  refine (C2.out w1 h1).mono ?_
  rintro e w2 ⟨rfl, h2⟩
  rcases hc with hc | ⟨hc, rfl, hle⟩
  all_goals
    rcases HE.out with hE | ⟨hE, hE'⟩
    · go_wp2_with fail
      refine (enough_ok w inn less base rate w2 h2 hi hl hb hr).mono ?_
      rintro e w3 ⟨rfl, h3⟩
      rw [hE]
      go_wp2_with fail
      refine (shown_ok w w3 h3).mono ?_
      rintro e w4 ⟨rfl, h4⟩
      go_wp2
      go_ret
      exact ⟨rfl, h4⟩
    · have H1 := Lib.hid hE; have H2 := Lib.hid hE'; clear hE hE'
      go_wp2_with fail
      refine (enough_ok w inn less base rate w2 h2 hi hl hb hr).mono ?_
      rintro e w3 ⟨rfl, h3⟩
      rw [H1.out]
      go_wp2_with fail
      refine (enough_ok w inn out base rate w3 h3 hi ho hb hr).mono ?_
      rintro e w4 ⟨rfl, h4⟩
      rw [H2.out]
      go_wp2_with fail
      refine (shown_ok w w4 h4).mono ?_
      rintro e w5 ⟨rfl, h5⟩
      go_wp2
      go_ret
      exact ⟨rfl, h5⟩

set_option maxHeartbeats 2000000 in
theorem rises_gt (inn out less base rate : Int) (w : World) (hi : U64 inn) (ho : U64 out) (hl : U64 less) (hb : U64 base) (hr : U64 rate) (hol : less < out) :
    Calls Try.prog 5 #[.int .u64 inn, .int .u64 out, .int .u64 less, .int .u64 base, .int .u64 rate] w (Fine w) := by
  have hc := rises_core base rate less out hr.lo hl.lo (Int.le_of_lt hol)
  have hmono : Am.enough inn out base rate = true → Am.enough inn less base rate = true := Am.enough_mono (Int.le_of_lt hol) hr.lo
  have HMO := Lib.hid hmono; clear hmono
  generalize hfx : Am.feeF base rate less = fx at *
  generalize hfy : Am.feeF base rate out = fy at *
  obtain ⟨x1, x2⟩ := fx
  obtain ⟨y1, y2⟩ := fy
  simp only at hc
  have HFX := Lib.hid hfx; have HFY := Lib.hid hfy; clear hfx hfy
  have c1 := fee_ok w base rate less w (Below.refl _ _) hb hr hl
  have c2 := fun w1 h1 => fee_ok w base rate out w1 h1 hb hr ho
  rw [HFX.out] at c1; rw [HFY.out] at c2
  have C1 := Lib.hid c1; have C2 := Lib.hid c2; clear c1 c2
  have hE : Am.enough inn out base rate = false ∨ Am.enough inn out base rate = true ∧ Am.enough inn less base rate = true := by
    cases h : Am.enough inn out base rate
    · exact .inl rfl
    · exact .inr ⟨rfl, HMO.out h⟩
  have HE := Lib.hid hE; clear hE HMO
  go_enter Try.func5, Try.ntmps5
  go_wp2_with fail
  refine (C1.out).mono ?_
  rintro e w1 ⟨rfl, h1⟩
  go_wp2_with fail
  refine (C2.out w1 h1).mono ?_
  rintro e w2 ⟨rfl, h2⟩
  rcases hc with hc | ⟨hc, rfl, hle⟩
  all_goals
    rcases HE.out with hE | ⟨hE, hE'⟩
    · go_wp2_with fail
      refine (enough_ok w inn out base rate w2 h2 hi ho hb hr).mono ?_
      rintro e w3 ⟨rfl, h3⟩
      rw [hE]
      go_wp2_with fail
      refine (shown_ok w w3 h3).mono ?_
      rintro e w4 ⟨rfl, h4⟩
      go_wp2
      go_ret
      exact ⟨rfl, h4⟩
    · have H1 := Lib.hid hE; have H2 := Lib.hid hE'; clear hE hE'
      go_wp2_with fail
      refine (enough_ok w inn out base rate w2 h2 hi ho hb hr).mono ?_
      rintro e w3 ⟨rfl, h3⟩
      rw [H1.out]
      go_wp2_with fail
      refine (enough_ok w inn less base rate w3 h3 hi hl hb hr).mono ?_
      rintro e w4 ⟨rfl, h4⟩
      rw [H2.out]
      go_wp2_with fail
      refine (shown_ok w w4 h4).mono ?_
      rintro e w5 ⟨rfl, h5⟩
      go_wp2
      go_ret
      exact ⟨rfl, h5⟩

set_option maxHeartbeats 2000000 in
theorem rises_eq (inn out base rate : Int) (w : World) (hi : U64 inn) (ho : U64 out) (hb : U64 base) (hr : U64 rate) :
    Calls Try.prog 5 #[.int .u64 inn, .int .u64 out, .int .u64 out, .int .u64 base, .int .u64 rate] w (Fine w) := by
  have hc := rises_core base rate out out hr.lo ho.lo (Int.le_refl _)
  have hmono : Am.enough inn out base rate = true → Am.enough inn out base rate = true := Am.enough_mono (Int.le_refl _) hr.lo
  have HMO := Lib.hid hmono; clear hmono
  generalize hfx : Am.feeF base rate out = fx at *
  obtain ⟨x1, x2⟩ := fx
  simp only at hc
  have HFX := Lib.hid hfx; have HFY := Lib.hid hfx; clear hfx
  have c1 := fee_ok w base rate out w (Below.refl _ _) hb hr ho
  have c2 := fun w1 h1 => fee_ok w base rate out w1 h1 hb hr ho
  rw [HFX.out] at c1; rw [HFY.out] at c2
  have C1 := Lib.hid c1; have C2 := Lib.hid c2; clear c1 c2
  have hE : Am.enough inn out base rate = false ∨ Am.enough inn out base rate = true ∧ Am.enough inn out base rate = true := by
    cases h : Am.enough inn out base rate
    · exact .inl rfl
    · exact .inr ⟨rfl, rfl⟩
  have HE := Lib.hid hE; clear hE HMO
  go_enter Try.func5, Try.ntmps5
  go_wp2_with fail
  refine (C1.out).mono ?_
  rintro e w1 ⟨rfl, h1⟩
  go_wp2_with fail
  refine (C2.out w1 h1).mono ?_
  rintro e w2 ⟨rfl, h2⟩
  rcases hc with hc | ⟨hc, rfl, hle⟩
  all_goals
    rcases HE.out with hE | ⟨hE, hE'⟩
    · go_wp2_with fail
      refine (enough_ok w inn out base rate w2 h2 hi ho hb hr).mono ?_
      rintro e w3 ⟨rfl, h3⟩
      rw [hE]
      go_wp2_with fail
      refine (shown_ok w w3 h3).mono ?_
      rintro e w4 ⟨rfl, h4⟩
      go_wp2
      go_ret
      exact ⟨rfl, h4⟩
    · have H1 := Lib.hid hE; have H2 := Lib.hid hE'; clear hE hE'
      go_wp2_with fail
      refine (enough_ok w inn out base rate w2 h2 hi ho hb hr).mono ?_
      rintro e w3 ⟨rfl, h3⟩
      rw [H1.out]
      go_wp2_with fail
      refine (enough_ok w inn out base rate w3 h3 hi ho hb hr).mono ?_
      rintro e w4 ⟨rfl, h4⟩
      rw [H2.out]
      go_wp2_with fail
      refine (shown_ok w w4 h4).mono ?_
      rintro e w5 ⟨rfl, h5⟩
      go_wp2
      go_ret
      exact ⟨rfl, h5⟩

theorem rises_walk (inn out less base rate : Int) (w : World) (hi : U64 inn) (ho : U64 out) (hl : U64 less) (hb : U64 base) (hr : U64 rate) :
    Calls Try.prog 5 #[.int .u64 inn, .int .u64 out, .int .u64 less, .int .u64 base, .int .u64 rate] w (Fine w) := by
  by_cases h1 : out < less
  · exact rises_lt inn out less base rate w hi ho hl hb hr h1
  by_cases h2 : less < out
  · exact rises_gt inn out less base rate w hi ho hl hb hr h2
  obtain rfl : out = less := by omega
  exact rises_eq inn out base rate w hi ho hb hr

theorem urow_three (w : World) (a b c : Int) (ha : U64 a) (hb : U64 b) (hc : U64 c) : URow (w.alloc (.cells #[.int .u64 a, .int .u64 b, .int .u64 c] 23)) (some ⟨w.heap.size, 0, none⟩) 3 [a, b, c] := by
  refine ⟨rfl, by omega, ?_, w.heap.size, 0, .inr rfl, fun j hj => ?_⟩
  · intro z hz
    simp at hz
    rcases hz with rfl | rfl | rfl
    · exact ⟨ha.lo, ha.hi⟩
    · exact ⟨hb.lo, hb.hi⟩
    · exact ⟨hc.lo, hc.hi⟩
  · have : j = 0 ∨ j = 1 ∨ j = 2 := by omega
    rcases this with rfl | rfl | rfl <;> go_simp

theorem urow_three' (w : World) (n : Nat) (hn : w.heap.size = n) (a b c : Int) (ha : U64 a) (hb : U64 b) (hc : U64 c) : URow (w.alloc (.cells #[.int .u64 a, .int .u64 b, .int .u64 c] 23)) (some ⟨n, 0, none⟩) 3 [a, b, c] := by
  subst hn; exact urow_three w a b c ha hb hc
theorem addF_yes {l : List Int} {x : Int} (e : l.sum = x) (h : x ≤ 1125899906842624) : Am.addF l = (x, 0) := by
  unfold Am.addF Am.mx; subst e; rw [if_pos h]
theorem addF_no {l : List Int} {x : Int} (e : l.sum = x) (h : ¬ x ≤ 1125899906842624) : Am.addF l = (0, 60) := by
  unfold Am.addF Am.mx; subst e; rw [if_neg h]

set_option maxHeartbeats 1000000 in
theorem parts_walk (a b c : Int) (w : World) (ha : U64 a) (hb : U64 b) (hc : U64 c) :
    Calls Try.prog 7 #[.int .u64 a, .int .u64 b, .int .u64 c] w (Fine w) := by
  have a0 := ha.lo
  have b0 := hb.lo
  have c0 := hc.lo
  by_cases hs : a + b + c ≤ 1125899906842624
  · have e1 := addF_yes (l := [a, b, c]) (x := a + b + c) (by simp; omega) hs
    have e2 := addF_yes (l := [c, a, b]) (x := a + b + c) (by simp; omega) hs
    have s1 := fun w => sub_any (a + b + c) c w (by omega) (by omega) c0
    have s2 := fun w => sub_any (a + b) b w (by omega) (by omega) b0
    simp only [show ¬ a + b + c < c by omega, show ¬ a + b < b by omega, if_false, show a + b + c - c = a + b by omega, show a + b - b = a by omega] at s1 s2
    have E1 := Lib.hid e1; have E2 := Lib.hid e2; have S1 := Lib.hid s1; have S2 := Lib.hid s2; clear e1 e2 s1 s2
    go_enter Try.func7, Try.ntmps7
    go_wp2_with fail
    refine (add_any _ 3 3 _ _ (urow_three _ a b c ha hb hc)).mono ?_
    rintro e w1 ⟨rfl, rfl⟩
    rw [E1.out]
    go_wp2_with fail
    refine (add_any _ 3 3 _ _ (urow_three' _ _ (by simp) c a b hc ha hb)).mono ?_
    rintro e w2 ⟨rfl, rfl⟩
    rw [E2.out]
    go_wp2_with fail
    refine (shown_any _).mono ?_
    rintro e w3 ⟨rfl, h3⟩
    go_wp2_with fail
    refine (S1.out _).mono ?_
    rintro e w4 ⟨rfl, rfl⟩
    go_wp2_with fail
    refine (S2.out _).mono ?_
    rintro e w5 ⟨rfl, rfl⟩
    go_wp2
    go_ret
    exact ⟨rfl, (((Below.refl _ _).alloc (Nat.le_refl _) _).alloc (by simp) _).trans (h3.mono (by simp; omega))⟩
  · have e1 := addF_no (l := [a, b, c]) (x := a + b + c) (by simp; omega) hs
    have e2 := addF_no (l := [c, a, b]) (x := a + b + c) (by simp; omega) hs
    have E1 := Lib.hid e1; have E2 := Lib.hid e2; clear e1 e2
    go_enter Try.func7, Try.ntmps7
    go_wp2_with fail
    refine (add_any _ 3 3 _ _ (urow_three _ a b c ha hb hc)).mono ?_
    rintro e w1 ⟨rfl, rfl⟩
    rw [E1.out]
    go_wp2_with fail
    refine (add_any _ 3 3 _ _ (urow_three' _ _ (by simp) c a b hc ha hb)).mono ?_
    rintro e w2 ⟨rfl, rfl⟩
    rw [E2.out]
    go_wp2_with fail
    refine (shown_any _).mono ?_
    rintro e w3 ⟨rfl, h3⟩
    go_wp2
    go_ret
    exact ⟨rfl, (((Below.refl _ _).alloc (Nat.le_refl _) _).alloc (by simp) _).trans (h3.mono (by simp; omega))⟩
end Go.Proofs.Ytnnnbgndbmcffaa
