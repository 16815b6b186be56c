/- What Fee, Enough, the reference's functions and shown return, over the contracts below; the condition is that what came in lies in its kind's range. -/
import Derived.Test.YtnnnbgndbmcffaaAmFns
namespace Go.Proofs.Ytnnnbgndbmcffaa
open Go.RowKit

/-- a number of 64 bits -/
structure U64 (x : Int) : Prop where
  lo : 0 ≤ x
  hi : x ≤ 18446744073709551615

theorem below_drewN {B : Nat} {a w : World} (h : Below B a w) (n : Nat) : Below B a (w.drewN n) := ⟨h.os, h.tape, h.output, h.size, h.block⟩

theorem urow_two (w : World) (a b : Int) (ha : U64 a) (hb : U64 b) : URow (w.alloc (.cells #[.int .u64 a, .int .u64 b] 23)) (some ⟨w.heap.size, 0, none⟩) 2 [a, b] := by
  refine ⟨rfl, by omega, ?_, w.heap.size, 0, .inr rfl, fun j hj => ?_⟩
  · intro z hz
    simp at hz
    rcases hz with rfl | rfl
    · exact ⟨ha.lo, ha.hi⟩
    · exact ⟨hb.lo, hb.hi⟩
  · have : j = 0 ∨ j = 1 := by omega
    rcases this with rfl | rfl <;> go_simp

theorem addF_two (a b : Int) : Am.addF [a, b] = if a + b ≤ 1125899906842624 then (a + b, 0) else (0, 60) := by simp [Am.addF, Am.mx]

set_option maxRecDepth 100000 in
set_option maxHeartbeats 400000 in
theorem fee_any (base rate n : Int) (w : World) (hb : U64 base) (hr : U64 rate) (hn : U64 n) :
    Calls Try.prog 20 #[.int .u64 base, .int .u64 rate, .int .u64 n] w fun e w' => e = .returned (.tuple #[.int .u64 (Am.feeF base rate n).1, .int .i64 (Am.feeF base rate n).2]) ∧ Below w.heap.size w w' := by
  have hm := mul64_any n rate hn.lo hn.hi hr.lo hr.hi w
  have hp : 0 ≤ n * rate := Int.mul_nonneg hn.lo hr.lo
  have b0 := hb.lo
  have hf : Am.feeF base rate n = if base + n * rate / 1000000 ≤ 1125899906842624 then (base + n * rate / 1000000, 0) else (0, 60) := rfl
  rw [hf]; clear hf
  generalize n * rate = N at *
  have HM := Lib.hid hm; clear hm
  by_cases hbig : 1000000 ≤ N / 18446744073709551616
  · have hx : ¬ base + N / 1000000 ≤ 1125899906842624 := by omega
    rw [if_neg hx]; clear hx
    go_enter Try.func20, Try.ntmps20
    go_wp2_with fail
    refine (HM.out).mono ?_
    rintro e w' ⟨rfl, rfl⟩
    go_wp2_with fail
    go_ret2
    exact ⟨rfl, Below.refl _ _⟩
  · have hd := div_any (N / 18446744073709551616) (N % 18446744073709551616) w (by omega) (by omega) (by omega) (by omega)
    have e1 : N / 18446744073709551616 * 18446744073709551616 + N % 18446744073709551616 = N := by omega
    rw [e1] at hd; clear e1
    have hP : U64 (N / 1000000) := ⟨by omega, by omega⟩
    have q0 := hP.lo
    have q1 := hP.hi
    have he := addF_two base (N / 1000000)
    have hz : 0 ≤ N / 18446744073709551616 := by omega
    have HD := Lib.hid hd; have HE := Lib.hid he; clear hd he
    go_enter Try.func20, Try.ntmps20
    go_wp2_with fail
    refine (HM.out).mono ?_
    rintro e w' ⟨rfl, rfl⟩
    go_wp2_with fail
    refine (HD.out).mono ?_
    rintro e w' ⟨⟨r, rfl⟩, m, rfl⟩
    go_wp2_with fail
    refine (add_any _ 2 2 _ _ (urow_two _ base (N / 1000000) hb hP)).mono ?_
    rintro e w' ⟨rfl, rfl⟩
    rw [HE.out]
    go_wp2
    all_goals
      go_ret2
      exact ⟨rfl, below_drewN ((Below.refl _ _).alloc (Nat.le_refl _) _) _⟩

theorem ret_bool {a b : Bool} (h : a = b) : Ending.returned (.bool a) = .returned (.bool b) := by rw [h]

theorem feeF_two (base rate n : Int) : (Am.feeF base rate n).2 = 0 ∧ (Am.feeF base rate n).1 = base + n * rate / 1000000 ∧ base + n * rate / 1000000 ≤ 1125899906842624 ∨ (Am.feeF base rate n).2 = 60 ∧ (Am.feeF base rate n).1 = 0 ∧ 1125899906842624 < base + n * rate / 1000000 := by
  unfold Am.feeF Am.mx
  split
  · exact .inl ⟨rfl, rfl, by omega⟩
  · exact .inr ⟨rfl, rfl, by omega⟩

set_option maxHeartbeats 400000 in
theorem enough_any (inn out base rate : Int) (w : World) (hi : U64 inn) (ho : U64 out) (hb : U64 base) (hr : U64 rate) :
    Calls Try.prog 22 #[.int .u64 inn, .int .u64 out, .int .u64 base, .int .u64 rate] w fun e w' => e = .returned (.bool (Am.enough inn out base rate)) ∧ Below w.heap.size w w' := by
  have hm := fee_any base rate out w hb hr ho
  have b0 := hb.lo
  have o0 := ho.lo
  have i1 := hi.hi
  have hp : 0 ≤ out * rate := Int.mul_nonneg o0 hr.lo
  have hE : Am.enough inn out base rate = (decide (out + (base + out * rate / 1000000) ≤ inn) && decide (base + out * rate / 1000000 ≤ 1125899906842624)) := rfl
  rcases feeF_two base rate out with ⟨e2, e1, hle⟩ | ⟨e2, e1, hgt⟩
  · rw [e1, e2] at hm; clear e1 e2
    rw [hE]; clear hE
    have q0 : 0 ≤ out * rate / 1000000 := by omega
    clear hp
    generalize out * rate / 1000000 = q at *
    have HM := Lib.hid hm; clear hm
    by_cases hoi : out ≤ inn
    · have hres : (decide (out + (base + q) ≤ inn) && decide (base + q ≤ 1125899906842624)) = decide (base + q ≤ inn - out) := by rw [Bool.eq_iff_iff]; simp; omega
      rw [hres]; clear hres
      go_enter Try.func22, Try.ntmps22
      go_wp2_with fail
      refine (HM.out).mono ?_
      rintro e w' ⟨rfl, hw⟩
      go_wp2
      go_ret
      exact ⟨rfl, hw⟩
    · have hres : (decide (out + (base + q) ≤ inn) && decide (base + q ≤ 1125899906842624)) = false := by simp; omega
      rw [hres]; clear hres
      go_enter Try.func22, Try.ntmps22
      go_wp2_with fail
      refine (HM.out).mono ?_
      rintro e w' ⟨rfl, hw⟩
      go_wp2
      go_ret
      exact ⟨rfl, hw⟩
  · rw [e1, e2] at hm; clear e1 e2
    rw [hE]; clear hE hp
    generalize out * rate / 1000000 = q at *
    have hres : (decide (out + (base + q) ≤ inn) && decide (base + q ≤ 1125899906842624)) = false := by simp; omega
    rw [hres]; clear hres
    have HM := Lib.hid hm; clear hm
    go_enter Try.func22, Try.ntmps22
    go_wp2_with fail
    refine (HM.out).mono ?_
    rintro e w' ⟨rfl, hw⟩
    go_wp2
    go_ret
    exact ⟨rfl, hw⟩


theorem shown_any (w : World) : Calls Try.prog 21 #[] w fun e w' => e = .returned (.bool true) ∧ Below w.heap.size w w' := by
  have h := fee_any 1 1000 5999 w ⟨by omega, by omega⟩ ⟨by omega, by omega⟩ ⟨by omega, by omega⟩
  have e1 : (Am.feeF 1 1000 5999).1 = 6 := by decide
  have e2 : (Am.feeF 1 1000 5999).2 = 0 := by decide
  rw [e1, e2] at h
  have HM := Lib.hid h; clear h e1 e2
  go_enter Try.func21, Try.ntmps21
  go_wp2_with fail
  refine (HM.out).mono ?_
  rintro e w' ⟨rfl, hw⟩
  go_wp2
  go_ret
  exact ⟨rfl, hw⟩

/-! the reference -/
set_option maxRecDepth 100000 in
set_option maxHeartbeats 1000000 in
theorem times_any (n rate : Int) (w : World) (hn : U64 n) (hr : U64 rate) :
    Calls Try.prog 79 #[.int .u64 n, .int .u64 rate] w fun e w' => (∃ a b c d : Int, e = .returned (.tuple #[.int .u64 a, .int .u64 b, .int .u64 c, .int .u64 d]) ∧
      (0 ≤ a ∧ a ≤ 4294967295) ∧ (0 ≤ b ∧ b ≤ 4294967295) ∧ (0 ≤ c ∧ c ≤ 4294967295) ∧ (0 ≤ d ∧ d ≤ 4294967295) ∧ n * rate = a * 79228162514264337593543950336 + b * 18446744073709551616 + c * 4294967296 + d) ∧ w = w' := by
  obtain ⟨n0, n1⟩ := hn
  obtain ⟨r0, r1⟩ := hr
  obtain ⟨a, ha⟩ : ∃ a, a = n % 4294967296 := ⟨_, rfl⟩
  obtain ⟨b, hb⟩ : ∃ b, b = n / 4294967296 := ⟨_, rfl⟩
  obtain ⟨c, hc⟩ : ∃ c, c = rate % 4294967296 := ⟨_, rfl⟩
  obtain ⟨d, hd⟩ : ∃ d, d = rate / 4294967296 := ⟨_, rfl⟩
  obtain ⟨p, hp⟩ : ∃ p, p = a * c := ⟨_, rfl⟩
  obtain ⟨q, hq⟩ : ∃ q, q = b * c + p / 4294967296 := ⟨_, rfl⟩
  obtain ⟨r, hr⟩ : ∃ r, r = a * d + q % 4294967296 := ⟨_, rfl⟩
  obtain ⟨s, hs⟩ : ∃ s, s = b * d + q / 4294967296 + r / 4294967296 := ⟨_, rfl⟩
  obtain ⟨p0, p1, q0, q1, rr0, rr1, s0, s1, hN⟩ := Am.digits n0 n1 r0 r1 a b c d p q r s ha hb hc hd hp hq hr hs
  have a0 : 0 ≤ a := by omega
  have a1 : a ≤ 4294967295 := by omega
  have b0 : 0 ≤ b := by omega
  have b1 : b ≤ 4294967295 := by omega
  have c0 : 0 ≤ c := by omega
  have c1 : c ≤ 4294967295 := by omega
  have d0 : 0 ≤ d := by omega
  have d1 : d ≤ 4294967295 := by omega
  have bc0 : 0 ≤ b * c := Int.mul_nonneg b0 c0
  have bc1 : b * c ≤ 18446744073709551615 := by omega
  have ad0 : 0 ≤ a * d := Int.mul_nonneg a0 d0
  have ad1 : a * d ≤ 18446744073709551615 := by omega
  have bd0 : 0 ≤ b * d := Int.mul_nonneg b0 d0
  have bd1 : b * d ≤ 18446744073709551615 := by omega
  have bdq : b * d + q / 4294967296 ≤ 18446744073709551615 := by omega
  have hres : n * rate = s / 4294967296 * 79228162514264337593543950336 + s % 4294967296 * 18446744073709551616 + r % 4294967296 * 4294967296 + p % 4294967296 := by rw [hN]; omega
  have HR := Lib.hid hres
  have f1 : b * c + p / 4294967296 = q := hq.symm
  have f2 : a * d + q % 4294967296 = r := hr.symm
  have f3 : b * d + q / 4294967296 + r / 4294967296 = s := hs.symm
  have f4 : a * c = p := hp.symm
  have g1 : n % 4294967296 = a := ha.symm
  have g2 : n / 4294967296 = b := hb.symm
  have g3 : rate % 4294967296 = c := hc.symm
  have g4 : rate / 4294967296 = d := hd.symm
  have k1 : 0 ≤ s / 4294967296 ∧ s / 4294967296 ≤ 4294967295 := by omega
  have k2 : 0 ≤ s % 4294967296 ∧ s % 4294967296 ≤ 4294967295 := by omega
  have k3 : 0 ≤ r % 4294967296 ∧ r % 4294967296 ≤ 4294967295 := by omega
  have k4 : 0 ≤ p % 4294967296 ∧ p % 4294967296 ≤ 4294967295 := by omega
  have K := Lib.hid (And.intro k1 (And.intro k2 (And.intro k3 k4)))
  clear ha hb hc hd hp hq hr hs hN hres k1 k2 k3 k4
  go_enter Try.func79, Try.ntmps79
  go_wp2
  obtain ⟨k1, k2, k3, k4⟩ := K.out
  refine bodyPost_ret (v := .tuple #[.int .u64 (s / 4294967296), .int .u64 (s % 4294967296), .int .u64 (r % 4294967296), .int .u64 (p % 4294967296)]) ?_ rfl ⟨⟨_, _, _, _, rfl, k1, k2, k3, k4, HR.out⟩, rfl⟩
  simp [results, Try.results79, go_sem]

set_option maxRecDepth 100000 in
set_option maxHeartbeats 1000000 in
theorem share_any (n rate : Int) (w : World) (hn : U64 n) (hr : U64 rate) :
    Calls Try.prog 68 #[.int .u64 n, .int .u64 rate] w fun e w' => (n * rate / 1000000 ≤ 18446744073709551615 ∧ e = .returned (.tuple #[.int .u64 (n * rate / 1000000), .bool true]) ∨
      18446744073709551616 ≤ n * rate / 1000000 ∧ ∃ x : Int, e = .returned (.tuple #[.int .u64 x, .bool false])) ∧ w = w' := by
  have ht := times_any n rate w hn hr
  generalize n * rate = N at *
  have HT := Lib.hid ht; clear ht
  go_enter Try.func68, Try.ntmps68
  go_wp2_with fail
  refine (HT.out).mono ?_
  rintro e w' ⟨⟨a, b, c, d, rfl, ⟨a0, a1⟩, ⟨b0, b1⟩, ⟨c0, c1⟩, ⟨d0, d1⟩, hN⟩, rfl⟩
  obtain ⟨x, hx⟩ : ∃ x, x = a % 1000000 * 4294967296 := ⟨_, rfl⟩
  obtain ⟨y, hy⟩ : ∃ y, y = (x + b) % 1000000 * 4294967296 := ⟨_, rfl⟩
  obtain ⟨q1, hq1⟩ : ∃ q1, q1 = (x + b) / 1000000 := ⟨_, rfl⟩
  obtain ⟨z, hz⟩ : ∃ z, z = (y + c) % 1000000 * 4294967296 := ⟨_, rfl⟩
  obtain ⟨q2, hq2⟩ : ∃ q2, q2 = (y + c) / 1000000 := ⟨_, rfl⟩
  obtain ⟨q3, hq3⟩ : ∃ q3, q3 = (z + d) / 1000000 := ⟨_, rfl⟩
  obtain ⟨t1, t2, t3, t4, t5, t6, t7, t8, t9, t10, t11, hyes, hno⟩ := Am.share_ok N a b c d x y z q1 q2 q3 ⟨a0, a1⟩ ⟨b0, b1⟩ ⟨c0, c1⟩ ⟨d0, d1⟩ hN hx hy hq1 hz hq2 hq3
  have f1 : a % 1000000 * 4294967296 = x := hx.symm
  have f2 : (x + b) % 1000000 * 4294967296 = y := hy.symm
  have f3 : (x + b) / 1000000 = q1 := hq1.symm
  have f4 : (y + c) % 1000000 * 4294967296 = z := hz.symm
  have f5 : (y + c) / 1000000 = q2 := hq2.symm
  have f6 : (z + d) / 1000000 = q3 := hq3.symm
  have aM : 0 ≤ a / 1000000 := by omega
  have HY := Lib.hid hyes; have HN := Lib.hid hno
  clear hx hy hq1 hz hq2 hq3 hyes hno hN
  by_cases c1 : a / 1000000 = 0
  · by_cases c2 : q1 = 0
    · have g1 : (a / 1000000 == 0) = true := beq_iff_eq.2 c1
      have g2 : (q1 == 0) = true := beq_iff_eq.2 c2
      obtain ⟨hv, hle⟩ := HY.out ⟨c1, c2⟩
      have HV := Lib.hid hv
      clear c1 c2 HN hv HY
      go_wp2
      go_ret2
      exact ⟨.inl ⟨hle, by rw [← HV.out]; rfl⟩, rfl⟩
    · have g1 : (a / 1000000 == 0) = true := beq_iff_eq.2 c1
      have g2 : (q1 == 0) = false := beq_eq_false_iff_ne.2 c2
      have hge := HN.out fun h => c2 h.2
      clear c1 c2 HN HY
      go_wp2
      go_ret2
      exact ⟨.inr ⟨hge, _, rfl⟩, rfl⟩
  · have g1 : (a / 1000000 == 0) = false := beq_eq_false_iff_ne.2 c1
    have hge := HN.out fun h => c1 h.1
    clear c1 HN HY
    go_wp2
    go_ret2
    exact ⟨.inr ⟨hge, _, rfl⟩, rfl⟩
end Go.Proofs.Ytnnnbgndbmcffaa
