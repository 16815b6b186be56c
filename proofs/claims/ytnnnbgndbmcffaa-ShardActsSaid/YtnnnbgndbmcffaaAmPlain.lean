/- What the package amount and its reference compute, as plain functions on integers, and the arithmetic that the six laws of layer 6 need; no conditions. -/
namespace Go.Proofs.Ytnnnbgndbmcffaa.Am

/-- the greatest amount -/
def mx : Int := 1125899906842624
/-- what amounts come to, and the error -/
def addF (l : List Int) : Int × Int := if l.sum ≤ mx then (l.sum, 0) else (0, 60)
/-- the same, step by step, s being there already -/
def addL (s : Int) : List Int → Int × Int
  | [] => (s, 0)
  | n :: r => if mx - s < n then (0, 60) else addL (s + n) r
/-- the fee, and the error -/
def feeF (base rate n : Int) : Int × Int := if base + n * rate / 1000000 ≤ mx then (base + n * rate / 1000000, 0) else (0, 60)
/-- is it enough -/
def enough (inn out base rate : Int) : Bool := decide (out + (base + out * rate / 1000000) ≤ inn) && decide (base + out * rate / 1000000 ≤ mx)

theorem sum_nonneg {l : List Int} (h : ∀ z ∈ l, 0 ≤ z) : 0 ≤ l.sum := by
  induction l with
  | nil => simp
  | cons a r ih =>
    have h1 := h a (by simp)
    have h2 := ih fun z hz => h z (by simp [hz])
    simp only [List.sum_cons]; omega

theorem addL_eq {l : List Int} (h : ∀ z ∈ l, 0 ≤ z) (s : Int) (hs : s ≤ mx) : addL s l = if s + l.sum ≤ mx then (s + l.sum, 0) else (0, 60) := by
  induction l generalizing s with
  | nil => simp [addL, hs]
  | cons a r ih =>
    have h1 := h a (by simp)
    have hr : ∀ z ∈ r, 0 ≤ z := fun z hz => h z (by simp [hz])
    have h2 := sum_nonneg hr
    have e : (a :: r).sum = a + r.sum := List.sum_cons
    simp only [addL]
    by_cases hc : mx - s < a
    · rw [if_pos hc, if_neg (by rw [e]; omega)]
    · rw [if_neg hc, ih hr (s + a) (by omega)]
      by_cases hq : s + a + r.sum ≤ mx
      · rw [if_pos hq, if_pos (by rw [e]; omega), e, ← Int.add_assoc]
      · rw [if_neg hq, if_neg (by rw [e]; omega)]

theorem addL_addF {l : List Int} (h : ∀ z ∈ l, 0 ≤ z) : addL 0 l = addF l := by
  rw [addL_eq h 0 (by decide)]; simp [addF]

theorem addF_le {l : List Int} (h : ∀ z ∈ l, 0 ≤ z) : 0 ≤ (addF l).1 ∧ (addF l).1 ≤ mx ∧ ((addF l).2 = 0 ∨ (addF l).2 = 60) := by
  have := sum_nonneg h
  unfold addF; split <;> simp <;> first | omega | (unfold mx; omega)

theorem fee_ge {base rate n : Int} (hb : 0 ≤ base) (hr : 0 ≤ rate) (hn : 0 ≤ n) : 0 ≤ (feeF base rate n).1 ∧ (feeF base rate n).1 ≤ mx := by
  have : 0 ≤ n * rate := Int.mul_nonneg hn hr
  unfold feeF; split
  · simp only; omega
  · simp [mx]

theorem mul_mono {a b r : Int} (h : a ≤ b) (hr : 0 ≤ r) : a * r ≤ b * r := Int.mul_le_mul_of_nonneg_right h hr

theorem enough_mono {inn a b base rate : Int} (hab : a ≤ b) (hr : 0 ≤ rate) (h : enough inn b base rate = true) : enough inn a base rate = true := by
  have := mul_mono hab hr
  simp only [enough, Bool.and_eq_true, decide_eq_true_eq] at *
  omega

/-- the reference's way to the share -/
theorem digits {n rate : Int} (hn : 0 ≤ n) (hn' : n ≤ 18446744073709551615) (hr : 0 ≤ rate) (hr' : rate ≤ 18446744073709551615) :
    ∀ a b c d p q r s : Int, a = n % 4294967296 → b = n / 4294967296 → c = rate % 4294967296 → d = rate / 4294967296 → p = a * c → q = b * c + p / 4294967296 → r = a * d + q % 4294967296 → s = b * d + q / 4294967296 + r / 4294967296 →
      0 ≤ p ∧ p ≤ 18446744065119617025 ∧ 0 ≤ q ∧ q ≤ 18446744073709551615 ∧ 0 ≤ r ∧ r ≤ 18446744073709551615 ∧ 0 ≤ s ∧ s ≤ 18446744073709551615 ∧ n * rate = s * 18446744073709551616 + (r % 4294967296) * 4294967296 + p % 4294967296 := by
  intro a b c d p q r s ea eb ec ed ep eq er es
  have ha : 0 ≤ a ∧ a ≤ 4294967295 := by omega
  have hb : 0 ≤ b ∧ b ≤ 4294967295 := by omega
  have hc : 0 ≤ c ∧ c ≤ 4294967295 := by omega
  have hd : 0 ≤ d ∧ d ≤ 4294967295 := by omega
  have up : ∀ x y : Int, 0 ≤ x ∧ x ≤ 4294967295 → 0 ≤ y ∧ y ≤ 4294967295 → 0 ≤ x * y ∧ x * y ≤ 18446744065119617025 := by
    intro x y hx hy
    refine ⟨Int.mul_nonneg hx.1 hy.1, ?_⟩
    have h1 : x * y ≤ 4294967295 * y := Int.mul_le_mul_of_nonneg_right hx.2 hy.1
    have h2 : 4294967295 * y ≤ 4294967295 * 4294967295 := Int.mul_le_mul_of_nonneg_left hy.2 (by decide)
    omega
  have hac := up a c ha hc
  have hbc := up b c hb hc
  have had := up a d ha hd
  have hbd := up b d hb hd
  have en : n = b * 4294967296 + a := by omega
  have er' : rate = d * 4294967296 + c := by omega
  have hmul : n * rate = b * d * 18446744073709551616 + (b * c + a * d) * 4294967296 + a * c := by
    rw [en, er']
    simp only [Int.add_mul, Int.mul_add]
    have e1 : b * 4294967296 * (d * 4294967296) = b * d * 18446744073709551616 := by
      rw [Int.mul_assoc, ← Int.mul_assoc 4294967296 d, Int.mul_comm 4294967296 d, Int.mul_assoc d, ← Int.mul_assoc b d]; rfl
    have e2 : b * 4294967296 * c = b * c * 4294967296 := by rw [Int.mul_assoc, Int.mul_comm 4294967296 c, ← Int.mul_assoc]
    have e3 : a * (d * 4294967296) = a * d * 4294967296 := by rw [← Int.mul_assoc]
    rw [e1, e2, e3]; omega
  rw [hmul]
  generalize a * c = u1 at *
  generalize b * c = u2 at *
  generalize a * d = u3 at *
  generalize b * d = u4 at *
  omega

theorem share_ok (N a b c d x y z q1 q2 q3 : Int) (ha : 0 ≤ a ∧ a ≤ 4294967295) (hb : 0 ≤ b ∧ b ≤ 4294967295) (hc : 0 ≤ c ∧ c ≤ 4294967295) (hd : 0 ≤ d ∧ d ≤ 4294967295)
    (hN : N = a * 79228162514264337593543950336 + b * 18446744073709551616 + c * 4294967296 + d)
    (ex : x = a % 1000000 * 4294967296) (ey : y = (x + b) % 1000000 * 4294967296) (e1 : q1 = (x + b) / 1000000) (ez : z = (y + c) % 1000000 * 4294967296) (e2 : q2 = (y + c) / 1000000) (e3 : q3 = (z + d) / 1000000) :
    0 ≤ x ∧ x + b ≤ 4294967296000000 ∧ 0 ≤ y ∧ y + c ≤ 4294967296000000 ∧ 0 ≤ z ∧ z + d ≤ 4294967296000000 ∧ 0 ≤ q1 ∧ 0 ≤ q2 ∧ q2 ≤ 4294967295 ∧ 0 ≤ q3 ∧ q3 ≤ 4294967295 ∧
    ((a / 1000000 = 0 ∧ q1 = 0 → q2 * 4294967296 + q3 = N / 1000000 ∧ N / 1000000 ≤ 18446744073709551615) ∧ (¬(a / 1000000 = 0 ∧ q1 = 0) → 18446744073709551616 ≤ N / 1000000)) := by
  have key : N / 1000000 = a / 1000000 * 79228162514264337593543950336 + q1 * 18446744073709551616 + q2 * 4294967296 + q3 := by omega
  have hq1 : 0 ≤ q1 := by omega
  have hq2 : 0 ≤ q2 ∧ q2 ≤ 4294967295 := by omega
  have hq3 : 0 ≤ q3 ∧ q3 ≤ 4294967295 := by omega
  refine ⟨by omega, by omega, by omega, by omega, by omega, by omega, hq1, hq2.1, hq2.2, hq3.1, hq3.2, fun h => by omega, fun h => by omega⟩

/-- math/bits.Div64 by a million: the text's own steps -/
theorem div_steps (hi lo : Int) :
    (((hi * 17592186044416 + lo / 1048576) * 4294967296 + lo * 17592186044416 % 18446744073709551616 / 4294967296 - (hi * 17592186044416 + lo / 1048576) / 4096000000 * 17592186044416000000) / 4096000000
      + (hi * 17592186044416 + lo / 1048576) / 4096000000 * 4294967296 = (hi * 18446744073709551616 + lo) / 1000000) := by
  omega
end Go.Proofs.Ytnnnbgndbmcffaa.Am
