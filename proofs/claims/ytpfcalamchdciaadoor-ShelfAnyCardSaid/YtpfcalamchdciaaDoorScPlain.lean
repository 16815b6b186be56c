/- The arithmetic of the numbers of secrets: places, and what can be told of what; no conditions. -/
import Derived.Lib.TrailingZeros
namespace Go.Proofs.YtpfcalamchdciaaDoor.Sc

/-- how many of the lowest bits are 0, 16 at the most -/
def pl (x : Nat) : Nat := min (Lib.ctz 64 x) 16

theorem pl_le (x : Nat) : pl x ≤ 16 := Nat.min_le_right _ _
theorem pl_zero : pl 0 = 16 := by decide

theorem pl_spec {x : Nat} (h : x < 65536) : ∃ k, x = 2 ^ pl x * k ∧ 2 ^ pl x * (k + 1) ≤ 65536 := by
  by_cases h0 : x = 0
  · subst h0; exact ⟨0, by simp, by rw [pl_zero]; decide⟩
  · obtain ⟨m, hm, hk⟩ := Lib.ctzFrom_spec 64 x (by omega) (by omega)
    have hc : Lib.ctz 64 x = Lib.ctzFrom 64 x := by unfold Lib.ctz; rw [if_neg h0]
    have h16 : Lib.ctzFrom 64 x < 16 := by
      apply Nat.lt_of_not_le; intro hle
      have h1 : 2 ^ 16 ≤ 2 ^ Lib.ctzFrom 64 x := Nat.pow_le_pow_right (by decide) hle
      have h2 : 2 ^ Lib.ctzFrom 64 x ≤ 2 ^ Lib.ctzFrom 64 x * (2 * m + 1) := Nat.le_mul_of_pos_right _ (by omega)
      rw [← hm] at h2
      omega
    have hp : pl x = Lib.ctzFrom 64 x := by unfold pl; rw [hc]; omega
    rw [hp]
    refine ⟨2 * m + 1, hm, ?_⟩
    generalize Lib.ctzFrom 64 x = p at *
    obtain ⟨d, hd⟩ : ∃ d, 16 = p + (d + 1) := ⟨15 - p, by omega⟩
    have hb : 2 * m + 1 < 2 ^ (d + 1) := by
      have : 2 ^ p * (2 * m + 1) < 2 ^ p * 2 ^ (d + 1) := by rw [← hm, ← Nat.pow_add, ← hd]; exact h
      exact Nat.lt_of_mul_lt_mul_left this
    have e : (65536 : Nat) = 2 ^ p * 2 ^ (d + 1) := by rw [← Nat.pow_add, ← hd]
    rw [e]
    exact Nat.mul_le_mul_left _ hb

/-- what x can tell: from x on, as many as its place has -/
theorem tell_iff {x y : Nat} (hx : x < 65536) : (x / 2 ^ pl x = y / 2 ^ pl x) ↔ (x ≤ y ∧ y < x + 2 ^ pl x) := by
  obtain ⟨k, hk, _⟩ := pl_spec hx
  have hpos : 0 < 2 ^ pl x := Nat.two_pow_pos _
  generalize 2 ^ pl x = P at *
  have e : x / P = k := by rw [hk]; exact Nat.mul_div_cancel_left k hpos
  rw [e]
  constructor
  · intro h
    have h1 := Nat.div_mul_le_self y P
    have h2 := Nat.lt_div_mul_add (a := y) hpos
    rw [← h, Nat.mul_comm] at h1 h2
    omega
  · rintro ⟨h1, h2⟩
    symm
    rw [Nat.div_eq_iff hpos]
    rw [Nat.mul_comm] at hk
    constructor <;> omega

theorem tell_top {x : Nat} (hx : x < 65536) : x + 2 ^ pl x ≤ 65536 := by
  obtain ⟨k, hk, h⟩ := pl_spec hx
  rw [Nat.mul_add, ← hk] at h; omega

/-- two multiples of P: the lesser and P are at most the greater -/
theorem mult_lt {P a b : Nat} (h : P * a < P * b) : P * a + P ≤ P * b := by
  have h1 : a < b := Nat.lt_of_mul_lt_mul_left h
  have h2 : P * (a + 1) ≤ P * b := Nat.mul_le_mul_left P h1
  rw [Nat.mul_add] at h2; omega

theorem tell_trans {x y z : Nat} (hx : x < 65536) (hy : y < 65536) (h1 : x ≤ y ∧ y < x + 2 ^ pl x) (h2 : y ≤ z ∧ z < y + 2 ^ pl y) : x ≤ z ∧ z < x + 2 ^ pl x := by
  refine ⟨by omega, ?_⟩
  by_cases he : y = x
  · subst he; exact h2.2
  obtain ⟨k, hk, _⟩ := pl_spec hx
  obtain ⟨l, hl, _⟩ := pl_spec hy
  generalize hp : pl x = p at *
  generalize hq : pl y = q at *
  by_cases hpq : q ≤ p
  · obtain ⟨d, rfl⟩ : ∃ d, p = q + d := ⟨p - q, by omega⟩
    have e : x + 2 ^ (q + d) = 2 ^ q * (2 ^ d * (k + 1)) := by
      rw [← Nat.mul_assoc, ← Nat.pow_add, Nat.mul_add, ← hk]; omega
    have h3 : 2 ^ q * l < 2 ^ q * (2 ^ d * (k + 1)) := by rw [← hl, ← e]; exact h1.2
    have h4 := mult_lt h3
    rw [← hl, ← e] at h4
    omega
  · obtain ⟨d, rfl⟩ : ∃ d, q = p + d := ⟨q - p, by omega⟩
    have e : y = 2 ^ p * (2 ^ d * l) := by rw [← Nat.mul_assoc, ← Nat.pow_add]; exact hl
    have h3 : 2 ^ p * k < 2 ^ p * (2 ^ d * l) := by rw [← hk, ← e]; omega
    have h4 := mult_lt h3
    rw [← hk, ← e] at h4
    omega
end Go.Proofs.YtpfcalamchdciaaDoor.Sc
