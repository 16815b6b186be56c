/- The plain laws of secrets: places, bits, and walks by way of a number between; no program, no conditions of their own. -/
import Derived.Test.YtpfcalamchdciaaDoorSdB
import Derived.Test.YtpfcalamchdciaaDoorScPlain
namespace Go.Proofs.YtpfcalamchdciaaDoor
set_option linter.unusedVariables false

theorem pl_low {x b : Nat} (h : x < 65536) (hb : b < Sc.pl x) : x / 2 ^ b % 2 = 0 := by
  obtain ⟨k, hk, _⟩ := Sc.pl_spec h
  obtain ⟨d, hd⟩ : ∃ d, Sc.pl x = b + (d + 1) := ⟨Sc.pl x - b - 1, by omega⟩
  rw [hd, Nat.pow_add, Nat.mul_assoc] at hk
  have : x / 2 ^ b = 2 ^ (d + 1) * k := by rw [hk]; exact Nat.mul_div_cancel_left _ (Nat.two_pow_pos b)
  rw [this, Nat.pow_succ, Nat.mul_right_comm, Nat.mul_mod_left]
theorem pl_top {x : Nat} (h : x < 65536) (hp : Sc.pl x < 16) : x / 2 ^ Sc.pl x % 2 = 1 := by
  have h0 : x ≠ 0 := fun e => by subst e; rw [Sc.pl_zero] at hp; omega
  obtain ⟨m, hm, hk⟩ := Lib.ctzFrom_spec 64 x (by omega) (by omega)
  have hc : Lib.ctz 64 x = Lib.ctzFrom 64 x := by unfold Lib.ctz; rw [if_neg h0]
  have e : Sc.pl x = Lib.ctzFrom 64 x := by unfold Sc.pl at *; omega
  rw [e]
  have : x / 2 ^ Lib.ctzFrom 64 x = 2 * m + 1 := by
    conv => lhs; lhs; rw [hm]
    exact Nat.mul_div_cancel_left _ (Nat.two_pow_pos _)
  rw [this]; omega
theorem pl_uniq {x p : Nat} (h : x < 65536) (hp : p ≤ 16) (h0 : ∀ b, b < p → x / 2 ^ b % 2 = 0) (h1 : p = 16 ∨ x / 2 ^ p % 2 = 1) : p = Sc.pl x := by
  have hl := Sc.pl_le x
  rcases Nat.lt_trichotomy p (Sc.pl x) with hlt | he | hgt
  · rcases h1 with h1 | h1
    · omega
    · have := pl_low h hlt; omega
  · exact he
  · have a := pl_top h (by omega)
    have b := h0 _ hgt
    omega
theorem bits_eq {x y : Nat} (hx : x < 65536) (hy : y < 65536) : ∀ d p, p + d = 16 → (∀ b, p ≤ b → b < 16 → x / 2 ^ b % 2 = y / 2 ^ b % 2) → x / 2 ^ p = y / 2 ^ p
  | 0, p, hd, _ => by
    have : p = 16 := by omega
    subst this
    omega
  | d + 1, p, hd, h => by
    have ih := bits_eq hx hy d (p + 1) (by omega) (fun b h1 h2 => h b (by omega) h2)
    have hb := h p (Nat.le_refl _) (by omega)
    rw [Nat.pow_succ, ← Nat.div_div_eq_div_mul, ← Nat.div_div_eq_div_mul] at ih
    omega
theorem eq_bits {x y p : Nat} (h : x / 2 ^ p = y / 2 ^ p) (b : Nat) (hb : p ≤ b) : x / 2 ^ b % 2 = y / 2 ^ b % 2 := by
  obtain ⟨d, rfl⟩ : ∃ d, b = p + d := ⟨b - p, by omega⟩
  rw [Nat.pow_add, ← Nat.div_div_eq_div_mul, ← Nat.div_div_eq_div_mul, h]

theorem onesL_split (y p d : Nat) (hpd : p ≤ d) : ∀ j, j ≤ p → onesL y d ((d - p) + j) = onesL y d (d - p) ++ onesL y p j
  | 0, _ => by simp [onesL]
  | j + 1, h => by
    have ih := onesL_split y p d hpd j (by omega)
    show onesL y d ((d - p + j) + 1) = _
    have e : d - 1 - (d - p + j) = p - 1 - j := by omega
    show onesL y d (d - p + j) ++ (if y / 2 ^ (d - 1 - (d - p + j)) % 2 = 1 then [d - 1 - (d - p + j)] else []) = onesL y d (d - p) ++ (onesL y p j ++ (if y / 2 ^ (p - 1 - j) % 2 = 1 then [p - 1 - j] else []))
    rw [ih, e, List.append_assoc]
theorem onesL_all (y p d : Nat) (hpd : p ≤ d) : onesL y d d = onesL y d (d - p) ++ onesL y p p := by
  have := onesL_split y p d hpd p (Nat.le_refl _)
  rw [show d - p + p = d by omega] at this
  exact this
theorem onesL_same {x y p d : Nat} (h : ∀ b, p ≤ b → b < d → x / 2 ^ b % 2 = y / 2 ^ b % 2) : ∀ j, j ≤ d - p → onesL x d j = onesL y d j
  | 0, _ => rfl
  | j + 1, hj => by
    have ih := onesL_same h j (by omega)
    have e := h (d - 1 - j) (by omega) (by omega)
    show onesL x d j ++ (if x / 2 ^ (d - 1 - j) % 2 = 1 then [d - 1 - j] else []) = onesL y d j ++ (if y / 2 ^ (d - 1 - j) % 2 = 1 then [d - 1 - j] else [])
    rw [ih, e]
theorem onesL_none {x p : Nat} (h : ∀ b, b < p → x / 2 ^ b % 2 = 0) : ∀ j, j ≤ p → onesL x p j = []
  | 0, _ => rfl
  | j + 1, hj => by
    have ih := onesL_none h j (by omega)
    have e := h (p - 1 - j) (by omega)
    show onesL x p j ++ (if x / 2 ^ (p - 1 - j) % 2 = 1 then [p - 1 - j] else []) = []
    rw [ih, e]; rfl
theorem walk_via (F : Nat → Nat) {x y p d : Nat} (hpd : p ≤ d) (h0 : ∀ b, b < p → x / 2 ^ b % 2 = 0) (h1 : ∀ b, p ≤ b → b < d → x / 2 ^ b % 2 = y / 2 ^ b % 2) :
    walkH (walkH F x d) y p = walkH F y d := by
  unfold walkH
  rw [onesL_all x p d hpd, onesL_all y p d hpd, onesL_none h0 p (Nat.le_refl _), List.append_nil, List.foldl_append, onesL_same h1 (d - p) (Nat.le_refl _)]

theorem can_iff {x y : Nat} (hx : x < 65536) (hy : y < 65536) : can (x : Int) (y : Int) = true ↔ x / 2 ^ Sc.pl x = y / 2 ^ Sc.pl x := by
  have h1 : isN (x : Int) = true := by simp [isN]; omega
  have h2 : isN (y : Int) = true := by simp [isN]; omega
  have h3 : place (x : Int) = Sc.pl x := by unfold place; rw [h1]; rfl
  unfold can
  rw [h1, h2, h3, show ((2 : Int) ^ Sc.pl x) = ((2 ^ Sc.pl x : Nat) : Int) by simp]
  simp only [Bool.true_and, beq_iff_eq]
  rw [← Int.natCast_ediv, ← Int.natCast_ediv]
  omega
theorem can_lt {x y : Int} (h : can x y = true) : ∃ a b : Nat, x = a ∧ y = b ∧ a < 65536 ∧ b < 65536 := by
  unfold can at h
  simp only [Bool.and_eq_true, isN, decide_eq_true_eq] at h
  exact ⟨x.toNat, y.toNat, by omega, by omega, by omega, by omega⟩
theorem derives {x y : Nat} (hx : x < 65536) (hy : y < 65536) (h : can (x : Int) (y : Int) = true) (F : Nat → Nat) : walkH (walkH F x 16) y (Sc.pl x) = walkH F y 16 :=
  walk_via F (Sc.pl_le x) (fun b hb => pl_low hx hb) (fun b hb _ => eq_bits ((can_iff hx hy).1 h) b hb)
theorem pl_mono {x y : Nat} (hx : x < 65536) (hy : y < 65536) (h : can (x : Int) (y : Int) = true) : Sc.pl y ≤ Sc.pl x := by
  apply Nat.le_of_not_lt
  intro hlt
  have e := (can_iff hx hy).1 h
  have a := pl_top hx (by have := Sc.pl_le y; omega)
  have b := pl_low hy hlt
  rw [e] at a; omega
theorem can_trans {x y z : Nat} (hx : x < 65536) (hy : y < 65536) (hz : z < 65536) (h : can (x : Int) (y : Int) = true) (k : can (y : Int) (z : Int) = true) : can (x : Int) (z : Int) = true := by
  refine (can_iff hx hz).2 ?_
  have e1 := (can_iff hx hy).1 h
  have e2 := (can_iff hy hz).1 k
  have hm := pl_mono hx hy h
  rw [e1]
  obtain ⟨d, hd⟩ : ∃ d, Sc.pl x = Sc.pl y + d := ⟨Sc.pl x - Sc.pl y, by omega⟩
  rw [hd, Nat.pow_add, ← Nat.div_div_eq_div_mul, ← Nat.div_div_eq_div_mul, e2]
theorem far {x y z : Nat} (hx : x < 65536) (hy : y < 65536) (hz : z < 65536) (h : can (x : Int) (y : Int) = true) (k : can (y : Int) (z : Int) = true) (F : Nat → Nat) : walkH (walkH F y (Sc.pl x)) z (Sc.pl y) = walkH F z (Sc.pl x) :=
  walk_via F (pl_mono hx hy h) (fun b hb => pl_low hy hb) (fun b hb _ => eq_bits ((can_iff hy hz).1 k) b hb)
theorem walk_zero (F : Nat → Nat) : walkH F 0 16 = F := by
  unfold walkH
  rw [onesL_none (fun b _ => by simp) 16 (Nat.le_refl _)]; rfl
theorem pl_pos {x : Nat} (h : x < 65536) (h0 : x ≠ 0) : Sc.pl x < 16 := by
  have hl := Sc.pl_le x
  rcases Nat.lt_or_ge (Sc.pl x) 16 with h1 | h1
  · exact h1
  · obtain ⟨k, hk, _⟩ := Sc.pl_spec h
    rw [show Sc.pl x = 16 by omega] at hk
    omega
theorem steps {x : Nat} (h : x < 65536) (h0 : x ≠ 0) (F : Nat → Nat) : 2 ^ Sc.pl x ≤ x ∧ walkH F x 16 = ofH (flipH (walkH F (x - 2 ^ Sc.pl x) 16) (Sc.pl x)) := by
  have hp := pl_pos h h0
  have ht := pl_top h hp
  obtain ⟨k, hk, _⟩ := Sc.pl_spec h
  have hl := fun b hb => pl_low (b := b) h hb
  generalize Sc.pl x = p at *
  have hpos := Nat.two_pow_pos p
  have hk2 : k % 2 = 1 := by
    have : x / 2 ^ p = k := by rw [hk]; exact Nat.mul_div_cancel_left _ hpos
    rw [this] at ht; exact ht
  obtain ⟨m, rfl⟩ : ∃ m, k = 2 * m + 1 := ⟨k / 2, by omega⟩
  have hx' : x - 2 ^ p = 2 ^ (p + 1) * m := by rw [hk, Nat.mul_add, Nat.mul_one, Nat.add_sub_cancel, Nat.pow_succ, Nat.mul_assoc]
  refine ⟨by rw [hk]; exact Nat.le_mul_of_pos_right _ (by omega), ?_⟩
  rw [hx']
  have z : ∀ b, b < p + 1 → 2 ^ (p + 1) * m / 2 ^ b % 2 = 0 := fun b hb => by
    obtain ⟨d, hd⟩ : ∃ d, p + 1 = b + (d + 1) := ⟨p - b, by omega⟩
    rw [hd, Nat.pow_add, Nat.mul_assoc, Nat.mul_div_cancel_left _ (Nat.two_pow_pos b), Nat.pow_succ, Nat.mul_right_comm, Nat.mul_mod_left]
  have up : x / 2 ^ (p + 1) = 2 ^ (p + 1) * m / 2 ^ (p + 1) := by
    rw [Nat.mul_div_cancel_left _ (Nat.two_pow_pos _), Nat.pow_succ, ← Nat.div_div_eq_div_mul]
    have : x / 2 ^ p = 2 * m + 1 := by rw [hk]; exact Nat.mul_div_cancel_left _ hpos
    rw [this]; omega
  unfold walkH
  rw [onesL_all (2 ^ (p + 1) * m) (p + 1) 16 (by omega), onesL_none z (p + 1) (Nat.le_refl _), List.append_nil, onesL_all x p 16 (by omega), onesL_none hl p (Nat.le_refl _), List.append_nil]
  have e : 16 - p = (16 - (p + 1)) + 1 := by omega
  have e2 : 16 - 1 - (16 - (p + 1)) = p := by omega
  rw [e, onesL_yes (by rw [e2]; exact ht), e2, List.foldl_append, onesL_same (fun b hb _ => eq_bits up b hb) _ (Nat.le_refl _)]
  rfl
end Go.Proofs.YtpfcalamchdciaaDoor
