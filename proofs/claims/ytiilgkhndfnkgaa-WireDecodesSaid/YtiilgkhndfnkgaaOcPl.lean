/- The bytes of numbers stand to one another as the numbers do: plain arithmetic; no conditions. -/
import Derived.Test.YtiilgkhndfnkgaaOcR
namespace Go.Proofs.Ytiilgkhndfnkgaa
set_option linter.unusedVariables false

theorem mod_mul_div {n P Q : Int} (hp : 0 < P) : n % (P * Q) / P = n / P % Q := by
  have h1 : n % (P * Q) = n + P * (-(Q * (n / P / Q))) := by
    rw [Int.emod_def, Int.ediv_ediv_of_nonneg (Int.le_of_lt hp), Int.mul_neg, ← Int.mul_assoc]; omega
  rw [h1, Int.add_mul_ediv_left _ _ (Int.ne_of_gt hp), Int.emod_def]; omega

theorem low_mod (n : Int) (k j : Nat) (h : j ≤ k) : low (n % 256 ^ k) j = low n j := by
  induction j with
  | zero => rfl
  | succ j ih =>
    simp only [low]
    rw [ih (by omega)]
    congr 1
    obtain ⟨d, rfl⟩ : ∃ d, k = j + 1 + d := ⟨k - j - 1, by omega⟩
    have hp : (0 : Int) < 256 ^ j := Int.pow_pos (by decide)
    have e : (256 : Int) ^ (j + 1 + d) = 256 ^ j * (256 * 256 ^ d) := by
      rw [Int.pow_add, Int.pow_succ, Int.mul_assoc]
    have e1 : n % 256 ^ (j + 1 + d) / 256 ^ j = n / 256 ^ j % (256 * 256 ^ d) := by
      rw [e, mod_mul_div hp]
    rw [e1, Int.emod_emod_of_dvd _ ⟨256 ^ d, rfl⟩]

def u8s (l : List Int) : List UInt8 := l.map fun n => UInt8.ofNat n.toNat

theorem u8_lt {x y : Int} (x0 : 0 ≤ x) (x1 : x < 256) (y0 : 0 ≤ y) (y1 : y < 256) : (UInt8.ofNat x.toNat < UInt8.ofNat y.toNat) ↔ x < y := by
  rw [UInt8.lt_iff_toNat_lt, UInt8.toNat_ofNat', UInt8.toNat_ofNat']; omega
theorem u8_eq {x y : Int} (x0 : 0 ≤ x) (x1 : x < 256) (y0 : 0 ≤ y) (y1 : y < 256) : (UInt8.ofNat x.toNat = UInt8.ofNat y.toNat) ↔ x = y := by
  rw [← UInt8.toNat_inj, UInt8.toNat_ofNat', UInt8.toNat_ofNat']; omega

theorem less_low (k : Nat) : ∀ A B : Int, 0 ≤ A → A < 256 ^ k → 0 ≤ B → B < 256 ^ k → Op.bytesLess (u8s (low A k)) (u8s (low B k)) = decide (A < B) := by
  induction k with
  | zero => intro A B a0 a1 b0 b1; simp at a1 b1; have : A = 0 := by omega
            have : B = 0 := by omega
            subst A B; decide
  | succ k ih =>
    intro A B a0 a1 b0 b1
    have hp : (0 : Int) < 256 ^ k := Int.pow_pos (by decide)
    rw [Int.pow_succ] at a1 b1
    have ra := Int.emod_nonneg A (Int.ne_of_gt hp)
    have ra' := Int.emod_lt_of_pos A hp
    have rb := Int.emod_nonneg B (Int.ne_of_gt hp)
    have rb' := Int.emod_lt_of_pos B hp
    have qa0 : 0 ≤ A / 256 ^ k := Int.ediv_nonneg a0 (Int.le_of_lt hp)
    have qb0 : 0 ≤ B / 256 ^ k := Int.ediv_nonneg b0 (Int.le_of_lt hp)
    have qa1 : A / 256 ^ k < 256 := Int.ediv_lt_of_lt_mul hp (by rw [Int.mul_comm]; exact a1)
    have qb1 : B / 256 ^ k < 256 := Int.ediv_lt_of_lt_mul hp (by rw [Int.mul_comm]; exact b1)
    have ea := Int.mul_ediv_add_emod A (256 ^ k)
    have eb := Int.mul_ediv_add_emod B (256 ^ k)
    have h := ih (A % 256 ^ k) (B % 256 ^ k) ra ra' rb rb'
    rw [low_mod A k k (Nat.le_refl _), low_mod B k k (Nat.le_refl _)] at h
    have ma : A / 256 ^ k % 256 = A / 256 ^ k := Int.emod_eq_of_lt qa0 qa1
    have mb : B / 256 ^ k % 256 = B / 256 ^ k := Int.emod_eq_of_lt qb0 qb1
    simp only [low, u8s, List.map_cons, Op.bytesLess, ma, mb]
    rw [show (low A k).map (fun n => UInt8.ofNat n.toNat) = u8s (low A k) from rfl, show (low B k).map (fun n => UInt8.ofNat n.toNat) = u8s (low B k) from rfl, h]
    generalize A / 256 ^ k = qa at *
    generalize B / 256 ^ k = qb at *
    generalize A % 256 ^ k = sa at *
    generalize B % 256 ^ k = sb at *
    generalize (256 : Int) ^ k = P at *
    have l1 := u8_lt qa0 qa1 qb0 qb1
    have l2 := u8_eq qa0 qa1 qb0 qb1
    rcases Int.lt_trichotomy qa qb with hq | hq | hq
    · have : P * (qa + 1) ≤ P * qb := Int.mul_le_mul_of_nonneg_left (by omega) (Int.le_of_lt hp)
      rw [Int.mul_add] at this
      have hlt : A < B := by omega
      simp [l1.2 hq, hlt]
    · subst hq
      have : ¬ (UInt8.ofNat qa.toNat < UInt8.ofNat qa.toNat) := by rw [l1]; omega
      simp only [this, decide_false, Bool.false_or, beq_self_eq_true, Bool.true_and, decide_eq_decide]
      omega
    · have : P * (qb + 1) ≤ P * qa := Int.mul_le_mul_of_nonneg_left (by omega) (Int.le_of_lt hp)
      rw [Int.mul_add] at this
      have hlt : ¬ A < B := by omega
      have n1 : ¬ (UInt8.ofNat qa.toNat < UInt8.ofNat qb.toNat) := by rw [l1]; omega
      have n2 : ¬ (UInt8.ofNat qa.toNat = UInt8.ofNat qb.toNat) := by rw [l2]; omega
      simp [n1, n2, hlt]
end Go.Proofs.Ytiilgkhndfnkgaa
