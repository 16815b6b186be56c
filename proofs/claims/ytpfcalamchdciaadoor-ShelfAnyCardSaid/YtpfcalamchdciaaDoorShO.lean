/- Plain words for ShelfOther: a shelf with one secret, told another; no conditions. -/
import Derived.Test.YtpfcalamchdciaaDoorShG
namespace Go.Proofs.YtpfcalamchdciaaDoor
open Go.RowKit
set_option linter.unusedVariables false

theorem i64_or1 {x : Nat} (hx : x < 65536) : bits .or .i64 (x : Int) 1 = ((x ||| 1 : Nat) : Int) := by
  have h1 : (BitVec.ofInt 64 1).toNat = 1 := by decide
  have hlt : x ||| 1 < 65536 := Nat.or_lt_two_pow (n := 16) (by omega) (by decide)
  have h2 : ((x : Int) % ((2 ^ 64 : Nat) : Int)).toNat = x := by omega
  have key : (BitVec.ofInt 64 (x : Int) ||| BitVec.ofInt 64 1).toNat = x ||| 1 := by
    rw [BitVec.toNat_or, BitVec.toNat_ofInt, h1, h2]
  show IntKind.i64.wrap ((BitVec.ofInt 64 (x : Int) ||| BitVec.ofInt 64 1).toNat : Nat) = _
  rw [key, IntKind.wrap_i64]
  omega
theorem or1_odd (x : Nat) : (x ||| 1) % 2 = 1 := by
  have h := Nat.or_mod_two_pow (a := x) (b := 1) (n := 1)
  rw [show (2 : Nat) ^ 1 = 2 from rfl] at h
  rw [h]
  rcases Nat.mod_two_eq_zero_or_one x with e | e <;> rw [e] <;> rfl
theorem pl_odd {y : Nat} (hy : y < 65536) (h : y % 2 = 1) : Sc.pl y = 0 := by
  refine (pl_uniq hy (by decide) (fun b hb => absurd hb (Nat.not_lt_zero _)) (.inr ?_)).symm
  rw [Nat.pow_zero, Nat.div_one]; exact h
theorem pl_even {y : Nat} (hy : y < 65536) (h : y % 2 = 0) : 0 < Sc.pl y := by
  apply Nat.pos_of_ne_zero
  intro e
  have := pl_top hy (by rw [e]; decide)
  rw [e, Nat.pow_zero, Nat.div_one] at this
  omega
def oneE (F : Nat → Nat) (y : Nat) : Nat → Ent := putE (fun _ => none0) 0 (ent F y)
theorem oneE_0 (F : Nat → Nat) (y : Nat) : oneE F y 0 = ent F y := by unfold oneE putE; rw [if_pos rfl]
theorem oneE_s (F : Nat → Nat) (y b : Nat) (h : b ≠ 0) : oneE F y b = none0 := by unfold oneE putE; rw [if_neg h]
section
variable {F O : Nat → Nat} {y : Nat}
theorem can_before (hy : y < 65536) (h : y % 2 = 1) : can ((y - 1 : Nat) : Int) (y : Int) = true := by
  rw [can_iff (by omega) hy]
  obtain ⟨d, hd⟩ : ∃ d, Sc.pl (y - 1) = d + 1 := ⟨Sc.pl (y - 1) - 1, by have := pl_even (y := y - 1) (by omega) (by omega); omega⟩
  rw [hd, Nat.pow_succ, Nat.mul_comm, ← Nat.div_div_eq_div_mul, ← Nat.div_div_eq_div_mul, show (y - 1) / 2 = y / 2 by omega]
theorem can_after (hy : y < 65536) (h : y % 2 = 1) : can (y : Int) ((y - 1 : Nat) : Int) = false := by
  cases hc : can (y : Int) ((y - 1 : Nat) : Int)
  · rfl
  · have := (can_iff hy (by omega)).1 hc
    rw [pl_odd hy h, Nat.pow_zero, Nat.div_one, Nat.div_one] at this
    omega
theorem one_insO (hy : y < 65536) (h : y % 2 = 1) (T : Nat → Nat) (hd : eqH (drH T ((y - 1 : Nat) : Int) (y : Int)) (walkH F y 16) = false) : insO (oneE F y) T ((y - 1 : Nat) : Int) = true := by
  unfold insO
  rw [place_x (show y - 1 < 65536 by omega)]
  have hl : low (oneE F y) (dif T ((y - 1 : Nat) : Int)) (Sc.pl (y - 1)) = some 0 := by
    refine low_some (pl_even (by omega) (by omega)) (fun b hb => absurd hb (Nat.not_lt_zero _)) ?_
    have e1 : drE ((y - 1 : Nat) : Int) (y : Int) = 0 := by unfold drE; rw [can_before hy h]; rfl
    rw [oneE_0, ent_full, dif_eq, ent_num, ent_told, e1, hd]; rfl
  unfold lowB; rw [hl]; rfl
theorem one_insR (hy : y < 65536) (h : y % 2 = 1) (T : Nat → Nat) (hd : eqH (drH T ((y - 1 : Nat) : Int) (y : Int)) (walkH F y 16) = false) : insR (oneE F y) T ((y - 1 : Nat) : Int) = 50 := by
  unfold insR; rw [can_self (show y - 1 < 65536 by omega), one_insO hy h T hd]; rfl
theorem one_insE (hy : y < 65536) (h : y % 2 = 1) (T : Nat → Nat) (hd : eqH (drH T ((y - 1 : Nat) : Int) (y : Int)) (walkH F y 16) = false) : insE (oneE F y) T ((y - 1 : Nat) : Int) = oneE F y := by
  unfold insE; rw [can_self (show y - 1 < 65536 by omega), one_insO hy h T hd, if_pos rfl, if_pos rfl]
theorem one_low (hy : y < 65536) : low (oneE F y) (lkF (y : Int)) 17 = some 0 := by
  refine low_some (by decide) (fun b hb => absurd hb (Nat.not_lt_zero _)) ?_
  unfold lkF
  rw [oneE_0, ent_full, ent_num, can_self hy]; rfl
theorem one_lkB (hy : y < 65536) : lkB (oneE F y) (y : Int) = true := by unfold lkB lowB; rw [one_low hy]; rfl
theorem lowV_some {E : Nat → Ent} {f : Ent → Bool} {p k : Nat} (h : low E f p = some k) : lowV E f p = E k := by unfold lowV; rw [h]
theorem one_lkV (hy : y < 65536) : lkV (oneE F y) (y : Int) = ent F y := by unfold lkV; rw [lowV_some (one_low hy)]; exact oneE_0 F y
theorem dr_can {x y : Nat} (hx : x < 65536) (hy : y < 65536) (hc : can (x : Int) (y : Int) = true) (F : Nat → Nat) : drH (walkH F x 16) (x : Int) (y : Int) = walkH F y 16 := by
  unfold drH; rw [hc, if_pos rfl, place_x hx]; exact derives hx hy hc F
theorem dr_self (hy : y < 65536) : drH (walkH F y 16) (y : Int) (y : Int) = walkH F y 16 := dr_can hy hy (can_self hy) F
theorem one_lkH (hy : y < 65536) : lkH (oneE F y) (y : Int) = walkH F y 16 := by
  have e : lkH (oneE F y) (y : Int) = drH (lkV (oneE F y) (y : Int)).told (lkV (oneE F y) (y : Int)).num (y : Int) := by unfold lkH; rw [one_lkB hy]; simp only [if_true]
  rw [e, one_lkV hy, ent_told, ent_num]
  exact dr_self hy
theorem one_lkE (hy : y < 65536) : lkE (oneE F y) (y : Int) = 0 := by
  unfold lkE; rw [one_lkB hy, one_lkV hy, if_pos rfl, ent_num]; unfold drE; rw [can_self hy]; rfl
theorem one_none (hy : y < 65536) (h : y % 2 = 1) : lkB (oneE F y) ((y - 1 : Nat) : Int) = false := by
  unfold lkB lowB
  rw [low_none (fun b hb => by
    by_cases e : b = 0
    · subst e; unfold lkF; rw [oneE_0, ent_num, can_after hy h, Bool.and_false]
    · rw [oneE_s F y b e]; rfl)]
  rfl
theorem one_lkE' (hy : y < 65536) (h : y % 2 = 1) : lkE (oneE F y) ((y - 1 : Nat) : Int) = 3 := by unfold lkE; rw [one_none hy h]; rfl
theorem one_cnt : cnt (oneE F y) 17 = 1 := by simp [cnt, oneE, putE, ent, none0]
theorem one_told (hF : ∀ j, F j < 256) : ∀ b, b < 17 → ∀ j, (oneE F y b).told j < 256 := by
  intro b _ j
  by_cases e : b = 0
  · subst e; rw [oneE_0, ent_told]; exact walkH_lt hF y 16 j
  · rw [oneE_s F y b e]; show 0 < 256; decide
end
end Go.Proofs.YtpfcalamchdciaaDoor
