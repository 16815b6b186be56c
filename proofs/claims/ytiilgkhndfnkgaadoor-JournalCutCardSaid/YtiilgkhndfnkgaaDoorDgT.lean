/- What the turnings and shifts of digest and of its reference return; the conditions are the ranges of the words. -/
import Derived.Test.YtiilgkhndfnkgaaDoorRows
import Derived.Test.YtiilgkhndfnkgaaDoorSha
import Derived.Test.YtiilgkhndfnkgaaDoorMem
import Derived.Deep.QuietTactic
import Derived.BigQuiet
import Derived.StillTailTactics
import Derived.Outline
namespace Go.Proofs.YtiilgkhndfnkgaaDoor
open Go.RowKit
set_option linter.unusedVariables false

/-- x turned by each of l, exclusively or'd -/
def turnsV (x : Nat) (l : List Nat) : Nat := l.foldl (fun a n => a ^^^ Sha.rot x n) 0
theorem turnsV_lt {x : Nat} (hx : x < 4294967296) (l : List Nat) (hl : ∀ n ∈ l, n ≤ 31) : turnsV x l < 4294967296 := by
  unfold turnsV
  have key : ∀ (l : List Nat) (a : Nat), a < 4294967296 → (∀ n ∈ l, n ≤ 31) → l.foldl (fun a n => a ^^^ Sha.rot x n) a < 4294967296 := by
    intro l
    induction l with
    | nil => exact fun a ha _ => ha
    | cons n r ih => exact fun a ha h => ih _ (Sha.xor_lt ha (Sha.rot_lt hx (by have := h n (by simp); omega))) (fun m hm => h m (by simp [hm]))
  exact key l 0 (by decide) hl
theorem turnsV_take (x : Nat) (l : List Nat) (k : Nat) (h : k < l.length) : turnsV x (l.take (k + 1)) = turnsV x (l.take k) ^^^ Sha.rot x l[k] := by
  unfold turnsV
  rw [List.take_succ_eq_append_getElem h, List.foldl_append]; rfl

theorem pow_nat (k : Nat) : (2 : Int) ^ k = ((2 ^ k : Nat) : Int) := by simp
set_option maxRecDepth 100000 in
theorem rot32 {x n : Nat} (hx : x < 4294967296) (h1 : 1 ≤ n) (h31 : n ≤ 31) : bits .or .u32 ((x : Int) / 2 ^ n) ((x : Int) * 2 ^ (32 - n) % 4294967296) = ((Sha.rot x n : Nat) : Int) := by
  have e1 : (x : Int) / 2 ^ n = ((x / 2 ^ n : Nat) : Int) := by rw [pow_nat]; norm_cast
  have e2 : (x : Int) * 2 ^ (32 - n) % 4294967296 = ((x % 2 ^ n * 2 ^ (32 - n) : Nat) : Int) := by
    have h : x * 2 ^ (32 - n) % 4294967296 = x % 2 ^ n * 2 ^ (32 - n) := by
      have := Nat.mul_mod_mul_right (2 ^ (32 - n)) x (2 ^ n)
      rw [← Nat.pow_add, show n + (32 - n) = 32 by omega] at this
      exact this
    rw [pow_nat, ← h, Int.natCast_emod, Int.natCast_mul]; rfl
  have a1 : x / 2 ^ n < 2 ^ (32 - n) := by
    rw [Nat.div_lt_iff_lt_mul (Nat.two_pow_pos n), ← Nat.pow_add, Nat.sub_add_cancel (by omega)]; exact hx
  have a2 := Sha.rot_lt hx (show n ≤ 32 by omega)
  unfold Sha.rot at a2 ⊢
  rw [e1, e2, u32_or_nat _ _ (by omega) (by omega), Nat.or_comm, nat_join (32 - n) _ _ (Nat.mul_mod_left _ _) a1, Nat.add_comm]

set_option maxRecDepth 100000 in
set_option maxHeartbeats 1000000 in
theorem turns_any (x : Nat) (l : List Nat) (b : Nat) (w : World) (hx : x < 4294967296) (hn : ∀ n ∈ l, 1 ≤ n ∧ n ≤ 31) (hlen : l.length ≤ 3) (hc : ∀ i (h : i < l.length), w.cell? ⟨b, i, none⟩ = some (.int .u64 (l[i] : Nat))) :
    Calls Tryd.prog 42 #[.int .u32 (x : Nat), .slice (some ⟨b, 0, none⟩) l.length l.length] w fun e w' => e = .returned (.int .u32 (turnsV x l : Nat)) ∧ w = w' := by
  obtain ⟨len, hl⟩ : ∃ len, l.length = len := ⟨_, rfl⟩
  have HL := Lib.hid hl
  have HC := Lib.hid hc
  rw [hl]
  rw [hl] at hlen
  clear hl hc
  have hx0 : (x : Int) < 4294967296 := by omega
  go_enter Tryd.func42, Tryd.ntmps42
  go_wp2
  go_loop [5, 10] (fun a i => ∃ k : Nat, k ≤ len ∧ i = .int .i64 k ∧ a = .int .u32 (turnsV x (l.take k) : Nat)) (fun _ i => len - (intOf i).toNat)
  case atStart => exact ⟨0, by omega, rfl, rfl⟩
  case round =>
    obtain ⟨k, hk, rfl, rfl⟩ := hrel
    by_cases hlt : k < len
    · have hlt' : k < l.length := by rw [HL.out]; exact hlt
      have hc := HC.out k hlt'
      have hm := hn _ (List.getElem_mem hlt')
      have ht := turnsV_lt hx (l.take k) (fun n hn' => (hn n (List.mem_of_mem_take hn')).2)
      have hs := turnsV_take x l k hlt'
      generalize l[k] = n at *
      generalize turnsV x (l.take k) = T at *
      have hr := rot32 hx hm.1 hm.2
      have hr2 := Sha.rot_lt hx (show n ≤ 32 by omega)
      have hxr := u32_xor_nat T (Sha.rot x n) ht hr2
      rw [← hr, ← hs] at hxr
      have HX := Lib.hid hxr
      clear hxr hs hr hr2
      go_wp2
      go_round
      case rel => exact ⟨k + 1, by omega, by go_num, by rw [HX.out]⟩
      case measure => simp [intOf]; omega
    · obtain rfl : k = len := by omega
      have ht : l.take k = l := by rw [← HL.out, List.take_length]
      rw [ht]
      go_wp2
      go_ret
      exact ⟨rfl, rfl⟩

theorem rot_zero (x : Nat) : Sha.rot x 0 = x := by unfold Sha.rot; rw [Nat.pow_zero, Nat.mod_one, Nat.zero_mul, Nat.div_one, Nat.add_zero]
theorem rot_succ (x n : Nat) (hn : n < 32) : Sha.rot x n / 2 + Sha.rot x n % 2 * 2147483648 = Sha.rot x (n + 1) := by
  unfold Sha.rot
  have hp : 0 < 2 ^ n := Nat.two_pow_pos n
  have e1 : 2 ^ (32 - n) = 2 * 2 ^ (31 - n) := by rw [show 32 - n = 31 - n + 1 by omega, Nat.pow_succ, Nat.mul_comm]
  have e2 : x / 2 ^ (n + 1) = x / 2 ^ n / 2 := by rw [Nat.pow_succ, Nat.div_div_eq_div_mul]
  have e3 : x % 2 ^ (n + 1) = x % 2 ^ n + 2 ^ n * (x / 2 ^ n % 2) := by rw [Nat.pow_succ]; exact Nat.mod_mul
  have e4 : 2 ^ n * 2 ^ (31 - n) = 2147483648 := by rw [← Nat.pow_add, show n + (31 - n) = 31 by omega]
  rw [e1, e2, e3, show 32 - (n + 1) = 31 - n by omega]
  generalize x / 2 ^ n = q at *
  generalize x % 2 ^ n = r at *
  generalize 2 ^ (31 - n) = P at *
  have h1 : (r + 2 ^ n * (q % 2)) * P = r * P + q % 2 * 2147483648 := by
    rw [Nat.add_mul, Nat.mul_comm (2 ^ n) (q % 2), Nat.mul_assoc, e4]
  have h2 : r * (2 * P) = 2 * (r * P) := by rw [Nat.mul_left_comm]
  rw [h1, h2]
  generalize r * P = m
  omega

set_option maxRecDepth 100000 in
set_option maxHeartbeats 1000000 in
theorem turn_any (x n : Nat) (w : World) (hx : x < 4294967296) (hn : n ≤ 32) :
    Calls Tryd.prog 38 #[.int .u64 (x : Nat), .int .i64 (n : Nat)] w fun e w' => e = .returned (.int .u64 (Sha.rot x n : Nat)) ∧ w = w' := by
  go_enter Tryd.func38, Tryd.ntmps38
  go_wp2
  go_loop [0, 5] (fun a i => ∃ k : Nat, k ≤ n ∧ i = .int .i64 k ∧ a = .int .u64 (Sha.rot x k : Nat)) (fun _ i => n - (intOf i).toNat)
  case atStart => exact ⟨0, by omega, rfl, by rw [rot_zero]⟩
  case round =>
    obtain ⟨k, hk, rfl, rfl⟩ := hrel
    by_cases hlt : k < n
    · have hs := rot_succ x k (by omega)
      have hr := Sha.rot_lt hx (show k ≤ 32 by omega)
      have HS := Lib.hid hs; clear hs
      generalize Sha.rot x k = r at *
      go_wp2
      go_round
      case rel => exact ⟨k + 1, by omega, by go_num, by rw [← HS.out]; congr 1⟩
      case measure => simp [intOf]; omega
    · obtain rfl : k = n := by omega
      go_wp2
      go_ret
      exact ⟨rfl, rfl⟩

set_option maxRecDepth 100000 in
set_option maxHeartbeats 1000000 in
theorem shift_any (x n : Nat) (w : World) (hx : x < 18446744073709551616) (hn : n ≤ 64) :
    Calls Tryd.prog 33 #[.int .u64 (x : Nat), .int .i64 (n : Nat)] w fun e w' => e = .returned (.int .u64 (x / 2 ^ n : Nat)) ∧ w = w' := by
  go_enter Tryd.func33, Tryd.ntmps33
  go_wp2
  go_loop [0, 5] (fun a i => ∃ k : Nat, k ≤ n ∧ i = .int .i64 k ∧ a = .int .u64 (x / 2 ^ k : Nat)) (fun _ i => n - (intOf i).toNat)
  case atStart => exact ⟨0, by omega, rfl, by rw [Nat.pow_zero, Nat.div_one]⟩
  case round =>
    obtain ⟨k, hk, rfl, rfl⟩ := hrel
    by_cases hlt : k < n
    · have hs : x / 2 ^ k / 2 = x / 2 ^ (k + 1) := by rw [Nat.pow_succ, Nat.div_div_eq_div_mul]
      have hr : x / 2 ^ k < 18446744073709551616 := Nat.lt_of_le_of_lt (Nat.div_le_self _ _) hx
      have HS := Lib.hid hs; clear hs
      generalize x / 2 ^ k = r at *
      go_wp2
      go_round
      case rel => exact ⟨k + 1, by omega, by go_num, by rw [← HS.out]; congr 1⟩
      case measure => simp [intOf]; omega
    · obtain rfl : k = n := by omega
      go_wp2
      go_ret
      exact ⟨rfl, rfl⟩
end Go.Proofs.YtiilgkhndfnkgaaDoor
