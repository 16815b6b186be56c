/- The walk of the law OctetOrder over the contracts: it returns true; the conditions are the ranges of the kinds. -/
import Derived.Test.YtiilgkhndfnkgaaOcPl
import Derived.Test.YtiilgkhndfnkgaaOcS
namespace Go.Proofs.Ytiilgkhndfnkgaa
open Go.RowKit
set_option linter.unusedVariables false

def Fine (w : World) (e : Ending) (w' : World) : Prop := e = .returned (.bool true) ∧ Below w.heap.size w w'

theorem and_mask (a : Int) (k : Nat) (a0 : 0 ≤ a) (a1 : a ≤ 18446744073709551615) (hk : k ≤ 7) : bits .and .u64 a (256 ^ k - 1) = a % 256 ^ k := by
  obtain ⟨n, rfl⟩ := Int.eq_ofNat_of_zero_le a0
  have hp : (256 : Int) ^ k = ((2 ^ (8 * k) : Nat) : Int) := by rw [Nat.pow_mul]; simp
  have hpos : 0 < 2 ^ (8 * k) := Nat.two_pow_pos _
  have hle : 2 ^ (8 * k) ≤ 2 ^ 56 := Nat.pow_le_pow_right (by decide) (by omega)
  have h := bits_and_u64_nat n (2 ^ (8 * k) - 1) (by omega) (by omega)
  rw [Nat.and_two_pow_sub_one_eq_mod] at h
  rw [hp, show (((2 ^ (8 * k) : Nat) : Int) - 1) = ((2 ^ (8 * k) - 1 : Nat) : Int) by omega, h]
  omega

theorem numE_fit {A : Int} {k : Nat} (a0 : 0 ≤ A) (a1 : A < 256 ^ k) (h1 : 1 ≤ k) (h8 : k ≤ 8) : numE A k = 0 ∧ numB A k = low A k := by
  have hz : A / 2 ^ (8 * (k : Int)).toNat = 0 := by rw [pow8]; exact Int.ediv_eq_zero_of_lt a0 a1
  have hn : ¬ ((k : Int) < 1 ∨ 8 < (k : Int) ∨ A / 2 ^ (8 * (k : Int)).toNat ≠ 0) := by omega
  unfold numE numB
  rw [if_neg hn, if_neg hn, Int.toNat_natCast, top_low]
  exact ⟨rfl, rfl⟩

theorem nil_append (s : ByteArray) : (⟨#[]⟩ : ByteArray) ++ s = s := by apply ByteArray.ext; simp

set_option maxRecDepth 100000 in
set_option maxHeartbeats 2000000 in
theorem order_walk (a b wd : Int) (w : World) (a0 : 0 ≤ a) (a1 : a ≤ 18446744073709551615) (b0 : 0 ≤ b) (b1 : b ≤ 18446744073709551615) (w0 : 0 ≤ wd) (w1 : wd ≤ 255) :
    Calls Try.prog 3 #[.int .u64 a, .int .u64 b, .int .u8 wd] w (Fine w) := by
  obtain ⟨k, hk⟩ : ∃ k : Nat, 1 + wd % 7 = (k : Int) := ⟨(1 + wd % 7).toNat, by omega⟩
  have k1 : 1 ≤ (k : Int) := by omega
  have k7 : (k : Int) ≤ 7 := by omega
  have hP : (2 : Int) ^ (8 * (k : Int)).toNat = 256 ^ k := pow8 k
  have hma := and_mask a k a0 a1 (by omega)
  have hmb := and_mask b k b0 b1 (by omega)
  have hpos : (0 : Int) < 256 ^ k := Int.pow_pos (by decide)
  have hle : (256 : Int) ^ k ≤ 72057594037927936 := by
    have : (256 : Nat) ^ k ≤ 256 ^ 7 := Nat.pow_le_pow_right (by decide) (by omega)
    have e : ∀ k : Nat, ((256 : Int) ^ k) = ((256 ^ k : Nat) : Int) := fun k => by simp
    rw [e]; omega
  have rA0 := Int.emod_nonneg a (Int.ne_of_gt hpos)
  have rA1 := Int.emod_lt_of_pos a hpos
  have rB0 := Int.emod_nonneg b (Int.ne_of_gt hpos)
  have rB1 := Int.emod_lt_of_pos b hpos
  obtain ⟨A, hA⟩ : ∃ A, a % 256 ^ k = A := ⟨_, rfl⟩
  obtain ⟨B, hB⟩ : ∃ B, b % 256 ^ k = B := ⟨_, rfl⟩
  rw [hA] at hma rA0 rA1; rw [hB] at hmb rB0 rB1
  have eA := numE_fit rA0 rA1 (by omega) (by omega)
  have eB := numE_fit rB0 rB1 (by omega) (by omega)
  have eZ := numE_fit (A := A) (k := k + 1) rA0 (by rw [Int.pow_succ]; omega) (by omega) (by omega)
  have hz : low A (k + 1) = 0 :: low A k := by
    simp only [low]; rw [Int.ediv_eq_zero_of_lt rA0 rA1]; rfl
  rw [hz] at eZ
  have hless := less_low k A B rA0 rA1 rB0 rB1
  have hcat : (⟨#[0]⟩ : ByteArray) ++ strOfNums (low A k) = strOfNums (0 :: low A k) := by rw [← str_cons]; rfl
  have hlA : (strOfNums (low A k)).toList = u8s (low A k) := by rw [ByteArray.toList_eq]; rfl
  have hlB : (strOfNums (low B k)).toList = u8s (low B k) := by rw [ByteArray.toList_eq]; rfl
  have hsz : (strOfNums (low A k)).size = k := by rw [strOfNums_size, low_len]
  rw [← hlA, ← hlB] at hless
  have n1 := fun p w' h => number_any A k p ⟨#[]⟩ w' rA0 (by omega) (by decide) h
  have n2 := fun p w' h => number_any B k p ⟨#[]⟩ w' rB0 (by omega) (by decide) h
  have n3 := fun p w' h => number_any A (k + 1 : Nat) p ⟨#[]⟩ w' rA0 (by omega) (by decide) h
  rw [eA.1, eA.2, nil_append] at n1
  rw [eB.1, eB.2, nil_append] at n2
  rw [eZ.1, eZ.2, nil_append] at n3
  generalize strOfNums (low A k) = SA at *
  generalize strOfNums (low B k) = SB at *
  generalize strOfNums (0 :: low A k) = SZ at *
  generalize hPe : (256 : Int) ^ k = P at *
  have N1 := Lib.hid n1; have N2 := Lib.hid n2; have N3 := Lib.hid n3; have HC := Lib.hid hcat
  have HA := Lib.hid hA; have HB := Lib.hid hB
  clear n1 n2 n3 eA eB eZ hz hlA hlB hA hB hPe hcat
  have c0 : 0 ≤ (k : Int) := by omega
  have hadd : (⟨#[0]⟩ : ByteArray).size + SA.size ≤ 9223372036854775807 := by rw [hsz]; show 1 + k ≤ _; omega
  clear hsz
  have g1 : ((k + 1 : Nat) : Int) = (k : Int) + 1 := by omega
  rw [g1] at N3
  generalize (k : Int) = K at *
  have g2 : wrap64 (8 * K) = 8 * K := IntWalk.wrap64_in _ ⟨by omega, by omega⟩
  clear g1 g2
  have hW : ∀ n, w.heap.size = n → At (((w.alloc (.cells #[.string ⟨#[]⟩] 25)).alloc (.cells #[.string ⟨#[]⟩] 25)).alloc (.cells #[.string ⟨#[]⟩] 25)) ⟨n, 0, none⟩ ⟨#[]⟩ ∧
      At (((w.alloc (.cells #[.string ⟨#[]⟩] 25)).alloc (.cells #[.string ⟨#[]⟩] 25)).alloc (.cells #[.string ⟨#[]⟩] 25)) ⟨n + 1, 0, none⟩ ⟨#[]⟩ ∧
      At (((w.alloc (.cells #[.string ⟨#[]⟩] 25)).alloc (.cells #[.string ⟨#[]⟩] 25)).alloc (.cells #[.string ⟨#[]⟩] 25)) ⟨n + 1 + 1, 0, none⟩ ⟨#[]⟩ ∧
      (((w.alloc (.cells #[.string ⟨#[]⟩] 25)).alloc (.cells #[.string ⟨#[]⟩] 25)).alloc (.cells #[.string ⟨#[]⟩] 25)).heap.size = n + 1 + 1 + 1 ∧
      Below n w (((w.alloc (.cells #[.string ⟨#[]⟩] 25)).alloc (.cells #[.string ⟨#[]⟩] 25)).alloc (.cells #[.string ⟨#[]⟩] 25)) := by
    rintro n rfl
    exact ⟨⟨by go_simp, by go_simp⟩, ⟨by go_simp, by go_simp⟩, ⟨by go_simp, by go_simp⟩, by simp, (((Below.refl _ _).alloc (Nat.le_refl _) _).alloc (by simp) _).alloc (by simp; omega) _⟩
  obtain ⟨n, hn⟩ : ∃ n, w.heap.size = n := ⟨_, rfl⟩
  obtain ⟨x1, x2, x3, x4, x5⟩ := hW n hn
  have X4 := Lib.hid x4
  clear hW x4
  go_enter Try.func3, Try.ntmps3
  go_wp2_with fail
  generalize ((w.alloc (.cells #[.string ⟨#[]⟩] 25)).alloc (.cells #[.string ⟨#[]⟩] 25)).alloc (.cells #[.string ⟨#[]⟩] 25) = W0 at *
  have s0 : n + 1 + 1 < W0.heap.size := by have := X4.out; omega
  refine (N1.out _ _ x1).mono ?_
  rintro e v1 ⟨rfl, h1⟩
  have s1 : W0.heap.size ≤ v1.heap.size := by have := h1.size; simpa using this
  have y1 := x1.written h1 (by show n < _; omega)
  have y2 := x2.writer h1 (by show n + 1 < _; omega) (by show n ≠ n + 1; omega)
  have y3 := x3.writer h1 (by show n + 1 + 1 < _; omega) (by show n ≠ n + 1 + 1; omega)
  have d1 : Below n w v1 := below_own x5 (by show n ≤ n; omega) (by omega) h1
  clear h1 x1 x2 x3 x5
  go_wp2_with fail
  refine (N2.out _ _ y2).mono ?_
  rintro e v2 ⟨rfl, h2⟩
  have s2 : v1.heap.size ≤ v2.heap.size := by have := h2.size; simpa using this
  have z1 := y1.writer h2 (by show n < _; omega) (by show n + 1 ≠ n; omega)
  have z2 := y2.written h2 (by show n + 1 < _; omega)
  have z3 := y3.writer h2 (by show n + 1 + 1 < _; omega) (by show n + 1 ≠ n + 1 + 1; omega)
  have d2 : Below n w v2 := below_own d1 (by show n ≤ n + 1; omega) (by omega) h2
  clear h2 y1 y2 y3 d1
  go_wp2_with fail
  refine (N3.out _ _ z3).mono ?_
  rintro e v3 ⟨rfl, h3⟩
  have s3 : v2.heap.size ≤ v3.heap.size := by have := h3.size; simpa using this
  have q1 := z1.writer h3 (by show n < _; omega) (by show n + 1 + 1 ≠ n; omega)
  have q2 := z2.writer h3 (by show n + 1 < _; omega) (by show n + 1 + 1 ≠ n + 1; omega)
  have q3 := z3.written h3 (by show n + 1 + 1 < _; omega)
  have d3 : Below n w v3 := below_own d2 (by show n ≤ n + 1 + 1; omega) (by omega) h3
  clear h3 z1 z2 z3 d2
  go_wp2_with fail
  refine (shown_any v3).mono ?_
  rintro e v4 ⟨rfl, h4⟩
  have r1 := q1.below h4 (by show n < _; omega)
  have r2 := q2.below h4 (by show n + 1 < _; omega)
  have r3 := q3.below h4 (by show n + 1 + 1 < _; omega)
  have d4 : Below n w v4 := d3.trans (h4.mono (by omega))
  clear h4 q1 q2 q3 d3
  go_wp2_with fail
  refine (wbytes_any _ _ v4 r1).mono ?_
  rintro e v5 ⟨rfl, rfl⟩
  go_wp2_with fail
  refine (wbytes_any _ _ v4 r2).mono ?_
  rintro e v5 ⟨rfl, rfl⟩
  go_wp2_with fail
  refine (wbytes_any _ _ v4 r3).mono ?_
  rintro e v5 ⟨rfl, rfl⟩
  go_wp2_with fail
  refine (wbytes_any _ _ v4 r1).mono ?_
  rintro e v5 ⟨rfl, rfl⟩
  have hcat := HC.out
  have hself : (SZ.toList == SZ.toList) = true := by simp
  go_wp2
  go_ret
  exact ⟨rfl, by rw [hn]; exact d4⟩
end Go.Proofs.Ytiilgkhndfnkgaa
