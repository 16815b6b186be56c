/- What the functions of the package amount return, walked once; the condition is that what came in lies in its kind's range. -/
import Derived.Test.YtnnnbgndbmcffaaRows
import Derived.Test.YtnnnbgndbmcffaaAmPlain
import Derived.WalkKit
import Derived.WalkSpells
import Derived.WalkLawsBesides
import Derived.Lib.Hide
import Derived.Lib.Mul64
import Derived.Laws.Bits64b
import Derived.Deep.QuietTactic
import Derived.BigQuiet
namespace Go.Proofs.Ytnnnbgndbmcffaa
open Go.RowKit

theorem ret2 {k k' : IntKind} {a b a' b' : Int} (h : a = a') (h' : b = b') : Ending.returned (.tuple #[.int k a, .int k' b]) = .returned (.tuple #[.int k a', .int k' b']) := by rw [h, h']
theorem u64_in (n : Int) (h : 0 ≤ n ∧ n ≤ 18446744073709551615) : IntKind.u64.wrap n = n := by rw [IntKind.wrap_u64]; omega

/-- a row of numbers of 64 bits that a call reads -/
structure URow (w : World) (p : Option Addr) (len : Nat) (zs : List Int) : Prop where
  lens : zs.length = len
  short : len ≤ 9223372036854775807
  fits : ∀ z ∈ zs, 0 ≤ z ∧ z ≤ 18446744073709551615
  cells : ∃ b off, (len = 0 ∨ p = some ⟨b, off, none⟩) ∧ ∀ j, j < len → w.cell? ⟨b, off + j, none⟩ = some (.int .u64 (zs.getD j 0))

theorem drop_step (zs : List Int) (k : Nat) (h : k < zs.length) : zs.drop k = zs.getD k 0 :: zs.drop (k + 1) := by
  rw [List.drop_eq_getElem_cons h]; simp [h]

set_option maxHeartbeats 400000 in
theorem add_any (p : Option Addr) (len cap : Nat) (zs : List Int) (w : World) (h : URow w p len zs) :
    Calls Try.prog 28 #[.slice p len cap] w fun e w' => e = .returned (.tuple #[.int .u64 (Am.addF zs).1, .int .i64 (Am.addF zs).2]) ∧ w = w' := by
  obtain ⟨hl, hs, hf, b, off, hp, hc⟩ := h
  rw [← Am.addL_addF (fun z hz => (hf z hz).1)]
  have HL := Lib.hid hl; have HF := Lib.hid hf; have HP := Lib.hid hp; have HC := Lib.hid hc
  clear hl hf hp hc
  go_enter Try.func28, Try.ntmps28
  go_wp2
  go_loop [4, 9] (fun s i => ∃ (k : Nat) (x : Int), k ≤ len ∧ i = .int .i64 k ∧ s = .int .u64 x ∧ 0 ≤ x ∧ x ≤ 1125899906842624 ∧ Am.addL 0 zs = Am.addL x (zs.drop k)) (fun _ i => len - (intOf i).toNat)
  case atStart => exact ⟨0, 0, by omega, rfl, rfl, by omega, by omega, by simp⟩
  case round =>
    obtain ⟨k, x, hk, rfl, rfl, x0, x1, hx⟩ := hrel
    have HX := Lib.hid hx; clear hx
    by_cases hlt : k < len
    · obtain rfl : p = some ⟨b, off, none⟩ := by rcases HP.out with h | h; (omega); exact h
      have hcell := HC.out k hlt
      have hfit : 0 ≤ zs.getD k 0 ∧ zs.getD k 0 ≤ 18446744073709551615 := HF.out _ (by have := HL.out; simp [show k < zs.length by omega])
      have hd := drop_step zs k (by have := HL.out; omega)
      rw [hd] at HX
      clear hd
      generalize zs.getD k 0 = z at *
      obtain ⟨z0, z1⟩ := hfit
      by_cases hgt : 1125899906842624 - x < z
      · have he : Am.addL x (z :: zs.drop (k + 1)) = (0, 60) := by
          simp only [Am.addL]; rw [if_pos (by show (1125899906842624 : Int) - x < z; exact hgt)]
        have HE := Lib.hid (HX.out.trans he); clear he
        go_wp2
        go_ret2
        exact ⟨by rw [HE.out]; rfl, rfl⟩
      · have he : Am.addL x (z :: zs.drop (k + 1)) = Am.addL (x + z) (zs.drop (k + 1)) := by
          simp only [Am.addL]; rw [if_neg (by show ¬ (1125899906842624 : Int) - x < z; exact hgt)]
        have HE := Lib.hid (HX.out.trans he); clear he
        go_wp2
        go_round
        case rel => exact ⟨k + 1, x + z, by omega, by go_num, rfl, by omega, by omega, HE.out⟩
        case measure => simp [intOf]; omega
    · have he : Am.addL x (zs.drop k) = (x, 0) := by
        rw [List.drop_eq_nil_of_le (by have := HL.out; omega)]; rfl
      have HE := Lib.hid (HX.out.trans he); clear he
      go_wp2
      go_ret2
      exact ⟨by rw [HE.out]; rfl, rfl⟩

theorem sub_any (a b : Int) (w : World) (a0 : 0 ≤ a) (a1 : a ≤ 18446744073709551615) (b0 : 0 ≤ b) :
    Calls Try.prog 29 #[.int .u64 a, .int .u64 b] w fun e w' => e = .returned (.tuple #[.int .u64 (if a < b then 0 else a - b), .int .i64 (if a < b then 61 else 0)]) ∧ w = w' := by
  by_cases h : a < b
  · go_enter Try.func29, Try.ntmps29
    go_wp2
    go_ret2
    exact ⟨by simp, rfl⟩
  · go_enter Try.func29, Try.ntmps29
    go_wp2
    go_ret2
    exact ⟨by simp, rfl⟩
theorem rsub_any (a b : Int) (w : World) (a0 : 0 ≤ a) (a1 : a ≤ 18446744073709551615) (b0 : 0 ≤ b) :
    Calls Try.prog 31 #[.int .u64 a, .int .u64 b] w fun e w' => e = .returned (.tuple #[.int .u64 (if a < b then 0 else a - b), .int .i64 (if a < b then 61 else 0)]) ∧ w = w' := by
  by_cases h : a < b
  · go_enter Try.func31, Try.ntmps31
    go_wp2
    go_ret2
    exact ⟨by simp, rfl⟩
  · go_enter Try.func31, Try.ntmps31
    go_wp2
    go_ret2
    exact ⟨by simp, rfl⟩

namespace Mul64
theorem maskN (a : Nat) (ha : a < 18446744073709551616) : bits .and .u64 (a : Int) 4294967295 = ((a % 4294967296 : Nat) : Int) := by
  have h := bits_and_u64_nat a 4294967295 ha (by omega)
  have e : a &&& 4294967295 = a % 4294967296 := Nat.and_two_pow_sub_one_eq_mod a 32
  rw [e] at h
  exact h
theorem divN (a : Nat) : (a : Int) / 4294967296 = ((a / 4294967296 : Nat) : Int) := by omega
theorem mulN (a b : Nat) : (a : Int) * (b : Int) = ((a * b : Nat) : Int) := (Int.natCast_mul a b).symm
theorem addN (a b : Nat) : (a : Int) + (b : Int) = ((a + b : Nat) : Int) := (Int.natCast_add a b).symm
theorem wrapN (a : Nat) (ha : a < 18446744073709551616) : IntKind.u64.wrap (a : Int) = (a : Int) := by rw [IntKind.wrap_u64]; omega
theorem wrapM (a : Nat) : IntKind.u64.wrap (a : Int) = ((a % 18446744073709551616 : Nat) : Int) := by rw [IntKind.wrap_u64]; omega
end Mul64

set_option maxHeartbeats 1000000 in
theorem mul64_nat (x y : Nat) (hx : x < 18446744073709551616) (hy : y < 18446744073709551616) (w : World) :
    Calls Try.prog 63 #[.int .u64 x, .int .u64 y] w fun e w' => e = .returned (.tuple #[.int .u64 ((x * y / 18446744073709551616 : Nat) : Int), .int .u64 ((x * y % 18446744073709551616 : Nat) : Int)]) ∧ w = w' := by
  obtain ⟨bd, bt, bw, hhi⟩ := Lib.mul64_hi x y hx hy
  have ba := Lib.half_mul_le (a := x / 4294967296) (b := y / 4294967296) (by omega) (by omega)
  have bb := Lib.half_mul_le (a := x / 4294967296) (b := y % 4294967296) (by omega) (by omega)
  have bc := Lib.half_mul_le (a := x % 4294967296) (b := y / 4294967296) (by omega) (by omega)
  have ba' : x / 4294967296 * (y / 4294967296) < 18446744073709551616 := by omega
  have bb' : x / 4294967296 * (y % 4294967296) < 18446744073709551616 := by omega
  have bc' : x % 4294967296 * (y / 4294967296) < 18446744073709551616 := by omega
  have bh1 : x / 4294967296 * (y / 4294967296) + (x / 4294967296 * (y % 4294967296) + x % 4294967296 * (y % 4294967296) / 4294967296) / 4294967296 < 18446744073709551616 := by omega
  have bh : x / 4294967296 * (y / 4294967296) + (x / 4294967296 * (y % 4294967296) + x % 4294967296 * (y % 4294967296) / 4294967296) / 4294967296 + ((x / 4294967296 * (y % 4294967296) + x % 4294967296 * (y % 4294967296) / 4294967296) % 4294967296 + x % 4294967296 * (y / 4294967296)) / 4294967296 < 18446744073709551616 := by omega
  have HH := Lib.hid hhi; clear hhi
  go_enter Try.func63, Try.ntmps63
  go_wp2
  simp only [Mul64.maskN x hx, Mul64.maskN y hy, Mul64.divN, Mul64.mulN, Mul64.addN, Mul64.wrapN _ bd, Mul64.wrapN _ bb', Mul64.wrapN _ bt, Mul64.maskN _ bt, Mul64.wrapN _ bc', Mul64.wrapN _ bw, Mul64.wrapN _ ba', Mul64.wrapN _ bh1, Mul64.wrapN _ bh, Mul64.wrapM (x * y)]
  rw [HH.out]
  go_ret2
  exact ⟨rfl, rfl⟩
theorem mul64_any (x y : Int) (x0 : 0 ≤ x) (x1 : x ≤ 18446744073709551615) (y0 : 0 ≤ y) (y1 : y ≤ 18446744073709551615) (w : World) :
    Calls Try.prog 63 #[.int .u64 x, .int .u64 y] w fun e w' => e = .returned (.tuple #[.int .u64 (x * y / 18446744073709551616), .int .u64 (x * y % 18446744073709551616)]) ∧ w = w' := by
  obtain ⟨a, rfl⟩ := Int.eq_ofNat_of_zero_le x0
  obtain ⟨b, rfl⟩ := Int.eq_ofNat_of_zero_le y0
  exact mul64_nat a b (by omega) (by omega) w

set_option maxRecDepth 100000 in
theorem lz_million (w : World) : Calls Try.prog 78 #[.int .u64 1000000] w fun e w' => e = .returned (.int .i64 44) ∧ w = w' := by
  go_enter Try.func78, Try.ntmps78
  go_wp2
  go_ret
  refine ⟨?_, rfl⟩
  kernel_rfl

theorem or_join (hi lo : Int) (h0 : 0 ≤ hi) (h1 : hi < 1000000) (l0 : 0 ≤ lo) (l1 : lo ≤ 18446744073709551615) :
    bits .or .u64 (hi * 17592186044416) (lo / 1048576) = hi * 17592186044416 + lo / 1048576 :=
  bits_join .u64 64 (by decide) (fun n a b => u64_in n ⟨a, by omega⟩) 44 _ _ (by omega) (by omega) (by omega) (by omega) (by omega) (by omega)
theorem mask_64 (L : Int) (l0 : 0 ≤ L) (l1 : L ≤ 18446744073709551615) : bits .and .u64 L 4294967295 = L % 4294967296 := by
  obtain ⟨a, rfl⟩ := Int.eq_ofNat_of_zero_le l0
  rw [Mul64.maskN a (by omega)]; omega

set_option maxRecDepth 100000 in
set_option maxHeartbeats 1000000 in
theorem div_big (hi lo : Int) (w : World) (h0 : 1 ≤ hi) (h1 : hi < 1000000) (l0 : 0 ≤ lo) (l1 : lo ≤ 18446744073709551615) :
    Calls Try.prog 64 #[.int .u64 hi, .int .u64 lo, .int .u64 1000000] w fun e w' => (∃ r, e = .returned (.tuple #[.int .u64 ((hi * 18446744073709551616 + lo) / 1000000), .int .u64 r])) ∧ w = w' := by
  have ho := or_join hi lo (by omega) h1 l0 l1
  have hm0 : bits .and .u64 17592186044416000000 4294967295 = 0 := mask_64 17592186044416000000 (by omega) (by omega)
  have hL : IntKind.u64.wrap (lo * 17592186044416) = lo * 17592186044416 % 18446744073709551616 := IntKind.wrap_u64 _
  have hst := Am.div_steps hi lo
  obtain ⟨U, hU⟩ : ∃ U, U = hi * 17592186044416 + lo / 1048576 := ⟨_, rfl⟩
  obtain ⟨L, hL'⟩ : ∃ L, L = lo * 17592186044416 % 18446744073709551616 := ⟨_, rfl⟩
  rw [← hU] at ho hst; rw [← hL'] at hL hst
  have u0 : 0 ≤ U := by omega
  have u1 : U < 17592186044416000000 := by omega
  have b0 : 0 ≤ L := by omega
  have b1 : L ≤ 18446744073709551615 := by omega
  have hmL := mask_64 L b0 b1
  have HST := Lib.hid hst
  obtain ⟨V, hV⟩ : ∃ V, V = U * 4294967296 + L / 4294967296 - U / 4096000000 * 17592186044416000000 := ⟨_, rfl⟩
  have v0 : 0 ≤ V := by omega
  have v1 : V < 17592186044416000000 := by omega
  have hV2 : IntKind.u64.wrap (IntKind.u64.wrap (IntKind.u64.wrap (U * 4294967296) + L / 4294967296) - IntKind.u64.wrap (U / 4096000000 * 17592186044416000000)) = V := by
    simp only [IntKind.wrap_u64]; omega
  have hQ : U / 4096000000 * 4294967296 + V / 4096000000 = (hi * 18446744073709551616 + lo) / 1000000 := by rw [← hst, ← hV]; omega
  have HQ := Lib.hid hQ
  have HU := Lib.hid hU; have HL' := Lib.hid hL'; have HV := Lib.hid hV
  clear hst hU hL' hV hQ HST
  go_enter Try.func64, Try.ntmps64
  go_wp2_with fail
  refine (lz_million _).mono ?_
  rintro e w' ⟨rfl, rfl⟩
  go_wp2_with fail
  refine wp_loop_rounds 1 ?_
  rw [rounds_succ]
  go_wp2_with fail
  refine wp_loop_rounds 1 ?_
  rw [rounds_succ]
  go_wp2
  go_ret2
  exact ⟨⟨_, by rw [← HQ.out]; rfl⟩, rfl⟩

set_option maxRecDepth 100000 in
theorem div_any (hi lo : Int) (w : World) (h0 : 0 ≤ hi) (h1 : hi < 1000000) (l0 : 0 ≤ lo) (l1 : lo ≤ 18446744073709551615) :
    Calls Try.prog 64 #[.int .u64 hi, .int .u64 lo, .int .u64 1000000] w fun e w' => (∃ r, e = .returned (.tuple #[.int .u64 ((hi * 18446744073709551616 + lo) / 1000000), .int .u64 r])) ∧ ∃ n, w' = w.drewN n := by
  by_cases hz : 1 ≤ hi
  · exact (div_big hi lo w hz h1 l0 l1).mono fun e w' ⟨he, hw⟩ => ⟨he, 0, hw.symm⟩
  · obtain rfl : hi = 0 := by omega
    have e0 : (0 * 18446744073709551616 + lo) / 1000000 = lo / 1000000 := by omega
    rw [e0]; clear e0
    go_enter Try.func64, Try.ntmps64
    go_wp2
    go_quiet (fail)
    go_wp2
    go_ret2
    exact ⟨⟨_, rfl⟩, _, rfl⟩
end Go.Proofs.Ytnnnbgndbmcffaa
