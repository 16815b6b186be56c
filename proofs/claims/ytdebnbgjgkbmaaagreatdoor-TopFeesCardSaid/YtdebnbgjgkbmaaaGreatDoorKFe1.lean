/- What the claim rests on, part 1 of KFe: only what is used, joined; the conditions are those of each theorem. -/
import Derived.ArgAppend
import Derived.Below
import Derived.BigQuiet
import Derived.Calls
import Derived.Carry
import Derived.ChangeKeysEq
import Derived.ChangeOld
import Derived.Deep.AppendLies
import Derived.Deep.AppendSrc
import Derived.Deep.DeepHandedRow
import Derived.Deep.LoopGhost
import Derived.Deep.MidRow
import Derived.Deep.Onto
import Derived.Deep.QuietTactic
import Derived.Deep.RegionHeld3
import Derived.Deep.RegionWith
import Derived.Deep.Slices
import Derived.Deep.WholeRow
import Derived.DeepKeys
import Derived.DeepKeys3
import Derived.DeepKeys4
import Derived.Defers
import Derived.KernelRfl
import Derived.Laws.AppendOwn
import Derived.Laws.Bits64b
import Derived.Laws.BitsAllLaws
import Derived.Laws.BytesArg
import Derived.Laws.BytesString
import Derived.Laws.EntriesVeiled
import Derived.Laws.MakeOwn
import Derived.Laws.OwnMore
import Derived.Laws.Rows
import Derived.Laws.Tables
import Derived.Lib.BufferWrite
import Derived.Lib.Builder
import Derived.Lib.ConvBytes
import Derived.Lib.FrozenHead2
import Derived.Lib.Hide
import Derived.Lib.LaidTab
import Derived.Lib.Mul64
import Derived.Lib.SlFresh
import Derived.Lib.Strings
import Derived.Lib.TrailingZeros
import Derived.Lib.UnsafeStr
import Derived.LoopIn
import Derived.LoopNIn
import Derived.Maps.Keyed
import Derived.Maps.RangeWalk
import Derived.OpenShut
import Derived.Orders
import Derived.Outline
import Derived.OwnWalk
import Derived.OwnWalkIn
import Derived.ProofKit
import Derived.RangeFuncBound
import Derived.RangeFuncCalls
import Derived.RangeFuncFrom
import Derived.RangeFuncLeaves
import Derived.RangeFuncNested
import Derived.Recover
import Derived.Shelf.Abstract
import Derived.Shelf.RegionOpen
import Derived.Shelf.RegionOpenPlain
import Derived.Shelf.Spec.SlicesInsert
import Derived.Shelf.Strings.OnBuilder
import Derived.ShutString
import Derived.StillTailTactics
import Derived.TacticsInMore
import Derived.Test.YtdebnbgjgkbmaaaGreatDoorProg
import Derived.Test.YtdebnbgjgkbmaaaGreatDoorRows
import Derived.WalkKit
import Derived.WalkLawsBesides
import Derived.WalkSpells
import Derived.Test.YtdebnbgjgkbmaaaGreatDoorK4
namespace Go.Proofs.YtdebnbgjgkbmaaaGreatDoor.Pu.Am
/-- the greatest amount -/
def mx : Int := 1125899906842624
/-- what amounts come to, and the error -/
def addF (l : List Int) : Int × Int := if l.sum ≤ mx then (l.sum, 0) else (0, 60)
/-- the same, step by step, s being there already -/
def addL (s : Int) : List Int → Int × Int
  | [] => (s, 0)
  | n :: r => if mx - s < n then (0, 60) else addL (s + n) r
/-- the fee, and the error -/
def feeF (base rate n : Int) : Int × Int := if base + n * rate / 1000000 ≤ mx then (base + n * rate / 1000000, 0) else (0, 60)
/-- is it enough -/
def enough (inn out base rate : Int) : Bool := decide (out + (base + out * rate / 1000000) ≤ inn) && decide (base + out * rate / 1000000 ≤ mx)
theorem sum_nonneg {l : List Int} (h : ∀ z ∈ l, 0 ≤ z) : 0 ≤ l.sum := by
  induction l with
  | nil => simp
  | cons a r ih =>
    have h1 := h a (by simp)
    have h2 := ih fun z hz => h z (by simp [hz])
    simp only [List.sum_cons]; omega
theorem addL_eq {l : List Int} (h : ∀ z ∈ l, 0 ≤ z) (s : Int) (hs : s ≤ mx) : addL s l = if s + l.sum ≤ mx then (s + l.sum, 0) else (0, 60) := by
  induction l generalizing s with
  | nil => simp [addL, hs]
  | cons a r ih =>
    have h1 := h a (by simp)
    have hr : ∀ z ∈ r, 0 ≤ z := fun z hz => h z (by simp [hz])
    have h2 := sum_nonneg hr
    have e : (a :: r).sum = a + r.sum := List.sum_cons
    simp only [addL]
    by_cases hc : mx - s < a
    · rw [if_pos hc, if_neg (by rw [e]; omega)]
    · rw [if_neg hc, ih hr (s + a) (by omega)]
      by_cases hq : s + a + r.sum ≤ mx
      · rw [if_pos hq, if_pos (by rw [e]; omega), e, ← Int.add_assoc]
      · rw [if_neg hq, if_neg (by rw [e]; omega)]
theorem addL_addF {l : List Int} (h : ∀ z ∈ l, 0 ≤ z) : addL 0 l = addF l := by
  rw [addL_eq h 0 (by decide)]; simp [addF]
theorem mul_mono {a b r : Int} (h : a ≤ b) (hr : 0 ≤ r) : a * r ≤ b * r := Int.mul_le_mul_of_nonneg_right h hr
theorem enough_mono {inn a b base rate : Int} (hab : a ≤ b) (hr : 0 ≤ rate) (h : enough inn b base rate = true) : enough inn a base rate = true := by
  have := mul_mono hab hr
  simp only [enough, Bool.and_eq_true, decide_eq_true_eq] at *
  omega
/-- the reference's way to the share -/
theorem digits {n rate : Int} (hn : 0 ≤ n) (hn' : n ≤ 18446744073709551615) (hr : 0 ≤ rate) (hr' : rate ≤ 18446744073709551615) :
    ∀ a b c d p q r s : Int, a = n % 4294967296 → b = n / 4294967296 → c = rate % 4294967296 → d = rate / 4294967296 → p = a * c → q = b * c + p / 4294967296 → r = a * d + q % 4294967296 → s = b * d + q / 4294967296 + r / 4294967296 →
      0 ≤ p ∧ p ≤ 18446744065119617025 ∧ 0 ≤ q ∧ q ≤ 18446744073709551615 ∧ 0 ≤ r ∧ r ≤ 18446744073709551615 ∧ 0 ≤ s ∧ s ≤ 18446744073709551615 ∧ n * rate = s * 18446744073709551616 + (r % 4294967296) * 4294967296 + p % 4294967296 := by
  intro a b c d p q r s ea eb ec ed ep eq er es
  have ha : 0 ≤ a ∧ a ≤ 4294967295 := by omega
  have hb : 0 ≤ b ∧ b ≤ 4294967295 := by omega
  have hc : 0 ≤ c ∧ c ≤ 4294967295 := by omega
  have hd : 0 ≤ d ∧ d ≤ 4294967295 := by omega
  have up : ∀ x y : Int, 0 ≤ x ∧ x ≤ 4294967295 → 0 ≤ y ∧ y ≤ 4294967295 → 0 ≤ x * y ∧ x * y ≤ 18446744065119617025 := by
    intro x y hx hy
    refine ⟨Int.mul_nonneg hx.1 hy.1, ?_⟩
    have h1 : x * y ≤ 4294967295 * y := Int.mul_le_mul_of_nonneg_right hx.2 hy.1
    have h2 : 4294967295 * y ≤ 4294967295 * 4294967295 := Int.mul_le_mul_of_nonneg_left hy.2 (by decide)
    omega
  have hac := up a c ha hc
  have hbc := up b c hb hc
  have had := up a d ha hd
  have hbd := up b d hb hd
  have en : n = b * 4294967296 + a := by omega
  have er' : rate = d * 4294967296 + c := by omega
  have hmul : n * rate = b * d * 18446744073709551616 + (b * c + a * d) * 4294967296 + a * c := by
    rw [en, er']
    simp only [Int.add_mul, Int.mul_add]
    have e1 : b * 4294967296 * (d * 4294967296) = b * d * 18446744073709551616 := by
      rw [Int.mul_assoc, ← Int.mul_assoc 4294967296 d, Int.mul_comm 4294967296 d, Int.mul_assoc d, ← Int.mul_assoc b d]; rfl
    have e2 : b * 4294967296 * c = b * c * 4294967296 := by rw [Int.mul_assoc, Int.mul_comm 4294967296 c, ← Int.mul_assoc]
    have e3 : a * (d * 4294967296) = a * d * 4294967296 := by rw [← Int.mul_assoc]
    rw [e1, e2, e3]; omega
  rw [hmul]
  generalize a * c = u1 at *
  generalize b * c = u2 at *
  generalize a * d = u3 at *
  generalize b * d = u4 at *
  omega
theorem share_ok (N a b c d x y z q1 q2 q3 : Int) (ha : 0 ≤ a ∧ a ≤ 4294967295) (hb : 0 ≤ b ∧ b ≤ 4294967295) (hc : 0 ≤ c ∧ c ≤ 4294967295) (hd : 0 ≤ d ∧ d ≤ 4294967295)
    (hN : N = a * 79228162514264337593543950336 + b * 18446744073709551616 + c * 4294967296 + d)
    (ex : x = a % 1000000 * 4294967296) (ey : y = (x + b) % 1000000 * 4294967296) (e1 : q1 = (x + b) / 1000000) (ez : z = (y + c) % 1000000 * 4294967296) (e2 : q2 = (y + c) / 1000000) (e3 : q3 = (z + d) / 1000000) :
    0 ≤ x ∧ x + b ≤ 4294967296000000 ∧ 0 ≤ y ∧ y + c ≤ 4294967296000000 ∧ 0 ≤ z ∧ z + d ≤ 4294967296000000 ∧ 0 ≤ q1 ∧ 0 ≤ q2 ∧ q2 ≤ 4294967295 ∧ 0 ≤ q3 ∧ q3 ≤ 4294967295 ∧
    ((a / 1000000 = 0 ∧ q1 = 0 → q2 * 4294967296 + q3 = N / 1000000 ∧ N / 1000000 ≤ 18446744073709551615) ∧ (¬(a / 1000000 = 0 ∧ q1 = 0) → 18446744073709551616 ≤ N / 1000000)) := by
  have key : N / 1000000 = a / 1000000 * 79228162514264337593543950336 + q1 * 18446744073709551616 + q2 * 4294967296 + q3 := by omega
  have hq1 : 0 ≤ q1 := by omega
  have hq2 : 0 ≤ q2 ∧ q2 ≤ 4294967295 := by omega
  have hq3 : 0 ≤ q3 ∧ q3 ≤ 4294967295 := by omega
  refine ⟨by omega, by omega, by omega, by omega, by omega, by omega, hq1, hq2.1, hq2.2, hq3.1, hq3.2, fun h => by omega, fun h => by omega⟩
/-- math/bits.Div64 by a million: the text's own steps -/
theorem div_steps (hi lo : Int) :
    (((hi * 17592186044416 + lo / 1048576) * 4294967296 + lo * 17592186044416 % 18446744073709551616 / 4294967296 - (hi * 17592186044416 + lo / 1048576) / 4096000000 * 17592186044416000000) / 4096000000
      + (hi * 17592186044416 + lo / 1048576) / 4096000000 * 4294967296 = (hi * 18446744073709551616 + lo) / 1000000) := by
  omega
end Go.Proofs.YtdebnbgjgkbmaaaGreatDoor.Pu.Am
namespace Go.Proofs.YtdebnbgjgkbmaaaGreatDoor.Pu
open Go.RowKit
theorem u64_in (n : Int) (h : 0 ≤ n ∧ n ≤ 18446744073709551615) : IntKind.u64.wrap n = n := by rw [IntKind.wrap_u64]; omega
/-- a row of numbers of 64 bits that a call reads -/
structure URow (w : World) (p : Option Addr) (len : Nat) (zs : List Int) : Prop where
  lens : zs.length = len
  short : len ≤ 9223372036854775807
  fits : ∀ z ∈ zs, 0 ≤ z ∧ z ≤ 18446744073709551615
  cells : ∃ b off, (len = 0 ∨ p = some ⟨b, off, none⟩) ∧ ∀ j, j < len → w.cell? ⟨b, off + j, none⟩ = some (.int .u64 (zs.getD j 0))
theorem drop_step (zs : List Int) (k : Nat) (h : k < zs.length) : zs.drop k = zs.getD k 0 :: zs.drop (k + 1) := by
  rw [List.drop_eq_getElem_cons h]; simp [h]
set_option maxHeartbeats 400000 in
theorem add_any (p : Option Addr) (len cap : Nat) (zs : List Int) (w : World) (h : URow w p len zs) :
    Calls Tryz.prog 51 #[.slice p len cap] w fun e w' => e = .returned (.tuple #[.int .u64 (Am.addF zs).1, .int .i64 (Am.addF zs).2]) ∧ w = w' := by
  obtain ⟨hl, hs, hf, b, off, hp, hc⟩ := h
  rw [← Am.addL_addF (fun z hz => (hf z hz).1)]
  have HL := Lib.hid hl; have HF := Lib.hid hf; have HP := Lib.hid hp; have HC := Lib.hid hc
  clear hl hf hp hc
  go_enter Tryz.func51, Tryz.ntmps51
  go_wp2
  go_loop [4, 9] (fun s i => ∃ (k : Nat) (x : Int), k ≤ len ∧ i = .int .i64 k ∧ s = .int .u64 x ∧ 0 ≤ x ∧ x ≤ 1125899906842624 ∧ Am.addL 0 zs = Am.addL x (zs.drop k)) (fun _ i => len - (intOf i).toNat)
  case atStart => exact ⟨0, 0, by omega, rfl, rfl, by omega, by omega, by simp⟩
  case round =>
    obtain ⟨k, x, hk, rfl, rfl, x0, x1, hx⟩ := hrel
    have HX := Lib.hid hx; clear hx
    by_cases hlt : k < len
    · obtain rfl : p = some ⟨b, off, none⟩ := by rcases HP.out with h | h; (omega); exact h
      have hcell := HC.out k hlt
      have hfit : 0 ≤ zs.getD k 0 ∧ zs.getD k 0 ≤ 18446744073709551615 := HF.out _ (by have := HL.out; simp [show k < zs.length by omega])
      have hd := drop_step zs k (by have := HL.out; omega)
      rw [hd] at HX
      clear hd
      generalize zs.getD k 0 = z at *
      obtain ⟨z0, z1⟩ := hfit
      by_cases hgt : 1125899906842624 - x < z
      · have he : Am.addL x (z :: zs.drop (k + 1)) = (0, 60) := by
          simp only [Am.addL]; rw [if_pos (by show (1125899906842624 : Int) - x < z; exact hgt)]
        have HE := Lib.hid (HX.out.trans he); clear he
        go_wp2
        go_ret2
        exact ⟨by rw [HE.out]; rfl, rfl⟩
      · have he : Am.addL x (z :: zs.drop (k + 1)) = Am.addL (x + z) (zs.drop (k + 1)) := by
          simp only [Am.addL]; rw [if_neg (by show ¬ (1125899906842624 : Int) - x < z; exact hgt)]
        have HE := Lib.hid (HX.out.trans he); clear he
        go_wp2
        go_round
        case rel => exact ⟨k + 1, x + z, by omega, by go_num, rfl, by omega, by omega, HE.out⟩
        case measure => simp [intOf]; omega
    · have he : Am.addL x (zs.drop k) = (x, 0) := by
        rw [List.drop_eq_nil_of_le (by have := HL.out; omega)]; rfl
      have HE := Lib.hid (HX.out.trans he); clear he
      go_wp2
      go_ret2
      exact ⟨by rw [HE.out]; rfl, rfl⟩
namespace Mul64
theorem maskN (a : Nat) (ha : a < 18446744073709551616) : bits .and .u64 (a : Int) 4294967295 = ((a % 4294967296 : Nat) : Int) := by
  have h := bits_and_u64_nat a 4294967295 ha (by omega)
  have e : a &&& 4294967295 = a % 4294967296 := Nat.and_two_pow_sub_one_eq_mod a 32
  rw [e] at h
  exact h
theorem divN (a : Nat) : (a : Int) / 4294967296 = ((a / 4294967296 : Nat) : Int) := by omega
theorem mulN (a b : Nat) : (a : Int) * (b : Int) = ((a * b : Nat) : Int) := (Int.natCast_mul a b).symm
theorem addN (a b : Nat) : (a : Int) + (b : Int) = ((a + b : Nat) : Int) := (Int.natCast_add a b).symm
theorem wrapN (a : Nat) (ha : a < 18446744073709551616) : IntKind.u64.wrap (a : Int) = (a : Int) := by rw [IntKind.wrap_u64]; omega
theorem wrapM (a : Nat) : IntKind.u64.wrap (a : Int) = ((a % 18446744073709551616 : Nat) : Int) := by rw [IntKind.wrap_u64]; omega
end Mul64
set_option maxHeartbeats 1000000 in
theorem mul64_nat (x y : Nat) (hx : x < 18446744073709551616) (hy : y < 18446744073709551616) (w : World) :
    Calls Tryz.prog 139 #[.int .u64 x, .int .u64 y] w fun e w' => e = .returned (.tuple #[.int .u64 ((x * y / 18446744073709551616 : Nat) : Int), .int .u64 ((x * y % 18446744073709551616 : Nat) : Int)]) ∧ w = w' := by
  obtain ⟨bd, bt, bw, hhi⟩ := Lib.mul64_hi x y hx hy
  have ba := Lib.half_mul_le (a := x / 4294967296) (b := y / 4294967296) (by omega) (by omega)
  have bb := Lib.half_mul_le (a := x / 4294967296) (b := y % 4294967296) (by omega) (by omega)
  have bc := Lib.half_mul_le (a := x % 4294967296) (b := y / 4294967296) (by omega) (by omega)
  have ba' : x / 4294967296 * (y / 4294967296) < 18446744073709551616 := by omega
  have bb' : x / 4294967296 * (y % 4294967296) < 18446744073709551616 := by omega
  have bc' : x % 4294967296 * (y / 4294967296) < 18446744073709551616 := by omega
  have bh1 : x / 4294967296 * (y / 4294967296) + (x / 4294967296 * (y % 4294967296) + x % 4294967296 * (y % 4294967296) / 4294967296) / 4294967296 < 18446744073709551616 := by omega
  have bh : x / 4294967296 * (y / 4294967296) + (x / 4294967296 * (y % 4294967296) + x % 4294967296 * (y % 4294967296) / 4294967296) / 4294967296 + ((x / 4294967296 * (y % 4294967296) + x % 4294967296 * (y % 4294967296) / 4294967296) % 4294967296 + x % 4294967296 * (y / 4294967296)) / 4294967296 < 18446744073709551616 := by omega
  have HH := Lib.hid hhi; clear hhi
  go_enter Tryz.func139, Tryz.ntmps139
  go_wp2
  simp only [Mul64.maskN x hx, Mul64.maskN y hy, Mul64.divN, Mul64.mulN, Mul64.addN, Mul64.wrapN _ bd, Mul64.wrapN _ bb', Mul64.wrapN _ bt, Mul64.maskN _ bt, Mul64.wrapN _ bc', Mul64.wrapN _ bw, Mul64.wrapN _ ba', Mul64.wrapN _ bh1, Mul64.wrapN _ bh, Mul64.wrapM (x * y)]
  rw [HH.out]
  go_ret2
  exact ⟨rfl, rfl⟩
theorem mul64_any (x y : Int) (x0 : 0 ≤ x) (x1 : x ≤ 18446744073709551615) (y0 : 0 ≤ y) (y1 : y ≤ 18446744073709551615) (w : World) :
    Calls Tryz.prog 139 #[.int .u64 x, .int .u64 y] w fun e w' => e = .returned (.tuple #[.int .u64 (x * y / 18446744073709551616), .int .u64 (x * y % 18446744073709551616)]) ∧ w = w' := by
  obtain ⟨a, rfl⟩ := Int.eq_ofNat_of_zero_le x0
  obtain ⟨b, rfl⟩ := Int.eq_ofNat_of_zero_le y0
  exact mul64_nat a b (by omega) (by omega) w
set_option maxRecDepth 100000 in
theorem lz_million (w : World) : Calls Tryz.prog 208 #[.int .u64 1000000] w fun e w' => e = .returned (.int .i64 44) ∧ w = w' := by
  go_enter Tryz.func208, Tryz.ntmps208
  go_wp2
  go_ret
  refine ⟨?_, rfl⟩
  kernel_rfl
theorem or_join (hi lo : Int) (h0 : 0 ≤ hi) (h1 : hi < 1000000) (l0 : 0 ≤ lo) (l1 : lo ≤ 18446744073709551615) :
    bits .or .u64 (hi * 17592186044416) (lo / 1048576) = hi * 17592186044416 + lo / 1048576 :=
  bits_join .u64 64 (by decide) (fun n a b => u64_in n ⟨a, by omega⟩) 44 _ _ (by omega) (by omega) (by omega) (by omega) (by omega) (by omega)
theorem mask_64 (L : Int) (l0 : 0 ≤ L) (l1 : L ≤ 18446744073709551615) : bits .and .u64 L 4294967295 = L % 4294967296 := by
  obtain ⟨a, rfl⟩ := Int.eq_ofNat_of_zero_le l0
  rw [Mul64.maskN a (by omega)]; omega
set_option maxRecDepth 100000 in
set_option maxHeartbeats 1000000 in
theorem div_big (hi lo : Int) (w : World) (h0 : 1 ≤ hi) (h1 : hi < 1000000) (l0 : 0 ≤ lo) (l1 : lo ≤ 18446744073709551615) :
    Calls Tryz.prog 140 #[.int .u64 hi, .int .u64 lo, .int .u64 1000000] w fun e w' => (∃ r, e = .returned (.tuple #[.int .u64 ((hi * 18446744073709551616 + lo) / 1000000), .int .u64 r])) ∧ w = w' := by
  have ho := or_join hi lo (by omega) h1 l0 l1
  have hm0 : bits .and .u64 17592186044416000000 4294967295 = 0 := mask_64 17592186044416000000 (by omega) (by omega)
  have hL : IntKind.u64.wrap (lo * 17592186044416) = lo * 17592186044416 % 18446744073709551616 := IntKind.wrap_u64 _
  have hst := Am.div_steps hi lo
  obtain ⟨U, hU⟩ : ∃ U, U = hi * 17592186044416 + lo / 1048576 := ⟨_, rfl⟩
  obtain ⟨L, hL'⟩ : ∃ L, L = lo * 17592186044416 % 18446744073709551616 := ⟨_, rfl⟩
  rw [← hU] at ho hst; rw [← hL'] at hL hst
  have u0 : 0 ≤ U := by omega
  have u1 : U < 17592186044416000000 := by omega
  have b0 : 0 ≤ L := by omega
  have b1 : L ≤ 18446744073709551615 := by omega
  have hmL := mask_64 L b0 b1
  have HST := Lib.hid hst
  obtain ⟨V, hV⟩ : ∃ V, V = U * 4294967296 + L / 4294967296 - U / 4096000000 * 17592186044416000000 := ⟨_, rfl⟩
  have v0 : 0 ≤ V := by omega
  have v1 : V < 17592186044416000000 := by omega
  have hV2 : IntKind.u64.wrap (IntKind.u64.wrap (IntKind.u64.wrap (U * 4294967296) + L / 4294967296) - IntKind.u64.wrap (U / 4096000000 * 17592186044416000000)) = V := by
    simp only [IntKind.wrap_u64]; omega
  have hQ : U / 4096000000 * 4294967296 + V / 4096000000 = (hi * 18446744073709551616 + lo) / 1000000 := by rw [← hst, ← hV]; omega
  have HQ := Lib.hid hQ
  have HU := Lib.hid hU; have HL' := Lib.hid hL'; have HV := Lib.hid hV
  clear hst hU hL' hV hQ HST
  go_enter Tryz.func140, Tryz.ntmps140
  go_wp2_with fail
  refine (lz_million _).mono ?_
  rintro e w' ⟨rfl, rfl⟩
  go_wp2_with fail
  refine wp_loop_rounds 1 ?_
  rw [rounds_succ]
  go_wp2_with fail
  refine wp_loop_rounds 1 ?_
  rw [rounds_succ]
  go_wp2
  go_ret2
  exact ⟨⟨_, by rw [← HQ.out]; rfl⟩, rfl⟩
set_option maxRecDepth 100000 in
theorem div_any (hi lo : Int) (w : World) (h0 : 0 ≤ hi) (h1 : hi < 1000000) (l0 : 0 ≤ lo) (l1 : lo ≤ 18446744073709551615) :
    Calls Tryz.prog 140 #[.int .u64 hi, .int .u64 lo, .int .u64 1000000] w fun e w' => (∃ r, e = .returned (.tuple #[.int .u64 ((hi * 18446744073709551616 + lo) / 1000000), .int .u64 r])) ∧ ∃ n, w' = w.drewN n := by
  by_cases hz : 1 ≤ hi
  · exact (div_big hi lo w hz h1 l0 l1).mono fun e w' ⟨he, hw⟩ => ⟨he, 0, hw.symm⟩
  · obtain rfl : hi = 0 := by omega
    have e0 : (0 * 18446744073709551616 + lo) / 1000000 = lo / 1000000 := by omega
    rw [e0]; clear e0
    go_enter Tryz.func140, Tryz.ntmps140
    go_wp2
    go_quiet (fail)
    go_wp2
    go_ret2
    exact ⟨⟨_, rfl⟩, _, rfl⟩
end Go.Proofs.YtdebnbgjgkbmaaaGreatDoor.Pu
namespace Go.Proofs.YtdebnbgjgkbmaaaGreatDoor.Pu
open Go.RowKit
/-- a number of 64 bits -/
structure U64 (x : Int) : Prop where
  lo : 0 ≤ x
  hi : x ≤ 18446744073709551615
theorem below_drewN {B : Nat} {a w : World} (h : Below B a w) (n : Nat) : Below B a (w.drewN n) := ⟨h.os, h.tape, h.output, h.size, h.block⟩
theorem urow_two (w : World) (a b : Int) (ha : U64 a) (hb : U64 b) : URow (w.alloc (.cells #[.int .u64 a, .int .u64 b] 27)) (some ⟨w.heap.size, 0, none⟩) 2 [a, b] := by
  refine ⟨rfl, by omega, ?_, w.heap.size, 0, .inr rfl, fun j hj => ?_⟩
  · intro z hz
    simp at hz
    rcases hz with rfl | rfl
    · exact ⟨ha.lo, ha.hi⟩
    · exact ⟨hb.lo, hb.hi⟩
  · have : j = 0 ∨ j = 1 := by omega
    rcases this with rfl | rfl <;> go_simp
theorem addF_two (a b : Int) : Am.addF [a, b] = if a + b ≤ 1125899906842624 then (a + b, 0) else (0, 60) := by simp [Am.addF, Am.mx]
set_option maxRecDepth 100000 in
set_option maxHeartbeats 400000 in
theorem fee_any (base rate n : Int) (w : World) (hb : U64 base) (hr : U64 rate) (hn : U64 n) :
    Calls Tryz.prog 48 #[.int .u64 base, .int .u64 rate, .int .u64 n] w fun e w' => e = .returned (.tuple #[.int .u64 (Am.feeF base rate n).1, .int .i64 (Am.feeF base rate n).2]) ∧ Below w.heap.size w w' := by
  have hm := mul64_any n rate hn.lo hn.hi hr.lo hr.hi w
  have hp : 0 ≤ n * rate := Int.mul_nonneg hn.lo hr.lo
  have b0 := hb.lo
  have hf : Am.feeF base rate n = if base + n * rate / 1000000 ≤ 1125899906842624 then (base + n * rate / 1000000, 0) else (0, 60) := rfl
  rw [hf]; clear hf
  generalize n * rate = N at *
  have HM := Lib.hid hm; clear hm
  by_cases hbig : 1000000 ≤ N / 18446744073709551616
  · have hx : ¬ base + N / 1000000 ≤ 1125899906842624 := by omega
    rw [if_neg hx]; clear hx
    go_enter Tryz.func48, Tryz.ntmps48
    go_wp2_with fail
    refine (HM.out).mono ?_
    rintro e w' ⟨rfl, rfl⟩
    go_wp2_with fail
    go_ret2
    exact ⟨rfl, Below.refl _ _⟩
  · have hd := div_any (N / 18446744073709551616) (N % 18446744073709551616) w (by omega) (by omega) (by omega) (by omega)
    have e1 : N / 18446744073709551616 * 18446744073709551616 + N % 18446744073709551616 = N := by omega
    rw [e1] at hd; clear e1
    have hP : U64 (N / 1000000) := ⟨by omega, by omega⟩
    have q0 := hP.lo
    have q1 := hP.hi
    have he := addF_two base (N / 1000000)
    have hz : 0 ≤ N / 18446744073709551616 := by omega
    have HD := Lib.hid hd; have HE := Lib.hid he; clear hd he
    go_enter Tryz.func48, Tryz.ntmps48
    go_wp2_with fail
    refine (HM.out).mono ?_
    rintro e w' ⟨rfl, rfl⟩
    go_wp2_with fail
    refine (HD.out).mono ?_
    rintro e w' ⟨⟨r, rfl⟩, m, rfl⟩
    go_wp2_with fail
    refine (add_any _ 2 2 _ _ (urow_two _ base (N / 1000000) hb hP)).mono ?_
    rintro e w' ⟨rfl, rfl⟩
    rw [HE.out]
    go_wp2
    all_goals
      go_ret2
      exact ⟨rfl, below_drewN ((Below.refl _ _).alloc (Nat.le_refl _) _) _⟩
theorem ret_bool {a b : Bool} (h : a = b) : Ending.returned (.bool a) = .returned (.bool b) := by rw [h]
theorem feeF_two (base rate n : Int) : (Am.feeF base rate n).2 = 0 ∧ (Am.feeF base rate n).1 = base + n * rate / 1000000 ∧ base + n * rate / 1000000 ≤ 1125899906842624 ∨ (Am.feeF base rate n).2 = 60 ∧ (Am.feeF base rate n).1 = 0 ∧ 1125899906842624 < base + n * rate / 1000000 := by
  unfold Am.feeF Am.mx
  split
  · exact .inl ⟨rfl, rfl, by omega⟩
  · exact .inr ⟨rfl, rfl, by omega⟩
set_option maxHeartbeats 400000 in
theorem enough_any (inn out base rate : Int) (w : World) (hi : U64 inn) (ho : U64 out) (hb : U64 base) (hr : U64 rate) :
    Calls Tryz.prog 137 #[.int .u64 inn, .int .u64 out, .int .u64 base, .int .u64 rate] w fun e w' => e = .returned (.bool (Am.enough inn out base rate)) ∧ Below w.heap.size w w' := by
  have hm := fee_any base rate out w hb hr ho
  have b0 := hb.lo
  have o0 := ho.lo
  have i1 := hi.hi
  have hp : 0 ≤ out * rate := Int.mul_nonneg o0 hr.lo
  have hE : Am.enough inn out base rate = (decide (out + (base + out * rate / 1000000) ≤ inn) && decide (base + out * rate / 1000000 ≤ 1125899906842624)) := rfl
  rcases feeF_two base rate out with ⟨e2, e1, hle⟩ | ⟨e2, e1, hgt⟩
  · rw [e1, e2] at hm; clear e1 e2
    rw [hE]; clear hE
    have q0 : 0 ≤ out * rate / 1000000 := by omega
    clear hp
    generalize out * rate / 1000000 = q at *
    have HM := Lib.hid hm; clear hm
    by_cases hoi : out ≤ inn
    · have hres : (decide (out + (base + q) ≤ inn) && decide (base + q ≤ 1125899906842624)) = decide (base + q ≤ inn - out) := by rw [Bool.eq_iff_iff]; simp; omega
      rw [hres]; clear hres
      go_enter Tryz.func137, Tryz.ntmps137
      go_wp2_with fail
      refine (HM.out).mono ?_
      rintro e w' ⟨rfl, hw⟩
      go_wp2
      go_ret
      exact ⟨rfl, hw⟩
    · have hres : (decide (out + (base + q) ≤ inn) && decide (base + q ≤ 1125899906842624)) = false := by simp; omega
      rw [hres]; clear hres
      go_enter Tryz.func137, Tryz.ntmps137
      go_wp2_with fail
      refine (HM.out).mono ?_
      rintro e w' ⟨rfl, hw⟩
      go_wp2
      go_ret
      exact ⟨rfl, hw⟩
  · rw [e1, e2] at hm; clear e1 e2
    rw [hE]; clear hE hp
    generalize out * rate / 1000000 = q at *
    have hres : (decide (out + (base + q) ≤ inn) && decide (base + q ≤ 1125899906842624)) = false := by simp; omega
    rw [hres]; clear hres
    have HM := Lib.hid hm; clear hm
    go_enter Tryz.func137, Tryz.ntmps137
    go_wp2_with fail
    refine (HM.out).mono ?_
    rintro e w' ⟨rfl, hw⟩
    go_wp2
    go_ret
    exact ⟨rfl, hw⟩
set_option maxRecDepth 100000 in
set_option maxHeartbeats 1000000 in
theorem times_any (n rate : Int) (w : World) (hn : U64 n) (hr : U64 rate) :
    Calls Tryz.prog 281 #[.int .u64 n, .int .u64 rate] w fun e w' => (∃ a b c d : Int, e = .returned (.tuple #[.int .u64 a, .int .u64 b, .int .u64 c, .int .u64 d]) ∧
      (0 ≤ a ∧ a ≤ 4294967295) ∧ (0 ≤ b ∧ b ≤ 4294967295) ∧ (0 ≤ c ∧ c ≤ 4294967295) ∧ (0 ≤ d ∧ d ≤ 4294967295) ∧ n * rate = a * 79228162514264337593543950336 + b * 18446744073709551616 + c * 4294967296 + d) ∧ w = w' := by
  obtain ⟨n0, n1⟩ := hn
  obtain ⟨r0, r1⟩ := hr
  obtain ⟨a, ha⟩ : ∃ a, a = n % 4294967296 := ⟨_, rfl⟩
  obtain ⟨b, hb⟩ : ∃ b, b = n / 4294967296 := ⟨_, rfl⟩
  obtain ⟨c, hc⟩ : ∃ c, c = rate % 4294967296 := ⟨_, rfl⟩
  obtain ⟨d, hd⟩ : ∃ d, d = rate / 4294967296 := ⟨_, rfl⟩
  obtain ⟨p, hp⟩ : ∃ p, p = a * c := ⟨_, rfl⟩
  obtain ⟨q, hq⟩ : ∃ q, q = b * c + p / 4294967296 := ⟨_, rfl⟩
  obtain ⟨r, hr⟩ : ∃ r, r = a * d + q % 4294967296 := ⟨_, rfl⟩
  obtain ⟨s, hs⟩ : ∃ s, s = b * d + q / 4294967296 + r / 4294967296 := ⟨_, rfl⟩
  obtain ⟨p0, p1, q0, q1, rr0, rr1, s0, s1, hN⟩ := Am.digits n0 n1 r0 r1 a b c d p q r s ha hb hc hd hp hq hr hs
  have a0 : 0 ≤ a := by omega
  have a1 : a ≤ 4294967295 := by omega
  have b0 : 0 ≤ b := by omega
  have b1 : b ≤ 4294967295 := by omega
  have c0 : 0 ≤ c := by omega
  have c1 : c ≤ 4294967295 := by omega
  have d0 : 0 ≤ d := by omega
  have d1 : d ≤ 4294967295 := by omega
  have bc0 : 0 ≤ b * c := Int.mul_nonneg b0 c0
  have bc1 : b * c ≤ 18446744073709551615 := by omega
  have ad0 : 0 ≤ a * d := Int.mul_nonneg a0 d0
  have ad1 : a * d ≤ 18446744073709551615 := by omega
  have bd0 : 0 ≤ b * d := Int.mul_nonneg b0 d0
  have bd1 : b * d ≤ 18446744073709551615 := by omega
  have bdq : b * d + q / 4294967296 ≤ 18446744073709551615 := by omega
  have hres : n * rate = s / 4294967296 * 79228162514264337593543950336 + s % 4294967296 * 18446744073709551616 + r % 4294967296 * 4294967296 + p % 4294967296 := by rw [hN]; omega
  have HR := Lib.hid hres
  have f1 : b * c + p / 4294967296 = q := hq.symm
  have f2 : a * d + q % 4294967296 = r := hr.symm
  have f3 : b * d + q / 4294967296 + r / 4294967296 = s := hs.symm
  have f4 : a * c = p := hp.symm
  have g1 : n % 4294967296 = a := ha.symm
  have g2 : n / 4294967296 = b := hb.symm
  have g3 : rate % 4294967296 = c := hc.symm
  have g4 : rate / 4294967296 = d := hd.symm
  have k1 : 0 ≤ s / 4294967296 ∧ s / 4294967296 ≤ 4294967295 := by omega
  have k2 : 0 ≤ s % 4294967296 ∧ s % 4294967296 ≤ 4294967295 := by omega
  have k3 : 0 ≤ r % 4294967296 ∧ r % 4294967296 ≤ 4294967295 := by omega
  have k4 : 0 ≤ p % 4294967296 ∧ p % 4294967296 ≤ 4294967295 := by omega
  have K := Lib.hid (And.intro k1 (And.intro k2 (And.intro k3 k4)))
  clear ha hb hc hd hp hq hr hs hN hres k1 k2 k3 k4
  go_enter Tryz.func281, Tryz.ntmps281
  go_wp2
  obtain ⟨k1, k2, k3, k4⟩ := K.out
  refine bodyPost_ret (v := .tuple #[.int .u64 (s / 4294967296), .int .u64 (s % 4294967296), .int .u64 (r % 4294967296), .int .u64 (p % 4294967296)]) ?_ rfl ⟨⟨_, _, _, _, rfl, k1, k2, k3, k4, HR.out⟩, rfl⟩
  simp [results, Tryz.results281, go_sem]
set_option maxRecDepth 100000 in
set_option maxHeartbeats 1000000 in
theorem share_any (n rate : Int) (w : World) (hn : U64 n) (hr : U64 rate) :
    Calls Tryz.prog 209 #[.int .u64 n, .int .u64 rate] w fun e w' => (n * rate / 1000000 ≤ 18446744073709551615 ∧ e = .returned (.tuple #[.int .u64 (n * rate / 1000000), .bool true]) ∨
      18446744073709551616 ≤ n * rate / 1000000 ∧ ∃ x : Int, e = .returned (.tuple #[.int .u64 x, .bool false])) ∧ w = w' := by
  have ht := times_any n rate w hn hr
  generalize n * rate = N at *
  have HT := Lib.hid ht; clear ht
  go_enter Tryz.func209, Tryz.ntmps209
  go_wp2_with fail
  refine (HT.out).mono ?_
  rintro e w' ⟨⟨a, b, c, d, rfl, ⟨a0, a1⟩, ⟨b0, b1⟩, ⟨c0, c1⟩, ⟨d0, d1⟩, hN⟩, rfl⟩
  obtain ⟨x, hx⟩ : ∃ x, x = a % 1000000 * 4294967296 := ⟨_, rfl⟩
  obtain ⟨y, hy⟩ : ∃ y, y = (x + b) % 1000000 * 4294967296 := ⟨_, rfl⟩
  obtain ⟨q1, hq1⟩ : ∃ q1, q1 = (x + b) / 1000000 := ⟨_, rfl⟩
  obtain ⟨z, hz⟩ : ∃ z, z = (y + c) % 1000000 * 4294967296 := ⟨_, rfl⟩
  obtain ⟨q2, hq2⟩ : ∃ q2, q2 = (y + c) / 1000000 := ⟨_, rfl⟩
  obtain ⟨q3, hq3⟩ : ∃ q3, q3 = (z + d) / 1000000 := ⟨_, rfl⟩
  obtain ⟨t1, t2, t3, t4, t5, t6, t7, t8, t9, t10, t11, hyes, hno⟩ := Am.share_ok N a b c d x y z q1 q2 q3 ⟨a0, a1⟩ ⟨b0, b1⟩ ⟨c0, c1⟩ ⟨d0, d1⟩ hN hx hy hq1 hz hq2 hq3
  have f1 : a % 1000000 * 4294967296 = x := hx.symm
  have f2 : (x + b) % 1000000 * 4294967296 = y := hy.symm
  have f3 : (x + b) / 1000000 = q1 := hq1.symm
  have f4 : (y + c) % 1000000 * 4294967296 = z := hz.symm
  have f5 : (y + c) / 1000000 = q2 := hq2.symm
  have f6 : (z + d) / 1000000 = q3 := hq3.symm
  have aM : 0 ≤ a / 1000000 := by omega
  have HY := Lib.hid hyes; have HN := Lib.hid hno
  clear hx hy hq1 hz hq2 hq3 hyes hno hN
  by_cases c1 : a / 1000000 = 0
  · by_cases c2 : q1 = 0
    · have g1 : (a / 1000000 == 0) = true := beq_iff_eq.2 c1
      have g2 : (q1 == 0) = true := beq_iff_eq.2 c2
      obtain ⟨hv, hle⟩ := HY.out ⟨c1, c2⟩
      have HV := Lib.hid hv
      clear c1 c2 HN hv HY
      go_wp2
      go_ret2
      exact ⟨.inl ⟨hle, by rw [← HV.out]; rfl⟩, rfl⟩
    · have g1 : (a / 1000000 == 0) = true := beq_iff_eq.2 c1
      have g2 : (q1 == 0) = false := beq_eq_false_iff_ne.2 c2
      have hge := HN.out fun h => c2 h.2
      clear c1 c2 HN HY
      go_wp2
      go_ret2
      exact ⟨.inr ⟨hge, _, rfl⟩, rfl⟩
  · have g1 : (a / 1000000 == 0) = false := beq_eq_false_iff_ne.2 c1
    have hge := HN.out fun h => c1 h.1
    clear c1 HN HY
    go_wp2
    go_ret2
    exact ⟨.inr ⟨hge, _, rfl⟩, rfl⟩
end Go.Proofs.YtdebnbgjgkbmaaaGreatDoor.Pu
namespace Go.Proofs.YtdebnbgjgkbmaaaGreatDoor.Pu
open Go.RowKit
set_option maxHeartbeats 400000 in
theorem radd_any (p : Option Addr) (len cap : Nat) (zs : List Int) (w : World) (h : URow w p len zs) :
    Calls Tryz.prog 210 #[.slice p len cap] w fun e w' => e = .returned (.tuple #[.int .u64 (Am.addF zs).1, .int .i64 (Am.addF zs).2]) ∧ w = w' := by
  obtain ⟨hl, hs, hf, b, off, hp, hc⟩ := h
  rw [← Am.addL_addF (fun z hz => (hf z hz).1)]
  have HL := Lib.hid hl; have HF := Lib.hid hf; have HP := Lib.hid hp; have HC := Lib.hid hc
  clear hl hf hp hc
  go_enter Tryz.func210, Tryz.ntmps210
  go_wp2
  go_loop [4, 5] (fun s i => ∃ (k : Nat) (x : Int), k ≤ len ∧ i = .int .i64 k ∧ s = .int .u64 x ∧ 0 ≤ x ∧ x ≤ 1125899906842624 ∧ Am.addL 0 zs = Am.addL x (zs.drop k)) (fun _ i => len - (intOf i).toNat)
  case atStart => exact ⟨0, 0, by omega, rfl, rfl, by omega, by omega, by simp⟩
  case round =>
    obtain ⟨k, x, hk, rfl, rfl, x0, x1, hx⟩ := hrel
    have HX := Lib.hid hx; clear hx
    by_cases hlt : k < len
    · obtain rfl : p = some ⟨b, off, none⟩ := by rcases HP.out with h | h; (omega); exact h
      have hcell := HC.out k hlt
      have hfit : 0 ≤ zs.getD k 0 ∧ zs.getD k 0 ≤ 18446744073709551615 := HF.out _ (by have := HL.out; simp [show k < zs.length by omega])
      have hd := drop_step zs k (by have := HL.out; omega)
      rw [hd] at HX
      clear hd
      generalize zs.getD k 0 = z at *
      obtain ⟨z0, z1⟩ := hfit
      by_cases hgt : 1125899906842624 - x < z
      · have he : Am.addL x (z :: zs.drop (k + 1)) = (0, 60) := by
          simp only [Am.addL]; rw [if_pos (by show (1125899906842624 : Int) - x < z; exact hgt)]
        have HE := Lib.hid (HX.out.trans he); clear he
        by_cases hz : 1125899906842624 < z
        all_goals
          go_wp2
          go_ret2
          exact ⟨by rw [HE.out]; rfl, rfl⟩
      · have he : Am.addL x (z :: zs.drop (k + 1)) = Am.addL (x + z) (zs.drop (k + 1)) := by
          simp only [Am.addL]; rw [if_neg (by show ¬ (1125899906842624 : Int) - x < z; exact hgt)]
        have HE := Lib.hid (HX.out.trans he); clear he
        have hz : ¬ 1125899906842624 < z := by omega
        go_wp2
        go_round
        case rel => exact ⟨k + 1, x + z, by omega, by go_num, rfl, by omega, by omega, HE.out⟩
        case measure => simp [intOf]; omega
    · have he : Am.addL x (zs.drop k) = (x, 0) := by
        rw [List.drop_eq_nil_of_le (by have := HL.out; omega)]; rfl
      have HE := Lib.hid (HX.out.trans he); clear he
      go_wp2
      go_ret2
      exact ⟨by rw [HE.out]; rfl, rfl⟩
set_option maxHeartbeats 400000 in
theorem rfee_any (base rate n : Int) (w : World) (hb : U64 base) (hr : U64 rate) (hn : U64 n) :
    Calls Tryz.prog 141 #[.int .u64 base, .int .u64 rate, .int .u64 n] w fun e w' => e = .returned (.tuple #[.int .u64 (Am.feeF base rate n).1, .int .i64 (Am.feeF base rate n).2]) ∧ Below w.heap.size w w' := by
  have hm := share_any n rate w hn hr
  have hp : 0 ≤ n * rate := Int.mul_nonneg hn.lo hr.lo
  have b0 := hb.lo
  have hf : Am.feeF base rate n = if base + n * rate / 1000000 ≤ 1125899906842624 then (base + n * rate / 1000000, 0) else (0, 60) := rfl
  rw [hf]; clear hf
  have q0 : 0 ≤ n * rate / 1000000 := by omega
  clear hp
  generalize n * rate / 1000000 = q at *
  have HM := Lib.hid hm; clear hm
  have he := addF_two base q
  have HE := Lib.hid he; clear he
  go_enter Tryz.func141, Tryz.ntmps141
  go_wp2_with fail
  refine (HM.out).mono ?_
  rintro e w' ⟨⟨hq, rfl⟩ | ⟨hq, x, rfl⟩, rfl⟩
  · go_wp2_with fail
    refine (radd_any _ 2 2 _ _ (urow_two _ base q hb ⟨q0, hq⟩)).mono ?_
    rintro e w' ⟨rfl, rfl⟩
    rw [HE.out]
    go_wp2
    all_goals
      go_ret2
      exact ⟨rfl, (Below.refl _ _).alloc (Nat.le_refl _) _⟩
  · have hx : 1125899906842624 < base + q := by omega
    go_wp2
    go_ret2
    exact ⟨rfl, Below.refl _ _⟩
set_option maxHeartbeats 400000 in
theorem renough_any (inn out base rate : Int) (w : World) (hi : U64 inn) (ho : U64 out) (hb : U64 base) (hr : U64 rate) :
    Calls Tryz.prog 49 #[.int .u64 inn, .int .u64 out, .int .u64 base, .int .u64 rate] w fun e w' => e = .returned (.bool (Am.enough inn out base rate)) ∧ Below w.heap.size w w' := by
  have hm := rfee_any base rate out w hb hr ho
  have b0 := hb.lo
  have o0 := ho.lo
  have i1 := hi.hi
  have hp : 0 ≤ out * rate := Int.mul_nonneg o0 hr.lo
  have hE : Am.enough inn out base rate = (decide (out + (base + out * rate / 1000000) ≤ inn) && decide (base + out * rate / 1000000 ≤ 1125899906842624)) := rfl
  rcases feeF_two base rate out with ⟨e2, e1, hle⟩ | ⟨e2, e1, hgt⟩
  · rw [e1, e2] at hm; clear e1 e2
    rw [hE]; clear hE
    have q0 : 0 ≤ out * rate / 1000000 := by omega
    clear hp
    generalize out * rate / 1000000 = q at *
    have HM := Lib.hid hm; clear hm
    by_cases hoi : out ≤ inn
    · have hres : (decide (out + (base + q) ≤ inn) && decide (base + q ≤ 1125899906842624)) = decide (base + q ≤ inn - out) := by rw [Bool.eq_iff_iff]; simp; omega
      rw [hres]; clear hres
      go_enter Tryz.func49, Tryz.ntmps49
      go_wp2_with fail
      refine (HM.out).mono ?_
      rintro e w' ⟨rfl, hw⟩
      go_wp2
      go_ret
      exact ⟨rfl, hw⟩
    · have hres : (decide (out + (base + q) ≤ inn) && decide (base + q ≤ 1125899906842624)) = false := by simp; omega
      rw [hres]; clear hres
      go_enter Tryz.func49, Tryz.ntmps49
      go_wp2_with fail
      refine (HM.out).mono ?_
      rintro e w' ⟨rfl, hw⟩
      go_wp2
      go_ret
      exact ⟨rfl, hw⟩
  · rw [e1, e2] at hm; clear e1 e2
    rw [hE]; clear hE hp
    generalize out * rate / 1000000 = q at *
    have hres : (decide (out + (base + q) ≤ inn) && decide (base + q ≤ 1125899906842624)) = false := by simp; omega
    rw [hres]; clear hres
    have HM := Lib.hid hm; clear hm
    go_enter Tryz.func49, Tryz.ntmps49
    go_wp2_with fail
    refine (HM.out).mono ?_
    rintro e w' ⟨rfl, hw⟩
    go_wp2
    go_ret
    exact ⟨rfl, hw⟩
end Go.Proofs.YtdebnbgjgkbmaaaGreatDoor.Pu
namespace Go.Proofs.YtdebnbgjgkbmaaaGreatDoor.Pu
open Go.RowKit
theorem most1_any (inn out base rate : Int) (a b c : Addr) (w : World) (hi : U64 inn) (ho : U64 out) (hb : U64 base) (hr : U64 rate)
    (ha : w.cell? a = some (.int .u64 inn)) (hb' : w.cell? b = some (.int .u64 base)) (hc : w.cell? c = some (.int .u64 rate)) :
    Calls Tryz.prog 136 #[.int .u64 out, .pointer (some a), .pointer (some b), .pointer (some c)] w fun e w' => e = .returned (.bool (Am.enough inn out base rate)) ∧ Below w.heap.size w w' := by
  go_enter Tryz.func136, Tryz.ntmps136
  go_wp2_with fail
  refine (enough_any inn out base rate w hi ho hb hr).mono ?_
  rintro e w' ⟨rfl, hw⟩
  go_wp2
  go_ret
  exact ⟨rfl, hw⟩
/-- what Most comes to -/
structure IsMost (inn base rate m : Int) : Prop where
  lo : 0 ≤ m
  hi : m ≤ inn
  yes : m = 0 ∨ Am.enough inn m base rate = true
  no : ∀ x, m < x → Am.enough inn x base rate = false
def Mosts (inn base rate : Int) (w : World) (e : Ending) (w' : World) : Prop := ∃ m, e = .returned (.int .u64 m) ∧ IsMost inn base rate m ∧ Below w.heap.size w w'
/-- the search, under way -/
structure Search (inn base rate l h : Int) : Prop where
  l0 : 0 ≤ l
  lh : l ≤ h
  hi : h ≤ inn
  yes : l = 0 ∨ Am.enough inn l base rate = true
  no : ∀ x, h < x → Am.enough inn x base rate = false
theorem enough_le {inn x base rate : Int} (h : Am.enough inn x base rate = true) (hb : 0 ≤ base) (hx : 0 ≤ x) (hr : 0 ≤ rate) : x ≤ inn := by
  have : 0 ≤ x * rate := Int.mul_nonneg hx hr
  simp only [Am.enough, Bool.and_eq_true, decide_eq_true_eq] at h
  omega
/-- the captured numbers in their boxes -/
structure Boxes (inn base rate : Int) (w wr : World) : Prop where
  b0 : wr.cell? ⟨w.heap.size, 0, none⟩ = some (.int .u64 inn)
  b1 : wr.cell? ⟨w.heap.size + 1, 0, none⟩ = some (.int .u64 base)
  b2 : wr.cell? ⟨w.heap.size + 2, 0, none⟩ = some (.int .u64 rate)
  below : Below w.heap.size w wr
theorem Boxes.next {inn base rate : Int} {w wr w' : World} (h : Boxes inn base rate w wr) (b : Below wr.heap.size wr w') : Boxes inn base rate w w' := by
  refine ⟨?_, ?_, ?_, h.below.trans (b.mono h.below.size)⟩
  · rw [b.cell (World.block_lt_of_cell? wr _ h.b0)]; exact h.b0
  · rw [b.cell (World.block_lt_of_cell? wr _ h.b1)]; exact h.b1
  · rw [b.cell (World.block_lt_of_cell? wr _ h.b2)]; exact h.b2
theorem boxes_start (inn base rate : Int) (w : World) (n : Nat) :
    Boxes inn base rate w ((((w.alloc (.cells #[.int .u64 inn] 27)).alloc (.cells #[.int .u64 base] 27)).alloc (.cells #[.int .u64 rate] 27)).drewN n) := by
  refine ⟨by go_simp, by go_simp, by go_simp, ?_⟩
  exact below_drewN ((((Below.refl _ _).alloc (Nat.le_refl _) _).alloc (by simp) _).alloc (by simp; omega) _) n
set_option maxHeartbeats 1000000 in
theorem most_any (inn base rate : Int) (w : World) (hi : U64 inn) (hb : U64 base) (hr : U64 rate) :
    Calls Tryz.prog 46 #[.int .u64 inn, .int .u64 base, .int .u64 rate] w (Mosts inn base rate w) := by
  have i0 := hi.lo
  have i1 := hi.hi
  have hno : ∀ x, inn < x → Am.enough inn x base rate = false := fun x hx => by
    rw [Bool.eq_false_iff]; intro h
    have := enough_le h hb.lo (by omega) hr.lo; omega
  have HNO := Lib.hid hno; clear hno
  go_enter Tryz.func46, Tryz.ntmps46
  go_wp2
  go_quiet (fail)
  go_wp2
  go_loopw [8, 9] (fun l h wr => ∃ x y : Int, l = .int .u64 x ∧ h = .int .u64 y ∧ Search inn base rate x y ∧ Boxes inn base rate w wr) (fun l h _ => (intOf h - intOf l).toNat)
  case atStart => exact ⟨0, inn, rfl, rfl, ⟨by omega, by omega, by omega, .inl rfl, HNO.out⟩, boxes_start inn base rate w nq⟩
  case round =>
    obtain ⟨x, y, rfl, rfl, hS, hB⟩ := hrel
    have x0 := hS.l0
    have xy := hS.lh
    have yi := hS.hi
    by_cases hlt : x < y
    · have hm0 : 0 ≤ y - (y - x) / 2 := by omega
      have hm1 : y - (y - x) / 2 ≤ inn := by omega
      obtain ⟨m, hm⟩ : ∃ m, m = y - (y - x) / 2 := ⟨_, rfl⟩
      rw [← hm] at hm0 hm1
      have hmx : x < m := by omega
      have hmy : m ≤ y := by omega
      have hM : y - (y - x) / 2 = m := hm.symm
      clear hm
      have hcall := most1_any inn m base rate ⟨w.heap.size, 0, none⟩ ⟨w.heap.size + 1, 0, none⟩ ⟨w.heap.size + 2, 0, none⟩ wr hi ⟨hm0, by omega⟩ hb hr hB.b0 hB.b1 hB.b2
      have HC := Lib.hid hcall; clear hcall
      have HNO' := HNO
      by_cases hy : Am.enough inn m base rate = true
      · rw [hy] at HC
        have hS' : Search inn base rate m y := ⟨hm0, hmy, yi, .inr hy, hS.no⟩
        clear hy
        go_wp2_with fail
        refine (HC.out).mono ?_
        rintro e w' ⟨rfl, hw⟩
        have hB' := hB.next hw
        go_wp2
        go_roundw
        case rel => exact ⟨m, y, rfl, rfl, hS', hB'⟩
        case measure => simp [intOf]; omega
      · have hy' : Am.enough inn m base rate = false := by simpa using hy
        rw [hy'] at HC
        have hr0 : 0 ≤ rate := hr.lo
        have hS' : Search inn base rate x (m - 1) := ⟨x0, by omega, by omega, hS.yes, fun z hz => by
          by_cases hzm : z = m
          · subst hzm; exact hy'
          · rw [Bool.eq_false_iff]; intro hh
            exact hy (Am.enough_mono (by omega) hr0 hh)⟩
        clear hy hy' hr0
        go_wp2_with fail
        refine (HC.out).mono ?_
        rintro e w' ⟨rfl, hw⟩
        have hB' := hB.next hw
        go_wp2
        go_roundw
        case rel => exact ⟨x, m - 1, rfl, rfl, hS', hB'⟩
        case measure => simp [intOf]; omega
    · obtain rfl : x = y := by omega
      go_wp2
      go_ret
      exact ⟨x, rfl, ⟨x0, yi, hS.yes, hS.no⟩, hB.below⟩
end Go.Proofs.YtdebnbgjgkbmaaaGreatDoor.Pu
namespace Go.Proofs.YtdebnbgjgkbmaaaGreatDoor.Pu
open Go.RowKit
section
variable (w0 : World)
end
theorem feeF_small (base rate n : Int) (h : base + n * rate / 1000000 ≤ 1125899906842624) : Am.feeF base rate n = (base + n * rate / 1000000, 0) := by
  unfold Am.feeF Am.mx; rw [if_pos h]
end Go.Proofs.YtdebnbgjgkbmaaaGreatDoor.Pu
namespace Go.Proofs.YtdebnbgjgkbmaaaGreatDoor.Pu
open Go.RowKit
theorem URow.below {w w' : World} {p : Option Addr} {len : Nat} {zs : List Int} (h : URow w p len zs) (b : Below w.heap.size w w') : URow w' p len zs := by
  obtain ⟨h1, h2, h3, bb, off, h4, h5⟩ := h
  refine ⟨h1, h2, h3, bb, off, h4, fun j hj => ?_⟩
  have := h5 j hj
  rw [b.cell (World.block_lt_of_cell? w _ this)]; exact this
section
variable (w0 : World)
theorem add_ok (p : Option Addr) (len cap : Nat) (zs : List Int) (w : World) (h : Below w0.heap.size w0 w) (hu : URow w0 p len zs) :
    Calls Tryz.prog 51 #[.slice p len cap] w fun e w' => e = .returned (.tuple #[.int .u64 (Am.addF zs).1, .int .i64 (Am.addF zs).2]) ∧ Below w0.heap.size w0 w' :=
  (add_any p len cap zs w (hu.below h)).mono fun _ _ ⟨he, hw⟩ => ⟨he, hw ▸ h⟩
end
end Go.Proofs.YtdebnbgjgkbmaaaGreatDoor.Pu
namespace Go.Proofs.YtdebnbgjgkbmaaaGreatDoor.RowK
open Go.ChangeShapes Go.WideShapes Go.ChangeAt Go.RowKit
open Go.ChangeMaps (open_string shut_string)
section
variable {H : Type} {enc : TypeId × Value → H} {P : Program} {w : World}
end
theorem wf_u8 {a : Int} (h : (Lit.int .u8 a).wf = true) : 0 ≤ a ∧ a ≤ 255 := by simpa [Lit.wf, IntKind.min, IntKind.max, IntKind.signed, IntKind.bits] using h
theorem wf_u16 {a : Int} (h : (Lit.int .u16 a).wf = true) : 0 ≤ a ∧ a ≤ 65535 := by simpa [Lit.wf, IntKind.min, IntKind.max, IntKind.signed, IntKind.bits] using h
theorem wf_u64 {a : Int} (h : (Lit.int .u64 a).wf = true) : 0 ≤ a ∧ a ≤ 18446744073709551615 := by simpa [Lit.wf, IntKind.min, IntKind.max, IntKind.signed, IntKind.bits] using h
end Go.Proofs.YtdebnbgjgkbmaaaGreatDoor.RowK
namespace Go.Proofs.YtdebnbgjgkbmaaaGreatDoor
open Go.RowKit
namespace M
set_option linter.unusedVariables false
section
variable {w w' : World} {g : Nat} {t : TypeId} {cs : Array Value}
theorem RowAt.drewN (h : RowAt w g t cs) (n : Nat) : RowAt (w.drewN n) g t cs := h
end
section
variable {B B' : Nat} {w0 w w' : World}
theorem below_drewN (h : Below B w0 w) (n : Nat) : Below B w0 (w.drewN n) := ⟨h.os, h.tape, h.output, h.size, h.block⟩
end
section
variable {g : Nat} {w w' w'' : World}
theorem But.drewN (h : But g w w') (n : Nat) : But g w (w'.drewN n) := ⟨h.os, h.tape, h.output, h.size, h.block⟩
end
section
variable {k : IntKind} {n : Nat} {f g : Nat → Int}
end
end M
end Go.Proofs.YtdebnbgjgkbmaaaGreatDoor
namespace Go.Proofs.YtdebnbgjgkbmaaaGreatDoor
open Go.RowKit
set_option linter.unusedVariables false
theorem CI.drewN {n : Nat} {w : World} {s : Sha.St} {W : Nat → Nat} {v : World} (h : CI n w s W v) (k : Nat) : CI n w s W (v.drewN k) := ⟨h.r0, h.r1, h.r2, M.below_drewN h.below k⟩
end Go.Proofs.YtdebnbgjgkbmaaaGreatDoor
namespace Go.Proofs.YtdebnbgjgkbmaaaGreatDoor
open Go.RowKit
set_option linter.unusedVariables false
section
variable {n : Nat} {w v v' : World} {L L' : List (Nat × TypeId × Array Value)}
theorem KB.drewN (c : KB n w L v) (k : Nat) : KB n w L (v.drewN k) := ⟨c.rows, M.below_drewN c.below k, c.ge⟩
end
end Go.Proofs.YtdebnbgjgkbmaaaGreatDoor
namespace Go.Proofs.YtdebnbgjgkbmaaaGreatDoor
open Go.RowKit Go.Maps Go.MapKept
open Go.ChangeMaps (setBlock)
set_option linter.unusedVariables false
/-- a type of keys -/
structure KT (P : Program) (k : TypeId) (κ : Type) where
  kv : κ → Value
  ok : κ → Prop
  law : Keyed P k
  rd : ∀ i, ok i → ∃ l, Go.keyOf P k (kv i) = some l
  inj : ∀ i j, kv i = kv j → i = j
def intKT {P : Program} {k : TypeId} {q : IntKind} (hk : P.underlying k = some (.int q)) : KT P k Int :=
  ⟨fun i => .int q i, fun i => (Lit.int q i).wf = true, int_keyed hk, fun i h => ⟨_, keyOf_int_mk hk h⟩, fun i j h => by injection h⟩
section
variable {κ α : Type} [DecidableEq κ]
def getM : List (κ × α) → κ → Option α
  | [], _ => none
  | p :: r, i => if p.1 = i then some p.2 else getM r i
def putM : List (κ × α) → κ → α → List (κ × α)
  | [], i, x => [(i, x)]
  | p :: r, i, x => if p.1 = i then (i, x) :: r else p :: putM r i x
def delM : List (κ × α) → κ → List (κ × α)
  | [], _ => []
  | p :: r, i => if p.1 = i then r else p :: delM r i
theorem none_M {i : κ} {x : α} : ∀ {l : List (κ × α)}, (∀ p ∈ l, p.1 ≠ i) → getM l i = none ∧ putM l i x = l ++ [(i, x)] ∧ delM l i = l
  | [], _ => ⟨rfl, rfl, rfl⟩
  | p :: r, h => by
    obtain ⟨h1, h2, h3⟩ := none_M (x := x) (fun q hq => h q (List.mem_cons_of_mem _ hq))
    have hp := h p List.mem_cons_self
    unfold getM putM delM
    rw [if_neg hp, if_neg hp, if_neg hp, h1, h2, h3]
    exact ⟨rfl, rfl, rfl⟩
theorem some_M {i : κ} {x : α} : ∀ {l : List (κ × α)} {j : Nat} {p : κ × α}, l.Pairwise (fun a b => a.1 ≠ b.1) → l[j]? = some p → p.1 = i → getM l i = some p.2 ∧ putM l i x = l.set j (i, x) ∧ delM l i = l.eraseIdx j
  | [], j, p, _, h, _ => by simp at h
  | q :: r, 0, p, _, h, e => by
    obtain rfl : q = p := by simpa using h
    unfold getM putM delM
    rw [if_pos e, if_pos e, if_pos e]
    exact ⟨rfl, rfl, rfl⟩
  | q :: r, j + 1, p, hd, h, e => by
    obtain ⟨h1, h2⟩ := List.pairwise_cons.1 hd
    have hj : r[j]? = some p := by simpa using h
    have hq : ¬ q.1 = i := fun e2 => h1 p (List.mem_of_getElem? hj) (e2.trans e.symm)
    obtain ⟨a1, a2, a3⟩ := some_M (x := x) h2 hj e
    unfold getM putM delM
    rw [if_neg hq, if_neg hq, if_neg hq, a1, a2, a3]
    exact ⟨rfl, rfl, rfl⟩
theorem delM_sub (i : κ) : ∀ (l : List (κ × α)) (p : κ × α), p ∈ delM l i → p ∈ l
  | [], _, h => by cases h
  | q :: r, p, h => by
    unfold delM at h
    split at h
    · exact List.mem_cons_of_mem _ h
    · rcases List.mem_cons.1 h with e | e
      · exact e ▸ List.mem_cons_self
      · exact List.mem_cons_of_mem _ (delM_sub i r p e)
theorem getM_mem {l : List (κ × α)} {i : κ} {x : α} (h : getM l i = some x) : (i, x) ∈ l := by
  induction l with
  | nil => cases h
  | cons p r ih =>
    unfold getM at h
    split at h
    · rename_i e
      obtain rfl : p.2 = x := Option.some.inj h
      rw [← e]; exact List.mem_cons_self
    · exact List.mem_cons_of_mem _ (ih h)
theorem getM_none {l : List (κ × α)} {i : κ} (h : getM l i = none) : ∀ p ∈ l, p.1 ≠ i := by
  induction l with
  | nil => intro p hp; cases hp
  | cons q r ih =>
    unfold getM at h
    split at h
    · cases h
    · rename_i e
      intro p hp
      rcases List.mem_cons.1 hp with rfl | hp
      · exact e
      · exact ih h p hp
end
section
variable {P : Program} {k : TypeId} {κ α : Type}
/-- block b is a map of just these entries, in their order -/
def IM (K : KT P k κ) (mk : α → Value) (w : World) (b : Nat) (l : List (κ × α)) : Prop :=
  ∃ es clock, w.heap[b]? = some (.map es clock) ∧ Stamped es clock ∧ es.toList.map (fun e => (e.key, e.val)) = l.map (fun p => (K.kv p.1, mk p.2)) ∧ ∀ p ∈ l, K.ok p.1
variable {K : KT P k κ} {mk : α → Value} {w w' : World} {b : Nat} {l : List (κ × α)}
theorem IM.lt (h : IM K mk w b l) : b < w.heap.size := by
  obtain ⟨es, clock, hb, _⟩ := h
  exact (Array.getElem?_eq_some_iff.1 hb).1
theorem IM.of (h : IM K mk w b l) (e : w'.heap[b]? = w.heap[b]?) : IM K mk w' b l := by
  obtain ⟨es, clock, hb, r⟩ := h
  exact ⟨es, clock, e.trans hb, r⟩
theorem IM.below {B : Nat} (h : IM K mk w b l) (hb : Below B w w') (hg : b < B) : IM K mk w' b l := h.of (hb.block b hg)
theorem IM.call (h : IM K mk w b l) (hb : Below w.heap.size w w') : IM K mk w' b l := h.below hb h.lt
theorem IM.but {g : Nat} (h : IM K mk w b l) (hb : M.But g w w') (hg : b ≠ g) : IM K mk w' b l := h.of (hb.block b h.lt hg)
theorem IM.drew (h : IM K mk w b l) : IM K mk w.drew b l := h
theorem IM.alloc (h : IM K mk w b l) (o : Obj) : IM K mk (w.alloc o) b l := h.call ((Below.refl _ _).alloc (Nat.le_refl _) o)
theorem IM.far (h : IM K mk w b l) {p : Addr} (hp : p.block ≠ b) (v : Value) : IM K mk (w.setCell p v) b l := h.of (by
  simp only [World.setCell, Array.getElem?_modify, if_neg hp])
theorem IM.farRow (h : IM K mk w b l) {g : Nat} (hg : g ≠ b) (cs : Array Value) : IM K mk (w.setRow g cs) b l := h.of (by
  simp only [World.setRow, Array.getElem?_modify, if_neg hg])
theorem IM.new (K : KT P k κ) (mk : α → Value) (w : World) : IM K mk (w.alloc (.map #[] 0)) w.heap.size [] :=
  ⟨#[], 0, heap_alloc_new w _, stamped_empty 0, rfl, fun p h => by cases h⟩
theorem IM.dist (h : IM K mk w b l) : l.Pairwise (fun a b => a.1 ≠ b.1) := by
  obtain ⟨es, clock, hb, hs, he, _⟩ := h
  have h1 := ((stamped_iff es clock).1 hs).2.2
  have h2 : (es.toList.map (fun e => (e.key, e.val))).Pairwise (fun x y => x.1 ≠ y.1) := by rw [List.pairwise_map]; exact h1
  rw [he, List.pairwise_map] at h2
  exact h2.imp (fun h3 e => h3 (by rw [e]))
theorem IM.keys {es : Array MapEntry} (he : es.toList.map (fun e => (e.key, e.val)) = l.map (fun p => (K.kv p.1, mk p.2))) (ho : ∀ p ∈ l, K.ok p.1) : ∀ e ∈ es.toList, ∃ q, Go.keyOf P k e.key = some q := by
  intro e h
  have : (e.key, e.val) ∈ l.map (fun p => (K.kv p.1, mk p.2)) := he ▸ List.mem_map.2 ⟨e, h, rfl⟩
  obtain ⟨p, hp, e1⟩ := List.mem_map.1 this
  obtain ⟨q, hq⟩ := K.rd p.1 (ho p hp)
  exact ⟨q, by have := congrArg Prod.fst e1; simp at this; rw [← this]; exact hq⟩
theorem IM.not_in {es : Array MapEntry} (he : es.toList.map (fun e => (e.key, e.val)) = l.map (fun p => (K.kv p.1, mk p.2))) {i : κ} (h : ∀ e ∈ es.toList, e.key ≠ K.kv i) : ∀ p ∈ l, p.1 ≠ i := by
  intro p hp e
  have : (K.kv p.1, mk p.2) ∈ es.toList.map (fun e => (e.key, e.val)) := he ▸ List.mem_map.2 ⟨p, hp, rfl⟩
  obtain ⟨y, hy, e1⟩ := List.mem_map.1 this
  exact h y hy (by have := congrArg Prod.fst e1; simp at this; rw [this, e])
theorem IM.at {es : Array MapEntry} (he : es.toList.map (fun e => (e.key, e.val)) = l.map (fun p => (K.kv p.1, mk p.2))) {i : κ} {j : Nat} {e0 : MapEntry} (h : es.toList[j]? = some e0) (hk : e0.key = K.kv i) : ∃ p, l[j]? = some p ∧ p.1 = i ∧ e0.val = mk p.2 := by
  have h1 : (es.toList.map (fun e => (e.key, e.val)))[j]? = some (e0.key, e0.val) := by rw [List.getElem?_map, h]; rfl
  rw [he, List.getElem?_map] at h1
  cases hl : l[j]? with
  | none => rw [hl] at h1; cases h1
  | some p =>
    rw [hl] at h1
    simp at h1
    exact ⟨p, rfl, K.inj _ _ (h1.1.trans hk), h1.2.symm⟩
theorem but_setBlock (w : World) (b : Nat) (o : Obj) : M.But b w (setBlock w b o) :=
  ⟨rfl, rfl, rfl, by simp [setBlock], fun j hj hne => by simp only [setBlock]; exact Array.getElem?_setIfInBounds_ne (Ne.symm hne)⟩
/-- m[i], with ok -/
theorem IM.look [DecidableEq κ] (h : IM K mk w b l) {t e : TypeId} (ht : P.underlying t = some (.map k e)) {z : Value} (hz : (zeroValue e).run P w = .ok z w) {i : κ} (hi : K.ok i) :
    (Instr.lookup t (.map (some b)) (K.kv i) true).run P w = .ok (.tuple #[match getM l i with | some x => mk x | none => z, .bool (getM l i).isSome]) w := by
  have hd := h.dist
  obtain ⟨es, clock, hb, hs, he, ho⟩ := h
  obtain ⟨q, hq⟩ := K.rd i hi
  rcases K.law.find w hq es.toList (IM.keys he ho) with ⟨h1, h2⟩ | ⟨j, e0, h1, h2, h3⟩
  · have hg : getM l i = none := by
      cases hl : l with
      | nil => rfl
      | cons p r => exact (none_M (x := p.2) (hl ▸ IM.not_in he h2)).1
    rw [hg]
    simp [Instr.lookup, run_underlying ht, MapKept.run_getObj_map hb, K.law.check w _ hq, h1, hz, Result.andThen]
  · obtain ⟨p, hp, e1, e2⟩ := IM.at he h2 h3
    rw [(some_M (x := p.2) hd hp e1).1]
    simp [Instr.lookup, run_underlying ht, MapKept.run_getObj_map hb, K.law.check w _ hq, h1, e2, Result.andThen]
theorem modify_set {α : Type} (f : α → α) : ∀ (l : List α) (j : Nat) (a : α), l[j]? = some a → l.modify j f = l.set j (f a)
  | [], _, _, h => by simp at h
  | x :: r, 0, a, h => by
    obtain rfl : x = a := by simpa using h
    rfl
  | x :: r, j + 1, a, h => by
    have hj : r[j]? = some a := by simpa using h
    simp [modify_set f r j a hj]
/-- m[i] = x -/
theorem IM.put [DecidableEq κ] (h : IM K mk w b l) {t e : TypeId} (ht : P.underlying t = some (.map k e)) {i : κ} (hi : K.ok i) (x : α) :
    ∃ w', (Instr.mapUpdate t (.map (some b)) (K.kv i) (mk x)).run P w = .ok () w' ∧ IM K mk w' b (putM l i x) ∧ M.But b w w' := by
  have hd := h.dist
  obtain ⟨es, clock, hb, hs, he, ho⟩ := h
  obtain ⟨q, hq⟩ := K.rd i hi
  rcases K.law.find w hq es.toList (IM.keys he ho) with ⟨h1, h2⟩ | ⟨j, e0, h1, h2, h3⟩
  · refine ⟨setBlock w b (.map (es.push ⟨K.kv i, mk x, clock⟩) (clock + 1)), ?_, ⟨_, _, (heap_set hb).1, stamped_push hs h2, ?_, ?_⟩, but_setBlock _ _ _⟩
    · simp [Instr.mapUpdate, run_underlying ht, MapKept.run_getObj_map hb, K.law.check w false hq, h1, MapKept.run_setObj_map _ hb, Result.andThen, setBlock]
    · rw [(none_M (x := x) (IM.not_in he h2)).2.1, Array.toList_push, List.map_append, List.map_append, he]; rfl
    · rw [(none_M (x := x) (IM.not_in he h2)).2.1]
      intro p hp
      rcases List.mem_append.1 hp with hp | hp
      · exact ho p hp
      · obtain rfl : p = (i, x) := by simpa using hp
        exact hi
  · have hj : es[j]? = some e0 := by simpa using h2
    obtain ⟨p, hp, e1, e2⟩ := IM.at he h2 h3
    have hp2 := (some_M (x := x) hd hp e1).2.1
    refine ⟨setBlock w b (.map (es.modify j (fun e' => { e' with key := K.kv i, val := mk x })) clock), ?_, ⟨_, _, (heap_set hb).1, stamped_modify hs _ _ (fun _ _ => rfl) (fun e' _ he' => by rw [hj] at he'; cases he'; exact h3.symm), ?_, ?_⟩, but_setBlock _ _ _⟩
    · simp [Instr.mapUpdate, run_underlying ht, MapKept.run_getObj_map hb, K.law.check w false hq, h1, hj, h3, K.law.stays w hq, MapKept.run_setObj_map _ hb, Result.andThen, setBlock]
    · rw [hp2, Array.toList_modify, modify_set _ _ _ _ h2, List.map_set, he, List.map_set]
    · rw [hp2]
      intro p' hp'
      rcases List.mem_or_eq_of_mem_set hp' with h | rfl
      · exact ho p' h
      · exact hi
/-- delete(m, i) -/
theorem IM.del [DecidableEq κ] (h : IM K mk w b l) {t e : TypeId} (ty : TypeId) (ht : P.underlying t = some (.map k e)) {i : κ} (hi : K.ok i) :
    ∃ w', (Builtin.delete_ #[t, k] ty #[.map (some b), K.kv i]).run P w = .ok (.tuple #[]) w' ∧ IM K mk w' b (delM l i) ∧ M.But b w w' := by
  have hd := h.dist
  obtain ⟨es, clock, hb, hs, he, ho⟩ := h
  obtain ⟨q, hq⟩ := K.rd i hi
  rcases K.law.find w hq es.toList (IM.keys he ho) with ⟨h1, h2⟩ | ⟨j, e0, h1, h2, h3⟩
  · have hl : delM l i = l := by
      cases hl : l with
      | nil => rfl
      | cons p r => exact (none_M (x := p.2) (hl ▸ IM.not_in he h2)).2.2
    rw [hl]
    refine ⟨setBlock w b (.map es clock), ?_, ⟨_, _, (heap_set hb).1, hs, he, ho⟩, but_setBlock _ _ _⟩
    simp [Builtin.delete_, run_underlying ht, MapKept.run_getObj_map hb, K.law.check w _ hq, h1, MapKept.run_setObj_map _ hb, Result.andThen, setBlock]
  · have hjl : j < es.toList.length := (List.getElem?_eq_some_iff.1 h2).1
    have hjs : j < es.size := by simpa using hjl
    have hsub : (es.eraseIdxIfInBounds j).toList = es.toList.eraseIdx j := by
      unfold Array.eraseIdxIfInBounds
      rw [dif_pos hjs]
      simp
    obtain ⟨p, hp, e1, e2⟩ := IM.at he h2 h3
    have hp2 := (some_M (x := p.2) hd hp e1).2.2
    refine ⟨setBlock w b (.map (es.eraseIdxIfInBounds j) clock), ?_, ⟨_, _, (heap_set hb).1, stamped_erase hs j, ?_, ?_⟩, but_setBlock _ _ _⟩
    · simp [Builtin.delete_, run_underlying ht, MapKept.run_getObj_map hb, K.law.check w _ hq, h1, MapKept.run_setObj_map _ hb, Result.andThen, setBlock]
    · rw [hp2, hsub, ChangeMaps.map_eraseIdx, he, ChangeMaps.map_eraseIdx]
    · exact fun p' hp' => ho p' (delM_sub i l p' hp')
theorem IM.len (h : IM K mk w b l) {t e : TypeId} (ht : P.underlying t = some (.map k e)) (es : Array MapEntry) (clock : Nat) (hb : w.heap[b]? = some (.map es clock)) : es.size = l.length := by
  obtain ⟨es', clock', hb', hs, he, ho⟩ := h
  rw [hb] at hb'
  cases hb'
  have := congrArg List.length he
  simpa using this
/-- a range over it under way: what is still to come -/
def IR (K : KT P k κ) (mk : α → Value) (w : World) (b r : Nat) (l left : List (κ × α)) : Prop :=
  ∃ es clock since seen c0, w.heap[b]? = some (.map es clock) ∧ Stamped es clock ∧ es.toList.map (fun e => (e.key, e.val)) = l.map (fun p => (K.kv p.1, mk p.2)) ∧ (∀ p ∈ l, K.ok p.1) ∧
    w.heap[r]? = some (.mapIter (some b) since seen c0) ∧ (∀ x ∈ es.toList, x.born < since) ∧ since ≤ c0 ∧ since ≤ clock ∧ (leftOf es seen).toList.map (fun e => (e.key, e.val)) = left.map (fun p => (K.kv p.1, mk p.2))
theorem IR.im {r : Nat} {left : List (κ × α)} (h : IR K mk w b r l left) : IM K mk w b l := by
  obtain ⟨es, clock, since, seen, c0, hb, hs, he, ho, _⟩ := h
  exact ⟨es, clock, hb, hs, he, ho⟩
theorem IR.of {r : Nat} {left : List (κ × α)} (h : IR K mk w b r l left) (e : w'.heap[b]? = w.heap[b]?) (e2 : w'.heap[r]? = w.heap[r]?) : IR K mk w' b r l left := by
  obtain ⟨es, clock, since, seen, c0, hb, hs, he, ho, hr, rest⟩ := h
  exact ⟨es, clock, since, seen, c0, e.trans hb, hs, he, ho, e2.trans hr, rest⟩
theorem IR.ne {r : Nat} {left : List (κ × α)} (h : IR K mk w b r l left) : r ≠ b := by
  obtain ⟨es, clock, since, seen, c0, hb, hs, he, ho, hr, rest⟩ := h
  intro e
  rw [e, hb] at hr
  cases hr
theorem IR.lt {r : Nat} {left : List (κ × α)} (h : IR K mk w b r l left) : r < w.heap.size := by
  obtain ⟨es, clock, since, seen, c0, hb, hs, he, ho, hr, rest⟩ := h
  exact (Array.getElem?_eq_some_iff.1 hr).1
theorem IR.call {r : Nat} {left : List (κ × α)} (h : IR K mk w b r l left) (hb : Below w.heap.size w w') : IR K mk w' b r l left := h.of (hb.block b h.im.lt) (hb.block r h.lt)
theorem IM.range (h : IM K mk w b l) {t e : TypeId} (ht : P.underlying t = some (.map k e)) :
    ∃ w', (Instr.range t (.map (some b))).run P w = .ok (.pointer (some ⟨w.heap.size, 0, none⟩)) w' ∧ IR K mk w' b w.heap.size l l ∧ Below w.heap.size w w' ∧ w'.heap.size = w.heap.size + 1 := by
  have hlt := h.lt
  obtain ⟨es, clock, hb, hs, he, ho⟩ := h
  refine ⟨_, run_range_map w t k e b es clock ht hb, ⟨es, clock, clock, #[], clock, ((MapKept.heap_alloc w _).2 b hlt).trans hb, hs, he, ho, (MapKept.heap_alloc w _).1, hs.1, Nat.le_refl _, Nat.le_refl _, ?_⟩, (Below.refl _ _).alloc (Nat.le_refl _) _, by simp⟩
  have : leftOf es #[] = es := by unfold leftOf; simp
  rw [this]; exact he
theorem filter_one {β γ : Type} [DecidableEq γ] (f : β → γ) : ∀ {L : List β} {e : β}, e ∈ L → (L.map f).Nodup → ∃ L1 L2, L = L1 ++ e :: L2 ∧ L.filter (fun x => decide (f x ≠ f e)) = L1 ++ L2
  | x :: r, e, he, hn => by
    rw [List.map_cons, List.nodup_cons] at hn
    rcases List.mem_cons.1 he with rfl | he
    · refine ⟨[], r, rfl, ?_⟩
      rw [List.filter_cons_of_neg (by simp), List.nil_append, List.filter_eq_self]
      intro y hy
      simp
      exact fun e2 => hn.1 (e2 ▸ List.mem_map.2 ⟨y, hy, rfl⟩)
    · obtain ⟨L1, L2, h1, h2⟩ := filter_one f he hn.2
      refine ⟨x :: L1, L2, by rw [h1]; rfl, ?_⟩
      rw [List.filter_cons_of_pos (by simp; exact fun e2 => hn.1 (e2 ▸ List.mem_map.2 ⟨e, he, rfl⟩)), h2]; rfl
/-- one step: nothing is left, or one of those that are left comes -/
theorem IR.next {r : Nat} {left : List (κ × α)} (h : IR K mk w b r l left) (ty : TypeId) :
    (left = [] ∧ (Instr.next (.pointer (some ⟨r, 0, none⟩)) false ty).run P w = .ok (.tuple #[.bool false]) w) ∨
    ∃ L1 p L2 w', left = L1 ++ p :: L2 ∧ (Instr.next (.pointer (some ⟨r, 0, none⟩)) false ty).run P w = .ok (.tuple #[.bool true, K.kv p.1, mk p.2]) w' ∧ IR K mk w' b r l (L1 ++ L2) ∧ M.But r w w' ∧ w'.heap.size = w.heap.size ∧ (Instr.entry (.pointer (some ⟨r, 0, none⟩))).run P w' = .ok (.tuple #[K.kv p.1, mk p.2]) w' := by
  have hne := h.ne
  obtain ⟨es, clock, since, seen, c0, hb, hs, he, ho, hr, hold, hsc, hsk, hl⟩ := h
  rcases run_next_at (P := P) w ty r b since c0 seen es clock hr hb hold hsc with ⟨h0, hrun⟩ | ⟨e, hem, w1, hal, hrun⟩
  · refine .inl ⟨?_, hrun⟩
    have : (leftOf es seen).toList = [] := by simpa using h0
    rw [this] at hl
    simpa using hl.symm
  · obtain ⟨hme, hes⟩ := mem_left hem
    have hst := (stamped_iff es clock).1 hs
    have hnd : ((leftOf es seen).toList.map (·.born)).Nodup := by
      unfold leftOf
      rw [Array.toList_filter]
      exact (List.Sublist.map _ List.filter_sublist).nodup hst.2.1
    obtain ⟨E1, E2, hE, hF⟩ := filter_one (fun x : MapEntry => x.born) hem hnd
    rw [hE, List.map_append, List.map_cons] at hl
    obtain ⟨L1, R, e1, e2, e3⟩ := List.map_eq_append_iff.1 hl.symm
    obtain ⟨p, L2, e4, e5, e6⟩ := List.map_eq_cons_iff.1 e3
    have hkey : e.key = K.kv p.1 := (congrArg Prod.fst e5).symm
    have hval : e.val = mk p.2 := (congrArg Prod.snd e5).symm
    have hr1 : w1.heap[r]? = some (.mapIter (some b) since seen c0) := by rcases hal with rfl | rfl <;> exact hr
    have hb1 : w1.heap[b]? = some (.map es clock) := by rcases hal with rfl | rfl <;> exact hb
    have hset := heap_set (o' := .mapIter (some b) since (seen.push e.born) clock) hr1
    have hb' : (setBlock w1 r (.mapIter (some b) since (seen.push e.born) clock)).heap[b]? = some (.map es clock) := (hset.2 b (fun e1 => hne e1.symm)).trans hb1
    refine .inr ⟨L1, p, L2, _, by rw [e1, e4], by rw [← hkey, ← hval]; exact hrun, ⟨es, clock, since, seen.push e.born, clock, hb', hs, he, ho, hset.1, hold, hsk, hsk, ?_⟩, ?_, ?_, ?_⟩
    · have hpush : (leftOf es (seen.push e.born)).toList = (leftOf es seen).toList.filter (fun x => decide (x.born ≠ e.born)) := by
        unfold leftOf
        rw [Array.toList_filter, Array.toList_filter, List.filter_filter]
        apply List.filter_congr
        intro x _
        simp [Bool.and_comm]
      rw [hpush, hF, List.map_append, List.map_append, ← e2, ← e6]
    · have hb2 := but_setBlock w1 r (.mapIter (some b) since (seen.push e.born) clock)
      rcases hal with rfl | rfl
      · exact hb2
      · exact ⟨hb2.os, hb2.tape, hb2.output, hb2.size, hb2.block⟩
    · rcases hal with rfl | rfl <;> exact Array.size_setIfInBounds
    · rw [← hkey, ← hval]
      exact run_entry_at _ r b since seen es clock e hset.1 hb' hme hst.2.1
end
section
variable {P : Program} {k : TypeId} {κ α : Type} {K : KT P k κ} {mk : α → Value} {w : World} {ops : Array Oper} {rest : List Oper} {o : Oper} {a : Act} {Q : Exit → Act → World → Prop} {b : Nat} {l : List (κ × α)}
theorem IM.run_len (h : IM K mk w b l) {t e : TypeId} (ty : TypeId) (ht : P.underlying t = some (.map k e)) : (Builtin.len_ #[t] ty #[.map (some b)]).run P w = .ok (.int .i64 (l.length : Nat)) w := by
  obtain ⟨es, clock, hb, hs, he, ho⟩ := h
  have hl : es.size = l.length := by have := congrArg List.length he; simpa using this
  simp [Builtin.len_, run_underlying ht, MapKept.run_getObj_map hb, Result.andThen, goInt, hl]
theorem wpList_len_im (hg : o.guard = none) (m : Operand) (t e : TypeId) (hop : o.op = Op.call { callee := Callee.builtin Builtin.len, args := #[m], argTypes := #[t] }) (ht : P.underlying t = some (.map k e))
    (h : IM K mk w b l) (hm : a.eval m = .map (some b)) (hK : wpList P ops Q rest (a.put o.dst (.int .i64 (l.length : Nat))) w) : wpList P ops Q (o :: rest) a w := by
  refine wpList_plain hg fun K' hK' => ?_
  unfold Oper.wp
  simp [execOp, hop, resolve, invoke, builtin, hm, h.run_len o.type ht, Result.andThen]
  exact hK' _ _ hK
end
end Go.Proofs.YtdebnbgjgkbmaaaGreatDoor
namespace Go.Proofs.YtdebnbgjgkbmaaaGreatDoor.Pu
open Go.RowKit
set_option linter.unusedVariables false
/-- what was there is as it was, but for some blocks -/
structure Bt (s : List Nat) (w w' : World) : Prop where
  os : w'.os = w.os
  tape : w'.tape = w.tape
  output : w'.output = w.output
  size : w.heap.size ≤ w'.heap.size
  block : ∀ k, k < w.heap.size → k ∉ s → w'.heap[k]? = w.heap[k]?
section
variable {s : List Nat} {w w' w'' : World}
theorem Bt.refl (s : List Nat) (w : World) : Bt s w w := ⟨rfl, rfl, rfl, Nat.le_refl _, fun _ _ _ => rfl⟩
theorem Bt.trans (h : Bt s w w') (h' : Bt s w' w'') : Bt s w w'' :=
  ⟨h'.os.trans h.os, h'.tape.trans h.tape, h'.output.trans h.output, Nat.le_trans h.size h'.size, fun k hk hs => (h'.block k (Nat.lt_of_lt_of_le hk h.size) hs).trans (h.block k hk hs)⟩
theorem Bt.ofBelow (s : List Nat) (h : Below w.heap.size w w') : Bt s w w' := ⟨h.os, h.tape, h.output, h.size, fun k hk _ => h.block k hk⟩
theorem Bt.ofBut {g : Nat} (h : M.But g w w') (hg : g ∈ s) : Bt s w w' := ⟨h.os, h.tape, h.output, h.size, fun k hk hs => h.block k hk (fun e => hs (e ▸ hg))⟩
theorem Bt.drew (h : Bt s w w') : Bt s w w'.drew := ⟨h.os, h.tape, h.output, h.size, h.block⟩
theorem Bt.drewN (h : Bt s w w') (k : Nat) : Bt s w (w'.drewN k) := ⟨h.os, h.tape, h.output, h.size, h.block⟩
theorem Bt.alloc (h : Bt s w w') (o : Obj) : Bt s w (w'.alloc o) := h.trans (.ofBelow s ((Below.refl _ _).alloc (Nat.le_refl _) o))
theorem Bt.set (h : Bt s w w') {p : Addr} (hp : p.block ∈ s) (v : Value) : Bt s w (w'.setCell p v) := h.trans (.ofBut ((M.But.refl p.block w').set (.inl rfl) v) hp)
theorem Bt.row {k : Nat} {t : TypeId} {cs : Array Value} (h : Bt s w w') (hr : M.RowAt w k t cs) (hk : k ∉ s) : M.RowAt w' k t cs := by
  have hl := hr.lt
  unfold M.RowAt at *; rw [h.block k hl hk]; exact hr
theorem Bt.below {B : Nat} {w0 : World} (h : Bt s w w') (hb : Below B w0 w) (hs : ∀ g ∈ s, B ≤ g) (hB : B ≤ w.heap.size) : Below B w0 w' :=
  ⟨h.os.trans hb.os, h.tape.trans hb.tape, h.output.trans hb.output, Nat.le_trans hb.size h.size, fun k hk => (h.block k (by omega) (fun e => by have := hs k e; omega)).trans (hb.block k hk)⟩
end
def upF {α : Type} (f : Nat → α) (k : Nat) (x : α) : Nat → α := fun i => if i = k then x else f i
theorem upF_same {α : Type} (f : Nat → α) (k : Nat) (x : α) : upF f k x k = x := if_pos rfl
theorem upF_ne {α : Type} (f : Nat → α) {k j : Nat} (h : j ≠ k) (x : α) : upF f k x j = f j := if_neg h
abbrev Res := List (Int × Int × Int)
def sumB (f : Nat → Int) : Nat → Int
  | 0 => 0
  | k + 1 => sumB f k + f k
def sumR : Res → Int
  | [] => 0
  | e :: r => e.2.2 + sumR r
theorem sumB_nonneg {f : Nat → Int} (h : ∀ i, 0 ≤ f i) : ∀ n, 0 ≤ sumB f n
  | 0 => Int.le_refl _
  | n + 1 => by have := sumB_nonneg h n; have := h n; show 0 ≤ sumB f n + f n; omega
theorem sumB_le {f : Nat → Int} (h : ∀ i, 0 ≤ f i) {a : Nat} : ∀ n, a < n → f a ≤ sumB f n
  | n + 1, ha => by
    show f a ≤ sumB f n + f n
    by_cases e : a = n
    · subst e; have := sumB_nonneg h a; omega
    · have := sumB_le h n (show a < n by omega); have := h n; omega
theorem sumR_nonneg {l : Res} (h : ∀ e ∈ l, 0 ≤ e.2.2) : 0 ≤ sumR l := by
  induction l with
  | nil => exact Int.le_refl _
  | cons e l ih =>
    have := h e List.mem_cons_self
    have := ih fun x hx => h x (List.mem_cons_of_mem _ hx)
    show 0 ≤ e.2.2 + sumR l; omega
theorem sumR_del {l : Res} {i : Int} {x : Int × Int} (h : getM l i = some x) : sumR (delM l i) + x.2 = sumR l := by
  induction l with
  | nil => cases h
  | cons e l ih =>
    unfold getM at h; unfold delM
    split at h
    · rename_i he
      rw [if_pos he]
      obtain rfl : e.2 = x := Option.some.inj h
      show sumR l + e.2.2 = e.2.2 + sumR l; omega
    · rename_i he
      rw [if_neg he]
      have := ih h
      show e.2.2 + sumR (delM l i) + x.2 = e.2.2 + sumR l; omega
/-- what always holds of a purse -/
structure Inv (n : Nat) (f : Nat → Int) (l : Res) : Prop where
  n1 : 1 ≤ n
  n32 : n ≤ 32
  pos : ∀ i, 0 ≤ f i
  res : ∀ e ∈ l, 0 ≤ e.1 ∧ e.1 ≤ 32 ∧ 0 ≤ e.2.1 ∧ e.2.1 < (n : Int) ∧ 0 ≤ e.2.2
  len : l.length ≤ 32
  tot : sumB f n + sumR l ≤ Am.mx
theorem Inv.amt {n : Nat} {f : Nat → Int} {l : Res} (h : Inv n f l) {i : Int} {x : Int × Int} (hx : getM l i = some x) : 0 ≤ x.1 ∧ x.1 < (n : Int) ∧ 0 ≤ x.2 ∧ x.2 ≤ 1125899906842624 := by
  have h1 := h.res _ (getM_mem hx)
  have h2 := sumR_del hx
  have h3 := sumR_nonneg (l := delM l i) fun e he => (h.res e (delM_sub i l e he)).2.2.2.2
  have h4 := sumB_nonneg h.pos n
  have := h.tot
  unfold Am.mx at this
  exact ⟨h1.2.2.1, h1.2.2.2.1, h1.2.2.2.2, by omega⟩
theorem Inv.sum {n : Nat} {f : Nat → Int} {l : Res} (h : Inv n f l) {a : Nat} (ha : a < n) {i : Int} {x : Int × Int} (hx : getM l i = some x) : f a + x.2 ≤ 1125899906842624 := by
  have h0 := sumB_le h.pos n ha
  have h2 := sumR_del hx
  have h3 := sumR_nonneg (l := delM l i) fun e he => (h.res e (delM_sub i l e he)).2.2.2.2
  have := h.tot
  unfold Am.mx at this; omega
def mkR (x : Int × Int) : Value := .agg #[.int .i64 x.1, .int .u64 x.2]
def KR : KT Tryz.prog 3 Int := intKT Tryz.underlying3
/-- a purse: its own block, its balances, its reservations -/
structure Pu (p B mb n cap : Nat) (f : Nat → Int) (l : Res) (w : World) : Prop where
  hp : M.RowAt w p 252 #[.slice (some ⟨B, 0, none⟩) n cap, .map (some mb)]
  hB : ∃ cur, M.RowAt w B 27 cur ∧ ∀ i, i < n → cur[i]? = some (.int .u64 (f i))
  hm : IM KR mkR w mb l
  ne : p ≠ B ∧ p ≠ mb ∧ B ≠ mb
  cap : n ≤ cap
  inv : Inv n f l
section
variable {p B mb n cap : Nat} {f : Nat → Int} {l l' : Res} {w w' : World} {s : List Nat}
theorem Pu.bt (h : Pu p B mb n cap f l w) (hb : Bt s w w') (h1 : p ∉ s) (h2 : B ∉ s) (h3 : mb ∉ s) : Pu p B mb n cap f l w' := by
  obtain ⟨cur, hr, hc⟩ := h.hB
  exact ⟨hb.row h.hp h1, ⟨cur, hb.row hr h2, hc⟩, h.hm.of (hb.block mb h.hm.lt h3), h.ne, h.cap, h.inv⟩
theorem Pu.same (h : Pu p B mb n cap f l w) (hb : Below w.heap.size w w') : Pu p B mb n cap f l w' := h.bt (s := []) (.ofBelow _ hb) (by simp) (by simp) (by simp)
theorem Pu.alloc (h : Pu p B mb n cap f l w) (o : Obj) : Pu p B mb n cap f l (w.alloc o) := h.same ((Below.refl _ _).alloc (Nat.le_refl _) o)
theorem Pu.drew (h : Pu p B mb n cap f l w) : Pu p B mb n cap f l w.drew := by
  obtain ⟨cur, hr, hc⟩ := h.hB
  exact ⟨h.hp, ⟨cur, hr, hc⟩, h.hm, h.ne, h.cap, h.inv⟩
theorem Pu.c0 (h : Pu p B mb n cap f l w) : w.cell? ⟨p, 0, none⟩ = some (.slice (some ⟨B, 0, none⟩) n cap) := (h.hp.cell 0).trans rfl
theorem Pu.c1 (h : Pu p B mb n cap f l w) : w.cell? ⟨p, 1, none⟩ = some (.map (some mb)) := (h.hp.cell 1).trans rfl
/-- a balance is written -/
theorem Pu.set (h : Pu p B mb n cap f l w) {a : Nat} (ha : a < n) (x : Int) (hi : Inv n (upF f a x) l) : Pu p B mb n cap (upF f a x) l (w.setCell ⟨B, a, none⟩ (.int .u64 x)) := by
  obtain ⟨cur, hr, hc⟩ := h.hB
  refine ⟨h.hp.far (p := ⟨B, a, none⟩) (Ne.symm h.ne.1) _, ⟨_, hr.set a _, fun i hi => ?_⟩, h.hm.far (p := ⟨B, a, none⟩) h.ne.2.2 _, h.ne, h.cap, hi⟩
  rw [Array.getElem?_setIfInBounds]
  by_cases e : a = i
  · subst e
    have hlt : a < cur.size := (Array.getElem?_eq_some_iff.1 (hc a ha)).1
    rw [if_pos rfl, if_pos hlt, upF_same]
  · rw [if_neg e, upF_ne f (fun e2 => e e2.symm)]; exact hc i hi
/-- the map is written -/
theorem Pu.map (h : Pu p B mb n cap f l w) (hm : IM KR mkR w' mb l') (hb : M.But mb w w') (hi : Inv n f l') : Pu p B mb n cap f l' w' := by
  obtain ⟨cur, hr, hc⟩ := h.hB
  exact ⟨hb.row h.hp h.ne.2.1, ⟨cur, hb.row hr h.ne.2.2, hc⟩, hm, h.ne, h.cap, hi⟩
end
section
variable {p B mb n cap : Nat} {f : Nat → Int} {l : Res} {w : World}
end
end Go.Proofs.YtdebnbgjgkbmaaaGreatDoor.Pu
-- fixed
namespace Go.Proofs.YtdebnbgjgkbmaaaGreatDoor.Pu
open Go.RowKit
set_option linter.unusedVariables false
section
variable {p B mb n cap : Nat} {f : Nat → Int} {l : Res} {w : World}
/-- a range over the reservations under way -/
structure RG (p B mb n cap : Nat) (f : Nat → Int) (l : Res) (q g : Nat) (w : World) (left : Res) (v : World) : Prop where
  ir : IR KR mkR v mb g l left
  bel : Below q w v
  sub : ∀ e ∈ left, e ∈ l
  ge : q ≤ g
theorem RG.next {q g : Nat} {left L1 L2 : Res} {e : Int × Int × Int} {v v' : World} (c : RG p B mb n cap f l q g w left v) (he : left = L1 ++ e :: L2) (hr : IR KR mkR v' mb g l (L1 ++ L2)) (hb : M.But g v v') (hq : q ≤ v.heap.size) : RG p B mb n cap f l q g w (L1 ++ L2) v' :=
  ⟨hr, hb.below c.bel c.ge hq, fun x hx => c.sub x (by rw [he]; rcases List.mem_append.1 hx with h | h <;> simp [h]), c.ge⟩
theorem RG.alloc {q g : Nat} {left : Res} {v : World} (c : RG p B mb n cap f l q g w left v) (hq : q ≤ v.heap.size) (o : Obj) : RG p B mb n cap f l q g w left (v.alloc o) :=
  ⟨c.ir.call ((Below.refl _ _).alloc (Nat.le_refl _) o), c.bel.alloc hq o, c.sub, c.ge⟩
end
end Go.Proofs.YtdebnbgjgkbmaaaGreatDoor.Pu
-- fixed
namespace Go.Proofs.YtdebnbgjgkbmaaaGreatDoor.Pu
open Go.RowKit
set_option linter.unusedVariables false
/-- a key: a channel and a number -/
abbrev Ky := Int × Int
def kv (x : Ky) : Value := .agg #[.int .u32 x.1, .int .u64 x.2]
def Ky.fit (x : Ky) : Prop := (0 ≤ x.1 ∧ x.1 ≤ 4294967295) ∧ 0 ≤ x.2 ∧ x.2 ≤ 18446744073709551615
theorem law61 : Maps.Keyed Tryz.prog 103 := Maps.Keyed.of_law (deep_law_laid RowK.laidOut (m := 3) (by omega) (of_decide_eq_true (by kernel_rfl)) (by kernel_rfl) (by rw [Tryz.underlying103]))
theorem keyOf61 (x : Ky) (h : x.fit) : ∃ l, Go.keyOf Tryz.prog 103 (kv x) = some l := by
  have hkt : Tryz.prog.keyType 103 = true := by kernel_rfl
  have hsz : ∃ m, Tryz.prog.types.size = m + 1 := ⟨Tryz.prog.types.size - 1, by have : 0 < Tryz.prog.types.size := of_decide_eq_true (by kernel_rfl); omega⟩
  obtain ⟨m, hm⟩ := hsz
  have c61 : Tryz.prog.cellsOf 103 = 2 := by kernel_rfl
  have c22 : Tryz.prog.cellsOf 40 = 1 := by kernel_rfl
  have c23 : Tryz.prog.cellsOf 27 = 1 := by kernel_rfl
  have w1 : (Lit.int .u32 x.1).wf = true := by simp [Lit.wf, IntKind.min, IntKind.max, IntKind.signed, IntKind.bits]; have := h.1; omega
  have w2 : (Lit.int .u64 x.2).wf = true := by simp [Lit.wf, IntKind.min, IntKind.max, IntKind.signed, IntKind.bits]; have := h.2; omega
  refine ⟨.string (Go.keyBytes [.int .u32 x.1, .int .u64 x.2]), ?_⟩
  unfold Go.keyOf kv
  simp only [Tryz.underlying103]
  rw [if_pos (by simp [hkt, Value.formed, Tryz.underlying103, c61]), hm]
  unfold Program.keyLits
  simp only [Tryz.underlying103, Value.cells]
  rw [if_pos ⟨by rw [c61]; rfl, by kernel_rfl⟩]
  simp [Program.keyLits, Tryz.underlying40, Tryz.underlying27, c22, c23, w1, w2]
def KK : KT Tryz.prog 103 Ky := ⟨kv, Ky.fit, law61, keyOf61, fun i j h => by
  unfold kv at h
  injection h with h
  have h0 := congrArg (fun a : Array Value => a[0]?) h
  have h1 := congrArg (fun a : Array Value => a[1]?) h
  simp at h0 h1
  exact Prod.ext h0 h1⟩
/-- one leg -/
structure Lg where
  k : Ky
  amt : Int
  exp : Int
def Lg.cells (x : Lg) : List Value := [.int .u32 x.k.1, .int .u64 x.k.2, .int .u64 x.amt, .int .i64 x.exp]
structure Lg.ok (x : Lg) : Prop where
  k : x.k.fit
  a0 : 0 ≤ x.amt
  a1 : x.amt ≤ 18446744073709551615
  e0 : -9223372036854775808 ≤ x.exp
  e1 : x.exp ≤ 9223372036854775807
/-- what Check answers -/
def ckE (base rate : Int) (a b : Lg) : Int :=
  if a.amt = 0 ∨ b.amt = 0 ∨ a.k.1 = b.k.1 then 1
  else if Am.enough a.amt b.amt base rate = false then 150
  else if b.exp ≤ 0 ∨ a.exp < 6 ∨ IntKind.i64.wrap (a.exp - 6) < b.exp then 151 else 0
def mkC (x : List Value) : Value := .agg x.toArray
/-- the map: its own block and the two maps in it -/
structure Cm (m i o : Nat) (base rate : Int) (li : List (Ky × List Value)) (lo : List (Ky × Ky)) (w : World) : Prop where
  hp : M.RowAt w m 241 #[.int .u64 base, .int .u64 rate, .map (some i), .map (some o)]
  hi : IM KK mkC w i li
  ho : IM KK kv w o lo
  ne : m ≠ i ∧ m ≠ o ∧ i ≠ o
section
variable {m i o : Nat} {base rate : Int} {li : List (Ky × List Value)} {lo : List (Ky × Ky)} {w w' : World}
theorem Cm.bt {s : List Nat} (h : Cm m i o base rate li lo w) (hb : Bt s w w') (h1 : m ∉ s) (h2 : i ∉ s) (h3 : o ∉ s) : Cm m i o base rate li lo w' :=
  ⟨hb.row h.hp h1, h.hi.of (hb.block i h.hi.lt h2), h.ho.of (hb.block o h.ho.lt h3), h.ne⟩
theorem Cm.same (h : Cm m i o base rate li lo w) (hb : Below w.heap.size w w') : Cm m i o base rate li lo w' := h.bt (s := []) (.ofBelow _ hb) (by simp) (by simp) (by simp)
theorem Cm.drew (h : Cm m i o base rate li lo w) : Cm m i o base rate li lo w.drew := ⟨h.hp, h.hi, h.ho, h.ne⟩
theorem Cm.c (h : Cm m i o base rate li lo w) : w.cell? ⟨m, 0, none⟩ = some (.int .u64 base) ∧ w.cell? ⟨m, 1, none⟩ = some (.int .u64 rate) ∧ w.cell? ⟨m, 2, none⟩ = some (.map (some i)) ∧ w.cell? ⟨m, 3, none⟩ = some (.map (some o)) :=
  ⟨(h.hp.cell 0).trans rfl, (h.hp.cell 1).trans rfl, (h.hp.cell 2).trans rfl, (h.hp.cell 3).trans rfl⟩
end
set_option maxRecDepth 100000 in
theorem cnew_any (base rate : Int) (w : World) : Calls Tryz.prog 45 #[.int .u64 base, .int .u64 rate] w fun e w' => ∃ m i o, e = .returned (.pointer (some ⟨m, 0, none⟩)) ∧ Cm m i o base rate [] [] w' ∧ Below w.heap.size w w' ∧ w.heap.size ≤ m ∧ w.heap.size ≤ i ∧ w.heap.size ≤ o := by
  have hmm := @run_makeMap Tryz.prog
  go_enter Tryz.func45, Tryz.ntmps45
  go_wp2
  go_ret
  have e1 : (w.alloc (.map #[] 0)).heap.size = w.heap.size + 1 := by simp
  have r := M.RowAt.new ((w.alloc (.map #[] 0)).alloc (.map #[] 0)) 241 #[.int .u64 base, .int .u64 rate, .map (some w.heap.size), .map (some (w.heap.size + 1))]
  have o := IM.new KK kv (w.alloc (.map #[] 0))
  rw [e1] at o
  have e2 : ((w.alloc (.map #[] 0)).alloc (.map #[] 0)).heap.size = w.heap.size + 1 + 1 := by simp
  rw [e2] at r
  exact ⟨w.heap.size + 1 + 1, w.heap.size, w.heap.size + 1, rfl, ⟨r, ((IM.new KK mkC w).alloc _).alloc _, o.alloc _, by omega, by omega, by omega⟩, (((Below.refl _ w).alloc (Nat.le_refl _) _).alloc (by simp) _).alloc (by simp; omega) _, by omega, by omega, by omega⟩
set_option maxRecDepth 100000 in
theorem clen_any {m i o : Nat} {base rate : Int} {li : List (Ky × List Value)} {lo : List (Ky × Ky)} {w : World} (h : Cm m i o base rate li lo w) : Calls Tryz.prog 50 #[.pointer (some ⟨m, 0, none⟩)] w fun e w' => e = .returned (.int .i64 (li.length : Nat)) ∧ w = w' := by
  obtain ⟨_, _, c2, _⟩ := h.c
  have im := Lib.hid h.hi
  have r := im.out.lt
  clear h
  go_enter Tryz.func50, Tryz.ntmps50
  go_wp2_with (at_len; refine wpList_len_im rfl _ 238 108 rfl Tryz.underlying238 im.out ?a1 ?_)
  case a1 => rfl
  go_wp2
  go_ret
  exact ⟨rfl, rfl⟩
set_option maxRecDepth 100000 in
set_option maxHeartbeats 4000000 in
theorem check_any {m i o : Nat} {base rate : Int} {li : List (Ky × List Value)} {lo : List (Ky × Ky)} {w : World} (h : Cm m i o base rate li lo w) (hb : U64 base) (hr : U64 rate) (a b : Lg) (ha : a.ok) (hbo : b.ok) :
    Calls Tryz.prog 138 #[.pointer (some ⟨m, 0, none⟩), .agg a.cells.toArray, .agg b.cells.toArray] w fun e w' => e = .returned (.int .i64 (ckE base rate a b)) ∧ Below w.heap.size w w' := by
  obtain ⟨c0, c1, _, _⟩ := h.c
  have mlt := h.hp.lt
  obtain ⟨n, hn⟩ : ∃ n, w.heap.size = n := ⟨_, rfl⟩
  have EN := Lib.hid (fun v => enough_any a.amt b.amt base rate v ⟨ha.a0, ha.a1⟩ ⟨hbo.a0, hbo.a1⟩ hb hr)
  obtain ⟨⟨ka, ki⟩, aa, ae⟩ := a
  obtain ⟨⟨kb, kj⟩, ba, be⟩ := b
  obtain ⟨⟨⟨k0, k1⟩, k2, k3⟩, k4, k5, k6, k7⟩ := ha
  obtain ⟨⟨⟨l0, l1⟩, l2, l3⟩, l4, l5, l6, l7⟩ := hbo
  simp only at *
  unfold ckE
  simp only [Lg.cells]
  clear h k0 k1 k2 k3 l0 l1 l2 l3 hb hr k4 k5 l4 l5
  by_cases q0 : aa = 0
  · rw [if_pos (.inl q0)]
    subst q0
    clear k6 k7 l6 l7
    go_enter Tryz.func138, Tryz.ntmps138
    go_wp2
    go_ret
    exact ⟨rfl, ((Below.refl _ w).alloc (Nat.le_refl _) _).alloc (by simp) _⟩
  · have d0 : (aa == 0) = false := by simpa using q0
    by_cases q1 : ba = 0
    · rw [if_pos (.inr (.inl q1))]
      subst q1
      clear k6 k7 l6 l7
      go_enter Tryz.func138, Tryz.ntmps138
      go_wp2
      go_ret
      exact ⟨rfl, ((Below.refl _ w).alloc (Nat.le_refl _) _).alloc (by simp) _⟩
    · have d1 : (ba == 0) = false := by simpa using q1
      by_cases q2 : ka = kb
      · rw [if_pos (.inr (.inr q2))]
        subst q2
        clear k6 k7 l6 l7
        go_enter Tryz.func138, Tryz.ntmps138
        go_wp2
        go_ret
        exact ⟨rfl, ((Below.refl _ w).alloc (Nat.le_refl _) _).alloc (by simp) _⟩
      · have d2 : (ka == kb) = false := by simpa using q2
        rw [if_neg (by rintro (h | h | h) <;> contradiction)]
        generalize Am.enough aa ba base rate = en at *
        obtain ⟨V, hV⟩ : ∃ V, (w.alloc (.cells #[.int .u32 ka, .int .u64 ki, .int .u64 aa, .int .i64 ae] 105)).alloc (.cells #[.int .u32 kb, .int .u64 kj, .int .u64 ba, .int .i64 be] 105) = V := ⟨_, rfl⟩
        have r1 : M.RowAt V n 105 #[.int .u32 ka, .int .u64 ki, .int .u64 aa, .int .i64 ae] := by rw [← hV, ← hn]; exact (M.RowAt.new w 105 _).alloc _
        have r2 : M.RowAt V (n + 1) 105 #[.int .u32 kb, .int .u64 kj, .int .u64 ba, .int .i64 be] := by
          have := M.RowAt.new (w.alloc (.cells #[.int .u32 ka, .int .u64 ki, .int .u64 aa, .int .i64 ae] 105)) 105 #[.int .u32 kb, .int .u64 kj, .int .u64 ba, .int .i64 be]
          rw [hV] at this
          rwa [show (w.alloc (.cells #[.int .u32 ka, .int .u64 ki, .int .u64 aa, .int .i64 ae] 105)).heap.size = n + 1 by simp [hn]] at this
        have bV : Below n w V := by rw [← hV, ← hn]; exact ((Below.refl _ w).alloc (Nat.le_refl _) _).alloc (by simp) _
        have hN : V.heap.size = n + 2 := by rw [← hV]; simp [hn]
        have z0 : V.cell? ⟨m, 0, none⟩ = some (.int .u64 base) := by rw [bV.cell (p := ⟨m, 0, none⟩) (show m < n by omega), c0]
        have z1 : V.cell? ⟨m, 1, none⟩ = some (.int .u64 rate) := by rw [bV.cell (p := ⟨m, 1, none⟩) (show m < n by omega), c1]
        have fb : ∀ v, Below (n + 2) V v → v.cell? ⟨m, 0, none⟩ = some (.int .u64 base) ∧ v.cell? ⟨m, 1, none⟩ = some (.int .u64 rate) ∧ v.cell? ⟨n, 2, none⟩ = some (.int .u64 aa) ∧ v.cell? ⟨n, 3, none⟩ = some (.int .i64 ae) ∧ v.cell? ⟨n + 1, 2, none⟩ = some (.int .u64 ba) ∧ v.cell? ⟨n + 1, 3, none⟩ = some (.int .i64 be) := fun v hv => by
          refine ⟨?_, ?_, ?_, ?_, ?_, ?_⟩
          · rw [hv.cell (p := ⟨m, 0, none⟩) (show m < n + 2 by omega), z0]
          · rw [hv.cell (p := ⟨m, 1, none⟩) (show m < n + 2 by omega), z1]
          · rw [hv.cell (p := ⟨n, 2, none⟩) (show n < n + 2 by omega)]; exact (r1.cell 2).trans rfl
          · rw [hv.cell (p := ⟨n, 3, none⟩) (show n < n + 2 by omega)]; exact (r1.cell 3).trans rfl
          · rw [hv.cell (p := ⟨n + 1, 2, none⟩) (show n + 1 < n + 2 by omega)]; exact (r2.cell 2).trans rfl
          · rw [hv.cell (p := ⟨n + 1, 3, none⟩) (show n + 1 < n + 2 by omega)]; exact (r2.cell 3).trans rfl
        have fin : ∀ v, Below (n + 2) V v → Below n w v := fun v hv => bV.trans (hv.mono (by omega))
        have b0 : Below (n + 2) V V := Below.refl _ _
        have en' : ∀ v, Below (n + 2) V v → Calls Tryz.prog 137 #[.int .u64 aa, .int .u64 ba, .int .u64 base, .int .u64 rate] v fun e w' => e = .returned (.bool en) ∧ Below (n + 2) V w' := fun v hv => (EN.out v).mono fun e w' ⟨he, hb⟩ => ⟨he, hv.trans (hb.mono (by have := hv.size; omega))⟩
        have EN' := Lib.hid en'; have FB := Lib.hid fb; have FIN := Lib.hid fin; have B0 := Lib.hid b0; have HV := Lib.hid hV; have HN := Lib.hid hn
        have kn : ∀ (x y : Int), (en = true → ¬ (be ≤ 0 ∨ ae < 6 ∨ IntKind.i64.wrap (ae - 6) < be) → y = 0) → True := fun _ _ _ => trivial
        clear fb fin b0 hV bV r1 r2 z0 z1 en' EN kn
        have w6 : 6 ≤ ae → IntKind.i64.wrap (ae - 6) = ae - 6 := fun h => IntWalk.i64_in _ (by omega)
        obtain ⟨R, hR⟩ : ∃ R, (if en = false then (150 : Int) else if be ≤ 0 ∨ ae < 6 ∨ IntKind.i64.wrap (ae - 6) < be then 151 else 0) = R := ⟨_, rfl⟩
        rw [hR]
        have HR := Lib.hid hR
        clear hR
        go_enter Tryz.func138, Tryz.ntmps138
        go_wp2
        clear c0 c1 hn
        simp only [HV.out]
        refine QT.wp_region_p 12 (fun v => Below (n + 2) V v) (fun v => Below (n + 2) V v) (by kernel_rfl) (by kernel_rfl) B0.out.drew ?_
        iterate 15
          (refine QT.wpQ_step (fun K hK => ?_)
           go_simp
           first
             | (refine hK _ ?_; clear hK K)
             | (refine ⟨?_, hK _ ?_⟩; decide; clear hK K)
             | ((first | (apply Exists.intro; refine ⟨?_, hK _ ?_⟩) | refine ⟨⟨undef, ?_⟩, hK _ ?_⟩)
                first
                  | (apply QT.al_p; decide; (focus (intro wq hq; (first | (obtain ⟨x0, x1, x2, x3, x4, x5⟩ := FB.out _ hq) | skip); first | (fail) | (unfold QP.oat; go_simp; first | done | exact ⟨by assumption, rfl⟩ | exact rfl | assumption | (((with_reducible refine (EN'.out _ hq).mono ?_); rintro e w' ⟨rfl, gq⟩; exact ⟨rfl, gq⟩))))))
                  | (apply QT.al_dep; decide; decide; (focus (intro wq hq; (first | (obtain ⟨x0, x1, x2, x3, x4, x5⟩ := FB.out _ hq) | skip); first | (fail) | (unfold QP.oat; go_simp; first | done | exact ⟨by assumption, rfl⟩ | exact rfl | assumption | (((with_reducible refine (EN'.out _ hq).mono ?_); rintro e w' ⟨rfl, gq⟩; exact ⟨rfl, gq⟩))))))
                  | (apply QT.al_bef; decide; decide; (focus (intro wq hq; (first | (obtain ⟨x0, x1, x2, x3, x4, x5⟩ := FB.out _ hq) | skip); first | (fail) | (unfold QP.oat; go_simp; first | done | exact ⟨by assumption, rfl⟩ | exact rfl | assumption | (((with_reducible refine (EN'.out _ hq).mono ?_); rintro e w' ⟨rfl, gq⟩; exact ⟨rfl, gq⟩))))))
                  | (apply QT.al_ok; decide; (focus (intro wq hq; (first | (obtain ⟨x0, x1, x2, x3, x4, x5⟩ := FB.out _ hq) | skip); first | (fail) | (unfold QP.oat; go_simp; first | done | exact ⟨by assumption, rfl⟩ | exact rfl | assumption | (((with_reducible refine (EN'.out _ hq).mono ?_); rintro e w' ⟨rfl, gq⟩; exact ⟨rfl, gq⟩))))); (focus (intro wq hq; (first | (obtain ⟨x0, x1, x2, x3, x4, x5⟩ := FB.out _ hq) | skip); first | (fail) | (unfold QP.oat; go_simp; first | done | exact ⟨by assumption, rfl⟩ | exact rfl | assumption | (((with_reducible refine (EN'.out _ hq).mono ?_); rintro e w' ⟨rfl, gq⟩; exact ⟨rfl, gq⟩))))))
                clear hK K))
        refine QT.wpQ_nil ?_
        intro wz bz
        obtain ⟨x0, x1, x2, x3, x4, x5⟩ := FB.out _ bz
        cases en
        · obtain rfl : (150 : Int) = R := by rw [← HR.out, if_pos rfl]
          go_wp2
          go_ret
          exact ⟨rfl, by rw [HN.out]; exact FIN.out _ bz⟩
        · by_cases s0 : be ≤ 0
          · obtain rfl : (151 : Int) = R := by rw [← HR.out, if_neg (by decide), if_pos (.inl s0)]
            have t0 : decide (be ≤ 0) = true := by simp [s0]
            go_wp2
            go_ret
            exact ⟨rfl, by rw [HN.out]; exact FIN.out _ bz⟩
          · have t0 : decide (be ≤ 0) = false := by simp; omega
            by_cases s1 : ae < 6
            · obtain rfl : (151 : Int) = R := by rw [← HR.out, if_neg (by decide), if_pos (.inr (.inl s1))]
              have t1 : decide (ae < 6) = true := by simp [s1]
              go_wp2
              go_ret
              exact ⟨rfl, by rw [HN.out]; exact FIN.out _ bz⟩
            · have t1 : decide (ae < 6) = false := by simp; omega
              have w7 := w6 (by omega)
              rw [w7] at HR
              clear w6
              by_cases s2 : ae - 6 < be
              · obtain rfl : (151 : Int) = R := by rw [← HR.out, if_neg (by decide), if_pos (.inr (.inr s2))]
                have t2 : decide (ae - 6 < be) = true := by simp; omega
                go_wp2
                go_ret
                exact ⟨rfl, by rw [HN.out]; exact FIN.out _ bz⟩
              · obtain rfl : (0 : Int) = R := by rw [← HR.out, if_neg (by decide), if_neg (by rintro (h | h | h) <;> contradiction)]
                have t2 : decide (ae - 6 < be) = false := by simp; omega
                go_wp2
                go_ret
                exact ⟨rfl, by rw [HN.out]; exact FIN.out _ bz⟩
end Go.Proofs.YtdebnbgjgkbmaaaGreatDoor.Pu
-- fixed
namespace Go.Proofs.YtdebnbgjgkbmaaaGreatDoor
namespace QA
open QP (upon oat wp_of_oat getD_mono)
open QT (waits fst dep_listed)
set_option linter.unusedVariables false
variable {P : Program} {ops : Array Oper} {md : Region.Mode} {A : World → Prop} {B D : Nat → World → Prop} {q p : Nat} {S S' : Nat → Prop} {Qf : Nat → Act → Prop}
abbrev ptr (g : Nat) : Value := .pointer (some ⟨g, 0, none⟩)
def allowed (P : Program) (md : Region.Mode) (ops : Array Oper) (A : World → Prop) (B D : Nat → World → Prop) (q p : Nat) (S : Nat → Prop) (i : Nat) (o : Oper) (a : Act) (v : Value) : Prop :=
  if i = p then ∀ g w, S g → B g w → oat P o a (D g) w v
  else (waits md ops q o = true ∨ ∀ w, A w → oat P o a A w v) ∧
    (waits md ops p o = true ∨ fst md ops q i = true ∨ ∀ g w, S g → B g w → oat P o a (B g) w v) ∧
    (fst md ops p i = true ∨ fst md ops q i = true ∨ ∀ g w, S g → D g w → oat P o a (D g) w v)
def made (P : Program) (A : World → Prop) (B : Nat → World → Prop) (o : Oper) (a : Act) (g : Nat) : Prop := ∀ w, A w → w.heap.size = g → oat P o a (B g) w (ptr g)
def qOp (P : Program) (md : Region.Mode) (ops : Array Oper) (A : World → Prop) (B D : Nat → World → Prop) (q p : Nat) (S : Nat → Prop) (i : Nat) (K : (Nat → Prop) → Act → Prop) (a : Act) : Prop :=
  match ops[i]? with
  | none => K S a
  | some o =>
    if i = q then Region.wanted o (yielded ops a.tmps) = true ∧ ∀ g, S g → made P A B o a g ∧ K (fun x => x = g) (a.put o.dst (ptr g))
    else if Region.wanted o (yielded ops a.tmps) then ∃ v, allowed P md ops A B D q p S i o a v ∧ K S (a.put o.dst v) else i ≠ p ∧ K S (a.put o.dst undef)
def wpA (P : Program) (md : Region.Mode) (ops : Array Oper) (A : World → Prop) (B D : Nat → World → Prop) (q p : Nat) (Qf : Nat → Act → Prop) : List Oper → Nat → (Nat → Prop) → Act → Prop
  | [], _, S, a => ∀ g, S g → Qf g a
  | o :: rest, i, S, a =>
    if i = q then Region.wanted o (yielded ops a.tmps) = true ∧ ∀ g, S g → made P A B o a g ∧ wpA P md ops A B D q p Qf rest (i + 1) (fun x => x = g) (a.put o.dst (ptr g))
    else if Region.wanted o (yielded ops a.tmps) then ∃ v, allowed P md ops A B D q p S i o a v ∧ wpA P md ops A B D q p Qf rest (i + 1) S (a.put o.dst v) else i ≠ p ∧ wpA P md ops A B D q p Qf rest (i + 1) S (a.put o.dst undef)
theorem wpA_nil {i : Nat} {a : Act} (h : ∀ g, S g → Qf g a) : wpA P md ops A B D q p Qf [] i S a := h
theorem wpA_step {a : Act} {o : Oper} {rest : List Oper} {i : Nat} (hi : (i == q) = false)
    (h : ∀ K : Act → Prop, (∀ a, wpA P md ops A B D q p Qf rest (i + 1) S a → K a) → if Region.wanted o (yielded ops a.tmps) then ∃ v, allowed P md ops A B D q p S i o a v ∧ K (a.put o.dst v) else i ≠ p ∧ K (a.put o.dst undef)) :
    wpA P md ops A B D q p Qf (o :: rest) i S a := by
  unfold wpA
  rw [if_neg (by simpa using hi)]
  exact h _ (fun _ h => h)
theorem wpA_alloc {a : Act} {o : Oper} {rest : List Oper} {i : Nat} (hi : (i == q) = true) (hw : Region.wanted o (yielded ops a.tmps) = true)
    (h1 : ∀ g, S g → made P A B o a g) (h2 : ∀ g, S g → wpA P md ops A B D q p Qf rest (i + 1) (fun x => x = g) (a.put o.dst (ptr g))) :
    wpA P md ops A B D q p Qf (o :: rest) i S a := by
  unfold wpA
  rw [if_pos (by simpa using hi)]
  exact ⟨hw, fun g hg => ⟨h1 g hg, h2 g hg⟩⟩
theorem allowed.mono {i : Nat} {o : Oper} {a : Act} {v : Value} (h : allowed P md ops A B D q p S i o a v) (hs : ∀ g, S' g → S g) : allowed P md ops A B D q p S' i o a v := by
  unfold allowed at *
  split
  · rename_i hip
    rw [if_pos hip] at h
    exact fun g w hg => h g w (hs g hg)
  · rename_i hip
    rw [if_neg hip] at h
    exact ⟨h.1, h.2.1.imp_right (fun h => h.imp_right fun h g w hg => h g w (hs g hg)), h.2.2.imp_right (fun h => h.imp_right fun h g w hg => h g w (hs g hg))⟩
theorem qOp_mono {i : Nat} {a : Act} {K K' : (Nat → Prop) → Act → Prop} (h : ∀ S a, K S a → K' S a) (hh : qOp P md ops A B D q p S i K a) : qOp P md ops A B D q p S i K' a := by
  unfold qOp at *
  split
  · rename_i ho; simp only [ho] at hh; exact h _ _ hh
  · rename_i o ho
    simp only [ho] at hh
    split
    · rename_i hq
      rw [if_pos hq] at hh
      exact ⟨hh.1, fun g hg => ⟨(hh.2 g hg).1, h _ _ (hh.2 g hg).2⟩⟩
    · rename_i hq
      rw [if_neg hq] at hh
      split
      · rename_i hw; simp only [hw, if_true] at hh; exact let ⟨v, h1, h2⟩ := hh; ⟨v, h1, h _ _ h2⟩
      · rename_i hw; simp only [hw] at hh; exact ⟨hh.1, h _ _ hh.2⟩
def anyA (P : Program) (md : Region.Mode) (ops : Array Oper) (A : World → Prop) (B D : Nat → World → Prop) (q p : Nat) (Qf : Nat → Act → Prop) : Nat → Array Bool → (Nat → Prop) → Act → Prop
  | 0, listed, S, a => Region.ready md ops listed = [] ∧ listed.getD q false = true ∧ listed.getD p false = true ∧ ∀ g, S g → Qf g a
  | fuel + 1, listed, S, a =>
    (Region.ready md ops listed = [] → listed.getD q false = true ∧ listed.getD p false = true ∧ ∀ g, S g → Qf g a) ∧
    ∀ i ∈ Region.ready md ops listed, qOp P md ops A B D q p S i (fun S' a' => anyA P md ops A B D q p Qf fuel (listed.setIfInBounds i true) S' a') a
/-- the class of worlds once these are listed -/
def cls (A : World → Prop) (B D : Nat → World → Prop) (q p : Nat) (S : Nat → Prop) (listed : Array Bool) (w : World) : Prop :=
  if listed.getD q false = true then ∃ g, S g ∧ (if listed.getD p false = true then D g w else B g w) else A w ∧ ∀ g, S g
theorem set_other {listed : Array Bool} {i j : Nat} (h : i ≠ j) : (listed.setIfInBounds i true).getD j false = listed.getD j false := by
  rw [Array.getD_eq_getD_getElem?, Array.getD_eq_getD_getElem?, Array.getElem?_setIfInBounds_ne h]
theorem set_same {listed : Array Bool} {i : Nat} (h : i < listed.size) : (listed.setIfInBounds i true).getD i false = true := by
  rw [Array.getD_eq_getD_getElem?, Array.getElem?_setIfInBounds_self_of_lt h]; rfl
theorem wpOp_of_qOp {i : Nat} {a : Act} {K : (Nat → Prop) → Act → Prop} {K' : Act → World → Prop} {Q' : Exit → Act → World → Prop} {w : World} {listed : Array Bool} (hpq : fst md ops p q = true) (hne : p ≠ q) (hC : cls A B D q p S listed w) (hD : QT.Down md ops listed)
    (hi : i ∈ Region.ready md ops listed) (h : ∀ S' a w', cls A B D q p S' (listed.setIfInBounds i true) w' → K S' a → K' a w') (hh : qOp P md ops A B D q p S i K a) : wpOp P ops Q' i K' a w := by
  obtain ⟨hun, o, ho, hall⟩ := mem_ready.1 hi
  have hlt : i < listed.size := by
    rcases Nat.lt_or_ge i listed.size with h' | h'
    · exact h'
    · rw [Array.getD_eq_getD_getElem?, Array.getElem?_eq_none h'] at hun; cases hun
  have hunf : listed.getD i false = false := by
    rw [Array.getD_eq_getD_getElem?, Array.getElem?_eq_getElem hlt] at hun ⊢; exact hun
  have hpl : listed.getD p false = true → listed.getD q false = true := fun hp => by
    unfold QT.fst at hpq
    split at hpq
    · rename_i op hop
      exact dep_listed hD 4 op (hD p op hp hop) hpq
    · cases hpq
  have hfst : ∀ t, fst md ops t i = true → listed.getD t false = true → False := fun t hf ht => by
    have : listed.getD i false = true := by
      unfold QT.fst at hf
      split at hf
      · rename_i op hop
        exact dep_listed hD 4 op (hD t op ht hop) hf
      · cases hf
    rw [hunf] at this; cases this
  have hwait : ∀ t, waits md ops t o = true → listed.getD t false = true := fun t hw => dep_listed hD 4 o (fun e he h => hall e (by simpa using he) h) hw
  unfold qOp at hh
  unfold wpOp
  simp only [ho] at hh ⊢
  by_cases hiq : i = q
  · subst hiq
    rw [if_pos rfl] at hh
    have hA : A w ∧ ∀ g, S g := by unfold cls at hC; rw [hunf] at hC; simpa using hC
    obtain ⟨hw, hg⟩ := hh
    have hg' := hg w.heap.size (hA.2 _)
    simp only [hw, if_true]
    refine .inl (wp_of_oat (C' := B w.heap.size) (K := fun a => K (fun x => x = w.heap.size) a) (fun a' w' hw' hk => h _ a' w' ?_ hk) (hg'.1 w hA.1 rfl) hg'.2)
    unfold cls
    rw [set_same hlt, if_pos rfl]
    refine ⟨w.heap.size, rfl, ?_⟩
    rw [set_other hne.symm]
    have : listed.getD p false = false := by
      cases hp : listed.getD p false with
      | false => rfl
      | true => have := hpl hp; rw [hunf] at this; cases this
    rw [this]; exact hw'
  · rw [if_neg hiq] at hh
    have hq2 := set_other (listed := listed) hiq
    split
    · rename_i hw
      simp only [hw, if_true] at hh
      obtain ⟨v, hv, hK⟩ := hh
      unfold allowed at hv
      by_cases hip : i = p
      · subst hip
        rw [if_pos rfl] at hv
        have hql : listed.getD q false = true := by
          unfold QT.fst at hpq
          simp only [ho] at hpq
          exact hwait q hpq
        unfold cls at hC
        rw [hql, if_pos rfl, hunf] at hC
        obtain ⟨g, hSg, hBg⟩ := hC
        refine .inl (wp_of_oat (C' := D g) (K := fun a => K S a) (fun a' w' hw' hk => h _ a' w' ?_ hk) (hv g w hSg (by simpa using hBg)) hK)
        unfold cls
        rw [hq2, hql, if_pos rfl]
        exact ⟨g, hSg, by rw [set_same hlt, if_pos rfl]; exact hw'⟩
      · rw [if_neg hip] at hv
        have hp2 := set_other (listed := listed) hip
        by_cases hql : listed.getD q false = true
        · have hC0 := hC
          unfold cls at hC
          rw [hql, if_pos rfl] at hC
          obtain ⟨g, hSg, hg⟩ := hC
          by_cases hpl' : listed.getD p false = true
          · rw [hpl', if_pos rfl] at hg
            rcases hv.2.2 with hx | hx | hx
            · exact (hfst p hx hpl').elim
            · exact (hfst q hx hql).elim
            · refine .inl (wp_of_oat (C' := D g) (K := fun a => K S a) (fun a' w' hw' hk => h _ a' w' ?_ hk) (hx g w hSg hg) hK)
              unfold cls
              rw [hq2, hp2, hql, hpl', if_pos rfl]
              exact ⟨g, hSg, by rw [if_pos rfl]; exact hw'⟩
          · rw [if_neg hpl'] at hg
            rcases hv.2.1 with hx | hx | hx
            · exact (hpl' (hwait p hx)).elim
            · exact (hfst q hx hql).elim
            · refine .inl (wp_of_oat (C' := B g) (K := fun a => K S a) (fun a' w' hw' hk => h _ a' w' ?_ hk) (hx g w hSg hg) hK)
              unfold cls
              rw [hq2, hp2, hql, if_pos rfl]
              exact ⟨g, hSg, by rw [if_neg hpl']; exact hw'⟩
        · unfold cls at hC
          rw [if_neg hql] at hC
          rcases hv.1 with hx | hx
          · exact (hql (hwait q hx)).elim
          · refine .inl (wp_of_oat (C' := A) (K := fun a => K S a) (fun a' w' hw' hk => h _ a' w' ?_ hk) (hx w hC.1) hK)
            unfold cls
            rw [hq2, if_neg hql]
            exact ⟨hw', hC.2⟩
    · rename_i hw
      simp only [hw] at hh
      refine h _ _ _ ?_ hh.2
      unfold cls at hC ⊢
      rw [hq2, set_other hh.1]
      exact hC
theorem wpAny_of_any {Q' : Exit → Act → World → Prop} (hpq : fst md ops p q = true) (hne : p ≠ q) (hQ : ∀ g a w, D g w → Qf g a → Q' .normal a w) : ∀ (fuel : Nat) (listed : Array Bool) (S : Nat → Prop) (a : Act) (w : World), cls A B D q p S listed w → QT.Down md ops listed →
    anyA P md ops A B D q p Qf fuel listed S a → wpAny P md ops Q' fuel listed a w
  | 0, l, S, _, _, hw, _, h => ⟨h.1, by
    unfold cls at hw
    rw [h.2.1, if_pos rfl] at hw
    obtain ⟨g, hg, hd⟩ := hw
    rw [h.2.2.1, if_pos rfl] at hd
    exact hQ g _ _ hd (h.2.2.2 g hg)⟩
  | fuel + 1, l, S, _, _, hw, hd0, h => ⟨fun h0 => by
    obtain ⟨h1, h2, h3⟩ := h.1 h0
    unfold cls at hw
    rw [h1, if_pos rfl] at hw
    obtain ⟨g, hg, hd⟩ := hw
    rw [h2, if_pos rfl] at hd
    exact hQ g _ _ hd (h3 g hg), fun i hi => wpOp_of_qOp hpq hne hw hd0 hi (fun S' a' w' hw' hk => wpAny_of_any hpq hne hQ fuel _ S' a' w' hw' (hd0.set hi) hk) (h.2 i hi)⟩
def YieldsIn (P : Program) (md : Region.Mode) (ops : Array Oper) (A : World → Prop) (B D : Nat → World → Prop) (q p : Nat) (S : Nat → Prop) (i : Nat) (o : Oper) (v : Value) (a : Act) : Prop :=
  (Region.wanted o (yielded ops a.tmps) = true ∧ allowed P md ops A B D q p S i o a v) ∨
  (Region.wanted o (yielded ops a.tmps) = false ∧ i ≠ p ∧ v = undef)
theorem YieldsIn.mono {i : Nat} {o : Oper} {v : Value} {a : Act} (hy : YieldsIn P md ops A B D q p S i o v a) (hs : ∀ g, S' g → S g) : YieldsIn P md ops A B D q p S' i o v a :=
  hy.imp (fun h => ⟨h.1, h.2.mono hs⟩) id
theorem YieldsIn.qOp {i : Nat} {o : Oper} {v : Value} {a : Act} (hiq : i ≠ q) (hi : ops[i]? = some o) (hy : YieldsIn P md ops A B D q p S i o v a) {K : (Nat → Prop) → Act → Prop} (h : K S (a.put o.dst v)) : qOp P md ops A B D q p S i K a := by
  unfold QA.qOp
  simp only [hi]
  rw [if_neg hiq]
  rcases hy with ⟨hw, hv⟩ | ⟨hw, hne, rfl⟩
  · simp only [hw, if_true]; exact ⟨v, hv, h⟩
  · simp only [hw, Bool.false_eq_true, if_false]; exact ⟨hne, h⟩
theorem YieldsIn.of_same {i : Nat} {o : Oper} {v : Value} {a a' : Act} (hy : YieldsIn P md ops A B D q p S i o v a) (he : execOp a'.eval o = execOp a.eval o)
    (hw : Region.wanted o (yielded ops a'.tmps) = Region.wanted o (yielded ops a.tmps)) : YieldsIn P md ops A B D q p S i o v a' := by
  unfold YieldsIn allowed oat at *
  rw [he, hw]
  exact hy
theorem yieldsIn_of_qOp {i : Nat} {o : Oper} {a : Act} {K : (Nat → Prop) → Act → Prop} (hiq : i ≠ q) (hi : ops[i]? = some o) (h : qOp P md ops A B D q p S i K a) : ∃ v, YieldsIn P md ops A B D q p S i o v a ∧ K S (a.put o.dst v) := by
  unfold qOp at h
  simp only [hi] at h
  rw [if_neg hiq] at h
  by_cases hw : Region.wanted o (yielded ops a.tmps) = true
  · simp only [hw, if_true] at h
    obtain ⟨v, h1, h2⟩ := h
    exact ⟨v, .inl ⟨hw, h1⟩, h2⟩
  · simp only [hw] at h
    exact ⟨undef, .inr ⟨by simpa using hw, h.1, rfl⟩, h.2⟩
theorem qOp_put {i j : Nat} {oi oj : Oper} {v : Value} (hj : ops[j]? = some oj) (hap : oi.apart ops oj = true)
    (hsi : ∀ cs b, oi.op ≠ .select cs b) (hsj : ∀ cs b, oj.op ≠ .select cs b) {K : (Nat → Prop) → Act → Prop} {a : Act}
    (hy : YieldsIn P md ops A B D q p S i oi v a) (h : qOp P md ops A B D q p S j K (a.put oi.dst v)) :
    qOp P md ops A B D q p S j (fun S' a' => YieldsIn P md ops A B D q p S' i oi v a' ∧ K S' (a'.put oi.dst v)) a := by
  obtain ⟨h1, h2, h3⟩ := Oper.apart_spec hap
  have keep : ∀ (S' : Nat → Prop) (a : Act), YieldsIn P md ops A B D q p S' i oi v a → ∀ u, YieldsIn P md ops A B D q p S' i oi v (a.put oj.dst u) := fun S' a hy u =>
    hy.of_same (execOp_put oi hsi a oj.dst u h3) (wanted_put oi a oj.dst u h3)
  unfold qOp at *
  simp only [hj] at *
  rw [wanted_put oj a oi.dst v h1] at h
  by_cases hjq : j = q
  · rw [if_pos hjq] at h ⊢
    refine ⟨h.1, fun g hg => ⟨?_, keep _ a (hy.mono (fun x hx => by rw [hx]; exact hg)) _, by rw [← Act.put_comm a v _ h2]; exact (h.2 g hg).2⟩⟩
    have hm := (h.2 g hg).1
    unfold made oat at *
    rwa [execOp_put oj hsj a oi.dst v h1] at hm
  · rw [if_neg hjq] at h ⊢
    split
    · rename_i hw
      simp only [hw, if_true] at h
      obtain ⟨u, hu, hn⟩ := h
      refine ⟨u, ?_, keep _ a hy u, by rw [← Act.put_comm a v u h2]; exact hn⟩
      unfold allowed oat at *
      rwa [execOp_put oj hsj a oi.dst v h1] at hu
    · rename_i hw
      simp only [hw] at h
      exact ⟨h.1, keep _ a hy _, by rw [← Act.put_comm a v undef h2]; exact h.2⟩
theorem anyA_first {i : Nat} {oi : Oper} {v : Value} (hiq : i ≠ q) (hi : ops[i]? = some oi) (hsel : ∀ (j : Nat) (o : Oper) cs b, ops[j]? = some o → o.op ≠ .select cs b) :
    ∀ (fuel : Nat) (listed : Array Bool) (S : Nat → Prop) (a : Act),
      (∀ j oj, ops[j]? = some oj → j ≠ i → listed.getD j true = false → (∀ e ∈ oj.after, Region.binds md e = true → e.on ≠ i) → oi.apart ops oj = true) →
      i ∈ Region.ready md ops listed → YieldsIn P md ops A B D q p S i oi v a →
      anyA P md ops A B D q p Qf fuel (listed.setIfInBounds i true) S (a.put oi.dst v) → anyA P md ops A B D q p Qf (fuel + 1) listed S a := by
  intro fuel
  induction fuel with
  | zero =>
    intro listed S a _ hr hy H
    refine ⟨fun h => (by rw [h] at hr; cases hr), fun j hj => ?_⟩
    by_cases hji : j = i
    · subst hji; exact hy.qOp hiq hi H
    · have := ready_mono hj hji
      rw [H.1] at this
      cases this
  | succ fuel ih =>
    intro listed S a hfree hr hy H
    refine ⟨fun h => (by rw [h] at hr; cases hr), fun j hj => ?_⟩
    by_cases hji : j = i
    · subst hji; exact hy.qOp hiq hi H
    · have h1 := H.2 j (ready_mono hj hji)
      obtain ⟨hjun, oj, hoj, hall⟩ := mem_ready.1 hj
      have hnot : ∀ e ∈ oj.after, Region.binds md e = true → e.on ≠ i := fun e he hb heq => by
        have h1 := hall e he hb
        have h0 := (mem_ready.1 hr).1
        rw [heq] at h1
        rcases Nat.lt_or_ge i listed.size with h' | h'
        · simp [h'] at h0 h1; rw [h0] at h1; cases h1
        · simp [Array.getElem?_eq_none h'] at h1
      have h2 := qOp_put hoj (hfree j oj hoj hji hjun hnot) (fun cs b => hsel i oi cs b hi) (fun cs b => hsel j oj cs b hoj) hy h1
      have hfree' : ∀ k ok, ops[k]? = some ok → k ≠ i → (listed.setIfInBounds j true).getD k true = false →
          (∀ e ∈ ok.after, Region.binds md e = true → e.on ≠ i) → oi.apart ops ok = true := fun k ok hk hki hun hno => by
        refine hfree k ok hk hki ?_ hno
        by_cases hjk : j = k
        · subst hjk; exact hjun
        · rw [getD_set_ne true hjk] at hun; exact hun
      refine qOp_mono (fun S' a' h3 => ih (listed.setIfInBounds j true) S' a' hfree' (ready_mono hr (Ne.symm hji)) h3.1 ?_) h2
      rw [Array.setIfInBounds_comm _ _ hji]
      exact h3.2
def lexFrom (md : Region.Mode) (ops : Array Oper) (q p : Nat) : Nat → Nat → Array Bool → Bool
  | 0, _, listed => (Region.ready md ops listed).isEmpty && (listed.getD q false && listed.getD p false)
  | fuel + 1, k, listed => (Region.ready md ops listed).contains k && (if k = q then Region.ready md ops listed == [q] else Region.free md ops listed k) && lexFrom md ops q p fuel (k + 1) (listed.setIfInBounds k true)
def lexB (md : Region.Mode) (ops : Array Oper) (q p : Nat) : Bool := Region.noSelect ops && fst md ops p q && !(p == q) && lexFrom md ops q p ops.size 0 (Array.replicate ops.size false)
theorem anyA_lex (hs : Region.noSelect ops = true) : ∀ (l : List Oper) (k : Nat) (listed : Array Bool) (S : Nat → Prop) (a : Act), (∀ j, l[j]? = ops[k + j]?) →
    lexFrom md ops q p l.length k listed = true → wpA P md ops A B D q p Qf l k S a → anyA P md ops A B D q p Qf l.length listed S a
  | [], _, _, _, _, _, hB, h => by
    simp only [List.length_nil, lexFrom, Bool.and_eq_true] at hB
    exact ⟨by simpa using hB.1, hB.2.1, hB.2.2, h⟩
  | o :: l, k, listed, S, a, hl, hB, h => by
    have h0 : ops[k]? = some o := by simpa using (hl 0).symm
    simp only [List.length_cons, lexFrom, Bool.and_eq_true] at hB
    obtain ⟨⟨hr, hf⟩, hB'⟩ := hB
    have hst : qOp P md ops A B D q p S k (fun S a => wpA P md ops A B D q p Qf l (k + 1) S a) a := by unfold qOp; simp only [h0]; exact h
    have hl' : ∀ j, l[j]? = ops[k + 1 + j]? := fun j => by have := hl (j + 1); simpa [Nat.add_assoc, Nat.add_comm 1 j] using this
    by_cases hkq : k = q
    · rw [if_pos hkq] at hf
      have hrd : Region.ready md ops listed = [q] := by simpa using hf
      refine ⟨fun h => (by rw [hrd] at h; cases h), fun i hi => ?_⟩
      rw [hrd] at hi
      obtain rfl : i = k := by rw [hkq]; simpa using hi
      exact qOp_mono (fun S' a' h3 => anyA_lex hs l (i + 1) _ S' a' hl' hB' h3) hst
    · rw [if_neg hkq] at hf
      obtain ⟨v, hy, hK⟩ := yieldsIn_of_qOp hkq h0 hst
      exact anyA_first hkq h0 (Region.noSelect_spec hs) l.length listed S a (Region.free_spec h0 hf) (by simpa using hr) hy
        (anyA_lex hs l (k + 1) _ S _ hl' hB' hK)
theorem wp_region_a (q p : Nat) (A : World → Prop) (B D : Nat → World → Prop) {id : Nat} {Q : Exit → Act → World → Prop} {a : Act} {w : World} {l : List Oper} (hm : P.follows .mixedOrders = true) (hB : lexB .any l.toArray q p = true)
    (hC : A w.drew) (h : wpA P .any l.toArray A B D q p (fun g a' => ∀ w', D g w' → Q .normal a' w') l 0 (fun _ => True) a) : (Code.region id l.toArray true).wp P Q a w := by
  simp only [lexB, Bool.and_eq_true] at hB
  obtain ⟨⟨⟨hs, hpq⟩, hne⟩, hlex⟩ := hB
  have hrep : ∀ j, (Array.replicate l.toArray.size false).getD j false = false := fun j => by
    rw [Array.getD_eq_getD_getElem?, Array.getElem?_replicate]; split <;> rfl
  refine wp_region_any hm (wpAny_of_any (A := A) (B := B) (D := D) (q := q) (p := p) (Qf := fun g a' => ∀ w', D g w' → Q .normal a' w') hpq (by simpa using hne) (fun g a w' hd hq => hq w' hd) _ _ (fun _ => True) _ _ ?_ ?_ ?_)
  · unfold cls; rw [hrep, if_neg (by decide)]; exact ⟨hC, fun _ => trivial⟩
  · intro j o hj _
    rw [hrep] at hj; cases hj
  · have := anyA_lex (P := P) (A := A) (B := B) (D := D) (q := q) (p := p) (Qf := fun g a' => ∀ w', D g w' → Q .normal a' w') (md := .any) hs l 0 (Array.replicate l.toArray.size false) (fun _ => True) a (by simp) (by simpa using hlex) h
    simpa using this
theorem al_p {i : Nat} {o : Oper} {a : Act} {v : Value} (he : (i == p) = true) (hp : ∀ g w, S g → B g w → oat P o a (D g) w v) : allowed P md ops A B D q p S i o a v := by
  unfold allowed
  rw [if_pos (by simpa using he)]
  exact hp
theorem al_o {i : Nat} {o : Oper} {a : Act} {v : Value} (hne : (i == p) = false) (h1 : waits md ops q o = true ∨ ∀ w, A w → oat P o a A w v)
    (h2 : waits md ops p o = true ∨ fst md ops q i = true ∨ ∀ g w, S g → B g w → oat P o a (B g) w v) (h3 : fst md ops p i = true ∨ fst md ops q i = true ∨ ∀ g w, S g → D g w → oat P o a (D g) w v) : allowed P md ops A B D q p S i o a v := by
  unfold allowed
  rw [if_neg (by simpa using hne)]
  exact ⟨h1, h2, h3⟩
end QA
end Go.Proofs.YtdebnbgjgkbmaaaGreatDoor
namespace Go.Proofs.YtdebnbgjgkbmaaaGreatDoor.Pu
open Go.RowKit
set_option linter.unusedVariables false
theorem Bt.toBelow {w w' : World} (h : Bt [] w w') : Below w.heap.size w w' := ⟨h.os, h.tape, h.output, h.size, fun k hk => h.block k hk (by simp)⟩
/-- a store into a map as an operation that writes -/
theorem oat_mapUpdate {P : Program} {k : TypeId} {κ α : Type} [DecidableEq κ] {K : KT P k κ} {mk : α → Value} {o : Oper} {a : Act} {w : World} {C' : World → Prop} {b : Nat} {l : List (κ × α)}
    (m x v : Operand) (t e : TypeId) (ho : o.op = .mapUpdate t m x v) (i : κ) (y : α) (hm : a.eval m = .map (some b)) (hx : a.eval x = K.kv i) (hv : a.eval v = mk y)
    (ht : P.underlying t = some (.map k e)) (h : IM K mk w b l) (hi : K.ok i) (hC : ∀ w', IM K mk w' b (putM l i y) → M.But b w w' → C' w') : QP.oat P o a C' w undef := by
  obtain ⟨w', hrun, r1, r2⟩ := h.put ht hi y
  unfold QP.oat execOp
  simp [ho, hm, hx, hv, hrun, Result.andThen, QP.upon]
  exact hC w' r1 r2
/-- the map, the argument's box, and what is as it was -/
structure CO (s : List Nat) (m i o : Nat) (base rate : Int) (li : List (Ky × List Value)) (lo : List (Ky × Ky)) (n : Nat) (X : Array Value) (w v : World) : Prop where
  cm : Cm m i o base rate li lo v
  row : M.RowAt v n 108 X
  bt : Bt s w v
  wn : w.heap.size = n
  out : ∀ g ∈ s, g < n
  old : m < n ∧ i < n ∧ o < n
section
variable {s : List Nat} {m i o : Nat} {base rate : Int} {li : List (Ky × List Value)} {lo : List (Ky × Ky)} {n : Nat} {X : Array Value} {w v v' : World}
theorem CO.same (h : CO s m i o base rate li lo n X w v) (hb : Below v.heap.size v v') : CO s m i o base rate li lo n X w v' :=
  ⟨h.cm.same hb, h.row.call hb, h.bt.trans (.ofBelow _ hb), h.wn, h.out, h.old⟩
theorem CO.drew (h : CO s m i o base rate li lo n X w v) : CO s m i o base rate li lo n X w v.drew := ⟨h.cm.drew, h.row.drew, h.bt.drew, h.wn, h.out, h.old⟩
theorem CO.alloc (h : CO s m i o base rate li lo n X w v) (ob : Obj) : CO s m i o base rate li lo n X w (v.alloc ob) := h.same ((Below.refl _ _).alloc (Nat.le_refl _) ob)
theorem CO.rowE (h : CO s m i o base rate li lo n X w v) : v.heap[n]? = some (.cells X 108 (0, 0)) := h.row
theorem CO.size (h : CO s m i o base rate li lo n X w v) : n < v.heap.size := h.row.lt
end
/-- .. and a new block -/
structure CG (s : List Nat) (m i o : Nat) (base rate : Int) (li : List (Ky × List Value)) (lo : List (Ky × Ky)) (n : Nat) (X : Array Value) (w : World) (t : TypeId) (Z : Array Value) (g : Nat) (v : World) : Prop where
  co : CO s m i o base rate li lo n X w v
  gr : M.RowAt v g t Z
  gn : n < g
section
variable {s : List Nat} {m i o : Nat} {base rate : Int} {li : List (Ky × List Value)} {lo : List (Ky × Ky)} {n : Nat} {X : Array Value} {w v v' : World} {t : TypeId} {Z : Array Value} {g : Nat}
theorem CG.of (h : CO s m i o base rate li lo n X w v) (hg : v.heap.size = g) (t : TypeId) (Z : Array Value) : CG s m i o base rate li lo n X w t Z g (v.alloc (.cells Z t)) := by
  subst hg
  exact ⟨h.alloc _, M.RowAt.new v t Z, h.size⟩
theorem CG.rowE (h : CG s m i o base rate li lo n X w t Z g v) : v.heap[g]? = some (.cells Z t (0, 0)) := h.gr
theorem CG.set (h : CG s m i o base rate li lo n X w t Z g v) (D : Array Value) : CG s m i o base rate li lo n X w t D g (v.setRow g D) := by
  have hn := h.gn
  have ho := h.co.old
  have hs : Bt s w (v.setRow g D) := ⟨h.co.bt.os, h.co.bt.tape, h.co.bt.output, by have := h.co.bt.size; simpa using this, fun k hk hks => by
    have hw := h.co.wn
    rw [← h.co.bt.block k hk hks]; simp only [World.setRow, Array.getElem?_modify]; rw [if_neg (by omega)]⟩
  exact ⟨⟨⟨h.co.cm.hp.farRow (by omega) D, h.co.cm.hi.farRow (by omega) D, h.co.cm.ho.farRow (by omega) D, h.co.cm.ne⟩, h.co.row.farRow (by omega) D, hs, h.co.wn, h.co.out, h.co.old⟩, h.gr.setRow D, hn⟩
end
/-- the cells of a circuit -/
structure Cells (X : Array Value) (a b : Lg) : Prop where
  size : X.size = 40
  one : X.all (·.oneCell') = true
  c0 : X[0]? = some (.int .u32 a.k.1)
  c1 : X[1]? = some (.int .u64 a.k.2)
  c2 : X[2]? = some (.int .u64 a.amt)
  c3 : X[3]? = some (.int .i64 a.exp)
  c4 : X[4]? = some (.int .u32 b.k.1)
  c5 : X[5]? = some (.int .u64 b.k.2)
  c6 : X[6]? = some (.int .u64 b.amt)
  c7 : X[7]? = some (.int .i64 b.exp)
def Wd (C : List Value) : Prop := C.length = 40 ∧ C.all (·.oneCell') = true
theorem Cells.wd {C : List Value} {a b : Lg} (h : Cells C.toArray a b) : Wd C := ⟨by have := h.size; simpa using this, by have := h.one; simpa using this⟩
def Z67 : Array Value := #[.int .u32 0, .int .u64 0, .int .u64 0, .int .i64 0, .int .u32 0, .int .u64 0, .int .u64 0, .int .i64 0, .int .u8 0, .int .u8 0, .int .u8 0, .int .u8 0, .int .u8 0, .int .u8 0, .int .u8 0, .int .u8 0, .int .u8 0, .int .u8 0, .int .u8 0, .int .u8 0, .int .u8 0, .int .u8 0, .int .u8 0, .int .u8 0, .int .u8 0, .int .u8 0, .int .u8 0, .int .u8 0, .int .u8 0, .int .u8 0, .int .u8 0, .int .u8 0, .int .u8 0, .int .u8 0, .int .u8 0, .int .u8 0, .int .u8 0, .int .u8 0, .int .u8 0, .int .u8 0]
def Z61 : Array Value := #[.int .u32 0, .int .u64 0]
theorem zero67 (w : World) : (zeroValue 108).run Tryz.prog w = .ok (.agg Z67) w := by kernel_rfl
theorem zero61 (w : World) : (zeroValue 103).run Tryz.prog w = .ok (.agg Z61) w := by kernel_rfl
theorem info67 {D : Array Value} (h : D.size = 40) : (Tryz.prog.info? 108).map (·.size) = some D.size := by rw [h]; kernel_rfl
theorem info61 {D : Array Value} (h : D.size = 2) : (Tryz.prog.info? 103).map (·.size) = some D.size := by rw [h]; kernel_rfl
section
variable {s : List Nat} {m i o : Nat} {base rate : Int} {li : List (Ky × List Value)} {lo : List (Ky × Ky)} {n : Nat} {X : Array Value} {w v v' : World}
/-- what the map of the keys in has -/
theorem look_i (hli : ∀ p ∈ li, Wd p.2) {k : Ky} (hk : k.fit) : ∃ D : Array Value, D.size = 40 ∧ D.all (·.oneCell') = true ∧ ∀ v, IM KK mkC v i li → (Instr.lookup 238 (.map (some i)) (kv k) true).run Tryz.prog v = .ok (.tuple #[.agg D, .bool (getM li k).isSome]) v := by
  cases hg : getM li k with
  | none => exact ⟨Z67, rfl, (by kernel_rfl), fun v h => by have := h.look Tryz.underlying238 (zero67 v) (i := k) hk; rw [hg] at this; exact this⟩
  | some C =>
    have hw := hli _ (getM_mem hg)
    exact ⟨C.toArray, by simpa using hw.1, by simpa using hw.2, fun v h => by have := h.look Tryz.underlying238 (zero67 v) (i := k) hk; rw [hg] at this; exact this⟩
theorem look_o {k : Ky} (hk : k.fit) : ∃ D : Array Value, D.size = 2 ∧ D.all (·.oneCell') = true ∧ ∀ v, IM KK kv v o lo → (Instr.lookup 239 (.map (some o)) (kv k) true).run Tryz.prog v = .ok (.tuple #[.agg D, .bool (getM lo k).isSome]) v := by
  cases hg : getM lo k with
  | none => exact ⟨Z61, rfl, (by kernel_rfl), fun v h => by have := h.look Tryz.underlying239 (zero61 v) (i := k) hk; rw [hg] at this; exact this⟩
  | some x => exact ⟨#[.int .u32 x.1, .int .u64 x.2], rfl, (by kernel_rfl), fun v h => by have := h.look Tryz.underlying239 (zero61 v) (i := k) hk; rw [hg] at this; exact this⟩
theorem CO.start (h : Cm m i o base rate li lo w) (X : Array Value) : CO [] m i o base rate li lo w.heap.size X w (w.alloc (.cells X 108)) :=
  ⟨h.same ((Below.refl _ _).alloc (Nat.le_refl _) _), M.RowAt.new w 108 X, (Bt.refl [] w).alloc _, rfl, by simp, h.hp.lt, h.hi.lt, h.ho.lt⟩
theorem CO.c (h : CO s m i o base rate li lo n X w v) {a b : Lg} (hx : Cells X a b) :
    v.cell? ⟨m, 2, none⟩ = some (.map (some i)) ∧ v.cell? ⟨m, 3, none⟩ = some (.map (some o)) ∧ v.cell? ⟨n, 0, none⟩ = some (.int .u32 a.k.1) ∧ v.cell? ⟨n, 1, none⟩ = some (.int .u64 a.k.2) ∧ v.cell? ⟨n, 2, none⟩ = some (.int .u64 a.amt) ∧ v.cell? ⟨n, 3, none⟩ = some (.int .i64 a.exp) ∧
      v.cell? ⟨n, 4, none⟩ = some (.int .u32 b.k.1) ∧ v.cell? ⟨n, 5, none⟩ = some (.int .u64 b.k.2) ∧ v.cell? ⟨n, 6, none⟩ = some (.int .u64 b.amt) ∧ v.cell? ⟨n, 7, none⟩ = some (.int .i64 b.exp) :=
  ⟨h.cm.c.2.2.1, h.cm.c.2.2.2, (h.row.cell 0).trans hx.c0, (h.row.cell 1).trans hx.c1, (h.row.cell 2).trans hx.c2, (h.row.cell 3).trans hx.c3, (h.row.cell 4).trans hx.c4, (h.row.cell 5).trans hx.c5, (h.row.cell 6).trans hx.c6, (h.row.cell 7).trans hx.c7⟩
end
set_option maxRecDepth 100000 in
set_option maxHeartbeats 4000000 in
/-- Check refuses -/
theorem open_err {m i o : Nat} {base rate : Int} {li : List (Ky × List Value)} {lo : List (Ky × Ky)} {w : World} (h : Cm m i o base rate li lo w) (hb : U64 base) (hr : U64 rate) (a b : Lg) (ha : a.ok) (hbo : b.ok) (X : Array Value) (hx : Cells X a b) (he : ckE base rate a b ≠ 0) :
    Calls Tryz.prog 47 #[.pointer (some ⟨m, 0, none⟩), .agg X] w fun e w' => e = .returned (.int .i64 (ckE base rate a b)) ∧ Below w.heap.size w w' := by
  have c0 := CO.start h X
  obtain ⟨_, _, z0, z1, z2, z3, z4, z5, z6, z7⟩ := c0.c hx
  have ck := check_any c0.cm hb hr a b ha hbo
  obtain ⟨V, hV⟩ : ∃ V, w.alloc (.cells X 108) = V := ⟨_, rfl⟩
  obtain ⟨n, hn⟩ : ∃ n, w.heap.size = n := ⟨_, rfl⟩
  obtain ⟨E, hE⟩ : ∃ E, ckE base rate a b = E := ⟨_, rfl⟩
  have HV := Lib.hid hV; have HN := Lib.hid hn
  rw [hE] at ck he ⊢
  rw [hV] at ck z0 z1 z2 z3 z4 z5 z6 z7
  rw [hV] at c0
  rw [hn] at c0 z0 z1 z2 z3 z4 z5 z6 z7
  have CK := Lib.hid ck; have C0 := Lib.hid c0
  have d0 : (E == 0) = false := by simpa using he
  obtain ⟨⟨ka, ki⟩, aa, ae⟩ := a
  obtain ⟨⟨kb, kj⟩, ba, be⟩ := b
  simp only [Lg.cells] at CK
  simp only at *
  clear h hV hn hE ha hbo hb hr hx ck he c0
  go_enter Tryz.func47, Tryz.ntmps47
  go_wp2_with (rw [HN.out]; simp only [HV.out])
  go_wp2_with fail
  refine (CK.out).mono ?_
  rintro e w1 ⟨rfl, q1⟩
  go_wp2
  go_ret
  exact ⟨rfl, (C0.out.same q1).bt.toBelow⟩
end Go.Proofs.YtdebnbgjgkbmaaaGreatDoor.Pu
-- fixed
namespace Go.Proofs.YtdebnbgjgkbmaaaGreatDoor.Pu
open Go.RowKit
set_option linter.unusedVariables false
/-- what Open does where Check lets it pass -/
def Opn (m i o : Nat) (base rate : Int) (li : List (Ky × List Value)) (lo : List (Ky × Ky)) (a b : Lg) (C : List Value) (si so : Bool) (w : World) (e : Ending) (w' : World) : Prop :=
  (si = true ∨ so = true → e = .returned (.int .i64 4) ∧ Below w.heap.size w w') ∧
  (si = false → so = false → e = .returned (.int .i64 0) ∧ Cm m i o base rate (li ++ [(a.k, C)]) (lo ++ [(b.k, a.k)]) w' ∧ Bt [i, o] w w')
theorem none_of {κ α : Type} [DecidableEq κ] {l : List (κ × α)} {i : κ} {x : α} (h : (getM l i).isSome = false) : putM l i x = l ++ [(i, x)] :=
  (none_M (getM_none (by cases hg : getM l i with | none => rfl | some _ => rw [hg] at h; cases h))).2.1
section
variable {s : List Nat} {m i o : Nat} {base rate : Int} {li : List (Ky × List Value)} {lo : List (Ky × Ky)} {n : Nat} {X : Array Value} {w v v' : World}
theorem CO.putI (h : CO s m i o base rate li lo n X w v) {li' : List (Ky × List Value)} (h1 : IM KK mkC v' i li') (hb : M.But i v v') : CO (i :: s) m i o base rate li' lo n X w v' := by
  have old := h.old
  have ne := h.cm.ne
  refine ⟨⟨hb.row h.cm.hp ne.1, h1, h.cm.ho.but hb ne.2.2.symm, ne⟩, hb.row h.row (by omega), ?_, h.wn, ?_, old⟩
  · have b1 : Bt (i :: s) w v := ⟨h.bt.os, h.bt.tape, h.bt.output, h.bt.size, fun k hk hks => h.bt.block k hk (fun e => hks (List.mem_cons_of_mem _ e))⟩
    exact b1.trans (.ofBut hb List.mem_cons_self)
  · intro g hg
    rcases List.mem_cons.1 hg with rfl | hg
    · exact old.2.1
    · exact h.out g hg
theorem CO.putO (h : CO s m i o base rate li lo n X w v) {lo' : List (Ky × Ky)} (h1 : IM KK kv v' o lo') (hb : M.But o v v') : CO (o :: s) m i o base rate li lo' n X w v' := by
  have old := h.old
  have ne := h.cm.ne
  refine ⟨⟨hb.row h.cm.hp ne.2.1, h.cm.hi.but hb ne.2.2, h1, ne⟩, hb.row h.row (by omega), ?_, h.wn, ?_, old⟩
  · have b1 : Bt (o :: s) w v := ⟨h.bt.os, h.bt.tape, h.bt.output, h.bt.size, fun k hk hks => h.bt.block k hk (fun e => hks (List.mem_cons_of_mem _ e))⟩
    exact b1.trans (.ofBut hb List.mem_cons_self)
  · intro g hg
    rcases List.mem_cons.1 hg with rfl | hg
    · exact old.2.2
    · exact h.out g hg
end
set_option maxRecDepth 100000 in
set_option maxHeartbeats 8000000 in
theorem open_ok {m i o : Nat} {base rate : Int} {li : List (Ky × List Value)} {lo : List (Ky × Ky)} {w : World} (h : Cm m i o base rate li lo w) (hb : U64 base) (hr : U64 rate) (a b : Lg) (ha : a.ok) (hbo : b.ok) (C : List Value) (hx : Cells C.toArray a b) (he : ckE base rate a b = 0)
    (hli : ∀ p ∈ li, Wd p.2) (hlen : li.length < 64) (si so : Bool) (hsi : (getM li a.k).isSome = si) (hso : (getM lo b.k).isSome = so) :
    Calls Tryz.prog 47 #[.pointer (some ⟨m, 0, none⟩), .agg C.toArray] w (Opn m i o base rate li lo a b C si so w) := by
  have c0 := CO.start h C.toArray
  obtain ⟨_, _, z0, z1, z2, z3, z4, z5, z6, z7⟩ := c0.c hx
  have ck := check_any c0.cm hb hr a b ha hbo
  rw [he] at ck
  obtain ⟨D, hD1, hD2, hD3⟩ := look_i (i := i) hli ha.k
  obtain ⟨F, hF1, hF2, hF3⟩ := look_o (o := o) (lo := lo) hbo.k
  rw [hsi] at hD3
  rw [hso] at hF3
  have ka : KK.ok a.k := ha.k; have kb : KK.ok b.k := hbo.k
  have fa : ∀ li' lo' s v, CO s m i o base rate li' lo' w.heap.size C.toArray w v → v.cell? ⟨m, 2, none⟩ = some (.map (some i)) ∧ v.cell? ⟨m, 3, none⟩ = some (.map (some o)) ∧ v.cell? ⟨w.heap.size, 0, none⟩ = some (.int .u32 a.k.1) ∧ v.cell? ⟨w.heap.size, 1, none⟩ = some (.int .u64 a.k.2) ∧ v.cell? ⟨w.heap.size, 4, none⟩ = some (.int .u32 b.k.1) ∧ v.cell? ⟨w.heap.size, 5, none⟩ = some (.int .u64 b.k.2) := fun li' lo' s v hv => by
    obtain ⟨y0, y1, y2, y3, _, _, y4, y5, _⟩ := hv.c hx
    exact ⟨y0, y1, y2, y3, y4, y5⟩
  have lki : ∀ v, CO [] m i o base rate li lo w.heap.size C.toArray w v → (Instr.lookup 238 (.map (some i)) (.agg #[.int .u32 a.k.1, .int .u64 a.k.2]) true).run Tryz.prog v = .ok (.tuple #[.agg D, .bool si]) v := fun v hv => hD3 v hv.cm.hi
  have lko : ∀ v, CO [] m i o base rate li lo w.heap.size C.toArray w v → (Instr.lookup 239 (.map (some o)) (.agg #[.int .u32 b.k.1, .int .u64 b.k.2]) true).run Tryz.prog v = .ok (.tuple #[.agg F, .bool so]) v := fun v hv => hF3 v hv.cm.ho
  have pi : si = false → ∀ v v', CO [] m i o base rate li lo w.heap.size C.toArray w v → IM KK mkC v' i (putM li a.k C) → M.But i v v' → CO [i] m i o base rate (li ++ [(a.k, C)]) lo w.heap.size C.toArray w v' := fun hs v v' hv h1 h2 => by
    rw [none_of (by rw [hsi]; exact hs)] at h1
    exact hv.putI h1 h2
  have po : so = false → ∀ v v', CO [i] m i o base rate (li ++ [(a.k, C)]) lo w.heap.size C.toArray w v → IM KK kv v' o (putM lo b.k a.k) → M.But o v v' → CO [o, i] m i o base rate (li ++ [(a.k, C)]) (lo ++ [(b.k, a.k)]) w.heap.size C.toArray w v' := fun hs v v' hv h1 h2 => by
    rw [none_of (by rw [hso]; exact hs)] at h1
    exact hv.putO h1 h2
  have iD := info67 hD1; have iF := info61 hF1
  have zD : Z67.size = D.size := by rw [hD1]; rfl
  have zF : Z61.size = F.size := by rw [hF1]; rfl
  have iX := info67 hx.size
  obtain ⟨V, hV⟩ : ∃ V, w.alloc (.cells C.toArray 108) = V := ⟨_, rfl⟩
  obtain ⟨n, hn⟩ : ∃ n, w.heap.size = n := ⟨_, rfl⟩
  have hle : decide ((64 : Int) ≤ ((li.length : Nat) : Int)) = false := by simp; omega
  have HV := Lib.hid hV; have HN := Lib.hid hn; have HL := Lib.hid hle
  rw [hV] at ck z0 z1 z2 z3 z4 z5 z6 z7
  rw [hV] at c0
  rw [hn] at c0 z0 z1 z2 z3 z4 z5 z6 z7 fa lki lko pi po
  have CK := Lib.hid ck; have C0 := Lib.hid c0; have FA := Lib.hid fa; have LKI := Lib.hid lki; have LKO := Lib.hid lko; have PI := Lib.hid pi; have PO := Lib.hid po; have KA := Lib.hid ka; have KB := Lib.hid kb
  have fin : ∀ v, CO [] m i o base rate li lo n C.toArray w v → Below w.heap.size w v := fun v hv => hv.bt.toBelow
  have fin2 : ∀ v, CO [o, i] m i o base rate (li ++ [(a.k, C)]) (lo ++ [(b.k, a.k)]) n C.toArray w v → Bt [i, o] w v := fun v hv => ⟨hv.bt.os, hv.bt.tape, hv.bt.output, hv.bt.size, fun k hk hks => hv.bt.block k hk (fun e => hks (by simp at e ⊢; exact e.symm))⟩
  have FIN := Lib.hid fin; have FIN2 := Lib.hid fin2
  generalize hXC : C.toArray = X at *
  have HXC := Lib.hid hXC
  obtain ⟨⟨k0, ki⟩, aa, ae⟩ := a
  obtain ⟨⟨k1, kj⟩, ba, be⟩ := b
  simp only [Lg.cells] at CK
  simp only at *
  clear h hV hn ha hbo hb hr hx he ck c0 fa lki lko pi po ka kb fin fin2 hD1 hF1 hle hlen hli hsi hso hXC hD3 hF3
  go_enter Tryz.func47, Tryz.ntmps47
  go_wp2_with (rw [HN.out]; simp only [HV.out])
  go_wp2_with fail
  refine (CK.out).mono ?_
  rintro e w1 ⟨rfl, q1⟩
  have c1 := C0.out.same q1
  clear z0 z1 z2 z3 z4 z5 z6 z7 q1
  go_wp2
  refine QA.wp_region_a 11 12 (fun v => CO [] m i o base rate li lo n X w v) (fun g v => CG [] m i o base rate li lo n X w 108 Z67 g v) (fun g v => CG [] m i o base rate li lo n X w 108 D g v) (by kernel_rfl) (by kernel_rfl) c1.drew ?_
  iterate 11
    (refine QA.wpA_step (by decide) (fun K hK => ?_)
     go_simp
     first
       | (refine hK _ ?_; clear hK K)
       | (refine ⟨?_, hK _ ?_⟩; decide; clear hK K)
       | ((first | (apply Exists.intro; refine ⟨?_, hK _ ?_⟩) | refine ⟨⟨undef, ?_⟩, hK _ ?_⟩)
          first
            | (apply QA.al_p; decide; (focus (intro gx wq hS hq; (cases hS); (first | (have qq := FA.out _ _ _ _ hq; obtain ⟨x0, x1, x2, x3, x4, x5⟩ := qq; have lk := LKI.out _ hq) | (have qq := FA.out _ _ _ _ hq.co; obtain ⟨x0, x1, x2, x3, x4, x5⟩ := qq; have lk := LKI.out _ hq.co) | skip); (unfold QP.oat; go_simp; first | done | exact ⟨by assumption, rfl⟩ | exact rfl | assumption | (fail)))))
            | (apply QA.al_o; decide; (first | (apply Or.inl; decide) | (apply Or.inr; (focus (intro wq hq; (first | (have qq := FA.out _ _ _ _ hq; obtain ⟨x0, x1, x2, x3, x4, x5⟩ := qq; have lk := LKI.out _ hq) | (have qq := FA.out _ _ _ _ hq.co; obtain ⟨x0, x1, x2, x3, x4, x5⟩ := qq; have lk := LKI.out _ hq.co) | skip); (unfold QP.oat; go_simp; first | done | exact ⟨by assumption, rfl⟩ | exact rfl | assumption | (fail)))))); (first | (apply Or.inl; decide) | (apply Or.inr; apply Or.inl; decide) | (apply Or.inr; apply Or.inr; (focus (intro gx wq hS hq; (cases hS); (first | (have qq := FA.out _ _ _ _ hq; obtain ⟨x0, x1, x2, x3, x4, x5⟩ := qq; have lk := LKI.out _ hq) | (have qq := FA.out _ _ _ _ hq.co; obtain ⟨x0, x1, x2, x3, x4, x5⟩ := qq; have lk := LKI.out _ hq.co) | skip); (unfold QP.oat; go_simp; first | done | exact ⟨by assumption, rfl⟩ | exact rfl | assumption | (fail)))))); (first | (apply Or.inl; decide) | (apply Or.inr; apply Or.inl; decide) | (apply Or.inr; apply Or.inr; (focus (intro gx wq hS hq; (cases hS); (first | (have qq := FA.out _ _ _ _ hq; obtain ⟨x0, x1, x2, x3, x4, x5⟩ := qq; have lk := LKI.out _ hq) | (have qq := FA.out _ _ _ _ hq.co; obtain ⟨x0, x1, x2, x3, x4, x5⟩ := qq; have lk := LKI.out _ hq.co) | skip); (unfold QP.oat; go_simp; first | done | exact ⟨by assumption, rfl⟩ | exact rfl | assumption | (fail)))))))
          clear hK K))
  refine QA.wpA_alloc (by decide) rfl ?_ ?_
  · intro g _ wq hq hsz
    unfold QP.oat
    go_simp
    exact CG.of hq hsz 108 Z67
  intro gn _
  iterate 1
    (refine QA.wpA_step (by decide) (fun K hK => ?_)
     go_simp
     first
       | (refine hK _ ?_; clear hK K)
       | (refine ⟨?_, hK _ ?_⟩; decide; clear hK K)
       | ((first | (apply Exists.intro; refine ⟨?_, hK _ ?_⟩) | refine ⟨⟨undef, ?_⟩, hK _ ?_⟩)
          first
            | (apply QA.al_p; decide; (focus (intro gx wq hS hq; (cases hS); (have hqr := hq.rowE); first | (((with_reducible refine QP.oat_store_row (ty := 108) (x := .tmp 6) (y := .tmp 28) (g := _) (cells := D) (t := 108) (old := Z67) ?_ ?_ ?_ hqr iD zD hD2 (hq.set D)); rfl; rfl; rfl)) | (unfold QP.oat; go_simp; first | done | exact ⟨by assumption, rfl⟩ | exact rfl | assumption | (fail)))))
            | (apply QA.al_o; decide; (first | (apply Or.inl; decide) | (apply Or.inr; (focus (intro wq hq; (have hqr := hq.rowE); first | (((with_reducible refine QP.oat_store_row (ty := 108) (x := .tmp 6) (y := .tmp 28) (g := _) (cells := D) (t := 108) (old := Z67) ?_ ?_ ?_ hqr iD zD hD2 (hq.set D)); rfl; rfl; rfl)) | (unfold QP.oat; go_simp; first | done | exact ⟨by assumption, rfl⟩ | exact rfl | assumption | (fail)))))); (first | (apply Or.inl; decide) | (apply Or.inr; apply Or.inl; decide) | (apply Or.inr; apply Or.inr; (focus (intro gx wq hS hq; (cases hS); (have hqr := hq.rowE); first | (((with_reducible refine QP.oat_store_row (ty := 108) (x := .tmp 6) (y := .tmp 28) (g := _) (cells := D) (t := 108) (old := Z67) ?_ ?_ ?_ hqr iD zD hD2 (hq.set D)); rfl; rfl; rfl)) | (unfold QP.oat; go_simp; first | done | exact ⟨by assumption, rfl⟩ | exact rfl | assumption | (fail)))))); (first | (apply Or.inl; decide) | (apply Or.inr; apply Or.inl; decide) | (apply Or.inr; apply Or.inr; (focus (intro gx wq hS hq; (cases hS); (have hqr := hq.rowE); first | (((with_reducible refine QP.oat_store_row (ty := 108) (x := .tmp 6) (y := .tmp 28) (g := _) (cells := D) (t := 108) (old := Z67) ?_ ?_ ?_ hqr iD zD hD2 (hq.set D)); rfl; rfl; rfl)) | (unfold QP.oat; go_simp; first | done | exact ⟨by assumption, rfl⟩ | exact rfl | assumption | (fail)))))))
          clear hK K))
  iterate 1
    (refine QA.wpA_step (by decide) (fun K hK => ?_)
     go_simp
     first
       | (refine hK _ ?_; clear hK K)
       | (refine ⟨?_, hK _ ?_⟩; decide; clear hK K)
       | ((first | (apply Exists.intro; refine ⟨?_, hK _ ?_⟩) | refine ⟨⟨undef, ?_⟩, hK _ ?_⟩)
          first
            | (apply QA.al_p; decide; (focus (intro gx wq hS hq; (cases hS); (skip); (unfold QP.oat; go_simp; first | done | exact ⟨by assumption, rfl⟩ | exact rfl | assumption | (fail)))))
            | (apply QA.al_o; decide; (first | (apply Or.inl; decide) | (apply Or.inr; (focus (intro wq hq; (skip); (unfold QP.oat; go_simp; first | done | exact ⟨by assumption, rfl⟩ | exact rfl | assumption | (fail)))))); (first | (apply Or.inl; decide) | (apply Or.inr; apply Or.inl; decide) | (apply Or.inr; apply Or.inr; (focus (intro gx wq hS hq; (cases hS); (skip); (unfold QP.oat; go_simp; first | done | exact ⟨by assumption, rfl⟩ | exact rfl | assumption | (fail)))))); (first | (apply Or.inl; decide) | (apply Or.inr; apply Or.inl; decide) | (apply Or.inr; apply Or.inr; (focus (intro gx wq hS hq; (cases hS); (skip); (unfold QP.oat; go_simp; first | done | exact ⟨by assumption, rfl⟩ | exact rfl | assumption | (fail)))))))
          clear hK K))
  refine QA.wpA_nil ?_
  rintro g2 rfl wz bz
  have c2 := bz.co
  clear bz c1
  go_wp2
  refine QA.wp_region_a 11 12 (fun v => CO [] m i o base rate li lo n X w v) (fun g v => CG [] m i o base rate li lo n X w 103 Z61 g v) (fun g v => CG [] m i o base rate li lo n X w 103 F g v) (by kernel_rfl) (by kernel_rfl) c2.drew ?_
  iterate 11
    (refine QA.wpA_step (by decide) (fun K hK => ?_)
     go_simp
     first
       | (refine hK _ ?_; clear hK K)
       | (refine ⟨?_, hK _ ?_⟩; decide; clear hK K)
       | ((first | (apply Exists.intro; refine ⟨?_, hK _ ?_⟩) | refine ⟨⟨undef, ?_⟩, hK _ ?_⟩)
          first
            | (apply QA.al_p; decide; (focus (intro gx wq hS hq; (cases hS); (first | (have qq := FA.out _ _ _ _ hq; obtain ⟨x0, x1, x2, x3, x4, x5⟩ := qq; have lk := LKO.out _ hq) | (have qq := FA.out _ _ _ _ hq.co; obtain ⟨x0, x1, x2, x3, x4, x5⟩ := qq; have lk := LKO.out _ hq.co) | skip); (unfold QP.oat; go_simp; first | done | exact ⟨by assumption, rfl⟩ | exact rfl | assumption | (fail)))))
            | (apply QA.al_o; decide; (first | (apply Or.inl; decide) | (apply Or.inr; (focus (intro wq hq; (first | (have qq := FA.out _ _ _ _ hq; obtain ⟨x0, x1, x2, x3, x4, x5⟩ := qq; have lk := LKO.out _ hq) | (have qq := FA.out _ _ _ _ hq.co; obtain ⟨x0, x1, x2, x3, x4, x5⟩ := qq; have lk := LKO.out _ hq.co) | skip); (unfold QP.oat; go_simp; first | done | exact ⟨by assumption, rfl⟩ | exact rfl | assumption | (fail)))))); (first | (apply Or.inl; decide) | (apply Or.inr; apply Or.inl; decide) | (apply Or.inr; apply Or.inr; (focus (intro gx wq hS hq; (cases hS); (first | (have qq := FA.out _ _ _ _ hq; obtain ⟨x0, x1, x2, x3, x4, x5⟩ := qq; have lk := LKO.out _ hq) | (have qq := FA.out _ _ _ _ hq.co; obtain ⟨x0, x1, x2, x3, x4, x5⟩ := qq; have lk := LKO.out _ hq.co) | skip); (unfold QP.oat; go_simp; first | done | exact ⟨by assumption, rfl⟩ | exact rfl | assumption | (fail)))))); (first | (apply Or.inl; decide) | (apply Or.inr; apply Or.inl; decide) | (apply Or.inr; apply Or.inr; (focus (intro gx wq hS hq; (cases hS); (first | (have qq := FA.out _ _ _ _ hq; obtain ⟨x0, x1, x2, x3, x4, x5⟩ := qq; have lk := LKO.out _ hq) | (have qq := FA.out _ _ _ _ hq.co; obtain ⟨x0, x1, x2, x3, x4, x5⟩ := qq; have lk := LKO.out _ hq.co) | skip); (unfold QP.oat; go_simp; first | done | exact ⟨by assumption, rfl⟩ | exact rfl | assumption | (fail)))))))
          clear hK K))
  refine QA.wpA_alloc (by decide) rfl ?_ ?_
  · intro g _ wq hq hsz
    unfold QP.oat
    go_simp
    exact CG.of hq hsz 103 Z61
  intro gn2 _
  iterate 1
    (refine QA.wpA_step (by decide) (fun K hK => ?_)
     go_simp
     first
       | (refine hK _ ?_; clear hK K)
       | (refine ⟨?_, hK _ ?_⟩; decide; clear hK K)
       | ((first | (apply Exists.intro; refine ⟨?_, hK _ ?_⟩) | refine ⟨⟨undef, ?_⟩, hK _ ?_⟩)
          first
            | (apply QA.al_p; decide; (focus (intro gx wq hS hq; (cases hS); (have hqr := hq.rowE); first | (((with_reducible refine QP.oat_store_row (ty := 103) (x := .tmp 8) (y := .tmp 39) (g := _) (cells := F) (t := 103) (old := Z61) ?_ ?_ ?_ hqr iF zF hF2 (hq.set F)); rfl; rfl; rfl)) | (unfold QP.oat; go_simp; first | done | exact ⟨by assumption, rfl⟩ | exact rfl | assumption | (fail)))))
            | (apply QA.al_o; decide; (first | (apply Or.inl; decide) | (apply Or.inr; (focus (intro wq hq; (have hqr := hq.rowE); first | (((with_reducible refine QP.oat_store_row (ty := 103) (x := .tmp 8) (y := .tmp 39) (g := _) (cells := F) (t := 103) (old := Z61) ?_ ?_ ?_ hqr iF zF hF2 (hq.set F)); rfl; rfl; rfl)) | (unfold QP.oat; go_simp; first | done | exact ⟨by assumption, rfl⟩ | exact rfl | assumption | (fail)))))); (first | (apply Or.inl; decide) | (apply Or.inr; apply Or.inl; decide) | (apply Or.inr; apply Or.inr; (focus (intro gx wq hS hq; (cases hS); (have hqr := hq.rowE); first | (((with_reducible refine QP.oat_store_row (ty := 103) (x := .tmp 8) (y := .tmp 39) (g := _) (cells := F) (t := 103) (old := Z61) ?_ ?_ ?_ hqr iF zF hF2 (hq.set F)); rfl; rfl; rfl)) | (unfold QP.oat; go_simp; first | done | exact ⟨by assumption, rfl⟩ | exact rfl | assumption | (fail)))))); (first | (apply Or.inl; decide) | (apply Or.inr; apply Or.inl; decide) | (apply Or.inr; apply Or.inr; (focus (intro gx wq hS hq; (cases hS); (have hqr := hq.rowE); first | (((with_reducible refine QP.oat_store_row (ty := 103) (x := .tmp 8) (y := .tmp 39) (g := _) (cells := F) (t := 103) (old := Z61) ?_ ?_ ?_ hqr iF zF hF2 (hq.set F)); rfl; rfl; rfl)) | (unfold QP.oat; go_simp; first | done | exact ⟨by assumption, rfl⟩ | exact rfl | assumption | (fail)))))))
          clear hK K))
  iterate 1
    (refine QA.wpA_step (by decide) (fun K hK => ?_)
     go_simp
     first
       | (refine hK _ ?_; clear hK K)
       | (refine ⟨?_, hK _ ?_⟩; decide; clear hK K)
       | ((first | (apply Exists.intro; refine ⟨?_, hK _ ?_⟩) | refine ⟨⟨undef, ?_⟩, hK _ ?_⟩)
          first
            | (apply QA.al_p; decide; (focus (intro gx wq hS hq; (cases hS); (skip); (unfold QP.oat; go_simp; first | done | exact ⟨by assumption, rfl⟩ | exact rfl | assumption | (fail)))))
            | (apply QA.al_o; decide; (first | (apply Or.inl; decide) | (apply Or.inr; (focus (intro wq hq; (skip); (unfold QP.oat; go_simp; first | done | exact ⟨by assumption, rfl⟩ | exact rfl | assumption | (fail)))))); (first | (apply Or.inl; decide) | (apply Or.inr; apply Or.inl; decide) | (apply Or.inr; apply Or.inr; (focus (intro gx wq hS hq; (cases hS); (skip); (unfold QP.oat; go_simp; first | done | exact ⟨by assumption, rfl⟩ | exact rfl | assumption | (fail)))))); (first | (apply Or.inl; decide) | (apply Or.inr; apply Or.inl; decide) | (apply Or.inr; apply Or.inr; (focus (intro gx wq hS hq; (cases hS); (skip); (unfold QP.oat; go_simp; first | done | exact ⟨by assumption, rfl⟩ | exact rfl | assumption | (fail)))))))
          clear hK K))
  refine QA.wpA_nil ?_
  rintro g3 rfl wz2 bz
  have c3 := bz.co
  clear bz c2
  have yes : si = true ∨ so = true → Opn m i o base rate li lo ⟨(k0, ki), aa, ae⟩ ⟨(k1, kj), ba, be⟩ C si so w (.returned (.int .i64 4)) wz2 := fun hh => ⟨fun _ => ⟨rfl, FIN.out _ c3⟩, fun h1 h2 => by rcases hh with hh | hh <;> (first | (rw [h1] at hh; cases hh) | (rw [h2] at hh; cases hh))⟩
  have no : ∀ v, CO [o, i] m i o base rate (li ++ [((k0, ki), C)]) (lo ++ [((k1, kj), (k0, ki))]) n X w v → si = false → so = false → Opn m i o base rate li lo ⟨(k0, ki), aa, ae⟩ ⟨(k1, kj), ba, be⟩ C si so w (.returned (.int .i64 0)) v := fun v hv h1 h2 => ⟨fun hh => by rcases hh with hh | hh <;> (first | (rw [h1] at hh; cases hh) | (rw [h2] at hh; cases hh)), fun _ _ => ⟨rfl, hv.cm, FIN2.out _ hv⟩⟩
  have YES := Lib.hid yes; have NO := Lib.hid no
  clear yes no
  cases si
  · cases so
    · obtain ⟨_, _, y0, _⟩ := c3.cm.c
      have y1 := (FA.out _ _ _ _ c3).1
      have hle := HL.out
      go_wp2_with (at_len; refine wpList_len_im rfl _ 238 108 rfl Tryz.underlying238 c3.cm.hi ?a1 ?_)
      go_wp2
      clear hle
      refine QT.wp_region_p 8 (fun v => CO [] m i o base rate li lo n X w v) (fun v => CO [i] m i o base rate (li ++ [((k0, ki), C)]) lo n X w v) (by kernel_rfl) (by kernel_rfl) c3.drew ?_
      iterate 9
        (refine QT.wpQ_step (fun K hK => ?_)
         go_simp
         first
           | (refine hK _ ?_; clear hK K)
           | (refine ⟨?_, hK _ ?_⟩; decide; clear hK K)
           | ((first | (apply Exists.intro; refine ⟨?_, hK _ ?_⟩) | refine ⟨⟨undef, ?_⟩, hK _ ?_⟩)
              first
                | (apply QT.al_p; decide; (focus (intro wq hq; (have qq := FA.out _ _ _ _ hq; obtain ⟨x0, x1, x2, x3, x4, x5⟩ := qq; have hqr := hq.rowE; have him := hq.cm.hi; have pi := PI.out (by first | rfl | trivial) wq); first | (first | ((with_reducible refine QP.oat_load_row (ty := 108) (x := .tmp 3) (g := n) (t := 108) (cs := X) (fr := (0, 0)) ?_ ?_ _ hqr Tryz.underlying108 ?_ iX hq); rfl; rfl; rfl) | ((with_reducible refine oat_mapUpdate (m := .tmp 56) (x := .tmp 59) (v := .tmp 60) (t := 238) (e := 108) ?_ (k0, ki) C ?_ ?_ ?_ Tryz.underlying238 him KA.out (fun w' h1 h2 => pi w' hq h1 h2)); rfl; rfl; rfl; (rw [← HXC.out]; rfl))) | (unfold QP.oat; go_simp; first | done | exact ⟨by assumption, rfl⟩ | exact rfl | assumption | (fail)))))
                | (apply QT.al_dep; decide; decide; (focus (intro wq hq; (have qq := FA.out _ _ _ _ hq; obtain ⟨x0, x1, x2, x3, x4, x5⟩ := qq; have hqr := hq.rowE; have him := hq.cm.hi; have pi := PI.out (by first | rfl | trivial) wq); first | (first | ((with_reducible refine QP.oat_load_row (ty := 108) (x := .tmp 3) (g := n) (t := 108) (cs := X) (fr := (0, 0)) ?_ ?_ _ hqr Tryz.underlying108 ?_ iX hq); rfl; rfl; rfl) | ((with_reducible refine oat_mapUpdate (m := .tmp 56) (x := .tmp 59) (v := .tmp 60) (t := 238) (e := 108) ?_ (k0, ki) C ?_ ?_ ?_ Tryz.underlying238 him KA.out (fun w' h1 h2 => pi w' hq h1 h2)); rfl; rfl; rfl; (rw [← HXC.out]; rfl))) | (unfold QP.oat; go_simp; first | done | exact ⟨by assumption, rfl⟩ | exact rfl | assumption | (fail)))))
                | (apply QT.al_bef; decide; decide; (focus (intro wq hq; (have qq := FA.out _ _ _ _ hq; obtain ⟨x0, x1, x2, x3, x4, x5⟩ := qq; have hqr := hq.rowE; have him := hq.cm.hi; have pi := PI.out (by first | rfl | trivial) wq); first | (first | ((with_reducible refine QP.oat_load_row (ty := 108) (x := .tmp 3) (g := n) (t := 108) (cs := X) (fr := (0, 0)) ?_ ?_ _ hqr Tryz.underlying108 ?_ iX hq); rfl; rfl; rfl) | ((with_reducible refine oat_mapUpdate (m := .tmp 56) (x := .tmp 59) (v := .tmp 60) (t := 238) (e := 108) ?_ (k0, ki) C ?_ ?_ ?_ Tryz.underlying238 him KA.out (fun w' h1 h2 => pi w' hq h1 h2)); rfl; rfl; rfl; (rw [← HXC.out]; rfl))) | (unfold QP.oat; go_simp; first | done | exact ⟨by assumption, rfl⟩ | exact rfl | assumption | (fail)))))
                | (apply QT.al_ok; decide; (focus (intro wq hq; (have qq := FA.out _ _ _ _ hq; obtain ⟨x0, x1, x2, x3, x4, x5⟩ := qq; have hqr := hq.rowE; have him := hq.cm.hi; have pi := PI.out (by first | rfl | trivial) wq); first | (first | ((with_reducible refine QP.oat_load_row (ty := 108) (x := .tmp 3) (g := n) (t := 108) (cs := X) (fr := (0, 0)) ?_ ?_ _ hqr Tryz.underlying108 ?_ iX hq); rfl; rfl; rfl) | ((with_reducible refine oat_mapUpdate (m := .tmp 56) (x := .tmp 59) (v := .tmp 60) (t := 238) (e := 108) ?_ (k0, ki) C ?_ ?_ ?_ Tryz.underlying238 him KA.out (fun w' h1 h2 => pi w' hq h1 h2)); rfl; rfl; rfl; (rw [← HXC.out]; rfl))) | (unfold QP.oat; go_simp; first | done | exact ⟨by assumption, rfl⟩ | exact rfl | assumption | (fail)))); (focus (intro wq hq; (have qq := FA.out _ _ _ _ hq; obtain ⟨x0, x1, x2, x3, x4, x5⟩ := qq; have hqr := hq.rowE; have him := hq.cm.hi; have pi := PI.out (by first | rfl | trivial) wq); first | (first | ((with_reducible refine QP.oat_load_row (ty := 108) (x := .tmp 3) (g := n) (t := 108) (cs := X) (fr := (0, 0)) ?_ ?_ _ hqr Tryz.underlying108 ?_ iX hq); rfl; rfl; rfl) | ((with_reducible refine oat_mapUpdate (m := .tmp 56) (x := .tmp 59) (v := .tmp 60) (t := 238) (e := 108) ?_ (k0, ki) C ?_ ?_ ?_ Tryz.underlying238 him KA.out (fun w' h1 h2 => pi w' hq h1 h2)); rfl; rfl; rfl; (rw [← HXC.out]; rfl))) | (unfold QP.oat; go_simp; first | done | exact ⟨by assumption, rfl⟩ | exact rfl | assumption | (fail)))))
              clear hK K))
      refine QT.wpQ_nil ?_
      intro wz3 c4
      clear c3
      go_wp2
      refine QT.wp_region_p 10 (fun v => CO [i] m i o base rate (li ++ [((k0, ki), C)]) lo n X w v) (fun v => CO [o, i] m i o base rate (li ++ [((k0, ki), C)]) (lo ++ [((k1, kj), (k0, ki))]) n X w v) (by kernel_rfl) (by kernel_rfl) c4.drew ?_
      iterate 11
        (refine QT.wpQ_step (fun K hK => ?_)
         go_simp
         first
           | (refine hK _ ?_; clear hK K)
           | (refine ⟨?_, hK _ ?_⟩; decide; clear hK K)
           | ((first | (apply Exists.intro; refine ⟨?_, hK _ ?_⟩) | refine ⟨⟨undef, ?_⟩, hK _ ?_⟩)
              first
                | (apply QT.al_p; decide; (focus (intro wq hq; (have qq := FA.out _ _ _ _ hq; obtain ⟨x0, x1, x2, x3, x4, x5⟩ := qq; have him := hq.cm.ho; have po := PO.out (by first | rfl | trivial) wq); first | (((with_reducible refine oat_mapUpdate (m := .tmp 64) (x := .tmp 67) (v := .tmp 70) (t := 239) (e := 103) ?_ (k1, kj) (k0, ki) ?_ ?_ ?_ Tryz.underlying239 him KB.out (fun w' h1 h2 => po w' hq h1 h2)); rfl; rfl; rfl; rfl)) | (unfold QP.oat; go_simp; first | done | exact ⟨by assumption, rfl⟩ | exact rfl | assumption | (fail)))))
                | (apply QT.al_dep; decide; decide; (focus (intro wq hq; (have qq := FA.out _ _ _ _ hq; obtain ⟨x0, x1, x2, x3, x4, x5⟩ := qq; have him := hq.cm.ho; have po := PO.out (by first | rfl | trivial) wq); first | (((with_reducible refine oat_mapUpdate (m := .tmp 64) (x := .tmp 67) (v := .tmp 70) (t := 239) (e := 103) ?_ (k1, kj) (k0, ki) ?_ ?_ ?_ Tryz.underlying239 him KB.out (fun w' h1 h2 => po w' hq h1 h2)); rfl; rfl; rfl; rfl)) | (unfold QP.oat; go_simp; first | done | exact ⟨by assumption, rfl⟩ | exact rfl | assumption | (fail)))))
                | (apply QT.al_bef; decide; decide; (focus (intro wq hq; (have qq := FA.out _ _ _ _ hq; obtain ⟨x0, x1, x2, x3, x4, x5⟩ := qq; have him := hq.cm.ho; have po := PO.out (by first | rfl | trivial) wq); first | (((with_reducible refine oat_mapUpdate (m := .tmp 64) (x := .tmp 67) (v := .tmp 70) (t := 239) (e := 103) ?_ (k1, kj) (k0, ki) ?_ ?_ ?_ Tryz.underlying239 him KB.out (fun w' h1 h2 => po w' hq h1 h2)); rfl; rfl; rfl; rfl)) | (unfold QP.oat; go_simp; first | done | exact ⟨by assumption, rfl⟩ | exact rfl | assumption | (fail)))))
                | (apply QT.al_ok; decide; (focus (intro wq hq; (have qq := FA.out _ _ _ _ hq; obtain ⟨x0, x1, x2, x3, x4, x5⟩ := qq; have him := hq.cm.ho; have po := PO.out (by first | rfl | trivial) wq); first | (((with_reducible refine oat_mapUpdate (m := .tmp 64) (x := .tmp 67) (v := .tmp 70) (t := 239) (e := 103) ?_ (k1, kj) (k0, ki) ?_ ?_ ?_ Tryz.underlying239 him KB.out (fun w' h1 h2 => po w' hq h1 h2)); rfl; rfl; rfl; rfl)) | (unfold QP.oat; go_simp; first | done | exact ⟨by assumption, rfl⟩ | exact rfl | assumption | (fail)))); (focus (intro wq hq; (have qq := FA.out _ _ _ _ hq; obtain ⟨x0, x1, x2, x3, x4, x5⟩ := qq; have him := hq.cm.ho; have po := PO.out (by first | rfl | trivial) wq); first | (((with_reducible refine oat_mapUpdate (m := .tmp 64) (x := .tmp 67) (v := .tmp 70) (t := 239) (e := 103) ?_ (k1, kj) (k0, ki) ?_ ?_ ?_ Tryz.underlying239 him KB.out (fun w' h1 h2 => po w' hq h1 h2)); rfl; rfl; rfl; rfl)) | (unfold QP.oat; go_simp; first | done | exact ⟨by assumption, rfl⟩ | exact rfl | assumption | (fail)))))
              clear hK K))
      refine QT.wpQ_nil ?_
      intro wz4 c5
      clear c4
      go_wp2
      go_ret
      exact NO.out _ c5 (by first | rfl | trivial) (by first | rfl | trivial)
    · go_wp2
      go_ret
      exact YES.out (.inr trivial)
  · cases so
    · go_wp2
      go_ret
      exact YES.out (.inl trivial)
    · go_wp2
      go_ret
      exact YES.out (.inl trivial)
end Go.Proofs.YtdebnbgjgkbmaaaGreatDoor.Pu
-- fixed
namespace Go.Proofs.YtdebnbgjgkbmaaaGreatDoor.Pu
open Go.RowKit
set_option linter.unusedVariables false
/-- the circuit map after k rounds -/
structure FI (n m i o : Nat) (base rate : Int) (k : Nat) (li : List (Ky × List Value)) (lo : List (Ky × Ky)) (w v : World) : Prop where
  cm : Cm m i o base rate li lo v
  len : li.length = k
  wd : ∀ p ∈ li, Wd p.2
  ki : ∀ p ∈ li, p.1.1 < k
  ko : ∀ p ∈ lo, p.1.1 < k + 1
  bel : Below n w v
  le : n ≤ m ∧ n ≤ i ∧ n ≤ o
  size : n ≤ v.heap.size
section
variable {n m i o : Nat} {base rate : Int} {k : Nat} {li : List (Ky × List Value)} {lo : List (Ky × Ky)} {w v v' : World}
theorem FI.same (h : FI n m i o base rate k li lo w v) (hb : Below v.heap.size v v') : FI n m i o base rate k li lo w v' :=
  ⟨h.cm.same hb, h.len, h.wd, h.ki, h.ko, h.bel.trans (hb.mono h.size), h.le, Nat.le_trans h.size hb.size⟩
theorem FI.alloc (h : FI n m i o base rate k li lo w v) (ob : Obj) : FI n m i o base rate k li lo w (v.alloc ob) := h.same ((Below.refl _ _).alloc (Nat.le_refl _) ob)
theorem FI.in_none (h : FI n m i o base rate k li lo w v) : (getM li ((k : Int), 0)).isSome = false := by
  cases hg : getM li ((k : Int), 0) with
  | none => rfl
  | some C => have := h.ki _ (getM_mem hg); simp at this
theorem FI.out_none (h : FI n m i o base rate k li lo w v) : (getM lo ((k : Int) + 1, 0)).isSome = false := by
  cases hg : getM lo ((k : Int) + 1, 0) with
  | none => rfl
  | some C => have := h.ko _ (getM_mem hg); simp at this
theorem FI.next (h : FI n m i o base rate k li lo w v) {C : List Value} (hC : Wd C) (hc : Cm m i o base rate (li ++ [(((k : Int), 0), C)]) (lo ++ [(((k : Int) + 1, 0), ((k : Int), 0))]) v') (hb : Bt [i, o] v v') :
    FI n m i o base rate (k + 1) (li ++ [(((k : Int), 0), C)]) (lo ++ [(((k : Int) + 1, 0), ((k : Int), 0))]) w v' := by
  have hl := h.le
  refine ⟨hc, by simp [h.len], ?_, ?_, ?_, h.bel.trans ⟨hb.os, hb.tape, hb.output, hb.size, fun j hj => hb.block j (by have := h.size; omega) (by simp; omega)⟩, hl, Nat.le_trans h.size hb.size⟩
  · intro p hp
    rcases List.mem_append.1 hp with hp | hp
    · exact h.wd p hp
    · rw [List.mem_singleton.1 hp]; exact hC
  · intro p hp
    rcases List.mem_append.1 hp with hp | hp
    · have := h.ki p hp; push_cast; omega
    · rw [List.mem_singleton.1 hp]; show (k : Int) < _; push_cast; omega
  · intro p hp
    rcases List.mem_append.1 hp with hp | hp
    · have := h.ko p hp; push_cast; omega
    · rw [List.mem_singleton.1 hp]; show (k : Int) + 1 < _; push_cast; omega
end
/-- the legs of round k, and their cells -/
def lgI (k : Nat) (x : Int) : Lg := ⟨((k : Int), 0), x, 1000 - 6 * k⟩
def lgO (k : Nat) (y : Int) : Lg := ⟨((k : Int) + 1, 0), y, 1000 - 6 * k - 6⟩
theorem lgI_ok {k : Nat} {x : Int} (hk : k < 8) (hx : U64 x) : (lgI k x).ok := ⟨⟨⟨by show (0 : Int) ≤ k; omega, by show (k : Int) ≤ _; omega⟩, by show (0 : Int) ≤ 0; decide, by show (0 : Int) ≤ _; decide⟩, hx.lo, hx.hi, by show _ ≤ (1000 - 6 * (k : Int)); omega, by show (1000 - 6 * (k : Int)) ≤ _; omega⟩
theorem lgO_ok {k : Nat} {x : Int} (hk : k < 8) (hx : U64 x) : (lgO k x).ok := ⟨⟨⟨by show (0 : Int) ≤ (k : Int) + 1; omega, by show (k : Int) + 1 ≤ _; omega⟩, by show (0 : Int) ≤ 0; decide, by show (0 : Int) ≤ _; decide⟩, hx.lo, hx.hi, by show _ ≤ (1000 - 6 * (k : Int) - 6); omega, by show (1000 - 6 * (k : Int) - 6) ≤ _; omega⟩
def cirC (a b : Lg) : List Value := a.cells ++ b.cells ++ [.int .u8 0, .int .u8 0, .int .u8 0, .int .u8 0, .int .u8 0, .int .u8 0, .int .u8 0, .int .u8 0, .int .u8 0, .int .u8 0, .int .u8 0, .int .u8 0, .int .u8 0, .int .u8 0, .int .u8 0, .int .u8 0, .int .u8 0, .int .u8 0, .int .u8 0, .int .u8 0, .int .u8 0, .int .u8 0, .int .u8 0, .int .u8 0, .int .u8 0, .int .u8 0, .int .u8 0, .int .u8 0, .int .u8 0, .int .u8 0, .int .u8 0, .int .u8 0]
theorem cirC_ok (a b : Lg) : Cells (cirC a b).toArray a b := ⟨rfl, by simp [cirC, Lg.cells, Value.oneCell'], rfl, rfl, rfl, rfl, rfl, rfl, rfl, rfl⟩
theorem ck_zero {base rate x : Int} (k : Nat) : ckE base rate (lgI k x) (lgO k 0) = 1 := by
  unfold ckE; rw [if_pos (.inr (.inl rfl))]
theorem ck_good {base rate x y : Int} {k : Nat} (hk : k < 8) (hy : 0 < y) (hxy : y ≤ x) (he : Am.enough x y base rate = true) : ckE base rate (lgI k x) (lgO k y) = 0 := by
  unfold ckE
  rw [if_neg, if_neg, if_neg]
  · show ¬ (1000 - 6 * (k : Int) - 6 ≤ 0 ∨ 1000 - 6 * (k : Int) < 6 ∨ IntKind.i64.wrap (1000 - 6 * (k : Int) - 6) < 1000 - 6 * (k : Int) - 6)
    rw [IntKind.wrap_i64]; omega
  · show ¬ Am.enough x y base rate = false
    rw [he]; simp
  · show ¬ (x = 0 ∨ y = 0 ∨ (k : Int) = (k : Int) + 1)
    omega
end Go.Proofs.YtdebnbgjgkbmaaaGreatDoor.Pu
namespace Go.Proofs.YtdebnbgjgkbmaaaGreatDoor.Pu
open Go.RowKit
set_option linter.unusedVariables false
set_option maxRecDepth 100000 in
set_option maxHeartbeats 8000000 in
theorem fees_walk (inn base rate : Int) (hp : Nat) (w : World) (hi : U64 inn) (hh : hp < 256) (b0 : 0 ≤ base) (b1 : base ≤ 65535) (r0 : 0 ≤ rate) (r1 : rate ≤ 65535) (sh : ∀ v, Below w.heap.size w v → Calls Tryz.prog 17 #[] v fun e w' => e = .returned (.bool true) ∧ Below v.heap.size v w') :
    Calls Tryz.prog 9 #[.int .u64 inn, .int .u8 (hp : Nat), .int .u16 base, .int .u16 rate] w fun e w' => e = .returned (.bool true) ∧ Below w.heap.size w w' := by
  have ub : U64 base := ⟨b0, by omega⟩
  have ur : U64 rate := ⟨r0, by omega⟩
  have wb : IntKind.u64.wrap base = base := by rw [IntKind.wrap_u64]; omega
  have wrt : IntKind.u64.wrap rate = rate := by rw [IntKind.wrap_u64]; omega
  obtain ⟨n, hn⟩ : ∃ n, w.heap.size = n := ⟨_, rfl⟩
  rw [hn] at sh
  have SH := Lib.hid sh
  have cn := fun v => cnew_any base rate v
  have CN := Lib.hid cn
  obtain ⟨K, hK⟩ : ∃ K, hp % 8 = K := ⟨_, rfl⟩
  have hK8 : K < 8 := by omega
  have e1 : (hp : Int) % 8 = (K : Int) := by omega
  have e2 : Int.tmod (hp : Int) 8 = (K : Int) := by rw [← hK]; rfl
  have wh : IntKind.i64.wrap (hp : Int) = hp := by rw [IntKind.wrap_i64]; omega
  obtain ⟨x0, hx0⟩ : ∃ x, inn % 1099511627776 = x := ⟨_, rfl⟩
  have hx : 0 ≤ x0 ∧ x0 ≤ 1099511627775 := by omega
  have f2 : Int.tmod inn 1099511627776 = x0 := by rw [Int.tmod_eq_emod_of_nonneg hi.lo, hx0]
  have f3 : IntKind.u64.wrap x0 = x0 := by rw [IntKind.wrap_u64]; omega
  clear sh cn b0 b1 r0 r1 hi hK
  go_enter Tryz.func9, Tryz.ntmps9
  go_wp2_with fail
  refine (CN.out _).mono ?_
  rintro e w1 ⟨m, i, o, rfl, cm0, g1, hm, hi, ho⟩
  rw [hn] at g1 hm hi ho
  have fi0 : FI n m i o base rate 0 [] [] w w1 := ⟨cm0, rfl, by simp, by simp, by simp, g1, ⟨hm, hi, ho⟩, by rw [← hn]; exact g1.size⟩
  clear cm0 g1
  go_wp2_with fail
  refine (SH.out _ fi0.bel).mono ?_
  rintro e w2 ⟨rfl, g2⟩
  have fi1 := fi0.same g2
  clear g2 fi0
  go_wp2
  go_loopg [10, 11, 12] K (fun g x e i' v => ∃ (k : Nat) (X : Int) (li : List (Ky × List Value)) (lo : List (Ky × Ky)), g + k = K ∧ i' = .int .i64 k ∧ x = .int .u64 X ∧ e = .int .i64 (1000 - 6 * (k : Int)) ∧ (0 ≤ X ∧ X ≤ 1099511627775) ∧ FI n m i o base rate k li lo w v)
  case atStart => exact ⟨0, x0, [], [], by omega, rfl, rfl, rfl, hx, fi1⟩
  case round =>
    clear fi1 hx hx0 f2 f3
    obtain ⟨k, X, li, lo, hm, rfl, rfl, rfl, hX, fi⟩ := hrel
    have HM := Lib.hid hm
    by_cases hk : k < K
    · have uX : U64 X := ⟨hX.1, by omega⟩
      have mo := fun v => most_any X base rate v uX ub ur
      have MO := Lib.hid mo
      have k1 : IntKind.u32.wrap (k : Int) = k := by rw [IntKind.wrap_u32]; omega
      have k2 : IntKind.i64.wrap ((k : Int) + 1) = (k : Int) + 1 := by rw [IntKind.wrap_i64]; omega
      have k3 : IntKind.u32.wrap ((k : Int) + 1) = (k : Int) + 1 := by rw [IntKind.wrap_u32]; omega
      have k4 : IntKind.i64.wrap (1000 - 6 * (k : Int) - 6) = 1000 - 6 * (k : Int) - 6 := by rw [IntKind.wrap_i64]; omega
      clear mo
      go_wp2_with fail
      refine (MO.out _).mono ?_
      rintro e w3 ⟨M, rfl, hM, g3⟩
      have fi3 := fi.same g3
      clear g3 fi
      have M0 := hM.lo
      have M1 := hM.hi
      by_cases hz : M = 0
      · subst hz
        have op := fun v (f : FI n m i o base rate k li lo w v) => open_err f.cm ub ur (lgI k X) (lgO k 0) (lgI_ok (by omega) uX) (lgO_ok (by omega) ⟨by decide, by decide⟩) _ (cirC_ok (lgI k X) (lgO k 0)) (by rw [ck_zero]; decide)
        rw [ck_zero] at op
        have OP := Lib.hid op
        clear op
        go_wp2_with fail
        have fi4 := (fi3.alloc (.cells #[.int .u32 (k : Int), .int .u64 0, .int .u64 X, .int .i64 (1000 - 6 * (k : Int))] 105)).alloc (.cells #[.int .u32 ((k : Int) + 1), .int .u64 0, .int .u64 0, .int .i64 (1000 - 6 * (k : Int) - 6)] 105)
        refine (OP.out _ fi4).mono ?_
        rintro e w4 ⟨rfl, g4⟩
        have fi5 := fi4.same g4
        clear g4 fi4 fi3
        go_wp2_with fail
        go_ret
        exact ⟨rfl, hn ▸ fi5.bel⟩
      · have hy := hM.yes.resolve_left hz
        have op := fun v (f : FI n m i o base rate k li lo w v) => open_ok f.cm ub ur (lgI k X) (lgO k M) (lgI_ok (by omega) uX) (lgO_ok (by omega) ⟨M0, by omega⟩) (cirC (lgI k X) (lgO k M)) (cirC_ok (lgI k X) (lgO k M)) (ck_good (by omega) (by omega) M1 hy) f.wd (by have := f.len; omega) false false f.in_none f.out_none
        have OP := Lib.hid op
        have dz : (M == 0) = false := by simpa using hz
        have uM : U64 M := ⟨M0, by omega⟩
        have fe := fun v => fee_any base rate M v ub ur uM
        have hy' := hy
        simp only [Am.enough, Bool.and_eq_true, decide_eq_true_eq] at hy'
        rw [feeF_small _ _ _ hy'.2] at fe
        obtain ⟨F, hF⟩ : ∃ F, base + M * rate / 1000000 = F := ⟨_, rfl⟩
        rw [hF] at fe hy'
        have FE := Lib.hid fe
        have rn := fun v => renough_any X (M + 1) base rate v uX ⟨by omega, by omega⟩ ub ur
        rw [hM.no (M + 1) (by omega)] at rn
        have RN := Lib.hid rn
        have wM : IntKind.u64.wrap (M + 1) = M + 1 := by rw [IntKind.wrap_u64]; omega
        have F0 : 0 ≤ F := by
          have : 0 ≤ M * rate := Int.mul_nonneg M0 ur.lo
          have := ub.lo
          omega
        have wF : IntKind.u64.wrap (M + F) = M + F := by rw [IntKind.wrap_u64]; omega
        have dF : decide (X < M + F) = false := by simp; omega
        clear op fe rn hF
        go_wp2_with fail
        have fi4 := (fi3.alloc (.cells #[.int .u32 (k : Int), .int .u64 0, .int .u64 X, .int .i64 (1000 - 6 * (k : Int))] 105)).alloc (.cells #[.int .u32 ((k : Int) + 1), .int .u64 0, .int .u64 M, .int .i64 (1000 - 6 * (k : Int) - 6)] 105)
        refine (OP.out _ fi4).mono ?_
        rintro e w4 ⟨_, hop⟩
        obtain ⟨rfl, cm5, bt5⟩ := hop rfl rfl
        have fi5 := fi4.next (cirC_ok (lgI k X) (lgO k M)).wd cm5 bt5
        clear cm5 bt5 fi4 fi3 hop
        go_wp2_with fail
        refine (FE.out _).mono ?_
        rintro e w5 ⟨rfl, g5⟩
        have fi6 := fi5.same g5
        clear g5 fi5
        go_wp2_with fail
        refine (RN.out _).mono ?_
        rintro e w6 ⟨rfl, g6⟩
        have fi7 := fi6.same g6
        clear g6 fi6
        go_wp2_with fail
        go_roundg (K - (k + 1))
        case measure => have := HM.out; omega
        case rel => exact ⟨k + 1, M, _, _, by have := HM.out; omega, by go_num, rfl, by go_num, ⟨M0, by omega⟩, fi7⟩
    · have hkk : k = K := by have := HM.out; omega
      subst hkk
      have ln := clen_any fi.cm
      rw [fi.len] at ln
      have LN := Lib.hid ln
      clear ln
      go_wp2_with fail
      refine (LN.out).mono ?_
      rintro e w4 ⟨rfl, rfl⟩
      go_wp2_with fail
      go_ret
      exact ⟨rfl, hn ▸ fi.bel⟩
end Go.Proofs.YtdebnbgjgkbmaaaGreatDoor.Pu
namespace Go.Proofs.YtdebnbgjgkbmaaaGreatDoor
namespace SX
open Go Go.RowKit
open Go.ChangeMaps (setBlock)
set_option linter.unusedVariables false
section
variable {E : Env} {keys eqs : List Nat} {σ : Sig} {ρ : Rho} {h h' : Hp} {nx nx' : Nat} {w : World}
theorem modify_set {α : Type} (f : α → α) : ∀ (l : List α) (j : Nat) (a : α), l[j]? = some a → l.modify j f = l.set j (f a)
  | [], _, _, h => by simp at h
  | x :: r, 0, a, h => by
    obtain rfl : x = a := by simpa using h
    rfl
  | x :: r, j + 1, a, h => by
    have hj : r[j]? = some a := by simpa using h
    simp [modify_set f r j a hj]
end
end SX
end Go.Proofs.YtdebnbgjgkbmaaaGreatDoor
namespace Go.Proofs.YtdebnbgjgkbmaaaGreatDoor.Oc
open Go.RowKit
set_option linter.unusedVariables false
/-- the hash lies in block n, the writer in g -/
structure CK (n g : Nat) (w : World) (C : Array Value) (p : ByteArray) (v : World) : Prop where
  ng : n < g
  row : v.heap[n]? = some (.cells C 47 (0, 0))
  atw : At v ⟨g, 0, none⟩ p
  below : Below n w v
theorem CK.lt {n g : Nat} {w : World} {C : Array Value} {p : ByteArray} {v : World} (h : CK n g w C p v) : g < v.heap.size := World.block_lt_of_cell? v _ h.atw.cell
theorem CK.same {n g : Nat} {w : World} {C : Array Value} {p : ByteArray} {v v' : World} (h : CK n g w C p v) (hb : Below v.heap.size v v') : CK n g w C p v' := by
  have hl := h.lt; have hg := h.ng
  exact ⟨hg, by rw [hb.block _ (by omega)]; exact h.row, h.atw.below hb hl, h.below.trans (hb.mono (by omega))⟩
end Go.Proofs.YtdebnbgjgkbmaaaGreatDoor.Oc
namespace Go.Proofs.YtdebnbgjgkbmaaaGreatDoor
open Go.RowKit
set_option linter.unusedVariables false
theorem fees_lst : SX.Lst Rows.topFeesRow.laid := by
  refine ⟨?_, ?_, ?_, ?_, ?_⟩ <;> simp [Rows.topFeesRow]
theorem walk_TopFees (a0 : Int) (w0 : (Lit.int .u64 a0).wf = true) (a1 : Int) (w1 : (Lit.int .u8 a1).wf = true) (a2 : Int) (w2 : (Lit.int .u16 a2).wf = true) (a3 : Int) (w3 : (Lit.int .u16 a3).wf = true) {W : World} (hsh : W.ShapedOpen Tryz.prog) (hL : laidMetH Tryz.prog Rows.topFeesRow.laid W) :
    Calls Tryz.prog 9 #[.int .u64 a0, .int .u8 a1, .int .u16 a2, .int .u16 a3] W fun e W' => e = .returned (.bool true) ∧ Below W.heap.size W W' := by
  have g := SX.glb_of hsh hL fees_lst
  have sh : ∀ v, Below W.heap.size W v → Calls Tryz.prog 17 #[] v fun e w' => e = .returned (.bool true) ∧ Below v.heap.size v w' := fun v hb => SX.shown_any v (g.below hb g.lt)
  have h0 := RowK.wf_u64 w0
  have h1 := RowK.wf_u8 w1
  have h2 := RowK.wf_u16 w2
  have h3 := RowK.wf_u16 w3
  obtain ⟨n, rfl⟩ : ∃ n : Nat, a1 = (n : Int) := ⟨a1.toNat, by omega⟩
  exact Pu.fees_walk a0 a2 a3 n W ⟨by omega, by omega⟩ (by omega) (by omega) (by omega) (by omega) (by omega) sh
end Go.Proofs.YtdebnbgjgkbmaaaGreatDoor
namespace Go.Proofs.YtdebnbgjgkbmaaaGreatDoor.Wit9d6a22
set_option maxRecDepth 100000
noncomputable def laidWorld (os : Os) : World :=
  { World.holding Tryz.prog os ⟨#[], #[], []⟩ with heap := (((((((((((((World.holding Tryz.prog os ⟨#[], #[], []⟩).heap).modify 5 fun
    | .cells _ t frozen => .cells #[.int .u8 0, .int .u8 1, .int .u8 28, .int .u8 2, .int .u8 29, .int .u8 14, .int .u8 24, .int .u8 3, .int .u8 30, .int .u8 22, .int .u8 20, .int .u8 15, .int .u8 25, .int .u8 17, .int .u8 4, .int .u8 8, .int .u8 31, .int .u8 27, .int .u8 13, .int .u8 23, .int .u8 21, .int .u8 19, .int .u8 16, .int .u8 7, .int .u8 26, .int .u8 12, .int .u8 18, .int .u8 6, .int .u8 11, .int .u8 5, .int .u8 10, .int .u8 9] t frozen
    | o => o)).modify 6 fun
    | .cells _ t frozen => .cells #[.int .u8 0, .int .u8 1, .int .u8 56, .int .u8 2, .int .u8 57, .int .u8 49, .int .u8 28, .int .u8 3, .int .u8 61, .int .u8 58, .int .u8 42, .int .u8 50, .int .u8 38, .int .u8 29, .int .u8 17, .int .u8 4, .int .u8 62, .int .u8 47, .int .u8 59, .int .u8 36, .int .u8 45, .int .u8 43, .int .u8 51, .int .u8 22, .int .u8 53, .int .u8 39, .int .u8 33, .int .u8 30, .int .u8 24, .int .u8 18, .int .u8 12, .int .u8 5, .int .u8 63, .int .u8 55, .int .u8 48, .int .u8 27, .int .u8 60, .int .u8 41, .int .u8 37, .int .u8 16, .int .u8 46, .int .u8 35, .int .u8 44, .int .u8 21, .int .u8 52, .int .u8 32, .int .u8 23, .int .u8 11, .int .u8 54, .int .u8 26, .int .u8 40, .int .u8 15, .int .u8 34, .int .u8 20, .int .u8 31, .int .u8 10, .int .u8 25, .int .u8 14, .int .u8 19, .int .u8 9, .int .u8 13, .int .u8 8, .int .u8 7, .int .u8 6] t frozen
    | o => o)).modify 0 fun
    | .cells _ t frozen => .cells #[.int .u32 1779033703, .int .u32 3144134277, .int .u32 1013904242, .int .u32 2773480762, .int .u32 1359893119, .int .u32 2600822924, .int .u32 528734635, .int .u32 1541459225] t frozen
    | o => o)).modify 4 fun
    | .cells _ t frozen => .cells #[.int .u32 1116352408, .int .u32 1899447441, .int .u32 3049323471, .int .u32 3921009573, .int .u32 961987163, .int .u32 1508970993, .int .u32 2453635748, .int .u32 2870763221, .int .u32 3624381080, .int .u32 310598401, .int .u32 607225278, .int .u32 1426881987, .int .u32 1925078388, .int .u32 2162078206, .int .u32 2614888103, .int .u32 3248222580, .int .u32 3835390401, .int .u32 4022224774, .int .u32 264347078, .int .u32 604807628, .int .u32 770255983, .int .u32 1249150122, .int .u32 1555081692, .int .u32 1996064986, .int .u32 2554220882, .int .u32 2821834349, .int .u32 2952996808, .int .u32 3210313671, .int .u32 3336571891, .int .u32 3584528711, .int .u32 113926993, .int .u32 338241895, .int .u32 666307205, .int .u32 773529912, .int .u32 1294757372, .int .u32 1396182291, .int .u32 1695183700, .int .u32 1986661051, .int .u32 2177026350, .int .u32 2456956037, .int .u32 2730485921, .int .u32 2820302411, .int .u32 3259730800, .int .u32 3345764771, .int .u32 3516065817, .int .u32 3600352804, .int .u32 4094571909, .int .u32 275423344, .int .u32 430227734, .int .u32 506948616, .int .u32 659060556, .int .u32 883997877, .int .u32 958139571, .int .u32 1322822218, .int .u32 1537002063, .int .u32 1747873779, .int .u32 1955562222, .int .u32 2024104815, .int .u32 2227730452, .int .u32 2361852424, .int .u32 2428436474, .int .u32 2756734187, .int .u32 3204031479, .int .u32 3329325298] t frozen
    | o => o)).modify 7 fun
    | .cells _ t frozen => .cells #[.int .i64 3, .int .i64 4, .int .i64 1, .int .i64 2, .int .i64 0, .int .i64 1, .int .i64 2, .int .i64 3, .int .i64 4, .int .i64 0, .int .i64 1, .int .i64 2, .int .i64 3, .int .i64 4, .int .i64 0, .int .i64 3, .int .i64 4, .int .i64 1, .int .i64 2, .int .i64 0] t frozen
    | o => o)).modify 3 fun
    | .cells _ t frozen => .cells #[.int .i64 1, .int .i64 7, .int .i64 3, .int .i64 5] t frozen
    | o => o) }
theorem vars (os : Os) (args : Array Value) : ((laidWorld os).forCall (fun _ _ => 0) ⟨#[], args, []⟩).variablesB Tryz.checked.prog = true := by kernel_rfl
theorem rest (os : Os) (args : Array Value) : (((laidWorld os).forCall (fun _ _ => 0) ⟨#[], args, []⟩).heap.toList.drop Tryz.checked.prog.globals.size).take ((begin Tryz.checked.prog (fun _ _ => 0) default).world.heap.size - Tryz.checked.prog.globals.size) =
      (begin Tryz.checked.prog (fun _ _ => 0) default).world.heap.toList.drop Tryz.checked.prog.globals.size := by kernel_rfl
def laid : List (String × DataW Unit) := [("math/bits.deBruijn32tab", Rows.laid_math_bits_deBruijn32tab), ("math/bits.deBruijn64tab", Rows.laid_math_bits_deBruijn64tab), ("remitter/digest.begin", Rows.laid_remitter_digest_begin), ("remitter/digest.table", Rows.laid_remitter_digest_table), ("remitter/htlc.events", Rows.laid_remitter_htlc_events), ("remitter/htlc.spans", Rows.laid_remitter_htlc_spans)]
theorem met (os : Os) (args : Array Value) : laidMet Tryz.prog laid ((laidWorld os).forCall (fun _ _ => 0) ⟨#[], args, []⟩).memory :=
  laidMet_of_run' 8 (by kernel_rfl) (by kernel_rfl)
end Go.Proofs.YtdebnbgjgkbmaaaGreatDoor.Wit9d6a22
