/- The walks of the laws Tells and Most of layer 6 over the contracts: each returns true; the conditions are the ranges of the kinds. -/
import Derived.Test.YtnnnbgndbmcffaaAmLawA
namespace Go.Proofs.Ytnnnbgndbmcffaa
open Go.RowKit

theorem URow.below {w w' : World} {p : Option Addr} {len : Nat} {zs : List Int} (h : URow w p len zs) (b : Below w.heap.size w w') : URow w' p len zs := by
  obtain ⟨h1, h2, h3, bb, off, h4, h5⟩ := h
  refine ⟨h1, h2, h3, bb, off, h4, fun j hj => ?_⟩
  have := h5 j hj
  rw [b.cell (World.block_lt_of_cell? w _ this)]; exact this

section
variable (w0 : World)
theorem add_ok (p : Option Addr) (len cap : Nat) (zs : List Int) (w : World) (h : Below w0.heap.size w0 w) (hu : URow w0 p len zs) :
    Calls Try.prog 28 #[.slice p len cap] w fun e w' => e = .returned (.tuple #[.int .u64 (Am.addF zs).1, .int .i64 (Am.addF zs).2]) ∧ Below w0.heap.size w0 w' :=
  (add_any p len cap zs w (hu.below h)).mono fun _ _ ⟨he, hw⟩ => ⟨he, hw ▸ h⟩
theorem radd_ok (p : Option Addr) (len cap : Nat) (zs : List Int) (w : World) (h : Below w0.heap.size w0 w) (hu : URow w0 p len zs) :
    Calls Try.prog 30 #[.slice p len cap] w fun e w' => e = .returned (.tuple #[.int .u64 (Am.addF zs).1, .int .i64 (Am.addF zs).2]) ∧ Below w0.heap.size w0 w' :=
  (radd_any p len cap zs w (hu.below h)).mono fun _ _ ⟨he, hw⟩ => ⟨he, hw ▸ h⟩
end

theorem tells_long (p : Option Addr) (len cap : Nat) (a b c d : Int) (w : World) (hl : 100 < len) :
    Calls Try.prog 8 #[.slice p len cap, .int .u64 a, .int .u64 b, .int .u64 c, .int .u64 d] w (Fine w) := by
  go_enter Try.func8, Try.ntmps8
  go_wp2_with fail
  refine (shown_any _).mono ?_
  rintro e w1 ⟨rfl, h1⟩
  go_wp2
  go_ret
  exact ⟨rfl, h1⟩

set_option maxHeartbeats 2000000 in
theorem tells_walk (p : Option Addr) (len cap : Nat) (zs : List Int) (a b c d : Int) (w : World) (hu : URow w p len zs) (hl : len ≤ 100) (ha : U64 a) (hb : U64 b) (hc : U64 c) (hd : U64 d) :
    Calls Try.prog 8 #[.slice p len cap, .int .u64 a, .int .u64 b, .int .u64 c, .int .u64 d] w (Fine w) := by
  have s1 := fun w1 => sub_any a b w1 ha.lo ha.hi hb.lo
  have s2 := fun w1 => rsub_any a b w1 ha.lo ha.hi hb.lo
  generalize (if a < b then (0 : Int) else a - b) = X at *
  generalize (if a < b then (61 : Int) else 0) = Y at *
  have f1 := fun w1 h => fee_ok w a b c w1 h ha hb hc
  have f2 := fun w1 h => rfee_ok w a b c w1 h ha hb hc
  have a1 := fun w1 h => add_ok w p len cap zs w1 h hu
  have a2 := fun w1 h => radd_ok w p len cap zs w1 h hu
  have e1 := fun w1 h => enough_ok w a b c d w1 h ha hb hc hd
  have e2 := fun w1 h => renough_ok w a b c d w1 h ha hb hc hd
  generalize Am.feeF a b c = F at *
  generalize Am.addF zs = G at *
  generalize Am.enough a b c d = En at *
  obtain ⟨F1, F2⟩ := F
  obtain ⟨G1, G2⟩ := G
  have S1 := Lib.hid s1; have S2 := Lib.hid s2; have FF1 := Lib.hid f1; have FF2 := Lib.hid f2; have A1 := Lib.hid a1; have A2 := Lib.hid a2; have E1 := Lib.hid e1; have E2 := Lib.hid e2
  clear s1 s2 f1 f2 a1 a2 e1 e2
  go_enter Try.func8, Try.ntmps8
  go_wp2_with fail
  refine (shown_any _).mono ?_
  rintro e w1 ⟨rfl, h1⟩
  go_wp2_with fail
  refine (A1.out w1 h1).mono ?_
  rintro e w2 ⟨rfl, h2⟩
  go_wp2_with fail
  refine (A2.out w2 h2).mono ?_
  rintro e w3 ⟨rfl, h3⟩
  go_wp2_with fail
  refine (S1.out w3).mono ?_
  rintro e w4 ⟨rfl, rfl⟩
  go_wp2_with fail
  refine (S2.out w3).mono ?_
  rintro e w5 ⟨rfl, rfl⟩
  go_wp2_with fail
  refine (FF1.out w3 h3).mono ?_
  rintro e w6 ⟨rfl, h6⟩
  go_wp2_with fail
  refine (FF2.out w6 h6).mono ?_
  rintro e w7 ⟨rfl, h7⟩
  go_wp2_with fail
  refine (E1.out w7 h7).mono ?_
  rintro e w8 ⟨rfl, h8⟩
  go_wp2_with fail
  refine (E2.out w8 h8).mono ?_
  rintro e w9 ⟨rfl, h9⟩
  cases En
  all_goals
    go_wp2
    go_ret
    exact ⟨rfl, h9⟩

set_option maxHeartbeats 2000000 in
theorem mostlaw_walk (inn base rate : Int) (w : World) (hi : U64 inn) (hb : U64 base) (hr : U64 rate) :
    Calls Try.prog 9 #[.int .u64 inn, .int .u64 base, .int .u64 rate] w (Fine w) := by
  go_enter Try.func9, Try.ntmps9
  go_wp2_with fail
  refine (most_any inn base rate w hi hb hr).mono ?_
  rintro e w1 ⟨m, rfl, hm, h1⟩
  have m0 := hm.lo
  have m1 := hm.hi
  have hin := hi.hi
  by_cases h0 : Am.enough inn 0 base rate = true
  · have hy : Am.enough inn m base rate = true := by
      rcases hm.yes with rfl | h
      · exact h0
      · exact h
    by_cases hmax : m = 18446744073709551615
    · have hx : (m == 18446744073709551615) = true := beq_iff_eq.2 hmax
      have HY := Lib.hid hy; have H0 := Lib.hid h0
      clear hy h0 hmax
      go_wp2_with fail
      refine (shown_ok w w1 h1).mono ?_
      rintro e w2 ⟨rfl, h2⟩
      go_wp2_with fail
      refine (renough_ok w inn 0 base rate w2 h2 hi ⟨by omega, by omega⟩ hb hr).mono ?_
      rintro e w3 ⟨rfl, h3⟩
      rw [H0.out]
      go_wp2_with fail
      refine (renough_ok w inn m base rate w3 h3 hi ⟨by omega, by omega⟩ hb hr).mono ?_
      rintro e w4 ⟨rfl, h4⟩
      rw [HY.out]
      go_wp2_with fail
      refine (enough_ok w inn m base rate w4 h4 hi ⟨by omega, by omega⟩ hb hr).mono ?_
      rintro e w5 ⟨rfl, h5⟩
      rw [HY.out]
      go_wp2
      go_ret
      exact ⟨rfl, h5⟩
    · have hx : (m == 18446744073709551615) = false := beq_eq_false_iff_ne.2 hmax
      have hno := hm.no (m + 1) (by omega)
      have m2 : m < 18446744073709551615 := by omega
      have HY := Lib.hid hy; have H0 := Lib.hid h0; have HN := Lib.hid hno
      clear hy h0 hmax hno
      go_wp2_with fail
      refine (shown_ok w w1 h1).mono ?_
      rintro e w2 ⟨rfl, h2⟩
      go_wp2_with fail
      refine (renough_ok w inn 0 base rate w2 h2 hi ⟨by omega, by omega⟩ hb hr).mono ?_
      rintro e w3 ⟨rfl, h3⟩
      rw [H0.out]
      go_wp2_with fail
      refine (renough_ok w inn m base rate w3 h3 hi ⟨by omega, by omega⟩ hb hr).mono ?_
      rintro e w4 ⟨rfl, h4⟩
      rw [HY.out]
      go_wp2_with fail
      refine (renough_ok w inn (m + 1) base rate w4 h4 hi ⟨by omega, by omega⟩ hb hr).mono ?_
      rintro e w5 ⟨rfl, h5⟩
      rw [HN.out]
      go_wp2_with fail
      refine (enough_ok w inn m base rate w5 h5 hi ⟨by omega, by omega⟩ hb hr).mono ?_
      rintro e w6 ⟨rfl, h6⟩
      rw [HY.out]
      go_wp2
      go_ret
      exact ⟨rfl, h6⟩
  · have hf : Am.enough inn 0 base rate = false := by simpa using h0
    obtain rfl : m = 0 := by
      rcases hm.yes with h | h
      · exact h
      · exact absurd (Am.enough_mono m0 hr.lo h) h0
    have H0 := Lib.hid hf; clear hf h0
    go_wp2_with fail
    refine (shown_ok w w1 h1).mono ?_
    rintro e w2 ⟨rfl, h2⟩
    go_wp2_with fail
    refine (renough_ok w inn 0 base rate w2 h2 hi ⟨by omega, by omega⟩ hb hr).mono ?_
    rintro e w3 ⟨rfl, h3⟩
    rw [H0.out]
    go_wp2_with fail
    refine (shown_ok w w3 h3).mono ?_
    rintro e w4 ⟨rfl, h4⟩
    go_wp2
    go_ret
    exact ⟨rfl, h4⟩
end Go.Proofs.Ytnnnbgndbmcffaa
