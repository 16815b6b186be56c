/- What the reference's Compress returns of eight words and a block of 64 bytes: the same as digest's; the conditions are the ranges of the words. -/
import Derived.Test.YtiilgkhndfnkgaaDoorDhA
namespace Go.Proofs.YtiilgkhndfnkgaaDoor
open Go.RowKit
set_option linter.unusedVariables false

/-- the words given lie in block n, the result's in n + 1, the words of the block in n + 2 -/
structure CX (n : Nat) (w : World) (s : Sha.St) (W : Nat → Nat) (v : World) : Prop where
  r0 : M.RowAt v n 75 (stX s)
  r1 : M.RowAt v (n + 1) 75 Y8
  r2 : M.RowAt v (n + 1 + 1) 83 (r64 64 W)
  below : Below n w v
section
variable {n : Nat} {w : World} {s : Sha.St} {W W' : Nat → Nat} {v v' : World}
theorem CX.drew (h : CX n w s W v) : CX n w s W v.drew := ⟨h.r0, h.r1, h.r2, h.below.drew⟩
theorem CX.same (h : CX n w s W v) (hb : Below v.heap.size v v') : CX n w s W v' :=
  ⟨h.r0.call hb, h.r1.call hb, h.r2.call hb, h.below.trans (hb.mono (by have := h.r0.lt; omega))⟩
theorem CX.set (h : CX n w s W v) (i x : Nat) (hi : i < 64) (hW : ∀ j, j < 64 → W' j = if j = i then x else W j) :
    CX n w s W' (v.setCell ⟨n + 1 + 1, i, none⟩ (.int .u64 (x : Nat))) := by
  refine ⟨h.r0.far (by show n + 1 + 1 ≠ n; omega) _, h.r1.far (by show n + 1 + 1 ≠ n + 1; omega) _, ?_, h.below.setCell (by show n ≤ n + 1 + 1; omega) _⟩
  have := h.r2.set i (.int .u64 (x : Nat))
  rw [M.rowF_set (g := fun i => ((W' i : Nat) : Int)) _ hi (fun j hj => by rw [hW j hj]; split <;> rfl)] at this
  exact this
end

theorem t1_64 {s : Sha.St} (h : s.ok) {K X : Nat} (hK : K < 4294967296) (hX : X < 4294967296) :
    IntKind.u64.wrap ((s.h : Int) + (Sha.big1 s.e : Nat)) = (s.h : Int) + (Sha.big1 s.e : Nat) ∧
    IntKind.u64.wrap ((s.h : Int) + (Sha.big1 s.e : Nat) + (Sha.ch s.e s.f s.g : Nat)) = (s.h : Int) + (Sha.big1 s.e : Nat) + (Sha.ch s.e s.f s.g : Nat) ∧
    IntKind.u64.wrap ((s.h : Int) + (Sha.big1 s.e : Nat) + (Sha.ch s.e s.f s.g : Nat) + (K : Int)) = (s.h : Int) + (Sha.big1 s.e : Nat) + (Sha.ch s.e s.f s.g : Nat) + (K : Int) ∧
    IntKind.u64.wrap ((s.h : Int) + (Sha.big1 s.e : Nat) + (Sha.ch s.e s.f s.g : Nat) + (K : Int) + (X : Int)) = (s.h : Int) + (Sha.big1 s.e : Nat) + (Sha.ch s.e s.f s.g : Nat) + (K : Int) + (X : Int) ∧
    ((s.h : Int) + (Sha.big1 s.e : Nat) + (Sha.ch s.e s.f s.g : Nat) + (K : Int) + (X : Int)).tmod 4294967296 = ((Sha.t1 s K X : Nat) : Int) := by
  have h1 := Sha.ch_lt (f := s.f) (g := s.g) h.e
  have h2 := Sha.big1_lt h.e
  have h3 := h.h
  unfold Sha.t1
  generalize Sha.ch s.e s.f s.g = c at *
  generalize Sha.big1 s.e = b at *
  refine ⟨?_, ?_, ?_, ?_, ?_⟩
  · rw [IntKind.wrap_u64]; omega
  · rw [IntKind.wrap_u64]; omega
  · rw [IntKind.wrap_u64]; omega
  · rw [IntKind.wrap_u64]; omega
  · rw [Int.tmod_eq_emod_of_nonneg (by omega)]; omega
theorem t2_64 {s : Sha.St} (h : s.ok) : (((Sha.big0 s.a : Nat) : Int) + (Sha.maj s.a s.b s.c : Nat)) % 18446744073709551616 = ((Sha.big0 s.a : Nat) : Int) + (Sha.maj s.a s.b s.c : Nat) ∧ (((Sha.big0 s.a : Nat) : Int) + (Sha.maj s.a s.b s.c : Nat)) % 4294967296 = ((Sha.t2 s : Nat) : Int) := by
  have h1 := Sha.maj_lt (c := s.c) h.a h.b
  have h2 := Sha.big0_lt h.a
  unfold Sha.t2
  generalize Sha.maj s.a s.b s.c = c at *
  generalize Sha.big0 s.a = b at *
  omega
theorem small_sum {a b : Nat} (ha : a < 4294967296) (hb : b < 4294967296) : ((a : Int) + (b : Int)) % 18446744073709551616 = (a : Int) + (b : Int) ∧ ((a : Int) + (b : Int)) % 4294967296 = (((a + b) % 4294967296 : Nat) : Int) := by omega
theorem not_64 {e : Nat} (h : e < 4294967296) : (4294967295 - (e : Int)) % 18446744073709551616 = 4294967295 - (e : Int) := by omega
theorem info91 (A : Array Value) (h : A.size = 64) : (Tryd.prog.info? 83).map (·.size) = some A.size := by rw [h]; kernel_rfl
theorem info37 (A : Array Value) (h : A.size = 8) : (Tryd.prog.info? 75).map (·.size) = some A.size := by rw [h]; kernel_rfl
theorem und37 : Tryd.prog.underlying 75 = some (.array 8 38) := by kernel_rfl
theorem und91 : Tryd.prog.underlying 83 = some (.array 64 38) := by kernel_rfl

set_option maxRecDepth 100000 in
set_option maxHeartbeats 4000000 in
theorem rcompress_any (s : Sha.St) (b : ByteArray) (w : World) (hs : s.ok) (hb : b.size = 64) :
    Calls Tryd.prog 32 #[.agg (stX s), .string b] w fun e w' => e = .returned (.tuple #[.agg (stX (Sha.compress s b)), .bool true]) ∧ Below w.heap.size w w' := by
  obtain ⟨n, hn⟩ : ∃ n, w.heap.size = n := ⟨_, rfl⟩
  have c0 : M.RowAt (((w.alloc (.cells (stX s) 75)).alloc (.cells Y8 75)).alloc (.cells Y64 83)) n 75 (stX s) ∧ M.RowAt (((w.alloc (.cells (stX s) 75)).alloc (.cells Y8 75)).alloc (.cells Y64 83)) (n + 1) 75 Y8 ∧
      M.RowAt (((w.alloc (.cells (stX s) 75)).alloc (.cells Y8 75)).alloc (.cells Y64 83)) (n + 1 + 1) 83 Y64 ∧ Below n w (((w.alloc (.cells (stX s) 75)).alloc (.cells Y8 75)).alloc (.cells Y64 83)) := by
    subst hn
    have a1 := M.RowAt.new w 75 (stX s)
    have a2 := M.RowAt.new (w.alloc (.cells (stX s) 75)) 75 Y8
    have a3 := M.RowAt.new ((w.alloc (.cells (stX s) 75)).alloc (.cells Y8 75)) 83 Y64
    rw [World.size_alloc] at a2 a3
    rw [World.size_alloc] at a3
    exact ⟨(a1.alloc _).alloc _, a2.alloc _, a3, (((Below.refl _ _).alloc (Nat.le_refl _) _).alloc (by simp) _).alloc (by simp; omega) _⟩
  have hp0 : Sha.pw b 0 = fun _ => 0 := by funext j; exact Sha.pw_zero b 0 j (by omega)
  obtain ⟨C, hC⟩ : ∃ C, stX s = C := ⟨_, rfl⟩
  obtain ⟨a1, a2, a3, a4⟩ := c0
  have rr := a3
  have b1 := a1.farRow (b := n + 1 + 1) (by omega) Y64
  have b2 := a2.farRow (b := n + 1 + 1) (by omega) Y64
  have b3 := a3.setRow Y64
  have b4 := M.below_setRow (g := n + 1 + 1) (cs := Y64) a4 (by omega)
  rw [y64_r, ← show r64 64 (Sha.pw b 0) = r64 64 (fun _ => 0) by rw [hp0]] at b3
  have i91 : (Tryd.prog.info? 83).map (·.size) = some Y64.size := by kernel_rfl
  have o91 : Y64.all (·.oneCell') = true := by kernel_rfl
  have rL : (((w.alloc (.cells C 75)).alloc (.cells #[.int .u64 0, .int .u64 0, .int .u64 0, .int .u64 0, .int .u64 0, .int .u64 0, .int .u64 0, .int .u64 0] 75)).alloc (.cells #[.int .u64 0, .int .u64 0, .int .u64 0, .int .u64 0, .int .u64 0, .int .u64 0, .int .u64 0, .int .u64 0, .int .u64 0, .int .u64 0, .int .u64 0, .int .u64 0, .int .u64 0, .int .u64 0, .int .u64 0, .int .u64 0, .int .u64 0, .int .u64 0, .int .u64 0, .int .u64 0, .int .u64 0, .int .u64 0, .int .u64 0, .int .u64 0, .int .u64 0, .int .u64 0, .int .u64 0, .int .u64 0, .int .u64 0, .int .u64 0, .int .u64 0, .int .u64 0, .int .u64 0, .int .u64 0, .int .u64 0, .int .u64 0, .int .u64 0, .int .u64 0, .int .u64 0, .int .u64 0, .int .u64 0, .int .u64 0, .int .u64 0, .int .u64 0, .int .u64 0, .int .u64 0, .int .u64 0, .int .u64 0, .int .u64 0, .int .u64 0, .int .u64 0, .int .u64 0, .int .u64 0, .int .u64 0, .int .u64 0, .int .u64 0, .int .u64 0, .int .u64 0, .int .u64 0, .int .u64 0, .int .u64 0, .int .u64 0, .int .u64 0, .int .u64 0] 83)).heap[n + 1 + 1]? = some (.cells Y64 83 (0, 0)) := by rw [← hC]; exact rr
  obtain ⟨v0, hv0⟩ : ∃ v0, (((w.alloc (.cells C 75)).alloc (.cells #[.int .u64 0, .int .u64 0, .int .u64 0, .int .u64 0, .int .u64 0, .int .u64 0, .int .u64 0, .int .u64 0] 75)).alloc (.cells #[.int .u64 0, .int .u64 0, .int .u64 0, .int .u64 0, .int .u64 0, .int .u64 0, .int .u64 0, .int .u64 0, .int .u64 0, .int .u64 0, .int .u64 0, .int .u64 0, .int .u64 0, .int .u64 0, .int .u64 0, .int .u64 0, .int .u64 0, .int .u64 0, .int .u64 0, .int .u64 0, .int .u64 0, .int .u64 0, .int .u64 0, .int .u64 0, .int .u64 0, .int .u64 0, .int .u64 0, .int .u64 0, .int .u64 0, .int .u64 0, .int .u64 0, .int .u64 0, .int .u64 0, .int .u64 0, .int .u64 0, .int .u64 0, .int .u64 0, .int .u64 0, .int .u64 0, .int .u64 0, .int .u64 0, .int .u64 0, .int .u64 0, .int .u64 0, .int .u64 0, .int .u64 0, .int .u64 0, .int .u64 0, .int .u64 0, .int .u64 0, .int .u64 0, .int .u64 0, .int .u64 0, .int .u64 0, .int .u64 0, .int .u64 0, .int .u64 0, .int .u64 0, .int .u64 0, .int .u64 0, .int .u64 0, .int .u64 0, .int .u64 0, .int .u64 0] 83)).setRow (n + 1 + 1) Y64 = v0 := ⟨_, rfl⟩
  have e0 : (((w.alloc (.cells (stX s) 75)).alloc (.cells Y8 75)).alloc (.cells Y64 83)).setRow (n + 1 + 1) Y64 = v0 := by rw [hC, ← hv0]; rfl
  have e0' : (((w.alloc (.cells (stX s) 75)).alloc (.cells Y8 75)).alloc (.cells Y64 83)).setRow (n + 1 + 1) (r64 64 (Sha.pw b 0)) = v0 := by rw [← e0, y64_r, hp0]
  have c0 : CX n w s (Sha.pw b 0) v0 := by
    rw [e0] at b1 b2 b4
    refine ⟨b1, b2, ?_, b4⟩
    have := M.RowAt.setRow a3 (r64 64 (Sha.pw b 0))
    rw [e0'] at this
    exact this
  have HC := Lib.hid hC; have HV := Lib.hid hv0; have HB := Lib.hid hb; have HN := Lib.hid hn
  have RL := Lib.hid rL
  rw [hC]
  clear hC hv0 e0 e0' hp0 a1 a2 a3 a4 b1 b2 b3 b4 rr rL
  go_enter Tryd.func32, Tryd.ntmps32
  go_wp2_with (refine wpList_store_row (x := .tmp 6) (y := .tmp 28) (cells := Y64) (old := Y64) (t := 83) (ty := 83) (g := n + 1 + 1) ?_ ?_ ?_ ?_ RL.out i91 rfl o91 ?_; rfl; rfl; rfl; rfl; rw [HV.out])
  clear hb hn
  go_loopg [7] 16 (fun m i wr => ∃ k : Nat, m + k = 16 ∧ i = .int .i64 k ∧ CX n w s (Sha.pw b (4 * k)) wr)
  case atStart => exact ⟨0, by omega, rfl, c0⟩
  case round =>
    clear c0
    obtain ⟨i, hm, rfl, ci0⟩ := hrel
    by_cases hlt : i < 16
    · have hi16 : (i : Int) < 16 := by omega
      go_wp2
      go_loopg [8] 4 (fun m j wr => ∃ k : Nat, m + k = 4 ∧ j = .int .i64 k ∧ CX n w s (Sha.pw b (4 * i + k)) wr)
      case atStart => exact ⟨0, by omega, rfl, ci0⟩
      case round =>
        clear ci0
        obtain ⟨k, hmk, rfl, ci⟩ := hrel
        by_cases hk : k < 4
        · obtain ⟨q, hq⟩ : ∃ q, 4 * i + k = q := ⟨_, rfl⟩
          rw [hq] at ci
          have hqi : q / 4 = i := by omega
          have q2 := ci.r2.cell i
          rw [M.rowF_get (show i < 64 by omega)] at q2
          have hbk : q < b.size := by rw [HB.out]; omega
          have hlw := Sha.pw_lt3 b q
          rw [hqi] at hlw
          have hby := b[q].toNat_lt
          have g0 : IntKind.i64.wrap (4 * (i : Int)) = 4 * (i : Int) := IntWalk.i64_in _ (by omega)
          have g1 : IntKind.i64.wrap (4 * (i : Int) + (k : Int)) = (q : Int) := by rw [IntWalk.i64_in _ (by omega)]; omega
          have g2 : (0 : Int) ≤ (q : Int) := by omega
          have g3 : (q : Int) < 64 := by omega
          have g4 : (i : Int) < 64 := by omega
          have w5 : IntKind.u64.wrap ((Sha.pw b q i : Nat) * 256) = (Sha.pw b q i : Nat) * 256 := by rw [IntKind.wrap_u64]; omega
          have w6 : IntKind.u64.wrap (b[q].toNat : Int) = (b[q].toNat : Int) := by rw [IntKind.wrap_u64]; omega
          have w7 : IntKind.u64.wrap ((Sha.pw b q i : Nat) * 256 + (b[q].toNat : Int)) = ((Sha.pw b (q + 1) i : Nat) : Int) := by
            have h := Sha.pw_next b q
            rw [hqi, Sha.byte_at b q hbk] at h
            rw [h, IntKind.wrap_u64]; omega
          have w8 : ((Sha.pw b q i : Nat) * 256 + (b[q].toNat : Int)) = ((Sha.pw b (q + 1) i : Nat) : Int) := by
            have h := Sha.pw_next b q
            rw [hqi, Sha.byte_at b q hbk] at h
            rw [h]; omega
          have ci2 := ci.drew
          have q3 := ci2.r2.frozen i
          have q4 := ci2.r2.cell i
          rw [M.rowF_get (show i < 64 by omega)] at q4
          have ci3 := ci2.set i (Sha.pw b (q + 1) i) (by omega) (W' := Sha.pw b (q + 1)) (fun j _ => by
            split
            · rename_i h; rw [h]
            · rename_i h; exact Sha.pw_same b q j (by rw [hqi]; exact h))
          have HQ := Lib.hid hq
          clear hqi hq
          generalize Sha.pw b (q + 1) i = P at *
          generalize Sha.pw b q i = P0 at *
          go_wp2_with fail
          go_still_tail 14, (by kernel_rfl)
          change wpList _ _ _ _ _ wr.drew
          generalize wr.drew = wd at *
          go_wp2
          go_roundg (4 - (k + 1))
          case measure => omega
          case rel => exact ⟨k + 1, by omega, by go_num, by rw [show 4 * i + (k + 1) = q + 1 by have := HQ.out; omega]; exact ci3⟩
        · obtain rfl : k = 4 := by omega
          rw [show 4 * i + 4 = 4 * (i + 1) by omega] at ci
          go_wp2
          go_roundg (16 - (i + 1))
          case measure => omega
          case rel => exact ⟨i + 1, by omega, by go_num, ci⟩
    · obtain rfl : i = 16 := by omega
      have c2 : CX n w s (Sha.W b (16 - 16)) wr := by
        have e : Sha.pw b (4 * 16) = Sha.W b 0 := by funext j; exact (Sha.W_zero b j).symm
        rw [e] at ci0; exact ci0
      clear ci0 hm hlt
      go_wp2
      go_loopg [9] 48 (fun m i wr => ∃ k : Nat, m + k = 64 ∧ 16 ≤ k ∧ i = .int .i64 k ∧ CX n w s (Sha.W b (k - 16)) wr)
      case atStart => exact ⟨16, by omega, by omega, rfl, c2⟩
      case round =>
        clear c2
        obtain ⟨k, hm, h16, rfl, ci⟩ := hrel
        by_cases hlt : k < 64
        · obtain ⟨i, hi⟩ : ∃ i, k = 16 + i := ⟨k - 16, by omega⟩
          rw [show k - 16 = i by omega] at ci
          have q1 := ci.r2.cell (i + 1)
          have q2 := ci.r2.cell (i + 14)
          rw [M.rowF_get (show i + 1 < 64 by omega)] at q1
          rw [M.rowF_get (show i + 14 < 64 by omega)] at q2
          have w2 : (0 : Int) ≤ (k : Int) - 15 := by omega
          have w3 : (k : Int) - 15 < 64 := by omega
          have w4 : ((k : Int) - 15).toNat = i + 1 := by omega
          have x2 : (0 : Int) ≤ (k : Int) - 2 := by omega
          have x3 : (k : Int) - 2 < 64 := by omega
          have x4 : ((k : Int) - 2).toNat = i + 14 := by omega
          have w5 : (15 : Int) ≤ k := by omega
          have x5 : (2 : Int) ≤ k := by omega
          have HI := Lib.hid hi
          clear hi
          have l1 := Sha.W_lt b i (i + 1)
          have l2 := Sha.W_lt b i (i + 14)
          have nx := Sha.W_next b i
          obtain ⟨x, hx⟩ : ∃ x, Sha.W b i (i + 1) = x := ⟨_, rfl⟩
          obtain ⟨y, hy⟩ : ∃ y, Sha.W b i (i + 14) = y := ⟨_, rfl⟩
          rw [hx] at q1 l1 nx
          rw [hy] at q2 l2 nx
          have NX := Lib.hid nx; have LX := Lib.hid l1; have LY := Lib.hid l2
          clear nx hx hy l1 l2
          have t1 := fun W => turn_any x 7 W LX.out (by decide)
          have t2 := fun W => turn_any x 18 W LX.out (by decide)
          have t3 := fun W => shift_any x 3 W (big LX.out) (by decide)
          have t4 := fun W => turn_any y 17 W LY.out (by decide)
          have t5 := fun W => turn_any y 19 W LY.out (by decide)
          have t6 := fun W => shift_any y 10 W (big LY.out) (by decide)
          have hA := sig0_64 LX.out
          have hB := sig1_64 LY.out
          have la := Sha.sig0_lt LX.out
          have lb := Sha.sig1_lt LY.out
          generalize Sha.rot x 7 = r1 at *
          generalize Sha.rot x 18 = r2 at *
          generalize x / 2 ^ 3 = r3 at *
          generalize Sha.rot y 17 = r4 at *
          generalize Sha.rot y 19 = r5 at *
          generalize y / 2 ^ 10 = r6 at *
          generalize Sha.sig0 x = S0 at *
          generalize Sha.sig1 y = S1 at *
          have T1 := Lib.hid t1; have T2 := Lib.hid t2; have T3 := Lib.hid t3; have T4 := Lib.hid t4; have T5 := Lib.hid t5; have T6 := Lib.hid t6
          have SA := Lib.hid la; have SB := Lib.hid lb
          clear t1 t2 t3 t4 t5 t6 la lb
          go_wp2_with fail
          refine (T1.out _).mono ?_
          rintro e w1 ⟨rfl, rfl⟩
          go_wp2_with fail
          refine (T2.out _).mono ?_
          rintro e w1 ⟨rfl, rfl⟩
          go_wp2_with fail
          refine (T3.out _).mono ?_
          rintro e w1 ⟨rfl, rfl⟩
          go_wp2_with fail
          refine (T4.out _).mono ?_
          rintro e w1 ⟨rfl, rfl⟩
          go_wp2_with fail
          refine (T5.out _).mono ?_
          rintro e w1 ⟨rfl, rfl⟩
          go_wp2_with fail
          refine (T6.out _).mono ?_
          rintro e w1 ⟨rfl, rfl⟩
          clear q1 q2 w2 w3 w4 w5 x2 x3 x4 x5
          have w1 : IntKind.i64.wrap ((k : Int) - 16) = (k : Int) - 16 := IntWalk.i64_in _ (by omega)
          have w2 : (0 : Int) ≤ (k : Int) - 16 := by omega
          have w3' : (k : Int) - 16 < 64 := by omega
          have w4' : ((k : Int) - 16).toNat = i := by have := HI.out; omega
          have w5 : (16 : Int) ≤ k := by omega
          have x1 : IntKind.i64.wrap ((k : Int) - 7) = (k : Int) - 7 := IntWalk.i64_in _ (by omega)
          have x2 : (0 : Int) ≤ (k : Int) - 7 := by omega
          have x3 : (k : Int) - 7 < 64 := by omega
          have x4 : ((k : Int) - 7).toNat = i + 9 := by have := HI.out; omega
          have x5 : (7 : Int) ≤ k := by omega
          have hi64 : i < 48 := by have := HI.out; omega
          have q1 := ci.r2.cell i
          have q2 := ci.r2.cell (i + 9)
          rw [M.rowF_get (show i < 64 by omega)] at q1
          rw [M.rowF_get (show i + 9 < 64 by omega)] at q2
          have nx := NX.out
          have ci4 := ci.drew
          have f5 := ci4.r2.frozen k
          have q5 := ci4.r2.cell k
          rw [M.rowF_get hlt] at q5
          have ci5 := ci4.set k (Sha.W b (i + 1) (16 + i)) hlt (W' := Sha.W b (i + 1)) (fun j _ => by
            split
            · rename_i h; rw [h, HI.out]
            · rename_i h; exact Sha.W_same b i j (by have := HI.out; omega))
          have lp := Sha.W_lt b i i
          have lq := Sha.W_lt b i (i + 9)
          generalize Sha.W b (i + 1) (16 + i) = N at *
          generalize Sha.W b i (i + 9) = q at *
          generalize Sha.W b i i = p at *
          have s0l := SA.out
          have s1l := SB.out
          have u1 : IntKind.u64.wrap ((p : Int) + (S0 : Int)) = (p : Int) + (S0 : Int) := by rw [IntKind.wrap_u64]; omega
          have u2 : IntKind.u64.wrap ((p : Int) + (S0 : Int) + (q : Int)) = (p : Int) + (S0 : Int) + (q : Int) := by rw [IntKind.wrap_u64]; omega
          have u3 : IntKind.u64.wrap ((p : Int) + (S0 : Int) + (q : Int) + (S1 : Int)) = (p : Int) + (S0 : Int) + (q : Int) + (S1 : Int) := by rw [IntKind.wrap_u64]; omega
          have hsum : ((p : Int) + (S0 : Int) + (q : Int) + (S1 : Int)).tmod 4294967296 = (N : Int) := by
            rw [Int.tmod_eq_emod_of_nonneg (by omega)]; omega
          have hsum2 : ((p : Int) + (S0 : Int) + (q : Int) + (S1 : Int)) % 4294967296 = (N : Int) := by omega
          clear nx s0l s1l NX lp lq
          go_wp2_with fail
          go_still_tail 16, (by kernel_rfl)
          change wpList _ _ _ _ _ wr.drew
          generalize wr.drew = w5 at *
          go_wp2
          go_roundg (64 - (k + 1))
          case measure => omega
          case rel => exact ⟨k + 1, by omega, by omega, by go_num, by rw [show k + 1 - 16 = i + 1 by have := HI.out; omega]; exact ci5⟩
        · obtain rfl : k = 64 := by omega
          have cw : CX n w s (Sha.W b 48) wr := ci
          clear ci hm hlt h16
          obtain ⟨WF, hWF⟩ : ∃ WF, Sha.W b 48 = WF := ⟨_, rfl⟩
          have hWl : ∀ j, WF j < 4294967296 := fun j => by rw [← hWF]; exact Sha.W_lt b 48 j
          rw [hWF] at cw
          have HWF := Lib.hid hWF; have HWl := Lib.hid hWl
          clear hWF hWl
          go_wp2_with fail
          refine (K_any _).mono ?_
          rintro e w1 ⟨rfl, g1⟩
          have cw1 := cw.same g1
          clear cw g1
          obtain ⟨m, hm⟩ : ∃ m, w1.heap.size = m := ⟨_, rfl⟩
          have hnm : n + 1 + 1 < m := by have := cw1.r2.lt; omega
          have sK : (r64 64 Sha.k).size = 64 := M.rowF_size
          have oK : (r64 64 Sha.k).all (·.oneCell') = true := M.rowF_one
          have cw2 := cw1.same ((Below.refl _ w1).alloc (Nat.le_refl _) (.cells (r64 64 Sha.k) 83))
          have p2 := M.RowAt.new w1 83 (r64 64 Sha.k)
          have e9 := World.setRow_alloc_new w1 Y64 (r64 64 Sha.k) 83
          have r9 := heap_alloc_new w1 (.cells Y64 83)
          have hz2 : (w1.alloc (.cells (r64 64 Sha.k) 83)).heap.size = m + 1 := by simp; exact hm
          rw [hm] at p2 e9 r9
          rw [← e9] at cw2 p2 hz2
          have iK := info91 _ sK
          obtain ⟨KK, hKK⟩ : ∃ KK, r64 64 Sha.k = KK := ⟨_, rfl⟩
          rw [hKK] at iK oK sK cw2 p2 hz2 ⊢
          have zK : Y64.size = KK.size := by rw [sK]; rfl
          obtain ⟨v1, hv1⟩ : ∃ v1, (w1.alloc (.cells #[.int .u64 0, .int .u64 0, .int .u64 0, .int .u64 0, .int .u64 0, .int .u64 0, .int .u64 0, .int .u64 0, .int .u64 0, .int .u64 0, .int .u64 0, .int .u64 0, .int .u64 0, .int .u64 0, .int .u64 0, .int .u64 0, .int .u64 0, .int .u64 0, .int .u64 0, .int .u64 0, .int .u64 0, .int .u64 0, .int .u64 0, .int .u64 0, .int .u64 0, .int .u64 0, .int .u64 0, .int .u64 0, .int .u64 0, .int .u64 0, .int .u64 0, .int .u64 0, .int .u64 0, .int .u64 0, .int .u64 0, .int .u64 0, .int .u64 0, .int .u64 0, .int .u64 0, .int .u64 0, .int .u64 0, .int .u64 0, .int .u64 0, .int .u64 0, .int .u64 0, .int .u64 0, .int .u64 0, .int .u64 0, .int .u64 0, .int .u64 0, .int .u64 0, .int .u64 0, .int .u64 0, .int .u64 0, .int .u64 0, .int .u64 0, .int .u64 0, .int .u64 0, .int .u64 0, .int .u64 0, .int .u64 0, .int .u64 0, .int .u64 0, .int .u64 0] 83)).setRow m KK = v1 := ⟨_, rfl⟩
          have cw2 : CX n w s WF v1 := hv1 ▸ cw2
          have p2 : M.RowAt v1 m 83 KK := hv1 ▸ p2
          have hz2 : v1.heap.size = m + 1 := hv1 ▸ hz2
          have HV1 := Lib.hid hv1; have HKK := Lib.hid hKK
          clear e9 hv1 hKK cw1
          have sC : (stX s).size = 8 := M.rowF_size
          have oC : (stX s).all (·.oneCell') = true := M.rowF_one
          have r0 := cw2.r0
          have cw3 := cw2.same ((Below.refl _ v1).alloc (Nat.le_refl _) (.cells (stX s) 75))
          have p3 := p2.alloc (.cells (stX s) 75)
          have q3 := M.RowAt.new v1 75 (stX s)
          have e8 := World.setRow_alloc_new v1 Y8 (stX s) 75
          have r8' := heap_alloc_new v1 (.cells Y8 75)
          rw [hz2] at q3 e8 r8'
          rw [← e8] at cw3 p3 q3
          rw [HC.out] at r0 sC oC cw3 p3 q3
          have iC := info37 _ sC
          have zC : Y8.size = C.size := by rw [sC]; rfl
          obtain ⟨v2, hv2⟩ : ∃ v2, (v1.alloc (.cells #[.int .u64 0, .int .u64 0, .int .u64 0, .int .u64 0, .int .u64 0, .int .u64 0, .int .u64 0, .int .u64 0] 75)).setRow (m + 1) C = v2 := ⟨_, rfl⟩
          have cw3 : CX n w s WF v2 := hv2 ▸ cw3
          have p3 : M.RowAt v2 m 83 KK := hv2 ▸ p3
          have q3 : M.RowAt v2 (m + 1) 75 C := hv2 ▸ q3
          have HV2 := Lib.hid hv2
          unfold M.RowAt at r0
          clear e8 hv2 cw2 p2 sK
          go_wp2_with (first
            | (refine wpList_store_row (x := .tmp 14) (y := .tmp 95) (cells := KK) (old := Y64) (t := 83) (ty := 83) (g := m) ?_ ?_ ?_ ?_ r9 iK zK oK ?_; rfl; rfl; rfl; rfl; rw [HV1.out])
            | (refine wpList_load_row (x := .tmp 2) (ty := 75) (g := n) (cs := C) (t := 75) (fr := (0, 0)) ?_ ?_ ?_ _ r0 und37 rfl iC ?_; rfl; rfl; rfl)
            | (refine wpList_store_row (x := .tmp 15) (y := .tmp 96) (cells := C) (old := Y8) (t := 75) (ty := 75) (g := m + 1) ?_ ?_ ?_ ?_ r8' iC zC oC ?_; rfl; rfl; rfl; rfl; rw [HV2.out]))
          rw [← HC.out] at q3
          rw [← HKK.out] at p3
          clear r0 r8' r9 hz2 hm
          go_loopg [16] 64 (fun m' i v => ∃ k : Nat, m' + k = 64 ∧ i = .int .i64 k ∧ CX n w s WF v ∧ M.RowAt v m 83 (r64 64 Sha.k) ∧ M.RowAt v (m + 1) 75 (stX (Sha.run WF s k)))
          case atStart => exact ⟨0, by omega, rfl, cw3, p3, q3⟩
          case round =>
            clear cw3 p3 q3
            obtain ⟨k, hm', rfl, ci, pk, pm⟩ := hrel
            by_cases hlt : k < 64
            · have hrs : Sha.run WF s (k + 1) = Sha.step (Sha.run WF s k) (Sha.k k) (WF k) := rfl
              have hok := Sha.run_ok (W := WF) hs k
              obtain ⟨st, hst⟩ : ∃ st, Sha.run WF s k = st := ⟨_, rfl⟩
              rw [hst] at pm hrs hok
              have HRS := Lib.hid hrs; have HOK := Lib.hid hok
              clear hrs hst hok
              have ck := (pk.cell k).trans (M.rowF_get hlt)
              have cx := (ci.r2.cell k).trans (M.rowF_get hlt)
              have q0 : wr.cell? ⟨m + 1, 0, none⟩ = some (.int .u64 (st.a : Nat)) := stX_cell pm 0 (by decide)
              have q1 : wr.cell? ⟨m + 1, 1, none⟩ = some (.int .u64 (st.b : Nat)) := stX_cell pm 1 (by decide)
              have q2 : wr.cell? ⟨m + 1, 2, none⟩ = some (.int .u64 (st.c : Nat)) := stX_cell pm 2 (by decide)
              have q4 : wr.cell? ⟨m + 1, 4, none⟩ = some (.int .u64 (st.e : Nat)) := stX_cell pm 4 (by decide)
              have q5 : wr.cell? ⟨m + 1, 5, none⟩ = some (.int .u64 (st.f : Nat)) := stX_cell pm 5 (by decide)
              have q6 : wr.cell? ⟨m + 1, 6, none⟩ = some (.int .u64 (st.g : Nat)) := stX_cell pm 6 (by decide)
              have q7 : wr.cell? ⟨m + 1, 7, none⟩ = some (.int .u64 (st.h : Nat)) := stX_cell pm 7 (by decide)
              have hch := ch_64 HOK.out.e HOK.out.f HOK.out.g
              have hmj := maj_64 HOK.out.a HOK.out.b HOK.out.c
              have hn6 := not_64 HOK.out.e
              have t6 : ∀ W, Calls Tryd.prog 38 #[.int .u64 (st.e : Nat), .int .i64 6] W fun e w' => e = .returned (.int .u64 (Sha.rot st.e 6 : Nat)) ∧ W = w' := fun W => turn_any st.e 6 W HOK.out.e (by decide)
              have t11 : ∀ W, Calls Tryd.prog 38 #[.int .u64 (st.e : Nat), .int .i64 11] W fun e w' => e = .returned (.int .u64 (Sha.rot st.e 11 : Nat)) ∧ W = w' := fun W => turn_any st.e 11 W HOK.out.e (by decide)
              have t25 : ∀ W, Calls Tryd.prog 38 #[.int .u64 (st.e : Nat), .int .i64 25] W fun e w' => e = .returned (.int .u64 (Sha.rot st.e 25 : Nat)) ∧ W = w' := fun W => turn_any st.e 25 W HOK.out.e (by decide)
              have t2' : ∀ W, Calls Tryd.prog 38 #[.int .u64 (st.a : Nat), .int .i64 2] W fun e w' => e = .returned (.int .u64 (Sha.rot st.a 2 : Nat)) ∧ W = w' := fun W => turn_any st.a 2 W HOK.out.a (by decide)
              have t13 : ∀ W, Calls Tryd.prog 38 #[.int .u64 (st.a : Nat), .int .i64 13] W fun e w' => e = .returned (.int .u64 (Sha.rot st.a 13 : Nat)) ∧ W = w' := fun W => turn_any st.a 13 W HOK.out.a (by decide)
              have t22 : ∀ W, Calls Tryd.prog 38 #[.int .u64 (st.a : Nat), .int .i64 22] W fun e w' => e = .returned (.int .u64 (Sha.rot st.a 22 : Nat)) ∧ W = w' := fun W => turn_any st.a 22 W HOK.out.a (by decide)
              have hb1 := big1_64 HOK.out.e
              have hb0 := big0_64 HOK.out.a
              have hkk := Sha.k_lt k
              obtain ⟨X, hX⟩ : ∃ X, WF k = X := ⟨_, rfl⟩
              have hxl : X < 4294967296 := by rw [← hX]; exact HWl.out k
              rw [hX] at cx
              have HX := Lib.hid hX
              obtain ⟨KI, hKI⟩ : ∃ KI, Sha.k k = KI := ⟨_, rfl⟩
              rw [hKI] at ck hkk
              have HKI := Lib.hid hKI
              clear hX hKI
              obtain ⟨s1, s2, s3, s4, s5⟩ := t1_64 HOK.out hkk hxl
              obtain ⟨s6, s7⟩ := t2_64 HOK.out
              obtain ⟨T1, hT1⟩ : ∃ T, Sha.t1 st KI X = T := ⟨_, rfl⟩
              obtain ⟨T2, hT2⟩ : ∃ T, Sha.t2 st = T := ⟨_, rfl⟩
              have l1 : T1 < 4294967296 := by rw [← hT1]; exact Nat.mod_lt _ (by decide)
              have l2 : T2 < 4294967296 := by rw [← hT2]; exact Nat.mod_lt _ (by decide)
              obtain ⟨f1, f2⟩ := small_sum l1 l2
              obtain ⟨f3, f4⟩ := small_sum HOK.out.d l1
              obtain ⟨NA, hNA⟩ : ∃ N, (T1 + T2) % 4294967296 = N := ⟨_, rfl⟩
              obtain ⟨NE, hNE⟩ : ∃ N, (st.d + T1) % 4294967296 = N := ⟨_, rfl⟩
              have hN : Sha.step st KI X = ⟨NA, st.a, st.b, st.c, NE, st.e, st.f, st.g⟩ := by
                unfold Sha.step; rw [hT1, hT2, hNA, hNE]
              rw [hT1] at s5
              rw [hT2] at s7
              rw [hNA] at f2
              rw [hNE] at f4
              have HNN := Lib.hid hN
              clear hN hNA hNE hT1 hT2 l1 l2 hkk hxl
              generalize Sha.ch st.e st.f st.g = ch at *
              generalize Sha.maj st.a st.b st.c = mj at *
              generalize Sha.big1 st.e = B1 at *
              generalize Sha.big0 st.a = B0 at *
              generalize Sha.rot st.e 6 = r6 at *
              generalize Sha.rot st.e 11 = r11 at *
              generalize Sha.rot st.e 25 = r25 at *
              generalize Sha.rot st.a 2 = r2 at *
              generalize Sha.rot st.a 13 = r13 at *
              generalize Sha.rot st.a 22 = r22 at *
              have D6 := Lib.hid t6; have D11 := Lib.hid t11; have D25 := Lib.hid t25; have D2 := Lib.hid t2'; have D13 := Lib.hid t13; have D22 := Lib.hid t22
              clear t6 t11 t25 t2' t13 t22
              obtain ⟨Cf, hCf⟩ : ∃ C : World → Prop, C = fun w' => w' = wr.drew := ⟨_, rfl⟩
              have HCf := Lib.hid hCf
              have cf0 : Cf wr.drew := by rw [hCf]
              clear hCf
              go_wp2_with fail
              refine QP.wp_region_p 22 Cf Cf (by kernel_rfl) (by kernel_rfl) cf0 ?_
              iterate 23
                (refine QP.wpQ_step (fun K hK => ?_)
                 go_simp
                 first
                   | (refine hK _ ?_; clear hK K)
                   | (refine ⟨?_, hK _ ?_⟩; decide; clear hK K)
                   | ((first | (apply Exists.intro; refine ⟨?_, hK _ ?_⟩) | refine ⟨⟨undef, ?_⟩, hK _ ?_⟩)
                      first
                        | (apply QP.al_p; decide; (focus (intro wq hq; (rw [HCf.out] at hq; subst hq); (unfold QP.oat; go_simp; first | done | exact ⟨by assumption, rfl⟩ | exact rfl | assumption | (first | exact ⟨cf0, rfl⟩ | ((with_reducible refine (D6.out _).mono ?_); rintro e w' ⟨rfl, rfl⟩; exact ⟨rfl, cf0⟩) | ((with_reducible refine (D11.out _).mono ?_); rintro e w' ⟨rfl, rfl⟩; exact ⟨rfl, cf0⟩) | ((with_reducible refine (D25.out _).mono ?_); rintro e w' ⟨rfl, rfl⟩; exact ⟨rfl, cf0⟩))))))
                        | (apply QP.al_dep; decide; decide; (focus (intro wq hq; (rw [HCf.out] at hq; subst hq); (unfold QP.oat; go_simp; first | done | exact ⟨by assumption, rfl⟩ | exact rfl | assumption | (first | exact ⟨cf0, rfl⟩ | ((with_reducible refine (D6.out _).mono ?_); rintro e w' ⟨rfl, rfl⟩; exact ⟨rfl, cf0⟩) | ((with_reducible refine (D11.out _).mono ?_); rintro e w' ⟨rfl, rfl⟩; exact ⟨rfl, cf0⟩) | ((with_reducible refine (D25.out _).mono ?_); rintro e w' ⟨rfl, rfl⟩; exact ⟨rfl, cf0⟩))))))
                        | (apply QP.al_bef; decide; decide; (focus (intro wq hq; (rw [HCf.out] at hq; subst hq); (unfold QP.oat; go_simp; first | done | exact ⟨by assumption, rfl⟩ | exact rfl | assumption | (first | exact ⟨cf0, rfl⟩ | ((with_reducible refine (D6.out _).mono ?_); rintro e w' ⟨rfl, rfl⟩; exact ⟨rfl, cf0⟩) | ((with_reducible refine (D11.out _).mono ?_); rintro e w' ⟨rfl, rfl⟩; exact ⟨rfl, cf0⟩) | ((with_reducible refine (D25.out _).mono ?_); rintro e w' ⟨rfl, rfl⟩; exact ⟨rfl, cf0⟩))))))
                        | (apply QP.al_ok; decide; (focus (intro wq hq; (rw [HCf.out] at hq; subst hq); (unfold QP.oat; go_simp; first | done | exact ⟨by assumption, rfl⟩ | exact rfl | assumption | (first | exact ⟨cf0, rfl⟩ | ((with_reducible refine (D6.out _).mono ?_); rintro e w' ⟨rfl, rfl⟩; exact ⟨rfl, cf0⟩) | ((with_reducible refine (D11.out _).mono ?_); rintro e w' ⟨rfl, rfl⟩; exact ⟨rfl, cf0⟩) | ((with_reducible refine (D25.out _).mono ?_); rintro e w' ⟨rfl, rfl⟩; exact ⟨rfl, cf0⟩))))); (focus (intro wq hq; (rw [HCf.out] at hq; subst hq); (unfold QP.oat; go_simp; first | done | exact ⟨by assumption, rfl⟩ | exact rfl | assumption | (first | exact ⟨cf0, rfl⟩ | ((with_reducible refine (D6.out _).mono ?_); rintro e w' ⟨rfl, rfl⟩; exact ⟨rfl, cf0⟩) | ((with_reducible refine (D11.out _).mono ?_); rintro e w' ⟨rfl, rfl⟩; exact ⟨rfl, cf0⟩) | ((with_reducible refine (D25.out _).mono ?_); rintro e w' ⟨rfl, rfl⟩; exact ⟨rfl, cf0⟩))))))
                      clear hK K))
              refine QP.wpQ_nil ?_
              intro wz hz
              rw [HCf.out] at hz
              subst hz
              have q3 : wr.cell? ⟨m + 1, 3, none⟩ = some (.int .u64 (st.d : Nat)) := stX_cell pm 3 (by decide)
              have ci4 := ci.drew
              have pm4 := pm.drew
              have pk4 := pk.drew
              clear ci pm pk hch hb1 hn6 s1 s2 s3 s4 s5 ck cx q7
              go_wp2_with fail
              refine (D2.out _).mono ?_
              rintro e w1 ⟨rfl, rfl⟩
              go_wp2_with fail
              refine (D13.out _).mono ?_
              rintro e w1 ⟨rfl, rfl⟩
              go_wp2_with fail
              refine (D22.out _).mono ?_
              rintro e w1 ⟨rfl, rfl⟩
              obtain ⟨D, hD⟩ : ∃ D, stX ⟨NA, st.a, st.b, st.c, NE, st.e, st.f, st.g⟩ = D := ⟨_, rfl⟩
              have sD : D.size = 8 := by rw [← hD]; exact M.rowF_size
              have oD : D.all (·.oneCell') = true := by rw [← hD]; exact M.rowF_one
              have iD := info37 _ sD
              have zD : (stX st).size = D.size := by rw [sD]; exact M.rowF_size
              have pm5 := pm4.setRow D
              have pk5 := pk4.farRow (b := m + 1) (by omega) D
              have ci5 : CX n w s WF (wr.drew.setRow (m + 1) D) :=
                ⟨ci4.r0.farRow (by omega) _, ci4.r1.farRow (by omega) _, ci4.r2.farRow (by omega) _, M.below_setRow ci4.below (by omega)⟩
              have rr := pm4
              unfold M.RowAt at rr
              have hDl : D = #[.int .u64 (NA : Int), .int .u64 (st.a : Int), .int .u64 (st.b : Int), .int .u64 (st.c : Int), .int .u64 (NE : Int), .int .u64 (st.e : Int), .int .u64 (st.f : Int), .int .u64 (st.g : Int)] := by rw [← hD]; rfl
              have HDL := Lib.hid hDl; have HD := Lib.hid hD
              clear hD hDl
              go_wp2_with (refine wpList_store_row (x := .tmp 15) (y := .tmp 184) (cells := D) (old := stX st) (t := 75) (ty := 75) (g := m + 1) ?_ ?_ ?_ ?_ rr iD zD oD ?_; rfl; rfl; rfl; (rw [HDL.out]; rfl))
              go_roundg (64 - (k + 1))
              case measure => omega
              case rel => exact ⟨k + 1, by omega, by go_num, ci5, pk5, by rw [HRS.out, HX.out, HKI.out, HNN.out, HD.out]; exact pm5⟩
            · obtain rfl : k = 64 := by omega
              obtain ⟨rv, hrv⟩ : ∃ rv, Sha.run WF s 64 = rv := ⟨_, rfl⟩
              have hcp : Sha.compress s b = Sha.add s rv := by rw [← hrv, ← HWF.out]; rfl
              rw [hrv] at pm
              have hvok := Sha.run_ok (W := WF) hs 64
              rw [hrv] at hvok
              have HCP := Lib.hid hcp
              have cc : ∃ f : Nat → Nat, (∀ j, j < 8 → f j = if j < 0 then (Sha.add s rv).get j else s.get j) ∧ M.RowAt wr n 75 (r64 8 f) ∧ M.RowAt wr (n + 1) 75 Y8 ∧ M.RowAt wr (m + 1) 75 (stX rv) ∧ Below n w wr :=
                ⟨s.get, fun j _ => rfl, ci.r0, ci.r1, pm, ci.below⟩
              have HVOK := Lib.hid hvok
              clear ci pm pk hrv hcp hvok hlt
              go_wp2
              go_loopg [23] 8 (fun m' i v => ∃ (k : Nat) (f : Nat → Nat), m' + k = 8 ∧ i = .int .i64 k ∧ (∀ j, j < 8 → f j = if j < k then (Sha.add s rv).get j else s.get j) ∧ M.RowAt v n 75 (r64 8 f) ∧ M.RowAt v (n + 1) 75 Y8 ∧ M.RowAt v (m + 1) 75 (stX rv) ∧ Below n w v)
              case atStart =>
                obtain ⟨f, h1, h2⟩ := cc
                exact ⟨0, f, by omega, rfl, h1, h2⟩
              case round =>
                clear cc hm'
                obtain ⟨k, f, hm', rfl, hf, c0, c1, c2, cb⟩ := hrel
                by_cases hlt : k < 8
                · have HF := Lib.hid hf
                  clear hf
                  have e1 := (c0.cell k).trans (M.rowF_get hlt)
                  have e2 := stX_cell c2 k hlt
                  have fk : f k = s.get k := by rw [HF.out k hlt, if_neg (by omega)]
                  rw [fk] at e1
                  have hg := Sha.add_get s rv k hlt
                  have l1 := Sha.St.get_lt hs k
                  have l2 := Sha.St.get_lt HVOK.out k
                  have d0 := c0.drew; have d1 := c1.drew; have d2 := c2.drew
                  have db := cb.drew
                  have d5 := d0.frozen k
                  have d6 := (d0.cell k).trans (M.rowF_get hlt)
                  rw [fk] at d6
                  have e3 := d0.set k (.int .u64 ((Sha.add s rv).get k : Nat))
                  rw [M.rowF_set (g := fun j => ((if j = k then (Sha.add s rv).get k else f j : Nat) : Int)) _ hlt (fun j _ => by split <;> rfl)] at e3
                  have e4 := d1.far (p := ⟨n, k, none⟩) (by show n ≠ n + 1; omega) (.int .u64 ((Sha.add s rv).get k : Nat))
                  have e5 := d2.far (p := ⟨n, k, none⟩) (by show n ≠ m + 1; omega) (.int .u64 ((Sha.add s rv).get k : Nat))
                  have e6 : Below n w (wr.drew.setCell ⟨n, k, none⟩ (.int .u64 ((Sha.add s rv).get k : Nat))) := db.setCell (Nat.le_refl _) _
                  have hF2 : ∀ j, j < 8 → (if j = k then (Sha.add s rv).get k else f j) = if j < k + 1 then (Sha.add s rv).get j else s.get j := fun j hj => by
                    by_cases h : j = k
                    · rw [if_pos h, if_pos (by omega), h]
                    · rw [if_neg h, HF.out j hj]
                      by_cases h2 : j < k
                      · rw [if_pos h2, if_pos (by omega)]
                      · rw [if_neg h2, if_neg (by omega)]
                  have HF2 := Lib.hid hF2
                  obtain ⟨F2, hF2'⟩ : ∃ F2 : Nat → Nat, (fun j => if j = k then (Sha.add s rv).get k else f j) = F2 := ⟨_, rfl⟩
                  have e3 : M.RowAt (wr.drew.setCell ⟨n, k, none⟩ (.int .u64 ((Sha.add s rv).get k : Nat))) n 75 (r64 8 F2) := by rw [← hF2']; exact e3
                  have hF3 : ∀ j, j < 8 → F2 j = if j < k + 1 then (Sha.add s rv).get j else s.get j := fun j hj => by rw [← hF2']; exact HF2.out j hj
                  have HF3 := Lib.hid hF3
                  clear hF2 hF2' hF3 fk HF2 d0 d1 d2 db
                  generalize (Sha.add s rv).get k = N at *
                  generalize s.get k = x at *
                  generalize rv.get k = y at *
                  have hs1 : IntKind.u64.wrap ((x : Int) + (y : Int)) = (x : Int) + (y : Int) := by rw [IntKind.wrap_u64]; omega
                  have hs0 : ((x : Int) + (y : Int)) % 18446744073709551616 = (x : Int) + (y : Int) := by omega
                  have hs3 : ((x : Int) + (y : Int)).tmod 4294967296 = (N : Int) := by rw [Int.tmod_eq_emod_of_nonneg (by omega)]; omega
                  have hs2 : ((x : Int) + (y : Int)) % 4294967296 = (N : Int) := by omega
                  clear hg l1 l2
                  have HE3 := Lib.hid e3; have HE4 := Lib.hid e4; have HE5 := Lib.hid e5; have HE6 := Lib.hid e6
                  clear e3 e4 e5 e6 c0 c1 c2 cb
                  go_wp2_with fail
                  go_still_tail 10, (by kernel_rfl)
                  change wpList _ _ _ _ _ wr.drew
                  generalize wr.drew = w5 at *
                  go_wp2
                  go_roundg (8 - (k + 1))
                  case measure => omega
                  case rel => exact ⟨k + 1, F2, by omega, by go_num, HF3.out, HE3.out, HE4.out, HE5.out, HE6.out⟩
                · obtain rfl : k = 8 := by omega
                  have hfin : r64 8 f = stX (Sha.add s rv) := M.rowF_congr (fun j hj => by rw [hf j hj, if_pos hj])
                  rw [hfin] at c0
                  have HCF : Hid (stX (Sha.add s rv) = stX (Sha.compress s b)) := Lib.hid (by rw [HCP.out])
                  obtain ⟨D, hD⟩ : ∃ D, stX (Sha.add s rv) = D := ⟨_, rfl⟩
                  have sD : D.size = 8 := by rw [← hD]; exact M.rowF_size
                  have zD : Y8.size = D.size := by rw [sD]; rfl
                  have oD : D.all (·.oneCell') = true := by rw [← hD]; exact M.rowF_one
                  have iD := info37 _ sD
                  have HD := Lib.hid hD
                  rw [hD] at c0
                  have q6 := c1.setRow D
                  have b6 := M.below_setRow (g := n + 1) (cs := D) cb (by omega)
                  unfold M.RowAt at c0 c1
                  clear hf hfin hD
                  go_wp2_with (first
                    | (refine wpList_load_row (x := .tmp 2) (ty := 75) (g := n) (cs := D) (t := 75) (fr := (0, 0)) ?_ ?_ ?_ _ c0 und37 rfl iD ?_; rfl; rfl; rfl)
                    | (refine wpList_store_row (x := .tmp 4) (y := .tmp 199) (cells := D) (old := Y8) (t := 75) (ty := 75) (g := n + 1) ?_ ?_ ?_ ?_ c1 iD zD oD ?_; rfl; rfl; rfl; rfl))
                  have hload := run_loadVar_row (P := Tryd.prog) _ (n + 1) 75 75 D (0, 0) _ q6 und37 rfl iD
                  refine bodyPost_ret (v := .tuple #[.agg D, .bool true]) (by simp [results, Tryd.results32, asAddr, hload]) rfl ⟨by rw [← HD.out, HCF.out], ?_⟩
                  rw [HN.out]
                  exact b6
end Go.Proofs.YtiilgkhndfnkgaaDoor
