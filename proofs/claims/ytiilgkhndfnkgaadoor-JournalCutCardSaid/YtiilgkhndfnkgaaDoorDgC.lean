/- What digest's Compress returns of eight words and a block of 64 bytes; the condition is that the table is laid. -/
import Derived.Test.YtiilgkhndfnkgaaDoorDgB
import Derived.Deep.WholeRow
import Derived.Test.YtiilgkhndfnkgaaDoorQuietP
namespace Go.Proofs.YtiilgkhndfnkgaaDoor
open Go.RowKit
set_option linter.unusedVariables false

/-- the two tables of digest, as their initialisers lay them -/
structure Tabs (w : World) : Prop where
  b : ∀ i, i < 8 → w.cell? ⟨0, i, none⟩ = some (.int .u32 (Sha.begin0.get i : Nat))
  k : ∀ i, i < 64 → w.cell? ⟨1, i, none⟩ = some (.int .u32 (Sha.k i : Nat))
theorem Tabs.lt {w : World} (h : Tabs w) : 1 < w.heap.size := World.block_lt_of_cell? w _ (h.k 0 (by decide))
theorem Tabs.below {w w' : World} {B : Nat} (h : Tabs w) (hb : Below B w w') (hB : 1 < B) : Tabs w' :=
  ⟨fun i hi => by rw [hb.cell (show 0 < B by omega)]; exact h.b i hi, fun i hi => by rw [hb.cell (show 1 < B by omega)]; exact h.k i hi⟩

abbrev r32 (n : Nat) (f : Nat → Nat) : Array Value := M.rowF .u32 n fun i => (f i : Nat)
abbrev stV (s : Sha.St) : Array Value := r32 8 s.get

def Z8 : Array Value := #[.int .u32 0, .int .u32 0, .int .u32 0, .int .u32 0, .int .u32 0, .int .u32 0, .int .u32 0, .int .u32 0]

/-- the words given lie in block n, the result's in n + 1, the words of the block in n + 2 -/
structure CI (n : Nat) (w : World) (s : Sha.St) (W : Nat → Nat) (v : World) : Prop where
  r0 : M.RowAt v n 81 (stV s)
  r1 : M.RowAt v (n + 1) 81 Z8
  r2 : M.RowAt v (n + 1 + 1) 88 (r32 64 W)
  below : Below n w v
theorem CI.drew {n : Nat} {w : World} {s : Sha.St} {W : Nat → Nat} {v : World} (h : CI n w s W v) : CI n w s W v.drew := ⟨h.r0, h.r1, h.r2, h.below.drew⟩
theorem CI.drewN {n : Nat} {w : World} {s : Sha.St} {W : Nat → Nat} {v : World} (h : CI n w s W v) (k : Nat) : CI n w s W (v.drewN k) := ⟨h.r0, h.r1, h.r2, M.below_drewN h.below k⟩
theorem CI.same {n : Nat} {w : World} {s : Sha.St} {W : Nat → Nat} {v v' : World} (h : CI n w s W v) (hb : Below v.heap.size v v') : CI n w s W v' :=
  ⟨h.r0.call hb, h.r1.call hb, h.r2.call hb, h.below.trans (hb.mono (by have := h.r0.lt; omega))⟩
theorem CI.set {n : Nat} {w : World} {s : Sha.St} {W W' : Nat → Nat} {v : World} (h : CI n w s W v) (i x : Nat) (hi : i < 64) (hW : ∀ j, j < 64 → W' j = if j = i then x else W j) :
    CI n w s W' (v.setCell ⟨n + 1 + 1, i, none⟩ (.int .u32 (x : Nat))) := by
  refine ⟨h.r0.far (by show n + 1 + 1 ≠ n; omega) _, h.r1.far (by show n + 1 + 1 ≠ n + 1; omega) _, ?_, h.below.setCell (by show n ≤ n + 1 + 1; omega) _⟩
  have := h.r2.set i (.int .u32 (x : Nat))
  rw [M.rowF_set (g := fun i => ((W' i : Nat) : Int)) _ hi (fun j hj => by rw [hW j hj]; split <;> rfl)] at this
  exact this

set_option maxRecDepth 100000 in
set_option maxHeartbeats 4000000 in
theorem compress_any (s : Sha.St) (b : ByteArray) (w : World) (hs : s.ok) (hb : b.size = 64) (ht : Tabs w) :
    Calls Tryd.prog 40 #[.agg (stV s), .string b] w fun e w' => e = .returned (.tuple #[.agg (stV (Sha.compress s b)), .bool true]) ∧ Below w.heap.size w w' := by
  obtain ⟨n, hn⟩ : ∃ n, w.heap.size = n := ⟨_, rfl⟩
  have h1n : 1 < n := hn ▸ ht.lt
  have c0 : CI n w s (Sha.pw b 0) (((w.alloc (.cells (stV s) 81)).alloc (.cells Z8 81)).alloc (.cells (r32 64 (Sha.pw b 0)) 88)) := by
    subst hn
    have a1 := M.RowAt.new w 81 (stV s)
    have a2 := M.RowAt.new (w.alloc (.cells (stV s) 81)) 81 Z8
    have a3 := M.RowAt.new ((w.alloc (.cells (stV s) 81)).alloc (.cells Z8 81)) 88 (r32 64 (Sha.pw b 0))
    rw [World.size_alloc] at a2 a3
    rw [World.size_alloc] at a3
    exact ⟨(a1.alloc _).alloc _, a2.alloc _, a3, (((Below.refl _ _).alloc (Nat.le_refl _) _).alloc (by simp) _).alloc (by simp; omega) _⟩
  have hp0 : Sha.pw b 0 = fun _ => 0 := by funext j; exact Sha.pw_zero b 0 j (by omega)
  obtain ⟨C, hC⟩ : ∃ C, stV s = C := ⟨_, rfl⟩
  obtain ⟨v0, hv0⟩ : ∃ v0, ((w.alloc (.cells C 81)).alloc (.cells #[.int .u32 0, .int .u32 0, .int .u32 0, .int .u32 0, .int .u32 0, .int .u32 0, .int .u32 0, .int .u32 0] 81)).alloc (.cells #[.int .u32 0, .int .u32 0, .int .u32 0, .int .u32 0, .int .u32 0, .int .u32 0, .int .u32 0, .int .u32 0, .int .u32 0, .int .u32 0, .int .u32 0, .int .u32 0, .int .u32 0, .int .u32 0, .int .u32 0, .int .u32 0, .int .u32 0, .int .u32 0, .int .u32 0, .int .u32 0, .int .u32 0, .int .u32 0, .int .u32 0, .int .u32 0, .int .u32 0, .int .u32 0, .int .u32 0, .int .u32 0, .int .u32 0, .int .u32 0, .int .u32 0, .int .u32 0, .int .u32 0, .int .u32 0, .int .u32 0, .int .u32 0, .int .u32 0, .int .u32 0, .int .u32 0, .int .u32 0, .int .u32 0, .int .u32 0, .int .u32 0, .int .u32 0, .int .u32 0, .int .u32 0, .int .u32 0, .int .u32 0, .int .u32 0, .int .u32 0, .int .u32 0, .int .u32 0, .int .u32 0, .int .u32 0, .int .u32 0, .int .u32 0, .int .u32 0, .int .u32 0, .int .u32 0, .int .u32 0, .int .u32 0, .int .u32 0, .int .u32 0, .int .u32 0] 88) = v0 := ⟨_, rfl⟩
  have e0 : ((w.alloc (.cells (stV s) 81)).alloc (.cells Z8 81)).alloc (.cells (r32 64 (Sha.pw b 0)) 88) = v0 := by
    rw [hp0, hC, ← hv0]; rfl
  rw [e0] at c0
  have HC := Lib.hid hC; have HV := Lib.hid hv0; have HB := Lib.hid hb; have HN := Lib.hid hn
  rw [hC]
  clear hC hv0 e0 hp0
  go_enter Tryd.func40, Tryd.ntmps40
  go_wp2
  rw [HV.out]
  clear hb hn
  go_loopg [30] 64 (fun m i wr => ∃ k : Nat, m + k = 64 ∧ i = .int .i64 k ∧ CI n w s (Sha.pw b k) wr)
  case atStart => exact ⟨0, by omega, rfl, c0⟩
  case round =>
    clear c0
    obtain ⟨k, hm, rfl, ci⟩ := hrel
    by_cases hlt : k < 64
    · have hk4 : k / 4 < 64 := by omega
      have q2 := ci.r2.cell (k / 4)
      rw [M.rowF_get hk4] at q2
      have hbk : k < b.size := by rw [HB.out]; exact hlt
      have hlw := Sha.pw_lt3 b k
      have hby := b[k].toNat_lt
      have w1 : IntKind.i64.wrap ((k : Int) / 4) = (k : Int) / 4 := IntWalk.i64_in _ (by omega)
      have w2 : (0 : Int) ≤ (k : Int) / 4 := by omega
      have w3 : (k : Int) / 4 < 64 := by omega
      have w4 : ((k : Int) / 4).toNat = k / 4 := by omega
      have w5 : IntKind.u32.wrap ((Sha.pw b k (k / 4) : Nat) * 256) = (Sha.pw b k (k / 4) : Nat) * 256 := by rw [IntKind.wrap_u32]; omega
      have w6 : IntKind.u32.wrap (b[k].toNat : Int) = (b[k].toNat : Int) := by rw [IntKind.wrap_u32]; omega
      have w7 : bits .or .u32 ((Sha.pw b k (k / 4) : Nat) * 256 : Int) (b[k].toNat : Int) = ((Sha.pw b (k + 1) (k / 4) : Nat) : Int) := by
        have h := u32_or_nat (Sha.pw b k (k / 4) * 256) b[k].toNat (by omega) (by omega)
        rw [nat_join 8 _ _ (by omega) hby, ← Sha.byte_at b k hbk, ← Sha.pw_next, Int.natCast_mul, Sha.byte_at b k hbk] at h
        exact h
      have ci2 := ci.drew
      have q3 := ci2.r2.frozen (k / 4)
      have q4 := ci2.r2.cell (k / 4)
      rw [M.rowF_get hk4] at q4
      have ci3 := ci2.set (k / 4) (Sha.pw b (k + 1) (k / 4)) hk4 (W' := Sha.pw b (k + 1)) (fun j _ => by
        split
        · rename_i h; subst h; rfl
        · rename_i h; exact Sha.pw_same b k j h)
      generalize Sha.pw b (k + 1) (k / 4) = P at *
      generalize Sha.pw b k (k / 4) = P0 at *
      have HW := Lib.hid w7
      go_wp2_with fail
      go_still_tail 13, (by kernel_rfl)
      change wpList _ _ _ _ _ wr.drew
      generalize wr.drew = wd at *
      go_wp2
      go_roundg (64 - (k + 1))
      case measure => omega
      case rel => exact ⟨k + 1, by omega, by go_num, ci3⟩
    · obtain rfl : k = 64 := by omega
      have c2 : CI n w s (Sha.W b (16 - 16)) wr := by
        have e : Sha.pw b 64 = Sha.W b 0 := by funext j; exact (Sha.W_zero b j).symm
        rw [e] at ci; exact ci
      clear ci hm hlt
      go_wp2
      go_loopg [8] 48 (fun m i wr => ∃ k : Nat, m + k = 64 ∧ 16 ≤ k ∧ i = .int .i64 k ∧ CI n w s (Sha.W b (k - 16)) wr)
      case atStart => exact ⟨16, by omega, by omega, rfl, c2⟩
      case round =>
        clear c2
        obtain ⟨k, hm, h16, rfl, ci⟩ := hrel
        by_cases hlt : k < 64
        · obtain ⟨i, hi⟩ : ∃ i, k = 16 + i := ⟨k - 16, by omega⟩
          have w1 : IntKind.i64.wrap ((k : Int) - 15) = (k : Int) - 15 := IntWalk.i64_in _ (by omega)
          have w2 : (0 : Int) ≤ (k : Int) - 15 := by omega
          have w3 : (k : Int) - 15 < 64 := by omega
          have w5 : (15 : Int) ≤ k := by omega
          have x5 : (2 : Int) ≤ k := by omega
          have w4 : ((k : Int) - 15).toNat = i + 1 := by omega
          have x1 : IntKind.i64.wrap ((k : Int) - 2) = (k : Int) - 2 := IntWalk.i64_in _ (by omega)
          have x2 : (0 : Int) ≤ (k : Int) - 2 := by omega
          have x3 : (k : Int) - 2 < 64 := by omega
          have x4 : ((k : Int) - 2).toNat = i + 14 := by omega
          rw [show k - 16 = i by omega] at ci
          have q1 := ci.r2.cell (i + 1)
          have q2 := ci.r2.cell (i + 14)
          rw [M.rowF_get (show i + 1 < 64 by omega)] at q1
          rw [M.rowF_get (show i + 14 < 64 by omega)] at q2
          have HI := Lib.hid hi
          clear hi
          have l1 := Sha.W_lt b i (i + 1)
          have l2 := Sha.W_lt b i (i + 14)
          have nx := Sha.W_next b i
          obtain ⟨x, hx⟩ : ∃ x, Sha.W b i (i + 1) = x := ⟨_, rfl⟩
          obtain ⟨y, hy⟩ : ∃ y, Sha.W b i (i + 14) = y := ⟨_, rfl⟩
          rw [hx] at q1 l1 nx
          rw [hy] at q2 l2 nx
          have NX := Lib.hid nx
          clear nx hx hy
          have LX := Lib.hid l1; have LY := Lib.hid l2
          clear l1 l2
          go_wp2_with fail
          go_still (by kernel_rfl)
          clear q1 q2 w1 w2 w3 w4 w5 x1 x2 x3 x4 x5
          obtain ⟨m, hm'⟩ : ∃ m, wr.heap.size = m := ⟨_, rfl⟩
          have tn := turns_any x [7, 18] m (wr.alloc (.cells #[.int .u64 7, .int .u64 18] 72)).drew LX.out (by decide) (by decide) (fun i h => by
            have r := (M.RowAt.new wr 72 #[.int .u64 7, .int .u64 18]).drew
            rw [hm'] at r
            rw [r.cell]
            match i, h with
            | 0, _ => rfl
            | 1, _ => rfl)
          have ci2 := (ci.same ((Below.refl _ wr).alloc (Nat.le_refl _) (.cells #[.int .u64 7, .int .u64 18] 72))).drew
          have sx := sig0_32 LX.out
          have TN := Lib.hid tn
          clear tn
          go_wp2_with fail
          refine (TN.out).mono ?_
          rintro e w2 ⟨rfl, rfl⟩
          generalize (wr.alloc (.cells #[.int .u64 7, .int .u64 18] 72)).drew = w3 at *
          clear ci hm' TN
          obtain ⟨m, hm'⟩ : ∃ m, w3.heap.size = m := ⟨_, rfl⟩
          have tn := turns_any y [17, 19] m (w3.alloc (.cells #[.int .u64 17, .int .u64 19] 72)) LY.out (by decide) (by decide) (fun i h => by
            have r := M.RowAt.new w3 72 #[.int .u64 17, .int .u64 19]
            rw [hm'] at r
            rw [r.cell]
            match i, h with
            | 0, _ => rfl
            | 1, _ => rfl)
          have ci3 := ci2.same ((Below.refl _ w3).alloc (Nat.le_refl _) (.cells #[.int .u64 17, .int .u64 19] 72))
          have sy := sig1_32 LY.out
          have TN := Lib.hid tn
          clear tn
          go_wp2_with fail
          refine (TN.out).mono ?_
          rintro e w4 ⟨rfl, rfl⟩
          generalize w3.alloc (.cells #[.int .u64 17, .int .u64 19] 72) = w4 at *
          clear ci2 hm' TN
          have w1 : IntKind.i64.wrap ((k : Int) - 16) = (k : Int) - 16 := IntWalk.i64_in _ (by omega)
          have w2 : (0 : Int) ≤ (k : Int) - 16 := by omega
          have w3' : (k : Int) - 16 < 64 := by omega
          have w4' : ((k : Int) - 16).toNat = i := by have := HI.out; omega
          have w5 : (16 : Int) ≤ k := by omega
          have x1 : IntKind.i64.wrap ((k : Int) - 7) = (k : Int) - 7 := IntWalk.i64_in _ (by omega)
          have x2 : (0 : Int) ≤ (k : Int) - 7 := by omega
          have x3 : (k : Int) - 7 < 64 := by omega
          have x4 : ((k : Int) - 7).toNat = i + 9 := by have := HI.out; omega
          have x5 : (7 : Int) ≤ k := by omega
          have hi64 : i < 48 := by have := HI.out; omega
          have q1 := ci3.r2.cell i
          have q2 := ci3.r2.cell (i + 9)
          rw [M.rowF_get (show i < 64 by omega)] at q1
          rw [M.rowF_get (show i + 9 < 64 by omega)] at q2
          have nx := NX.out
          have ci4 := ci3.drew
          have f5 := ci4.r2.frozen k
          have q5 := ci4.r2.cell k
          rw [M.rowF_get hlt] at q5
          have ci5 := ci4.set k (Sha.W b (i + 1) (16 + i)) hlt (W' := Sha.W b (i + 1)) (fun j _ => by
            split
            · rename_i h; rw [h, HI.out]
            · rename_i h; exact Sha.W_same b i j (by have := HI.out; omega))
          have s0l := Sha.sig0_lt LX.out
          have s1l := Sha.sig1_lt LY.out
          generalize Sha.W b (i + 1) (16 + i) = N at *
          generalize Sha.W b i (i + 9) = q at *
          generalize Sha.W b i i = p at *
          generalize Sha.sig0 x = S0 at *
          generalize Sha.sig1 y = S1 at *
          have hsum : IntKind.u32.wrap (IntKind.u32.wrap (IntKind.u32.wrap ((p : Int) + (S0 : Int)) + (q : Int)) + (S1 : Int)) = (N : Int) := by
            rw [IntKind.wrap_u32, IntKind.wrap_u32, IntKind.wrap_u32]; omega
          have hsum2 : ((p : Int) + (S0 : Int) + (q : Int) + (S1 : Int)) % 4294967296 = (N : Int) := by omega
          clear nx s0l s1l NX
          go_wp2_with fail
          go_still_tail 15, (by kernel_rfl)
          change wpList _ _ _ _ _ w4.drew
          generalize w4.drew = w5 at *
          go_wp2
          go_roundg (64 - (k + 1))
          case measure => omega
          case rel => exact ⟨k + 1, by omega, by omega, by go_num, by rw [show k + 1 - 16 = i + 1 by have := HI.out; omega]; exact ci5⟩
        · obtain rfl : k = 64 := by omega
          have cw : CI n w s (Sha.W b 48) wr := ci
          clear ci hm hlt h16
          obtain ⟨WF, hWF⟩ : ∃ WF, Sha.W b 48 = WF := ⟨_, rfl⟩
          have hWl : ∀ j, WF j < 4294967296 := fun j => by rw [← hWF]; exact Sha.W_lt b 48 j
          rw [hWF] at cw
          have HWF := Lib.hid hWF; have HWl := Lib.hid hWl
          clear hWF hWl
          obtain ⟨m, hm⟩ : ∃ m, wr.heap.size = m := ⟨_, rfl⟩
          have hnm : n + 1 + 1 < m := by have := cw.r2.lt; omega
          have sC : (stV s).size = Z8.size := by rw [M.rowF_size]; rfl
          have r0 := cw.r0
          have cw1 := cw.same ((Below.refl _ wr).alloc (Nat.le_refl _) (.cells (stV s) 81))
          have p1 := M.RowAt.new wr 81 (stV s)
          have e9 := World.setRow_alloc_new wr Z8 (stV s) 81
          have r9 := heap_alloc_new wr (.cells Z8 81)
          have oC : (stV s).all (·.oneCell') = true := M.rowF_one
          rw [hm] at p1 e9 r9
          rw [← e9] at cw1 p1
          rw [HC.out] at r0 cw1 p1 oC sC
          have i33 : (Tryd.prog.info? 81).map (·.size) = some C.size := by rw [sC]; kernel_rfl
          have sA : (r32 64 WF).size = 64 := M.rowF_size
          have r2 := cw1.r2
          obtain ⟨A, hA⟩ : ∃ A, r32 64 WF = A := ⟨_, rfl⟩
          rw [hA] at sA r2
          have i89 : (Tryd.prog.info? 88).map (·.size) = some A.size := by rw [sA]; kernel_rfl
          have HA := Lib.hid hA
          unfold M.RowAt at r0 r2
          obtain ⟨v1, hv1⟩ : ∃ v1, (wr.alloc (.cells #[.int .u32 0, .int .u32 0, .int .u32 0, .int .u32 0, .int .u32 0, .int .u32 0, .int .u32 0, .int .u32 0] 81)).setRow m C = v1 := ⟨_, rfl⟩
          have cw1 : CI n w s WF v1 := hv1 ▸ cw1
          have p1 : M.RowAt v1 m 81 C := hv1 ▸ p1
          have HV1 := Lib.hid hv1
          clear hA e9 cw sA hv1
          go_wp2_with (first
            | (refine wpList_load_row (x := .tmp 2) (ty := 81) (g := n) (cs := C) (t := 81) (fr := (0, 0)) ?_ ?_ ?_ _ r0 Tryd.underlying81 rfl i33 ?_; rfl; rfl; rfl)
            | (refine wpList_store_row (x := .tmp 13) (y := .tmp 86) (cells := C) (old := Z8) (t := 81) (ty := 81) (g := m) ?_ ?_ ?_ ?_ r9 i33 sC.symm oC ?_; rfl; rfl; rfl; rfl)
            | (refine wpList_load_row (x := .tmp 6) (ty := 88) (g := n + 1 + 1) (cs := A) (t := 88) (fr := (0, 0)) ?_ ?_ ?_ _ r2 Tryd.underlying88 rfl i89 ?_; rfl; rfl; rfl))
          rw [HV1.out]
          rw [← HC.out] at p1
          clear r0 r2 r9
          obtain ⟨i1, hi1⟩ : ∃ i1, Tryd.prog.info? 80 = some i1 := ⟨_, rfl⟩
          have hi1s : i1.size = 1 := by
            have : (Tryd.prog.info? 80).map (·.size) = some 1 := by kernel_rfl
            rw [hi1] at this; simpa using this
          have T1 : ∀ v, Below n w v → Tabs v := fun v hv => ht.below hv h1n
          have HT := Lib.hid T1
          have HI1 := Lib.hid hi1; have HI1s := Lib.hid hi1s
          clear T1 ht hi1 hi1s
          go_loopg [88] 64 (fun m' i v => ∃ k : Nat, m' + k = 64 ∧ i = .int .i64 k ∧ CI n w s WF v ∧ M.RowAt v m 81 (stV (Sha.run WF s k)))
          case atStart => exact ⟨0, by omega, rfl, cw1, p1⟩
          case round =>
            clear cw1 p1
            obtain ⟨k, hm', rfl, ci, pm⟩ := hrel
            by_cases hlt : k < 64
            · have hx := fun W' => run_index_arr Tryd.underlying88 HI1.out HI1s.out Tryd.underlying80 A k hlt (v := (WF k : Nat)) (by rw [← HA.out]; exact M.rowF_get hlt) W'
              have hrs : Sha.run WF s (k + 1) = Sha.step (Sha.run WF s k) (Sha.k k) (WF k) := rfl
              have hok := Sha.run_ok (W := WF) hs k
              obtain ⟨st, hst⟩ : ∃ st, Sha.run WF s k = st := ⟨_, rfl⟩
              rw [hst] at pm hrs hok
              have HRS := Lib.hid hrs; have HOK := Lib.hid hok
              clear hrs hst hok
              obtain ⟨X, hX⟩ : ∃ X, WF k = X := ⟨_, rfl⟩
              rw [hX] at hx
              have HX := Lib.hid hX
              clear hX
              have q0 : wr.cell? ⟨m, 0, none⟩ = some (.int .u32 (st.a : Nat)) := st_cell pm 0 (by decide)
              have q1 : wr.cell? ⟨m, 1, none⟩ = some (.int .u32 (st.b : Nat)) := st_cell pm 1 (by decide)
              have q2 : wr.cell? ⟨m, 2, none⟩ = some (.int .u32 (st.c : Nat)) := st_cell pm 2 (by decide)
              have q3 : wr.cell? ⟨m, 3, none⟩ = some (.int .u32 (st.d : Nat)) := st_cell pm 3 (by decide)
              have q4 : wr.cell? ⟨m, 4, none⟩ = some (.int .u32 (st.e : Nat)) := st_cell pm 4 (by decide)
              have q5 : wr.cell? ⟨m, 5, none⟩ = some (.int .u32 (st.f : Nat)) := st_cell pm 5 (by decide)
              have q6 : wr.cell? ⟨m, 6, none⟩ = some (.int .u32 (st.g : Nat)) := st_cell pm 6 (by decide)
              go_wp2_with fail
              go_still (by kernel_rfl)
              clear q0 q1 q2 q3 q4 q5 q6
              have ci := ci.drew
              have pm := pm.drew
              obtain ⟨wq, hwq⟩ : ∃ wq, wr.drew = wq := ⟨_, rfl⟩
              rw [hwq] at ci pm
              have HWQ := Lib.hid hwq
              clear hwq
              obtain ⟨mm, hmm⟩ : ∃ mm, wq.heap.size = mm := ⟨_, rfl⟩
              have tn := turns_any st.e [6, 11, 25] mm (wq.alloc (.cells #[.int .u64 6, .int .u64 11, .int .u64 25] 72)).drew HOK.out.e (by decide) (by decide) (fun i h => by
                have r := (M.RowAt.new wq 72 #[.int .u64 6, .int .u64 11, .int .u64 25]).drew
                rw [hmm] at r
                rw [r.cell]
                match i, h with
                | 0, _ => rfl
                | 1, _ => rfl
                | 2, _ => rfl)
              have TN := Lib.hid tn
              have tk := (HT.out wq ci.below).k k hlt
              have ci2 := ci.same ((Below.refl _ wq).alloc (Nat.le_refl _) (.cells #[.int .u64 6, .int .u64 11, .int .u64 25] 72))
              have pm2 := pm.call ((Below.refl _ wq).alloc (Nat.le_refl _) (.cells #[.int .u64 6, .int .u64 11, .int .u64 25] 72))
              have tk2 := (HT.out _ ci2.below).k k hlt
              have c7 : wq.cell? ⟨m, 7, none⟩ = some (.int .u32 (st.h : Nat)) := st_cell pm 7 (by decide)
              have d7 : (wq.alloc (.cells #[.int .u64 6, .int .u64 11, .int .u64 25] 72)).cell? ⟨m, 7, none⟩ = some (.int .u32 (st.h : Nat)) := st_cell pm2 7 (by decide)
              have hkk := Sha.k_lt k
              have hxl : X < 4294967296 := by rw [← HX.out]; exact HWl.out k
              generalize Sha.k k = KK at *
              have HKK := Lib.hid hkk; have HXl := Lib.hid hxl
              clear hkk hxl
              obtain ⟨Cf, hCf⟩ : ∃ C : World → Prop, C = fun w' => w' = wq.drew := ⟨_, rfl⟩
              obtain ⟨Ct, hCt⟩ : ∃ C : World → Prop, C = fun w' => w' = (wq.alloc (.cells #[.int .u64 6, .int .u64 11, .int .u64 25] 72)).drew := ⟨_, rfl⟩
              have HCf := Lib.hid hCf; have HCt := Lib.hid hCt
              have cf0 : Cf wq.drew := by rw [hCf]
              have ct0 : Ct (wq.alloc (.cells #[.int .u64 6, .int .u64 11, .int .u64 25] 72)).drew := by rw [hCt]
              have hT1 := t1_32 HOK.out HKK.out HXl.out
              clear hCf hCt tn
              go_wp2_with fail
              change Code.wp _ _ _ _ wr.drew
              rw [HWQ.out]
              refine QP.wp_region_p 3 Cf Ct (by kernel_rfl) (by kernel_rfl) cf0 ?_
              iterate 22
                (refine QP.wpQ_step (fun K hK => ?_)
                 go_simp
                 first
                   | (refine hK _ ?_; clear hK K)
                   | (refine ⟨?_, hK _ ?_⟩; decide; clear hK K)
                   | (apply Exists.intro
                      refine ⟨?_, hK _ ?_⟩
                      first
                        | (apply QP.al_p; decide; (focus (intro wq hq; (first | (rw [HCf.out] at hq; subst hq) | (rw [HCt.out] at hq; subst hq)); (unfold QP.oat; go_simp; first | done | exact ⟨by assumption, rfl⟩ | exact rfl | assumption | (first | exact ⟨ct0, rfl⟩ | (refine (TN.out).mono ?_; rintro e w' ⟨rfl, rfl⟩; exact ⟨rfl, ct0⟩))))))
                        | (apply QP.al_dep; decide; decide; (focus (intro wq hq; (first | (rw [HCf.out] at hq; subst hq) | (rw [HCt.out] at hq; subst hq)); (unfold QP.oat; go_simp; first | done | exact ⟨by assumption, rfl⟩ | exact rfl | assumption | (first | exact ⟨ct0, rfl⟩ | (refine (TN.out).mono ?_; rintro e w' ⟨rfl, rfl⟩; exact ⟨rfl, ct0⟩))))))
                        | (apply QP.al_bef; decide; decide; (focus (intro wq hq; (first | (rw [HCf.out] at hq; subst hq) | (rw [HCt.out] at hq; subst hq)); (unfold QP.oat; go_simp; first | done | exact ⟨by assumption, rfl⟩ | exact rfl | assumption | (first | exact ⟨ct0, rfl⟩ | (refine (TN.out).mono ?_; rintro e w' ⟨rfl, rfl⟩; exact ⟨rfl, ct0⟩))))))
                        | (apply QP.al_ok; decide; (focus (intro wq hq; (first | (rw [HCf.out] at hq; subst hq) | (rw [HCt.out] at hq; subst hq)); (unfold QP.oat; go_simp; first | done | exact ⟨by assumption, rfl⟩ | exact rfl | assumption | (first | exact ⟨ct0, rfl⟩ | (refine (TN.out).mono ?_; rintro e w' ⟨rfl, rfl⟩; exact ⟨rfl, ct0⟩))))); (focus (intro wq hq; (first | (rw [HCf.out] at hq; subst hq) | (rw [HCt.out] at hq; subst hq)); (unfold QP.oat; go_simp; first | done | exact ⟨by assumption, rfl⟩ | exact rfl | assumption | (first | exact ⟨ct0, rfl⟩ | (refine (TN.out).mono ?_; rintro e w' ⟨rfl, rfl⟩; exact ⟨rfl, ct0⟩))))))
                      clear hK K))
              refine QP.wpQ_nil ?_
              intro wz hz
              rw [HCt.out] at hz
              subst hz
              have ci3 := ci2.drew
              have pm3 := pm2.drew
              clear ci pm ci2 pm2 TN c7 d7 tk tk2 cf0 ct0 hT1
              obtain ⟨T1, hT1⟩ : ∃ T, Sha.t1 st KK X = T := ⟨_, rfl⟩
              obtain ⟨T2, hT2⟩ : ∃ T, Sha.t2 st = T := ⟨_, rfl⟩
              have m2 := t2_32 HOK.out
              rw [hT2] at m2
              rw [hT1]
              obtain ⟨NA, hNA⟩ : ∃ N, (T1 + T2) % 4294967296 = N := ⟨_, rfl⟩
              obtain ⟨NE, hNE⟩ : ∃ N, (st.d + T1) % 4294967296 = N := ⟨_, rfl⟩
              have eA : ((T1 : Int) + (T2 : Int)) % 4294967296 = (NA : Int) := by omega
              have eE : ((st.d : Int) + (T1 : Int)) % 4294967296 = (NE : Int) := by omega
              have hN : Sha.step st KK X = ⟨NA, st.a, st.b, st.c, NE, st.e, st.f, st.g⟩ := by
                unfold Sha.step; rw [hT1, hT2, hNA, hNE]
              have HNN := Lib.hid hN
              clear hN hNA hNE hT1 hT2
              generalize (wq.alloc (.cells #[.int .u64 6, .int .u64 11, .int .u64 25] 72)).drew = w3 at *
              obtain ⟨mm, hmm⟩ : ∃ mm, w3.heap.size = mm := ⟨_, rfl⟩
              have tn := turns_any st.a [2, 13, 22] mm (w3.alloc (.cells #[.int .u64 2, .int .u64 13, .int .u64 22] 72)) HOK.out.a (by decide) (by decide) (fun i h => by
                have r := M.RowAt.new w3 72 #[.int .u64 2, .int .u64 13, .int .u64 22]
                rw [hmm] at r
                rw [r.cell]
                match i, h with
                | 0, _ => rfl
                | 1, _ => rfl
                | 2, _ => rfl)
              have TN := Lib.hid tn
              have ci4 := ci3.same ((Below.refl _ w3).alloc (Nat.le_refl _) (.cells #[.int .u64 2, .int .u64 13, .int .u64 22] 72))
              have pm4 := pm3.call ((Below.refl _ w3).alloc (Nat.le_refl _) (.cells #[.int .u64 2, .int .u64 13, .int .u64 22] 72))
              clear tn ci3 pm3
              go_wp2_with fail
              refine (TN.out).mono ?_
              rintro e w4 ⟨rfl, rfl⟩
              generalize w3.alloc (.cells #[.int .u64 2, .int .u64 13, .int .u64 22] 72) = w4 at *
              clear TN hmm
              have pm5 := pm4.setRow (stV ⟨NA, st.a, st.b, st.c, NE, st.e, st.f, st.g⟩)
              have ci5 : CI n w s WF (w4.setRow m (stV ⟨NA, st.a, st.b, st.c, NE, st.e, st.f, st.g⟩)) :=
                ⟨ci4.r0.farRow (by omega) _, ci4.r1.farRow (by omega) _, ci4.r2.farRow (by omega) _, M.below_setRow ci4.below (by omega)⟩
              have rr := pm4
              unfold M.RowAt at rr
              have hz1 : (stV st).size = (stV ⟨NA, st.a, st.b, st.c, NE, st.e, st.f, st.g⟩).size := by rw [M.rowF_size, M.rowF_size]
              have iN : (Tryd.prog.info? 81).map (·.size) = some (stV ⟨NA, st.a, st.b, st.c, NE, st.e, st.f, st.g⟩).size := by rw [M.rowF_size]; kernel_rfl
              have oN : (stV ⟨NA, st.a, st.b, st.c, NE, st.e, st.f, st.g⟩).all (·.oneCell') = true := M.rowF_one
              go_wp2_with (refine wpList_store_row (x := .tmp 13) (y := .tmp 154) (cells := stV ⟨NA, st.a, st.b, st.c, NE, st.e, st.f, st.g⟩) (old := stV st) (t := 81) (ty := 81) (g := m) ?_ ?_ ?_ ?_ rr iN hz1 oN ?_; rfl; rfl; rfl; rfl)
              go_roundg (64 - (k + 1))
              case measure => omega
              case rel => exact ⟨k + 1, by omega, by go_num, ci5, by rw [HRS.out, HX.out, HNN.out]; exact pm5⟩
            · obtain rfl : k = 64 := by omega
              obtain ⟨rv, hrv⟩ : ∃ rv, Sha.run WF s 64 = rv := ⟨_, rfl⟩
              have hcp : Sha.compress s b = Sha.add s rv := by rw [← hrv, ← HWF.out]; rfl
              rw [hrv] at pm
              have hvok := Sha.run_ok (W := WF) hs 64
              rw [hrv] at hvok
              have HCP := Lib.hid hcp
              have cc : ∃ f : Nat → Nat, (∀ j, j < 8 → f j = if j < 0 then (Sha.add s rv).get j else s.get j) ∧ M.RowAt wr n 81 (r32 8 f) ∧ M.RowAt wr (n + 1) 81 Z8 ∧ M.RowAt wr m 81 (stV rv) ∧ Below n w wr :=
                ⟨s.get, fun j _ => rfl, ci.r0, ci.r1, pm, ci.below⟩
              have HVOK := Lib.hid hvok
              clear ci pm hrv hcp hvok hlt
              go_wp2
              go_loopg [156] 8 (fun m' i v => ∃ (k : Nat) (f : Nat → Nat), m' + k = 8 ∧ i = .int .i64 k ∧ (∀ j, j < 8 → f j = if j < k then (Sha.add s rv).get j else s.get j) ∧ M.RowAt v n 81 (r32 8 f) ∧ M.RowAt v (n + 1) 81 Z8 ∧ M.RowAt v m 81 (stV rv) ∧ Below n w v)
              case atStart =>
                obtain ⟨f, h1, h2⟩ := cc
                exact ⟨0, f, by omega, rfl, h1, h2⟩
              case round =>
                clear cc hm'
                obtain ⟨k, f, hm', rfl, hf, c0, c1, c2, cb⟩ := hrel
                by_cases hlt : k < 8
                · have HF := Lib.hid hf
                  clear hf
                  have e1 := (c0.cell k).trans (M.rowF_get hlt)
                  have e2 := st_cell c2 k hlt
                  have fk : f k = s.get k := by rw [HF.out k hlt, if_neg (by omega)]
                  rw [fk] at e1
                  have hg := Sha.add_get s rv k hlt
                  have l1 := Sha.St.get_lt hs k
                  have l2 := Sha.St.get_lt HVOK.out k
                  have d0 := c0.drew; have d1 := c1.drew; have d2 := c2.drew
                  have db := cb.drew
                  have d5 := d0.frozen k
                  have d6 := (d0.cell k).trans (M.rowF_get hlt)
                  rw [fk] at d6
                  have e3 := d0.set k (.int .u32 ((Sha.add s rv).get k : Nat))
                  rw [M.rowF_set (g := fun j => ((if j = k then (Sha.add s rv).get k else f j : Nat) : Int)) _ hlt (fun j _ => by split <;> rfl)] at e3
                  have e4 := d1.far (p := ⟨n, k, none⟩) (by show n ≠ n + 1; omega) (.int .u32 ((Sha.add s rv).get k : Nat))
                  have e5 := d2.far (p := ⟨n, k, none⟩) (by show n ≠ m; omega) (.int .u32 ((Sha.add s rv).get k : Nat))
                  have e6 : Below n w (wr.drew.setCell ⟨n, k, none⟩ (.int .u32 ((Sha.add s rv).get k : Nat))) := db.setCell (Nat.le_refl _) _
                  have hF2 : ∀ j, j < 8 → (if j = k then (Sha.add s rv).get k else f j) = if j < k + 1 then (Sha.add s rv).get j else s.get j := fun j hj => by
                    by_cases h : j = k
                    · rw [if_pos h, if_pos (by omega), h]
                    · rw [if_neg h, HF.out j hj]
                      by_cases h2 : j < k
                      · rw [if_pos h2, if_pos (by omega)]
                      · rw [if_neg h2, if_neg (by omega)]
                  have HF2 := Lib.hid hF2
                  obtain ⟨F2, hF2'⟩ : ∃ F2 : Nat → Nat, (fun j => if j = k then (Sha.add s rv).get k else f j) = F2 := ⟨_, rfl⟩
                  have e3 : M.RowAt (wr.drew.setCell ⟨n, k, none⟩ (.int .u32 ((Sha.add s rv).get k : Nat))) n 81 (r32 8 F2) := by rw [← hF2']; exact e3
                  have hF3 : ∀ j, j < 8 → F2 j = if j < k + 1 then (Sha.add s rv).get j else s.get j := fun j hj => by rw [← hF2']; exact HF2.out j hj
                  have HF3 := Lib.hid hF3
                  clear hF2 hF2' hF3 fk HF2 d0 d1 d2 db
                  generalize (Sha.add s rv).get k = N at *
                  generalize s.get k = x at *
                  generalize rv.get k = y at *
                  have hs1 : IntKind.u32.wrap ((x : Int) + (y : Int)) = (N : Int) := by rw [IntKind.wrap_u32]; omega
                  have hs2 : ((x : Int) + (y : Int)) % 4294967296 = (N : Int) := by omega
                  clear hg l1 l2
                  have HE3 := Lib.hid e3; have HE4 := Lib.hid e4; have HE5 := Lib.hid e5; have HE6 := Lib.hid e6
                  clear e3 e4 e5 e6 c0 c1 c2 cb
                  go_wp2_with fail
                  go_still_tail 8, (by kernel_rfl)
                  change wpList _ _ _ _ _ wr.drew
                  generalize wr.drew = w5 at *
                  go_wp2
                  go_roundg (8 - (k + 1))
                  case measure => omega
                  case rel => exact ⟨k + 1, F2, by omega, by go_num, HF3.out, HE3.out, HE4.out, HE5.out, HE6.out⟩
                · obtain rfl : k = 8 := by omega
                  have hfin : r32 8 f = stV (Sha.add s rv) := M.rowF_congr (fun j hj => by rw [hf j hj, if_pos hj])
                  rw [hfin] at c0
                  have HCF : Hid (stV (Sha.add s rv) = stV (Sha.compress s b)) := Lib.hid (by rw [HCP.out])
                  obtain ⟨D, hD⟩ : ∃ D, stV (Sha.add s rv) = D := ⟨_, rfl⟩
                  have sD : D.size = Z8.size := by rw [← hD, M.rowF_size]; rfl
                  have oD : D.all (·.oneCell') = true := by rw [← hD]; exact M.rowF_one
                  have iD : (Tryd.prog.info? 81).map (·.size) = some D.size := by rw [sD]; kernel_rfl
                  have HD := Lib.hid hD
                  rw [hD] at c0
                  have q6 := c1.setRow D
                  have b6 := M.below_setRow (g := n + 1) (cs := D) cb (by omega)
                  unfold M.RowAt at c0 c1
                  clear hf hfin hD
                  go_wp2_with (first
                    | (refine wpList_load_row (x := .tmp 2) (ty := 81) (g := n) (cs := D) (t := 81) (fr := (0, 0)) ?_ ?_ ?_ _ c0 Tryd.underlying81 rfl iD ?_; rfl; rfl; rfl)
                    | (refine wpList_store_row (x := .tmp 4) (y := .tmp 168) (cells := D) (old := Z8) (t := 81) (ty := 81) (g := n + 1) ?_ ?_ ?_ ?_ c1 iD sD.symm oD ?_; rfl; rfl; rfl; rfl))
                  have hload := run_loadVar_row (P := Tryd.prog) _ (n + 1) 81 81 D (0, 0) _ q6 Tryd.underlying81 rfl iD
                  refine bodyPost_ret (v := .tuple #[.agg D, .bool true]) (by simp [results, Tryd.results40, asAddr, hload]) rfl ⟨by rw [← HD.out, HCF.out], ?_⟩
                  rw [HN.out]
                  exact b6
end Go.Proofs.YtiilgkhndfnkgaaDoor
