/- What digest's bytes returns; the conditions are the ranges of the words. -/
import Derived.Test.YtiilgkhndfnkgaaDoorDgB
import Derived.Deep.WholeRow
namespace Go.Proofs.YtiilgkhndfnkgaaDoor
open Go.RowKit
set_option linter.unusedVariables false

abbrev r8 (n : Nat) (f : Nat → Nat) : Array Value := M.rowF .u8 n fun i => (f i : Nat)
abbrev stW (s : Sha.St) : Array Value := M.rowF .u32 8 fun i => (s.get i : Nat)
def Z32 : Array Value := #[.int .u8 0, .int .u8 0, .int .u8 0, .int .u8 0, .int .u8 0, .int .u8 0, .int .u8 0, .int .u8 0, .int .u8 0, .int .u8 0, .int .u8 0, .int .u8 0, .int .u8 0, .int .u8 0, .int .u8 0, .int .u8 0, .int .u8 0, .int .u8 0, .int .u8 0, .int .u8 0, .int .u8 0, .int .u8 0, .int .u8 0, .int .u8 0, .int .u8 0, .int .u8 0, .int .u8 0, .int .u8 0, .int .u8 0, .int .u8 0, .int .u8 0, .int .u8 0]
theorem z32_r8 : r8 32 (fun _ => 0) = Z32 := by rfl
/-- the first k of some bytes -/
def upto (f : Nat → Nat) (k : Nat) : Nat → Nat := fun j => if j < k then f j else 0
theorem upto_set (f : Nat → Nat) (k n : Nat) (h : k < n) : (r8 n (upto f k)).setIfInBounds k (.int .u8 (f k : Nat)) = r8 n (upto f (k + 1)) :=
  M.rowF_set (g := fun i => ((upto f (k + 1) i : Nat) : Int)) _ h (fun j _ => by
    unfold upto
    by_cases he : j = k
    · rw [if_pos he, if_pos (by omega), he]
    · rw [if_neg he]
      by_cases hl : j < k
      · rw [if_pos hl, if_pos (by omega)]
      · rw [if_neg hl, if_neg (by omega)])
theorem upto_all (f : Nat → Nat) (n : Nat) : r8 n (upto f n) = r8 n f := M.rowF_congr (fun i hi => by unfold upto; rw [if_pos hi])
theorem upto_zero (f : Nat → Nat) : r8 32 (upto f 0) = Z32 := by rw [← z32_r8]; exact M.rowF_congr (fun i hi => by unfold upto; rw [if_neg (by omega)])
theorem upto_at (f : Nat → Nat) (k : Nat) : upto f k k = 0 := by unfold upto; rw [if_neg (by omega)]

set_option maxRecDepth 100000 in
set_option maxHeartbeats 1000000 in
theorem bytes_any (s : Sha.St) (w : World) (hs : s.ok) :
    Calls Tryd.prog 35 #[.agg (stW s)] w fun e w' => e = .returned (.agg (r8 32 (Sha.out s))) ∧ Below w.heap.size w w' := by
  obtain ⟨n, hn⟩ : ∃ n, w.heap.size = n := ⟨_, rfl⟩
  have HN := Lib.hid hn
  obtain ⟨v0, hv0⟩ : ∃ v0, ((w.alloc (.cells (stW s) 81)).alloc (.cells #[.int .u8 0, .int .u8 0, .int .u8 0, .int .u8 0, .int .u8 0, .int .u8 0, .int .u8 0, .int .u8 0, .int .u8 0, .int .u8 0, .int .u8 0, .int .u8 0, .int .u8 0, .int .u8 0, .int .u8 0, .int .u8 0, .int .u8 0, .int .u8 0, .int .u8 0, .int .u8 0, .int .u8 0, .int .u8 0, .int .u8 0, .int .u8 0, .int .u8 0, .int .u8 0, .int .u8 0, .int .u8 0, .int .u8 0, .int .u8 0, .int .u8 0, .int .u8 0] 65)).alloc (.cells #[.int .u8 0, .int .u8 0, .int .u8 0, .int .u8 0, .int .u8 0, .int .u8 0, .int .u8 0, .int .u8 0, .int .u8 0, .int .u8 0, .int .u8 0, .int .u8 0, .int .u8 0, .int .u8 0, .int .u8 0, .int .u8 0, .int .u8 0, .int .u8 0, .int .u8 0, .int .u8 0, .int .u8 0, .int .u8 0, .int .u8 0, .int .u8 0, .int .u8 0, .int .u8 0, .int .u8 0, .int .u8 0, .int .u8 0, .int .u8 0, .int .u8 0, .int .u8 0] 65) = v0 := ⟨_, rfl⟩
  have c0 : M.RowAt v0 n 81 (stW s) ∧ M.RowAt v0 (n + 1) 65 Z32 ∧ M.RowAt v0 (n + 1 + 1) 65 (r8 32 (upto (Sha.out s) 0)) ∧ Below n w v0 := by
    rw [← hv0, upto_zero]
    subst hn
    have a1 := M.RowAt.new w 81 (stW s)
    have a2 := M.RowAt.new (w.alloc (.cells (stW s) 81)) 65 Z32
    have a3 := M.RowAt.new ((w.alloc (.cells (stW s) 81)).alloc (.cells Z32 65)) 65 Z32
    rw [World.size_alloc] at a2 a3
    rw [World.size_alloc] at a3
    exact ⟨(a1.alloc _).alloc _, a2.alloc _, a3, (((Below.refl _ _).alloc (Nat.le_refl _) _).alloc (by simp) _).alloc (by simp; omega) _⟩
  obtain ⟨C, hC⟩ : ∃ C, stW s = C := ⟨_, rfl⟩
  have HC := Lib.hid hC
  rw [hC] at hv0 ⊢
  have HV := Lib.hid hv0
  clear hv0 hC
  go_enter Tryd.func35, Tryd.ntmps35
  go_wp2
  rw [HV.out]
  clear hn
  go_loopg [5] 32 (fun m i v => ∃ k : Nat, m + k = 32 ∧ i = .int .i64 k ∧ M.RowAt v n 81 (stW s) ∧ M.RowAt v (n + 1) 65 Z32 ∧ M.RowAt v (n + 1 + 1) 65 (r8 32 (upto (Sha.out s) k)) ∧ Below n w v)
  case atStart => exact ⟨0, by omega, rfl, c0⟩
  case round =>
    clear c0
    obtain ⟨k, hm, rfl, p0, p1, p2, hb⟩ := hrel
    by_cases hlt : k < 32
    · have q0 := st_cell p0 (k / 4) (by omega)
      have q2 := (p2.cell k).trans (M.rowF_get hlt)
      rw [upto_at] at q2
      have f2 := p2.frozen k
      have w4 : ((k : Int) / 4).toNat = k / 4 := by omega
      have hx := Sha.St.get_lt hs (k / 4)
      have e1 : Sha.out s k = s.get (k / 4) / 2 ^ (24 - 8 * (k % 4)) % 256 := rfl
      generalize s.get (k / 4) = x at *
      have HX := Lib.hid hx
      have HE := Lib.hid e1
      clear hx e1
      have ev : (x : Int) / 2 ^ (24 - 8 * (k % 4)) % 256 = ((Sha.out s k : Nat) : Int) := by
        rw [HE.out, pow_nat]; norm_cast
      have EV := Lib.hid ev
      have r2 := p2.set k (.int .u8 ((x : Int) / 2 ^ (24 - 8 * (k % 4)) % 256))
      rw [ev, upto_set _ _ _ hlt, ← ev] at r2
      have r0 := p0.far (p := ⟨n + 1 + 1, k, none⟩) (by show n + 1 + 1 ≠ n; omega) (.int .u8 ((x : Int) / 2 ^ (24 - 8 * (k % 4)) % 256))
      have r1 := p1.far (p := ⟨n + 1 + 1, k, none⟩) (by show n + 1 + 1 ≠ n + 1; omega) (.int .u8 ((x : Int) / 2 ^ (24 - 8 * (k % 4)) % 256))
      have rb : Below n w (wr.setCell ⟨n + 1 + 1, k, none⟩ (.int .u8 ((x : Int) / 2 ^ (24 - 8 * (k % 4)) % 256))) := hb.setCell (by show n ≤ n + 1 + 1; omega) _
      have R0 := Lib.hid r0; have R1 := Lib.hid r1; have R2 := Lib.hid r2; have RB := Lib.hid rb
      clear ev r0 r1 r2 rb
      go_wp2
      go_roundg (32 - (k + 1))
      case measure => omega
      case rel => exact ⟨k + 1, by omega, by go_num, R0.out, R1.out, R2.out, RB.out⟩
    · obtain rfl : k = 32 := by omega
      rw [upto_all] at p2
      obtain ⟨D, hD⟩ : ∃ D, r8 32 (Sha.out s) = D := ⟨_, rfl⟩
      have sD : D.size = Z32.size := by rw [← hD, M.rowF_size]; rfl
      have oD : D.all (·.oneCell') = true := by rw [← hD]; exact M.rowF_one
      have iD : (Tryd.prog.info? 65).map (·.size) = some D.size := by rw [sD]; kernel_rfl
      have HD := Lib.hid hD
      rw [hD] at p2
      have q6 := p1.setRow D
      have b6 := M.below_setRow (g := n + 1) (cs := D) hb (by omega)
      have ud : Tryd.prog.underlying 65 = some (.array 32 5) := by kernel_rfl
      unfold M.RowAt at p1 p2
      clear hD
      go_wp2_with (first
        | (refine wpList_load_row (x := .tmp 3) (ty := 65) (g := n + 1 + 1) (cs := D) (t := 65) (fr := (0, 0)) ?_ ?_ ?_ _ p2 ud rfl iD ?_; rfl; rfl; rfl)
        | (refine wpList_store_row (x := .tmp 2) (y := .tmp 21) (cells := D) (old := Z32) (t := 65) (ty := 65) (g := n + 1) ?_ ?_ ?_ ?_ p1 iD sD.symm oD ?_; rfl; rfl; rfl; rfl))
      have hload := run_loadVar_row (P := Tryd.prog) _ (n + 1) 65 65 D (0, 0) _ q6 ud rfl iD
      refine bodyPost_ret (v := .agg D) (by simp [results, Tryd.results35, asAddr, Act.put, hload]) rfl ⟨by rw [HD.out], ?_⟩
      rw [HN.out]
      exact b6
end Go.Proofs.YtiilgkhndfnkgaaDoor
