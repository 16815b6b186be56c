/- Compress, the program's and the reference's, of a block that has not 64 bytes: the words as they came, and false. -/
import Derived.Test.YtpfcalamchdciaaDoorDgZ
namespace Go.Proofs.YtpfcalamchdciaaDoor
open Go.RowKit
set_option linter.unusedVariables false

set_option maxRecDepth 100000 in
set_option maxHeartbeats 1000000 in
theorem compress_bad (s : Sha.St) (b : ByteArray) (w : World) (hb : b.size ≠ 64) :
    Calls Tryd.prog 29 #[.agg (r32 8 s.get), .string b] w fun e w' => e = .returned (.tuple #[.agg (r32 8 s.get), .bool false]) ∧ Below w.heap.size w w' := by
  obtain ⟨n, hn⟩ : ∃ n, w.heap.size = n := ⟨_, rfl⟩
  have HN := Lib.hid hn
  have hd : decide ((b.size : Int) = 64) = false := by simp; omega
  have hd' : ¬ (b.size : Int) = 64 := by omega
  obtain ⟨D, hD⟩ : ∃ D, r32 8 s.get = D := ⟨_, rfl⟩
  have sD : D.size = 8 := by rw [← hD, M.rowF_size]
  have oD : D.all (·.oneCell') = true := by rw [← hD]; exact M.rowF_one
  have iD : (Tryd.prog.info? 33).map (·.size) = some D.size := by rw [sD]; kernel_rfl
  have zD : (#[.int .u32 0, .int .u32 0, .int .u32 0, .int .u32 0, .int .u32 0, .int .u32 0, .int .u32 0, .int .u32 0] : Array Value).size = D.size := by rw [sD]; rfl
  obtain ⟨v0, hv0⟩ : ∃ v0, (w.alloc (.cells D 33)).alloc (.cells #[.int .u32 0, .int .u32 0, .int .u32 0, .int .u32 0, .int .u32 0, .int .u32 0, .int .u32 0, .int .u32 0] 33) = v0 := ⟨_, rfl⟩
  have c0 : M.RowAt v0 n 33 D ∧ M.RowAt v0 (n + 1) 33 #[.int .u32 0, .int .u32 0, .int .u32 0, .int .u32 0, .int .u32 0, .int .u32 0, .int .u32 0, .int .u32 0] ∧ Below n w v0 := by
    rw [← hv0]
    subst hn
    have a1 := M.RowAt.new w 33 D
    have a2 := M.RowAt.new (w.alloc (.cells D 33)) 33 #[.int .u32 0, .int .u32 0, .int .u32 0, .int .u32 0, .int .u32 0, .int .u32 0, .int .u32 0, .int .u32 0]
    rw [World.size_alloc] at a2
    exact ⟨a1.alloc _, a2, ((Below.refl _ _).alloc (Nat.le_refl _) _).alloc (by simp) _⟩
  obtain ⟨p0, p1, hb0⟩ := c0
  have q6 := p1.setRow D
  have b6 := M.below_setRow (g := n + 1) (cs := D) hb0 (by omega)
  rw [hD]
  unfold M.RowAt at p0 p1
  have HV := Lib.hid hv0
  have HB6 := Lib.hid b6
  clear hv0 hD b6
  go_enter Tryd.func29, Tryd.ntmps29
  go_wp2_with (first
    | (rw [HV.out]; clear hn; refine wpList_load_row (x := .tmp 2) (ty := 33) (g := n) (cs := D) (t := 33) (fr := (0, 0)) ?_ ?_ ?_ _ p0 und33 rfl iD ?_; rfl; rfl; rfl)
    | (refine wpList_store_row (x := .tmp 4) (y := .tmp 29) (cells := D) (old := #[.int .u32 0, .int .u32 0, .int .u32 0, .int .u32 0, .int .u32 0, .int .u32 0, .int .u32 0, .int .u32 0]) (t := 33) (ty := 33) (g := n + 1) ?_ ?_ ?_ ?_ p1 iD zD oD ?_; rfl; rfl; rfl; rfl))
  have hload := run_loadVar_row (P := Tryd.prog) _ (n + 1) 33 33 D (0, 0) _ q6 und33 rfl iD
  refine bodyPost_ret (v := .tuple #[.agg D, .bool false]) (by simp [results, Tryd.results29, asAddr, hload]) rfl ⟨rfl, ?_⟩
  rw [HN.out]
  exact HB6.out

set_option maxRecDepth 100000 in
set_option maxHeartbeats 1000000 in
theorem rcompress_bad (s : Sha.St) (b : ByteArray) (w : World) (hb : b.size ≠ 64) :
    Calls Tryd.prog 30 #[.agg (r64 8 s.get), .string b] w fun e w' => e = .returned (.tuple #[.agg (r64 8 s.get), .bool false]) ∧ Below w.heap.size w w' := by
  obtain ⟨n, hn⟩ : ∃ n, w.heap.size = n := ⟨_, rfl⟩
  have HN := Lib.hid hn
  have hd : decide ((b.size : Int) = 64) = false := by simp; omega
  have hd' : ¬ (b.size : Int) = 64 := by omega
  obtain ⟨D, hD⟩ : ∃ D, r64 8 s.get = D := ⟨_, rfl⟩
  have sD : D.size = 8 := by rw [← hD, M.rowF_size]
  have oD : D.all (·.oneCell') = true := by rw [← hD]; exact M.rowF_one
  have iD : (Tryd.prog.info? 37).map (·.size) = some D.size := by rw [sD]; kernel_rfl
  have zD : (#[.int .u64 0, .int .u64 0, .int .u64 0, .int .u64 0, .int .u64 0, .int .u64 0, .int .u64 0, .int .u64 0] : Array Value).size = D.size := by rw [sD]; rfl
  obtain ⟨v0, hv0⟩ : ∃ v0, (w.alloc (.cells D 37)).alloc (.cells #[.int .u64 0, .int .u64 0, .int .u64 0, .int .u64 0, .int .u64 0, .int .u64 0, .int .u64 0, .int .u64 0] 37) = v0 := ⟨_, rfl⟩
  have c0 : M.RowAt v0 n 37 D ∧ M.RowAt v0 (n + 1) 37 #[.int .u64 0, .int .u64 0, .int .u64 0, .int .u64 0, .int .u64 0, .int .u64 0, .int .u64 0, .int .u64 0] ∧ Below n w v0 := by
    rw [← hv0]
    subst hn
    have a1 := M.RowAt.new w 37 D
    have a2 := M.RowAt.new (w.alloc (.cells D 37)) 37 #[.int .u64 0, .int .u64 0, .int .u64 0, .int .u64 0, .int .u64 0, .int .u64 0, .int .u64 0, .int .u64 0]
    rw [World.size_alloc] at a2
    exact ⟨a1.alloc _, a2, ((Below.refl _ _).alloc (Nat.le_refl _) _).alloc (by simp) _⟩
  obtain ⟨p0, p1, hb0⟩ := c0
  have q6 := p1.setRow D
  have b6 := M.below_setRow (g := n + 1) (cs := D) hb0 (by omega)
  rw [hD]
  unfold M.RowAt at p0 p1
  have HV := Lib.hid hv0
  have HB6 := Lib.hid b6
  clear hv0 hD b6
  go_enter Tryd.func30, Tryd.ntmps30
  go_wp2_with (first
    | (rw [HV.out]; clear hn; refine wpList_load_row (x := .tmp 2) (ty := 37) (g := n) (cs := D) (t := 37) (fr := (0, 0)) ?_ ?_ ?_ _ p0 und37 rfl iD ?_; rfl; rfl; rfl)
    | (refine wpList_store_row (x := .tmp 4) (y := .tmp 27) (cells := D) (old := #[.int .u64 0, .int .u64 0, .int .u64 0, .int .u64 0, .int .u64 0, .int .u64 0, .int .u64 0, .int .u64 0]) (t := 37) (ty := 37) (g := n + 1) ?_ ?_ ?_ ?_ p1 iD zD oD ?_; rfl; rfl; rfl; rfl))
  have hload := run_loadVar_row (P := Tryd.prog) _ (n + 1) 37 37 D (0, 0) _ q6 und37 rfl iD
  refine bodyPost_ret (v := .tuple #[.agg D, .bool false]) (by simp [results, Tryd.results30, asAddr, hload]) rfl ⟨rfl, ?_⟩
  rw [HN.out]
  exact HB6.out
end Go.Proofs.YtpfcalamchdciaaDoor
