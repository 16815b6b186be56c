/- The reference's Back and Words: eight words in the other width; the condition is that they have 32 bits. -/
import Derived.Test.YtpfcalamchdciaaDoorDgX
namespace Go.Proofs.YtpfcalamchdciaaDoor
open Go.RowKit
set_option linter.unusedVariables false
theorem und33 : Tryd.prog.underlying 33 = some (.array 8 32) := by kernel_rfl

theorem upto_set64 (f : Nat → Nat) (k n : Nat) (h : k < n) : (r64 n (upto f k)).setIfInBounds k (.int .u64 (f k : Nat)) = r64 n (upto f (k + 1)) :=
  M.rowF_set (g := fun i => ((upto f (k + 1) i : Nat) : Int)) _ h (fun j _ => by
    unfold upto
    by_cases he : j = k
    · rw [if_pos he, if_pos (by omega), he]
    · rw [if_neg he]
      by_cases hl : j < k
      · rw [if_pos hl, if_pos (by omega)]
      · rw [if_neg hl, if_neg (by omega)])
theorem upto_all64 (f : Nat → Nat) (n : Nat) : r64 n (upto f n) = r64 n f := M.rowF_congr (fun i hi => by unfold upto; rw [if_pos hi])
theorem upto_zero64 (f : Nat → Nat) : r64 8 (upto f 0) = #[.int .u64 0, .int .u64 0, .int .u64 0, .int .u64 0, .int .u64 0, .int .u64 0, .int .u64 0, .int .u64 0] := by
  have e : (#[.int .u64 0, .int .u64 0, .int .u64 0, .int .u64 0, .int .u64 0, .int .u64 0, .int .u64 0, .int .u64 0] : Array Value) = r64 8 (fun _ => 0) := by rfl
  rw [e]; exact M.rowF_congr (fun i hi => by unfold upto; rw [if_neg (by omega)])

set_option maxRecDepth 100000 in
set_option maxHeartbeats 1000000 in
theorem back_any (s : Sha.St) (w : World) (hs : s.ok) :
    Calls Tryd.prog 31 #[.agg (r32 8 s.get)] w fun e w' => e = .returned (.agg (r64 8 s.get)) ∧ Below w.heap.size w w' := by
  obtain ⟨n, hn⟩ : ∃ n, w.heap.size = n := ⟨_, rfl⟩
  have HN := Lib.hid hn
  obtain ⟨Z, hZ⟩ : ∃ Z, r64 8 (upto s.get 0) = Z := ⟨_, rfl⟩
  obtain ⟨C, hC⟩ : ∃ C, r32 8 s.get = C := ⟨_, rfl⟩
  have HC := Lib.hid hC
  have hget : ∀ j, j < 8 → C[j]? = some (.int .u32 (s.get j : Nat)) := fun j hj => by rw [← hC, M.rowF_get hj]
  obtain ⟨v0, hv0⟩ : ∃ v0, ((w.alloc (.cells C 33)).alloc (.cells #[.int .u64 0, .int .u64 0, .int .u64 0, .int .u64 0, .int .u64 0, .int .u64 0, .int .u64 0, .int .u64 0] 37)).alloc (.cells #[.int .u64 0, .int .u64 0, .int .u64 0, .int .u64 0, .int .u64 0, .int .u64 0, .int .u64 0, .int .u64 0] 37) = v0 := ⟨_, rfl⟩
  have c0 : M.RowAt v0 n 33 C ∧ M.RowAt v0 (n + 1) 37 Z ∧ M.RowAt v0 (n + 1 + 1) 37 (r64 8 (upto s.get 0)) ∧ Below n w v0 := by
    rw [← hv0, ← hZ, upto_zero64]
    subst hn
    have a1 := M.RowAt.new w 33 C
    have a2 := M.RowAt.new (w.alloc (.cells C 33)) 37 #[.int .u64 0, .int .u64 0, .int .u64 0, .int .u64 0, .int .u64 0, .int .u64 0, .int .u64 0, .int .u64 0]
    have a3 := M.RowAt.new ((w.alloc (.cells C 33)).alloc (.cells #[.int .u64 0, .int .u64 0, .int .u64 0, .int .u64 0, .int .u64 0, .int .u64 0, .int .u64 0, .int .u64 0] 37)) 37 #[.int .u64 0, .int .u64 0, .int .u64 0, .int .u64 0, .int .u64 0, .int .u64 0, .int .u64 0, .int .u64 0]
    rw [World.size_alloc] at a2 a3
    rw [World.size_alloc] at a3
    exact ⟨(a1.alloc _).alloc _, a2.alloc _, a3, (((Below.refl _ _).alloc (Nat.le_refl _) _).alloc (by simp) _).alloc (by simp; omega) _⟩
  have sZ : Z.size = 8 := by rw [← hZ, M.rowF_size]
  rw [hC]
  have HV := Lib.hid hv0
  have HS := Lib.hid hs
  clear hv0 hC hZ hs
  go_enter Tryd.func31, Tryd.ntmps31
  go_wp2
  rw [HV.out]
  clear hn
  go_loopg [4] 8 (fun m i v => ∃ k : Nat, m + k = 8 ∧ i = .int .i64 k ∧ M.RowAt v n 33 C ∧ M.RowAt v (n + 1) 37 Z ∧ M.RowAt v (n + 1 + 1) 37 (r64 8 (upto s.get k)) ∧ Below n w v)
  case atStart => exact ⟨0, by omega, rfl, c0⟩
  case round =>
    clear c0
    obtain ⟨k, hm, rfl, p0, p1, p2, hb⟩ := hrel
    by_cases hlt : k < 8
    · have q0 := (p0.cell k).trans (hget k hlt)
      have q2 := (p2.cell k).trans (M.rowF_get hlt)
      rw [upto_at] at q2
      have f2 := p2.frozen k
      have hx := Sha.St.get_lt HS.out k
      have ev : IntKind.u64.wrap ((s.get k : Nat) : Int) = ((s.get k : Nat) : Int) := by rw [IntKind.wrap_u64]; omega
      have ev' : ((s.get k : Nat) : Int) % 18446744073709551616 = ((s.get k : Nat) : Int) := by omega
      have r2 := p2.set k (.int .u64 (s.get k : Nat))
      rw [upto_set64 _ _ _ hlt] at r2
      have r0 := p0.far (p := ⟨n + 1 + 1, k, none⟩) (by show n + 1 + 1 ≠ n; omega) (.int .u64 (s.get k : Nat))
      have r1 := p1.far (p := ⟨n + 1 + 1, k, none⟩) (by show n + 1 + 1 ≠ n + 1; omega) (.int .u64 (s.get k : Nat))
      have rb : Below n w (wr.setCell ⟨n + 1 + 1, k, none⟩ (.int .u64 (s.get k : Nat))) := hb.setCell (by show n ≤ n + 1 + 1; omega) _
      have R0 := Lib.hid r0; have R1 := Lib.hid r1; have R2 := Lib.hid r2; have RB := Lib.hid rb
      clear hx r0 r1 r2 rb
      go_wp2
      go_roundg (8 - (k + 1))
      case measure => omega
      case rel => exact ⟨k + 1, by omega, by go_num, R0.out, R1.out, R2.out, RB.out⟩
    · obtain rfl : k = 8 := by omega
      rw [upto_all64] at p2
      obtain ⟨D, hD⟩ : ∃ D, r64 8 s.get = D := ⟨_, rfl⟩
      have sD : D.size = Z.size := by rw [← hD, M.rowF_size, sZ]
      have oD : D.all (·.oneCell') = true := by rw [← hD]; exact M.rowF_one
      have iD : (Tryd.prog.info? 37).map (·.size) = some D.size := by rw [sD, sZ]; kernel_rfl
      have HD := Lib.hid hD
      rw [hD] at p2
      have q6 := p1.setRow D
      have b6 := M.below_setRow (g := n + 1) (cs := D) hb (by omega)
      unfold M.RowAt at p1 p2
      clear hD
      go_wp2_with (first
        | (refine wpList_load_row (x := .tmp 3) (ty := 37) (g := n + 1 + 1) (cs := D) (t := 37) (fr := (0, 0)) ?_ ?_ ?_ _ p2 und37 rfl iD ?_; rfl; rfl; rfl)
        | (refine wpList_store_row (x := .tmp 2) (y := .tmp 16) (cells := D) (old := Z) (t := 37) (ty := 37) (g := n + 1) ?_ ?_ ?_ ?_ p1 iD sD.symm oD ?_; rfl; rfl; rfl; rfl))
      have hload := run_loadVar_row (P := Tryd.prog) _ (n + 1) 37 37 D (0, 0) _ q6 und37 rfl iD
      refine bodyPost_ret (v := .agg D) (by simp [results, Tryd.results31, asAddr, Act.put, hload]) rfl ⟨by rw [HD.out], ?_⟩
      rw [HN.out]
      exact b6

theorem upto_set32 (f : Nat → Nat) (k n : Nat) (h : k < n) : (r32 n (upto f k)).setIfInBounds k (.int .u32 (f k : Nat)) = r32 n (upto f (k + 1)) :=
  M.rowF_set (g := fun i => ((upto f (k + 1) i : Nat) : Int)) _ h (fun j _ => by
    unfold upto
    by_cases he : j = k
    · rw [if_pos he, if_pos (by omega), he]
    · rw [if_neg he]
      by_cases hl : j < k
      · rw [if_pos hl, if_pos (by omega)]
      · rw [if_neg hl, if_neg (by omega)])
theorem upto_all32 (f : Nat → Nat) (n : Nat) : r32 n (upto f n) = r32 n f := M.rowF_congr (fun i hi => by unfold upto; rw [if_pos hi])
theorem upto_zero32 (f : Nat → Nat) : r32 8 (upto f 0) = #[.int .u32 0, .int .u32 0, .int .u32 0, .int .u32 0, .int .u32 0, .int .u32 0, .int .u32 0, .int .u32 0] := by
  have e : (#[.int .u32 0, .int .u32 0, .int .u32 0, .int .u32 0, .int .u32 0, .int .u32 0, .int .u32 0, .int .u32 0] : Array Value) = r32 8 (fun _ => 0) := by rfl
  rw [e]; exact M.rowF_congr (fun i hi => by unfold upto; rw [if_neg (by omega)])

set_option maxRecDepth 100000 in
set_option maxHeartbeats 1000000 in
theorem words_any (s : Sha.St) (w : World) (hs : s.ok) :
    Calls Tryd.prog 32 #[.agg (r64 8 s.get)] w fun e w' => e = .returned (.agg (r32 8 s.get)) ∧ Below w.heap.size w w' := by
  obtain ⟨n, hn⟩ : ∃ n, w.heap.size = n := ⟨_, rfl⟩
  have HN := Lib.hid hn
  obtain ⟨Z, hZ⟩ : ∃ Z, r32 8 (upto s.get 0) = Z := ⟨_, rfl⟩
  obtain ⟨C, hC⟩ : ∃ C, r64 8 s.get = C := ⟨_, rfl⟩
  have HC := Lib.hid hC
  have hget : ∀ j, j < 8 → C[j]? = some (.int .u64 (s.get j : Nat)) := fun j hj => by rw [← hC, M.rowF_get hj]
  obtain ⟨v0, hv0⟩ : ∃ v0, ((w.alloc (.cells C 37)).alloc (.cells #[.int .u32 0, .int .u32 0, .int .u32 0, .int .u32 0, .int .u32 0, .int .u32 0, .int .u32 0, .int .u32 0] 33)).alloc (.cells #[.int .u32 0, .int .u32 0, .int .u32 0, .int .u32 0, .int .u32 0, .int .u32 0, .int .u32 0, .int .u32 0] 33) = v0 := ⟨_, rfl⟩
  have c0 : M.RowAt v0 n 37 C ∧ M.RowAt v0 (n + 1) 33 Z ∧ M.RowAt v0 (n + 1 + 1) 33 (r32 8 (upto s.get 0)) ∧ Below n w v0 := by
    rw [← hv0, ← hZ, upto_zero32]
    subst hn
    have a1 := M.RowAt.new w 37 C
    have a2 := M.RowAt.new (w.alloc (.cells C 37)) 33 #[.int .u32 0, .int .u32 0, .int .u32 0, .int .u32 0, .int .u32 0, .int .u32 0, .int .u32 0, .int .u32 0]
    have a3 := M.RowAt.new ((w.alloc (.cells C 37)).alloc (.cells #[.int .u32 0, .int .u32 0, .int .u32 0, .int .u32 0, .int .u32 0, .int .u32 0, .int .u32 0, .int .u32 0] 33)) 33 #[.int .u32 0, .int .u32 0, .int .u32 0, .int .u32 0, .int .u32 0, .int .u32 0, .int .u32 0, .int .u32 0]
    rw [World.size_alloc] at a2 a3
    rw [World.size_alloc] at a3
    exact ⟨(a1.alloc _).alloc _, a2.alloc _, a3, (((Below.refl _ _).alloc (Nat.le_refl _) _).alloc (by simp) _).alloc (by simp; omega) _⟩
  have sZ : Z.size = 8 := by rw [← hZ, M.rowF_size]
  rw [hC]
  have HV := Lib.hid hv0
  have HS := Lib.hid hs
  clear hv0 hC hZ hs
  go_enter Tryd.func32, Tryd.ntmps32
  go_wp2
  rw [HV.out]
  clear hn
  go_loopg [4] 8 (fun m i v => ∃ k : Nat, m + k = 8 ∧ i = .int .i64 k ∧ M.RowAt v n 37 C ∧ M.RowAt v (n + 1) 33 Z ∧ M.RowAt v (n + 1 + 1) 33 (r32 8 (upto s.get k)) ∧ Below n w v)
  case atStart => exact ⟨0, by omega, rfl, c0⟩
  case round =>
    clear c0
    obtain ⟨k, hm, rfl, p0, p1, p2, hb⟩ := hrel
    by_cases hlt : k < 8
    · have q0 := (p0.cell k).trans (hget k hlt)
      have q2 := (p2.cell k).trans (M.rowF_get hlt)
      rw [upto_at] at q2
      have f2 := p2.frozen k
      have hx := Sha.St.get_lt HS.out k
      have ev : IntKind.u32.wrap ((s.get k : Nat) : Int) = ((s.get k : Nat) : Int) := by rw [IntKind.wrap_u32]; omega
      have ev' : ((s.get k : Nat) : Int) % 4294967296 = ((s.get k : Nat) : Int) := by omega
      have r2 := p2.set k (.int .u32 (s.get k : Nat))
      rw [upto_set32 _ _ _ hlt] at r2
      have r0 := p0.far (p := ⟨n + 1 + 1, k, none⟩) (by show n + 1 + 1 ≠ n; omega) (.int .u32 (s.get k : Nat))
      have r1 := p1.far (p := ⟨n + 1 + 1, k, none⟩) (by show n + 1 + 1 ≠ n + 1; omega) (.int .u32 (s.get k : Nat))
      have rb : Below n w (wr.setCell ⟨n + 1 + 1, k, none⟩ (.int .u32 (s.get k : Nat))) := hb.setCell (by show n ≤ n + 1 + 1; omega) _
      have R0 := Lib.hid r0; have R1 := Lib.hid r1; have R2 := Lib.hid r2; have RB := Lib.hid rb
      clear hx r0 r1 r2 rb
      go_wp2
      go_roundg (8 - (k + 1))
      case measure => omega
      case rel => exact ⟨k + 1, by omega, by go_num, R0.out, R1.out, R2.out, RB.out⟩
    · obtain rfl : k = 8 := by omega
      rw [upto_all32] at p2
      obtain ⟨D, hD⟩ : ∃ D, r32 8 s.get = D := ⟨_, rfl⟩
      have sD : D.size = Z.size := by rw [← hD, M.rowF_size, sZ]
      have oD : D.all (·.oneCell') = true := by rw [← hD]; exact M.rowF_one
      have iD : (Tryd.prog.info? 33).map (·.size) = some D.size := by rw [sD, sZ]; kernel_rfl
      have HD := Lib.hid hD
      rw [hD] at p2
      have q6 := p1.setRow D
      have b6 := M.below_setRow (g := n + 1) (cs := D) hb (by omega)
      unfold M.RowAt at p1 p2
      clear hD
      go_wp2_with (first
        | (refine wpList_load_row (x := .tmp 3) (ty := 33) (g := n + 1 + 1) (cs := D) (t := 33) (fr := (0, 0)) ?_ ?_ ?_ _ p2 und33 rfl iD ?_; rfl; rfl; rfl)
        | (refine wpList_store_row (x := .tmp 2) (y := .tmp 16) (cells := D) (old := Z) (t := 33) (ty := 33) (g := n + 1) ?_ ?_ ?_ ?_ p1 iD sD.symm oD ?_; rfl; rfl; rfl; rfl))
      have hload := run_loadVar_row (P := Tryd.prog) _ (n + 1) 33 33 D (0, 0) _ q6 und33 rfl iD
      refine bodyPost_ret (v := .agg D) (by simp [results, Tryd.results32, asAddr, Act.put, hload]) rfl ⟨by rw [HD.out], ?_⟩
      rw [HN.out]
      exact b6
end Go.Proofs.YtpfcalamchdciaaDoor
