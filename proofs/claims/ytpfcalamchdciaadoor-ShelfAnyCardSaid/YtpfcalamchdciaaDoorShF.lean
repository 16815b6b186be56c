/- What the shelf's Len and Least return; the condition is that the shelf's block is known. -/
import Derived.Test.YtpfcalamchdciaaDoorShE
namespace Go.Proofs.YtpfcalamchdciaaDoor
open Go.RowKit
set_option linter.unusedVariables false
theorem shC_extract (E : Nat → Ent) (k : Nat) (hk : k < 17) : (shC E).extract (k * 34) (k * 34 + 34) = (E k).row := by
  apply Array.ext_getElem?
  intro j
  have r : (E k).row[j]? = (E k).cells[j]? := by unfold Ent.row; exact List.getElem?_toArray
  rw [Array.getElem?_extract, shC_size, Nat.min_eq_left (by omega), r]
  by_cases h : j < 34
  · rw [if_pos (by omega), Nat.mul_comm, shC_get E k j hk h]
  · rw [if_neg (by omega), List.getElem?_eq_none (by rw [Ent.len]; omega)]
theorem sz68 : (Tryd.prog.info? 68).map (·.size) = some 34 := by kernel_rfl
theorem run_index_shelf (E : Nat → Ent) (k : Nat) (hk : k < 17) (W : World) : (Instr.index 69 (.agg (shC E)) (.int .i64 (k : Nat))).run Tryd.prog W = .ok (.agg (E k).row) W := by
  obtain ⟨i0, hi, hs⟩ : ∃ i0, Tryd.prog.info? 68 = some i0 ∧ i0.size = 34 := by
    have := sz68
    cases h : Tryd.prog.info? 68 with
    | none => rw [h] at this; cases this
    | some i0 => rw [h] at this; exact ⟨i0, rfl, by simpa using this⟩
  have hx := shC_extract E k hk
  simp [Instr.index, asIntOf, run_underlying und69, run_underlying Tryd.underlying68, isAgg, hk, sizeOf, typeInfo, hi, hs, part, hx, go_sem]

/-- how many of the first k places have a secret -/
def cnt (E : Nat → Ent) : Nat → Nat
  | 0 => 0
  | k + 1 => cnt E k + if (E k).full then 1 else 0
theorem cnt_le (E : Nat → Ent) (k : Nat) : cnt E k ≤ k := by
  induction k with
  | zero => exact Nat.le_refl _
  | succ k ih => show cnt E k + (if (E k).full then 1 else 0) ≤ k + 1; split <;> omega

set_option maxRecDepth 100000 in
set_option maxHeartbeats 4000000 in
theorem len_any (s : Nat) (E : Nat → Ent) (w : World) (hs : M.RowAt w s 71 (shC E)) :
    Calls Tryd.prog 49 #[.pointer (some ⟨s, 0, none⟩)] w fun e w' => e = .returned (.int .i64 (cnt E 17 : Nat)) ∧ Below w.heap.size w w' := by
  obtain ⟨n, hn⟩ : ∃ n, w.heap.size = n := ⟨_, rfl⟩
  have HN := Lib.hid hn
  have kb := KB.start w
  rw [hn] at kb
  have iS : (Tryd.prog.info? 69).map (·.size) = some (shC E).size := by rw [shC_size]; kernel_rfl
  have hidx := run_index_shelf E
  have HX := Lib.hid hidx
  obtain ⟨S, hS⟩ : ∃ S, shC E = S := ⟨_, rfl⟩
  rw [hS] at iS hs HX
  have rs : w.heap[s]? = some (.cells S 71 (0, 0)) := hs
  clear hidx hS hs hn
  go_enter Tryd.func49, Tryd.ntmps49
  go_wp2_with (refine wpList_load_row (x := .tmp 8) (ty := 69) (g := s) (cs := S) (t := 71) (fr := (0, 0)) ?_ ?_ ?_ _ rs und69 rfl iS ?_; rfl; rfl; rfl)
  go_loopg [3, 10] 17 (fun m c i v => ∃ k : Nat, m + k = 17 ∧ c = .int .i64 (cnt E k : Nat) ∧ i = .int .i64 k ∧ KB n w [] v)
  case atStart => exact ⟨0, by omega, rfl, rfl, kb⟩
  case round =>
    clear kb rs
    obtain ⟨k, hm, rfl, rfl, kb⟩ := hrel
    by_cases hlt : k < 17
    · have hx := fun W' => HX.out k hlt W'
      have iR := ent_info (E k)
      have oR := (E k).row_one
      have zR : Z68.size = (E k).row.size := by unfold Z68; rw [Ent.row_size, Ent.row_size]
      have c0 : (E k).row[0]? = some (.bool (E k).full) := (E k).c0
      have hk3 : (k : Int) < 17 := by omega
      obtain ⟨g, VG, UG, hg, hVG, rVG, hUG, kg, geg, ltg⟩ := kb.box 68 (#[.bool false, .int .i64 0, .int .u8 0, .int .u8 0, .int .u8 0, .int .u8 0, .int .u8 0, .int .u8 0, .int .u8 0, .int .u8 0, .int .u8 0, .int .u8 0, .int .u8 0, .int .u8 0, .int .u8 0, .int .u8 0, .int .u8 0, .int .u8 0, .int .u8 0, .int .u8 0, .int .u8 0, .int .u8 0, .int .u8 0, .int .u8 0, .int .u8 0, .int .u8 0, .int .u8 0, .int .u8 0, .int .u8 0, .int .u8 0, .int .u8 0, .int .u8 0, .int .u8 0, .int .u8 0]) (E k).row
      have Hg := Lib.hid hg; have HVG := Lib.hid hVG; have HUG := Lib.hid hUG
      have cG := (M.RowAt.cell (kg.row g 68 (E k).row (by simp)) 0).trans c0
      have hc : cnt E (k + 1) = cnt E k + if (E k).full then 1 else 0 := rfl
      have HC := Lib.hid hc
      have hle := cnt_le E k
      generalize cnt E k = c at *
      clear hg hVG hUG kb ltg hc c0
      generalize (E k).row = D at *
      cases hf : (E k).full
      · rw [hf] at cG HC
        clear hf
        go_wp2_with (first
          | (rw [Hg.out, HVG.out]; refine wpList_store_row (x := .tmp 5) (y := .tmp 12) (cells := D) (old := #[.bool false, .int .i64 0, .int .u8 0, .int .u8 0, .int .u8 0, .int .u8 0, .int .u8 0, .int .u8 0, .int .u8 0, .int .u8 0, .int .u8 0, .int .u8 0, .int .u8 0, .int .u8 0, .int .u8 0, .int .u8 0, .int .u8 0, .int .u8 0, .int .u8 0, .int .u8 0, .int .u8 0, .int .u8 0, .int .u8 0, .int .u8 0, .int .u8 0, .int .u8 0, .int .u8 0, .int .u8 0, .int .u8 0, .int .u8 0, .int .u8 0, .int .u8 0, .int .u8 0, .int .u8 0]) (t := 68) (ty := 68) (g := g) ?_ ?_ ?_ ?_ rVG iR zR oR ?_; rfl; rfl; rfl; rfl; rw [HUG.out])
          | fail)
        go_roundg (17 - (k + 1))
        case measure => omega
        case rel => exact ⟨k + 1, by omega, by rw [HC.out]; rfl, by go_num, kg.sub (by simp)⟩
      · rw [hf] at cG HC
        clear hf
        go_wp2_with (first
          | (rw [Hg.out, HVG.out]; refine wpList_store_row (x := .tmp 5) (y := .tmp 12) (cells := D) (old := #[.bool false, .int .i64 0, .int .u8 0, .int .u8 0, .int .u8 0, .int .u8 0, .int .u8 0, .int .u8 0, .int .u8 0, .int .u8 0, .int .u8 0, .int .u8 0, .int .u8 0, .int .u8 0, .int .u8 0, .int .u8 0, .int .u8 0, .int .u8 0, .int .u8 0, .int .u8 0, .int .u8 0, .int .u8 0, .int .u8 0, .int .u8 0, .int .u8 0, .int .u8 0, .int .u8 0, .int .u8 0, .int .u8 0, .int .u8 0, .int .u8 0, .int .u8 0, .int .u8 0, .int .u8 0]) (t := 68) (ty := 68) (g := g) ?_ ?_ ?_ ?_ rVG iR zR oR ?_; rfl; rfl; rfl; rfl; rw [HUG.out])
          | fail)
        go_roundg (17 - (k + 1))
        case measure => omega
        case rel => exact ⟨k + 1, by omega, by rw [HC.out]; go_num, by go_num, kg.sub (by simp)⟩
    · obtain rfl : k = 17 := by omega
      go_wp2
      go_ret
      exact ⟨rfl, by rw [HN.out]; exact kb.below⟩
end Go.Proofs.YtpfcalamchdciaaDoor
