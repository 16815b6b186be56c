/- What New, All and Close of a post return, and what they leave; the condition is that the blocks of the post are known. -/
import Derived.Test.YtblbhnlmbmffkaaPoC
import Derived.Laws.MakeOwn
import Derived.OwnWalk
namespace Go.Proofs.Ytblbhnlmbmffkaa
open Go.RowKit
set_option linter.unusedVariables false

def bxRow : Array Value := ((List.range 35).map (bxCell bx0)).toArray
theorem info76 : (Try.prog.info? 76).map (fun i => (i.zero, i.size, i.bytes)) = some (some (.agg bxRow), 35, 344) := by kernel_rfl
theorem bxRow_get {j : Nat} (h : j < 35) : bxRow[j]? = some (bxCell bx0 j) := by unfold bxRow; simp [h]
theorem bxRow_size : bxRow.size = 35 := by unfold bxRow; simp
theorem made_boC (nb : Nat) : madeCells bxRow (nb * 35) = boC (fun _ => bx0) nb := by
  apply Array.ext_getElem?
  intro i
  unfold madeCells boC
  by_cases hi : i < nb * 35
  · rw [rowG_get hi, Array.getElem?_map, Array.getElem?_range, if_pos hi, bxRow_size]
    have h2 : i % 35 < 35 := Nat.mod_lt _ (by decide)
    have := bxRow_get h2
    show some (bxRow[i % 35]!) = _
    have hlt : i % 35 < bxRow.size := by rw [bxRow_size]; exact h2
    rw [getElem!_pos bxRow _ hlt]
    rw [Array.getElem?_eq_getElem hlt] at this; exact this
  · rw [rowG_out (by omega), Array.getElem?_map, Array.getElem?_range, if_neg hi]; rfl

theorem make_post (nb : Nat) (h : nb ≤ 64) (w : World) : (Instr.makeSlice 65 (.int .i64 (nb : Nat)) (.int .i64 (nb : Nat))).run Try.prog w = .ok (.slice (some ⟨w.heap.size, 0, none⟩) nb nb) (w.alloc (.cells (boC (fun _ => bx0) nb) 76)) := by
  obtain ⟨i0, hi, hz, hs, hb⟩ := info_parts info76
  have := run_make (P := Try.prog) w 65 76 i0 (.agg bxRow) Try.underlying65 hi hz .i64 .i64 (nb : Nat) (nb : Nat) (by omega) (Int.le_refl _) (by rw [hb]; omega) (by omega)
  rw [this, hs, Int.toNat_natCast]
  show Result.ok _ (w.alloc (.cells (madeCells bxRow (nb * 35)) 76)) = _
  rw [made_boC]

set_option maxRecDepth 100000 in
set_option maxHeartbeats 1000000 in
theorem new_yes (nb : Nat) (h1 : 1 ≤ nb) (h : nb ≤ 64) (w : World) :
    Calls Try.prog 8 #[.int .i64 (nb : Nat)] w fun e w' => e = .returned (.pointer (some ⟨w.heap.size + 1, 0, none⟩)) ∧ Pt (w.heap.size + 1) w.heap.size nb (fun _ => bx0) w' ∧ Below w.heap.size w w' := by
  obtain ⟨n, hn⟩ : ∃ n, w.heap.size = n := ⟨_, rfl⟩
  have HN := Lib.hid hn
  have mk := make_post nb h w
  have pt : Pt (n + 1) n nb (fun _ => bx0) ((w.alloc (.cells (boC (fun _ => bx0) nb) 76)).alloc (.cells #[.slice (some ⟨n, 0, none⟩) nb nb] 67)) := by
    refine ⟨?_, ?_, by omega, h1, h, fun _ => ok0⟩
    · have := M.RowAt.new (w.alloc (.cells (boC (fun _ => bx0) nb) 76)) 67 #[.slice (some ⟨n, 0, none⟩) nb nb]
      rw [World.size_alloc, hn] at this; exact this
    · have := M.RowAt.new w 76 (boC (fun _ => bx0) nb)
      rw [hn] at this; exact this.alloc _
  have bel : Below n w ((w.alloc (.cells (boC (fun _ => bx0) nb) 76)).alloc (.cells #[.slice (some ⟨n, 0, none⟩) nb nb] 67)) := ((Below.refl _ _).alloc (by omega) _).alloc (by simp; omega) _
  rw [hn] at mk
  have hd1 : decide ((nb : Int) < 1) = false := by simp; omega
  have hd2 : decide ((64 : Int) < (nb : Int)) = false := by simp; omega
  have e0 : (Ending.returned (.pointer (some ⟨w.heap.size + 1, 0, none⟩))) = .returned (.pointer (some ⟨n + 1, 0, none⟩)) := by rw [hn]
  rw [hn]
  generalize boC (fun _ => bx0) nb = Z at *
  clear e0
  go_enter Try.func8, Try.ntmps8
  go_wp2
  go_ret
  refine ⟨?_, pt, bel⟩
  simp
theorem new_no (x : Int) (h : x < 1 ∨ 64 < x) (w : World) : Calls Try.prog 8 #[.int .i64 x] w fun e w' => e = .returned (.pointer none) ∧ w = w' := by
  rcases h with h | h
  · go_enter Try.func8, Try.ntmps8
    go_wp2
    go_ret
    exact ⟨rfl, rfl⟩
  · have h' : ¬ x < 1 := by omega
    go_enter Try.func8, Try.ntmps8
    go_wp2
    go_ret
    exact ⟨rfl, rfl⟩

/-- all that the first k boxes have -/
def sumM (E : Nat → Bx) : Nat → Nat
  | 0 => 0
  | k + 1 => sumM E k + (E k).many
theorem sumM_le {E : Nat → Bx} (h : ∀ k, BxOk (E k)) : ∀ k, sumM E k ≤ 8 * k
  | 0 => Nat.le_refl _
  | k + 1 => by have := sumM_le h k; have := (h k).many; show sumM E k + (E k).many ≤ _; omega
set_option maxRecDepth 100000 in
set_option maxHeartbeats 1000000 in
theorem all_any {p B nb : Nat} {E : Nat → Bx} {w : World} (h : Pt p B nb E w) :
    Calls Try.prog 11 #[.pointer (some ⟨p, 0, none⟩)] w fun e w' => e = .returned (.int .i64 (sumM E nb : Nat)) ∧ w = w' := by
  have c0 : w.cell? ⟨p, 0, none⟩ = some (.slice (some ⟨B, 0, none⟩) nb nb) := (h.hp.cell 0).trans rfl
  have cm := fun j (hj : j < nb) => bo_many h.hB hj
  have le := sumM_le h.ok
  have h64 := h.nb64
  have CM := Lib.hid cm; have LE := Lib.hid le
  have hs : ∀ j, sumM E (j + 1) = sumM E j + (E j).many := fun j => rfl
  have HS := Lib.hid hs
  have hok := fun j => (h.ok j).many
  have OK := Lib.hid hok
  clear cm le h hs hok
  go_enter Try.func11, Try.ntmps11
  go_wp2
  go_loopw [3, 10] (fun s i v => ∃ j : Nat, j ≤ nb ∧ i = .int .i64 j ∧ s = .int .i64 (sumM E j : Nat) ∧ v = w) (fun _ i _ => nb - (intOf i).toNat)
  case atStart => exact ⟨0, Nat.zero_le _, rfl, rfl, rfl⟩
  case round =>
    obtain ⟨j, hj, rfl, rfl, rfl⟩ := hrel
    by_cases hlt : j < nb
    · have cm := CM.out j hlt
      have l1 := LE.out j
      have l2 := OK.out j
      have hs := HS.out j
      have HH := Lib.hid hs
      generalize sumM E j = s at *
      generalize (E j).many = m at *
      clear hs
      go_wp2
      go_roundw
      case rel => exact ⟨j + 1, by omega, by go_num, by rw [HH.out]; go_num, trivial⟩
      case measure => simp [intOf]; omega
    · obtain rfl : j = nb := by omega
      go_wp2
      go_ret
      exact ⟨rfl, rfl⟩
end Go.Proofs.Ytblbhnlmbmffkaa
