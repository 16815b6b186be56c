/- A lock (the closure of lock): it waits or it takes the slot; the condition is that the blocks are known. -/
import Derived.Test.YtnnnbgndbmcffaaSrC
import Derived.BigQuiet
namespace Go.Proofs.Ytnnnbgndbmcffaa
open Go.RowKit
set_option linter.unusedVariables false

/-- a task's block -/
def taskR (b : Nat) (id fr to am : Int) (steps : Value) (acted : Bool) (er : Int) (told : Value) : Array Value := #[.pointer (some ⟨b, 0, none⟩), .int .i64 id, .int .i64 fr, .int .i64 to, .int .u64 am, steps, .bool acted, .int .i64 er, told]
set_option maxRecDepth 100000 in
theorem lock_held (q0 q1 t0 t1 b tk pu n k : Nat) (hk : k < 4) (h : Nat → Int) (ts ds : Value) (id fr to am er : Int) (steps told : Value) (acted : Bool) (w : World)
    (r0 : M.RowAt w q0 t0 #[.pointer (some ⟨tk, 0, none⟩)]) (r1 : M.RowAt w q1 t1 #[.int .i64 k]) (rt : M.RowAt w tk 136 (taskR b id fr to am steps acted er told)) (rb : M.RowAt w b 141 (bankR pu n h ts ds)) (hh : h k ≠ -1) :
    Calls Try.prog 86 #[.pointer (some ⟨q0, 0, none⟩), .pointer (some ⟨q1, 0, none⟩)] w fun e w' => e = .returned (.int .i64 100) ∧ Below w.heap.size w w' := by
  have a0 : w.cell? ⟨q0, 0, none⟩ = some (.pointer (some ⟨tk, 0, none⟩)) := (r0.cell 0).trans rfl
  have a1 : w.cell? ⟨q1, 0, none⟩ = some (.int .i64 k) := (r1.cell 0).trans rfl
  have a2 : w.cell? ⟨tk, 0, none⟩ = some (.pointer (some ⟨b, 0, none⟩)) := (rt.cell 0).trans rfl
  obtain ⟨x, hx⟩ : ∃ x, h k = x := ⟨_, rfl⟩
  have a3 : w.cell? ⟨b, 2 + k, none⟩ = some (.int .i64 x) := by
    rw [rb.cell, ← hx]
    obtain rfl | rfl | rfl | rfl : k = 0 ∨ k = 1 ∨ k = 2 ∨ k = 3 := by omega
    all_goals rfl
  rw [hx] at hh
  have i1 : ((k : Nat) : Int) < 4 := by omega
  have i0 : (0 : Int) ≤ (k : Nat) := by omega
  clear r0 r1 rt rb hx
  go_enter Try.func86, Try.ntmps86
  go_wp2
  go_still (by kernel_rfl)
  go_wp2
  go_ret
  exact ⟨rfl, (Below.refl _ w).drew⟩
end Go.Proofs.Ytnnnbgndbmcffaa
