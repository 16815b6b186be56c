/- A bank of shards in memory, and its small functions; the condition is that the bank's block is known. -/
import Derived.Test.YtnnnbgndbmcffaaPuG
namespace Go.Proofs.Ytnnnbgndbmcffaa
open Go.RowKit
set_option linter.unusedVariables false

/-- a bank's block: the purse, how many, the four holders, the tasks, what is done -/
def bankR (pu n : Nat) (h : Nat → Int) (ts ds : Value) : Array Value := #[.pointer (some ⟨pu, 0, none⟩), .int .i64 n, .int .i64 (h 0), .int .i64 (h 1), .int .i64 (h 2), .int .i64 (h 3), ts, ds]
/-- who holds a slot -/
def hold (h : Nat → Int) (c : Int) : Int := if 0 ≤ c ∧ c < 4 then h c.toNat else -1
set_option maxRecDepth 100000 in
theorem holder_any (b pu n : Nat) (h : Nat → Int) (ts ds : Value) (c : Int) (w : World) (r : M.RowAt w b 141 (bankR pu n h ts ds)) :
    Calls Try.prog 49 #[.pointer (some ⟨b, 0, none⟩), .int .i64 c] w fun e w' => e = .returned (.int .i64 (hold h c)) ∧ w = w' := by
  have c2 : w.cell? ⟨b, 2, none⟩ = some (.int .i64 (h 0)) := (r.cell 2).trans rfl
  have c3 : w.cell? ⟨b, 3, none⟩ = some (.int .i64 (h 1)) := (r.cell 3).trans rfl
  have c4 : w.cell? ⟨b, 4, none⟩ = some (.int .i64 (h 2)) := (r.cell 4).trans rfl
  have c5 : w.cell? ⟨b, 5, none⟩ = some (.int .i64 (h 3)) := (r.cell 5).trans rfl
  clear r
  unfold hold
  by_cases hc : 0 ≤ c ∧ c < 4
  · rw [if_pos hc]
    obtain rfl | rfl | rfl | rfl : c = 0 ∨ c = 1 ∨ c = 2 ∨ c = 3 := by omega
    all_goals
      clear hc
      go_enter Try.func49, Try.ntmps49
      go_wp2
      go_ret
      exact ⟨rfl, rfl⟩
  · rw [if_neg hc]
    obtain hc | ⟨hc, hc'⟩ : c < 0 ∨ (0 ≤ c ∧ 4 ≤ c) := by omega
    all_goals
      go_enter Try.func49, Try.ntmps49
      go_wp2
      go_ret
      exact ⟨rfl, rfl⟩
end Go.Proofs.Ytnnnbgndbmcffaa
