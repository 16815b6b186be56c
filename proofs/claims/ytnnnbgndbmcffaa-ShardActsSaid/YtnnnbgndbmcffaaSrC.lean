/- A bank's tasks: task, Result where there is none; the condition is that the bank's blocks are known. -/
import Derived.Test.YtnnnbgndbmcffaaSrB
namespace Go.Proofs.Ytnnnbgndbmcffaa
open Go.RowKit
set_option linter.unusedVariables false

/-- a slice of pointers to tasks -/
def TS (w : World) (ts : Value) (tl : List Nat) : Prop :=
  (ts = .slice none 0 0 ∧ tl = []) ∨ ∃ tb cap t cs, ts = .slice (some ⟨tb, 0, none⟩) tl.length cap ∧ M.RowAt w tb t cs ∧ ∀ k (h : k < tl.length), cs[k]? = some (.pointer (some ⟨tl[k]'h, 0, none⟩))
set_option maxRecDepth 100000 in
theorem task_out (b pu n : Nat) (h : Nat → Int) (ts ds : Value) (tl : List Nat) (c : Int) (hc : c < 0 ∨ (0 ≤ c ∧ (tl.length : Int) ≤ c)) (w : World) (r : M.RowAt w b 141 (bankR pu n h ts ds)) (T : TS w ts tl) (hl : tl.length ≤ 100) :
    Calls Try.prog 70 #[.pointer (some ⟨b, 0, none⟩), .int .i64 c] w fun e w' => e = .returned (.pointer none) ∧ w = w' := by
  have c6 : w.cell? ⟨b, 6, none⟩ = some ts := (r.cell 6).trans rfl
  have HL := Lib.hid hl
  clear r hl
  rcases T with ⟨rfl, rfl⟩ | ⟨tb, cap, t, cs, rfl, _, _⟩
  all_goals
    try simp only [List.length_nil] at hc
    rcases hc with hc | ⟨hc, hc'⟩
    all_goals
      go_enter Try.func70, Try.ntmps70
      go_wp2
      go_ret
      exact ⟨rfl, rfl⟩
set_option maxRecDepth 100000 in
theorem task_in (b pu n : Nat) (h : Nat → Int) (ts ds : Value) (tl : List Nat) (k : Nat) (hk : k < tl.length) (w : World) (r : M.RowAt w b 141 (bankR pu n h ts ds)) (T : TS w ts tl) (hl : tl.length ≤ 100) :
    Calls Try.prog 70 #[.pointer (some ⟨b, 0, none⟩), .int .i64 k] w fun e w' => e = .returned (.pointer (some ⟨tl[k]'hk, 0, none⟩)) ∧ w = w' := by
  have c6 : w.cell? ⟨b, 6, none⟩ = some ts := (r.cell 6).trans rfl
  have HL := Lib.hid hl
  clear r hl
  rcases T with ⟨_, rfl⟩ | ⟨tb, cap, t, cs, rfl, rt, ht⟩
  · cases hk
  · have cl := (rt.cell k).trans (ht k hk)
    have i0 : (0 : Int) ≤ (k : Nat) := by omega
    have i1 : ((k : Nat) : Int) < (tl.length : Nat) := by omega
    clear rt ht
    generalize tl[k]'hk = p at *
    go_enter Try.func70, Try.ntmps70
    go_wp2
    go_ret
    exact ⟨rfl, rfl⟩
end Go.Proofs.Ytnnnbgndbmcffaa
