/- Step of a bank, whatever the step is; the condition is that the task's block and its step are known. -/
import Derived.Test.YtnnnbgndbmcffaaSrI
import Derived.Shelf.Abstract
namespace Go.Proofs.Ytnnnbgndbmcffaa
open Go.RowKit
set_option linter.unusedVariables false

/-- behind a step -/
def Stepped (tk sb k len c : Nat) (r : Int) (Post : World → Prop) (e : Ending) (w' : World) : Prop :=
  (r ≠ 0 → e = .returned (.int .i64 r) ∧ Post w') ∧ (r = 0 → e = .returned (.int .i64 0) ∧ ∃ v a, Post v ∧ (1 < len → a = ⟨sb, k + 1, none⟩) ∧ w' = v.setCell ⟨tk, 5, none⟩ (.slice (some a) (len - 1) (c - 1)))
set_option maxRecDepth 100000 in
set_option maxHeartbeats 4000000 in
theorem step_gen (b tk sb k len c : Nat) (id : Int) (fk : Nat) (first caps : Array Value) (r : Int) (Post : World → Prop) (w : World) (hlen : 0 < len) (hc : len ≤ c) (hc2 : c ≤ maxLen)
    (TK : Calls Try.prog 70 #[.pointer (some ⟨b, 0, none⟩), .int .i64 id] w fun e w' => e = .returned (.pointer (some ⟨tk, 0, none⟩)) ∧ w = w')
    (c5 : w.cell? ⟨tk, 5, none⟩ = some (.slice (some ⟨sb, k, none⟩) len c)) (cs : w.cell? ⟨sb, k, none⟩ = some (.func (Fn.func fk) first caps)) (en : Enters Try.prog fk)
    (CALL : Calls Try.prog fk (first ++ caps) w fun e w' => e = .returned (.int .i64 r) ∧ Post w') (hP : ∀ v, Post v → v.cell? ⟨tk, 5, none⟩ = some (.slice (some ⟨sb, k, none⟩) len c) ∧ v.frozen? ⟨tk, 5, none⟩ = false) :
    Calls Try.prog 47 #[.pointer (some ⟨b, 0, none⟩), .int .i64 id] w (Stepped tk sb k len c r Post) := by
  have TKH := Lib.hid TK; have CH := Lib.hid CALL; have PH := Lib.hid hP; have HC2 := Lib.hid hc2
  have l0 : ((len : Nat) : Int) ≠ 0 := by omega
  have l1 : (((len : Nat) : Int) == 0) = false := by simp; omega
  have l2 : (0 : Int) < (len : Nat) := by omega
  clear TK CALL hP hc2
  go_enter Try.func47, Try.ntmps47
  go_wp2_with fail
  refine (TKH.out).mono ?_
  rintro e w1 ⟨rfl, rfl⟩
  go_wp2_with (first | (rw [en, Oper.upon_enter]) | fail)
  refine (CH.out).mono ?_
  rintro e v ⟨rfl, hp⟩
  obtain ⟨p0, p1⟩ := PH.out v hp
  have HP := Lib.hid hp
  clear hp c5 cs CH TKH PH
  by_cases hr : r = 0
  · subst hr
    have i1 : (1 : Int) ≤ (len : Nat) := by omega
    have i2 : ((len : Nat) : Int) ≤ (c : Nat) := by omega
    have i3 : (1 : Int) ≤ (c : Nat) := by omega
    by_cases h1 : c = 1
    · subst h1
      obtain rfl : len = 1 := by omega
      go_wp2
      go_ret
      exact ⟨fun h => absurd rfl h, fun _ => ⟨rfl, v, ⟨sb, k, none⟩, HP.out, fun h => absurd h (by omega), rfl⟩⟩
    · go_wp2
      go_ret
      exact ⟨fun h => absurd rfl h, fun _ => ⟨rfl, v, ⟨sb, k + 1, none⟩, HP.out, fun _ => rfl, rfl⟩⟩
  · have hd : (r == 0) = false := by simpa using hr
    go_wp2
    go_ret
    exact ⟨fun _ => ⟨rfl, HP.out⟩, fun h => absurd h hr⟩
set_option maxRecDepth 100000 in
theorem step_over (b tk c : Nat) (a : Addr) (id : Int) (w : World)
    (TK : Calls Try.prog 70 #[.pointer (some ⟨b, 0, none⟩), .int .i64 id] w fun e w' => e = .returned (.pointer (some ⟨tk, 0, none⟩)) ∧ w = w')
    (c5 : w.cell? ⟨tk, 5, none⟩ = some (.slice (some a) 0 c)) : Calls Try.prog 47 #[.pointer (some ⟨b, 0, none⟩), .int .i64 id] w fun e w' => e = .returned (.int .i64 3) ∧ w = w' := by
  have TKH := Lib.hid TK
  clear TK
  go_enter Try.func47, Try.ntmps47
  go_wp2_with fail
  refine (TKH.out).mono ?_
  rintro e w1 ⟨rfl, rfl⟩
  go_wp2
  go_ret
  exact ⟨rfl, rfl⟩
set_option maxRecDepth 100000 in
theorem step_none (b : Nat) (id : Int) (w : World)
    (TK : Calls Try.prog 70 #[.pointer (some ⟨b, 0, none⟩), .int .i64 id] w fun e w' => e = .returned (.pointer none) ∧ w = w') :
    Calls Try.prog 47 #[.pointer (some ⟨b, 0, none⟩), .int .i64 id] w fun e w' => e = .returned (.int .i64 3) ∧ w = w' := by
  have TKH := Lib.hid TK
  clear TK
  go_enter Try.func47, Try.ntmps47
  go_wp2_with fail
  refine (TKH.out).mono ?_
  rintro e w1 ⟨rfl, rfl⟩
  go_wp2
  go_ret
  exact ⟨rfl, rfl⟩
end Go.Proofs.Ytnnnbgndbmcffaa
