/- A step that goes wrong panics; what catches it tells its error; the conditions are that the blocks are known. -/
import Derived.Test.YtiilgkhndfnkgaaWiL
import Derived.Defers
import Derived.Recover
namespace Go.Proofs.Ytiilgkhndfnkgaa
open Go.RowKit Go.Shelf
set_option linter.unusedVariables false

/-- what a step panics with -/
def flt (ev : Int) : PanicEntry := { v := .iface 104 (.agg #[.int .i64 ev]), recovered := false }
theorem must_err (ev : Int) (hz : (ev == 0) = false) (w : World) : Calls Try.prog 46 #[.int .i64 ev] w fun e w' => e = .panicked [flt ev] ∧ w = w' := by
  have hz' : (ev != 0) = true := by simpa using hz
  go_enter Try.func46, Try.ntmps46
  go_wp2
  exact ⟨rfl, rfl, rfl⟩
theorem ta_nil (w : World) : (Instr.typeAssert .nilIface 20 104 true).run Try.prog w = .ok (.tuple #[.agg #[.int .i64 0], .bool false]) w := by kernel_rfl
theorem ta_flt (ev : Int) (w : World) : (Instr.typeAssert (.iface 104 (.agg #[.int .i64 ev])) 20 104 true).run Try.prog w = .ok (.tuple #[.agg #[.int .i64 ev], .bool true]) w := by kernel_rfl
set_option maxRecDepth 100000 in
theorem tr_idle (p : Nat) (w : World) :
    CallsD Try.prog 65 #[.pointer (some ⟨p, 0, none⟩)] .returning w fun e u' w' => e = .returned (.tuple #[]) ∧ u' = .returning ∧ Below w.heap.size w w' := by
  have t0 := ta_nil
  refine callsD_of_wpS Try.func65 rfl fun c₀ cs hu => ?_
  change Code.wpS Try.prog _ _ { tmps := #[.pointer (some ⟨p, 0, none⟩), undef, undef, undef, undef, undef, undef, undef, undef, undef, undef], defers := [] } (c₀ :: cs) w
  apply wpS_seq
  apply wpS_region
  simp [wpOpsS, go_sem, recoverD, hu, Exit.thenS, t0]
  apply wpS_seq
  apply wpS_region
  simp [wpOpsS, go_sem, Exit.thenS]
  refine wpS_cond (t := false) (by simp [Act.eval]) ?_
  simp only [Bool.false_eq_true, if_false]
  refine wpS_of_wp (wp_skip ?_)
  have hb := (Below.refl w.heap.size w).alloc (Nat.le_refl _) (.cells #[.int .i64 0] 104)
  cases c₀
  simp_all [bodyPostS, results, Try.results65]
set_option maxRecDepth 100000 in
theorem tr_caught (p : Nat) (ev x : Int) (older : List PanicEntry) (w : World) (hc : w.cell? ⟨p, 0, none⟩ = some (.int .i64 x)) (hz : w.frozen? ⟨p, 0, none⟩ = false) :
    CallsD Try.prog 65 #[.pointer (some ⟨p, 0, none⟩)] (.panicking (flt ev :: older)) w fun e u' w' =>
      e = .returned (.tuple #[]) ∧ u' = .panicking ({ flt ev with recovered := true } :: older) ∧ w' = (w.alloc (.cells #[.int .i64 ev] 104)).setCell ⟨p, 0, none⟩ (.int .i64 ev) := by
  have t0 := ta_flt ev
  obtain ⟨V, hV⟩ : ∃ V, w.alloc (.cells #[.int .i64 ev] 104) = V := ⟨_, rfl⟩
  have c1 : V.cell? ⟨p, 0, none⟩ = some (.int .i64 x) := by
    rw [← hV, ((Below.refl w.heap.size w).alloc (Nat.le_refl _) _).cell (World.block_lt_of_cell? w _ hc)]; exact hc
  have c2 : V.frozen? ⟨p, 0, none⟩ = false := by
    rw [← hV, ((Below.refl w.heap.size w).alloc (Nat.le_refl _) _).frozen (World.block_lt_of_cell? w _ hc)]; exact hz
  have c3 : V.cell? ⟨w.heap.size, 0, none⟩ = some (.int .i64 ev) := by rw [← hV]; exact ((M.RowAt.new w 104 #[.int .i64 ev]).cell 0).trans rfl
  refine callsD_of_wpS Try.func65 rfl fun c₀ cs hu => ?_
  change Code.wpS Try.prog _ _ { tmps := #[.pointer (some ⟨p, 0, none⟩), undef, undef, undef, undef, undef, undef, undef, undef, undef, undef], defers := [] } (c₀ :: cs) w
  apply wpS_seq
  apply wpS_region
  simp [wpOpsS, go_sem, recoverD, hu, Exit.thenS, t0, flt, hV]
  apply wpS_seq
  apply wpS_region
  simp [wpOpsS, go_sem, Exit.thenS]
  refine wpS_cond (t := true) (by simp [Act.eval]) ?_
  simp only [if_true]
  apply wpS_region
  simp [wpOpsS, go_sem, c1, c2, c3, bodyPostS, results, Try.results65]
end Go.Proofs.Ytiilgkhndfnkgaa
