/- What the reference's Next returns: the same function as htlc.Next; no condition. -/
import Derived.Test.YtpgghhdieekncaaDoorFns
namespace Go.Proofs.YtpgghhdieekncaaDoor
open Go.RowKit

theorem nx_no {own : Bool} {c : Int} {k ev : Int} (hk : Pl.evt own c.toNat = k) (h : (ev == k) = false) : Pl.nxt own c ev = c := by
  have e : ¬ ev = k := by simpa using h
  exact Pl.nxt_stay (by rw [hk]; exact fun h => e h.symm)

theorem nx_nil {own : Bool} {c : Int} (ev : Int) (hk : Pl.evt own c.toNat = 0) : Pl.nxt own c ev = c := by
  by_cases h : ev = 0
  · subst h; exact Pl.nxt_zero
  · exact Pl.nxt_stay (by rw [hk]; exact fun e => h e.symm)

set_option maxHeartbeats 4000000 in
theorem rnext_true (s ev : Int) (w : World) (h0 : 0 ≤ s) (h1 : s ≤ 9) :
    Calls Tryd.prog 15 #[.int .i64 s, .bool true, .int .i64 ev] w fun e w' => e = .returned (.int .i64 (Pl.nxt true s ev)) ∧ w = w' := by
  rcases Pl.states h0 h1 with rfl | rfl | rfl | rfl | rfl | rfl | rfl | rfl | rfl | rfl
  all_goals
    clear h0 h1
    go_enter Tryd.func15, Tryd.ntmps15
    go_wp2
    all_goals go_ret
    all_goals refine ⟨ret_int ?_, rfl⟩
    all_goals first | exact (nx_nil _ rfl).symm | (have hh := ‹(ev == _) = true›; have he := eq_of_beq hh; clear hh; subst he; decide) | (have hh := ‹(ev == _) = false›; exact (nx_no rfl hh).symm)
set_option maxHeartbeats 4000000 in
theorem rnext_false (s ev : Int) (w : World) (h0 : 0 ≤ s) (h1 : s ≤ 9) :
    Calls Tryd.prog 15 #[.int .i64 s, .bool false, .int .i64 ev] w fun e w' => e = .returned (.int .i64 (Pl.nxt false s ev)) ∧ w = w' := by
  rcases Pl.states h0 h1 with rfl | rfl | rfl | rfl | rfl | rfl | rfl | rfl | rfl | rfl
  all_goals
    clear h0 h1
    go_enter Tryd.func15, Tryd.ntmps15
    go_wp2
    all_goals go_ret
    all_goals refine ⟨ret_int ?_, rfl⟩
    all_goals first | exact (nx_nil _ rfl).symm | (have hh := ‹(ev == _) = true›; have he := eq_of_beq hh; clear hh; subst he; decide) | (have hh := ‹(ev == _) = false›; exact (nx_no rfl hh).symm)

set_option maxHeartbeats 1000000 in
theorem rnext_out (own : Bool) (s ev : Int) (w : World) (hs : s < 0 ∨ 9 < s) :
    Calls Tryd.prog 15 #[.int .i64 s, .bool own, .int .i64 ev] w fun e w' => e = .returned (.int .i64 (Pl.nxt own s ev)) ∧ w = w' := by
  rw [Pl.nxt_out hs]
  have f : ∀ k : Int, 0 ≤ k → k ≤ 9 → (s == k) = false := fun k _ _ => beq_eq_false_iff_ne.2 (by omega)
  have f0 := f 0 (by omega) (by omega)
  have f1 := f 1 (by omega) (by omega)
  have f2 := f 2 (by omega) (by omega)
  have f3 := f 3 (by omega) (by omega)
  have f5 := f 5 (by omega) (by omega)
  have f6 := f 6 (by omega) (by omega)
  have f7 := f 7 (by omega) (by omega)
  have f8 := f 8 (by omega) (by omega)
  clear f hs
  cases own
  all_goals
    go_enter Tryd.func15, Tryd.ntmps15
    go_wp2
    go_ret
    exact ⟨rfl, rfl⟩

theorem rnext_any (own : Bool) (s ev : Int) (w : World) :
    Calls Tryd.prog 15 #[.int .i64 s, .bool own, .int .i64 ev] w fun e w' => e = .returned (.int .i64 (Pl.nxt own s ev)) ∧ w = w' := by
  by_cases hs : 0 ≤ s ∧ s ≤ 9
  · cases own
    · exact rnext_false s ev w hs.1 hs.2
    · exact rnext_true s ev w hs.1 hs.2
  · exact rnext_out own s ev w (by omega)
end Go.Proofs.YtpgghhdieekncaaDoor
