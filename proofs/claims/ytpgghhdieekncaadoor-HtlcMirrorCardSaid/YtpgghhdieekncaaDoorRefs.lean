/- What the reference's functions and htlc.Settled return, walked once; the tables are the only condition of Settled, the reference has none. -/
import Derived.Test.YtpgghhdieekncaaDoorFns
namespace Go.Proofs.YtpgghhdieekncaaDoor
open Go.RowKit

theorem rbetween_any (n a b : Int) (w : World) :
    Calls Tryd.prog 22 #[.int .i64 n, .int .i64 a, .int .i64 b] w fun e w' => e = .returned (.bool (decide (a ≤ n) && decide (n ≤ b))) ∧ w = w' := between_any n a b w

theorem rours_any (own : Bool) (s : Int) (w : World) :
    Calls Tryd.prog 16 #[.int .i64 s, .bool own] w fun e w' => e = .returned (.bool (Pl.ours own s)) ∧ w = w' := by
  cases own
  all_goals
    go_enter Tryd.func16, Tryd.ntmps16
    go_wp2_with (go_at_call 22; refine (between_any s _ _ _).mono ?_; rintro e w' ⟨rfl, rfl⟩)
    go_ret
    exact ⟨ret_bool (by simp [Pl.ours, Pl.lo, Pl.hi]), rfl⟩

theorem rtheirs_any (own : Bool) (s : Int) (w : World) :
    Calls Tryd.prog 18 #[.int .i64 s, .bool own] w fun e w' => e = .returned (.bool (Pl.ours (!own) s)) ∧ w = w' := by
  cases own
  all_goals
    go_enter Tryd.func18, Tryd.ntmps18
    go_wp2_with (go_at_call 22; refine (between_any s _ _ _).mono ?_; rintro e w' ⟨rfl, rfl⟩)
    go_ret
    exact ⟨ret_bool (by simp [Pl.ours, Pl.lo, Pl.hi]), rfl⟩

theorem rmay_any (s : Int) (w : World) :
    Calls Tryd.prog 19 #[.int .i64 s] w fun e w' => e = .returned (.bool (Pl.may s)) ∧ w = w' := by
  go_enter Tryd.func19, Tryd.ntmps19
  go_wp2_with (go_at_call 22; refine (between_any s _ _ _).mono ?_; rintro e w' ⟨rfl, rfl⟩)
  go_ret
  exact ⟨rfl, rfl⟩

theorem rsettled_any (own : Bool) (s : Int) (w : World) :
    Calls Tryd.prog 14 #[.int .i64 s, .bool own] w fun e w' => e = .returned (.tuple #[.bool (Pl.above own s), .bool (Pl.above (!own) s)]) ∧ w = w' := by
  have e1 : Pl.above true s = (decide (6 ≤ s) && decide (s ≤ 9)) := by rw [Bool.eq_iff_iff]; simp [Pl.above, Pl.hi]; omega
  have e2 : Pl.above false s = (decide (8 ≤ s) && decide (s ≤ 9)) := by rw [Bool.eq_iff_iff]; simp [Pl.above, Pl.hi]; omega
  cases own
  · rw [show (!false) = true from rfl, e1, e2]
    clear e1 e2
    go_enter Tryd.func14, Tryd.ntmps14
    go_wp2_with (go_at_call 22; refine (between_any s _ _ _).mono ?_; rintro e w' ⟨rfl, rfl⟩)
    go_ret2
    exact ⟨rfl, rfl⟩
  · rw [show (!true) = false from rfl, e1, e2]
    clear e1 e2
    go_enter Tryd.func14, Tryd.ntmps14
    go_wp2_with (go_at_call 22; refine (between_any s _ _ _).mono ?_; rintro e w' ⟨rfl, rfl⟩)
    go_ret2
    exact ⟨rfl, rfl⟩

theorem quiet_same {P : Program} {f : FuncId} {args : Array Value} {w : World} {n : Nat} {v : Value}
    (h : Calls P f args (w.drewN n) fun e w' => e = .returned v ∧ w.drewN n = w') : Calls P f args (w.drewN n) fun e w'' => e = .returned v ∧ ∃ m, w'' = w.drewN m :=
  h.mono fun _ _ ⟨he, hm⟩ => ⟨he, n, hm.symm⟩

set_option maxHeartbeats 1000000 in
theorem above_any (own : Bool) (s : Int) (a : Addr) (w : World) (h : HT w) (ha : w.cell? a = some (.int .i64 s)) :
    Calls Tryd.prog 21 #[.bool own, .pointer (some a)] w fun e w' => e = .returned (.bool (Pl.above own s)) ∧ ∃ n, w' = w.drewN n := by
  have c1 := h.sp1
  have c3 := h.sp3
  clear h
  by_cases hm : Pl.may s = true
  · cases own
    all_goals
      go_enter Tryd.func21, Tryd.ntmps21
      go_wp2
      go_quiet (first | (go_at_call 11; exact quiet_same (may_any s _)) | (go_at_call 20; exact Calls.quiet_of_same (row_any _ _)))
      go_wp2
      go_ret
      refine ⟨ret_bool ?_, ⟨_, rfl⟩⟩
      simp only [Pl.may] at hm
      simp [Pl.above, Pl.hi, hm]
  · have hm' : Pl.may s = false := by simpa using hm
    clear hm
    cases own
    all_goals
      go_enter Tryd.func21, Tryd.ntmps21
      go_wp2
      go_quiet (first | (go_at_call 11; exact quiet_same (may_any s _)) | (go_at_call 20; exact Calls.quiet_of_same (row_any _ _)))
      go_wp2
      go_ret
      refine ⟨ret_bool ?_, ⟨_, rfl⟩⟩
      simp only [Pl.may] at hm'
      simp [Pl.above, hm']

theorem HT.drewN {w : World} (h : HT w) (n : Nat) : HT (w.drewN n) := ⟨⟨h.he.evT, h.he.evF⟩, h.sp0, h.sp1, h.sp2, h.sp3⟩
theorem HT.alloc {w : World} (h : HT w) (o : Obj) : HT (w.alloc o) := h.below ((Below.refl _ _).alloc (Nat.le_refl _) o)

theorem below_drewN {B : Nat} {a w : World} (h : Below B a w) (n : Nat) : Below B a (w.drewN n) := ⟨h.os, h.tape, h.output, h.size, h.block⟩

theorem settled_any (own : Bool) (s : Int) (w : World) (h : HT w) :
    Calls Tryd.prog 13 #[.int .i64 s, .bool own] w fun e w' => e = .returned (.tuple #[.bool (Pl.above own s), .bool (Pl.above (!own) s)]) ∧ Below w.heap.size w w' := by
  have hb := h.alloc (.cells #[.int .i64 s] 3)
  have hc : (w.alloc (.cells #[.int .i64 s] 3)).cell? ⟨w.heap.size, 0, none⟩ = some (.int .i64 s) := by go_simp
  have A1 := fun (b : Bool) => above_any b s ⟨w.heap.size, 0, none⟩ _ hb hc
  have A2 := fun (b : Bool) (n : Nat) => above_any b s ⟨w.heap.size, 0, none⟩ ((w.alloc (.cells #[.int .i64 s] 3)).drewN n) (hb.drewN n) hc
  have H1 := Lib.hid A1; have H2 := Lib.hid A2
  clear A1 A2 hc hb h
  cases own
  all_goals
    go_enter Tryd.func13, Tryd.ntmps13
    go_wp2_with fail
    refine (H1.out _).mono ?_
    rintro e w' ⟨rfl, n, rfl⟩
    go_wp2_with fail
    refine (H2.out _ _).mono ?_
    rintro e w' ⟨rfl, m, rfl⟩
    go_wp2
    go_ret2
    exact ⟨rfl, below_drewN ((Below.refl _ _).alloc (Nat.le_refl _) _) _⟩

end Go.Proofs.YtpgghhdieekncaaDoor
