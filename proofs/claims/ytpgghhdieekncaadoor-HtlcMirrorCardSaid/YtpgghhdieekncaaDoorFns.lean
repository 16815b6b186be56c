/- What each function of the package htlc and of its reference returns, walked once, in any world that holds the two tables; the tables are the only condition. -/
import Derived.Test.YtpgghhdieekncaaDoorRows
import Derived.Test.YtpgghhdieekncaaDoorPlain
import Derived.WalkKit
import Derived.WalkSpells
import Derived.WalkLawsBesides
import Derived.Lib.Hide
import Derived.Deep.QuietTactic
import Derived.BigQuiet
namespace Go.Proofs.YtpgghhdieekncaaDoor
open Go.RowKit

/-- the table of the events lies in the world -/
structure HE (w : World) : Prop where
  evT : ∀ k, k < 10 → w.cell? ⟨0, 10 + k, none⟩ = some (.int .i64 (Pl.evt true k))
  evF : ∀ k, k < 10 → w.cell? ⟨0, k, none⟩ = some (.int .i64 (Pl.evt false k))
/-- both tables lie in the world -/
structure HT (w : World) : Prop where
  he : HE w
  sp0 : w.cell? ⟨1, 0, none⟩ = some (.int .i64 1)
  sp1 : w.cell? ⟨1, 1, none⟩ = some (.int .i64 7)
  sp2 : w.cell? ⟨1, 2, none⟩ = some (.int .i64 3)
  sp3 : w.cell? ⟨1, 3, none⟩ = some (.int .i64 5)

theorem blk_lt {w : World} {a : Addr} {v : Value} (h : w.cell? a = some v) : a.block < w.heap.size := by
  unfold World.cell? at h
  by_cases hb : a.block < w.heap.size
  · exact hb
  · rw [Array.getElem?_eq_none (by omega)] at h; simp at h
theorem HE.below {w w' : World} (h : HE w) (b : Below w.heap.size w w') : HE w' := by
  have s : 0 < w.heap.size := blk_lt (h.evF 0 (by omega))
  refine ⟨fun k hk => ?_, fun k hk => ?_⟩
  · rw [b.cell (by exact s)]; exact h.evT k hk
  · rw [b.cell (by exact s)]; exact h.evF k hk
theorem HT.below {w w' : World} (h : HT w) (b : Below w.heap.size w w') : HT w' := by
  have s : 1 < w.heap.size := blk_lt h.sp0
  refine ⟨h.he.below b, ?_, ?_, ?_, ?_⟩
  · rw [b.cell (by exact s)]; exact h.sp0
  · rw [b.cell (by exact s)]; exact h.sp1
  · rw [b.cell (by exact s)]; exact h.sp2
  · rw [b.cell (by exact s)]; exact h.sp3

theorem ret_int {k : IntKind} {a b : Int} (h : a = b) : Ending.returned (.int k a) = .returned (.int k b) := by rw [h]
theorem ret_bool {a b : Bool} (h : a = b) : Ending.returned (.bool a) = .returned (.bool b) := by rw [h]

theorem may_any (s : Int) (w : World) :
    Calls Tryd.prog 11 #[.int .i64 s] w fun e w' => e = .returned (.bool (Pl.may s)) ∧ w = w' := by
  go_enter Tryd.func11, Tryd.ntmps11
  go_wp2
  · go_ret
    exact ⟨ret_bool (by simp [Pl.may]; omega), rfl⟩
  · go_ret
    exact ⟨ret_bool (by simp [Pl.may]; omega), rfl⟩

theorem between_any (n a b : Int) (w : World) :
    Calls Tryd.prog 22 #[.int .i64 n, .int .i64 a, .int .i64 b] w fun e w' => e = .returned (.bool (decide (a ≤ n) && decide (n ≤ b))) ∧ w = w' := by
  go_enter Tryd.func22, Tryd.ntmps22
  go_wp2
  · go_ret
    exact ⟨ret_bool (by simp; omega), rfl⟩
  · go_ret
    exact ⟨ret_bool (by simp; omega), rfl⟩

theorem next_in (own : Bool) (s ev : Int) (w : World) (h : HE w) (h0 : 0 ≤ s) (h1 : s ≤ 9) :
    Calls Tryd.prog 10 #[.int .i64 s, .bool own, .int .i64 ev] w fun e w' => e = .returned (.int .i64 (Pl.nxt own s ev)) ∧ w = w' := by
  have hF := h.evF s.toNat (by omega)
  have hT := h.evT s.toNat (by omega)
  have hs : s < 10 := by omega
  clear h
  by_cases hz : ev = 0
  · subst hz
    rw [Pl.nxt_zero]
    clear hF hT
    cases own
    all_goals
      go_enter Tryd.func10, Tryd.ntmps10
      go_wp2
      go_ret
      exact ⟨rfl, rfl⟩
  by_cases hx : Pl.evt own s.toNat = ev
  · rw [Pl.nxt_go h0 h1 hz hx]
    have hz' : (ev == 0) = false := beq_eq_false_iff_ne.2 hz
    have hx' : (ev != ev) = false := by simp
    cases own
    · clear hT; rw [hx] at hF; clear hx hz
      go_enter Tryd.func10, Tryd.ntmps10
      go_wp2
      go_ret
      exact ⟨rfl, rfl⟩
    · clear hF; rw [hx] at hT; clear hx hz
      go_enter Tryd.func10, Tryd.ntmps10
      go_wp2
      go_ret
      exact ⟨rfl, rfl⟩
  · rw [Pl.nxt_stay hx]
    have hz' : (ev == 0) = false := beq_eq_false_iff_ne.2 hz
    have hx' : (Pl.evt own s.toNat != ev) = true := by rw [bne_iff_ne]; exact hx
    cases own
    · clear hT
      generalize Pl.evt false s.toNat = x at *
      clear hx hz
      go_enter Tryd.func10, Tryd.ntmps10
      go_wp2
      go_ret
      exact ⟨rfl, rfl⟩
    · clear hF
      generalize Pl.evt true s.toNat = x at *
      clear hx hz
      go_enter Tryd.func10, Tryd.ntmps10
      go_wp2
      go_ret
      exact ⟨rfl, rfl⟩

theorem next_out (own : Bool) (s ev : Int) (w : World) (hs : s < 0 ∨ 9 < s) :
    Calls Tryd.prog 10 #[.int .i64 s, .bool own, .int .i64 ev] w fun e w' => e = .returned (.int .i64 (Pl.nxt own s ev)) ∧ w = w' := by
  rw [Pl.nxt_out hs]
  have hm : Pl.may s = false := by simp [Pl.may]; omega
  have Hs := Lib.hid hs; clear hs
  go_enter Tryd.func10, Tryd.ntmps10
  go_wp2_with (go_at_call 11; refine (may_any s _).mono ?_; rintro e w' ⟨rfl, rfl⟩)
  go_ret
  exact ⟨rfl, rfl⟩

theorem next_any (own : Bool) (s ev : Int) (w : World) (h : HE w) :
    Calls Tryd.prog 10 #[.int .i64 s, .bool own, .int .i64 ev] w fun e w' => e = .returned (.int .i64 (Pl.nxt own s ev)) ∧ w = w' := by
  by_cases hs : 0 ≤ s ∧ s ≤ 9
  · exact next_in own s ev w h hs.1 hs.2
  · exact next_out own s ev w (by omega)

theorem ours_any (own : Bool) (s : Int) (w : World) (h : HT w) :
    Calls Tryd.prog 12 #[.int .i64 s, .bool own] w fun e w' => e = .returned (.bool (Pl.ours own s)) ∧ Below w.heap.size w w' := by
  have c0 := h.sp0
  have c1 := h.sp1
  have c2 := h.sp2
  have c3 := h.sp3
  clear h
  cases own
  all_goals
    go_enter Tryd.func12, Tryd.ntmps12
    go_wp2
    all_goals go_ret
    all_goals exact ⟨ret_bool (by simp [Pl.ours, Pl.lo, Pl.hi]; omega), (Below.refl _ _).alloc (Nat.le_refl _) _⟩

theorem theirs_any (own : Bool) (s : Int) (w : World) (h : HT w) :
    Calls Tryd.prog 17 #[.int .i64 s, .bool own] w fun e w' => e = .returned (.bool (Pl.ours (!own) s)) ∧ Below w.heap.size w w' := by
  cases own
  all_goals
    go_enter Tryd.func17, Tryd.ntmps17
    go_wp2_with (go_at_call 12; refine (ours_any _ s _ h).mono ?_; rintro e w' ⟨rfl, hb⟩)
    go_ret
    exact ⟨rfl, hb⟩

theorem shown_any (w : World) (h : HE w) :
    Calls Tryd.prog 9 #[] w fun e w' => e = .returned (.bool true) ∧ w = w' := by
  have e1 : Pl.nxt true 0 1 = 1 := by decide
  have e2 : Pl.nxt true 0 3 = 0 := by decide
  have c1 := next_any true 0 1 w h
  have c2 := next_any true 0 3 w h
  rw [e1] at c1; rw [e2] at c2
  have C1 := Lib.hid c1; have C2 := Lib.hid c2; clear c1 c2 e1 e2
  go_enter Tryd.func9, Tryd.ntmps9
  go_wp2_with fail
  refine (C1.out).mono ?_
  rintro e w' ⟨rfl, rfl⟩
  go_wp2_with fail
  refine (C2.out).mono ?_
  rintro e w' ⟨rfl, rfl⟩
  go_wp2
  go_ret
  exact ⟨rfl, rfl⟩

theorem row_any (b : Bool) (w : World) :
    Calls Tryd.prog 20 #[.bool b] w fun e w' => e = .returned (.int .i64 (if b then 1 else 0)) ∧ w' = w := by
  cases b
  all_goals
   go_enter Tryd.func20, Tryd.ntmps20
   go_wp2
   go_ret
   exact ⟨rfl, rfl⟩

end Go.Proofs.YtpgghhdieekncaaDoor
