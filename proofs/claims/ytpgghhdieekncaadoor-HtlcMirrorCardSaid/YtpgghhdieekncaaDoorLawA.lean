/- The walks of the laws Tells, Mirror, Goes and Out over the contracts of the functions: each returns true in any world that holds the two tables. -/
import Derived.Test.YtpgghhdieekncaaDoorRefs
import Derived.Test.YtpgghhdieekncaaDoorRnext
namespace Go.Proofs.YtpgghhdieekncaaDoor
open Go.RowKit

/-- the world of a law under way: the tables lie in it, and what was there at the start is there -/
structure Ok (w0 w : World) : Prop where
  ht : HT w
  below : Below w0.heap.size w0 w
theorem Ok.start {w : World} (h : HT w) : Ok w w := ⟨h, Below.refl _ _⟩
theorem Ok.next {w0 w w' : World} (h : Ok w0 w) (b : Below w.heap.size w w') : Ok w0 w' := ⟨h.ht.below b, h.below.trans (b.mono h.below.size)⟩

section
variable (w0 : World)
theorem next_ok (own : Bool) (s ev : Int) (w : World) (h : Ok w0 w) :
    Calls Tryd.prog 10 #[.int .i64 s, .bool own, .int .i64 ev] w fun e w' => e = .returned (.int .i64 (Pl.nxt own s ev)) ∧ Ok w0 w' :=
  (next_any own s ev w h.ht.he).mono fun _ _ ⟨he, hw⟩ => ⟨he, hw ▸ h⟩
theorem rnext_ok (own : Bool) (s ev : Int) (w : World) (h : Ok w0 w) :
    Calls Tryd.prog 15 #[.int .i64 s, .bool own, .int .i64 ev] w fun e w' => e = .returned (.int .i64 (Pl.nxt own s ev)) ∧ Ok w0 w' :=
  (rnext_any own s ev w).mono fun _ _ ⟨he, hw⟩ => ⟨he, hw ▸ h⟩
theorem may_ok (s : Int) (w : World) (h : Ok w0 w) :
    Calls Tryd.prog 11 #[.int .i64 s] w fun e w' => e = .returned (.bool (Pl.may s)) ∧ Ok w0 w' :=
  (may_any s w).mono fun _ _ ⟨he, hw⟩ => ⟨he, hw ▸ h⟩
theorem rmay_ok (s : Int) (w : World) (h : Ok w0 w) :
    Calls Tryd.prog 19 #[.int .i64 s] w fun e w' => e = .returned (.bool (Pl.may s)) ∧ Ok w0 w' :=
  (rmay_any s w).mono fun _ _ ⟨he, hw⟩ => ⟨he, hw ▸ h⟩
theorem shown_ok (w : World) (h : Ok w0 w) :
    Calls Tryd.prog 9 #[] w fun e w' => e = .returned (.bool true) ∧ Ok w0 w' :=
  (shown_any w h.ht.he).mono fun _ _ ⟨he, hw⟩ => ⟨he, hw ▸ h⟩
theorem ours_ok (own : Bool) (s : Int) (w : World) (h : Ok w0 w) :
    Calls Tryd.prog 12 #[.int .i64 s, .bool own] w fun e w' => e = .returned (.bool (Pl.ours own s)) ∧ Ok w0 w' :=
  (ours_any own s w h.ht).mono fun _ _ ⟨he, hw⟩ => ⟨he, h.next hw⟩
theorem theirs_ok (own : Bool) (s : Int) (w : World) (h : Ok w0 w) :
    Calls Tryd.prog 17 #[.int .i64 s, .bool own] w fun e w' => e = .returned (.bool (Pl.ours (!own) s)) ∧ Ok w0 w' :=
  (theirs_any own s w h.ht).mono fun _ _ ⟨he, hw⟩ => ⟨he, h.next hw⟩
theorem rours_ok (own : Bool) (s : Int) (w : World) (h : Ok w0 w) :
    Calls Tryd.prog 16 #[.int .i64 s, .bool own] w fun e w' => e = .returned (.bool (Pl.ours own s)) ∧ Ok w0 w' :=
  (rours_any own s w).mono fun _ _ ⟨he, hw⟩ => ⟨he, hw ▸ h⟩
theorem rtheirs_ok (own : Bool) (s : Int) (w : World) (h : Ok w0 w) :
    Calls Tryd.prog 18 #[.int .i64 s, .bool own] w fun e w' => e = .returned (.bool (Pl.ours (!own) s)) ∧ Ok w0 w' :=
  (rtheirs_any own s w).mono fun _ _ ⟨he, hw⟩ => ⟨he, hw ▸ h⟩
theorem settled_ok (own : Bool) (s : Int) (w : World) (h : Ok w0 w) :
    Calls Tryd.prog 13 #[.int .i64 s, .bool own] w fun e w' => e = .returned (.tuple #[.bool (Pl.above own s), .bool (Pl.above (!own) s)]) ∧ Ok w0 w' :=
  (settled_any own s w h.ht).mono fun _ _ ⟨he, hw⟩ => ⟨he, h.next hw⟩
theorem rsettled_ok (own : Bool) (s : Int) (w : World) (h : Ok w0 w) :
    Calls Tryd.prog 14 #[.int .i64 s, .bool own] w fun e w' => e = .returned (.tuple #[.bool (Pl.above own s), .bool (Pl.above (!own) s)]) ∧ Ok w0 w' :=
  (rsettled_any own s w).mono fun _ _ ⟨he, hw⟩ => ⟨he, hw ▸ h⟩
end

/-- the end of a law: true, and what was there is there -/
def Fine (w : World) (e : Ending) (w' : World) : Prop := e = .returned (.bool true) ∧ Below w.heap.size w w'

set_option maxHeartbeats 1000000 in
theorem tells_walk (s ev : Int) (own : Bool) (w : World) (h : HT w) :
    Calls Tryd.prog 5 #[.int .i64 s, .bool own, .int .i64 ev] w (Fine w) := by
  have h0 := Ok.start h; clear h
  go_enter Tryd.func5, Tryd.ntmps5
  go_wp2_with fail
  refine (settled_ok w own s w h0).mono ?_
  rintro e w1 ⟨rfl, h1⟩
  go_wp2_with fail
  refine (rsettled_ok w own s w1 h1).mono ?_
  rintro e w2 ⟨rfl, h2⟩
  go_wp2_with fail
  refine (next_ok w own s ev w2 h2).mono ?_
  rintro e w3 ⟨rfl, h3⟩
  go_wp2_with fail
  refine (rnext_ok w own s ev w3 h3).mono ?_
  rintro e w4 ⟨rfl, h4⟩
  go_wp2_with fail
  refine (ours_ok w own s w4 h4).mono ?_
  rintro e w5 ⟨rfl, h5⟩
  go_wp2_with fail
  refine (rours_ok w own s w5 h5).mono ?_
  rintro e w6 ⟨rfl, h6⟩
  go_wp2_with fail
  refine (theirs_ok w own s w6 h6).mono ?_
  rintro e w7 ⟨rfl, h7⟩
  go_wp2_with fail
  refine (rtheirs_ok w own s w7 h7).mono ?_
  rintro e w8 ⟨rfl, h8⟩
  go_wp2_with fail
  refine (may_ok w s w8 h8).mono ?_
  rintro e w9 ⟨rfl, h9⟩
  go_wp2_with fail
  refine (rmay_ok w s w9 h9).mono ?_
  rintro e w10 ⟨rfl, h10⟩
  go_wp2_with fail
  refine (shown_ok w w10 h10).mono ?_
  rintro e w11 ⟨rfl, h11⟩
  go_wp2
  go_ret
  exact ⟨rfl, h11.below⟩

/-- the event that the other one sees -/
theorem mirror_event (own : Bool) (s e : Int) (h : 1 ≤ e) (h' : e ≤ 4) : Pl.nxt own s e = Pl.nxt (!own) s ((e + 1) % 4 + 1) := by
  by_cases hs : 0 ≤ s ∧ s ≤ 9
  · have he : e = 1 ∨ e = 2 ∨ e = 3 ∨ e = 4 := by omega
    rcases Pl.states hs.1 hs.2 with rfl | rfl | rfl | rfl | rfl | rfl | rfl | rfl | rfl | rfl <;> rcases he with rfl | rfl | rfl | rfl <;> cases own <;> decide
  · rw [Pl.nxt_out (by omega), Pl.nxt_out (by omega)]

set_option maxHeartbeats 1000000 in
theorem mirror_walk (s ev : Int) (own : Bool) (w : World) (h : HT w) (s0 : 0 ≤ s) (s1 : s ≤ 255) (e0 : 0 ≤ ev) (e1 : ev ≤ 255) :
    Calls Tryd.prog 6 #[.int .u8 s, .bool own, .int .u8 ev] w (Fine w) := by
  have h0 := Ok.start h; clear h
  have hm := mirror_event own (s % 10) (1 + ev % 4) (by omega) (by omega)
  have HM := Lib.hid hm; clear hm
  go_enter Tryd.func6, Tryd.ntmps6
  go_wp2_with fail
  refine (settled_ok w own (s % 10) w h0).mono ?_
  rintro e w1 ⟨rfl, h1⟩
  go_wp2_with fail
  refine (settled_ok w (!own) (s % 10) w1 h1).mono ?_
  rintro e w2 ⟨rfl, h2⟩
  go_wp2_with fail
  refine (next_ok w own (s % 10) (1 + ev % 4) w2 h2).mono ?_
  rintro e w3 ⟨rfl, h3⟩
  go_wp2_with fail
  refine (next_ok w (!own) (s % 10) _ w3 h3).mono ?_
  rintro e w4 ⟨rfl, h4⟩
  rw [← HM.out]
  go_wp2_with fail
  refine (ours_ok w own (s % 10) w4 h4).mono ?_
  rintro e w5 ⟨rfl, h5⟩
  go_wp2_with fail
  refine (theirs_ok w (!own) (s % 10) w5 h5).mono ?_
  rintro e w6 ⟨rfl, h6⟩
  go_wp2_with fail
  refine (shown_ok w w6 h6).mono ?_
  rintro e w7 ⟨rfl, h7⟩
  go_wp2
  go_ret
  exact ⟨rfl, h7.below⟩

set_option maxHeartbeats 1000000 in
theorem goes_walk (t : Int) (own : Bool) (w : World) (h : HT w) (t0 : 0 ≤ t) (t1 : t ≤ 255) :
    Calls Tryd.prog 7 #[.bool own, .int .u8 t] w (Fine w) := by
  have h0 := Ok.start h; clear h
  obtain ⟨t, rfl⟩ := Int.eq_ofNat_of_zero_le t0
  go_enter Tryd.func7, Tryd.ntmps7
  go_wp2_with fail
  go_loopw [5, 6] (fun s i wr => ∃ k : Nat, k ≤ 16 ∧ i = .int .i64 k ∧ s = .int .i64 (Pl.pos5 own t k) ∧ Ok w wr) (fun _ i _ => 16 - (intOf i).toNat)
  case atStart => exact ⟨0, by omega, rfl, rfl, h0⟩
  case round =>
    obtain ⟨k, hk, rfl, rfl, hr⟩ := hrel
    by_cases hlt : k < 16
    · have hp : Pl.pos5 own t (k + 1) = Pl.nxt own (Pl.pos5 own t k) (1 + ((t : Int) + (k : Int)) % 4) := by
        simp only [Pl.pos5]; rw [show (((t + k) % 4 : Nat) : Int) = ((t : Int) + (k : Int)) % 4 by omega]
      have HP := Lib.hid hp; clear hp
      go_wp2_with fail
      refine (next_ok w own (Pl.pos5 own t k) (1 + ((t : Int) + (k : Int)) % 4) wr hr).mono ?_
      rintro e w3 ⟨rfl, h3⟩
      rw [← HP.out]
      go_wp2
      go_roundw
      case rel => exact ⟨k + 1, by omega, by go_num, rfl, h3⟩
      case measure => simp [intOf]; omega
    · obtain rfl : k = 16 := by omega
      have hp := Pl.pos5_16 own t
      have ha : Pl.above own 9 = true := by cases own <;> decide
      have hb : Pl.above (!own) 9 = true := by cases own <;> decide
      have hc : Pl.ours own 9 = false := by cases own <;> decide
      have hd : Pl.ours (!own) 9 = false := by cases own <;> decide
      rw [hp]
      clear hp
      have HA := Lib.hid ha; have HB := Lib.hid hb; have HC := Lib.hid hc; have HD := Lib.hid hd; clear ha hb hc hd
      go_wp2_with fail
      refine (settled_ok w own 9 wr hr).mono ?_
      rintro e w3 ⟨rfl, h3⟩
      rw [HA.out, HB.out]
      go_wp2_with fail
      refine (ours_ok w own 9 w3 h3).mono ?_
      rintro e w4 ⟨rfl, h4⟩
      rw [HC.out]
      go_wp2_with fail
      refine (theirs_ok w own 9 w4 h4).mono ?_
      rintro e w5 ⟨rfl, h5⟩
      rw [HD.out]
      go_wp2_with fail
      refine (shown_ok w w5 h5).mono ?_
      rintro e w6 ⟨rfl, h6⟩
      go_wp2
      go_ret
      exact ⟨rfl, h6.below⟩

theorem out_stay (own : Bool) (s ev : Int) (h : ev < 1 ∨ 4 < ev) : Pl.nxt own s ev = s := by
  by_cases hs : 0 ≤ s ∧ s ≤ 9
  · by_cases h0 : ev = 0
    · subst h0; exact Pl.nxt_zero
    · apply Pl.nxt_stay
      have : 0 ≤ Pl.evt own s.toNat ∧ Pl.evt own s.toNat ≤ 4 := by
        rcases Pl.states hs.1 hs.2 with rfl | rfl | rfl | rfl | rfl | rfl | rfl | rfl | rfl | rfl <;> cases own <;> decide
      omega
  · exact Pl.nxt_out (by omega)

set_option maxHeartbeats 2000000 in
theorem out_walk_in (s ev : Int) (own : Bool) (w : World) (h : HT w) (s0 : 0 ≤ s) (s1 : s ≤ 9) :
    Calls Tryd.prog 8 #[.int .i64 s, .bool own, .int .i64 ev] w (Fine w) := by
  have h0 := Ok.start h; clear h
  have hm : Pl.may s = true := by simp [Pl.may, s0, s1]
  have HM := Lib.hid hm; clear hm
  by_cases he : 1 ≤ ev ∧ ev ≤ 4
  · obtain ⟨g1, g2⟩ := he
    go_enter Tryd.func8, Tryd.ntmps8
    go_wp2_with fail
    refine (settled_ok w own s w h0).mono ?_
    rintro e w1 ⟨rfl, h1⟩
    go_wp2_with fail
    refine (next_ok w own s ev w1 h1).mono ?_
    rintro e w2 ⟨rfl, h2⟩
    go_wp2_with fail
    refine (may_ok w s w2 h2).mono ?_
    rintro e w3 ⟨rfl, h3⟩
    rw [HM.out]
    go_wp2_with fail
    refine (shown_ok w w3 h3).mono ?_
    rintro e w4 ⟨rfl, h4⟩
    go_wp2
    go_ret
    exact ⟨rfl, h4.below⟩
  · have hn : Pl.nxt own s ev = s := out_stay own s ev (by omega)
    have HN := Lib.hid hn; clear hn he
    go_enter Tryd.func8, Tryd.ntmps8
    go_wp2_with fail
    refine (settled_ok w own s w h0).mono ?_
    rintro e w1 ⟨rfl, h1⟩
    go_wp2_with fail
    refine (next_ok w own s ev w1 h1).mono ?_
    rintro e w2 ⟨rfl, h2⟩
    rw [HN.out]
    go_wp2_with fail
    all_goals
      refine (may_ok w s w2 h2).mono ?_
      rintro e w3 ⟨rfl, h3⟩
      rw [HM.out]
      go_wp2_with fail
      refine (shown_ok w w3 h3).mono ?_
      rintro e w4 ⟨rfl, h4⟩
      go_wp2
      go_ret
      exact ⟨rfl, h4.below⟩

set_option maxHeartbeats 4000000 in
theorem out_walk_out (s ev : Int) (own : Bool) (w : World) (h : HT w) (hs : s < 0 ∨ 9 < s) :
    Calls Tryd.prog 8 #[.int .i64 s, .bool own, .int .i64 ev] w (Fine w) := by
  have h0 := Ok.start h; clear h
  have hn : Pl.nxt own s ev = s := Pl.nxt_out (by omega)
  have hm : Pl.may s = false := by simp [Pl.may]; omega
  have ha : Pl.above own s = false := by simp [Pl.above]; omega
  have hb : Pl.above (!own) s = false := by simp [Pl.above]; omega
  have hc : Pl.ours own s = false := by cases own <;> simp [Pl.ours, Pl.lo, Pl.hi] <;> omega
  have hd : Pl.ours (!own) s = false := by cases own <;> simp [Pl.ours, Pl.lo, Pl.hi] <;> omega
  have HN := Lib.hid hn; have HM := Lib.hid hm; have HA := Lib.hid ha; have HB := Lib.hid hb; have HC := Lib.hid hc; have HD := Lib.hid hd
  clear hn hm ha hb hc hd
  rcases hs with g1 | g1
  all_goals
    try have g2 : decide (s ≤ 9) = false := by simp; omega
    go_enter Tryd.func8, Tryd.ntmps8
    go_wp2_with fail
    refine (settled_ok w own s w h0).mono ?_
    rintro e w1 ⟨rfl, h1⟩
    rw [HA.out, HB.out]
    go_wp2_with fail
    refine (next_ok w own s ev w1 h1).mono ?_
    rintro e w2 ⟨rfl, h2⟩
    rw [HN.out]
    go_wp2_with fail
    all_goals
      refine (may_ok w s w2 h2).mono ?_
      rintro e w3 ⟨rfl, h3⟩
      rw [HM.out]
      go_wp2_with fail
      refine (ours_ok w own s w3 h3).mono ?_
      rintro e w4 ⟨rfl, h4⟩
      rw [HC.out]
      go_wp2_with fail
      refine (theirs_ok w own s w4 h4).mono ?_
      rintro e w5 ⟨rfl, h5⟩
      rw [HD.out]
      go_wp2_with fail
      refine (shown_ok w w5 h5).mono ?_
      rintro e w6 ⟨rfl, h6⟩
      go_wp2
      go_ret
      exact ⟨rfl, h6.below⟩

theorem out_walk (s ev : Int) (own : Bool) (w : World) (h : HT w) :
    Calls Tryd.prog 8 #[.int .i64 s, .bool own, .int .i64 ev] w (Fine w) := by
  by_cases hs : 0 ≤ s ∧ s ≤ 9
  · exact out_walk_in s ev own w h hs.1 hs.2
  · exact out_walk_out s ev own w h (by omega)

end Go.Proofs.YtpgghhdieekncaaDoor
