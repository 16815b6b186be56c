/- The walks of the laws Events and Once, each a loop over the events, over the contracts of the functions; the condition is that the bytes of the events lie in the world. -/
import Derived.Test.YtpgghhdieekncaaDoorLawA
namespace Go.Proofs.YtpgghhdieekncaaDoor
open Go.RowKit

/-- the events, as bytes, lie at an address -/
def Evs (w : World) (b off len : Nat) (zs : List Int) : Prop := ∀ j, j < len → w.cell? ⟨b, off + j, none⟩ = some (.int .u8 (zs.getD j 0))

/-- the world of the law Events under way: the table of the events alone -/
structure OkE (w0 w : World) : Prop where
  he : HE w
  below : Below w0.heap.size w0 w
section
variable (w0 : World)
theorem next_okE (own : Bool) (s ev : Int) (w : World) (h : OkE w0 w) :
    Calls Tryd.prog 10 #[.int .i64 s, .bool own, .int .i64 ev] w fun e w' => e = .returned (.int .i64 (Pl.nxt own s ev)) ∧ OkE w0 w' :=
  (next_any own s ev w h.he).mono fun _ _ ⟨he, hw⟩ => ⟨he, hw ▸ h⟩
theorem may_okE (s : Int) (w : World) (h : OkE w0 w) :
    Calls Tryd.prog 11 #[.int .i64 s] w fun e w' => e = .returned (.bool (Pl.may s)) ∧ OkE w0 w' :=
  (may_any s w).mono fun _ _ ⟨he, hw⟩ => ⟨he, hw ▸ h⟩
theorem shown_okE (w : World) (h : OkE w0 w) :
    Calls Tryd.prog 9 #[] w fun e w' => e = .returned (.bool true) ∧ OkE w0 w' :=
  (shown_any w h.he).mono fun _ _ ⟨he, hw⟩ => ⟨he, hw ▸ h⟩
end

set_option maxHeartbeats 2000000 in
theorem events_walk (s : Int) (own : Bool) (p : Option Addr) (b off len cap : Nat) (zs : List Int) (w : World) (h : HE w) (s0 : 0 ≤ s) (s1 : s ≤ 255) (hb : len = 0 ∨ b < w.heap.size) (hl : len ≤ 200)
    (hz : ∀ j, 0 ≤ zs.getD j 0 ∧ zs.getD j 0 ≤ 255) (hp : len = 0 ∨ p = some ⟨b, off, none⟩) (hc : Evs w b off len zs) :
    Calls Tryd.prog 3 #[.int .u8 s, .bool own, .slice p len cap] w (Fine w) := by
  have h0 := (⟨h, Below.refl _ _⟩ : OkE w w); clear h
  have HZ := Lib.hid hz; clear hz
  have HB := Lib.hid hb; have HP := Lib.hid hp; clear hb hp
  go_enter Tryd.func3, Tryd.ntmps3
  go_wp2_with fail
  refine (shown_okE w w h0).mono ?_
  rintro e w1 ⟨rfl, h1⟩
  go_wp2_with fail
  go_loopw [7, 8, 9] (fun t i _ wr => ∃ (k : Nat) (x : Int), k ≤ len ∧ i = .int .i64 k ∧ t = .int .i64 x ∧ 0 ≤ x ∧ x ≤ 9 ∧ OkE w wr) (fun _ i _ _ => len - (intOf i).toNat)
  case atStart => exact ⟨0, s % 10, by omega, rfl, rfl, by omega, by omega, h1⟩
  case round =>
    obtain ⟨k, x, hk, rfl, rfl, x0, x1, hr⟩ := hrel
    by_cases hlt : k < len
    · obtain rfl : p = some ⟨b, off, none⟩ := by rcases HP.out with h | h; (omega); exact h
      have hcell : wr.cell? ⟨b, off + k, none⟩ = some (.int .u8 (zs.getD k 0)) := by
        rw [hr.below.cell (by rcases HB.out with h | h; (omega); exact h)]; exact hc k hlt
      have hz := HZ.out k
      generalize zs.getD k 0 = z at *
      obtain ⟨z0, z1⟩ := hz
      have hmay : Pl.may (Pl.nxt own x (z % 6)) = true := by
        have := Pl.nxt_ge own x (z % 6) x0; have := Pl.nxt_le own x (z % 6) x1; simp [Pl.may, *]
      have HM := Lib.hid hmay; clear hmay
      rcases Pl.nxt_cases own x (z % 6) with hn | hn
      · have HN := Lib.hid hn; clear hn
        have g1 : (x != x) = false := by simp
        go_wp2_with fail
        refine (next_okE w own x (z % 6) wr hr).mono ?_
        rintro e w3 ⟨rfl, h3⟩
        rw [HN.out]
        go_wp2_with fail
        refine (may_okE w x w3 h3).mono ?_
        rintro e w4 ⟨rfl, h4⟩
        rw [← HN.out, HM.out, HN.out]
        go_wp2
        all_goals
          go_roundw
          case rel => exact ⟨k + 1, _, by omega, by go_num, rfl, by omega, by omega, h4⟩
          case measure => simp [intOf]; omega
      · have hx4 : x ≠ 4 := by rintro rfl; rw [Pl.nxt_4] at hn; omega
        have hx9 : x ≠ 9 := by rintro rfl; rw [Pl.nxt_9] at hn; omega
        have HN := Lib.hid hn; clear hn
        have g1 : (x + 1 != x) = true := by rw [bne_iff_ne]; omega
        have g2 : (x + 1 != x + 1) = false := by simp
        have g3 : (x == 4) = false := beq_eq_false_iff_ne.2 hx4
        have g4 : (x == 9) = false := beq_eq_false_iff_ne.2 hx9
        go_wp2_with fail
        refine (next_okE w own x (z % 6) wr hr).mono ?_
        rintro e w3 ⟨rfl, h3⟩
        rw [HN.out]
        go_wp2_with fail
        refine (may_okE w (x + 1) w3 h3).mono ?_
        rintro e w4 ⟨rfl, h4⟩
        rw [← HN.out, HM.out, HN.out]
        go_wp2
        go_roundw
        case rel => exact ⟨k + 1, x + 1, by omega, by go_num, rfl, by omega, by omega, h4⟩
        case measure => simp [intOf]; omega
    · obtain rfl : k = len := by omega
      clear hc HZ HB h0 h1
      obtain ⟨wo, rfl⟩ : ∃ wo : World, wo = wr := ⟨_, rfl⟩
      go_wp2_with fail
      go_loopw [10, 11] (fun t i wr => ∃ j : Nat, j ≤ 8 ∧ i = .int .i64 j ∧ t = .int .i64 (Pl.pos own j) ∧ OkE w wr) (fun _ i _ => 8 - (intOf i).toNat)
      case atStart => exact ⟨0, by omega, rfl, rfl, hr⟩
      case round =>
        obtain ⟨j, hj, rfl, rfl, hr'⟩ := hrel
        by_cases hlt' : j < 8
        · have hp : Pl.pos own (j + 1) = Pl.nxt own (Pl.pos own j) (1 + (j : Int) % 4) := by
            simp only [Pl.pos]; rw [show ((j % 4 : Nat) : Int) = (j : Int) % 4 by omega]
          have HP := Lib.hid hp; clear hp
          go_wp2_with fail
          refine (next_okE w own (Pl.pos own j) (1 + (j : Int) % 4) _ hr').mono ?_
          rintro e w3 ⟨rfl, h3⟩
          rw [← HP.out]
          go_wp2
          go_roundw
          case rel => exact ⟨j + 1, by omega, by go_num, rfl, h3⟩
          case measure => simp [intOf]; omega
        · obtain rfl : j = 8 := by omega
          rw [Pl.pos_8]
          go_wp2
          go_ret
          exact ⟨rfl, hr'.below⟩

set_option maxHeartbeats 2000000 in
theorem once_walk (own : Bool) (p : Option Addr) (b off len cap : Nat) (zs : List Int) (w : World) (h : HT w) (hb : len = 0 ∨ b < w.heap.size) (hl : len ≤ 200)
    (hz : ∀ j, 0 ≤ zs.getD j 0 ∧ zs.getD j 0 ≤ 255) (hp : len = 0 ∨ p = some ⟨b, off, none⟩) (hc : Evs w b off len zs) :
    Calls Tryd.prog 4 #[.bool own, .slice p len cap] w (Fine w) := by
  have h0 := Ok.start h; clear h
  have HZ := Lib.hid hz; clear hz
  have HB := Lib.hid hb; have HP := Lib.hid hp; clear hb hp
  go_enter Tryd.func4, Tryd.ntmps4
  go_wp2_with fail
  refine (shown_ok w w h0).mono ?_
  rintro e w1 ⟨rfl, h1⟩
  go_wp2_with fail
  go_loopw [5, 6, 7, 8] (fun t c l i wr => ∃ (k : Nat) (x : Int), k ≤ len ∧ i = .int .i64 k ∧ t = .int .i64 x ∧ c = .int .i64 (Pl.turned own x) ∧ l = .bool (Pl.ours own x) ∧ 0 ≤ x ∧ x ≤ 9 ∧ Ok w wr) (fun _ _ _ i _ => len - (intOf i).toNat)
  case atStart => exact ⟨0, 0, by omega, rfl, rfl, by rw [Pl.turned_0], by cases own <;> rfl, by omega, by omega, h1⟩
  case round =>
    obtain ⟨k, x, hk, rfl, rfl, rfl, rfl, x0, x1, hr⟩ := hrel
    by_cases hlt : k < len
    · obtain rfl : p = some ⟨b, off, none⟩ := by rcases HP.out with h | h; (omega); exact h
      have hcell : wr.cell? ⟨b, off + k, none⟩ = some (.int .u8 (zs.getD k 0)) := by
        rw [hr.below.cell (by rcases HB.out with h | h; (omega); exact h)]; exact hc k hlt
      have hz := HZ.out k
      generalize zs.getD k 0 = z at *
      obtain ⟨z0, z1⟩ := hz
      go_wp2_with fail
      · rw [Pl.turned_45, Pl.ours_45]
        rcases Pl.nxt_cases own 5 (z % 6) with hn | hn
        · have HN := Lib.hid hn; clear hn
          have g1 : (Pl.ours own 5 == Pl.ours own 5) = true := by simp
          refine (next_ok w own 5 (z % 6) wr hr).mono ?_
          rintro e w3 ⟨rfl, h3⟩
          rw [HN.out]
          go_wp2_with fail
          refine (ours_ok w own 5 w3 h3).mono ?_
          rintro e w4 ⟨rfl, h4⟩
          go_wp2
          go_roundw
          case rel => exact ⟨k + 1, 5, by omega, by go_num, rfl, rfl, rfl, by omega, by omega, h4⟩
          case measure => simp [intOf]; omega
        · replace hn : Pl.nxt own 5 (z % 6) = 6 := hn
          have HN := Lib.hid hn; clear hn
          by_cases ho : Pl.ours own 6 = Pl.ours own 5
          · have ht : Pl.turned own 6 = Pl.turned own 5 := Pl.turned_same own 5 ho
            have g1 : (Pl.ours own 6 == Pl.ours own 5) = true := beq_iff_eq.2 ho
            have HO := Lib.hid ho; have HT := Lib.hid ht; clear ho ht
            refine (next_ok w own 5 (z % 6) wr hr).mono ?_
            rintro e w3 ⟨rfl, h3⟩
            rw [HN.out]
            go_wp2_with fail
            refine (ours_ok w own 6 w3 h3).mono ?_
            rintro e w4 ⟨rfl, h4⟩
            go_wp2
            go_roundw
            case rel => exact ⟨k + 1, 6, by omega, by go_num, rfl, by rw [HT.out], by rw [HO.out], by omega, by omega, h4⟩
            case measure => simp [intOf]; omega
          · have ht : Pl.turned own 6 = Pl.turned own 5 + 1 := Pl.turned_step own 5 ho
            have tb := Pl.turned_le own 5
            obtain ⟨tb0, tb1⟩ := tb
            have g1 : (Pl.ours own 6 == Pl.ours own 5) = false := beq_eq_false_iff_ne.2 ho
            have ho' : Pl.ours own 6 = !Pl.ours own 5 := by revert ho; cases Pl.ours own 6 <;> cases Pl.ours own 5 <;> simp
            have HO := Lib.hid ho'; have HT := Lib.hid ht; clear ho ht ho'
            refine (next_ok w own 5 (z % 6) wr hr).mono ?_
            rintro e w3 ⟨rfl, h3⟩
            rw [HN.out]
            go_wp2_with fail
            refine (ours_ok w own 6 w3 h3).mono ?_
            rintro e w4 ⟨rfl, h4⟩
            go_wp2
            go_roundw
            case rel => exact ⟨k + 1, 6, by omega, by go_num, rfl, by rw [HT.out], by rw [HO.out], by omega, by omega, h4⟩
            case measure => simp [intOf]; omega
      · rcases Pl.nxt_cases own 4 (z % 6) with hn | hn
        · have HN := Lib.hid hn; clear hn
          have g1 : (Pl.ours own 4 == Pl.ours own 4) = true := by simp
          refine (next_ok w own 4 (z % 6) wr hr).mono ?_
          rintro e w3 ⟨rfl, h3⟩
          rw [HN.out]
          go_wp2_with fail
          refine (ours_ok w own 4 w3 h3).mono ?_
          rintro e w4 ⟨rfl, h4⟩
          go_wp2
          go_roundw
          case rel => exact ⟨k + 1, 4, by omega, by go_num, rfl, rfl, rfl, by omega, by omega, h4⟩
          case measure => simp [intOf]; omega
        · exact absurd hn (by rw [Pl.nxt_4]; omega)
      · rcases Pl.nxt_cases own x (z % 6) with hn | hn
        · have HN := Lib.hid hn; clear hn
          have g1 : (Pl.ours own x == Pl.ours own x) = true := by simp
          refine (next_ok w own x (z % 6) wr hr).mono ?_
          rintro e w3 ⟨rfl, h3⟩
          rw [HN.out]
          go_wp2_with fail
          refine (ours_ok w own x w3 h3).mono ?_
          rintro e w4 ⟨rfl, h4⟩
          go_wp2
          go_roundw
          case rel => exact ⟨k + 1, x, by omega, by go_num, rfl, rfl, rfl, by omega, by omega, h4⟩
          case measure => simp [intOf]; omega
        · have y9 : x + 1 ≤ 9 := by have := Pl.nxt_le own x (z % 6) (by omega); omega
          have HN := Lib.hid hn; clear hn
          by_cases ho : Pl.ours own (x + 1) = Pl.ours own x
          · have ht := Pl.turned_same own x ho
            have g1 : (Pl.ours own (x + 1) == Pl.ours own x) = true := beq_iff_eq.2 ho
            have HO := Lib.hid ho; have HT := Lib.hid ht; clear ho ht
            refine (next_ok w own x (z % 6) wr hr).mono ?_
            rintro e w3 ⟨rfl, h3⟩
            rw [HN.out]
            go_wp2_with fail
            refine (ours_ok w own (x + 1) w3 h3).mono ?_
            rintro e w4 ⟨rfl, h4⟩
            go_wp2
            go_roundw
            case rel => exact ⟨k + 1, x + 1, by omega, by go_num, rfl, by rw [HT.out], by rw [HO.out], by omega, by omega, h4⟩
            case measure => simp [intOf]; omega
          · have ht := Pl.turned_step own x ho
            have tb := Pl.turned_le own x
            obtain ⟨tb0, tb1⟩ := tb
            have g1 : (Pl.ours own (x + 1) == Pl.ours own x) = false := beq_eq_false_iff_ne.2 ho
            have ho' : Pl.ours own (x + 1) = !Pl.ours own x := by revert ho; cases Pl.ours own (x + 1) <;> cases Pl.ours own x <;> simp
            have HO := Lib.hid ho'; have HT := Lib.hid ht; clear ho ht ho'
            refine (next_ok w own x (z % 6) wr hr).mono ?_
            rintro e w3 ⟨rfl, h3⟩
            rw [HN.out]
            go_wp2_with fail
            refine (ours_ok w own (x + 1) w3 h3).mono ?_
            rintro e w4 ⟨rfl, h4⟩
            go_wp2
            go_roundw
            case rel => exact ⟨k + 1, x + 1, by omega, by go_num, rfl, by rw [HT.out], by rw [HO.out], by omega, by omega, h4⟩
            case measure => simp [intOf]; omega
    · have tb := Pl.turned_le own x
      obtain ⟨tb0, tb1⟩ := tb
      by_cases hx : x < 4
      · go_wp2
        go_ret
        exact ⟨rfl, hr.below⟩
      · have tb2 := Pl.turned_ge own x (by omega)
        go_wp2
        go_ret
        exact ⟨rfl, hr.below⟩

theorem events_long (s : Int) (own : Bool) (p : Option Addr) (len cap : Nat) (w : World) (h : HE w) (hl : 200 < len) :
    Calls Tryd.prog 3 #[.int .u8 s, .bool own, .slice p len cap] w (Fine w) := by
  have h0 := (⟨h, Below.refl _ _⟩ : OkE w w); clear h
  go_enter Tryd.func3, Tryd.ntmps3
  go_wp2_with fail
  refine (shown_okE w w h0).mono ?_
  rintro e w1 ⟨rfl, h1⟩
  go_wp2
  go_ret
  exact ⟨rfl, h1.below⟩
theorem once_long (own : Bool) (p : Option Addr) (len cap : Nat) (w : World) (h : HT w) (hl : 200 < len) :
    Calls Tryd.prog 4 #[.bool own, .slice p len cap] w (Fine w) := by
  have h0 := Ok.start h; clear h
  go_enter Tryd.func4, Tryd.ntmps4
  go_wp2_with fail
  refine (shown_ok w w h0).mono ?_
  rintro e w1 ⟨rfl, h1⟩
  go_wp2
  go_ret
  exact ⟨rfl, h1.below⟩
end Go.Proofs.YtpgghhdieekncaaDoor
