/- What Most returns: a number that is enough, or 0, above which none is enough; the condition is that what came in lies in its kind's range. -/
import Derived.Test.YtnnnbgndbmcffaaAmRef
namespace Go.Proofs.Ytnnnbgndbmcffaa
open Go.RowKit

theorem most1_any (inn out base rate : Int) (a b c : Addr) (w : World) (hi : U64 inn) (ho : U64 out) (hb : U64 base) (hr : U64 rate)
    (ha : w.cell? a = some (.int .u64 inn)) (hb' : w.cell? b = some (.int .u64 base)) (hc : w.cell? c = some (.int .u64 rate)) :
    Calls Try.prog 69 #[.int .u64 out, .pointer (some a), .pointer (some b), .pointer (some c)] w fun e w' => e = .returned (.bool (Am.enough inn out base rate)) ∧ Below w.heap.size w w' := by
  go_enter Try.func69, Try.ntmps69
  go_wp2_with fail
  refine (enough_any inn out base rate w hi ho hb hr).mono ?_
  rintro e w' ⟨rfl, hw⟩
  go_wp2
  go_ret
  exact ⟨rfl, hw⟩

/-- what Most comes to -/
structure IsMost (inn base rate m : Int) : Prop where
  lo : 0 ≤ m
  hi : m ≤ inn
  yes : m = 0 ∨ Am.enough inn m base rate = true
  no : ∀ x, m < x → Am.enough inn x base rate = false
def Mosts (inn base rate : Int) (w : World) (e : Ending) (w' : World) : Prop := ∃ m, e = .returned (.int .u64 m) ∧ IsMost inn base rate m ∧ Below w.heap.size w w'
/-- the search, under way -/
structure Search (inn base rate l h : Int) : Prop where
  l0 : 0 ≤ l
  lh : l ≤ h
  hi : h ≤ inn
  yes : l = 0 ∨ Am.enough inn l base rate = true
  no : ∀ x, h < x → Am.enough inn x base rate = false

theorem enough_le {inn x base rate : Int} (h : Am.enough inn x base rate = true) (hb : 0 ≤ base) (hx : 0 ≤ x) (hr : 0 ≤ rate) : x ≤ inn := by
  have : 0 ≤ x * rate := Int.mul_nonneg hx hr
  simp only [Am.enough, Bool.and_eq_true, decide_eq_true_eq] at h
  omega

/-- the captured numbers in their boxes -/
structure Boxes (inn base rate : Int) (w wr : World) : Prop where
  b0 : wr.cell? ⟨w.heap.size, 0, none⟩ = some (.int .u64 inn)
  b1 : wr.cell? ⟨w.heap.size + 1, 0, none⟩ = some (.int .u64 base)
  b2 : wr.cell? ⟨w.heap.size + 2, 0, none⟩ = some (.int .u64 rate)
  below : Below w.heap.size w wr
theorem Boxes.next {inn base rate : Int} {w wr w' : World} (h : Boxes inn base rate w wr) (b : Below wr.heap.size wr w') : Boxes inn base rate w w' := by
  refine ⟨?_, ?_, ?_, h.below.trans (b.mono h.below.size)⟩
  · rw [b.cell (World.block_lt_of_cell? wr _ h.b0)]; exact h.b0
  · rw [b.cell (World.block_lt_of_cell? wr _ h.b1)]; exact h.b1
  · rw [b.cell (World.block_lt_of_cell? wr _ h.b2)]; exact h.b2
theorem boxes_start (inn base rate : Int) (w : World) (n : Nat) :
    Boxes inn base rate w ((((w.alloc (.cells #[.int .u64 inn] 23)).alloc (.cells #[.int .u64 base] 23)).alloc (.cells #[.int .u64 rate] 23)).drewN n) := by
  refine ⟨by go_simp, by go_simp, by go_simp, ?_⟩
  exact below_drewN ((((Below.refl _ _).alloc (Nat.le_refl _) _).alloc (by simp) _).alloc (by simp; omega) _) n

set_option maxHeartbeats 1000000 in
theorem most_any (inn base rate : Int) (w : World) (hi : U64 inn) (hb : U64 base) (hr : U64 rate) :
    Calls Try.prog 34 #[.int .u64 inn, .int .u64 base, .int .u64 rate] w (Mosts inn base rate w) := by
  have i0 := hi.lo
  have i1 := hi.hi
  have hno : ∀ x, inn < x → Am.enough inn x base rate = false := fun x hx => by
    rw [Bool.eq_false_iff]; intro h
    have := enough_le h hb.lo (by omega) hr.lo; omega
  have HNO := Lib.hid hno; clear hno
  go_enter Try.func34, Try.ntmps34
  go_wp2
  go_quiet (fail)
  go_wp2
  go_loopw [8, 9] (fun l h wr => ∃ x y : Int, l = .int .u64 x ∧ h = .int .u64 y ∧ Search inn base rate x y ∧ Boxes inn base rate w wr) (fun l h _ => (intOf h - intOf l).toNat)
  case atStart => exact ⟨0, inn, rfl, rfl, ⟨by omega, by omega, by omega, .inl rfl, HNO.out⟩, boxes_start inn base rate w nq⟩
  case round =>
    obtain ⟨x, y, rfl, rfl, hS, hB⟩ := hrel
    have x0 := hS.l0
    have xy := hS.lh
    have yi := hS.hi
    by_cases hlt : x < y
    · have hm0 : 0 ≤ y - (y - x) / 2 := by omega
      have hm1 : y - (y - x) / 2 ≤ inn := by omega
      obtain ⟨m, hm⟩ : ∃ m, m = y - (y - x) / 2 := ⟨_, rfl⟩
      rw [← hm] at hm0 hm1
      have hmx : x < m := by omega
      have hmy : m ≤ y := by omega
      have hM : y - (y - x) / 2 = m := hm.symm
      clear hm
      have hcall := most1_any inn m base rate ⟨w.heap.size, 0, none⟩ ⟨w.heap.size + 1, 0, none⟩ ⟨w.heap.size + 2, 0, none⟩ wr hi ⟨hm0, by omega⟩ hb hr hB.b0 hB.b1 hB.b2
      have HC := Lib.hid hcall; clear hcall
      have HNO' := HNO
      by_cases hy : Am.enough inn m base rate = true
      · rw [hy] at HC
        have hS' : Search inn base rate m y := ⟨hm0, hmy, yi, .inr hy, hS.no⟩
        clear hy
        go_wp2_with fail
        refine (HC.out).mono ?_
        rintro e w' ⟨rfl, hw⟩
        have hB' := hB.next hw
        go_wp2
        go_roundw
        case rel => exact ⟨m, y, rfl, rfl, hS', hB'⟩
        case measure => simp [intOf]; omega
      · have hy' : Am.enough inn m base rate = false := by simpa using hy
        rw [hy'] at HC
        have hr0 : 0 ≤ rate := hr.lo
        have hS' : Search inn base rate x (m - 1) := ⟨x0, by omega, by omega, hS.yes, fun z hz => by
          by_cases hzm : z = m
          · subst hzm; exact hy'
          · rw [Bool.eq_false_iff]; intro hh
            exact hy (Am.enough_mono (by omega) hr0 hh)⟩
        clear hy hy' hr0
        go_wp2_with fail
        refine (HC.out).mono ?_
        rintro e w' ⟨rfl, hw⟩
        have hB' := hB.next hw
        go_wp2
        go_roundw
        case rel => exact ⟨x, m - 1, rfl, rfl, hS', hB'⟩
        case measure => simp [intOf]; omega
    · obtain rfl : x = y := by omega
      go_wp2
      go_ret
      exact ⟨x, rfl, ⟨x0, yi, hS.yes, hS.no⟩, hB.below⟩
end Go.Proofs.Ytnnnbgndbmcffaa
