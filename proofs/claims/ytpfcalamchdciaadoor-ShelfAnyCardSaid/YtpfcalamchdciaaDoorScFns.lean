/- What the functions of the package secret on numbers return, walked once; the condition is that the table of math/bits lies in the world. -/
import Derived.Test.YtpfcalamchdciaaDoorRows
import Derived.WalkKit
import Derived.WalkSpells
import Derived.WalkLawsBesides
import Derived.Lib.Hide
import Derived.Lib.TrailingZeros
import Derived.Laws.Bits64b
import Derived.Deep.QuietTactic
import Derived.BigQuiet
import Derived.Deep.RegionWith
namespace Go.Proofs.YtpfcalamchdciaaDoor
open Go.RowKit

/-- the table of math/bits lies in the world -/
structure TzT (w : World) : Prop where
  at' : ∀ j, j < Lib.deBruijn64tab.length → w.cell? ⟨3, j, none⟩ = some (.int .u8 (Lib.deBruijn64tab.getD j 0))

set_option maxHeartbeats 1000000 in
theorem tz64_core (x k idx : Nat) (w : World) (hx0 : ((x : Int) == 0) = false)
    (key : IntKind.u64.wrap (bits BinOp.and IntKind.u64 (x : Int) (IntKind.u64.wrap (-(x : Int))) * 285870213051353865) / 288230376151711744 = (idx : Int))
    (hi : idx < 64) (hk : k < 64) (hcell : w.cell? ⟨3, idx, none⟩ = some (.int .u8 k)) :
    Calls Tryd.prog 73 #[.int .u64 x] w fun e w' => e = .returned (.int .i64 k) ∧ w = w' := by
  go_enter Tryd.func73, Tryd.ntmps73
  go_wp2_with (simp only [key])
  go_ret
  exact ⟨rfl, rfl⟩

theorem tz64_key (x a : Nat) (hx : x < 18446744073709551616) (hx0 : x ≠ 0) (hlow : x &&& (18446744073709551616 - x) = a) :
    IntKind.u64.wrap (bits BinOp.and IntKind.u64 (x : Int) (IntKind.u64.wrap (-(x : Int))) * 285870213051353865) / 288230376151711744 = ((a * 285870213051353865 % 18446744073709551616 / 288230376151711744 : Nat) : Int) := by
  have e1 : IntKind.u64.wrap (-(x : Int)) = ((18446744073709551616 - x : Nat) : Int) := by rw [IntKind.wrap_u64]; omega
  rw [e1, bits_and_u64_nat x _ hx (by omega), hlow, IntKind.wrap_u64]
  omega

theorem tz64_any (x : Nat) (hx : x < 18446744073709551616) (w : World) (hT : TzT w) :
    Calls Tryd.prog 73 #[.int .u64 x] w fun e w' => e = .returned (.int .i64 (Lib.ctz 64 x)) ∧ w = w' := by
  by_cases hx0 : x = 0
  · subst hx0
    go_enter Tryd.func73, Tryd.ntmps73
    go_wp2
    go_ret
    exact ⟨rfl, rfl⟩
  · obtain ⟨hlow, hk⟩ := Lib.lowest_bit 64 x hx0 hx
    obtain ⟨hi, htab⟩ := Lib.deBruijn64_at _ hk
    have hcell := hT.at' _ hi
    rw [htab] at hcell
    exact tz64_core x _ _ w (by simp; omega) (tz64_key x _ hx hx0 hlow) hi hk hcell

theorem tz_any (x : Nat) (hx : x < 18446744073709551616) (w : World) (hT : TzT w) :
    Calls Tryd.prog 54 #[.int .u64 x] w fun e w' => e = .returned (.int .i64 (Lib.ctz 64 x)) ∧ w = w' := by
  have h := tz64_any x hx w hT
  generalize Lib.ctz 64 x = c at *
  have H := Lib.hid h; clear h
  go_enter Tryd.func54, Tryd.ntmps54
  go_wp2_with fail
  refine (H.out).mono ?_
  rintro e w' ⟨rfl, rfl⟩
  go_wp2
  go_ret
  exact ⟨rfl, rfl⟩

theorem ret_int {k : IntKind} {a b : Int} (h : a = b) : Ending.returned (.int k a) = .returned (.int k b) := by rw [h]
theorem ret_bool {a b : Bool} (h : a = b) : Ending.returned (.bool a) = .returned (.bool b) := by rw [h]

theorem quiet_same {P : Program} {f : FuncId} {args : Array Value} {w : World} {n : Nat} {v : Value}
    (h : Calls P f args (w.drewN n) fun e w' => e = .returned v ∧ w.drewN n = w') : Calls P f args (w.drewN n) fun e w'' => e = .returned v ∧ ∃ m, w'' = w.drewN m :=
  h.mono fun _ _ ⟨he, hm⟩ => ⟨he, n, hm.symm⟩

def isN (i : Int) : Bool := decide (0 ≤ i) && decide (i < 65536)
def place (i : Int) : Nat := if isN i then min (Lib.ctz 64 i.toNat) 16 else 0

theorem isN_any (i : Int) (w : World) :
    Calls Tryd.prog 53 #[.int .i64 i] w fun e w' => e = .returned (.bool (isN i)) ∧ w = w' := by
  go_enter Tryd.func53, Tryd.ntmps53
  go_wp2
  all_goals go_ret
  all_goals exact ⟨ret_bool (by simp [isN]; omega), rfl⟩

set_option maxRecDepth 100000 in
theorem place_any (i : Int) (w : World) (hT : TzT w) :
    Calls Tryd.prog 21 #[.int .i64 i] w fun e w' => e = .returned (.int .i64 (place i)) ∧ w = w' := by
  have hn := isN_any i w
  cases h : isN i
  · rw [h] at hn
    have hp : place i = 0 := by simp [place, h]
    rw [hp]
    have HN := Lib.hid hn; clear hn h hp
    go_enter Tryd.func21, Tryd.ntmps21
    go_wp2_with fail
    refine (HN.out).mono ?_
    rintro e w' ⟨rfl, rfl⟩
    go_wp2
    go_ret
    exact ⟨rfl, rfl⟩
  · rw [h] at hn
    have h' := h
    simp only [isN, Bool.and_eq_true, decide_eq_true_eq] at h'
    obtain ⟨i0, i1⟩ := h'
    have hp : place i = min (Lib.ctz 64 i.toNat) 16 := by simp [place, h]
    rw [hp]
    obtain ⟨n, rfl⟩ := Int.eq_ofNat_of_zero_le i0
    rw [Int.toNat_natCast]
    have ht := tz_any n (by omega) w hT
    generalize Lib.ctz 64 n = c at *
    have HN := Lib.hid hn; have HT := Lib.hid ht; clear hn h hp ht
    by_cases hc : c < 16
    · rw [show ((min c 16 : Nat) : Int) = c by omega]
      go_enter Tryd.func21, Tryd.ntmps21
      go_wp2_with fail
      refine (HN.out).mono ?_
      rintro e w' ⟨rfl, rfl⟩
      go_wp2_with fail
      refine (HT.out).mono ?_
      rintro e w' ⟨rfl, rfl⟩
      go_wp2
      go_ret
      exact ⟨rfl, rfl⟩
    · rw [show ((min c 16 : Nat) : Int) = 16 by omega]
      by_cases he : c = 16
      · subst he
        clear hc
        go_enter Tryd.func21, Tryd.ntmps21
        go_wp2_with fail
        refine (HN.out).mono ?_
        rintro e w' ⟨rfl, rfl⟩
        go_wp2_with fail
        refine (HT.out).mono ?_
        rintro e w' ⟨rfl, rfl⟩
        go_wp2
        go_ret
        exact ⟨rfl, rfl⟩
      · have hlt : 16 < (c : Int) := by omega
        clear hc he
        generalize (c : Int) = C at *
        go_enter Tryd.func21, Tryd.ntmps21
        go_wp2_with fail
        refine (HN.out).mono ?_
        rintro e w' ⟨rfl, rfl⟩
        go_wp2_with fail
        refine (HT.out).mono ?_
        rintro e w' ⟨rfl, rfl⟩
        go_wp2
        go_ret
        exact ⟨rfl, rfl⟩

def can (a b : Int) : Bool := isN a && isN b && (a / 2 ^ place a == b / 2 ^ place a)

theorem place_le (i : Int) : place i ≤ 16 := by unfold place; split <;> omega

theorem can_true (a b : Int) (p : Nat) (w : World) (hp : Calls Tryd.prog 21 #[.int .i64 a] w fun e w' => e = .returned (.int .i64 p) ∧ w = w') (hle : p ≤ 16)
    (ha : isN a = true) (hb : isN b = true) :
    Calls Tryd.prog 22 #[.int .i64 a, .int .i64 b] w fun e w' => e = .returned (.bool (a / 2 ^ p == b / 2 ^ p)) ∧ ∃ n, w' = w.drewN n := by
  have hn := fun w => isN_any a w
  have hm := fun w => isN_any b w
  rw [ha] at hn; rw [hb] at hm
  have HP := Lib.hid hp; have HN := Lib.hid hn; have HM := Lib.hid hm
  clear hp hn hm
  simp only [isN, Bool.and_eq_true, decide_eq_true_eq] at ha hb
  obtain ⟨a0, a1⟩ := ha
  obtain ⟨b0, b1⟩ := hb
  clear a1 b1
  go_enter Tryd.func22, Tryd.ntmps22
  go_wp2_with fail
  refine (HP.out).mono ?_
  rintro e w' ⟨rfl, rfl⟩
  go_wp2_with fail
  go_quiet (first | (go_at_call_of 53 (Value.int .i64 a); exact quiet_same (HN.out _)) | (go_at_call_of 53 (Value.int .i64 b); exact quiet_same (HM.out _)))
  go_wp2
  go_ret
  exact ⟨rfl, _, rfl⟩
theorem can_no1 (a b : Int) (p : Nat) (w : World) (hp : Calls Tryd.prog 21 #[.int .i64 a] w fun e w' => e = .returned (.int .i64 p) ∧ w = w')
    (ha : isN a = false) :
    Calls Tryd.prog 22 #[.int .i64 a, .int .i64 b] w fun e w' => e = .returned (.bool false) ∧ ∃ n, w' = w.drewN n := by
  have hn := fun w => isN_any a w
  rw [ha] at hn
  have HP := Lib.hid hp; have HN := Lib.hid hn
  clear hp hn ha
  go_enter Tryd.func22, Tryd.ntmps22
  go_wp2_with fail
  refine (HP.out).mono ?_
  rintro e w' ⟨rfl, rfl⟩
  go_wp2_with fail
  go_quiet ((go_at_call 53; exact quiet_same (HN.out _)))
  go_wp2
  go_ret
  exact ⟨rfl, _, rfl⟩
theorem can_no2 (a b : Int) (p : Nat) (w : World) (hp : Calls Tryd.prog 21 #[.int .i64 a] w fun e w' => e = .returned (.int .i64 p) ∧ w = w')
    (ha : isN a = true) (hb : isN b = false) :
    Calls Tryd.prog 22 #[.int .i64 a, .int .i64 b] w fun e w' => e = .returned (.bool false) ∧ ∃ n, w' = w.drewN n := by
  have hn := fun w => isN_any a w
  have hm := fun w => isN_any b w
  rw [ha] at hn; rw [hb] at hm
  have HP := Lib.hid hp; have HN := Lib.hid hn; have HM := Lib.hid hm
  clear hp hn hm ha hb
  go_enter Tryd.func22, Tryd.ntmps22
  go_wp2_with fail
  refine (HP.out).mono ?_
  rintro e w' ⟨rfl, rfl⟩
  go_wp2_with fail
  go_quiet (first | (go_at_call_of 53 (Value.int .i64 a); exact quiet_same (HN.out _)) | (go_at_call_of 53 (Value.int .i64 b); exact quiet_same (HM.out _)))
  go_wp2
  go_ret
  exact ⟨rfl, _, rfl⟩

theorem can_any (a b : Int) (w : World) (hT : TzT w) :
    Calls Tryd.prog 22 #[.int .i64 a, .int .i64 b] w fun e w' => e = .returned (.bool (can a b)) ∧ ∃ n, w' = w.drewN n := by
  have hp := place_any a w hT
  unfold can
  cases ha : isN a
  · exact can_no1 a b _ w hp ha
  · cases hb : isN b
    · exact can_no2 a b _ w hp ha hb
    · exact can_true a b _ w hp (place_le a) ha hb
end Go.Proofs.YtpfcalamchdciaaDoor
