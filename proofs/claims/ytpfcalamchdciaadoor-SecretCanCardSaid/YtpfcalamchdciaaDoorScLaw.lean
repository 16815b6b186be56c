/- The walk of the law SecretCan over the contracts: it returns true; the condition is that the table of math/bits lies in the world. -/
import Derived.Test.YtpfcalamchdciaaDoorScFns
import Derived.Test.YtpfcalamchdciaaDoorScPlain
namespace Go.Proofs.YtpfcalamchdciaaDoor
open Go.RowKit

theorem isN_nat {x : Nat} (h : x < 65536) : isN (x : Int) = true := by simp [isN]; omega
theorem place_nat {x : Nat} (h : x < 65536) : place (x : Int) = Sc.pl x := by
  unfold place; rw [isN_nat h]; rfl
theorem pow_cast (p : Nat) : ((2 : Int) ^ p) = ((2 ^ p : Nat) : Int) := by simp
theorem can_nat {x y : Nat} (hx : x < 65536) (hy : y < 65536) : can (x : Int) (y : Int) = decide (x ≤ y ∧ y < x + 2 ^ Sc.pl x) := by
  have h := Sc.tell_iff (y := y) hx
  unfold can
  rw [isN_nat hx, isN_nat hy, place_nat hx, pow_cast, Bool.eq_iff_iff]
  simp only [Bool.true_and, beq_iff_eq, decide_eq_true_eq]
  rw [← h, ← Int.natCast_ediv, ← Int.natCast_ediv]
  omega

/-- the world of a law under way -/
structure OkZ (w0 w : World) : Prop where
  tz : TzT w
  below : Below w0.heap.size w0 w
theorem TzT.drewN {w : World} (h : TzT w) (n : Nat) : TzT (w.drewN n) := ⟨h.at'⟩
theorem below_drewN {B : Nat} {a w : World} (h : Below B a w) (n : Nat) : Below B a (w.drewN n) := ⟨h.os, h.tape, h.output, h.size, h.block⟩
theorem can_ok (w0 : World) (a b : Int) (w : World) (h : OkZ w0 w) :
    Calls Tryd.prog 22 #[.int .i64 a, .int .i64 b] w fun e w' => e = .returned (.bool (can a b)) ∧ OkZ w0 w' :=
  (can_any a b w h.tz).mono fun _ _ ⟨he, n, hw⟩ => ⟨he, hw ▸ ⟨h.tz.drewN n, below_drewN h.below n⟩⟩
theorem place_ok (w0 : World) (i : Int) (w : World) (h : OkZ w0 w) :
    Calls Tryd.prog 21 #[.int .i64 i] w fun e w' => e = .returned (.int .i64 (place i)) ∧ OkZ w0 w' :=
  (place_any i w h.tz).mono fun _ _ ⟨he, hw⟩ => ⟨he, hw ▸ h⟩

theorem scshown_ok (w0 w : World) (h : OkZ w0 w) : Calls Tryd.prog 23 #[] w fun e w' => e = .returned (.bool true) ∧ OkZ w0 w' := by
  have c1 : can 8 11 = true := by decide
  have c2 : can 8 16 = false := by decide
  have c3 : place 8 = 3 := by decide
  have C1 := Lib.hid c1; have C2 := Lib.hid c2; have C3 := Lib.hid c3
  clear c1 c2 c3
  go_enter Tryd.func23, Tryd.ntmps23
  go_wp2_with fail
  refine (can_ok w0 8 11 w h).mono ?_
  rintro e w1 ⟨rfl, h1⟩
  rw [C1.out]
  go_wp2_with fail
  refine (can_ok w0 8 16 w1 h1).mono ?_
  rintro e w2 ⟨rfl, h2⟩
  rw [C2.out]
  go_wp2_with fail
  refine (place_ok w0 8 w2 h2).mono ?_
  rintro e w3 ⟨rfl, h3⟩
  rw [C3.out]
  go_wp2
  go_ret
  exact ⟨rfl, h3⟩

def Fine (w : World) (e : Ending) (w' : World) : Prop := e = .returned (.bool true) ∧ Below w.heap.size w w'

theorem can_int {x y : Int} (x0 : 0 ≤ x) (hx : x < 65536) (y0 : 0 ≤ y) (hy : y < 65536) : can x y = decide (x ≤ y ∧ y < x + 2 ^ place x) := by
  obtain ⟨a, rfl⟩ := Int.eq_ofNat_of_zero_le x0
  obtain ⟨b, rfl⟩ := Int.eq_ofNat_of_zero_le y0
  rw [can_nat (by omega) (by omega), place_nat (by omega), pow_cast, decide_eq_decide]
  omega
theorem top_int {x : Int} (x0 : 0 ≤ x) (hx : x < 65536) : x + 2 ^ place x ≤ 65536 ∧ 1 ≤ (2 : Int) ^ place x := by
  obtain ⟨a, rfl⟩ := Int.eq_ofNat_of_zero_le x0
  have := Sc.tell_top (x := a) (by omega)
  have h2 : 0 < 2 ^ Sc.pl a := Nat.two_pow_pos _
  rw [place_nat (by omega), pow_cast]
  omega
theorem trans_int {x y z : Int} (x0 : 0 ≤ x) (hx : x < 65536) (y0 : 0 ≤ y) (hy : y < 65536) (h1 : x ≤ y ∧ y < x + 2 ^ place x) (h2 : y ≤ z ∧ z < y + 2 ^ place y) : x ≤ z ∧ z < x + 2 ^ place x := by
  obtain ⟨a, rfl⟩ := Int.eq_ofNat_of_zero_le x0
  obtain ⟨b, rfl⟩ := Int.eq_ofNat_of_zero_le y0
  obtain ⟨c, rfl⟩ := Int.eq_ofNat_of_zero_le (a := z) (by omega)
  rw [place_nat (by omega), pow_cast] at *
  have := Sc.tell_trans (x := a) (y := b) (z := c) (by omega) (by omega) (by omega) (by omega)
  omega

set_option maxHeartbeats 1000000 in
theorem can_walk (x y z : Int) (x0 : 0 ≤ x) (hx : x < 65536) (y0 : 0 ≤ y) (hy : y < 65536) (z0 : 0 ≤ z) (hz : z < 65536) (w : World) (hT : TzT w) :
    Calls Tryd.prog 3 #[.int .u16 x, .int .u16 y, .int .u16 z] w (Fine w) := by
  have h0 : OkZ w w := ⟨hT, Below.refl _ _⟩
  clear hT
  have exx := can_int x0 hx x0 hx
  have exy := can_int x0 hx y0 hy
  have eyz := can_int y0 hy z0 hz
  have exz := can_int x0 hx z0 hz
  have e0x := can_int (x := 0) (by omega) (by omega) x0 hx
  have tr := trans_int (z := z) x0 hx y0 hy
  obtain ⟨t1, t2⟩ := top_int x0 hx
  have hxx : can x x = true := by rw [exx, decide_eq_true_eq]; omega
  have h0x : can 0 x = true := by rw [e0x, decide_eq_true_eq, show place 0 = 16 by decide]; omega
  have p16 := place_le x
  have hyz0 : can y z = decide (y ≤ z ∧ z < y + 2 ^ place y) := eyz
  have tr' : can x y = true → can y z = true → can x z = true := by
    rw [exy, eyz, exz, decide_eq_true_eq, decide_eq_true_eq, decide_eq_true_eq]; exact tr
  clear exx eyz exz e0x tr hyz0
  have pl0 := fun w h => place_ok w x w h
  generalize place x = p at *
  generalize hP : (2 : Int) ^ p = P at *
  have TR := Lib.hid tr'; have HXX := Lib.hid hxx; have H0X := Lib.hid h0x; have HXY := Lib.hid exy
  have PL := Lib.hid pl0
  clear tr' hxx h0x exy pl0
  go_enter Tryd.func3, Tryd.ntmps3
  go_wp2_with fail
  refine (PL.out w h0).mono ?_
  rintro e w1 ⟨rfl, h1⟩
  by_cases c1 : x ≤ y
  · by_cases c2 : y < x + P
    · have hf : can x y = true := by rw [HXY.out, decide_eq_true_eq]; omega
      have HF := Lib.hid hf; clear hf
      go_wp2_with fail
      refine (can_ok w x x w1 h1).mono ?_
      rintro e w2 ⟨rfl, h2⟩
      rw [HXX.out]
      go_wp2_with fail
      refine (can_ok w x y w2 h2).mono ?_
      rintro e w3 ⟨rfl, h3⟩
      rw [HF.out]
      go_wp2_with fail
      refine (can_ok w x y w3 h3).mono ?_
      rintro e w4 ⟨rfl, h4⟩
      rw [HF.out]
      go_wp2_with fail
      refine (can_ok w y z w4 h4).mono ?_
      rintro e w5 ⟨rfl, h5⟩
      cases hyz : can y z
      · clear hyz
        go_wp2_with fail
        refine (can_ok w 0 x w5 h5).mono ?_
        rintro e w6 ⟨rfl, h6⟩
        rw [H0X.out]
        go_wp2_with fail
        refine (scshown_ok w w6 h6).mono ?_
        rintro e w7 ⟨rfl, h7⟩
        go_wp2
        go_ret
        exact ⟨rfl, h7.below⟩
      · have hxz := TR.out HF.out hyz
        have HXZ := Lib.hid hxz; clear hxz hyz
        go_wp2_with fail
        refine (can_ok w x z w5 h5).mono ?_
        rintro e w6 ⟨rfl, h6⟩
        rw [HXZ.out]
        go_wp2_with fail
        refine (can_ok w 0 x w6 h6).mono ?_
        rintro e w7 ⟨rfl, h7⟩
        rw [H0X.out]
        go_wp2_with fail
        refine (scshown_ok w w7 h7).mono ?_
        rintro e w8 ⟨rfl, h8⟩
        go_wp2
        go_ret
        exact ⟨rfl, h8.below⟩
    · have c2' : decide (y < x + P) = false := by simp; omega
      have hf : can x y = false := by rw [HXY.out, decide_eq_false_iff_not]; omega
      have HF := Lib.hid hf; clear hf
      go_wp2_with fail
      refine (can_ok w x x w1 h1).mono ?_
      rintro e w2 ⟨rfl, h2⟩
      rw [HXX.out]
      go_wp2_with fail
      refine (can_ok w x y w2 h2).mono ?_
      rintro e w3 ⟨rfl, h3⟩
      rw [HF.out]
      go_wp2_with fail
      refine (can_ok w x y w3 h3).mono ?_
      rintro e w4 ⟨rfl, h4⟩
      rw [HF.out]
      go_wp2_with fail
      refine (can_ok w 0 x w4 h4).mono ?_
      rintro e w5 ⟨rfl, h5⟩
      rw [H0X.out]
      go_wp2_with fail
      refine (scshown_ok w w5 h5).mono ?_
      rintro e w6 ⟨rfl, h6⟩
      go_wp2
      go_ret
      exact ⟨rfl, h6.below⟩
  · have c1' : y < x := by omega
    clear c1
    have hf : can x y = false := by rw [HXY.out, decide_eq_false_iff_not]; omega
    have HF := Lib.hid hf; clear hf
    go_wp2_with fail
    refine (can_ok w x x w1 h1).mono ?_
    rintro e w2 ⟨rfl, h2⟩
    rw [HXX.out]
    go_wp2_with fail
    refine (can_ok w x y w2 h2).mono ?_
    rintro e w3 ⟨rfl, h3⟩
    rw [HF.out]
    go_wp2_with fail
    refine (can_ok w x y w3 h3).mono ?_
    rintro e w4 ⟨rfl, h4⟩
    rw [HF.out]
    go_wp2_with fail
    refine (can_ok w 0 x w4 h4).mono ?_
    rintro e w5 ⟨rfl, h5⟩
    rw [H0X.out]
    go_wp2_with fail
    refine (scshown_ok w w5 h5).mono ?_
    rintro e w6 ⟨rfl, h6⟩
    go_wp2
    go_ret
    exact ⟨rfl, h6.below⟩
end Go.Proofs.YtpfcalamchdciaaDoor
