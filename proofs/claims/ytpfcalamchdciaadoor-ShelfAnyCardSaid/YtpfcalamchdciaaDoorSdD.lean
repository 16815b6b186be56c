/- What the law package's shown of secrets returns, and the contracts of secret's functions with what was there kept; the condition is that the tables are laid. -/
import Derived.Test.YtpfcalamchdciaaDoorSdC
import Derived.Test.YtpfcalamchdciaaDoorSeD
namespace Go.Proofs.YtpfcalamchdciaaDoor
open Go.RowKit
set_option linter.unusedVariables false
theorem TzT.below' {w w' : World} (h : TzT w) (hb : Below w.heap.size w w') : TzT w' := h.below hb h.lt
theorem can_b (a b : Int) (w : World) (h : TzT w) : Calls Tryd.prog 22 #[.int .i64 a, .int .i64 b] w fun e w' => e = .returned (.bool (can a b)) ∧ Below w.heap.size w w' :=
  (can_any a b w h).mono fun e w' ⟨he, n, hw⟩ => ⟨he, hw ▸ M.below_drewN (Below.refl _ _) n⟩
theorem place_b (i : Int) (w : World) (h : TzT w) : Calls Tryd.prog 21 #[.int .i64 i] w fun e w' => e = .returned (.int .i64 (place i)) ∧ Below w.heap.size w w' :=
  (place_any i w h).mono fun e w' ⟨he, hw⟩ => ⟨he, hw ▸ Below.refl _ _⟩
theorem scshown_b (w : World) (h : TzT w) : Calls Tryd.prog 23 #[] w fun e w' => e = .returned (.bool true) ∧ Below w.heap.size w w' := by
  have c1 : can 8 11 = true := by decide
  have c2 : can 8 16 = false := by decide
  have c3 : place 8 = 3 := by decide
  have C1 := Lib.hid c1; have C2 := Lib.hid c2; have C3 := Lib.hid c3
  obtain ⟨n, hn⟩ : ∃ n, w.heap.size = n := ⟨_, rfl⟩
  have k0 : KB n w [] w := hn ▸ KB.start w
  have HN := Lib.hid hn
  have h3 : 3 < n := hn ▸ h.lt
  have tz := fun v (hb : Below n w v) => h.below hb h3
  have TZ := Lib.hid tz
  clear c1 c2 c3 hn tz h h3
  go_enter Tryd.func23, Tryd.ntmps23
  go_wp2_with fail
  refine (can_b 8 11 _ (TZ.out _ k0.below)).mono ?_
  rintro e w1 ⟨rfl, gq⟩
  have k1 := k0.same gq
  clear gq k0
  rw [C1.out]
  go_wp2_with fail
  refine (can_b 8 16 _ (TZ.out _ k1.below)).mono ?_
  rintro e w2 ⟨rfl, gq⟩
  have k2 := k1.same gq
  clear gq k1
  rw [C2.out]
  go_wp2_with fail
  refine (place_b 8 _ (TZ.out _ k2.below)).mono ?_
  rintro e w3 ⟨rfl, gq⟩
  have k3 := k2.same gq
  clear gq k2
  rw [C3.out]
  go_wp2
  go_ret
  exact ⟨rfl, by rw [HN.out]; exact k3.below⟩

theorem hash_zero (W : World) : (Op.equalIn 10000 28 (.agg Z32) (.agg #[.int .u8 0, .int .u8 0, .int .u8 0, .int .u8 0, .int .u8 0, .int .u8 0, .int .u8 0, .int .u8 0, .int .u8 0, .int .u8 0, .int .u8 0, .int .u8 0, .int .u8 0, .int .u8 0, .int .u8 0, .int .u8 0, .int .u8 0, .int .u8 0, .int .u8 0, .int .u8 0, .int .u8 0, .int .u8 0, .int .u8 0, .int .u8 0, .int .u8 0, .int .u8 0, .int .u8 0, .int .u8 0, .int .u8 0, .int .u8 0, .int .u8 0, .int .u8 0])).run Tryd.prog W = .ok true W := by
  have := r8_eq (fun _ => 0) W
  rw [z32_r8] at this
  exact this
end Go.Proofs.YtpfcalamchdciaaDoor
