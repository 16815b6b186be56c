/- What the reference's Add, Fee and Enough return, over the contracts below; the condition is that what came in lies in its kind's range. -/
import Derived.Test.YtnnnbgndbmcffaaAmFee
namespace Go.Proofs.Ytnnnbgndbmcffaa
open Go.RowKit

set_option maxHeartbeats 400000 in
theorem radd_any (p : Option Addr) (len cap : Nat) (zs : List Int) (w : World) (h : URow w p len zs) :
    Calls Try.prog 30 #[.slice p len cap] w fun e w' => e = .returned (.tuple #[.int .u64 (Am.addF zs).1, .int .i64 (Am.addF zs).2]) ∧ w = w' := by
  obtain ⟨hl, hs, hf, b, off, hp, hc⟩ := h
  rw [← Am.addL_addF (fun z hz => (hf z hz).1)]
  have HL := Lib.hid hl; have HF := Lib.hid hf; have HP := Lib.hid hp; have HC := Lib.hid hc
  clear hl hf hp hc
  go_enter Try.func30, Try.ntmps30
  go_wp2
  go_loop [4, 5] (fun s i => ∃ (k : Nat) (x : Int), k ≤ len ∧ i = .int .i64 k ∧ s = .int .u64 x ∧ 0 ≤ x ∧ x ≤ 1125899906842624 ∧ Am.addL 0 zs = Am.addL x (zs.drop k)) (fun _ i => len - (intOf i).toNat)
  case atStart => exact ⟨0, 0, by omega, rfl, rfl, by omega, by omega, by simp⟩
  case round =>
    obtain ⟨k, x, hk, rfl, rfl, x0, x1, hx⟩ := hrel
    have HX := Lib.hid hx; clear hx
    by_cases hlt : k < len
    · obtain rfl : p = some ⟨b, off, none⟩ := by rcases HP.out with h | h; (omega); exact h
      have hcell := HC.out k hlt
      have hfit : 0 ≤ zs.getD k 0 ∧ zs.getD k 0 ≤ 18446744073709551615 := HF.out _ (by have := HL.out; simp [show k < zs.length by omega])
      have hd := drop_step zs k (by have := HL.out; omega)
      rw [hd] at HX
      clear hd
      generalize zs.getD k 0 = z at *
      obtain ⟨z0, z1⟩ := hfit
      by_cases hgt : 1125899906842624 - x < z
      · have he : Am.addL x (z :: zs.drop (k + 1)) = (0, 60) := by
          simp only [Am.addL]; rw [if_pos (by show (1125899906842624 : Int) - x < z; exact hgt)]
        have HE := Lib.hid (HX.out.trans he); clear he
        by_cases hz : 1125899906842624 < z
        all_goals
          go_wp2
          go_ret2
          exact ⟨by rw [HE.out]; rfl, rfl⟩
      · have he : Am.addL x (z :: zs.drop (k + 1)) = Am.addL (x + z) (zs.drop (k + 1)) := by
          simp only [Am.addL]; rw [if_neg (by show ¬ (1125899906842624 : Int) - x < z; exact hgt)]
        have HE := Lib.hid (HX.out.trans he); clear he
        have hz : ¬ 1125899906842624 < z := by omega
        go_wp2
        go_round
        case rel => exact ⟨k + 1, x + z, by omega, by go_num, rfl, by omega, by omega, HE.out⟩
        case measure => simp [intOf]; omega
    · have he : Am.addL x (zs.drop k) = (x, 0) := by
        rw [List.drop_eq_nil_of_le (by have := HL.out; omega)]; rfl
      have HE := Lib.hid (HX.out.trans he); clear he
      go_wp2
      go_ret2
      exact ⟨by rw [HE.out]; rfl, rfl⟩

set_option maxHeartbeats 400000 in
theorem rfee_any (base rate n : Int) (w : World) (hb : U64 base) (hr : U64 rate) (hn : U64 n) :
    Calls Try.prog 32 #[.int .u64 base, .int .u64 rate, .int .u64 n] w fun e w' => e = .returned (.tuple #[.int .u64 (Am.feeF base rate n).1, .int .i64 (Am.feeF base rate n).2]) ∧ Below w.heap.size w w' := by
  have hm := share_any n rate w hn hr
  have hp : 0 ≤ n * rate := Int.mul_nonneg hn.lo hr.lo
  have b0 := hb.lo
  have hf : Am.feeF base rate n = if base + n * rate / 1000000 ≤ 1125899906842624 then (base + n * rate / 1000000, 0) else (0, 60) := rfl
  rw [hf]; clear hf
  have q0 : 0 ≤ n * rate / 1000000 := by omega
  clear hp
  generalize n * rate / 1000000 = q at *
  have HM := Lib.hid hm; clear hm
  have he := addF_two base q
  have HE := Lib.hid he; clear he
  go_enter Try.func32, Try.ntmps32
  go_wp2_with fail
  refine (HM.out).mono ?_
  rintro e w' ⟨⟨hq, rfl⟩ | ⟨hq, x, rfl⟩, rfl⟩
  · go_wp2_with fail
    refine (radd_any _ 2 2 _ _ (urow_two _ base q hb ⟨q0, hq⟩)).mono ?_
    rintro e w' ⟨rfl, rfl⟩
    rw [HE.out]
    go_wp2
    all_goals
      go_ret2
      exact ⟨rfl, (Below.refl _ _).alloc (Nat.le_refl _) _⟩
  · have hx : 1125899906842624 < base + q := by omega
    go_wp2
    go_ret2
    exact ⟨rfl, Below.refl _ _⟩

set_option maxHeartbeats 400000 in
theorem renough_any (inn out base rate : Int) (w : World) (hi : U64 inn) (ho : U64 out) (hb : U64 base) (hr : U64 rate) :
    Calls Try.prog 33 #[.int .u64 inn, .int .u64 out, .int .u64 base, .int .u64 rate] w fun e w' => e = .returned (.bool (Am.enough inn out base rate)) ∧ Below w.heap.size w w' := by
  have hm := rfee_any base rate out w hb hr ho
  have b0 := hb.lo
  have o0 := ho.lo
  have i1 := hi.hi
  have hp : 0 ≤ out * rate := Int.mul_nonneg o0 hr.lo
  have hE : Am.enough inn out base rate = (decide (out + (base + out * rate / 1000000) ≤ inn) && decide (base + out * rate / 1000000 ≤ 1125899906842624)) := rfl
  rcases feeF_two base rate out with ⟨e2, e1, hle⟩ | ⟨e2, e1, hgt⟩
  · rw [e1, e2] at hm; clear e1 e2
    rw [hE]; clear hE
    have q0 : 0 ≤ out * rate / 1000000 := by omega
    clear hp
    generalize out * rate / 1000000 = q at *
    have HM := Lib.hid hm; clear hm
    by_cases hoi : out ≤ inn
    · have hres : (decide (out + (base + q) ≤ inn) && decide (base + q ≤ 1125899906842624)) = decide (base + q ≤ inn - out) := by rw [Bool.eq_iff_iff]; simp; omega
      rw [hres]; clear hres
      go_enter Try.func33, Try.ntmps33
      go_wp2_with fail
      refine (HM.out).mono ?_
      rintro e w' ⟨rfl, hw⟩
      go_wp2
      go_ret
      exact ⟨rfl, hw⟩
    · have hres : (decide (out + (base + q) ≤ inn) && decide (base + q ≤ 1125899906842624)) = false := by simp; omega
      rw [hres]; clear hres
      go_enter Try.func33, Try.ntmps33
      go_wp2_with fail
      refine (HM.out).mono ?_
      rintro e w' ⟨rfl, hw⟩
      go_wp2
      go_ret
      exact ⟨rfl, hw⟩
  · rw [e1, e2] at hm; clear e1 e2
    rw [hE]; clear hE hp
    generalize out * rate / 1000000 = q at *
    have hres : (decide (out + (base + q) ≤ inn) && decide (base + q ≤ 1125899906842624)) = false := by simp; omega
    rw [hres]; clear hres
    have HM := Lib.hid hm; clear hm
    go_enter Try.func33, Try.ntmps33
    go_wp2_with fail
    refine (HM.out).mono ?_
    rintro e w' ⟨rfl, hw⟩
    go_wp2
    go_ret
    exact ⟨rfl, hw⟩



end Go.Proofs.Ytnnnbgndbmcffaa
