/- What the reference's Number returns: the same bytes, or error, as the writer's; the condition is the number's range. -/
import Derived.Test.YtiilgkhndfnkgaaDoorOcW2
namespace Go.Proofs.YtiilgkhndfnkgaaDoor.Oc
open Go.RowKit
set_option linter.unusedVariables false

/-- the lowest k bytes of n, the highest one first -/
def low (n : Int) : Nat → List Int
  | 0 => []
  | k + 1 => n / 256 ^ k % 256 :: low n k
theorem low_len (n : Int) (k : Nat) : (low n k).length = k := by induction k with
  | zero => rfl
  | succ k ih => simp [low, ih]

theorem pow8 (k : Nat) : (2 : Int) ^ (8 * (k : Int)).toNat = 256 ^ k := by
  rw [show (8 * (k : Int)).toNat = 8 * k by omega, Int.pow_mul]; rfl

theorem low_get (n : Int) (k t : Nat) (h : t < k) : (low n k)[t]? = some (n / 256 ^ (k - 1 - t) % 256) := by
  induction k generalizing t with
  | zero => omega
  | succ k ih =>
    simp only [low]
    cases t with
    | zero => simp
    | succ t =>
      rw [List.getElem?_cons_succ, ih t (by omega)]
      rw [show k - 1 - t = k + 1 - 1 - (t + 1) by omega]

theorem top_low (n : Int) (k : Nat) : top n k k = low n k := by
  apply List.ext_getElem?
  intro t
  by_cases h : t < k
  · rw [low_get n k t h]
    simp only [top, List.getElem?_map, List.getElem?_range h, Option.map_some]
    rw [show (8 * ((k : Int) - 1 - (t : Int))).toNat = (8 * ((k - 1 - t : Nat) : Int)).toNat by omega, pow8]
  · rw [List.getElem?_eq_none (by simp [top]; omega), List.getElem?_eq_none (by rw [low_len]; omega)]

theorem str_cons (x : Int) (l : List Int) : strOfNums [x] ++ strOfNums l = strOfNums (x :: l) := by
  apply ByteArray.ext; simp [strOfNums, ByteArray.data_append]

theorem div_pow (n : Int) (k : Nat) : n / 256 ^ k / 256 = n / 256 ^ (k + 1) := by
  rw [Int.pow_succ, Int.ediv_ediv_of_nonneg (by exact Int.pow_nonneg (by decide))]

set_option maxRecDepth 100000 in
set_option maxHeartbeats 1000000 in
theorem rnum_core (n wd : Int) (w : World) (n0 : 0 ≤ n) (n1 : n ≤ 18446744073709551615) (h1 : 1 ≤ wd) (h8 : wd ≤ 8) (E : Int) (B : ByteArray)
    (hE : Hid ((n / 256 ^ wd.toNat = 0 → E = 0 ∧ B = strOfNums (low n wd.toNat)) ∧ (n / 256 ^ wd.toNat ≠ 0 → E = 1 ∧ B = ByteArray.empty))) :
    Calls Tryd.prog 18 #[.int .u64 n, .int .i64 wd] w fun e w' => e = .returned (.tuple #[.string B, .int .i64 E]) ∧ Below w.heap.size w w' := by
  go_enter Tryd.func18, Tryd.ntmps18
  go_wp2
  go_loopw [0, 6, 7] (fun nn s i wr => ∃ (k : Nat) (x : Int) (X : ByteArray), (k : Int) ≤ wd ∧ i = .int .i64 k ∧ nn = .int .u64 x ∧ 0 ≤ x ∧ x ≤ 18446744073709551615 ∧ Hid (x = n / 256 ^ k) ∧ s = .string X ∧ Hid (X = strOfNums (low n k)) ∧ X.size ≤ 8 ∧ Below w.heap.size w wr) (fun _ _ i _ => (wd - intOf i).toNat)
  case atStart => exact ⟨0, n, ByteArray.empty, by omega, rfl, rfl, n0, n1, by unfold Hid; simp, rfl, rfl, by decide, Below.refl _ _⟩
  case round =>
    obtain ⟨k, x, X, hk, rfl, rfl, x0, x1, hx, rfl, hX, hX8, hb⟩ := hrel
    by_cases hlt : (k : Int) < wd
    · have hcv := conv_cells (w := (wr.alloc (.cells #[.int .u8 (x % 256)] 5))) wr.heap.size 1 1 [x % 256] rfl (fun i hi => cells_new wr [x % 256] 5 i (by simpa using hi))
      have hY : (strOfNums [x % 256]).size = 1 := by rw [strOfNums_size]; rfl
      have hcat : strOfNums [x % 256] ++ X = strOfNums (low n (k + 1)) := by
        rw [show X = strOfNums (low n k) from hX, str_cons, show x = n / 256 ^ k from hx]; rfl
      have hdiv : x / 256 = n / 256 ^ (k + 1) := by rw [show x = n / 256 ^ k from hx, div_pow]
      have hadd : (strOfNums [x % 256]).size + X.size ≤ 9223372036854775807 := by omega
      have hsz : (strOfNums [x % 256] ++ X).size ≤ 8 := by rw [hcat, strOfNums_size, low_len]; omega
      generalize strOfNums [x % 256] = Y at *
      have HC := Lib.hid hcat; have HD := Lib.hid hdiv
      clear hcat hdiv hY hx hX
      go_wp2
      go_roundw
      case rel => exact ⟨k + 1, x / 256, Y ++ X, by omega, by go_num, rfl, by omega, by omega, HD, rfl, HC, hsz, hb.alloc hb.size _⟩
      case measure => simp [intOf]; omega
    · have hkw : k = wd.toNat := by omega
      subst hkw
      by_cases hz : x = 0
      · obtain ⟨e1, e2⟩ := hE.out.1 (by rw [← show x = n / 256 ^ wd.toNat from hx]; exact hz)
        have h2 : X = B := by rw [e2]; exact hX
        subst e1 h2
        subst hz
        clear hx hX hE
        go_wp2
        go_ret2
        exact ⟨rfl, hb⟩
      · obtain ⟨e1, e2⟩ := hE.out.2 (by rw [← show x = n / 256 ^ wd.toNat from hx]; exact hz)
        subst e1 e2
        have hpos : 0 < x := by omega
        clear hx hX hE hz
        go_wp2
        go_ret2
        exact ⟨rfl, hb⟩
end Go.Proofs.YtiilgkhndfnkgaaDoor.Oc
