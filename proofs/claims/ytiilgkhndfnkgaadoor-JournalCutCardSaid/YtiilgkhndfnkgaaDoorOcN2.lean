/- What octet's reader's Number returns and leaves, where the width may be; the condition is that the reader's cell is known. -/
import Derived.Test.YtiilgkhndfnkgaaDoorOcN
import Derived.Laws.Bits64b
namespace Go.Proofs.YtiilgkhndfnkgaaDoor.Oc
open Go.RowKit
set_option linter.unusedVariables false

/-- the number of bytes, the highest one first -/
def val (l : List UInt8) : Int := l.foldl (fun a b => a * 256 + (b.toNat : Int)) 0
theorem val_snoc (l : List UInt8) (b : UInt8) : val (l ++ [b]) = val l * 256 + (b.toNat : Int) := by simp [val]
theorem val_acc (l : List UInt8) (a : Int) (h : 0 ≤ a) : 0 ≤ l.foldl (fun a b => a * 256 + (b.toNat : Int)) a ∧ l.foldl (fun a b => a * 256 + (b.toNat : Int)) a < (a + 1) * 256 ^ l.length := by
  induction l generalizing a with
  | nil => simp; omega
  | cons b r ih =>
    have hb := b.toNat_lt
    obtain ⟨h1, h2⟩ := ih (a * 256 + (b.toNat : Int)) (by omega)
    refine ⟨h1, ?_⟩
    have e : (a + 1) * 256 ^ (r.length + 1) = (a + 1) * 256 * 256 ^ r.length := by rw [Int.pow_succ, Int.mul_comm (256 ^ r.length) 256, ← Int.mul_assoc]
    rw [List.foldl_cons, List.length_cons, e]
    have h3 : (a * 256 + (b.toNat : Int) + 1) * 256 ^ r.length ≤ (a + 1) * 256 * 256 ^ r.length :=
      Int.mul_le_mul_of_nonneg_right (by omega) (Int.pow_nonneg (by decide))
    omega
theorem val_nonneg (l : List UInt8) : 0 ≤ val l := (val_acc l 0 (by decide)).1
theorem val_lt (l : List UInt8) : val l < 256 ^ l.length := by
  have := (val_acc l 0 (by decide)).2
  simpa [val] using this
theorem val_le (l : List UInt8) (h : l.length ≤ 7) : val l ≤ 72057594037927935 := by
  have h1 := val_lt l
  have h2 : (256 : Int) ^ l.length ≤ 256 ^ 7 := by
    have : (256 : Nat) ^ l.length ≤ 256 ^ 7 := Nat.pow_le_pow_right (by decide) h
    have e : ∀ k : Nat, ((256 : Int) ^ k) = ((256 ^ k : Nat) : Int) := fun k => by simp
    rw [e, e]; exact Int.ofNat_le.2 this
  have h3 : (256 : Int) ^ 7 = 72057594037927936 := by decide
  omega
theorem or_byte (x b : Int) (x0 : 0 ≤ x) (x1 : x ≤ 72057594037927935) (b0 : 0 ≤ b) (b1 : b ≤ 255) : bits .or .u64 (x * 256) b = x * 256 + b :=
  bits_join .u64 64 (by decide) (fun n a c => by rw [IntKind.wrap_u64]; omega) 8 _ _ (by omega) (by omega) (by omega) (by omega) (by omega) (by omega)
theorem take_snoc (s : ByteArray) (k : Nat) (h : k < s.size) : s.data.toList.take (k + 1) = s.data.toList.take k ++ [s[k]] := by
  rw [List.take_succ_eq_append_getElem (by simpa using h)]; rfl

set_option maxRecDepth 100000 in
set_option maxHeartbeats 1000000 in
theorem rdnum_short (r : Addr) (s : ByteArray) (wd : Int) (w : World) (h : At w r s) (hs : s.size ≤ 4611686018427387904) (h1 : 1 ≤ wd) (h8 : wd ≤ 8) (hw : (s.size : Int) < wd) :
    Calls Tryd.prog 21 #[.pointer (some r), .int .i64 wd] w fun e w' => e = .returned (.tuple #[.int .u64 0, .int .i64 10]) ∧ Below w.heap.size (w.setCell r (.string s)) w' := by
  have HB := Lib.hid (back_rd r s w h)
  generalize hn : w.heap.size = n at *
  go_enter_defers Tryd.func21, Tryd.ntmps21
  go_wp2_with fail
  refine (HB.out).mono ?_
  rintro e w1 ⟨rfl, h1'⟩
  go_wp2_with fail
  refine (take_short r s wd w1 h1'.atc hs hw (by omega)).mono ?_
  rintro e w2 ⟨rfl, rfl⟩
  have c1 := h1'.e
  have c2 := h1'.ef
  have h2 := h1'.setE 10
  have c3 := h2.e
  have c4 := h2.ef
  go_wp2
  go_region
  go_wp2
  have h3 := (h2.setE 10).drew
  generalize ((w1.setCell ⟨n, 0, none⟩ (.int .i64 10)).setCell ⟨n, 0, none⟩ (.int .i64 10)).drew = w3 at *
  refine leaves_cons (f := 34) (args := #[.pointer (some ⟨n + 1 + 1, 0, none⟩), .pointer (some ⟨n + 1 + 1 + 1, 0, none⟩), .pointer (some ⟨n + 1, 0, none⟩)]) (by simp) (by simp [go_sem]) ?_
  refine (back1_rd1 .returning h3 (by decide)).mono ?_
  rintro e u' w4 ⟨rfl, rfl, h4⟩
  have c5 := h4.e
  simp [Leaves, settle, results, Tryd.results21, go_sem, c5]
  exact h4.below

theorem index_byte (T : ByteArray) (k : Nat) (h : k < T.size) : T.data.toList[k]? = some T[k] := by
  rw [Array.getElem?_toList, Array.getElem?_eq_getElem h]; rfl

set_option maxRecDepth 100000 in
set_option maxHeartbeats 1000000 in
theorem rdnum_ok (r : Addr) (s : ByteArray) (k0 : Nat) (w : World) (h : At w r s) (hs : s.size ≤ 4611686018427387904) (h1 : 1 ≤ k0) (h8 : k0 ≤ 8) (hw : k0 ≤ s.size) :
    Calls Tryd.prog 21 #[.pointer (some r), .int .i64 k0] w fun e w' => e = .returned (.tuple #[.int .u64 (val (s.data.toList.take k0)), .int .i64 0]) ∧ Below w.heap.size (w.setCell r (.string (s.extract k0 s.size))) w' := by
  have HB := Lib.hid (back_rd r s w h)
  have hT : (s.extract 0 k0).data.toList = s.data.toList.take k0 := by simp
  have hTs : (s.extract 0 k0).size = k0 := by simp; omega
  have tk := fun w1 h' => take_ok r s k0 w1 h' hs hw
  rw [← hT]
  generalize s.extract 0 k0 = T at *
  have TK := Lib.hid tk
  generalize hn : w.heap.size = n at *
  have H1 := Lib.hid h1; have H8 := Lib.hid h8
  have g1 : 1 ≤ (k0 : Int) := by omega
  have g8 : (k0 : Int) ≤ 8 := by omega
  clear h1 h8 tk hT
  subst hTs
  go_enter_defers Tryd.func21, Tryd.ntmps21
  go_wp2_with fail
  refine (HB.out).mono ?_
  rintro e w1 ⟨rfl, h1'⟩
  go_wp2_with fail
  refine (TK.out w1 h1'.atc).mono ?_
  rintro e w2 ⟨rfl, rfl⟩
  have h2 := h1'.setR (s.extract T.size s.size)
  generalize w1.setCell r (.string (s.extract T.size s.size)) = w2 at *
  have h3 := h2.setE 0
  have c1 := h2.e
  have c2 := h2.ef
  have c3 := h3.e
  have c4 := h3.ef
  go_wp2
  generalize w2.setCell ⟨n, 0, none⟩ (.int .i64 0) = w3 at *
  go_loop [4, 27] (fun x i => ∃ k : Nat, k ≤ T.size ∧ i = .int .i64 k ∧ x = .int .u64 (val (T.data.toList.take k))) (fun _ i => T.size - (intOf i).toNat)
  case atStart => exact ⟨0, by omega, rfl, rfl⟩
  case round =>
    obtain ⟨k, hk, rfl, rfl⟩ := hrel
    by_cases hlt : k < T.size
    · have hv0 := val_nonneg (T.data.toList.take k)
      have hv1 := val_le (T.data.toList.take k) (by simp; have := H8.out; omega)
      have hsn := val_snoc (T.data.toList.take k) T[k]
      rw [← take_snoc T k hlt] at hsn
      have hb := T[k].toNat_lt
      have hor := or_byte (val (T.data.toList.take k)) (T[k].toNat : Int) hv0 hv1 (by omega) (by omega)
      have HS := Lib.hid hsn; clear hsn
      generalize val (T.data.toList.take k) = x at *
      go_wp2
      go_round
      case rel => exact ⟨k + 1, by omega, by go_num, by rw [HS.out]⟩
      case measure => simp [intOf]; omega
    · obtain rfl : k = T.size := by omega
      have e1 : T.data.toList.take T.size = T.data.toList := List.take_of_length_le (by simp)
      have h4 := h3.setE 0
      go_wp2
      generalize w3.setCell ⟨n, 0, none⟩ (.int .i64 0) = w4 at *
      refine leaves_cons (f := 34) (args := #[.pointer (some ⟨n + 1 + 1, 0, none⟩), .pointer (some ⟨n + 1 + 1 + 1, 0, none⟩), .pointer (some ⟨n + 1, 0, none⟩)]) (by simp) (by simp [go_sem]) ?_
      refine (back1_rd0 .returning h4).mono ?_
      rintro e u' w5 ⟨rfl, rfl, h5⟩
      have c5 := h5.e
      simp [Leaves, settle, results, Tryd.results21, go_sem, c5]
      exact h5.below

/-- what a reader's Number comes to: the number, the error, what is left -/
def rdN (s : ByteArray) (wd : Int) : Int := if wd < 1 ∨ 8 < wd ∨ (s.size : Int) < wd then 0 else val (s.data.toList.take wd.toNat)
def rdE (s : ByteArray) (wd : Int) : Int := if wd < 1 ∨ 8 < wd then 1 else if (s.size : Int) < wd then 10 else 0
def rdS (s : ByteArray) (wd : Int) : ByteArray := if wd < 1 ∨ 8 < wd ∨ (s.size : Int) < wd then s else s.extract wd.toNat s.size

theorem rdnum_any (r : Addr) (s : ByteArray) (wd : Int) (w : World) (h : At w r s) (hs : s.size ≤ 4611686018427387904) :
    Calls Tryd.prog 21 #[.pointer (some r), .int .i64 wd] w fun e w' => e = .returned (.tuple #[.int .u64 (rdN s wd), .int .i64 (rdE s wd)]) ∧ Below w.heap.size (w.setCell r (.string (rdS s wd))) w' := by
  unfold rdN rdE rdS
  by_cases h1 : wd < 1 ∨ 8 < wd
  · have h2 : wd < 1 ∨ 8 < wd ∨ (s.size : Int) < wd := by omega
    rw [if_pos h1, if_pos h2, if_pos h2]
    exact rdnum_bad r s wd w h h1
  · by_cases h3 : (s.size : Int) < wd
    · have h2 : wd < 1 ∨ 8 < wd ∨ (s.size : Int) < wd := by omega
      rw [if_neg h1, if_pos h2, if_pos h2, if_pos h3]
      exact rdnum_short r s wd w h hs (by omega) (by omega) h3
    · have h2 : ¬ (wd < 1 ∨ 8 < wd ∨ (s.size : Int) < wd) := by omega
      rw [if_neg h1, if_neg h2, if_neg h2, if_neg h3]
      obtain ⟨k, rfl⟩ := Int.eq_ofNat_of_zero_le (a := wd) (by omega)
      rw [Int.toNat_natCast]
      exact rdnum_ok r s k w h hs (by omega) (by omega) (by omega)
end Go.Proofs.YtiilgkhndfnkgaaDoor.Oc
