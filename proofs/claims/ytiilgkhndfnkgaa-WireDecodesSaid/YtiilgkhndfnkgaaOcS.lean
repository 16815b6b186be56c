/- octet's New, the reader's Left and End, and the law package's shown; the condition is that the reader's cell is known. -/
import Derived.Test.YtiilgkhndfnkgaaOcN2
import Derived.Lib.Strings
namespace Go.Proofs.Ytiilgkhndfnkgaa
open Go.RowKit
set_option linter.unusedVariables false

theorem new_any (s : ByteArray) (w : World) :
    Calls Try.prog 22 #[.string s] w fun e w' => e = .returned (.pointer (some ⟨w.heap.size, 0, none⟩)) ∧ w' = w.alloc (.cells #[.string s] 77) := by
  go_enter Try.func22, Try.ntmps22
  go_wp2
  go_ret
  exact ⟨rfl, rfl⟩
theorem left_any (r : Addr) (s : ByteArray) (w : World) (h : At w r s) :
    Calls Try.prog 24 #[.pointer (some r)] w fun e w' => e = .returned (.int .i64 s.size) ∧ w = w' := by
  have hc := h.cell
  clear h
  go_enter Try.func24, Try.ntmps24
  go_wp2
  go_ret
  exact ⟨rfl, rfl⟩
theorem empty_iff (s : ByteArray) : s.toList.isEmpty = decide (s.size = 0) := by
  rw [ByteArray.toList_eq, Lib.size_eq]
  cases s.data.toList <;> simp
theorem end_any (r : Addr) (s : ByteArray) (w : World) (h : At w r s) :
    Calls Try.prog 31 #[.pointer (some r)] w fun e w' => e = .returned (.int .i64 (if s.size = 0 then 0 else 11)) ∧ w = w' := by
  have hc := h.cell
  clear h
  by_cases hz : s.size = 0
  · rw [if_pos hz]
    have he : (!s.toList.isEmpty) = false := by rw [empty_iff]; simp [hz]
    clear hz
    go_enter Try.func31, Try.ntmps31
    go_wp2
    go_ret
    exact ⟨rfl, rfl⟩
  · rw [if_neg hz]
    have he : (!s.toList.isEmpty) = true := by rw [empty_iff]; simp [hz]
    clear hz
    go_enter Try.func31, Try.ntmps31
    go_wp2
    go_ret
    exact ⟨rfl, rfl⟩

theorem At.writer {w w' : World} {p q : Addr} {s t : ByteArray} {n : Nat} (h : At w p s) (hb : Below n (w.setCell q (.string t)) w') (hp : p.block < n) (hne : q.block ≠ p.block) : At w' p s :=
  ⟨by rw [hb.cell hp]; exact cell_other h.cell hne, by rw [hb.frozen hp]; exact frozen_set h.open'⟩
theorem At.written {w w' : World} {p : Addr} {s t : ByteArray} {n : Nat} (h : At w p s) (hb : Below n (w.setCell p (.string t)) w') (hp : p.block < n) : At w' p t :=
  ⟨by rw [hb.cell hp]; exact cell_set h.cell, by rw [hb.frozen hp]; exact frozen_set h.open'⟩
theorem at_new (w : World) (s : ByteArray) (t : TypeId) : At (w.alloc (.cells #[.string s] t)) ⟨w.heap.size, 0, none⟩ s := ⟨by go_simp, by go_simp⟩
/-- what a call that writes one cell of the caller's own leaves of what was there -/
theorem below_own {B : Nat} {w0 w w' : World} {p : Addr} {v : Value} (h : Below B w0 w) (hp : B ≤ p.block) (hB : B ≤ w.heap.size) (hb : Below w.heap.size (w.setCell p v) w') : Below B w0 w' :=
  (h.setCell hp v).trans (hb.mono hB)

theorem nums_258 : (⟨#[]⟩ : ByteArray) ++ strOfNums (numB 258 2) = ⟨#[1, 2]⟩ := by
  have e : numB 258 2 = [1, 2] := by decide
  rw [e]; apply ByteArray.ext; simp [strOfNums]

set_option maxRecDepth 100000 in
set_option maxHeartbeats 1000000 in
theorem shown_any (w : World) :
    Calls Try.prog 15 #[] w fun e w' => e = .returned (.bool true) ∧ Below w.heap.size w w' := by
  have hA := at_new w ⟨#[]⟩ 25
  have h0 : Below w.heap.size w (w.alloc (.cells #[.string ⟨#[]⟩] 25)) := (Below.refl _ _).alloc (Nat.le_refl _) _
  have hN := number_any 258 2 ⟨w.heap.size, 0, none⟩ ⟨#[]⟩ (w.alloc (.cells #[.string ⟨#[]⟩] 25)) (by omega) (by omega) (by decide) hA
  have e1 : numE 258 2 = 0 := by decide
  rw [nums_258, e1] at hN
  have hR := fun r w' h => rdnum_any r ⟨#[1, 2]⟩ 2 w' h (by decide)
  have e2 : rdN ⟨#[1, 2]⟩ 2 = 258 := by decide
  have e3 : rdE ⟨#[1, 2]⟩ 2 = 0 := by decide
  rw [e2, e3] at hR
  have HN := Lib.hid hN; have HR := Lib.hid hR
  clear hN hR e1 e2 e3
  generalize hp : w.heap.size = n at *
  go_enter Try.func15, Try.ntmps15
  go_wp2_with fail
  refine (HN.out).mono ?_
  rintro e w1 ⟨rfl, h1⟩
  have hA1 : At w1 ⟨n, 0, none⟩ ⟨#[1, 2]⟩ := hA.written h1 (by show n < _; simp; omega)
  have h2 : Below n w w1 := below_own h0 (Nat.le_refl _) (by simp; omega) h1
  go_wp2_with fail
  refine (wbytes_any _ _ w1 hA1).mono ?_
  rintro e w2 ⟨rfl, rfl⟩
  go_wp2_with fail
  refine (new_any _ w1).mono ?_
  rintro e w3 ⟨rfl, rfl⟩
  go_wp2_with fail
  refine (HR.out _ _ (at_new w1 ⟨#[1, 2]⟩ 77)).mono ?_
  rintro e w4 ⟨rfl, h4⟩
  have hlt : n < w1.heap.size := World.block_lt_of_cell? w1 _ hA1.cell
  have hA3 : At (w1.alloc (.cells #[.string ⟨#[1, 2]⟩] 77)) ⟨n, 0, none⟩ ⟨#[1, 2]⟩ := hA1.below ((Below.refl _ _).alloc (Nat.le_refl _) _) hlt
  have hA4 : At w4 ⟨n, 0, none⟩ ⟨#[1, 2]⟩ := hA3.writer h4 (by show n < _; simp; omega) (by show w1.heap.size ≠ n; omega)
  have h5 : Below n w w4 := below_own (h2.alloc (by omega) _) (by show n ≤ w1.heap.size; omega) (by simp; omega) h4
  go_wp2_with fail
  refine (wbytes_any _ _ w4 hA4).mono ?_
  rintro e w5 ⟨rfl, rfl⟩
  go_wp2
  go_ret
  exact ⟨rfl, h5⟩
end Go.Proofs.Ytiilgkhndfnkgaa
