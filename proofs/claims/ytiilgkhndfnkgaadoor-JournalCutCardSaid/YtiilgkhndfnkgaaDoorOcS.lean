/- octet's New, the reader's Left and End, and the law package's shown; the condition is that the reader's cell is known. -/
import Derived.Test.YtiilgkhndfnkgaaDoorOcN2
import Derived.Lib.Strings
namespace Go.Proofs.YtiilgkhndfnkgaaDoor.Oc
open Go.RowKit
set_option linter.unusedVariables false

theorem new_any (s : ByteArray) (w : World) :
    Calls Tryd.prog 20 #[.string s] w fun e w' => e = .returned (.pointer (some ⟨w.heap.size, 0, none⟩)) ∧ w' = w.alloc (.cells #[.string s] 68) := by
  go_enter Tryd.func20, Tryd.ntmps20
  go_wp2
  go_ret
  exact ⟨rfl, rfl⟩
theorem empty_iff (s : ByteArray) : s.toList.isEmpty = decide (s.size = 0) := by
  rw [ByteArray.toList_eq, Lib.size_eq]
  cases s.data.toList <;> simp
theorem At.writer {w w' : World} {p q : Addr} {s t : ByteArray} {n : Nat} (h : At w p s) (hb : Below n (w.setCell q (.string t)) w') (hp : p.block < n) (hne : q.block ≠ p.block) : At w' p s :=
  ⟨by rw [hb.cell hp]; exact cell_other h.cell hne, by rw [hb.frozen hp]; exact frozen_set h.open'⟩
theorem At.written {w w' : World} {p : Addr} {s t : ByteArray} {n : Nat} (h : At w p s) (hb : Below n (w.setCell p (.string t)) w') (hp : p.block < n) : At w' p t :=
  ⟨by rw [hb.cell hp]; exact cell_set h.cell, by rw [hb.frozen hp]; exact frozen_set h.open'⟩
theorem at_new (w : World) (s : ByteArray) (t : TypeId) : At (w.alloc (.cells #[.string s] t)) ⟨w.heap.size, 0, none⟩ s := ⟨by go_simp, by go_simp⟩
/-- what a call that writes one cell of the caller's own leaves of what was there -/
theorem below_own {B : Nat} {w0 w w' : World} {p : Addr} {v : Value} (h : Below B w0 w) (hp : B ≤ p.block) (hB : B ≤ w.heap.size) (hb : Below w.heap.size (w.setCell p v) w') : Below B w0 w' :=
  (h.setCell hp v).trans (hb.mono hB)

end Go.Proofs.YtiilgkhndfnkgaaDoor.Oc
