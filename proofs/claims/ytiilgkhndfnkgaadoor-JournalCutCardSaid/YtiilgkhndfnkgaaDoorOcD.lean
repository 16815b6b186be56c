/- What octet's reader's New, back (and its deferred function) and take return and write; the condition is that the reader's cell is known. -/
import Derived.Test.YtiilgkhndfnkgaaDoorOcR
import Derived.Defers
import Derived.Laws.EntriesVeiled
namespace Go.Proofs.YtiilgkhndfnkgaaDoor.Oc
open Go.RowKit
set_option linter.unusedVariables false

theorem take_short (r : Addr) (s : ByteArray) (n : Int) (w : World) (h : At w r s) (hs : s.size ≤ 4611686018427387904) (hn : (s.size : Int) < n) (hn' : n ≤ 4611686018427387904) :
    Calls Tryd.prog 28 #[.pointer (some r), .int .i64 n] w fun e w' => e = .returned (.tuple #[.string ByteArray.empty, .int .i64 10]) ∧ w = w' := by
  have hc := h.cell
  clear h
  go_enter Tryd.func28, Tryd.ntmps28
  go_wp2
  go_ret2
  exact ⟨rfl, rfl⟩

set_option maxRecDepth 100000 in
theorem take_ok (r : Addr) (s : ByteArray) (n : Nat) (w : World) (h : At w r s) (hs : s.size ≤ 4611686018427387904) (hn : n ≤ s.size) :
    Calls Tryd.prog 28 #[.pointer (some r), .int .i64 n] w fun e w' => e = .returned (.tuple #[.string (s.extract 0 n), .int .i64 0]) ∧ w' = w.setCell r (.string (s.extract n s.size)) := by
  have hc := h.cell
  have hf := h.open'
  clear h
  go_enter Tryd.func28, Tryd.ntmps28
  go_wp2
  go_ret2
  exact ⟨rfl, rfl⟩

theorem back_any (r e0 : Addr) (s : ByteArray) (w : World) (h : At w r s) :
    Calls Tryd.prog 27 #[.pointer (some r), .pointer (some e0)] w fun e w' =>
      e = .returned (.func (.func 34) #[] #[.pointer (some ⟨w.heap.size + 1, 0, none⟩), .pointer (some ⟨w.heap.size + 1 + 1, 0, none⟩), .pointer (some ⟨w.heap.size, 0, none⟩)]) ∧
      w' = ((w.alloc (.cells #[.pointer (some r)] 55)).alloc (.cells #[.pointer (some e0)] 70)).alloc (.cells #[.string s] 9) := by
  have hmf : ∀ (fn : Fn) (first cap : Array Value) (w : World), (Instr.makeFunc fn first cap).run Tryd.prog w = .ok (.func fn first cap) w := fun _ _ _ _ => rfl
  have hc : ((w.alloc (.cells #[.pointer (some r)] 55)).alloc (.cells #[.pointer (some e0)] 70)).cell? r = some (.string s) := by
    have hb : Below w.heap.size w ((w.alloc (.cells #[.pointer (some r)] 55)).alloc (.cells #[.pointer (some e0)] 70)) := ((Below.refl _ _).alloc (Nat.le_refl _) _).alloc (by simp) _
    rw [hb.cell (World.block_lt_of_cell? w _ h.cell)]; exact h.cell
  clear h
  go_enter Tryd.func27, Tryd.ntmps27
  go_wp2
  go_ret
  exact ⟨rfl, rfl⟩

/-- the deferred function: the reader is put back if the error is one -/
theorem back1_ok (b1 b2 b3 r e0 : Addr) (u : FrameMode) (w : World) (h1 : w.cell? b1 = some (.pointer (some e0))) (he : w.cell? e0 = some (.int .i64 0)) :
    CallsD Tryd.prog 34 #[.pointer (some b1), .pointer (some b2), .pointer (some b3)] u w fun e u' w' => u' = u ∧ (e = .returned (.tuple #[]) ∧ w' = w) := by
  go_enter_d Tryd.func34, Tryd.ntmps34
  go_wp2
  go_end0
  exact ⟨rfl, rfl⟩
theorem back1_err (b1 b2 b3 r e0 : Addr) (ev : Int) (s s' : ByteArray) (u : FrameMode) (w : World) (h1 : w.cell? b1 = some (.pointer (some e0))) (he : w.cell? e0 = some (.int .i64 ev)) (hz : (ev == 0) = false) (hz' : (ev != 0) = true)
    (h2 : w.cell? b2 = some (.string s)) (h3 : w.cell? b3 = some (.pointer (some r))) (hr : w.cell? r = some (.string s')) (hf : w.frozen? r = false) :
    CallsD Tryd.prog 34 #[.pointer (some b1), .pointer (some b2), .pointer (some b3)] u w fun e u' w' => u' = u ∧ (e = .returned (.tuple #[]) ∧ w' = w.setCell r (.string s)) := by
  go_enter_d Tryd.func34, Tryd.ntmps34
  go_wp2
  go_end0
  exact ⟨rfl, rfl⟩
end Go.Proofs.YtiilgkhndfnkgaaDoor.Oc
