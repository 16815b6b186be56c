/- What the writer's Hash, Text and Bytes, and the reference's writers, return and write; the condition is that the writer's cell is known. -/
import Derived.Test.YtiilgkhndfnkgaaDoorOcW
namespace Go.Proofs.YtiilgkhndfnkgaaDoor.Oc
open Go.RowKit
set_option linter.unusedVariables false

theorem conv_cells {w : World} (g n cap : Nat) (l : List Int) (hl : l.length = n) (h : ∀ i, i < n → w.cell? ⟨g, 0 + i, none⟩ = some (.int .u8 (l.getD i 0))) :
    (convert 41 9 (.slice (some ⟨g, 0, none⟩) n cap)).run Tryd.prog w = .ok (.string (strOfNums l)) w :=
  run_convert_bytes_arg w 41 5 Tryd.underlying41 Tryd.underlying5 g 0 n cap l hl h 9 Tryd.underlying9
theorem cells_new (w : World) (l : List Int) (t : TypeId) (i : Nat) (hi : i < l.length) : (w.alloc (.cells (ints l).toArray t)).cell? ⟨w.heap.size, 0 + i, none⟩ = some (.int .u8 (l.getD i 0)) := by
  rw [cell_of_row _ _ _ _ _ _ (heap_alloc_new w _)]
  simp [ints, List.getElem?_eq_getElem hi]

theorem wbytes_any (a : Addr) (s : ByteArray) (w : World) (h : At w a s) :
    Calls Tryd.prog 25 #[.pointer (some a)] w fun e w' => e = .returned (.string s) ∧ w = w' := by
  have hc := h.cell
  clear h
  go_enter Tryd.func25, Tryd.ntmps25
  go_wp2
  go_ret
  exact ⟨rfl, rfl⟩

end Go.Proofs.YtiilgkhndfnkgaaDoor.Oc
