/- A world for the witnesses of the rows: the settled one, the listed tables as their initialisers lay them; no conditions. -/
import Derived.Test.YtnnnbgndbmcffaaRowKit
namespace Go.Proofs.Ytnnnbgndbmcffaa.Wite3b0c4
set_option maxRecDepth 100000
noncomputable def laidWorld (os : Os) : World :=
  { World.holding Try.prog os ⟨#[], #[], []⟩ with heap := (World.holding Try.prog os ⟨#[], #[], []⟩).heap }
noncomputable def at' (os : Os) (args : Array Value) : World := (laidWorld os).forCall (fun _ _ => 0) ⟨#[], args, []⟩
theorem vars (os : Os) (args : Array Value) : ((laidWorld os).forCall (fun _ _ => 0) ⟨#[], args, []⟩).variablesB Try.checked.prog = true := by kernel_rfl
theorem rest (os : Os) (args : Array Value) : (((laidWorld os).forCall (fun _ _ => 0) ⟨#[], args, []⟩).heap.toList.drop Try.checked.prog.globals.size).take ((begin Try.checked.prog (fun _ _ => 0) default).world.heap.size - Try.checked.prog.globals.size) =
      (begin Try.checked.prog (fun _ _ => 0) default).world.heap.toList.drop Try.checked.prog.globals.size := by kernel_rfl
def laid : List (String × DataW Unit) := []
theorem met (os : Os) (args : Array Value) : laidMetH Try.prog laid ((laidWorld os).forCall (fun _ _ => 0) ⟨#[], args, []⟩).memory := RowK.laidMet_nil _
end Go.Proofs.Ytnnnbgndbmcffaa.Wite3b0c4
