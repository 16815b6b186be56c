/- The table of math/bits, out of the row; no conditions of its own. -/
import Derived.Test.YtpfcalamchdciaaDoorRowKit
import Derived.Test.YtpfcalamchdciaaDoorScFns
namespace Go.Proofs.YtpfcalamchdciaaDoor
open Go.RowKit

theorem tz_of {w : World} {laid : List (String × DataW Unit)} (h : laidMet Tryd.prog laid w) (hm : ("math/bits.deBruijn64tab", Rows.laid_math_bits_deBruijn64tab) ∈ laid) : TzT w := by
  have hd : (Rows.laid_math_bits_deBruijn64tab : DataW Unit) = Lib.tabData .u8 (Lib.deBruijn64tab.map fun (n : Nat) => (n : Int)) := by kernel_rfl
  rw [hd] at hm
  have hg : Tryd.prog.globalNamed "math/bits.deBruijn64tab" = some 3 := by kernel_rfl
  have ht := RowK.tab_get (t := 94) (e := 5) (len := 64) h hm hg (by kernel_rfl) (by kernel_rfl) (by kernel_rfl) (by kernel_rfl) (by kernel_rfl)
  refine ⟨fun j hj => ?_⟩
  rw [ht.cell hg j (by simpa using hj)]
  have e : (Lib.deBruijn64tab.map fun (n : Nat) => (n : Int)).getD j 0 = ((Lib.deBruijn64tab.getD j 0 : Nat) : Int) := by
    simp [List.getD_eq_getElem?_getD, List.getElem?_map, List.getElem?_eq_getElem hj]
  rw [e]

end Go.Proofs.YtpfcalamchdciaaDoor
