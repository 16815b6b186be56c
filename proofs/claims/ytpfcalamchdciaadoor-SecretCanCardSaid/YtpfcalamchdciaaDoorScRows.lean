/- The walk of SecretCan in the form that the row asks; the conditions are the row's own. -/
import Derived.Test.YtpfcalamchdciaaDoorRowKit
import Derived.Test.YtpfcalamchdciaaDoorScLaw
namespace Go.Proofs.YtpfcalamchdciaaDoor
open Go.RowKit

theorem tz_of {w : World} {laid : List (String × DataW Unit)} (h : laidMet Tryd.prog laid w) (hm : ("math/bits.deBruijn64tab", Rows.laid_math_bits_deBruijn64tab) ∈ laid) : TzT w := by
  have hd : (Rows.laid_math_bits_deBruijn64tab : DataW Unit) = Lib.tabData .u8 (Lib.deBruijn64tab.map fun (n : Nat) => (n : Int)) := by kernel_rfl
  rw [hd] at hm
  have hg : Tryd.prog.globalNamed "math/bits.deBruijn64tab" = some 3 := by kernel_rfl
  have ht := RowK.tab_get (t := 94) (e := 5) (len := 64) h hm hg (by kernel_rfl) (by kernel_rfl) (by kernel_rfl) (by kernel_rfl) (by kernel_rfl)
  refine ⟨fun j hj => ?_⟩
  rw [ht.cell hg j (by simpa using hj)]
  have e : (Lib.deBruijn64tab.map fun (n : Nat) => (n : Int)).getD j 0 = ((Lib.deBruijn64tab.getD j 0 : Nat) : Int) := by
    simp [List.getD_eq_getElem?_getD, List.getElem?_map, List.getElem?_eq_getElem hj]
  rw [e]

theorem walk_SecretCan (a0 : Int) (w0 : (Lit.int .u16 a0).wf = true) (a1 : Int) (w1 : (Lit.int .u16 a1).wf = true) (a2 : Int) (w2 : (Lit.int .u16 a2).wf = true) {W : World} (hL : laidMetH Tryd.prog Rows.secretCanRow.laid W) :
    Calls Tryd.prog 3 #[.int .u16 a0, .int .u16 a1, .int .u16 a2] W (Fine W) := by
  have h0 := RowK.wf_u16 w0
  have h1 := RowK.wf_u16 w1
  have h2 := RowK.wf_u16 w2
  exact can_walk a0 a1 a2 h0.1 (by omega) h1.1 (by omega) h2.1 (by omega) W (tz_of hL (by simp [Rows.secretCanRow]))
end Go.Proofs.YtpfcalamchdciaaDoor
