/- The walk of OctetReads in the form that the row asks; the conditions are the row's own. -/
import Derived.Test.YtiilgkhndfnkgaaRowArr
import Derived.Test.YtiilgkhndfnkgaaOcRd
namespace Go.Proofs.Ytiilgkhndfnkgaa
open Go.RowKit Go.ChangeShapes Go.WideShapes
set_option maxRecDepth 100000 in
theorem walk_OctetReads {H : Type} {enc : TypeId × Value → H} {W : World} {base : Nat} (s : ByteArray) (w0 : s.size ≤ maxLen) (v : Value) (d : DataW H) (p : List MemPlace) (hval : Value.okWide Try.prog W .any base 31 v)
    (h : DataW.Trod enc Try.prog W 0 (fun _ => true) true 31 v d p) : Calls Try.prog 6 #[.string s, v] W (Fine W) := by
  obtain ⟨A, cap, l, rfl, h1, h2, h3, h4⟩ := RowK.sl_of_trod Item.cells Item.ok Try.underlying31 (size := 36) (by kernel_rfl) (by decide) item_of_trod hval h
  exact reads_walk s A cap l W (by omega) w0 h4 h3
end Go.Proofs.Ytiilgkhndfnkgaa
