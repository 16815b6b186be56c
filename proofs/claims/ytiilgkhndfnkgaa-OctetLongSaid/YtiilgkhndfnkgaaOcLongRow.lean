/- The walk of OctetLong in the form that the row asks; the conditions are the row's own. -/
import Derived.Test.YtiilgkhndfnkgaaRowKit
import Derived.Test.YtiilgkhndfnkgaaOcLong
namespace Go.Proofs.Ytiilgkhndfnkgaa
open Go.RowKit
theorem walk_OctetLong (a0 : ByteArray) (_w0 : a0.size ≤ maxLen) {W : World} :
    Calls Try.prog 5 #[.string a0] W (Fine W) :=
  long_walk a0 W
end Go.Proofs.Ytiilgkhndfnkgaa
