/- The walk of OctetOrder in the form that the row asks; the conditions are the row's own. -/
import Derived.Test.YtiilgkhndfnkgaaRowKit
import Derived.Test.YtiilgkhndfnkgaaOcOrd
namespace Go.Proofs.Ytiilgkhndfnkgaa
open Go.RowKit
theorem walk_OctetOrder (a0 : Int) (w0 : (Lit.int .u64 a0).wf = true) (a1 : Int) (w1 : (Lit.int .u64 a1).wf = true) (a2 : Int) (w2 : (Lit.int .u8 a2).wf = true) {W : World} :
    Calls Try.prog 3 #[.int .u64 a0, .int .u64 a1, .int .u8 a2] W (Fine W) :=
  order_walk a0 a1 a2 W (RowK.wf_u64 w0).1 (RowK.wf_u64 w0).2 (RowK.wf_u64 w1).1 (RowK.wf_u64 w1).2 (RowK.wf_u8 w2).1 (RowK.wf_u8 w2).2
end Go.Proofs.Ytiilgkhndfnkgaa
