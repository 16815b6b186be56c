/- The walk of OctetBack in the form that the row asks; the conditions are the row's own. -/
import Derived.Test.YtiilgkhndfnkgaaRowArr
import Derived.Test.YtiilgkhndfnkgaaOcBack
namespace Go.Proofs.Ytiilgkhndfnkgaa
open Go.RowKit
theorem walk_OctetBack (a0 : Int) (w0 : (Lit.int .u64 a0).wf = true) (a1 : Int) (w1 : (Lit.int .u8 a1).wf = true) (z2 : List Int) (l2 : z2.length = 32) (w2 : ∀ z ∈ z2, (Lit.int .u8 z).wf = true) (a3 : ByteArray) (_w3 : a3.size ≤ maxLen) {W : World} :
    Calls Try.prog 8 #[.int .u64 a0, .int .u8 a1, .agg (z2.map (Value.int .u8)).toArray, .string a3] W (Fine W) :=
  back_walk a0 a1 z2 a3 W (RowK.wf_u64 w0).1 (RowK.wf_u64 w0).2 (RowK.wf_u8 w1).1 (RowK.wf_u8 w1).2 l2 (fun n hn => RowK.wf_u8 (w2 n hn))
end Go.Proofs.Ytiilgkhndfnkgaa
