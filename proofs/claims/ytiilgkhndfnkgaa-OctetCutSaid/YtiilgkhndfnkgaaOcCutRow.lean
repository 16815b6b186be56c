/- The walk of OctetCut in the form that the row asks; the conditions are the row's own. -/
import Derived.Test.YtiilgkhndfnkgaaRowArr
import Derived.Test.YtiilgkhndfnkgaaOcCut
namespace Go.Proofs.Ytiilgkhndfnkgaa
open Go.RowKit
theorem walk_OctetCut (a0 : Int) (w0 : (Lit.int .u64 a0).wf = true) (z1 : List Int) (l1 : z1.length = 32) (w1 : ∀ z ∈ z1, (Lit.int .u8 z).wf = true) (a2 : ByteArray) (_w2 : a2.size ≤ maxLen) (a3 : Int) (w3 : (Lit.int .u8 a3).wf = true) {W : World} :
    Calls Try.prog 7 #[.int .u64 a0, .agg (z1.map (Value.int .u8)).toArray, .string a2, .int .u8 a3] W (Fine W) :=
  cut_walk a0 a3 z1 a2 W (RowK.wf_u64 w0).1 (RowK.wf_u64 w0).2 (RowK.wf_u8 w3).1 (RowK.wf_u8 w3).2 l1 (fun n hn => RowK.wf_u8 (w1 n hn))
end Go.Proofs.Ytiilgkhndfnkgaa
