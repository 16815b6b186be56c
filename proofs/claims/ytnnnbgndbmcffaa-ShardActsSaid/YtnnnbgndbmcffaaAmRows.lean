/- The walks of the six laws of layer 6 in the form that the rows ask; the conditions are the rows' own. -/
import Derived.Test.YtnnnbgndbmcffaaRowKit
import Derived.Test.YtnnnbgndbmcffaaAmLawB
namespace Go.Proofs.Ytnnnbgndbmcffaa
open Go.RowKit

theorem urow_of {w : World} {p : Option Addr} {len cap : Nat} {zs : List Int} (h : RowK.IsRow .u64 w p len cap zs) : URow w p len (zs.take len) := by
  obtain ⟨b, off, _, h2, h3, h4, hm, h5, h6⟩ := h.plain
  unfold maxLen at hm
  refine ⟨by simp; omega, by omega, fun z hz => RowK.wf_u64 (h6 z (List.mem_of_mem_take hz)), b, off, h2, fun j hj => ?_⟩
  rw [h5 j hj]
  simp [List.getD_eq_getElem?_getD, List.getElem?_take_of_lt hj]

theorem u64_of {a : Int} (h : (Lit.int .u64 a).wf = true) : U64 a := ⟨(RowK.wf_u64 h).1, (RowK.wf_u64 h).2⟩

theorem walk_AmountNear (a0 : Int) (w0 : (Lit.int .u32 a0).wf = true) (a1 : Int) (w1 : (Lit.int .u32 a1).wf = true) (a2 : Int) (w2 : (Lit.int .u32 a2).wf = true) {W : World} :
    Calls Try.prog 3 #[.int .u32 a0, .int .u32 a1, .int .u32 a2] W (Fine W) :=
  near_walk a0 a1 a2 W (RowK.wf_u32 w0).1 (RowK.wf_u32 w0).2 (RowK.wf_u32 w1).1 (RowK.wf_u32 w1).2 (RowK.wf_u32 w2).1 (RowK.wf_u32 w2).2
theorem walk_AmountParted (a0 : Int) (w0 : (Lit.int .u32 a0).wf = true) (a1 : Int) (w1 : (Lit.int .u32 a1).wf = true) (a2 : Int) (w2 : (Lit.int .u32 a2).wf = true) {W : World} :
    Calls Try.prog 4 #[.int .u32 a0, .int .u32 a1, .int .u32 a2] W (Fine W) :=
  parted_walk a0 a1 a2 W (RowK.wf_u32 w0).1 (RowK.wf_u32 w0).2 (RowK.wf_u32 w1).1 (RowK.wf_u32 w1).2 (RowK.wf_u32 w2).1 (RowK.wf_u32 w2).2
theorem walk_AmountRises (a0 : Int) (w0 : (Lit.int .u64 a0).wf = true) (a1 : Int) (w1 : (Lit.int .u64 a1).wf = true) (a2 : Int) (w2 : (Lit.int .u64 a2).wf = true) (a3 : Int) (w3 : (Lit.int .u64 a3).wf = true) (a4 : Int) (w4 : (Lit.int .u64 a4).wf = true) {W : World} :
    Calls Try.prog 5 #[.int .u64 a0, .int .u64 a1, .int .u64 a2, .int .u64 a3, .int .u64 a4] W (Fine W) :=
  rises_walk a0 a1 a2 a3 a4 W (u64_of w0) (u64_of w1) (u64_of w2) (u64_of w3) (u64_of w4)
theorem walk_AmountParts (a0 : Int) (w0 : (Lit.int .u64 a0).wf = true) (a1 : Int) (w1 : (Lit.int .u64 a1).wf = true) (a2 : Int) (w2 : (Lit.int .u64 a2).wf = true) {W : World} :
    Calls Try.prog 7 #[.int .u64 a0, .int .u64 a1, .int .u64 a2] W (Fine W) :=
  parts_walk a0 a1 a2 W (u64_of w0) (u64_of w1) (u64_of w2)
theorem walk_AmountMost (a0 : Int) (w0 : (Lit.int .u64 a0).wf = true) (a1 : Int) (w1 : (Lit.int .u64 a1).wf = true) (a2 : Int) (w2 : (Lit.int .u64 a2).wf = true) {W : World} :
    Calls Try.prog 9 #[.int .u64 a0, .int .u64 a1, .int .u64 a2] W (Fine W) :=
  mostlaw_walk a0 a1 a2 W (u64_of w0) (u64_of w1) (u64_of w2)
theorem walk_AmountTells (p : Option Addr) (len cap : Nat) (zs : List Int) {W : World} (h : RowK.IsRow .u64 W p len cap zs) (a1 : Int) (w1 : (Lit.int .u64 a1).wf = true) (a2 : Int) (w2 : (Lit.int .u64 a2).wf = true) (a3 : Int) (w3 : (Lit.int .u64 a3).wf = true) (a4 : Int) (w4 : (Lit.int .u64 a4).wf = true) :
    Calls Try.prog 8 #[.slice p len cap, .int .u64 a1, .int .u64 a2, .int .u64 a3, .int .u64 a4] W (Fine W) := by
  by_cases hl : len ≤ 100
  · exact tells_walk p len cap _ a1 a2 a3 a4 W (urow_of h) hl (u64_of w1) (u64_of w2) (u64_of w3) (u64_of w4)
  · exact tells_long p len cap a1 a2 a3 a4 W (by omega)
end Go.Proofs.Ytnnnbgndbmcffaa
