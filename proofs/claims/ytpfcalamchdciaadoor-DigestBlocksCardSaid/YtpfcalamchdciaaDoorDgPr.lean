/- The walk of DigestBlocks in the form that the row asks. -/
import Derived.Test.YtpfcalamchdciaaDoorRowArr
import Derived.Test.YtpfcalamchdciaaDoorDgP
namespace Go.Proofs.YtpfcalamchdciaaDoor
open Go.RowKit
theorem words_of (z : List Int) (hl : z.length = 8) (hw : ∀ a ∈ z, (Lit.int .u32 a).wf = true) : ∃ s : Sha.St, s.ok ∧ (z.map (Value.int .u32)).toArray = r32 8 s.get := by
  obtain ⟨a, b, c, d, e, f, g, h, rfl⟩ : ∃ a b c d e f g h, z = [a, b, c, d, e, f, g, h] := by
    match z, hl with
    | [a, b, c, d, e, f, g, h], _ => exact ⟨a, b, c, d, e, f, g, h, rfl⟩
  have k : ∀ x ∈ [a, b, c, d, e, f, g, h], 0 ≤ x ∧ x ≤ 4294967295 := fun x hx => RowK.wf_u32 (hw x hx)
  simp only [List.mem_cons, List.not_mem_nil, or_false, forall_eq_or_imp, forall_eq] at k
  obtain ⟨⟨a0, a1⟩, ⟨b0, b1⟩, ⟨c0, c1⟩, ⟨d0, d1⟩, ⟨e0, e1⟩, ⟨f0, f1⟩, ⟨g0, g1⟩, h0, h1⟩ := k
  refine ⟨⟨a.toNat, b.toNat, c.toNat, d.toNat, e.toNat, f.toNat, g.toNat, h.toNat⟩, by constructor <;> (simp only []; omega), ?_⟩
  have e8 : r32 8 (Sha.St.get ⟨a.toNat, b.toNat, c.toNat, d.toNat, e.toNat, f.toNat, g.toNat, h.toNat⟩) = #[.int .u32 (a.toNat : Nat), .int .u32 (b.toNat : Nat), .int .u32 (c.toNat : Nat), .int .u32 (d.toNat : Nat), .int .u32 (e.toNat : Nat), .int .u32 (f.toNat : Nat), .int .u32 (g.toNat : Nat), .int .u32 (h.toNat : Nat)] := by rfl
  rw [e8]
  rw [Int.toNat_of_nonneg a0, Int.toNat_of_nonneg b0, Int.toNat_of_nonneg c0, Int.toNat_of_nonneg d0, Int.toNat_of_nonneg e0, Int.toNat_of_nonneg f0, Int.toNat_of_nonneg g0, Int.toNat_of_nonneg h0]
  rfl

theorem walk_DigestBlocks (z0 : List Int) (l0 : z0.length = 8) (w0 : ∀ z ∈ z0, (Lit.int .u32 z).wf = true) (a1 : ByteArray) (_w1 : a1.size ≤ maxLen) {W : World} (hL : laidMetH Tryd.prog Rows.digestBlocksRow.laid W) :
    Calls Tryd.prog 5 #[.agg (z0.map (Value.int .u32)).toArray, .string a1] W (Fine W) := by
  obtain ⟨s, hs, e⟩ := words_of z0 l0 w0
  rw [e]
  exact blocks_walk s hs a1 W (tabs_of hL (by simp [Rows.digestBlocksRow]) (by simp [Rows.digestBlocksRow]))
end Go.Proofs.YtpfcalamchdciaaDoor
