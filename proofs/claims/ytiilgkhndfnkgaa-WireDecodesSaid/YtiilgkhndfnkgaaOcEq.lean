/- A hash is equal to itself; no conditions. -/
import Derived.Test.YtiilgkhndfnkgaaOcW2
import Derived.ChangeKeysEq
namespace Go.Proofs.Ytiilgkhndfnkgaa
set_option linter.unusedVariables false
theorem eqItems_hash (l : List Int) (W : World) : ∀ (is : List Nat), (∀ i ∈ is, i < l.length) → (Op.eqItems 9999 5 1 (ints l).toArray (ints l).toArray is).run Try.prog W = .ok true W
  | [], _ => rfl
  | i :: is, h => by
    have hi := h i (by simp)
    have ih := eqItems_hash l W is (fun j hj => h j (by simp [hj]))
    have hg : (ints l).toArray[i]? = some (.int .u8 l[i]) := by simp [ints, List.getElem?_eq_getElem hi]
    simp [Op.eqItems, part, ih, hg, go_sem]
set_option maxRecDepth 100000 in
theorem hash_eq (l : List Int) (hlen : l.length = 32) (W : World) : (Op.equalIn 10000 33 (.agg (ints l).toArray) (.agg (ints l).toArray)).run Try.prog W = .ok true W := by
  have hi : ∃ i, Try.prog.info? 5 = some i := ⟨_, rfl⟩
  obtain ⟨i, hi⟩ := hi
  have hc : Try.prog.cellsOf 5 = 1 := by kernel_rfl
  have h := run_equalIn_array (P := Try.prog) (w := W) 9999 (ints l).toArray (ints l).toArray Try.underlying33 hi
  rw [hc] at h
  exact h.trans (eqItems_hash l W _ (fun j hj => by rw [hlen]; exact List.mem_range.1 hj))
end Go.Proofs.Ytiilgkhndfnkgaa
