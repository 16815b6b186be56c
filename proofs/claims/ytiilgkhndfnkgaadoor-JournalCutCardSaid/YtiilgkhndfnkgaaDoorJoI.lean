/- Plain laws of what is cut off a journal, and what Same tells; the condition of Same is that both slices are known. -/
import Derived.Test.YtiilgkhndfnkgaaDoorJoH
namespace Go.Proofs.YtiilgkhndfnkgaaDoor
open Oc
open Go.RowKit
set_option linter.unusedVariables false
theorem take_mono (M : List ByteArray) {i j : Nat} (h : i ≤ j) : (rcds 0 (M.take i)).size ≤ (rcds 0 (M.take j)).size := by
  have e : M.take j = (M.take j).take i ++ (M.take j).drop i := (List.take_append_drop _ _).symm
  rw [List.take_take, Nat.min_eq_left h] at e
  rw [e, rcds_append, ByteArray.size_append]; omega
theorem cut_at (M : List ByteArray) (hM : ∀ t ∈ M, t.size ≤ 1024) (hl : M.length ≤ 1000) (n k : Nat) (hk : k ≤ (rcds 0 M).size) (hn : n ≤ M.length) (h1 : (rcds 0 (M.take n)).size ≤ k) (h2 : n < M.length → k < (rcds 0 (M.take (n + 1))).size) :
    ∃ tl, (rcds 0 M).extract 0 k = rcds 0 (M.take n) ++ tl ∧ Bad n tl := by
  obtain ⟨m, tl, m1, m2, m3, m4, m5⟩ := rcds_cut M 0 k hM (by omega) hk
  have hmn : m = n := by
    rcases Nat.lt_trichotomy m n with h | h | h
    · have := m5 (by omega)
      have := take_mono M (show m + 1 ≤ n by omega)
      omega
    · exact h
    · have := h2 (by omega)
      have := take_mono M (show n + 1 ≤ m by omega)
      omega
  subst hmn
  rw [Nat.zero_add] at m3
  exact ⟨tl, m2, m3⟩
theorem pre_take (M : List ByteArray) (n : Nat) : (rcds 0 M).extract 0 (rcds 0 (M.take n)).size = rcds 0 (M.take n) := by
  have e := rcds_append (M.take n) (M.drop n) 0
  rw [List.take_append_drop] at e
  rw [e]; exact ext_pre _ _
/-- where records end -/
def endV (M : List ByteArray) : List Value := (List.range (M.length + 1)).map fun i => .int .i64 ((rcds 0 (M.take i)).size : Nat)
theorem endV_len (M : List ByteArray) : (endV M).length = M.length + 1 := by simp [endV]
theorem endV_at (M : List ByteArray) (i : Nat) (h : i ≤ M.length) : (endV M)[i]? = some (.int .i64 ((rcds 0 (M.take i)).size : Nat)) := by
  unfold endV; rw [List.getElem?_map, List.getElem?_range (by omega)]; rfl
theorem endV_snoc (M : List ByteArray) (t : ByteArray) : endV (M ++ [t]) = endV M ++ [.int .i64 ((rcds 0 (M ++ [t])).size : Nat)] := by
  unfold endV
  rw [List.length_append, List.length_singleton, List.range_succ, List.map_append]
  congr 1
  · apply List.map_congr_left
    intro i hi
    have := List.mem_range.1 hi
    rw [List.take_append_of_le_length (by omega)]
  · simp only [List.map_cons, List.map_nil]
    rw [List.take_of_length_le (by simp)]
theorem rcds_size_snoc (M : List ByteArray) (t : ByteArray) : (rcds 0 (M ++ [t])).size = (rcds 0 M).size + (14 + t.size) := by
  rw [rcds_snoc, ByteArray.size_append, rcd_size]
set_option maxHeartbeats 1000000 in
set_option maxRecDepth 100000 in
theorem same_any (w : World) (ad1 ad2 : Option Addr) (k c1 c2 : Nat) (xs : Nat → ByteArray) (hk : k ≤ 1000) (h1 : ∀ j, j < k → ∃ g, ad1 = some ⟨g, 0, none⟩ ∧ w.cell? ⟨g, j, none⟩ = some (.string (xs j)))
    (h2 : ∀ j, j < k → ∃ g, ad2 = some ⟨g, 0, none⟩ ∧ w.cell? ⟨g, j, none⟩ = some (.string (xs j))) :
    Calls Tryd.prog 11 #[.slice ad1 k c1, .slice ad2 k c2] w fun e w' => e = .returned (.bool true) ∧ Below w.heap.size w w' := by
  have H1 := Lib.hid h1; have H2 := Lib.hid h2
  have D0 := Lib.hid (QC.Dr.refl w)
  clear h1 h2
  go_enter Tryd.func11, Tryd.ntmps11
  go_wp2
  go_loopg [5] k (fun gk i u => ∃ j : Nat, gk + j = k ∧ i = .int .i64 j ∧ QC.Dr w u)
  case atStart => exact ⟨0, by omega, rfl, D0.out⟩
  case round =>
    obtain ⟨j, hg, rfl, dj⟩ := hrel
    have DJ := Lib.hid dj
    clear dj D0
    by_cases hlt : j < k
    · have HREL := Lib.hid (show k - (j + 1) + (j + 1) = k by omega)
      have HMEA := Lib.hid (show k - (j + 1) < gk by omega)
      have hj1 : IntKind.i64.wrap ((j : Int) + 1) = ((j + 1 : Nat) : Int) := by rw [IntKind.wrap_i64]; omega
      obtain ⟨g1, rfl, e1⟩ := H1.out j hlt
      obtain ⟨g2, rfl, e2⟩ := H2.out j hlt
      clear hg
      go_wp2
      refine QC.wp_region_d [] [0, 1, 2, 3, 4, 5, 6, 7, 8] (by kernel_rfl) (by kernel_rfl) (fun u d => ?_)
      have DU := Lib.hid (DJ.out.trans d)
      have cu := (DU.out.cell _).trans e1
      have cv := (DU.out.cell _).trans e2
      clear d e1 e2
      iterate 9
        (first
         | (apply QC.wpC_load
            (focus rfl)
            (focus decide)
            (focus rfl)
            (focus rfl)
            (focus rfl)
            (focus (assumption))
            (focus (intro u hu; go_simp))
            intro K hK
            go_simp
            refine hK _ ?_
            clear hK K)
         | (apply QC.wpC_pure
            (focus rfl)
            (focus decide)
            intro K hK
            go_simp
            first
             | (refine hK _ ?_; clear hK K)
             | (apply Exists.intro
                refine ⟨fun u => ?_, hK _ ?_⟩
                (focus (unfold QP.oat; go_simp; first | done | exact ⟨rfl, rfl⟩ | exact rfl))
                clear hK K)))
      refine QC.wpC_nil ?_
      go_wp2
      go_roundg (k - (j + 1))
      case rel => exact ⟨j + 1, HREL.out, by first | rfl | go_num, DU.out⟩
      case measure => exact HMEA.out
    · have hj : j = k := by omega
      subst hj
      clear hg hlt
      go_wp2
      go_ret
      exact ⟨rfl, DJ.out.below⟩
end Go.Proofs.YtiilgkhndfnkgaaDoor
