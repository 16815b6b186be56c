/- A lock that takes its slot; the condition is that the blocks are known. -/
import Derived.Test.YtnnnbgndbmcffaaSrD
import Derived.Test.YtnnnbgndbmcffaaChain
namespace Go.Proofs.Ytnnnbgndbmcffaa
open Go.RowKit
set_option linter.unusedVariables false

set_option maxRecDepth 100000 in
theorem lock_free (q0 q1 t0 t1 b tk pu n k : Nat) (hk : k < 4) (h : Nat → Int) (ts ds : Value) (id fr to am er : Int) (steps told : Value) (acted : Bool) (w : World)
    (r0 : M.RowAt w q0 t0 #[.pointer (some ⟨tk, 0, none⟩)]) (r1 : M.RowAt w q1 t1 #[.int .i64 k]) (rt : M.RowAt w tk 136 (taskR b id fr to am steps acted er told)) (rb : M.RowAt w b 141 (bankR pu n h ts ds)) (hh : h k = -1) :
    Calls Try.prog 86 #[.pointer (some ⟨q0, 0, none⟩), .pointer (some ⟨q1, 0, none⟩)] w fun e w' => e = .returned (.int .i64 0) ∧ M.RowAt w' b 141 (bankR pu n (upF h k id) ts ds) ∧ M.But b w w' := by
  have fa : ∀ u, QC.Dr w u → u.cell? ⟨q0, 0, none⟩ = some (.pointer (some ⟨tk, 0, none⟩)) ∧ u.cell? ⟨q1, 0, none⟩ = some (.int .i64 k) ∧ u.cell? ⟨tk, 0, none⟩ = some (.pointer (some ⟨b, 0, none⟩)) ∧ u.cell? ⟨tk, 1, none⟩ = some (.int .i64 id)
      ∧ u.cell? ⟨b, 2 + k, none⟩ = some (.int .i64 (-1)) ∧ u.frozen? ⟨b, 2 + k, none⟩ = false := fun u hu => by
    refine ⟨((hu.row r0).cell 0).trans rfl, ((hu.row r1).cell 0).trans rfl, ((hu.row rt).cell 0).trans rfl, ((hu.row rt).cell 1).trans rfl, ?_, (hu.row rb).frozen _⟩
    rw [(hu.row rb).cell, ← hh]
    obtain rfl | rfl | rfl | rfl : k = 0 ∨ k = 1 ∨ k = 2 ∨ k = 3 := by omega
    all_goals rfl
  have fin : ∀ u, QC.Dr w u → M.RowAt (u.setCell ⟨b, 2 + k, none⟩ (.int .i64 id)) b 141 (bankR pu n (upF h k id) ts ds) ∧ M.But b w (u.setCell ⟨b, 2 + k, none⟩ (.int .i64 id)) := fun u hu => by
    have := (hu.row rb).set (2 + k) (.int .i64 id)
    have e : (bankR pu n h ts ds).setIfInBounds (2 + k) (.int .i64 id) = bankR pu n (upF h k id) ts ds := by
      obtain rfl | rfl | rfl | rfl : k = 0 ∨ k = 1 ∨ k = 2 ∨ k = 3 := by omega
      all_goals rfl
    rw [e] at this; exact ⟨this, (M.But.ofBelow b hu.below).set (p := ⟨b, 2 + k, none⟩) (.inl rfl) _⟩
  have FA := Lib.hid fa; have FIN := Lib.hid fin
  have i1 : ((k : Nat) : Int) < 4 := by omega
  have i0 : (0 : Int) ≤ (k : Nat) := by omega
  clear r0 r1 rt rb fin fa
  go_enter Try.func86, Try.ntmps86
  go_wp2
  refine QC.wp_region_d [] [0, 1, 2, 3, 4, 5, 6, 7, 8, 9] (by kernel_rfl) (by kernel_rfl) (fun u1 d1 => ?_)
  obtain ⟨c0, c1, c2, c3, c4, c5⟩ := FA.out u1 d1
  iterate 10
    (first
     | (apply QC.wpC_load
        (focus rfl)
        (focus decide)
        (focus rfl)
        (focus rfl)
        (focus rfl)
        (focus (assumption))
        (focus (intro u hu; go_simp))
        intro K hK
        go_simp
        refine hK _ ?_
        clear hK K)
     | (apply QC.wpC_pure
        (focus rfl)
        (focus decide)
        intro K hK
        go_simp
        first
         | (refine hK _ ?_; clear hK K)
         | (apply Exists.intro
            refine ⟨fun u => ?_, hK _ ?_⟩
            (focus (unfold QP.oat; go_simp; first | done | exact ⟨rfl, rfl⟩ | exact rfl))
            clear hK K)))
  refine QC.wpC_nil ?_
  clear c0 c1 c2 c3 c4 c5
  go_wp2
  refine QC.wp_region_d [12] [0, 1, 2, 3, 4, 5, 6, 7, 8, 9, 10, 11, 12] (by kernel_rfl) (by kernel_rfl) (fun u2 d2 => ?_)
  have d2 := d1.trans d2
  obtain ⟨c0, c1, c2, c3, c4, c5⟩ := FA.out u2 d2
  iterate 12
    (first
     | (apply QC.wpC_load
        (focus rfl)
        (focus decide)
        (focus rfl)
        (focus rfl)
        (focus rfl)
        (focus (assumption))
        (focus (intro u hu; go_simp))
        intro K hK
        go_simp
        refine hK _ ?_
        clear hK K)
     | (apply QC.wpC_pure
        (focus rfl)
        (focus decide)
        intro K hK
        go_simp
        first
         | (refine hK _ ?_; clear hK K)
         | (apply Exists.intro
            refine ⟨fun u => ?_, hK _ ?_⟩
            (focus (unfold QP.oat; go_simp; first | done | exact ⟨rfl, rfl⟩ | exact rfl))
            clear hK K)))
  apply QC.wpC_eff
  (focus rfl)
  (focus decide)
  go_wp2
  refine QC.eff_ok rfl ?_ (QC.wpC_nil ?_)
  · (repeat (first | exact QC.obl_nil | (apply QC.obl_dep; (focus decide)) | refine QC.obl_is ?_ ?_))
  clear c0 c1 c2 c3 c4 c5
  go_wp2
  go_ret
  exact ⟨rfl, FIN.out _ d2⟩
end Go.Proofs.Ytnnnbgndbmcffaa
