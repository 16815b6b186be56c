/- What the law package's shown answers: true; the condition is that the tables are laid. Equality of a hash with itself. -/
import Derived.Test.YtpfcalamchdciaaDoorDhS
import Derived.ChangeKeysEq
import Derived.Deep.RegionHeld3
namespace Go.Proofs.YtpfcalamchdciaaDoor
open Go.RowKit
set_option linter.unusedVariables false

theorem eqItems_r8 (f : Nat → Nat) (W : World) : ∀ (is : List Nat), (∀ i ∈ is, i < 32) → (Op.eqItems 9999 5 1 (r8 32 f) (r8 32 f) is).run Tryd.prog W = .ok true W
  | [], _ => rfl
  | i :: is, h => by
    have hi := h i (by simp)
    have ih := eqItems_r8 f W is (fun j hj => h j (by simp [hj]))
    have hg : (r8 32 f)[i]? = some (.int .u8 (f i : Nat)) := M.rowF_get hi
    simp [Op.eqItems, part, ih, hg, go_sem]
set_option maxRecDepth 100000 in
theorem r8_eq (f : Nat → Nat) (W : World) : (Op.equalIn 10000 28 (.agg (r8 32 f)) (.agg (r8 32 f))).run Tryd.prog W = .ok true W := by
  have hi : ∃ i, Tryd.prog.info? 5 = some i := ⟨_, rfl⟩
  obtain ⟨i, hi⟩ := hi
  have hc : Tryd.prog.cellsOf 5 = 1 := by kernel_rfl
  have h := run_equalIn_array (P := Tryd.prog) (w := W) 9999 (r8 32 f) (r8 32 f) und28 hi
  rw [hc] at h
  exact h.trans (eqItems_r8 f W _ (fun j hj => List.mem_range.1 hj))

theorem abc_0 : Sha.sum ⟨#[97, 98, 99]⟩ 0 = 186 := by decide +kernel
theorem abc_1 : Sha.sum ⟨#[97, 98, 99]⟩ 1 = 120 := by decide +kernel
theorem abc_2 : Sha.sum ⟨#[97, 98, 99]⟩ 2 = 22 := by decide +kernel
theorem abc_3 : Sha.sum ⟨#[97, 98, 99]⟩ 3 = 191 := by decide +kernel
theorem abc_31 : Sha.sum ⟨#[97, 98, 99]⟩ 31 = 173 := by decide +kernel

set_option maxRecDepth 100000 in
set_option maxHeartbeats 2000000 in
theorem shown_any (w : World) (ht : Tabs w) :
    Calls Tryd.prog 24 #[] w fun e w' => e = .returned (.bool true) ∧ Below w.heap.size w w' := by
  obtain ⟨n, hn⟩ : ∃ n, w.heap.size = n := ⟨_, rfl⟩
  have HN := Lib.hid hn
  have h1n : 1 < n := hn ▸ ht.lt
  have cx := fun v (hb : Below n w v) => sum_any ⟨#[97, 98, 99]⟩ v (ht.below hb h1n) (by decide)
  have a0 := abc_0; have a1 := abc_1; have a2 := abc_2; have a3 := abc_3; have a4 := abc_31
  generalize Sha.sum ⟨#[97, 98, 99]⟩ = F at *
  obtain ⟨D, hD⟩ : ∃ D, r8 32 F = D := ⟨_, rfl⟩
  have zD : Z32.size = D.size := by rw [← hD]; exact r8_zero F
  have oD : D.all (·.oneCell') = true := by rw [← hD]; exact M.rowF_one
  have iD : (Tryd.prog.info? 28).map (·.size) = some D.size := by rw [← hD]; exact r8_info F
  have d0 : ∀ v g, M.RowAt v g 28 D → v.cell? ⟨g, 0, none⟩ = some (.int .u8 186) := fun v g h => (h.cell 0).trans (by rw [← hD, M.rowF_get (by decide), a0]; rfl)
  have d1 : ∀ v g, M.RowAt v g 28 D → v.cell? ⟨g, 1, none⟩ = some (.int .u8 120) := fun v g h => (h.cell 1).trans (by rw [← hD, M.rowF_get (by decide), a1]; rfl)
  have d2 : ∀ v g, M.RowAt v g 28 D → v.cell? ⟨g, 2, none⟩ = some (.int .u8 22) := fun v g h => (h.cell 2).trans (by rw [← hD, M.rowF_get (by decide), a2]; rfl)
  have d3 : ∀ v g, M.RowAt v g 28 D → v.cell? ⟨g, 3, none⟩ = some (.int .u8 191) := fun v g h => (h.cell 3).trans (by rw [← hD, M.rowF_get (by decide), a3]; rfl)
  have d4 : ∀ v g, M.RowAt v g 28 D → v.cell? ⟨g, 31, none⟩ = some (.int .u8 173) := fun v g h => (h.cell 31).trans (by rw [← hD, M.rowF_get (by decide), a4]; rfl)
  rw [hD] at cx
  have CX := Lib.hid cx; have D0 := Lib.hid d0; have D1 := Lib.hid d1; have D2 := Lib.hid d2; have D3 := Lib.hid d3; have D4 := Lib.hid d4
  have b0 : Below n w w := Below.refl _ _
  have HT := Lib.hid ht
  clear cx d0 d1 d2 d3 d4 a0 a1 a2 a3 a4 hD ht
  go_enter Tryd.func24, Tryd.ntmps24
  go_wp2_with fail
  refine (CX.out _ b0).mono ?_
  rintro e w' ⟨rfl, gq⟩
  have gq' := gq
  rw [HN.out] at gq'
  have hge : n ≤ w'.heap.size := by have := gq.size; omega
  have rV := M.RowAt.new w' 28 Z32
  have bV := gq'.alloc hge (.cells Z32 28)
  obtain ⟨g, hg⟩ : ∃ g, w'.heap.size = g := ⟨_, rfl⟩
  rw [hg] at rV hge
  have HG := Lib.hid hg
  obtain ⟨V, hV⟩ : ∃ V, w'.alloc (.cells #[.int .u8 0, .int .u8 0, .int .u8 0, .int .u8 0, .int .u8 0, .int .u8 0, .int .u8 0, .int .u8 0, .int .u8 0, .int .u8 0, .int .u8 0, .int .u8 0, .int .u8 0, .int .u8 0, .int .u8 0, .int .u8 0, .int .u8 0, .int .u8 0, .int .u8 0, .int .u8 0, .int .u8 0, .int .u8 0, .int .u8 0, .int .u8 0, .int .u8 0, .int .u8 0, .int .u8 0, .int .u8 0, .int .u8 0, .int .u8 0, .int .u8 0, .int .u8 0] 28) = V := ⟨_, rfl⟩
  have e : w'.alloc (.cells Z32 28) = V := hV
  have HV := Lib.hid hV
  rw [e] at rV bV
  have rW := M.RowAt.setRow rV D
  have bW := M.below_setRow (g := g) (cs := D) bV hge
  obtain ⟨U, hU⟩ : ∃ U, V.setRow g D = U := ⟨_, rfl⟩
  rw [hU] at rW bW
  have HU := Lib.hid hU
  have q0 := D0.out _ _ rW
  have q1 := D1.out _ _ rW
  have q2 := D2.out _ _ rW
  have q3 := D3.out _ _ rW
  have q4 := D4.out _ _ rW
  unfold M.RowAt at rV
  clear hg hV e gq gq' rW hU
  go_wp2_with (first
    | (rw [HG.out, HV.out]; refine wpList_store_row (x := .tmp 1) (y := .tmp 2) (cells := D) (old := Z32) (t := 28) (ty := 28) (g := g) ?_ ?_ ?_ ?_ rV iD zD oD ?_; rfl; rfl; rfl; rfl; rw [HU.out]))
  go_ret
  refine ⟨rfl, ?_⟩
  rw [HN.out]
  exact bW
end Go.Proofs.YtpfcalamchdciaaDoor
