/- The walk of CircuitTwice; no conditions. -/
import Derived.Test.YtnnnbgndbmcffaaCiD
namespace Go.Proofs.Ytnnnbgndbmcffaa
open Go.RowKit
set_option linter.unusedVariables false

theorem dt {α : Type} (cs : List α) (o k j : Nat) (h : j < k) : ((cs.drop o).take k)[j]? = cs[o + j]? := by
  rw [List.getElem?_take, if_pos h, List.getElem?_drop]
theorem dt_eq {α : Type} {cs l : List α} {o k : Nat} (h : (cs.drop o).take k = l) (j : Nat) (hj : j < k) : cs[o + j]? = l[j]? := by rw [← dt cs o k j hj, h]
section
variable {H : Type} {enc : TypeId × Value → H} {w : World} {base : Nat} {sp : Nat → Bool} {held : Bool}
theorem key_of {n : Nat} {cs : List Value} {y : DataW H × List MemPlace} (h : DataW.trod enc Try.prog w base sp held n 61 cs = some y) : ∃ k : Ky, k.fit ∧ cs[0]? = some (.int .u32 k.1) ∧ cs[1]? = some (.int .u64 k.2) := by
  obtain ⟨n0, y0, h0⟩ := RowK.field_of Try.underlying61 h 0 rfl
  obtain ⟨n1, y1, h1⟩ := RowK.field_of Try.underlying61 h 1 rfl
  obtain ⟨a, ha, wa⟩ := RowK.int_of Try.underlying22 h0
  obtain ⟨b, hb, wb⟩ := RowK.int_of Try.underlying23 h1
  exact ⟨(a, b), ⟨RowK.wf_u32 wa, RowK.wf_u64 wb⟩, dt_eq ha 0 (by decide +kernel), dt_eq hb 0 (by decide +kernel)⟩
theorem leg_of {n : Nat} {cs : List Value} {y : DataW H × List MemPlace} (h : DataW.trod enc Try.prog w base sp held n 63 cs = some y) :
    ∃ a : Lg, a.ok ∧ cs[0]? = some (.int .u32 a.k.1) ∧ cs[1]? = some (.int .u64 a.k.2) ∧ cs[2]? = some (.int .u64 a.amt) ∧ cs[3]? = some (.int .i64 a.exp) := by
  obtain ⟨n0, y0, h0⟩ := RowK.field_of Try.underlying63 h 0 rfl
  obtain ⟨n1, y1, h1⟩ := RowK.field_of Try.underlying63 h 1 rfl
  obtain ⟨n2, y2, h2⟩ := RowK.field_of Try.underlying63 h 2 rfl
  obtain ⟨k, hk, e0, e1⟩ := key_of h0
  obtain ⟨b, hb, wb⟩ := RowK.int_of Try.underlying23 h1
  obtain ⟨c, hc, wc⟩ := RowK.int_of Try.underlying3 h2
  have b1 := RowK.wf_u64 wb
  have c1 := RowK.wf_i64 wc
  refine ⟨⟨k, b, c⟩, ⟨hk, b1.1, b1.2, c1.1, c1.2⟩, ?_, ?_, dt_eq hb 0 (by decide +kernel), dt_eq hc 0 (by decide +kernel)⟩
  · rw [dt _ _ _ _ (by decide +kernel)] at e0; exact e0
  · rw [dt _ _ _ _ (by decide +kernel)] at e1; exact e1
set_option maxRecDepth 100000 in
theorem open67 {v : Value} {d : DataW H} {p : List MemPlace} {r : Reach} {b0 : Nat} (hval : Value.okWide Try.prog w r b0 67 v) (h : DataW.Trod enc Try.prog w base sp held 67 v d p) :
    ∃ (a b : Lg) (X : Array Value), v = .agg X ∧ Cells X a b ∧ a.ok ∧ b.ok := by
  have hv : ∃ cs : Array Value, v = .agg cs ∧ cs.size = 40 := by
    simp only [Value.okWide, Try.underlying67] at hval
    obtain ⟨cs, h1, h2, _⟩ := hval
    exact ⟨cs, h1, by rw [h2]; kernel_rfl⟩
  obtain ⟨cs, rfl, hs⟩ := hv
  obtain ⟨fuel, hf⟩ := h
  have hcs : (Value.agg cs).cells.toList = cs.toList := rfl
  rw [hcs] at hf
  obtain ⟨n0, y0, h0⟩ := RowK.field_of Try.underlying67 hf 0 rfl
  obtain ⟨n1, y1, h1⟩ := RowK.field_of Try.underlying67 hf 1 rfl
  obtain ⟨n2, y2, h2⟩ := RowK.field_of Try.underlying67 hf 2 rfl
  obtain ⟨a, ha, a0, a1, a2, a3⟩ := leg_of h0
  obtain ⟨b, hb, b0, b1, b2, b3⟩ := leg_of h1
  obtain ⟨zs, z0, z1, z2⟩ := RowK.arr_of Try.underlying65 Try.underlying5 (by kernel_rfl) (by kernel_rfl) h2
  have k32 : Try.prog.cellsOf 65 = 32 := by kernel_rfl
  rw [dt _ _ _ _ (by decide +kernel)] at a0 a1 a2 a3 b0 b1 b2 b3
  have g : ∀ j, cs.toList[j]? = cs[j]? := fun j => Array.getElem?_toList
  rw [g] at a0 a1 a2 a3 b0 b1 b2 b3
  have hz : ∀ j, j < 32 → ∃ z, cs[8 + j]? = some (.int .u8 z) := fun j hj => by
    have := dt_eq z2 j (by show j < Try.prog.cellsOf 65; rw [k32]; exact hj)
    rw [g, List.getElem?_map] at this
    refine ⟨zs[j]'(by omega), ?_⟩
    rw [List.getElem?_eq_getElem (show j < zs.length by omega)] at this
    exact this
  have a0' : cs[0]? = _ := a0
  have a1' : cs[1]? = _ := a1
  have a2' : cs[2]? = _ := a2
  have a3' : cs[3]? = _ := a3
  have b0' : cs[4]? = _ := b0
  have b1' : cs[5]? = _ := b1
  have b2' : cs[6]? = _ := b2
  have b3' : cs[7]? = _ := b3
  refine ⟨a, b, cs, rfl, ⟨hs, Array.all_eq_true_iff_forall_mem.2 fun x hx => ?_, a0', a1', a2', a3', b0', b1', b2', b3'⟩, ha, hb⟩
  obtain ⟨i, hi⟩ := Array.mem_iff_getElem?.1 hx
  have hi40 : i < 40 := by rw [← hs]; exact (Array.getElem?_eq_some_iff.1 hi).1
  by_cases h8 : i < 8
  · match i, h8 with
    | 0, _ => rw [a0'] at hi; cases hi; rfl
    | 1, _ => rw [a1'] at hi; cases hi; rfl
    | 2, _ => rw [a2'] at hi; cases hi; rfl
    | 3, _ => rw [a3'] at hi; cases hi; rfl
    | 4, _ => rw [b0'] at hi; cases hi; rfl
    | 5, _ => rw [b1'] at hi; cases hi; rfl
    | 6, _ => rw [b2'] at hi; cases hi; rfl
    | 7, _ => rw [b3'] at hi; cases hi; rfl
  · obtain ⟨z, h⟩ := hz (i - 8) (by omega)
    rw [show 8 + (i - 8) = i by omega, hi] at h
    cases h; rfl
end
theorem gs_ne {X : Array Value} {i j : Nat} (h : j ≠ i) (u : Value) : (X.setIfInBounds j u)[i]? = X[i]? := Array.getElem?_setIfInBounds_ne h
theorem gs_ne2 {X : Array Value} {i j k : Nat} (h : j ≠ i) (h2 : k ≠ i) (u v : Value) : ((X.setIfInBounds j u).setIfInBounds k v)[i]? = X[i]? := (gs_ne h2 v).trans (gs_ne h u)
theorem gs_eq {X : Array Value} {j : Nat} (h : j < X.size) (u : Value) : (X.setIfInBounds j u)[j]? = some u := Array.getElem?_setIfInBounds_self_of_lt h
theorem one_set {X : Array Value} (h : X.all (·.oneCell') = true) (j : Nat) {u : Value} (hu : u.oneCell' = true) : (X.setIfInBounds j u).all (·.oneCell') = true := by
  refine Array.all_eq_true_iff_forall_mem.2 fun x hx => ?_
  rcases Array.mem_or_eq_of_mem_setIfInBounds hx with hx | rfl
  · exact Array.all_eq_true_iff_forall_mem.1 h x hx
  · exact hu
section
variable {X : Array Value} {a b : Lg}
theorem Cells.k (h : Cells X a b) (k : Ky) : Cells ((X.setIfInBounds 0 (.int .u32 k.1)).setIfInBounds 1 (.int .u64 k.2)) ⟨k, a.amt, a.exp⟩ b := by
  have hs := h.size
  exact ⟨by simp [hs], one_set (one_set h.one _ rfl) _ rfl, (gs_ne (by decide) _).trans (gs_eq (by omega) _), gs_eq (by simp; omega) _, (gs_ne2 (by decide) (by decide) _ _).trans h.c2, (gs_ne2 (by decide) (by decide) _ _).trans h.c3, (gs_ne2 (by decide) (by decide) _ _).trans h.c4, (gs_ne2 (by decide) (by decide) _ _).trans h.c5, (gs_ne2 (by decide) (by decide) _ _).trans h.c6, (gs_ne2 (by decide) (by decide) _ _).trans h.c7⟩
theorem Cells.id (h : Cells X a b) (z : Int) : Cells (X.setIfInBounds 1 (.int .u64 z)) ⟨(a.k.1, z), a.amt, a.exp⟩ b := by
  have hs := h.size
  exact ⟨by simp [hs], one_set h.one _ rfl, (gs_ne (by decide) _).trans h.c0, gs_eq (by omega) _, (gs_ne (by decide) _).trans h.c2, (gs_ne (by decide) _).trans h.c3, (gs_ne (by decide) _).trans h.c4, (gs_ne (by decide) _).trans h.c5, (gs_ne (by decide) _).trans h.c6, (gs_ne (by decide) _).trans h.c7⟩
theorem Cells.ok (h : Cells X a b) (k : Ky) : Cells ((X.setIfInBounds 4 (.int .u32 k.1)).setIfInBounds 5 (.int .u64 k.2)) a ⟨k, b.amt, b.exp⟩ := by
  have hs := h.size
  exact ⟨by simp [hs], one_set (one_set h.one _ rfl) _ rfl, (gs_ne2 (by decide) (by decide) _ _).trans h.c0, (gs_ne2 (by decide) (by decide) _ _).trans h.c1, (gs_ne2 (by decide) (by decide) _ _).trans h.c2, (gs_ne2 (by decide) (by decide) _ _).trans h.c3, (gs_ne (by decide) _).trans (gs_eq (by omega) _), gs_eq (by simp; omega) _, (gs_ne2 (by decide) (by decide) _ _).trans h.c6, (gs_ne2 (by decide) (by decide) _ _).trans h.c7⟩
end
/-- the law's own map and boxes, beyond what was there -/
structure CW (n : Nat) (m i o : Nat) (li : List (Ky × List Value)) (lo : List (Ky × Ky)) (X Y : Array Value) (w v : World) : Prop where
  cm : Cm m i o 0 0 li lo v
  rx : M.RowAt v n 67 X
  ry : M.RowAt v (n + 1) 67 Y
  bel : Below n w v
  ge : n + 2 ≤ m ∧ n + 2 ≤ i ∧ n + 2 ≤ o
section
variable {n m i o : Nat} {li li' : List (Ky × List Value)} {lo lo' : List (Ky × Ky)} {X Y : Array Value} {w v v' : World}
theorem CW.nle (h : CW n m i o li lo X Y w v) : n ≤ v.heap.size := Nat.le_of_lt h.rx.lt
theorem CW.same (h : CW n m i o li lo X Y w v) (hb : Below v.heap.size v v') : CW n m i o li lo X Y w v' := ⟨h.cm.same hb, h.rx.call hb, h.ry.call hb, h.bel.trans (hb.mono h.nle), h.ge⟩
theorem CW.bt (h : CW n m i o li lo X Y w v) (hc : Cm m i o 0 0 li' lo' v') (hb : Bt [i, o] v v') : CW n m i o li' lo' X Y w v' := by
  have ge := h.ge
  refine ⟨hc, hb.row h.rx ?_, hb.row h.ry ?_, hb.below h.bel (fun g hg => ?_) h.nle, ge⟩
  · simp; omega
  · simp; omega
  · simp at hg; omega
theorem CW.set (h : CW n m i o li lo X Y w v) (j : Nat) (u : Value) : CW n m i o li lo X (Y.setIfInBounds j u) w (v.setCell ⟨n + 1, j, none⟩ u) := by
  have ge := h.ge
  exact ⟨⟨h.cm.hp.far (p := ⟨n + 1, j, none⟩) (show n + 1 ≠ m by omega) u, h.cm.hi.far (p := ⟨n + 1, j, none⟩) (show n + 1 ≠ i by omega) u, h.cm.ho.far (p := ⟨n + 1, j, none⟩) (show n + 1 ≠ o by omega) u, h.cm.ne⟩, h.rx.far (p := ⟨n + 1, j, none⟩) (show n + 1 ≠ n by omega) u, h.ry.set j u, h.bel.setCell (p := ⟨n + 1, j, none⟩) (show n ≤ n + 1 by omega) u, ge⟩
end
/-- what a second Open answers -/
def gR (a b : Lg) : Int := if ckE 0 0 a b = 0 then 4 else ckE 0 0 a b
theorem gR_ne (a b : Lg) : gR a b ≠ 0 := by unfold gR; split; decide; assumption
theorem gR_ck (a b : Lg) : (ckE 0 0 a b = 0 → gR a b = 4) ∧ (ckE 0 0 a b ≠ 0 → gR a b = ckE 0 0 a b ∧ gR a b ≠ 4) := by
  unfold gR
  refine ⟨fun h => if_pos h, fun h => ?_⟩
  rw [if_neg h]
  exact ⟨rfl, (ckE_ne 0 0 a b).1⟩
/-- Open where a key is there already -/
theorem open_twice {m i o : Nat} {li : List (Ky × List Value)} {lo : List (Ky × Ky)} {w : World} (h : Cm m i o 0 0 li lo w) (a b : Lg) (ha : a.ok) (hb : b.ok) (X : Array Value) (hx : Cells X a b) (hli : ∀ p ∈ li, Wd p.2) (hlen : li.length < 64)
    (hh : (getM li a.k).isSome = true ∨ (getM lo b.k).isSome = true) : Calls Try.prog 42 #[.pointer (some ⟨m, 0, none⟩), .agg X] w fun e w' => e = .returned (.int .i64 (gR a b)) ∧ Below w.heap.size w w' := by
  by_cases hc : ckE 0 0 a b = 0
  · rw [(gR_ck a b).1 hc]
    exact (open_ok h ⟨by decide, by decide⟩ ⟨by decide, by decide⟩ a b ha hb X.toList (by simpa using hx) hc hli hlen _ _ rfl rfl).mono fun e w' hq => hq.1 hh
  · rw [((gR_ck a b).2 hc).1]
    exact open_err h ⟨by decide, by decide⟩ ⟨by decide, by decide⟩ a b ha hb X hx hc
end Go.Proofs.Ytnnnbgndbmcffaa
