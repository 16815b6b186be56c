/- A list of blocks known whole, all beyond what was there when a call began: one class of worlds for regions, kept by draws, calls, new blocks and stores of whole rows; no conditions. -/
import Derived.Test.YtnnnbgndbmcffaaMem
namespace Go.Proofs.Ytnnnbgndbmcffaa
open Go.RowKit
set_option linter.unusedVariables false

structure KB (n : Nat) (w : World) (L : List (Nat × TypeId × Array Value)) (v : World) : Prop where
  rows : ∀ x ∈ L, v.heap[x.1]? = some (.cells x.2.2 x.2.1 (0, 0))
  below : Below n w v
  ge : n ≤ v.heap.size
section
variable {n : Nat} {w v v' : World} {L L' : List (Nat × TypeId × Array Value)}
theorem KB.start (w : World) : KB w.heap.size w [] w := ⟨fun x h => by simp at h, Below.refl _ _, Nat.le_refl _⟩
theorem KB.row (c : KB n w L v) (g : Nat) (t : TypeId) (C : Array Value) (h : (g, t, C) ∈ L) : v.heap[g]? = some (.cells C t (0, 0)) := c.rows _ h
theorem KB.drew (c : KB n w L v) : KB n w L v.drew := ⟨c.rows, c.below.drew, c.ge⟩
theorem KB.drewN (c : KB n w L v) (k : Nat) : KB n w L (v.drewN k) := ⟨c.rows, M.below_drewN c.below k, c.ge⟩
theorem KB.sub (c : KB n w L v) (h : ∀ x ∈ L', x ∈ L) : KB n w L' v := ⟨fun x hx => c.rows x (h x hx), c.below, c.ge⟩
theorem KB.same (c : KB n w L v) (hb : Below v.heap.size v v') : KB n w L v' :=
  ⟨fun x hx => M.RowAt.call (c.rows x hx) hb, c.below.trans (hb.mono c.ge), Nat.le_trans c.ge hb.size⟩
theorem KB.alloc (c : KB n w L v) (o : Obj) : KB n w L (v.alloc o) := c.same ((Below.refl _ _).alloc (Nat.le_refl _) o)
theorem KB.new (c : KB n w L v) (t : TypeId) (Z : Array Value) : KB n w ((v.heap.size, t, Z) :: L) (v.alloc (.cells Z t)) :=
  ⟨fun x hx => by
    rcases List.mem_cons.1 hx with e | e
    · subst e; exact M.RowAt.new v t Z
    · exact (c.alloc _).rows x e, (c.alloc _).below, (c.alloc _).ge⟩
theorem KB.setRow {g : Nat} {t : TypeId} {Z : Array Value} (c : KB n w ((g, t, Z) :: L) v) (hne : ∀ x ∈ L, x.1 ≠ g) (hg : n ≤ g) (D : Array Value) : KB n w ((g, t, D) :: L) (v.setRow g D) :=
  ⟨fun x hx => by
    rcases List.mem_cons.1 hx with e | e
    · subst e; exact M.RowAt.setRow (c.rows (g, t, Z) List.mem_cons_self) D
    · exact M.RowAt.farRow (c.rows x (List.mem_cons_of_mem _ e)) (fun h => hne x e h.symm) D, M.below_setRow c.below hg, by simpa using c.ge⟩
theorem KB.set {g : Nat} {t : TypeId} {Z : Array Value} (c : KB n w ((g, t, Z) :: L) v) (hne : ∀ x ∈ L, x.1 ≠ g) (hg : n ≤ g) (i : Nat) (u : Value) : KB n w ((g, t, Z.setIfInBounds i u) :: L) (v.setCell ⟨g, i, none⟩ u) :=
  ⟨fun x hx => by
    rcases List.mem_cons.1 hx with e | e
    · subst e; exact M.RowAt.set (c.rows (g, t, Z) List.mem_cons_self) i u
    · exact M.RowAt.far (c.rows x (List.mem_cons_of_mem _ e)) (p := ⟨g, i, none⟩) (fun h => hne x e h.symm) u, c.below.setCell (p := ⟨g, i, none⟩) hg u, by simpa [World.setCell] using c.ge⟩
theorem KB.lt (c : KB n w L v) {x : Nat × TypeId × Array Value} (hx : x ∈ L) : x.1 < v.heap.size := M.RowAt.lt (c.rows x hx)
/-- a new block, then a whole row stored into it -/
theorem KB.box (c : KB n w L v) (t : TypeId) (Z D : Array Value) : ∃ g V U, v.heap.size = g ∧ v.alloc (.cells Z t) = V ∧ V.heap[g]? = some (.cells Z t (0, 0)) ∧ V.setRow g D = U ∧ KB n w ((g, t, D) :: L) U ∧ n ≤ g ∧ ∀ x ∈ L, x.1 < g :=
  ⟨_, _, _, rfl, rfl, M.RowAt.new v t Z, rfl, (c.new t Z).setRow (fun x hx => Nat.ne_of_lt (c.lt hx)) c.ge D, c.ge, fun x hx => c.lt hx⟩
end
end Go.Proofs.Ytnnnbgndbmcffaa
