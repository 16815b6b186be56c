/- Words for the memory that a call made: a block known whole, what is kept of it behind draws, new blocks, stores and calls; no conditions of their own. -/
import Derived.WalkKit
import Derived.WalkSpells
import Derived.WalkLawsBesides
import Derived.Below
import Derived.Laws.Rows
import Derived.Laws.Tables
import Derived.Deep.MidRow
import Derived.Lib.Hide
namespace Go.Proofs.YtiilgkhndfnkgaaDoor
open Go.RowKit
namespace M
set_option linter.unusedVariables false

/-- block g is just these cells, none frozen -/
def RowAt (w : World) (g : Nat) (t : TypeId) (cs : Array Value) : Prop := w.heap[g]? = some (.cells cs t (0, 0))

section
variable {w w' : World} {g : Nat} {t : TypeId} {cs : Array Value}
theorem RowAt.lt (h : RowAt w g t cs) : g < w.heap.size := by
  unfold RowAt at h
  exact (Array.getElem?_eq_some_iff.1 h).1
theorem RowAt.cell (h : RowAt w g t cs) (i : Nat) : w.cell? ⟨g, i, none⟩ = cs[i]? := by
  unfold RowAt at h; unfold World.cell?; simp [h]
theorem RowAt.frozen (h : RowAt w g t cs) (i : Nat) : w.frozen? ⟨g, i, none⟩ = false := by
  unfold RowAt at h; unfold World.frozen?; simp [h]
theorem RowAt.new (w : World) (t : TypeId) (cs : Array Value) : RowAt (w.alloc (.cells cs t)) w.heap.size t cs := by
  exact heap_alloc_new w _
theorem RowAt.alloc (h : RowAt w g t cs) (o : Obj) : RowAt (w.alloc o) g t cs := by
  have hl := h.lt
  unfold RowAt at *
  simp only [World.alloc, Array.getElem?_push]
  rw [if_neg (by omega)]; exact h
theorem RowAt.drew (h : RowAt w g t cs) : RowAt w.drew g t cs := h
theorem RowAt.drewN (h : RowAt w g t cs) (n : Nat) : RowAt (w.drewN n) g t cs := h
theorem RowAt.set (h : RowAt w g t cs) (i : Nat) (v : Value) : RowAt (w.setCell ⟨g, i, none⟩ v) g t (cs.setIfInBounds i v) := by
  unfold RowAt at *; simp [World.setCell, Array.getElem?_modify, h]
theorem RowAt.far (h : RowAt w g t cs) {p : Addr} (hp : p.block ≠ g) (v : Value) : RowAt (w.setCell p v) g t cs := by
  unfold RowAt at *; simp only [World.setCell, Array.getElem?_modify, if_neg hp]; exact h
theorem RowAt.setRow (h : RowAt w g t cs) (cs' : Array Value) : RowAt (w.setRow g cs') g t cs' := by
  unfold RowAt at *; simp [World.setRow, Array.getElem?_modify, h]
theorem RowAt.farRow (h : RowAt w g t cs) {b : Nat} (hb : b ≠ g) (cs' : Array Value) : RowAt (w.setRow b cs') g t cs := by
  unfold RowAt at *; simp only [World.setRow, Array.getElem?_modify, if_neg hb]; exact h
theorem RowAt.below {B : Nat} (h : RowAt w g t cs) (hb : Below B w w') (hg : g < B) : RowAt w' g t cs := by
  unfold RowAt at *; rw [hb.block g hg]; exact h
theorem RowAt.call (h : RowAt w g t cs) (hb : Below w.heap.size w w') : RowAt w' g t cs := h.below hb h.lt
end

section
variable {B B' : Nat} {w0 w w' : World}
theorem below_setRow {g : Nat} {cs : Array Value} (h : Below B w0 w) (hg : B ≤ g) : Below B w0 (w.setRow g cs) :=
  ⟨h.os, h.tape, h.output, by simpa using h.size, fun k hk => by
    have := h.block k hk
    rw [← this]; simp only [World.setRow, Array.getElem?_modify]; rw [if_neg (by omega)]⟩
theorem below_drewN (h : Below B w0 w) (n : Nat) : Below B w0 (w.drewN n) := ⟨h.os, h.tape, h.output, h.size, h.block⟩
theorem below_call (h : Below B w0 w) (hB : B ≤ w.heap.size) (hb : Below w.heap.size w w') : Below B w0 w' := h.trans (hb.mono hB)
end

/-- what was there is as it was, but for one block -/
structure But (g : Nat) (w w' : World) : Prop where
  os : w'.os = w.os
  tape : w'.tape = w.tape
  output : w'.output = w.output
  size : w.heap.size ≤ w'.heap.size
  block : ∀ k, k < w.heap.size → k ≠ g → w'.heap[k]? = w.heap[k]?
section
variable {g : Nat} {w w' w'' : World}
theorem But.refl (g : Nat) (w : World) : But g w w := ⟨rfl, rfl, rfl, Nat.le_refl _, fun _ _ _ => rfl⟩
theorem But.trans (h : But g w w') (h' : But g w' w'') : But g w w'' :=
  ⟨h'.os.trans h.os, h'.tape.trans h.tape, h'.output.trans h.output, Nat.le_trans h.size h'.size, fun k hk hg => (h'.block k (Nat.lt_of_lt_of_le hk h.size) hg).trans (h.block k hk hg)⟩
theorem But.ofBelow (g : Nat) (h : Below w.heap.size w w') : But g w w' := ⟨h.os, h.tape, h.output, h.size, fun k hk _ => h.block k hk⟩
theorem But.drew (h : But g w w') : But g w w'.drew := ⟨h.os, h.tape, h.output, h.size, h.block⟩
theorem But.drewN (h : But g w w') (n : Nat) : But g w (w'.drewN n) := ⟨h.os, h.tape, h.output, h.size, h.block⟩
theorem But.alloc (h : But g w w') (o : Obj) : But g w (w'.alloc o) :=
  ⟨h.os, h.tape, h.output, by have := h.size; simp; omega, fun k hk hg => by
    have := h.size
    rw [← h.block k hk hg]; simp only [World.alloc, Array.getElem?_push]; rw [if_neg (by omega)]⟩
theorem But.set (h : But g w w') {p : Addr} (hp : p.block = g ∨ w.heap.size ≤ p.block) (v : Value) : But g w (w'.setCell p v) :=
  ⟨h.os, h.tape, h.output, by simpa [World.setCell] using h.size, fun k hk hg => by
    rw [← h.block k hk hg]; simp only [World.setCell, Array.getElem?_modify]; rw [if_neg (by rcases hp with hp | hp <;> omega)]⟩
theorem But.setRow (h : But g w w') {b : Nat} (hb : b = g ∨ w.heap.size ≤ b) (cs : Array Value) : But g w (w'.setRow b cs) :=
  ⟨h.os, h.tape, h.output, by simpa using h.size, fun k hk hg => by
    rw [← h.block k hk hg]; simp only [World.setRow, Array.getElem?_modify]; rw [if_neg (by rcases hb with hb | hb <;> omega)]⟩
theorem But.row {k : Nat} {t : TypeId} {cs : Array Value} (h : But g w w') (hr : RowAt w k t cs) (hg : k ≠ g) : RowAt w' k t cs := by
  have hl := hr.lt
  unfold RowAt at *; rw [h.block k hl hg]; exact hr
theorem But.below {B : Nat} {w0 : World} (h : But g w w') (hb : Below B w0 w) (hg : B ≤ g) (hB : B ≤ w.heap.size) : Below B w0 w' :=
  ⟨h.os.trans hb.os, h.tape.trans hb.tape, h.output.trans hb.output, Nat.le_trans hb.size h.size, fun k hk => (h.block k (by omega) (by omega)).trans (hb.block k hk)⟩
theorem But.cell (h : But g w w') {p : Addr} (hp : p.block < w.heap.size) (hg : p.block ≠ g) : w'.cell? p = w.cell? p := by
  unfold World.cell?; rw [h.block p.block hp hg]
theorem But.frozen (h : But g w w') {p : Addr} (hp : p.block < w.heap.size) (hg : p.block ≠ g) : w'.frozen? p = w.frozen? p := by
  unfold World.frozen?; rw [h.block p.block hp hg]
end

theorem range_below {w w' : World} {B b o : Nat} {cs : List Value} (h : w.rangeAt b o cs) (hb : Below B w w') (hB : b < B) : w'.rangeAt b o cs := fun j v hv => by
  rw [hb.cell (show b < B from hB)]; exact h j v hv
theorem range_row {w : World} {g : Nat} {t : TypeId} {cs : Array Value} (h : RowAt w g t cs) : w.rangeAt g 0 cs.toList := fun j v hv => by
  rw [h.cell, Nat.zero_add, ← Array.getElem?_toList]; exact hv

/-- a row of integers by a function -/
def rowF (k : IntKind) (n : Nat) (f : Nat → Int) : Array Value := ((List.range n).map fun i => Value.int k (f i)).toArray
section
variable {k : IntKind} {n : Nat} {f g : Nat → Int}
theorem rowF_size : (rowF k n f).size = n := by simp [rowF]
theorem rowF_get {i : Nat} (h : i < n) : (rowF k n f)[i]? = some (.int k (f i)) := by simp [rowF, h]
theorem rowF_out {i : Nat} (h : n ≤ i) : (rowF k n f)[i]? = none := by rw [Array.getElem?_eq_none (by rw [rowF_size]; omega)]
theorem rowF_congr (h : ∀ i, i < n → f i = g i) : rowF k n f = rowF k n g := by
  apply Array.ext_getElem?
  intro i
  by_cases hi : i < n
  · rw [rowF_get hi, rowF_get hi, h i hi]
  · rw [rowF_out (by omega), rowF_out (by omega)]
theorem rowF_set {i : Nat} (v : Int) (h : i < n) (hg : ∀ j, j < n → g j = if j = i then v else f j) : (rowF k n f).setIfInBounds i (.int k v) = rowF k n g := by
  apply Array.ext_getElem?
  intro j
  rw [Array.getElem?_setIfInBounds, rowF_size]
  by_cases hj : j < n
  · rw [rowF_get (f := f) hj, rowF_get (f := g) hj, hg j hj]
    by_cases he : i = j
    · subst he; rw [if_pos rfl, if_pos h, if_pos rfl]
    · rw [if_neg he, if_neg (fun e => he e.symm)]
  · rw [rowF_out (by omega), if_neg (by omega), rowF_out (by omega)]
theorem rowF_one : (rowF k n f).all (·.oneCell') = true := by
  rw [rowF, List.all_toArray, List.all_eq_true]; intro x hx; obtain ⟨y, _, rfl⟩ := List.mem_map.1 hx; rfl
theorem rowF_list {l : List Int} (h : l.length = n) : (l.map (Value.int k)).toArray = rowF k n (fun i => l.getD i 0) := by
  apply Array.ext_getElem?
  intro i
  by_cases hi : i < n
  · rw [rowF_get hi]; simp [List.getD, List.getElem?_eq_getElem (show i < l.length by omega)]
  · rw [rowF_out (by omega), Array.getElem?_eq_none (by simp; omega)]
end
end M
end Go.Proofs.YtiilgkhndfnkgaaDoor
