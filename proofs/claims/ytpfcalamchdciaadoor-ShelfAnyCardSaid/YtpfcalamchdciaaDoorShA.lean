/- Words for the shelf: its places as cells of one block, what is kept of it; no conditions. -/
import Derived.Test.YtpfcalamchdciaaDoorSdD
namespace Go.Proofs.YtpfcalamchdciaaDoor
open Go.RowKit
set_option linter.unusedVariables false

/-- what a place has -/
structure Ent where
  full : Bool
  num : Int
  told : Nat → Nat
def none0 : Ent := ⟨false, 0, fun _ => 0⟩
def Ent.cells (e : Ent) : List Value := .bool e.full :: .int .i64 e.num :: (r8 32 e.told).toList
theorem Ent.len (e : Ent) : e.cells.length = 34 := by unfold Ent.cells; rw [List.length_cons, List.length_cons, Array.length_toList, r8_size]
theorem Ent.one (e : Ent) : ∀ u ∈ e.cells, u.oneCell' = true := by
  intro u hu
  unfold Ent.cells at hu
  rcases List.mem_cons.1 hu with h | hu
  · rw [h]; rfl
  rcases List.mem_cons.1 hu with h | hu
  · rw [h]; rfl
  have := r8_one e.told
  exact (Array.all_eq_true_iff_forall_mem.1 this) u (by simpa using hu)
def Ent.row (e : Ent) : Array Value := e.cells.toArray
theorem Ent.row_size (e : Ent) : e.row.size = 34 := by unfold Ent.row; simpa using e.len
theorem Ent.row_one (e : Ent) : e.row.all (·.oneCell') = true := Array.all_eq_true_iff_forall_mem.2 (fun v hv => e.one v (by unfold Ent.row at hv; simpa using hv))
theorem ent_info (e : Ent) : (Tryd.prog.info? 68).map (·.size) = some e.row.size := by rw [e.row_size]; kernel_rfl
theorem ent_infoL (e : Ent) : (Tryd.prog.info? 68).map (·.size) = some e.cells.length := by rw [e.len]; kernel_rfl

/-- the cells of the first n places -/
def shL (E : Nat → Ent) (n : Nat) : List Value := (List.range n).flatMap fun b => (E b).cells
theorem shL_succ (E : Nat → Ent) (n : Nat) : shL E (n + 1) = shL E n ++ (E n).cells := by unfold shL; rw [List.range_succ, List.flatMap_append]; simp
theorem shL_len (E : Nat → Ent) (n : Nat) : (shL E n).length = 34 * n := by
  induction n with
  | zero => rfl
  | succ n ih => rw [shL_succ, List.length_append, ih, Ent.len]; omega
theorem shL_get (E : Nat → Ent) (n b j : Nat) (hb : b < n) (hj : j < 34) : (shL E n)[34 * b + j]? = (E b).cells[j]? := by
  induction n with
  | zero => omega
  | succ n ih =>
    rw [shL_succ]
    by_cases h : b < n
    · rw [List.getElem?_append_left (by rw [shL_len]; omega)]; exact ih h
    · obtain rfl : b = n := by omega
      rw [List.getElem?_append_right (by rw [shL_len]; omega), shL_len, show 34 * b + j - 34 * b = j by omega]
def shC (E : Nat → Ent) : Array Value := (shL E 17).toArray
theorem shC_size (E : Nat → Ent) : (shC E).size = 578 := by unfold shC; simp [shL_len]
theorem shC_get (E : Nat → Ent) (b j : Nat) (hb : b < 17) (hj : j < 34) : (shC E)[34 * b + j]? = (E b).cells[j]? := by
  unfold shC; rw [List.getElem?_toArray]; exact shL_get E 17 b j hb hj
def putE (E : Nat → Ent) (p : Nat) (e : Ent) : Nat → Ent := fun b => if b = p then e else E b

/-- cells stored one behind the other into a row -/
def spl : Array Value → Nat → List Value → Array Value
  | cs, _, [] => cs
  | cs, o, v :: r => spl (cs.setIfInBounds o v) (o + 1) r
theorem spl_size : ∀ (vs : List Value) (cs : Array Value) (o : Nat), (spl cs o vs).size = cs.size
  | [], _, _ => rfl
  | v :: r, cs, o => by show (spl _ _ r).size = _; rw [spl_size r]; simp
theorem spl_get : ∀ (vs : List Value) (cs : Array Value) (o i : Nat), o + vs.length ≤ cs.size → (spl cs o vs)[i]? = if o ≤ i ∧ i < o + vs.length then vs[i - o]? else cs[i]?
  | [], cs, o, i, _ => by
    show cs[i]? = _
    rw [if_neg (by simp)]
  | v :: r, cs, o, i, h => by
    have hl : (v :: r).length = r.length + 1 := rfl
    rw [hl] at h
    show (spl (cs.setIfInBounds o v) (o + 1) r)[i]? = _
    rw [spl_get r _ _ i (by simp; omega), hl]
    by_cases h1 : o + 1 ≤ i ∧ i < o + 1 + r.length
    · rw [if_pos h1, if_pos (by omega), show i - o = (i - (o + 1)) + 1 by omega, List.getElem?_cons_succ]
    · rw [if_neg h1]
      by_cases h2 : i = o
      · subst h2
        rw [if_pos (by omega), Nat.sub_self, List.getElem?_cons_zero, Array.getElem?_setIfInBounds_self_of_lt (by omega)]
      · rw [if_neg (by omega), Array.getElem?_setIfInBounds_ne (fun e => h2 e.symm)]
theorem row_setCells {g : Nat} {t : TypeId} : ∀ (vs : List Value) (cs : Array Value) (o : Nat) (w : World), M.RowAt w g t cs → M.RowAt (w.setCells g o vs) g t (spl cs o vs)
  | [], _, _, _, h => h
  | v :: r, cs, o, w, h => by
    have := M.RowAt.set h o v
    rw [World.setCells]
    exact row_setCells r _ _ _ this
theorem row_setCells_far {g k : Nat} {t : TypeId} {cs : Array Value} (hk : g ≠ k) : ∀ (vs : List Value) (o : Nat) (w : World), M.RowAt w k t cs → M.RowAt (w.setCells g o vs) k t cs
  | [], _, _, h => h
  | v :: r, o, w, h => by
    rw [World.setCells]
    exact row_setCells_far hk r _ _ (M.RowAt.far h (p := ⟨g, o, none⟩) hk v)
theorem below_setCells {B g : Nat} {w0 : World} (hg : B ≤ g) : ∀ (vs : List Value) (o : Nat) (w : World), Below B w0 w → Below B w0 (w.setCells g o vs)
  | [], _, _, h => h
  | v :: r, o, w, h => by
    rw [World.setCells]
    exact below_setCells hg r _ _ (h.setCell (p := ⟨g, o, none⟩) hg v)
theorem size_setCells {g : Nat} : ∀ (vs : List Value) (o : Nat) (w : World), (w.setCells g o vs).heap.size = w.heap.size
  | [], _, _ => rfl
  | v :: r, o, w => by rw [World.setCells, size_setCells r]; simp [World.setCell]
theorem shC_put (E : Nat → Ent) (p : Nat) (hp : p < 17) (e : Ent) : spl (shC E) (34 * p) e.cells = shC (putE E p e) := by
  apply Array.ext_getElem?
  intro i
  rw [spl_get _ _ _ _ (by rw [shC_size, e.len]; omega), e.len]
  by_cases h : i < 578
  · have hb : i / 34 < 17 := by omega
    have hj : i % 34 < 34 := Nat.mod_lt _ (by decide)
    have e1 := shC_get E (i / 34) (i % 34) hb hj
    have e2 := shC_get (putE E p e) (i / 34) (i % 34) hb hj
    rw [show 34 * (i / 34) + i % 34 = i by omega] at e1 e2
    rw [e1, e2]
    unfold putE
    by_cases h1 : i / 34 = p
    · rw [if_pos (by omega), if_pos h1, show i - 34 * p = i % 34 by omega]
    · rw [if_neg (by omega), if_neg h1]
  · rw [if_neg (by omega), Array.getElem?_eq_none (by rw [shC_size]; omega), Array.getElem?_eq_none (by rw [shC_size]; omega)]
theorem sh_range {v : World} {s : Nat} {E : Nat → Ent} (h : M.RowAt v s 71 (shC E)) (b : Nat) (hb : b < 17) : v.rangeAt s (34 * b) (E b).cells := fun j u hu => by
  have hj : j < 34 := by have := (List.getElem?_eq_some_iff.1 hu).1; rw [Ent.len] at this; exact this
  rw [h.cell, shC_get E b j hb hj]; exact hu
theorem sh_there {v : World} {s : Nat} {E : Nat → Ent} (h : M.RowAt v s 71 (shC E)) (b : Nat) (hb : b < 17) : v.there s (34 * b) 34 := fun j hj => by
  refine ⟨?_, h.frozen _⟩
  rw [h.cell, shC_get E b j hb hj, List.getElem?_eq_getElem (by rw [Ent.len]; exact hj)]; rfl
theorem Ent.c0 (e : Ent) : e.row[0]? = some (.bool e.full) := rfl
theorem Ent.c1 (e : Ent) : e.row[1]? = some (.int .i64 e.num) := rfl
theorem Ent.range2 {v : World} {g : Nat} {t : TypeId} {e : Ent} (h : M.RowAt v g t e.row) : v.rangeAt g 2 (r8 32 e.told).toList := fun j u hu => by
  rw [h.cell]
  unfold Ent.row Ent.cells
  rw [List.getElem?_toArray, show 2 + j = (j + 1) + 1 by omega, List.getElem?_cons_succ, List.getElem?_cons_succ]
  exact hu
end Go.Proofs.YtpfcalamchdciaaDoor
