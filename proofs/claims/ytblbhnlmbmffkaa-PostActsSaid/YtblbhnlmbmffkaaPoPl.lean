/- Plain words for post: letters, boxes as rings, their cells in one block; no conditions. -/
import Derived.Test.YtblbhnlmbmffkaaTools
import Derived.OneCell
namespace Go.Proofs.Ytblbhnlmbmffkaa
open Go.RowKit
set_option linter.unusedVariables false

/-- a row of cells by a function -/
def rowG (n : Nat) (f : Nat → Value) : Array Value := ((List.range n).map f).toArray
theorem rowG_size (n : Nat) (f : Nat → Value) : (rowG n f).size = n := by simp [rowG]
theorem rowG_get {n : Nat} {f : Nat → Value} {i : Nat} (h : i < n) : (rowG n f)[i]? = some (f i) := by simp [rowG, h]
theorem rowG_out {n : Nat} {f : Nat → Value} {i : Nat} (h : n ≤ i) : (rowG n f)[i]? = none := by rw [Array.getElem?_eq_none (by rw [rowG_size]; omega)]
theorem rowG_congr {n : Nat} {f g : Nat → Value} (h : ∀ i, i < n → f i = g i) : rowG n f = rowG n g := by
  apply Array.ext_getElem?
  intro i
  by_cases hi : i < n
  · rw [rowG_get hi, rowG_get hi, h i hi]
  · rw [rowG_out (by omega), rowG_out (by omega)]
theorem rowG_set {n : Nat} {f g : Nat → Value} {i : Nat} (v : Value) (hg : ∀ j, j < n → g j = if j = i then v else f j) : (rowG n f).setIfInBounds i v = rowG n g := by
  apply Array.ext_getElem?
  intro j
  rw [Array.getElem?_setIfInBounds, rowG_size]
  by_cases hj : j < n
  · rw [rowG_get (f := f) hj, rowG_get (f := g) hj, hg j hj]
    by_cases he : i = j
    · subst he; rw [if_pos rfl, if_pos hj, if_pos rfl]
    · rw [if_neg he, if_neg (fun e => he e.symm)]
  · rw [rowG_out (by omega), rowG_out (by omega)]
    by_cases he : i = j
    · rw [if_pos he, if_neg (by omega)]
    · rw [if_neg he]
/-- a letter -/
structure Lt where
  to : Int
  frm : Int
  kind : Int
  text : ByteArray
def lt0 : Lt := ⟨0, 0, 0, ⟨#[]⟩⟩
def Lt.cells (x : Lt) : List Value := [.int .i64 x.to, .int .i64 x.frm, .int .i64 x.kind, .string x.text]
def Lt.row (x : Lt) : Array Value := #[.int .i64 x.to, .int .i64 x.frm, .int .i64 x.kind, .string x.text]
theorem Lt.row_eq (x : Lt) : x.cells.toArray = x.row := rfl
/-- a box: a ring of letters -/
structure Bx where
  ring : Nat → Lt
  first : Nat
  many : Nat
  shut : Bool
def bx0 : Bx := ⟨fun _ => lt0, 0, 0, false⟩
def ltCell (x : Lt) (j : Nat) : Value := if j = 0 then .int .i64 x.to else if j = 1 then .int .i64 x.frm else if j = 2 then .int .i64 x.kind else .string x.text
def bxCell (b : Bx) (j : Nat) : Value := if j < 32 then ltCell (b.ring (j / 4)) (j % 4) else if j = 32 then .int .i64 (b.first : Nat) else if j = 33 then .int .i64 (b.many : Nat) else .bool b.shut
def boC (E : Nat → Bx) (n : Nat) : Array Value := rowG (n * 35) fun i => bxCell (E (i / 35)) (i % 35)
def upB (E : Nat → Bx) (k : Nat) (b : Bx) : Nat → Bx := fun i => if i = k then b else E i
def upL (f : Nat → Lt) (k : Nat) (x : Lt) : Nat → Lt := fun i => if i = k then x else f i
theorem boC_size (E : Nat → Bx) (n : Nat) : (boC E n).size = n * 35 := rowG_size _ _
theorem boC_get (E : Nat → Bx) {n k j : Nat} (hk : k < n) (hj : j < 35) : (boC E n)[k * 35 + j]? = some (bxCell (E k) j) := by
  unfold boC
  rw [rowG_get (by omega), show (k * 35 + j) / 35 = k by omega, show (k * 35 + j) % 35 = j by omega]
theorem boC_put {E : Nat → Bx} {n k j : Nat} {b : Bx} {v : Value} (hk : k < n) (hj : j < 35) (h : ∀ i, i < 35 → bxCell b i = if i = j then v else bxCell (E k) i) : (boC E n).setIfInBounds (k * 35 + j) v = boC (upB E k b) n := by
  unfold boC
  refine rowG_set v fun i hi => ?_
  unfold upB
  by_cases e : i / 35 = k
  · rw [if_pos e, h _ (Nat.mod_lt _ (by decide))]
    by_cases e2 : i % 35 = j
    · rw [if_pos e2, if_pos (by omega)]
    · rw [if_neg e2, if_neg (by omega), e]
  · rw [if_neg e, if_neg (by omega)]
theorem boC_first {E : Nat → Bx} {n k : Nat} (hk : k < n) (f : Nat) : (boC E n).setIfInBounds (k * 35 + 32) (.int .i64 (f : Nat)) = boC (upB E k { E k with first := f }) n := by
  refine boC_put hk (by decide) fun i hi => ?_
  unfold bxCell
  by_cases e : i = 32
  · subst e; rfl
  · rw [if_neg e, if_neg e, if_neg e]
theorem boC_many {E : Nat → Bx} {n k : Nat} (hk : k < n) (f : Nat) : (boC E n).setIfInBounds (k * 35 + 33) (.int .i64 (f : Nat)) = boC (upB E k { E k with many := f }) n := by
  refine boC_put hk (by decide) fun i hi => ?_
  unfold bxCell
  by_cases e : i = 33
  · subst e; rfl
  · rw [if_neg e, if_neg e, if_neg e]
theorem boC_shut {E : Nat → Bx} {n k : Nat} (hk : k < n) (s : Bool) : (boC E n).setIfInBounds (k * 35 + 34) (.bool s) = boC (upB E k { E k with shut := s }) n := by
  refine boC_put hk (by decide) fun i hi => ?_
  unfold bxCell
  by_cases e : i = 34
  · subst e; rfl
  · rw [if_neg e]
    by_cases e2 : i < 32
    · rw [if_pos e2, if_pos e2]
    · rw [if_neg e2, if_neg e2]
      by_cases e3 : i = 32
      · rw [if_pos e3, if_pos e3]
      · rw [if_neg e3, if_neg e3, if_pos (by omega), if_pos (by omega)]
theorem boC_ring {E : Nat → Bx} {n k r : Nat} (hk : k < n) (hr : r < 8) (x : Lt) : spl (boC E n) (k * 35 + r * 4) x.cells = boC (upB E k { E k with ring := upL (E k).ring r x }) n := by
  apply Array.ext_getElem?
  intro i
  have hl : x.cells.length = 4 := rfl
  rw [spl_get _ _ _ _ (by rw [boC_size, hl]; omega), hl]
  by_cases hi : i < n * 35
  · have hb : i / 35 < n := by omega
    have hj : i % 35 < 35 := Nat.mod_lt _ (by decide)
    have e1 := boC_get E hb hj
    have e2 := boC_get (upB E k { E k with ring := upL (E k).ring r x }) hb hj
    rw [show i / 35 * 35 + i % 35 = i by omega] at e1 e2
    rw [e1, e2]
    unfold upB
    by_cases h1 : i / 35 = k
    · rw [if_pos h1]
      unfold bxCell
      by_cases h2 : i % 35 < 32
      · rw [if_pos h2]
        rw [if_pos h2]
        show _ = some (ltCell (upL (E k).ring r x (i % 35 / 4)) (i % 35 % 4))
        unfold upL
        by_cases h3 : i % 35 / 4 = r
        · rw [if_pos h3, if_pos (by omega)]
          obtain ⟨d, hd⟩ : ∃ d, i - (k * 35 + r * 4) = d := ⟨_, rfl⟩
          have hd4 : d < 4 := by omega
          rw [hd, show i % 35 % 4 = d by omega]
          match d, hd4 with
          | 0, _ => rfl
          | 1, _ => rfl
          | 2, _ => rfl
          | 3, _ => rfl
        · rw [if_neg h3, if_neg (by omega), h1]
      · rw [if_neg (by omega), if_neg h2, if_neg h2, h1]
    · rw [if_neg h1, if_neg (by omega)]
  · rw [if_neg (by omega), Array.getElem?_eq_none (by rw [boC_size]; omega), Array.getElem?_eq_none (by rw [boC_size]; omega)]
section
variable {w : World} {B : Nat} {t : TypeId} {E : Nat → Bx} {n k : Nat}
theorem bo_first (h : M.RowAt w B t (boC E n)) (hk : k < n) : w.cell? ⟨B, k * 35 + 32, none⟩ = some (.int .i64 ((E k).first : Nat)) := by rw [h.cell, boC_get E hk (by decide)]; rfl
theorem bo_many (h : M.RowAt w B t (boC E n)) (hk : k < n) : w.cell? ⟨B, k * 35 + 33, none⟩ = some (.int .i64 ((E k).many : Nat)) := by rw [h.cell, boC_get E hk (by decide)]; rfl
theorem bo_shut (h : M.RowAt w B t (boC E n)) (hk : k < n) : w.cell? ⟨B, k * 35 + 34, none⟩ = some (.bool (E k).shut) := by rw [h.cell, boC_get E hk (by decide)]; rfl
theorem bo_ring (h : M.RowAt w B t (boC E n)) (hk : k < n) {r : Nat} (hr : r < 8) : w.rangeAt B (k * 35 + r * 4) ((E k).ring r).cells := fun j v hv => by
  have hj : j < 4 := by have := (List.getElem?_eq_some_iff.1 hv).1; exact this
  rw [h.cell, Nat.add_assoc, boC_get E hk (by omega), ← hv]
  unfold bxCell
  rw [if_pos (by omega), show (r * 4 + j) / 4 = r by omega, show (r * 4 + j) % 4 = j by omega]
  match j, hj with
  | 0, _ => rfl
  | 1, _ => rfl
  | 2, _ => rfl
  | 3, _ => rfl
theorem bo_there (h : M.RowAt w B t (boC E n)) (hk : k < n) {j : Nat} (hj : j < 35) : w.there B (k * 35 + j) 1 := fun i hi => by
  obtain rfl : i = 0 := by omega
  refine ⟨?_, h.frozen _⟩
  rw [h.cell, Nat.add_zero, boC_get E hk hj]; rfl
theorem bo_there4 (h : M.RowAt w B t (boC E n)) (hk : k < n) {r : Nat} (hr : r < 8) : w.there B (k * 35 + r * 4) 4 := fun i hi => by
  refine ⟨?_, h.frozen _⟩
  rw [h.cell, Nat.add_assoc, boC_get E hk (by omega)]; rfl
end

/-- what waits in a box, in order -/
def bl (b : Bx) : List Lt := (List.range b.many).map fun i => b.ring ((b.first + i) % 8)
theorem bl_len (b : Bx) : (bl b).length = b.many := by simp [bl]
structure BxOk (b : Bx) : Prop where
  first : b.first < 8
  many : b.many ≤ 8
def putB (b : Bx) (x : Lt) : Bx := { b with ring := upL b.ring ((b.first + b.many) % 8) x, many := b.many + 1 }
def takeB (b : Bx) : Bx := { b with ring := upL b.ring b.first lt0, first := (b.first + 1) % 8, many := b.many - 1 }
def shutB (b : Bx) : Bx := { b with shut := true }
theorem ok0 : BxOk bx0 := ⟨by decide, by decide⟩
theorem put_ok {b : Bx} (h : BxOk b) (hm : b.many ≠ 8) (x : Lt) : BxOk (putB b x) := ⟨h.first, by have := h.many; show b.many + 1 ≤ 8; omega⟩
theorem take_ok {b : Bx} (h : BxOk b) : BxOk (takeB b) := ⟨Nat.mod_lt _ (by decide), by have := h.many; show b.many - 1 ≤ 8; omega⟩
theorem put_bl {b : Bx} (h : BxOk b) (hm : b.many ≠ 8) (x : Lt) : bl (putB b x) = bl b ++ [x] := by
  have h1 := h.first; have h2 := h.many
  show (List.range (b.many + 1)).map (fun i => upL b.ring ((b.first + b.many) % 8) x ((b.first + i) % 8)) = _
  rw [List.range_succ, List.map_append]
  unfold bl
  congr 1
  · apply List.map_congr_left
    intro i hi
    have := List.mem_range.1 hi
    unfold upL
    rw [if_neg (by omega)]
  · show [upL _ _ x _] = [x]
    unfold upL; rw [if_pos rfl]
theorem take_bl {b : Bx} (h : BxOk b) (hm : b.many ≠ 0) : bl b = b.ring b.first :: bl (takeB b) := by
  have h1 := h.first; have h2 := h.many
  obtain ⟨m, hm'⟩ : ∃ m, b.many = m + 1 := ⟨b.many - 1, by omega⟩
  unfold bl
  rw [hm', List.range_succ_eq_map, List.map_cons, Nat.add_zero, Nat.mod_eq_of_lt h1]
  congr 1
  rw [List.map_map]
  have e : (takeB b).many = m := by show b.many - 1 = m; omega
  rw [e]
  apply List.map_congr_left
  intro i hi
  have := List.mem_range.1 hi
  show b.ring ((b.first + (i + 1)) % 8) = upL b.ring b.first lt0 (((b.first + 1) % 8 + i) % 8)
  unfold upL
  rw [if_neg (by omega), show ((b.first + 1) % 8 + i) % 8 = (b.first + (i + 1)) % 8 by omega]
end Go.Proofs.Ytblbhnlmbmffkaa
