/- Plain words of layer 7: a message, its cells, its fields; how it lies in memory; no conditions. -/
import Derived.Test.YtiilgkhndfnkgaaOcXh
import Derived.Test.YtiilgkhndfnkgaaTools
import Derived.Test.YtiilgkhndfnkgaaKB
import Derived.Shelf.Abstract
namespace Go.Proofs.Ytiilgkhndfnkgaa
open Go.RowKit
set_option linter.unusedVariables false

/-- a message -/
structure Msg where
  kind : Int
  chan : Int
  id : Int
  amount : Int
  hash : List Int
  expiry : Int
  number : Int
def Msg.cells (m : Msg) : List Value := .int .i64 m.kind :: .int .u32 m.chan :: .int .u64 m.id :: .int .u64 m.amount :: (ints m.hash ++ [.int .i64 m.expiry, .int .i64 m.number])
def Msg.row (m : Msg) : Array Value := m.cells.toArray
/-- whatever a message's fields may hold by their types -/
structure Msg.ok (m : Msg) : Prop where
  h32 : m.hash.length = 32
  hb : ∀ x ∈ m.hash, 0 ≤ x ∧ x ≤ 255
  k0 : -9223372036854775808 ≤ m.kind
  k1 : m.kind ≤ 9223372036854775807
  c0 : 0 ≤ m.chan
  c1 : m.chan ≤ 4294967295
  i0 : 0 ≤ m.id
  i1 : m.id ≤ 18446744073709551615
  a0 : 0 ≤ m.amount
  a1 : m.amount ≤ 18446744073709551615
  e0 : -9223372036854775808 ≤ m.expiry
  e1 : m.expiry ≤ 9223372036854775807
  n0 : -9223372036854775808 ≤ m.number
  n1 : m.number ≤ 9223372036854775807
def z32 : List Int := List.replicate 32 0
def Msg.none (k : Int) : Msg := ⟨k, 0, 0, 0, z32, 0, 0⟩
theorem ints_len' (l : List Int) : (ints l).length = l.length := by simp [ints]
section
variable {m : Msg}
theorem Msg.len (h : m.hash.length = 32) : m.cells.length = 38 := by simp [Msg.cells, ints_len', h]
theorem Msg.size (h : m.hash.length = 32) : m.row.size = 38 := by rw [Msg.row, List.size_toArray, Msg.len h]
theorem Msg.g0 : m.row[0]? = some (.int .i64 m.kind) := by simp [Msg.row, Msg.cells]
theorem Msg.g1 : m.row[1]? = some (.int .u32 m.chan) := by simp [Msg.row, Msg.cells]
theorem Msg.g2 : m.row[2]? = some (.int .u64 m.id) := by simp [Msg.row, Msg.cells]
theorem Msg.g3 : m.row[3]? = some (.int .u64 m.amount) := by simp [Msg.row, Msg.cells]
theorem Msg.gh (h : m.hash.length = 32) {j : Nat} (hj : j < 32) : m.row[4 + j]? = (ints m.hash)[j]? := by
  rw [Msg.row, List.getElem?_toArray, Msg.cells, show 4 + j = j + 1 + 1 + 1 + 1 by omega]
  simp only [List.getElem?_cons_succ]
  rw [List.getElem?_append_left (by rw [ints_len', h]; exact hj)]
theorem Msg.g36 (h : m.hash.length = 32) : m.row[36]? = some (.int .i64 m.expiry) := by
  rw [Msg.row, List.getElem?_toArray, Msg.cells]
  simp only [List.getElem?_cons_succ]
  rw [List.getElem?_append_right (by rw [ints_len', h]; decide), ints_len', h]; rfl
theorem Msg.g37 (h : m.hash.length = 32) : m.row[37]? = some (.int .i64 m.number) := by
  rw [Msg.row, List.getElem?_toArray, Msg.cells]
  simp only [List.getElem?_cons_succ]
  rw [List.getElem?_append_right (by rw [ints_len', h]; decide), ints_len', h]; rfl
theorem Msg.s1 (v : Int) : m.row.setIfInBounds 1 (.int .u32 v) = { m with chan := v }.row := by simp [Msg.row, Msg.cells]
theorem Msg.s2 (v : Int) : m.row.setIfInBounds 2 (.int .u64 v) = { m with id := v }.row := by simp [Msg.row, Msg.cells]
theorem Msg.s3 (v : Int) : m.row.setIfInBounds 3 (.int .u64 v) = { m with amount := v }.row := by simp [Msg.row, Msg.cells]
theorem Msg.s0 (v : Int) : m.row.setIfInBounds 0 (.int .i64 v) = { m with kind := v }.row := by simp [Msg.row, Msg.cells]
theorem Msg.s36 (h : m.hash.length = 32) (v : Int) : m.row.setIfInBounds 36 (.int .i64 v) = { m with expiry := v }.row := by
  have hl : (ints m.hash).length = 32 := by rw [ints_len', h]
  simp only [Msg.row, Msg.cells, List.setIfInBounds_toArray, List.set_cons_succ]
  rw [List.set_append_right _ _ (by rw [hl]; decide), hl]; rfl
theorem Msg.s37 (h : m.hash.length = 32) (v : Int) : m.row.setIfInBounds 37 (.int .i64 v) = { m with number := v }.row := by
  have hl : (ints m.hash).length = 32 := by rw [ints_len', h]
  simp only [Msg.row, Msg.cells, List.setIfInBounds_toArray, List.set_cons_succ]
  rw [List.set_append_right _ _ (by rw [hl]; decide), hl]; rfl
theorem Msg.sh (h : m.hash.length = 32) {l : List Int} (hl : l.length = 32) : spl m.row 4 (ints l) = { m with hash := l }.row := by
  apply Array.ext_getElem?
  intro i
  rw [spl_get _ _ _ _ (by rw [ints_len', hl, Msg.size h]; decide), ints_len', hl]
  by_cases hi : 4 ≤ i ∧ i < 4 + 32
  · rw [if_pos hi]
    obtain ⟨j, rfl⟩ : ∃ j, i = 4 + j := ⟨i - 4, by omega⟩
    rw [Msg.gh (m := { m with hash := l }) hl (by omega), show 4 + j - 4 = j by omega]
  · rw [if_neg hi]
    by_cases h4 : i < 4
    · match i, h4 with
      | 0, _ => rw [Msg.g0, Msg.g0]
      | 1, _ => rw [Msg.g1, Msg.g1]
      | 2, _ => rw [Msg.g2, Msg.g2]
      | 3, _ => rw [Msg.g3, Msg.g3]
    · by_cases h36 : i = 36
      · subst h36; rw [Msg.g36 h, Msg.g36 (m := { m with hash := l }) hl]
      · by_cases h37 : i = 37
        · subst h37; rw [Msg.g37 h, Msg.g37 (m := { m with hash := l }) hl]
        · rw [Array.getElem?_eq_none (by rw [Msg.size h]; omega), Array.getElem?_eq_none (by rw [Msg.size (m := { m with hash := l }) hl]; omega)]
theorem Msg.one : m.row.all (·.oneCell') = true := by
  refine Array.all_eq_true_iff_forall_mem.2 fun v hv => ?_
  simp only [Msg.row, Msg.cells, List.mem_toArray, List.mem_cons, List.mem_append, ints, List.mem_map, List.not_mem_nil, or_false] at hv
  rcases hv with rfl | rfl | rfl | rfl | ⟨_, _, rfl⟩ | rfl | rfl <;> rfl
theorem Msg.info (h : m.hash.length = 32) : (Try.prog.info? 62).map (·.size) = some m.row.size := by rw [Msg.size h]; kernel_rfl
theorem Msg.rinfo (h : m.hash.length = 32) : (Try.prog.info? 65).map (·.size) = some m.row.size := by rw [Msg.size h]; kernel_rfl
theorem Msg.range {w : World} {b : Nat} {t : TypeId} (hr : M.RowAt w b t m.row) (h : m.hash.length = 32) : w.rangeAt b 4 (ints m.hash) := fun j v hv => by
  have hj : j < 32 := by have := (List.getElem?_eq_some_iff.1 hv).1; rwa [ints_len', h] at this
  rw [hr.cell, Msg.gh h hj]; exact hv
theorem Msg.there {w : World} {b : Nat} {t : TypeId} (hr : M.RowAt w b t m.row) (h : m.hash.length = 32) : w.there b 4 32 := fun i hi => by
  have : w.cell? ⟨b, 4 + i, Option.none⟩ = some (.int .u8 (m.hash[i]'(by omega))) := by
    rw [hr.cell, Msg.gh h hi]; simp [ints, List.getElem?_eq_getElem (show i < m.hash.length by omega)]
  exact ⟨by rw [this]; rfl, hr.frozen _⟩
end

/-- the fields -/
inductive Fld where
  | chan | id | amount | hash | expiry | number
/-- the fields of a kind, the channel the first one -/
def fieldsOf (k : Int) : Option (List Fld) :=
  if k = 1 then some [.chan, .amount] else if k = 2 then some [.chan] else if k = 8 then some [.chan] else if k = 3 then some [.chan, .id, .amount, .hash, .expiry]
  else if k = 4 then some [.chan, .id, .hash] else if k = 5 then some [.chan, .id, .number] else if k = 6 then some [.chan, .number, .hash] else if k = 7 then some [.chan, .number, .hash]
  else if k = 9 then some [.chan, .number, .id] else none
def Msg.zero (m : Msg) : Fld → Msg
  | .chan => { m with chan := 0 }
  | .id => { m with id := 0 }
  | .amount => { m with amount := 0 }
  | .hash => { m with hash := z32 }
  | .expiry => { m with expiry := 0 }
  | .number => { m with number := 0 }
theorem Msg.zero32 {m : Msg} (h : m.hash.length = 32) (f : Fld) : (m.zero f).hash.length = 32 := by
  cases f <;> first | exact h | rfl
/-- the value of a field's function, with what it holds on to -/
def FV (lo : Nat) (W : World) : Fld → Value → Prop
  | .hash, v => v = .func (.func 64) #[] #[]
  | .chan, v => ∃ a b, v = .func (.func 70) #[] #[.pointer (some ⟨a, 0, Option.none⟩), .pointer (some ⟨b, 0, Option.none⟩)] ∧ lo ≤ a ∧ lo ≤ b ∧ M.RowAt W a 108 #[.func (.func 69) #[] #[]] ∧ M.RowAt W b 3 #[.int .i64 4]
  | .id, v => ∃ a b, v = .func (.func 66) #[] #[.pointer (some ⟨a, 0, Option.none⟩), .pointer (some ⟨b, 0, Option.none⟩)] ∧ lo ≤ a ∧ lo ≤ b ∧ M.RowAt W a 97 #[.func (.func 58) #[] #[]] ∧ M.RowAt W b 3 #[.int .i64 8]
  | .amount, v => ∃ a b, v = .func (.func 66) #[] #[.pointer (some ⟨a, 0, Option.none⟩), .pointer (some ⟨b, 0, Option.none⟩)] ∧ lo ≤ a ∧ lo ≤ b ∧ M.RowAt W a 97 #[.func (.func 59) #[] #[]] ∧ M.RowAt W b 3 #[.int .i64 8]
  | .expiry, v => ∃ a b, v = .func (.func 67) #[] #[.pointer (some ⟨a, 0, Option.none⟩), .pointer (some ⟨b, 0, Option.none⟩)] ∧ lo ≤ a ∧ lo ≤ b ∧ M.RowAt W a 100 #[.func (.func 61) #[] #[]] ∧ M.RowAt W b 3 #[.int .i64 4]
  | .number, v => ∃ a b, v = .func (.func 67) #[] #[.pointer (some ⟨a, 0, Option.none⟩), .pointer (some ⟨b, 0, Option.none⟩)] ∧ lo ≤ a ∧ lo ≤ b ∧ M.RowAt W a 100 #[.func (.func 62) #[] #[]] ∧ M.RowAt W b 3 #[.int .i64 2]
/-- the types of what functions and steps hold on to -/
def okT (t : Nat) : Bool := [3, 94, 97, 100, 108, 88, 26, 102].contains t
/-- what keeps the blocks of such types from lo on, of those that are there -/
def Kp (lo : Nat) (w w' : World) : Prop := ∀ g t C, okT t = true → lo ≤ g → M.RowAt w g t C → M.RowAt w' g t C
theorem Kp.refl (lo : Nat) (w : World) : Kp lo w w := fun _ _ _ _ _ h => h
theorem Kp.trans {lo : Nat} {w w' w'' : World} (h : Kp lo w w') (h' : Kp lo w' w'') : Kp lo w w'' := fun g t C ht hg hr => h' g t C ht hg (h g t C ht hg hr)
theorem Kp.of_but {lo b : Nat} {w w' : World} (h : M.But b w w') (hb : b < lo) : Kp lo w w' := fun g t C _ hg hr => h.row hr (by omega)
theorem Kp.of_butT {lo b : Nat} {w w' : World} {tb : TypeId} {D : Array Value} (h : M.But b w w') (hb : M.RowAt w b tb D) (ht : okT tb = false) : Kp lo w w' := fun g t C hT _ hr => h.row hr (fun e => by
  subst e
  have e2 := Option.some.inj (Eq.trans (Eq.symm hr) hb)
  have e3 : t = tb := by injection e2
  rw [e3, ht] at hT; cases hT)
theorem Kp.of_below {lo : Nat} {w w' : World} (h : Below w.heap.size w w') : Kp lo w w' := fun g t C _ hg hr => hr.call h
theorem FV.kept {lo : Nat} {W W' : World} {f : Fld} {v : Value} (h : FV lo W f v) (hk : Kp lo W W') : FV lo W' f v := by
  cases f
  all_goals first
    | exact h
    | (obtain ⟨a, b, h1, h2, h3, h4, h5⟩ := h; exact ⟨a, b, h1, h2, h3, hk _ _ _ rfl h2 h4, hk _ _ _ rfl h3 h5⟩)
/-- a list of fields -/
def FL (lo : Nat) (W : World) (v : Value) (l : List Fld) : Prop :=
  ∃ (g cap : Nat) (C : Array Value), v = .slice (some ⟨g, 0, Option.none⟩) l.length cap ∧ lo ≤ g ∧ M.RowAt W g 94 C ∧ ∀ (i : Nat) (f : Fld), l[i]? = some f → ∃ u, C[i]? = some u ∧ FV lo W f u
theorem FL.kept {lo : Nat} {W W' : World} {v : Value} {l : List Fld} (h : FL lo W v l) (hk : Kp lo W W') : FL lo W' v l := by
  obtain ⟨g, cap, C, h1, h2, h3, h4⟩ := h
  exact ⟨g, cap, C, h1, h2, hk _ _ _ rfl h2 h3, fun i f hf => by obtain ⟨u, hu, hv⟩ := h4 i f hf; exact ⟨u, hu, hv.kept hk⟩⟩
theorem FV.mono {lo lo' : Nat} {W : World} {f : Fld} {v : Value} (h : FV lo W f v) (hl : lo' ≤ lo) : FV lo' W f v := by
  cases f
  all_goals first
    | exact h
    | (obtain ⟨a, b, h1, h2, h3, h4, h5⟩ := h; exact ⟨a, b, h1, by omega, by omega, h4, h5⟩)
theorem FL.mono {lo lo' : Nat} {W : World} {v : Value} {l : List Fld} (h : FL lo W v l) (hl : lo' ≤ lo) : FL lo' W v l := by
  obtain ⟨g, cap, C, h1, h2, h3, h4⟩ := h
  exact ⟨g, cap, C, h1, by omega, h3, fun i f hf => by obtain ⟨u, hu, hv⟩ := h4 i f hf; exact ⟨u, hu, hv.mono hl⟩⟩
end Go.Proofs.Ytiilgkhndfnkgaa
