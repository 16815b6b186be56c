/- A slice that came in, opened as a list of what its elements are (numbers, texts, structs with arrays); the conditions are the program's own table of types. -/
import Derived.Test.YtiilgkhndfnkgaaDoorRowKit
import Derived.Deep.Slices
import Derived.Deep.MidRow
namespace Go.Proofs.YtiilgkhndfnkgaaDoor.RowK
open Go.ChangeShapes Go.WideShapes Go.ChangeAt Go.RowKit Go.Deep
set_option linter.unusedVariables false

/-- the elements of a slice lie at an address, each as its cells -/
def SlAt {α : Type} (w : World) (size : Nat) (cells : α → List Value) (A : Option Addr) (l : List α) : Prop :=
  l = [] ∨ ∃ b off, A = some ⟨b, off, none⟩ ∧ b < w.heap.size ∧ ∀ i x, l[i]? = some x → w.rangeAt b (off + i * size) (cells x)

section
variable {H : Type} {enc : TypeId × Value → H} {P : Program} {w : World} {base : Nat} {sp : Nat → Bool} {held : Bool}

theorem list_of_fn {α : Type} (p : Nat → α → Prop) : ∀ n : Nat, (∀ i, i < n → ∃ x, p i x) → ∃ l : List α, l.length = n ∧ ∀ i x, l[i]? = some x → p i x := by
  intro n
  induction n with
  | zero => exact fun _ => ⟨[], rfl, by simp⟩
  | succ n ih =>
    intro h
    obtain ⟨l, h1, h2⟩ := ih (fun i hi => h i (by omega))
    obtain ⟨x, hx⟩ := h n (by omega)
    refine ⟨l ++ [x], by simp [h1], fun i y hy => ?_⟩
    rcases Nat.lt_or_ge i n with hlt | hge
    · rw [List.getElem?_append_left (by omega)] at hy; exact h2 i y hy
    · rw [List.getElem?_append_right (by omega)] at hy
      have h0 : i - l.length = 0 := by
        rcases Nat.eq_zero_or_pos (i - l.length) with h0 | h0
        · exact h0
        · rw [List.getElem?_eq_none (by simp; omega)] at hy; cases hy
      rw [h0] at hy
      simp at hy
      subst hy
      have : i = n := by omega
      subst this; exact hx

theorem sl_of_cells {α : Type} {cells : α → List Value} {ok : α → Prop} {t e : TypeId} {fuel : Nat} {A : Option Addr} {len cap size : Nat} {x : DataW H × List MemPlace} (ht : P.underlying t = some (.slice e)) (hsz : P.cellsOf e = size) (hpos : 0 < size)
    (hel : ∀ n cs y, cs.length = size → DataW.trod enc P w base sp held n e cs = some y → ∃ x, cs = cells x ∧ ok x)
    (h : DataW.trod enc P w base sp held fuel t [.slice A len cap] = some x) : ∃ l : List α, l.length = len ∧ len ≤ cap ∧ cap ≤ maxLen ∧ (∀ x ∈ l, ok x) ∧ SlAt w size cells A l := by
  rcases open_slice ht h with ⟨h0, _⟩ | ⟨a, len', cap', m, n, D, Pl, hcs, hb, hl, hm, hmm, hx, hi⟩
  · simp at h0
    obtain ⟨rfl, rfl, rfl⟩ := h0
    exact ⟨[], rfl, Nat.le_refl _, by simp, by simp, .inl rfl⟩
  · simp at hcs
    obtain ⟨rfl, rfl, rfl⟩ := hcs
    rw [hsz] at hi
    have hle : len ≤ m := by rw [hmm]; split <;> omega
    obtain ⟨l, hll, hlp⟩ := list_of_fn (fun i x => ok x ∧ ∃ cs', w.cells? base (a.add (i * size)) size = some cs' ∧ cs' = cells x) len (fun i hilt => by
      obtain ⟨cs', h1, h2⟩ := hi i (by omega)
      obtain ⟨_, h3, _⟩ := World.cells?_some h1
      obtain ⟨x, h4, h5⟩ := hel n cs' _ h3 h2
      exact ⟨x, h5, cs', h1, h4⟩)
    refine ⟨l, hll, hl, hm, fun x hx => ?_, ?_⟩
    · obtain ⟨i, hi', he⟩ := List.mem_iff_getElem.1 hx
      exact (hlp i x (by rw [← he]; exact List.getElem?_eq_getElem hi')).1
    · rcases l with _ | ⟨y, r⟩
      · exact .inl rfl
      · right
        obtain ⟨_, cs0, h1, _⟩ := hlp 0 y rfl
        obtain ⟨_, h3, h4⟩ := World.cells?_some h1
        have hc0 := h4 0 hpos
        have hsp : a.spot = none := by
          obtain ⟨b, off, spot⟩ := a
          have hc1 : cs0[0]? = some (cs0[0]'(by omega)) := List.getElem?_eq_getElem (by omega)
          rw [hc1] at hc0
          simpa [Addr.add] using World.cell?_spot hc0
        obtain ⟨b, off, spot⟩ := a
        subst hsp
        refine ⟨b, off, rfl, ?_, fun i x hx j v hv => ?_⟩
        · have hc1 : cs0[0]? = some (cs0[0]'(by omega)) := List.getElem?_eq_getElem (by omega)
          rw [hc1] at hc0
          have := World.block_lt_of_cell? w _ hc0
          simpa [Addr.add] using this
        · obtain ⟨_, cs', h1, h2⟩ := hlp i x hx
          obtain ⟨_, h3, h4⟩ := World.cells?_some h1
          have hj : j < size := by
            rw [← h2] at hv
            have := (List.getElem?_eq_some_iff.1 hv).1
            omega
          have h5 := h4 j hj
          rw [add_add, Addr.add_mid] at h5
          rw [show off + i * size + j = off + (i * size + j) by omega, h5, h2, hv]

/-- A slice that came in, as a list. -/
theorem sl_of_trod {α : Type} (cells : α → List Value) (ok : α → Prop) {r : Reach} {b0 : Nat} {t e : TypeId} {size : Nat} {v : Value} {d : DataW H} {p : List MemPlace} (ht : P.underlying t = some (.slice e)) (hsz : P.cellsOf e = size) (hpos : 0 < size)
    (hel : ∀ n cs y, cs.length = size → DataW.trod enc P w base sp held n e cs = some y → ∃ x, cs = cells x ∧ ok x)
    (hval : Value.okWide P w r b0 t v) (h : DataW.Trod enc P w base sp held t v d p) :
    ∃ (A : Option Addr) (cap : Nat) (l : List α), v = .slice A l.length cap ∧ l.length ≤ cap ∧ cap ≤ maxLen ∧ (∀ x ∈ l, ok x) ∧ SlAt w size cells A l := by
  obtain ⟨A, len, cap, rfl⟩ := okWide_slice ht hval
  obtain ⟨fuel, hf⟩ := h
  obtain ⟨l, h1, h2, h3, h4, h5⟩ := sl_of_cells (cells := cells) (ok := ok) ht hsz hpos hel (A := A) (len := len) (cap := cap) hf
  subst h1
  exact ⟨A, cap, l, rfl, h2, h3, h4, h5⟩

theorem field_of {e : TypeId} {fs : Array Field} {n : Nat} {cs : List Value} {y : DataW H × List MemPlace} (ht : P.underlying e = some (.struct fs)) (h : DataW.trod enc P w base sp held n e cs = some y) (j : Nat) {f : Field} (hj : fs[j]? = some f) :
    ∃ n' y', DataW.trod enc P w base sp held n' f.type ((cs.drop f.offset).take (P.cellsOf f.type)) = some y' := by
  obtain ⟨xs, n', _, _, _, hl, hf⟩ := DataW.trod_struct ht h
  have hjl : j < fs.size := (Array.getElem?_eq_some_iff.1 hj).1
  exact ⟨n', _, (hf j f hj).trans (List.getElem?_eq_getElem (by omega))⟩
theorem int_of {t : TypeId} {k : IntKind} {n : Nat} {cs : List Value} {y : DataW H × List MemPlace} (ht : P.underlying t = some (.int k)) (h : DataW.trod enc P w base sp held n t cs = some y) : ∃ z, cs = [.int k z] ∧ (Lit.int k z).wf = true := by
  obtain ⟨z, h1, _, h2⟩ := DataW.trod_int ht h
  exact ⟨z, h1, h2⟩
theorem str_of {t : TypeId} {n : Nat} {cs : List Value} {y : DataW H × List MemPlace} (ht : P.underlying t = some .string) (h : DataW.trod enc P w base sp held n t cs = some y) : ∃ s, cs = [.string s] ∧ s.size ≤ maxLen := by
  obtain ⟨s, h1, _, h2⟩ := DataW.trod_string ht h
  exact ⟨s, h1, h2⟩
theorem arr_of {t e : TypeId} {k : IntKind} {m n : Nat} {cs : List Value} {y : DataW H × List MemPlace} (ht : P.underlying t = some (.array n e)) (he : P.underlying e = some (.int k)) (hce : P.cellsOf e = 1) (hct : P.cellsOf t = n)
    (h : DataW.trod enc P w base sp held m t cs = some y) : ∃ zs : List Int, zs.length = n ∧ (∀ z ∈ zs, (Lit.int k z).wf = true) ∧ cs = zs.map (Value.int k) := by
  obtain ⟨xs, m', _, _, hcl, hxl, hall⟩ := DataW.trod_array ht h
  have hone : ∀ i, i < n → ∃ z, cs[i]? = some (.int k z) ∧ (Lit.int k z).wf = true := by
    intro i hi
    have h1 := hall i hi
    rw [hce, Nat.mul_one, List.getElem?_eq_getElem (by omega)] at h1
    obtain ⟨z, h2, _, h3⟩ := DataW.trod_int he h1
    refine ⟨z, ?_, h3⟩
    have := congrArg (·[0]?) h2
    simpa [List.getElem?_take, List.getElem?_drop] using this
  obtain ⟨zs, h1, h2⟩ := list_of_fn (fun i z => cs[i]? = some (.int k z) ∧ (Lit.int k z).wf = true) n hone
  refine ⟨zs, h1, fun z hz => ?_, ?_⟩
  · obtain ⟨i, hi, he⟩ := List.mem_iff_getElem.1 hz
    exact (h2 i z (by rw [← he]; exact List.getElem?_eq_getElem hi)).2
  · apply List.ext_getElem?
    intro i
    rcases Nat.lt_or_ge i n with hlt | hge
    · have hz : zs[i]? = some (zs[i]'(by omega)) := List.getElem?_eq_getElem (by omega)
      rw [(h2 i _ hz).1, List.getElem?_map, hz]; rfl
    · rw [List.getElem?_eq_none (by omega), List.getElem?_eq_none (by simp; omega)]
end

section
variable {α : Type} {w w' : World} {size : Nat} {cells : α → List Value} {A : Option Addr} {l : List α}
theorem SlAt.below {B : Nat} (h : SlAt w size cells A l) (hB : w.heap.size ≤ B) (hb : Below B w w') : SlAt w' size cells A l := by
  rcases h with h | ⟨b, off, h1, h2, h3⟩
  · exact .inl h
  · refine .inr ⟨b, off, h1, by have := hb.size; omega, fun i x hx j v hv => ?_⟩
    rw [hb.cell (show b < B by omega)]
    exact h3 i x hx j v hv
/-- at an index -/
theorem SlAt.at_ (h : SlAt w size cells A l) {i : Nat} (hi : i < l.length) : ∃ b off, A = some ⟨b, off, none⟩ ∧ b < w.heap.size ∧ ∀ i x, l[i]? = some x → w.rangeAt b (off + i * size) (cells x) := by
  rcases h with h | h
  · subst h; simp at hi
  · exact h
end

theorem wf_i32 {a : Int} (h : (Lit.int .i32 a).wf = true) : -2147483648 ≤ a ∧ a ≤ 2147483647 := by simpa [Lit.wf, IntKind.min, IntKind.max, IntKind.signed, IntKind.bits] using h
theorem wf_i16 {a : Int} (h : (Lit.int .i16 a).wf = true) : -32768 ≤ a ∧ a ≤ 32767 := by simpa [Lit.wf, IntKind.min, IntKind.max, IntKind.signed, IntKind.bits] using h
end Go.Proofs.YtiilgkhndfnkgaaDoor.RowK
