/- An array of integers that came in, opened: what it reads as; the conditions are the program's own table of types. -/
import Derived.Test.YtpfcalamchdciaaDoorRowKit
namespace Go.Proofs.YtpfcalamchdciaaDoor.RowK
open Go.ChangeShapes Go.WideShapes Go.ChangeAt Go.RowKit

theorem arr_of_trod {H : Type} {enc : TypeId × Value → H} {P : Program} {w : World} {base : Nat} {sp : Nat → Bool} {held : Bool} {r : Reach} {b0 : Nat} {t e : TypeId} {k : IntKind} {n : Nat} {v : Value} {d : DataW H} {p : List MemPlace}
    (ht : P.underlying t = some (.array n e)) (he : P.underlying e = some (.int k)) (hce : P.cellsOf e = 1) (hct : P.cellsOf t = n)
    (hval : Value.okWide P w r b0 t v) (h : DataW.Trod enc P w base sp held t v d p) :
    ∃ zs : List Int, zs.length = n ∧ (∀ z ∈ zs, (Lit.int k z).wf = true) ∧ v = .agg (zs.map (Value.int k)).toArray := by
  have hv : ∃ cs : Array Value, v = .agg cs ∧ cs.size = n := by
    simp only [Value.okWide, ht] at hval
    obtain ⟨cs, h1, h2, _⟩ := hval
    exact ⟨cs, h1, by rw [h2, hct]⟩
  obtain ⟨cs, rfl, hs⟩ := hv
  obtain ⟨fuel, hf⟩ := h
  obtain ⟨xs, m, _, _, _, hxl, hall⟩ := DataW.trod_array ht hf
  have hone : ∀ i, i < n → ∃ z, cs.toList[i]? = some (.int k z) ∧ (Lit.int k z).wf = true := by
    intro i hi
    have hc : (Value.agg cs).cells = cs := rfl
    have h1 := hall i hi
    rw [hc, hce, Nat.mul_one, List.getElem?_eq_getElem (by omega)] at h1
    obtain ⟨z, h2, _, h3⟩ := DataW.trod_int he h1
    refine ⟨z, ?_, h3⟩
    have := congrArg (·[0]?) h2
    simpa [List.getElem?_take, List.getElem?_drop] using this
  have key : ∀ l : List Value, (∀ i, i < l.length → ∃ z, l[i]? = some (.int k z) ∧ (Lit.int k z).wf = true) → ∃ zs : List Int, zs.length = l.length ∧ (∀ z ∈ zs, (Lit.int k z).wf = true) ∧ l = zs.map (Value.int k) := by
    intro l
    induction l with
    | nil => exact fun _ => ⟨[], rfl, by simp, rfl⟩
    | cons x r ih =>
      intro hl
      obtain ⟨zs, h1, h2, h3⟩ := ih (fun i hi => by simpa using hl (i + 1) (by simpa using hi))
      obtain ⟨z, h4, h5⟩ := hl 0 (by simp)
      simp at h4
      exact ⟨z :: zs, by simp [h1], by intro y hy; rcases List.mem_cons.1 hy with e | e; exact e ▸ h5; exact h2 y e, by rw [h4, h3]; rfl⟩
  obtain ⟨zs, h1, h2, h3⟩ := key cs.toList (fun i hi => hone i (by rw [← hs]; simpa using hi))
  exact ⟨zs, by rw [h1]; simpa using hs, h2, by rw [← h3]⟩
end Go.Proofs.YtpfcalamchdciaaDoor.RowK
