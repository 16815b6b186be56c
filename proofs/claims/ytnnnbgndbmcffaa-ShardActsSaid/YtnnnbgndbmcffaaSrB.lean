/- Is a number among some: slices.Index, slices.Contains; the condition is that the block is known. -/
import Derived.Test.YtnnnbgndbmcffaaSrA
namespace Go.Proofs.Ytnnnbgndbmcffaa
open Go.RowKit
set_option linter.unusedVariables false

def i64s (l : List Int) : Array Value := (l.map (Value.int .i64)).toArray
theorem i64s_get {l : List Int} {k : Nat} (h : k < l.length) : (i64s l)[k]? = some (.int .i64 (l[k]'h)) := by
  simp [i64s, h]
set_option maxRecDepth 100000 in
theorem index_any (g cap : Nat) (t : TypeId) (l : List Int) (c : Int) (hl : l.length ≤ 100) (w : World) (r : M.RowAt w g t (i64s l)) :
    Calls Try.prog 85 #[.slice (some ⟨g, 0, none⟩) l.length cap, .int .i64 c] w fun e w' => (∃ v, e = .returned (.int .i64 v) ∧ (0 ≤ v ↔ c ∈ l)) ∧ w = w' := by
  have AT := Lib.hid (fun k (h : k < l.length) => (r.cell k).trans (i64s_get h))
  have HL := Lib.hid hl
  clear hl r
  go_enter Try.func85, Try.ntmps85
  go_wp2
  go_loopg [8] l.length (fun q i v => ∃ k : Nat, q + k = l.length ∧ i = .int .i64 k ∧ c ∉ l.take k ∧ v = w)
  case atStart => exact ⟨0, by omega, rfl, by simp, rfl⟩
  case round =>
    obtain ⟨k, hk, rfl, hc, rfl⟩ := hrel
    have HK := Lib.hid hk
    have HC := Lib.hid hc
    clear hk hc
    by_cases hlt : k < l.length
    · have cl := AT.out k hlt
      have i1 : ((k : Nat) : Int) < (l.length : Nat) := by omega
      have i2 : (0 : Int) ≤ (k : Nat) := by omega
      have w9 : IntKind.i64.wrap ((k : Int) + 1) = (k : Int) + 1 := IntWalk.i64_in _ (by have := HL.out; omega)
      obtain ⟨x, hx⟩ : ∃ x, l[k]'hlt = x := ⟨_, rfl⟩
      rw [hx] at cl
      have HX := Lib.hid hx
      clear hx
      by_cases he : c = x
      · subst he
        go_wp2
        go_ret
        exact ⟨⟨k, rfl, Iff.intro (fun _ => by rw [← HX.out]; exact List.getElem_mem _) (fun _ => by omega)⟩, rfl⟩
      · go_wp2
        go_roundg (l.length - (k + 1))
        case measure => have := HK.out; omega
        case rel =>
          refine ⟨k + 1, by have := HK.out; omega, by go_num, ?_, rfl⟩
          rw [List.take_add_one, List.getElem?_eq_getElem hlt, HX.out]
          simp only [Option.toList, List.mem_append, List.mem_singleton, not_or]
          exact ⟨HC.out, he⟩
    · obtain rfl : k = l.length := by have := HK.out; omega
      clear hlt
      go_wp2
      go_ret
      refine ⟨⟨-1, rfl, Iff.intro (fun h => absurd h (by decide)) (fun h => ?_)⟩, rfl⟩
      have := HC.out
      rw [List.take_length] at this
      exact absurd h this
theorem contains_any (g cap : Nat) (t : TypeId) (l : List Int) (c : Int) (b : Bool) (hb : b = true ↔ c ∈ l) (hl : l.length ≤ 100) (w : World) (r : M.RowAt w g t (i64s l)) :
    Calls Try.prog 80 #[.slice (some ⟨g, 0, none⟩) l.length cap, .int .i64 c] w fun e w' => e = .returned (.bool b) ∧ w = w' := by
  have IX := Lib.hid (index_any g cap t l c hl w r)
  have HB := Lib.hid hb
  clear hl r hb
  go_enter Try.func80, Try.ntmps80
  go_wp2_with fail
  refine (IX.out).mono ?_
  rintro e w1 ⟨⟨v, rfl, hv⟩, rfl⟩
  by_cases h : 0 ≤ v
  · have e1 : b = true := HB.out.2 (hv.1 h)
    subst e1
    clear hv
    go_wp2
    go_ret
    exact ⟨rfl, rfl⟩
  · have e1 : b = false := by
      cases b
      · rfl
      · exact absurd (hv.2 (HB.out.1 rfl)) h
    subst e1
    have h1 : v < 0 := by omega
    have h2 : decide (0 ≤ v) = false := decide_eq_false h
    clear hv
    go_wp2
    go_ret
    exact ⟨rfl, rfl⟩
end Go.Proofs.Ytnnnbgndbmcffaa
