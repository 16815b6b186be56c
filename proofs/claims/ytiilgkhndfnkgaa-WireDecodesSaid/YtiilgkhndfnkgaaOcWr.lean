/- The walk of the law OctetWrites over the contracts: it returns true; the conditions are the ranges of the kinds. -/
import Derived.Test.YtiilgkhndfnkgaaOcCut
import Derived.Test.YtiilgkhndfnkgaaRowSl
import Derived.StillTailTactics
namespace Go.Proofs.Ytiilgkhndfnkgaa
open Go.RowKit
set_option linter.unusedVariables false

theorem rnum_any (n wd : Int) (w : World) (n0 : 0 ≤ n) (n1 : n ≤ 18446744073709551615) :
    Calls Try.prog 17 #[.int .u64 n, .int .i64 wd] w fun e w' => e = .returned (.tuple #[.string (strOfNums (numB n wd)), .int .i64 (numE n wd)]) ∧ Below w.heap.size w w' := by
  by_cases hb : wd < 1 ∨ 8 < wd
  · have hc : wd < 1 ∨ 8 < wd ∨ n / 2 ^ (8 * wd).toNat ≠ 0 := by omega
    have e1 : numE n wd = 1 := if_pos hc
    have e2 : numB n wd = [] := if_pos hc
    have e3 : strOfNums [] = ByteArray.empty := rfl
    rw [e1, e2, e3]
    clear hc e1 e2 e3
    rcases hb with h | h
    all_goals
      go_enter Try.func17, Try.ntmps17
      go_wp2
      go_ret2
      exact ⟨rfl, Below.refl _ _⟩
  · obtain ⟨k, hk⟩ : ∃ k : Nat, wd = k := ⟨wd.toNat, by omega⟩
    have hp : (2 : Int) ^ (8 * wd).toNat = 256 ^ wd.toNat := by rw [hk, pow8]; rfl
    refine rnum_core n wd w n0 n1 (by omega) (by omega) _ _ ⟨fun h => ?_, fun h => ?_⟩
    · have hc : ¬ (wd < 1 ∨ 8 < wd ∨ n / 2 ^ (8 * wd).toNat ≠ 0) := by rw [hp]; omega
      exact ⟨if_neg hc, by unfold numB; rw [if_neg hc]; congr 1; rw [hk]; exact top_low n k⟩
    · have hc : wd < 1 ∨ 8 < wd ∨ n / 2 ^ (8 * wd).toNat ≠ 0 := by rw [hp]; exact .inr (.inr h)
      exact ⟨if_pos hc, by unfold numB; rw [if_pos hc]; rfl⟩

/-- one thing to be written or read -/
structure Item where
  kind : Int
  width : Int
  n : Int
  h : List Int
  s : ByteArray
structure Item.ok (x : Item) : Prop where
  k0 : -9223372036854775808 ≤ x.kind
  k1 : x.kind ≤ 9223372036854775807
  w0 : -9223372036854775808 ≤ x.width
  w1 : x.width ≤ 9223372036854775807
  n0 : 0 ≤ x.n
  n1 : x.n ≤ 18446744073709551615
  hl : x.h.length = 32
  hb : ∀ z ∈ x.h, 0 ≤ z ∧ z ≤ 255
  sl : x.s.size ≤ maxLen
def Item.cells (x : Item) : List Value := .int .i64 x.kind :: .int .i64 x.width :: .int .u64 x.n :: (ints x.h ++ [.string x.s])

section
variable {H : Type} {enc : TypeId × Value → H} {w : World} {base : Nat} {sp : Nat → Bool} {held : Bool}
theorem item_of_trod (n : Nat) (cs : List Value) (y : DataW H × List MemPlace) (hl : cs.length = 36) (h : DataW.trod enc Try.prog w base sp held n 35 cs = some y) : ∃ x : Item, cs = x.cells ∧ x.ok := by
  obtain ⟨n0, y0, h0⟩ := RowK.field_of Try.underlying35 h 0 rfl
  obtain ⟨n1, y1, h1⟩ := RowK.field_of Try.underlying35 h 1 rfl
  obtain ⟨n2, y2, h2⟩ := RowK.field_of Try.underlying35 h 2 rfl
  obtain ⟨n3, y3, h3⟩ := RowK.field_of Try.underlying35 h 3 rfl
  obtain ⟨n4, y4, h4⟩ := RowK.field_of Try.underlying35 h 4 rfl
  have c3 : Try.prog.cellsOf 3 = 1 := by kernel_rfl
  have c22 : Try.prog.cellsOf 22 = 1 := by kernel_rfl
  have c33 : Try.prog.cellsOf 33 = 32 := by kernel_rfl
  have c9 : Try.prog.cellsOf 9 = 1 := by kernel_rfl
  have c5 : Try.prog.cellsOf 5 = 1 := by kernel_rfl
  obtain ⟨k, e0, g0⟩ := RowK.int_of Try.underlying3 h0
  obtain ⟨wd, e1, g1⟩ := RowK.int_of Try.underlying3 h1
  obtain ⟨nn, e2, g2⟩ := RowK.int_of Try.underlying22 h2
  obtain ⟨hh, e3, g3, f3⟩ := RowK.arr_of Try.underlying33 Try.underlying5 c5 c33 h3
  obtain ⟨s, e4, g4⟩ := RowK.str_of Try.underlying9 h4
  have e0 : (cs.drop 0).take (Try.prog.cellsOf 3) = _ := e0
  have e1 : (cs.drop 1).take (Try.prog.cellsOf 3) = _ := e1
  have e2 : (cs.drop 2).take (Try.prog.cellsOf 22) = _ := e2
  have f3 : (cs.drop 3).take (Try.prog.cellsOf 33) = _ := f3
  have e4 : (cs.drop 35).take (Try.prog.cellsOf 9) = _ := e4
  rw [c3] at e0 e1
  rw [c22] at e2
  rw [c33] at f3
  rw [c9] at e4
  refine ⟨⟨k, wd, nn, hh, s⟩, ?_, ⟨(RowK.wf_i64 g0).1, (RowK.wf_i64 g0).2, (RowK.wf_i64 g1).1, (RowK.wf_i64 g1).2, (RowK.wf_u64 g2).1, (RowK.wf_u64 g2).2, e3, fun z hz => RowK.wf_u8 (g3 z hz), g4⟩⟩
  have d1 : cs = cs.take 1 ++ ((cs.drop 1).take 1 ++ ((cs.drop 2).take 1 ++ ((cs.drop 3).take 32 ++ (cs.drop 35).take 1))) := by
    have t1 : cs.drop 35 = (cs.drop 35).take 1 := by rw [List.take_of_length_le]; simp; omega
    have t2 : (cs.drop 3).take 32 ++ (cs.drop 35).take 1 = cs.drop 3 := by rw [← t1, show 35 = 3 + 32 from rfl, ← List.drop_drop, List.take_append_drop]
    rw [t2]
    have t3 : (cs.drop 2).take 1 ++ cs.drop 3 = cs.drop 2 := by rw [show 3 = 2 + 1 from rfl, ← List.drop_drop, List.take_append_drop]
    rw [t3]
    have t4 : (cs.drop 1).take 1 ++ cs.drop 2 = cs.drop 1 := by rw [show 2 = 1 + 1 from rfl, ← List.drop_drop, List.take_append_drop]
    rw [t4, List.take_append_drop]
  rw [d1]
  simp only [Item.cells, ints]
  rw [show cs.take 1 = [.int .i64 k] from e0, show (cs.drop 1).take 1 = [.int .i64 wd] from e1, show (cs.drop 2).take 1 = [.int .u64 nn] from e2, show (cs.drop 3).take 32 = _ from f3, show (cs.drop 35).take 1 = [.string s] from e4]
  rfl
end
end Go.Proofs.Ytiilgkhndfnkgaa
