/- append to a row of the call's own, with what is known of the block of the result: the old one, or one that is new; no conditions of its own. -/
import Derived.Test.YtiilgkhndfnkgaaDoorMem
import Derived.ArgAppend
import Derived.OwnWalk
import Derived.Deep.AppendLies
import Derived.Deep.Onto
namespace Go.Proofs.YtiilgkhndfnkgaaDoor
open Go.RowKit
set_option linter.unusedVariables false

theorem wpList_append_sep {P : Program} (w : World) {ops : Array Oper} {rest : List Oper} {o : Oper} {a : Act} {Q : Exit → Act → World → Prop}
    (hg : o.guard = none) (s x : Operand) (t : TypeId) (hop : o.op = Op.call { callee := Callee.builtin Builtin.append, args := #[s, x], argTypes := #[t, t] })
    (base : Nat) (e : TypeId) (i : TypeInfo) (z : Value) (size bytes : Nat) (h1 : P.underlying t = some (.slice e)) (h2 : P.info? e = some i) (h3 : i.zero = some z) (h4 : i.size = size) (h5 : i.bytes = bytes) (h6 : z.cells.size = size) (h7 : 0 < size)
    (g k cap : Nat) (xs : List Value) (hs : a.eval s = .slice (some ⟨g, 0, none⟩) k cap) (hown : w.ownsRow base e size (.slice (some ⟨g, 0, none⟩) k cap) k xs)
    (ad : Addr) (m c : Nat) (news : List Value) (hx : a.eval x = .slice (some ad) m c) (hn : news.length = m * size) (hc : ∀ j u, news[j]? = some u → w.cell? (ad.add j) = some u) (h1c : ∀ u ∈ news, u.oneCell' = true)
    (b0 : 0 < k + m) (b1 : k + m ≤ maxLen) (b2 : (k + m) * bytes ≤ 140737488355328) (hbase : base ≤ w.heap.size)
    (hK : ∀ g' cap' w', w'.ownsRow base e size (.slice (some ⟨g', 0, none⟩) (k + m) cap') (k + m) (xs ++ news) → w.grownBy w' (some g) → (g' = g ∨ w.heap.size ≤ g') → wpList P ops Q rest (a.put o.dst (.slice (some ⟨g', 0, none⟩) (k + m) cap')) w') :
    wpList P ops Q (o :: rest) a w := by
  by_cases hr : k + m ≤ cap
  · exact wpList_append_fits w hg s x t hop base e i size h1 h2 h4 g k cap xs hs hown ad m c news hx hn hc h1c hr (fun w' q1 q2 => hK _ _ _ q1 q2 (.inl rfl))
  · refine wpList_append_grows w hg s x t hop e i z size bytes h1 h2 h3 h4 h5 h6 h7 (some ⟨g, 0, none⟩) k cap xs hs (by simp) hown.1 (fun b hb j u hu => by cases hb; exact hown.cells rfl j u hu) ad m c news hx hn hc h1c (by omega) b1 b2 (fun v' w' q1 q2 => ?_)
    obtain ⟨g', cap', rfl, q3, q4⟩ := q1.form b0
    exact hK g' cap' w' (q1.mono hbase) ⟨q2.os, q2.tape, q2.output, q2.size, fun j hj _ => q2.block j hj (by simp)⟩ (.inr q3)
/-- .. of a row that may be nil too -/
theorem wpList_append_sep2 {P : Program} (w : World) {ops : Array Oper} {rest : List Oper} {o : Oper} {a : Act} {Q : Exit → Act → World → Prop}
    (hg : o.guard = none) (s x : Operand) (t : TypeId) (hop : o.op = Op.call { callee := Callee.builtin Builtin.append, args := #[s, x], argTypes := #[t, t] })
    (base : Nat) (e : TypeId) (i : TypeInfo) (z : Value) (size bytes : Nat) (h1 : P.underlying t = some (.slice e)) (h2 : P.info? e = some i) (h3 : i.zero = some z) (h4 : i.size = size) (h5 : i.bytes = bytes) (h6 : z.cells.size = size) (h7 : 0 < size)
    (v : Value) (n : Nat) (xs : List Value) (hs : a.eval s = v) (hown : w.ownsRow base e size v n xs)
    (ad : Addr) (m c : Nat) (news : List Value) (hx : a.eval x = .slice (some ad) m c) (hn : news.length = m * size) (hc : ∀ j u, news[j]? = some u → w.cell? (ad.add j) = some u) (h1c : ∀ u ∈ news, u.oneCell' = true)
    (b0 : 0 < m) (b1 : n + m ≤ maxLen) (b2 : (n + m) * bytes ≤ 140737488355328) (hbase : base ≤ w.heap.size)
    (hK : ∀ v' w', w'.ownsRow base e size v' (n + m) (xs ++ news) → w.grownBy w' v.ownBlock → (v'.ownBlock = v.ownBlock ∨ ∀ g, v'.ownBlock = some g → w.heap.size ≤ g) → wpList P ops Q rest (a.put o.dst v') w') :
    wpList P ops Q (o :: rest) a w := by
  rcases hown.2 with ⟨rfl, rfl⟩ | ⟨g, cap, cur, rfl, _⟩
  · have hx0 : xs = [] := List.length_eq_zero_iff.1 (by have := hown.1; omega)
    subst hx0
    refine wpList_append_grows w hg s x t hop e i z size bytes h1 h2 h3 h4 h5 h6 h7 none 0 0 [] hs (fun _ => ⟨rfl, rfl⟩) (by simp) (fun b hb => by cases hb) ad m c news hx hn hc h1c (by omega) b1 b2 (fun v' w' q1 q2 => ?_)
    exact hK v' w' (q1.mono hbase) q2 (.inr fun g hg => (q1.lt g hg).1)
  · exact wpList_append_sep w hg s x t hop base e i z size bytes h1 h2 h3 h4 h5 h6 h7 g n cap xs hs hown ad m c news hx hn hc h1c (by omega) b1 b2 hbase fun g' cap' w' q1 q2 q3 => hK _ _ q1 q2 (by
      rcases q3 with rfl | q3
      · exact .inl rfl
      · exact .inr fun b hb => by cases hb; exact q3)
/-- .. of a row that is not nil, of any many elements -/
theorem wpList_append_sep3 {P : Program} (w : World) {ops : Array Oper} {rest : List Oper} {o : Oper} {a : Act} {Q : Exit → Act → World → Prop}
    (hg : o.guard = none) (s x : Operand) (t : TypeId) (hop : o.op = Op.call { callee := Callee.builtin Builtin.append, args := #[s, x], argTypes := #[t, t] })
    (base : Nat) (e : TypeId) (i : TypeInfo) (z : Value) (size bytes : Nat) (h1 : P.underlying t = some (.slice e)) (h2 : P.info? e = some i) (h3 : i.zero = some z) (h4 : i.size = size) (h5 : i.bytes = bytes) (h6 : z.cells.size = size) (h7 : 0 < size)
    (g k cap : Nat) (xs : List Value) (hs : a.eval s = .slice (some ⟨g, 0, none⟩) k cap) (hown : w.ownsRow base e size (.slice (some ⟨g, 0, none⟩) k cap) k xs)
    (ad : Addr) (m c : Nat) (news : List Value) (hx : a.eval x = .slice (some ad) m c) (hn : news.length = m * size) (hc : ∀ j u, news[j]? = some u → w.cell? (ad.add j) = some u) (h1c : ∀ u ∈ news, u.oneCell' = true)
    (b1 : k + m ≤ maxLen) (b2 : (k + m) * bytes ≤ 140737488355328) (hbase : base ≤ w.heap.size)
    (hK : ∀ v' w', w'.ownsRow base e size v' (k + m) (xs ++ news) → w.grownBy w' (some g) → (v'.ownBlock = some g ∨ ∀ g', v'.ownBlock = some g' → w.heap.size ≤ g') → wpList P ops Q rest (a.put o.dst v') w') :
    wpList P ops Q (o :: rest) a w := by
  by_cases hr : k + m ≤ cap
  · exact wpList_append_fits w hg s x t hop base e i size h1 h2 h4 g k cap xs hs hown ad m c news hx hn hc h1c hr (fun w' q1 q2 => hK _ _ q1 q2 (.inl rfl))
  · exact wpList_append_sep w hg s x t hop base e i z size bytes h1 h2 h3 h4 h5 h6 h7 g k cap xs hs hown ad m c news hx hn hc h1c (by omega) b1 b2 hbase fun g' cap' w' q1 q2 q3 => hK _ _ q1 q2 (by
      rcases q3 with rfl | q3
      · exact .inl rfl
      · exact .inr fun b hb => by cases hb; exact q3)
end Go.Proofs.YtiilgkhndfnkgaaDoor
