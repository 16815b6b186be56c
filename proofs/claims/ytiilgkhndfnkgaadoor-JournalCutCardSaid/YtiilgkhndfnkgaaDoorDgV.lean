/- append onto a row that a conversion made (it bears a mark behind its end); the condition is that the row is known. -/
import Derived.Test.YtiilgkhndfnkgaaDoorDgU
import Derived.Lib.ConvBytes
namespace Go.Proofs.YtiilgkhndfnkgaaDoor
open Go.RowKit
set_option linter.unusedVariables false

/-- a row of one-cell elements, marked behind its end or not at all -/
def MarkRow (w : World) (base : Nat) (e : TypeId) (v : Value) (n : Nat) (xs : List Value) : Prop :=
  xs.length = n ∧ ∃ g cap cur lo hi, v = .slice (some ⟨g, 0, none⟩) n cap ∧ base ≤ g ∧ w.heap[g]? = some (.cells cur e (lo, hi)) ∧ (cap ≤ lo ∨ hi = 0) ∧ n ≤ cap ∧ cap ≤ maxLen ∧ cap ≤ cur.size ∧ cur.toList.take n = xs

theorem MarkRow.alloc {w : World} {base n : Nat} {e : TypeId} {v : Value} {xs : List Value} (h : MarkRow w base e v n xs) (o : Obj) : MarkRow (w.alloc o) base e v n xs := by
  obtain ⟨h0, g, cap, cur, lo, hi, h1, h2, h3, h4⟩ := h
  refine ⟨h0, g, cap, cur, lo, hi, h1, h2, ?_, h4⟩
  have hl := (Array.getElem?_eq_some_iff.1 h3).1
  rw [Below.heap_alloc w o g hl]; exact h3
theorem MarkRow.form {w : World} {base n : Nat} {e : TypeId} {v : Value} {xs : List Value} (h : MarkRow w base e v n xs) : ∃ g cap, v = .slice (some ⟨g, 0, none⟩) n cap := by
  obtain ⟨_, g, cap, _, _, _, h1, _⟩ := h
  exact ⟨g, cap, h1⟩
theorem MarkRow.lt {w : World} {base n : Nat} {e : TypeId} {v : Value} {xs : List Value} (h : MarkRow w base e v n xs) : ∀ k, v.ownBlock = some k → base ≤ k ∧ k < w.heap.size := by
  obtain ⟨_, g, cap, cur, _, _, rfl, h2, h3, _⟩ := h
  intro k hk
  have : g = k := by simpa [Value.ownBlock] using hk
  subst this
  exact ⟨h2, (Array.getElem?_eq_some_iff.1 h3).1⟩
theorem MarkRow.ofBytes {w : World} {base : Nat} (s : ByteArray) (hb : base ≤ w.heap.size) (hs : s.size ≤ maxLen) : MarkRow (Lib.bytesWorld w 5 s) base 5 (.slice (some ⟨w.heap.size, 0, none⟩) s.size (grownCap w s.size 0 5)) s.size (s.data.toList.map fun b => .int .u8 b.toNat) := by
  have hge := grownCap_ge w s.size 0 5
  refine ⟨by simp, w.heap.size, _, _, _, _, rfl, hb, Lib.bytesWorld_at_new w 5 s, ?_, hge, grownCap_le_maxLen w s.size 0 5 hs, ?_, ?_⟩
  · left; simp [Lib.bytesCells]; have : s.data.size = s.size := rfl; omega
  · simp [Lib.bytesCells]; have : s.data.size = s.size := rfl; omega
  · simp [Lib.bytesCells]

section
variable {P : Program}
theorem run_append_room1 (w : World) (t ty e : TypeId) (i : TypeInfo) (ht : P.underlying t = some (.slice e)) (hi : P.info? e = some i) (hsz : i.size = 1) (g n cap : Nat) (k : IntKind) (x : Int) (a : Addr) (c : Nat)
    (hx : w.cell? a = some (.int k x)) (u : Value) (hc : w.cell? ⟨g, n, none⟩ = some u) (hf : w.frozen? ⟨g, n, none⟩ = false) (hroom : n + 1 ≤ cap) :
    (Builtin.append_ #[t, t] ty #[.slice (some ⟨g, 0, none⟩) n cap, .slice (some a) 1 c]).run P w = .ok (.slice (some ⟨g, 0, none⟩) (n + 1) cap) (w.setCell ⟨g, n, none⟩ (.int k x)) := by
  simp [Builtin.append_, run_underlying ht, sizeOf, typeInfo, hi, Builtin.lenOf, hroom, hsz, hx, Addr.add_lit, storeCells, go_sem, hc, hf]

theorem run_append_mark (w : World) (base : Nat) (t ty e : TypeId) (i : TypeInfo) (z : Value) (ht : P.underlying t = some (.slice e)) (hi : P.info? e = some i) (hz : i.zero = some z) (hsize : i.size = 1) (hby : i.bytes = 1) (hzs : z.cells.size = 1)
    (v : Value) (n : Nat) (xs : List Value) (hown : MarkRow w base e v n xs) (a : Addr) (c : Nat) (k : IntKind) (x : Int) (hx : w.cell? a = some (.int k x)) (hn : n + 1 ≤ 140737488355328) (hbase : base ≤ w.heap.size) :
    ∃ v' w', (Builtin.append_ #[t, t] ty #[v, .slice (some a) 1 c]).run P w = .ok v' w' ∧ MarkRow w' base e v' (n + 1) (xs ++ [.int k x]) ∧ w.grownBy w' v.ownBlock := by
  obtain ⟨hl, g, cap, cur, lo, hi', rfl, hbg, hg, hfr, hnc, hcm, hcs, htk⟩ := hown
  have hcell : ∀ j, j < n → w.cell? ⟨g, j, none⟩ = xs[j]? := fun j hj => by
    unfold World.cell?
    rw [hg]
    simp only [Option.isSome_none, Bool.false_eq_true, if_false]
    rw [← htk, List.getElem?_take_of_lt hj, Array.getElem?_toList]
  by_cases hroom : n + 1 ≤ cap
  · have hc : ∃ u, w.cell? ⟨g, n, none⟩ = some u := by
      unfold World.cell?
      rw [hg]
      simp only [Option.isSome_none, Bool.false_eq_true, if_false]
      exact ⟨_, Array.getElem?_eq_getElem (by omega)⟩
    obtain ⟨u, hc⟩ := hc
    have hf : w.frozen? ⟨g, n, none⟩ = false := by
      unfold World.frozen?
      rw [hg]
      simp only [Bool.and_eq_false_iff, decide_eq_false_iff_not]
      omega
    refine ⟨_, _, run_append_room1 w t ty e i ht hi hsize g n cap k x a c hx u hc hf hroom, ⟨by simp [hl], g, cap, cur.setIfInBounds n (.int k x), lo, hi', rfl, hbg, ?_, hfr, hroom, hcm, by simpa using hcs, ?_⟩, ⟨rfl, rfl, rfl, by simp [World.setCell], fun j _ hj => ?_⟩⟩
    · simp [World.setCell, Array.getElem?_modify, hg]
    · have hlt : n < cur.size := by omega
      rw [Array.toList_setIfInBounds, List.take_set, List.take_succ_eq_append_getElem (by simpa using hlt), htk]
      rw [List.set_append_right _ _ (by omega), hl, Nat.sub_self]
      rfl
    · simp only [World.setCell, Array.getElem?_modify]
      rw [if_neg (fun h => hj (by simp [Value.ownBlock, h]))]
  · have hge := grownCap_ge w (n + 1) cap e
    have hr := run_append_grow (P := P) w t ty e i z ht hi hz ⟨g, 0, none⟩ n cap xs (by rw [hsize, hl, Nat.mul_one]) (fun j v hv => by
        rw [Addr.add_mid, Nat.zero_add, hcell j (by have := (List.getElem?_eq_some_iff.1 hv).1; omega)]; exact hv)
      a 1 c [.int k x] (by simp [hsize]) (fun j v hv => by
        match j with
        | 0 => simp at hv; subst hv; simpa [Addr.add] using hx
        | j + 1 => simp at hv) (by omega) (by omega) (by
        have := growslice_fits (need := n + 1) (old := cap) (bytes := 1) (by omega) (by omega)
        rw [hby]; exact this)
    refine ⟨_, _, hr, ⟨by simp [hl], w.heap.size, _, _, 0, 0, rfl, hbase, heap_alloc_new w.drew _, .inr rfl, hge, grownCap_le_maxLen w (n + 1) cap e (by unfold maxLen; omega), ?_, ?_⟩, ⟨rfl, rfl, rfl, by simp, fun j hj _ => Below.heap_alloc w.drew _ j hj⟩⟩
    · simp only [Array.size_append, List.size_toArray, size_zeroCells, hzs, hl, List.length_cons, List.length_nil]
      omega
    · simp only [Array.toList_append, List.append_assoc]
      rw [← List.append_assoc]
      exact List.take_left' (by simp [hl])

theorem wpList_append_mark (w : World) {ops : Array Oper} {rest : List Oper} {o : Oper} {a : Act} {Q : Exit → Act → World → Prop} (hgd : o.guard = none) (s x : Operand) (t : TypeId)
    (ho : o.op = .call { callee := .builtin .append, args := #[s, x], argTypes := #[t, t] })
    (base : Nat) (e : TypeId) (i : TypeInfo) (z : Value) (ht : P.underlying t = some (.slice e)) (hi : P.info? e = some i) (hz : i.zero = some z) (hsize : i.size = 1) (hby : i.bytes = 1) (hzs : z.cells.size = 1)
    (v : Value) (n : Nat) (xs : List Value) (hs : a.eval s = v) (hown : MarkRow w base e v n xs) (ad : Addr) (c : Nat) (k : IntKind) (y : Int) (hx : a.eval x = .slice (some ad) 1 c) (hc : w.cell? ad = some (.int k y)) (hn : n + 1 ≤ 140737488355328) (hbase : base ≤ w.heap.size)
    (hK : ∀ v' w', MarkRow w' base e v' (n + 1) (xs ++ [.int k y]) → w.grownBy w' v.ownBlock → wpList P ops Q rest (a.put o.dst v') w') : wpList P ops Q (o :: rest) a w := by
  refine wpList_plain hgd fun K hK' => ?_
  obtain ⟨v', w', hrun, r1, r2⟩ := run_append_mark (P := P) w base t o.type e i z ht hi hz hsize hby hzs v n xs hown ad c k y hc hn hbase
  unfold Oper.wp
  simp [execOp, ho, resolve, invoke, builtin, hs, hx, hrun, Result.andThen]
  exact hK' _ _ (hK v' w' r1 r2)
end

/-- .. turned into a text -/
theorem conv_mark {w : World} {base n : Nat} {v : Value} {l : List Nat} (h : MarkRow w base 5 v n (bytesV l)) : (convert 41 9 v).run Tryd.prog w = .ok (.string (Sha.bytesOfL l)) w := by
  obtain ⟨hlen, g, cap, cur, lo, hi, rfl, hb, hg, hf, hn, hm, hs, ht⟩ := h
  have hll : l.length = n := by simpa [bytesV_len] using hlen
  have e := run_convert_bytes_arg (P := Tryd.prog) w 41 5 Tryd.underlying41 Tryd.underlying5 g 0 n cap (l.map fun (n : Nat) => (n : Int)) (by simp [hll]) (fun i hi => ?_) 9 Tryd.underlying9
  · rw [strOf_bytes] at e; exact e
  · unfold World.cell?
    rw [hg]
    simp only [Option.isSome_none, Bool.false_eq_true, if_false]
    have e := congrArg (·[i]?) ht
    simp only [List.getElem?_take_of_lt hi, bytesV, List.getElem?_map] at e
    rw [Nat.zero_add, ← Array.getElem?_toList, e]
    have hi' : i < l.length := by omega
    simp [List.getD, List.getElem?_eq_getElem hi']
end Go.Proofs.YtiilgkhndfnkgaaDoor
