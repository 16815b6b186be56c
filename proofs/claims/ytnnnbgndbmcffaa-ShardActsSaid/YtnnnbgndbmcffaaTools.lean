/- Laws at operations that the kit lacks: guarded loads of rows, stores in the midst of a block, a build of a big zero value; one class of worlds: a block that may change, and rows made since; no conditions. -/
import Derived.Test.YtnnnbgndbmcffaaKB
import Derived.Test.YtnnnbgndbmcffaaQuietP
import Derived.Deep.MidRow
namespace Go.Proofs.Ytnnnbgndbmcffaa
open Go.RowKit
set_option linter.unusedVariables false

theorem wpList_load_row_g {P : Program} {ops : Array Oper} {rest : List Oper} {o : Oper} {a : Act} {w : World} {Q : Exit → Act → World → Prop} (hw : Region.wanted o (yielded ops a.tmps) = true) (ty : TypeId) (x : Operand) (ho : o.op = .load ty x)
    (g : Nat) (hx : a.eval x = .pointer (some ⟨g, 0, none⟩)) (t : TypeId) (cs : Array Value) (fr : Nat × Nat) (d : TypeDesc) (hg : w.heap[g]? = some (.cells cs t fr))
    (hu : P.underlying ty = some d) (hd : (match d with | .struct _ | .array _ _ => true | _ => false) = true) (hi : (P.info? ty).map (·.size) = some cs.size)
    (h : wpList P ops Q rest (a.put o.dst (.agg cs)) w) : wpList P ops Q (o :: rest) a w :=
  wpList_step fun K hK => by rw [if_pos hw]; exact wp_load_row ty x ho g hx t cs fr d hg hu hd hi (hK _ _ h)
theorem wpList_load_mid_g {P : Program} {ops : Array Oper} {rest : List Oper} {o : Oper} {a : Act} {w : World} {Q : Exit → Act → World → Prop} (hw : Region.wanted o (yielded ops a.tmps) = true) (ty : TypeId) (x : Operand) (ho : o.op = .load ty x)
    (b p : Nat) (hx : a.eval x = .pointer (some ⟨b, p, none⟩)) (cs : List Value) (d : TypeDesc) (hc : w.rangeAt b p cs) (hu : P.underlying ty = some d) (hd : d.isRow = true) (hi : (P.info? ty).map (·.size) = some cs.length)
    (h : wpList P ops Q rest (a.put o.dst (.agg cs.toArray)) w) : wpList P ops Q (o :: rest) a w := by
  exact wpList_step fun K hK => by rw [if_pos hw]; exact wp_load_mid ty x ho b p hx cs d hc hu hd hi (hK _ _ h)
theorem oat_store_mid {P : Program} {o : Oper} {a : Act} {w : World} {C' : World → Prop} (ty : TypeId) (x y : Operand) (ho : o.op = .store ty x y) (b off : Nat) (cells : Array Value) (hx : a.eval x = .pointer (some ⟨b, off, none⟩)) (hy : a.eval y = .agg cells)
    (ht : w.there b off cells.size) (hi : (P.info? ty).map (·.size) = some cells.size) (h1 : cells.all (·.oneCell') = true) (hC : C' (w.setCells b off cells.toList)) : QP.oat P o a C' w undef := by
  unfold QP.oat execOp
  simp only [ho, hx, hy, Instr.storeAt, Instr.sureAddr, Sem.run_bind, Sem.run_pure, Result.andThen_ok, run_storeVar_mid w b off ty cells ht hi h1]
  exact ⟨hC, rfl⟩
theorem oat_eql {P : Program} {o : Oper} {a : Act} {w : World} {C' : World → Prop} (ty t : TypeId) (x y : Operand) (ho : o.op = .binOp .eql ty x y t) (A B : Array Value) (hx : a.eval x = .agg A) (hy : a.eval y = .agg B) (b : Bool)
    (hG : P.eqGuardType P.depth ty = false) (h : (Op.equalIn 10000 ty (.agg A) (.agg B)).run P w = .ok b w) (hC : C' w) : QP.oat P o a C' w (.bool b) := by
  unfold QP.oat execOp
  simp only [ho, hx, hy]
  have e1 : (eqGuard .eql ty x y (.agg A) (.agg B)).run P w = .ok () w := by
    unfold eqGuard
    simp [go_sem, hG]
  simp [e1, go_sem, h, hC]
theorem wpList_build {P : Program} {ops : Array Oper} {rest : List Oper} {o : Oper} {a : Act} {w : World} {Q : Exit → Act → World → Prop} (hgd : o.guard = none) (t : TypeId) (ho : o.op = .build t #[]) (Z : Array Value)
    (hz : ∀ W, (Instr.build t #[]).run P W = .ok (.agg Z) W) (h : wpList P ops Q rest (a.put o.dst (.agg Z)) w) : wpList P ops Q (o :: rest) a w :=
  wpList_plain hgd fun _ hK => by
    unfold Oper.wp execOp
    simp only [ho, List.map_toArray, List.map_nil, Sem.run_bind, Sem.run_pure, Result.andThen_ok, hz]
    exact hK _ _ h

/-- cells stored one behind the other into a row -/
def spl : Array Value → Nat → List Value → Array Value
  | cs, _, [] => cs
  | cs, o, v :: r => spl (cs.setIfInBounds o v) (o + 1) r
theorem spl_size : ∀ (vs : List Value) (cs : Array Value) (o : Nat), (spl cs o vs).size = cs.size
  | [], _, _ => rfl
  | v :: r, cs, o => by show (spl _ _ r).size = _; rw [spl_size r]; simp
theorem spl_get : ∀ (vs : List Value) (cs : Array Value) (o i : Nat), o + vs.length ≤ cs.size → (spl cs o vs)[i]? = if o ≤ i ∧ i < o + vs.length then vs[i - o]? else cs[i]?
  | [], cs, o, i, _ => by
    show cs[i]? = _
    rw [if_neg (by simp)]
  | v :: r, cs, o, i, h => by
    have hl : (v :: r).length = r.length + 1 := rfl
    rw [hl] at h
    show (spl (cs.setIfInBounds o v) (o + 1) r)[i]? = _
    rw [spl_get r _ _ i (by simp; omega), hl]
    by_cases h1 : o + 1 ≤ i ∧ i < o + 1 + r.length
    · rw [if_pos h1, if_pos (by omega), show i - o = (i - (o + 1)) + 1 by omega, List.getElem?_cons_succ]
    · rw [if_neg h1]
      by_cases h2 : i = o
      · subst h2
        rw [if_pos (by omega), Nat.sub_self, List.getElem?_cons_zero, Array.getElem?_setIfInBounds_self_of_lt (by omega)]
      · rw [if_neg (by omega), Array.getElem?_setIfInBounds_ne (fun e => h2 e.symm)]
theorem row_setCells {g : Nat} {t : TypeId} : ∀ (vs : List Value) (cs : Array Value) (o : Nat) (w : World), M.RowAt w g t cs → M.RowAt (w.setCells g o vs) g t (spl cs o vs)
  | [], _, _, _, h => h
  | v :: r, cs, o, w, h => by
    have := M.RowAt.set h o v
    rw [World.setCells]
    exact row_setCells r _ _ _ this
theorem row_setCells_far {g k : Nat} {t : TypeId} {cs : Array Value} (hk : g ≠ k) : ∀ (vs : List Value) (o : Nat) (w : World), M.RowAt w k t cs → M.RowAt (w.setCells g o vs) k t cs
  | [], _, _, h => h
  | v :: r, o, w, h => by
    rw [World.setCells]
    exact row_setCells_far hk r _ _ (M.RowAt.far h (p := ⟨g, o, none⟩) hk v)
theorem below_setCells {B g : Nat} {w0 : World} (hg : B ≤ g) : ∀ (vs : List Value) (o : Nat) (w : World), Below B w0 w → Below B w0 (w.setCells g o vs)
  | [], _, _, h => h
  | v :: r, o, w, h => by
    rw [World.setCells]
    exact below_setCells hg r _ _ (h.setCell (p := ⟨g, o, none⟩) hg v)
theorem size_setCells {g : Nat} : ∀ (vs : List Value) (o : Nat) (w : World), (w.setCells g o vs).heap.size = w.heap.size
  | [], _, _ => rfl
  | v :: r, o, w => by rw [World.setCells, size_setCells r]; simp [World.setCell]
theorem but_setCells {g : Nat} {w : World} : ∀ (vs : List Value) (o : Nat) (v : World), M.But g w v → M.But g w (v.setCells g o vs)
  | [], _, _, h => h
  | u :: r, o, v, h => by
    rw [World.setCells]
    exact but_setCells r _ _ (h.set (p := ⟨g, o, none⟩) (.inl rfl) u)

/-- block B has these cells, and may change; rows made since w -/
structure PB (w : World) (B : Nat) (tB : TypeId) (C : Array Value) (L : List (Nat × TypeId × Array Value)) (v : World) : Prop where
  row : M.RowAt v B tB C
  rows : ∀ x ∈ L, M.RowAt v x.1 x.2.1 x.2.2
  but : M.But B w v
  old : B < w.heap.size
  ge : ∀ x ∈ L, w.heap.size ≤ x.1
section
variable {w v v' : World} {B : Nat} {tB t : TypeId} {C Z : Array Value} {L L' : List (Nat × TypeId × Array Value)} {g : Nat}
theorem PB.start (h : M.RowAt w B tB C) : PB w B tB C [] w := ⟨h, fun x hx => (by cases hx), M.But.refl _ _, h.lt, fun x hx => (by cases hx)⟩
theorem PB.at (c : PB w B tB C L v) (g : Nat) (t : TypeId) (D : Array Value) (h : (g, t, D) ∈ L) : v.heap[g]? = some (.cells D t (0, 0)) := c.rows _ h
theorem PB.rowB (c : PB w B tB C L v) : v.heap[B]? = some (.cells C tB (0, 0)) := c.row
theorem PB.drew (c : PB w B tB C L v) : PB w B tB C L v.drew := ⟨c.row.drew, fun x hx => (c.rows x hx).drew, c.but.drew, c.old, c.ge⟩
theorem PB.drewN (c : PB w B tB C L v) (k : Nat) : PB w B tB C L (v.drewN k) := ⟨c.row.drewN k, fun x hx => (c.rows x hx).drewN k, c.but.drewN k, c.old, c.ge⟩
theorem PB.sub (c : PB w B tB C L v) (h : ∀ x ∈ L', x ∈ L) : PB w B tB C L' v := ⟨c.row, fun x hx => c.rows x (h x hx), c.but, c.old, fun x hx => c.ge x (h x hx)⟩
theorem PB.same (c : PB w B tB C L v) (hb : Below v.heap.size v v') : PB w B tB C L v' :=
  ⟨c.row.call hb, fun x hx => (c.rows x hx).call hb, c.but.trans (M.But.ofBelow B hb), c.old, c.ge⟩
theorem PB.alloc (c : PB w B tB C L v) (o : Obj) : PB w B tB C L (v.alloc o) := c.same ((Below.refl _ _).alloc (Nat.le_refl _) o)
theorem PB.new (c : PB w B tB C L v) (t : TypeId) (Z : Array Value) : PB w B tB C ((v.heap.size, t, Z) :: L) (v.alloc (.cells Z t)) :=
  ⟨(c.alloc _).row, fun x hx => by
    rcases List.mem_cons.1 hx with e | e
    · subst e; exact M.RowAt.new v t Z
    · exact (c.alloc _).rows x e, (c.alloc _).but, c.old, fun x hx => by
    rcases List.mem_cons.1 hx with e | e
    · subst e; exact c.but.size
    · exact c.ge x e⟩
theorem PB.ne (c : PB w B tB C L v) : ∀ x ∈ L, x.1 ≠ B := fun x hx e => by have := c.ge x hx; have := c.old; omega
theorem PB.lt (c : PB w B tB C L v) : ∀ x ∈ L, x.1 < v.heap.size := fun x hx => (c.rows x hx).lt
theorem PB.set (c : PB w B tB C L v) (i : Nat) (u : Value) : PB w B tB (C.setIfInBounds i u) L (v.setCell ⟨B, i, none⟩ u) :=
  ⟨c.row.set i u, fun x hx => (c.rows x hx).far (p := ⟨B, i, none⟩) (Ne.symm (c.ne x hx)) u, c.but.set (p := ⟨B, i, none⟩) (.inl rfl) u, c.old, c.ge⟩
theorem PB.sets (c : PB w B tB C L v) (i : Nat) (vs : List Value) : PB w B tB (spl C i vs) L (v.setCells B i vs) :=
  ⟨row_setCells vs _ _ _ c.row, fun x hx => row_setCells_far (Ne.symm (c.ne x hx)) vs _ _ (c.rows x hx), but_setCells vs _ _ c.but, c.old, c.ge⟩
theorem PB.setRow (c : PB w B tB C ((g, t, Z) :: L) v) (hne : ∀ x ∈ L, x.1 ≠ g) (D : Array Value) : PB w B tB C ((g, t, D) :: L) (v.setRow g D) := by
  have hg := c.ge (g, t, Z) List.mem_cons_self
  have hgB := c.ne (g, t, Z) List.mem_cons_self
  exact ⟨c.row.farRow hgB D, fun x hx => by
    rcases List.mem_cons.1 hx with e | e
    · subst e; exact M.RowAt.setRow (c.rows (g, t, Z) List.mem_cons_self) D
    · exact (c.rows x (List.mem_cons_of_mem _ e)).farRow (Ne.symm (hne x e)) D, c.but.setRow (.inr hg) D, c.old, fun x hx => by
    rcases List.mem_cons.1 hx with e | e
    · subst e; exact hg
    · exact c.ge x (List.mem_cons_of_mem _ e)⟩
/-- a new block, then a whole row stored into it -/
theorem PB.box (c : PB w B tB C L v) (t : TypeId) (Z D : Array Value) : ∃ g V U, v.heap.size = g ∧ v.alloc (.cells Z t) = V ∧ V.heap[g]? = some (.cells Z t (0, 0)) ∧ V.setRow g D = U ∧ PB w B tB C ((g, t, D) :: L) U ∧ ∀ x ∈ L, x.1 < g :=
  ⟨_, _, _, rfl, rfl, M.RowAt.new v t Z, rfl, (c.new t Z).setRow (fun x hx => Nat.ne_of_lt (c.lt x hx)) D, fun x hx => c.lt x hx⟩
/-- a call that may change the block -/
theorem PB.call {D : Array Value} (c : PB w B tB C L v) (hb : M.But B v v') (hr : M.RowAt v' B tB D) : PB w B tB D L v' :=
  ⟨hr, fun x hx => hb.row (c.rows x hx) (c.ne x hx), c.but.trans hb, c.old, c.ge⟩
end
/-- .. and the newest row beside them -/
structure PG (w : World) (B : Nat) (tB : TypeId) (C : Array Value) (L : List (Nat × TypeId × Array Value)) (t : TypeId) (Z : Array Value) (g : Nat) (v : World) : Prop where
  pb : PB w B tB C ((g, t, Z) :: L) v
  lt : ∀ x ∈ L, x.1 < g
section
variable {w v v' : World} {B : Nat} {tB t : TypeId} {C Z : Array Value} {L : List (Nat × TypeId × Array Value)} {g : Nat}
theorem PG.of (c : PB w B tB C L v) (h : v.heap.size = g) (t : TypeId) (Z : Array Value) : PG w B tB C L t Z g (v.alloc (.cells Z t)) := by
  subst h; exact ⟨c.new t Z, fun x hx => c.lt x hx⟩
theorem PG.row (c : PG w B tB C L t Z g v) : v.heap[g]? = some (.cells Z t (0, 0)) := c.pb.rows (g, t, Z) List.mem_cons_self
theorem PG.at (c : PG w B tB C L t Z g v) (k : Nat) (s : TypeId) (D : Array Value) (h : (k, s, D) ∈ L) : v.heap[k]? = some (.cells D s (0, 0)) := c.pb.rows _ (List.mem_cons_of_mem _ h)
theorem PG.setRow (c : PG w B tB C L t Z g v) (D : Array Value) : PG w B tB C L t D g (v.setRow g D) := ⟨c.pb.setRow (fun x hx => Nat.ne_of_lt (c.lt x hx)) D, c.lt⟩
theorem PG.sets (c : PG w B tB C L t Z g v) (i : Nat) (vs : List Value) : PG w B tB (spl C i vs) L t Z g (v.setCells B i vs) := ⟨c.pb.sets i vs, c.lt⟩
theorem PG.set (c : PG w B tB C L t Z g v) (i : Nat) (u : Value) : PG w B tB (C.setIfInBounds i u) L t Z g (v.setCell ⟨B, i, none⟩ u) := ⟨c.pb.set i u, c.lt⟩
theorem PG.drew (c : PG w B tB C L t Z g v) : PG w B tB C L t Z g v.drew := ⟨c.pb.drew, c.lt⟩
theorem PG.same (c : PG w B tB C L t Z g v) (hb : Below v.heap.size v v') : PG w B tB C L t Z g v' := ⟨c.pb.same hb, c.lt⟩
end
end Go.Proofs.Ytnnnbgndbmcffaa
