/- What the claim rests on, part 1 of KBo: only what is used, joined; the conditions are those of each theorem. -/
import Derived.ArgAppend
import Derived.Below
import Derived.BigQuiet
import Derived.Calls
import Derived.ChangeKeysEq
import Derived.ChangeOld
import Derived.Deep.AppendLies
import Derived.Deep.AppendSrc
import Derived.Deep.DeepHandedRow
import Derived.Deep.LoopGhost
import Derived.Deep.MidRow
import Derived.Deep.Onto
import Derived.Deep.QuietTactic
import Derived.Deep.RegionHeld3
import Derived.Deep.RegionWith
import Derived.Deep.WholeRow
import Derived.DeepKeys
import Derived.DeepKeys3
import Derived.DeepKeys4
import Derived.Defers
import Derived.KernelRfl
import Derived.Laws.AppendOwn
import Derived.Laws.Bits64b
import Derived.Laws.BitsAllLaws
import Derived.Laws.BytesArg
import Derived.Laws.BytesString
import Derived.Laws.EntriesVeiled
import Derived.Laws.MakeOwn
import Derived.Laws.OwnMore
import Derived.Laws.Rows
import Derived.Laws.Tables
import Derived.Lib.BufferWrite
import Derived.Lib.Builder
import Derived.Lib.ConvBytes
import Derived.Lib.FrozenHead2
import Derived.Lib.Hide
import Derived.Lib.LaidTab
import Derived.Lib.SlFresh
import Derived.Lib.Strings
import Derived.Lib.TrailingZeros
import Derived.Lib.UnsafeStr
import Derived.LoopIn
import Derived.LoopNIn
import Derived.Maps.Keyed
import Derived.OneCell
import Derived.OpenShut
import Derived.Orders
import Derived.Outline
import Derived.OwnWalk
import Derived.OwnWalkIn
import Derived.ProofKit
import Derived.RangeFuncBound
import Derived.RangeFuncCalls
import Derived.RangeFuncFrom
import Derived.RangeFuncLeaves
import Derived.RangeFuncNested
import Derived.Recover
import Derived.Shelf.Abstract
import Derived.Shelf.RegionOpen
import Derived.Shelf.RegionOpenPlain
import Derived.Shelf.Spec.SlicesInsert
import Derived.Shelf.Strings.OnBuilder
import Derived.ShutString
import Derived.StillTailTactics
import Derived.TacticsInMore
import Derived.Test.YtdebnbgjgkbmaaaGreatDoorProg
import Derived.Test.YtdebnbgjgkbmaaaGreatDoorRows
import Derived.WalkKit
import Derived.WalkLawsBesides
import Derived.WalkSpells
import Derived.Test.YtdebnbgjgkbmaaaGreatDoorK4
namespace Go.Proofs.YtdebnbgjgkbmaaaGreatDoor.RowK
open Go.ChangeShapes Go.WideShapes Go.ChangeAt Go.RowKit
open Go.ChangeMaps (open_string shut_string)
/-- A slice of integers that came in: it is nil; or it leads to a row of 'cap' cells, the numbers 'zs' (the first 'len' are its elements, the rest its spare room), each fitting its kind. -/
def IsRow (k : IntKind) (w : World) (a : Option Addr) (len cap : Nat) (zs : List Int) : Prop :=
  (a = none ∧ len = 0 ∧ cap = 0 ∧ zs = []) ∨
  ∃ x : Addr, a = some x ∧ len ≤ cap ∧ cap ≤ maxLen ∧ zs.length = cap ∧ (∀ i, i < zs.length → w.cell? (x.add i) = some (.int k (zs.getD i 0))) ∧ ∀ n ∈ zs, (Lit.int k n).wf = true
section
variable {H : Type} {enc : TypeId × Value → H} {P : Program} {w : World}
theorem isRow_of_trod {t e : TypeId} {k : IntKind} {a : Option Addr} {len cap : Nat} {d : DataW H} {p : List MemPlace}
    (ht : P.underlying t = some (.slice e)) (he : P.underlying e = some (.int k)) (hc : P.cellsOf e = 1)
    (h : DataW.Trod enc P w 0 (fun _ => true) true t (.slice a len cap) d p) : ∃ zs, IsRow k w a len cap zs := by
  obtain ⟨fuel, hf⟩ := h
  rcases open_ints ht he hc hf with ⟨hcs, _⟩ | ⟨x, l, c, zs, hcs, _, hl, hm, hz, _, hcell, hwz⟩
  · simp [Value.cells] at hcs
    obtain ⟨rfl, rfl, rfl⟩ := hcs
    exact ⟨[], .inl ⟨rfl, rfl, rfl, rfl⟩⟩
  · simp [Value.cells] at hcs
    obtain ⟨rfl, rfl, rfl⟩ := hcs
    exact ⟨zs, .inr ⟨_, rfl, hl, hm, by simpa using hz, hcell, hwz⟩⟩
/-- The row of an argument, at a plain address; where there is no element nothing is said of it. -/
theorem IsRow.plain {k : IntKind} {a : Option Addr} {len cap : Nat} {zs : List Int} (h : IsRow k w a len cap zs) :
    ∃ b off, (len = 0 ∨ b < w.heap.size) ∧ (len = 0 ∨ a = some ⟨b, off, none⟩) ∧ len ≤ zs.length ∧ zs.length = cap ∧ cap ≤ maxLen ∧
      (∀ j, j < len → w.cell? ⟨b, off + j, none⟩ = some (.int k (zs.getD j 0))) ∧ ∀ n ∈ zs, (Lit.int k n).wf = true := by
  rcases h with ⟨rfl, rfl, rfl, rfl⟩ | ⟨x, rfl, hl, hm, hz, hc, hw⟩
  · exact ⟨0, 0, .inl rfl, .inl rfl, by simp, by simp, by simp, fun j hj => by omega, fun n hn => by cases hn⟩
  · by_cases h0 : len = 0
    · subst h0; exact ⟨0, 0, .inl rfl, .inl rfl, by omega, hz, hm, fun j hj => by omega, hw⟩
    · obtain ⟨b, off, rfl, hc'⟩ := ints_at hc (by omega)
      exact ⟨b, off, .inr (World.block_lt_of_cell? w _ (hc' 0 (by omega))), .inr rfl, by omega, hz, hm, fun j hj => hc' j (by omega), hw⟩
end
theorem wf_u8 {a : Int} (h : (Lit.int .u8 a).wf = true) : 0 ≤ a ∧ a ≤ 255 := by simpa [Lit.wf, IntKind.min, IntKind.max, IntKind.signed, IntKind.bits] using h
end Go.Proofs.YtdebnbgjgkbmaaaGreatDoor.RowK
namespace Go.Proofs.YtdebnbgjgkbmaaaGreatDoor
open Go.RowKit
set_option linter.unusedVariables false
theorem oat_store_mid {P : Program} {o : Oper} {a : Act} {w : World} {C' : World → Prop} (ty : TypeId) (x y : Operand) (ho : o.op = .store ty x y) (b off : Nat) (cells : Array Value) (hx : a.eval x = .pointer (some ⟨b, off, none⟩)) (hy : a.eval y = .agg cells)
    (ht : w.there b off cells.size) (hi : (P.info? ty).map (·.size) = some cells.size) (h1 : cells.all (·.oneCell') = true) (hC : C' (w.setCells b off cells.toList)) : QP.oat P o a C' w undef := by
  unfold QP.oat execOp
  simp only [ho, hx, hy, Instr.storeAt, Instr.sureAddr, Sem.run_bind, Sem.run_pure, Result.andThen_ok, run_storeVar_mid w b off ty cells ht hi h1]
  exact ⟨hC, rfl⟩
/-- block B has these cells, and may change; rows made since w -/
structure PB (w : World) (B : Nat) (tB : TypeId) (C : Array Value) (L : List (Nat × TypeId × Array Value)) (v : World) : Prop where
  row : M.RowAt v B tB C
  rows : ∀ x ∈ L, M.RowAt v x.1 x.2.1 x.2.2
  but : M.But B w v
  old : B < w.heap.size
  ge : ∀ x ∈ L, w.heap.size ≤ x.1
section
variable {w v v' : World} {B : Nat} {tB t : TypeId} {C Z : Array Value} {L L' : List (Nat × TypeId × Array Value)} {g : Nat}
theorem PB.start (h : M.RowAt w B tB C) : PB w B tB C [] w := ⟨h, fun x hx => (by cases hx), M.But.refl _ _, h.lt, fun x hx => (by cases hx)⟩
theorem PB.at (c : PB w B tB C L v) (g : Nat) (t : TypeId) (D : Array Value) (h : (g, t, D) ∈ L) : v.heap[g]? = some (.cells D t (0, 0)) := c.rows _ h
theorem PB.drew (c : PB w B tB C L v) : PB w B tB C L v.drew := ⟨c.row.drew, fun x hx => (c.rows x hx).drew, c.but.drew, c.old, c.ge⟩
theorem PB.sub (c : PB w B tB C L v) (h : ∀ x ∈ L', x ∈ L) : PB w B tB C L' v := ⟨c.row, fun x hx => c.rows x (h x hx), c.but, c.old, fun x hx => c.ge x (h x hx)⟩
theorem PB.same (c : PB w B tB C L v) (hb : Below v.heap.size v v') : PB w B tB C L v' :=
  ⟨c.row.call hb, fun x hx => (c.rows x hx).call hb, c.but.trans (M.But.ofBelow B hb), c.old, c.ge⟩
theorem PB.alloc (c : PB w B tB C L v) (o : Obj) : PB w B tB C L (v.alloc o) := c.same ((Below.refl _ _).alloc (Nat.le_refl _) o)
theorem PB.new (c : PB w B tB C L v) (t : TypeId) (Z : Array Value) : PB w B tB C ((v.heap.size, t, Z) :: L) (v.alloc (.cells Z t)) :=
  ⟨(c.alloc _).row, fun x hx => by
    rcases List.mem_cons.1 hx with e | e
    · subst e; exact M.RowAt.new v t Z
    · exact (c.alloc _).rows x e, (c.alloc _).but, c.old, fun x hx => by
    rcases List.mem_cons.1 hx with e | e
    · subst e; exact c.but.size
    · exact c.ge x e⟩
theorem PB.ne (c : PB w B tB C L v) : ∀ x ∈ L, x.1 ≠ B := fun x hx e => by have := c.ge x hx; have := c.old; omega
theorem PB.lt (c : PB w B tB C L v) : ∀ x ∈ L, x.1 < v.heap.size := fun x hx => (c.rows x hx).lt
theorem PB.set (c : PB w B tB C L v) (i : Nat) (u : Value) : PB w B tB (C.setIfInBounds i u) L (v.setCell ⟨B, i, none⟩ u) :=
  ⟨c.row.set i u, fun x hx => (c.rows x hx).far (p := ⟨B, i, none⟩) (Ne.symm (c.ne x hx)) u, c.but.set (p := ⟨B, i, none⟩) (.inl rfl) u, c.old, c.ge⟩
theorem PB.sets (c : PB w B tB C L v) (i : Nat) (vs : List Value) : PB w B tB (spl C i vs) L (v.setCells B i vs) :=
  ⟨row_setCells vs _ _ _ c.row, fun x hx => row_setCells_far (Ne.symm (c.ne x hx)) vs _ _ (c.rows x hx), but_setCells vs _ _ c.but, c.old, c.ge⟩
theorem PB.setRow (c : PB w B tB C ((g, t, Z) :: L) v) (hne : ∀ x ∈ L, x.1 ≠ g) (D : Array Value) : PB w B tB C ((g, t, D) :: L) (v.setRow g D) := by
  have hg := c.ge (g, t, Z) List.mem_cons_self
  have hgB := c.ne (g, t, Z) List.mem_cons_self
  exact ⟨c.row.farRow hgB D, fun x hx => by
    rcases List.mem_cons.1 hx with e | e
    · subst e; exact M.RowAt.setRow (c.rows (g, t, Z) List.mem_cons_self) D
    · exact (c.rows x (List.mem_cons_of_mem _ e)).farRow (Ne.symm (hne x e)) D, c.but.setRow (.inr hg) D, c.old, fun x hx => by
    rcases List.mem_cons.1 hx with e | e
    · subst e; exact hg
    · exact c.ge x (List.mem_cons_of_mem _ e)⟩
/-- a new block, then a whole row stored into it -/
theorem PB.box (c : PB w B tB C L v) (t : TypeId) (Z D : Array Value) : ∃ g V U, v.heap.size = g ∧ v.alloc (.cells Z t) = V ∧ V.heap[g]? = some (.cells Z t (0, 0)) ∧ V.setRow g D = U ∧ PB w B tB C ((g, t, D) :: L) U ∧ ∀ x ∈ L, x.1 < g :=
  ⟨_, _, _, rfl, rfl, M.RowAt.new v t Z, rfl, (c.new t Z).setRow (fun x hx => Nat.ne_of_lt (c.lt x hx)) D, fun x hx => c.lt x hx⟩
/-- a call that may change the block -/
theorem PB.call {D : Array Value} (c : PB w B tB C L v) (hb : M.But B v v') (hr : M.RowAt v' B tB D) : PB w B tB D L v' :=
  ⟨hr, fun x hx => hb.row (c.rows x hx) (c.ne x hx), c.but.trans hb, c.old, c.ge⟩
end
/-- .. and the newest row beside them -/
structure PG (w : World) (B : Nat) (tB : TypeId) (C : Array Value) (L : List (Nat × TypeId × Array Value)) (t : TypeId) (Z : Array Value) (g : Nat) (v : World) : Prop where
  pb : PB w B tB C ((g, t, Z) :: L) v
  lt : ∀ x ∈ L, x.1 < g
section
variable {w v v' : World} {B : Nat} {tB t : TypeId} {C Z : Array Value} {L : List (Nat × TypeId × Array Value)} {g : Nat}
theorem PG.of (c : PB w B tB C L v) (h : v.heap.size = g) (t : TypeId) (Z : Array Value) : PG w B tB C L t Z g (v.alloc (.cells Z t)) := by
  subst h; exact ⟨c.new t Z, fun x hx => c.lt x hx⟩
theorem PG.row (c : PG w B tB C L t Z g v) : v.heap[g]? = some (.cells Z t (0, 0)) := c.pb.rows (g, t, Z) List.mem_cons_self
theorem PG.at (c : PG w B tB C L t Z g v) (k : Nat) (s : TypeId) (D : Array Value) (h : (k, s, D) ∈ L) : v.heap[k]? = some (.cells D s (0, 0)) := c.pb.rows _ (List.mem_cons_of_mem _ h)
theorem PG.setRow (c : PG w B tB C L t Z g v) (D : Array Value) : PG w B tB C L t D g (v.setRow g D) := ⟨c.pb.setRow (fun x hx => Nat.ne_of_lt (c.lt x hx)) D, c.lt⟩
theorem PG.sets (c : PG w B tB C L t Z g v) (i : Nat) (vs : List Value) : PG w B tB (spl C i vs) L t Z g (v.setCells B i vs) := ⟨c.pb.sets i vs, c.lt⟩
theorem PG.set (c : PG w B tB C L t Z g v) (i : Nat) (u : Value) : PG w B tB (C.setIfInBounds i u) L t Z g (v.setCell ⟨B, i, none⟩ u) := ⟨c.pb.set i u, c.lt⟩
theorem PG.drew (c : PG w B tB C L t Z g v) : PG w B tB C L t Z g v.drew := ⟨c.pb.drew, c.lt⟩
theorem PG.same (c : PG w B tB C L t Z g v) (hb : Below v.heap.size v v') : PG w B tB C L t Z g v' := ⟨c.pb.same hb, c.lt⟩
end
end Go.Proofs.YtdebnbgjgkbmaaaGreatDoor
namespace Go.Proofs.YtdebnbgjgkbmaaaGreatDoor
open Go.RowKit
set_option linter.unusedVariables false
/-- a row of cells by a function -/
def rowG (n : Nat) (f : Nat → Value) : Array Value := ((List.range n).map f).toArray
theorem rowG_size (n : Nat) (f : Nat → Value) : (rowG n f).size = n := by simp [rowG]
theorem rowG_get {n : Nat} {f : Nat → Value} {i : Nat} (h : i < n) : (rowG n f)[i]? = some (f i) := by simp [rowG, h]
theorem rowG_out {n : Nat} {f : Nat → Value} {i : Nat} (h : n ≤ i) : (rowG n f)[i]? = none := by rw [Array.getElem?_eq_none (by rw [rowG_size]; omega)]
theorem rowG_set {n : Nat} {f g : Nat → Value} {i : Nat} (v : Value) (hg : ∀ j, j < n → g j = if j = i then v else f j) : (rowG n f).setIfInBounds i v = rowG n g := by
  apply Array.ext_getElem?
  intro j
  rw [Array.getElem?_setIfInBounds, rowG_size]
  by_cases hj : j < n
  · rw [rowG_get (f := f) hj, rowG_get (f := g) hj, hg j hj]
    by_cases he : i = j
    · subst he; rw [if_pos rfl, if_pos hj, if_pos rfl]
    · rw [if_neg he, if_neg (fun e => he e.symm)]
  · rw [rowG_out (by omega), rowG_out (by omega)]
    by_cases he : i = j
    · rw [if_pos he, if_neg (by omega)]
    · rw [if_neg he]
/-- a letter -/
structure Lt where
  to : Int
  frm : Int
  kind : Int
  text : ByteArray
def lt0 : Lt := ⟨0, 0, 0, ⟨#[]⟩⟩
def Lt.cells (x : Lt) : List Value := [.int .i64 x.to, .int .i64 x.frm, .int .i64 x.kind, .string x.text]
def Lt.row (x : Lt) : Array Value := #[.int .i64 x.to, .int .i64 x.frm, .int .i64 x.kind, .string x.text]
/-- a box: a ring of letters -/
structure Bx where
  ring : Nat → Lt
  first : Nat
  many : Nat
  shut : Bool
def bx0 : Bx := ⟨fun _ => lt0, 0, 0, false⟩
def ltCell (x : Lt) (j : Nat) : Value := if j = 0 then .int .i64 x.to else if j = 1 then .int .i64 x.frm else if j = 2 then .int .i64 x.kind else .string x.text
def bxCell (b : Bx) (j : Nat) : Value := if j < 32 then ltCell (b.ring (j / 4)) (j % 4) else if j = 32 then .int .i64 (b.first : Nat) else if j = 33 then .int .i64 (b.many : Nat) else .bool b.shut
def boC (E : Nat → Bx) (n : Nat) : Array Value := rowG (n * 35) fun i => bxCell (E (i / 35)) (i % 35)
def upB (E : Nat → Bx) (k : Nat) (b : Bx) : Nat → Bx := fun i => if i = k then b else E i
def upL (f : Nat → Lt) (k : Nat) (x : Lt) : Nat → Lt := fun i => if i = k then x else f i
theorem boC_size (E : Nat → Bx) (n : Nat) : (boC E n).size = n * 35 := rowG_size _ _
theorem boC_get (E : Nat → Bx) {n k j : Nat} (hk : k < n) (hj : j < 35) : (boC E n)[k * 35 + j]? = some (bxCell (E k) j) := by
  unfold boC
  rw [rowG_get (by omega), show (k * 35 + j) / 35 = k by omega, show (k * 35 + j) % 35 = j by omega]
theorem boC_put {E : Nat → Bx} {n k j : Nat} {b : Bx} {v : Value} (hk : k < n) (hj : j < 35) (h : ∀ i, i < 35 → bxCell b i = if i = j then v else bxCell (E k) i) : (boC E n).setIfInBounds (k * 35 + j) v = boC (upB E k b) n := by
  unfold boC
  refine rowG_set v fun i hi => ?_
  unfold upB
  by_cases e : i / 35 = k
  · rw [if_pos e, h _ (Nat.mod_lt _ (by decide))]
    by_cases e2 : i % 35 = j
    · rw [if_pos e2, if_pos (by omega)]
    · rw [if_neg e2, if_neg (by omega), e]
  · rw [if_neg e, if_neg (by omega)]
theorem boC_first {E : Nat → Bx} {n k : Nat} (hk : k < n) (f : Nat) : (boC E n).setIfInBounds (k * 35 + 32) (.int .i64 (f : Nat)) = boC (upB E k { E k with first := f }) n := by
  refine boC_put hk (by decide) fun i hi => ?_
  unfold bxCell
  by_cases e : i = 32
  · subst e; rfl
  · rw [if_neg e, if_neg e, if_neg e]
theorem boC_many {E : Nat → Bx} {n k : Nat} (hk : k < n) (f : Nat) : (boC E n).setIfInBounds (k * 35 + 33) (.int .i64 (f : Nat)) = boC (upB E k { E k with many := f }) n := by
  refine boC_put hk (by decide) fun i hi => ?_
  unfold bxCell
  by_cases e : i = 33
  · subst e; rfl
  · rw [if_neg e, if_neg e, if_neg e]
theorem boC_ring {E : Nat → Bx} {n k r : Nat} (hk : k < n) (hr : r < 8) (x : Lt) : spl (boC E n) (k * 35 + r * 4) x.cells = boC (upB E k { E k with ring := upL (E k).ring r x }) n := by
  apply Array.ext_getElem?
  intro i
  have hl : x.cells.length = 4 := rfl
  rw [spl_get _ _ _ _ (by rw [boC_size, hl]; omega), hl]
  by_cases hi : i < n * 35
  · have hb : i / 35 < n := by omega
    have hj : i % 35 < 35 := Nat.mod_lt _ (by decide)
    have e1 := boC_get E hb hj
    have e2 := boC_get (upB E k { E k with ring := upL (E k).ring r x }) hb hj
    rw [show i / 35 * 35 + i % 35 = i by omega] at e1 e2
    rw [e1, e2]
    unfold upB
    by_cases h1 : i / 35 = k
    · rw [if_pos h1]
      unfold bxCell
      by_cases h2 : i % 35 < 32
      · rw [if_pos h2]
        rw [if_pos h2]
        show _ = some (ltCell (upL (E k).ring r x (i % 35 / 4)) (i % 35 % 4))
        unfold upL
        by_cases h3 : i % 35 / 4 = r
        · rw [if_pos h3, if_pos (by omega)]
          obtain ⟨d, hd⟩ : ∃ d, i - (k * 35 + r * 4) = d := ⟨_, rfl⟩
          have hd4 : d < 4 := by omega
          rw [hd, show i % 35 % 4 = d by omega]
          match d, hd4 with
          | 0, _ => rfl
          | 1, _ => rfl
          | 2, _ => rfl
          | 3, _ => rfl
        · rw [if_neg h3, if_neg (by omega), h1]
      · rw [if_neg (by omega), if_neg h2, if_neg h2, h1]
    · rw [if_neg h1, if_neg (by omega)]
  · rw [if_neg (by omega), Array.getElem?_eq_none (by rw [boC_size]; omega), Array.getElem?_eq_none (by rw [boC_size]; omega)]
section
variable {w : World} {B : Nat} {t : TypeId} {E : Nat → Bx} {n k : Nat}
theorem bo_first (h : M.RowAt w B t (boC E n)) (hk : k < n) : w.cell? ⟨B, k * 35 + 32, none⟩ = some (.int .i64 ((E k).first : Nat)) := by rw [h.cell, boC_get E hk (by decide)]; rfl
theorem bo_many (h : M.RowAt w B t (boC E n)) (hk : k < n) : w.cell? ⟨B, k * 35 + 33, none⟩ = some (.int .i64 ((E k).many : Nat)) := by rw [h.cell, boC_get E hk (by decide)]; rfl
theorem bo_shut (h : M.RowAt w B t (boC E n)) (hk : k < n) : w.cell? ⟨B, k * 35 + 34, none⟩ = some (.bool (E k).shut) := by rw [h.cell, boC_get E hk (by decide)]; rfl
theorem bo_ring (h : M.RowAt w B t (boC E n)) (hk : k < n) {r : Nat} (hr : r < 8) : w.rangeAt B (k * 35 + r * 4) ((E k).ring r).cells := fun j v hv => by
  have hj : j < 4 := by have := (List.getElem?_eq_some_iff.1 hv).1; exact this
  rw [h.cell, Nat.add_assoc, boC_get E hk (by omega), ← hv]
  unfold bxCell
  rw [if_pos (by omega), show (r * 4 + j) / 4 = r by omega, show (r * 4 + j) % 4 = j by omega]
  match j, hj with
  | 0, _ => rfl
  | 1, _ => rfl
  | 2, _ => rfl
  | 3, _ => rfl
theorem bo_there4 (h : M.RowAt w B t (boC E n)) (hk : k < n) {r : Nat} (hr : r < 8) : w.there B (k * 35 + r * 4) 4 := fun i hi => by
  refine ⟨?_, h.frozen _⟩
  rw [h.cell, Nat.add_assoc, boC_get E hk (by omega)]; rfl
end
/-- what waits in a box, in order -/
def bl (b : Bx) : List Lt := (List.range b.many).map fun i => b.ring ((b.first + i) % 8)
theorem bl_len (b : Bx) : (bl b).length = b.many := by simp [bl]
structure BxOk (b : Bx) : Prop where
  first : b.first < 8
  many : b.many ≤ 8
def putB (b : Bx) (x : Lt) : Bx := { b with ring := upL b.ring ((b.first + b.many) % 8) x, many := b.many + 1 }
def takeB (b : Bx) : Bx := { b with ring := upL b.ring b.first lt0, first := (b.first + 1) % 8, many := b.many - 1 }
theorem ok0 : BxOk bx0 := ⟨by decide, by decide⟩
theorem put_ok {b : Bx} (h : BxOk b) (hm : b.many ≠ 8) (x : Lt) : BxOk (putB b x) := ⟨h.first, by have := h.many; show b.many + 1 ≤ 8; omega⟩
theorem take_ok {b : Bx} (h : BxOk b) : BxOk (takeB b) := ⟨Nat.mod_lt _ (by decide), by have := h.many; show b.many - 1 ≤ 8; omega⟩
theorem put_bl {b : Bx} (h : BxOk b) (hm : b.many ≠ 8) (x : Lt) : bl (putB b x) = bl b ++ [x] := by
  have h1 := h.first; have h2 := h.many
  show (List.range (b.many + 1)).map (fun i => upL b.ring ((b.first + b.many) % 8) x ((b.first + i) % 8)) = _
  rw [List.range_succ, List.map_append]
  unfold bl
  congr 1
  · apply List.map_congr_left
    intro i hi
    have := List.mem_range.1 hi
    unfold upL
    rw [if_neg (by omega)]
  · show [upL _ _ x _] = [x]
    unfold upL; rw [if_pos rfl]
theorem take_bl {b : Bx} (h : BxOk b) (hm : b.many ≠ 0) : bl b = b.ring b.first :: bl (takeB b) := by
  have h1 := h.first; have h2 := h.many
  obtain ⟨m, hm'⟩ : ∃ m, b.many = m + 1 := ⟨b.many - 1, by omega⟩
  unfold bl
  rw [hm', List.range_succ_eq_map, List.map_cons, Nat.add_zero, Nat.mod_eq_of_lt h1]
  congr 1
  rw [List.map_map]
  have e : (takeB b).many = m := by show b.many - 1 = m; omega
  rw [e]
  apply List.map_congr_left
  intro i hi
  have := List.mem_range.1 hi
  show b.ring ((b.first + (i + 1)) % 8) = upL b.ring b.first lt0 (((b.first + 1) % 8 + i) % 8)
  unfold upL
  rw [if_neg (by omega), show ((b.first + 1) % 8 + i) % 8 = (b.first + (i + 1)) % 8 by omega]
end Go.Proofs.YtdebnbgjgkbmaaaGreatDoor
namespace Go.Proofs.YtdebnbgjgkbmaaaGreatDoor.Po
open Go.RowKit
set_option linter.unusedVariables false
theorem enters24 : Enters Tryz.prog 161 := enters_of Tryz.func161 (by kernel_rfl) rfl
theorem enters25 : Enters Tryz.prog 162 := enters_of Tryz.func162 (by kernel_rfl) rfl
theorem enters27 : Enters Tryz.prog 159 := enters_of Tryz.func159 (by kernel_rfl) rfl
def openE (b : Bx) : Int := if b.shut then 135 else 0
def fullE (b : Bx) : Int := if b.many = 8 then 160 else 0
def emptyE (b : Bx) : Int := if b.many = 0 then 3 else 0
section
variable {w : World} {B nb k : Nat} {E : Nat → Bx}
theorem open_any (h : M.RowAt w B 285 (boC E nb)) (hk : k < nb) : Calls Tryz.prog 161 #[.pointer (some ⟨B, k * 35, none⟩)] w fun e w' => e = .returned (.int .i64 (openE (E k))) ∧ w = w' := by
  have hc := bo_shut h hk
  unfold openE
  clear h
  cases hs : (E k).shut
  · rw [hs] at hc
    go_enter Tryz.func161, Tryz.ntmps161
    go_wp2
    go_ret
    exact ⟨rfl, rfl⟩
  · rw [hs] at hc
    go_enter Tryz.func161, Tryz.ntmps161
    go_wp2
    go_ret
    exact ⟨rfl, rfl⟩
theorem full_any (h : M.RowAt w B 285 (boC E nb)) (hk : k < nb) : Calls Tryz.prog 162 #[.pointer (some ⟨B, k * 35, none⟩)] w fun e w' => e = .returned (.int .i64 (fullE (E k))) ∧ w = w' := by
  have hc := bo_many h hk
  unfold fullE
  clear h
  generalize (E k).many = m at *
  by_cases hm : m = 8
  · subst hm
    go_enter Tryz.func162, Tryz.ntmps162
    go_wp2
    go_ret
    exact ⟨rfl, rfl⟩
  · have hd : ((m : Int) == 8) = false := by simp; omega
    rw [if_neg hm]
    go_enter Tryz.func162, Tryz.ntmps162
    go_wp2
    go_ret
    exact ⟨rfl, rfl⟩
theorem empty_any (h : M.RowAt w B 285 (boC E nb)) (hk : k < nb) : Calls Tryz.prog 159 #[.pointer (some ⟨B, k * 35, none⟩)] w fun e w' => e = .returned (.int .i64 (emptyE (E k))) ∧ w = w' := by
  have hc := bo_many h hk
  unfold emptyE
  clear h
  generalize (E k).many = m at *
  by_cases hm : m = 0
  · subst hm
    go_enter Tryz.func159, Tryz.ntmps159
    go_wp2
    go_ret
    exact ⟨rfl, rfl⟩
  · have hd : ((m : Int) == 0) = false := by simp; omega
    rw [if_neg hm]
    go_enter Tryz.func159, Tryz.ntmps159
    go_wp2
    go_ret
    exact ⟨rfl, rfl⟩
end
/-- the first error of a list -/
def firstE : List Int → Int
  | [] => 0
  | e :: r => if e = 0 then firstE r else e
theorem firstE_zero {l : List Int} (h : ∀ e ∈ l, e = 0) : firstE l = 0 := by
  induction l with
  | nil => rfl
  | cons e r ih => unfold firstE; rw [if_pos (h e List.mem_cons_self)]; exact ih fun x hx => h x (List.mem_cons_of_mem _ hx)
theorem firstE_at {l : List Int} {j : Nat} {e : Int} (h0 : ∀ i, i < j → l.getD i 0 = 0) (h1 : l[j]? = some e) (he : e ≠ 0) : firstE l = e := by
  induction l generalizing j with
  | nil => simp at h1
  | cons x r ih =>
    unfold firstE
    cases j with
    | zero => obtain rfl : x = e := by simpa using h1
              rw [if_neg he]
    | succ j =>
      have hx : x = 0 := by have := h0 0 (Nat.succ_pos j); simpa using this
      rw [if_pos hx]
      exact ih (fun i hi => by have := h0 (i + 1) (Nat.succ_lt_succ hi); simpa using this) (by simpa using h1)
/-- what ask answers -/
def askP (B nb : Nat) (x : Int) (es : List Int) : Value := if 0 ≤ x ∧ x < (nb : Int) ∧ firstE es = 0 then .pointer (some ⟨B, x.toNat * 35, none⟩) else .pointer none
def askE (nb : Nat) (x : Int) (es : List Int) : Int := if 0 ≤ x ∧ x < (nb : Int) then firstE es else 3
set_option maxRecDepth 100000 in
set_option maxHeartbeats 1000000 in
theorem ask_any (p B nb : Nat) (x : Int) (w : World) (hb : nb ≤ 64) (hp : M.RowAt w p 276 #[.slice (some ⟨B, 0, none⟩) nb nb]) (g m : Nat) (fs : Nat → Nat) (es : List Int) (hl : es.length = m) (h8 : m ≤ 8)
    (hc : ∀ j, j < m → w.cell? ⟨g, j, none⟩ = some (.func (.func (fs j)) #[] #[]))
    (hf : 0 ≤ x → x < (nb : Int) → ∀ j, j < m → Enters Tryz.prog (fs j) ∧ Calls Tryz.prog (fs j) #[.pointer (some ⟨B, x.toNat * 35, none⟩)] w fun e w' => e = .returned (.int .i64 (es.getD j 0)) ∧ w = w')
    (a : Option Addr) (ha : m ≠ 0 → a = some ⟨g, 0, none⟩) :
    Calls Tryz.prog 158 #[.pointer (some ⟨p, 0, none⟩), .int .i64 x, .slice a m m] w fun e w' => e = .returned (.tuple #[askP B nb x es, .int .i64 (askE nb x es)]) ∧ w = w' := by
  have c0 : w.cell? ⟨p, 0, none⟩ = some (.slice (some ⟨B, 0, none⟩) nb nb) := (hp.cell 0).trans rfl
  clear hp
  by_cases h0 : 0 ≤ x
  · by_cases h1 : x < (nb : Int)
    · have hf := hf h0 h1
      obtain ⟨k, rfl⟩ := Int.eq_ofNat_of_zero_le h0
      have hP : askP B nb (k : Nat) es = if firstE es = 0 then .pointer (some ⟨B, k * 35, none⟩) else .pointer none := by unfold askP; simp only [Int.toNat_natCast, h0, h1, true_and]
      have hE : askE nb (k : Nat) es = firstE es := by unfold askE; rw [if_pos ⟨h0, h1⟩]
      rw [hP, hE]
      simp only [Int.toNat_natCast] at hf
      obtain ⟨fe, hfe⟩ : ∃ fe, firstE es = fe := ⟨_, rfl⟩
      rw [hfe]
      have FE := Lib.hid hfe
      obtain ⟨R, hR⟩ : ∃ R, (if fe = 0 then Value.pointer (some ⟨B, k * 35, none⟩) else .pointer none) = R := ⟨_, rfl⟩
      rw [hR]
      have HR := Lib.hid hR
      have HF := Lib.hid hf; have HC := Lib.hid hc; have HA := Lib.hid ha
      have HL := Lib.hid hl
      have hb0 : decide ((k : Int) < 0) = false := by simp
      have hb1 : decide (nb ≤ k) = false := by simp; omega
      clear hf hc ha hP hE h0 hl hfe hR
      go_enter Tryz.func158, Tryz.ntmps158
      go_wp2
      go_loopw [11, 31] (fun _ i v => ∃ j : Nat, j ≤ m ∧ i = .int .i64 j ∧ Hid (∀ i, i < j → es.getD i 0 = 0) ∧ v = w) (fun _ i _ => m - (intOf i).toNat)
      case atStart => exact ⟨0, Nat.zero_le _, rfl, fun i hi => absurd hi (by omega), rfl⟩
      case round =>
        obtain ⟨j, hj, rfl, hz, rfl⟩ := hrel
        by_cases hlt : j < m
        · have cj := HC.out j hlt
          obtain ⟨en, cl⟩ := HF.out j hlt
          obtain rfl := HA.out (by omega)
          have CL := Lib.hid cl; have EN := Lib.hid en; clear cl en
          generalize fs j = f at *
          have hjl : es[j]? = some (es.getD j 0) := by rw [List.getD_eq_getElem?_getD, List.getElem?_eq_getElem (by rw [HL.out]; exact hlt)]; rfl
          have HJ := Lib.hid hjl
          generalize es.getD j 0 = e at *
          clear hjl
          by_cases he : e = 0
          · subst he
            go_wp2_with fail
            rw [EN.out, Oper.upon_enter]
            refine (CL.out).mono ?_
            rintro r w' ⟨rfl, rfl⟩
            go_wp2
            go_roundw
            case rel =>
              have hz' : Hid (∀ i, i < j + 1 → es.getD i 0 = 0) := Lib.hid (fun i hi => by
                by_cases e2 : i = j
                · subst e2; rw [List.getD_eq_getElem?_getD, HJ.out]; rfl
                · exact hz.out i (by omega))
              exact ⟨j + 1, by omega, by go_num, hz', trivial⟩
            case measure => simp [intOf]; omega
          · have hd : (e == 0) = false := by simpa using he
            have hfe := firstE_at hz.out HJ.out he
            have hq : fe = e := FE.out.symm.trans hfe
            have HQ := Lib.hid hq
            clear hfe hq
            go_wp2_with fail
            rw [EN.out, Oper.upon_enter]
            refine (CL.out).mono ?_
            rintro r w' ⟨rfl, rfl⟩
            go_wp2
            go_ret2
            exact ⟨by rw [← HR.out, HQ.out, if_neg he]; rfl, rfl⟩
        · obtain rfl : j = m := by omega
          have hfe : firstE es = 0 := firstE_zero fun e he => by
            obtain ⟨i, hi, rfl⟩ := List.mem_iff_getElem.1 he
            have := hz.out i (by rw [← HL.out]; exact hi)
            rwa [List.getD_eq_getElem?_getD, List.getElem?_eq_getElem hi] at this
          have hq : fe = 0 := FE.out.symm.trans hfe
          have HQ := Lib.hid hq
          clear hfe hq hz
          go_wp2
          go_ret2
          exact ⟨by rw [← HR.out, HQ.out, if_pos rfl]; rfl, rfl⟩
    · have hP : askP B nb x es = .pointer none := by unfold askP; rw [if_neg (by omega)]
      have hE : askE nb x es = 3 := by unfold askE; rw [if_neg (by omega)]
      rw [hP, hE]
      clear hc hf ha hP hE hl
      go_enter Tryz.func158, Tryz.ntmps158
      go_wp2
      go_ret2
      exact ⟨rfl, rfl⟩
  · have hP : askP B nb x es = .pointer none := by unfold askP; rw [if_neg (by omega)]
    have hE : askE nb x es = 3 := by unfold askE; rw [if_neg (by omega)]
    rw [hP, hE]
    clear hc hf ha hP hE hl
    go_enter Tryz.func158, Tryz.ntmps158
    go_wp2
    go_ret2
    exact ⟨rfl, rfl⟩
end Go.Proofs.YtdebnbgjgkbmaaaGreatDoor.Po
namespace Go.Proofs.YtdebnbgjgkbmaaaGreatDoor
namespace QA
open QP (upon oat wp_of_oat getD_mono)
open QT (waits fst dep_listed)
set_option linter.unusedVariables false
variable {P : Program} {ops : Array Oper} {md : Region.Mode} {A : World → Prop} {B D : Nat → World → Prop} {q p : Nat} {S S' : Nat → Prop} {Qf : Nat → Act → Prop}
abbrev ptr (g : Nat) : Value := .pointer (some ⟨g, 0, none⟩)
def allowed (P : Program) (md : Region.Mode) (ops : Array Oper) (A : World → Prop) (B D : Nat → World → Prop) (q p : Nat) (S : Nat → Prop) (i : Nat) (o : Oper) (a : Act) (v : Value) : Prop :=
  if i = p then ∀ g w, S g → B g w → oat P o a (D g) w v
  else (waits md ops q o = true ∨ ∀ w, A w → oat P o a A w v) ∧
    (waits md ops p o = true ∨ fst md ops q i = true ∨ ∀ g w, S g → B g w → oat P o a (B g) w v) ∧
    (fst md ops p i = true ∨ fst md ops q i = true ∨ ∀ g w, S g → D g w → oat P o a (D g) w v)
def made (P : Program) (A : World → Prop) (B : Nat → World → Prop) (o : Oper) (a : Act) (g : Nat) : Prop := ∀ w, A w → w.heap.size = g → oat P o a (B g) w (ptr g)
def qOp (P : Program) (md : Region.Mode) (ops : Array Oper) (A : World → Prop) (B D : Nat → World → Prop) (q p : Nat) (S : Nat → Prop) (i : Nat) (K : (Nat → Prop) → Act → Prop) (a : Act) : Prop :=
  match ops[i]? with
  | none => K S a
  | some o =>
    if i = q then Region.wanted o (yielded ops a.tmps) = true ∧ ∀ g, S g → made P A B o a g ∧ K (fun x => x = g) (a.put o.dst (ptr g))
    else if Region.wanted o (yielded ops a.tmps) then ∃ v, allowed P md ops A B D q p S i o a v ∧ K S (a.put o.dst v) else i ≠ p ∧ K S (a.put o.dst undef)
def wpA (P : Program) (md : Region.Mode) (ops : Array Oper) (A : World → Prop) (B D : Nat → World → Prop) (q p : Nat) (Qf : Nat → Act → Prop) : List Oper → Nat → (Nat → Prop) → Act → Prop
  | [], _, S, a => ∀ g, S g → Qf g a
  | o :: rest, i, S, a =>
    if i = q then Region.wanted o (yielded ops a.tmps) = true ∧ ∀ g, S g → made P A B o a g ∧ wpA P md ops A B D q p Qf rest (i + 1) (fun x => x = g) (a.put o.dst (ptr g))
    else if Region.wanted o (yielded ops a.tmps) then ∃ v, allowed P md ops A B D q p S i o a v ∧ wpA P md ops A B D q p Qf rest (i + 1) S (a.put o.dst v) else i ≠ p ∧ wpA P md ops A B D q p Qf rest (i + 1) S (a.put o.dst undef)
theorem wpA_nil {i : Nat} {a : Act} (h : ∀ g, S g → Qf g a) : wpA P md ops A B D q p Qf [] i S a := h
theorem wpA_step {a : Act} {o : Oper} {rest : List Oper} {i : Nat} (hi : (i == q) = false)
    (h : ∀ K : Act → Prop, (∀ a, wpA P md ops A B D q p Qf rest (i + 1) S a → K a) → if Region.wanted o (yielded ops a.tmps) then ∃ v, allowed P md ops A B D q p S i o a v ∧ K (a.put o.dst v) else i ≠ p ∧ K (a.put o.dst undef)) :
    wpA P md ops A B D q p Qf (o :: rest) i S a := by
  unfold wpA
  rw [if_neg (by simpa using hi)]
  exact h _ (fun _ h => h)
theorem wpA_alloc {a : Act} {o : Oper} {rest : List Oper} {i : Nat} (hi : (i == q) = true) (hw : Region.wanted o (yielded ops a.tmps) = true)
    (h1 : ∀ g, S g → made P A B o a g) (h2 : ∀ g, S g → wpA P md ops A B D q p Qf rest (i + 1) (fun x => x = g) (a.put o.dst (ptr g))) :
    wpA P md ops A B D q p Qf (o :: rest) i S a := by
  unfold wpA
  rw [if_pos (by simpa using hi)]
  exact ⟨hw, fun g hg => ⟨h1 g hg, h2 g hg⟩⟩
theorem allowed.mono {i : Nat} {o : Oper} {a : Act} {v : Value} (h : allowed P md ops A B D q p S i o a v) (hs : ∀ g, S' g → S g) : allowed P md ops A B D q p S' i o a v := by
  unfold allowed at *
  split
  · rename_i hip
    rw [if_pos hip] at h
    exact fun g w hg => h g w (hs g hg)
  · rename_i hip
    rw [if_neg hip] at h
    exact ⟨h.1, h.2.1.imp_right (fun h => h.imp_right fun h g w hg => h g w (hs g hg)), h.2.2.imp_right (fun h => h.imp_right fun h g w hg => h g w (hs g hg))⟩
theorem qOp_mono {i : Nat} {a : Act} {K K' : (Nat → Prop) → Act → Prop} (h : ∀ S a, K S a → K' S a) (hh : qOp P md ops A B D q p S i K a) : qOp P md ops A B D q p S i K' a := by
  unfold qOp at *
  split
  · rename_i ho; simp only [ho] at hh; exact h _ _ hh
  · rename_i o ho
    simp only [ho] at hh
    split
    · rename_i hq
      rw [if_pos hq] at hh
      exact ⟨hh.1, fun g hg => ⟨(hh.2 g hg).1, h _ _ (hh.2 g hg).2⟩⟩
    · rename_i hq
      rw [if_neg hq] at hh
      split
      · rename_i hw; simp only [hw, if_true] at hh; exact let ⟨v, h1, h2⟩ := hh; ⟨v, h1, h _ _ h2⟩
      · rename_i hw; simp only [hw] at hh; exact ⟨hh.1, h _ _ hh.2⟩
def anyA (P : Program) (md : Region.Mode) (ops : Array Oper) (A : World → Prop) (B D : Nat → World → Prop) (q p : Nat) (Qf : Nat → Act → Prop) : Nat → Array Bool → (Nat → Prop) → Act → Prop
  | 0, listed, S, a => Region.ready md ops listed = [] ∧ listed.getD q false = true ∧ listed.getD p false = true ∧ ∀ g, S g → Qf g a
  | fuel + 1, listed, S, a =>
    (Region.ready md ops listed = [] → listed.getD q false = true ∧ listed.getD p false = true ∧ ∀ g, S g → Qf g a) ∧
    ∀ i ∈ Region.ready md ops listed, qOp P md ops A B D q p S i (fun S' a' => anyA P md ops A B D q p Qf fuel (listed.setIfInBounds i true) S' a') a
/-- the class of worlds once these are listed -/
def cls (A : World → Prop) (B D : Nat → World → Prop) (q p : Nat) (S : Nat → Prop) (listed : Array Bool) (w : World) : Prop :=
  if listed.getD q false = true then ∃ g, S g ∧ (if listed.getD p false = true then D g w else B g w) else A w ∧ ∀ g, S g
theorem set_other {listed : Array Bool} {i j : Nat} (h : i ≠ j) : (listed.setIfInBounds i true).getD j false = listed.getD j false := by
  rw [Array.getD_eq_getD_getElem?, Array.getD_eq_getD_getElem?, Array.getElem?_setIfInBounds_ne h]
theorem set_same {listed : Array Bool} {i : Nat} (h : i < listed.size) : (listed.setIfInBounds i true).getD i false = true := by
  rw [Array.getD_eq_getD_getElem?, Array.getElem?_setIfInBounds_self_of_lt h]; rfl
theorem wpOp_of_qOp {i : Nat} {a : Act} {K : (Nat → Prop) → Act → Prop} {K' : Act → World → Prop} {Q' : Exit → Act → World → Prop} {w : World} {listed : Array Bool} (hpq : fst md ops p q = true) (hne : p ≠ q) (hC : cls A B D q p S listed w) (hD : QT.Down md ops listed)
    (hi : i ∈ Region.ready md ops listed) (h : ∀ S' a w', cls A B D q p S' (listed.setIfInBounds i true) w' → K S' a → K' a w') (hh : qOp P md ops A B D q p S i K a) : wpOp P ops Q' i K' a w := by
  obtain ⟨hun, o, ho, hall⟩ := mem_ready.1 hi
  have hlt : i < listed.size := by
    rcases Nat.lt_or_ge i listed.size with h' | h'
    · exact h'
    · rw [Array.getD_eq_getD_getElem?, Array.getElem?_eq_none h'] at hun; cases hun
  have hunf : listed.getD i false = false := by
    rw [Array.getD_eq_getD_getElem?, Array.getElem?_eq_getElem hlt] at hun ⊢; exact hun
  have hpl : listed.getD p false = true → listed.getD q false = true := fun hp => by
    unfold QT.fst at hpq
    split at hpq
    · rename_i op hop
      exact dep_listed hD 4 op (hD p op hp hop) hpq
    · cases hpq
  have hfst : ∀ t, fst md ops t i = true → listed.getD t false = true → False := fun t hf ht => by
    have : listed.getD i false = true := by
      unfold QT.fst at hf
      split at hf
      · rename_i op hop
        exact dep_listed hD 4 op (hD t op ht hop) hf
      · cases hf
    rw [hunf] at this; cases this
  have hwait : ∀ t, waits md ops t o = true → listed.getD t false = true := fun t hw => dep_listed hD 4 o (fun e he h => hall e (by simpa using he) h) hw
  unfold qOp at hh
  unfold wpOp
  simp only [ho] at hh ⊢
  by_cases hiq : i = q
  · subst hiq
    rw [if_pos rfl] at hh
    have hA : A w ∧ ∀ g, S g := by unfold cls at hC; rw [hunf] at hC; simpa using hC
    obtain ⟨hw, hg⟩ := hh
    have hg' := hg w.heap.size (hA.2 _)
    simp only [hw, if_true]
    refine .inl (wp_of_oat (C' := B w.heap.size) (K := fun a => K (fun x => x = w.heap.size) a) (fun a' w' hw' hk => h _ a' w' ?_ hk) (hg'.1 w hA.1 rfl) hg'.2)
    unfold cls
    rw [set_same hlt, if_pos rfl]
    refine ⟨w.heap.size, rfl, ?_⟩
    rw [set_other hne.symm]
    have : listed.getD p false = false := by
      cases hp : listed.getD p false with
      | false => rfl
      | true => have := hpl hp; rw [hunf] at this; cases this
    rw [this]; exact hw'
  · rw [if_neg hiq] at hh
    have hq2 := set_other (listed := listed) hiq
    split
    · rename_i hw
      simp only [hw, if_true] at hh
      obtain ⟨v, hv, hK⟩ := hh
      unfold allowed at hv
      by_cases hip : i = p
      · subst hip
        rw [if_pos rfl] at hv
        have hql : listed.getD q false = true := by
          unfold QT.fst at hpq
          simp only [ho] at hpq
          exact hwait q hpq
        unfold cls at hC
        rw [hql, if_pos rfl, hunf] at hC
        obtain ⟨g, hSg, hBg⟩ := hC
        refine .inl (wp_of_oat (C' := D g) (K := fun a => K S a) (fun a' w' hw' hk => h _ a' w' ?_ hk) (hv g w hSg (by simpa using hBg)) hK)
        unfold cls
        rw [hq2, hql, if_pos rfl]
        exact ⟨g, hSg, by rw [set_same hlt, if_pos rfl]; exact hw'⟩
      · rw [if_neg hip] at hv
        have hp2 := set_other (listed := listed) hip
        by_cases hql : listed.getD q false = true
        · have hC0 := hC
          unfold cls at hC
          rw [hql, if_pos rfl] at hC
          obtain ⟨g, hSg, hg⟩ := hC
          by_cases hpl' : listed.getD p false = true
          · rw [hpl', if_pos rfl] at hg
            rcases hv.2.2 with hx | hx | hx
            · exact (hfst p hx hpl').elim
            · exact (hfst q hx hql).elim
            · refine .inl (wp_of_oat (C' := D g) (K := fun a => K S a) (fun a' w' hw' hk => h _ a' w' ?_ hk) (hx g w hSg hg) hK)
              unfold cls
              rw [hq2, hp2, hql, hpl', if_pos rfl]
              exact ⟨g, hSg, by rw [if_pos rfl]; exact hw'⟩
          · rw [if_neg hpl'] at hg
            rcases hv.2.1 with hx | hx | hx
            · exact (hpl' (hwait p hx)).elim
            · exact (hfst q hx hql).elim
            · refine .inl (wp_of_oat (C' := B g) (K := fun a => K S a) (fun a' w' hw' hk => h _ a' w' ?_ hk) (hx g w hSg hg) hK)
              unfold cls
              rw [hq2, hp2, hql, if_pos rfl]
              exact ⟨g, hSg, by rw [if_neg hpl']; exact hw'⟩
        · unfold cls at hC
          rw [if_neg hql] at hC
          rcases hv.1 with hx | hx
          · exact (hql (hwait q hx)).elim
          · refine .inl (wp_of_oat (C' := A) (K := fun a => K S a) (fun a' w' hw' hk => h _ a' w' ?_ hk) (hx w hC.1) hK)
            unfold cls
            rw [hq2, if_neg hql]
            exact ⟨hw', hC.2⟩
    · rename_i hw
      simp only [hw] at hh
      refine h _ _ _ ?_ hh.2
      unfold cls at hC ⊢
      rw [hq2, set_other hh.1]
      exact hC
theorem wpAny_of_any {Q' : Exit → Act → World → Prop} (hpq : fst md ops p q = true) (hne : p ≠ q) (hQ : ∀ g a w, D g w → Qf g a → Q' .normal a w) : ∀ (fuel : Nat) (listed : Array Bool) (S : Nat → Prop) (a : Act) (w : World), cls A B D q p S listed w → QT.Down md ops listed →
    anyA P md ops A B D q p Qf fuel listed S a → wpAny P md ops Q' fuel listed a w
  | 0, l, S, _, _, hw, _, h => ⟨h.1, by
    unfold cls at hw
    rw [h.2.1, if_pos rfl] at hw
    obtain ⟨g, hg, hd⟩ := hw
    rw [h.2.2.1, if_pos rfl] at hd
    exact hQ g _ _ hd (h.2.2.2 g hg)⟩
  | fuel + 1, l, S, _, _, hw, hd0, h => ⟨fun h0 => by
    obtain ⟨h1, h2, h3⟩ := h.1 h0
    unfold cls at hw
    rw [h1, if_pos rfl] at hw
    obtain ⟨g, hg, hd⟩ := hw
    rw [h2, if_pos rfl] at hd
    exact hQ g _ _ hd (h3 g hg), fun i hi => wpOp_of_qOp hpq hne hw hd0 hi (fun S' a' w' hw' hk => wpAny_of_any hpq hne hQ fuel _ S' a' w' hw' (hd0.set hi) hk) (h.2 i hi)⟩
def YieldsIn (P : Program) (md : Region.Mode) (ops : Array Oper) (A : World → Prop) (B D : Nat → World → Prop) (q p : Nat) (S : Nat → Prop) (i : Nat) (o : Oper) (v : Value) (a : Act) : Prop :=
  (Region.wanted o (yielded ops a.tmps) = true ∧ allowed P md ops A B D q p S i o a v) ∨
  (Region.wanted o (yielded ops a.tmps) = false ∧ i ≠ p ∧ v = undef)
theorem YieldsIn.mono {i : Nat} {o : Oper} {v : Value} {a : Act} (hy : YieldsIn P md ops A B D q p S i o v a) (hs : ∀ g, S' g → S g) : YieldsIn P md ops A B D q p S' i o v a :=
  hy.imp (fun h => ⟨h.1, h.2.mono hs⟩) id
theorem YieldsIn.qOp {i : Nat} {o : Oper} {v : Value} {a : Act} (hiq : i ≠ q) (hi : ops[i]? = some o) (hy : YieldsIn P md ops A B D q p S i o v a) {K : (Nat → Prop) → Act → Prop} (h : K S (a.put o.dst v)) : qOp P md ops A B D q p S i K a := by
  unfold QA.qOp
  simp only [hi]
  rw [if_neg hiq]
  rcases hy with ⟨hw, hv⟩ | ⟨hw, hne, rfl⟩
  · simp only [hw, if_true]; exact ⟨v, hv, h⟩
  · simp only [hw, Bool.false_eq_true, if_false]; exact ⟨hne, h⟩
theorem YieldsIn.of_same {i : Nat} {o : Oper} {v : Value} {a a' : Act} (hy : YieldsIn P md ops A B D q p S i o v a) (he : execOp a'.eval o = execOp a.eval o)
    (hw : Region.wanted o (yielded ops a'.tmps) = Region.wanted o (yielded ops a.tmps)) : YieldsIn P md ops A B D q p S i o v a' := by
  unfold YieldsIn allowed oat at *
  rw [he, hw]
  exact hy
theorem yieldsIn_of_qOp {i : Nat} {o : Oper} {a : Act} {K : (Nat → Prop) → Act → Prop} (hiq : i ≠ q) (hi : ops[i]? = some o) (h : qOp P md ops A B D q p S i K a) : ∃ v, YieldsIn P md ops A B D q p S i o v a ∧ K S (a.put o.dst v) := by
  unfold qOp at h
  simp only [hi] at h
  rw [if_neg hiq] at h
  by_cases hw : Region.wanted o (yielded ops a.tmps) = true
  · simp only [hw, if_true] at h
    obtain ⟨v, h1, h2⟩ := h
    exact ⟨v, .inl ⟨hw, h1⟩, h2⟩
  · simp only [hw] at h
    exact ⟨undef, .inr ⟨by simpa using hw, h.1, rfl⟩, h.2⟩
theorem qOp_put {i j : Nat} {oi oj : Oper} {v : Value} (hj : ops[j]? = some oj) (hap : oi.apart ops oj = true)
    (hsi : ∀ cs b, oi.op ≠ .select cs b) (hsj : ∀ cs b, oj.op ≠ .select cs b) {K : (Nat → Prop) → Act → Prop} {a : Act}
    (hy : YieldsIn P md ops A B D q p S i oi v a) (h : qOp P md ops A B D q p S j K (a.put oi.dst v)) :
    qOp P md ops A B D q p S j (fun S' a' => YieldsIn P md ops A B D q p S' i oi v a' ∧ K S' (a'.put oi.dst v)) a := by
  obtain ⟨h1, h2, h3⟩ := Oper.apart_spec hap
  have keep : ∀ (S' : Nat → Prop) (a : Act), YieldsIn P md ops A B D q p S' i oi v a → ∀ u, YieldsIn P md ops A B D q p S' i oi v (a.put oj.dst u) := fun S' a hy u =>
    hy.of_same (execOp_put oi hsi a oj.dst u h3) (wanted_put oi a oj.dst u h3)
  unfold qOp at *
  simp only [hj] at *
  rw [wanted_put oj a oi.dst v h1] at h
  by_cases hjq : j = q
  · rw [if_pos hjq] at h ⊢
    refine ⟨h.1, fun g hg => ⟨?_, keep _ a (hy.mono (fun x hx => by rw [hx]; exact hg)) _, by rw [← Act.put_comm a v _ h2]; exact (h.2 g hg).2⟩⟩
    have hm := (h.2 g hg).1
    unfold made oat at *
    rwa [execOp_put oj hsj a oi.dst v h1] at hm
  · rw [if_neg hjq] at h ⊢
    split
    · rename_i hw
      simp only [hw, if_true] at h
      obtain ⟨u, hu, hn⟩ := h
      refine ⟨u, ?_, keep _ a hy u, by rw [← Act.put_comm a v u h2]; exact hn⟩
      unfold allowed oat at *
      rwa [execOp_put oj hsj a oi.dst v h1] at hu
    · rename_i hw
      simp only [hw] at h
      exact ⟨h.1, keep _ a hy _, by rw [← Act.put_comm a v undef h2]; exact h.2⟩
theorem anyA_first {i : Nat} {oi : Oper} {v : Value} (hiq : i ≠ q) (hi : ops[i]? = some oi) (hsel : ∀ (j : Nat) (o : Oper) cs b, ops[j]? = some o → o.op ≠ .select cs b) :
    ∀ (fuel : Nat) (listed : Array Bool) (S : Nat → Prop) (a : Act),
      (∀ j oj, ops[j]? = some oj → j ≠ i → listed.getD j true = false → (∀ e ∈ oj.after, Region.binds md e = true → e.on ≠ i) → oi.apart ops oj = true) →
      i ∈ Region.ready md ops listed → YieldsIn P md ops A B D q p S i oi v a →
      anyA P md ops A B D q p Qf fuel (listed.setIfInBounds i true) S (a.put oi.dst v) → anyA P md ops A B D q p Qf (fuel + 1) listed S a := by
  intro fuel
  induction fuel with
  | zero =>
    intro listed S a _ hr hy H
    refine ⟨fun h => (by rw [h] at hr; cases hr), fun j hj => ?_⟩
    by_cases hji : j = i
    · subst hji; exact hy.qOp hiq hi H
    · have := ready_mono hj hji
      rw [H.1] at this
      cases this
  | succ fuel ih =>
    intro listed S a hfree hr hy H
    refine ⟨fun h => (by rw [h] at hr; cases hr), fun j hj => ?_⟩
    by_cases hji : j = i
    · subst hji; exact hy.qOp hiq hi H
    · have h1 := H.2 j (ready_mono hj hji)
      obtain ⟨hjun, oj, hoj, hall⟩ := mem_ready.1 hj
      have hnot : ∀ e ∈ oj.after, Region.binds md e = true → e.on ≠ i := fun e he hb heq => by
        have h1 := hall e he hb
        have h0 := (mem_ready.1 hr).1
        rw [heq] at h1
        rcases Nat.lt_or_ge i listed.size with h' | h'
        · simp [h'] at h0 h1; rw [h0] at h1; cases h1
        · simp [Array.getElem?_eq_none h'] at h1
      have h2 := qOp_put hoj (hfree j oj hoj hji hjun hnot) (fun cs b => hsel i oi cs b hi) (fun cs b => hsel j oj cs b hoj) hy h1
      have hfree' : ∀ k ok, ops[k]? = some ok → k ≠ i → (listed.setIfInBounds j true).getD k true = false →
          (∀ e ∈ ok.after, Region.binds md e = true → e.on ≠ i) → oi.apart ops ok = true := fun k ok hk hki hun hno => by
        refine hfree k ok hk hki ?_ hno
        by_cases hjk : j = k
        · subst hjk; exact hjun
        · rw [getD_set_ne true hjk] at hun; exact hun
      refine qOp_mono (fun S' a' h3 => ih (listed.setIfInBounds j true) S' a' hfree' (ready_mono hr (Ne.symm hji)) h3.1 ?_) h2
      rw [Array.setIfInBounds_comm _ _ hji]
      exact h3.2
def lexFrom (md : Region.Mode) (ops : Array Oper) (q p : Nat) : Nat → Nat → Array Bool → Bool
  | 0, _, listed => (Region.ready md ops listed).isEmpty && (listed.getD q false && listed.getD p false)
  | fuel + 1, k, listed => (Region.ready md ops listed).contains k && (if k = q then Region.ready md ops listed == [q] else Region.free md ops listed k) && lexFrom md ops q p fuel (k + 1) (listed.setIfInBounds k true)
def lexB (md : Region.Mode) (ops : Array Oper) (q p : Nat) : Bool := Region.noSelect ops && fst md ops p q && !(p == q) && lexFrom md ops q p ops.size 0 (Array.replicate ops.size false)
theorem anyA_lex (hs : Region.noSelect ops = true) : ∀ (l : List Oper) (k : Nat) (listed : Array Bool) (S : Nat → Prop) (a : Act), (∀ j, l[j]? = ops[k + j]?) →
    lexFrom md ops q p l.length k listed = true → wpA P md ops A B D q p Qf l k S a → anyA P md ops A B D q p Qf l.length listed S a
  | [], _, _, _, _, _, hB, h => by
    simp only [List.length_nil, lexFrom, Bool.and_eq_true] at hB
    exact ⟨by simpa using hB.1, hB.2.1, hB.2.2, h⟩
  | o :: l, k, listed, S, a, hl, hB, h => by
    have h0 : ops[k]? = some o := by simpa using (hl 0).symm
    simp only [List.length_cons, lexFrom, Bool.and_eq_true] at hB
    obtain ⟨⟨hr, hf⟩, hB'⟩ := hB
    have hst : qOp P md ops A B D q p S k (fun S a => wpA P md ops A B D q p Qf l (k + 1) S a) a := by unfold qOp; simp only [h0]; exact h
    have hl' : ∀ j, l[j]? = ops[k + 1 + j]? := fun j => by have := hl (j + 1); simpa [Nat.add_assoc, Nat.add_comm 1 j] using this
    by_cases hkq : k = q
    · rw [if_pos hkq] at hf
      have hrd : Region.ready md ops listed = [q] := by simpa using hf
      refine ⟨fun h => (by rw [hrd] at h; cases h), fun i hi => ?_⟩
      rw [hrd] at hi
      obtain rfl : i = k := by rw [hkq]; simpa using hi
      exact qOp_mono (fun S' a' h3 => anyA_lex hs l (i + 1) _ S' a' hl' hB' h3) hst
    · rw [if_neg hkq] at hf
      obtain ⟨v, hy, hK⟩ := yieldsIn_of_qOp hkq h0 hst
      exact anyA_first hkq h0 (Region.noSelect_spec hs) l.length listed S a (Region.free_spec h0 hf) (by simpa using hr) hy
        (anyA_lex hs l (k + 1) _ S _ hl' hB' hK)
theorem wp_region_a (q p : Nat) (A : World → Prop) (B D : Nat → World → Prop) {id : Nat} {Q : Exit → Act → World → Prop} {a : Act} {w : World} {l : List Oper} (hm : P.follows .mixedOrders = true) (hB : lexB .any l.toArray q p = true)
    (hC : A w.drew) (h : wpA P .any l.toArray A B D q p (fun g a' => ∀ w', D g w' → Q .normal a' w') l 0 (fun _ => True) a) : (Code.region id l.toArray true).wp P Q a w := by
  simp only [lexB, Bool.and_eq_true] at hB
  obtain ⟨⟨⟨hs, hpq⟩, hne⟩, hlex⟩ := hB
  have hrep : ∀ j, (Array.replicate l.toArray.size false).getD j false = false := fun j => by
    rw [Array.getD_eq_getD_getElem?, Array.getElem?_replicate]; split <;> rfl
  refine wp_region_any hm (wpAny_of_any (A := A) (B := B) (D := D) (q := q) (p := p) (Qf := fun g a' => ∀ w', D g w' → Q .normal a' w') hpq (by simpa using hne) (fun g a w' hd hq => hq w' hd) _ _ (fun _ => True) _ _ ?_ ?_ ?_)
  · unfold cls; rw [hrep, if_neg (by decide)]; exact ⟨hC, fun _ => trivial⟩
  · intro j o hj _
    rw [hrep] at hj; cases hj
  · have := anyA_lex (P := P) (A := A) (B := B) (D := D) (q := q) (p := p) (Qf := fun g a' => ∀ w', D g w' → Q .normal a' w') (md := .any) hs l 0 (Array.replicate l.toArray.size false) (fun _ => True) a (by simp) (by simpa using hlex) h
    simpa using this
theorem al_p {i : Nat} {o : Oper} {a : Act} {v : Value} (he : (i == p) = true) (hp : ∀ g w, S g → B g w → oat P o a (D g) w v) : allowed P md ops A B D q p S i o a v := by
  unfold allowed
  rw [if_pos (by simpa using he)]
  exact hp
theorem al_o {i : Nat} {o : Oper} {a : Act} {v : Value} (hne : (i == p) = false) (h1 : waits md ops q o = true ∨ ∀ w, A w → oat P o a A w v)
    (h2 : waits md ops p o = true ∨ fst md ops q i = true ∨ ∀ g w, S g → B g w → oat P o a (B g) w v) (h3 : fst md ops p i = true ∨ fst md ops q i = true ∨ ∀ g w, S g → D g w → oat P o a (D g) w v) : allowed P md ops A B D q p S i o a v := by
  unfold allowed
  rw [if_neg (by simpa using hne)]
  exact ⟨h1, h2, h3⟩
end QA
end Go.Proofs.YtdebnbgjgkbmaaaGreatDoor
namespace Go.Proofs.YtdebnbgjgkbmaaaGreatDoor.Po
open Go.RowKit
set_option linter.unusedVariables false
theorem i33 (x : Lt) : (Tryz.prog.info? 144).map (·.size) = some x.row.size := by show _ = some 4; kernel_rfl
theorem o33 (x : Lt) : x.row.all (·.oneCell') = true := Array.all_eq_true_iff_forall_mem.2 (fun v hv => by simp [Lt.row] at hv; rcases hv with rfl | rfl | rfl | rfl <;> rfl)
theorem upB_same (E : Nat → Bx) (k : Nat) (b : Bx) : upB E k b k = b := by unfold upB; rw [if_pos rfl]
theorem upB_twice (E : Nat → Bx) (k : Nat) (a b : Bx) : upB (upB E k a) k b = upB E k b := by funext i; unfold upB; split <;> rfl
set_option maxRecDepth 100000 in
set_option maxHeartbeats 4000000 in
theorem put_any (B nb k : Nat) (E : Nat → Bx) (x : Lt) (w : World) (h : M.RowAt w B 285 (boC E nb)) (hk : k < nb) (hn : nb ≤ 64) (hok : BxOk (E k)) (hm : (E k).many ≠ 8) :
    Calls Tryz.prog 163 #[.pointer (some ⟨B, k * 35, none⟩), .agg x.row] w fun e w' => e = .returned (.tuple #[]) ∧ M.RowAt w' B 285 (boC (upB E k (putB (E k) x)) nb) ∧ M.But B w w' := by
  obtain ⟨n, hsz⟩ : ∃ n, w.heap.size = n := ⟨_, rfl⟩
  have p0 := (PB.start h).new 144 x.row
  rw [hsz] at p0
  have h1 := hok.first; have h2 := hok.many
  obtain ⟨r, hr⟩ : ∃ r, ((E k).first + (E k).many) % 8 = r := ⟨_, rfl⟩
  have hr8 : r < 8 := hr ▸ Nat.mod_lt _ (by decide)
  have c1 := fun v (c : PB w B 285 (boC E nb) [(n, 144, x.row)] v) => And.intro (bo_first c.row hk) (bo_many c.row hk)
  have th : ∀ v, PB w B 285 (boC E nb) [(n, 144, x.row)] v → v.there B (k * 35 + r * 4) x.row.size := fun v c => bo_there4 c.row hk hr8
  have st : ∀ v, PB w B 285 (boC E nb) [(n, 144, x.row)] v → PB w B 285 (spl (boC E nb) (k * 35 + r * 4) x.cells) [(n, 144, x.row)] (v.setCells B (k * 35 + r * 4) x.row.toList) := fun v c => c.sets (k * 35 + r * 4) x.cells
  rw [boC_ring hk hr8 x] at st
  generalize hE1 : upB E k { E k with ring := upL (E k).ring r x } = E1 at *
  have hm1 : (E1 k).many = (E k).many := by rw [← hE1, upB_same]
  have c2 := fun v (c : PB w B 285 (boC E1 nb) [(n, 144, x.row)] v) => bo_many c.row hk
  have f2 := fun v (c : PB w B 285 (boC E1 nb) [(n, 144, x.row)] v) => M.RowAt.frozen c.row (k * 35 + 33)
  have s2 := fun v (c : PB w B 285 (boC E1 nb) [(n, 144, x.row)] v) => c.set (k * 35 + 33) (.int .i64 ((E k).many + 1 : Nat))
  rw [boC_many hk] at s2
  have e2 : upB E1 k { E1 k with many := (E k).many + 1 } = upB E k (putB (E k) x) := by
    rw [← hE1, upB_twice, upB_same]; unfold putB; rw [hr]
  rw [e2] at s2
  rw [hm1] at c2
  obtain ⟨V, hV⟩ : ∃ V, w.alloc (.cells x.row 144) = V := ⟨_, rfl⟩
  rw [hV] at p0
  have HV := Lib.hid hV
  have q1 : IntKind.i64.wrap (((E k).first : Int) + ((E k).many : Int)) = ((E k).first : Int) + ((E k).many : Int) := IntWalk.i64_in _ (by omega)
  have q2 : Int.tmod (((E k).first : Int) + ((E k).many : Int)) 8 = (r : Int) := by
    rw [← hr]; rfl
  have q2' : (((E k).first : Int) + ((E k).many : Int)) % 8 = (r : Int) := by
    rw [← hr]; rfl
  have q3 : IntKind.i64.wrap (r : Int) = (r : Int) := IntWalk.i64_in _ (by omega)
  have q4 : (r : Int) < 8 := by omega
  have q5 : (0 : Int) ≤ r := by omega
  have q6 : IntKind.i64.wrap (((E k).many : Int) + 1) = (((E k).many + 1 : Nat) : Int) := IntWalk.i64_in _ (by omega)
  have C1 := Lib.hid c1; have TH := Lib.hid th; have ST := Lib.hid st; have C2 := Lib.hid c2; have F2 := Lib.hid f2; have S2 := Lib.hid s2
  have ix := i33 x; have ox := o33 x
  have hrow : x.row = #[.int .i64 x.to, .int .i64 x.frm, .int .i64 x.kind, .string x.text] := rfl
  generalize (E k).first = f at *
  generalize (E k).many = m at *
  generalize boC (upB E k (putB (E k) x)) nb = Z2 at *
  generalize boC E1 nb = Z1 at *
  generalize boC E nb = Z0 at *
  have HRR := Lib.hid hrow
  generalize x.row = X at *
  clear c1 th st c2 f2 s2 hE1 hm1 e2 h1 h2 hok hm hr h hV hrow
  go_enter Tryz.func163, Tryz.ntmps163
  go_wp2
  rw [HV.out]
  refine QT.wp_region_p 15 (PB w B 285 Z0 [(n, 144, X)]) (PB w B 285 Z1 [(n, 144, X)]) (by kernel_rfl) (by kernel_rfl) p0.drew ?_
  iterate 16
    (refine QT.wpQ_step (fun K hK => ?_)
     go_simp
     first
       | (refine hK _ ?_; clear hK K)
       | (refine ⟨?_, hK _ ?_⟩; decide; clear hK K)
       | ((first | (apply Exists.intro; refine ⟨?_, hK _ ?_⟩) | refine ⟨⟨undef, ?_⟩, hK _ ?_⟩)
          first
            | (apply QT.al_p; decide; (focus (intro wq hq; (first | (obtain ⟨cf, cm⟩ := C1.out _ hq) | skip); first | (first | ((with_reducible refine QP.oat_load_row (ty := 144) (x := .tmp 3) (g := n) (t := 144) (cs := X) (fr := (0, 0)) ?_ ?_ _ (hq.at n 144 X (by simp)) Tryz.underlying144 ?_ ix hq); rfl; rfl; rfl) | ((with_reducible refine oat_store_mid (ty := 144) (x := .tmp 18) (y := .tmp 15) (b := B) (off := k * 35 + r * 4) (cells := X) ?_ ?_ ?_ (TH.out _ hq) ix ox (ST.out _ hq)); rfl; rfl; rfl)) | (unfold QP.oat; go_simp; first | done | exact ⟨by assumption, rfl⟩ | exact rfl | assumption | (fail)))))
            | (apply QT.al_dep; decide; decide; (focus (intro wq hq; (first | (obtain ⟨cf, cm⟩ := C1.out _ hq) | skip); first | (first | ((with_reducible refine QP.oat_load_row (ty := 144) (x := .tmp 3) (g := n) (t := 144) (cs := X) (fr := (0, 0)) ?_ ?_ _ (hq.at n 144 X (by simp)) Tryz.underlying144 ?_ ix hq); rfl; rfl; rfl) | ((with_reducible refine oat_store_mid (ty := 144) (x := .tmp 18) (y := .tmp 15) (b := B) (off := k * 35 + r * 4) (cells := X) ?_ ?_ ?_ (TH.out _ hq) ix ox (ST.out _ hq)); rfl; rfl; rfl)) | (unfold QP.oat; go_simp; first | done | exact ⟨by assumption, rfl⟩ | exact rfl | assumption | (fail)))))
            | (apply QT.al_bef; decide; decide; (focus (intro wq hq; (first | (obtain ⟨cf, cm⟩ := C1.out _ hq) | skip); first | (first | ((with_reducible refine QP.oat_load_row (ty := 144) (x := .tmp 3) (g := n) (t := 144) (cs := X) (fr := (0, 0)) ?_ ?_ _ (hq.at n 144 X (by simp)) Tryz.underlying144 ?_ ix hq); rfl; rfl; rfl) | ((with_reducible refine oat_store_mid (ty := 144) (x := .tmp 18) (y := .tmp 15) (b := B) (off := k * 35 + r * 4) (cells := X) ?_ ?_ ?_ (TH.out _ hq) ix ox (ST.out _ hq)); rfl; rfl; rfl)) | (unfold QP.oat; go_simp; first | done | exact ⟨by assumption, rfl⟩ | exact rfl | assumption | (fail)))))
            | (apply QT.al_ok; decide; (focus (intro wq hq; (first | (obtain ⟨cf, cm⟩ := C1.out _ hq) | skip); first | (first | ((with_reducible refine QP.oat_load_row (ty := 144) (x := .tmp 3) (g := n) (t := 144) (cs := X) (fr := (0, 0)) ?_ ?_ _ (hq.at n 144 X (by simp)) Tryz.underlying144 ?_ ix hq); rfl; rfl; rfl) | ((with_reducible refine oat_store_mid (ty := 144) (x := .tmp 18) (y := .tmp 15) (b := B) (off := k * 35 + r * 4) (cells := X) ?_ ?_ ?_ (TH.out _ hq) ix ox (ST.out _ hq)); rfl; rfl; rfl)) | (unfold QP.oat; go_simp; first | done | exact ⟨by assumption, rfl⟩ | exact rfl | assumption | (fail)))); (focus (intro wq hq; (first | (obtain ⟨cf, cm⟩ := C1.out _ hq) | skip); first | (first | ((with_reducible refine QP.oat_load_row (ty := 144) (x := .tmp 3) (g := n) (t := 144) (cs := X) (fr := (0, 0)) ?_ ?_ _ (hq.at n 144 X (by simp)) Tryz.underlying144 ?_ ix hq); rfl; rfl; rfl) | ((with_reducible refine oat_store_mid (ty := 144) (x := .tmp 18) (y := .tmp 15) (b := B) (off := k * 35 + r * 4) (cells := X) ?_ ?_ ?_ (TH.out _ hq) ix ox (ST.out _ hq)); rfl; rfl; rfl)) | (unfold QP.oat; go_simp; first | done | exact ⟨by assumption, rfl⟩ | exact rfl | assumption | (fail)))))
          clear hK K))
  refine QT.wpQ_nil ?_
  intro wz bz
  have cm := C2.out _ bz
  have fm := F2.out _ bz
  go_wp2
  go_end0
  have z := S2.out _ bz
  rw [show ((m + 1 : Nat) : Int) = (m : Int) + 1 by omega] at z
  exact ⟨rfl, z.row, z.but⟩
set_option maxRecDepth 100000 in
set_option maxHeartbeats 4000000 in
theorem take_any (B nb k : Nat) (E : Nat → Bx) (w : World) (h : M.RowAt w B 285 (boC E nb)) (hk : k < nb) (hn : nb ≤ 64) (hok : BxOk (E k)) (hm : (E k).many ≠ 0) :
    Calls Tryz.prog 160 #[.pointer (some ⟨B, k * 35, none⟩)] w fun e w' => e = .returned (.agg ((E k).ring (E k).first).row) ∧ M.RowAt w' B 285 (boC (upB E k (takeB (E k))) nb) ∧ M.But B w w' := by
  obtain ⟨n, hsz⟩ : ∃ n, w.heap.size = n := ⟨_, rfl⟩
  have HSZ := Lib.hid hsz
  have p0 := (PB.start h).new 144 lt0.row
  rw [hsz] at p0
  have h1 := hok.first; have h2 := hok.many
  obtain ⟨x, hx⟩ : ∃ x, (E k).ring (E k).first = x := ⟨_, rfl⟩
  have i0 := i33 lt0; have o0 := o33 lt0
  have hrow0 : lt0.row = #[.int .i64 0, .int .i64 0, .int .i64 0, .string ⟨#[]⟩] := rfl
  rw [hx]
  have c1 := fun L v (c : PB w B 285 (boC E nb) L v) => bo_first c.row hk
  have g1 : ∀ L v, PB w B 285 (boC E nb) L v → v.rangeAt B (k * 35 + (E k).first * 4) ((E k).ring (E k).first).row.toList := fun L v c => bo_ring c.row hk h1
  rw [hx] at g1
  have th : ∀ L v, PB w B 285 (boC E nb) L v → v.there B (k * 35 + (E k).first * 4) lt0.row.size := fun L v c => bo_there4 c.row hk h1
  have st : ∀ L g v, PG w B 285 (boC E nb) L 144 x.row g v → PG w B 285 (spl (boC E nb) (k * 35 + (E k).first * 4) lt0.cells) L 144 x.row g (v.setCells B (k * 35 + (E k).first * 4) lt0.row.toList) := fun L g v c => c.sets _ lt0.cells
  rw [boC_ring hk h1 lt0] at st
  generalize hE1 : upB E k { E k with ring := upL (E k).ring (E k).first lt0 } = E1 at *
  have hf1 : (E1 k).first = (E k).first := by rw [← hE1, upB_same]
  have c2 := fun L v (c : PB w B 285 (boC E1 nb) L v) => bo_first c.row hk
  rw [hf1] at c2
  have d2 := fun L v (c : PB w B 285 (boC E1 nb) L v) => bo_many c.row hk
  rw [show (E1 k).many = (E k).many by rw [← hE1, upB_same]] at d2
  have g2f := fun L v (c : PB w B 285 (boC E1 nb) L v) => M.RowAt.frozen c.row (k * 35 + 33)
  have f2 := fun L v (c : PB w B 285 (boC E1 nb) L v) => M.RowAt.frozen c.row (k * 35 + 32)
  have s2 := fun L v (c : PB w B 285 (boC E1 nb) L v) => c.set (k * 35 + 32) (.int .i64 (((E k).first + 1) % 8 : Nat))
  rw [boC_first hk] at s2
  generalize hE2 : upB E1 k { E1 k with first := ((E k).first + 1) % 8 } = E2 at *
  have hm2 : (E2 k).many = (E k).many := by rw [← hE2, upB_same, ← hE1, upB_same]
  have c3 := fun L v (c : PB w B 285 (boC E2 nb) L v) => bo_many c.row hk
  rw [hm2] at c3
  have f3 := fun L v (c : PB w B 285 (boC E2 nb) L v) => M.RowAt.frozen c.row (k * 35 + 33)
  have s3 := fun L v (c : PB w B 285 (boC E2 nb) L v) => c.set (k * 35 + 33) (.int .i64 ((E k).many - 1 : Nat))
  rw [boC_many hk] at s3
  have e2 : upB E2 k { E2 k with many := (E k).many - 1 } = upB E k (takeB (E k)) := by
    rw [← hE2, upB_twice, upB_same, ← hE1, upB_twice, upB_same]; rfl
  rw [e2] at s3
  obtain ⟨V, hV⟩ : ∃ V, w.alloc (.cells lt0.row 144) = V := ⟨_, rfl⟩
  rw [hV] at p0
  rw [hrow0] at hV
  have HV := Lib.hid hV
  have q1 : IntKind.i64.wrap (((E k).first : Int) + 1) = ((E k).first : Int) + 1 := IntWalk.i64_in _ (by omega)
  have q2 : Int.tmod (((E k).first : Int) + 1) 8 = ((((E k).first + 1) % 8 : Nat) : Int) := rfl
  have q2' : (((E k).first : Int) + 1) % 8 = ((((E k).first + 1) % 8 : Nat) : Int) := rfl
  have q3 : IntKind.i64.wrap ((((E k).first + 1) % 8 : Nat) : Int) = ((((E k).first + 1) % 8 : Nat) : Int) := IntWalk.i64_in _ (by omega)
  have q4 : ((E k).first : Int) < 8 := by omega
  have q5 : (0 : Int) ≤ (E k).first := by omega
  have q6 : IntKind.i64.wrap (((E k).many : Int) - 1) = (((E k).many - 1 : Nat) : Int) := by rw [show (((E k).many - 1 : Nat) : Int) = ((E k).many : Int) - 1 by omega]; exact IntWalk.i64_in _ (by omega)
  have C1 := Lib.hid c1; have G1 := Lib.hid g1; have TH := Lib.hid th; have ST := Lib.hid st; have C2 := Lib.hid c2; have F2 := Lib.hid f2; have S2 := Lib.hid s2; have C3 := Lib.hid c3; have F3 := Lib.hid f3; have S3 := Lib.hid s3; have D2 := Lib.hid d2; have G2 := Lib.hid g2f
  have ix := i33 x; have ox := o33 x
  have ixl : (Tryz.prog.info? 144).map (·.size) = some x.row.toList.length := ix
  have zx : lt0.row.size = x.row.size := rfl
  generalize ((E k).first + 1) % 8 = f' at *
  generalize (E k).many - 1 = m' at *
  generalize (E k).first = f at *
  generalize (E k).many = m at *
  generalize boC (upB E k (takeB (E k))) nb = Z3 at *
  generalize boC E2 nb = Z2 at *
  generalize boC E1 nb = Z1 at *
  generalize boC E nb = Z0 at *
  generalize x.row = X at *
  have HL0 := Lib.hid hrow0
  generalize lt0.row = O at *
  clear d2 g2f c1 g1 th st c2 f2 s2 c3 f3 s3 hE1 hE2 hf1 hm2 e2 h1 h2 hok hm h hV hrow0 hx
  go_enter Tryz.func160, Tryz.ntmps160
  go_wp2
  rw [HV.out]
  refine QA.wp_region_a 9 10 (PB w B 285 Z0 [(n, 144, O)]) (PG w B 285 Z0 [(n, 144, O)] 144 O) (PG w B 285 Z0 [(n, 144, O)] 144 X) (by kernel_rfl) (by kernel_rfl) p0.drew ?_
  iterate 9
    (refine QA.wpA_step (by decide) (fun K hK => ?_)
     go_simp
     first
       | (refine hK _ ?_; clear hK K)
       | (refine ⟨?_, hK _ ?_⟩; decide; clear hK K)
       | ((first | (apply Exists.intro; refine ⟨?_, hK _ ?_⟩) | refine ⟨⟨undef, ?_⟩, hK _ ?_⟩)
          first
            | (apply QA.al_p; decide; (focus (intro gx wq hS hq; (cases hS); (first | (have cf := C1.out _ _ hq) | (have cf := C1.out _ _ hq.pb) | skip); first | (first | ((with_reducible refine QP.oat_load_mid (ty := 144) (x := .tmp 11) (b := B) (off := k * 35 + f * 4) ?_ ?_ X.toList _ (G1.out _ _ hq) Tryz.underlying144 ?_ ixl hq); rfl; rfl; rfl) | ((with_reducible refine QP.oat_load_mid (ty := 144) (x := .tmp 11) (b := B) (off := k * 35 + f * 4) ?_ ?_ X.toList _ (G1.out _ _ hq.pb) Tryz.underlying144 ?_ ixl hq); rfl; rfl; rfl)) | (unfold QP.oat; go_simp; first | done | exact ⟨by assumption, rfl⟩ | exact rfl | assumption | (fail)))))
            | (apply QA.al_o; decide; (first | (apply Or.inl; decide) | (apply Or.inr; (focus (intro wq hq; (first | (have cf := C1.out _ _ hq) | (have cf := C1.out _ _ hq.pb) | skip); first | (first | ((with_reducible refine QP.oat_load_mid (ty := 144) (x := .tmp 11) (b := B) (off := k * 35 + f * 4) ?_ ?_ X.toList _ (G1.out _ _ hq) Tryz.underlying144 ?_ ixl hq); rfl; rfl; rfl) | ((with_reducible refine QP.oat_load_mid (ty := 144) (x := .tmp 11) (b := B) (off := k * 35 + f * 4) ?_ ?_ X.toList _ (G1.out _ _ hq.pb) Tryz.underlying144 ?_ ixl hq); rfl; rfl; rfl)) | (unfold QP.oat; go_simp; first | done | exact ⟨by assumption, rfl⟩ | exact rfl | assumption | (fail)))))); (first | (apply Or.inl; decide) | (apply Or.inr; apply Or.inl; decide) | (apply Or.inr; apply Or.inr; (focus (intro gx wq hS hq; (cases hS); (first | (have cf := C1.out _ _ hq) | (have cf := C1.out _ _ hq.pb) | skip); first | (first | ((with_reducible refine QP.oat_load_mid (ty := 144) (x := .tmp 11) (b := B) (off := k * 35 + f * 4) ?_ ?_ X.toList _ (G1.out _ _ hq) Tryz.underlying144 ?_ ixl hq); rfl; rfl; rfl) | ((with_reducible refine QP.oat_load_mid (ty := 144) (x := .tmp 11) (b := B) (off := k * 35 + f * 4) ?_ ?_ X.toList _ (G1.out _ _ hq.pb) Tryz.underlying144 ?_ ixl hq); rfl; rfl; rfl)) | (unfold QP.oat; go_simp; first | done | exact ⟨by assumption, rfl⟩ | exact rfl | assumption | (fail)))))); (first | (apply Or.inl; decide) | (apply Or.inr; apply Or.inl; decide) | (apply Or.inr; apply Or.inr; (focus (intro gx wq hS hq; (cases hS); (first | (have cf := C1.out _ _ hq) | (have cf := C1.out _ _ hq.pb) | skip); first | (first | ((with_reducible refine QP.oat_load_mid (ty := 144) (x := .tmp 11) (b := B) (off := k * 35 + f * 4) ?_ ?_ X.toList _ (G1.out _ _ hq) Tryz.underlying144 ?_ ixl hq); rfl; rfl; rfl) | ((with_reducible refine QP.oat_load_mid (ty := 144) (x := .tmp 11) (b := B) (off := k * 35 + f * 4) ?_ ?_ X.toList _ (G1.out _ _ hq.pb) Tryz.underlying144 ?_ ixl hq); rfl; rfl; rfl)) | (unfold QP.oat; go_simp; first | done | exact ⟨by assumption, rfl⟩ | exact rfl | assumption | (fail)))))))
          clear hK K))
  refine QA.wpA_alloc (by decide) rfl ?_ ?_
  · intro g _ wq hq hsz
    unfold QP.oat
    go_simp
    exact HL0.out ▸ PG.of hq hsz 144 O
  intro gn _
  iterate 1
    (refine QA.wpA_step (by decide) (fun K hK => ?_)
     go_simp
     first
       | (refine hK _ ?_; clear hK K)
       | (refine ⟨?_, hK _ ?_⟩; decide; clear hK K)
       | ((first | (apply Exists.intro; refine ⟨?_, hK _ ?_⟩) | refine ⟨⟨undef, ?_⟩, hK _ ?_⟩)
          first
            | (apply QA.al_p; decide; (focus (intro gx wq hS hq; (cases hS); (skip); first | (((with_reducible refine QP.oat_store_row (ty := 144) (x := .tmp 3) (y := .tmp 12) (g := _) (cells := X) (t := 144) (old := O) ?_ ?_ ?_ hq.row ix zx ox (hq.setRow X)); rfl; rfl; rfl)) | (unfold QP.oat; go_simp; first | done | exact ⟨by assumption, rfl⟩ | exact rfl | assumption | (fail)))))
            | (apply QA.al_o; decide; (first | (apply Or.inl; decide) | (apply Or.inr; (focus (intro wq hq; (skip); first | (((with_reducible refine QP.oat_store_row (ty := 144) (x := .tmp 3) (y := .tmp 12) (g := _) (cells := X) (t := 144) (old := O) ?_ ?_ ?_ hq.row ix zx ox (hq.setRow X)); rfl; rfl; rfl)) | (unfold QP.oat; go_simp; first | done | exact ⟨by assumption, rfl⟩ | exact rfl | assumption | (fail)))))); (first | (apply Or.inl; decide) | (apply Or.inr; apply Or.inl; decide) | (apply Or.inr; apply Or.inr; (focus (intro gx wq hS hq; (cases hS); (skip); first | (((with_reducible refine QP.oat_store_row (ty := 144) (x := .tmp 3) (y := .tmp 12) (g := _) (cells := X) (t := 144) (old := O) ?_ ?_ ?_ hq.row ix zx ox (hq.setRow X)); rfl; rfl; rfl)) | (unfold QP.oat; go_simp; first | done | exact ⟨by assumption, rfl⟩ | exact rfl | assumption | (fail)))))); (first | (apply Or.inl; decide) | (apply Or.inr; apply Or.inl; decide) | (apply Or.inr; apply Or.inr; (focus (intro gx wq hS hq; (cases hS); (skip); first | (((with_reducible refine QP.oat_store_row (ty := 144) (x := .tmp 3) (y := .tmp 12) (g := _) (cells := X) (t := 144) (old := O) ?_ ?_ ?_ hq.row ix zx ox (hq.setRow X)); rfl; rfl; rfl)) | (unfold QP.oat; go_simp; first | done | exact ⟨by assumption, rfl⟩ | exact rfl | assumption | (fail)))))))
          clear hK K))
  refine QA.wpA_nil ?_
  rintro g2 rfl wz bz
  go_wp2_with fail
  refine QT.wp_region_p 9 (PG w B 285 Z0 [(n, 144, O)] 144 X g2) (PG w B 285 Z1 [(n, 144, O)] 144 X g2) (by kernel_rfl) (by kernel_rfl) bz.drew ?_
  iterate 10
    (refine QT.wpQ_step (fun K hK => ?_)
     go_simp
     first
       | (refine hK _ ?_; clear hK K)
       | (refine ⟨?_, hK _ ?_⟩; decide; clear hK K)
       | ((first | (apply Exists.intro; refine ⟨?_, hK _ ?_⟩) | refine ⟨⟨undef, ?_⟩, hK _ ?_⟩)
          first
            | (apply QT.al_p; decide; (focus (intro wq hq; (first | (have cf := C1.out _ _ hq.pb) | skip); first | (((with_reducible refine oat_store_mid (ty := 144) (x := .tmp 21) (y := .tmp 18) (b := B) (off := k * 35 + f * 4) (cells := #[.int .i64 0, .int .i64 0, .int .i64 0, .string ⟨#[]⟩]) ?_ ?_ ?_ (HL0.out ▸ TH.out _ _ hq.pb) (HL0.out ▸ i0) (HL0.out ▸ o0) (HL0.out ▸ ST.out _ _ _ hq)); rfl; rfl; rfl)) | (unfold QP.oat; go_simp; first | done | exact ⟨by assumption, rfl⟩ | exact rfl | assumption | (fail)))))
            | (apply QT.al_dep; decide; decide; (focus (intro wq hq; (first | (have cf := C1.out _ _ hq.pb) | skip); first | (((with_reducible refine oat_store_mid (ty := 144) (x := .tmp 21) (y := .tmp 18) (b := B) (off := k * 35 + f * 4) (cells := #[.int .i64 0, .int .i64 0, .int .i64 0, .string ⟨#[]⟩]) ?_ ?_ ?_ (HL0.out ▸ TH.out _ _ hq.pb) (HL0.out ▸ i0) (HL0.out ▸ o0) (HL0.out ▸ ST.out _ _ _ hq)); rfl; rfl; rfl)) | (unfold QP.oat; go_simp; first | done | exact ⟨by assumption, rfl⟩ | exact rfl | assumption | (fail)))))
            | (apply QT.al_bef; decide; decide; (focus (intro wq hq; (first | (have cf := C1.out _ _ hq.pb) | skip); first | (((with_reducible refine oat_store_mid (ty := 144) (x := .tmp 21) (y := .tmp 18) (b := B) (off := k * 35 + f * 4) (cells := #[.int .i64 0, .int .i64 0, .int .i64 0, .string ⟨#[]⟩]) ?_ ?_ ?_ (HL0.out ▸ TH.out _ _ hq.pb) (HL0.out ▸ i0) (HL0.out ▸ o0) (HL0.out ▸ ST.out _ _ _ hq)); rfl; rfl; rfl)) | (unfold QP.oat; go_simp; first | done | exact ⟨by assumption, rfl⟩ | exact rfl | assumption | (fail)))))
            | (apply QT.al_ok; decide; (focus (intro wq hq; (first | (have cf := C1.out _ _ hq.pb) | skip); first | (((with_reducible refine oat_store_mid (ty := 144) (x := .tmp 21) (y := .tmp 18) (b := B) (off := k * 35 + f * 4) (cells := #[.int .i64 0, .int .i64 0, .int .i64 0, .string ⟨#[]⟩]) ?_ ?_ ?_ (HL0.out ▸ TH.out _ _ hq.pb) (HL0.out ▸ i0) (HL0.out ▸ o0) (HL0.out ▸ ST.out _ _ _ hq)); rfl; rfl; rfl)) | (unfold QP.oat; go_simp; first | done | exact ⟨by assumption, rfl⟩ | exact rfl | assumption | (fail)))); (focus (intro wq hq; (first | (have cf := C1.out _ _ hq.pb) | skip); first | (((with_reducible refine oat_store_mid (ty := 144) (x := .tmp 21) (y := .tmp 18) (b := B) (off := k * 35 + f * 4) (cells := #[.int .i64 0, .int .i64 0, .int .i64 0, .string ⟨#[]⟩]) ?_ ?_ ?_ (HL0.out ▸ TH.out _ _ hq.pb) (HL0.out ▸ i0) (HL0.out ▸ o0) (HL0.out ▸ ST.out _ _ _ hq)); rfl; rfl; rfl)) | (unfold QP.oat; go_simp; first | done | exact ⟨by assumption, rfl⟩ | exact rfl | assumption | (fail)))))
          clear hK K))
  refine QT.wpQ_nil ?_
  intro wy b2
  have cf := C2.out _ _ b2.pb
  have ff := F2.out _ _ b2.pb
  have cm := D2.out _ _ b2.pb
  have fm := G2.out _ _ b2.pb
  have s3 := S3.out _ _ (S2.out _ _ b2.pb)
  have rX := s3.at g2 144 X (by simp)
  have rN := s3.at n 144 O (by simp)
  have k3 := (s3.sub (L' := [(n, 144, O)]) (by simp)).setRow (fun x hx => by simp at hx) X
  have K3 := Lib.hid k3
  clear s3 k3 b2
  go_wp2_with (first
    | (refine wpList_load_row (x := .tmp 3) (ty := 144) (g := g2) (cs := X) (t := 144) (fr := (0, 0)) ?_ ?_ ?_ _ rX Tryz.underlying144 rfl ix ?_; rfl; rfl; rfl)
    | (refine wpList_store_row (x := .tmp 2) (y := .tmp 38) (cells := X) (old := O) (t := 144) (ty := 144) (g := n) ?_ ?_ ?_ ?_ rN ix zx ox ?_; rfl; rfl; rfl; rfl)
    | fail)
  have hload := run_loadVar_row (P := Tryz.prog) _ n 144 144 X (0, 0) _ (K3.out.at n 144 X (by simp)) Tryz.underlying144 rfl ix
  exact bodyPost_ret (v := .agg X) (by simp [results, Tryz.results160, asAddr, Act.put, hload]) rfl ⟨rfl, K3.out.row, K3.out.but⟩
end Go.Proofs.YtdebnbgjgkbmaaaGreatDoor.Po
namespace Go.Proofs.YtdebnbgjgkbmaaaGreatDoor.Po
open Go.RowKit
set_option linter.unusedVariables false
/-- a post: its own block, and the boxes' one -/
structure Pt (p B nb : Nat) (E : Nat → Bx) (w : World) : Prop where
  hp : M.RowAt w p 276 #[.slice (some ⟨B, 0, none⟩) nb nb]
  hB : M.RowAt w B 285 (boC E nb)
  ne : p ≠ B
  nb1 : 1 ≤ nb
  nb64 : nb ≤ 64
  ok : ∀ k, BxOk (E k)
section
variable {p B nb : Nat} {E E' : Nat → Bx} {w w' : World}
theorem Pt.same (h : Pt p B nb E w) (hb : Below w.heap.size w w') : Pt p B nb E w' := ⟨h.hp.call hb, h.hB.call hb, h.ne, h.nb1, h.nb64, h.ok⟩
theorem Pt.alloc (h : Pt p B nb E w) (o : Obj) : Pt p B nb E (w.alloc o) := h.same ((Below.refl _ _).alloc (Nat.le_refl _) o)
theorem Pt.drew (h : Pt p B nb E w) : Pt p B nb E w.drew := ⟨h.hp, h.hB, h.ne, h.nb1, h.nb64, h.ok⟩
theorem Pt.call (h : Pt p B nb E w) (hb : M.But B w w') (hr : M.RowAt w' B 285 (boC E' nb)) (hok : ∀ k, BxOk (E' k)) : Pt p B nb E' w' := ⟨hb.row h.hp h.ne, hr, h.ne, h.nb1, h.nb64, hok⟩
theorem Pt.ltp (h : Pt p B nb E w) : p < w.heap.size := h.hp.lt
theorem Pt.ltB (h : Pt p B nb E w) : B < w.heap.size := h.hB.lt
end
def es2 (E : Nat → Bx) (x : Int) : List Int := [openE (E x.toNat), fullE (E x.toNat)]
section
variable {p B nb : Nat} {E : Nat → Bx} {w : World}
theorem ask_two (h : Pt p B nb E w) (x : Int) (g : Nat) (hg : M.RowAt w g 280 #[.func (.func 161) #[] #[], .func (.func 162) #[] #[]]) :
    Calls Tryz.prog 158 #[.pointer (some ⟨p, 0, none⟩), .int .i64 x, .slice (some ⟨g, 0, none⟩) 2 2] w fun e w' => e = .returned (.tuple #[askP B nb x (es2 E x), .int .i64 (askE nb x (es2 E x))]) ∧ w = w' := by
  refine ask_any p B nb x w h.nb64 h.hp g 2 (fun j => if j = 0 then 161 else 162) (es2 E x) rfl (by decide) ?_ ?_ _ (fun _ => rfl)
  · intro j hj
    rw [hg.cell]
    match j, hj with
    | 0, _ => rfl
    | 1, _ => rfl
  · intro h0 h1 j hj
    have hk : x.toNat < nb := by omega
    match j, hj with
    | 0, _ => exact ⟨enters24, open_any h.hB hk⟩
    | 1, _ => exact ⟨enters25, full_any h.hB hk⟩
theorem ask_one (h : Pt p B nb E w) (x : Int) (g f : Nat) (r : Bx → Int) (en : Enters Tryz.prog f) (hf : ∀ k, k < nb → Calls Tryz.prog f #[.pointer (some ⟨B, k * 35, none⟩)] w fun e w' => e = .returned (.int .i64 (r (E k))) ∧ w = w') (hg : M.RowAt w g 280 #[.func (.func f) #[] #[]]) :
    Calls Tryz.prog 158 #[.pointer (some ⟨p, 0, none⟩), .int .i64 x, .slice (some ⟨g, 0, none⟩) 1 1] w fun e w' => e = .returned (.tuple #[askP B nb x [r (E x.toNat)], .int .i64 (askE nb x [r (E x.toNat)])]) ∧ w = w' := by
  refine ask_any p B nb x w h.nb64 h.hp g 1 (fun j => f) [r (E x.toNat)] rfl (by decide) ?_ ?_ _ (fun _ => rfl)
  · intro j hj
    rw [hg.cell]
    match j, hj with
    | 0, _ => rfl
  · intro h0 h1 j hj
    have hk : x.toNat < nb := by omega
    match j, hj with
    | 0, _ => exact ⟨en, hf _ hk⟩
theorem ask_empty (h : Pt p B nb E w) (x : Int) (g : Nat) (hg : M.RowAt w g 280 #[.func (.func 159) #[] #[]]) :
    Calls Tryz.prog 158 #[.pointer (some ⟨p, 0, none⟩), .int .i64 x, .slice (some ⟨g, 0, none⟩) 1 1] w fun e w' => e = .returned (.tuple #[askP B nb x [emptyE (E x.toNat)], .int .i64 (askE nb x [emptyE (E x.toNat)])]) ∧ w = w' :=
  ask_one h x g 159 emptyE enters27 (fun k hk => empty_any h.hB hk) hg
theorem ask_zero (h : Pt p B nb E w) (x : Int) :
    Calls Tryz.prog 158 #[.pointer (some ⟨p, 0, none⟩), .int .i64 x, .slice none 0 0] w fun e w' => e = .returned (.tuple #[askP B nb x [], .int .i64 (askE nb x [])]) ∧ w = w' :=
  ask_any p B nb x w h.nb64 h.hp 0 0 (fun j => 0) [] rfl (by decide) (fun j hj => absurd hj (by omega)) (fun _ _ j hj => absurd hj (by omega)) none (fun h => absurd rfl h)
end
theorem askP_ok {B nb : Nat} {x : Int} {es : List Int} (h0 : 0 ≤ x) (h1 : x < (nb : Int)) (h : firstE es = 0) : askP B nb x es = .pointer (some ⟨B, x.toNat * 35, none⟩) ∧ askE nb x es = 0 := by
  unfold askP askE; rw [if_pos ⟨h0, h1, h⟩, if_pos ⟨h0, h1⟩]; exact ⟨rfl, h⟩
theorem askP_no {B nb : Nat} {x : Int} {es : List Int} {e : Int} (he : e ≠ 0) (h : askE nb x es = e) : askP B nb x es = .pointer none := by
  unfold askP; unfold askE at h
  by_cases hx : 0 ≤ x ∧ x < (nb : Int)
  · rw [if_pos hx] at h
    rw [if_neg (by rintro ⟨_, _, h2⟩; exact he (h.symm.trans h2))]
  · rw [if_neg (by rintro ⟨h0, h1, _⟩; exact hx ⟨h0, h1⟩)]
/-- what Send answers and leaves -/
def sendR (nb : Nat) (E : Nat → Bx) (x : Int) : Int := if 0 ≤ x ∧ x < (nb : Int) then (if (E x.toNat).shut then 135 else if (E x.toNat).many = 8 then 160 else 0) else 3
def sendB (nb : Nat) (E : Nat → Bx) (x : Lt) : Nat → Bx := if sendR nb E x.to = 0 then upB E x.to.toNat (putB (E x.to.toNat) x) else E
theorem sendR_eq (nb : Nat) (E : Nat → Bx) (x : Int) : askE nb x (es2 E x) = sendR nb E x := by
  unfold askE sendR es2 firstE openE fullE
  split
  · cases (E x.toNat).shut <;> by_cases h : (E x.toNat).many = 8 <;> simp [firstE, h]
  · rfl
theorem sendR_zero {nb : Nat} {E : Nat → Bx} {x : Int} (h : sendR nb E x = 0) : 0 ≤ x ∧ x < (nb : Int) ∧ (E x.toNat).shut = false ∧ (E x.toNat).many ≠ 8 := by
  unfold sendR at h
  split at h
  · rename_i hx
    split at h
    · cases h
    · rename_i hs
      split at h
      · cases h
      · rename_i hm
        exact ⟨hx.1, hx.2, by simpa using hs, hm⟩
  · cases h
theorem ok_up {E : Nat → Bx} (h : ∀ k, BxOk (E k)) {k : Nat} {b : Bx} (hb : BxOk b) : ∀ i, BxOk (upB E k b i) := fun i => by
  unfold upB; split
  · exact hb
  · exact h i
theorem send_ok {nb : Nat} {E : Nat → Bx} {x : Lt} (h : ∀ k, BxOk (E k)) : ∀ k, BxOk (sendB nb E x k) := by
  unfold sendB
  split
  · rename_i hs
    exact ok_up h (put_ok (h _) (sendR_zero hs).2.2.2 x)
  · exact h
set_option maxRecDepth 100000 in
set_option maxHeartbeats 4000000 in
theorem send_any {p B nb : Nat} {E : Nat → Bx} {w : World} (h : Pt p B nb E w) (x : Lt) :
    Calls Tryz.prog 72 #[.pointer (some ⟨p, 0, none⟩), .agg x.row] w fun e w' => e = .returned (.int .i64 (sendR nb E x.to)) ∧ M.RowAt w' B 285 (boC (sendB nb E x) nb) ∧ M.But B w w' := by
  obtain ⟨n, hsz⟩ : ∃ n, w.heap.size = n := ⟨_, rfl⟩
  have p0 := (PB.start h.hB).new 144 x.row
  have p1 := p0.new 280 #[.func (.func 161) #[] #[], .func (.func 162) #[] #[]]
  have t1 := (h.alloc (.cells x.row 144)).alloc (.cells #[.func (.func 161) #[] #[], .func (.func 162) #[] #[]] 280)
  rw [World.size_alloc, hsz] at p1
  rw [hsz] at p0
  have c0 : (w.alloc (.cells x.row 144)).cell? ⟨n, 0, none⟩ = some (.int .i64 x.to) := (M.RowAt.cell (p0.rows (n, 144, x.row) (by simp)) 0).trans rfl
  have ask := ask_two t1 x.to (n + 1) (p1.rows (n + 1, 280, _) (by simp))
  rw [sendR_eq] at ask
  obtain ⟨V, hV⟩ : ∃ V, w.alloc (.cells x.row 144) = V := ⟨_, rfl⟩
  rw [hV] at p1 c0 ask
  have hVs : V.heap.size = n + 1 := by rw [← hV]; simp [hsz]
  have HV := Lib.hid hV
  have AS := Lib.hid ask
  have ix := i33 x
  have hp2 := h.nb64
  have hok := h.ok
  clear ask hV p0 t1
  by_cases hr : sendR nb E x.to = 0
  · have hsb : sendB nb E x = upB E x.to.toNat (putB (E x.to.toNat) x) := by unfold sendB; rw [if_pos hr]
    obtain ⟨h0, h1, h2, h3⟩ := sendR_zero hr
    have hP : askP B nb x.to (es2 E x.to) = .pointer (some ⟨B, x.to.toNat * 35, none⟩) := (askP_ok h0 h1 (by have := sendR_eq nb E x.to; unfold askE at this; rw [if_pos ⟨h0, h1⟩] at this; rw [this]; exact hr)).1
    rw [hP, hr] at AS
    rw [hsb, hr]
    have put := fun v (c : M.RowAt v B 285 (boC E nb)) => put_any B nb x.to.toNat E x v c (by omega) hp2 (hok _) h3
    have PUT := Lib.hid put
    generalize x.to.toNat = k at *
    generalize boC (upB E k (putB (E k) x)) nb = Z1 at *
    generalize boC E nb = Z0 at *
    generalize x.to = xt at *
    generalize x.row = X at *
    clear put hP hr hsb h0 h1 h2 h3 h hok
    go_enter Tryz.func72, Tryz.ntmps72
    go_wp2_with (first | (rw [HV.out]) | fail)
    refine (AS.out).mono ?_
    rintro e w1 ⟨rfl, rfl⟩
    have rx := p1.at n 144 X (by simp)
    go_wp2_with (first
      | (refine wpList_load_row (x := .tmp 3) (ty := 144) (g := n) (cs := X) (t := 144) (fr := (0, 0)) ?_ ?_ ?_ _ rx Tryz.underlying144 rfl ix ?_; rfl; rfl; rfl)
      | fail)
    refine (PUT.out _ p1.row).mono ?_
    rintro e w2 ⟨rfl, hr2, hb2⟩
    have p2 := p1.call hb2 hr2
    go_wp2
    go_ret
    exact ⟨rfl, p2.row, p2.but⟩
  · have hsb : sendB nb E x = E := by unfold sendB; rw [if_neg hr]
    have hP : askP B nb x.to (es2 E x.to) = .pointer none := askP_no hr (sendR_eq nb E x.to)
    rw [hP] at AS
    rw [hsb]
    generalize sendR nb E x.to = R at *
    have hd : (R == 0) = false := by simpa using hr
    generalize boC E nb = Z0 at *
    generalize x.to = xt at *
    generalize x.row = X at *
    clear hP hsb h hok
    go_enter Tryz.func72, Tryz.ntmps72
    go_wp2_with (first | (rw [HV.out]) | fail)
    refine (AS.out).mono ?_
    rintro e w1 ⟨rfl, rfl⟩
    go_wp2
    go_ret
    exact ⟨rfl, p1.row, p1.but⟩
/-- what Take answers and leaves -/
def takeR (nb : Nat) (E : Nat → Bx) (x : Int) : Int := if 0 ≤ x ∧ x < (nb : Int) ∧ (E x.toNat).many ≠ 0 then 0 else 3
def takeV (nb : Nat) (E : Nat → Bx) (x : Int) : Lt := if takeR nb E x = 0 then (E x.toNat).ring (E x.toNat).first else lt0
def takeE (nb : Nat) (E : Nat → Bx) (x : Int) : Nat → Bx := if takeR nb E x = 0 then upB E x.toNat (takeB (E x.toNat)) else E
theorem takeR_eq (nb : Nat) (E : Nat → Bx) (x : Int) : askE nb x [emptyE (E x.toNat)] = takeR nb E x := by
  unfold askE takeR emptyE
  by_cases h : 0 ≤ x ∧ x < (nb : Int)
  · by_cases h2 : (E x.toNat).many = 0 <;> simp [firstE, h, h2]
  · rw [if_neg h, if_neg (fun h2 => h ⟨h2.1, h2.2.1⟩)]
theorem takeR_zero {nb : Nat} {E : Nat → Bx} {x : Int} (h : takeR nb E x = 0) : 0 ≤ x ∧ x < (nb : Int) ∧ (E x.toNat).many ≠ 0 := by
  unfold takeR at h
  split at h
  · assumption
  · cases h
theorem take_okE {nb : Nat} {E : Nat → Bx} {x : Int} (h : ∀ k, BxOk (E k)) : ∀ k, BxOk (takeE nb E x k) := by
  unfold takeE
  split
  · exact ok_up h (take_ok (h _))
  · exact h
set_option maxRecDepth 100000 in
set_option maxHeartbeats 4000000 in
theorem takep_any {p B nb : Nat} {E : Nat → Bx} {w : World} (h : Pt p B nb E w) (x : Int) :
    Calls Tryz.prog 71 #[.pointer (some ⟨p, 0, none⟩), .int .i64 x] w fun e w' => e = .returned (.tuple #[.agg (takeV nb E x).row, .int .i64 (takeR nb E x)]) ∧ M.RowAt w' B 285 (boC (takeE nb E x) nb) ∧ M.But B w w' := by
  obtain ⟨n, hsz⟩ : ∃ n, w.heap.size = n := ⟨_, rfl⟩
  have p0 := (PB.start h.hB).new 144 lt0.row
  have p1 := p0.new 280 #[.func (.func 159) #[] #[]]
  have t1 := (h.alloc (.cells lt0.row 144)).alloc (.cells #[.func (.func 159) #[] #[]] 280)
  rw [World.size_alloc, hsz] at p1
  rw [hsz] at p0
  have ask := ask_empty t1 x (n + 1) (p1.rows (n + 1, 280, _) (by simp))
  rw [takeR_eq] at ask
  obtain ⟨V, hV⟩ : ∃ V, w.alloc (.cells lt0.row 144) = V := ⟨_, rfl⟩
  rw [hV] at p1 ask
  have hVs : V.heap.size = n + 1 := by rw [← hV]; simp [hsz]
  have hrow0 : lt0.row = #[.int .i64 0, .int .i64 0, .int .i64 0, .string ⟨#[]⟩] := rfl
  rw [hrow0] at hV
  have HV := Lib.hid hV
  have AS := Lib.hid ask
  have i0 := i33 lt0; have o0 := o33 lt0
  have hp2 := h.nb64
  have hok := h.ok
  clear ask hV p0 t1
  by_cases hr : takeR nb E x = 0
  · have hsb : takeE nb E x = upB E x.toNat (takeB (E x.toNat)) := by unfold takeE; rw [if_pos hr]
    have hsv : takeV nb E x = (E x.toNat).ring (E x.toNat).first := by unfold takeV; rw [if_pos hr]
    obtain ⟨h0, h1, h2⟩ := takeR_zero hr
    have hP : askP B nb x [emptyE (E x.toNat)] = .pointer (some ⟨B, x.toNat * 35, none⟩) := (askP_ok h0 h1 (by have := takeR_eq nb E x; unfold askE at this; rw [if_pos ⟨h0, h1⟩] at this; rw [this]; exact hr)).1
    rw [hP, hr] at AS
    rw [hsb, hr, hsv]
    have take := fun v (c : M.RowAt v B 285 (boC E nb)) => take_any B nb x.toNat E v c (by omega) hp2 (hok _) h2
    have TAKE := Lib.hid take
    have ix := i33 ((E x.toNat).ring (E x.toNat).first); have ox := o33 ((E x.toNat).ring (E x.toNat).first)
    have zx : lt0.row.size = ((E x.toNat).ring (E x.toNat).first).row.size := rfl
    generalize ((E x.toNat).ring (E x.toNat).first).row = X at *
    generalize x.toNat = k at *
    generalize boC (upB E k (takeB (E k))) nb = Z1 at *
    generalize boC E nb = Z0 at *
    have HR0 := Lib.hid hrow0
    generalize lt0.row = O at *
    clear take hP hr hsb h0 h1 h2 h hok hsv hrow0
    go_enter Tryz.func71, Tryz.ntmps71
    go_wp2_with (first | (rw [HV.out]) | fail)
    refine (AS.out).mono ?_
    rintro e w1 ⟨rfl, rfl⟩
    go_wp2_with fail
    refine (TAKE.out _ p1.row).mono ?_
    rintro e w2 ⟨rfl, hr2, hb2⟩
    have p2 := p1.call hb2 hr2
    have rN := p2.at n 144 O (by simp)
    have p3 := (p2.sub (L' := [(n, 144, O)]) (by simp)).setRow (fun x hx => by simp at hx) X
    have P3 := Lib.hid p3
    clear p3 p2 p1 hr2 hb2
    go_wp2_with (first
      | (refine wpList_store_row (x := .tmp 4) (y := .tmp 20) (cells := X) (old := O) (t := 144) (ty := 144) (g := n) ?_ ?_ ?_ ?_ rN ix zx ox ?_; rfl; rfl; rfl; rfl)
      | fail)
    have hload := run_loadVar_row (P := Tryz.prog) _ n 144 144 X (0, 0) _ (P3.out.at n 144 X (by simp)) Tryz.underlying144 rfl ix
    exact bodyPost_ret (v := .tuple #[.agg X, .int .i64 0]) (by simp [results, Tryz.results71, asAddr, hload]) rfl ⟨rfl, P3.out.row, P3.out.but⟩
  · have hsb : takeE nb E x = E := by unfold takeE; rw [if_neg hr]
    have hsv : takeV nb E x = lt0 := by unfold takeV; rw [if_neg hr]
    have hP : askP B nb x [emptyE (E x.toNat)] = .pointer none := askP_no hr (takeR_eq nb E x)
    rw [hP] at AS
    rw [hsb, hsv]
    generalize takeR nb E x = R at *
    have hd : (R == 0) = false := by simpa using hr
    generalize boC E nb = Z0 at *
    have HR0 := Lib.hid hrow0
    generalize lt0.row = O at *
    have rN := p1.at n 144 O (by simp)
    have p3 := (p1.sub (L' := [(n, 144, O)]) (by simp)).setRow (fun x hx => by simp at hx) O
    have P3 := Lib.hid p3
    have il : (Tryz.prog.info? 144).map (·.size) = some (#[Value.int .i64 0, .int .i64 0, .int .i64 0, .string ⟨#[]⟩] : Array Value).size := by kernel_rfl
    have ol : (#[Value.int .i64 0, .int .i64 0, .int .i64 0, .string ⟨#[]⟩] : Array Value).all (·.oneCell') = true := HR0.out ▸ o0
    have zl : O.size = (#[Value.int .i64 0, .int .i64 0, .int .i64 0, .string ⟨#[]⟩] : Array Value).size := HR0.out ▸ rfl
    clear hP hsb h hok p3 hsv hrow0
    go_enter Tryz.func71, Tryz.ntmps71
    go_wp2_with (first | (rw [HV.out]) | fail)
    refine (AS.out).mono ?_
    rintro e w1 ⟨rfl, rfl⟩
    go_wp2_with (first
      | (refine wpList_store_row (x := .tmp 4) (y := .tmp 17) (cells := #[.int .i64 0, .int .i64 0, .int .i64 0, .string ⟨#[]⟩]) (old := O) (t := 144) (ty := 144) (g := n) ?_ ?_ ?_ ?_ rN il zl ol ?_; rfl; rfl; rfl; rfl; rw [← HR0.out])
      | fail)
    have hload := run_loadVar_row (P := Tryz.prog) _ n 144 144 O (0, 0) _ (P3.out.at n 144 O (by simp)) Tryz.underlying144 rfl i0
    exact bodyPost_ret (v := .tuple #[.agg O, .int .i64 R]) (by simp [results, Tryz.results71, asAddr, hload]) rfl ⟨rfl, P3.out.row, P3.out.but⟩
/-- what Len returns -/
def lenR (nb : Nat) (E : Nat → Bx) (x : Int) : Int := if 0 ≤ x ∧ x < (nb : Int) then ((E x.toNat).many : Nat) else 0
set_option maxRecDepth 100000 in
set_option maxHeartbeats 4000000 in
theorem len_any {p B nb : Nat} {E : Nat → Bx} {w : World} (h : Pt p B nb E w) (x : Int) :
    Calls Tryz.prog 73 #[.pointer (some ⟨p, 0, none⟩), .int .i64 x] w fun e w' => e = .returned (.int .i64 (lenR nb E x)) ∧ w = w' := by
  have ask := ask_zero h x
  unfold lenR
  by_cases hx : 0 ≤ x ∧ x < (nb : Int)
  · obtain ⟨e1, e2⟩ := askP_ok (B := B) (es := []) hx.1 hx.2 rfl
    rw [e1, e2] at ask
    rw [if_pos hx]
    have cm := bo_many h.hB (k := x.toNat) (by omega)
    generalize (E x.toNat).many = m at *
    generalize x.toNat = k at *
    have AS := Lib.hid ask
    clear ask e1 e2 h hx
    go_enter Tryz.func73, Tryz.ntmps73
    go_wp2_with fail
    refine (AS.out).mono ?_
    rintro e w1 ⟨rfl, rfl⟩
    go_wp2
    go_ret
    exact ⟨rfl, rfl⟩
  · have e2 : askE nb x [] = 3 := by unfold askE; rw [if_neg hx]
    rw [askP_no (e := 3) (by decide) e2, e2] at ask
    rw [if_neg hx]
    have AS := Lib.hid ask
    clear ask e2 h hx
    go_enter Tryz.func73, Tryz.ntmps73
    go_wp2_with fail
    refine (AS.out).mono ?_
    rintro e w1 ⟨rfl, rfl⟩
    go_wp2
    go_ret
    exact ⟨rfl, rfl⟩
end Go.Proofs.YtdebnbgjgkbmaaaGreatDoor.Po
namespace Go.Proofs.YtdebnbgjgkbmaaaGreatDoor.Po
open Go.RowKit
set_option linter.unusedVariables false
def bxRow : Array Value := ((List.range 35).map (bxCell bx0)).toArray
theorem info76 : (Tryz.prog.info? 285).map (fun i => (i.zero, i.size, i.bytes)) = some (some (.agg bxRow), 35, 344) := by kernel_rfl
theorem bxRow_get {j : Nat} (h : j < 35) : bxRow[j]? = some (bxCell bx0 j) := by unfold bxRow; simp [h]
theorem bxRow_size : bxRow.size = 35 := by unfold bxRow; simp
theorem made_boC (nb : Nat) : madeCells bxRow (nb * 35) = boC (fun _ => bx0) nb := by
  apply Array.ext_getElem?
  intro i
  unfold madeCells boC
  by_cases hi : i < nb * 35
  · rw [rowG_get hi, Array.getElem?_map, Array.getElem?_range, if_pos hi, bxRow_size]
    have h2 : i % 35 < 35 := Nat.mod_lt _ (by decide)
    have := bxRow_get h2
    show some (bxRow[i % 35]!) = _
    have hlt : i % 35 < bxRow.size := by rw [bxRow_size]; exact h2
    rw [getElem!_pos bxRow _ hlt]
    rw [Array.getElem?_eq_getElem hlt] at this; exact this
  · rw [rowG_out (by omega), Array.getElem?_map, Array.getElem?_range, if_neg hi]; rfl
theorem make_post (nb : Nat) (h : nb ≤ 64) (w : World) : (Instr.makeSlice 274 (.int .i64 (nb : Nat)) (.int .i64 (nb : Nat))).run Tryz.prog w = .ok (.slice (some ⟨w.heap.size, 0, none⟩) nb nb) (w.alloc (.cells (boC (fun _ => bx0) nb) 285)) := by
  obtain ⟨i0, hi, hz, hs, hb⟩ := info_parts info76
  have := run_make (P := Tryz.prog) w 274 285 i0 (.agg bxRow) Tryz.underlying274 hi hz .i64 .i64 (nb : Nat) (nb : Nat) (by omega) (Int.le_refl _) (by rw [hb]; omega) (by omega)
  rw [this, hs, Int.toNat_natCast]
  show Result.ok _ (w.alloc (.cells (madeCells bxRow (nb * 35)) 285)) = _
  rw [made_boC]
set_option maxRecDepth 100000 in
set_option maxHeartbeats 1000000 in
theorem new_yes (nb : Nat) (h1 : 1 ≤ nb) (h : nb ≤ 64) (w : World) :
    Calls Tryz.prog 70 #[.int .i64 (nb : Nat)] w fun e w' => e = .returned (.pointer (some ⟨w.heap.size + 1, 0, none⟩)) ∧ Pt (w.heap.size + 1) w.heap.size nb (fun _ => bx0) w' ∧ Below w.heap.size w w' := by
  obtain ⟨n, hn⟩ : ∃ n, w.heap.size = n := ⟨_, rfl⟩
  have HN := Lib.hid hn
  have mk := make_post nb h w
  have pt : Pt (n + 1) n nb (fun _ => bx0) ((w.alloc (.cells (boC (fun _ => bx0) nb) 285)).alloc (.cells #[.slice (some ⟨n, 0, none⟩) nb nb] 276)) := by
    refine ⟨?_, ?_, by omega, h1, h, fun _ => ok0⟩
    · have := M.RowAt.new (w.alloc (.cells (boC (fun _ => bx0) nb) 285)) 276 #[.slice (some ⟨n, 0, none⟩) nb nb]
      rw [World.size_alloc, hn] at this; exact this
    · have := M.RowAt.new w 285 (boC (fun _ => bx0) nb)
      rw [hn] at this; exact this.alloc _
  have bel : Below n w ((w.alloc (.cells (boC (fun _ => bx0) nb) 285)).alloc (.cells #[.slice (some ⟨n, 0, none⟩) nb nb] 276)) := ((Below.refl _ _).alloc (by omega) _).alloc (by simp; omega) _
  rw [hn] at mk
  have hd1 : decide ((nb : Int) < 1) = false := by simp; omega
  have hd2 : decide ((64 : Int) < (nb : Int)) = false := by simp; omega
  have e0 : (Ending.returned (.pointer (some ⟨w.heap.size + 1, 0, none⟩))) = .returned (.pointer (some ⟨n + 1, 0, none⟩)) := by rw [hn]
  rw [hn]
  generalize boC (fun _ => bx0) nb = Z at *
  clear e0
  go_enter Tryz.func70, Tryz.ntmps70
  go_wp2
  go_ret
  refine ⟨?_, pt, bel⟩
  simp
/-- all that the first k boxes have -/
def sumM (E : Nat → Bx) : Nat → Nat
  | 0 => 0
  | k + 1 => sumM E k + (E k).many
theorem sumM_le {E : Nat → Bx} (h : ∀ k, BxOk (E k)) : ∀ k, sumM E k ≤ 8 * k
  | 0 => Nat.le_refl _
  | k + 1 => by have := sumM_le h k; have := (h k).many; show sumM E k + (E k).many ≤ _; omega
set_option maxRecDepth 100000 in
set_option maxHeartbeats 1000000 in
theorem all_any {p B nb : Nat} {E : Nat → Bx} {w : World} (h : Pt p B nb E w) :
    Calls Tryz.prog 74 #[.pointer (some ⟨p, 0, none⟩)] w fun e w' => e = .returned (.int .i64 (sumM E nb : Nat)) ∧ w = w' := by
  have c0 : w.cell? ⟨p, 0, none⟩ = some (.slice (some ⟨B, 0, none⟩) nb nb) := (h.hp.cell 0).trans rfl
  have cm := fun j (hj : j < nb) => bo_many h.hB hj
  have le := sumM_le h.ok
  have h64 := h.nb64
  have CM := Lib.hid cm; have LE := Lib.hid le
  have hs : ∀ j, sumM E (j + 1) = sumM E j + (E j).many := fun j => rfl
  have HS := Lib.hid hs
  have hok := fun j => (h.ok j).many
  have OK := Lib.hid hok
  clear cm le h hs hok
  go_enter Tryz.func74, Tryz.ntmps74
  go_wp2
  go_loopw [3, 10] (fun s i v => ∃ j : Nat, j ≤ nb ∧ i = .int .i64 j ∧ s = .int .i64 (sumM E j : Nat) ∧ v = w) (fun _ i _ => nb - (intOf i).toNat)
  case atStart => exact ⟨0, Nat.zero_le _, rfl, rfl, rfl⟩
  case round =>
    obtain ⟨j, hj, rfl, rfl, rfl⟩ := hrel
    by_cases hlt : j < nb
    · have cm := CM.out j hlt
      have l1 := LE.out j
      have l2 := OK.out j
      have hs := HS.out j
      have HH := Lib.hid hs
      generalize sumM E j = s at *
      generalize (E j).many = m at *
      clear hs
      go_wp2
      go_roundw
      case rel => exact ⟨j + 1, by omega, by go_num, by rw [HH.out]; go_num, trivial⟩
      case measure => simp [intOf]; omega
    · obtain rfl : j = nb := by omega
      go_wp2
      go_ret
      exact ⟨rfl, rfl⟩
end Go.Proofs.YtdebnbgjgkbmaaaGreatDoor.Po
namespace Go.Proofs.YtdebnbgjgkbmaaaGreatDoor.Po
open Go.RowKit
set_option linter.unusedVariables false
/-- the letter i of the box k -/
def Lk (k i : Nat) : Lt := ⟨(k : Nat), 0, (i : Nat), ⟨#[]⟩⟩
def upN (f : Nat → Nat) (k x : Nat) : Nat → Nat := fun i => if i = k then x else f i
/-- what waits in the boxes is what was sent and not taken -/
structure Bs (E : Nat → Bx) (nx ls : Nat → Nat) (m : Nat) : Prop where
  ok : ∀ k, BxOk (E k)
  shut : ∀ k, k < 4 → (E k).shut = false
  le : ∀ k, k < 4 → ls k ≤ nx k
  mx : ∀ k, k < 4 → nx k ≤ m
  bl : ∀ k, k < 4 → bl (E k) = (List.range (nx k - ls k)).map fun i => Lk k (ls k + i)
theorem Bs.zero : Bs (fun _ => bx0) (fun _ => 0) (fun _ => 0) 0 := ⟨fun _ => ok0, fun _ _ => rfl, fun _ _ => Nat.le_refl _, fun _ _ => Nat.le_refl _, fun _ _ => rfl⟩
section
variable {E : Nat → Bx} {nx ls : Nat → Nat} {m k : Nat}
theorem Bs.more (h : Bs E nx ls m) : Bs E nx ls (m + 1) := ⟨h.ok, h.shut, h.le, fun k hk => Nat.le_succ_of_le (h.mx k hk), h.bl⟩
theorem Bs.many (h : Bs E nx ls m) (hk : k < 4) : (E k).many = nx k - ls k := by rw [← bl_len, h.bl k hk]; simp
theorem Bs.send_no (h : Bs E nx ls m) (hk : k < 4) (hm : nx k - ls k = 8) : sendR 4 E (k : Nat) = 160 := by
  unfold sendR
  rw [Int.toNat_natCast, if_pos ⟨by omega, by omega⟩, h.shut k hk, if_neg (by decide), h.many hk, if_pos hm]
theorem Bs.send_no' (h : Bs E nx ls m) (hk : k < 4) (hm : nx k - ls k = 8) (x : Lt) (hx : x.to = (k : Nat)) : sendB 4 E x = E := by
  unfold sendB; rw [hx, h.send_no hk hm, if_neg (by decide)]
theorem Bs.send_yes (h : Bs E nx ls m) (hk : k < 4) (hm : nx k - ls k ≠ 8) : sendR 4 E (k : Nat) = 0 := by
  unfold sendR
  rw [Int.toNat_natCast, if_pos ⟨by omega, by omega⟩, h.shut k hk, if_neg (by decide), h.many hk, if_neg hm]
theorem Bs.send (h : Bs E nx ls m) (hk : k < 4) (hm : nx k - ls k ≠ 8) : Bs (sendB 4 E (Lk k (nx k))) (upN nx k (nx k + 1)) ls (m + 1) := by
  have he : sendB 4 E (Lk k (nx k)) = upB E k (putB (E k) (Lk k (nx k))) := by
    unfold sendB
    show (if sendR 4 E (k : Nat) = 0 then upB E (k : Int).toNat (putB (E (k : Int).toNat) (Lk k (nx k))) else E) = _
    rw [if_pos (h.send_yes hk hm), Int.toNat_natCast]
  have h8 : (E k).many ≠ 8 := by rw [h.many hk]; exact hm
  refine ⟨send_ok h.ok, fun j hj => ?_, fun j hj => ?_, fun j hj => ?_, fun j hj => ?_⟩
  · rw [he]; unfold upB; split
    · exact h.shut k hk
    · exact h.shut j hj
  · unfold upN; split
    · rename_i e; subst e; have := h.le j hj; omega
    · exact h.le j hj
  · unfold upN; split
    · have := h.mx k hk; omega
    · have := h.mx j hj; omega
  · rw [he]
    unfold upB upN
    split
    · rename_i e; subst e
      rw [put_bl (h.ok j) h8, h.bl j hj, show nx j + 1 - ls j = nx j - ls j + 1 by have := h.le j hj; omega, List.range_succ, List.map_append]
      congr 1
      show [Lk j (nx j)] = [Lk j (ls j + (nx j - ls j))]
      rw [show ls j + (nx j - ls j) = nx j by have := h.le j hj; omega]
    · exact h.bl j hj
theorem Bs.take_no (h : Bs E nx ls m) (hk : k < 4) (hm : nx k = ls k) : takeR 4 E (k : Nat) = 3 ∧ takeE 4 E (k : Nat) = E ∧ takeV 4 E (k : Nat) = lt0 := by
  have hr : takeR 4 E (k : Nat) = 3 := by
    unfold takeR; rw [Int.toNat_natCast, if_neg (by rintro ⟨_, _, h3⟩; exact h3 (by rw [h.many hk, hm]; omega))]
  unfold takeE takeV
  rw [hr]
  exact ⟨rfl, rfl, rfl⟩
theorem Bs.take (h : Bs E nx ls m) (hk : k < 4) (hm : nx k ≠ ls k) : takeR 4 E (k : Nat) = 0 ∧ takeV 4 E (k : Nat) = Lk k (ls k) ∧ Bs (takeE 4 E (k : Nat)) nx (upN ls k (ls k + 1)) (m + 1) := by
  have hle := h.le k hk
  have hmany := h.many hk
  have h0 : (E k).many ≠ 0 := by omega
  have hr : takeR 4 E (k : Nat) = 0 := by
    unfold takeR; rw [Int.toNat_natCast, if_pos ⟨by omega, by omega, h0⟩]
  have hb := take_bl (h.ok k) h0
  obtain ⟨d, hd⟩ : ∃ d, nx k - ls k = d + 1 := ⟨nx k - ls k - 1, by omega⟩
  rw [h.bl k hk, hd, List.range_succ_eq_map, List.map_cons, Nat.add_zero, List.map_map] at hb
  injection hb with hb1 hb2
  have he : takeE 4 E (k : Nat) = upB E k (takeB (E k)) := by
    unfold takeE; rw [if_pos hr, Int.toNat_natCast]
  refine ⟨hr, ?_, ?_, ?_, ?_, ?_, ?_⟩
  · unfold takeV; rw [if_pos hr, Int.toNat_natCast, ← hb1]
  · rw [he]; exact ok_up h.ok (take_ok (h.ok k))
  · intro j hj; rw [he]; unfold upB; split
    · exact h.shut k hk
    · exact h.shut j hj
  · intro j hj; unfold upN; split
    · rename_i e; subst e; omega
    · exact h.le j hj
  · intro j hj; have := h.mx j hj; omega
  · intro j hj
    rw [he]; unfold upB upN; split
    · rename_i e; subst e
      rw [← hb2, show nx j - (ls j + 1) = d by omega]
      refine List.map_congr_left fun i _ => ?_
      show Lk j (ls j + (i + 1)) = _
      rw [show ls j + (i + 1) = ls j + 1 + i by omega]
    · exact h.bl j hj
end
end Go.Proofs.YtdebnbgjgkbmaaaGreatDoor.Po
namespace Go.Proofs.YtdebnbgjgkbmaaaGreatDoor
namespace QR
set_option linter.unusedVariables false
variable {P : Program}
def upd (L : Nat → Bool) (i : Nat) : Nat → Bool := fun j => if j = i then true else L j
def updV (V : Nat → Value) (i : Nat) (v : Value) : Nat → Value := fun j => if j = i then v else V j
/-- the act once these are listed, with these values -/
def putAll (L : Nat → Bool) (V : Nat → Value) : List Oper → Nat → Act → Act
  | [], _, a => a
  | o :: r, k, a => putAll L V r (k + 1) (if L k then a.put o.dst (V k) else a)
def apartB : List Oper → Bool
  | [] => true
  | o :: r => (r.all fun x => match o.dst with | some d => x.dst != some d | none => true) && apartB r
theorem putAll_comm {L : Nat → Bool} {V : Nat → Value} {x : Option Tmp} {v : Value} : ∀ (l : List Oper) (k : Nat) (a : Act), (∀ o ∈ l, ∀ d, x = some d → o.dst ≠ some d) → (putAll L V l k a).put x v = putAll L V l k (a.put x v)
  | [], _, _, _ => rfl
  | o :: r, k, a, h => by
    unfold putAll
    rw [putAll_comm r (k + 1) _ (fun o' ho' => h o' (List.mem_cons_of_mem _ ho'))]
    split
    · rw [Act.put_comm a v (V k) (h o List.mem_cons_self)]
    · rfl
theorem putAll_congr {L L' : Nat → Bool} {V V' : Nat → Value} : ∀ (l : List Oper) (k : Nat) (a : Act), (∀ j, k ≤ j → j < k + l.length → L j = L' j ∧ V j = V' j) → putAll L V l k a = putAll L' V' l k a
  | [], _, _, _ => rfl
  | o :: r, k, a, h => by
    unfold putAll
    obtain ⟨h1, h2⟩ := h k (Nat.le_refl _) (by simp)
    rw [h1, h2]
    exact putAll_congr r (k + 1) _ (fun j hj hj2 => h j (by omega) (by simp at hj2 ⊢; omega))
theorem putAll_step {L : Nat → Bool} {V : Nat → Value} {v : Value} {i : Nat} {o : Oper} : ∀ (l : List Oper) (k : Nat) (a : Act), apartB l = true → k ≤ i → l[i - k]? = some o → L i = false → (putAll L V l k a).put o.dst v = putAll (upd L i) (updV V i v) l k a
  | [], _, _, _, _, h, _ => by simp at h
  | x :: r, k, a, hap, hk, ho, hL => by
    unfold apartB at hap
    rw [Bool.and_eq_true] at hap
    unfold putAll
    by_cases hki : k = i
    · subst hki
      rw [Nat.sub_self] at ho
      obtain rfl : x = o := by simpa using ho
      rw [hL, if_neg (by decide), putAll_comm r (k + 1) a (fun o' ho' d hd => ?_)]
      · have e1 : upd L k k = true := if_pos rfl
        have e2 : updV V k v k = v := if_pos rfl
        rw [e1, e2, if_pos rfl]
        exact putAll_congr r (k + 1) _ (fun j hj _ => ⟨(if_neg (by omega)).symm, (if_neg (by omega)).symm⟩)
      · have := List.all_eq_true.1 hap.1 o' ho'
        rw [hd] at this
        simpa using this
    · have hk' : k < i := by omega
      have e1 : upd L i k = L k := if_neg hki
      have e2 : updV V i v k = V k := if_neg hki
      rw [e1, e2]
      have ho' : r[i - (k + 1)]? = some o := by rw [show i - k = (i - (k + 1)) + 1 by omega] at ho; simpa using ho
      exact putAll_step r (k + 1) _ hap.2 hk' ho' hL
theorem eval_put_ne {a : Act} {x : Option Tmp} {v : Value} {d : Tmp} (h : x ≠ some d) : (a.put x v).eval (.tmp d) = a.eval (.tmp d) := by
  cases x with
  | none => rfl
  | some e =>
    have hne : e ≠ d := fun h' => h (by rw [h'])
    unfold Act.put Act.eval
    simp [Array.getElem?_setIfInBounds_ne hne]
theorem eval_base {L : Nat → Bool} {V : Nat → Value} {d : Tmp} : ∀ (l : List Oper) (k : Nat) (a : Act), (l.all fun o => o.dst != some d) = true → (putAll L V l k a).eval (.tmp d) = a.eval (.tmp d)
  | [], _, _, _ => rfl
  | o :: r, k, a, h => by
    rw [List.all_cons, Bool.and_eq_true] at h
    unfold putAll
    rw [eval_base r (k + 1) _ h.2]
    split
    · exact eval_put_ne (by simpa using h.1)
    · rfl
theorem size_put (a : Act) (x : Option Tmp) (v : Value) : (a.put x v).tmps.size = a.tmps.size := by
  cases x <;> simp [Act.put]
theorem size_putAll {L : Nat → Bool} {V : Nat → Value} : ∀ (l : List Oper) (k : Nat) (a : Act), (putAll L V l k a).tmps.size = a.tmps.size
  | [], _, _ => rfl
  | o :: r, k, a => by
    unfold putAll
    rw [size_putAll r]
    split
    · exact size_put _ _ _
    · rfl
theorem eval_put_eq {a : Act} {v : Value} {d : Tmp} (h : d < a.tmps.size) : (a.put (some d) v).eval (.tmp d) = v := by
  unfold Act.put Act.eval
  simp [Array.getD_eq_getD_getElem?, Array.getElem?_setIfInBounds_self_of_lt h]
theorem eval_at {L : Nat → Bool} {V : Nat → Value} {d : Tmp} {o : Oper} {i : Nat} : ∀ (l : List Oper) (k : Nat) (a : Act), apartB l = true → d < a.tmps.size → k ≤ i → l[i - k]? = some o → o.dst = some d → L i = true → (putAll L V l k a).eval (.tmp d) = V i
  | [], _, _, _, _, _, h, _, _ => by simp at h
  | x :: r, k, a, hap, hd, hk, ho, hdst, hL => by
    unfold apartB at hap
    rw [Bool.and_eq_true] at hap
    unfold putAll
    by_cases hki : k = i
    · subst hki
      rw [Nat.sub_self] at ho
      obtain rfl : x = o := by simpa using ho
      rw [hL, if_pos rfl, eval_base r (k + 1) _ (List.all_eq_true.2 fun o' ho' => by
        have := List.all_eq_true.1 hap.1 o' ho'
        rw [hdst] at this
        exact this), hdst]
      exact eval_put_eq hd
    · have ho' : r[i - (k + 1)]? = some o := by rw [show i - k = (i - (k + 1)) + 1 by omega] at ho; simpa using ho
      refine eval_at r (k + 1) _ hap.2 ?_ (by omega) ho' hdst hL
      split
      · rw [size_put]; exact hd
      · exact hd
def lf (listed : Array Bool) : Nat → Bool := fun j => listed.getD j false
theorem lf_set {listed : Array Bool} {i : Nat} (h : i < listed.size) : lf (listed.setIfInBounds i true) = upd (lf listed) i := by
  funext j
  unfold lf upd
  simp only [Array.getD_eq_getD_getElem?, Array.getElem?_setIfInBounds]
  by_cases hij : i = j
  · subst hij; simp [h]
  · rw [if_neg hij, if_neg (fun e => hij e.symm)]
def cnt (n : Nat) (listed : Array Bool) : Nat := ((List.range n).filter fun i => !(lf listed i)).length
theorem cnt_set {n : Nat} {listed : Array Bool} {i : Nat} (h : i < listed.size) (hn : i < n) (hf : lf listed i = false) : cnt n (listed.setIfInBounds i true) < cnt n listed := by
  unfold cnt
  rw [lf_set h]
  have e : (List.range n).filter (fun j => !(upd (lf listed) i j)) = ((List.range n).filter fun j => !(lf listed j)).filter (fun j => decide (j ≠ i)) := by
    rw [List.filter_filter]
    apply List.filter_congr
    intro j _
    unfold upd
    by_cases hj : j = i
    · simp [hj]
    · simp [hj]
  rw [e]
  refine List.length_filter_lt_length_iff_exists.2 ⟨i, List.mem_filter.2 ⟨List.mem_range.2 hn, by simp [hf]⟩, by simp⟩
end QR
end Go.Proofs.YtdebnbgjgkbmaaaGreatDoor
namespace Go.Proofs.YtdebnbgjgkbmaaaGreatDoor
namespace QC
open Go.RowKit
open QP (upon oat wp_of_oat)
open QT (dep)
open QR (upd updV putAll apartB putAll_congr putAll_step lf lf_set cnt cnt_set size_put)
set_option linter.unusedVariables false
variable {P : Program}
/-- o yields v in the world w, and leaves it -/
def Y (P : Program) (ops : Array Oper) (o : Oper) (a : Act) (v : Value) (w : World) : Prop :=
  (Region.wanted o (yielded ops a.tmps) = true ∧ oat P o a (fun u => u = w) w v) ∨ (Region.wanted o (yielded ops a.tmps) = false ∧ v = undef)
abbrev Fl := List (Nat × (World → Prop))
/-- the walk: quiet operations as soon as they can, each with what it rests on; an effect must leave what the floating ones rest on -/
def wpC (P : Program) (ops : Array Oper) (E : List Nat) (Q : Exit → Act → World → Prop) : List Nat → Fl → Act → World → Prop
  | [], _, a, w => Q .normal a w
  | i :: r, F, a, w => ∃ o, ops[i]? = some o ∧
    if E.contains i then
      wpList P ops (fun e a' w' => e = .normal ∧ a'.defers = a.defers ∧ (∀ x ∈ F, dep .any ops x.1 30 o = true ∨ x.2 w') ∧ wpC P ops E Q r F a' w') [o] a w
    else ∃ v, ((∀ u, Y P ops o a v u) ∧ wpC P ops E Q r F (a.put o.dst v) w) ∨ (∃ R : World → Prop, R w ∧ (∀ u, R u → Y P ops o a v u) ∧ wpC P ops E Q r ((i, R) :: F) (a.put o.dst v) w)
/-- operation o waits for number j by itself -/
def aft (o : Oper) (j : Nat) : Bool := o.after.toList.any fun e => Region.binds .any e && e.on == j
def lexB (l : List Oper) : Bool := (List.range l.length).all fun i => match l[i]? with | some o => o.after.toList.all fun e => !Region.binds .any e || decide (e.on < i) | none => true
/-- who writes what an operation looks at, it waits for -/
def readB (l : List Oper) : Bool := l.all fun o => (List.range l.length).all fun j => match l[j]? with | some x => (match x.dst with | some d => !(o.looksAt l.toArray).contains d || aft o j | none => true) | none => true
def ordB (l : List Oper) (E : List Nat) : List Nat → List Nat → Bool
  | [], done => (List.range l.length).all fun i => done.contains i
  | i :: r, done => !done.contains i && (match l[i]? with | some o => o.after.toList.all fun e => !Region.binds .any e || done.contains e.on | none => false) &&
    (!E.contains i || r.all fun k => match l[k]? with | some o => dep .any l.toArray i 30 o | none => false) && ordB l E r (i :: done)
def okC (l : List Oper) (E : List Nat) (ord : List Nat) : Bool := apartB l && lexB l && readB l && Region.noSelect l.toArray && ordB l E ord []
theorem tmps_congr {L L' : Nat → Bool} {V V' : Nat → Value} {t : Tmp} : ∀ (l : List Oper) (k : Nat) (a a' : Act), a.tmps[t]? = a'.tmps[t]? → a.tmps.size = a'.tmps.size → (∀ j o, l[j]? = some o → o.dst = some t → L (k + j) = L' (k + j) ∧ V (k + j) = V' (k + j)) →
    (putAll L V l k a).tmps[t]? = (putAll L' V' l k a').tmps[t]?
  | [], _, _, _, h, _, _ => h
  | o :: r, k, a, a', h, hs, hl => by
    unfold putAll
    refine tmps_congr r (k + 1) _ _ ?_ ?_ (fun j o' ho' hd => by have := hl (j + 1) o' (by simpa using ho') hd; simpa [Nat.add_assoc, Nat.add_comm 1 j] using this)
    · by_cases hd : o.dst = some t
      · obtain ⟨e1, e2⟩ := hl 0 o rfl hd
        simp only [Nat.add_zero] at e1 e2
        rw [e1, e2]
        split
        · rw [hd]; unfold Act.put; simp [Array.getElem?_setIfInBounds, hs]
        · exact h
      · have keep : ∀ (b : Bool) (x : Value) (c : Act), (if b = true then c.put o.dst x else c).tmps[t]? = c.tmps[t]? := fun b x c => by
          split
          · cases hx : o.dst with
            | none => rfl
            | some d =>
              have hne : d ≠ t := fun e => hd (by rw [hx, e])
              unfold Act.put; simp [Array.getElem?_setIfInBounds_ne hne]
          · rfl
        rw [keep, keep]; exact h
    · have keep : ∀ (b : Bool) (x : Value) (c : Act), (if b = true then c.put o.dst x else c).tmps.size = c.tmps.size := fun b x c => by
        split
        · exact size_put _ _ _
        · rfl
      rw [keep, keep]; exact hs
theorem exec_congr {ops : Array Oper} {a a' : Act} (o : Oper) (hs : ∀ cs b, o.op ≠ .select cs b) (h : ∀ t ∈ o.looksAt ops, a.tmps[t]? = a'.tmps[t]?) : execOp a.eval o = execOp a'.eval o := by
  refine execOp_congr o hs fun x hx => ?_
  cases x with
  | tmp t =>
    have := h t (List.mem_append_left _ (List.mem_filterMap.2 ⟨.tmp t, by simpa using hx, rfl⟩))
    show a.tmps.getD t undef = a'.tmps.getD t undef
    rw [Array.getD_eq_getD_getElem?, Array.getD_eq_getD_getElem?, this]
  | _ => rfl
theorem wanted_congr {ops : Array Oper} {a a' : Act} (o : Oper) (h : ∀ t ∈ o.looksAt ops, a.tmps[t]? = a'.tmps[t]?) : Region.wanted o (yielded ops a.tmps) = Region.wanted o (yielded ops a'.tmps) := by
  unfold Region.wanted
  cases hg : o.guard with
  | none => rfl
  | some gw =>
    obtain ⟨g, want⟩ := gw
    have hy : yielded ops a.tmps g = yielded ops a'.tmps g := by
      unfold yielded
      cases ht : (ops[g]?).bind (·.dst) with
      | none => rfl
      | some t => rw [Option.bind_some, Option.bind_some, h t (by simp [Oper.looksAt, hg, ht])]
    simp only [hy]
theorem Y_congr {ops : Array Oper} {a a' : Act} {o : Oper} {v : Value} {w : World} (hs : ∀ cs b, o.op ≠ .select cs b) (h : ∀ t ∈ o.looksAt ops, a.tmps[t]? = a'.tmps[t]?) (hy : Y P ops o a v w) : Y P ops o a' v w := by
  unfold Y oat at *
  rw [← exec_congr o hs h, ← wanted_congr o h]; exact hy
/-- a region that draws its order: the invariant I by what is listed and which values came, one step for each operation -/
theorem wp_region_g {id : Nat} {Q : Exit → Act → World → Prop} {a0 : Act} {w0 : World} {l : List Oper} (I : (Nat → Bool) → (Nat → Value) → World → Prop) (hm : P.follows .mixedOrders = true) (hap : apartB l = true)
    (hlex : ∀ i o, l[i]? = some o → ∀ e ∈ o.after.toList, Region.binds .any e = true → e.on < i)
    (h0 : ∀ V, I (fun _ => false) V w0.drew)
    (hstep : ∀ i o, l[i]? = some o → ∀ L V w, I L V w → L i = false → (∀ j o', l[j]? = some o' → L j = true → ∀ e ∈ o'.after.toList, Region.binds .any e = true → L e.on = true) →
      (∀ e ∈ o.after.toList, Region.binds .any e = true → L e.on = true) → ∀ a, a = putAll L V l 0 a0 → ∀ K : Act → World → Prop, (∀ v w', I (upd L i) (updV V i v) w' → K (a.put o.dst v) w') → if Region.wanted o (yielded l.toArray a.tmps) then o.wp P a w K Q else K (a.put o.dst undef) w)
    (hend : ∀ L V w, (∀ i, i < l.length → L i = true) → I L V w → Q .normal (putAll L V l 0 a0) w) : (Code.region id l.toArray true).wp P Q a0 w0 := by
  have key : ∀ (fuel : Nat) (listed : Array Bool) (V : Nat → Value) (w : World), listed.size = l.length → cnt l.length listed ≤ fuel → I (lf listed) V w →
      (∀ j o', l[j]? = some o' → lf listed j = true → ∀ e ∈ o'.after.toList, Region.binds .any e = true → lf listed e.on = true) →
      wpAny P .any l.toArray Q fuel listed (putAll (lf listed) V l 0 a0) w := by
    have full : ∀ (listed : Array Bool), listed.size = l.length → Region.ready .any l.toArray listed = [] → ∀ i, i < l.length → lf listed i = true := by
      intro listed hs hr i
      induction i using Nat.strongRecOn with
      | _ i ih =>
        intro hi
        rcases hb : lf listed i with _ | _
        · exfalso
          have ho : l[i]? = some (l[i]) := List.getElem?_eq_getElem hi
          have hmem : i ∈ Region.ready .any l.toArray listed := by
            refine mem_ready.2 ⟨?_, l[i], by simp, fun e he hbd => ?_⟩
            · unfold lf at hb
              rw [Array.getD_eq_getD_getElem?, Array.getElem?_eq_getElem (by omega)] at hb ⊢
              exact hb
            · have hlt := hlex i _ ho e (by simpa using he) hbd
              exact ih e.on (by omega) (by omega)
          rw [hr] at hmem; cases hmem
        · rfl
    intro fuel
    induction fuel with
    | zero =>
      intro listed V w hs hc hI hd
      have hall : ∀ i, i < l.length → lf listed i = true := fun i hi => by
        rcases hb : lf listed i with _ | _
        · exfalso
          have : 0 < cnt l.length listed := List.length_pos_iff.2 (List.ne_nil_of_mem (List.mem_filter.2 ⟨List.mem_range.2 hi, by simp [hb]⟩))
          omega
        · rfl
      refine ⟨?_, hend _ V w hall hI⟩
      rcases hr : Region.ready .any l.toArray listed with _ | ⟨i, r⟩
      · rfl
      · exfalso
        have hmem : i ∈ Region.ready .any l.toArray listed := by rw [hr]; exact List.mem_cons_self
        obtain ⟨h1, o, ho, _⟩ := mem_ready.1 hmem
        have hi : i < l.length := by have := (Array.getElem?_eq_some_iff.1 ho).1; simpa using this
        have := hall i hi
        unfold lf at this
        rw [Array.getD_eq_getD_getElem?, Array.getElem?_eq_getElem (by omega)] at this h1
        simp at this h1
        rw [this] at h1; cases h1
    | succ fuel ih =>
      intro listed V w hs hc hI hd
      refine ⟨fun hr => hend _ V w (full listed hs hr) hI, fun i hi => ?_⟩
      obtain ⟨h1, o, ho, hdep⟩ := mem_ready.1 hi
      have hol : l[i]? = some o := by simpa using ho
      have hil : i < l.length := (List.getElem?_eq_some_iff.1 hol).1
      have hLi : lf listed i = false := by
        unfold lf
        rw [Array.getD_eq_getD_getElem?, Array.getElem?_eq_getElem (by omega)] at h1 ⊢
        exact h1
      have nxt : ∀ v w', I (upd (lf listed) i) (updV V i v) w' → wpAny P .any l.toArray Q fuel (listed.setIfInBounds i true) ((putAll (lf listed) V l 0 a0).put o.dst v) w' := fun v w' hI' => by
        rw [putAll_step l 0 a0 hap (Nat.zero_le _) (by simpa using hol) hLi, ← lf_set (by omega)]
        rw [← lf_set (by omega)] at hI'
        refine ih _ _ w' (by simpa using hs) (by have := cnt_set (n := l.length) (listed := listed) (i := i) (by omega) hil hLi; omega) hI' (fun j o' hj hl e he hb => ?_)
        rw [lf_set (by omega)] at hl ⊢
        unfold upd at hl ⊢
        by_cases hji : j = i
        · subst hji
          obtain rfl : o' = o := Option.some.inj (hj.symm.trans hol)
          split
          · rfl
          · exact hdep e (by simpa using he) hb
        · rw [if_neg hji] at hl
          split
          · rfl
          · exact hd j o' hj hl e he hb
      have := hstep i o hol (lf listed) V w hI hLi hd (fun e he hb => hdep e (by simpa using he) hb) _ rfl _ nxt
      unfold wpOp
      simp only [ho]
      split
      · rename_i hw; rw [if_pos hw] at this; exact .inl this
      · rename_i hw; rw [if_neg hw] at this; exact this
  refine wp_region_any hm ?_
  have e0 : lf (Array.replicate l.length false) = fun _ => false := by
    funext j; unfold lf; rw [Array.getD_eq_getD_getElem?, Array.getElem?_replicate]; split <;> rfl
  have h1 := key l.toArray.size (Array.replicate l.length false) (fun _ => undef) w0.drew (by simp) (by unfold cnt; have := List.length_filter_le (fun i => !(lf (Array.replicate l.length false) i)) (List.range l.length); simpa using this) (by rw [e0]; exact h0 _) (fun j o' _ hl => by rw [e0] at hl; cases hl)
  have e1 : putAll (lf (Array.replicate l.length false)) (fun _ => undef) l 0 a0 = a0 := by
    rw [e0]
    have : ∀ (r : List Oper) (k : Nat) (a : Act), putAll (fun _ => false) (fun _ => undef) r k a = a := fun r => by
      induction r with
      | nil => intros; rfl
      | cons o r ih => intro k a; unfold putAll; rw [if_neg (by decide)]; exact ih _ _
    exact this l 0 a0
  rw [e1] at h1
  simpa using h1
/-- an unlisted operation that the walk has behind it -/
def Rob (P : Program) (l : List Oper) (E : List Nat) (F : Fl) (aW : Act) (w : World) (k : Nat) (v : Value) : Prop :=
  E.contains k = false ∧ ∃ o, l[k]? = some o ∧ ((∀ u, Y P l.toArray o aW v u) ∨ ∃ R, (k, R) ∈ F ∧ R w ∧ ∀ u, R u → Y P l.toArray o aW v u)
def dn (done : List Nat) : Nat → Bool := fun k => done.contains k
structure St (P : Program) (l : List Oper) (E : List Nat) (Q : Exit → Act → World → Prop) (a0 : Act) (L : Nat → Bool) (V : Nat → Value) (w : World) (W : Nat → Value) (ord done : List Nat) (F : Fl) : Prop where
  ag : ∀ k, L k = true → W k = V k
  od : ordB l E ord done = true
  sub : ∀ k, L k = true → dn done k = true
  eff : ∀ k, dn done k = true → E.contains k = true → L k = true
  dep : ∀ k o, dn done k = true → l[k]? = some o → ∀ e ∈ o.after.toList, Region.binds .any e = true → dn done e.on = true
  rob : ∀ k, dn done k = true → L k = false → Rob P l E F (putAll (dn done) W l 0 a0) w k (W k)
  wp : wpC P l.toArray E Q ord F (putAll (dn done) W l 0 a0) w
theorem dn_cons {i : Nat} {done : List Nat} (h : dn done i = false) : dn (i :: done) = upd (dn done) i := by
  funext j; unfold dn upd
  by_cases hj : j = i
  · subst hj; simp
  · rw [if_neg hj]; simp [hj]
theorem aft_of {l : List Oper} (hr : readB l = true) {o : Oper} {k : Nat} (ho : l[k]? = some o) {t : Tmp} (ht : t ∈ o.looksAt l.toArray) {j : Nat} {x : Oper} (hx : l[j]? = some x) (hd : x.dst = some t) : ∃ e ∈ o.after.toList, Region.binds .any e = true ∧ e.on = j := by
  unfold readB at hr
  have h1 := List.all_eq_true.1 hr o (List.mem_of_getElem? ho)
  have h2 := List.all_eq_true.1 h1 j (List.mem_range.2 (List.getElem?_eq_some_iff.1 hx).1)
  simp only [hx, hd, Bool.or_eq_true, Bool.not_eq_true'] at h2
  rcases h2 with h2 | h2
  · simp [ht] at h2
  · unfold aft at h2
    obtain ⟨e, he, hb⟩ := List.any_eq_true.1 h2
    simp only [Bool.and_eq_true, beq_iff_eq] at hb
    exact ⟨e, he, hb.1, hb.2⟩
theorem dep_all {l : List Oper} {L : Nat → Bool} (hD : ∀ j o', l[j]? = some o' → L j = true → ∀ e ∈ o'.after.toList, Region.binds .any e = true → L e.on = true) {t : Nat} : ∀ (f : Nat) (o : Oper), (∀ e ∈ o.after.toList, Region.binds .any e = true → L e.on = true) → dep .any l.toArray t f o = true → L t = true
  | 0, _, _, h => by simp [dep] at h
  | f + 1, o, hall, h => by
    unfold dep at h
    obtain ⟨e, he, hb⟩ := List.any_eq_true.1 h
    simp only [Bool.and_eq_true, Bool.or_eq_true, beq_iff_eq] at hb
    obtain ⟨h1, h2⟩ := hb
    rcases h2 with h2 | h2
    · rw [← h2]; exact hall e he h1
    · cases ho : l.toArray[e.on]? with
      | none => simp [ho] at h2
      | some o' =>
        simp only [ho] at h2
        have ho' : l[e.on]? = some o' := by simpa using ho
        exact dep_all hD f o' (hD e.on o' ho' (hall e he h1)) h2
section
variable {l : List Oper} {E : List Nat} {Q : Exit → Act → World → Prop} {a0 : Act} {L : Nat → Bool} {V W : Nat → Value} {w : World} {ord done : List Nat} {F : Fl}
theorem ordB_cons {i : Nat} {r : List Nat} (h : ordB l E (i :: r) done = true) : dn done i = false ∧ (∀ o, l[i]? = some o → ∀ e ∈ o.after.toList, Region.binds .any e = true → dn done e.on = true) ∧ (∃ o, l[i]? = some o) ∧
    (E.contains i = true → ∀ k ∈ r, ∃ o, l[k]? = some o ∧ dep .any l.toArray i 30 o = true) ∧ ordB l E r (i :: done) = true := by
  unfold ordB at h
  simp only [Bool.and_eq_true, Bool.not_eq_true', Bool.or_eq_true] at h
  obtain ⟨⟨⟨h1, h2⟩, h3⟩, h4⟩ := h
  refine ⟨h1, fun o ho e he hb => ?_, ?_, fun hE k hk => ?_, h4⟩
  · simp only [ho] at h2
    have := List.all_eq_true.1 h2 e he
    simpa [hb, dn] using this
  · cases ho : l[i]? with
    | none => simp [ho] at h2
    | some o => exact ⟨o, rfl⟩
  · rcases h3 with h3 | h3
    · rw [hE] at h3; cases h3
    · have := List.all_eq_true.1 h3 k hk
      cases hk : l[k]? with
      | none => simp [hk] at this
      | some o => exact ⟨o, rfl, by simpa [hk] using this⟩
theorem ordB_mem {i : Nat} (hi : i < l.length) : ∀ (ord done : List Nat), ordB l E ord done = true → dn done i = false → i ∈ ord
  | [], done, h, hd => by
    unfold ordB at h
    have := List.all_eq_true.1 h i (List.mem_range.2 hi)
    unfold dn at hd; rw [hd] at this; cases this
  | j :: r, done, h, hd => by
    obtain ⟨h1, _, _, _, h5⟩ := ordB_cons h
    by_cases hij : i = j
    · subst hij; exact List.mem_cons_self
    · refine List.mem_cons_of_mem _ (ordB_mem hi r _ h5 ?_)
      rw [dn_cons h1]; unfold upd; rw [if_neg hij]; exact hd
theorem agree (hr : readB l = true) {k : Nat} {o : Oper} (ho : l[k]? = some o) {L' : Nat → Bool} {V' : Nat → Value} (h : ∀ e ∈ o.after.toList, Region.binds .any e = true → L e.on = L' e.on ∧ V e.on = V' e.on) : ∀ t ∈ o.looksAt l.toArray, (putAll L V l 0 a0).tmps[t]? = (putAll L' V' l 0 a0).tmps[t]? := fun t ht =>
  tmps_congr l 0 _ _ rfl rfl fun j x hx hd => by
    obtain ⟨e, he, hb, hj⟩ := aft_of hr ho ht hx hd
    have := h e he hb
    rw [hj] at this; simpa using this
theorem St.quiet {i : Nat} {r : List Nat} (hap : apartB l = true) (hr : readB l = true) (hsel : ∀ o ∈ l, ∀ cs b, o.op ≠ .select cs b) (s : St P l E Q a0 L V w W (i :: r) done F) (hE : E.contains i = false) : ∃ W' F', St P l E Q a0 L V w W' r (i :: done) F' := by
  obtain ⟨h1, h2, ⟨o, ho⟩, _, h5⟩ := ordB_cons s.od
  have hLi : L i = false := by
    cases hb : L i
    · rfl
    · have := s.sub i hb; rw [h1] at this; cases this
  have hwp := s.wp
  obtain ⟨o', ho', hwp⟩ := hwp
  obtain rfl : o' = o := Option.some.inj (by rw [← ho, ← ho']; simp)
  rw [hE, if_neg (by decide)] at hwp
  obtain ⟨v, hwp⟩ := hwp
  have eput : (putAll (dn done) W l 0 a0).put o'.dst v = putAll (dn (i :: done)) (updV W i v) l 0 a0 := by
    rw [putAll_step l 0 a0 hap (Nat.zero_le _) (by simpa using ho) h1, dn_cons h1]
  have Ymv : ∀ k x v' u, l[k]? = some x → (∀ e ∈ x.after.toList, Region.binds .any e = true → dn done e.on = true) → Y P l.toArray x (putAll (dn done) W l 0 a0) v' u → Y P l.toArray x (putAll (dn (i :: done)) (updV W i v) l 0 a0) v' u := fun k x v' u hx hdep hy =>
    Y_congr (hsel x (List.mem_of_getElem? hx)) (agree hr hx (fun e he hb => by
      have hd := hdep e he hb
      have hne : e.on ≠ i := fun he => by rw [he, h1] at hd; cases hd
      rw [dn_cons h1]
      exact ⟨(if_neg hne).symm, (if_neg hne).symm⟩)) hy
  have mk : ∀ F' : Fl, (∀ x ∈ F, x ∈ F') → Rob P l E F' (putAll (dn (i :: done)) (updV W i v) l 0 a0) w i v → wpC P l.toArray E Q r F' ((putAll (dn done) W l 0 a0).put o'.dst v) w → ∃ W' F', St P l E Q a0 L V w W' r (i :: done) F' := fun F' hF hrob hw => by
    refine ⟨updV W i v, F', ⟨fun k hk => ?_, h5, fun k hk => ?_, fun k hk hEk => ?_, fun k x hk hx e he hb => ?_, fun k hk hLk => ?_, by rw [← eput]; exact hw⟩⟩
    · have hne : k ≠ i := fun e => by rw [e, hLi] at hk; cases hk
      show (if k = i then v else W k) = V k
      rw [if_neg hne]; exact s.ag k hk
    · rw [dn_cons h1]; unfold upd
      split
      · rfl
      · exact s.sub k hk
    · rw [dn_cons h1] at hk; unfold upd at hk
      by_cases hki : k = i
      · subst hki; rw [hE] at hEk; cases hEk
      · rw [if_neg hki] at hk; exact s.eff k hk hEk
    · rw [dn_cons h1] at hk ⊢; unfold upd at hk ⊢
      split
      · rfl
      · by_cases hki : k = i
        · subst hki
          obtain rfl : x = o' := Option.some.inj (hx.symm.trans ho)
          exact h2 x ho e he hb
        · rw [if_neg hki] at hk; exact s.dep k x hk hx e he hb
    · by_cases hki : k = i
      · subst hki
        show Rob P l E F' _ w k (if k = k then v else W k)
        rw [if_pos rfl]; exact hrob
      · rw [dn_cons h1] at hk; unfold upd at hk; rw [if_neg hki] at hk
        obtain ⟨g1, x, hx, g2⟩ := s.rob k hk hLk
        show Rob P l E F' _ w k (if k = i then v else W k)
        rw [if_neg hki]
        refine ⟨g1, x, hx, ?_⟩
        rcases g2 with g2 | ⟨R, g2, g3, g4⟩
        · exact .inl fun u => Ymv k x _ u hx (fun e he hb => s.dep k x hk hx e he hb) (g2 u)
        · exact .inr ⟨R, hF _ g2, g3, fun u hu => Ymv k x _ u hx (fun e he hb => s.dep k x hk hx e he hb) (g4 u hu)⟩
  rcases hwp with ⟨hy, hw⟩ | ⟨R, hR, hy, hw⟩
  · exact mk F (fun x hx => hx) ⟨hE, o', ho, .inl fun u => Ymv i o' v u ho (fun e he hb => h2 o' ho e he hb) (hy u)⟩ hw
  · exact mk ((i, R) :: F) (fun x hx => List.mem_cons_of_mem _ hx) ⟨hE, o', ho, .inr ⟨R, List.mem_cons_self, hR, fun u hu => Ymv i o' v u ho (fun e he hb => h2 o' ho e he hb) (hy u hu)⟩⟩ hw
/-- the walk goes on to an effect, or until i is behind it -/
theorem St.adv (hap : apartB l = true) (hr : readB l = true) (hsel : ∀ o ∈ l, ∀ cs b, o.op ≠ .select cs b) {i : Nat} (hi : i < l.length) : ∀ (ord done : List Nat) (W : Nat → Value) (F : Fl), St P l E Q a0 L V w W ord done F →
    ∃ W' ord' done' F', St P l E Q a0 L V w W' ord' done' F' ∧ (dn done' i = true ∨ ∃ p r, ord' = p :: r ∧ E.contains p = true)
  | [], done, W, F, s => by
    cases hd : dn done i
    · have := ordB_mem hi [] done s.od hd; cases this
    · exact ⟨W, [], done, F, s, .inl hd⟩
  | p :: r, done, W, F, s => by
    cases hE : E.contains p
    · obtain ⟨W', F', s'⟩ := s.quiet hap hr hsel hE
      exact St.adv hap hr hsel hi r (p :: done) W' F' s'
    · exact ⟨W, p :: r, done, F, s, .inr ⟨p, r, rfl, hE⟩⟩
theorem St.finish (hap : apartB l = true) (hr : readB l = true) (hsel : ∀ o ∈ l, ∀ cs b, o.op ≠ .select cs b) (hL : ∀ i, i < l.length → L i = true) : ∀ (ord done : List Nat) (W : Nat → Value) (F : Fl), St P l E Q a0 L V w W ord done F → Q .normal (putAll L V l 0 a0) w
  | [], done, W, F, s => by
    have h := s.wp
    have e : putAll (dn done) W l 0 a0 = putAll L V l 0 a0 := putAll_congr l 0 a0 fun j _ hj => by
      have hLj := hL j (by omega)
      exact ⟨by rw [s.sub j hLj, hLj], s.ag j hLj⟩
    rw [← e]; exact h
  | p :: r, done, W, F, s => by
    obtain ⟨h1, _, ⟨o, ho⟩, _, _⟩ := ordB_cons s.od
    have := s.sub p (hL p (List.getElem?_eq_some_iff.1 ho).1)
    rw [h1] at this; cases this
end
theorem wp_region_c {id : Nat} {Q : Exit → Act → World → Prop} {a : Act} {w : World} {l : List Oper} (E ord : List Nat) (hm : P.follows .mixedOrders = true) (hB : okC l E ord = true)
    (h : wpC P l.toArray E Q ord [] a w.drew) : (Code.region id l.toArray true).wp P Q a w := by
  unfold okC at hB
  simp only [Bool.and_eq_true] at hB
  obtain ⟨⟨⟨⟨hap, hlx⟩, hr⟩, hns⟩, hord⟩ := hB
  have hsel : ∀ o ∈ l, ∀ cs b, o.op ≠ .select cs b := fun o ho cs b => by
    obtain ⟨j, hj⟩ := List.getElem?_of_mem ho
    exact Region.noSelect_spec hns j o cs b (by simpa using hj)
  have hlex : ∀ i o, l[i]? = some o → ∀ e ∈ o.after.toList, Region.binds .any e = true → e.on < i := fun i o ho e he hb => by
    have h1 := List.all_eq_true.1 hlx i (List.mem_range.2 (List.getElem?_eq_some_iff.1 ho).1)
    simp only [ho] at h1
    have := List.all_eq_true.1 h1 e he
    simpa [hb] using this
  have p0 : ∀ V : Nat → Value, putAll (dn []) V l 0 a = a := fun V => by
    have : ∀ (r : List Oper) (k : Nat) (a : Act), putAll (dn []) V r k a = a := fun r => by
      induction r with
      | nil => intros; rfl
      | cons o r ih => intro k a; unfold putAll; rw [if_neg (by unfold dn; simp)]; exact ih _ _
    exact this l 0 a
  refine wp_region_g (fun L V w => ∃ W ord done F, St P l E Q a L V w W ord done F) hm hap hlex (fun V => ⟨V, ord, [], [], ⟨fun k hk => (by cases hk), hord, fun k hk => (by cases hk), fun k hk => (by simp [dn] at hk), fun k o hk => (by simp [dn] at hk), fun k hk => (by simp [dn] at hk), by rw [p0]; exact h⟩⟩) ?_ (fun L V w hL ⟨W, ord, done, F, s⟩ => s.finish hap hr hsel hL _ _ _ _)
  intro i o ho L V u ⟨W, ord, done, F, s⟩ hLi hD hdp aA haA K hK
  have hi : i < l.length := (List.getElem?_eq_some_iff.1 ho).1
  obtain ⟨W, ord, done, F, s, hcase⟩ := s.adv hap hr hsel hi
  have hso := hsel o (List.mem_of_getElem? ho)
  have cong : ∀ t ∈ o.looksAt l.toArray, (putAll (dn done) W l 0 a).tmps[t]? = aA.tmps[t]? := by
    rw [haA]
    exact agree hr ho fun e he hb => by
      have := hdp e he hb
      exact ⟨by rw [s.sub _ this, this], s.ag _ this⟩
  cases hdi : dn done i
  · -- the next effect
    rcases hcase with hc | ⟨p, r, rfl, hE⟩
    · rw [hdi] at hc; cases hc
    obtain ⟨h1, h2, ⟨op, hop⟩, h4, h5⟩ := ordB_cons s.od
    have hmem := ordB_mem hi _ _ s.od hdi
    have hip : i = p := by
      rcases List.mem_cons.1 hmem with e | hmem
      · exact e
      · obtain ⟨x, hx, hdx⟩ := h4 hE i hmem
        obtain rfl : x = o := Option.some.inj (hx.symm.trans ho)
        have := s.sub p (dep_all hD 30 x hdp hdx)
        rw [h1] at this; cases this
    subst hip
    obtain ⟨o', ho', hwp⟩ := s.wp
    obtain rfl : o' = o := Option.some.inj (by rw [← ho, ← ho']; simp)
    rw [hE, if_pos rfl] at hwp
    have nxt : ∀ v w', (∀ x ∈ F, dep .any l.toArray x.1 30 o' = true ∨ x.2 w') → wpC P l.toArray E Q r F ((putAll (dn done) W l 0 a).put o'.dst v) w' → K (aA.put o'.dst v) w' := fun v w' hF hw => by
      have eput : (putAll (dn done) W l 0 a).put o'.dst v = putAll (dn (i :: done)) (updV W i v) l 0 a := by
        rw [putAll_step l 0 a hap (Nat.zero_le _) (by simpa using ho) h1, dn_cons h1]
      refine hK v w' ⟨updV W i v, r, i :: done, F, ⟨fun k hk => ?_, h5, fun k hk => ?_, fun k hk hEk => ?_, fun k x hk hx e he hb => ?_, fun k hk hLk => ?_, by rw [← eput]; exact hw⟩⟩
      · unfold upd at hk; unfold updV
        split
        · rfl
        · rename_i hne; rw [if_neg hne] at hk; exact s.ag k hk
      · rw [dn_cons h1]; unfold upd at hk ⊢
        split
        · rfl
        · rename_i hne; rw [if_neg hne] at hk; exact s.sub k hk
      · rw [dn_cons h1] at hk; unfold upd at hk ⊢
        split
        · rfl
        · rename_i hne; rw [if_neg hne] at hk; exact s.eff k hk hEk
      · rw [dn_cons h1] at hk ⊢; unfold upd at hk ⊢
        split
        · rfl
        · by_cases hki : k = i
          · subst hki
            obtain rfl : x = o' := Option.some.inj (hx.symm.trans ho)
            exact h2 x ho e he hb
          · rw [if_neg hki] at hk; exact s.dep k x hk hx e he hb
      · unfold upd at hLk
        have hki : k ≠ i := fun e => by rw [if_pos e] at hLk; cases hLk
        rw [if_neg hki] at hLk
        rw [dn_cons h1] at hk; unfold upd at hk; rw [if_neg hki] at hk
        obtain ⟨g1, x, hx, g2⟩ := s.rob k hk hLk
        show Rob P l E F _ w' k (if k = i then v else W k)
        rw [if_neg hki]
        have Ymv : ∀ u, Y P l.toArray x (putAll (dn done) W l 0 a) (W k) u → Y P l.toArray x (putAll (dn (i :: done)) (updV W i v) l 0 a) (W k) u := fun u hy =>
          Y_congr (hsel x (List.mem_of_getElem? hx)) (agree hr hx (fun e he hb => by
            have hd := s.dep k x hk hx e he hb
            have hne : e.on ≠ i := fun he => by rw [he, h1] at hd; cases hd
            rw [dn_cons h1]
            exact ⟨(if_neg hne).symm, (if_neg hne).symm⟩)) hy
        refine ⟨g1, x, hx, ?_⟩
        rcases g2 with g2 | ⟨R, g2, g3, g4⟩
        · exact .inl fun u => Ymv u (g2 u)
        · refine .inr ⟨R, g2, ?_, fun u hu => Ymv u (g4 u hu)⟩
          rcases hF _ g2 with hh | hh
          · have := dep_all hD 30 o' hdp hh
            rw [hLk] at this; cases this
          · exact hh
    unfold wpList at hwp
    rw [wanted_congr o' cong] at hwp
    split
    · rename_i hwt
      rw [if_pos hwt] at hwp
      rcases hwp with hwp | ⟨_, _, _, hout, _⟩
      · unfold Oper.wp at hwp ⊢
        rw [exec_congr o' hso cong] at hwp
        generalize (execOp aA.eval o').run P u = res at *
        cases res with
        | ok n w' =>
          cases n <;> simp only [Oper.upon] at hwp ⊢
          case value v => exact nxt v w' hwp.2.2.1 hwp.2.2.2
          case skip => exact nxt undef w' hwp.2.2.1 hwp.2.2.2
          case defer d =>
            have he := hwp.2.1
            have hp : ∀ (b : Act) (t : Option Tmp) (v : Value), (b.put t v).defers = b.defers := fun b t v => by cases t <;> rfl
            rw [hp] at he
            have := congrArg List.length he
            simp at this
          case enter f args =>
            refine Calls.mono hwp fun e w'' he => ?_
            cases e with
            | returned v => exact nxt v w'' he.2.2.1 he.2.2.2
            | panicked c => cases he.1
            | outgrown => obtain ⟨_, _, h, _⟩ := he; cases h
          case row row args => exact Rows.mono hwp fun v w'' he => nxt v w'' he.2.2.1 he.2.2.2
        | halt x w' =>
          cases x <;> simp only [Oper.upon] at hwp
          case panic v => cases hwp.1
      · cases hout
    · rename_i hwt
      rw [if_neg hwt] at hwp
      exact nxt undef u hwp.2.2.1 hwp.2.2.2
  · -- a quiet one that the walk has behind it
    obtain ⟨g1, x, hx, g2⟩ := s.rob i hdi hLi
    obtain rfl : x = o := Option.some.inj (hx.symm.trans ho)
    have hy : Y P l.toArray x (putAll (dn done) W l 0 a) (W i) u := by
      rcases g2 with g2 | ⟨R, _, g3, g4⟩
      · exact g2 u
      · exact g4 u g3
    have hy := Y_congr hso cong hy
    have nxt : K (aA.put x.dst (W i)) u := hK (W i) u ⟨W, ord, done, F, ⟨fun k hk => by
        unfold upd at hk; unfold updV
        by_cases hki : k = i
        · rw [if_pos hki, hki]
        · rw [if_neg hki] at hk; rw [if_neg hki]; exact s.ag k hk, s.od, fun k hk => by
        unfold upd at hk
        by_cases hki : k = i
        · rw [hki]; exact hdi
        · rw [if_neg hki] at hk; exact s.sub k hk, fun k hk hEk => by
        unfold upd
        split
        · rfl
        · exact s.eff k hk hEk, s.dep, fun k hk hLk => by
        unfold upd at hLk
        by_cases hki : k = i
        · rw [if_pos hki] at hLk; cases hLk
        · rw [if_neg hki] at hLk; exact s.rob k hk hLk, s.wp⟩⟩
    rcases hy with ⟨hw, hy⟩ | ⟨hw, hv⟩
    · rw [if_pos hw]
      refine wp_of_oat (C' := fun u' => u' = u) (K := fun a' => a' = aA.put x.dst (W i)) (fun a' w' e1 e2 => ?_) hy rfl
      rw [e1, e2]; exact nxt
    · rw [if_neg (by rw [hw]; decide)]
      rw [← hv]; exact nxt
section
variable {ops : Array Oper} {E : List Nat} {Q : Exit → Act → World → Prop} {i : Nat} {r : List Nat} {F : Fl} {a : Act} {w : World} {o : Oper}
theorem wpC_nil (h : Q .normal a w) : wpC P ops E Q [] F a w := h
/-- an operation that looks at no memory -/
theorem wpC_pure (ho : ops.toList[i]? = some o) (hE : E.contains i = false)
    (h : ∀ K : Act → Prop, (∀ a, wpC P ops E Q r F a w → K a) → if Region.wanted o (yielded ops a.tmps) then ∃ v, (∀ u, oat P o a (fun x => x = u) u v) ∧ K (a.put o.dst v) else K (a.put o.dst undef)) : wpC P ops E Q (i :: r) F a w := by
  have := h _ (fun _ h => h)
  refine ⟨o, by rw [← Array.getElem?_toList]; exact ho, ?_⟩
  rw [hE, if_neg (by decide)]
  split at this
  · rename_i hw
    obtain ⟨v, h1, h2⟩ := this
    exact ⟨v, .inl ⟨fun u => .inl ⟨hw, h1 u⟩, h2⟩⟩
  · rename_i hw
    exact ⟨undef, .inl ⟨fun u => .inr ⟨by simpa using hw, rfl⟩, this⟩⟩
/-- an operation that rests on R -/
theorem wpC_rest (R : World → Prop) (v : Value) (ho : ops.toList[i]? = some o) (hE : E.contains i = false) (hw : Region.wanted o (yielded ops a.tmps) = true) (hR : R w) (hy : ∀ u, R u → oat P o a (fun x => x = u) u v)
    (h : wpC P ops E Q r ((i, R) :: F) (a.put o.dst v) w) : wpC P ops E Q (i :: r) F a w := by
  refine ⟨o, by rw [← Array.getElem?_toList]; exact ho, ?_⟩
  rw [hE, if_neg (by decide)]
  exact ⟨v, .inr ⟨R, hR, fun u hu => .inl ⟨hw, hy u hu⟩, h⟩⟩
theorem wpC_load {ty : TypeId} {x : Operand} {p : Addr} {v : Value} (ho : ops.toList[i]? = some o) (hE : E.contains i = false) (hop : o.op = .load ty x) (hw : Region.wanted o (yielded ops a.tmps) = true) (hx : a.eval x = .pointer (some p)) (hc : w.cell? p = some v)
    (hl : ∀ u : World, u.cell? p = some v → (Instr.loadAt ty (.pointer (some p))).run P u = .ok v u)
    (h : ∀ K : Act → Prop, (∀ a, wpC P ops E Q r ((i, fun u => u.cell? p = some v) :: F) a w → K a) → K (a.put o.dst v)) : wpC P ops E Q (i :: r) F a w := by
  refine wpC_rest (fun u => u.cell? p = some v) v ho hE hw hc (fun u hu => ?_) (h _ fun _ h => h)
  unfold oat execOp
  simp only [hop, hx, Sem.run_bind, Sem.run_pure, Result.andThen_ok, hl u hu]
  exact ⟨rfl, rfl⟩
/-- what an effect must leave -/
def effQ (P : Program) (ops : Array Oper) (E : List Nat) (Q : Exit → Act → World → Prop) (r : List Nat) (F : Fl) (o : Oper) (a : Act) (e : Exit) (a' : Act) (w' : World) : Prop :=
  e = .normal ∧ a'.defers = a.defers ∧ (∀ x ∈ F, dep .any ops x.1 30 o = true ∨ x.2 w') ∧ wpC P ops E Q r F a' w'
theorem eff_ok {a' : Act} {w' : World} (hd : a'.defers = a.defers) (hF : ∀ x ∈ F, dep .any ops x.1 30 o = true ∨ x.2 w') (h : wpC P ops E Q r F a' w') : effQ P ops E Q r F o a .normal a' w' := ⟨rfl, hd, hF, h⟩
/-- an operation that makes or writes memory -/
theorem wpC_eff (ho : ops.toList[i]? = some o) (hE : E.contains i = true)
    (h : wpList P ops (effQ P ops E Q r F o a) [o] a w) : wpC P ops E Q (i :: r) F a w := by
  refine ⟨o, by rw [← Array.getElem?_toList]; exact ho, ?_⟩
  rw [hE, if_pos rfl]; exact h
theorem obl_nil {w' : World} : ∀ x ∈ ([] : Fl), dep .any ops x.1 30 o = true ∨ x.2 w' := fun x hx => by cases hx
theorem obl_dep {w' : World} {j : Nat} {R : World → Prop} (h : dep .any ops j 30 o = true) (hF : ∀ x ∈ F, dep .any ops x.1 30 o = true ∨ x.2 w') : ∀ x ∈ ((j, R) :: F : Fl), dep .any ops x.1 30 o = true ∨ x.2 w' := fun x hx => by
  rcases List.mem_cons.1 hx with e | e
  · subst e; exact .inl h
  · exact hF x e
theorem obl_is {w' : World} {j : Nat} {R : World → Prop} (h : R w') (hF : ∀ x ∈ F, dep .any ops x.1 30 o = true ∨ x.2 w') : ∀ x ∈ ((j, R) :: F : Fl), dep .any ops x.1 30 o = true ∨ x.2 w' := fun x hx => by
  rcases List.mem_cons.1 hx with e | e
  · subst e; exact .inr h
  · exact hF x e
end
/-- but for what was drawn, the same world -/
structure Dr (w u : World) : Prop where
  heap : u.heap = w.heap
  os : u.os = w.os
  tape : u.tape = w.tape
  output : u.output = w.output
section
variable {w u v : World}
theorem Dr.refl (w : World) : Dr w w := ⟨rfl, rfl, rfl, rfl⟩
theorem Dr.drew (w : World) : Dr w w.drew := ⟨rfl, rfl, rfl, rfl⟩
theorem Dr.trans (h : Dr w u) (h' : Dr u v) : Dr w v := ⟨h'.heap.trans h.heap, h'.os.trans h.os, h'.tape.trans h.tape, h'.output.trans h.output⟩
theorem Dr.cell (h : Dr w u) (p : Addr) : u.cell? p = w.cell? p := by unfold World.cell?; rw [h.heap]
theorem Dr.frozen (h : Dr w u) (p : Addr) : u.frozen? p = w.frozen? p := by unfold World.frozen?; rw [h.heap]
theorem Dr.row (h : Dr w u) {g : Nat} {t : TypeId} {cs : Array Value} (hr : M.RowAt w g t cs) : M.RowAt u g t cs := by unfold M.RowAt at *; rw [h.heap]; exact hr
theorem Dr.below {n : Nat} (h : Dr w u) : Below n w u := ⟨h.os, h.tape, h.output, by rw [h.heap]; exact Nat.le_refl _, fun k _ => by rw [h.heap]⟩
theorem Dr.size (h : Dr w u) : u.heap.size = w.heap.size := by rw [h.heap]
end
theorem wp_region_d {id : Nat} {Q : Exit → Act → World → Prop} {a : Act} {w : World} {l : List Oper} (E ord : List Nat) (hm : P.follows .mixedOrders = true) (hB : okC l E ord = true)
    (h : ∀ u, Dr w u → wpC P l.toArray E Q ord [] a u) : (Code.region id l.toArray true).wp P Q a w := wp_region_c E ord hm hB (h _ (Dr.drew w))
end QC
end Go.Proofs.YtdebnbgjgkbmaaaGreatDoor
namespace Go.Proofs.YtdebnbgjgkbmaaaGreatDoor.Po
open Go.RowKit
set_option linter.unusedVariables false
def nums (f : Nat → Nat) : Array Value := rowG 4 fun k => .int .i64 (f k : Nat)
/-- a post of four boxes, and two rows of four numbers -/
structure TB (n q s : Nat) (w : World) (E : Nat → Bx) (nx ls : Nat → Nat) (v : World) : Prop where
  pt : Pt (q + 1) q 4 E v
  rn : M.RowAt v s 142 (nums nx)
  rl : M.RowAt v (s + 1) 142 (nums ls)
  bel : Below n w v
  le : n ≤ q
  lt : q + 1 < s
section
variable {n q s : Nat} {w : World} {E E' : Nat → Bx} {nx ls : Nat → Nat} {v v' : World}
theorem TB.size (h : TB n q s w E nx ls v) : s + 1 < v.heap.size := h.rl.lt
theorem TB.same (h : TB n q s w E nx ls v) (hb : Below v.heap.size v v') : TB n q s w E nx ls v' := ⟨h.pt.same hb, h.rn.call hb, h.rl.call hb, h.bel.trans (hb.mono (by have := h.size; have := h.le; have := h.lt; omega)), h.le, h.lt⟩
theorem TB.drew (h : TB n q s w E nx ls v) : TB n q s w E nx ls v.drew := ⟨h.pt.drew, h.rn.drew, h.rl.drew, h.bel.drew, h.le, h.lt⟩
theorem TB.alloc (h : TB n q s w E nx ls v) (o : Obj) : TB n q s w E nx ls (v.alloc o) := h.same ((Below.refl _ _).alloc (Nat.le_refl _) o)
theorem TB.call (h : TB n q s w E nx ls v) (hr : M.RowAt v' q 285 (boC E' 4)) (hb : M.But q v v') (hok : ∀ k, BxOk (E' k)) : TB n q s w E' nx ls v' :=
  ⟨h.pt.call hb hr hok, hb.row h.rn (by have := h.lt; omega), hb.row h.rl (by have := h.lt; omega), hb.below h.bel h.le (by have := h.size; have := h.le; have := h.lt; omega), h.le, h.lt⟩
theorem nums_set (f : Nat → Nat) (k x : Nat) : (nums f).setIfInBounds k (.int .i64 (x : Nat)) = nums (upN f k x) := by
  unfold nums
  refine rowG_set _ fun j _ => ?_
  unfold upN
  split <;> rfl
theorem nums_get (f : Nat → Nat) {k : Nat} (h : k < 4) : (nums f)[k]? = some (.int .i64 (f k : Nat)) := rowG_get h
theorem TB.setN (h : TB n q s w E nx ls v) (k x : Nat) : TB n q s w E (upN nx k x) ls (v.setCell ⟨s, k, none⟩ (.int .i64 (x : Nat))) := by
  have hsz := h.size; have hle := h.le; have hlt := h.lt
  refine ⟨⟨?_, ?_, h.pt.ne, h.pt.nb1, h.pt.nb64, h.pt.ok⟩, ?_, ?_, ?_, h.le, h.lt⟩
  · exact h.pt.hp.far (by show s ≠ q + 1; omega) _
  · exact h.pt.hB.far (by show s ≠ q; omega) _
  · rw [← nums_set]; exact h.rn.set k _
  · exact h.rl.far (by show s ≠ s + 1; omega) _
  · exact h.bel.setCell (by show n ≤ s; omega) _
theorem TB.setL (h : TB n q s w E nx ls v) (k x : Nat) : TB n q s w E nx (upN ls k x) (v.setCell ⟨s + 1, k, none⟩ (.int .i64 (x : Nat))) := by
  have hsz := h.size; have hle := h.le; have hlt := h.lt
  refine ⟨⟨?_, ?_, h.pt.ne, h.pt.nb1, h.pt.nb64, h.pt.ok⟩, ?_, ?_, ?_, h.le, h.lt⟩
  · exact h.pt.hp.far (by show s + 1 ≠ q + 1; omega) _
  · exact h.pt.hB.far (by show s + 1 ≠ q; omega) _
  · exact h.rn.far (by show s + 1 ≠ s; omega) _
  · rw [← nums_set]; exact h.rl.set k _
  · exact h.bel.setCell (by show n ≤ s + 1; omega) _
theorem TB.cn (h : TB n q s w E nx ls v) {k : Nat} (hk : k < 4) : v.cell? ⟨s, k, none⟩ = some (.int .i64 (nx k : Nat)) := by rw [h.rn.cell, nums_get _ hk]
theorem TB.cl (h : TB n q s w E nx ls v) {k : Nat} (hk : k < 4) : v.cell? ⟨s + 1, k, none⟩ = some (.int .i64 (ls k : Nat)) := by rw [h.rl.cell, nums_get _ hk]
end
set_option maxRecDepth 100000 in
set_option maxHeartbeats 4000000 in
theorem boxes_long (pa : Option Addr) (len cap : Nat) (w : World) (hl : 200 < len) (sh : ∀ v, Below w.heap.size w v → Calls Tryz.prog 17 #[] v fun e w' => e = .returned (.bool true) ∧ Below v.heap.size v w') :
    Calls Tryz.prog 12 #[.slice pa len cap] w fun e w' => e = .returned (.bool true) ∧ Below w.heap.size w w' := by
  have SH := Lib.hid sh
  clear sh
  go_enter Tryz.func12, Tryz.ntmps12
  go_wp2_with fail
  refine (SH.out _ (Below.refl _ _)).mono ?_
  rintro e w1 ⟨rfl, g1⟩
  go_wp2
  go_ret
  exact ⟨rfl, g1⟩
set_option maxRecDepth 100000 in
set_option maxHeartbeats 8000000 in
theorem boxes_walk (pa : Option Addr) (len cap : Nat) (zs : List Int) (w : World) (hrow : RowK.IsRow .u8 w pa len cap zs) (hl : len ≤ 200) (sh : ∀ v, Below w.heap.size w v → Calls Tryz.prog 17 #[] v fun e w' => e = .returned (.bool true) ∧ Below v.heap.size v w') :
    Calls Tryz.prog 12 #[.slice pa len cap] w fun e w' => e = .returned (.bool true) ∧ Below w.heap.size w w' := by
  obtain ⟨b, off, r1, r2, r3, r4, r5, r6, r7⟩ := hrow.plain
  obtain ⟨n, hn⟩ : ∃ n, w.heap.size = n := ⟨_, rfl⟩
  have HN := Lib.hid hn
  have SH := Lib.hid sh
  have nw := fun v => new_yes 4 (by decide) (by decide) v
  have cell : ∀ j, j < len → ∃ z : Nat, z < 256 ∧ pa = some ⟨b, off, none⟩ ∧ ∀ v, Below n w v → v.cell? ⟨b, off + j, none⟩ = some (.int .u8 (z : Nat)) := fun j hj => by
    have hz := RowK.wf_u8 (r7 (zs.getD j 0) (by rw [List.getD_eq_getElem?_getD, List.getElem?_eq_getElem (by omega)]; exact List.getElem_mem _))
    obtain ⟨z, hzz⟩ := Int.eq_ofNat_of_zero_le hz.1
    refine ⟨z, by omega, r2.resolve_left (by omega), fun v hv => ?_⟩
    rw [hv.cell (p := ⟨b, off + j, none⟩) (by show b < n; rw [← hn]; exact r1.resolve_left (by omega)), r6 j hj, hzz]
  have NW := Lib.hid nw; have CELL := Lib.hid cell
  have d1 : decide ((200 : Int) < (len : Int)) = false := by simp; omega
  have d1' : decide (200 < len) = false := by simp; omega
  clear sh nw cell r1 r2 r3 r4 r5 r6 r7 hrow
  go_enter Tryz.func12, Tryz.ntmps12
  go_wp2_with fail
  refine (SH.out _ (Below.refl _ _)).mono ?_
  rintro e w1 ⟨rfl, g1⟩
  go_wp2_with fail
  refine (NW.out _).mono ?_
  rintro e w2 ⟨rfl, pt, g2⟩
  obtain ⟨q, hq⟩ : ∃ q, w1.heap.size = q := ⟨_, rfl⟩
  have hnq : n ≤ q := by rw [← hq, ← hn]; exact g1.size
  rw [hq] at pt g2
  rw [hn] at g1
  have hb : Below n w w2 := g1.trans (g2.mono hnq)
  rw [hq]
  clear g1 g2 hq hn
  go_wp2
  obtain ⟨s, hs⟩ : ∃ s, w2.heap.size = s := ⟨_, rfl⟩
  rw [hs]
  have tb0 : TB n q s w (fun _ => bx0) (fun _ => 0) (fun _ => 0) ((w2.alloc (Obj.cells #[Value.int IntKind.i64 0, Value.int IntKind.i64 0, Value.int IntKind.i64 0, Value.int IntKind.i64 0] 142)).alloc (Obj.cells #[Value.int IntKind.i64 0, Value.int IntKind.i64 0, Value.int IntKind.i64 0, Value.int IntKind.i64 0] 142)) := by
    have e0 : nums (fun _ => 0) = #[Value.int IntKind.i64 0, Value.int IntKind.i64 0, Value.int IntKind.i64 0, Value.int IntKind.i64 0] := by kernel_rfl
    have hlt := pt.ltp
    refine ⟨(pt.alloc _).alloc _, ?_, ?_, ?_, hnq, by omega⟩
    · rw [e0, ← hs]; exact (M.RowAt.new w2 142 _).alloc _
    · rw [e0]
      have := M.RowAt.new (w2.alloc (Obj.cells #[Value.int IntKind.i64 0, Value.int IntKind.i64 0, Value.int IntKind.i64 0, Value.int IntKind.i64 0] 142)) 142 #[Value.int IntKind.i64 0, Value.int IntKind.i64 0, Value.int IntKind.i64 0, Value.int IntKind.i64 0]
      rwa [show (w2.alloc (Obj.cells #[Value.int IntKind.i64 0, Value.int IntKind.i64 0, Value.int IntKind.i64 0, Value.int IntKind.i64 0] 142)).heap.size = s + 1 by simp [hs]] at this
    · exact (hb.alloc (by omega) _).alloc (by simp; omega) _
  clear pt hb hs
  go_loopg [6] len (fun m i v => ∃ (k : Nat) (E : Nat → Bx) (nx ls : Nat → Nat), m + k = len ∧ i = .int .i64 k ∧ TB n q s w E nx ls v ∧ Hid (Bs E nx ls k))
  case atStart => exact ⟨0, _, _, _, by omega, rfl, tb0, Lib.hid Bs.zero⟩
  case round =>
    clear tb0
    obtain ⟨k, E, nx, ls, hm, rfl, tb, hbs⟩ := hrel
    have HM := Lib.hid hm
    have hsz := tb.size; have hle := tb.le; have hlt := tb.lt
    by_cases hk : k < len
    · obtain ⟨z, hz, rfl, cz⟩ := CELL.out k hk
      have CZ := Lib.hid cz
      have czv := cz _ tb.bel
      obtain ⟨r, hr⟩ : ∃ r, z % 4 = r := ⟨_, rfl⟩
      have hr4 : r < 4 := by omega
      have e1 : (z : Int) % 4 = (r : Int) := by omega
      have e2 : Int.tmod (z : Int) 4 = (r : Int) := by rw [← hr]; rfl
      have hmx := hbs.out.mx r hr4
      have hmx2 := hbs.out.le r hr4
      by_cases h128 : 128 ≤ z
      · have dz : decide ((128 : Int) ≤ (z : Int)) = true := by simp; omega
        have tkp := fun v (c : Pt (q + 1) q 4 E v) => takep_any c (r : Nat)
        have okT := take_okE (nb := 4) (x := (r : Nat)) hbs.out.ok
        by_cases hnl : nx r = ls r
        · obtain ⟨t1, t2, t3⟩ := hbs.out.take_no hr4 hnl
          rw [t1, t2, t3] at tkp
          rw [t2] at okT
          rw [show lt0.row = #[.int .i64 0, .int .i64 0, .int .i64 0, .string ⟨#[]⟩] from rfl] at tkp
          have TK := Lib.hid tkp
          clear tkp t1 t2 t3
          go_wp2_with fail
          refine (TK.out _ tb.pt).mono ?_
          rintro e w3 ⟨rfl, hr3, hb3⟩
          have tb3 := tb.call hr3 hb3 okT
          clear hr3 hb3 tb czv
          go_wp2
          refine QC.wp_region_d [] [0, 1, 2, 3, 4, 5, 6, 7, 8, 9] (by kernel_rfl) (by kernel_rfl) (fun u d => ?_)
          have tb4 : TB n q s w E nx ls u := (tb3.alloc _).same d.below
          clear tb3 d
          iterate 10
            (first
             | (apply QC.wpC_load
                (focus rfl)
                (focus decide)
                (focus rfl)
                (focus rfl)
                (focus rfl)
                (focus (assumption))
                (focus (intro u hu; go_simp))
                intro K hK
                go_simp
                refine hK _ ?_
                clear hK K)
             | (apply QC.wpC_pure
                (focus rfl)
                (focus decide)
                intro K hK
                go_simp
                first
                 | (refine hK _ ?_; clear hK K)
                 | (apply Exists.intro
                    refine ⟨fun u => ?_, hK _ ?_⟩
                    (focus (unfold QP.oat; go_simp; first | done | exact ⟨rfl, rfl⟩ | exact rfl))
                    clear hK K)))
          refine QC.wpC_nil ?_
          go_wp2
          go_roundg (len - (k + 1))
          case measure => have := HM.out; omega
          case rel => exact ⟨k + 1, E, nx, ls, by have := HM.out; omega, by go_num, tb4, Lib.hid hbs.out.more⟩
        · obtain ⟨t1, t2, t3⟩ := hbs.out.take hr4 hnl
          rw [t1, t2] at tkp
          rw [show (Lk r (ls r)).row = #[.int .i64 (r : Nat), .int .i64 0, .int .i64 (ls r : Nat), .string ⟨#[]⟩] from rfl] at tkp
          generalize takeE 4 E (r : Nat) = E2 at *
          have TK := Lib.hid tkp
          have BS := Lib.hid t3
          clear tkp t1 t2 t3
          go_wp2_with fail
          refine (TK.out _ tb.pt).mono ?_
          rintro e w3 ⟨rfl, hr3, hb3⟩
          have tb3 := tb.call hr3 hb3 okT
          clear hr3 hb3 tb czv
          go_wp2
          obtain ⟨x, hx⟩ : ∃ x, w3.heap.size = x := ⟨_, rfl⟩
          rw [hx]
          have hir : (r : Int) < 4 := by omega
          have hi0 : (0 : Int) ≤ (r : Int) := by omega
          have hwr : IntKind.i64.wrap ((ls r : Int) + 1) = ((ls r + 1 : Nat) : Int) := by rw [IntKind.wrap_i64]; omega
          refine QC.wp_region_d [] [0, 1, 2, 3, 4, 5, 6, 7, 8, 9] (by kernel_rfl) (by kernel_rfl) (fun u d => ?_)
          have tb4 : TB n q s w E2 nx ls u := (tb3.alloc _).same d.below
          have hc1 : u.cell? ⟨x, 2, none⟩ = some (.int .i64 (ls r : Nat)) := by
            rw [d.cell, ← hx, (M.RowAt.new w3 144 _).cell 2]; rfl
          have hc2 := tb4.cl hr4
          have hf2 := tb4.rl.frozen r
          have TB4 := Lib.hid tb4
          have hne : ((ls r : Int) != (ls r : Int)) = false := by simp
          clear tb3 d tb4 hx okT
          iterate 10
            (first
             | (apply QC.wpC_load
                (focus rfl)
                (focus decide)
                (focus rfl)
                (focus rfl)
                (focus rfl)
                (focus (assumption))
                (focus (intro u hu; go_simp))
                intro K hK
                go_simp
                refine hK _ ?_
                clear hK K)
             | (apply QC.wpC_pure
                (focus rfl)
                (focus decide)
                intro K hK
                go_simp
                first
                 | (refine hK _ ?_; clear hK K)
                 | (apply Exists.intro
                    refine ⟨fun u => ?_, hK _ ?_⟩
                    (focus (unfold QP.oat; go_simp; first | done | exact ⟨rfl, rfl⟩ | exact rfl))
                    clear hK K)))
          refine QC.wpC_nil ?_
          go_wp2
          have tb5 := TB4.out.setL r (ls r + 1)
          go_roundg (len - (k + 1))
          case measure => have := HM.out; omega
          case rel => exact ⟨k + 1, E2, nx, _, by have := HM.out; omega, by go_num, tb5, BS⟩
      · have dz : decide ((128 : Int) ≤ (z : Int)) = false := by simp; omega
        have snd := fun v (c : Pt (q + 1) q 4 E v) => send_any c (Lk r (nx r))
        have okS := send_ok (nb := 4) (x := Lk r (nx r)) hbs.out.ok
        rw [show (Lk r (nx r)).to = ((r : Nat) : Int) from rfl, show (Lk r (nx r)).row = #[.int .i64 (r : Nat), .int .i64 0, .int .i64 (nx r : Nat), .string ⟨#[]⟩] from rfl] at snd
        have hir : (r : Int) < 4 := by omega
        have hi0 : (0 : Int) ≤ (r : Int) := by omega
        have hcn := tb.cn hr4
        by_cases hfl : nx r - ls r = 8
        · rw [hbs.out.send_no hr4 hfl, hbs.out.send_no' hr4 hfl _ rfl] at snd
          have SD := Lib.hid snd
          clear snd okS
          go_wp2_with fail
          refine (SD.out _ tb.pt).mono ?_
          rintro e w3 ⟨rfl, hr3, hb3⟩
          have tb3 := tb.call hr3 hb3 hbs.out.ok
          clear hr3 hb3 tb czv hcn
          go_wp2
          go_roundg (len - (k + 1))
          case measure => have := HM.out; omega
          case rel => exact ⟨k + 1, E, nx, ls, by have := HM.out; omega, by go_num, tb3, Lib.hid hbs.out.more⟩
        · have bs2 := hbs.out.send hr4 hfl
          rw [hbs.out.send_yes hr4 hfl] at snd
          generalize sendB 4 E (Lk r (nx r)) = E2 at *
          have SD := Lib.hid snd
          have BS := Lib.hid bs2
          have hwr : IntKind.i64.wrap ((nx r : Int) + 1) = ((nx r + 1 : Nat) : Int) := by rw [IntKind.wrap_i64]; omega
          clear snd bs2
          go_wp2_with fail
          refine (SD.out _ tb.pt).mono ?_
          rintro e w3 ⟨rfl, hr3, hb3⟩
          have tb3 := tb.call hr3 hb3 okS
          have hcn3 := tb3.cn hr4
          have hf3 := tb3.rn.frozen r
          have TB3 := Lib.hid tb3
          clear hr3 hb3 tb czv hcn tb3 okS
          go_wp2
          have tb5 := TB3.out.setN r (nx r + 1)
          go_roundg (len - (k + 1))
          case measure => have := HM.out; omega
          case rel => exact ⟨k + 1, E2, _, ls, by have := HM.out; omega, by go_num, tb5, BS⟩
    · obtain rfl : k = len := by omega
      have dk : decide ((k : Int) < (k : Int)) = false := by simp
      go_wp2
      go_loopg [10, 11] 4 (fun m al i v => ∃ (j : Nat), m + j = 4 ∧ i = .int .i64 j ∧ al = .int .i64 (sumM E j : Nat) ∧ TB n q s w E nx ls v)
      case atStart => exact ⟨0, by omega, rfl, rfl, tb⟩
      case round =>
        clear tb
        obtain ⟨j, hj, rfl, rfl, tb⟩ := hrel
        have HJ := Lib.hid hj
        have hsz := tb.size
        by_cases hj4 : j < 4
        · have lc := fun v (c : Pt (q + 1) q 4 E v) => len_any c (j : Nat)
          have hlr : lenR 4 E (j : Nat) = ((E j).many : Nat) := by
            unfold lenR; rw [Int.toNat_natCast, if_pos ⟨by omega, by omega⟩]
          have hle2 := hbs.out.le j hj4
          have hmx3 := hbs.out.mx j hj4
          have hsm := sumM_le hbs.out.ok j
          have hsj : sumM E (j + 1) = sumM E j + (nx j - ls j) := by show sumM E j + (E j).many = _; rw [hbs.out.many hj4]
          rw [hlr, hbs.out.many hj4] at lc
          have hwd : IntKind.i64.wrap ((nx j : Int) - (ls j : Int)) = ((nx j - ls j : Nat) : Int) := by rw [IntKind.wrap_i64]; omega
          have hne : (((nx j - ls j : Nat) : Int) != ((nx j - ls j : Nat) : Int)) = false := by simp
          generalize nx j - ls j = dd at *
          have hws : IntKind.i64.wrap ((sumM E j : Int) + (dd : Int)) = ((sumM E (j + 1) : Nat) : Int) := by
            have : (nx j : Int) - (ls j : Int) = (dd : Int) ∨ True := .inr trivial
            rw [hsj, IntKind.wrap_i64]
            have hdd : dd ≤ 8 := by
              have h1 := sumM_le hbs.out.ok (j + 1)
              have h2 := (hbs.out.ok j).many
              have h3 : sumM E (j + 1) = sumM E j + (E j).many := rfl
              omega
            omega
          obtain ⟨s2, hs2'⟩ : ∃ s2, sumM E (j + 1) = s2 := ⟨_, rfl⟩
          rw [hs2'] at hws
          have hs2 : Value.int .i64 (s2 : Nat) = .int .i64 (sumM E (j + 1) : Nat) := by rw [hs2']
          have HS2 := Lib.hid hs2
          clear hs2 hs2'
          have LC := Lib.hid lc
          have hij : (j : Int) < 4 := by omega
          have hi0 : (0 : Int) ≤ (j : Int) := by omega
          have dj : decide ((j : Int) < 4) = true := by simp; omega
          clear lc hsj hsm hlr hle2 hmx3
          go_wp2
          refine QC.wp_region_d [2] [0, 1, 3, 4, 5, 6, 7, 8, 9, 2, 10] (by kernel_rfl) (by kernel_rfl) (fun u d => ?_)
          have tb4 : TB n q s w E nx ls u := tb.same d.below
          have hc1 := tb4.cn hj4
          have hc2 := tb4.cl hj4
          have TB4 := Lib.hid tb4
          clear tb d tb4
          iterate 9
            (first
             | (apply QC.wpC_load
                (focus rfl)
                (focus decide)
                (focus rfl)
                (focus rfl)
                (focus rfl)
                (focus (assumption))
                (focus (intro u hu; go_simp))
                intro K hK
                go_simp
                refine hK _ ?_
                clear hK K)
             | (apply QC.wpC_pure
                (focus rfl)
                (focus decide)
                intro K hK
                go_simp
                first
                 | (refine hK _ ?_; clear hK K)
                 | (apply Exists.intro
                    refine ⟨fun u => ?_, hK _ ?_⟩
                    (focus (unfold QP.oat; go_simp; first | done | exact ⟨rfl, rfl⟩ | exact rfl))
                    clear hK K)))
          apply QC.wpC_eff
          (focus rfl)
          (focus decide)
          go_wp2_with fail
          refine (LC.out _ TB4.out.pt).mono ?_
          rintro e w3 ⟨rfl, rfl⟩
          go_wp2
          refine QC.eff_ok rfl ?_ ?_
          · (repeat (first | exact QC.obl_nil | refine QC.obl_is (by assumption) ?_ | (apply QC.obl_dep; (focus decide))))
          iterate 1
            (first
             | (apply QC.wpC_load
                (focus rfl)
                (focus decide)
                (focus rfl)
                (focus rfl)
                (focus rfl)
                (focus (assumption))
                (focus (intro u hu; go_simp))
                intro K hK
                go_simp
                refine hK _ ?_
                clear hK K)
             | (apply QC.wpC_pure
                (focus rfl)
                (focus decide)
                intro K hK
                go_simp
                first
                 | (refine hK _ ?_; clear hK K)
                 | (apply Exists.intro
                    refine ⟨fun u => ?_, hK _ ?_⟩
                    (focus (unfold QP.oat; go_simp; first | done | exact ⟨rfl, rfl⟩ | exact rfl))
                    clear hK K)))
          refine QC.wpC_nil ?_
          go_wp2_with fail
          refine (LC.out _ TB4.out.pt).mono ?_
          rintro e w3 ⟨rfl, rfl⟩
          go_wp2
          go_roundg (4 - (j + 1))
          case measure => have := HJ.out; omega
          case rel => exact ⟨j + 1, by have := HJ.out; omega, by go_num, HS2.out, TB4.out⟩
        · obtain rfl : j = 4 := by omega
          have AL := Lib.hid (all_any tb.pt)
          have BEL := Lib.hid tb.bel
          clear tb
          go_wp2_with fail
          refine (AL.out).mono ?_
          rintro e w3 ⟨rfl, rfl⟩
          go_wp2
          go_ret
          exact ⟨by simp, by rw [HN.out]; exact BEL.out⟩
end Go.Proofs.YtdebnbgjgkbmaaaGreatDoor.Po
namespace Go.Proofs.YtdebnbgjgkbmaaaGreatDoor
open Go.RowKit
set_option linter.unusedVariables false
theorem boxes_lst : SX.Lst Rows.topBoxesRow.laid := by
  refine ⟨?_, ?_, ?_, ?_, ?_⟩ <;> simp [Rows.topBoxesRow]
theorem sh_of {w : World} (g : SX.Glb w) : ∀ v, Below w.heap.size w v → Calls Tryz.prog 17 #[] v fun e w' => e = .returned (.bool true) ∧ Below v.heap.size v w' :=
  fun v hb => SX.shown_any v (g.below hb g.lt)
theorem walk_TopBoxes (pa : Option Addr) (len cap : Nat) (zs : List Int) {W : World} (hrow : RowK.IsRow .u8 W pa len cap zs) (hsh : W.ShapedOpen Tryz.prog) (hL : laidMetH Tryz.prog Rows.topBoxesRow.laid W) :
    Calls Tryz.prog 12 #[.slice pa len cap] W fun e w' => e = .returned (.bool true) ∧ Below W.heap.size W w' := by
  have g := SX.glb_of hsh hL boxes_lst
  by_cases hl : len ≤ 200
  · exact Po.boxes_walk pa len cap zs W hrow hl (sh_of g)
  · exact Po.boxes_long pa len cap W (by omega) (sh_of g)
end Go.Proofs.YtdebnbgjgkbmaaaGreatDoor
namespace Go.Proofs.YtdebnbgjgkbmaaaGreatDoor.Wit9d6a22
set_option maxRecDepth 100000
noncomputable def laidWorld (os : Os) : World :=
  { World.holding Tryz.prog os ⟨#[], #[], []⟩ with heap := (((((((((((((World.holding Tryz.prog os ⟨#[], #[], []⟩).heap).modify 5 fun
    | .cells _ t frozen => .cells #[.int .u8 0, .int .u8 1, .int .u8 28, .int .u8 2, .int .u8 29, .int .u8 14, .int .u8 24, .int .u8 3, .int .u8 30, .int .u8 22, .int .u8 20, .int .u8 15, .int .u8 25, .int .u8 17, .int .u8 4, .int .u8 8, .int .u8 31, .int .u8 27, .int .u8 13, .int .u8 23, .int .u8 21, .int .u8 19, .int .u8 16, .int .u8 7, .int .u8 26, .int .u8 12, .int .u8 18, .int .u8 6, .int .u8 11, .int .u8 5, .int .u8 10, .int .u8 9] t frozen
    | o => o)).modify 6 fun
    | .cells _ t frozen => .cells #[.int .u8 0, .int .u8 1, .int .u8 56, .int .u8 2, .int .u8 57, .int .u8 49, .int .u8 28, .int .u8 3, .int .u8 61, .int .u8 58, .int .u8 42, .int .u8 50, .int .u8 38, .int .u8 29, .int .u8 17, .int .u8 4, .int .u8 62, .int .u8 47, .int .u8 59, .int .u8 36, .int .u8 45, .int .u8 43, .int .u8 51, .int .u8 22, .int .u8 53, .int .u8 39, .int .u8 33, .int .u8 30, .int .u8 24, .int .u8 18, .int .u8 12, .int .u8 5, .int .u8 63, .int .u8 55, .int .u8 48, .int .u8 27, .int .u8 60, .int .u8 41, .int .u8 37, .int .u8 16, .int .u8 46, .int .u8 35, .int .u8 44, .int .u8 21, .int .u8 52, .int .u8 32, .int .u8 23, .int .u8 11, .int .u8 54, .int .u8 26, .int .u8 40, .int .u8 15, .int .u8 34, .int .u8 20, .int .u8 31, .int .u8 10, .int .u8 25, .int .u8 14, .int .u8 19, .int .u8 9, .int .u8 13, .int .u8 8, .int .u8 7, .int .u8 6] t frozen
    | o => o)).modify 0 fun
    | .cells _ t frozen => .cells #[.int .u32 1779033703, .int .u32 3144134277, .int .u32 1013904242, .int .u32 2773480762, .int .u32 1359893119, .int .u32 2600822924, .int .u32 528734635, .int .u32 1541459225] t frozen
    | o => o)).modify 4 fun
    | .cells _ t frozen => .cells #[.int .u32 1116352408, .int .u32 1899447441, .int .u32 3049323471, .int .u32 3921009573, .int .u32 961987163, .int .u32 1508970993, .int .u32 2453635748, .int .u32 2870763221, .int .u32 3624381080, .int .u32 310598401, .int .u32 607225278, .int .u32 1426881987, .int .u32 1925078388, .int .u32 2162078206, .int .u32 2614888103, .int .u32 3248222580, .int .u32 3835390401, .int .u32 4022224774, .int .u32 264347078, .int .u32 604807628, .int .u32 770255983, .int .u32 1249150122, .int .u32 1555081692, .int .u32 1996064986, .int .u32 2554220882, .int .u32 2821834349, .int .u32 2952996808, .int .u32 3210313671, .int .u32 3336571891, .int .u32 3584528711, .int .u32 113926993, .int .u32 338241895, .int .u32 666307205, .int .u32 773529912, .int .u32 1294757372, .int .u32 1396182291, .int .u32 1695183700, .int .u32 1986661051, .int .u32 2177026350, .int .u32 2456956037, .int .u32 2730485921, .int .u32 2820302411, .int .u32 3259730800, .int .u32 3345764771, .int .u32 3516065817, .int .u32 3600352804, .int .u32 4094571909, .int .u32 275423344, .int .u32 430227734, .int .u32 506948616, .int .u32 659060556, .int .u32 883997877, .int .u32 958139571, .int .u32 1322822218, .int .u32 1537002063, .int .u32 1747873779, .int .u32 1955562222, .int .u32 2024104815, .int .u32 2227730452, .int .u32 2361852424, .int .u32 2428436474, .int .u32 2756734187, .int .u32 3204031479, .int .u32 3329325298] t frozen
    | o => o)).modify 7 fun
    | .cells _ t frozen => .cells #[.int .i64 3, .int .i64 4, .int .i64 1, .int .i64 2, .int .i64 0, .int .i64 1, .int .i64 2, .int .i64 3, .int .i64 4, .int .i64 0, .int .i64 1, .int .i64 2, .int .i64 3, .int .i64 4, .int .i64 0, .int .i64 3, .int .i64 4, .int .i64 1, .int .i64 2, .int .i64 0] t frozen
    | o => o)).modify 3 fun
    | .cells _ t frozen => .cells #[.int .i64 1, .int .i64 7, .int .i64 3, .int .i64 5] t frozen
    | o => o) }
theorem vars (os : Os) (args : Array Value) : ((laidWorld os).forCall (fun _ _ => 0) ⟨#[], args, []⟩).variablesB Tryz.checked.prog = true := by kernel_rfl
theorem rest (os : Os) (args : Array Value) : (((laidWorld os).forCall (fun _ _ => 0) ⟨#[], args, []⟩).heap.toList.drop Tryz.checked.prog.globals.size).take ((begin Tryz.checked.prog (fun _ _ => 0) default).world.heap.size - Tryz.checked.prog.globals.size) =
      (begin Tryz.checked.prog (fun _ _ => 0) default).world.heap.toList.drop Tryz.checked.prog.globals.size := by kernel_rfl
def laid : List (String × DataW Unit) := [("math/bits.deBruijn32tab", Rows.laid_math_bits_deBruijn32tab), ("math/bits.deBruijn64tab", Rows.laid_math_bits_deBruijn64tab), ("remitter/digest.begin", Rows.laid_remitter_digest_begin), ("remitter/digest.table", Rows.laid_remitter_digest_table), ("remitter/htlc.events", Rows.laid_remitter_htlc_events), ("remitter/htlc.spans", Rows.laid_remitter_htlc_spans)]
theorem met (os : Os) (args : Array Value) : laidMet Tryz.prog laid ((laidWorld os).forCall (fun _ _ => 0) ⟨#[], args, []⟩).memory :=
  laidMet_of_run' 8 (by kernel_rfl) (by kernel_rfl)
end Go.Proofs.YtdebnbgjgkbmaaaGreatDoor.Wit9d6a22
