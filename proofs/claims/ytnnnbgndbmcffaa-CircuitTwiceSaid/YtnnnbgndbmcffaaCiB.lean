/- Open of the circuit map: where Check refuses, and where a key is there already; the conditions are the ranges of the kinds. -/
import Derived.Test.YtnnnbgndbmcffaaCiA
import Derived.Test.YtnnnbgndbmcffaaQuietA
namespace Go.Proofs.Ytnnnbgndbmcffaa
open Go.RowKit
set_option linter.unusedVariables false

theorem Bt.toBelow {w w' : World} (h : Bt [] w w') : Below w.heap.size w w' := ⟨h.os, h.tape, h.output, h.size, fun k hk => h.block k hk (by simp)⟩
/-- a store into a map as an operation that writes -/
theorem oat_mapUpdate {P : Program} {k : TypeId} {κ α : Type} [DecidableEq κ] {K : KT P k κ} {mk : α → Value} {o : Oper} {a : Act} {w : World} {C' : World → Prop} {b : Nat} {l : List (κ × α)}
    (m x v : Operand) (t e : TypeId) (ho : o.op = .mapUpdate t m x v) (i : κ) (y : α) (hm : a.eval m = .map (some b)) (hx : a.eval x = K.kv i) (hv : a.eval v = mk y)
    (ht : P.underlying t = some (.map k e)) (h : IM K mk w b l) (hi : K.ok i) (hC : ∀ w', IM K mk w' b (putM l i y) → M.But b w w' → C' w') : QP.oat P o a C' w undef := by
  obtain ⟨w', hrun, r1, r2⟩ := h.put ht hi y
  unfold QP.oat execOp
  simp [ho, hm, hx, hv, hrun, Result.andThen, QP.upon]
  exact hC w' r1 r2

/-- the map, the argument's box, and what is as it was -/
structure CO (s : List Nat) (m i o : Nat) (base rate : Int) (li : List (Ky × List Value)) (lo : List (Ky × Ky)) (n : Nat) (X : Array Value) (w v : World) : Prop where
  cm : Cm m i o base rate li lo v
  row : M.RowAt v n 67 X
  bt : Bt s w v
  wn : w.heap.size = n
  out : ∀ g ∈ s, g < n
  old : m < n ∧ i < n ∧ o < n
section
variable {s : List Nat} {m i o : Nat} {base rate : Int} {li : List (Ky × List Value)} {lo : List (Ky × Ky)} {n : Nat} {X : Array Value} {w v v' : World}
theorem CO.same (h : CO s m i o base rate li lo n X w v) (hb : Below v.heap.size v v') : CO s m i o base rate li lo n X w v' :=
  ⟨h.cm.same hb, h.row.call hb, h.bt.trans (.ofBelow _ hb), h.wn, h.out, h.old⟩
theorem CO.drew (h : CO s m i o base rate li lo n X w v) : CO s m i o base rate li lo n X w v.drew := ⟨h.cm.drew, h.row.drew, h.bt.drew, h.wn, h.out, h.old⟩
theorem CO.alloc (h : CO s m i o base rate li lo n X w v) (ob : Obj) : CO s m i o base rate li lo n X w (v.alloc ob) := h.same ((Below.refl _ _).alloc (Nat.le_refl _) ob)
theorem CO.rowE (h : CO s m i o base rate li lo n X w v) : v.heap[n]? = some (.cells X 67 (0, 0)) := h.row
theorem CO.size (h : CO s m i o base rate li lo n X w v) : n < v.heap.size := h.row.lt
end
/-- .. and a new block -/
structure CG (s : List Nat) (m i o : Nat) (base rate : Int) (li : List (Ky × List Value)) (lo : List (Ky × Ky)) (n : Nat) (X : Array Value) (w : World) (t : TypeId) (Z : Array Value) (g : Nat) (v : World) : Prop where
  co : CO s m i o base rate li lo n X w v
  gr : M.RowAt v g t Z
  gn : n < g
section
variable {s : List Nat} {m i o : Nat} {base rate : Int} {li : List (Ky × List Value)} {lo : List (Ky × Ky)} {n : Nat} {X : Array Value} {w v v' : World} {t : TypeId} {Z : Array Value} {g : Nat}
theorem CG.of (h : CO s m i o base rate li lo n X w v) (hg : v.heap.size = g) (t : TypeId) (Z : Array Value) : CG s m i o base rate li lo n X w t Z g (v.alloc (.cells Z t)) := by
  subst hg
  exact ⟨h.alloc _, M.RowAt.new v t Z, h.size⟩
theorem CG.rowE (h : CG s m i o base rate li lo n X w t Z g v) : v.heap[g]? = some (.cells Z t (0, 0)) := h.gr
theorem CG.set (h : CG s m i o base rate li lo n X w t Z g v) (D : Array Value) : CG s m i o base rate li lo n X w t D g (v.setRow g D) := by
  have hn := h.gn
  have ho := h.co.old
  have hs : Bt s w (v.setRow g D) := ⟨h.co.bt.os, h.co.bt.tape, h.co.bt.output, by have := h.co.bt.size; simpa using this, fun k hk hks => by
    have hw := h.co.wn
    rw [← h.co.bt.block k hk hks]; simp only [World.setRow, Array.getElem?_modify]; rw [if_neg (by omega)]⟩
  exact ⟨⟨⟨h.co.cm.hp.farRow (by omega) D, h.co.cm.hi.farRow (by omega) D, h.co.cm.ho.farRow (by omega) D, h.co.cm.ne⟩, h.co.row.farRow (by omega) D, hs, h.co.wn, h.co.out, h.co.old⟩, h.gr.setRow D, hn⟩
end

/-- the cells of a circuit -/
structure Cells (X : Array Value) (a b : Lg) : Prop where
  size : X.size = 40
  one : X.all (·.oneCell') = true
  c0 : X[0]? = some (.int .u32 a.k.1)
  c1 : X[1]? = some (.int .u64 a.k.2)
  c2 : X[2]? = some (.int .u64 a.amt)
  c3 : X[3]? = some (.int .i64 a.exp)
  c4 : X[4]? = some (.int .u32 b.k.1)
  c5 : X[5]? = some (.int .u64 b.k.2)
  c6 : X[6]? = some (.int .u64 b.amt)
  c7 : X[7]? = some (.int .i64 b.exp)
def Wd (C : List Value) : Prop := C.length = 40 ∧ C.all (·.oneCell') = true
theorem Cells.wd {C : List Value} {a b : Lg} (h : Cells C.toArray a b) : Wd C := ⟨by have := h.size; simpa using this, by have := h.one; simpa using this⟩
def Z67 : Array Value := #[.int .u32 0, .int .u64 0, .int .u64 0, .int .i64 0, .int .u32 0, .int .u64 0, .int .u64 0, .int .i64 0, .int .u8 0, .int .u8 0, .int .u8 0, .int .u8 0, .int .u8 0, .int .u8 0, .int .u8 0, .int .u8 0, .int .u8 0, .int .u8 0, .int .u8 0, .int .u8 0, .int .u8 0, .int .u8 0, .int .u8 0, .int .u8 0, .int .u8 0, .int .u8 0, .int .u8 0, .int .u8 0, .int .u8 0, .int .u8 0, .int .u8 0, .int .u8 0, .int .u8 0, .int .u8 0, .int .u8 0, .int .u8 0, .int .u8 0, .int .u8 0, .int .u8 0, .int .u8 0]
def Z61 : Array Value := #[.int .u32 0, .int .u64 0]
theorem zero67 (w : World) : (zeroValue 67).run Try.prog w = .ok (.agg Z67) w := by kernel_rfl
theorem zero61 (w : World) : (zeroValue 61).run Try.prog w = .ok (.agg Z61) w := by kernel_rfl
theorem info67 {D : Array Value} (h : D.size = 40) : (Try.prog.info? 67).map (·.size) = some D.size := by rw [h]; kernel_rfl
theorem info61 {D : Array Value} (h : D.size = 2) : (Try.prog.info? 61).map (·.size) = some D.size := by rw [h]; kernel_rfl
section
variable {s : List Nat} {m i o : Nat} {base rate : Int} {li : List (Ky × List Value)} {lo : List (Ky × Ky)} {n : Nat} {X : Array Value} {w v v' : World}
/-- what the map of the keys in has -/
theorem look_i (hli : ∀ p ∈ li, Wd p.2) {k : Ky} (hk : k.fit) : ∃ D : Array Value, D.size = 40 ∧ D.all (·.oneCell') = true ∧ ∀ v, IM KK mkC v i li → (Instr.lookup 126 (.map (some i)) (kv k) true).run Try.prog v = .ok (.tuple #[.agg D, .bool (getM li k).isSome]) v := by
  cases hg : getM li k with
  | none => exact ⟨Z67, rfl, (by kernel_rfl), fun v h => by have := h.look Try.underlying126 (zero67 v) (i := k) hk; rw [hg] at this; exact this⟩
  | some C =>
    have hw := hli _ (getM_mem hg)
    exact ⟨C.toArray, by simpa using hw.1, by simpa using hw.2, fun v h => by have := h.look Try.underlying126 (zero67 v) (i := k) hk; rw [hg] at this; exact this⟩
theorem look_o {k : Ky} (hk : k.fit) : ∃ D : Array Value, D.size = 2 ∧ D.all (·.oneCell') = true ∧ ∀ v, IM KK kv v o lo → (Instr.lookup 127 (.map (some o)) (kv k) true).run Try.prog v = .ok (.tuple #[.agg D, .bool (getM lo k).isSome]) v := by
  cases hg : getM lo k with
  | none => exact ⟨Z61, rfl, (by kernel_rfl), fun v h => by have := h.look Try.underlying127 (zero61 v) (i := k) hk; rw [hg] at this; exact this⟩
  | some x => exact ⟨#[.int .u32 x.1, .int .u64 x.2], rfl, (by kernel_rfl), fun v h => by have := h.look Try.underlying127 (zero61 v) (i := k) hk; rw [hg] at this; exact this⟩
theorem CO.start (h : Cm m i o base rate li lo w) (X : Array Value) : CO [] m i o base rate li lo w.heap.size X w (w.alloc (.cells X 67)) :=
  ⟨h.same ((Below.refl _ _).alloc (Nat.le_refl _) _), M.RowAt.new w 67 X, (Bt.refl [] w).alloc _, rfl, by simp, h.hp.lt, h.hi.lt, h.ho.lt⟩
theorem CO.c (h : CO s m i o base rate li lo n X w v) {a b : Lg} (hx : Cells X a b) :
    v.cell? ⟨m, 2, none⟩ = some (.map (some i)) ∧ v.cell? ⟨m, 3, none⟩ = some (.map (some o)) ∧ v.cell? ⟨n, 0, none⟩ = some (.int .u32 a.k.1) ∧ v.cell? ⟨n, 1, none⟩ = some (.int .u64 a.k.2) ∧ v.cell? ⟨n, 2, none⟩ = some (.int .u64 a.amt) ∧ v.cell? ⟨n, 3, none⟩ = some (.int .i64 a.exp) ∧
      v.cell? ⟨n, 4, none⟩ = some (.int .u32 b.k.1) ∧ v.cell? ⟨n, 5, none⟩ = some (.int .u64 b.k.2) ∧ v.cell? ⟨n, 6, none⟩ = some (.int .u64 b.amt) ∧ v.cell? ⟨n, 7, none⟩ = some (.int .i64 b.exp) :=
  ⟨h.cm.c.2.2.1, h.cm.c.2.2.2, (h.row.cell 0).trans hx.c0, (h.row.cell 1).trans hx.c1, (h.row.cell 2).trans hx.c2, (h.row.cell 3).trans hx.c3, (h.row.cell 4).trans hx.c4, (h.row.cell 5).trans hx.c5, (h.row.cell 6).trans hx.c6, (h.row.cell 7).trans hx.c7⟩
end
set_option maxRecDepth 100000 in
set_option maxHeartbeats 4000000 in
/-- Check refuses -/
theorem open_err {m i o : Nat} {base rate : Int} {li : List (Ky × List Value)} {lo : List (Ky × Ky)} {w : World} (h : Cm m i o base rate li lo w) (hb : U64 base) (hr : U64 rate) (a b : Lg) (ha : a.ok) (hbo : b.ok) (X : Array Value) (hx : Cells X a b) (he : ckE base rate a b ≠ 0) :
    Calls Try.prog 42 #[.pointer (some ⟨m, 0, none⟩), .agg X] w fun e w' => e = .returned (.int .i64 (ckE base rate a b)) ∧ Below w.heap.size w w' := by
  have c0 := CO.start h X
  obtain ⟨_, _, z0, z1, z2, z3, z4, z5, z6, z7⟩ := c0.c hx
  have ck := check_any c0.cm hb hr a b ha hbo
  obtain ⟨V, hV⟩ : ∃ V, w.alloc (.cells X 67) = V := ⟨_, rfl⟩
  obtain ⟨n, hn⟩ : ∃ n, w.heap.size = n := ⟨_, rfl⟩
  obtain ⟨E, hE⟩ : ∃ E, ckE base rate a b = E := ⟨_, rfl⟩
  have HV := Lib.hid hV; have HN := Lib.hid hn
  rw [hE] at ck he ⊢
  rw [hV] at ck z0 z1 z2 z3 z4 z5 z6 z7
  rw [hV] at c0
  rw [hn] at c0 z0 z1 z2 z3 z4 z5 z6 z7
  have CK := Lib.hid ck; have C0 := Lib.hid c0
  have d0 : (E == 0) = false := by simpa using he
  obtain ⟨⟨ka, ki⟩, aa, ae⟩ := a
  obtain ⟨⟨kb, kj⟩, ba, be⟩ := b
  simp only [Lg.cells] at CK
  simp only at *
  clear h hV hn hE ha hbo hb hr hx ck he c0
  go_enter Try.func42, Try.ntmps42
  go_wp2_with (rw [HN.out]; simp only [HV.out])
  go_wp2_with fail
  refine (CK.out).mono ?_
  rintro e w1 ⟨rfl, q1⟩
  go_wp2
  go_ret
  exact ⟨rfl, (C0.out.same q1).bt.toBelow⟩
end Go.Proofs.Ytnnnbgndbmcffaa
