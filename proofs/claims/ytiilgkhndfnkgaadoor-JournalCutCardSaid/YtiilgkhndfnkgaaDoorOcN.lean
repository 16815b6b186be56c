/- What octet's reader's Number returns and leaves; the condition is that the reader's cell is known. -/
import Derived.Test.YtiilgkhndfnkgaaDoorOcD
namespace Go.Proofs.YtiilgkhndfnkgaaDoor.Oc
open Go.RowKit
set_option linter.unusedVariables false

/-- a reader's method under way: its error's cell, the three captured cells, the reader's cell -/
structure RD (n : Nat) (w0 : World) (r : Addr) (s cur : ByteArray) (ev : Int) (W : World) : Prop where
  rlt : r.block < n
  e : W.cell? ⟨n, 0, none⟩ = some (.int .i64 ev)
  ef : W.frozen? ⟨n, 0, none⟩ = false
  b1 : W.cell? ⟨n + 1 + 1, 0, none⟩ = some (.pointer (some ⟨n, 0, none⟩))
  b2 : W.cell? ⟨n + 1 + 1 + 1, 0, none⟩ = some (.string s)
  b3 : W.cell? ⟨n + 1, 0, none⟩ = some (.pointer (some r))
  atc : At W r cur
  below : Below n (w0.setCell r (.string cur)) W

theorem At.below {w w' : World} {r : Addr} {s : ByteArray} {n : Nat} (h : At w r s) (hb : Below n w w') (hn : r.block < n) : At w' r s :=
  ⟨by rw [hb.cell hn]; exact h.cell, by rw [hb.frozen hn]; exact h.open'⟩
theorem cell_other {w : World} {a b : Addr} {v x : Value} (h : w.cell? b = some x) (hne : a.block ≠ b.block) : (w.setCell a v).cell? b = some x := by
  rw [World.cell?_setCell_other w a b v (by intro e; exact hne (congrArg Addr.block e))]; exact h
theorem frozen_set {w : World} {a b : Addr} {v : Value} {x : Bool} (h : w.frozen? b = x) : (w.setCell a v).frozen? b = x := by
  rw [← h]; go_simp
theorem cell_set {w : World} {a : Addr} {v x : Value} (h : w.cell? a = some x) : (w.setCell a v).cell? a = some v := World.cell?_setCell_same w a v h

theorem set_set (w : World) (a : Addr) (v v' : Value) : (w.setCell a v).setCell a v' = w.setCell a v' := by
  have e : ((w.setCell a v).setCell a v').heap = (w.setCell a v').heap := by
    apply Array.ext_getElem?
    intro i
    simp only [World.setCell, Array.getElem?_modify]
    split
    · cases w.heap[i]? with
      | none => rfl
      | some o => cases o <;> simp <;> split <;> simp [Array.setIfInBounds_setIfInBounds]
    · rfl
  exact congrArg (fun x : Array Obj => { w with heap := x }) e

theorem RD.setE {n : Nat} {w0 : World} {r : Addr} {s cur : ByteArray} {ev : Int} {W : World} (h : RD n w0 r s cur ev W) (v : Int) : RD n w0 r s cur v (W.setCell ⟨n, 0, none⟩ (.int .i64 v)) := by
  have hr := h.rlt
  exact ⟨hr, cell_set h.e, frozen_set h.ef, cell_other h.b1 (by show n ≠ n + 1 + 1; omega), cell_other h.b2 (by show n ≠ n + 1 + 1 + 1; omega), cell_other h.b3 (by show n ≠ n + 1; omega),
    ⟨cell_other h.atc.cell (by show n ≠ r.block; omega), frozen_set h.atc.open'⟩, h.below.setCell (Nat.le_refl _) _⟩
theorem RD.setR {n : Nat} {w0 : World} {r : Addr} {s cur : ByteArray} {ev : Int} {W : World} (h : RD n w0 r s cur ev W) (c : ByteArray) : RD n w0 r s c ev (W.setCell r (.string c)) := by
  have hr := h.rlt
  refine ⟨hr, cell_other h.e (by show r.block ≠ n; omega), frozen_set h.ef, cell_other h.b1 (by show r.block ≠ n + 1 + 1; omega), cell_other h.b2 (by show r.block ≠ n + 1 + 1 + 1; omega), cell_other h.b3 (by show r.block ≠ n + 1; omega),
    ⟨cell_set h.atc.cell, frozen_set h.atc.open'⟩, ?_⟩
  have hb := below_set h.below r (.string c)
  have e := set_set w0 r (.string cur) (.string c)
  rw [e] at hb; exact hb
theorem RD.drew {n : Nat} {w0 : World} {r : Addr} {s cur : ByteArray} {ev : Int} {W : World} (h : RD n w0 r s cur ev W) : RD n w0 r s cur ev W.drew :=
  ⟨h.rlt, h.e, h.ef, h.b1, h.b2, h.b3, ⟨h.atc.cell, h.atc.open'⟩, h.below.drew⟩
theorem RD.start {w : World} {r : Addr} {s : ByteArray} (h : At w r s) :
    RD w.heap.size w r s s 0 ((((w.alloc (.cells #[.int .i64 0] 30)).alloc (.cells #[.pointer (some r)] 55)).alloc (.cells #[.pointer (some ⟨w.heap.size, 0, none⟩)] 70)).alloc (.cells #[.string s] 9)) := by
  have hb : Below w.heap.size w ((((w.alloc (.cells #[.int .i64 0] 30)).alloc (.cells #[.pointer (some r)] 55)).alloc (.cells #[.pointer (some ⟨w.heap.size, 0, none⟩)] 70)).alloc (.cells #[.string s] 9)) :=
    ((((Below.refl _ _).alloc (Nat.le_refl _) _).alloc (by simp) _).alloc (by simp; omega) _).alloc (by simp; omega) _
  have hlt := World.block_lt_of_cell? w _ h.cell
  refine ⟨hlt, by go_simp, by go_simp, by go_simp, by go_simp, by go_simp, h.below hb hlt, ?_⟩
  rw [setCell_same h.cell]; exact hb

theorem back_rd (r : Addr) (s : ByteArray) (w : World) (h : At w r s) :
    Calls Tryd.prog 27 #[.pointer (some r), .pointer (some ⟨w.heap.size, 0, none⟩)] (w.alloc (.cells #[.int .i64 0] 30)) fun e w' =>
      e = .returned (.func (.func 34) #[] #[.pointer (some ⟨w.heap.size + 1 + 1, 0, none⟩), .pointer (some ⟨w.heap.size + 1 + 1 + 1, 0, none⟩), .pointer (some ⟨w.heap.size + 1, 0, none⟩)]) ∧ RD w.heap.size w r s s 0 w' := by
  have hb : Below w.heap.size w (w.alloc (.cells #[.int .i64 0] 30)) := (Below.refl _ _).alloc (Nat.le_refl _) _
  refine (back_any r ⟨w.heap.size, 0, none⟩ s _ (h.below hb (World.block_lt_of_cell? w _ h.cell))).mono ?_
  rintro e w' ⟨rfl, rfl⟩
  have e1 : (w.alloc (.cells #[.int .i64 0] 30)).heap.size = w.heap.size + 1 := by simp
  rw [e1]
  exact ⟨rfl, RD.start h⟩

/-- the deferred function, a method under way -/
theorem back1_rd0 {n : Nat} {w0 : World} {r : Addr} {s cur : ByteArray} {W : World} (u : FrameMode) (h : RD n w0 r s cur 0 W) :
    CallsD Tryd.prog 34 #[.pointer (some ⟨n + 1 + 1, 0, none⟩), .pointer (some ⟨n + 1 + 1 + 1, 0, none⟩), .pointer (some ⟨n + 1, 0, none⟩)] u W fun e u' w' => u' = u ∧ (e = .returned (.tuple #[]) ∧ RD n w0 r s cur 0 w') :=
  (back1_ok _ _ _ r ⟨n, 0, none⟩ u W h.b1 h.e).mono fun e u' w' ⟨h1, h2, h3⟩ => ⟨h1, h2, h3 ▸ h⟩
theorem back1_rd1 {n : Nat} {w0 : World} {r : Addr} {s cur : ByteArray} {W : World} {ev : Int} (u : FrameMode) (h : RD n w0 r s cur ev W) (hz : (ev == 0) = false) :
    CallsD Tryd.prog 34 #[.pointer (some ⟨n + 1 + 1, 0, none⟩), .pointer (some ⟨n + 1 + 1 + 1, 0, none⟩), .pointer (some ⟨n + 1, 0, none⟩)] u W fun e u' w' => u' = u ∧ (e = .returned (.tuple #[]) ∧ RD n w0 r s s ev w') :=
  (back1_err _ _ _ r ⟨n, 0, none⟩ ev s cur u W h.b1 h.e hz (by simpa using hz) h.b2 h.b3 h.atc.cell h.atc.open').mono fun e u' w' ⟨h1, h2, h3⟩ => ⟨h1, h2, h3 ▸ h.setR s⟩

set_option maxRecDepth 100000 in
set_option maxHeartbeats 1000000 in
theorem rdnum_bad (r : Addr) (s : ByteArray) (wd : Int) (w : World) (h : At w r s) (hw : wd < 1 ∨ 8 < wd) :
    Calls Tryd.prog 21 #[.pointer (some r), .int .i64 wd] w fun e w' => e = .returned (.tuple #[.int .u64 0, .int .i64 1]) ∧ Below w.heap.size (w.setCell r (.string s)) w' := by
  have HB := Lib.hid (back_rd r s w h)
  generalize hn : w.heap.size = n at *
  rcases hw with hw | hw
  all_goals
    go_enter_defers Tryd.func21, Tryd.ntmps21
    go_wp2_with fail
    refine (HB.out).mono ?_
    rintro e w1 ⟨rfl, h1⟩
    have c1 := h1.e
    have c2 := h1.ef
    go_wp2
    have h2 := h1.setE 1
    generalize w1.setCell ⟨n, 0, none⟩ (.int .i64 1) = w2 at *
    refine leaves_cons (f := 34) (args := #[.pointer (some ⟨n + 1 + 1, 0, none⟩), .pointer (some ⟨n + 1 + 1 + 1, 0, none⟩), .pointer (some ⟨n + 1, 0, none⟩)]) (by simp) (by simp [go_sem]) ?_
    refine (back1_rd1 .returning h2 (by decide)).mono ?_
    rintro e u' w3 ⟨rfl, rfl, h3⟩
    have c3 := h3.e
    simp [Leaves, settle, results, Tryd.results21, go_sem, c3]
    exact h3.below
end Go.Proofs.YtiilgkhndfnkgaaDoor.Oc
