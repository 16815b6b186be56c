/- What octet's reader's Hash returns and leaves; the condition is that the reader's cell is known. -/
import Derived.Test.YtiilgkhndfnkgaaOcT
import Derived.Lib.BufferWrite
import Derived.Shelf.Spec.SlicesInsert
namespace Go.Proofs.Ytiilgkhndfnkgaa
open Go.RowKit
set_option linter.unusedVariables false

/-- 32 bytes 0 -/
def Z32 : Array Value := #[.int .u8 0, .int .u8 0, .int .u8 0, .int .u8 0, .int .u8 0, .int .u8 0, .int .u8 0, .int .u8 0, .int .u8 0, .int .u8 0, .int .u8 0, .int .u8 0, .int .u8 0, .int .u8 0, .int .u8 0, .int .u8 0, .int .u8 0, .int .u8 0, .int .u8 0, .int .u8 0, .int .u8 0, .int .u8 0, .int .u8 0, .int .u8 0, .int .u8 0, .int .u8 0, .int .u8 0, .int .u8 0, .int .u8 0, .int .u8 0, .int .u8 0, .int .u8 0]
theorem z32_eq : hashV (List.replicate 32 0) = .agg Z32 := by rfl

structure RH (n : Nat) (w0 : World) (r : Addr) (s cur : ByteArray) (ev : Int) (C : Array Value) (W : World) : Prop where
  rlt : r.block < n
  e : W.cell? ⟨n + 1, 0, none⟩ = some (.int .i64 ev)
  ef : W.frozen? ⟨n + 1, 0, none⟩ = false
  b1 : W.cell? ⟨n + 1 + 1 + 1, 0, none⟩ = some (.pointer (some ⟨n + 1, 0, none⟩))
  b2 : W.cell? ⟨n + 1 + 1 + 1 + 1, 0, none⟩ = some (.string s)
  b3 : W.cell? ⟨n + 1 + 1, 0, none⟩ = some (.pointer (some r))
  atc : At W r cur
  row : W.heap[n]? = some (.cells C 33 (0, 0))
  below : Below n (w0.setCell r (.string cur)) W

theorem RH.ofRD {n : Nat} {w : World} {r : Addr} {s cur : ByteArray} {ev : Int} {C : Array Value} {W : World} (hn : w.heap.size = n) (hr : r.block < n) (h : RD (n + 1) (w.alloc (.cells C 33)) r s cur ev W) : RH n w r s cur ev C W := by
  subst hn
  have b0 : Below w.heap.size w (w.alloc (.cells C 33)) := (Below.refl _ _).alloc (Nat.le_refl _) _
  refine ⟨hr, h.e, h.ef, h.b1, h.b2, h.b3, h.atc, ?_, (below_set b0 r _).trans (h.below.mono (by omega))⟩
  rw [h.below.block _ (by omega), Below.heap_setCell _ _ _ _ (by omega)]
  exact heap_alloc_new w _
theorem RH.setE {n : Nat} {w0 : World} {r : Addr} {s cur : ByteArray} {ev : Int} {C : Array Value} {W : World} (h : RH n w0 r s cur ev C W) (v : Int) : RH n w0 r s cur v C (W.setCell ⟨n + 1, 0, none⟩ (.int .i64 v)) := by
  have hr := h.rlt
  exact ⟨hr, cell_set h.e, frozen_set h.ef, cell_other h.b1 (by show n + 1 ≠ n + 1 + 1 + 1; omega), cell_other h.b2 (by show n + 1 ≠ n + 1 + 1 + 1 + 1; omega), cell_other h.b3 (by show n + 1 ≠ n + 1 + 1; omega),
    ⟨cell_other h.atc.cell (by show n + 1 ≠ r.block; omega), frozen_set h.atc.open'⟩, by rw [Below.heap_setCell _ _ _ _ (by show n ≠ n + 1; omega)]; exact h.row, h.below.setCell (by show n ≤ n + 1; omega) _⟩
theorem RH.setR {n : Nat} {w0 : World} {r : Addr} {s cur : ByteArray} {ev : Int} {C : Array Value} {W : World} (h : RH n w0 r s cur ev C W) (c : ByteArray) : RH n w0 r s c ev C (W.setCell r (.string c)) := by
  have hr := h.rlt
  refine ⟨hr, cell_other h.e (by show r.block ≠ n + 1; omega), frozen_set h.ef, cell_other h.b1 (by show r.block ≠ n + 1 + 1 + 1; omega), cell_other h.b2 (by show r.block ≠ n + 1 + 1 + 1 + 1; omega), cell_other h.b3 (by show r.block ≠ n + 1 + 1; omega),
    ⟨cell_set h.atc.cell, frozen_set h.atc.open'⟩, by rw [Below.heap_setCell _ _ _ _ (by omega)]; exact h.row, ?_⟩
  have hb := below_set h.below r (.string c)
  have e := set_set w0 r (.string cur) (.string c)
  rw [e] at hb; exact hb
theorem setRow_block (w : World) (g k : Nat) (cs : Array Value) (h : k ≠ g) : (w.setRow g cs).heap[k]? = w.heap[k]? := by
  simp only [World.setRow, Array.getElem?_modify]
  rw [if_neg (fun e => h e.symm)]
theorem setRow_cell (w : World) (g : Nat) (a : Addr) (cs : Array Value) (h : a.block ≠ g) : (w.setRow g cs).cell? a = w.cell? a := by
  unfold World.cell?; rw [setRow_block w g a.block cs h]
theorem setRow_frozen (w : World) (g : Nat) (a : Addr) (cs : Array Value) (h : a.block ≠ g) : (w.setRow g cs).frozen? a = w.frozen? a := by
  unfold World.frozen?; rw [setRow_block w g a.block cs h]
theorem RH.setRow {n : Nat} {w0 : World} {r : Addr} {s cur : ByteArray} {ev : Int} {C : Array Value} {W : World} (h : RH n w0 r s cur ev C W) (C' : Array Value) : RH n w0 r s cur ev C' (W.setRow n C') := by
  have hr := h.rlt
  refine ⟨hr, ?_, ?_, ?_, ?_, ?_, ⟨?_, ?_⟩, setRow_heap W n C C' 33 _ h.row, ?_⟩
  · rw [setRow_cell _ _ _ _ (by show n + 1 ≠ n; omega)]; exact h.e
  · rw [setRow_frozen _ _ _ _ (by show n + 1 ≠ n; omega)]; exact h.ef
  · rw [setRow_cell _ _ _ _ (by show n + 1 + 1 + 1 ≠ n; omega)]; exact h.b1
  · rw [setRow_cell _ _ _ _ (by show n + 1 + 1 + 1 + 1 ≠ n; omega)]; exact h.b2
  · rw [setRow_cell _ _ _ _ (by show n + 1 + 1 ≠ n; omega)]; exact h.b3
  · rw [setRow_cell _ _ _ _ (by omega)]; exact h.atc.cell
  · rw [setRow_frozen _ _ _ _ (by omega)]; exact h.atc.open'
  · exact ⟨h.below.os, h.below.tape, h.below.output, by simpa using h.below.size, fun k hk => by rw [setRow_block _ _ _ _ (by omega)]; exact h.below.block k hk⟩
theorem RH.drew {n : Nat} {w0 : World} {r : Addr} {s cur : ByteArray} {ev : Int} {C : Array Value} {W : World} (h : RH n w0 r s cur ev C W) : RH n w0 r s cur ev C W.drew :=
  ⟨h.rlt, h.e, h.ef, h.b1, h.b2, h.b3, ⟨h.atc.cell, h.atc.open'⟩, h.row, h.below.drew⟩
theorem back1_rh0 {n : Nat} {w0 : World} {r : Addr} {s cur : ByteArray} {C : Array Value} {W : World} (u : FrameMode) (h : RH n w0 r s cur 0 C W) :
    CallsD Try.prog 56 #[.pointer (some ⟨n + 1 + 1 + 1, 0, none⟩), .pointer (some ⟨n + 1 + 1 + 1 + 1, 0, none⟩), .pointer (some ⟨n + 1 + 1, 0, none⟩)] u W fun e u' w' => u' = u ∧ (e = .returned (.tuple #[]) ∧ RH n w0 r s cur 0 C w') :=
  (back1_ok _ _ _ r ⟨n + 1, 0, none⟩ u W h.b1 h.e).mono fun e u' w' ⟨h1, h2, h3⟩ => ⟨h1, h2, h3 ▸ h⟩
theorem back1_rh1 {n : Nat} {w0 : World} {r : Addr} {s cur : ByteArray} {C : Array Value} {W : World} {ev : Int} (u : FrameMode) (h : RH n w0 r s cur ev C W) (hz : (ev == 0) = false) :
    CallsD Try.prog 56 #[.pointer (some ⟨n + 1 + 1 + 1, 0, none⟩), .pointer (some ⟨n + 1 + 1 + 1 + 1, 0, none⟩), .pointer (some ⟨n + 1 + 1, 0, none⟩)] u W fun e u' w' => u' = u ∧ (e = .returned (.tuple #[]) ∧ RH n w0 r s s ev C w') :=
  (back1_err _ _ _ r ⟨n + 1, 0, none⟩ ev s cur u W h.b1 h.e hz (by simpa using hz) h.b2 h.b3 h.atc.cell h.atc.open').mono fun e u' w' ⟨h1, h2, h3⟩ => ⟨h1, h2, h3 ▸ h.setR s⟩

set_option maxRecDepth 100000 in
set_option maxHeartbeats 1000000 in
theorem rdhash_short (r : Addr) (s : ByteArray) (w : World) (h : At w r s) (hs : s.size < 32) :
    Calls Try.prog 27 #[.pointer (some r)] w fun e w' => e = .returned (.tuple #[hashV (List.replicate 32 0), .int .i64 10]) ∧ Below w.heap.size (w.setCell r (.string s)) w' := by
  have hlt := World.block_lt_of_cell? w _ h.cell
  have b0 : Below w.heap.size w (w.alloc (.cells Z32 33)) := (Below.refl _ _).alloc (Nat.le_refl _) _
  have h0 := h.below b0 hlt
  have hrow := heap_alloc_new w (.cells Z32 33)
  have hz : (w.alloc (.cells Z32 33)).heap.size = w.heap.size + 1 := by simp
  have hb := back_rd r s _ h0
  rw [hz] at hb
  have HB := Lib.hid hb
  have hT := fun w' h' => take_short r s 32 w' h' (by omega) (by omega) (by omega)
  have HT := Lib.hid hT
  rw [z32_eq]
  clear hb hT
  obtain ⟨n, hn⟩ : ∃ n, w.heap.size = n := ⟨_, rfl⟩
  rw [hn] at hrow hz HB hlt
  obtain ⟨w0, hw0⟩ : ∃ w0, w.alloc (.cells Z32 33) = w0 := ⟨_, rfl⟩
  rw [hw0] at b0 h0 hrow hz HB
  go_enter_defers Try.func27, Try.ntmps27
  go_wp2_with fail
  rw [show w.alloc (.cells #[.int .u8 0, .int .u8 0, .int .u8 0, .int .u8 0, .int .u8 0, .int .u8 0, .int .u8 0, .int .u8 0, .int .u8 0, .int .u8 0, .int .u8 0, .int .u8 0, .int .u8 0, .int .u8 0, .int .u8 0, .int .u8 0, .int .u8 0, .int .u8 0, .int .u8 0, .int .u8 0, .int .u8 0, .int .u8 0, .int .u8 0, .int .u8 0, .int .u8 0, .int .u8 0, .int .u8 0, .int .u8 0, .int .u8 0, .int .u8 0, .int .u8 0, .int .u8 0] 33) = w0 from hw0]
  refine (HB.out).mono ?_
  rintro e w1 ⟨rfl, h1⟩
  go_wp2_with fail
  refine (HT.out w1 h1.atc).mono ?_
  rintro e w2 ⟨rfl, rfl⟩
  have h1' := RH.ofRD hn hlt (hw0 ▸ h1)
  clear h1
  have c1 := h1'.e
  have c2 := h1'.ef
  have h2 := h1'.setE 10
  have c3 := h2.e
  have c4 := h2.ef
  have h3 := h2.setRow Z32
  have r2 := h2.row
  have c5 := h3.e
  have c6 := h3.ef
  have h4 := h3.setE 10
  have i33 : (Try.prog.info? 33).map (·.size) = some Z32.size := by kernel_rfl
  have hone : Z32.all (·.oneCell') = true := by kernel_rfl
  go_wp2_with (refine wpList_store_row (x := .tmp 2) (y := .tmp 14) (cells := Z32) (old := Z32) (t := 33) (ty := 33) (g := n) ?_ ?_ ?_ ?_ r2 i33 rfl hone ?_; rfl; rfl; rfl; rfl)
  generalize ((w1.setCell ⟨n + 1, 0, none⟩ (.int .i64 10)).setRow n Z32).setCell ⟨n + 1, 0, none⟩ (.int .i64 10) = w3 at *
  refine leaves_cons (f := 56) (args := #[.pointer (some ⟨n + 1 + 1 + 1, 0, none⟩), .pointer (some ⟨n + 1 + 1 + 1 + 1, 0, none⟩), .pointer (some ⟨n + 1 + 1, 0, none⟩)]) (by simp) (by simp [go_sem]) ?_
  refine (back1_rh1 .returning h4 (by decide)).mono ?_
  rintro e u' w4 ⟨rfl, rfl, h5⟩
  have c7 := h5.e
  have hload := run_loadVar_row (P := Try.prog) w4 n 33 33 Z32 (0, 0) _ h5.row Try.underlying33 rfl i33
  have hloadE : (loadVar 26 ⟨n + 1, 0, none⟩).run Try.prog w4 = .ok (.int .i64 10) w4 := by simp [go_sem, c7]
  simp [Leaves, settle, results, Try.results27, asAddr, hload, hloadE]
  rw [hn]
  exact h5.below

/-- a hash out of bytes -/
def bytesOf (T : ByteArray) : List Int := T.data.toList.map fun b => (b.toNat : Int)

set_option maxRecDepth 100000 in
set_option maxHeartbeats 1000000 in
theorem rdhash_ok (r : Addr) (s : ByteArray) (w : World) (h : At w r s) (hs : s.size ≤ 4611686018427387904) (h32 : 32 ≤ s.size) :
    Calls Try.prog 27 #[.pointer (some r)] w fun e w' => e = .returned (.tuple #[hashV (bytesOf (s.extract 0 32)), .int .i64 0]) ∧ Below w.heap.size (w.setCell r (.string (s.extract 32 s.size))) w' := by
  have hlt := World.block_lt_of_cell? w _ h.cell
  have b0 : Below w.heap.size w (w.alloc (.cells Z32 33)) := (Below.refl _ _).alloc (Nat.le_refl _) _
  have h0 := h.below b0 hlt
  have hz : (w.alloc (.cells Z32 33)).heap.size = w.heap.size + 1 := by simp
  have hb := back_rd r s _ h0
  rw [hz] at hb
  have HB := Lib.hid hb
  have hT := fun w' h' => take_ok r s 32 w' h' hs h32
  have hTs : (s.extract 0 32).size = 32 := by simp; omega
  obtain ⟨C, hC⟩ : ∃ C, (Z32.toList.take 0 ++ Lib.byteCells (s.extract 0 32).data.toList ++ Z32.toList.drop (0 + (s.extract 0 32).size)).toArray = C := ⟨_, rfl⟩
  have hCv : hashV (bytesOf (s.extract 0 32)) = .agg C := by
    rw [← hC, hTs]
    simp [hashV, bytesOf, ints, Lib.byteCells, Z32]
    rfl
  have hCs : C.size = 32 := by rw [← hC]; simp [Lib.byteCells_length, Z32]; omega
  have hCo : C.all (·.oneCell') = true := by
    rw [← hC, hTs]; simp only [List.all_toArray, List.all_append, Bool.and_eq_true]; exact ⟨⟨rfl, List.all_eq_true.2 (Lib.byteCells_one _)⟩, rfl⟩
  rw [hCv]
  generalize s.extract 0 32 = T at *
  generalize s.extract 32 s.size = R at *
  have HT := Lib.hid hT
  have cpy := fun (W : World) (hg : W.heap[w.heap.size]? = some (.cells Z32 33 (0, 0))) (ty : TypeId) =>
    Lib.run_copy_row_string (P := Try.prog) W 45 9 ty 5 w.heap.size 0 32 32 T Z32 33 Try.underlying45 (by kernel_rfl) hg (by omega) (by rw [hTs]; decide)
  rw [hC] at cpy
  have CPY := Lib.hid cpy
  clear hb hT hTs hC hCv cpy
  obtain ⟨n, hn⟩ : ∃ n, w.heap.size = n := ⟨_, rfl⟩
  rw [hn] at hz HB hlt CPY
  obtain ⟨w0, hw0⟩ : ∃ w0, w.alloc (.cells Z32 33) = w0 := ⟨_, rfl⟩
  rw [hw0] at b0 h0 hz HB
  have i33 : (Try.prog.info? 33).map (·.size) = some C.size := by rw [hCs]; kernel_rfl
  go_enter_defers Try.func27, Try.ntmps27
  go_wp2_with fail
  rw [show w.alloc (.cells #[.int .u8 0, .int .u8 0, .int .u8 0, .int .u8 0, .int .u8 0, .int .u8 0, .int .u8 0, .int .u8 0, .int .u8 0, .int .u8 0, .int .u8 0, .int .u8 0, .int .u8 0, .int .u8 0, .int .u8 0, .int .u8 0, .int .u8 0, .int .u8 0, .int .u8 0, .int .u8 0, .int .u8 0, .int .u8 0, .int .u8 0, .int .u8 0, .int .u8 0, .int .u8 0, .int .u8 0, .int .u8 0, .int .u8 0, .int .u8 0, .int .u8 0, .int .u8 0] 33) = w0 from hw0]
  refine (HB.out).mono ?_
  rintro e w1 ⟨rfl, h1⟩
  go_wp2_with fail
  refine (HT.out w1 h1.atc).mono ?_
  rintro e w2 ⟨rfl, rfl⟩
  have h1' := (RH.ofRD hn hlt (hw0 ▸ h1)).setR R
  clear h1
  generalize w1.setCell r (.string R) = w2 at *
  have c1 := h1'.e
  have c2 := h1'.ef
  have h2 := h1'.setE 0
  have c3 := h2.e
  have c4 := h2.ef
  have r2 := h2.row
  have h3 := h2.setRow C
  have r3 := h3.row
  have h4 := h3.setRow C
  have c5 := h4.e
  have c6 := h4.ef
  have h5 := h4.setE 0
  have CR := CPY.out _ r2
  go_wp2_with (first
    | (at_builtin; (refine Go.Proofs.wpList_copy_runI _ ?_ (.tmp 16) (.tmp 17) 45 9 ?_ (.slice (some ⟨n, 0, none⟩) 32 32) (.string T) ?_ ?_ (CR _) ?_; rfl; rfl; rfl; rfl))
    | (refine wpList_load_row (x := .tmp 2) (ty := 33) (g := n) (cs := C) (t := 33) (fr := (0, 0)) ?_ ?_ ?_ _ r3 Try.underlying33 rfl i33 ?_; rfl; rfl; rfl)
    | (refine wpList_store_row (x := .tmp 2) (y := .tmp 19) (cells := C) (old := C) (t := 33) (ty := 33) (g := n) ?_ ?_ ?_ ?_ r3 i33 rfl hCo ?_; rfl; rfl; rfl; rfl))
  generalize (((w2.setCell ⟨n + 1, 0, none⟩ (.int .i64 0)).setRow n C).setRow n C).setCell ⟨n + 1, 0, none⟩ (.int .i64 0) = w3 at *
  refine leaves_cons (f := 56) (args := #[.pointer (some ⟨n + 1 + 1 + 1, 0, none⟩), .pointer (some ⟨n + 1 + 1 + 1 + 1, 0, none⟩), .pointer (some ⟨n + 1 + 1, 0, none⟩)]) (by simp) (by simp [go_sem]) ?_
  refine (back1_rh0 .returning h5).mono ?_
  rintro e u' w4 ⟨rfl, rfl, h6⟩
  have c7 := h6.e
  have hload := run_loadVar_row (P := Try.prog) w4 n 33 33 C (0, 0) _ h6.row Try.underlying33 rfl i33
  have hloadE : (loadVar 26 ⟨n + 1, 0, none⟩).run Try.prog w4 = .ok (.int .i64 0) w4 := by simp [go_sem, c7]
  simp [Leaves, settle, results, Try.results27, asAddr, hload, hloadE]
  rw [hn]
  exact h6.below

/-- what a reader's Hash comes to -/
def rhH (s : ByteArray) : List Int := if s.size < 32 then List.replicate 32 0 else bytesOf (s.extract 0 32)
def rhE (s : ByteArray) : Int := if s.size < 32 then 10 else 0
def rhS (s : ByteArray) : ByteArray := if s.size < 32 then s else s.extract 32 s.size
theorem rdhash_any (r : Addr) (s : ByteArray) (w : World) (h : At w r s) (hs : s.size ≤ 4611686018427387904) :
    Calls Try.prog 27 #[.pointer (some r)] w fun e w' => e = .returned (.tuple #[hashV (rhH s), .int .i64 (rhE s)]) ∧ Below w.heap.size (w.setCell r (.string (rhS s))) w' := by
  unfold rhH rhE rhS
  by_cases h1 : s.size < 32
  · rw [if_pos h1, if_pos h1, if_pos h1]; exact rdhash_short r s w h h1
  · rw [if_neg h1, if_neg h1, if_neg h1]; exact rdhash_ok r s w h hs (by omega)
end Go.Proofs.Ytiilgkhndfnkgaa
