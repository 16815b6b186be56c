/- What the writer's Hash, Text and Bytes, and the reference's writers, return and write; the condition is that the writer's cell is known. -/
import Derived.Test.YtiilgkhndfnkgaaOcW
namespace Go.Proofs.Ytiilgkhndfnkgaa
open Go.RowKit
set_option linter.unusedVariables false

/-- a hash as a value -/
def hashV (l : List Int) : Value := .agg (ints l).toArray

theorem conv_cells {w : World} (g n cap : Nat) (l : List Int) (hl : l.length = n) (h : ∀ i, i < n → w.cell? ⟨g, 0 + i, none⟩ = some (.int .u8 (l.getD i 0))) :
    (convert 45 9 (.slice (some ⟨g, 0, none⟩) n cap)).run Try.prog w = .ok (.string (strOfNums l)) w :=
  run_convert_bytes_arg w 45 5 Try.underlying45 Try.underlying5 g 0 n cap l hl h 9 Try.underlying9
theorem cells_new (w : World) (l : List Int) (t : TypeId) (i : Nat) (hi : i < l.length) : (w.alloc (.cells (ints l).toArray t)).cell? ⟨w.heap.size, 0 + i, none⟩ = some (.int .u8 (l.getD i 0)) := by
  rw [cell_of_row _ _ _ _ _ _ (heap_alloc_new w _)]
  simp [ints, List.getElem?_eq_getElem hi]

set_option maxRecDepth 100000 in
set_option maxHeartbeats 1000000 in
theorem whash_any (hl : List Int) (a : Addr) (s : ByteArray) (w : World) (hlen : hl.length = 32) (hs : s.size ≤ 4611686018427387904) (h : At w a s) :
    Calls Try.prog 18 #[.pointer (some a), hashV hl] w fun e w' => e = .returned (.tuple #[]) ∧ Below w.heap.size (w.setCell a (.string (s ++ strOfNums hl))) w' := by
  unfold hashV
  have hb : Below w.heap.size w (w.alloc (.cells (ints hl).toArray 33)) := (Below.refl _ _).alloc (Nat.le_refl _) _
  have hcv := conv_cells (w := (w.alloc (.cells (ints hl).toArray 33)).drew) w.heap.size 32 32 hl hlen (fun i hi => cells_new w hl 33 i (by omega))
  have hca : (w.alloc (.cells (ints hl).toArray 33)).cell? a = some (.string s) := by rw [hb.cell (World.block_lt_of_cell? w _ h.cell)]; exact h.cell
  have hfa : (w.alloc (.cells (ints hl).toArray 33)).frozen? a = false := by rw [hb.frozen (World.block_lt_of_cell? w _ h.cell)]; exact h.open'
  have hX : (strOfNums hl).size = 32 := by rw [strOfNums_size]; exact hlen
  have hadd : s.size + (strOfNums hl).size ≤ 9223372036854775807 := by omega
  generalize (ints hl).toArray = C at *
  generalize strOfNums hl = X at *
  clear hX hs hlen h
  go_enter Try.func18, Try.ntmps18
  go_wp2
  generalize w.alloc (.cells C 33) = w1 at *
  go_region
  go_wp2
  go_end0
  exact ⟨rfl, (below_set hb a _).drew⟩

set_option maxRecDepth 100000 in
theorem rhash_any (hl : List Int) (w : World) (hlen : hl.length = 32) :
    Calls Try.prog 19 #[hashV hl] w fun e w' => e = .returned (.string (strOfNums hl)) ∧ Below w.heap.size w w' := by
  unfold hashV
  have hcv := conv_cells (w := (w.alloc (.cells (ints hl).toArray 33))) w.heap.size 32 32 hl hlen (fun i hi => cells_new w hl 33 i (by omega))
  generalize (ints hl).toArray = C at *
  generalize strOfNums hl = X at *
  go_enter Try.func19, Try.ntmps19
  go_wp2
  go_ret
  exact ⟨rfl, (Below.refl _ _).alloc (Nat.le_refl _) _⟩

theorem wbytes_any (a : Addr) (s : ByteArray) (w : World) (h : At w a s) :
    Calls Try.prog 16 #[.pointer (some a)] w fun e w' => e = .returned (.string s) ∧ w = w' := by
  have hc := h.cell
  clear h
  go_enter Try.func16, Try.ntmps16
  go_wp2
  go_ret
  exact ⟨rfl, rfl⟩

set_option maxRecDepth 100000 in
set_option maxHeartbeats 1000000 in
theorem wtext_ok (t : ByteArray) (a : Addr) (s : ByteArray) (w : World) (hs : s.size ≤ 4611686018427387904) (h : At w a s) (hlen : t.size ≤ 64) :
    Calls Try.prog 20 #[.pointer (some a), .string t] w fun e w' => e = .returned (.int .i64 0) ∧ Below w.heap.size (w.setCell a (.string (s ++ (strOfNums [(t.size : Int)] ++ t)))) w' := by
  have hb : Below w.heap.size w (w.alloc (.cells #[.int .u8 (t.size : Int)] 5)) := (Below.refl _ _).alloc (Nat.le_refl _) _
  have hcv := conv_cells (w := (w.alloc (.cells #[.int .u8 (t.size : Int)] 5)).drew) w.heap.size 1 1 [(t.size : Int)] rfl (fun i hi => cells_new w [(t.size : Int)] 5 i (by simpa using hi))
  have hca : (w.alloc (.cells #[.int .u8 (t.size : Int)] 5)).cell? a = some (.string s) := by rw [hb.cell (World.block_lt_of_cell? w _ h.cell)]; exact h.cell
  have hfa : (w.alloc (.cells #[.int .u8 (t.size : Int)] 5)).frozen? a = false := by rw [hb.frozen (World.block_lt_of_cell? w _ h.cell)]; exact h.open'
  have hX : (strOfNums [(t.size : Int)]).size = 1 := by rw [strOfNums_size]; rfl
  have hc := h.cell
  have hf := h.open'
  have hlt := World.block_lt_of_cell? w _ h.cell
  have hadd1 : (strOfNums [(t.size : Int)]).size + t.size ≤ 9223372036854775807 := by omega
  have hadd2 : s.size + ((strOfNums [(t.size : Int)]) ++ t).size ≤ 9223372036854775807 := by rw [ByteArray.size_append]; omega
  generalize hXe : strOfNums [(t.size : Int)] = X at *
  have HX := Lib.hid hXe
  clear hs h hX hXe
  go_enter Try.func20, Try.ntmps20
  go_wp2
  go_region
  go_wp2
  go_ret
  exact ⟨rfl, (below_set hb a _).drew⟩

theorem wtext_long (t : ByteArray) (a : Addr) (w : World) (hlen : 64 < t.size) :
    Calls Try.prog 20 #[.pointer (some a), .string t] w fun e w' => e = .returned (.int .i64 12) ∧ w = w' := by
  go_enter Try.func20, Try.ntmps20
  go_wp2
  go_ret
  exact ⟨rfl, rfl⟩

/-- the error, and the bytes, of a text -/
def txtE (t : ByteArray) : Int := if t.size ≤ 64 then 0 else 12
def txtB (t : ByteArray) : ByteArray := if t.size ≤ 64 then strOfNums [(t.size : Int)] ++ t else ByteArray.empty

theorem append_empty (s : ByteArray) : s ++ ByteArray.empty = s := by apply ByteArray.ext; simp

theorem wtext_any (t : ByteArray) (a : Addr) (s : ByteArray) (w : World) (hs : s.size ≤ 4611686018427387904) (h : At w a s) :
    Calls Try.prog 20 #[.pointer (some a), .string t] w fun e w' => e = .returned (.int .i64 (txtE t)) ∧ Below w.heap.size (w.setCell a (.string (s ++ txtB t))) w' := by
  unfold txtE txtB
  by_cases hl : t.size ≤ 64
  · rw [if_pos hl, if_pos hl]
    exact wtext_ok t a s w hs h hl
  · rw [if_neg hl, if_neg hl, append_empty, setCell_same h.cell]
    exact (wtext_long t a w (by omega)).mono fun e w' ⟨he, hw⟩ => ⟨he, hw ▸ Below.refl _ _⟩

set_option maxRecDepth 100000 in
set_option maxHeartbeats 1000000 in
theorem rtext_any (t : ByteArray) (w : World) :
    Calls Try.prog 21 #[.string t] w fun e w' => e = .returned (.tuple #[.string (txtB t), .int .i64 (txtE t)]) ∧ Below w.heap.size w w' := by
  unfold txtE txtB
  by_cases hl : t.size ≤ 64
  · rw [if_pos hl, if_pos hl]
    have hcv := conv_cells (w := (w.alloc (.cells #[.int .u8 (t.size : Int)] 5))) w.heap.size 1 1 [(t.size : Int)] rfl (fun i hi => cells_new w [(t.size : Int)] 5 i (by simpa using hi))
    have hX : (strOfNums [(t.size : Int)]).size = 1 := by rw [strOfNums_size]; rfl
    have hadd1 : (strOfNums [(t.size : Int)]).size + t.size ≤ 9223372036854775807 := by omega
    generalize strOfNums [(t.size : Int)] = X at *
    clear hX
    go_enter Try.func21, Try.ntmps21
    go_wp2
    go_ret2
    exact ⟨rfl, (Below.refl _ _).alloc (Nat.le_refl _) _⟩
  · rw [if_neg hl, if_neg hl]
    have hl' : 64 < t.size := by omega
    clear hl
    go_enter Try.func21, Try.ntmps21
    go_wp2
    go_ret2
    exact ⟨rfl, Below.refl _ _⟩
end Go.Proofs.Ytiilgkhndfnkgaa
