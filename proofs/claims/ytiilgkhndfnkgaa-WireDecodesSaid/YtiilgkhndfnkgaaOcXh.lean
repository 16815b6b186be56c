/- What the reference's reader's Hash returns and leaves; the condition is that the reader's cell is known. -/
import Derived.Test.YtiilgkhndfnkgaaOcX
namespace Go.Proofs.Ytiilgkhndfnkgaa
open Go.RowKit
set_option linter.unusedVariables false

/-- the first k bytes of s, and bytes 0, 32 in all -/
def hv (s : ByteArray) (k : Nat) : Array Value := ((List.range 32).map fun i => Value.int .u8 (if i < k then ((s.data.toList.getD i 0).toNat : Int) else 0)).toArray
theorem hv_size (s : ByteArray) (k : Nat) : (hv s k).size = 32 := by simp [hv]
theorem hv_get (s : ByteArray) (k i : Nat) (h : i < 32) : (hv s k)[i]? = some (.int .u8 (if i < k then ((s.data.toList.getD i 0).toNat : Int) else 0)) := by
  simp [hv, h]
theorem hv_zero (s : ByteArray) : hv s 0 = Z32 := by
  simp only [hv, Nat.not_lt_zero, if_false]; rfl
theorem hv_one (s : ByteArray) (k : Nat) : (hv s k).all (·.oneCell') = true := by
  rw [hv, List.all_toArray, List.all_eq_true]; intro x hx; obtain ⟨y, _, rfl⟩ := List.mem_map.1 hx; rfl
theorem hv_set (s : ByteArray) (k : Nat) (h : k < 32) (hs : k < s.size) : (hv s k).setIfInBounds k (.int .u8 (s[k].toNat : Int)) = hv s (k + 1) := by
  apply Array.ext_getElem?
  intro i
  rw [Array.getElem?_setIfInBounds]
  by_cases hi : i < 32
  · rw [hv_get s (k + 1) i hi, hv_size]
    by_cases he : k = i
    · subst he
      rw [if_pos rfl, if_pos (by omega), if_pos (by omega)]
      rw [List.getD, index_byte s k hs]; rfl
    · rw [if_neg he, hv_get s k i hi]
      by_cases hl : i < k
      · rw [if_pos hl, if_pos (by omega)]
      · rw [if_neg hl, if_neg (by omega)]
  · rw [if_neg (by omega), Array.getElem?_eq_none (by rw [hv_size]; omega), Array.getElem?_eq_none (by rw [hv_size]; omega)]
theorem hv_all (s : ByteArray) (h : 32 ≤ s.size) : Value.agg (hv s 32) = hashV (bytesOf (s.extract 0 32)) := by
  unfold hashV
  congr 1
  apply Array.ext_getElem?
  intro i
  by_cases hi : i < 32
  · rw [hv_get s 32 i hi, if_pos hi]
    have hlt : i < s.data.toList.length := by simp; omega
    simp [ints, bytesOf, hi, List.getElem?_eq_getElem hlt, List.getD]
  · rw [Array.getElem?_eq_none (by rw [hv_size]; omega), Array.getElem?_eq_none (by simp [ints, bytesOf]; omega)]

set_option maxRecDepth 100000 in
set_option maxHeartbeats 1000000 in
theorem xhash_short (r : Addr) (s : ByteArray) (w : World) (h : At w r s) (h32 : s.size < 32) :
    Calls Try.prog 28 #[.pointer (some r)] w fun e w' => e = .returned (.tuple #[hashV (List.replicate 32 0), .int .i64 10]) ∧ Below w.heap.size (w.setCell r (.string s)) w' := by
  have hlt := World.block_lt_of_cell? w _ h.cell
  obtain ⟨n, hn⟩ : ∃ n, w.heap.size = n := ⟨_, rfl⟩
  rw [hn] at hlt
  rw [setCell_same h.cell, z32_eq]
  have b1 : Below n w (w.alloc (.cells Z32 33)) := hn ▸ (Below.refl _ _).alloc (Nat.le_refl _) _
  have q1 : M.RowAt (w.alloc (.cells Z32 33)) n 33 Z32 := hn ▸ M.RowAt.new w 33 Z32
  have z1 : (w.alloc (.cells Z32 33)).heap.size = n + 1 := by simp; exact hn
  have b2 : Below n w ((w.alloc (.cells Z32 33)).alloc (.cells Z32 33)) := b1.alloc (by omega) _
  have q2 := q1.alloc (.cells Z32 33)
  have p2 : M.RowAt ((w.alloc (.cells Z32 33)).alloc (.cells Z32 33)) (n + 1) 33 Z32 := z1 ▸ M.RowAt.new (w.alloc (.cells Z32 33)) 33 Z32
  have b3 := M.below_setRow (g := n + 1) (cs := Z32) b2 (by omega)
  have q3 := q2.farRow (b := n + 1) (by omega) Z32
  have p3 := p2.setRow Z32
  have iZ : (Try.prog.info? 33).map (·.size) = some Z32.size := by kernel_rfl
  have oZ : Z32.all (·.oneCell') = true := by kernel_rfl
  have hc := h.cell
  have hf := h.open'
  have pL : ((w.alloc (.cells #[.int .u8 0, .int .u8 0, .int .u8 0, .int .u8 0, .int .u8 0, .int .u8 0, .int .u8 0, .int .u8 0, .int .u8 0, .int .u8 0, .int .u8 0, .int .u8 0, .int .u8 0, .int .u8 0, .int .u8 0, .int .u8 0, .int .u8 0, .int .u8 0, .int .u8 0, .int .u8 0, .int .u8 0, .int .u8 0, .int .u8 0, .int .u8 0, .int .u8 0, .int .u8 0, .int .u8 0, .int .u8 0, .int .u8 0, .int .u8 0, .int .u8 0, .int .u8 0] 33)).alloc (.cells #[.int .u8 0, .int .u8 0, .int .u8 0, .int .u8 0, .int .u8 0, .int .u8 0, .int .u8 0, .int .u8 0, .int .u8 0, .int .u8 0, .int .u8 0, .int .u8 0, .int .u8 0, .int .u8 0, .int .u8 0, .int .u8 0, .int .u8 0, .int .u8 0, .int .u8 0, .int .u8 0, .int .u8 0, .int .u8 0, .int .u8 0, .int .u8 0, .int .u8 0, .int .u8 0, .int .u8 0, .int .u8 0, .int .u8 0, .int .u8 0, .int .u8 0, .int .u8 0] 33)).heap[n + 1]? = some (.cells Z32 33 (0, 0)) := p2
  obtain ⟨v0, hv0⟩ : ∃ v0, ((w.alloc (.cells Z32 33)).alloc (.cells Z32 33)).setRow (n + 1) Z32 = v0 := ⟨_, rfl⟩
  rw [hv0] at b3 q3 p3
  have hl : ((w.alloc (.cells #[.int .u8 0, .int .u8 0, .int .u8 0, .int .u8 0, .int .u8 0, .int .u8 0, .int .u8 0, .int .u8 0, .int .u8 0, .int .u8 0, .int .u8 0, .int .u8 0, .int .u8 0, .int .u8 0, .int .u8 0, .int .u8 0, .int .u8 0, .int .u8 0, .int .u8 0, .int .u8 0, .int .u8 0, .int .u8 0, .int .u8 0, .int .u8 0, .int .u8 0, .int .u8 0, .int .u8 0, .int .u8 0, .int .u8 0, .int .u8 0, .int .u8 0, .int .u8 0] 33)).alloc (.cells #[.int .u8 0, .int .u8 0, .int .u8 0, .int .u8 0, .int .u8 0, .int .u8 0, .int .u8 0, .int .u8 0, .int .u8 0, .int .u8 0, .int .u8 0, .int .u8 0, .int .u8 0, .int .u8 0, .int .u8 0, .int .u8 0, .int .u8 0, .int .u8 0, .int .u8 0, .int .u8 0, .int .u8 0, .int .u8 0, .int .u8 0, .int .u8 0, .int .u8 0, .int .u8 0, .int .u8 0, .int .u8 0, .int .u8 0, .int .u8 0, .int .u8 0, .int .u8 0] 33)).setRow (n + 1) Z32 = v0 := hv0
  have h0 := h.below b3 hlt
  have hc0 := h0.cell
  have HL := Lib.hid hl; have PL := Lib.hid pL
  clear hl hv0 pL b1 b2 q1 q2 p2 z1
  unfold M.RowAt at p3 q3
  have q6 := M.RowAt.setRow q3 Z32
  have b6 := M.below_setRow (g := n) (cs := Z32) b3 (Nat.le_refl _)
  go_enter Try.func28, Try.ntmps28
  go_wp2_with (first
    | (refine wpList_store_row (x := .tmp 4) (y := .tmp 6) (cells := Z32) (old := Z32) (t := 33) (ty := 33) (g := n + 1) ?_ ?_ ?_ ?_ PL.out iZ rfl oZ ?_; rfl; rfl; rfl; rfl; rw [HL.out])
    | (refine wpList_load_row (x := .tmp 4) (ty := 33) (g := n + 1) (cs := Z32) (t := 33) (fr := (0, 0)) ?_ ?_ ?_ _ p3 Try.underlying33 rfl iZ ?_; rfl; rfl; rfl)
    | (refine wpList_store_row (x := .tmp 2) (y := .tmp 13) (cells := Z32) (old := Z32) (t := 33) (ty := 33) (g := n) ?_ ?_ ?_ ?_ q3 iZ rfl oZ ?_; rfl; rfl; rfl; rfl))
  have hload := run_loadVar_row (P := Try.prog) _ n 33 33 Z32 (0, 0) _ q6 Try.underlying33 rfl iZ
  refine bodyPost_ret (v := .tuple #[.agg Z32, .int .i64 10]) (by simp [results, Try.results28, asAddr, hload]) rfl ⟨rfl, ?_⟩
  rw [hn]
  exact b6

set_option maxRecDepth 100000 in
set_option maxHeartbeats 1000000 in
theorem xhash_ok (r : Addr) (s : ByteArray) (w : World) (h : At w r s) (hs : s.size ≤ 4611686018427387904) (h32 : 32 ≤ s.size) :
    Calls Try.prog 28 #[.pointer (some r)] w fun e w' => e = .returned (.tuple #[hashV (bytesOf (s.extract 0 32)), .int .i64 0]) ∧ Below w.heap.size (w.setCell r (.string (s.extract 32 s.size))) w' := by
  have hlt := World.block_lt_of_cell? w _ h.cell
  obtain ⟨n, hn⟩ : ∃ n, w.heap.size = n := ⟨_, rfl⟩
  rw [hn] at hlt
  rw [← hv_all s h32]
  have b1 : Below n w (w.alloc (.cells Z32 33)) := hn ▸ (Below.refl _ _).alloc (Nat.le_refl _) _
  have q1 : M.RowAt (w.alloc (.cells Z32 33)) n 33 Z32 := hn ▸ M.RowAt.new w 33 Z32
  have z1 : (w.alloc (.cells Z32 33)).heap.size = n + 1 := by simp; exact hn
  have b2 : Below n w ((w.alloc (.cells Z32 33)).alloc (.cells Z32 33)) := b1.alloc (by omega) _
  have q2 := q1.alloc (.cells Z32 33)
  have p2 : M.RowAt ((w.alloc (.cells Z32 33)).alloc (.cells Z32 33)) (n + 1) 33 Z32 := z1 ▸ M.RowAt.new (w.alloc (.cells Z32 33)) 33 Z32
  have b3 := M.below_setRow (g := n + 1) (cs := Z32) b2 (by omega)
  have q3 := q2.farRow (b := n + 1) (by omega) Z32
  have p3 := p2.setRow Z32
  have iZ : (Try.prog.info? 33).map (·.size) = some Z32.size := by kernel_rfl
  have oZ : Z32.all (·.oneCell') = true := by kernel_rfl
  have hc := h.cell
  have hf := h.open'
  have pL : ((w.alloc (.cells #[.int .u8 0, .int .u8 0, .int .u8 0, .int .u8 0, .int .u8 0, .int .u8 0, .int .u8 0, .int .u8 0, .int .u8 0, .int .u8 0, .int .u8 0, .int .u8 0, .int .u8 0, .int .u8 0, .int .u8 0, .int .u8 0, .int .u8 0, .int .u8 0, .int .u8 0, .int .u8 0, .int .u8 0, .int .u8 0, .int .u8 0, .int .u8 0, .int .u8 0, .int .u8 0, .int .u8 0, .int .u8 0, .int .u8 0, .int .u8 0, .int .u8 0, .int .u8 0] 33)).alloc (.cells #[.int .u8 0, .int .u8 0, .int .u8 0, .int .u8 0, .int .u8 0, .int .u8 0, .int .u8 0, .int .u8 0, .int .u8 0, .int .u8 0, .int .u8 0, .int .u8 0, .int .u8 0, .int .u8 0, .int .u8 0, .int .u8 0, .int .u8 0, .int .u8 0, .int .u8 0, .int .u8 0, .int .u8 0, .int .u8 0, .int .u8 0, .int .u8 0, .int .u8 0, .int .u8 0, .int .u8 0, .int .u8 0, .int .u8 0, .int .u8 0, .int .u8 0, .int .u8 0] 33)).heap[n + 1]? = some (.cells Z32 33 (0, 0)) := p2
  obtain ⟨v0, hv0⟩ : ∃ v0, ((w.alloc (.cells Z32 33)).alloc (.cells Z32 33)).setRow (n + 1) Z32 = v0 := ⟨_, rfl⟩
  rw [hv0] at b3 q3 p3
  have hl : ((w.alloc (.cells #[.int .u8 0, .int .u8 0, .int .u8 0, .int .u8 0, .int .u8 0, .int .u8 0, .int .u8 0, .int .u8 0, .int .u8 0, .int .u8 0, .int .u8 0, .int .u8 0, .int .u8 0, .int .u8 0, .int .u8 0, .int .u8 0, .int .u8 0, .int .u8 0, .int .u8 0, .int .u8 0, .int .u8 0, .int .u8 0, .int .u8 0, .int .u8 0, .int .u8 0, .int .u8 0, .int .u8 0, .int .u8 0, .int .u8 0, .int .u8 0, .int .u8 0, .int .u8 0] 33)).alloc (.cells #[.int .u8 0, .int .u8 0, .int .u8 0, .int .u8 0, .int .u8 0, .int .u8 0, .int .u8 0, .int .u8 0, .int .u8 0, .int .u8 0, .int .u8 0, .int .u8 0, .int .u8 0, .int .u8 0, .int .u8 0, .int .u8 0, .int .u8 0, .int .u8 0, .int .u8 0, .int .u8 0, .int .u8 0, .int .u8 0, .int .u8 0, .int .u8 0, .int .u8 0, .int .u8 0, .int .u8 0, .int .u8 0, .int .u8 0, .int .u8 0, .int .u8 0, .int .u8 0] 33)).setRow (n + 1) Z32 = v0 := hv0
  have h0 := h.below b3 hlt
  have hc0 := h0.cell
  have HL := Lib.hid hl; have PL := Lib.hid pL
  clear hl hv0 pL b1 b2 q1 q2 p2 z1
  go_enter Try.func28, Try.ntmps28
  go_wp2_with (refine wpList_store_row (x := .tmp 4) (y := .tmp 6) (cells := Z32) (old := Z32) (t := 33) (ty := 33) (g := n + 1) ?_ ?_ ?_ ?_ PL.out iZ rfl oZ ?_; rfl; rfl; rfl; rfl; rw [HL.out])
  go_loopw [5] (fun i wr => ∃ k : Nat, k ≤ 32 ∧ i = .int .i64 k ∧ M.RowAt wr (n + 1) 33 (hv s k) ∧ M.RowAt wr n 33 Z32 ∧ Below n w wr) (fun i _ => 32 - (intOf i).toNat)
  case atStart => exact ⟨0, by omega, rfl, by rw [hv_zero]; exact p3, q3, b3⟩
  case round =>
    obtain ⟨k, hk, rfl, p, q, b⟩ := hrel
    have h' := h.below b hlt
    have hc' := h'.cell
    have hf' := h'.open'
    by_cases hk32 : k < 32
    · have hks : k < s.size := by omega
      have c1 := p.cell k
      rw [hv_get s k k hk32] at c1
      have f1 := p.frozen k
      have p' := p.set k (.int .u8 (s[k].toNat : Int))
      rw [hv_set s k hk32 hks] at p'
      have q' := q.far (p := ⟨n + 1, k, none⟩) (by show n + 1 ≠ n; omega) (.int .u8 (s[k].toNat : Int))
      have b' : Below n w (wr.setCell ⟨n + 1, k, none⟩ (.int .u8 (s[k].toNat : Int))) := b.setCell (by show n ≤ n + 1; omega) _
      have P' := Lib.hid p'; have Q' := Lib.hid q'; have B' := Lib.hid b'
      clear p' q' b' hc hf
      go_wp2
      go_roundw
      case rel => exact ⟨k + 1, by omega, by go_num, P'.out, Q'.out, B'.out⟩
      case measure => simp [intOf]; omega
    · obtain rfl : k = 32 := by omega
      obtain ⟨C, hC⟩ : ∃ C, hv s 32 = C := ⟨_, rfl⟩
      have sC : C.size = Z32.size := by rw [← hC, hv_size]; rfl
      have iC : (Try.prog.info? 33).map (·.size) = some C.size := by rw [sC]; exact iZ
      have oC : C.all (·.oneCell') = true := by rw [← hC]; exact hv_one s 32
      rw [hC] at p
      have HC := Lib.hid hC
      have p5 := p.far (p := r) (by omega) (.string (s.extract 32 s.size))
      have q5 := q.far (p := r) (by omega) (.string (s.extract 32 s.size))
      have b5 := below_set b r (.string (s.extract 32 s.size))
      have q6 := q5.setRow C
      have b6 := M.below_setRow (g := n) (cs := C) b5 (Nat.le_refl _)
      unfold M.RowAt at p5 q5
      clear hC p q b b5
      go_wp2_with (first
        | (refine wpList_load_row (x := .tmp 4) (ty := 33) (g := n + 1) (cs := C) (t := 33) (fr := (0, 0)) ?_ ?_ ?_ _ p5 Try.underlying33 rfl iC ?_; rfl; rfl; rfl)
        | (refine wpList_store_row (x := .tmp 2) (y := .tmp 34) (cells := C) (old := Z32) (t := 33) (ty := 33) (g := n) ?_ ?_ ?_ ?_ q5 iC sC.symm oC ?_; rfl; rfl; rfl; rfl))
      have hload := run_loadVar_row (P := Try.prog) _ n 33 33 C (0, 0) _ q6 Try.underlying33 rfl iC
      refine bodyPost_ret (v := .tuple #[.agg C, .int .i64 0]) (by simp [results, Try.results28, asAddr, hload]) rfl ⟨by rw [HC.out], ?_⟩
      rw [hn]
      exact b6
end Go.Proofs.Ytiilgkhndfnkgaa
