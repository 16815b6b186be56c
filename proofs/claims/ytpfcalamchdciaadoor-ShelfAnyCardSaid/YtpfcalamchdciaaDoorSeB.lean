/- What the mixing of a key returns, in the program (a closure) and in the reference; the conditions are that the key's block is known, and is not too long. -/
import Derived.Test.YtpfcalamchdciaaDoorSeA
namespace Go.Proofs.YtpfcalamchdciaaDoor
open Go.RowKit
set_option linter.unusedVariables false

abbrev b8 (n : Nat) (f : Nat → Int) : Array Value := M.rowF .u8 n f
def Z64 : Array Value := #[.int .u8 0, .int .u8 0, .int .u8 0, .int .u8 0, .int .u8 0, .int .u8 0, .int .u8 0, .int .u8 0, .int .u8 0, .int .u8 0, .int .u8 0, .int .u8 0, .int .u8 0, .int .u8 0, .int .u8 0, .int .u8 0, .int .u8 0, .int .u8 0, .int .u8 0, .int .u8 0, .int .u8 0, .int .u8 0, .int .u8 0, .int .u8 0, .int .u8 0, .int .u8 0, .int .u8 0, .int .u8 0, .int .u8 0, .int .u8 0, .int .u8 0, .int .u8 0, .int .u8 0, .int .u8 0, .int .u8 0, .int .u8 0, .int .u8 0, .int .u8 0, .int .u8 0, .int .u8 0, .int .u8 0, .int .u8 0, .int .u8 0, .int .u8 0, .int .u8 0, .int .u8 0, .int .u8 0, .int .u8 0, .int .u8 0, .int .u8 0, .int .u8 0, .int .u8 0, .int .u8 0, .int .u8 0, .int .u8 0, .int .u8 0, .int .u8 0, .int .u8 0, .int .u8 0, .int .u8 0, .int .u8 0, .int .u8 0, .int .u8 0, .int .u8 0]
theorem z64_b8 : b8 64 (fun _ => 0) = Z64 := by rfl
theorem und94 : Tryd.prog.underlying 94 = some (.array 64 5) := by kernel_rfl
theorem b64_info (f : Nat → Int) : (Tryd.prog.info? 94).map (·.size) = some (b8 64 f).size := by rw [M.rowF_size]; kernel_rfl
theorem b64_zero (f : Nat → Int) : Z64.size = (b8 64 f).size := by rw [M.rowF_size]; rfl
theorem b8_one (n : Nat) (f : Nat → Int) : (b8 n f).all (·.oneCell') = true := M.rowF_one
def upMix (k : ByteArray) (x : Int) (i : Nat) : Nat → Int := fun j => if j < i then mixF k x j else bk k j

set_option maxRecDepth 100000 in
set_option maxHeartbeats 2000000 in
theorem mix_any (kb : Nat) (k : ByteArray) (x : Int) (w : World) (hk : M.RowAt w kb 94 (b8 64 (bk k))) (hx0 : 0 ≤ x) (hx : x ≤ 255) :
    Calls Tryd.prog 63 #[.int .u8 x, .pointer (some ⟨kb, 0, none⟩)] w fun e w' => e = .returned (.string (mixS k x)) ∧ Below w.heap.size w w' := by
  obtain ⟨n, hn⟩ : ∃ n, w.heap.size = n := ⟨_, rfl⟩
  have HN := Lib.hid hn
  obtain ⟨V, hV⟩ : ∃ V, w.alloc (.cells #[.int .u8 0, .int .u8 0, .int .u8 0, .int .u8 0, .int .u8 0, .int .u8 0, .int .u8 0, .int .u8 0, .int .u8 0, .int .u8 0, .int .u8 0, .int .u8 0, .int .u8 0, .int .u8 0, .int .u8 0, .int .u8 0, .int .u8 0, .int .u8 0, .int .u8 0, .int .u8 0, .int .u8 0, .int .u8 0, .int .u8 0, .int .u8 0, .int .u8 0, .int .u8 0, .int .u8 0, .int .u8 0, .int .u8 0, .int .u8 0, .int .u8 0, .int .u8 0, .int .u8 0, .int .u8 0, .int .u8 0, .int .u8 0, .int .u8 0, .int .u8 0, .int .u8 0, .int .u8 0, .int .u8 0, .int .u8 0, .int .u8 0, .int .u8 0, .int .u8 0, .int .u8 0, .int .u8 0, .int .u8 0, .int .u8 0, .int .u8 0, .int .u8 0, .int .u8 0, .int .u8 0, .int .u8 0, .int .u8 0, .int .u8 0, .int .u8 0, .int .u8 0, .int .u8 0, .int .u8 0, .int .u8 0, .int .u8 0, .int .u8 0, .int .u8 0] 94) = V := ⟨_, rfl⟩
  have rV : M.RowAt (w.alloc (.cells #[.int .u8 0, .int .u8 0, .int .u8 0, .int .u8 0, .int .u8 0, .int .u8 0, .int .u8 0, .int .u8 0, .int .u8 0, .int .u8 0, .int .u8 0, .int .u8 0, .int .u8 0, .int .u8 0, .int .u8 0, .int .u8 0, .int .u8 0, .int .u8 0, .int .u8 0, .int .u8 0, .int .u8 0, .int .u8 0, .int .u8 0, .int .u8 0, .int .u8 0, .int .u8 0, .int .u8 0, .int .u8 0, .int .u8 0, .int .u8 0, .int .u8 0, .int .u8 0, .int .u8 0, .int .u8 0, .int .u8 0, .int .u8 0, .int .u8 0, .int .u8 0, .int .u8 0, .int .u8 0, .int .u8 0, .int .u8 0, .int .u8 0, .int .u8 0, .int .u8 0, .int .u8 0, .int .u8 0, .int .u8 0, .int .u8 0, .int .u8 0, .int .u8 0, .int .u8 0, .int .u8 0, .int .u8 0, .int .u8 0, .int .u8 0, .int .u8 0, .int .u8 0, .int .u8 0, .int .u8 0, .int .u8 0, .int .u8 0, .int .u8 0, .int .u8 0] 94)) w.heap.size 94 Z64 := M.RowAt.new w 94 _
  have bV : Below n w (w.alloc (.cells #[.int .u8 0, .int .u8 0, .int .u8 0, .int .u8 0, .int .u8 0, .int .u8 0, .int .u8 0, .int .u8 0, .int .u8 0, .int .u8 0, .int .u8 0, .int .u8 0, .int .u8 0, .int .u8 0, .int .u8 0, .int .u8 0, .int .u8 0, .int .u8 0, .int .u8 0, .int .u8 0, .int .u8 0, .int .u8 0, .int .u8 0, .int .u8 0, .int .u8 0, .int .u8 0, .int .u8 0, .int .u8 0, .int .u8 0, .int .u8 0, .int .u8 0, .int .u8 0, .int .u8 0, .int .u8 0, .int .u8 0, .int .u8 0, .int .u8 0, .int .u8 0, .int .u8 0, .int .u8 0, .int .u8 0, .int .u8 0, .int .u8 0, .int .u8 0, .int .u8 0, .int .u8 0, .int .u8 0, .int .u8 0, .int .u8 0, .int .u8 0, .int .u8 0, .int .u8 0, .int .u8 0, .int .u8 0, .int .u8 0, .int .u8 0, .int .u8 0, .int .u8 0, .int .u8 0, .int .u8 0, .int .u8 0, .int .u8 0, .int .u8 0, .int .u8 0] 94)) := hn ▸ (Below.refl _ _).alloc (Nat.le_refl _) _
  rw [hV] at rV bV
  rw [hn] at rV
  have rW := M.RowAt.setRow rV (b8 64 (bk k))
  have bW := M.below_setRow (g := n) (cs := b8 64 (bk k)) bV (Nat.le_refl _)
  have iK := b64_info (bk k)
  have zK := b64_zero (bk k)
  have oK := b8_one 64 (bk k)
  have e0 : b8 64 (bk k) = b8 64 (upMix k x 0) := M.rowF_congr (fun i _ => by unfold upMix; rw [if_neg (by omega)])
  obtain ⟨C, hC⟩ : ∃ C, b8 64 (bk k) = C := ⟨_, rfl⟩
  rw [hC] at hk iK zK oK rW bW
  obtain ⟨U, hU⟩ : ∃ U, V.setRow n C = U := ⟨_, rfl⟩
  rw [hU] at rW bW
  have rW : M.RowAt U n 94 (b8 64 (upMix k x 0)) := by rw [← e0, hC]; exact rW
  have HV := Lib.hid hV; have HU := Lib.hid hU
  unfold M.RowAt at hk rV
  clear hV hU e0 hC
  go_enter Tryd.func63, Tryd.ntmps63
  go_wp2_with (first
    | (rw [HV.out]; refine wpList_store_row (x := .tmp 4) (y := .tmp 6) (cells := C) (old := Z64) (t := 94) (ty := 94) (g := n) ?_ ?_ ?_ ?_ rV iK zK oK ?_; rfl; rfl; rfl; rfl; rw [HU.out])
    | (refine wpList_load_row (x := .tmp 1) (ty := 94) (g := kb) (cs := C) (t := 94) (fr := (0, 0)) ?_ ?_ ?_ _ hk und94 rfl iK ?_; rfl; rfl; rfl)
    | fail)
  clear hn
  go_loopg [7] 64 (fun m i v => ∃ j : Nat, m + j = 64 ∧ i = .int .i64 j ∧ M.RowAt v n 94 (b8 64 (upMix k x j)) ∧ Below n w v)
  case atStart => exact ⟨0, by omega, rfl, rW, bW⟩
  case round =>
    clear rW bW hk rV
    obtain ⟨j, hm, rfl, hr, hb⟩ := hrel
    by_cases hlt : j < 64
    · have q := (hr.cell j).trans (M.rowF_get hlt)
      have f := hr.frozen j
      have ej : upMix k x j j = bk k j := by unfold upMix; rw [if_neg (by omega)]
      rw [ej] at q
      have hbk := bk_lt k j
      have r2 := hr.set j (.int .u8 (bits .xor .u8 (bk k j) x))
      rw [M.rowF_set (g := upMix k x (j + 1)) _ hlt (fun i hi => by
        unfold upMix
        by_cases he : i = j
        · subst he; rw [if_pos rfl, if_pos (by omega)]; rfl
        · rw [if_neg he]
          by_cases hl : i < j
          · rw [if_pos hl, if_pos (by omega)]
          · rw [if_neg hl, if_neg (by omega)])] at r2
      have rb : Below n w (wr.setCell ⟨n, j, none⟩ (.int .u8 (bits .xor .u8 (bk k j) x))) := hb.setCell (by show n ≤ n; omega) _
      generalize bk k j = y at *
      have R2 := Lib.hid r2; have RB := Lib.hid rb
      clear r2 rb ej
      go_wp2
      go_roundg (64 - (j + 1))
      case measure => omega
      case rel => exact ⟨j + 1, by omega, by go_num, R2.out, RB.out⟩
    · obtain rfl : j = 64 := by omega
      have hcv := conv_rowI hr
      have e1 : bytesI 64 (upMix k x 64) = mixS k x := bytesI_congr (fun i hi => by unfold upMix; rw [if_pos hi])
      rw [e1] at hcv
      obtain ⟨X, hX⟩ : ∃ X, mixS k x = X := ⟨_, rfl⟩
      rw [hX] at hcv
      have HX := Lib.hid hX
      clear hX e1
      go_wp2
      go_ret
      exact ⟨by rw [HX.out]; rfl, by rw [HN.out]; exact hb⟩

/-- bytes as values -/
def intsV (l : List Int) : List Value := l.map fun n => Value.int .u8 n
theorem intsV_len (l : List Int) : (intsV l).length = l.length := by simp [intsV]
/-- a row of bytes of the call's own, turned into a text -/
theorem conv_ownI {w : World} {base n : Nat} {v : Value} {l : List Int} (h : w.ownsRow base 5 1 v n (intsV l)) : (convert 51 9 v).run Tryd.prog w = .ok (.string (strOfNums l)) w := by
  obtain ⟨hlen, hv⟩ := h
  have hll : l.length = n := by simpa [intsV_len] using hlen
  rcases hv with ⟨rfl, rfl⟩ | ⟨g, cap, cur, rfl, hb, hg, hn, hm, hs, ht⟩
  · have : l = [] := List.eq_nil_of_length_eq_zero hll
    subst this
    exact run_convert_bytes_nil w 51 5 Tryd.underlying51 Tryd.underlying5 0 0 9 Tryd.underlying9
  · refine run_convert_bytes_arg (P := Tryd.prog) w 51 5 Tryd.underlying51 Tryd.underlying5 g 0 n cap l hll (fun i hi => ?_) 9 Tryd.underlying9
    rw [cell_of_row w g _ cur 5 (0, 0) hg]
    have e := congrArg (·[i]?) ht
    simp only [Nat.mul_one, List.getElem?_take_of_lt hi, intsV, List.getElem?_map] at e
    rw [Nat.zero_add, ← Array.getElem?_toList, e]
    have hi' : i < l.length := by omega
    simp [List.getD, List.getElem?_eq_getElem hi']
def mixL (k : ByteArray) (x : Int) (n : Nat) : List Int := (List.range n).map (mixF k x)
theorem mixL_succ (k : ByteArray) (x : Int) (n : Nat) : mixL k x (n + 1) = mixL k x n ++ [mixF k x n] := by simp [mixL, List.range_succ]
theorem mixL_len (k : ByteArray) (x : Int) (n : Nat) : (mixL k x n).length = n := by simp [mixL]

set_option maxRecDepth 100000 in
set_option maxHeartbeats 2000000 in
theorem rmix_any (k : ByteArray) (x : Int) (w : World) (hks : k.size ≤ 1000000) (hx0 : 0 ≤ x) (hx : x ≤ 255) :
    Calls Tryd.prog 64 #[.string k, .int .u8 x] w fun e w' => e = .returned (.string (mixS k x)) ∧ Below w.heap.size w w' := by
  obtain ⟨i0, hi, hz0, hz1, hz2⟩ := info_parts info5
  obtain ⟨B, hB⟩ : ∃ B, w.heap.size = B := ⟨_, rfl⟩
  have o0 := own_lit w 5 (intsV (mixL k x 0)) (by unfold maxLen; simp [intsV, mixL])
  have b0 : Below B w (w.alloc (.cells #[] 5)) := hB ▸ (Below.refl _ _).alloc (Nat.le_refl _) _
  rw [hB] at o0
  have HB := Lib.hid hB
  clear hB
  go_enter Tryd.func64, Tryd.ntmps64
  go_wp2
  rw [HB.out]
  have o0' : (w.alloc (.cells #[] 5)).ownsRow B 5 1 (.slice (some ⟨B, 0, none⟩) 0 0) 0 (intsV (mixL k x 0)) := o0
  clear o0
  generalize w.alloc (.cells #[] 5) = w0 at *
  go_loopg [5, 6] 64 (fun m v i wr => ∃ (j : Nat), m + j = 64 ∧ i = .int .i64 j ∧ wr.ownsRow B 5 1 v j (intsV (mixL k x j)) ∧ Below B w wr)
  case atStart => exact ⟨0, by omega, rfl, o0', b0⟩
  case round =>
    clear o0' b0
    obtain ⟨j, hm, rfl, hown, hb⟩ := hrel
    have hsz := hb.size
    have hBr : B ≤ wr.heap.size := by have := HB.out; omega
    by_cases hlt : j < 64
    · have hbk := bk_lt k j
      have hsx : mixL k x (j + 1) = mixL k x j ++ [bits .xor .u8 (bk k j) x] := mixL_succ k x j
      have hl : intsV (mixL k x j) ++ [.int .u8 (bits .xor .u8 (bk k j) x)] = intsV (mixL k x (j + 1)) := by rw [hsx]; simp [intsV]
      have HL := Lib.hid hl
      clear hsx hl
      by_cases hjk : j < k.size
      · have hby : ((k[j].toNat : Nat) : Int) = bk k j := by unfold bk; rw [Sha.byte_at k j hjk]
        have HBY := Lib.hid hby
        clear hby
        go_wp2_with (at_builtin; refine wpList_append_own _ rfl _ _ 51 rfl B 5 i0 (.int .u8 0) 1 1 Tryd.underlying51 hi hz0 hz1 hz2 rfl (by decide) _ _ _ rfl (hown.alloc _) ⟨wr.heap.size, 0, none⟩ 1 1 [.int .u8 (bits .xor .u8 ((k[j].toNat : Int)) x)] rfl rfl ?c1 ?c2 ?c3 ?c4 ?c5 ?_)
        case c1 => exact cell_one_new _ _ _
        case c2 => intro u hu; simp at hu; subst hu; rfl
        case c3 => unfold maxLen; omega
        case c4 => omega
        case c5 => simp; omega
        intro v' w1 hown1 hg1 _
        have hb1 : Below B w w1 := (hb.alloc hBr _).grown hg1 (by simp; omega) (fun k hk => (hown.lt k hk).1)
        rw [HBY.out, HL.out] at hown1
        go_wp2
        go_roundg (64 - (j + 1))
        case measure => omega
        case rel => exact ⟨j + 1, by omega, by go_num, hown1, hb1⟩
      · have e0 := bk_out k j (by omega)
        rw [e0] at HL
        clear hbk e0
        go_wp2_with (at_builtin; refine wpList_append_own _ rfl _ _ 51 rfl B 5 i0 (.int .u8 0) 1 1 Tryd.underlying51 hi hz0 hz1 hz2 rfl (by decide) _ _ _ rfl (hown.alloc _) ⟨wr.heap.size, 0, none⟩ 1 1 [.int .u8 (bits .xor .u8 (0) x)] rfl rfl ?c1 ?c2 ?c3 ?c4 ?c5 ?_)
        case c1 => exact cell_one_new _ _ _
        case c2 => intro u hu; simp at hu; subst hu; rfl
        case c3 => unfold maxLen; omega
        case c4 => omega
        case c5 => simp; omega
        intro v' w1 hown1 hg1 _
        have hb1 : Below B w w1 := (hb.alloc hBr _).grown hg1 (by simp; omega) (fun k hk => (hown.lt k hk).1)
        rw [HL.out] at hown1
        go_wp2
        go_roundg (64 - (j + 1))
        case measure => omega
        case rel => exact ⟨j + 1, by omega, by go_num, hown1, hb1⟩
    · obtain rfl : j = 64 := by omega
      have hcv := conv_ownI hown
      have e1 : strOfNums (mixL k x 64) = mixS k x := rfl
      rw [e1] at hcv
      obtain ⟨X, hX⟩ : ∃ X, mixS k x = X := ⟨_, rfl⟩
      rw [hX] at hcv
      have HX := Lib.hid hX
      clear hX e1
      clear hown
      go_wp2
      go_ret
      exact ⟨by rw [HX.out]; rfl, by rw [HB.out]; exact hb⟩
end Go.Proofs.YtpfcalamchdciaaDoor
