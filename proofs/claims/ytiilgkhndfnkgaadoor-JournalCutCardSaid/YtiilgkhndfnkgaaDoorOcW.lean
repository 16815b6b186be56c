/- What the functions of octet's writer return and write, walked once; the condition is that the writer's cell is known. -/
import Derived.Test.YtiilgkhndfnkgaaDoorRows
import Derived.WalkKit
import Derived.WalkSpells
import Derived.WalkLawsBesides
import Derived.Lib.Hide
import Derived.Laws.BytesArg
import Derived.Deep.QuietTactic
import Derived.BigQuiet
namespace Go.Proofs.YtiilgkhndfnkgaaDoor.Oc
open Go.RowKit
set_option linter.unusedVariables false

theorem info5 : (Tryd.prog.info? 5).map (fun i => (i.zero, i.size, i.bytes)) = some (some (.int .u8 0), 1, 1) := by kernel_rfl

/-- the first j bytes of n in so many, the highest one first -/
def top (n wd : Int) (j : Nat) : List Int := (List.range j).map fun (t : Nat) => n / 2 ^ (8 * (wd - 1 - (t : Int))).toNat % 256
theorem top_succ (n wd : Int) (j : Nat) : top n wd (j + 1) = top n wd j ++ [n / 2 ^ (8 * (wd - 1 - (j : Int))).toNat % 256] := by
  simp [top, List.range_succ]
def ints (l : List Int) : List Value := l.map (Value.int .u8)
theorem u8_wrap (x : Int) : IntKind.u8.wrap x = x % 256 := by simp [IntKind.wrap, IntKind.signed, IntKind.bits]

/-- one cell written in both worlds -/
theorem below_set {B : Nat} {w w' : World} (h : Below B w w') (a : Addr) (v : Value) : Below B (w.setCell a v) (w'.setCell a v) := by
  refine ⟨h.os, h.tape, h.output, by simpa [World.setCell] using h.size, fun k hk => ?_⟩
  simp only [World.setCell, Array.getElem?_modify, h.block k hk]

/-- a row of bytes of the call's own, turned into a text -/
theorem conv_own {w : World} {base n : Nat} {v : Value} {l : List Int} (h : w.ownsRow base 5 1 v n (ints l)) : (convert 41 9 v).run Tryd.prog w = .ok (.string (strOfNums l)) w := by
  obtain ⟨hlen, hv⟩ := h
  have hll : l.length = n := by simpa [ints] using hlen
  rcases hv with ⟨rfl, rfl⟩ | ⟨g, cap, cur, rfl, hb, hg, hn, hm, hs, ht⟩
  · have : l = [] := List.eq_nil_of_length_eq_zero hll
    subst this
    exact run_convert_bytes_nil w 41 5 Tryd.underlying41 Tryd.underlying5 0 0 9 Tryd.underlying9
  · refine run_convert_bytes_arg w 41 5 Tryd.underlying41 Tryd.underlying5 g 0 n cap l hll (fun i hi => ?_) 9 Tryd.underlying9
    rw [cell_of_row w g _ cur 5 (0, 0) hg]
    have e := congrArg (·[i]?) ht
    simp only [Nat.mul_one, List.getElem?_take_of_lt hi, ints, List.getElem?_map] at e
    rw [Nat.zero_add, ← Array.getElem?_toList, e]
    simp [List.getElem?_eq_getElem (show i < l.length by omega)]

set_option maxRecDepth 100000 in
set_option maxHeartbeats 1000000 in
theorem number_core (n wd : Int) (a : Addr) (s : ByteArray) (w : World) (n0 : 0 ≤ n) (n1 : n ≤ 18446744073709551615) (h1 : 1 ≤ wd) (h8 : wd ≤ 8)
    (hs : s.size ≤ 4611686018427387904) (hz : (n / 2 ^ (8 * wd).toNat != 0) = false) (hc : w.cell? a = some (.string s)) (hf : w.frozen? a = false) :
    Calls Tryd.prog 24 #[.pointer (some a), .int .u64 n, .int .i64 wd] w fun e w' => e = .returned (.int .i64 0) ∧ Below w.heap.size (w.setCell a (.string (s ++ strOfNums (top n wd wd.toNat)))) w' := by
  obtain ⟨i0, hi, hz0, hz1, hz2⟩ := info_parts info5
  go_enter Tryd.func24, Tryd.ntmps24
  go_wp2
  go_loopw [7, 8] (fun v i wr => ∃ (j : Nat) (I : Int), Hid (I = wd - 1 - j) ∧ -1 ≤ I ∧ I ≤ 7 ∧ (j : Int) ≤ wd ∧ i = .int .i64 I ∧ wr.ownsRow w.heap.size 5 1 v j (ints (top n wd j)) ∧ Below w.heap.size w wr) (fun _ i _ => (intOf i + 1).toNat)
  case atStart => exact ⟨0, wd - 1, by unfold Hid; omega, by omega, by omega, by omega, rfl, World.ownsRow_nil _ _ _ _, Below.refl _ _⟩
  case round =>
    obtain ⟨j, I, hI, i0', i7, hj, rfl, hown, hb⟩ := hrel
    by_cases hlt : 0 ≤ I
    · have hsz := hb.size
      go_wp2_with (at_builtin; refine wpList_append_own _ rfl _ _ 41 rfl w.heap.size 5 i0 (.int .u8 0) 1 1 Tryd.underlying41 hi hz0 hz1 hz2 rfl (by decide) _ _ _ rfl (hown.alloc _) ⟨wr.heap.size, 0, none⟩ 1 1 [.int .u8 (n / 2 ^ (8 * I).toNat % 256)] rfl rfl ?c1 ?c2 ?c3 ?c4 ?c5 ?_)
      case c1 => exact cell_one_new _ _ _
      case c2 => intro u hu; simp at hu; subst hu; rfl
      case c3 => unfold maxLen; omega
      case c4 => omega
      case c5 => simp; omega
      intro v' w1 hown1 hg1 _
      have hI' := hI
      have hb1 : Below w.heap.size w w1 := (hb.alloc hb.size _).grown hg1 (by simp; omega) (fun k hk => (hown.lt k hk).1)
      have ht : ints (top n wd j) ++ [.int .u8 (n / 2 ^ (8 * I).toNat % 256)] = ints (top n wd (j + 1)) := by
        rw [top_succ, ← show I = wd - 1 - j from hI]; simp [ints]
      rw [ht] at hown1
      clear ht
      go_wp2
      go_roundw
      case rel => exact ⟨j + 1, I - 1, by unfold Hid at *; omega, by omega, by omega, by unfold Hid at *; omega, rfl, hown1, hb1⟩
      case measure => simp [intOf]; omega
    · obtain rfl : I = -1 := by omega
      have hj' : j = wd.toNat := by unfold Hid at hI; omega
      rw [hj'] at hown
      have hconv := conv_own (w := wr.drew) (v := u7) (n := wd.toNat) (l := top n wd wd.toNat) (base := w.heap.size) hown
      have hX : (strOfNums (top n wd wd.toNat)).size = wd.toNat := by rw [strOfNums_size]; simp [top]
      generalize hXe : strOfNums (top n wd wd.toNat) = X at *
      have HX := Lib.hid hXe; clear hXe
      have hadd : s.size + X.size ≤ 9223372036854775807 := by omega
      clear hX hs
      have hca : wr.cell? a = some (.string s) := by rw [hb.cell (World.block_lt_of_cell? w _ hc)]; exact hc
      have hfa : wr.frozen? a = false := by rw [hb.frozen (World.block_lt_of_cell? w _ hc)]; exact hf
      clear hI hj' hj hc hf hz
      have HB := hb
      go_wp2
      go_region
      go_wp2
      go_ret
      exact ⟨rfl, by rw [HX.out]; exact (below_set hb a _).drew⟩

set_option maxRecDepth 100000 in
theorem number_bad (n wd : Int) (a : Addr) (w : World) (h : wd < 1 ∨ 8 < wd) :
    Calls Tryd.prog 24 #[.pointer (some a), .int .u64 n, .int .i64 wd] w fun e w' => e = .returned (.int .i64 1) ∧ w = w' := by
  rcases h with h | h
  all_goals
    go_enter Tryd.func24, Tryd.ntmps24
    go_wp2
    go_ret
    exact ⟨rfl, rfl⟩
set_option maxRecDepth 100000 in
theorem number_wide (n wd : Int) (a : Addr) (w : World) (n0 : 0 ≤ n) (h1 : 1 ≤ wd) (h8 : wd ≤ 8) (hz : (n / 2 ^ (8 * wd).toNat != 0) = true) :
    Calls Tryd.prog 24 #[.pointer (some a), .int .u64 n, .int .i64 wd] w fun e w' => e = .returned (.int .i64 1) ∧ w = w' := by
  go_enter Tryd.func24, Tryd.ntmps24
  go_wp2
  go_ret
  exact ⟨rfl, rfl⟩

/-- the error of a number in so many bytes -/
def numE (n wd : Int) : Int := if wd < 1 ∨ 8 < wd ∨ n / 2 ^ (8 * wd).toNat ≠ 0 then 1 else 0
/-- the bytes of a number in so many, none with an error -/
def numB (n wd : Int) : List Int := if wd < 1 ∨ 8 < wd ∨ n / 2 ^ (8 * wd).toNat ≠ 0 then [] else top n wd wd.toNat

/-- a text at a writer's or a reader's cell -/
structure At (w : World) (a : Addr) (s : ByteArray) : Prop where
  cell : w.cell? a = some (.string s)
  open' : w.frozen? a = false

theorem setCell_same {w : World} {a : Addr} {v : Value} (h : w.cell? a = some v) : w.setCell a v = w := by
  have e : w.heap.modify a.block (fun
      | .cells c elem frozen => .cells (if a.spot.isSome then c else c.setIfInBounds a.off v) elem frozen
      | o => o) = w.heap := by
    apply Array.ext_getElem?
    intro i
    rw [Array.getElem?_modify]
    split
    · rename_i hi
      subst hi
      unfold World.cell? at h
      generalize w.heap[a.block]? = o at *
      match o, h with
      | some (.cells c t fr), h =>
        simp only at h
        simp only [Option.map_some]
        by_cases hs : a.spot.isSome = true
        · simp [hs] at h
        · have hs' : a.spot.isSome = false := by simpa using hs
          simp only [hs', Bool.false_eq_true, if_false] at h
          congr 2
          simp only [hs', Bool.false_eq_true, if_false]
          apply Array.ext_getElem?
          intro j
          rw [Array.getElem?_setIfInBounds]
          split
          · rename_i hj; subst hj
            split
            · exact h.symm
            · rename_i hlt; rw [Array.getElem?_eq_none (by omega)] at h; simp at h
          · rfl
    · rfl
  exact congrArg (fun x : Array Obj => { w with heap := x }) e

theorem strOfNums_nil (s : ByteArray) : s ++ strOfNums [] = s := by
  apply ByteArray.ext; simp [strOfNums, ByteArray.data_append]

theorem number_any (n wd : Int) (a : Addr) (s : ByteArray) (w : World) (n0 : 0 ≤ n) (n1 : n ≤ 18446744073709551615) (hs : s.size ≤ 4611686018427387904) (h : At w a s) :
    Calls Tryd.prog 24 #[.pointer (some a), .int .u64 n, .int .i64 wd] w fun e w' => e = .returned (.int .i64 (numE n wd)) ∧ Below w.heap.size (w.setCell a (.string (s ++ strOfNums (numB n wd)))) w' := by
  unfold numE numB
  by_cases hb : wd < 1 ∨ 8 < wd
  · have hc : wd < 1 ∨ 8 < wd ∨ n / 2 ^ (8 * wd).toNat ≠ 0 := by omega
    rw [if_pos hc, if_pos hc, strOfNums_nil, setCell_same h.cell]
    exact (number_bad n wd a w hb).mono fun e w' ⟨he, hw⟩ => ⟨he, hw ▸ Below.refl _ _⟩
  · by_cases hz : n / 2 ^ (8 * wd).toNat = 0
    · have hc : ¬ (wd < 1 ∨ 8 < wd ∨ n / 2 ^ (8 * wd).toNat ≠ 0) := by omega
      rw [if_neg hc, if_neg hc]
      exact number_core n wd a s w n0 n1 (by omega) (by omega) hs (by rw [bne_eq_false_iff_eq]; exact hz) h.cell h.open'
    · have hc : wd < 1 ∨ 8 < wd ∨ n / 2 ^ (8 * wd).toNat ≠ 0 := .inr (.inr hz)
      rw [if_pos hc, if_pos hc, strOfNums_nil, setCell_same h.cell]
      exact (number_wide n wd a w n0 (by omega) (by omega) (by rw [bne_iff_ne]; exact hz)).mono fun e w' ⟨he, hw⟩ => ⟨he, hw ▸ Below.refl _ _⟩
end Go.Proofs.YtiilgkhndfnkgaaDoor.Oc
