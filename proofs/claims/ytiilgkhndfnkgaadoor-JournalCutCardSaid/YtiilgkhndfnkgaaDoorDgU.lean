/- What digest's padding, and its reference's, return; the condition is that a text is not too long. -/
import Derived.Test.YtiilgkhndfnkgaaDoorDgT
import Derived.Deep.LoopGhost
import Derived.Laws.BytesArg
import Derived.Deep.RegionWith
import Derived.Deep.AppendLies
namespace Go.Proofs.YtiilgkhndfnkgaaDoor
open Go.RowKit
set_option linter.unusedVariables false

theorem info5 : (Tryd.prog.info? 5).map (fun i => (i.zero, i.size, i.bytes)) = some (some (.int .u8 0), 1, 1) := by kernel_rfl

/-- bytes as values -/
def bytesV (l : List Nat) : List Value := l.map fun (n : Nat) => Value.int .u8 (n : Int)
theorem bytesV_len (l : List Nat) : (bytesV l).length = l.length := by simp [bytesV]
theorem own_lit (w : World) (E : TypeId) (vals : List Value) (h : vals.length ≤ maxLen) : (w.alloc (.cells vals.toArray E)).ownsRow w.heap.size E 1 (.slice (some ⟨w.heap.size, 0, none⟩) vals.length vals.length) vals.length vals := by
  refine ⟨by omega, .inr ⟨w.heap.size, vals.length, vals.toArray, rfl, Nat.le_refl _, heap_alloc_new w _, Nat.le_refl _, h, by simp, by simp⟩⟩

theorem strOf_bytes (l : List Nat) : strOfNums (l.map fun (n : Nat) => (n : Int)) = Sha.bytesOfL l := by
  apply ByteArray.ext
  simp [strOfNums, Sha.bytesOfL]

/-- a row of bytes of the call's own, turned into a text -/
theorem conv_own {w : World} {base n : Nat} {v : Value} {l : List Nat} (h : w.ownsRow base 5 1 v n (bytesV l)) : (convert 41 9 v).run Tryd.prog w = .ok (.string (Sha.bytesOfL l)) w := by
  obtain ⟨hlen, hv⟩ := h
  have hll : l.length = n := by simpa [bytesV_len] using hlen
  rcases hv with ⟨rfl, rfl⟩ | ⟨g, cap, cur, rfl, hb, hg, hn, hm, hs, ht⟩
  · have : l = [] := List.eq_nil_of_length_eq_zero hll
    subst this
    exact run_convert_bytes_nil w 41 5 Tryd.underlying41 Tryd.underlying5 0 0 9 Tryd.underlying9
  · have e := run_convert_bytes_arg (P := Tryd.prog) w 41 5 Tryd.underlying41 Tryd.underlying5 g 0 n cap (l.map fun (n : Nat) => (n : Int)) (by simp [hll]) (fun i hi => ?_) 9 Tryd.underlying9
    · rw [strOf_bytes] at e; exact e
    · rw [cell_of_row w g _ cur 5 (0, 0) hg]
      have e := congrArg (·[i]?) ht
      simp only [Nat.mul_one, List.getElem?_take_of_lt hi, bytesV, List.getElem?_map] at e
      rw [Nat.zero_add, ← Array.getElem?_toList, e]
      have hi' : i < l.length := by omega
      simp [List.getD, List.getElem?_eq_getElem hi']

/-- the first j of the eight bytes of a length -/
def len8 (n j : Nat) : List Nat := (List.range j).map fun i => 8 * n / 2 ^ (56 - 8 * i) % 256
theorem len8_succ (n j : Nat) : len8 n (j + 1) = len8 n j ++ [8 * n / 2 ^ (56 - 8 * j) % 256] := by simp [len8, List.range_succ]
theorem len8_len (n j : Nat) : (len8 n j).length = j := by simp [len8]
theorem rep_succ (j : Nat) : List.replicate (j + 1) 0 = List.replicate j 0 ++ [(0 : Nat)] := List.replicate_succ'
theorem zeros_lt (n : Nat) : Sha.zeros n < 64 := Nat.mod_lt _ (by decide)
theorem zeros_not (n j : Nat) (h : j < Sha.zeros n) : (n + (1 + j) + 8) % 64 ≠ 0 := by unfold Sha.zeros at h; omega
theorem zeros_yes (n : Nat) : (n + (1 + Sha.zeros n) + 8) % 64 = 0 := by unfold Sha.zeros; omega

set_option maxRecDepth 100000 in
set_option maxHeartbeats 2000000 in
theorem tail_any (n : Nat) (w : World) (hn : n ≤ 1000000000000) :
    Calls Tryd.prog 41 #[.int .u64 (n : Nat)] w fun e w' => e = .returned (.string (Sha.tail n)) ∧ Below w.heap.size w w' := by
  obtain ⟨i0, hi, hz0, hz1, hz2⟩ := info_parts info5
  obtain ⟨B, hB⟩ : ∃ B, w.heap.size = B := ⟨_, rfl⟩
  have o0 := own_lit w 5 (bytesV [128]) (by unfold maxLen; simp [bytesV])
  have b0 : Below B w (w.alloc (.cells (bytesV [128]).toArray 5)) := hB ▸ (Below.refl _ _).alloc (Nat.le_refl _) _
  rw [hB] at o0
  have HB := Lib.hid hB
  have zl := zeros_lt n
  clear hB
  go_enter Tryd.func41, Tryd.ntmps41
  go_wp2
  rw [HB.out]
  have o0' : (w.alloc (.cells #[.int .u8 128] 5)).ownsRow B 5 1 (.slice (some ⟨B, 0, none⟩) 1 1) 1 (bytesV (128 :: List.replicate 0 0)) := o0
  have b0' : Below B w (w.alloc (.cells #[.int .u8 128] 5)) := b0
  clear o0 b0
  generalize w.alloc (.cells #[.int .u8 128] 5) = w0 at *
  go_loopg [3] (Sha.zeros n) (fun m v wr => ∃ (j g cap : Nat), m + j = Sha.zeros n ∧ v = .slice (some ⟨g, 0, none⟩) (1 + j) cap ∧ wr.ownsRow B 5 1 v (1 + j) (bytesV (128 :: List.replicate j 0)) ∧ Below B w wr)
  case atStart => exact ⟨0, B, 1, by omega, rfl, o0', b0'⟩
  case round =>
    obtain ⟨j, g, cap, hm, hv, hown, hb⟩ := hrel
    subst hv
    have hsz := hb.size
    have hBr : B ≤ wr.heap.size := by have := HB.out; omega
    by_cases hlt : j < Sha.zeros n
    · have hz := zeros_not n j hlt
      have hz' : (((n : Int) + (1 + (j : Int)) + 8) % 64 != 0) = true := by rw [bne_iff_ne]; omega
      go_wp2_with (at_builtin; refine wpList_append_own _ rfl _ _ 41 rfl B 5 i0 (.int .u8 0) 1 1 Tryd.underlying41 hi hz0 hz1 hz2 rfl (by decide) _ _ _ rfl (hown.alloc _) ⟨wr.heap.size, 0, none⟩ 1 1 [.int .u8 0] rfl rfl ?c1 ?c2 ?c3 ?c4 ?c5 ?_)
      case c1 => exact cell_one_new _ _ _
      case c2 => intro u hu; simp at hu; subst hu; rfl
      case c3 => unfold maxLen; omega
      case c4 => omega
      case c5 => simp; omega
      intro v' w1 hown1 hg1 _
      have hb1 : Below B w w1 := (hb.alloc hBr _).grown hg1 (by simp; omega) (fun k hk => (hown.lt k hk).1)
      have hex : ∃ g cap, v' = .slice (some ⟨g, 0, none⟩) (1 + (j + 1)) cap := by
        obtain ⟨g, cap, h1, _⟩ := hown1.form (by omega)
        exact ⟨g, cap, h1⟩
      have hl : bytesV (128 :: List.replicate j 0) ++ [.int .u8 0] = bytesV (128 :: List.replicate (j + 1) 0) := by rw [rep_succ]; simp [bytesV]
      rw [hl] at hown1
      clear hl
      go_wp2
      go_roundg (Sha.zeros n - (j + 1))
      case measure => omega
      case rel =>
        obtain ⟨g', cap', hv⟩ := hex
        exact ⟨j + 1, g', cap', by omega, hv, hown1, hb1⟩
    · obtain rfl : j = Sha.zeros n := by omega
      have hz := zeros_yes n
      have hz' : (((n : Int) + (1 + (Sha.zeros n : Int)) + 8) % 64 != 0) = false := by rw [bne_eq_false_iff_eq]; omega
      have zt : Sha.tail n = Sha.bytesOfL (128 :: (List.replicate (Sha.zeros n) 0 ++ len8 n 8)) := rfl
      have ZT := Lib.hid zt
      generalize Sha.zeros n = z at *
      clear zt hm hz
      go_wp2
      go_loopg [3, 17] 8 (fun m v i wr => ∃ (j g cap : Nat), m + j = 8 ∧ i = .int .i64 j ∧ v = .slice (some ⟨g, 0, none⟩) (1 + z + j) cap ∧ wr.ownsRow B 5 1 v (1 + z + j) (bytesV (128 :: (List.replicate z 0 ++ len8 n j))) ∧ Below B w wr)
      case atStart => exact ⟨0, g, cap, by omega, rfl, rfl, by simpa [len8] using hown, hb⟩
      case round =>
        clear hown hb hsz hBr
        rename_i wr0 _ _ _
        obtain ⟨j, g2, cap2, hm, rfl, hv, hown, hb⟩ := hrel
        subst hv
        have hsz := hb.size
        have hBr : B ≤ wr.heap.size := by have := HB.out; omega
        by_cases hlt : j < 8
        · go_wp2_with (at_builtin; refine wpList_append_own _ rfl _ _ 41 rfl B 5 i0 (.int .u8 0) 1 1 Tryd.underlying41 hi hz0 hz1 hz2 rfl (by decide) _ _ _ rfl (hown.alloc _) ⟨wr.heap.size, 0, none⟩ 1 1 [.int .u8 (8 * (n : Int) / 2 ^ (56 - 8 * j) % 256)] rfl rfl ?c1 ?c2 ?c3 ?c4 ?c5 ?_)
          case c1 => exact cell_one_new _ _ _
          case c2 => intro u hu; simp at hu; subst hu; rfl
          case c3 => unfold maxLen; omega
          case c4 => omega
          case c5 => simp; omega
          intro v' w1 hown1 hg1 _
          have hb1 : Below B w w1 := (hb.alloc hBr _).grown hg1 (by simp; omega) (fun k hk => (hown.lt k hk).1)
          have hex : ∃ g cap, v' = .slice (some ⟨g, 0, none⟩) (1 + z + (j + 1)) cap := by
            obtain ⟨g, cap, h1, _⟩ := hown1.form (by omega)
            exact ⟨g, cap, h1⟩
          have hl : bytesV (128 :: (List.replicate z 0 ++ len8 n j)) ++ [.int .u8 (8 * (n : Int) / 2 ^ (56 - 8 * j) % 256)] = bytesV (128 :: (List.replicate z 0 ++ len8 n (j + 1))) := by
            have e : (8 * (n : Int) / 2 ^ (56 - 8 * j) % 256) = ((8 * n / 2 ^ (56 - 8 * j) % 256 : Nat) : Int) := by rw [pow_nat]; norm_cast
            rw [len8_succ, e]; simp [bytesV]
          rw [hl] at hown1
          clear hl
          go_wp2
          go_roundg (8 - (j + 1))
          case measure => omega
          case rel =>
            obtain ⟨g', cap', hv⟩ := hex
            exact ⟨j + 1, g', cap', by omega, by go_num, hv, hown1, hb1⟩
        · obtain rfl : j = 8 := by omega
          have hcv := conv_own hown
          rw [← ZT.out] at hcv
          go_wp2
          go_ret
          exact ⟨rfl, by rw [HB.out]; exact hb⟩
end Go.Proofs.YtiilgkhndfnkgaaDoor
