/- What digest's Pad, and its reference's, return: the same; the condition is that a text is not too long. -/
import Derived.Test.YtiilgkhndfnkgaaDoorDgV
namespace Go.Proofs.YtiilgkhndfnkgaaDoor
open Go.RowKit
set_option linter.unusedVariables false

theorem shift_int (x : Nat) (k : Int) (w : World) (hx : x < 18446744073709551616) (h0 : 0 ≤ k) (hk : k ≤ 64) :
    Calls Tryd.prog 33 #[.int .u64 (x : Nat), .int .i64 k] w fun e w' => e = .returned (.int .u64 (x / 2 ^ k.toNat : Nat)) ∧ w = w' := by
  obtain ⟨n, rfl⟩ := Int.eq_ofNat_of_zero_le h0
  exact shift_any x n w hx (by omega)

theorem bytesOfL_app (a b : List Nat) : Sha.bytesOfL (a ++ b) = Sha.bytesOfL a ++ Sha.bytesOfL b := by
  apply ByteArray.ext; simp [Sha.bytesOfL]
def natsOf (s : ByteArray) : List Nat := s.data.toList.map (·.toNat)
theorem bytesOfL_nats (s : ByteArray) : Sha.bytesOfL (natsOf s) = s := by
  apply ByteArray.ext
  simp only [Sha.bytesOfL, natsOf, List.map_map]
  have : ((fun n => UInt8.ofNat n) ∘ fun (x : UInt8) => x.toNat) = id := by funext x; simp
  rw [this, List.map_id]
theorem natsOf_len (s : ByteArray) : (natsOf s).length = s.size := by simp [natsOf]
theorem pad_eq (s : ByteArray) : Sha.pad s = Sha.bytesOfL (natsOf s ++ (128 :: (List.replicate (Sha.zeros s.size) 0 ++ len8 s.size 8))) := by
  rw [bytesOfL_app, bytesOfL_nats]; rfl

theorem new_one (w : World) (E : TypeId) (u : Value) : (w.alloc (.cells #[u] E)).cell? ⟨w.heap.size, 0, none⟩ = some u := (M.RowAt.new w E #[u]).cell 0

theorem pad_any (s : ByteArray) (w : World) (hs : s.size ≤ 1000000000000) :
    Calls Tryd.prog 37 #[.string s] w fun e w' => e = .returned (.string (Sha.pad s)) ∧ Below w.heap.size w w' := by
  have ht := tail_any s.size w hs
  have hts := Sha.tail_size s.size
  have hz := zeros_lt s.size
  have hadd : s.size + (Sha.tail s.size).size ≤ 9223372036854775807 := by omega
  have hp : Sha.pad s = s ++ Sha.tail s.size := rfl
  rw [hp]
  generalize Sha.tail s.size = T at *
  have HT := Lib.hid ht
  clear ht hts hz hp
  go_enter Tryd.func37, Tryd.ntmps37
  go_wp2_with fail
  refine (HT.out).mono ?_
  rintro e w1 ⟨rfl, h1⟩
  go_wp2
  go_ret
  exact ⟨rfl, h1⟩

set_option maxRecDepth 100000 in
set_option maxHeartbeats 2000000 in
theorem rpad_any (s : ByteArray) (w : World) (hs : s.size ≤ 1000000000000) :
    Calls Tryd.prog 31 #[.string s] w fun e w' => e = .returned (.string (Sha.pad s)) ∧ Below w.heap.size w w' := by
  obtain ⟨i0, hi, hz0, hz1, hz2⟩ := info_parts info5
  obtain ⟨B, hB⟩ : ∃ B, w.heap.size = B := ⟨_, rfl⟩
  have hcs := fun W => Lib.run_convert_string_bytes (P := Tryd.prog) W 9 41 5 s Tryd.underlying9 Tryd.underlying41 Tryd.underlying5
  have o0 := MarkRow.ofBytes (w := w) (base := B) s (by omega) (by unfold maxLen; omega)
  have o1 : MarkRow (Lib.bytesWorld w 5 s) B 5 (.slice (some ⟨w.heap.size, 0, none⟩) s.size (grownCap w s.size 0 5)) s.size (bytesV (natsOf s)) := by
    have e : (s.data.toList.map fun b => Value.int .u8 b.toNat) = bytesV (natsOf s) := by simp [bytesV, natsOf]
    rw [← e]; exact o0
  have b1 : Below B w (Lib.bytesWorld w 5 s) := by
    refine ⟨rfl, rfl, rfl, by rw [Lib.bytesWorld_size]; omega, fun k hk => Lib.bytesWorld_at_old w 5 s k (by omega)⟩
  have hz1w : (Lib.bytesWorld w 5 s).heap.size = B + 1 := by rw [Lib.bytesWorld_size, hB]
  have HB := Lib.hid hB
  have zl := zeros_lt s.size
  have hp := pad_eq s
  rw [hp]
  clear hB o0 hp
  have nl := natsOf_len s
  go_enter Tryd.func31, Tryd.ntmps31
  go_wp2_with (at_builtin; refine wpList_append_mark _ rfl (.tmp 11) (.tmp 12) 41 rfl B 5 i0 (.int .u8 0) Tryd.underlying41 hi hz0 hz1 hz2 rfl _ (s.size) (bytesV (natsOf s)) rfl (o1.alloc _) ⟨B + 1, 0, none⟩ 1 .u8 (128) rfl ?c1 ?c2 ?c3 ?_)
  case c1 => rw [← hz1w]; exact new_one _ _ _
  case c2 => omega
  case c3 => simp; omega
  intro v1 w1 p1 g1
  have q1 : Below B w w1 := (b1.alloc (by omega) _).grown g1 (by simp; omega) (fun k hk => (o1.lt k hk).1)
  have hex : ∃ g cap, v1 = .slice (some ⟨g, 0, none⟩) (s.size + 1 + 0) cap := p1.form
  have e1 : bytesV (natsOf s) ++ [.int .u8 128] = bytesV (natsOf s ++ 128 :: List.replicate 0 0) := by simp [bytesV]
  rw [e1] at p1
  clear e1 hcs o1 b1 hz1w g1
  obtain ⟨z, hz⟩ : ∃ z, Sha.zeros s.size = z := ⟨_, rfl⟩
  have HZ := Lib.hid hz
  rw [hz] at zl
  clear hz
  go_wp2
  go_loopg [4] z (fun m v wr => ∃ (j g cap : Nat), m + j = z ∧ v = .slice (some ⟨g, 0, none⟩) (s.size + 1 + j) cap ∧ MarkRow wr B 5 v (s.size + 1 + j) (bytesV (natsOf s ++ 128 :: List.replicate j 0)) ∧ Below B w wr)
  case atStart =>
    obtain ⟨g, cap, hv⟩ := hex
    exact ⟨0, g, cap, by omega, hv, p1, q1⟩
  case round =>
    clear p1 q1 hex
    obtain ⟨j, g, cap, hm, hv, hown, hb⟩ := hrel
    subst hv
    have hsz := hb.size
    have hBr : B ≤ wr.heap.size := by have := HB.out; omega
    by_cases hlt : j < z
    · have hne : (((s.size : Int) + 1 + (j : Int)) % 64 != 56) = true := by
        have := HZ.out
        unfold Sha.zeros at this
        rw [bne_iff_ne]; omega
      go_wp2_with (at_builtin; refine wpList_append_mark _ rfl (.tmp 18) (.tmp 19) 41 rfl B 5 i0 (.int .u8 0) Tryd.underlying41 hi hz0 hz1 hz2 rfl _ (s.size + 1 + j) (bytesV (natsOf s ++ 128 :: List.replicate j 0)) rfl (hown.alloc _) ⟨wr.heap.size, 0, none⟩ 1 .u8 (0) rfl ?c1 ?c2 ?c3 ?_)
      case c1 => exact new_one _ _ _
      case c2 => omega
      case c3 => simp; omega
      intro v' w1 hown1 hg1
      have hb1 : Below B w w1 := (hb.alloc hBr _).grown hg1 (by simp; omega) (fun k hk => (hown.lt k hk).1)
      have hl : bytesV (natsOf s ++ 128 :: List.replicate j 0) ++ [.int .u8 0] = bytesV (natsOf s ++ 128 :: List.replicate (j + 1) 0) := by rw [rep_succ]; simp [bytesV]
      rw [hl] at hown1
      clear hl
      go_wp2
      go_roundg (z - (j + 1))
      case measure => omega
      case rel =>
        obtain ⟨g', cap', hv⟩ := hown1.form
        exact ⟨j + 1, g', cap', by omega, hv, hown1, hb1⟩
    · obtain rfl : j = z := by omega
      have hne : (((s.size : Int) + 1 + (j : Int)) % 64 != 56) = false := by
        have := HZ.out
        unfold Sha.zeros at this
        rw [bne_eq_false_iff_eq]; omega
      go_wp2
      go_loopg [4, 5] 8 (fun m v i wr => ∃ (k g cap : Nat) (I : Int), m + k = 8 ∧ Hid (I = 7 - k) ∧ -1 ≤ I ∧ I ≤ 7 ∧ i = .int .i64 I ∧ v = .slice (some ⟨g, 0, none⟩) (s.size + 1 + j + k) cap ∧ MarkRow wr B 5 v (s.size + 1 + j + k) (bytesV (natsOf s ++ 128 :: (List.replicate j 0 ++ len8 s.size k))) ∧ Below B w wr)
      case atStart => exact ⟨0, g, cap, 7, by omega, by unfold Hid; omega, by omega, by omega, rfl, rfl, by simpa [len8] using hown, hb⟩
      case round =>
        clear hown hb hsz hBr hne hm
        obtain ⟨k, g2, cap2, I, hm, hI, i0', i7, rfl, hv, hown, hb⟩ := hrel
        subst hv
        have hsz := hb.size
        have hBr : B ≤ wr.heap.size := by have := HB.out; omega
        by_cases hlt : 0 ≤ I
        · have sh := shift_int (s.size * 8) (8 * I) wr (by omega) (by omega) (by omega)
          rw [Int.natCast_mul] at sh
          have SH := Lib.hid sh
          clear sh
          go_wp2_with fail
          refine (SH.out).mono ?_
          rintro e w2 ⟨rfl, rfl⟩
          have ev : ((s.size * 8 / 2 ^ (8 * I).toNat : Nat) : Int) % 256 = ((8 * s.size / 2 ^ (56 - 8 * k) % 256 : Nat) : Int) := by
            have : (8 * I).toNat = 56 - 8 * k := by have := hI; unfold Hid at this; omega
            rw [this, Nat.mul_comm s.size 8]; norm_cast
          have hle : s.size * 8 / 2 ^ (8 * I).toNat < 18446744073709551616 := Nat.lt_of_le_of_lt (Nat.div_le_self _ _) (by omega)
          have EV := Lib.hid ev
          clear ev
          generalize s.size * 8 / 2 ^ (8 * I).toNat = y at *
          go_wp2_with (at_builtin; refine wpList_append_mark _ rfl (.tmp 25) (.tmp 32) 41 rfl B 5 i0 (.int .u8 0) Tryd.underlying41 hi hz0 hz1 hz2 rfl _ (s.size + 1 + j + k) (bytesV (natsOf s ++ 128 :: (List.replicate j 0 ++ len8 s.size k))) rfl (hown.alloc _) ⟨wr.heap.size, 0, none⟩ 1 .u8 ((y : Int) % 256) rfl ?c1 ?c2 ?c3 ?_)
          case c1 => exact new_one _ _ _
          case c2 => omega
          case c3 => simp; omega
          intro v' w1 hown1 hg1
          have hb1 : Below B w w1 := (hb.alloc hBr _).grown hg1 (by simp; omega) (fun k hk => (hown.lt k hk).1)
          have hl : bytesV (natsOf s ++ 128 :: (List.replicate j 0 ++ len8 s.size k)) ++ [.int .u8 ((y : Int) % 256)] = bytesV (natsOf s ++ 128 :: (List.replicate j 0 ++ len8 s.size (k + 1))) := by
            rw [len8_succ, EV.out]; simp [bytesV]
          rw [hl] at hown1
          clear hl
          go_wp2
          have hI' : I = 7 - (k : Int) := hI
          go_roundg (8 - (k + 1))
          case measure => omega
          case rel =>
            obtain ⟨g', cap', hv⟩ := hown1.form
            exact ⟨k + 1, g', cap', I - 1, by omega, by unfold Hid at *; omega, by omega, by omega, rfl, hv, hown1, hb1⟩
        · obtain rfl : I = -1 := by omega
          obtain rfl : k = 8 := by unfold Hid at hI; omega
          have hcv := conv_mark hown
          clear hI
          go_wp2
          go_ret
          exact ⟨by rw [HZ.out]; rfl, by rw [HB.out]; exact hb⟩
end Go.Proofs.YtiilgkhndfnkgaaDoor
