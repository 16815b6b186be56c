/- The walk of DigestPads; the condition is that the tables are laid. -/
import Derived.Test.YtpfcalamchdciaaDoorDgX
namespace Go.Proofs.YtpfcalamchdciaaDoor
open Go.RowKit
set_option linter.unusedVariables false

theorem pad_byte (s : ByteArray) (i : Nat) (h : s.size + i < (Sha.pad s).size) : (Sha.pad s)[s.size + i].toNat = (Sha.tailL s.size).getD i 0 % 256 := by
  have hi : i < (Sha.tailL s.size).length := by rw [Sha.tailL_len]; rw [Sha.pad_size] at h; omega
  show ((s ++ Sha.tail s.size).data[s.size + i]'_).toNat = _
  have e : (s ++ Sha.tail s.size).data = s.data ++ (Sha.tail s.size).data := ByteArray.data_append
  have h2 : ∀ (D : Array UInt8) (hD : D = s.data ++ (Sha.tail s.size).data) (hx : s.size + i < D.size), (D[s.size + i]'hx).toNat = (Sha.tailL s.size).getD i 0 % 256 := by
    intro D hD hx
    subst hD
    rw [Array.getElem_append_right (by show s.data.size ≤ _; exact Nat.le_add_right _ _)]
    simp [ByteArray.size_data, Nat.add_sub_cancel_left, Sha.tail, Sha.bytesOfL, List.getD_eq_getElem?_getD, List.getElem?_eq_getElem hi]
  exact h2 _ e _
theorem pad_first (s : ByteArray) (h : s.size < (Sha.pad s).size) : (Sha.pad s)[s.size].toNat = 128 := by
  have := pad_byte s 0 h
  simpa [Sha.tailL] using this
theorem pad_last (s : ByteArray) (h : (Sha.pad s).size - 1 < (Sha.pad s).size) : (Sha.pad s)[(Sha.pad s).size - 1].toNat = 8 * s.size % 256 := by
  have e : (Sha.pad s).size - 1 = s.size + (8 + Sha.zeros s.size) := by rw [Sha.pad_size]; omega
  have h' := h
  have := pad_byte s (8 + Sha.zeros s.size) (e ▸ h)
  have e2 : (Sha.tailL s.size).getD (8 + Sha.zeros s.size) 0 = 8 * s.size % 256 := by
    have h8 : 8 + Sha.zeros s.size = (Sha.zeros s.size + 7) + 1 := by omega
    rw [h8]
    simp only [Sha.tailL, List.getD_eq_getElem?_getD, List.getElem?_cons_succ]
    rw [List.getElem?_append_right (by simp)]
    simp
  rw [e2, Nat.mod_mod] at this
  simpa only [e] using this
theorem pad_head (s : ByteArray) : (Sha.pad s).extract 0 s.size = s := by
  apply ByteArray.ext
  rw [Sha.pad, ByteArray.data_extract, ByteArray.data_append]
  show (s.data ++ _).extract 0 s.data.size = s.data
  simp [Array.extract_append]

set_option maxRecDepth 100000 in
set_option maxHeartbeats 2000000 in
theorem pads_walk (s : ByteArray) (w : World) (ht : Tabs w) :
    Calls Tryd.prog 6 #[.string s] w (Fine w) := by
  obtain ⟨n, hn⟩ : ∃ n, w.heap.size = n := ⟨_, rfl⟩
  have HN := Lib.hid hn
  have h1n : 1 < n := hn ▸ ht.lt
  have tb := fun v (hb : Below n w v) => ht.below hb h1n
  have sh := fun v (hb : Below n w v) => shown_any v (tb v hb)
  have b0 : Below n w w := Below.refl _ _
  have nx : ∀ v v', Below n w v → Below v.heap.size v v' → Below n w v' := fun v v' h g => h.trans (g.mono (by rw [← hn]; exact h.size))
  have NX := Lib.hid nx
  have SH := Lib.hid sh
  by_cases hlong : 600 < s.size
  · have hd : decide ((600 : Int) < s.size) = true := by simp; omega
    have hd' : (600 : Int) < s.size := by omega
    clear tb sh ht hlong h1n hn nx
    go_enter Tryd.func6, Tryd.ntmps6
    go_wp2_with fail
    refine (SH.out _ b0).mono ?_
    rintro e w' ⟨rfl, gq⟩
    have b1 := NX.out _ _ b0 gq
    go_wp2
    go_ret
    exact ⟨rfl, by rw [HN.out]; exact b1⟩
  · have hd : decide ((600 : Int) < s.size) = false := by simp; omega
    have hd' : ¬ (600 : Int) < s.size := by omega
    have c3 := fun v => pad_any s v (by omega)
    have p0 := Sha.pad_size s
    have p1 := Sha.pad_whole s
    have p2 := pad_head s
    have p3 := pad_first s
    have p4 := pad_last s
    have hz := zeros_lt s.size
    generalize Sha.pad s = X at *
    obtain ⟨m, hm⟩ : ∃ m, X.size - 1 = m := ⟨_, rfl⟩
    have e1 : (X.size : Int) % 64 = 0 := by omega
    have e1' : (X.size : Int).tmod 64 = 0 := by rw [Int.tmod_eq_emod_of_nonneg (by omega)]; exact e1
    have e2 : IntKind.i64.wrap ((s.size : Int) + 9) = (s.size : Int) + 9 := IntWalk.i64_in _ (by omega)
    have e3 : IntKind.i64.wrap ((s.size : Int) + 9 + 64) = (s.size : Int) + 9 + 64 := IntWalk.i64_in _ (by omega)
    have e4 : (s.size : Int) + 9 ≤ X.size := by omega
    have e5 : (X.size : Int) < (s.size : Int) + 9 + 64 := by omega
    have e6 : IntKind.i64.wrap ((X.size : Int) - 1) = (m : Int) := by rw [IntWalk.i64_in _ (by omega)]; omega
    have e7 : (m : Int) < X.size := by omega
    have e7' : m < X.size := by omega
    have e8 : (0 : Int) ≤ m := by omega
    have e9 : IntKind.i64.wrap ((s.size : Int) * 8) = (s.size : Int) * 8 := IntWalk.i64_in _ (by omega)
    have ea : (s.size : Int) < X.size := by omega
    have ea' : s.size < X.size := by omega
    have eb : s.size ≤ X.size := by omega
    have ec : (s.size : Int) ≤ X.size := by omega
    have p3 := p3 ea'
    have p4 : X[m].toNat = 8 * s.size % 256 := by subst hm; exact p4 e7'
    have ed : IntKind.u8.wrap ((s.size : Int) * 8) = ((X[m].toNat : Nat) : Int) := by rw [p4, IntKind.wrap_u8]; omega
    have ed' : ((s.size : Int) * 8) % 256 = ((X[m].toNat : Nat) : Int) := by rw [p4]; omega
    clear p4 hm p0 p1 hz
    have C3 := Lib.hid c3
    clear tb sh ht hlong h1n hn nx c3
    go_enter Tryd.func6, Tryd.ntmps6
    go_wp2_with fail
    refine (SH.out _ b0).mono ?_
    rintro e w1 ⟨rfl, gq⟩
    have b1 := NX.out _ _ b0 gq
    clear gq b0
    go_wp2_with fail
    refine (C3.out _).mono ?_
    rintro e w4 ⟨rfl, gq⟩
    have b4 := NX.out _ _ b1 gq
    clear gq b1
    go_wp2
    go_ret
    exact ⟨rfl, by rw [HN.out]; exact b4⟩

theorem walk_DigestPads (a0 : ByteArray) (_w0 : a0.size ≤ maxLen) {W : World} (hL : laidMetH Tryd.prog Rows.digestPadsRow.laid W) :
    Calls Tryd.prog 6 #[.string a0] W (Fine W) :=
  pads_walk a0 W (tabs_of hL (by simp [Rows.digestPadsRow]) (by simp [Rows.digestPadsRow]))
end Go.Proofs.YtpfcalamchdciaaDoor
