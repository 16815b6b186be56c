/- What the reference's reader returns and leaves: the same as octet's; the condition is that the reader's cell is known. -/
import Derived.Test.YtiilgkhndfnkgaaOcWr
import Derived.Test.YtiilgkhndfnkgaaMem
namespace Go.Proofs.Ytiilgkhndfnkgaa
open Go.RowKit
set_option linter.unusedVariables false

theorem xleft_any (r : Addr) (s : ByteArray) (w : World) (h : At w r s) : Calls Try.prog 30 #[.pointer (some r)] w fun e w' => e = .returned (.int .i64 s.size) ∧ w = w' := by
  have hc := h.cell
  clear h
  go_enter Try.func30, Try.ntmps30
  go_wp2
  go_ret
  exact ⟨rfl, rfl⟩

theorem xend_any (r : Addr) (s : ByteArray) (w : World) (h : At w r s) : Calls Try.prog 32 #[.pointer (some r)] w fun e w' => e = .returned (.int .i64 (if s.size = 0 then 0 else 11)) ∧ w = w' := by
  have hc := h.cell
  clear h
  by_cases h0 : s.size = 0
  · rw [if_pos h0]
    have h1 : ¬ 0 < s.size := by omega
    go_enter Try.func32, Try.ntmps32
    go_wp2
    go_ret
    exact ⟨rfl, rfl⟩
  · rw [if_neg h0]
    have h1 : 0 < s.size := by omega
    go_enter Try.func32, Try.ntmps32
    go_wp2
    go_ret
    exact ⟨rfl, rfl⟩

set_option maxRecDepth 100000 in
set_option maxHeartbeats 1000000 in
theorem xnum_ok (r : Addr) (s : ByteArray) (k0 : Nat) (w : World) (h : At w r s) (hs : s.size ≤ 4611686018427387904) (h1 : 1 ≤ k0) (h8 : k0 ≤ 8) (hw : k0 ≤ s.size) :
    Calls Try.prog 26 #[.pointer (some r), .int .i64 k0] w fun e w' => e = .returned (.tuple #[.int .u64 (val (s.data.toList.take k0)), .int .i64 0]) ∧ w.setCell r (.string (s.extract k0 s.size)) = w' := by
  have hc := h.cell
  have hf := h.open'
  clear h
  go_enter Try.func26, Try.ntmps26
  go_wp2
  go_loop [6, 7] (fun x i => ∃ k : Nat, k ≤ k0 ∧ i = .int .i64 k ∧ x = .int .u64 (val (s.data.toList.take k))) (fun _ i => k0 - (intOf i).toNat)
  case atStart => exact ⟨0, by omega, rfl, rfl⟩
  case round =>
    obtain ⟨k, hk, rfl, rfl⟩ := hrel
    by_cases hlt : k < k0
    · have hv0 := val_nonneg (s.data.toList.take k)
      have hv1 := val_le (s.data.toList.take k) (by simp; omega)
      have hlt2 : k < s.size := by omega
      have hsn := val_snoc (s.data.toList.take k) s[k]
      rw [← take_snoc s k hlt2] at hsn
      have hb := s[k].toNat_lt
      have HS := Lib.hid hsn; clear hsn
      generalize val (s.data.toList.take k) = x at *
      go_wp2
      go_round
      case rel => exact ⟨k + 1, by omega, by go_num, by rw [HS.out]⟩
      case measure => simp [intOf]; omega
    · obtain rfl : k = k0 := by omega
      go_wp2
      go_ret2
      exact ⟨rfl, rfl⟩

theorem xnum_any (r : Addr) (s : ByteArray) (wd : Int) (w : World) (h : At w r s) (hs : s.size ≤ 4611686018427387904) :
    Calls Try.prog 26 #[.pointer (some r), .int .i64 wd] w fun e w' => e = .returned (.tuple #[.int .u64 (rdN s wd), .int .i64 (rdE s wd)]) ∧ w.setCell r (.string (rdS s wd)) = w' := by
  unfold rdN rdE rdS
  by_cases h1 : wd < 1 ∨ 8 < wd
  · have h2 : wd < 1 ∨ 8 < wd ∨ (s.size : Int) < wd := by omega
    rw [if_pos h1, if_pos h2, if_pos h2, setCell_same h.cell]
    clear h2 h
    rcases h1 with h1 | h1
    all_goals
      go_enter Try.func26, Try.ntmps26
      go_wp2
      go_ret2
      exact ⟨rfl, rfl⟩
  · by_cases h3 : (s.size : Int) < wd
    · have h2 : wd < 1 ∨ 8 < wd ∨ (s.size : Int) < wd := by omega
      rw [if_neg h1, if_pos h2, if_pos h2, if_pos h3, setCell_same h.cell]
      have hc := h.cell
      have h4 : 1 ≤ wd := by omega
      have h5 : wd ≤ 8 := by omega
      clear h2 h h1
      go_enter Try.func26, Try.ntmps26
      go_wp2
      go_ret2
      exact ⟨rfl, rfl⟩
    · have h2 : ¬ (wd < 1 ∨ 8 < wd ∨ (s.size : Int) < wd) := by omega
      rw [if_neg h1, if_neg h2, if_neg h2, if_neg h3]
      obtain ⟨k, rfl⟩ := Int.eq_ofNat_of_zero_le (a := wd) (by omega)
      rw [Int.toNat_natCast]
      exact xnum_ok r s k w h hs (by omega) (by omega) (by omega)

theorem val_one (s : ByteArray) (h : 0 < s.size) : val (s.data.toList.take 1) = (s[0].toNat : Int) := by
  have := take_snoc s 0 h
  rw [this]; simp [val]

set_option maxHeartbeats 1000000 in
theorem xtext_any (r : Addr) (s : ByteArray) (w : World) (h : At w r s) (hs : s.size ≤ 4611686018427387904) :
    Calls Try.prog 29 #[.pointer (some r)] w fun e w' => e = .returned (.tuple #[.string (rtT s), .int .i64 (rtE s)]) ∧ w.setCell r (.string (rtS s)) = w' := by
  by_cases h0 : s.size = 0
  · rw [rtT_bad (.inl h0), rtS_bad (.inl h0), setCell_same h.cell, show rtE s = 10 from if_pos h0]
    have hc := h.cell
    clear h
    go_enter Try.func29, Try.ntmps29
    go_wp2
    go_ret2
    exact ⟨rfl, rfl⟩
  · have hpos : 0 < s.size := by omega
    have hx : (s[0].toNat : Int) = txL s := by unfold txL; rw [val_one s hpos]; omega
    have hx2 : s[0].toNat < 256 := s[0].toNat_lt
    by_cases h1 : 64 < txL s
    · rw [rtT_bad (.inr (.inl h1)), rtS_bad (.inr (.inl h1)), setCell_same h.cell, show rtE s = 12 by unfold rtE; rw [if_neg h0, if_pos h1]]
      have hc := h.cell
      have h2 : 64 < s[0].toNat := by omega
      clear h hx h1
      go_enter Try.func29, Try.ntmps29
      go_wp2
      go_ret2
      exact ⟨rfl, rfl⟩
    · by_cases h2 : s.size < 1 + txL s
      · rw [rtT_bad (.inr (.inr h2)), rtS_bad (.inr (.inr h2)), setCell_same h.cell, show rtE s = 10 by unfold rtE; rw [if_neg h0, if_neg h1, if_pos h2]]
        have hc := h.cell
        have h3 : ¬ 64 < s[0].toNat := by omega
        have h4 : s.size < 1 + s[0].toNat := by omega
        clear h hx h1 h2
        go_enter Try.func29, Try.ntmps29
        go_wp2
        go_ret2
        exact ⟨rfl, rfl⟩
      · have hg : ¬ (s.size = 0 ∨ 64 < txL s ∨ s.size < 1 + txL s) := by omega
        rw [rtT_good hg, rtS_good hg, show rtE s = 0 by unfold rtE; rw [if_neg h0, if_neg h1, if_neg h2], show txL s = s[0].toNat by omega]
        have hc := h.cell
        have hf := h.open'
        have h3 : ¬ 64 < s[0].toNat := by omega
        have h4 : ¬ s.size < 1 + s[0].toNat := by omega
        clear h hx h1 h2 hg
        go_enter Try.func29, Try.ntmps29
        go_wp2
        go_ret2
        exact ⟨rfl, rfl⟩
end Go.Proofs.Ytiilgkhndfnkgaa
