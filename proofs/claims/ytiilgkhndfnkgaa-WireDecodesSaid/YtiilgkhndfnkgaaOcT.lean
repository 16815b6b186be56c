/- What octet's reader's Text returns and leaves; the condition is that the reader's cell is known. -/
import Derived.Test.YtiilgkhndfnkgaaOcS
namespace Go.Proofs.Ytiilgkhndfnkgaa
open Go.RowKit
set_option linter.unusedVariables false

theorem RD.call {n : Nat} {w0 : World} {r : Addr} {s cur c : ByteArray} {ev : Int} {W W' : World} (h : RD n w0 r s cur ev W) (hb : Below W.heap.size (W.setCell r (.string c)) W') : RD n w0 r s c ev W' := by
  have h' := h.setR c
  have hr := h.rlt
  have hn : n + 1 + 1 + 1 < W.heap.size := World.block_lt_of_cell? W _ h.b2
  exact ⟨hr, by rw [hb.cell (by show n < _; omega)]; exact h'.e, by rw [hb.frozen (by show n < _; omega)]; exact h'.ef,
    by rw [hb.cell (by show n + 1 + 1 < _; omega)]; exact h'.b1, by rw [hb.cell (by show n + 1 + 1 + 1 < _; omega)]; exact h'.b2, by rw [hb.cell (by show n + 1 < _; omega)]; exact h'.b3,
    h'.atc.below hb (by omega), h'.below.trans (hb.mono (by omega))⟩

theorem extract_front (s : ByteArray) (k : Nat) : (s.extract 1 s.size).extract 0 k = s.extract 1 (1 + k) := by
  apply ByteArray.ext; simp
  apply Array.ext'; simp [List.drop_take, List.take_drop]
  omega
theorem extract_back (s : ByteArray) (k : Nat) : (s.extract 1 s.size).extract k (s.extract 1 s.size).size = s.extract (1 + k) s.size := by
  apply ByteArray.ext; simp
  apply Array.ext'; simp
  omega
theorem extract_all (s : ByteArray) : s.extract 0 s.size = s := by
  apply ByteArray.ext; simp

/-- the length that a text's first byte tells -/
def txL (s : ByteArray) : Nat := (val (s.data.toList.take 1)).toNat
def rtT (s : ByteArray) : ByteArray := if s.size = 0 ∨ 64 < txL s ∨ s.size < 1 + txL s then ByteArray.empty else s.extract 1 (1 + txL s)
def rtE (s : ByteArray) : Int := if s.size = 0 then 10 else if 64 < txL s then 12 else if s.size < 1 + txL s then 10 else 0
def rtS (s : ByteArray) : ByteArray := if s.size = 0 ∨ 64 < txL s ∨ s.size < 1 + txL s then s else s.extract (1 + txL s) s.size
theorem rtT_bad {s : ByteArray} (h : s.size = 0 ∨ 64 < txL s ∨ s.size < 1 + txL s) : rtT s = ByteArray.empty := if_pos h
theorem rtS_bad {s : ByteArray} (h : s.size = 0 ∨ 64 < txL s ∨ s.size < 1 + txL s) : rtS s = s := if_pos h
theorem rtT_good {s : ByteArray} (h : ¬ (s.size = 0 ∨ 64 < txL s ∨ s.size < 1 + txL s)) : rtT s = s.extract 1 (1 + txL s) := if_neg h
theorem rtS_good {s : ByteArray} (h : ¬ (s.size = 0 ∨ 64 < txL s ∨ s.size < 1 + txL s)) : rtS s = s.extract (1 + txL s) s.size := if_neg h
theorem txL_lt (s : ByteArray) : txL s < 256 := by
  have h := val_lt (s.data.toList.take 1)
  have h0 := val_nonneg (s.data.toList.take 1)
  have hl : (s.data.toList.take 1).length ≤ 1 := by simp; omega
  have : (256 : Int) ^ (s.data.toList.take 1).length ≤ 256 := by
    rcases Nat.le_one_iff_eq_zero_or_eq_one.1 hl with e | e <;> rw [e] <;> decide
  unfold txL; omega

set_option maxRecDepth 100000 in
set_option maxHeartbeats 1000000 in
theorem rdtext_any (r : Addr) (s : ByteArray) (w : World) (h : At w r s) (hs : s.size ≤ 4611686018427387904) :
    Calls Try.prog 23 #[.pointer (some r)] w fun e w' => e = .returned (.tuple #[.string (rtT s), .int .i64 (rtE s)]) ∧ Below w.heap.size (w.setCell r (.string (rtS s))) w' := by
  have HB := Lib.hid (back_rd r s w h)
  have hN := fun w' h' => rdnum_any r s 1 w' h' hs
  by_cases hz : s.size = 0
  · have e1 : rdN s 1 = 0 := if_pos (by omega)
    have e2 : rdE s 1 = 10 := by unfold rdE; rw [if_neg (by omega), if_pos (by omega)]
    have e3 : rdS s 1 = s := if_pos (by omega)
    have e4 : rtE s = 10 := if_pos hz
    rw [e1, e2, e3] at hN
    rw [e4, rtT_bad (Or.inl hz), rtS_bad (Or.inl hz)]
    have HN := Lib.hid hN
    clear e1 e2 e3 e4 hz hs hN
    generalize hn : w.heap.size = n at *
    go_enter_defers Try.func23, Try.ntmps23
    go_wp2_with fail
    refine (HB.out).mono ?_
    rintro e w1 ⟨rfl, h1⟩
    go_wp2_with fail
    refine (HN.out w1 h1.atc).mono ?_
    rintro e w2 ⟨rfl, h2⟩
    have h3 := h1.call h2
    have c1 := h3.e
    have c2 := h3.ef
    have h4 := h3.setE 10
    have c3 := h4.e
    have c4 := h4.ef
    go_wp2
    go_region
    go_wp2
    have h5 := (h4.setE 10).drew
    generalize ((w2.setCell ⟨n, 0, none⟩ (.int .i64 10)).setCell ⟨n, 0, none⟩ (.int .i64 10)).drew = w3 at *
    refine leaves_cons (f := 56) (args := #[.pointer (some ⟨n + 1 + 1, 0, none⟩), .pointer (some ⟨n + 1 + 1 + 1, 0, none⟩), .pointer (some ⟨n + 1, 0, none⟩)]) (by simp) (by simp [go_sem]) ?_
    refine (back1_rd1 .returning h5 (by decide)).mono ?_
    rintro e u' w4 ⟨rfl, rfl, h6⟩
    have c5 := h6.e
    simp [Leaves, settle, results, Try.results23, go_sem, c5]
    exact ⟨rfl, h6.below⟩
  · have hL := txL_lt s
    have hv : val (s.data.toList.take 1) = (txL s : Int) := by have := val_nonneg (s.data.toList.take 1); unfold txL; omega
    have e1 : rdN s 1 = (txL s : Int) := by unfold rdN; rw [if_neg (by omega)]; exact hv
    have e2 : rdE s 1 = 0 := by unfold rdE; rw [if_neg (by omega), if_neg (by omega)]
    have e3 : rdS s 1 = s.extract 1 s.size := if_neg (by omega)
    have hsz : (s.extract 1 s.size).size = s.size - 1 := by simp
    have hfr := extract_front s (txL s)
    have hbk := extract_back s (txL s)
    rw [e1, e2, e3] at hN
    clear e1 e2 e3 hv
    by_cases hw : 64 < txL s
    · have e4 : rtE s = 12 := by unfold rtE; rw [if_neg hz, if_pos hw]
      rw [e4, rtT_bad (by omega), rtS_bad (by omega)]
      have HN := Lib.hid hN
      clear hN e4 hfr hbk
      generalize s.extract 1 s.size = T at *
      generalize txL s = L at *
      generalize hn : w.heap.size = n at *
      go_enter_defers Try.func23, Try.ntmps23
      go_wp2_with fail
      refine (HB.out).mono ?_
      rintro e w1 ⟨rfl, h1⟩
      go_wp2_with fail
      refine (HN.out w1 h1.atc).mono ?_
      rintro e w2 ⟨rfl, h2⟩
      have h3 := h1.call h2
      have c1 := h3.e
      have c2 := h3.ef
      have h4 := h3.setE 0
      have c3 := h4.e
      have c4 := h4.ef
      have h5 := h4.setE 12
      go_wp2
      generalize (w2.setCell ⟨n, 0, none⟩ (.int .i64 0)).setCell ⟨n, 0, none⟩ (.int .i64 12) = w3 at *
      refine leaves_cons (f := 56) (args := #[.pointer (some ⟨n + 1 + 1, 0, none⟩), .pointer (some ⟨n + 1 + 1 + 1, 0, none⟩), .pointer (some ⟨n + 1, 0, none⟩)]) (by simp) (by simp [go_sem]) ?_
      refine (back1_rd1 .returning h5 (by decide)).mono ?_
      rintro e u' w4 ⟨rfl, rfl, h6⟩
      have c5 := h6.e
      simp [Leaves, settle, results, Try.results23, go_sem, c5]
      exact ⟨rfl, h6.below⟩
    · by_cases hk : s.size < 1 + txL s
      · have e4 : rtE s = 10 := by unfold rtE; rw [if_neg hz, if_neg hw, if_pos hk]
        rw [e4, rtT_bad (by omega), rtS_bad (by omega)]
        have hT := fun w' h' => take_short r (s.extract 1 s.size) (txL s) w' h' (by omega) (by omega) (by omega)
        have HN := Lib.hid hN; have HT := Lib.hid hT
        clear hN e4 hfr hbk hT
        generalize s.extract 1 s.size = T at *
        generalize txL s = L at *
        generalize hn : w.heap.size = n at *
        go_enter_defers Try.func23, Try.ntmps23
        go_wp2_with fail
        refine (HB.out).mono ?_
        rintro e w1 ⟨rfl, h1⟩
        go_wp2_with fail
        refine (HN.out w1 h1.atc).mono ?_
        rintro e w2 ⟨rfl, h2⟩
        have h3 := h1.call h2
        have c1 := h3.e
        have c2 := h3.ef
        have h4 := h3.setE 0
        have c3 := h4.e
        have c4 := h4.ef
        have h5 := h4.setE 10
        go_wp2_with fail
        refine (HT.out _ h4.atc).mono ?_
        rintro e w3 ⟨rfl, rfl⟩
        go_wp2
        generalize (w2.setCell ⟨n, 0, none⟩ (.int .i64 0)).setCell ⟨n, 0, none⟩ (.int .i64 10) = w3 at *
        refine leaves_cons (f := 56) (args := #[.pointer (some ⟨n + 1 + 1, 0, none⟩), .pointer (some ⟨n + 1 + 1 + 1, 0, none⟩), .pointer (some ⟨n + 1, 0, none⟩)]) (by simp) (by simp [go_sem]) ?_
        refine (back1_rd1 .returning h5 (by decide)).mono ?_
        rintro e u' w4 ⟨rfl, rfl, h6⟩
        have c5 := h6.e
        simp [Leaves, settle, results, Try.results23, go_sem, c5]
        exact h6.below
      · have e4 : rtE s = 0 := by unfold rtE; rw [if_neg hz, if_neg hw, if_neg hk]
        rw [e4, rtT_good (by omega), rtS_good (by omega)]
        have hT := fun w' h' => take_ok r (s.extract 1 s.size) (txL s) w' h' (by omega) (by omega)
        rw [hfr, hbk] at hT
        have HN := Lib.hid hN; have HT := Lib.hid hT
        clear hN e4 hfr hbk hT hsz hz hs
        generalize s.extract 1 s.size = T at *
        generalize s.extract (1 + txL s) s.size = R at *
        generalize s.extract 1 (1 + txL s) = X at *
        generalize txL s = L at *
        generalize hn : w.heap.size = n at *
        go_enter_defers Try.func23, Try.ntmps23
        go_wp2_with fail
        refine (HB.out).mono ?_
        rintro e w1 ⟨rfl, h1⟩
        go_wp2_with fail
        refine (HN.out w1 h1.atc).mono ?_
        rintro e w2 ⟨rfl, h2⟩
        have h3 := h1.call h2
        have c1 := h3.e
        have c2 := h3.ef
        have h4 := h3.setE 0
        have c3 := h4.e
        have c4 := h4.ef
        go_wp2_with fail
        refine (HT.out _ h4.atc).mono ?_
        rintro e w3 ⟨rfl, rfl⟩
        have h4' := h4.setR R
        have c5 := h4'.e
        have c6 := h4'.ef
        have h5 := h4'.setE 0
        go_wp2
        generalize ((w2.setCell ⟨n, 0, none⟩ (.int .i64 0)).setCell r (.string R)).setCell ⟨n, 0, none⟩ (.int .i64 0) = w3 at *
        refine leaves_cons (f := 56) (args := #[.pointer (some ⟨n + 1 + 1, 0, none⟩), .pointer (some ⟨n + 1 + 1 + 1, 0, none⟩), .pointer (some ⟨n + 1, 0, none⟩)]) (by simp) (by simp [go_sem]) ?_
        refine (back1_rd0 .returning h5).mono ?_
        rintro e u' w4 ⟨rfl, rfl, h6⟩
        have c7 := h6.e
        simp [Leaves, settle, results, Try.results23, go_sem, c7]
        exact h6.below
end Go.Proofs.Ytiilgkhndfnkgaa
