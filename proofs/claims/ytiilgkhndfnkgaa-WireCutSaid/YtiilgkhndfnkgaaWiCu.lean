/- Bytes that are cut off are too short, bytes with more behind them too long: the walk of WireCut; no conditions. -/
import Derived.Test.YtiilgkhndfnkgaaWiZ
namespace Go.Proofs.Ytiilgkhndfnkgaa
open Go.RowKit Go.Shelf
set_option linter.unusedVariables false

def wid : Fld → Nat
  | .chan => 4
  | .id => 8
  | .amount => 8
  | .hash => 32
  | .expiry => 4
  | .number => 2
def wids (fl : List Fld) : Nat := fl.foldr (fun f t => wid f + t) 0
theorem rdS_wid {s : ByteArray} {wd : Nat} (h1 : 1 ≤ wd) (h8 : wd ≤ 8) (h : rdE s (wd : Int) = 0) : s.size = wd + (rdS s (wd : Int)).size := by
  unfold rdE at h
  unfold rdS
  rw [if_neg (by omega)] at h
  by_cases hs : (s.size : Int) < wd
  · rw [if_pos hs] at h; cases h
  · rw [if_neg (by omega), ByteArray.size_extract]; omega
theorem rhS_wid {s : ByteArray} (h : rhE s = 0) : s.size = 32 + (rhS s).size := by
  unfold rhE at h
  unfold rhS
  by_cases hs : s.size < 32
  · rw [if_pos hs] at h; cases h
  · rw [if_neg hs, ByteArray.size_extract]; omega
theorem rdF_wid (q : Msg) (s : ByteArray) (f : Fld) (h : (rdF q s f).2.2 = 0) : s.size = wid f + (rdF q s f).2.1.size := by
  cases f
  · exact rdS_wid (wd := 4) (by decide) (by decide) h
  · exact rdS_wid (wd := 8) (by decide) (by decide) h
  · exact rdS_wid (wd := 8) (by decide) (by decide) h
  · exact rhS_wid h
  · exact rdS_wid (wd := 4) (by decide) (by decide) h
  · exact rdS_wid (wd := 2) (by decide) (by decide) h
theorem runs_wid : ∀ (fl : List Fld) (q q' : Msg × ByteArray), runs q fl = some q' → q.2.size = wids fl + q'.2.size
  | [], q, q', h => by cases h; show _ = 0 + _; omega
  | f :: r, q, q', h => by
    have h' : (rd1 q f).bind (fun q' => runs q' r) = some q' := h
    cases h1 : rd1 q f with
    | none => rw [h1] at h'; cases h'
    | some q1 =>
      rw [h1] at h'
      have h2 := runs_wid r q1 q' h'
      unfold rd1 at h1
      by_cases h0 : (rdF q.1 q.2 f).2.2 = 0
      · rw [if_pos h0] at h1
        cases h1
        have := rdF_wid q.1 q.2 f h0
        show _ = wid f + wids r + _
        simp only at h2
        omega
      · rw [if_neg h0] at h1; cases h1
theorem dr_size {s : ByteArray} (h : 0 < s.size) : s.size = 1 + (dr s).size := by
  refine rdS_wid (wd := 1) (by decide) (by decide) ?_
  unfold rdE
  rw [if_neg (by omega), if_neg (by omega)]
theorem dk_cut {s : ByteArray} {k : Nat} (h : 0 < (s.extract 0 k).size) : dk (s.extract 0 k) = dk s := by
  have h' := h
  rw [ByteArray.size_extract] at h'
  unfold dk rdN
  rw [if_neg (by omega), if_neg (by omega)]
  congr 1
  simp
  have : min 1 k = 1 := by omega
  rw [List.take_take, this]
/-- a part of a message is short -/
theorem cut_short {m : Msg} {fl : List Fld} (ho : m.ok) (hf : fieldsOf m.kind = some fl) (hm : MayP m fl) {k : Nat} (hk : k < (encB m fl).size) :
    (∀ m', ¬ DecOk ((encB m fl).extract 0 k) m') ∧ ∀ ev, DecBad ((encB m fl).extract 0 k) ev → ev = 10 := by
  obtain ⟨h1, h2, h3⟩ := enc_more ho hf hm ⟨#[]⟩
  rw [app_nil] at h1 h2 h3
  have e1 := dr_size h1
  have e2 := runs_wid _ _ _ h3
  have sP : ((encB m fl).extract 0 k).size = k := by rw [ByteArray.size_extract]; omega
  have no : 0 < ((encB m fl).extract 0 k).size → ∀ gl q, fieldsOf (dk ((encB m fl).extract 0 k)) = some gl → runs (Msg.none (dk ((encB m fl).extract 0 k)), dr ((encB m fl).extract 0 k)) gl = some q → False := by
    intro h0 gl q g1 g2
    have e3 := dr_size h0
    rw [dk_cut h0, h2, hf] at g1
    cases g1
    have e4 := runs_wid _ _ _ g2
    simp only at e2 e4
    have : (⟨#[]⟩ : ByteArray).size = 0 := rfl
    omega
  refine ⟨fun m' h => ?_, fun ev h => ?_⟩
  · obtain ⟨h0, gl, s', g1, g2, _⟩ := h
    exact no h0 gl _ g1 g2
  · rcases h with ⟨_, g⟩ | ⟨h0, g, _⟩ | ⟨h0, gl, g1, g⟩
    · exact g
    · rw [dk_cut h0, h2, hf] at g; cases g
    · rcases g with ⟨_, g⟩ | ⟨q, s', g2, _⟩
      · exact g
      · exact (no h0 gl _ g1 g2).elim
theorem more_long {m : Msg} {fl : List Fld} (ho : m.ok) (hf : fieldsOf m.kind = some fl) (hm : MayP m fl) (R : ByteArray) :
    (∀ m', DecOk (encB m fl ++ R) m' → m' = m ∧ R.size = 0) ∧ ∀ ev, DecBad (encB m fl ++ R) ev → R.size ≠ 0 ∧ ev = 11 := by
  obtain ⟨h1, h2, h3⟩ := enc_more ho hf hm R
  refine ⟨fun m' h => ?_, fun ev h => ?_⟩
  · obtain ⟨h0, gl, s', g1, g2, g3, _⟩ := h
    rw [h2, hf] at g1; cases g1
    rw [h2, h3] at g2; cases g2
    exact ⟨rfl, g3⟩
  · rcases h with ⟨g, _⟩ | ⟨h0, g, _⟩ | ⟨h0, gl, g1, g⟩
    · omega
    · rw [h2, hf] at g; cases g
    · rw [h2, hf] at g1; cases g1
      rw [h2, h3] at g
      rcases g with ⟨g, _⟩ | ⟨q, s', g2, g⟩
      · cases g
      · cases g2
        rcases g with ⟨g, g'⟩ | ⟨_, g, _⟩
        · exact ⟨g, g'⟩
        · exact (g ⟨fl, hf, hm⟩).elim
theorem cut_both (m : Msg) (ho : m.ok) (R : ByteArray) (hR : R.size ≤ 300) : ∃ (E : ByteArray) (ev : Int), (∀ w, Calls Try.prog 33 #[.agg m.row] w fun e w' => e = .returned (.tuple #[.string E, .int .i64 ev]) ∧ Below w.heap.size w w') ∧
    (ev = 1 ∨ (ev = 0 ∧ 0 < E.size ∧ E.size ≤ 100000 ∧ (∀ k, k < E.size → ∀ w, Calls Try.prog 38 #[.string (E.extract 0 k)] w fun e w' => e = .returned (.tuple #[.agg (Msg.none 0).row, .int .i64 10]) ∧ Below w.heap.size w w') ∧
      ∃ (Y : Array Value) (dv : Int), Y.size = 38 ∧ Y.all (·.oneCell') = true ∧ ((R = ⟨#[]⟩ ∧ dv = 0) ∨ (0 < R.size ∧ dv = 11)) ∧ ∀ w, Calls Try.prog 38 #[.string (E ++ R)] w fun e w' => e = .returned (.tuple #[.agg Y, .int .i64 dv]) ∧ Below w.heap.size w w')) := by
  by_cases hm : May m
  · obtain ⟨fl, hf, hp⟩ := hm
    have h1 := cat_le m ho.h32 fl (kindB m)
    have h2 := fields_len hf
    have h3 : (kindB m).size ≤ 8 := by
      unfold kindB; rw [empty_app, str_size]
      exact Nat.le_trans (num_len _ _ (by decide)) (by decide)
    have h4 : (encB m fl).size ≤ 3000 := by
      show (cat m (kindB m) fl).size ≤ _
      omega
    obtain ⟨h5, -, -⟩ := enc_more ho hf hp ⟨#[]⟩
    rw [app_nil] at h5
    refine ⟨encB m fl, 0, fun w => enc_yes m ho fl hf hp w, .inr ⟨rfl, h5, by omega, ?_, ?_⟩⟩
    · intro k hk w
      obtain ⟨c1, c2⟩ := cut_short ho hf hp hk
      refine (dec_any _ (by rw [ByteArray.size_extract]; omega) w).mono ?_
      rintro e x' ⟨⟨m', g1, _, rfl⟩ | ⟨ev', _, g1, rfl⟩, hb⟩
      · exact (c1 m' g1).elim
      · rw [c2 ev' g1]; exact ⟨rfl, hb⟩
    · obtain ⟨c1, c2⟩ := more_long ho hf hp R
      have hsz : (encB m fl ++ R).size ≤ 100000 := by rw [ByteArray.size_append]; omega
      by_cases hz : R.size = 0
      · refine ⟨m.row, 0, Msg.size ho.h32, Msg.one, .inl ⟨?_, rfl⟩, fun w => (dec_any _ hsz w).mono ?_⟩
        · apply ByteArray.ext; exact Array.eq_empty_of_size_eq_zero hz
        · rintro e x' ⟨⟨m', g1, _, rfl⟩ | ⟨ev', _, g1, rfl⟩, hb⟩
          · rw [(c1 m' g1).1]; exact ⟨rfl, hb⟩
          · exact ((c2 ev' g1).1 hz).elim
      · refine ⟨(Msg.none 0).row, 11, Msg.size rfl, Msg.one, .inr ⟨by omega, rfl⟩, fun w => (dec_any _ hsz w).mono ?_⟩
        rintro e x' ⟨⟨m', g1, _, rfl⟩ | ⟨ev', _, g1, rfl⟩, hb⟩
        · exact (hz (c1 m' g1).2).elim
        · rw [(c2 ev' g1).2]; exact ⟨rfl, hb⟩
  · exact ⟨⟨#[]⟩, 1, fun w => enc_no m ho hm w, .inl rfl⟩
structure EC (n : Nat) (w : World) (R : Array Value) (x : World) : Prop where
  r : M.RowAt x n 62 R
  b : Below n w x
theorem EC.same {n : Nat} {w x x' : World} {R : Array Value} (h : EC n w R x) (hb : Below x.heap.size x x') : EC n w R x' := ⟨h.r.call hb, h.b.trans (hb.mono (Nat.le_of_lt h.r.lt))⟩
set_option maxRecDepth 100000 in
set_option maxHeartbeats 8000000 in
theorem wcut_walk (m : Msg) (ho : m.ok) (R : ByteArray) (c : Int) (c0 : 0 ≤ c) (c1 : c ≤ 255) (w : World) : Calls Try.prog 11 #[.agg m.row, .string R, .int .u8 c] w (WFine w) := by
  obtain ⟨n, hn⟩ : ∃ n, w.heap.size = n := ⟨_, rfl⟩
  obtain ⟨V, hV⟩ : ∃ V, w.alloc (.cells m.row 62) = V := ⟨_, rfl⟩
  have rV : M.RowAt V n 62 m.row := by rw [← hV, ← hn]; exact M.RowAt.new w 62 _
  have ecV : EC n w m.row V := ⟨rV, by rw [← hV, ← hn]; exact (Below.refl _ w).alloc (Nat.le_refl _) _⟩
  have SH := Lib.hid (fun x => wshown_any x)
  have HN := Lib.hid hn; have HV := Lib.hid hV; have ECV := Lib.hid ecV
  have iX := Msg.info ho.h32
  by_cases hs : 300 < R.size
  · unfold WFine
    rw [hn]
    clear hn hV ecV ho
    generalize m.row = Q at *
    go_enter Try.func11, Try.ntmps11
    go_wp2_with (first | (rw [HN.out, HV.out]) | fail)
    refine (SH.out _).mono ?_
    rintro e w1 ⟨rfl, b1⟩
    have e1 := ECV.out.same b1
    clear b1 rV
    go_wp2_with fail
    go_ret
    exact ⟨rfl, e1.b⟩
  · obtain ⟨E, ev, en, hev⟩ := cut_both m ho R (by omega)
    have zsz : (Msg.none 0).row.size = 38 := Msg.size rfl
    have zone : (Msg.none 0).row.all (·.oneCell') = true := Msg.one
    have zinf : (Try.prog.info? 62).map (·.size) = some (Msg.none 0).row.size := Msg.info rfl
    obtain ⟨Z, hZ⟩ : ∃ Z, (Msg.none 0).row = Z := ⟨_, rfl⟩
    have nrow := none_row 0
    rw [hZ] at nrow zsz zone zinf hev
    have al2 : ∀ x : World, ∃ U g, x.heap.size = g ∧ x.alloc (.cells #[.int .i64 0, .int .u32 0, .int .u64 0, .int .u64 0, .int .u8 0, .int .u8 0, .int .u8 0, .int .u8 0, .int .u8 0, .int .u8 0, .int .u8 0, .int .u8 0, .int .u8 0, .int .u8 0, .int .u8 0, .int .u8 0, .int .u8 0, .int .u8 0, .int .u8 0, .int .u8 0, .int .u8 0, .int .u8 0, .int .u8 0, .int .u8 0, .int .u8 0, .int .u8 0, .int .u8 0, .int .u8 0, .int .u8 0, .int .u8 0, .int .u8 0, .int .u8 0, .int .u8 0, .int .u8 0, .int .u8 0, .int .u8 0, .int .i64 0, .int .i64 0] 62) = U ∧ M.RowAt U g 62 Z ∧ Below x.heap.size x U := fun x => ⟨_, _, rfl, rfl, by rw [nrow]; exact M.RowAt.new x 62 _, (Below.refl _ x).alloc (Nat.le_refl _) _⟩
    have AL := Lib.hid al2
    have EN := Lib.hid en; have HEV := Lib.hid hev
    unfold WFine
    rw [hn]
    clear hn hV ecV ho en hev nrow hZ al2
    generalize m.row = Q at *
    go_enter Try.func11, Try.ntmps11
    go_wp2_with (first | (rw [HN.out, HV.out]) | fail)
    refine (SH.out _).mono ?_
    rintro e w1 ⟨rfl, b1⟩
    have e1 := ECV.out.same b1
    have r1 := e1.r
    have E1 := Lib.hid e1
    clear b1 rV e1
    go_wp2_with (first | (refine wpList_load_row (x := .tmp 3) (ty := 62) (g := n) (cs := Q) (t := 62) (fr := (0, 0)) ?_ ?_ ?_ _ r1 Try.underlying62 rfl iX ?_; rfl; rfl; rfl) | fail)
    refine (EN.out _).mono ?_
    rintro e w2 ⟨rfl, b2⟩
    have E2 := Lib.hid (E1.out.same b2)
    clear b2 r1 EN E1
    rcases HEV.out with rfl | ⟨rfl, hE, hE2, hcut, Y, dv, sY, oY, hdv, hmore⟩
    · have B2 := Lib.hid E2.out.b
      go_wp2_with fail
      go_ret
      exact ⟨rfl, B2.out⟩
    · obtain ⟨k, hk⟩ : ∃ k : Nat, c % (E.size : Int) = (k : Int) := ⟨(c % (E.size : Int)).toNat, by have := Int.emod_nonneg c (b := (E.size : Int)) (by omega); omega⟩
      have kl : (k : Int) < E.size := by rw [← hk]; exact Int.emod_lt_of_pos _ (by omega)
      have CUT := Lib.hid (hcut k (by omega)); have MORE := Lib.hid hmore
      have YS := Lib.hid sY; have OY := Lib.hid oY; have DV := Lib.hid hdv
      have hadd : E.size + R.size ≤ 9223372036854775807 := by omega
      clear hcut hmore sY oY hdv HEV
      go_wp2_with fail
      refine (CUT.out _).mono ?_
      rintro e w3 ⟨rfl, b3⟩
      have e3 := E2.out.same b3
      obtain ⟨U, g, hg, hU, rU, bU⟩ := AL.out w3
      have e4 := e3.same bU
      obtain ⟨X, hX⟩ : ∃ X, U.setRow g Z = X := ⟨_, rfl⟩
      have gn : g ≠ n := by have := e3.r.lt; omega
      have rX := e4.r.farRow (b := g) gn Z
      have bX : Below n w X := by rw [← hX]; exact (M.But.refl g U).setRow (.inl rfl) Z |>.below e4.b (by have := e3.r.lt; omega) (by have := e4.r.lt; omega)
      rw [hX] at rX
      have eX : EC n w Q X := ⟨rX, bX⟩
      have HG := Lib.hid hg; have HU := Lib.hid hU; have HX := Lib.hid hX; have EX := Lib.hid eX
      clear b3 e3 e4 hg hU bU gn hX bX rX eX E2 CUT
      go_wp2_with (first | (rw [HG.out, HU.out]) | (refine wpList_store_row (x := .tmp 9) (y := .tmp 39) (cells := Z) (old := Z) (t := 62) (ty := 62) (g := g) ?_ ?_ ?_ ?_ rU zinf rfl zone ?_; rfl; rfl; rfl; rfl; rw [HX.out]) | fail)
      refine (MORE.out _).mono ?_
      rintro e w5 ⟨rfl, b5⟩
      have e5 := EX.out.same b5
      obtain ⟨U', g', hg', hU', rU', bU'⟩ := AL.out w5
      have e6 := e5.same bU'
      obtain ⟨X', hX'⟩ : ∃ X', U'.setRow g' Y = X' := ⟨_, rfl⟩
      have bX : Below n w X' := by rw [← hX']; exact (M.But.refl g' U').setRow (.inl rfl) Y |>.below e6.b (by have := e5.r.lt; omega) (by have := e6.r.lt; omega)
      have zy : Z.size = Y.size := by rw [zsz, YS.out]
      have yinf : (Try.prog.info? 62).map (·.size) = some Y.size := by rw [YS.out, ← zsz]; exact zinf
      have yone := OY.out
      have HG' := Lib.hid hg'; have HU' := Lib.hid hU'; have HX' := Lib.hid hX'; have BX := Lib.hid bX
      clear b5 e5 e6 hg' hU' bU' hX' bX EX MORE HG HU HX
      rcases DV.out with ⟨rfl, rfl⟩ | ⟨hR0, rfl⟩
      · clear hs DV
        go_wp2_with (first | (rw [HG'.out, HU'.out]) | (refine wpList_store_row (x := .tmp 11) (y := .tmp 46) (cells := Y) (old := Z) (t := 62) (ty := 62) (g := g') ?_ ?_ ?_ ?_ rU' yinf zy yone ?_; rfl; rfl; rfl; rfl; rw [HX'.out]) | fail)
        go_ret
        exact ⟨rfl, BX.out⟩
      · have hR1 : R.toList.isEmpty = false := by rw [empty_iff]; exact decide_eq_false (by omega)
        go_wp2_with (first | (rw [HG'.out, HU'.out]) | (refine wpList_store_row (x := .tmp 11) (y := .tmp 46) (cells := Y) (old := Z) (t := 62) (ty := 62) (g := g') ?_ ?_ ?_ ?_ rU' yinf zy yone ?_; rfl; rfl; rfl; rfl; rw [HX'.out]) | fail)
        go_ret
        exact ⟨rfl, BX.out⟩
set_option maxRecDepth 100000 in
theorem walk_WireCut {H : Type} {enc : TypeId × Value → H} {W : World} {base : Nat} (v : Value) (d : DataW H) (p : List MemPlace) (hval : Value.okWide Try.prog W .any base 62 v) (h : DataW.Trod enc Try.prog W 0 (fun _ => true) true 62 v d p) (a1 : ByteArray) (_w1 : a1.size ≤ maxLen) (a2 : Int) (w2 : (Lit.int .u8 a2).wf = true) :
    Calls Try.prog 11 #[v, .string a1, .int .u8 a2] W (WFine W) := by
  obtain ⟨m, rfl, ho⟩ := msg_of_trod hval h
  exact wcut_walk m ho a1 a2 (RowK.wf_u8 w2).1 (RowK.wf_u8 w2).2 W
end Go.Proofs.Ytiilgkhndfnkgaa
