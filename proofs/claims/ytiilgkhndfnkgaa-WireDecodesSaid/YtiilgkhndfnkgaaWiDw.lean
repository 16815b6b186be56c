/- Decode of the reference, and the walk of WireDecodes; the condition is the bound of the document. -/
import Derived.Test.YtiilgkhndfnkgaaWiZ
namespace Go.Proofs.Ytiilgkhndfnkgaa
open Go.RowKit Go.Shelf
set_option linter.unusedVariables false

def wid : Fld → Nat
  | .chan => 4
  | .id => 8
  | .amount => 8
  | .hash => 32
  | .expiry => 4
  | .number => 2
def wids (fl : List Fld) : Nat := fl.foldr (fun f t => wid f + t) 0
theorem rdS_wid {s : ByteArray} {wd : Nat} (h1 : 1 ≤ wd) (h8 : wd ≤ 8) (h : rdE s (wd : Int) = 0) : s.size = wd + (rdS s (wd : Int)).size := by
  unfold rdE at h
  unfold rdS
  rw [if_neg (by omega)] at h
  by_cases hs : (s.size : Int) < wd
  · rw [if_pos hs] at h; cases h
  · rw [if_neg (by omega), ByteArray.size_extract]; omega
theorem rhS_wid {s : ByteArray} (h : rhE s = 0) : s.size = 32 + (rhS s).size := by
  unfold rhE at h
  unfold rhS
  by_cases hs : s.size < 32
  · rw [if_pos hs] at h; cases h
  · rw [if_neg hs, ByteArray.size_extract]; omega
theorem rdF_wid (q : Msg) (s : ByteArray) (f : Fld) (h : (rdF q s f).2.2 = 0) : s.size = wid f + (rdF q s f).2.1.size := by
  cases f
  · exact rdS_wid (wd := 4) (by decide) (by decide) h
  · exact rdS_wid (wd := 8) (by decide) (by decide) h
  · exact rdS_wid (wd := 8) (by decide) (by decide) h
  · exact rhS_wid h
  · exact rdS_wid (wd := 4) (by decide) (by decide) h
  · exact rdS_wid (wd := 2) (by decide) (by decide) h
theorem runs_wid : ∀ (fl : List Fld) (q q' : Msg × ByteArray), runs q fl = some q' → q.2.size = wids fl + q'.2.size
  | [], q, q', h => by cases h; show _ = 0 + _; omega
  | f :: r, q, q', h => by
    have h' : (rd1 q f).bind (fun q' => runs q' r) = some q' := h
    cases h1 : rd1 q f with
    | none => rw [h1] at h'; cases h'
    | some q1 =>
      rw [h1] at h'
      have h2 := runs_wid r q1 q' h'
      unfold rd1 at h1
      by_cases h0 : (rdF q.1 q.2 f).2.2 = 0
      · rw [if_pos h0] at h1
        cases h1
        have := rdF_wid q.1 q.2 f h0
        show _ = wid f + wids r + _
        simp only at h2
        omega
      · rw [if_neg h0] at h1; cases h1
theorem dr_size {s : ByteArray} (h : 0 < s.size) : s.size = 1 + (dr s).size := by
  refine rdS_wid (wd := 1) (by decide) (by decide) ?_
  unfold rdE
  rw [if_neg (by omega), if_neg (by omega)]
theorem dk_cut {s : ByteArray} {k : Nat} (h : 0 < (s.extract 0 k).size) : dk (s.extract 0 k) = dk s := by
  have h' := h
  rw [ByteArray.size_extract] at h'
  unfold dk rdN
  rw [if_neg (by omega), if_neg (by omega)]
  congr 1
  simp
  have : min 1 k = 1 := by omega
  rw [List.take_take, this]
theorem rdF_enough (q : Msg) (s : ByteArray) (f : Fld) (h : wid f ≤ s.size) : (rdF q s f).2.2 = 0 := by
  have two := fun (wd : Nat) (h1 : 1 ≤ (wd : Int)) (h8 : (wd : Int) ≤ 8) (hw : wd ≤ s.size) => (rdE_two (s := s) h1 h8).resolve_right (fun e => by omega)
  cases f
  · exact (two 4 (by decide) (by decide) h).1
  · exact (two 8 (by decide) (by decide) h).1
  · exact (two 8 (by decide) (by decide) h).1
  · show rhE s = 0
    unfold rhE; rw [if_neg (by show ¬ s.size < 32; have : 32 ≤ s.size := h; omega)]
  · exact (two 4 (by decide) (by decide) h).1
  · exact (two 2 (by decide) (by decide) h).1
theorem runs_enough : ∀ (fl : List Fld) (q : Msg × ByteArray), wids fl ≤ q.2.size → ∃ q', runs q fl = some q'
  | [], q, _ => ⟨q, rfl⟩
  | f :: r, q, h => by
    have h' : wid f + wids r ≤ q.2.size := h
    have h0 := rdF_enough q.1 q.2 f (by omega)
    have h1 := rdF_wid q.1 q.2 f h0
    obtain ⟨q', hq⟩ := runs_enough r ((rdF q.1 q.2 f).1, (rdF q.1 q.2 f).2.1) (by simp only; omega)
    refine ⟨q', ?_⟩
    show (rd1 q f).bind _ = _
    unfold rd1; rw [if_pos h0]; exact hq
theorem wids_take : ∀ {r : List Fld} {k : Nat} {f : Fld}, r[k]? = some f → wids (r.take (k + 1)) = wids (r.take k) + wid f
  | g :: r, 0, f, h => by cases h; show wid g + 0 = 0 + wid g; omega
  | g :: r, k + 1, f, h => by
    have : wids (r.take (k + 1)) = wids (r.take k) + wid f := wids_take h
    show wid g + wids (r.take (k + 1)) = wid g + wids (r.take k) + wid f
    omega
theorem wids_le : ∀ (r : List Fld), wids r ≤ 32 * r.length
  | [] => Nat.le_refl _
  | f :: r => by
    have := wids_le r
    have : wid f ≤ 32 := by cases f <;> decide
    show wid f + wids r ≤ 32 * (r.length + 1)
    omega
/-- one more field, of bytes that are enough -/
theorem runs_one {r : List Fld} {k : Nat} {f : Fld} (h : r[k]? = some f) {q0 : Msg × ByteArray} (hs : q0.2.size = wids r) {m : Msg} {s : ByteArray} (h1 : runs q0 (r.take k) = some (m, s)) : runs q0 (r.take (k + 1)) = some ((rdF m s f).1, (rdF m s f).2.1) := by
  obtain ⟨q', hq⟩ := runs_enough r q0 (by omega)
  have h2 := runs_wid _ _ _ h1
  rw [runs_take h, h1]
  show rd1 (m, s) f = _
  unfold rd1
  rw [if_pos]
  refine rdF_enough m s f ?_
  have h3 := wids_take h
  have h4 : wids r = wids (r.take (k + 1)) + wids (r.drop (k + 1)) := by
    have : ∀ a b : List Fld, wids (a ++ b) = wids a + wids b := by
      intro a b
      induction a with
      | nil => show wids b = 0 + wids b; omega
      | cons x a ih => show wid x + wids (a ++ b) = wid x + wids a + wids b; omega
    rw [← this, List.take_append_drop]
  simp only at h2 ⊢
  omega
set_option maxRecDepth 100000 in
theorem width_any (f : Fld) (hf : f ≠ .chan) (c : Int) (hc : c = letF f) (w : World) : Calls Try.prog 55 #[.int .u8 c] w fun e w' => e = .returned (.int .i64 (wid f)) ∧ w = w' := by
  subst hc
  cases f
  case chan => exact absurd rfl hf
  all_goals
    unfold letF wid
    go_enter Try.func55, Try.ntmps55
    go_wp2
    go_ret
    exact ⟨rfl, rfl⟩
theorem xhash_any (r : Addr) (s : ByteArray) (w : World) (h : At w r s) (hs : s.size ≤ 4611686018427387904) :
    Calls Try.prog 28 #[.pointer (some r)] w fun e w' => e = .returned (.tuple #[.agg (ints (rhH s)).toArray, .int .i64 (rhE s)]) ∧ Below w.heap.size (w.setCell r (.string (rhS s))) w' := by
  unfold rhH rhE rhS
  by_cases h1 : s.size < 32
  · rw [if_pos h1, if_pos h1, if_pos h1]; exact xhash_short r s w h h1
  · rw [if_neg h1, if_neg h1, if_neg h1]; exact xhash_ok r s w h hs (by omega)
theorem xnum_b (r : Addr) (s : ByteArray) (wd : Int) (w : World) (h : At w r s) (hs : s.size ≤ 4611686018427387904) :
    Calls Try.prog 26 #[.pointer (some r), .int .i64 wd] w fun e w' => e = .returned (.tuple #[.int .u64 (rdN s wd), .int .i64 (rdE s wd)]) ∧ Below w.heap.size (w.setCell r (.string (rdS s wd))) w' :=
  (xnum_any r s wd w h hs).mono fun e w' h => ⟨h.1, by rw [← h.2]; exact Below.refl _ _⟩
theorem bad_one {s : ByteArray} {a b : Int} (h : DecBad s a) (h' : DecBad s b) : a = b := by
  rcases h with ⟨h0, ha⟩ | ⟨h0, hf, ha⟩ | ⟨h0, fl, hf, h⟩
  · rcases h' with ⟨_, hb⟩ | ⟨g, _⟩ | ⟨g, _⟩
    · omega
    · omega
    · omega
  · rcases h' with ⟨g, _⟩ | ⟨_, _, hb⟩ | ⟨_, fl, g, _⟩
    · omega
    · omega
    · rw [hf] at g; cases g
  · rcases h' with ⟨g, _⟩ | ⟨_, g, _⟩ | ⟨_, fl', g, h'⟩
    · omega
    · rw [hf] at g; cases g
    · rw [hf] at g; cases g
      rcases h with ⟨h1, ha⟩ | ⟨m, s1, h1, h⟩
      · rcases h' with ⟨_, hb⟩ | ⟨m', s2, g1, _⟩
        · omega
        · rw [h1] at g1; cases g1
      · rcases h' with ⟨g1, _⟩ | ⟨m', s2, g1, h'⟩
        · rw [h1] at g1; cases g1
        · rw [h1] at g1; cases g1
          rcases h with ⟨h2, ha⟩ | ⟨h2, h3, ha⟩
          · rcases h' with ⟨_, hb⟩ | ⟨g2, _⟩
            · omega
            · omega
          · rcases h' with ⟨g2, _⟩ | ⟨_, _, hb⟩
            · omega
            · omega
def DecedX (s : ByteArray) (w : World) (e : Ending) (w' : World) : Prop :=
  ((∃ m, DecOk s m ∧ m.ok ∧ e = .returned (.tuple #[.agg m.row, .int .i64 0])) ∨ (∃ ev, DecBad s ev ∧ e = .returned (.tuple #[.agg (Msg.none 0).row, .int .i64 ev]))) ∧ Below w.heap.size w w'
structure XD (n p g : Nat) (w : World) (m : Msg) (s : ByteArray) (x : World) : Prop where
  rn : M.RowAt x n 65 (Msg.none 0).row
  rp : M.RowAt x p 51 #[.string s]
  rg : M.RowAt x g 65 m.row
  np : n < p
  pg : p < g
  b : Below n w x
theorem XD.same {n p g : Nat} {w x x' : World} {m : Msg} {s : ByteArray} (h : XD n p g w m s x) (hb : Below x.heap.size x x') : XD n p g w m s x' :=
  ⟨h.rn.call hb, h.rp.call hb, h.rg.call hb, h.np, h.pg, h.b.trans (hb.mono (Nat.le_of_lt h.rn.lt))⟩
theorem XD.read {n p g : Nat} {w x x' : World} {m : Msg} {s s' : ByteArray} (h : XD n p g w m s x) (hb : Below x.heap.size (x.setCell ⟨p, 0, none⟩ (.string s')) x') : XD n p g w m s' x' :=
  ⟨(but_written hb).row h.rn (by have := h.np; omega), row_written h.rp hb, (but_written hb).row h.rg (by have := h.pg; omega), h.np, h.pg, (but_written hb).below h.b (by have := h.np; omega) (Nat.le_of_lt h.rn.lt)⟩
theorem XD.set {n p g : Nat} {w x : World} {m m' : Msg} {s : ByteArray} (h : XD n p g w m s x) (i : Nat) (v : Value) (hm : m.row.setIfInBounds i v = m'.row) : XD n p g w m' s (x.setCell ⟨g, i, none⟩ v) :=
  ⟨h.rn.far (p := ⟨g, i, none⟩) (by have := h.np; have := h.pg; show g ≠ n; omega) v, h.rp.far (p := ⟨g, i, none⟩) (by have := h.pg; show g ≠ p; omega) v, by rw [← hm]; exact h.rg.set i v, h.np, h.pg,
    ((M.But.refl g x).set (p := ⟨g, i, none⟩) (.inl rfl) v).below h.b (by have := h.np; have := h.pg; omega) (Nat.le_of_lt h.rn.lt)⟩
theorem XD.hash {n p g : Nat} {w x : World} {m : Msg} {s : ByteArray} (h : XD n p g w m s x) (h32 : m.hash.length = 32) (l : List Int) (hl : l.length = 32) : XD n p g w { m with hash := l } s (x.setCells g 4 (ints l)) :=
  ⟨row_setCells_far (by have := h.np; have := h.pg; omega) _ _ _ h.rn, row_setCells_far (by have := h.pg; omega) _ _ _ h.rp, by
    have := row_setCells (ints l) m.row 4 x h.rg
    rw [Msg.sh h32 hl] at this; exact this, h.np, h.pg, (but_setCells _ _ _ (M.But.refl g x)).below h.b (by have := h.np; have := h.pg; omega) (Nat.le_of_lt h.rn.lt)⟩
theorem build65 (w : World) : (Instr.build 65 #[]).run Try.prog w = .ok (.agg (Msg.none 0).row) w := by kernel_rfl
set_option maxRecDepth 100000 in
set_option maxHeartbeats 8000000 in
theorem rdec_any (s : ByteArray) (hs : s.size ≤ 100000) (w : World) : Calls Try.prog 39 #[.string s] w (DecedX s w) := by
  obtain ⟨n, hn⟩ : ∃ n, w.heap.size = n := ⟨_, rfl⟩
  obtain ⟨V, hV⟩ : ∃ V, w.alloc (.cells (Msg.none 0).row 65) = V := ⟨_, rfl⟩
  have rV : M.RowAt V n 65 (Msg.none 0).row := by rw [← hV, ← hn]; exact M.RowAt.new w 65 _
  have bV : Below n w V := by rw [← hV, ← hn]; exact (Below.refl _ w).alloc (Nat.le_refl _) _
  have sV : V.heap.size = n + 1 := by rw [← hV]; simp [hn]
  have iZ : (Try.prog.info? 65).map (·.size) = some (Msg.none 0).row.size := Msg.rinfo rfl
  have oZ : (Msg.none 0).row.all (·.oneCell') = true := Msg.one
  have bz := build65
  have bad : ∀ ev x, DecBad s ev → M.RowAt x n 65 (Msg.none 0).row → Below n w x → ∀ v, v = .tuple #[.agg (Msg.none 0).row, .int .i64 ev] → DecedX s w (.returned v) x := fun ev x h1 _ h2 v hv => by
    subst hv
    exact ⟨.inr ⟨ev, h1, rfl⟩, by rw [hn]; exact h2⟩
  have nrow := none_row 0
  by_cases h0 : s.size = 0
  · have hb : DecBad s 10 := .inl ⟨h0, rfl⟩
    have b1 : Below n w (V.setRow n (Msg.none 0).row) := (M.But.refl n V).setRow (.inl rfl) _ |>.below bV (Nat.le_refl _) (by omega)
    have r1 := rV.setRow (Msg.none 0).row
    generalize (Msg.none 0).row = Z at *
    rw [nrow] at hV
    have HN := Lib.hid hn; have HV := Lib.hid hV; have B1 := Lib.hid (bad 10 _ hb r1 b1)
    clear hn hV bad bV sV nrow hb b1
    go_enter Try.func39, Try.ntmps39
    go_wp2_with (first | (rw [HN.out, HV.out]) | (refine wpList_build rfl 65 rfl Z bz ?_) | (refine wpList_store_row (x := .tmp 2) (y := .tmp 18) (cells := Z) (old := Z) (t := 65) (ty := 65) (g := n) ?_ ?_ ?_ ?_ rV iZ rfl oZ ?_; rfl; rfl; rfl; rfl) | fail)
    have hload := run_loadVar_row (P := Try.prog) _ n 65 65 Z (0, 0) _ r1 Try.underlying65 rfl iZ
    exact bodyPost_ret (v := .tuple #[.agg Z, .int .i64 10]) (by simp [results, Try.results39, asAddr, hload]) rfl (B1.out _ rfl)
  · have h1 : 0 < s.size := by omega
    obtain ⟨x0, hx0⟩ : ∃ x, s[0]'h1 = x := ⟨_, rfl⟩
    obtain ⟨kd, hkd⟩ : ∃ kd, dk s = kd := ⟨_, rfl⟩
    have hk0 : (x0.toNat : Int) = kd := by
      rw [← hkd, ← hx0, ← val_one s h1]
      unfold dk rdN
      rw [if_neg (by omega)]; rfl
    have cw : IntKind.i64.wrap kd = kd := IntWalk.i64_in _ (by have := x0.toNat_lt; omega)
    by_cases hk : 1 ≤ kd ∧ kd ≤ 9
    · obtain ⟨hk1, hk9⟩ := hk
      obtain ⟨fl, hf⟩ : ∃ fl, fieldsOf kd = some fl := by
        rcases kinds kd with rfl | rfl | rfl | rfl | rfl | rfl | rfl | rfl | rfl | h
        case inr.inr.inr.inr.inr.inr.inr.inr.inr => exact (h ⟨hk1, hk9⟩).elim
        all_goals exact ⟨_, rfl⟩
      obtain ⟨r, rfl, lsz, hlet⟩ := fields_lets hf
      have fl8 := fields_len hf
      have wl := wids_le r
      simp only [List.length_cons] at fl8
      have hd := dr_size h1
      have hdr : s.extract 1 s.size = dr s := by
        unfold dr rdS; rw [if_neg (by omega)]; rfl
      obtain ⟨D, hD⟩ : ∃ D, dr s = D := ⟨_, rfl⟩
      rw [hD] at hd hdr
      have c0 := rdN_nonneg D 4
      have c1 : rdN D 4 < 4294967296 := rdN_lt D 4
      obtain ⟨cc, hcc⟩ : ∃ cc, rdN D 4 = cc := ⟨_, rfl⟩
      have hruns : 4 ≤ D.size → runs (Msg.none kd, D) (.chan :: r) = runs ({ Msg.none kd with chan := cc }, rdS D 4) r := fun h => by
        show (rd1 _ _).bind _ = _
        unfold rd1
        rw [if_pos (rdF_enough _ _ .chan h), ← hcc]; rfl
      have hds : 4 ≤ D.size → D.size = 4 + (rdS D 4).size := fun h => rdF_wid (Msg.none kd) D .chan (rdF_enough _ _ .chan h)
      have hwc : wids (.chan :: r) = 4 + wids r := rfl
      have short : (s.size : Int) < 5 + (wids r : Nat) → DecBad s 10 := fun h => .inr (.inr ⟨h1, _, by rw [hkd]; exact hf, .inl ⟨by
        rw [hkd, hD]
        cases hq : runs (Msg.none kd, D) (.chan :: r) with
        | none => rfl
        | some q' => have := runs_wid _ _ _ hq; simp only at this; omega, rfl⟩⟩)
      have long : 5 + (wids r : Nat) < (s.size : Int) → DecBad s 11 := fun h => by
        obtain ⟨q', hq⟩ := runs_enough (.chan :: r) (Msg.none kd, D) (by show wids (.chan :: r) ≤ D.size; omega)
        have h2 := runs_wid _ _ _ hq
        simp only at h2
        exact .inr (.inr ⟨h1, _, by rw [hkd]; exact hf, .inr ⟨q'.1, q'.2, by rw [hkd, hD]; exact hq, .inl ⟨by omega, rfl⟩⟩⟩)
      have fin : ∀ m s', runs ({ Msg.none kd with chan := cc }, rdS D 4) r = some (m, s') → (s.size : Int) = 5 + (wids r : Nat) → ∃ b, (b = true ↔ May m) ∧ ((b = true ∧ DecOk s m) ∨ (b = false ∧ DecBad s 1)) := fun m s' h h2 => by
        have hr := (hruns (by omega)).trans h
        have hz := runs_wid _ _ _ hr
        simp only at hz
        by_cases hm : May m
        · exact ⟨true, ⟨fun _ => hm, fun _ => rfl⟩, .inl ⟨rfl, h1, _, s', by rw [hkd]; exact hf, by rw [hkd, hD]; exact hr, by omega, hm⟩⟩
        · exact ⟨false, ⟨fun h => Bool.noConfusion h, fun h => absurd h hm⟩, .inr ⟨rfl, .inr (.inr ⟨h1, _, by rw [hkd]; exact hf, .inr ⟨m, s', by rw [hkd, hD]; exact hr, .inr ⟨by omega, hm, rfl⟩⟩⟩)⟩⟩
      have mok : ({ Msg.none kd with chan := cc } : Msg).ok := ⟨rfl, fun x hx => by have : x = 0 := List.eq_of_mem_replicate hx; omega, by show _ ≤ kd; omega, by show kd ≤ _; omega, by show 0 ≤ cc; omega, by show cc ≤ _; omega, y0, y2, y0, y2, by show _ ≤ (0 : Int); omega, by show (0 : Int) ≤ _; omega, by show _ ≤ (0 : Int); omega, by show (0 : Int) ≤ _; omega⟩
      obtain ⟨S, hS⟩ : ∃ S, lets kd = S := ⟨_, rfl⟩
      have ls := lets_size kd
      have lets_at : ∀ i (hi : i < S.size), ∃ f, r[i]? = some f ∧ f ≠ .chan ∧ ((S[i]'hi).toNat : Int) = letF f := by subst hS; exact hlet
      have fld := fun x => rfields_any kd x
      rw [hS] at fld lsz ls
      obtain ⟨C, hC⟩ : ∃ C : Nat → Int, C = fun j => (5 : Int) + ((wids (r.take j) : Nat) : Int) := ⟨_, rfl⟩
      have hC' : ∀ j, C j = 5 + (wids (r.take j) : Nat) := fun j => by rw [hC]
      have cstep : ∀ (j : Nat) (f : Fld), r[j]? = some f → IntKind.i64.wrap (C j + (wid f : Nat)) = C (j + 1) := fun j f h => by
        have h2 : wid f ≤ 32 := by cases f <;> decide
        have h3 := wids_le (r.take j)
        rw [List.length_take] at h3
        rw [hC', hC', wids_take h]
        refine (IntWalk.i64_in _ (by omega)).trans (by omega)
      have cstart : (5 : Int) = C 0 := by rw [hC']; rfl
      have cend : C S.size = 5 + (wids r : Nat) := by rw [hC', lsz, List.take_length]
      rw [← cend] at short long fin
      have cb : C S.size ≤ 1000 := by rw [cend]; omega
      have HN := Lib.hid hn; have BAD := Lib.hid bad; have SHORT := Lib.hid short; have LONG := Lib.hid long; have FIN := Lib.hid fin; have MOK := Lib.hid mok
      have LAT := Lib.hid lets_at; have FLD := Lib.hid fld; have CST := Lib.hid cstep; have CS0 := Lib.hid cstart; have CE := Lib.hid cend; have CB := Lib.hid cb
      have HDS := Lib.hid hds; have LS := Lib.hid ls; have BV := Lib.hid bV; have SV := Lib.hid sV; have HD := Lib.hid hd
      have LSZ := Lib.hid lsz
      have NR := Lib.hid nrow
      have al2 : ∀ x : World, ∃ U g, x.heap.size = g ∧ x.alloc (.cells #[.int .i64 0, .int .u32 0, .int .u64 0, .int .u64 0, .int .u8 0, .int .u8 0, .int .u8 0, .int .u8 0, .int .u8 0, .int .u8 0, .int .u8 0, .int .u8 0, .int .u8 0, .int .u8 0, .int .u8 0, .int .u8 0, .int .u8 0, .int .u8 0, .int .u8 0, .int .u8 0, .int .u8 0, .int .u8 0, .int .u8 0, .int .u8 0, .int .u8 0, .int .u8 0, .int .u8 0, .int .u8 0, .int .u8 0, .int .u8 0, .int .u8 0, .int .u8 0, .int .u8 0, .int .u8 0, .int .u8 0, .int .u8 0, .int .i64 0, .int .i64 0] 65) = U ∧ M.RowAt U g 65 (Msg.none 0).row ∧ Below x.heap.size x U := fun x => ⟨_, _, rfl, rfl, by rw [nrow]; exact M.RowAt.new x 65 _, (Below.refl _ x).alloc (Nat.le_refl _) _⟩
      have AL := Lib.hid al2
      have hV' := hV
      rw [nrow] at hV'
      have HV := Lib.hid hV'
      clear hn hV hV' bad bV sV nrow short long fin mok lets_at fld cstep cstart cend cb hds ls hd lsz al2 hwc wl fl8 hlet hf hC hC' hkd hS hruns hD
      go_enter Try.func39, Try.ntmps39
      go_wp2_with (first | (rw [HN.out, HV.out]) | (refine wpList_build rfl 65 rfl _ bz ?_) | fail)
      refine (FLD.out _).mono ?_
      rintro e w4 ⟨rfl, rfl⟩
      go_wp2_with fail
      rw [CS0.out]
      go_loopg [6, 7] S.size (fun q t i v => ∃ k : Nat, q + k = S.size ∧ i = .int .i64 k ∧ t = .int .i64 (C k) ∧ v = V)
      case atStart => exact ⟨0, by omega, rfl, rfl, rfl⟩
      case round =>
        obtain ⟨k, hk, rfl, rfl, rfl⟩ := hrel
        have HK := Lib.hid hk
        clear hk
        by_cases hlt : k < S.size
        · obtain ⟨f, hf, hfc, hx⟩ := LAT.out k hlt
          obtain ⟨x, hxx⟩ : ∃ x, S[k]'hlt = x := ⟨_, rfl⟩
          rw [hxx] at hx
          obtain ⟨c, hc⟩ : ∃ c : Int, (x.toNat : Int) = c := ⟨_, rfl⟩
          have hcs := CST.out k f hf
          have WD := Lib.hid (width_any f hfc c (hc.symm.trans hx))
          have i1 : ((k : Nat) : Int) < (S.size : Nat) := by omega
          have i2 : (0 : Int) ≤ (k : Nat) := by omega
          have w9 : IntKind.i64.wrap ((k : Int) + 1) = (k : Int) + 1 := IntWalk.i64_in _ (by have := LS.out; omega)
          clear hf hfc hx
          go_wp2_with fail
          refine (WD.out _).mono ?_
          rintro e w5 ⟨rfl, rfl⟩
          go_wp2_with fail
          go_roundg (S.size - (k + 1))
          case measure => have := HK.out; omega
          case rel => exact ⟨k + 1, by have := HK.out; omega, by go_num, rfl, rfl⟩
        · obtain rfl : k = S.size := by have := HK.out; omega
          clear hlt
          have b1 : Below n w (wr.setRow n (Msg.none 0).row) := (M.But.refl n wr).setRow (.inl rfl) _ |>.below BV.out (Nat.le_refl _) (by have := SV.out; omega)
          have r1 := rV.setRow (Msg.none 0).row
          have B1 := Lib.hid b1
          clear b1
          rcases Int.lt_trichotomy (s.size : Int) (C S.size) with hl | hl | hl
          · have F := Lib.hid (BAD.out 10 _ (SHORT.out hl) r1 B1.out)
            generalize (Msg.none 0).row = Z at *
            go_wp2_with (first | (refine wpList_build rfl 65 rfl Z bz ?_) | (refine wpList_store_row (x := .tmp 2) (y := .tmp 47) (cells := Z) (old := Z) (t := 65) (ty := 65) (g := n) ?_ ?_ ?_ ?_ rV iZ rfl oZ ?_; rfl; rfl; rfl; rfl) | fail)
            have hload := run_loadVar_row (P := Try.prog) _ n 65 65 Z (0, 0) _ r1 Try.underlying65 rfl iZ
            exact bodyPost_ret (v := .tuple #[.agg Z, .int .i64 10]) (by simp [results, Try.results39, asAddr, hload]) rfl (F.out _ rfl)
          · have l1 : ¬ (s.size : Int) < C S.size := by omega
            have l2 : ¬ C S.size < (s.size : Int) := by omega
            have d4 : 4 ≤ D.size := by have := HD.out; have := CE.out; omega
            have F := Lib.hid (fun m s' h => FIN.out m s' h (hl.trans rfl))
            have DS := Lib.hid (HDS.out d4)
            obtain ⟨W1, hW1⟩ : ∃ W1, wr.alloc (.cells #[.string D] 51) = W1 := ⟨_, rfl⟩
            have rp1 : M.RowAt W1 (n + 1) 51 #[.string D] := by rw [← hW1, ← SV.out]; exact M.RowAt.new wr 51 _
            have rn1 : M.RowAt W1 n 65 (Msg.none 0).row := by rw [← hW1]; exact rV.alloc _
            have b1 : Below n w W1 := by rw [← hW1]; exact BV.out.alloc (by have := SV.out; omega) _
            have num := xnum_b ⟨n + 1, 0, none⟩ D 4 W1 (row_at rp1) (by have := HD.out; omega)
            have HW1 := Lib.hid hW1; have NUM := Lib.hid num
            have RP := Lib.hid rp1; have RN := Lib.hid rn1; have B2 := Lib.hid b1
            have DH := Lib.hid hl
            rw [hcc] at NUM c0 c1
            have cu : IntKind.u32.wrap cc = cc := by rw [IntKind.wrap_u32]; omega
            clear hl hW1 num rp1 rn1 b1 B1 r1 rV BV hcc
            go_wp2_with (first | (rw [SV.out, HW1.out]) | fail)
            refine (NUM.out).mono ?_
            rintro e w6 ⟨rfl, hb⟩
            have rp6 := row_written RP.out hb
            have rn6 := (but_written hb).row RN.out (by omega)
            have b6 := (but_written hb).below B2.out (by omega) (Nat.le_of_lt RN.out.lt)
            obtain ⟨U, g, hg, hU, rU, bU⟩ := AL.out w6
            obtain ⟨M1, hM1⟩ : ∃ M1, ({ Msg.none kd with chan := cc } : Msg).row = M1 := ⟨_, rfl⟩
            have gn : g ≠ n := by have := rn6.lt; omega
            have gp : g ≠ n + 1 := by have := rp6.lt; omega
            have bX : Below n w (U.setRow g M1) := (M.But.refl g U).setRow (.inl rfl) M1 |>.below (b6.trans (bU.mono (Nat.le_of_lt rn6.lt))) (by have := rn6.lt; omega) (by have := rU.lt; have := rn6.lt; omega)
            have xd : XD n (n + 1) g w { Msg.none kd with chan := cc } (rdS D 4) (U.setRow g M1) := ⟨(rn6.call bU).farRow gn M1, (rp6.call bU).farRow gp M1, by rw [hM1]; exact rU.setRow M1, by omega, by have := rp6.lt; omega, bX⟩
            have HG := Lib.hid hg; have HU := Lib.hid hU; have XD0 := Lib.hid xd
            have iM : (Try.prog.info? 65).map (·.size) = some M1.size := by rw [← hM1]; exact Msg.rinfo rfl
            have oM : M1.all (·.oneCell') = true := by rw [← hM1]; exact Msg.one
            have zM : (Msg.none 0).row.size = M1.size := by rw [← hM1, Msg.size rfl, Msg.size rfl]
            have HM := Lib.hid hM1
            clear hb rp6 rn6 b6 hg hU bU gn gp bX xd NUM RP RN B2 hM1
            go_wp2_with (first | (rw [HG.out, HU.out]) | (refine wpList_store_row (x := .tmp 11) (y := .tmp 65) (cells := M1) (old := (Msg.none 0).row) (t := 65) (ty := 65) (g := g) ?_ ?_ ?_ ?_ rU iM zM oM ?_; rfl; rfl; rfl; (rw [← HM.out]; rfl)) | fail)
            have hsz : (rdS D 4).size = wids r := by have := DS.out; have := HD.out; have := DH.out; have := CE.out; omega
            have hsm : (rdS D 4).size ≤ 100000 := by have := DS.out; have := HD.out; omega
            have ONE := Lib.hid (fun k f (h : r[k]? = some f) m s' h1 => runs_one (q0 := ({ Msg.none kd with chan := cc }, rdS D 4)) h hsz (m := m) (s := s') h1)
            obtain ⟨q0, hq0⟩ : ∃ q0 : Msg × ByteArray, (({ Msg.none kd with chan := cc } : Msg), rdS D 4) = q0 := ⟨_, rfl⟩
            rw [hq0] at ONE F
            have R0 : runs q0 (r.take 0) = some ({ Msg.none kd with chan := cc }, rdS D 4) := by rw [← hq0]; rfl
            have HR0 := Lib.hid R0
            clear hsz R0 hq0 rU HM iM oM zM HG HU
            go_loopg [12] S.size (fun q i v => ∃ k : Nat, q + k = S.size ∧ i = .int .i64 k ∧ ∃ m s', runs q0 (r.take k) = some (m, s') ∧ m.ok ∧ s'.size ≤ 100000 ∧ XD n (n + 1) g w m s' v)
            case atStart => exact ⟨0, by omega, rfl, _, _, HR0.out, MOK.out, hsm, XD0.out⟩
            case round =>
              obtain ⟨k, hk, rfl, m, s', hrun, hok, hs', rd⟩ := hrel
              have HK := Lib.hid hk
              have RUN := Lib.hid hrun; have OK := Lib.hid hok; have RDX := Lib.hid rd
              clear hk hrun hok XD0 HR0
              by_cases hlt : k < S.size
              · obtain ⟨f, hf, hfc, hx⟩ := LAT.out k hlt
                obtain ⟨x, hxx⟩ : ∃ x, S[k]'hlt = x := ⟨_, rfl⟩
                rw [hxx] at hx
                have STEP := Lib.hid (ONE.out k f hf m s' RUN.out)
                have OK1 := Lib.hid (rdF_ok OK.out s' f)
                have LE1 := Lib.hid (Nat.le_trans (rdF_le m s' f) hs')
                have HFC := Lib.hid hfc
                have i1 : ((k : Nat) : Int) < (S.size : Nat) := by omega
                have i2 : (0 : Int) ≤ (k : Nat) := by omega
                have w9 : IntKind.i64.wrap ((k : Int) + 1) = (k : Int) + 1 := IntWalk.i64_in _ (by have := LS.out; omega)
                have at0 := row_at rd.rp
                clear rd hf hfc
                cases f with
                | chan => exact absurd rfl HFC.out
                | id =>
                  have hx : (x.toNat : Int) = 105 := hx
                  have wd0 : ∀ x, Calls Try.prog 55 #[.int .u8 105] x fun e x' => e = .returned (.int .i64 8) ∧ x = x' := (fun x => width_any .id (fun h => by cases h) 105 rfl x)
                  have WD := Lib.hid wd0
                  clear wd0
                  have num := xnum_b ⟨n + 1, 0, none⟩ s' 8 _ at0 (by omega)
                  have x0 := rdN_nonneg s' 8
                  have x1 : rdN s' 8 < 18446744073709551616 := rdN_lt s' 8
                  obtain ⟨xn, hxn⟩ : ∃ xn, rdN s' 8 = xn := ⟨_, rfl⟩
                  have nxt : ∀ w6, XD n (n + 1) g w m (rdS s' 8) w6 → XD n (n + 1) g w (rdF m s' .id).1 (rdF m s' .id).2.1 (w6.setCell ⟨g, 2, none⟩ (.int .u64 xn)) := fun w6 h => by
                    rw [← hxn]; exact h.set 2 _ (Msg.s2 _)
                  rw [hxn] at num x0 x1
                  have NXT := Lib.hid nxt; have NUM := Lib.hid num
                  clear hxn x0 x1 nxt num at0
                  go_wp2_with fail
                  refine (WD.out _).mono ?_
                  rintro e w5 ⟨rfl, rfl⟩
                  go_wp2_with fail
                  refine (NUM.out).mono ?_
                  rintro e w6 ⟨rfl, hb⟩
                  have rd6 := RDX.out.read hb
                  have cl := (rd6.rg.cell 2).trans Msg.g2
                  have cf := rd6.rg.frozen 2
                  have NX := Lib.hid (NXT.out _ rd6)
                  clear hb rd6 RDX NUM NXT
                  go_wp2_with fail
                  go_roundg (S.size - (k + 1))
                  case measure => have := HK.out; omega
                  case rel => exact ⟨k + 1, by have := HK.out; omega, by go_num, _, _, STEP.out, OK1.out, LE1.out, NX.out⟩
                | amount =>
                  have hx : (x.toNat : Int) = 97 := hx
                  have wd0 : ∀ x, Calls Try.prog 55 #[.int .u8 97] x fun e x' => e = .returned (.int .i64 8) ∧ x = x' := (fun x => width_any .amount (fun h => by cases h) 97 rfl x)
                  have WD := Lib.hid wd0
                  clear wd0
                  have num := xnum_b ⟨n + 1, 0, none⟩ s' 8 _ at0 (by omega)
                  have x0 := rdN_nonneg s' 8
                  have x1 : rdN s' 8 < 18446744073709551616 := rdN_lt s' 8
                  obtain ⟨xn, hxn⟩ : ∃ xn, rdN s' 8 = xn := ⟨_, rfl⟩
                  have nxt : ∀ w6, XD n (n + 1) g w m (rdS s' 8) w6 → XD n (n + 1) g w (rdF m s' .amount).1 (rdF m s' .amount).2.1 (w6.setCell ⟨g, 3, none⟩ (.int .u64 xn)) := fun w6 h => by
                    rw [← hxn]; exact h.set 3 _ (Msg.s3 _)
                  rw [hxn] at num x0 x1
                  have NXT := Lib.hid nxt; have NUM := Lib.hid num
                  clear hxn x0 x1 nxt num at0
                  go_wp2_with fail
                  refine (WD.out _).mono ?_
                  rintro e w5 ⟨rfl, rfl⟩
                  go_wp2_with fail
                  refine (NUM.out).mono ?_
                  rintro e w6 ⟨rfl, hb⟩
                  have rd6 := RDX.out.read hb
                  have cl := (rd6.rg.cell 3).trans Msg.g3
                  have cf := rd6.rg.frozen 3
                  have NX := Lib.hid (NXT.out _ rd6)
                  clear hb rd6 RDX NUM NXT
                  go_wp2_with fail
                  go_roundg (S.size - (k + 1))
                  case measure => have := HK.out; omega
                  case rel => exact ⟨k + 1, by have := HK.out; omega, by go_num, _, _, STEP.out, OK1.out, LE1.out, NX.out⟩
                | hash =>
                  have hx : (x.toNat : Int) = 104 := hx
                  have num := xhash_any ⟨n + 1, 0, none⟩ s' _ at0 (by omega)
                  have l32 := (rhH_ok s').1
                  obtain ⟨X, hX⟩ : ∃ X, (ints (rhH s')).toArray = X := ⟨_, rfl⟩
                  have nxt : ∀ w6, XD n (n + 1) g w m (rhS s') w6 → XD n (n + 1) g w (rdF m s' .hash).1 (rdF m s' .hash).2.1 (w6.setCells g 4 X.toList) := fun w6 h => by
                    rw [← hX]; exact h.hash OK.out.h32 (rhH s') l32
                  have s32 : X.size = 32 := by rw [← hX, List.size_toArray, ints_len', l32]
                  have iX : (Try.prog.info? 33).map (·.size) = some X.size := by rw [s32]; kernel_rfl
                  have oX : X.all (·.oneCell') = true := by
                    rw [← hX]
                    refine Array.all_eq_true_iff_forall_mem.2 fun v hv => ?_
                    obtain ⟨x, _, rfl⟩ := List.mem_map.1 (by simpa using hv : v ∈ ints (rhH s'))
                    rfl
                  rw [hX] at num
                  have NXT := Lib.hid nxt; have NUM := Lib.hid num; have S32 := Lib.hid s32
                  clear hX nxt num at0 l32 s32
                  go_wp2_with fail
                  refine (NUM.out).mono ?_
                  rintro e w6 ⟨rfl, hb⟩
                  have rd6 := RDX.out.read hb
                  have th : w6.there g 4 X.size := by rw [S32.out]; exact Msg.there rd6.rg OK.out.h32
                  have NX := Lib.hid (NXT.out _ rd6)
                  clear hb rd6 RDX NUM NXT
                  go_wp2_with (first | (refine wpList_store_mid (x := .tmp 81) (y := .tmp 79) (b := g) (o := 4) (cells := X) (ty := 33) ?_ ?_ ?_ ?_ th iX oX ?_; rfl; rfl; rfl; rfl) | fail)
                  go_roundg (S.size - (k + 1))
                  case measure => have := HK.out; omega
                  case rel => exact ⟨k + 1, by have := HK.out; omega, by go_num, _, _, STEP.out, OK1.out, LE1.out, NX.out⟩
                | expiry =>
                  have hx : (x.toNat : Int) = 101 := hx
                  have wd0 : ∀ x, Calls Try.prog 55 #[.int .u8 101] x fun e x' => e = .returned (.int .i64 4) ∧ x = x' := (fun x => width_any .expiry (fun h => by cases h) 101 rfl x)
                  have WD := Lib.hid wd0
                  clear wd0
                  have num := xnum_b ⟨n + 1, 0, none⟩ s' 4 _ at0 (by omega)
                  have x0 := rdN_nonneg s' 4
                  have x1 : rdN s' 4 < 4294967296 := rdN_lt s' 4
                  obtain ⟨xn, hxn⟩ : ∃ xn, rdN s' 4 = xn := ⟨_, rfl⟩
                  have nxt : ∀ w6, XD n (n + 1) g w m (rdS s' 4) w6 → XD n (n + 1) g w (rdF m s' .expiry).1 (rdF m s' .expiry).2.1 (w6.setCell ⟨g, 36, none⟩ (.int .i64 xn)) := fun w6 h => by
                    rw [← hxn]; exact h.set 36 _ (Msg.s36 OK.out.h32 _)
                  rw [hxn] at num x0 x1
                  have cw : IntKind.i64.wrap xn = xn := IntWalk.i64_in _ (by omega)
                  have NXT := Lib.hid nxt; have NUM := Lib.hid num
                  clear hxn x0 x1 nxt num at0
                  go_wp2_with fail
                  refine (WD.out _).mono ?_
                  rintro e w5 ⟨rfl, rfl⟩
                  go_wp2_with fail
                  refine (NUM.out).mono ?_
                  rintro e w6 ⟨rfl, hb⟩
                  have rd6 := RDX.out.read hb
                  have cl := (rd6.rg.cell 36).trans (Msg.g36 OK.out.h32)
                  have cf := rd6.rg.frozen 36
                  have NX := Lib.hid (NXT.out _ rd6)
                  clear hb rd6 RDX NUM NXT
                  go_wp2_with fail
                  go_roundg (S.size - (k + 1))
                  case measure => have := HK.out; omega
                  case rel => exact ⟨k + 1, by have := HK.out; omega, by go_num, _, _, STEP.out, OK1.out, LE1.out, NX.out⟩
                | number =>
                  have hx : (x.toNat : Int) = 110 := hx
                  have wd0 : ∀ x, Calls Try.prog 55 #[.int .u8 110] x fun e x' => e = .returned (.int .i64 2) ∧ x = x' := (fun x => width_any .number (fun h => by cases h) 110 rfl x)
                  have WD := Lib.hid wd0
                  clear wd0
                  have num := xnum_b ⟨n + 1, 0, none⟩ s' 2 _ at0 (by omega)
                  have x0 := rdN_nonneg s' 2
                  have x1 : rdN s' 2 < 65536 := rdN_lt s' 2
                  obtain ⟨xn, hxn⟩ : ∃ xn, rdN s' 2 = xn := ⟨_, rfl⟩
                  have nxt : ∀ w6, XD n (n + 1) g w m (rdS s' 2) w6 → XD n (n + 1) g w (rdF m s' .number).1 (rdF m s' .number).2.1 (w6.setCell ⟨g, 37, none⟩ (.int .i64 xn)) := fun w6 h => by
                    rw [← hxn]; exact h.set 37 _ (Msg.s37 OK.out.h32 _)
                  rw [hxn] at num x0 x1
                  have cw : IntKind.i64.wrap xn = xn := IntWalk.i64_in _ (by omega)
                  have NXT := Lib.hid nxt; have NUM := Lib.hid num
                  clear hxn x0 x1 nxt num at0
                  go_wp2_with fail
                  refine (WD.out _).mono ?_
                  rintro e w5 ⟨rfl, rfl⟩
                  go_wp2_with fail
                  refine (NUM.out).mono ?_
                  rintro e w6 ⟨rfl, hb⟩
                  have rd6 := RDX.out.read hb
                  have cl := (rd6.rg.cell 37).trans (Msg.g37 OK.out.h32)
                  have cf := rd6.rg.frozen 37
                  have NX := Lib.hid (NXT.out _ rd6)
                  clear hb rd6 RDX NUM NXT
                  go_wp2_with fail
                  go_roundg (S.size - (k + 1))
                  case measure => have := HK.out; omega
                  case rel => exact ⟨k + 1, by have := HK.out; omega, by go_num, _, _, STEP.out, OK1.out, LE1.out, NX.out⟩
              · obtain rfl : k = S.size := by have := HK.out; omega
                have hr := RUN.out
                rw [LSZ.out, List.take_length] at hr
                obtain ⟨b, hb, hbb⟩ := F.out m s' hr
                have MAY := Lib.hid (fun x => rmay_any m OK.out b hb x)
                have rg := rd.rg
                have iR := Msg.rinfo OK.out.h32
                have oR := Msg.one (m := m)
                have zR : (Msg.none 0).row.size = m.row.size := by rw [Msg.size rfl, Msg.size OK.out.h32]
                have FINE := Lib.hid (fun (h : DecOk s m) x (hx : Below n w x) v (hv : v = .tuple #[.agg m.row, .int .i64 0]) => (show DecedX s w (.returned v) x from ⟨.inl ⟨m, h, OK.out, by rw [hv]⟩, by rw [HN.out]; exact hx⟩))
                have HBB := Lib.hid hbb
                have rgn : g ≠ n := by have := rd.np; have := rd.pg; omega
                have GN := Lib.hid (fun x (h : XD n (n + 1) g w m s' x) => h.rn); have GG := Lib.hid (fun x (h : XD n (n + 1) g w m s' x) => h.rg)
                clear hr hb hbb rd ONE F hlt
                generalize m.row = R at *
                generalize (Msg.none 0).row = Z at *
                go_wp2_with (first | (refine wpList_load_row (x := .tmp 11) (ty := 65) (g := g) (cs := R) (t := 65) (fr := (0, 0)) ?_ ?_ ?_ _ rg Try.underlying65 rfl iR ?_; rfl; rfl; rfl) | fail)
                refine (MAY.out _).mono ?_
                rintro e w7 ⟨rfl, b7⟩
                have rd7 := RDX.out.same b7
                have rn7 := GN.out _ rd7
                have rg7 := GG.out _ rd7
                have b8 := fun A => (M.But.refl n w7).setRow (.inl rfl) A |>.below rd7.b (Nat.le_refl _) (Nat.le_of_lt rd7.rn.lt)
                have RDX7 := Lib.hid rd7
                have B8 := Lib.hid b8
                clear rd7 b8 rg b7 RDX GN GG MAY
                rcases HBB.out with ⟨rfl, hd⟩ | ⟨rfl, hd⟩
                · have r1 := rn7.setRow R
                  have F1 := Lib.hid (FINE.out hd _ (B8.out R))
                  clear hd
                  go_wp2_with (first | (refine wpList_load_row (x := .tmp 11) (ty := 65) (g := g) (cs := R) (t := 65) (fr := (0, 0)) ?_ ?_ ?_ _ rg7 Try.underlying65 rfl iR ?_; rfl; rfl; rfl) | (refine wpList_store_row (x := .tmp 2) (y := .tmp 116) (cells := R) (old := Z) (t := 65) (ty := 65) (g := n) ?_ ?_ ?_ ?_ rn7 iR zR oR ?_; rfl; rfl; rfl; rfl) | fail)
                  have hload := run_loadVar_row (P := Try.prog) _ n 65 65 R (0, 0) _ r1 Try.underlying65 rfl iR
                  exact bodyPost_ret (v := .tuple #[.agg R, .int .i64 0]) (by simp [results, Try.results39, asAddr, hload]) rfl (F1.out _ rfl)
                · have r1 := rn7.setRow Z
                  have F1 := Lib.hid (BAD.out 1 _ hd r1 (B8.out Z))
                  clear hd
                  go_wp2_with (first | (refine wpList_build rfl 65 rfl Z bz ?_) | (refine wpList_store_row (x := .tmp 2) (y := .tmp 115) (cells := Z) (old := Z) (t := 65) (ty := 65) (g := n) ?_ ?_ ?_ ?_ rn7 iZ rfl oZ ?_; rfl; rfl; rfl; rfl) | fail)
                  have hload := run_loadVar_row (P := Try.prog) _ n 65 65 Z (0, 0) _ r1 Try.underlying65 rfl iZ
                  exact bodyPost_ret (v := .tuple #[.agg Z, .int .i64 1]) (by simp [results, Try.results39, asAddr, hload]) rfl (F1.out _ rfl)
          · have F := Lib.hid (BAD.out 11 _ (LONG.out hl) r1 B1.out)
            generalize (Msg.none 0).row = Z at *
            have l1 : ¬ (s.size : Int) < C S.size := by omega
            go_wp2_with (first | (refine wpList_build rfl 65 rfl Z bz ?_) | (refine wpList_store_row (x := .tmp 2) (y := .tmp 52) (cells := Z) (old := Z) (t := 65) (ty := 65) (g := n) ?_ ?_ ?_ ?_ rV iZ rfl oZ ?_; rfl; rfl; rfl; rfl) | fail)
            have hload := run_loadVar_row (P := Try.prog) _ n 65 65 Z (0, 0) _ r1 Try.underlying65 rfl iZ
            exact bodyPost_ret (v := .tuple #[.agg Z, .int .i64 11]) (by simp [results, Try.results39, asAddr, hload]) rfl (F.out _ rfl)
    · have hb : DecBad s 70 := .inr (.inl ⟨h1, by rw [hkd]; exact (lets_out hk).2, rfl⟩)
      have b1 : Below n w (V.setRow n (Msg.none 0).row) := (M.But.refl n V).setRow (.inl rfl) _ |>.below bV (Nat.le_refl _) (by omega)
      have r1 := rV.setRow (Msg.none 0).row
      generalize (Msg.none 0).row = Z at *
      rw [nrow] at hV
      have HN := Lib.hid hn; have HV := Lib.hid hV; have B1 := Lib.hid (bad 70 _ hb r1 b1)
      clear hn hV bad bV sV nrow hb b1 hkd
      have two : kd < 1 ∨ (1 ≤ kd ∧ 9 < kd) := by omega
      clear hk
      rcases two with hk | ⟨hk, hk'⟩
      all_goals
        go_enter Try.func39, Try.ntmps39
        go_wp2_with (first | (rw [HN.out, HV.out]) | (refine wpList_build rfl 65 rfl Z bz ?_) | (refine wpList_store_row (x := .tmp 2) (y := .tmp 28) (cells := Z) (old := Z) (t := 65) (ty := 65) (g := n) ?_ ?_ ?_ ?_ rV iZ rfl oZ ?_; rfl; rfl; rfl; rfl) | fail)
        have hload := run_loadVar_row (P := Try.prog) _ n 65 65 Z (0, 0) _ r1 Try.underlying65 rfl iZ
        exact bodyPost_ret (v := .tuple #[.agg Z, .int .i64 70]) (by simp [results, Try.results39, asAddr, hload]) rfl (B1.out _ rfl)
theorem val_inj : ∀ (n : Nat) (a b : List UInt8), a.length = n → b.length = n → val a = val b → a = b
  | 0, a, b, ha, hb, _ => by rw [List.length_eq_zero_iff.1 ha, List.length_eq_zero_iff.1 hb]
  | n + 1, a, b, ha, hb, h => by
    rcases List.eq_nil_or_concat a with rfl | ⟨a', x, rfl⟩
    · cases ha
    rcases List.eq_nil_or_concat b with rfl | ⟨b', y, rfl⟩
    · cases hb
    rw [List.concat_eq_append] at ha h ⊢
    rw [List.concat_eq_append] at hb h ⊢
    rw [val_snoc, val_snoc] at h
    have hx := x.toNat_lt
    have hy := y.toNat_lt
    have e1 : val a' = val b' := by omega
    have e2 : x.toNat = y.toNat := by omega
    rw [List.length_append] at ha hb
    rw [val_inj n a' b' (by simpa using ha) (by simpa using hb) e1, UInt8.toNat_inj.1 e2]
theorem cut_join (s : ByteArray) (k : Nat) (l : List UInt8) (h : k ≤ s.size) (hl : s.data.toList.take k = l) : (⟨l.toArray⟩ : ByteArray) ++ s.extract k s.size = s := by
  apply ByteArray.ext
  apply Array.ext'
  rw [ByteArray.data_append, Array.toList_append, ← hl, ByteArray.data_extract]
  simp
  have e : List.take (s.size - k) (List.drop k s.data.toList) = List.drop k s.data.toList := List.take_of_length_le (by rw [List.length_drop, Array.length_toList]; exact Nat.le_refl _)
  rw [e, List.take_append_drop]
theorem str_arr (l : List Int) : strOfNums l = ⟨(u8s l).toArray⟩ := by
  apply ByteArray.ext; apply Array.ext'; rw [str_list]
theorem rd_bytes {s : ByteArray} {wd : Nat} (h1 : 1 ≤ wd) (h8 : wd ≤ 8) (he : rdE s (wd : Int) = 0) (hl : rdN s (wd : Int) < 2 ^ (8 * (wd : Int)).toNat) : strOfNums (numB (rdN s (wd : Int)) (wd : Int)) ++ rdS s (wd : Int) = s := by
  have hs := rdS_wid h1 h8 he
  rw [numB_low h1 h8 (rdN_nonneg _ _) hl]
  have hn : rdN s (wd : Int) = val (s.data.toList.take wd) := by unfold rdN; rw [if_neg (by omega)]; rfl
  have hS : rdS s (wd : Int) = s.extract wd s.size := by unfold rdS; rw [if_neg (by omega)]; rfl
  have ln : (s.data.toList.take wd).length = wd := by
    rw [List.length_take, Array.length_toList]; have : s.data.size = s.size := rfl; omega
  have hv := val_lt (s.data.toList.take wd)
  rw [ln] at hv
  have e : s.data.toList.take wd = u8s (low (val (s.data.toList.take wd)) wd) := val_inj wd _ _ ln (by simp [u8s, low_len]) (val_low _ _ (val_nonneg _) hv).symm
  rw [hn, hS, str_arr]
  exact cut_join s wd _ (by omega) e
theorem rh_bytes {s : ByteArray} (h : rhE s = 0) : strOfNums (rhH s) ++ rhS s = s := by
  have hs := rhS_wid h
  have h32 : ¬ s.size < 32 := by omega
  unfold rhH rhS
  rw [if_neg h32, if_neg h32, str_arr]
  refine cut_join s 32 _ (by omega) ?_
  unfold u8s bytesOf
  rw [List.map_map]
  have : (fun b : UInt8 => UInt8.ofNat ((b.toNat : Int)).toNat) = id := by funext b; simp
  show _ = List.map (fun b : UInt8 => UInt8.ofNat ((b.toNat : Int)).toNat) _
  rw [this, List.map_id, ByteArray.data_extract]
  simp
theorem rdF_bytes (q : Msg) (s : ByteArray) (f : Fld) (h : (rdF q s f).2.2 = 0) : fbytes (rdF q s f).1 f ++ (rdF q s f).2.1 = s := by
  cases f
  · exact rd_bytes (wd := 4) (by decide) (by decide) h (rdN_lt s 4)
  · exact rd_bytes (wd := 8) (by decide) (by decide) h (rdN_lt s 8)
  · exact rd_bytes (wd := 8) (by decide) (by decide) h (rdN_lt s 8)
  · exact rh_bytes h
  · exact rd_bytes (wd := 4) (by decide) (by decide) h (rdN_lt s 4)
  · exact rd_bytes (wd := 2) (by decide) (by decide) h (rdN_lt s 2)
theorem rdF_far (q : Msg) (s : ByteArray) (f g : Fld) (h : g ≠ f) : fbytes (rdF q s g).1 f = fbytes q f := by
  cases f <;> cases g <;> first | rfl | exact absurd rfl h
theorem rdF_kind (q : Msg) (s : ByteArray) (g : Fld) : (rdF q s g).1.kind = q.kind := by cases g <;> rfl
theorem runs_cons {f : Fld} {r : List Fld} {q q' : Msg × ByteArray} (h : runs q (f :: r) = some q') : (rdF q.1 q.2 f).2.2 = 0 ∧ runs ((rdF q.1 q.2 f).1, (rdF q.1 q.2 f).2.1) r = some q' := by
  have h' : (rd1 q f).bind (fun q' => runs q' r) = some q' := h
  by_cases h0 : (rdF q.1 q.2 f).2.2 = 0
  · unfold rd1 at h'
    rw [if_pos h0] at h'
    exact ⟨h0, h'⟩
  · unfold rd1 at h'
    rw [if_neg h0] at h'
    cases h'
theorem runs_far {f : Fld} : ∀ (r : List Fld) (q q' : Msg × ByteArray), runs q r = some q' → f ∉ r → fbytes q'.1 f = fbytes q.1 f ∧ q'.1.kind = q.1.kind
  | [], q, q', h, _ => by cases h; exact ⟨rfl, rfl⟩
  | g :: r, q, q', h, hn => by
    obtain ⟨h0, h1⟩ := runs_cons h
    obtain ⟨h2, h3⟩ := runs_far r _ q' h1 (fun h => hn (List.mem_cons_of_mem _ h))
    exact ⟨h2.trans (rdF_far _ _ _ _ (fun e => hn (by rw [e]; exact List.mem_cons_self))), h3.trans (rdF_kind _ _ _)⟩
theorem runs_kind : ∀ (r : List Fld) (q q' : Msg × ByteArray), runs q r = some q' → q'.1.kind = q.1.kind
  | [], q, q', h => by cases h; rfl
  | g :: r, q, q', h => by
    obtain ⟨h0, h1⟩ := runs_cons h
    exact (runs_kind r _ q' h1).trans (rdF_kind _ _ _)
theorem runs_back : ∀ (r : List Fld) (q q' : Msg × ByteArray), r.Nodup → runs q r = some q' → bytesL q'.1 r ++ q'.2 = q.2
  | [], q, q', _, h => by cases h; exact empty_app _
  | f :: r, q, q', hn, h => by
    obtain ⟨h0, h1⟩ := runs_cons h
    obtain ⟨n1, n2⟩ := List.nodup_cons.1 hn
    have h2 := runs_back r _ q' n2 h1
    have h3 := (runs_far r _ q' h1 n1).1
    show fbytes q'.1 f ++ bytesL q'.1 r ++ q'.2 = q.2
    rw [app_assoc, h2, h3]
    exact rdF_bytes q.1 q.2 f h0
theorem fields_nodup {k : Int} {fl : List Fld} (h : fieldsOf k = some fl) : fl.Nodup := by
  rcases kinds k with rfl | rfl | rfl | rfl | rfl | rfl | rfl | rfl | rfl | hk
  case inr.inr.inr.inr.inr.inr.inr.inr.inr => rw [(lets_out hk).2] at h; cases h
  all_goals
    obtain rfl := Option.some.inj h
    simp
/-- what was read is written as it was -/
theorem ok_back {s : ByteArray} {m : Msg} (h : DecOk s m) : ∃ fl, fieldsOf m.kind = some fl ∧ MayP m fl ∧ encB m fl = s := by
  obtain ⟨h0, fl, s', h1, h2, h3, gl, g1, g2⟩ := h
  have hk : m.kind = dk s := runs_kind _ _ _ h2
  rw [hk, h1] at g1; cases g1
  refine ⟨fl, by rw [hk]; exact h1, g2, ?_⟩
  have hb := runs_back fl _ _ (fields_nodup h1) h2
  have e' : s' = ⟨#[]⟩ := by apply ByteArray.ext; exact Array.eq_empty_of_size_eq_zero h3
  simp only [e'] at hb
  rw [app_nil] at hb
  have hd : strOfNums (numB (dk s) 1) ++ dr s = s := rd_bytes (wd := 1) (by decide) (by decide) (by unfold rdE; rw [if_neg (by omega), if_neg (by omega)]) (rdN_lt s 1)
  unfold encB
  rw [cat_bytes, hb]
  unfold kindB
  rw [empty_app, hk]
  exact hd
theorem build62 (w : World) : (Instr.build 62 #[]).run Try.prog w = .ok (.agg (Msg.none 0).row) w := by kernel_rfl
set_option maxRecDepth 100000 in
set_option maxHeartbeats 8000000 in
theorem wdec_walk (s : ByteArray) (w : World) : Calls Try.prog 10 #[.string s] w (WFine w) := by
  obtain ⟨n, hn⟩ : ∃ n, w.heap.size = n := ⟨_, rfl⟩
  have SH := Lib.hid (fun x => wshown_any x)
  have HN := Lib.hid hn
  unfold WFine
  rw [hn]
  by_cases hs : 1000 < s.size
  · go_enter Try.func10, Try.ntmps10
    go_wp2_with fail
    refine (SH.out _).mono ?_
    rintro e w1 ⟨rfl, b1⟩
    rw [hn] at b1
    go_wp2
    go_ret
    exact ⟨rfl, b1⟩
  · have D1 := Lib.hid (fun x => dec_any s (by omega) x)
    have D2 := Lib.hid (fun x => rdec_any s (by omega) x)
    have zsz : (Msg.none 0).row.size = 38 := Msg.size rfl
    have z65 : (Try.prog.info? 65).map (·.size) = some (Msg.none 0).row.size := Msg.rinfo rfl
    have z62 : (Try.prog.info? 62).map (·.size) = some (Msg.none 0).row.size := Msg.info rfl
    have oZ : (Msg.none 0).row.all (·.oneCell') = true := Msg.one
    have bz := build62
    have nok : (Msg.none 0).ok := ⟨rfl, fun x hx => by have : x = 0 := List.eq_of_mem_replicate hx; omega, by show _ ≤ (0 : Int); omega, by show (0 : Int) ≤ _; omega, y0, y1, y0, y2, y0, y2, by show _ ≤ (0 : Int); omega, by show (0 : Int) ≤ _; omega, by show _ ≤ (0 : Int); omega, by show (0 : Int) ≤ _; omega⟩
    have eq0 := fun W => msg_eql 62 (.inl rfl) (Msg.none 0) (Msg.none 0) nok nok true ⟨fun _ => rfl, fun _ => rfl⟩ W
    have eq5 := fun W => msg_eql 65 (.inr rfl) (Msg.none 0) (Msg.none 0) nok nok true ⟨fun _ => rfl, fun _ => rfl⟩ W
    have nrow := none_row 0
    obtain ⟨Z, hZ⟩ : ∃ Z, (Msg.none 0).row = Z := ⟨_, rfl⟩
    have DX := Lib.hid (fun w e w' (h : Deced s w e w') => h)
    have DY := Lib.hid (fun w e w' (h : DecedX s w e w') => h)
    unfold Deced at DX
    unfold DecedX at DY
    rw [hZ] at nrow z65 z62 oZ bz eq0 eq5 zsz
    have HZ := Lib.hid hZ
    have al62 : ∀ x : World, ∃ U g, x.heap.size = g ∧ x.alloc (.cells #[.int .i64 0, .int .u32 0, .int .u64 0, .int .u64 0, .int .u8 0, .int .u8 0, .int .u8 0, .int .u8 0, .int .u8 0, .int .u8 0, .int .u8 0, .int .u8 0, .int .u8 0, .int .u8 0, .int .u8 0, .int .u8 0, .int .u8 0, .int .u8 0, .int .u8 0, .int .u8 0, .int .u8 0, .int .u8 0, .int .u8 0, .int .u8 0, .int .u8 0, .int .u8 0, .int .u8 0, .int .u8 0, .int .u8 0, .int .u8 0, .int .u8 0, .int .u8 0, .int .u8 0, .int .u8 0, .int .u8 0, .int .u8 0, .int .i64 0, .int .i64 0] 62) = U ∧ M.RowAt U g 62 Z ∧ Below x.heap.size x U := fun x => ⟨_, _, rfl, rfl, by rw [nrow]; exact M.RowAt.new x 62 _, (Below.refl _ x).alloc (Nat.le_refl _) _⟩
    have al65 : ∀ x : World, ∃ U g, x.heap.size = g ∧ x.alloc (.cells #[.int .i64 0, .int .u32 0, .int .u64 0, .int .u64 0, .int .u8 0, .int .u8 0, .int .u8 0, .int .u8 0, .int .u8 0, .int .u8 0, .int .u8 0, .int .u8 0, .int .u8 0, .int .u8 0, .int .u8 0, .int .u8 0, .int .u8 0, .int .u8 0, .int .u8 0, .int .u8 0, .int .u8 0, .int .u8 0, .int .u8 0, .int .u8 0, .int .u8 0, .int .u8 0, .int .u8 0, .int .u8 0, .int .u8 0, .int .u8 0, .int .u8 0, .int .u8 0, .int .u8 0, .int .u8 0, .int .u8 0, .int .u8 0, .int .i64 0, .int .i64 0] 65) = U ∧ M.RowAt U g 65 Z ∧ Below x.heap.size x U := fun x => ⟨_, _, rfl, rfl, by rw [nrow]; exact M.RowAt.new x 65 _, (Below.refl _ x).alloc (Nat.le_refl _) _⟩
    have A2 := Lib.hid al62; have A5 := Lib.hid al65
    have EQ0 := Lib.hid eq0; have EQ5 := Lib.hid eq5; have BZ := Lib.hid bz
    clear hn nrow hZ al62 al65 eq0 eq5 bz nok
    go_enter Try.func10, Try.ntmps10
    go_wp2_with fail
    refine (SH.out _).mono ?_
    rintro e w1 ⟨rfl, b1⟩
    rw [HN.out] at b1
    have B1 := Lib.hid b1
    have n1 : n ≤ w1.heap.size := by have := b1.size; have := HN.out; omega
    have N1 := Lib.hid n1
    clear b1 n1
    go_wp2_with fail
    refine (D1.out _).mono ?_
    rintro e w2 h2
    rcases h2 with ⟨⟨m, hok, mok, rfl⟩ | ⟨ev, hev, hbad, rfl⟩, b2⟩
    · -- a message
      obtain ⟨U, g, hg, hU, rU, bU⟩ := A2.out w2
      have b3 : Below n w U := (B1.out.trans (b2.mono N1.out)).trans (bU.mono (by have := b2.size; have := N1.out; omega))
      have i62 := Msg.info mok.h32
      have i65 := Msg.rinfo mok.h32
      have oR := Msg.one (m := m)
      have zR : Z.size = m.row.size := by rw [Msg.size mok.h32, zsz]
      have gn : n ≤ g := by have := b2.size; have := N1.out; omega
      have b4 : Below n w (U.setRow g m.row) := (M.But.refl g U).setRow (.inl rfl) m.row |>.below b3 gn (by have := rU.lt; omega)
      have r4 := rU.setRow m.row
      have eq := fun W => msg_eql 65 (.inr rfl) m m mok mok true ⟨fun _ => rfl, fun _ => rfl⟩ W
      obtain ⟨fl, hf, hm, he⟩ := ok_back hok
      have en := fun x => enc_yes m mok fl hf hm x
      rw [he] at en
      have OKM := Lib.hid hok
      have MO := Lib.hid (fun m' (h : DecOk s m') => dec_one h hok)
      have MB := Lib.hid (fun ev (h : DecBad s ev) => dec_ok_bad hok h)
      have EQ := Lib.hid eq; have EN := Lib.hid en
      obtain ⟨R, hR⟩ : ∃ R, m.row = R := ⟨_, rfl⟩
      have MR := Lib.hid (fun m' (h : DecOk s m') => (by rw [dec_one h hok, hR] : m'.row = R))
      rw [hR] at i62 i65 oR zR b4 r4 EQ EN ⊢
      obtain ⟨X, hX⟩ : ∃ X, U.setRow g R = X := ⟨_, rfl⟩
      rw [hX] at b4 r4
      have HG := Lib.hid hg; have HU := Lib.hid hU; have HX := Lib.hid hX; have B4 := Lib.hid b4; have R4 := Lib.hid r4; have GN := Lib.hid gn
      clear eq en he hf hm hok mok hg hU hX b4 r4 b3 b2 bU gn hR B1
      go_wp2_with (first | (rw [HG.out, HU.out]) | (refine wpList_store_row (x := .tmp 3) (y := .tmp 20) (cells := R) (old := Z) (t := 62) (ty := 62) (g := g) ?_ ?_ ?_ ?_ rU i62 zR oR ?_; rfl; rfl; rfl; rfl; rw [HX.out]) | fail)
      refine (D2.out _).mono ?_
      rintro e w5 h5
      rcases h5 with ⟨⟨m', hok', mok', rfl⟩ | ⟨ev', hbad', rfl⟩, b5⟩
      · rw [MR.out m' hok']
        obtain ⟨U', g', hg', hU', rU', bU'⟩ := A5.out w5
        have r6 := (R4.out.call b5).call bU'
        have gg : g' ≠ g := by have := (R4.out.call b5).lt; omega
        have r7 := r6.farRow (b := g') gg R
        have q7 := rU'.setRow R
        have b6 : Below n w U' := (B4.out.trans (b5.mono (by have := R4.out.lt; have := GN.out; omega))).trans (bU'.mono (by have := (R4.out.call b5).lt; have := GN.out; omega))
        have b7 : Below n w (U'.setRow g' R) := (M.But.refl g' U').setRow (.inl rfl) R |>.below b6 (by have := (R4.out.call b5).lt; have := GN.out; omega) (by have := r6.lt; have := GN.out; omega)
        obtain ⟨X', hX'⟩ : ∃ X', U'.setRow g' R = X' := ⟨_, rfl⟩
        rw [hX'] at r7 q7 b7
        have HG' := Lib.hid hg'; have HU' := Lib.hid hU'; have HX' := Lib.hid hX'; have B7 := Lib.hid b7; have R7 := Lib.hid r7; have GL := Lib.hid (show n ≤ X'.heap.size by have := r7.lt; have := GN.out; omega)
        clear hok' mok' hg' hU' hX' bU' b5 b6 b7 r6 gg HG HU HX B4 R4 MO MB MR
        go_wp2_with (first | (rw [HG'.out, HU'.out]) | (refine wpList_store_row (x := .tmp 5) (y := .tmp 25) (cells := R) (old := Z) (t := 65) (ty := 65) (g := g') ?_ ?_ ?_ ?_ rU' i65 zR oR ?_; rfl; rfl; rfl; rfl; rw [HX'.out]) | (refine wpList_load_row_g (x := .tmp 3) (ty := 62) (g := g) (cs := R) (t := 62) (fr := (0, 0)) ?_ ?_ ?_ _ r7 Try.underlying62 rfl i62 ?_; rfl; rfl; rfl) | (refine wpList_load_row_g (x := .tmp 5) (ty := 65) (g := g') (cs := R) (t := 65) (fr := (0, 0)) ?_ ?_ ?_ _ q7 Try.underlying65 rfl i65 ?_; rfl; rfl; rfl) | (refine wpList_neq (x := .tmp 27) (y := .tmp 28) (ty := 65) (t := 65) (A := R) ?_ ?_ R ?_ ?_ true guard65 EQ.out ?_; rfl; rfl; rfl; rfl) | fail)
        refine (EN.out _).mono ?_
        rintro e w8 ⟨rfl, b8⟩
        have B8 := Lib.hid (B7.out.trans (b8.mono GL.out))
        clear b8 r7 q7
        go_wp2_with fail
        go_ret
        exact ⟨rfl, B8.out⟩
      · exact (MB.out ev' hbad').elim
    · -- no message
      obtain ⟨U, g, hg, hU, rU, bU⟩ := A2.out w2
      have b3 : Below n w U := (B1.out.trans (b2.mono N1.out)).trans (bU.mono (by have := b2.size; have := N1.out; omega))
      have gn : n ≤ g := by have := b2.size; have := N1.out; omega
      have b4 : Below n w (U.setRow g Z) := (M.But.refl g U).setRow (.inl rfl) Z |>.below b3 gn (by have := rU.lt; omega)
      have r4 := rU.setRow Z
      have MO := Lib.hid (fun m' (h : DecOk s m') => dec_ok_bad h hbad)
      have MB := Lib.hid (fun ev' (h : DecBad s ev') => bad_one h hbad)
      have hev' : (ev != 0) = true := by simpa using hev
      obtain ⟨X, hX⟩ : ∃ X, U.setRow g Z = X := ⟨_, rfl⟩
      rw [hX] at b4 r4
      rw [HZ.out]
      have HG := Lib.hid hg; have HU := Lib.hid hU; have HX := Lib.hid hX; have B4 := Lib.hid b4; have R4 := Lib.hid r4; have GN := Lib.hid gn
      clear hbad hg hU hX b4 r4 b3 b2 bU gn B1
      go_wp2_with (first | (rw [HG.out, HU.out]) | (refine wpList_store_row (x := .tmp 3) (y := .tmp 20) (cells := Z) (old := Z) (t := 62) (ty := 62) (g := g) ?_ ?_ ?_ ?_ rU z62 rfl oZ ?_; rfl; rfl; rfl; rfl; rw [HX.out]) | fail)
      refine (D2.out _).mono ?_
      rintro e w5 h5
      rcases h5 with ⟨⟨m', hok', mok', rfl⟩ | ⟨ev', hbad', rfl⟩, b5⟩
      · exact (MO.out m' hok').elim
      · rw [HZ.out, MB.out ev' hbad']
        obtain ⟨U', g', hg', hU', rU', bU'⟩ := A5.out w5
        have r6 := (R4.out.call b5).call bU'
        have gg : g' ≠ g := by have := (R4.out.call b5).lt; omega
        have r7 := r6.farRow (b := g') gg Z
        have q7 := rU'.setRow Z
        have b6 : Below n w U' := (B4.out.trans (b5.mono (by have := R4.out.lt; have := GN.out; omega))).trans (bU'.mono (by have := (R4.out.call b5).lt; have := GN.out; omega))
        have b7 : Below n w (U'.setRow g' Z) := (M.But.refl g' U').setRow (.inl rfl) Z |>.below b6 (by have := (R4.out.call b5).lt; have := GN.out; omega) (by have := r6.lt; have := GN.out; omega)
        obtain ⟨X', hX'⟩ : ∃ X', U'.setRow g' Z = X' := ⟨_, rfl⟩
        rw [hX'] at r7 q7 b7
        have HG' := Lib.hid hg'; have HU' := Lib.hid hU'; have HX' := Lib.hid hX'; have B7 := Lib.hid b7
        have bz := BZ.out
        clear hbad' hg' hU' hX' bU' b5 b6 b7 r6 gg HG HU HX B4 R4 MO MB HZ
        go_wp2_with (first | (rw [HG'.out, HU'.out]) | (refine wpList_build rfl 62 rfl Z bz ?_) | (refine wpList_store_row (x := .tmp 5) (y := .tmp 25) (cells := Z) (old := Z) (t := 65) (ty := 65) (g := g') ?_ ?_ ?_ ?_ rU' z65 rfl oZ ?_; rfl; rfl; rfl; rfl; rw [HX'.out]) | (refine wpList_load_row_g (x := .tmp 3) (ty := 62) (g := g) (cs := Z) (t := 62) (fr := (0, 0)) ?_ ?_ ?_ _ r7 Try.underlying62 rfl z62 ?_; rfl; rfl; rfl) | (refine wpList_load_row_g (x := .tmp 5) (ty := 65) (g := g') (cs := Z) (t := 65) (fr := (0, 0)) ?_ ?_ ?_ _ q7 Try.underlying65 rfl z65 ?_; rfl; rfl; rfl) | (refine wpList_neq (x := .tmp 27) (y := .tmp 28) (ty := 65) (t := 65) (A := Z) ?_ ?_ Z ?_ ?_ true guard65 EQ5.out ?_; rfl; rfl; rfl; rfl) | (refine wpList_eql (x := .tmp 37) (y := .tmp 38) (ty := 62) (t := 62) (A := Z) ?_ ?_ Z ?_ ?_ true guard62 EQ0.out ?_; rfl; rfl; rfl; rfl) | fail)
        go_ret
        exact ⟨rfl, B7.out⟩
set_option maxRecDepth 100000 in
theorem walk_WireDecodes (a0 : ByteArray) (_w0 : a0.size ≤ maxLen) {W : World} :
    Calls Try.prog 10 #[.string a0] W (WFine W) :=
  wdec_walk a0 W
end Go.Proofs.Ytiilgkhndfnkgaa
