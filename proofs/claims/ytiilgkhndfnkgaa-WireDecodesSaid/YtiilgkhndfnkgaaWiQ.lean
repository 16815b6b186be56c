/- What a field's function does with a reader: it reads its field, or panics; the conditions are that the blocks are known. -/
import Derived.Test.YtiilgkhndfnkgaaWiP
namespace Go.Proofs.Ytiilgkhndfnkgaa
open Go.RowKit Go.Shelf
set_option linter.unusedVariables false

/-- two blocks may change -/
structure B2 (b p : Nat) (W W' : World) : Prop where
  os : W'.os = W.os
  tape : W'.tape = W.tape
  output : W'.output = W.output
  size : W.heap.size ≤ W'.heap.size
  block : ∀ k, k < W.heap.size → k ≠ b → k ≠ p → W'.heap[k]? = W.heap[k]?
theorem B2.refl (b p : Nat) (W : World) : B2 b p W W := ⟨rfl, rfl, rfl, Nat.le_refl _, fun _ _ _ _ => rfl⟩
theorem B2.trans {b p : Nat} {W W' W'' : World} (h : B2 b p W W') (h' : B2 b p W' W'') : B2 b p W W'' :=
  ⟨h'.os.trans h.os, h'.tape.trans h.tape, h'.output.trans h.output, Nat.le_trans h.size h'.size, fun k hk h1 h2 => (h'.block k (Nat.lt_of_lt_of_le hk h.size) h1 h2).trans (h.block k hk h1 h2)⟩
theorem B2.of_p {b p : Nat} {W W' : World} (h : M.But p W W') : B2 b p W W' := ⟨h.os, h.tape, h.output, h.size, fun k hk _ h2 => h.block k hk h2⟩
theorem B2.of_b {b p : Nat} {W W' : World} (h : M.But b W W') : B2 b p W W' := ⟨h.os, h.tape, h.output, h.size, fun k hk h1 _ => h.block k hk h1⟩
theorem B2.row {b p k : Nat} {W W' : World} {t : TypeId} {C : Array Value} (h : B2 b p W W') (hr : M.RowAt W k t C) (h1 : k ≠ b) (h2 : k ≠ p) : M.RowAt W' k t C := by
  have hl := hr.lt
  unfold M.RowAt at *; rw [h.block k hl h1 h2]; exact hr
theorem B2.below {b p n : Nat} {w W W' : World} (h : B2 b p W W') (hb : Below n w W) (h1 : n ≤ b) (h2 : n ≤ p) (hn : n ≤ W.heap.size) : Below n w W' :=
  ⟨h.os.trans hb.os, h.tape.trans hb.tape, h.output.trans hb.output, Nat.le_trans hb.size h.size, fun k hk => (h.block k (by omega) (by omega) (by omega)).trans (hb.block k hk)⟩
theorem B2.kp {b p lo : Nat} {W W' : World} {tb tp : TypeId} {Db Dp : Array Value} (h : B2 b p W W') (hb : M.RowAt W b tb Db) (hp : M.RowAt W p tp Dp) (h1 : okT tb = false) (h2 : okT tp = false) : Kp lo W W' := fun g t C hT _ hr => by
  refine h.row hr (fun e => ?_) (fun e => ?_)
  · subst e
    have e2 := Option.some.inj (Eq.trans (Eq.symm hr) hb)
    have e3 : t = tb := by injection e2
    rw [e3, h1] at hT; cases hT
  · subst e
    have e2 := Option.some.inj (Eq.trans (Eq.symm hr) hp)
    have e3 : t = tp := by injection e2
    rw [e3, h2] at hT; cases hT
/-- what a field's function leaves with a reader: it read, or it panicked -/
def DidR (b p : Nat) (R R' : Array Value) (s' : ByteArray) (er : Int) (W : World) (e : Ending) (W' : World) : Prop :=
  (er = 0 ∧ e = .returned (.tuple #[]) ∧ M.RowAt W' b 62 R' ∧ M.RowAt W' p 77 #[.string s'] ∧ B2 b p W W') ∨ ((er == 0) = false ∧ e = .panicked [flt er] ∧ M.RowAt W' b 62 R ∧ B2 b p W W')
theorem rdE_two {s : ByteArray} {wd : Int} (h1 : 1 ≤ wd) (h8 : wd ≤ 8) : (rdE s wd = 0 ∧ wd ≤ (s.size : Int)) ∨ (rdE s wd = 10 ∧ (s.size : Int) < wd) := by
  unfold rdE
  rw [if_neg (by omega)]
  by_cases h : (s.size : Int) < wd
  · rw [if_pos h]; exact .inr ⟨rfl, h⟩
  · rw [if_neg h]; exact .inl ⟨rfl, by omega⟩
theorem rdN_nonneg (s : ByteArray) (wd : Int) : 0 ≤ rdN s wd := by
  unfold rdN
  split
  · exact Int.le_refl _
  · exact val_nonneg _
theorem rdN_lt (s : ByteArray) (wd : Nat) : rdN s (wd : Int) < 256 ^ wd := by
  unfold rdN
  split
  · exact Int.pow_pos (by decide)
  · refine Int.lt_of_lt_of_le (val_lt _) ?_
    have hl : (s.data.toList.take ((wd : Int)).toNat).length ≤ wd := by rw [List.length_take]; omega
    obtain ⟨d, hd⟩ := Nat.exists_eq_add_of_le hl
    generalize (s.data.toList.take ((wd : Int)).toNat).length = q at *
    subst hd
    rw [Int.pow_add]
    have h1 : (1 : Int) ≤ 256 ^ d := Int.pow_pos (by decide)
    have h2 : (0 : Int) ≤ 256 ^ q := Int.le_of_lt (Int.pow_pos (by decide))
    have h3 := Int.mul_le_mul_of_nonneg_left h1 h2
    omega
set_option maxRecDepth 100000 in
set_option maxHeartbeats 2000000 in
theorem r_id (m : Msg) (h32 : m.hash.length = 32) (a c b p : Nat) (s : ByteArray) (hs : s.size ≤ 100000) (W : World) (ra : M.RowAt W a 97 #[.func (.func 58) #[] #[]]) (rc : M.RowAt W c 3 #[.int .i64 8]) (rb : M.RowAt W b 62 m.row) (rp : M.RowAt W p 77 #[.string s]) (hpb : p ≠ b) (hcp : c ≠ p) :
    Calls Try.prog 66 #[.agg #[.pointer none, .pointer (some ⟨p, 0, none⟩)], .pointer (some ⟨b, 0, none⟩), .pointer (some ⟨a, 0, none⟩), .pointer (some ⟨c, 0, none⟩)] W (DidR b p m.row { m with id := rdN s 8 }.row (rdS s 8) (rdE s 8) W) := by
  obtain ⟨q, hq⟩ : ∃ q, W.heap.size = q := ⟨_, rfl⟩
  obtain ⟨V, hV⟩ : ∃ V, W.alloc (.cells #[.pointer none, .pointer (some ⟨p, 0, none⟩)] 88) = V := ⟨_, rfl⟩
  have rn : M.RowAt V q 88 #[.pointer none, .pointer (some ⟨p, 0, none⟩)] := by rw [← hV, ← hq]; exact M.RowAt.new W 88 _
  have ra' : M.RowAt V a 97 #[.func (.func 58) #[] #[]] := by rw [← hV]; exact ra.alloc _
  have rc' : M.RowAt V c 3 #[.int .i64 8] := by rw [← hV]; exact rc.alloc _
  have rb' : M.RowAt V b 62 m.row := by rw [← hV]; exact rb.alloc _
  have rp' : M.RowAt V p 77 #[.string s] := by rw [← hV]; exact rp.alloc _
  have bV : M.But p W V := by rw [← hV]; exact (M.But.refl _ _).alloc _
  have c0 := (ra'.cell 0).trans rfl
  have n0 := (rn.cell 0).trans rfl; have n1 := (rn.cell 1).trans rfl
  have w0 := (rc'.cell 0).trans rfl
  have num := rdnum_any ⟨p, 0, none⟩ s 8 V (row_at rp') (by omega)
  have hx0 := rdN_nonneg s 8
  have hx1 : rdN s 8 < 18446744073709551616 := rdN_lt s 8
  have two := rdE_two (s := s) (wd := 8) (by decide) (by decide)
  have aft : ∀ w', Below V.heap.size (V.setCell ⟨p, 0, none⟩ (.string (rdS s 8))) w' → M.RowAt w' b 62 m.row ∧ M.RowAt w' p 77 #[.string (rdS s 8)] ∧ B2 b p W w' := fun w' hb =>
    ⟨(but_written hb).row rb' (fun e => hpb e.symm), row_written rp' hb, B2.of_p (bV.trans (but_written hb))⟩
  have yes : ∀ w', M.RowAt w' b 62 m.row → M.RowAt w' p 77 #[.string (rdS s 8)] → B2 b p W w' → ∀ x, rdN s 8 = x → M.RowAt (w'.setCell ⟨b, 2, none⟩ (.int .u64 x)) b 62 { m with id := x }.row ∧ M.RowAt (w'.setCell ⟨b, 2, none⟩ (.int .u64 x)) p 77 #[.string (rdS s 8)] ∧ B2 b p W (w'.setCell ⟨b, 2, none⟩ (.int .u64 x)) := fun w' h1 h2 h3 x hx => by
    have h4 := h1.set 2 (.int .u64 x)
    rw [Msg.s2] at h4
    exact ⟨h4, h2.far (p := ⟨b, 2, none⟩) (fun e => hpb e.symm) _, h3.trans (B2.of_b ((M.But.refl b w').set (p := ⟨b, 2, none⟩) (.inl rfl) _))⟩
  have cel : ∀ w', M.RowAt w' b 62 m.row → w'.cell? ⟨b, 2, none⟩ = some _ ∧ w'.frozen? ⟨b, 2, none⟩ = false := fun w' h => ⟨(h.cell 2).trans (Msg.g2), h.frozen 2⟩
  have HQ := Lib.hid hq; have HV := Lib.hid hV; have NUM := Lib.hid num; have AFT := Lib.hid aft; have YES := Lib.hid yes; have CEL := Lib.hid cel
  have MU := Lib.hid (fun x => must_ok x)
  have ME := Lib.hid (fun x => must_err 10 rfl x)
  unfold DidR
  generalize rdS s 8 = s' at *
  clear num aft yes cel hq hV rn ra' rc' rb' rp' bV ra rc rb rp hpb hcp hs
  rcases two with ⟨e0, _⟩ | ⟨e0, _⟩
  · rw [e0] at NUM ⊢
    obtain ⟨x, hx⟩ : ∃ x, rdN s 8 = x := ⟨_, rfl⟩
    rw [hx] at NUM hx0 hx1 ⊢
    have HX := Lib.hid hx
    clear hx
    have HX0 := Lib.hid hx0; have HX1 := Lib.hid hx1
    clear hx0 hx1 e0
    go_enter Try.func66, Try.ntmps66
    go_wp2_with (first | (rw [HQ.out, HV.out]) | ((with_reducible refine (NUM.out).mono ?_); rintro e w1 ⟨rfl, hb⟩) | (go_at_call 58; go_in))
    obtain ⟨h1, h2, h3⟩ := AFT.out _ hb
    obtain ⟨cl, cf⟩ := CEL.out _ h1
    have FIN := Lib.hid (YES.out _ h1 h2 h3 x HX.out)
    clear hb h1 h2 h3
    go_wp2_with fail
    refine (MU.out _).mono ?_
    rintro e w2 ⟨rfl, rfl⟩
    go_wp2
    go_end0
    exact .inl ⟨by first | rfl | trivial, rfl, FIN.out⟩
  · rw [e0] at NUM ⊢
    generalize rdN s 8 = x at *
    clear hx0 hx1 e0
    go_enter Try.func66, Try.ntmps66
    go_wp2_with (first | (rw [HQ.out, HV.out]) | ((with_reducible refine (NUM.out).mono ?_); rintro e w1 ⟨rfl, hb⟩) | (go_at_call 58; go_in))
    obtain ⟨h1, h2, h3⟩ := AFT.out _ hb
    have FIN := Lib.hid (And.intro h1 h3)
    clear hb h1 h2 h3
    go_wp2_with fail
    refine (ME.out _).mono ?_
    rintro e w2 ⟨rfl, rfl⟩
    exact ⟨rfl, .inr ⟨rfl, rfl, FIN.out⟩⟩
set_option maxRecDepth 100000 in
set_option maxHeartbeats 2000000 in
theorem r_amount (m : Msg) (h32 : m.hash.length = 32) (a c b p : Nat) (s : ByteArray) (hs : s.size ≤ 100000) (W : World) (ra : M.RowAt W a 97 #[.func (.func 59) #[] #[]]) (rc : M.RowAt W c 3 #[.int .i64 8]) (rb : M.RowAt W b 62 m.row) (rp : M.RowAt W p 77 #[.string s]) (hpb : p ≠ b) (hcp : c ≠ p) :
    Calls Try.prog 66 #[.agg #[.pointer none, .pointer (some ⟨p, 0, none⟩)], .pointer (some ⟨b, 0, none⟩), .pointer (some ⟨a, 0, none⟩), .pointer (some ⟨c, 0, none⟩)] W (DidR b p m.row { m with amount := rdN s 8 }.row (rdS s 8) (rdE s 8) W) := by
  obtain ⟨q, hq⟩ : ∃ q, W.heap.size = q := ⟨_, rfl⟩
  obtain ⟨V, hV⟩ : ∃ V, W.alloc (.cells #[.pointer none, .pointer (some ⟨p, 0, none⟩)] 88) = V := ⟨_, rfl⟩
  have rn : M.RowAt V q 88 #[.pointer none, .pointer (some ⟨p, 0, none⟩)] := by rw [← hV, ← hq]; exact M.RowAt.new W 88 _
  have ra' : M.RowAt V a 97 #[.func (.func 59) #[] #[]] := by rw [← hV]; exact ra.alloc _
  have rc' : M.RowAt V c 3 #[.int .i64 8] := by rw [← hV]; exact rc.alloc _
  have rb' : M.RowAt V b 62 m.row := by rw [← hV]; exact rb.alloc _
  have rp' : M.RowAt V p 77 #[.string s] := by rw [← hV]; exact rp.alloc _
  have bV : M.But p W V := by rw [← hV]; exact (M.But.refl _ _).alloc _
  have c0 := (ra'.cell 0).trans rfl
  have n0 := (rn.cell 0).trans rfl; have n1 := (rn.cell 1).trans rfl
  have w0 := (rc'.cell 0).trans rfl
  have num := rdnum_any ⟨p, 0, none⟩ s 8 V (row_at rp') (by omega)
  have hx0 := rdN_nonneg s 8
  have hx1 : rdN s 8 < 18446744073709551616 := rdN_lt s 8
  have two := rdE_two (s := s) (wd := 8) (by decide) (by decide)
  have aft : ∀ w', Below V.heap.size (V.setCell ⟨p, 0, none⟩ (.string (rdS s 8))) w' → M.RowAt w' b 62 m.row ∧ M.RowAt w' p 77 #[.string (rdS s 8)] ∧ B2 b p W w' := fun w' hb =>
    ⟨(but_written hb).row rb' (fun e => hpb e.symm), row_written rp' hb, B2.of_p (bV.trans (but_written hb))⟩
  have yes : ∀ w', M.RowAt w' b 62 m.row → M.RowAt w' p 77 #[.string (rdS s 8)] → B2 b p W w' → ∀ x, rdN s 8 = x → M.RowAt (w'.setCell ⟨b, 3, none⟩ (.int .u64 x)) b 62 { m with amount := x }.row ∧ M.RowAt (w'.setCell ⟨b, 3, none⟩ (.int .u64 x)) p 77 #[.string (rdS s 8)] ∧ B2 b p W (w'.setCell ⟨b, 3, none⟩ (.int .u64 x)) := fun w' h1 h2 h3 x hx => by
    have h4 := h1.set 3 (.int .u64 x)
    rw [Msg.s3] at h4
    exact ⟨h4, h2.far (p := ⟨b, 3, none⟩) (fun e => hpb e.symm) _, h3.trans (B2.of_b ((M.But.refl b w').set (p := ⟨b, 3, none⟩) (.inl rfl) _))⟩
  have cel : ∀ w', M.RowAt w' b 62 m.row → w'.cell? ⟨b, 3, none⟩ = some _ ∧ w'.frozen? ⟨b, 3, none⟩ = false := fun w' h => ⟨(h.cell 3).trans (Msg.g3), h.frozen 3⟩
  have HQ := Lib.hid hq; have HV := Lib.hid hV; have NUM := Lib.hid num; have AFT := Lib.hid aft; have YES := Lib.hid yes; have CEL := Lib.hid cel
  have MU := Lib.hid (fun x => must_ok x)
  have ME := Lib.hid (fun x => must_err 10 rfl x)
  unfold DidR
  generalize rdS s 8 = s' at *
  clear num aft yes cel hq hV rn ra' rc' rb' rp' bV ra rc rb rp hpb hcp hs
  rcases two with ⟨e0, _⟩ | ⟨e0, _⟩
  · rw [e0] at NUM ⊢
    obtain ⟨x, hx⟩ : ∃ x, rdN s 8 = x := ⟨_, rfl⟩
    rw [hx] at NUM hx0 hx1 ⊢
    have HX := Lib.hid hx
    clear hx
    have HX0 := Lib.hid hx0; have HX1 := Lib.hid hx1
    clear hx0 hx1 e0
    go_enter Try.func66, Try.ntmps66
    go_wp2_with (first | (rw [HQ.out, HV.out]) | ((with_reducible refine (NUM.out).mono ?_); rintro e w1 ⟨rfl, hb⟩) | (go_at_call 59; go_in))
    obtain ⟨h1, h2, h3⟩ := AFT.out _ hb
    obtain ⟨cl, cf⟩ := CEL.out _ h1
    have FIN := Lib.hid (YES.out _ h1 h2 h3 x HX.out)
    clear hb h1 h2 h3
    go_wp2_with fail
    refine (MU.out _).mono ?_
    rintro e w2 ⟨rfl, rfl⟩
    go_wp2
    go_end0
    exact .inl ⟨by first | rfl | trivial, rfl, FIN.out⟩
  · rw [e0] at NUM ⊢
    generalize rdN s 8 = x at *
    clear hx0 hx1 e0
    go_enter Try.func66, Try.ntmps66
    go_wp2_with (first | (rw [HQ.out, HV.out]) | ((with_reducible refine (NUM.out).mono ?_); rintro e w1 ⟨rfl, hb⟩) | (go_at_call 59; go_in))
    obtain ⟨h1, h2, h3⟩ := AFT.out _ hb
    have FIN := Lib.hid (And.intro h1 h3)
    clear hb h1 h2 h3
    go_wp2_with fail
    refine (ME.out _).mono ?_
    rintro e w2 ⟨rfl, rfl⟩
    exact ⟨rfl, .inr ⟨rfl, rfl, FIN.out⟩⟩
set_option maxRecDepth 100000 in
set_option maxHeartbeats 2000000 in
theorem r_expiry (m : Msg) (h32 : m.hash.length = 32) (a c b p : Nat) (s : ByteArray) (hs : s.size ≤ 100000) (W : World) (ra : M.RowAt W a 100 #[.func (.func 61) #[] #[]]) (rc : M.RowAt W c 3 #[.int .i64 4]) (rb : M.RowAt W b 62 m.row) (rp : M.RowAt W p 77 #[.string s]) (hpb : p ≠ b) (hcp : c ≠ p) :
    Calls Try.prog 67 #[.agg #[.pointer none, .pointer (some ⟨p, 0, none⟩)], .pointer (some ⟨b, 0, none⟩), .pointer (some ⟨a, 0, none⟩), .pointer (some ⟨c, 0, none⟩)] W (DidR b p m.row { m with expiry := rdN s 4 }.row (rdS s 4) (rdE s 4) W) := by
  obtain ⟨q, hq⟩ : ∃ q, W.heap.size = q := ⟨_, rfl⟩
  obtain ⟨V, hV⟩ : ∃ V, W.alloc (.cells #[.pointer none, .pointer (some ⟨p, 0, none⟩)] 88) = V := ⟨_, rfl⟩
  have rn : M.RowAt V q 88 #[.pointer none, .pointer (some ⟨p, 0, none⟩)] := by rw [← hV, ← hq]; exact M.RowAt.new W 88 _
  have ra' : M.RowAt V a 100 #[.func (.func 61) #[] #[]] := by rw [← hV]; exact ra.alloc _
  have rc' : M.RowAt V c 3 #[.int .i64 4] := by rw [← hV]; exact rc.alloc _
  have rb' : M.RowAt V b 62 m.row := by rw [← hV]; exact rb.alloc _
  have rp' : M.RowAt V p 77 #[.string s] := by rw [← hV]; exact rp.alloc _
  have bV : M.But p W V := by rw [← hV]; exact (M.But.refl _ _).alloc _
  have c0 := (ra'.cell 0).trans rfl
  have n0 := (rn.cell 0).trans rfl; have n1 := (rn.cell 1).trans rfl
  have w0 := (rc'.cell 0).trans rfl
  have num := rdnum_any ⟨p, 0, none⟩ s 4 V (row_at rp') (by omega)
  have hx0 := rdN_nonneg s 4
  have hx1 : rdN s 4 < 4294967296 := rdN_lt s 4
  have two := rdE_two (s := s) (wd := 4) (by decide) (by decide)
  have aft : ∀ w', Below V.heap.size (V.setCell ⟨p, 0, none⟩ (.string (rdS s 4))) w' → M.RowAt w' b 62 m.row ∧ M.RowAt w' p 77 #[.string (rdS s 4)] ∧ B2 b p W w' := fun w' hb =>
    ⟨(but_written hb).row rb' (fun e => hpb e.symm), row_written rp' hb, B2.of_p (bV.trans (but_written hb))⟩
  have yes : ∀ w', M.RowAt w' b 62 m.row → M.RowAt w' p 77 #[.string (rdS s 4)] → B2 b p W w' → ∀ x, rdN s 4 = x → M.RowAt (w'.setCell ⟨b, 36, none⟩ (.int .i64 x)) b 62 { m with expiry := x }.row ∧ M.RowAt (w'.setCell ⟨b, 36, none⟩ (.int .i64 x)) p 77 #[.string (rdS s 4)] ∧ B2 b p W (w'.setCell ⟨b, 36, none⟩ (.int .i64 x)) := fun w' h1 h2 h3 x hx => by
    have h4 := h1.set 36 (.int .i64 x)
    rw [Msg.s36 h32] at h4
    exact ⟨h4, h2.far (p := ⟨b, 36, none⟩) (fun e => hpb e.symm) _, h3.trans (B2.of_b ((M.But.refl b w').set (p := ⟨b, 36, none⟩) (.inl rfl) _))⟩
  have cel : ∀ w', M.RowAt w' b 62 m.row → w'.cell? ⟨b, 36, none⟩ = some _ ∧ w'.frozen? ⟨b, 36, none⟩ = false := fun w' h => ⟨(h.cell 36).trans (Msg.g36 h32), h.frozen 36⟩
  have HQ := Lib.hid hq; have HV := Lib.hid hV; have NUM := Lib.hid num; have AFT := Lib.hid aft; have YES := Lib.hid yes; have CEL := Lib.hid cel
  have MU := Lib.hid (fun x => must_ok x)
  have ME := Lib.hid (fun x => must_err 10 rfl x)
  unfold DidR
  generalize rdS s 4 = s' at *
  clear num aft yes cel hq hV rn ra' rc' rb' rp' bV ra rc rb rp hpb hcp hs
  rcases two with ⟨e0, _⟩ | ⟨e0, _⟩
  · rw [e0] at NUM ⊢
    obtain ⟨x, hx⟩ : ∃ x, rdN s 4 = x := ⟨_, rfl⟩
    rw [hx] at NUM hx0 hx1 ⊢
    have HX := Lib.hid hx
    clear hx
    have cw : IntKind.i64.wrap x = x := IntWalk.i64_in _ (by omega)
    have HX0 := Lib.hid hx0; have HX1 := Lib.hid hx1
    clear hx0 hx1 e0
    go_enter Try.func67, Try.ntmps67
    go_wp2_with (first | (rw [HQ.out, HV.out]) | ((with_reducible refine (NUM.out).mono ?_); rintro e w1 ⟨rfl, hb⟩) | (go_at_call 61; go_in))
    obtain ⟨h1, h2, h3⟩ := AFT.out _ hb
    obtain ⟨cl, cf⟩ := CEL.out _ h1
    have FIN := Lib.hid (YES.out _ h1 h2 h3 x HX.out)
    clear hb h1 h2 h3
    go_wp2_with fail
    refine (MU.out _).mono ?_
    rintro e w2 ⟨rfl, rfl⟩
    go_wp2
    go_end0
    exact .inl ⟨by first | rfl | trivial, rfl, FIN.out⟩
  · rw [e0] at NUM ⊢
    generalize rdN s 4 = x at *
    clear hx0 hx1 e0
    go_enter Try.func67, Try.ntmps67
    go_wp2_with (first | (rw [HQ.out, HV.out]) | ((with_reducible refine (NUM.out).mono ?_); rintro e w1 ⟨rfl, hb⟩) | (go_at_call 61; go_in))
    obtain ⟨h1, h2, h3⟩ := AFT.out _ hb
    have FIN := Lib.hid (And.intro h1 h3)
    clear hb h1 h2 h3
    go_wp2_with fail
    refine (ME.out _).mono ?_
    rintro e w2 ⟨rfl, rfl⟩
    exact ⟨rfl, .inr ⟨rfl, rfl, FIN.out⟩⟩
set_option maxRecDepth 100000 in
set_option maxHeartbeats 2000000 in
theorem r_number (m : Msg) (h32 : m.hash.length = 32) (a c b p : Nat) (s : ByteArray) (hs : s.size ≤ 100000) (W : World) (ra : M.RowAt W a 100 #[.func (.func 62) #[] #[]]) (rc : M.RowAt W c 3 #[.int .i64 2]) (rb : M.RowAt W b 62 m.row) (rp : M.RowAt W p 77 #[.string s]) (hpb : p ≠ b) (hcp : c ≠ p) :
    Calls Try.prog 67 #[.agg #[.pointer none, .pointer (some ⟨p, 0, none⟩)], .pointer (some ⟨b, 0, none⟩), .pointer (some ⟨a, 0, none⟩), .pointer (some ⟨c, 0, none⟩)] W (DidR b p m.row { m with number := rdN s 2 }.row (rdS s 2) (rdE s 2) W) := by
  obtain ⟨q, hq⟩ : ∃ q, W.heap.size = q := ⟨_, rfl⟩
  obtain ⟨V, hV⟩ : ∃ V, W.alloc (.cells #[.pointer none, .pointer (some ⟨p, 0, none⟩)] 88) = V := ⟨_, rfl⟩
  have rn : M.RowAt V q 88 #[.pointer none, .pointer (some ⟨p, 0, none⟩)] := by rw [← hV, ← hq]; exact M.RowAt.new W 88 _
  have ra' : M.RowAt V a 100 #[.func (.func 62) #[] #[]] := by rw [← hV]; exact ra.alloc _
  have rc' : M.RowAt V c 3 #[.int .i64 2] := by rw [← hV]; exact rc.alloc _
  have rb' : M.RowAt V b 62 m.row := by rw [← hV]; exact rb.alloc _
  have rp' : M.RowAt V p 77 #[.string s] := by rw [← hV]; exact rp.alloc _
  have bV : M.But p W V := by rw [← hV]; exact (M.But.refl _ _).alloc _
  have c0 := (ra'.cell 0).trans rfl
  have n0 := (rn.cell 0).trans rfl; have n1 := (rn.cell 1).trans rfl
  have w0 := (rc'.cell 0).trans rfl
  have num := rdnum_any ⟨p, 0, none⟩ s 2 V (row_at rp') (by omega)
  have hx0 := rdN_nonneg s 2
  have hx1 : rdN s 2 < 65536 := rdN_lt s 2
  have two := rdE_two (s := s) (wd := 2) (by decide) (by decide)
  have aft : ∀ w', Below V.heap.size (V.setCell ⟨p, 0, none⟩ (.string (rdS s 2))) w' → M.RowAt w' b 62 m.row ∧ M.RowAt w' p 77 #[.string (rdS s 2)] ∧ B2 b p W w' := fun w' hb =>
    ⟨(but_written hb).row rb' (fun e => hpb e.symm), row_written rp' hb, B2.of_p (bV.trans (but_written hb))⟩
  have yes : ∀ w', M.RowAt w' b 62 m.row → M.RowAt w' p 77 #[.string (rdS s 2)] → B2 b p W w' → ∀ x, rdN s 2 = x → M.RowAt (w'.setCell ⟨b, 37, none⟩ (.int .i64 x)) b 62 { m with number := x }.row ∧ M.RowAt (w'.setCell ⟨b, 37, none⟩ (.int .i64 x)) p 77 #[.string (rdS s 2)] ∧ B2 b p W (w'.setCell ⟨b, 37, none⟩ (.int .i64 x)) := fun w' h1 h2 h3 x hx => by
    have h4 := h1.set 37 (.int .i64 x)
    rw [Msg.s37 h32] at h4
    exact ⟨h4, h2.far (p := ⟨b, 37, none⟩) (fun e => hpb e.symm) _, h3.trans (B2.of_b ((M.But.refl b w').set (p := ⟨b, 37, none⟩) (.inl rfl) _))⟩
  have cel : ∀ w', M.RowAt w' b 62 m.row → w'.cell? ⟨b, 37, none⟩ = some _ ∧ w'.frozen? ⟨b, 37, none⟩ = false := fun w' h => ⟨(h.cell 37).trans (Msg.g37 h32), h.frozen 37⟩
  have HQ := Lib.hid hq; have HV := Lib.hid hV; have NUM := Lib.hid num; have AFT := Lib.hid aft; have YES := Lib.hid yes; have CEL := Lib.hid cel
  have MU := Lib.hid (fun x => must_ok x)
  have ME := Lib.hid (fun x => must_err 10 rfl x)
  unfold DidR
  generalize rdS s 2 = s' at *
  clear num aft yes cel hq hV rn ra' rc' rb' rp' bV ra rc rb rp hpb hcp hs
  rcases two with ⟨e0, _⟩ | ⟨e0, _⟩
  · rw [e0] at NUM ⊢
    obtain ⟨x, hx⟩ : ∃ x, rdN s 2 = x := ⟨_, rfl⟩
    rw [hx] at NUM hx0 hx1 ⊢
    have HX := Lib.hid hx
    clear hx
    have cw : IntKind.i64.wrap x = x := IntWalk.i64_in _ (by omega)
    have HX0 := Lib.hid hx0; have HX1 := Lib.hid hx1
    clear hx0 hx1 e0
    go_enter Try.func67, Try.ntmps67
    go_wp2_with (first | (rw [HQ.out, HV.out]) | ((with_reducible refine (NUM.out).mono ?_); rintro e w1 ⟨rfl, hb⟩) | (go_at_call 62; go_in))
    obtain ⟨h1, h2, h3⟩ := AFT.out _ hb
    obtain ⟨cl, cf⟩ := CEL.out _ h1
    have FIN := Lib.hid (YES.out _ h1 h2 h3 x HX.out)
    clear hb h1 h2 h3
    go_wp2_with fail
    refine (MU.out _).mono ?_
    rintro e w2 ⟨rfl, rfl⟩
    go_wp2
    go_end0
    exact .inl ⟨by first | rfl | trivial, rfl, FIN.out⟩
  · rw [e0] at NUM ⊢
    generalize rdN s 2 = x at *
    clear hx0 hx1 e0
    go_enter Try.func67, Try.ntmps67
    go_wp2_with (first | (rw [HQ.out, HV.out]) | ((with_reducible refine (NUM.out).mono ?_); rintro e w1 ⟨rfl, hb⟩) | (go_at_call 62; go_in))
    obtain ⟨h1, h2, h3⟩ := AFT.out _ hb
    have FIN := Lib.hid (And.intro h1 h3)
    clear hb h1 h2 h3
    go_wp2_with fail
    refine (ME.out _).mono ?_
    rintro e w2 ⟨rfl, rfl⟩
    exact ⟨rfl, .inr ⟨rfl, rfl, FIN.out⟩⟩
set_option maxRecDepth 100000 in
set_option maxHeartbeats 2000000 in
theorem r_chan (m : Msg) (h32 : m.hash.length = 32) (a c b p : Nat) (s : ByteArray) (hs : s.size ≤ 100000) (W : World) (ra : M.RowAt W a 108 #[.func (.func 69) #[] #[]]) (rc : M.RowAt W c 3 #[.int .i64 4]) (rb : M.RowAt W b 62 m.row) (rp : M.RowAt W p 77 #[.string s]) (hpb : p ≠ b) (hcp : c ≠ p) :
    Calls Try.prog 70 #[.agg #[.pointer none, .pointer (some ⟨p, 0, none⟩)], .pointer (some ⟨b, 0, none⟩), .pointer (some ⟨a, 0, none⟩), .pointer (some ⟨c, 0, none⟩)] W (DidR b p m.row { m with chan := rdN s 4 }.row (rdS s 4) (rdE s 4) W) := by
  obtain ⟨q, hq⟩ : ∃ q, W.heap.size = q := ⟨_, rfl⟩
  obtain ⟨V, hV⟩ : ∃ V, W.alloc (.cells #[.pointer none, .pointer (some ⟨p, 0, none⟩)] 88) = V := ⟨_, rfl⟩
  have rn : M.RowAt V q 88 #[.pointer none, .pointer (some ⟨p, 0, none⟩)] := by rw [← hV, ← hq]; exact M.RowAt.new W 88 _
  have ra' : M.RowAt V a 108 #[.func (.func 69) #[] #[]] := by rw [← hV]; exact ra.alloc _
  have rc' : M.RowAt V c 3 #[.int .i64 4] := by rw [← hV]; exact rc.alloc _
  have rb' : M.RowAt V b 62 m.row := by rw [← hV]; exact rb.alloc _
  have rp' : M.RowAt V p 77 #[.string s] := by rw [← hV]; exact rp.alloc _
  have bV : M.But p W V := by rw [← hV]; exact (M.But.refl _ _).alloc _
  have c0 := (ra'.cell 0).trans rfl
  have n0 := (rn.cell 0).trans rfl; have n1 := (rn.cell 1).trans rfl
  have w0 := (rc'.cell 0).trans rfl
  have num := rdnum_any ⟨p, 0, none⟩ s 4 V (row_at rp') (by omega)
  have hx0 := rdN_nonneg s 4
  have hx1 : rdN s 4 < 4294967296 := rdN_lt s 4
  have two := rdE_two (s := s) (wd := 4) (by decide) (by decide)
  have aft : ∀ w', Below V.heap.size (V.setCell ⟨p, 0, none⟩ (.string (rdS s 4))) w' → M.RowAt w' b 62 m.row ∧ M.RowAt w' p 77 #[.string (rdS s 4)] ∧ B2 b p W w' := fun w' hb =>
    ⟨(but_written hb).row rb' (fun e => hpb e.symm), row_written rp' hb, B2.of_p (bV.trans (but_written hb))⟩
  have yes : ∀ w', M.RowAt w' b 62 m.row → M.RowAt w' p 77 #[.string (rdS s 4)] → B2 b p W w' → ∀ x, rdN s 4 = x → M.RowAt (w'.setCell ⟨b, 1, none⟩ (.int .u32 x)) b 62 { m with chan := x }.row ∧ M.RowAt (w'.setCell ⟨b, 1, none⟩ (.int .u32 x)) p 77 #[.string (rdS s 4)] ∧ B2 b p W (w'.setCell ⟨b, 1, none⟩ (.int .u32 x)) := fun w' h1 h2 h3 x hx => by
    have h4 := h1.set 1 (.int .u32 x)
    rw [Msg.s1] at h4
    exact ⟨h4, h2.far (p := ⟨b, 1, none⟩) (fun e => hpb e.symm) _, h3.trans (B2.of_b ((M.But.refl b w').set (p := ⟨b, 1, none⟩) (.inl rfl) _))⟩
  have cel : ∀ w', M.RowAt w' b 62 m.row → w'.cell? ⟨b, 1, none⟩ = some _ ∧ w'.frozen? ⟨b, 1, none⟩ = false := fun w' h => ⟨(h.cell 1).trans (Msg.g1), h.frozen 1⟩
  have HQ := Lib.hid hq; have HV := Lib.hid hV; have NUM := Lib.hid num; have AFT := Lib.hid aft; have YES := Lib.hid yes; have CEL := Lib.hid cel
  have MU := Lib.hid (fun x => must_ok x)
  have ME := Lib.hid (fun x => must_err 10 rfl x)
  unfold DidR
  generalize rdS s 4 = s' at *
  clear num aft yes cel hq hV rn ra' rc' rb' rp' bV ra rc rb rp hpb hcp hs
  rcases two with ⟨e0, _⟩ | ⟨e0, _⟩
  · rw [e0] at NUM ⊢
    obtain ⟨x, hx⟩ : ∃ x, rdN s 4 = x := ⟨_, rfl⟩
    rw [hx] at NUM hx0 hx1 ⊢
    have HX := Lib.hid hx
    clear hx
    have cw : IntKind.u32.wrap x = x := by rw [IntKind.wrap_u32]; omega
    have HX0 := Lib.hid hx0; have HX1 := Lib.hid hx1
    clear hx0 hx1 e0
    go_enter Try.func70, Try.ntmps70
    go_wp2_with (first | (rw [HQ.out, HV.out]) | ((with_reducible refine (NUM.out).mono ?_); rintro e w1 ⟨rfl, hb⟩) | (go_at_call 69; go_in))
    obtain ⟨h1, h2, h3⟩ := AFT.out _ hb
    obtain ⟨cl, cf⟩ := CEL.out _ h1
    have FIN := Lib.hid (YES.out _ h1 h2 h3 x HX.out)
    clear hb h1 h2 h3
    go_wp2_with fail
    refine (MU.out _).mono ?_
    rintro e w2 ⟨rfl, rfl⟩
    go_wp2
    go_end0
    exact .inl ⟨by first | rfl | trivial, rfl, FIN.out⟩
  · rw [e0] at NUM ⊢
    generalize rdN s 4 = x at *
    clear hx0 hx1 e0
    go_enter Try.func70, Try.ntmps70
    go_wp2_with (first | (rw [HQ.out, HV.out]) | ((with_reducible refine (NUM.out).mono ?_); rintro e w1 ⟨rfl, hb⟩) | (go_at_call 69; go_in))
    obtain ⟨h1, h2, h3⟩ := AFT.out _ hb
    have FIN := Lib.hid (And.intro h1 h3)
    clear hb h1 h2 h3
    go_wp2_with fail
    refine (ME.out _).mono ?_
    rintro e w2 ⟨rfl, rfl⟩
    exact ⟨rfl, .inr ⟨rfl, rfl, FIN.out⟩⟩
set_option maxRecDepth 100000 in
set_option maxHeartbeats 2000000 in
theorem r_hash (m : Msg) (h32 : m.hash.length = 32) (b p : Nat) (s : ByteArray) (hs : s.size ≤ 100000) (W : World) (rb : M.RowAt W b 62 m.row) (rp : M.RowAt W p 77 #[.string s]) (hpb : p ≠ b) :
    Calls Try.prog 64 #[.agg #[.pointer none, .pointer (some ⟨p, 0, none⟩)], .pointer (some ⟨b, 0, none⟩)] W (DidR b p m.row { m with hash := rhH s }.row (rhS s) (rhE s) W) := by
  obtain ⟨q, hq⟩ : ∃ q, W.heap.size = q := ⟨_, rfl⟩
  obtain ⟨V, hV⟩ : ∃ V, W.alloc (.cells #[.pointer none, .pointer (some ⟨p, 0, none⟩)] 88) = V := ⟨_, rfl⟩
  have rn : M.RowAt V q 88 #[.pointer none, .pointer (some ⟨p, 0, none⟩)] := by rw [← hV, ← hq]; exact M.RowAt.new W 88 _
  have rb' : M.RowAt V b 62 m.row := by rw [← hV]; exact rb.alloc _
  have rp' : M.RowAt V p 77 #[.string s] := by rw [← hV]; exact rp.alloc _
  have bV : M.But p W V := by rw [← hV]; exact (M.But.refl _ _).alloc _
  have n0 := (rn.cell 0).trans rfl; have n1 := (rn.cell 1).trans rfl
  have num := rdhash_any ⟨p, 0, none⟩ s V (row_at rp') (by omega)
  have aft : ∀ w', Below V.heap.size (V.setCell ⟨p, 0, none⟩ (.string (rhS s))) w' → M.RowAt w' b 62 m.row ∧ M.RowAt w' p 77 #[.string (rhS s)] ∧ B2 b p W w' := fun w' hb =>
    ⟨(but_written hb).row rb' (fun e => hpb e.symm), row_written rp' hb, B2.of_p (bV.trans (but_written hb))⟩
  have l32 : (rhH s).length = 32 := by
    unfold rhH
    by_cases h : s.size < 32
    · rw [if_pos h]; rfl
    · rw [if_neg h]
      unfold bytesOf
      have h' : ¬ s.data.size < 32 := h
      rw [List.length_map, Array.length_toList, ByteArray.data_extract, Array.size_extract]
      omega
  have yes : ∀ w2 g, g ≠ b → M.RowAt w2 g 33 Z32 → M.RowAt w2 b 62 m.row → M.RowAt w2 p 77 #[.string (rhS s)] → g ≠ p → B2 b p W w2 → W.heap.size ≤ g → ∀ l : List Int, rhH s = l →
      M.RowAt (w2.setRow g (ints l).toArray) g 33 (ints l).toArray ∧ (w2.setRow g (ints l).toArray).there b 4 32 ∧
      M.RowAt ((w2.setRow g (ints l).toArray).setCells b 4 (ints l)) b 62 { m with hash := l }.row ∧ M.RowAt ((w2.setRow g (ints l).toArray).setCells b 4 (ints l)) p 77 #[.string (rhS s)] ∧ B2 b p W ((w2.setRow g (ints l).toArray).setCells b 4 (ints l)) := fun w2 g hgb h0 h1 h2 hgp h3 hWg l hl => by
    have h1' := h1.farRow hgb (ints l).toArray
    have h4 := row_setCells (ints l) m.row 4 _ h1'
    rw [Msg.sh h32 (by rw [← hl]; exact l32)] at h4
    have h5 : B2 b p W (w2.setRow g (ints l).toArray) := ⟨h3.os, h3.tape, h3.output, by simpa using h3.size, fun k hk k1 k2 => by
      rw [← h3.block k hk k1 k2]; simp only [World.setRow, Array.getElem?_modify]; rw [if_neg (by omega)]⟩
    exact ⟨h0.setRow _, Msg.there h1' h32, h4, row_setCells_far (fun e => hpb e.symm) _ _ _ (h2.farRow hgp _), h5.trans (B2.of_b (but_setCells _ _ _ (M.But.refl b _)))⟩
  have HQ := Lib.hid hq; have HV := Lib.hid hV; have NUM := Lib.hid num; have AFT := Lib.hid aft; have YES := Lib.hid yes
  have MU := Lib.hid (fun x => must_ok x)
  have ME := Lib.hid (fun x => must_err 10 rfl x)
  have two : (rhE s = 0) ∨ (rhE s = 10) := by
    unfold rhE
    by_cases h : s.size < 32
    · rw [if_pos h]; exact .inr rfl
    · rw [if_neg h]; exact .inl rfl
  unfold DidR
  unfold hashV at NUM
  obtain ⟨l, hl⟩ : ∃ l, rhH s = l := ⟨_, rfl⟩
  rw [hl] at NUM l32
  have iH : (Try.prog.info? 33).map (·.size) = some (ints l).toArray.size := by rw [List.size_toArray, ints_len', l32]; kernel_rfl
  have oH : (ints l).toArray.all (·.oneCell') = true := by
    refine Array.all_eq_true_iff_forall_mem.2 fun v hv => ?_
    obtain ⟨x, _, rfl⟩ := List.mem_map.1 (by simpa using hv : v ∈ ints l)
    rfl
  have s32 : (ints l).toArray.size = 32 := by rw [List.size_toArray, ints_len', l32]
  have tl : (ints l).toArray.toList = ints l := rfl
  have HLH := Lib.hid hl
  rw [hl]
  generalize rhS s = s' at *
  clear num aft yes hq hV rn rb' rp' bV rb rp hpb hs hl
  rcases two with e0 | e0
  · rw [e0] at NUM ⊢
    clear e0
    have TL := Lib.hid tl
    have S32 := Lib.hid s32
    have FINL := Lib.hid (fun w2 g a1 a2 a3 a4 a5 a6 a7 => YES.out w2 g a1 a2 a3 a4 a5 a6 a7 l HLH.out)
    clear YES HLH tl s32
    generalize hX : (ints l).toArray = X at *
    have HX := Lib.hid hX
    clear hX
    go_enter Try.func64, Try.ntmps64
    go_wp2_with (rw [HQ.out, HV.out])
    refine (NUM.out).mono ?_
    rintro e w1 ⟨rfl, hb⟩
    obtain ⟨h1, h2, h3⟩ := AFT.out _ hb
    obtain ⟨g, hg⟩ : ∃ g, w1.heap.size = g := ⟨_, rfl⟩
    obtain ⟨w2, hw2⟩ : ∃ w2, w1.alloc (.cells Z32 33) = w2 := ⟨_, rfl⟩
    have r0 : M.RowAt w2 g 33 Z32 := by rw [← hw2, ← hg]; exact M.RowAt.new w1 33 _
    have gb : g ≠ b := fun e => by have := h1.lt; omega
    have gp : g ≠ p := fun e => by have := h2.lt; omega
    have gW : W.heap.size ≤ g := by have := h3.size; omega
    have r1 : M.RowAt w2 b 62 m.row := by rw [← hw2]; exact h1.alloc _
    have r2 : M.RowAt w2 p 77 #[.string s'] := by rw [← hw2]; exact h2.alloc _
    have r3 : B2 b p W w2 := h3.trans (B2.of_b (by rw [← hw2]; exact (M.But.refl b w1).alloc _))
    have iz : Z32.size = X.size := by rw [S32.out]; rfl
    unfold Z32 at hw2
    have HG := Lib.hid hg; have HW2 := Lib.hid hw2
    obtain ⟨f0, f1, f2⟩ := FINL.out w2 g gb r0 r1 r2 gp r3 gW
    rw [← S32.out] at f1
    have F2 := Lib.hid f2
    obtain ⟨w3, hw3⟩ : ∃ w3, w2.setRow g X = w3 := ⟨_, rfl⟩
    rw [hw3] at f0 f1 F2
    have HW3 := Lib.hid hw3
    rw [← TL.out] at F2
    clear hg hw2 hw3 f2 hb h1 h2 h3 gb gp gW r1 r2 r3 FINL
    go_wp2_with (first | (rw [HG.out, HW2.out]) | (refine wpList_store_row (x := .tmp 4) (y := .tmp 29) (cells := X) (old := Z32) (t := 33) (ty := 33) (g := g) ?_ ?_ ?_ ?_ r0 iH iz oH ?_; rfl; rfl; rfl; rfl; rw [HW3.out]) | ((with_reducible refine (MU.out _).mono ?_); rintro e w4 ⟨rfl, rfl⟩) | (refine wpList_load_row (x := .tmp 4) (ty := 33) (g := g) (cs := X) (t := 33) (fr := (0, 0)) ?_ ?_ ?_ _ f0 Try.underlying33 rfl iH ?_; rfl; rfl; rfl) | (refine wpList_store_mid (x := .tmp 36) (y := .tmp 34) (b := b) (o := 4) (cells := X) (ty := 33) ?_ ?_ ?_ ?_ f1 iH oH ?_; rfl; rfl; rfl; rfl) | fail)
    go_end0
    exact .inl ⟨by first | rfl | trivial, rfl, F2.out⟩
  · rw [e0] at NUM ⊢
    clear e0
    go_enter Try.func64, Try.ntmps64
    have iz : Z32.size = (ints l).toArray.size := by rw [s32]; rfl
    generalize (ints l).toArray = X at *
    go_wp2_with (rw [HQ.out, HV.out])
    refine (NUM.out).mono ?_
    rintro e w1 ⟨rfl, hb⟩
    obtain ⟨h1, h2, h3⟩ := AFT.out _ hb
    obtain ⟨g, hg⟩ : ∃ g, w1.heap.size = g := ⟨_, rfl⟩
    obtain ⟨w2, hw2⟩ : ∃ w2, w1.alloc (.cells Z32 33) = w2 := ⟨_, rfl⟩
    have r0 : M.RowAt w2 g 33 Z32 := by rw [← hw2, ← hg]; exact M.RowAt.new w1 33 _
    have gb : g ≠ b := fun e => by have := h1.lt; omega
    have gp : g ≠ p := fun e => by have := h2.lt; omega
    have gW : W.heap.size ≤ g := by have := h3.size; omega
    have r1 : M.RowAt w2 b 62 m.row := by rw [← hw2]; exact h1.alloc _
    have r2 : M.RowAt w2 p 77 #[.string s'] := by rw [← hw2]; exact h2.alloc _
    have r3 : B2 b p W w2 := h3.trans (B2.of_b (by rw [← hw2]; exact (M.But.refl b w1).alloc _))
    unfold Z32 at hw2
    have HG := Lib.hid hg; have HW2 := Lib.hid hw2
    have F2 := Lib.hid (And.intro (r1.farRow gb X) (show B2 b p W (w2.setRow g X) from ⟨r3.os, r3.tape, r3.output, by simpa using r3.size, fun k hk k1 k2 => by
      rw [← r3.block k hk k1 k2]; simp only [World.setRow, Array.getElem?_modify]; rw [if_neg (by omega)]⟩))
    obtain ⟨w3, hw3⟩ : ∃ w3, w2.setRow g X = w3 := ⟨_, rfl⟩
    rw [hw3] at F2
    have HW3 := Lib.hid hw3
    clear hg hw2 hw3 hb h1 h2 h3 gb gp gW r1 r2 r3
    go_wp2_with (first | (rw [HG.out, HW2.out]) | (refine wpList_store_row (x := .tmp 4) (y := .tmp 29) (cells := X) (old := Z32) (t := 33) (ty := 33) (g := g) ?_ ?_ ?_ ?_ r0 iH iz oH ?_; rfl; rfl; rfl; rfl; rw [HW3.out]) | fail)
    refine (ME.out _).mono ?_
    rintro e w4 ⟨rfl, rfl⟩
    exact ⟨rfl, .inr ⟨rfl, rfl, F2.out⟩⟩
end Go.Proofs.Ytiilgkhndfnkgaa
