/- The steps of Decode; the conditions are that the blocks are known. -/
import Derived.Test.YtiilgkhndfnkgaaWiR
namespace Go.Proofs.Ytiilgkhndfnkgaa
open Go.RowKit Go.Shelf
set_option linter.unusedVariables false

/-- the blocks of Decode, while its steps run -/
structure DB (w : World) (n : Nat) (R : Array Value) (v : Value) (rest : ByteArray) (X : World) : Prop where
  r0 : M.RowAt X n 62 (Msg.none 0).row
  rb : M.RowAt X (n + 1) 62 R
  rl : M.RowAt X (n + 2) 82 #[v]
  rp : M.RowAt X (n + 3) 77 #[.string rest]
  rr : M.RowAt X (n + 4) 43 #[.pointer (some ⟨n + 3, 0, none⟩)]
  rg : M.RowAt X (n + 5) 1 #[.func (.func 50) #[] #[.pointer (some ⟨n + 4, 0, none⟩), .pointer (some ⟨n + 1, 0, none⟩)], .func (.func 51) #[] #[.pointer (some ⟨n + 1, 0, none⟩), .pointer (some ⟨n + 2, 0, none⟩)], .func (.func 52) #[] #[.pointer (some ⟨n + 4, 0, none⟩), .pointer (some ⟨n + 2, 0, none⟩), .pointer (some ⟨n + 1, 0, none⟩)], .func (.func 53) #[] #[.pointer (some ⟨n + 4, 0, none⟩)], .func (.func 54) #[] #[.pointer (some ⟨n + 1, 0, none⟩)]]
  bel : Below n w X
/-- what is left of them where a step goes wrong -/
def DX (w : World) (n : Nat) (X : World) : Prop := M.RowAt X n 62 (Msg.none 0).row ∧ Below n w X
section
variable {w X X' : World} {n q : Nat} {R R' : Array Value} {v v' : Value} {s s' : ByteArray}
theorem DB.but (h : DB w n R v s X) (hq : n + 6 ≤ q) (hb : M.But q X X') : DB w n R v s X' :=
  ⟨hb.row h.r0 (by omega), hb.row h.rb (by omega), hb.row h.rl (by omega), hb.row h.rp (by omega), hb.row h.rr (by omega), hb.row h.rg (by omega), hb.below h.bel (by omega) (by have := h.rg.lt; omega)⟩
theorem DX.but (h : DX w n X) (hq : n + 6 ≤ q) (hb : M.But q X X') : DX w n X' := ⟨hb.row h.1 (by omega), hb.below h.2 (by omega) (by have := h.1.lt; omega)⟩
theorem DB.same (h : DB w n R v s X) (hb : Below X.heap.size X X') : DB w n R v s X' :=
  ⟨h.r0.call hb, h.rb.call hb, h.rl.call hb, h.rp.call hb, h.rr.call hb, h.rg.call hb, h.bel.trans (hb.mono (by have := h.rg.lt; omega))⟩
theorem DB.two (h : DB w n R v s X) (hb : B2 (n + 1) (n + 3) X X') (h1 : M.RowAt X' (n + 1) 62 R') (h2 : M.RowAt X' (n + 3) 77 #[.string s']) : DB w n R' v s' X' :=
  ⟨hb.row h.r0 (by omega) (by omega), h1, hb.row h.rl (by omega) (by omega), h2, hb.row h.rr (by omega) (by omega), hb.row h.rg (by omega) (by omega), hb.below h.bel (by omega) (by omega) (by have := h.rg.lt; omega)⟩
theorem DB.dx2 (h : DB w n R v s X) (hb : B2 (n + 1) (n + 3) X X') : DX w n X' := ⟨hb.row h.r0 (by omega) (by omega), hb.below h.bel (by omega) (by omega) (by have := h.rg.lt; omega)⟩
theorem DB.dx (h : DB w n R v s X) : DX w n X := ⟨h.r0, h.bel⟩
end
set_option maxRecDepth 100000 in
theorem dec1 {w X : World} {n : Nat} {v : Value} {s : ByteArray} (h : DB w n (Msg.none 0).row v s X) (hs : s.size ≤ 100000) :
    Calls Try.prog 50 #[.pointer (some ⟨n + 4, 0, none⟩), .pointer (some ⟨n + 1, 0, none⟩)] X fun e X' =>
      (0 < s.size ∧ e = .returned (.tuple #[]) ∧ DB w n (Msg.none (rdN s 1)).row v (rdS s 1) X' ∧ B2 (n + 1) (n + 3) X X') ∨ (s.size = 0 ∧ e = .panicked [flt 10] ∧ B2 (n + 1) (n + 3) X X') := by
  have c0 := (h.rr.cell 0).trans rfl
  have num := rdnum_any ⟨n + 3, 0, none⟩ s 1 X (row_at h.rp) (by omega)
  have hx0 := rdN_nonneg s 1
  have hx1 : rdN s 1 < 256 := rdN_lt s 1
  have two := rdE_two (s := s) (wd := 1) (by decide) (by decide)
  have aft : ∀ w', Below X.heap.size (X.setCell ⟨n + 3, 0, none⟩ (.string (rdS s 1))) w' → M.RowAt w' (n + 1) 62 (Msg.none 0).row ∧ M.RowAt w' (n + 3) 77 #[.string (rdS s 1)] ∧ B2 (n + 1) (n + 3) X w' := fun w' hb =>
    ⟨(but_written hb).row h.rb (by omega), row_written h.rp hb, B2.of_p (but_written hb)⟩
  have yes : ∀ w', M.RowAt w' (n + 1) 62 (Msg.none 0).row → M.RowAt w' (n + 3) 77 #[.string (rdS s 1)] → B2 (n + 1) (n + 3) X w' → ∀ x, rdN s 1 = x → DB w n (Msg.none x).row v (rdS s 1) (w'.setCell ⟨n + 1, 0, none⟩ (.int .i64 x)) ∧ B2 (n + 1) (n + 3) X (w'.setCell ⟨n + 1, 0, none⟩ (.int .i64 x)) := fun w' h1 h2 h3 x hx => by
    have h4 := h1.set 0 (.int .i64 x)
    rw [Msg.s0] at h4
    have h5 := h3.trans (B2.of_b ((M.But.refl (n + 1) w').set (p := ⟨n + 1, 0, none⟩) (.inl rfl) (.int .i64 x)))
    exact ⟨h.two h5 h4 (h2.far (p := ⟨n + 1, 0, none⟩) (show n + 1 ≠ n + 3 by omega) _), h5⟩
  have cel : ∀ w', M.RowAt w' (n + 1) 62 (Msg.none 0).row → w'.cell? ⟨n + 1, 0, none⟩ = some (.int .i64 0) ∧ w'.frozen? ⟨n + 1, 0, none⟩ = false := fun w' h => ⟨(h.cell 0).trans Msg.g0, h.frozen 0⟩
  have NUM := Lib.hid num; have AFT := Lib.hid aft; have YES := Lib.hid yes; have CEL := Lib.hid cel
  have ME := Lib.hid (fun x => must_err 10 rfl x)
  generalize rdS s 1 = s' at *
  clear num aft yes cel h hs
  rcases two with ⟨e0, e1⟩ | ⟨e0, e1⟩
  · rw [e0] at NUM
    obtain ⟨x, hx⟩ : ∃ x, rdN s 1 = x := ⟨_, rfl⟩
    rw [hx] at NUM hx0 hx1 ⊢
    have HX := Lib.hid hx
    have SZ := Lib.hid (show 0 < s.size by omega)
    have cw : IntKind.i64.wrap x = x := IntWalk.i64_in _ (by omega)
    clear hx e0 e1 hx0 hx1
    go_enter Try.func50, Try.ntmps50
    go_wp2_with fail
    refine (NUM.out).mono ?_
    rintro e w1 ⟨rfl, hb⟩
    obtain ⟨h1, h2, h3⟩ := AFT.out _ hb
    obtain ⟨cl, cf⟩ := CEL.out _ h1
    have FIN := Lib.hid (YES.out _ h1 h2 h3 x HX.out)
    clear hb h1 h2 h3
    go_wp2_with fail
    refine (must_ok _).mono ?_
    rintro e w2 ⟨rfl, rfl⟩
    go_wp2
    go_end0
    exact .inl ⟨SZ.out, rfl, FIN.out⟩
  · rw [e0] at NUM
    generalize rdN s 1 = x at *
    have SZ := Lib.hid (show s.size = 0 by omega)
    clear hx0 hx1 e0 e1
    go_enter Try.func50, Try.ntmps50
    go_wp2_with fail
    refine (NUM.out).mono ?_
    rintro e w1 ⟨rfl, hb⟩
    obtain ⟨h1, h2, h3⟩ := AFT.out _ hb
    have FIN := Lib.hid h3
    clear hb h1 h2 h3
    go_wp2_with fail
    refine (ME.out _).mono ?_
    rintro e w2 ⟨rfl, rfl⟩
    exact ⟨rfl, .inr ⟨SZ.out, rfl, FIN.out⟩⟩
set_option maxRecDepth 100000 in
theorem dec2 {w X : World} {n : Nat} {s : ByteArray} (k : Int) (h : DB w n (Msg.none k).row (.slice none 0 0) s X) :
    Calls Try.prog 51 #[.pointer (some ⟨n + 1, 0, none⟩), .pointer (some ⟨n + 2, 0, none⟩)] X fun e X' =>
      (∃ fl v', fieldsOf k = some fl ∧ e = .returned (.tuple #[]) ∧ DB w n (Msg.none k).row v' s X' ∧ FL 0 X' v' fl ∧ M.But (n + 2) X X') ∨ (fieldsOf k = none ∧ e = .panicked [flt 70] ∧ M.But (n + 2) X X') := by
  have c0 := (h.rb.cell 0).trans Msg.g0
  have fa := fields_any k X
  have aft : ∀ w' v', Below X.heap.size X w' → w'.cell? ⟨n + 2, 0, none⟩ = some (.slice none 0 0) ∧ w'.frozen? ⟨n + 2, 0, none⟩ = false ∧ DB w n (Msg.none k).row v' s (w'.setCell ⟨n + 2, 0, none⟩ v') ∧ M.But (n + 2) X (w'.setCell ⟨n + 2, 0, none⟩ v') ∧ M.But (n + 2) w' (w'.setCell ⟨n + 2, 0, none⟩ v') := fun w' v' hb => by
    have h1 := h.same hb
    have hb2 := (M.But.refl (n + 2) w').set (p := ⟨n + 2, 0, none⟩) (.inl rfl) v'
    exact ⟨(h1.rl.cell 0).trans rfl, h1.rl.frozen 0, ⟨hb2.row h1.r0 (by omega), hb2.row h1.rb (by omega), h1.rl.set 0 v', hb2.row h1.rp (by omega), hb2.row h1.rr (by omega), hb2.row h1.rg (by omega), hb2.below h1.bel (by omega) (by have := h1.rg.lt; omega)⟩, (M.But.ofBelow (n + 2) hb).trans hb2, hb2⟩
  have kp : ∀ w' v', Below X.heap.size X w' → Kp 0 w' (w'.setCell ⟨n + 2, 0, none⟩ v') := fun w' v' hb => Kp.of_butT ((M.But.refl (n + 2) w').set (p := ⟨n + 2, 0, none⟩) (.inl rfl) v') (h.same hb).rl rfl
  have AFT := Lib.hid aft; have KPH := Lib.hid kp
  have ME := Lib.hid (fun x => must_err 70 rfl x)
  clear aft kp h
  generalize (Msg.none k).row = R at *
  cases hf : fieldsOf k with
  | none =>
    rw [hf] at fa
    simp only at fa
    have FA := Lib.hid fa
    clear fa hf
    go_enter Try.func51, Try.ntmps51
    go_wp2_with fail
    refine (FA.out).mono ?_
    rintro e w1 ⟨rfl, b1⟩
    obtain ⟨cl, cf, _, h2, _⟩ := AFT.out w1 (.slice none 0 0) b1
    have FIN := Lib.hid h2
    clear b1 h2
    go_wp2_with fail
    refine (ME.out _).mono ?_
    rintro e w2 ⟨rfl, rfl⟩
    exact ⟨rfl, .inr ⟨by first | rfl | trivial, rfl, FIN.out⟩⟩
  | some fl =>
    rw [hf] at fa
    simp only at fa
    have FA := Lib.hid fa
    clear fa hf
    go_enter Try.func51, Try.ntmps51
    go_wp2_with fail
    refine (FA.out).mono ?_
    rintro e w1 ⟨v', rfl, fl1, b1⟩
    obtain ⟨cl, cf, h1, h2, h3⟩ := AFT.out w1 v' b1
    have hfl := (fl1.mono (Nat.zero_le _)).kept (KPH.out w1 v' b1)
    obtain ⟨A1, L1, C1, rfl⟩ : ∃ A L C, v' = .slice A L C := by obtain ⟨g, cap, C, hv, _⟩ := fl1; exact ⟨_, _, _, hv⟩
    have FIN := Lib.hid (And.intro h1 (And.intro hfl h2))
    clear b1 h1 h2 h3 hfl fl1
    go_wp2
    go_end0
    exact .inl ⟨fl, _, rfl, rfl, FIN.out⟩
set_option maxRecDepth 100000 in
theorem dec3 {w X : World} {n : Nat} {v : Value} (m : Msg) (ho : m.ok) (s : ByteArray) (hs : s.size ≤ 100000) (h : DB w n m.row v s X) (fl : List Fld) (h8 : fl.length ≤ 8) (hFL : FL 0 X v fl) :
    Calls Try.prog 52 #[.pointer (some ⟨n + 4, 0, none⟩), .pointer (some ⟨n + 2, 0, none⟩), .pointer (some ⟨n + 1, 0, none⟩)] X fun e X' =>
      (e = .returned (.tuple #[]) ∧ ∃ q', runs (m, s) fl = some q' ∧ DB w n q'.1.row v q'.2 X' ∧ q'.1.ok ∧ q'.2.size ≤ s.size ∧ B2 (n + 1) (n + 3) X X') ∨ (e = .panicked [flt 10] ∧ runs (m, s) fl = none ∧ B2 (n + 1) (n + 3) X X') := by
  have c0 := (h.rr.cell 0).trans rfl
  have c1 := (h.rl.cell 0).trans rfl
  have th := r_through (b := n + 1) (p := n + 3) fl h8 v X hFL (Nat.zero_le _) (by omega) (m, s) ho hs h.rb h.rp
  obtain ⟨A1, L1, C1, rfl⟩ : ∃ A L C, v = .slice A L C := by obtain ⟨g, cap, C, hv, _⟩ := hFL; exact ⟨_, _, _, hv⟩
  have TH := Lib.hid th
  have HH := Lib.hid h
  clear th h hFL ho hs h8
  go_enter Try.func52, Try.ntmps52
  go_wp2_with fail
  refine (TH.out).mono ?_
  rintro e w1 (⟨rfl, q', h1, h2, h3, h4, h5, h6⟩ | ⟨rfl, h1, h2⟩)
  · have FIN := Lib.hid (And.intro h1 (And.intro (HH.out.two h4 h2 h3) (And.intro h5 (And.intro h6 h4))))
    clear h1 h2 h3 h4 h5 h6
    go_wp2
    go_end0
    exact .inl ⟨rfl, q', FIN.out⟩
  · exact ⟨rfl, .inr ⟨rfl, h1, h2⟩⟩
set_option maxRecDepth 100000 in
theorem dec4 {w X : World} {n : Nat} {R : Array Value} {v : Value} {s : ByteArray} (h : DB w n R v s X) :
    Calls Try.prog 53 #[.pointer (some ⟨n + 4, 0, none⟩)] X fun e X' => X = X' ∧ ((s.size = 0 ∧ e = .returned (.tuple #[])) ∨ (s.size ≠ 0 ∧ e = .panicked [flt 11])) := by
  have c0 := (h.rr.cell 0).trans rfl
  have ea := end_any ⟨n + 3, 0, none⟩ s X (row_at h.rp)
  have ME := Lib.hid (fun x => must_err 11 rfl x)
  by_cases hz : s.size = 0
  · rw [if_pos hz] at ea
    have EA := Lib.hid ea
    have HZ := Lib.hid hz
    clear ea h hz
    go_enter Try.func53, Try.ntmps53
    go_wp2_with fail
    refine (EA.out).mono ?_
    rintro e w1 ⟨rfl, rfl⟩
    go_wp2_with fail
    refine (must_ok _).mono ?_
    rintro e w2 ⟨rfl, rfl⟩
    go_wp2
    go_end0
    exact ⟨rfl, .inl ⟨HZ.out, rfl⟩⟩
  · rw [if_neg hz] at ea
    have EA := Lib.hid ea
    have HZ := Lib.hid hz
    clear ea h hz
    go_enter Try.func53, Try.ntmps53
    go_wp2_with fail
    refine (EA.out).mono ?_
    rintro e w1 ⟨rfl, rfl⟩
    go_wp2_with fail
    refine (ME.out _).mono ?_
    rintro e w2 ⟨rfl, rfl⟩
    exact ⟨rfl, rfl, .inr ⟨HZ.out, rfl⟩⟩
set_option maxRecDepth 100000 in
theorem dec5 {w X : World} {n : Nat} {v : Value} {s : ByteArray} (m : Msg) (ho : m.ok) (h : DB w n m.row v s X) :
    Calls Try.prog 54 #[.pointer (some ⟨n + 1, 0, none⟩)] X fun e X' => Below X.heap.size X X' ∧ ((May m ∧ e = .returned (.tuple #[])) ∨ (¬ May m ∧ e = .panicked [flt 1])) := by
  have iX := Msg.info ho.h32
  have ME := Lib.hid (fun x => must_err 1 rfl x)
  have rb := h.rb
  by_cases hm : May m
  · have ma := may_any m ho true ⟨fun _ => hm, fun _ => rfl⟩ X
    have MA := Lib.hid ma
    have HM := Lib.hid hm
    clear ma hm ho h
    generalize m.row = R at *
    go_enter Try.func54, Try.ntmps54
    go_wp2_with (first | (refine wpList_load_row (x := .tmp 0) (ty := 62) (g := n + 1) (cs := R) (t := 62) (fr := (0, 0)) ?_ ?_ ?_ _ rb Try.underlying62 rfl iX ?_; rfl; rfl; rfl) | fail)
    refine (MA.out).mono ?_
    rintro e w1 ⟨rfl, b1⟩
    have B1 := Lib.hid b1
    clear b1
    go_wp2
    go_end0
    exact ⟨B1.out, .inl ⟨HM.out, rfl⟩⟩
  · have ma := may_any m ho false (Iff.intro (fun h => Bool.noConfusion h) (fun h => absurd h hm)) X
    have MA := Lib.hid ma
    have HM := Lib.hid hm
    clear ma hm ho h
    generalize m.row = R at *
    go_enter Try.func54, Try.ntmps54
    go_wp2_with (first | (refine wpList_load_row (x := .tmp 0) (ty := 62) (g := n + 1) (cs := R) (t := 62) (fr := (0, 0)) ?_ ?_ ?_ _ rb Try.underlying62 rfl iX ?_; rfl; rfl; rfl) | fail)
    refine (MA.out).mono ?_
    rintro e w1 ⟨rfl, b1⟩
    have B1 := Lib.hid b1
    clear b1
    go_wp2_with fail
    refine (ME.out _).mono ?_
    rintro e w2 ⟨rfl, rfl⟩
    exact ⟨rfl, B1.out, .inr ⟨HM.out, rfl⟩⟩
end Go.Proofs.Ytiilgkhndfnkgaa
