/- The walk of WireOthers; no conditions. -/
import Derived.Test.YtiilgkhndfnkgaaWiV
import Derived.Test.YtiilgkhndfnkgaaWiK
import Derived.Test.YtiilgkhndfnkgaaRowSl
namespace Go.Proofs.Ytiilgkhndfnkgaa
open Go.RowKit Go.Shelf
set_option linter.unusedVariables false

def WFine (w : World) (e : Ending) (w' : World) : Prop := e = .returned (.bool true) ∧ Below w.heap.size w w'
section
variable {H : Type} {enc : TypeId × Value → H} {w : World} {base : Nat} {sp : Nat → Bool} {held : Bool}
theorem wfu8 {x : Int} (h : (Lit.int .u8 x).wf = true) : 0 ≤ x ∧ x ≤ 255 := by simpa [Lit.wf, IntKind.min, IntKind.max, IntKind.signed, IntKind.bits] using h
theorem wfu32' {x : Int} (h : (Lit.int .u32 x).wf = true) : 0 ≤ x ∧ x ≤ 4294967295 := by simpa [Lit.wf, IntKind.min, IntKind.max, IntKind.signed, IntKind.bits] using h
set_option maxRecDepth 100000 in
theorem msg_of_cells (n : Nat) (cs : List Value) (y : DataW H × List MemPlace) (hl : cs.length = 38) (h : DataW.trod enc Try.prog w base sp held n 62 cs = some y) : ∃ m : Msg, cs = m.cells ∧ m.ok := by
  obtain ⟨n0, y0, h0⟩ := RowK.field_of Try.underlying62 h 0 rfl
  obtain ⟨n1, y1, h1⟩ := RowK.field_of Try.underlying62 h 1 rfl
  obtain ⟨n2, y2, h2⟩ := RowK.field_of Try.underlying62 h 2 rfl
  obtain ⟨n3, y3, h3⟩ := RowK.field_of Try.underlying62 h 3 rfl
  obtain ⟨n4, y4, h4⟩ := RowK.field_of Try.underlying62 h 4 rfl
  obtain ⟨n5, y5, h5⟩ := RowK.field_of Try.underlying62 h 5 rfl
  obtain ⟨n6, y6, h6⟩ := RowK.field_of Try.underlying62 h 6 rfl
  have c3 : Try.prog.cellsOf 3 = 1 := by kernel_rfl
  have c60 : Try.prog.cellsOf 60 = 1 := by kernel_rfl
  have c22 : Try.prog.cellsOf 22 = 1 := by kernel_rfl
  have c33 : Try.prog.cellsOf 33 = 32 := by kernel_rfl
  obtain ⟨k, e0, g0⟩ := RowK.int_of Try.underlying3 h0
  obtain ⟨c, e1, g1⟩ := RowK.int_of Try.underlying60 h1
  obtain ⟨i, e2, g2⟩ := RowK.int_of Try.underlying22 h2
  obtain ⟨a, e3, g3⟩ := RowK.int_of Try.underlying22 h3
  obtain ⟨zs, l4, g4, e4⟩ := RowK.arr_of Try.underlying33 Try.underlying5 (by kernel_rfl) c33 h4
  obtain ⟨ex, e5, g5⟩ := RowK.int_of Try.underlying3 h5
  obtain ⟨nu, e6, g6⟩ := RowK.int_of Try.underlying3 h6
  have e0 : (cs.drop 0).take (Try.prog.cellsOf 3) = _ := e0
  have e1 : (cs.drop 1).take (Try.prog.cellsOf 60) = _ := e1
  have e2 : (cs.drop 2).take (Try.prog.cellsOf 22) = _ := e2
  have e3 : (cs.drop 3).take (Try.prog.cellsOf 22) = _ := e3
  have e4 : (cs.drop 4).take (Try.prog.cellsOf 33) = _ := e4
  have e5 : (cs.drop 36).take (Try.prog.cellsOf 3) = _ := e5
  have e6 : (cs.drop 37).take (Try.prog.cellsOf 3) = _ := e6
  rw [c3] at e0 e5 e6
  rw [c60] at e1
  rw [c22] at e2 e3
  rw [c33] at e4
  refine ⟨⟨k, c, i, a, zs, ex, nu⟩, ?_, ⟨l4, fun x hx => wfu8 (g4 x hx), (RowK.wf_i64 g0).1, (RowK.wf_i64 g0).2, (wfu32' g1).1, (wfu32' g1).2, (RowK.wf_u64 g2).1, (RowK.wf_u64 g2).2, (RowK.wf_u64 g3).1, (RowK.wf_u64 g3).2, (RowK.wf_i64 g5).1, (RowK.wf_i64 g5).2, (RowK.wf_i64 g6).1, (RowK.wf_i64 g6).2⟩⟩
  have split : ∀ (l : List Value) (a b : Nat), (l.drop a).take b ++ l.drop (a + b) = l.drop a := fun l a b => by
    rw [← List.drop_drop, List.take_append_drop]
  have s0 := split cs 0 1; have s1 := split cs 1 1; have s2 := split cs 2 1; have s3 := split cs 3 1; have s4 := split cs 4 32; have s5 := split cs 36 1; have s6 := split cs 37 1
  rw [e0] at s0
  rw [e1] at s1
  rw [e2] at s2
  rw [e3] at s3
  rw [e4] at s4
  rw [e5] at s5
  rw [e6] at s6
  have s7 : cs.drop 38 = [] := List.drop_eq_nil_of_le (by omega)
  rw [show (37 : Nat) + 1 = 38 from rfl, s7] at s6
  rw [show (36 : Nat) + 1 = 37 from rfl, ← s6] at s5
  rw [show (4 : Nat) + 32 = 36 from rfl, ← s5] at s4
  rw [show (3 : Nat) + 1 = 4 from rfl, ← s4] at s3
  rw [show (2 : Nat) + 1 = 3 from rfl, ← s3] at s2
  rw [show (1 : Nat) + 1 = 2 from rfl, ← s2] at s1
  rw [show (0 : Nat) + 1 = 1 from rfl, ← s1] at s0
  rw [List.drop_zero] at s0
  rw [← s0]
  rfl
set_option maxRecDepth 100000 in
theorem msg_of_trod {r : Reach} {b0 : Nat} {v : Value} {d : DataW H} {p : List MemPlace} (hval : Value.okWide Try.prog w r b0 62 v) (h : DataW.Trod enc Try.prog w base sp held 62 v d p) : ∃ m : Msg, v = .agg m.row ∧ m.ok := by
  have hv : ∃ cs : Array Value, v = .agg cs ∧ cs.size = 38 := by
    simp only [Value.okWide, Try.underlying62] at hval
    obtain ⟨cs, h1, h2, _⟩ := hval
    exact ⟨cs, h1, by rw [h2]; kernel_rfl⟩
  obtain ⟨cs, rfl, hs⟩ := hv
  obtain ⟨fuel, hf⟩ := h
  have hc : (Value.agg cs).cells = cs := rfl
  rw [hc] at hf
  obtain ⟨m, h1, h2⟩ := msg_of_cells fuel cs.toList _ (by rw [Array.length_toList, hs]) hf
  exact ⟨m, by rw [Msg.row, ← h1], h2⟩
end
theorem Msg.s7 {m : Msg} (h : m.hash.length = 32) : m.row.setIfInBounds 7 (.int .u8 7) = { m with hash := m.hash.set 3 7 }.row := by
  have hl : (ints m.hash).length = 32 := by rw [ints_len', h]
  simp only [Msg.row, Msg.cells, List.setIfInBounds_toArray, List.set_cons_succ]
  rw [List.set_append_left _ _ (by rw [hl]; decide)]
  simp [ints, List.map_set]
theorem Msg.g7 {m : Msg} (h : m.hash.length = 32) : m.row[7]? = some (.int .u8 (m.hash[3]'(by omega))) := by
  rw [show (7 : Nat) = 4 + 3 from rfl, Msg.gh h (by decide)]
  simp [ints, List.getElem?_eq_getElem (show 3 < m.hash.length by omega)]
theorem others_i {m : Msg} (h : May m) : May { m with id := 7 } ↔ has (lets m.kind) 105 = true := by
  rw [← rmay_iff] at h ⊢
  obtain ⟨r, h1, h2, h3, h4, h5⟩ := h
  constructor
  · rintro ⟨_, q, _⟩
    exact q.resolve_right (show ¬ (7 : Int) = 0 by decide)
  · intro q
    exact ⟨⟨r.k0, r.k1, r.e0, r.e1, r.n0, r.n1, r.a1⟩, .inl q, h2, h3, h4, h5⟩
theorem others_a {m : Msg} (h : May m) : May { m with amount := 7 } ↔ has (lets m.kind) 97 = true := by
  rw [← rmay_iff] at h ⊢
  obtain ⟨r, h1, h2, h3, h4, h5⟩ := h
  constructor
  · rintro ⟨_, _, q, _⟩
    exact q.resolve_right (show ¬ (7 : Int) = 0 by decide)
  · intro q
    exact ⟨⟨r.k0, r.k1, r.e0, r.e1, r.n0, r.n1, show (7 : Int) ≤ 1125899906842624 by decide⟩, h1, .inl q, h3, h4, h5⟩
theorem others_h {m : Msg} (h32 : m.hash.length = 32) (h : May m) : May { m with hash := m.hash.set 3 7 } ↔ has (lets m.kind) 104 = true := by
  rw [← rmay_iff] at h ⊢
  obtain ⟨r, h1, h2, h3, h4, h5⟩ := h
  constructor
  · rintro ⟨_, _, _, q, _⟩
    refine q.resolve_right (fun e => ?_)
    have := congrArg (fun l => l[3]?) (show m.hash.set 3 7 = z32 from e)
    simp [z32, h32] at this
  · intro q
    exact ⟨⟨r.k0, r.k1, r.e0, r.e1, r.n0, r.n1, r.a1⟩, h1, h2, .inl q, h4, h5⟩
theorem others_e {m : Msg} (h : May m) : May { m with expiry := 7 } ↔ has (lets m.kind) 101 = true := by
  rw [← rmay_iff] at h ⊢
  obtain ⟨r, h1, h2, h3, h4, h5⟩ := h
  constructor
  · rintro ⟨_, _, _, _, q, _⟩
    exact q.resolve_right (show ¬ (7 : Int) = 0 by decide)
  · intro q
    exact ⟨⟨r.k0, r.k1, show (0 : Int) ≤ 7 by decide, show (7 : Int) ≤ 1073741824 by decide, r.n0, r.n1, r.a1⟩, h1, h2, h3, .inl q, h5⟩
theorem others_n {m : Msg} (h : May m) : May { m with number := 7 } ↔ has (lets m.kind) 110 = true := by
  rw [← rmay_iff] at h ⊢
  obtain ⟨r, h1, h2, h3, h4, h5⟩ := h
  constructor
  · rintro ⟨_, _, _, _, _, q⟩
    exact q.resolve_right (show ¬ (7 : Int) = 0 by decide)
  · intro q
    exact ⟨⟨r.k0, r.k1, r.e0, r.e1, show (0 : Int) ≤ 7 by decide, show (7 : Int) ≤ 65535 by decide, r.a1⟩, h1, h2, h3, h4, .inl q⟩
/-- a letter among the first ones -/
def upto (S : ByteArray) (c : Int) (k : Nat) : Bool := (S.data.toList.take k).any fun x => decide ((x.toNat : Int) = c)
theorem upto_succ (S : ByteArray) (c : Int) {k : Nat} (h : k < S.size) : upto S c (k + 1) = (upto S c k || decide (((S[k]'h).toNat : Int) = c)) := by
  unfold upto
  rw [List.take_add_one, index_byte S k h]; simp
theorem upto_all (S : ByteArray) (c : Int) : upto S c S.size = has S c := by
  unfold upto has
  rw [List.take_of_length_le (show S.data.toList.length ≤ S.size by rw [Array.length_toList]; exact Nat.le_refl _)]
set_option maxRecDepth 100000 in
set_option maxHeartbeats 4000000 in
theorem others_no (m : Msg) (ho : m.ok) (hm : ¬ May m) (z : Int) (w : World) : Calls Try.prog 13 #[.agg m.row, .int .u8 z] w (WFine w) := by
  obtain ⟨n, hn⟩ : ∃ n, w.heap.size = n := ⟨_, rfl⟩
  obtain ⟨V, hV⟩ : ∃ V, w.alloc (.cells m.row 62) = V := ⟨_, rfl⟩
  have rV : M.RowAt V n 62 m.row := by rw [← hV, ← hn]; exact M.RowAt.new w 62 _
  have bV : Below n w V := by rw [← hV, ← hn]; exact (Below.refl _ w).alloc (Nat.le_refl _) _
  have sV : V.heap.size = n + 1 := by rw [← hV]; simp [hn]
  have may := may_any m ho false (Iff.intro (fun h => Bool.noConfusion h) (fun h => absurd h hm)) V
  have rmay := fun x => rmay_any m ho false (Iff.intro (fun h => Bool.noConfusion h) (fun h => absurd h hm)) x
  have iX := Msg.info ho.h32
  have HN := Lib.hid hn; have HV := Lib.hid hV; have BV := Lib.hid bV; have SV := Lib.hid sV; have MAY := Lib.hid may; have RMAY := Lib.hid rmay; have RV := Lib.hid rV
  have SH := Lib.hid (fun x => wshown_any x)
  unfold WFine
  rw [hn]
  clear may rmay bV sV hV hn hm ho
  generalize m.row = R at *
  go_enter Try.func13, Try.ntmps13
  go_wp2_with (first | (rw [HN.out, HV.out]) | (refine wpList_load_row (x := .tmp 2) (ty := 62) (g := n) (cs := R) (t := 62) (fr := (0, 0)) ?_ ?_ ?_ _ rV Try.underlying62 rfl iX ?_; rfl; rfl; rfl) | fail)
  refine (MAY.out).mono ?_
  rintro e w1 ⟨rfl, b1⟩
  have r1 := RV.out.call b1
  have B1 := BV.out.trans (b1.mono (by have := SV.out; omega))
  have Z1 : n + 1 ≤ w1.heap.size := by have := SV.out; have := b1.size; omega
  have R1 := Lib.hid r1; have BB1 := Lib.hid B1; have ZZ1 := Lib.hid Z1
  clear b1 r1 B1 Z1 rV
  go_wp2_with fail
  refine (SH.out _).mono ?_
  rintro e w2 ⟨rfl, b2⟩
  have r2 := R1.out.call b2
  have BB2 := Lib.hid (BB1.out.trans (b2.mono (by have := ZZ1.out; omega)))
  have ZZ2 := Lib.hid (Nat.le_trans ZZ1.out b2.size)
  clear b2
  go_wp2_with (first | (refine wpList_load_row_g (x := .tmp 2) (ty := 62) (g := n) (cs := R) (t := 62) (fr := (0, 0)) ?_ ?_ ?_ _ r2 Try.underlying62 rfl iX ?_; rfl; rfl; rfl) | fail)
  refine (RMAY.out _).mono ?_
  rintro e w3 ⟨rfl, b3⟩
  have BB3 := Lib.hid (BB2.out.trans (b3.mono (by have := ZZ2.out; omega)))
  clear b3 r2
  go_wp2
  go_ret
  exact ⟨rfl, BB3.out⟩
set_option maxRecDepth 100000 in
set_option maxHeartbeats 16000000 in
theorem others_yes (m : Msg) (ho : m.ok) (hm : May m) (z : Nat) (hz : z < 256) (w : World) : Calls Try.prog 13 #[.agg m.row, .int .u8 (z : Nat)] w (WFine w) := by
  obtain ⟨n, hn⟩ : ∃ n, w.heap.size = n := ⟨_, rfl⟩
  obtain ⟨V, hV⟩ : ∃ V, w.alloc (.cells m.row 62) = V := ⟨_, rfl⟩
  have rV : M.RowAt V n 62 m.row := by rw [← hV, ← hn]; exact M.RowAt.new w 62 _
  have bV : Below n w V := by rw [← hV, ← hn]; exact (Below.refl _ w).alloc (Nat.le_refl _) _
  have sV : V.heap.size = n + 1 := by rw [← hV]; simp [hn]
  have may := may_any m ho true (Iff.intro (fun _ => hm) (fun _ => rfl)) V
  have iX := Msg.info ho.h32
  have oX := Msg.one (m := m)
  have ls := lets_size m.kind
  have c0 := fun (W : World) (hr : M.RowAt W n 62 m.row) => (hr.cell 0).trans Msg.g0
  have fl := fun x => rfields_any m.kind x
  obtain ⟨S, hS⟩ : ∃ S, lets m.kind = S := ⟨_, rfl⟩
  rw [hS] at fl ls
  have HS := Lib.hid hS
  have HN := Lib.hid hn; have HV := Lib.hid hV; have BV := Lib.hid bV; have SV := Lib.hid sV; have MAY := Lib.hid may; have RV := Lib.hid rV
  have SH := Lib.hid (fun x => wshown_any x); have C0 := Lib.hid c0; have FLD := Lib.hid fl; have HO := Lib.hid ho; have HM := Lib.hid hm
  have zsz : (Msg.none 0).row.size = m.row.size := by rw [Msg.size rfl, Msg.size ho.h32]
  obtain ⟨Z, hZ⟩ : ∃ Z, (Msg.none 0).row = Z := ⟨_, rfl⟩
  have nrow := none_row 0
  rw [hZ] at nrow zsz
  have al2 : ∀ x : World, ∃ U g, x.heap.size = g ∧ x.alloc (.cells #[.int .i64 0, .int .u32 0, .int .u64 0, .int .u64 0, .int .u8 0, .int .u8 0, .int .u8 0, .int .u8 0, .int .u8 0, .int .u8 0, .int .u8 0, .int .u8 0, .int .u8 0, .int .u8 0, .int .u8 0, .int .u8 0, .int .u8 0, .int .u8 0, .int .u8 0, .int .u8 0, .int .u8 0, .int .u8 0, .int .u8 0, .int .u8 0, .int .u8 0, .int .u8 0, .int .u8 0, .int .u8 0, .int .u8 0, .int .u8 0, .int .u8 0, .int .u8 0, .int .u8 0, .int .u8 0, .int .u8 0, .int .u8 0, .int .i64 0, .int .i64 0] 62) = U ∧ M.RowAt U g 62 Z ∧ Below x.heap.size x U := fun x => ⟨_, _, rfl, rfl, by rw [nrow]; exact M.RowAt.new x 62 _, (Below.refl _ x).alloc (Nat.le_refl _) _⟩
  have AL := Lib.hid al2
  unfold WFine
  rw [hn]
  obtain ⟨r, hr5⟩ : ∃ r, z % 5 = r := ⟨_, rfl⟩
  have hr : r < 5 := by omega
  have zr : Int.tmod (z : Int) 5 = (r : Int) := by rw [← hr5]; rfl
  have zr' : (z : Int) % 5 = (r : Int) := by rw [← hr5]; rfl
  have zw : IntKind.i64.wrap (z : Int) = (z : Int) := IntWalk.i64_in _ (by omega)
  clear may bV sV hV hn hm c0 fl nrow hZ al2 hr5 hz hS
  obtain ⟨R, hR⟩ : ∃ R, m.row = R := ⟨_, rfl⟩
  rw [hR] at rV iX oX MAY C0 RV zsz HV ⊢
  have HR := Lib.hid hR
  clear hR ho
  by_cases r0 : r = 0
  · subst r0
    go_enter Try.func13, Try.ntmps13
    go_wp2_with (first | (rw [HN.out, HV.out]) | (refine wpList_load_row (x := .tmp 2) (ty := 62) (g := n) (cs := R) (t := 62) (fr := (0, 0)) ?_ ?_ ?_ _ rV Try.underlying62 rfl iX ?_; rfl; rfl; rfl) | fail)
    refine (MAY.out).mono ?_
    rintro e w1 ⟨rfl, b1⟩
    have r1 := RV.out.call b1
    have R1 := Lib.hid r1
    have BB1 := Lib.hid (BV.out.trans (b1.mono (by have := SV.out; omega)))
    have ZZ1 := Lib.hid (show n + 1 ≤ w1.heap.size by have := SV.out; have := b1.size; omega)
    clear b1 r1 rV
    go_wp2_with fail
    refine (SH.out _).mono ?_
    rintro e w2 ⟨rfl, b2⟩
    have r2 := R1.out.call b2
    have B2x := BB1.out.trans (b2.mono (by have := ZZ1.out; omega))
    have Z2 : n + 1 ≤ w2.heap.size := Nat.le_trans ZZ1.out b2.size
    obtain ⟨U, g, hg, hU, rU, bU⟩ := AL.out w2
    have r3 := r2.call bU
    have gn : g ≠ n := by omega
    obtain ⟨X, hX⟩ : ∃ X, U.setRow g R = X := ⟨_, rfl⟩
    have rX := rU.setRow R
    have rN := r3.farRow (b := g) gn R
    have bX : Below n w X := by rw [← hX]; exact (M.But.refl g U).setRow (.inl rfl) R |>.below (B2x.trans (bU.mono (by omega))) (by omega) (by have := bU.size; omega)
    rw [hX] at rX rN
    have k0 := C0.out X rN
    have HG := Lib.hid hg; have HU := Lib.hid hU; have HX := Lib.hid hX; have BX := Lib.hid bX; have RX := Lib.hid rX
    have GN := Lib.hid (show n ≤ g by omega)
    clear b2 B2x Z2 hg hU bU r3 gn hX bX rN rX
    go_wp2_with (first | (rw [HG.out, HU.out]) | (refine wpList_load_row (x := .tmp 2) (ty := 62) (g := n) (cs := R) (t := 62) (fr := (0, 0)) ?_ ?_ ?_ _ r2 Try.underlying62 rfl iX ?_; rfl; rfl; rfl) | (refine wpList_store_row (x := .tmp 5) (y := .tmp 23) (cells := R) (old := Z) (t := 62) (ty := 62) (g := g) ?_ ?_ ?_ ?_ rU iX zsz oX ?_; rfl; rfl; rfl; rfl; rw [HX.out]) | fail)
    refine (FLD.out _).mono ?_
    rintro e w3 ⟨rfl, rfl⟩
    clear rU r2 k0
    have lit : (((({ data := #[105, 97, 104, 101, 110] } : ByteArray)[0]'(by decide)).toNat : Nat) : Int) = 105 := by rfl
    obtain ⟨cv, cx⟩ : ∃ cv, X.cell? ⟨g, 2, none⟩ = some cv := ⟨_, (RX.out.cell 2).trans (by rw [← HR.out]; exact Msg.g2)⟩
    have fx := RX.out.frozen 2
    have rY := RX.out.set 2 (.int .u64 7)
    have hrow : R.setIfInBounds 2 (.int .u64 7) = ({ m with id := 7 } : Msg).row := by rw [← HR.out]; exact Msg.s2 7
    have oth := others_i HM.out
    rw [HS.out] at oth
    have mok : ({ m with id := 7 } : Msg).ok := ⟨HO.out.h32, HO.out.hb, HO.out.k0, HO.out.k1, HO.out.c0, HO.out.c1, (by decide : (0 : Int) ≤ 7), (by decide : (7 : Int) ≤ 18446744073709551615), HO.out.a0, HO.out.a1, HO.out.e0, HO.out.e1, HO.out.n0, HO.out.n1⟩
    have mx := fun (b : Bool) (hb : b = true ↔ has S 105 = true) (x : World) => may_any { m with id := 7 } mok b (hb.trans oth.symm) x
    rw [hrow] at rY
    have iY := Msg.info mok.h32
    generalize ({ m with id := 7 } : Msg).row = Y at *
    obtain ⟨x4, hx4⟩ : ∃ x4, X.setCell ⟨g, 2, none⟩ (.int .u64 7) = x4 := ⟨_, rfl⟩
    have B4 := Lib.hid (show Below n w x4 by rw [← hx4]; exact BX.out.setCell (p := ⟨g, 2, none⟩) GN.out _)
    rw [hx4] at rY
    have HX4 := Lib.hid hx4; have MX := Lib.hid mx
    clear hx4 mx oth mok hrow
    go_wp2_with (first | (rw [HX4.out]) | fail)
    go_loopg [8, 9] S.size (fun q b i v => ∃ k : Nat, q + k = S.size ∧ i = .int .i64 k ∧ b = .bool (upto S 105 k) ∧ v = x4)
    case atStart => exact ⟨0, by omega, rfl, rfl, rfl⟩
    case round =>
      obtain ⟨k, hk, rfl, rfl, rfl⟩ := hrel
      have HK := Lib.hid hk
      have SZ := Lib.hid ls
      clear hk
      by_cases hlt : k < S.size
      · have us := upto_succ S 105 hlt
        obtain ⟨x, hx⟩ : ∃ x, S[k]'hlt = x := ⟨_, rfl⟩
        rw [hx] at us
        have US := Lib.hid us
        have i1 : ((k : Nat) : Int) < (S.size : Nat) := by omega
        have i2 : (0 : Int) ≤ (k : Nat) := by omega
        have w9 : IntKind.i64.wrap ((k : Int) + 1) = (k : Int) + 1 := IntWalk.i64_in _ (by have := SZ.out; omega)
        clear us
        obtain ⟨u, hu⟩ : ∃ u, upto S 105 k = u := ⟨_, rfl⟩
        rw [hu] at US ⊢
        have hcx : ((x.toNat : Int) == 105) = decide ((x.toNat : Int) = 105) := rfl
        obtain ⟨y, hy⟩ : ∃ y, decide ((x.toNat : Int) = 105) = y := ⟨_, rfl⟩
        rw [hy] at US hcx
        cases u
        · cases y
          · go_wp2
            go_roundg (S.size - (k + 1))
            case measure => have := HK.out; omega
            case rel => exact ⟨k + 1, by have := HK.out; omega, by go_num, by rw [US.out]; rfl, rfl⟩
          · go_wp2
            go_roundg (S.size - (k + 1))
            case measure => have := HK.out; omega
            case rel => exact ⟨k + 1, by have := HK.out; omega, by go_num, by rw [US.out]; rfl, rfl⟩
        · go_wp2
          go_roundg (S.size - (k + 1))
          case measure => have := HK.out; omega
          case rel => exact ⟨k + 1, by have := HK.out; omega, by go_num, by rw [US.out]; rfl, rfl⟩
      · obtain rfl : k = S.size := by have := HK.out; omega
        rw [upto_all]
        have mb := Lib.hid (MX.out (has S 105) Iff.rfl wr)
        have b5 := B4.out
        have HX4' := HX4
        clear HX4 cx fx
        go_wp2_with (first | (refine wpList_load_row (x := .tmp 5) (ty := 62) (g := g) (cs := Y) (t := 62) (fr := (0, 0)) ?_ ?_ ?_ _ rY Try.underlying62 rfl iY ?_; rfl; rfl; rfl) | fail)
        refine (mb.out).mono ?_
        rintro e w5 ⟨rfl, b6⟩
        have B6 := Lib.hid (b5.trans (b6.mono (by have := rY.lt; have := GN.out; omega)))
        clear b6 b5 rY
        generalize has S 105 = hb at *
        go_wp2
        go_ret
        exact ⟨by first | rfl | simp, B6.out⟩
  by_cases r1 : r = 1
  · subst r1
    go_enter Try.func13, Try.ntmps13
    go_wp2_with (first | (rw [HN.out, HV.out]) | (refine wpList_load_row (x := .tmp 2) (ty := 62) (g := n) (cs := R) (t := 62) (fr := (0, 0)) ?_ ?_ ?_ _ rV Try.underlying62 rfl iX ?_; rfl; rfl; rfl) | fail)
    refine (MAY.out).mono ?_
    rintro e w1 ⟨rfl, b1⟩
    have r1 := RV.out.call b1
    have R1 := Lib.hid r1
    have BB1 := Lib.hid (BV.out.trans (b1.mono (by have := SV.out; omega)))
    have ZZ1 := Lib.hid (show n + 1 ≤ w1.heap.size by have := SV.out; have := b1.size; omega)
    clear b1 r1 rV
    go_wp2_with fail
    refine (SH.out _).mono ?_
    rintro e w2 ⟨rfl, b2⟩
    have r2 := R1.out.call b2
    have B2x := BB1.out.trans (b2.mono (by have := ZZ1.out; omega))
    have Z2 : n + 1 ≤ w2.heap.size := Nat.le_trans ZZ1.out b2.size
    obtain ⟨U, g, hg, hU, rU, bU⟩ := AL.out w2
    have r3 := r2.call bU
    have gn : g ≠ n := by omega
    obtain ⟨X, hX⟩ : ∃ X, U.setRow g R = X := ⟨_, rfl⟩
    have rX := rU.setRow R
    have rN := r3.farRow (b := g) gn R
    have bX : Below n w X := by rw [← hX]; exact (M.But.refl g U).setRow (.inl rfl) R |>.below (B2x.trans (bU.mono (by omega))) (by omega) (by have := bU.size; omega)
    rw [hX] at rX rN
    have k0 := C0.out X rN
    have HG := Lib.hid hg; have HU := Lib.hid hU; have HX := Lib.hid hX; have BX := Lib.hid bX; have RX := Lib.hid rX
    have GN := Lib.hid (show n ≤ g by omega)
    clear b2 B2x Z2 hg hU bU r3 gn hX bX rN rX
    go_wp2_with (first | (rw [HG.out, HU.out]) | (refine wpList_load_row (x := .tmp 2) (ty := 62) (g := n) (cs := R) (t := 62) (fr := (0, 0)) ?_ ?_ ?_ _ r2 Try.underlying62 rfl iX ?_; rfl; rfl; rfl) | (refine wpList_store_row (x := .tmp 5) (y := .tmp 23) (cells := R) (old := Z) (t := 62) (ty := 62) (g := g) ?_ ?_ ?_ ?_ rU iX zsz oX ?_; rfl; rfl; rfl; rfl; rw [HX.out]) | fail)
    refine (FLD.out _).mono ?_
    rintro e w3 ⟨rfl, rfl⟩
    clear rU r2 k0
    have lit : (((({ data := #[105, 97, 104, 101, 110] } : ByteArray)[1]'(by decide)).toNat : Nat) : Int) = 97 := by rfl
    obtain ⟨cv, cx⟩ : ∃ cv, X.cell? ⟨g, 3, none⟩ = some cv := ⟨_, (RX.out.cell 3).trans (by rw [← HR.out]; exact Msg.g3)⟩
    have fx := RX.out.frozen 3
    have rY := RX.out.set 3 (.int .u64 7)
    have hrow : R.setIfInBounds 3 (.int .u64 7) = ({ m with amount := 7 } : Msg).row := by rw [← HR.out]; exact Msg.s3 7
    have oth := others_a HM.out
    rw [HS.out] at oth
    have mok : ({ m with amount := 7 } : Msg).ok := ⟨HO.out.h32, HO.out.hb, HO.out.k0, HO.out.k1, HO.out.c0, HO.out.c1, HO.out.i0, HO.out.i1, (by decide : (0 : Int) ≤ 7), (by decide : (7 : Int) ≤ 18446744073709551615), HO.out.e0, HO.out.e1, HO.out.n0, HO.out.n1⟩
    have mx := fun (b : Bool) (hb : b = true ↔ has S 97 = true) (x : World) => may_any { m with amount := 7 } mok b (hb.trans oth.symm) x
    rw [hrow] at rY
    have iY := Msg.info mok.h32
    generalize ({ m with amount := 7 } : Msg).row = Y at *
    obtain ⟨x4, hx4⟩ : ∃ x4, X.setCell ⟨g, 3, none⟩ (.int .u64 7) = x4 := ⟨_, rfl⟩
    have B4 := Lib.hid (show Below n w x4 by rw [← hx4]; exact BX.out.setCell (p := ⟨g, 3, none⟩) GN.out _)
    rw [hx4] at rY
    have HX4 := Lib.hid hx4; have MX := Lib.hid mx
    clear hx4 mx oth mok hrow
    go_wp2_with (first | (rw [HX4.out]) | fail)
    go_loopg [8, 9] S.size (fun q b i v => ∃ k : Nat, q + k = S.size ∧ i = .int .i64 k ∧ b = .bool (upto S 97 k) ∧ v = x4)
    case atStart => exact ⟨0, by omega, rfl, rfl, rfl⟩
    case round =>
      obtain ⟨k, hk, rfl, rfl, rfl⟩ := hrel
      have HK := Lib.hid hk
      have SZ := Lib.hid ls
      clear hk
      by_cases hlt : k < S.size
      · have us := upto_succ S 97 hlt
        obtain ⟨x, hx⟩ : ∃ x, S[k]'hlt = x := ⟨_, rfl⟩
        rw [hx] at us
        have US := Lib.hid us
        have i1 : ((k : Nat) : Int) < (S.size : Nat) := by omega
        have i2 : (0 : Int) ≤ (k : Nat) := by omega
        have w9 : IntKind.i64.wrap ((k : Int) + 1) = (k : Int) + 1 := IntWalk.i64_in _ (by have := SZ.out; omega)
        clear us
        obtain ⟨u, hu⟩ : ∃ u, upto S 97 k = u := ⟨_, rfl⟩
        rw [hu] at US ⊢
        have hcx : ((x.toNat : Int) == 97) = decide ((x.toNat : Int) = 97) := rfl
        obtain ⟨y, hy⟩ : ∃ y, decide ((x.toNat : Int) = 97) = y := ⟨_, rfl⟩
        rw [hy] at US hcx
        cases u
        · cases y
          · go_wp2
            go_roundg (S.size - (k + 1))
            case measure => have := HK.out; omega
            case rel => exact ⟨k + 1, by have := HK.out; omega, by go_num, by rw [US.out]; rfl, rfl⟩
          · go_wp2
            go_roundg (S.size - (k + 1))
            case measure => have := HK.out; omega
            case rel => exact ⟨k + 1, by have := HK.out; omega, by go_num, by rw [US.out]; rfl, rfl⟩
        · go_wp2
          go_roundg (S.size - (k + 1))
          case measure => have := HK.out; omega
          case rel => exact ⟨k + 1, by have := HK.out; omega, by go_num, by rw [US.out]; rfl, rfl⟩
      · obtain rfl : k = S.size := by have := HK.out; omega
        rw [upto_all]
        have mb := Lib.hid (MX.out (has S 97) Iff.rfl wr)
        have b5 := B4.out
        have HX4' := HX4
        clear HX4 cx fx
        go_wp2_with (first | (refine wpList_load_row (x := .tmp 5) (ty := 62) (g := g) (cs := Y) (t := 62) (fr := (0, 0)) ?_ ?_ ?_ _ rY Try.underlying62 rfl iY ?_; rfl; rfl; rfl) | fail)
        refine (mb.out).mono ?_
        rintro e w5 ⟨rfl, b6⟩
        have B6 := Lib.hid (b5.trans (b6.mono (by have := rY.lt; have := GN.out; omega)))
        clear b6 b5 rY
        generalize has S 97 = hb at *
        go_wp2
        go_ret
        exact ⟨by first | rfl | simp, B6.out⟩
  by_cases r2 : r = 2
  · subst r2
    go_enter Try.func13, Try.ntmps13
    go_wp2_with (first | (rw [HN.out, HV.out]) | (refine wpList_load_row (x := .tmp 2) (ty := 62) (g := n) (cs := R) (t := 62) (fr := (0, 0)) ?_ ?_ ?_ _ rV Try.underlying62 rfl iX ?_; rfl; rfl; rfl) | fail)
    refine (MAY.out).mono ?_
    rintro e w1 ⟨rfl, b1⟩
    have r1 := RV.out.call b1
    have R1 := Lib.hid r1
    have BB1 := Lib.hid (BV.out.trans (b1.mono (by have := SV.out; omega)))
    have ZZ1 := Lib.hid (show n + 1 ≤ w1.heap.size by have := SV.out; have := b1.size; omega)
    clear b1 r1 rV
    go_wp2_with fail
    refine (SH.out _).mono ?_
    rintro e w2 ⟨rfl, b2⟩
    have r2 := R1.out.call b2
    have B2x := BB1.out.trans (b2.mono (by have := ZZ1.out; omega))
    have Z2 : n + 1 ≤ w2.heap.size := Nat.le_trans ZZ1.out b2.size
    obtain ⟨U, g, hg, hU, rU, bU⟩ := AL.out w2
    have r3 := r2.call bU
    have gn : g ≠ n := by omega
    obtain ⟨X, hX⟩ : ∃ X, U.setRow g R = X := ⟨_, rfl⟩
    have rX := rU.setRow R
    have rN := r3.farRow (b := g) gn R
    have bX : Below n w X := by rw [← hX]; exact (M.But.refl g U).setRow (.inl rfl) R |>.below (B2x.trans (bU.mono (by omega))) (by omega) (by have := bU.size; omega)
    rw [hX] at rX rN
    have k0 := C0.out X rN
    have HG := Lib.hid hg; have HU := Lib.hid hU; have HX := Lib.hid hX; have BX := Lib.hid bX; have RX := Lib.hid rX
    have GN := Lib.hid (show n ≤ g by omega)
    clear b2 B2x Z2 hg hU bU r3 gn hX bX rN rX
    go_wp2_with (first | (rw [HG.out, HU.out]) | (refine wpList_load_row (x := .tmp 2) (ty := 62) (g := n) (cs := R) (t := 62) (fr := (0, 0)) ?_ ?_ ?_ _ r2 Try.underlying62 rfl iX ?_; rfl; rfl; rfl) | (refine wpList_store_row (x := .tmp 5) (y := .tmp 23) (cells := R) (old := Z) (t := 62) (ty := 62) (g := g) ?_ ?_ ?_ ?_ rU iX zsz oX ?_; rfl; rfl; rfl; rfl; rw [HX.out]) | fail)
    refine (FLD.out _).mono ?_
    rintro e w3 ⟨rfl, rfl⟩
    clear rU r2 k0
    have lit : (((({ data := #[105, 97, 104, 101, 110] } : ByteArray)[2]'(by decide)).toNat : Nat) : Int) = 104 := by rfl
    obtain ⟨cv, cx⟩ : ∃ cv, X.cell? ⟨g, 7, none⟩ = some cv := ⟨_, (RX.out.cell 7).trans (by rw [← HR.out]; exact Msg.g7 HO.out.h32)⟩
    have fx := RX.out.frozen 7
    have rY := RX.out.set 7 (.int .u8 7)
    have hrow : R.setIfInBounds 7 (.int .u8 7) = ({ m with hash := m.hash.set 3 7 } : Msg).row := by rw [← HR.out]; exact Msg.s7 HO.out.h32
    have oth := others_h HO.out.h32 HM.out
    rw [HS.out] at oth
    have mok : ({ m with hash := m.hash.set 3 7 } : Msg).ok := ⟨by show (m.hash.set 3 7).length = 32; rw [List.length_set]; exact HO.out.h32, fun x hx => by rcases List.mem_or_eq_of_mem_set (show x ∈ m.hash.set 3 7 from hx) with h | h; exact HO.out.hb x h; (subst h; decide), HO.out.k0, HO.out.k1, HO.out.c0, HO.out.c1, HO.out.i0, HO.out.i1, HO.out.a0, HO.out.a1, HO.out.e0, HO.out.e1, HO.out.n0, HO.out.n1⟩
    have mx := fun (b : Bool) (hb : b = true ↔ has S 104 = true) (x : World) => may_any { m with hash := m.hash.set 3 7 } mok b (hb.trans oth.symm) x
    rw [hrow] at rY
    have iY := Msg.info mok.h32
    generalize ({ m with hash := m.hash.set 3 7 } : Msg).row = Y at *
    obtain ⟨x4, hx4⟩ : ∃ x4, X.setCell ⟨g, 7, none⟩ (.int .u8 7) = x4 := ⟨_, rfl⟩
    have B4 := Lib.hid (show Below n w x4 by rw [← hx4]; exact BX.out.setCell (p := ⟨g, 7, none⟩) GN.out _)
    rw [hx4] at rY
    have HX4 := Lib.hid hx4; have MX := Lib.hid mx
    clear hx4 mx oth mok hrow
    go_wp2_with (first | (rw [HX4.out]) | fail)
    go_loopg [8, 9] S.size (fun q b i v => ∃ k : Nat, q + k = S.size ∧ i = .int .i64 k ∧ b = .bool (upto S 104 k) ∧ v = x4)
    case atStart => exact ⟨0, by omega, rfl, rfl, rfl⟩
    case round =>
      obtain ⟨k, hk, rfl, rfl, rfl⟩ := hrel
      have HK := Lib.hid hk
      have SZ := Lib.hid ls
      clear hk
      by_cases hlt : k < S.size
      · have us := upto_succ S 104 hlt
        obtain ⟨x, hx⟩ : ∃ x, S[k]'hlt = x := ⟨_, rfl⟩
        rw [hx] at us
        have US := Lib.hid us
        have i1 : ((k : Nat) : Int) < (S.size : Nat) := by omega
        have i2 : (0 : Int) ≤ (k : Nat) := by omega
        have w9 : IntKind.i64.wrap ((k : Int) + 1) = (k : Int) + 1 := IntWalk.i64_in _ (by have := SZ.out; omega)
        clear us
        obtain ⟨u, hu⟩ : ∃ u, upto S 104 k = u := ⟨_, rfl⟩
        rw [hu] at US ⊢
        have hcx : ((x.toNat : Int) == 104) = decide ((x.toNat : Int) = 104) := rfl
        obtain ⟨y, hy⟩ : ∃ y, decide ((x.toNat : Int) = 104) = y := ⟨_, rfl⟩
        rw [hy] at US hcx
        cases u
        · cases y
          · go_wp2
            go_roundg (S.size - (k + 1))
            case measure => have := HK.out; omega
            case rel => exact ⟨k + 1, by have := HK.out; omega, by go_num, by rw [US.out]; rfl, rfl⟩
          · go_wp2
            go_roundg (S.size - (k + 1))
            case measure => have := HK.out; omega
            case rel => exact ⟨k + 1, by have := HK.out; omega, by go_num, by rw [US.out]; rfl, rfl⟩
        · go_wp2
          go_roundg (S.size - (k + 1))
          case measure => have := HK.out; omega
          case rel => exact ⟨k + 1, by have := HK.out; omega, by go_num, by rw [US.out]; rfl, rfl⟩
      · obtain rfl : k = S.size := by have := HK.out; omega
        rw [upto_all]
        have mb := Lib.hid (MX.out (has S 104) Iff.rfl wr)
        have b5 := B4.out
        have HX4' := HX4
        clear HX4 cx fx
        go_wp2_with (first | (refine wpList_load_row (x := .tmp 5) (ty := 62) (g := g) (cs := Y) (t := 62) (fr := (0, 0)) ?_ ?_ ?_ _ rY Try.underlying62 rfl iY ?_; rfl; rfl; rfl) | fail)
        refine (mb.out).mono ?_
        rintro e w5 ⟨rfl, b6⟩
        have B6 := Lib.hid (b5.trans (b6.mono (by have := rY.lt; have := GN.out; omega)))
        clear b6 b5 rY
        generalize has S 104 = hb at *
        go_wp2
        go_ret
        exact ⟨by first | rfl | simp, B6.out⟩
  by_cases r3 : r = 3
  · subst r3
    go_enter Try.func13, Try.ntmps13
    go_wp2_with (first | (rw [HN.out, HV.out]) | (refine wpList_load_row (x := .tmp 2) (ty := 62) (g := n) (cs := R) (t := 62) (fr := (0, 0)) ?_ ?_ ?_ _ rV Try.underlying62 rfl iX ?_; rfl; rfl; rfl) | fail)
    refine (MAY.out).mono ?_
    rintro e w1 ⟨rfl, b1⟩
    have r1 := RV.out.call b1
    have R1 := Lib.hid r1
    have BB1 := Lib.hid (BV.out.trans (b1.mono (by have := SV.out; omega)))
    have ZZ1 := Lib.hid (show n + 1 ≤ w1.heap.size by have := SV.out; have := b1.size; omega)
    clear b1 r1 rV
    go_wp2_with fail
    refine (SH.out _).mono ?_
    rintro e w2 ⟨rfl, b2⟩
    have r2 := R1.out.call b2
    have B2x := BB1.out.trans (b2.mono (by have := ZZ1.out; omega))
    have Z2 : n + 1 ≤ w2.heap.size := Nat.le_trans ZZ1.out b2.size
    obtain ⟨U, g, hg, hU, rU, bU⟩ := AL.out w2
    have r3 := r2.call bU
    have gn : g ≠ n := by omega
    obtain ⟨X, hX⟩ : ∃ X, U.setRow g R = X := ⟨_, rfl⟩
    have rX := rU.setRow R
    have rN := r3.farRow (b := g) gn R
    have bX : Below n w X := by rw [← hX]; exact (M.But.refl g U).setRow (.inl rfl) R |>.below (B2x.trans (bU.mono (by omega))) (by omega) (by have := bU.size; omega)
    rw [hX] at rX rN
    have k0 := C0.out X rN
    have HG := Lib.hid hg; have HU := Lib.hid hU; have HX := Lib.hid hX; have BX := Lib.hid bX; have RX := Lib.hid rX
    have GN := Lib.hid (show n ≤ g by omega)
    clear b2 B2x Z2 hg hU bU r3 gn hX bX rN rX
    go_wp2_with (first | (rw [HG.out, HU.out]) | (refine wpList_load_row (x := .tmp 2) (ty := 62) (g := n) (cs := R) (t := 62) (fr := (0, 0)) ?_ ?_ ?_ _ r2 Try.underlying62 rfl iX ?_; rfl; rfl; rfl) | (refine wpList_store_row (x := .tmp 5) (y := .tmp 23) (cells := R) (old := Z) (t := 62) (ty := 62) (g := g) ?_ ?_ ?_ ?_ rU iX zsz oX ?_; rfl; rfl; rfl; rfl; rw [HX.out]) | fail)
    refine (FLD.out _).mono ?_
    rintro e w3 ⟨rfl, rfl⟩
    clear rU r2 k0
    have lit : (((({ data := #[105, 97, 104, 101, 110] } : ByteArray)[3]'(by decide)).toNat : Nat) : Int) = 101 := by rfl
    obtain ⟨cv, cx⟩ : ∃ cv, X.cell? ⟨g, 36, none⟩ = some cv := ⟨_, (RX.out.cell 36).trans (by rw [← HR.out]; exact Msg.g36 HO.out.h32)⟩
    have fx := RX.out.frozen 36
    have rY := RX.out.set 36 (.int .i64 7)
    have hrow : R.setIfInBounds 36 (.int .i64 7) = ({ m with expiry := 7 } : Msg).row := by rw [← HR.out]; exact Msg.s36 HO.out.h32 7
    have oth := others_e HM.out
    rw [HS.out] at oth
    have mok : ({ m with expiry := 7 } : Msg).ok := ⟨HO.out.h32, HO.out.hb, HO.out.k0, HO.out.k1, HO.out.c0, HO.out.c1, HO.out.i0, HO.out.i1, HO.out.a0, HO.out.a1, (by decide : (-9223372036854775808 : Int) ≤ 7), (by decide : (7 : Int) ≤ 9223372036854775807), HO.out.n0, HO.out.n1⟩
    have mx := fun (b : Bool) (hb : b = true ↔ has S 101 = true) (x : World) => may_any { m with expiry := 7 } mok b (hb.trans oth.symm) x
    rw [hrow] at rY
    have iY := Msg.info mok.h32
    generalize ({ m with expiry := 7 } : Msg).row = Y at *
    obtain ⟨x4, hx4⟩ : ∃ x4, X.setCell ⟨g, 36, none⟩ (.int .i64 7) = x4 := ⟨_, rfl⟩
    have B4 := Lib.hid (show Below n w x4 by rw [← hx4]; exact BX.out.setCell (p := ⟨g, 36, none⟩) GN.out _)
    rw [hx4] at rY
    have HX4 := Lib.hid hx4; have MX := Lib.hid mx
    clear hx4 mx oth mok hrow
    go_wp2_with (first | (rw [HX4.out]) | fail)
    go_loopg [8, 9] S.size (fun q b i v => ∃ k : Nat, q + k = S.size ∧ i = .int .i64 k ∧ b = .bool (upto S 101 k) ∧ v = x4)
    case atStart => exact ⟨0, by omega, rfl, rfl, rfl⟩
    case round =>
      obtain ⟨k, hk, rfl, rfl, rfl⟩ := hrel
      have HK := Lib.hid hk
      have SZ := Lib.hid ls
      clear hk
      by_cases hlt : k < S.size
      · have us := upto_succ S 101 hlt
        obtain ⟨x, hx⟩ : ∃ x, S[k]'hlt = x := ⟨_, rfl⟩
        rw [hx] at us
        have US := Lib.hid us
        have i1 : ((k : Nat) : Int) < (S.size : Nat) := by omega
        have i2 : (0 : Int) ≤ (k : Nat) := by omega
        have w9 : IntKind.i64.wrap ((k : Int) + 1) = (k : Int) + 1 := IntWalk.i64_in _ (by have := SZ.out; omega)
        clear us
        obtain ⟨u, hu⟩ : ∃ u, upto S 101 k = u := ⟨_, rfl⟩
        rw [hu] at US ⊢
        have hcx : ((x.toNat : Int) == 101) = decide ((x.toNat : Int) = 101) := rfl
        obtain ⟨y, hy⟩ : ∃ y, decide ((x.toNat : Int) = 101) = y := ⟨_, rfl⟩
        rw [hy] at US hcx
        cases u
        · cases y
          · go_wp2
            go_roundg (S.size - (k + 1))
            case measure => have := HK.out; omega
            case rel => exact ⟨k + 1, by have := HK.out; omega, by go_num, by rw [US.out]; rfl, rfl⟩
          · go_wp2
            go_roundg (S.size - (k + 1))
            case measure => have := HK.out; omega
            case rel => exact ⟨k + 1, by have := HK.out; omega, by go_num, by rw [US.out]; rfl, rfl⟩
        · go_wp2
          go_roundg (S.size - (k + 1))
          case measure => have := HK.out; omega
          case rel => exact ⟨k + 1, by have := HK.out; omega, by go_num, by rw [US.out]; rfl, rfl⟩
      · obtain rfl : k = S.size := by have := HK.out; omega
        rw [upto_all]
        have mb := Lib.hid (MX.out (has S 101) Iff.rfl wr)
        have b5 := B4.out
        have HX4' := HX4
        clear HX4 cx fx
        go_wp2_with (first | (refine wpList_load_row (x := .tmp 5) (ty := 62) (g := g) (cs := Y) (t := 62) (fr := (0, 0)) ?_ ?_ ?_ _ rY Try.underlying62 rfl iY ?_; rfl; rfl; rfl) | fail)
        refine (mb.out).mono ?_
        rintro e w5 ⟨rfl, b6⟩
        have B6 := Lib.hid (b5.trans (b6.mono (by have := rY.lt; have := GN.out; omega)))
        clear b6 b5 rY
        generalize has S 101 = hb at *
        go_wp2
        go_ret
        exact ⟨by first | rfl | simp, B6.out⟩
  by_cases r4 : r = 4
  · subst r4
    go_enter Try.func13, Try.ntmps13
    go_wp2_with (first | (rw [HN.out, HV.out]) | (refine wpList_load_row (x := .tmp 2) (ty := 62) (g := n) (cs := R) (t := 62) (fr := (0, 0)) ?_ ?_ ?_ _ rV Try.underlying62 rfl iX ?_; rfl; rfl; rfl) | fail)
    refine (MAY.out).mono ?_
    rintro e w1 ⟨rfl, b1⟩
    have r1 := RV.out.call b1
    have R1 := Lib.hid r1
    have BB1 := Lib.hid (BV.out.trans (b1.mono (by have := SV.out; omega)))
    have ZZ1 := Lib.hid (show n + 1 ≤ w1.heap.size by have := SV.out; have := b1.size; omega)
    clear b1 r1 rV
    go_wp2_with fail
    refine (SH.out _).mono ?_
    rintro e w2 ⟨rfl, b2⟩
    have r2 := R1.out.call b2
    have B2x := BB1.out.trans (b2.mono (by have := ZZ1.out; omega))
    have Z2 : n + 1 ≤ w2.heap.size := Nat.le_trans ZZ1.out b2.size
    obtain ⟨U, g, hg, hU, rU, bU⟩ := AL.out w2
    have r3 := r2.call bU
    have gn : g ≠ n := by omega
    obtain ⟨X, hX⟩ : ∃ X, U.setRow g R = X := ⟨_, rfl⟩
    have rX := rU.setRow R
    have rN := r3.farRow (b := g) gn R
    have bX : Below n w X := by rw [← hX]; exact (M.But.refl g U).setRow (.inl rfl) R |>.below (B2x.trans (bU.mono (by omega))) (by omega) (by have := bU.size; omega)
    rw [hX] at rX rN
    have k0 := C0.out X rN
    have HG := Lib.hid hg; have HU := Lib.hid hU; have HX := Lib.hid hX; have BX := Lib.hid bX; have RX := Lib.hid rX
    have GN := Lib.hid (show n ≤ g by omega)
    clear b2 B2x Z2 hg hU bU r3 gn hX bX rN rX
    go_wp2_with (first | (rw [HG.out, HU.out]) | (refine wpList_load_row (x := .tmp 2) (ty := 62) (g := n) (cs := R) (t := 62) (fr := (0, 0)) ?_ ?_ ?_ _ r2 Try.underlying62 rfl iX ?_; rfl; rfl; rfl) | (refine wpList_store_row (x := .tmp 5) (y := .tmp 23) (cells := R) (old := Z) (t := 62) (ty := 62) (g := g) ?_ ?_ ?_ ?_ rU iX zsz oX ?_; rfl; rfl; rfl; rfl; rw [HX.out]) | fail)
    refine (FLD.out _).mono ?_
    rintro e w3 ⟨rfl, rfl⟩
    clear rU r2 k0
    have lit : (((({ data := #[105, 97, 104, 101, 110] } : ByteArray)[4]'(by decide)).toNat : Nat) : Int) = 110 := by rfl
    obtain ⟨cv, cx⟩ : ∃ cv, X.cell? ⟨g, 37, none⟩ = some cv := ⟨_, (RX.out.cell 37).trans (by rw [← HR.out]; exact Msg.g37 HO.out.h32)⟩
    have fx := RX.out.frozen 37
    have rY := RX.out.set 37 (.int .i64 7)
    have hrow : R.setIfInBounds 37 (.int .i64 7) = ({ m with number := 7 } : Msg).row := by rw [← HR.out]; exact Msg.s37 HO.out.h32 7
    have oth := others_n HM.out
    rw [HS.out] at oth
    have mok : ({ m with number := 7 } : Msg).ok := ⟨HO.out.h32, HO.out.hb, HO.out.k0, HO.out.k1, HO.out.c0, HO.out.c1, HO.out.i0, HO.out.i1, HO.out.a0, HO.out.a1, HO.out.e0, HO.out.e1, (by decide : (-9223372036854775808 : Int) ≤ 7), (by decide : (7 : Int) ≤ 9223372036854775807)⟩
    have mx := fun (b : Bool) (hb : b = true ↔ has S 110 = true) (x : World) => may_any { m with number := 7 } mok b (hb.trans oth.symm) x
    rw [hrow] at rY
    have iY := Msg.info mok.h32
    generalize ({ m with number := 7 } : Msg).row = Y at *
    obtain ⟨x4, hx4⟩ : ∃ x4, X.setCell ⟨g, 37, none⟩ (.int .i64 7) = x4 := ⟨_, rfl⟩
    have B4 := Lib.hid (show Below n w x4 by rw [← hx4]; exact BX.out.setCell (p := ⟨g, 37, none⟩) GN.out _)
    rw [hx4] at rY
    have HX4 := Lib.hid hx4; have MX := Lib.hid mx
    clear hx4 mx oth mok hrow
    go_wp2_with (first | (rw [HX4.out]) | fail)
    go_loopg [8, 9] S.size (fun q b i v => ∃ k : Nat, q + k = S.size ∧ i = .int .i64 k ∧ b = .bool (upto S 110 k) ∧ v = x4)
    case atStart => exact ⟨0, by omega, rfl, rfl, rfl⟩
    case round =>
      obtain ⟨k, hk, rfl, rfl, rfl⟩ := hrel
      have HK := Lib.hid hk
      have SZ := Lib.hid ls
      clear hk
      by_cases hlt : k < S.size
      · have us := upto_succ S 110 hlt
        obtain ⟨x, hx⟩ : ∃ x, S[k]'hlt = x := ⟨_, rfl⟩
        rw [hx] at us
        have US := Lib.hid us
        have i1 : ((k : Nat) : Int) < (S.size : Nat) := by omega
        have i2 : (0 : Int) ≤ (k : Nat) := by omega
        have w9 : IntKind.i64.wrap ((k : Int) + 1) = (k : Int) + 1 := IntWalk.i64_in _ (by have := SZ.out; omega)
        clear us
        obtain ⟨u, hu⟩ : ∃ u, upto S 110 k = u := ⟨_, rfl⟩
        rw [hu] at US ⊢
        have hcx : ((x.toNat : Int) == 110) = decide ((x.toNat : Int) = 110) := rfl
        obtain ⟨y, hy⟩ : ∃ y, decide ((x.toNat : Int) = 110) = y := ⟨_, rfl⟩
        rw [hy] at US hcx
        cases u
        · cases y
          · go_wp2
            go_roundg (S.size - (k + 1))
            case measure => have := HK.out; omega
            case rel => exact ⟨k + 1, by have := HK.out; omega, by go_num, by rw [US.out]; rfl, rfl⟩
          · go_wp2
            go_roundg (S.size - (k + 1))
            case measure => have := HK.out; omega
            case rel => exact ⟨k + 1, by have := HK.out; omega, by go_num, by rw [US.out]; rfl, rfl⟩
        · go_wp2
          go_roundg (S.size - (k + 1))
          case measure => have := HK.out; omega
          case rel => exact ⟨k + 1, by have := HK.out; omega, by go_num, by rw [US.out]; rfl, rfl⟩
      · obtain rfl : k = S.size := by have := HK.out; omega
        rw [upto_all]
        have mb := Lib.hid (MX.out (has S 110) Iff.rfl wr)
        have b5 := B4.out
        have HX4' := HX4
        clear HX4 cx fx
        go_wp2_with (first | (refine wpList_load_row (x := .tmp 5) (ty := 62) (g := g) (cs := Y) (t := 62) (fr := (0, 0)) ?_ ?_ ?_ _ rY Try.underlying62 rfl iY ?_; rfl; rfl; rfl) | fail)
        refine (mb.out).mono ?_
        rintro e w5 ⟨rfl, b6⟩
        have B6 := Lib.hid (b5.trans (b6.mono (by have := rY.lt; have := GN.out; omega)))
        clear b6 b5 rY
        generalize has S 110 = hb at *
        go_wp2
        go_ret
        exact ⟨by first | rfl | simp, B6.out⟩
  omega
set_option maxRecDepth 100000 in
theorem walk_WireOthers {H : Type} {enc : TypeId × Value → H} {W : World} {base : Nat} (v : Value) (d : DataW H) (p : List MemPlace) (hval : Value.okWide Try.prog W .any base 62 v) (h : DataW.Trod enc Try.prog W 0 (fun _ => true) true 62 v d p) (a1 : Int) (w1 : (Lit.int .u8 a1).wf = true) :
    Calls Try.prog 13 #[v, .int .u8 a1] W (WFine W) := by
  obtain ⟨m, rfl, ho⟩ := msg_of_trod hval h
  obtain ⟨h0, h1⟩ := wfu8 w1
  obtain ⟨z, rfl⟩ := Int.eq_ofNat_of_zero_le h0
  by_cases hm : May m
  · exact others_yes m ho hm z (by omega) W
  · exact others_no m ho hm z W
end Go.Proofs.Ytiilgkhndfnkgaa
