/- shown of layer 7; no conditions. -/
import Derived.Test.YtiilgkhndfnkgaaWiU
namespace Go.Proofs.Ytiilgkhndfnkgaa
open Go.RowKit Go.Shelf
set_option linter.unusedVariables false

def m0 : Msg := ⟨8, 7, 0, 0, z32, 0, 0⟩
def s0 : ByteArray := ⟨#[8, 0, 0, 0, 7]⟩
theorem m0_row : m0.row = #[.int .i64 8, .int .u32 7, .int .u64 0, .int .u64 0, .int .u8 0, .int .u8 0, .int .u8 0, .int .u8 0, .int .u8 0, .int .u8 0, .int .u8 0, .int .u8 0, .int .u8 0, .int .u8 0, .int .u8 0, .int .u8 0, .int .u8 0, .int .u8 0, .int .u8 0, .int .u8 0, .int .u8 0, .int .u8 0, .int .u8 0, .int .u8 0, .int .u8 0, .int .u8 0, .int .u8 0, .int .u8 0, .int .u8 0, .int .u8 0, .int .u8 0, .int .u8 0, .int .u8 0, .int .u8 0, .int .u8 0, .int .u8 0, .int .i64 0, .int .i64 0] := by rfl
theorem m0_ok : m0.ok := ⟨rfl, fun x hx => z_in hx, by decide, by decide, by decide, by decide, by decide, by decide, by decide, by decide, by decide, by decide, by decide, by decide⟩
theorem m0_mayP : MayP m0 [.chan] := ⟨by decide, by decide, by decide, by decide, by decide, rfl⟩
theorem m0_may : May m0 := ⟨[.chan], rfl, m0_mayP⟩
theorem m0_enc : encB m0 [.chan] = s0 := by
  unfold encB kindB cat fbytes s0
  apply ByteArray.ext
  rfl
theorem s0_runs : runs (Msg.none (dk s0), dr s0) [.chan] = some (m0, ⟨#[]⟩) := by rfl
theorem s0_ok {m : Msg} (h : DecOk s0 m) : m = m0 := by
  obtain ⟨_, fl, s', h1, h2, _⟩ := h
  obtain rfl : [Fld.chan] = fl := Option.some.inj (show some [Fld.chan] = some fl from h1)
  rw [s0_runs] at h2
  cases h2; rfl
theorem s0_bad {ev : Int} (h : DecBad s0 ev) : False := by
  rcases h with ⟨h, _⟩ | ⟨_, h, _⟩ | ⟨_, fl, h1, h⟩
  · cases h
  · cases (show some [Fld.chan] = none from h)
  · obtain rfl : [Fld.chan] = fl := Option.some.inj (show some [Fld.chan] = some fl from h1)
    rw [s0_runs] at h
    rcases h with ⟨h, _⟩ | ⟨m, s', h, h'⟩
    · cases h
    · cases h
      rcases h' with ⟨h', _⟩ | ⟨_, h', _⟩
      · exact h' rfl
      · exact h' m0_may
set_option maxRecDepth 100000 in
set_option maxHeartbeats 4000000 in
theorem wshown_any (w : World) : Calls Try.prog 37 #[] w fun e w' => e = .returned (.bool true) ∧ Below w.heap.size w w' := by
  obtain ⟨n, hn⟩ : ∃ n, w.heap.size = n := ⟨_, rfl⟩
  have en := enc_yes m0 m0_ok [.chan] rfl m0_mayP w
  rw [m0_enc] at en
  have de : ∀ x, Calls Try.prog 38 #[.string s0] x fun e x' => e = .returned (.tuple #[.agg m0.row, .int .i64 0]) ∧ Below x.heap.size x x' := fun x => by
    refine (dec_any s0 (by decide) x).mono ?_
    rintro e x' ⟨⟨m, h1, h2, rfl⟩ | ⟨ev, _, h1, _⟩, hb⟩
    · rw [s0_ok h1]; exact ⟨rfl, hb⟩
    · exact (s0_bad h1).elim
  have eq := fun W => msg_eql 62 (.inl rfl) m0 m0 m0_ok m0_ok true ⟨fun _ => rfl, fun _ => rfl⟩ W
  have eqf : ∀ B : Array Value, m0.row = B → ∀ W, (Op.equalIn 10000 62 (.agg m0.row) (.agg B)).run Try.prog W = .ok true W := by rintro B rfl; exact eq
  have eq2 := eqf _ m0_row
  have iX := Msg.info (m := m0) rfl
  have oX := Msg.one (m := m0)
  rw [m0_row] at en
  have zro : ∃ Z, (Msg.none 0).row = Z ∧ Z.size = m0.row.size := ⟨_, rfl, by rw [Msg.size rfl, Msg.size (m := m0) rfl]⟩
  obtain ⟨Z, hZ, zX⟩ := zro
  obtain ⟨R, hR⟩ : ∃ R, m0.row = R := ⟨_, rfl⟩
  rw [hR] at de eq2 iX oX zX
  have nrow := none_row 0
  rw [hZ] at nrow
  unfold s0 at *
  have HN := Lib.hid hn; have EN := Lib.hid en; have DE := Lib.hid de; have EQ := Lib.hid eq2
  have al := fun x : World => M.RowAt.new x 62 Z
  rw [nrow] at al
  have al2 : ∀ x : World, ∃ V g, x.heap.size = g ∧ x.alloc (.cells #[.int .i64 0, .int .u32 0, .int .u64 0, .int .u64 0, .int .u8 0, .int .u8 0, .int .u8 0, .int .u8 0, .int .u8 0, .int .u8 0, .int .u8 0, .int .u8 0, .int .u8 0, .int .u8 0, .int .u8 0, .int .u8 0, .int .u8 0, .int .u8 0, .int .u8 0, .int .u8 0, .int .u8 0, .int .u8 0, .int .u8 0, .int .u8 0, .int .u8 0, .int .u8 0, .int .u8 0, .int .u8 0, .int .u8 0, .int .u8 0, .int .u8 0, .int .u8 0, .int .u8 0, .int .u8 0, .int .u8 0, .int .u8 0, .int .i64 0, .int .i64 0] 62) = V ∧ M.RowAt V g 62 Z ∧ Below x.heap.size x V := fun x => ⟨_, _, rfl, rfl, by rw [nrow]; exact al x, (Below.refl _ x).alloc (Nat.le_refl _) _⟩
  have AL := Lib.hid al2
  clear en de eq eqf eq2 hR hZ nrow al al2
  rw [hn]
  clear hn
  go_enter Try.func37, Try.ntmps37
  go_wp2_with fail
  refine (EN.out).mono ?_
  rintro e w1 ⟨rfl, b1⟩
  have B1 := Lib.hid (show Below n w w1 by have := HN.out; rw [this] at b1; exact b1)
  have Z1 := Lib.hid (show n ≤ w1.heap.size by rw [← HN.out]; exact b1.size)
  clear b1
  go_wp2_with fail
  refine (DE.out _).mono ?_
  rintro e w2 ⟨rfl, b2⟩
  have B2' := B1.out.trans (b2.mono Z1.out)
  have Z2 : n ≤ w2.heap.size := Nat.le_trans Z1.out b2.size
  obtain ⟨V, g, hg, hV, rV, bV⟩ := AL.out w2
  have B3 := B2'.trans (bV.mono Z2)
  have B4 := Lib.hid ((M.But.refl g V).setRow (.inl rfl) R |>.below B3 (by omega) (by have := bV.size; omega))
  have r1 := rV.setRow R
  obtain ⟨U, hU⟩ : ∃ U, V.setRow g R = U := ⟨_, rfl⟩
  rw [hU] at r1 B4
  have HG := Lib.hid hg; have HV := Lib.hid hV; have HU := Lib.hid hU
  clear b2 B2' Z2 hg hV bV B3 hU
  go_wp2_with (first | (rw [HG.out, HV.out]) | (refine wpList_store_row (x := .tmp 3) (y := .tmp 13) (cells := R) (old := Z) (t := 62) (ty := 62) (g := g) ?_ ?_ ?_ ?_ rV iX zX oX ?_; rfl; rfl; rfl; rfl; rw [HU.out]) | (refine wpList_load_row_g (x := .tmp 3) (ty := 62) (g := g) (cs := R) (t := 62) (fr := (0, 0)) ?_ ?_ ?_ _ r1 Try.underlying62 rfl iX ?_; rfl; rfl; rfl) | (refine wpList_eql (x := .tmp 26) (y := .tmp 27) (ty := 62) (t := 62) (A := R) ?_ ?_ _ ?_ ?_ true guard62 EQ.out ?_; rfl; rfl; rfl; rfl) | fail)
  go_ret
  exact ⟨rfl, B4.out⟩
end Go.Proofs.Ytiilgkhndfnkgaa
