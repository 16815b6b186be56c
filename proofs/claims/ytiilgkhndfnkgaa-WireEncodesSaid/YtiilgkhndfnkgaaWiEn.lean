/- The walk of WireEncodes; no conditions. -/
import Derived.Test.YtiilgkhndfnkgaaWiZ
namespace Go.Proofs.Ytiilgkhndfnkgaa
open Go.RowKit Go.Shelf
set_option linter.unusedVariables false

structure EC (n : Nat) (w : World) (R : Array Value) (x : World) : Prop where
  r : M.RowAt x n 62 R
  b : Below n w x
theorem EC.same {n : Nat} {w x x' : World} {R : Array Value} (h : EC n w R x) (hb : Below x.heap.size x x') : EC n w R x' := ⟨h.r.call hb, h.b.trans (hb.mono (Nat.le_of_lt h.r.lt))⟩
theorem enc_both (m : Msg) (ho : m.ok) : ∃ (E : ByteArray) (ev : Int) (b : Bool), (b = true ↔ May m) ∧ (∀ w, Calls Try.prog 33 #[.agg m.row] w fun e w' => e = .returned (.tuple #[.string E, .int .i64 ev]) ∧ Below w.heap.size w w') ∧ (∀ w, Calls Try.prog 34 #[.agg m.row] w fun e w' => e = .returned (.tuple #[.string E, .int .i64 ev]) ∧ Below w.heap.size w w') ∧
    ((ev = 1 ∧ E = ⟨#[]⟩) ∨ (ev = 0 ∧ DecOk E m ∧ E.size ≤ 100000)) := by
  by_cases hm : May m
  · have hm' := hm
    obtain ⟨fl, hf, hp⟩ := hm
    refine ⟨encB m fl, 0, true, ⟨fun _ => hm', fun _ => rfl⟩, fun w => enc_yes m ho fl hf hp w, fun w => renc_yes m ho fl hf hp w, .inr ⟨rfl, enc_dec ho hf hp, ?_⟩⟩
    have h1 := cat_le m ho.h32 fl (kindB m)
    have h2 := fields_len hf
    have h3 : (kindB m).size ≤ 8 := by
      unfold kindB; rw [empty_app, str_size]
      exact Nat.le_trans (num_len _ _ (by decide)) (by decide)
    show (cat m (kindB m) fl).size ≤ _
    omega
  · exact ⟨⟨#[]⟩, 1, false, ⟨fun h => Bool.noConfusion h, fun h => absurd h hm⟩, fun w => enc_no m ho hm w, fun w => renc_no m ho hm w, .inl ⟨rfl, rfl⟩⟩
set_option maxRecDepth 100000 in
set_option maxHeartbeats 8000000 in
theorem encodes_walk (m : Msg) (ho : m.ok) (w : World) : Calls Try.prog 9 #[.agg m.row] w (WFine w) := by
  obtain ⟨n, hn⟩ : ∃ n, w.heap.size = n := ⟨_, rfl⟩
  obtain ⟨V, hV⟩ : ∃ V, w.alloc (.cells m.row 62) = V := ⟨_, rfl⟩
  have rV : M.RowAt V n 62 m.row := by rw [← hV, ← hn]; exact M.RowAt.new w 62 _
  have ecV : EC n w m.row V := ⟨rV, by rw [← hV, ← hn]; exact (Below.refl _ w).alloc (Nat.le_refl _) _⟩
  obtain ⟨E, ev, b, hb, en, ren, hev⟩ := enc_both m ho
  have may := fun x => may_any m ho b hb x
  have rmay := fun x => rmay_any m ho b hb x
  have iX := Msg.info ho.h32
  have iX5 := Msg.rinfo ho.h32
  have oX := Msg.one (m := m)
  have de : ev = 0 → ∀ x, Calls Try.prog 38 #[.string E] x fun e x' => e = .returned (.tuple #[.agg m.row, .int .i64 0]) ∧ Below x.heap.size x x' := fun h0 x => by
    rcases hev with ⟨h, _⟩ | ⟨_, h1, h2⟩
    · rw [h0] at h; cases h
    · refine (dec_any E h2 x).mono ?_
      rintro e x' ⟨⟨m', g1, _, rfl⟩ | ⟨ev', _, g1, _⟩, hb⟩
      · rw [dec_one g1 h1]; exact ⟨rfl, hb⟩
      · exact (dec_ok_bad h1 g1).elim
  have eq := fun W => msg_eql 62 (.inl rfl) m m ho ho true ⟨fun _ => rfl, fun _ => rfl⟩ W
  have hev' : (ev = 1 ∧ E = ⟨#[]⟩) ∨ ev = 0 := hev.imp id (fun h => h.1)
  have zsz : (Msg.none 0).row.size = m.row.size := by rw [Msg.size rfl, Msg.size ho.h32]
  obtain ⟨Z, hZ⟩ : ∃ Z, (Msg.none 0).row = Z := ⟨_, rfl⟩
  have nrow := none_row 0
  rw [hZ] at nrow zsz
  have al2 : ∀ x : World, ∃ U g, x.heap.size = g ∧ x.alloc (.cells #[.int .i64 0, .int .u32 0, .int .u64 0, .int .u64 0, .int .u8 0, .int .u8 0, .int .u8 0, .int .u8 0, .int .u8 0, .int .u8 0, .int .u8 0, .int .u8 0, .int .u8 0, .int .u8 0, .int .u8 0, .int .u8 0, .int .u8 0, .int .u8 0, .int .u8 0, .int .u8 0, .int .u8 0, .int .u8 0, .int .u8 0, .int .u8 0, .int .u8 0, .int .u8 0, .int .u8 0, .int .u8 0, .int .u8 0, .int .u8 0, .int .u8 0, .int .u8 0, .int .u8 0, .int .u8 0, .int .u8 0, .int .u8 0, .int .i64 0, .int .i64 0] 62) = U ∧ M.RowAt U g 62 Z ∧ Below x.heap.size x U := fun x => ⟨_, _, rfl, rfl, by rw [nrow]; exact M.RowAt.new x 62 _, (Below.refl _ x).alloc (Nat.le_refl _) _⟩
  have AL := Lib.hid al2
  have HN := Lib.hid hn; have HV := Lib.hid hV; have ECV := Lib.hid ecV; have EN := Lib.hid en; have REN := Lib.hid ren
  have MAY := Lib.hid may; have RMAY := Lib.hid rmay; have DE := Lib.hid de; have EQ := Lib.hid eq
  have SH := Lib.hid (fun x => wshown_any x)
  unfold WFine
  rw [hn]
  clear may rmay en ren de eq ecV hV hn hb hev nrow hZ al2 ho
  generalize m.row = R at *
  go_enter Try.func9, Try.ntmps9
  go_wp2_with (first | (rw [HN.out, HV.out]) | (refine wpList_load_row (x := .tmp 1) (ty := 62) (g := n) (cs := R) (t := 62) (fr := (0, 0)) ?_ ?_ ?_ _ rV Try.underlying62 rfl iX ?_; rfl; rfl; rfl) | fail)
  refine (EN.out _).mono ?_
  rintro e w1 ⟨rfl, b1⟩
  have e1 := ECV.out.same b1
  have r1 := e1.r
  have E1 := Lib.hid e1
  clear b1 rV e1
  go_wp2_with (first | (refine wpList_load_row (x := .tmp 1) (ty := 62) (g := n) (cs := R) (t := 62) (fr := (0, 0)) ?_ ?_ ?_ _ r1 Try.underlying62 rfl iX ?_; rfl; rfl; rfl) | fail)
  refine (REN.out _).mono ?_
  rintro e w2 ⟨rfl, b2⟩
  have E2 := Lib.hid (E1.out.same b2)
  clear b2 r1
  go_wp2_with fail
  refine QP.wp_region_p 1 (EC n w R) (EC n w R) (by kernel_rfl) (by kernel_rfl) (E2.out.same (Below.refl _ _).drew) ?_
  iterate 19
    (refine QP.wpQ_step (fun K hK => ?_)
     go_simp
     first
       | (refine hK _ ?_; clear hK K)
       | (refine ⟨?_, hK _ ?_⟩; decide; clear hK K)
       | ((first | (apply Exists.intro; refine ⟨?_, hK _ ?_⟩) | refine ⟨⟨undef, ?_⟩, hK _ ?_⟩)
          first
            | (apply QP.al_p; decide; (focus (intro wq hq; (skip); first | (first | (refine QP.oat_load_row (ty := 62) (x := .tmp 1) (g := n) (t := 62) (cs := R) (fr := (0, 0)) ?_ ?_ _ hq.r Try.underlying62 ?_ iX hq; rfl; rfl; rfl)) | (unfold QP.oat; go_simp; first | done | exact ⟨by assumption, rfl⟩ | exact rfl | assumption | (first | ((with_reducible refine (MAY.out _).mono ?_); rintro e w' ⟨rfl, h'⟩; exact ⟨rfl, hq.same h'⟩) | ((with_reducible refine (RMAY.out _).mono ?_); rintro e w' ⟨rfl, h'⟩; exact ⟨rfl, hq.same h'⟩) | ((with_reducible refine (SH.out _).mono ?_); rintro e w' ⟨rfl, h'⟩; exact ⟨rfl, hq.same h'⟩))))))
            | (apply QP.al_dep; decide; decide; (focus (intro wq hq; (skip); first | (first | (refine QP.oat_load_row (ty := 62) (x := .tmp 1) (g := n) (t := 62) (cs := R) (fr := (0, 0)) ?_ ?_ _ hq.r Try.underlying62 ?_ iX hq; rfl; rfl; rfl)) | (unfold QP.oat; go_simp; first | done | exact ⟨by assumption, rfl⟩ | exact rfl | assumption | (first | ((with_reducible refine (MAY.out _).mono ?_); rintro e w' ⟨rfl, h'⟩; exact ⟨rfl, hq.same h'⟩) | ((with_reducible refine (RMAY.out _).mono ?_); rintro e w' ⟨rfl, h'⟩; exact ⟨rfl, hq.same h'⟩) | ((with_reducible refine (SH.out _).mono ?_); rintro e w' ⟨rfl, h'⟩; exact ⟨rfl, hq.same h'⟩))))))
            | (apply QP.al_bef; decide; decide; (focus (intro wq hq; (skip); first | (first | (refine QP.oat_load_row (ty := 62) (x := .tmp 1) (g := n) (t := 62) (cs := R) (fr := (0, 0)) ?_ ?_ _ hq.r Try.underlying62 ?_ iX hq; rfl; rfl; rfl)) | (unfold QP.oat; go_simp; first | done | exact ⟨by assumption, rfl⟩ | exact rfl | assumption | (first | ((with_reducible refine (MAY.out _).mono ?_); rintro e w' ⟨rfl, h'⟩; exact ⟨rfl, hq.same h'⟩) | ((with_reducible refine (RMAY.out _).mono ?_); rintro e w' ⟨rfl, h'⟩; exact ⟨rfl, hq.same h'⟩) | ((with_reducible refine (SH.out _).mono ?_); rintro e w' ⟨rfl, h'⟩; exact ⟨rfl, hq.same h'⟩))))))
            | (apply QP.al_ok; decide; (focus (intro wq hq; (skip); first | (first | (refine QP.oat_load_row (ty := 62) (x := .tmp 1) (g := n) (t := 62) (cs := R) (fr := (0, 0)) ?_ ?_ _ hq.r Try.underlying62 ?_ iX hq; rfl; rfl; rfl)) | (unfold QP.oat; go_simp; first | done | exact ⟨by assumption, rfl⟩ | exact rfl | assumption | (first | ((with_reducible refine (MAY.out _).mono ?_); rintro e w' ⟨rfl, h'⟩; exact ⟨rfl, hq.same h'⟩) | ((with_reducible refine (RMAY.out _).mono ?_); rintro e w' ⟨rfl, h'⟩; exact ⟨rfl, hq.same h'⟩) | ((with_reducible refine (SH.out _).mono ?_); rintro e w' ⟨rfl, h'⟩; exact ⟨rfl, hq.same h'⟩))))); (focus (intro wq hq; (skip); first | (first | (refine QP.oat_load_row (ty := 62) (x := .tmp 1) (g := n) (t := 62) (cs := R) (fr := (0, 0)) ?_ ?_ _ hq.r Try.underlying62 ?_ iX hq; rfl; rfl; rfl)) | (unfold QP.oat; go_simp; first | done | exact ⟨by assumption, rfl⟩ | exact rfl | assumption | (first | ((with_reducible refine (MAY.out _).mono ?_); rintro e w' ⟨rfl, h'⟩; exact ⟨rfl, hq.same h'⟩) | ((with_reducible refine (RMAY.out _).mono ?_); rintro e w' ⟨rfl, h'⟩; exact ⟨rfl, hq.same h'⟩) | ((with_reducible refine (SH.out _).mono ?_); rintro e w' ⟨rfl, h'⟩; exact ⟨rfl, hq.same h'⟩))))))
          clear hK K))
  refine QP.wpQ_nil ?_
  intro w3 e3
  have E3 := Lib.hid e3
  clear e3
  rcases hev' with ⟨rfl, rfl⟩ | rfl
  · have B3 := Lib.hid E3.out.b
    go_wp2
    go_ret
    exact ⟨rfl, B3.out⟩
  · have DE0 := Lib.hid (DE.out rfl)
    clear DE
    go_wp2_with fail
    refine (DE0.out _).mono ?_
    rintro e w4 ⟨rfl, b4⟩
    have e4 := E3.out.same b4
    obtain ⟨U, g, hg, hU, rU, bU⟩ := AL.out w4
    have e5 := e4.same bU
    have gn : g ≠ n := by have := e4.r.lt; omega
    obtain ⟨X, hX⟩ : ∃ X, U.setRow g R = X := ⟨_, rfl⟩
    have rX := rU.setRow R
    have rN := e5.r.farRow (b := g) gn R
    have bX : Below n w X := by rw [← hX]; exact (M.But.refl g U).setRow (.inl rfl) R |>.below e5.b (by have := e4.r.lt; omega) (by have := e5.r.lt; omega)
    rw [hX] at rX rN
    have HG := Lib.hid hg; have HU := Lib.hid hU; have HX := Lib.hid hX; have BX := Lib.hid bX
    clear b4 e4 e5 hg hU bU gn hX bX
    go_wp2_with (first | (rw [HG.out, HU.out]) | (refine wpList_store_row (x := .tmp 7) (y := .tmp 45) (cells := R) (old := Z) (t := 62) (ty := 62) (g := g) ?_ ?_ ?_ ?_ rU iX zsz oX ?_; rfl; rfl; rfl; rfl; rw [HX.out]) | (refine wpList_load_row_g (x := .tmp 7) (ty := 62) (g := g) (cs := R) (t := 62) (fr := (0, 0)) ?_ ?_ ?_ _ rX Try.underlying62 rfl iX ?_; rfl; rfl; rfl) | (refine wpList_load_row_g (x := .tmp 1) (ty := 62) (g := n) (cs := R) (t := 62) (fr := (0, 0)) ?_ ?_ ?_ _ rN Try.underlying62 rfl iX ?_; rfl; rfl; rfl) | (refine wpList_eql (x := .tmp 50) (y := .tmp 51) (ty := 62) (t := 62) (A := R) ?_ ?_ R ?_ ?_ true guard62 EQ.out ?_; rfl; rfl; rfl; rfl) | fail)
    go_ret
    exact ⟨rfl, BX.out⟩
set_option maxRecDepth 100000 in
theorem walk_WireEncodes {H : Type} {enc : TypeId × Value → H} {W : World} {base : Nat} (v : Value) (d : DataW H) (p : List MemPlace) (hval : Value.okWide Try.prog W .any base 62 v) (h : DataW.Trod enc Try.prog W 0 (fun _ => true) true 62 v d p) :
    Calls Try.prog 9 #[v] W (WFine W) := by
  obtain ⟨m, rfl, ho⟩ := msg_of_trod hval h
  exact encodes_walk m ho W
end Go.Proofs.Ytiilgkhndfnkgaa
