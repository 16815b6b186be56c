/- The purse of the reference by value, and ShardOrder: plain words and walk; the conditions are that the rows are known. -/
import Derived.Test.YtnnnbgndbmcffaaSrX
namespace Go.Proofs.Ytnnnbgndbmcffaa
open Go.RowKit
set_option linter.unusedVariables false

def Zs : List Value := (List.range 32).flatMap fun _ => [Value.int .i64 0, Value.int .u64 0]
/-- a purse of the reference with nothing reserved -/
def PV (s : Value) : Array Value := (s :: Zs).toArray
theorem PV_0 (s : Value) : (PV s)[0]? = some s := rfl
theorem PV_size (s : Value) : (PV s).size = 65 := by rw [PV, List.size_toArray]; rfl
theorem PV_set (s u : Value) : (PV s).setIfInBounds 0 u = PV u := by unfold PV; rw [List.setIfInBounds_toArray]; rfl
theorem info50s (s : Value) : (Try.prog.info? 50).map (·.size) = some (PV s).size := by rw [PV_size]; kernel_rfl
theorem zero50s (s : Value) : Try.zeroCells50.size = (PV s).size := by rw [PV_size]; decide
theorem Zs_one : Zs.all (·.oneCell') = true := by decide
theorem PV_one {s : Value} (h : s.oneCell' = true) : (PV s).all (·.oneCell') = true := by
  unfold PV
  rw [List.all_toArray, List.all_cons, h, Zs_one]; rfl
set_option maxRecDepth 100000 in
theorem rin_any (a : Option Addr) (n c : Nat) (x : Int) (w : World) : Calls Try.prog 75 #[.agg (PV (.slice a n c)), .int .i64 x] w fun e w' => e = .returned (.bool (inP n x)) ∧ Below w.heap.size w w' := by
  obtain ⟨q, hq⟩ : ∃ q, w.heap.size = q := ⟨_, rfl⟩
  obtain ⟨V, hV⟩ : ∃ V, w.alloc (.cells (PV (.slice a n c)) 50) = V := ⟨_, rfl⟩
  have r := M.RowAt.new w 50 (PV (.slice a n c))
  have b : Below q w V := by rw [← hV, ← hq]; exact (Below.refl _ _).alloc (Nat.le_refl _) _
  rw [hV, hq] at r
  have c0 : V.cell? ⟨q, 0, none⟩ = some (.slice a n c) := (r.cell 0).trans (PV_0 _)
  have HQ := Lib.hid hq; have HV := Lib.hid hV; have B := Lib.hid b
  rw [hq]
  clear r b hV hq
  unfold inP
  by_cases h0 : 0 ≤ x
  · have d0 : decide (0 ≤ x) = true := by simp [h0]
    rw [d0]
    go_enter Try.func75, Try.ntmps75
    go_wp2_with (first | (rw [HQ.out, HV.out]) | fail)
    go_ret
    exact ⟨by simp, B.out⟩
  · have d0 : decide (0 ≤ x) = false := by simp; omega
    rw [d0]
    go_enter Try.func75, Try.ntmps75
    go_wp2_with (first | (rw [HQ.out, HV.out]) | fail)
    go_ret
    exact ⟨by simp, B.out⟩
def vals (n : Nat) (f : Nat → Int) : List Value := ((List.range n).map f).map (Value.int .u64)
theorem vals_len (n : Nat) (f : Nat → Int) : (vals n f).length = n := by simp [vals]
theorem vals_get {n : Nat} {f : Nat → Int} {j : Nat} (h : j < n) : (vals n f)[j]? = some (.int .u64 (f j)) := by simp [vals, h]
theorem vals_one (n : Nat) (f : Nat → Int) : ∀ u ∈ vals n f, u.oneCell' = true := u64_one _
theorem vals_set {n : Nat} {f : Nat → Int} {a : Nat} (h : a < n) (x : Int) : (vals n f).set a (.int .u64 x) = vals n (upF f a x) := by
  apply List.ext_getElem?
  intro j
  rw [List.getElem?_set]
  by_cases hj : j < n
  · rw [vals_get hj, vals_get hj]
    by_cases e : a = j
    · subst e; rw [if_pos rfl, if_pos (by rw [vals_len]; exact hj), upF_same]
    · rw [if_neg e, upF_ne f (fun e2 => e e2.symm)]
  · rw [List.getElem?_eq_none (by rw [vals_len]; omega), List.getElem?_eq_none (by rw [vals_len]; omega)]
    split
    · rw [if_neg (by rw [vals_len]; omega)]
    · rfl
/-- a row of the reference's -/
def RS (m : Nat) (n : Nat) (f : Nat → Int) (s : Value) (w : World) : Prop := (∃ g c, s = .slice (some ⟨g, 0, none⟩) n c) ∧ w.ownsRow m 23 1 s n (vals n f)
theorem RS.same {m n : Nat} {f : Nat → Int} {s : Value} {w w' : World} (h : RS m n f s w) (hb : Below w.heap.size w w') : RS m n f s w' := ⟨h.1, h.2.kept (below_grown hb none) (by cases s.ownBlock <;> simp)⟩
set_option maxRecDepth 100000 in
set_option maxHeartbeats 8000000 in
theorem rpadd_any (n : Nat) (f : Nat → Int) (s : Value) (w : World) (h : RS 0 n f s w) (a : Nat) (ha : a < n) (hn : n ≤ 32) (x : Int) : Calls Try.prog 77 #[.agg (PV s), .int .i64 (a : Nat), .int .u64 x] w fun e w' => ∃ s', e = .returned (.agg (PV s')) ∧ RS w.heap.size n (upF f a (IntKind.u64.wrap (f a + x))) s' w' ∧ Below w.heap.size w w' := by
  obtain ⟨⟨sg, sc, rfl⟩, own⟩ := h
  obtain ⟨q, hq⟩ : ∃ q, w.heap.size = q := ⟨_, rfl⟩
  rw [hq]
  have hsg : sg < q := hq ▸ (own.lt sg rfl).2
  obtain ⟨X, hX⟩ : ∃ X, PV (.slice (some ⟨sg, 0, none⟩) n sc) = X := ⟨_, rfl⟩
  rw [hX]
  obtain ⟨V1, hV1⟩ : ∃ V1, w.alloc (.cells X 50) = V1 := ⟨_, rfl⟩
  have s1 : V1.heap.size = q + 1 := by rw [← hV1, ← hq]; simp
  obtain ⟨V2, hV2⟩ : ∃ V2, V1.alloc (.cells Try.zeroCells50 50) = V2 := ⟨_, rfl⟩
  have s2 : V2.heap.size = q + 2 := by rw [← hV2]; simp [s1]
  obtain ⟨V3, hV3⟩ : ∃ V3, V2.alloc (.cells #[] 23) = V3 := ⟨_, rfl⟩
  have s3 : V3.heap.size = q + 3 := by rw [← hV3]; simp [s2]
  have rq : M.RowAt V3 q 50 X := by
    have := M.RowAt.new w 50 X
    rw [hV1, hq] at this
    have := this.alloc (.cells Try.zeroCells50 50)
    rw [hV2] at this
    have := this.alloc (.cells #[] 23)
    rwa [hV3] at this
  have rz : M.RowAt V3 (q + 1) 50 Try.zeroCells50 := by
    have := M.RowAt.new V1 50 Try.zeroCells50
    rw [hV2, s1] at this
    have := this.alloc (.cells #[] 23)
    rwa [hV3] at this
  have b3 : Below q w V3 := by
    rw [← hV3, ← hV2, ← hV1]
    exact (((Below.refl q w).alloc (by omega) _).alloc (by simp; omega) _).alloc (by simp; omega) _
  have own0 : V3.ownsRow q 23 1 (.slice (some ⟨q + 2, 0, none⟩) 0 0) 0 [] := by
    have := World.ownsRow_lit (base := q) (e := 23) (size := 1) V2 #[] 0 (by omega) (by unfold maxLen; omega) rfl
    rw [hV3, s2] at this; exact this
  have own3 : V3.ownsRow 0 23 1 (.slice (some ⟨sg, 0, none⟩) n sc) n (vals n f) := own.kept (below_grown (hq.symm ▸ b3) none) (.inr (by simp [Value.ownBlock]))
  have x0 : V3.cell? ⟨q, 0, none⟩ = some (.slice (some ⟨sg, 0, none⟩) n sc) := (rq.cell 0).trans (by rw [← hX]; exact PV_0 _)
  have x2 : V2.cell? ⟨q, 0, none⟩ = some (.slice (some ⟨sg, 0, none⟩) n sc) := by
    have := M.RowAt.new w 50 X
    rw [hV1, hq] at this
    have := this.alloc (.cells Try.zeroCells50 50)
    rw [hV2] at this
    exact (this.cell 0).trans (by rw [← hX]; exact PV_0 _)
  obtain ⟨i0, hi, hz0, hz1, hz2⟩ := info_parts info23
  have HX := Lib.hid hX; have HV1 := Lib.hid hV1; have HV2 := Lib.hid hV2; have HV3 := Lib.hid hV3; have HS1 := Lib.hid s1; have HS2 := Lib.hid s2; have HS3 := Lib.hid s3; have RQ := Lib.hid rq; have RZ := Lib.hid rz; have B3 := Lib.hid b3; have O0 := Lib.hid own0; have O3 := Lib.hid own3; have HQ := Lib.hid hq
  clear hX hV1 hV2 hV3 s1 s2 s3 rq rz b3 own0 own3 hq own
  go_enter Try.func77, Try.ntmps77
  go_wp2_with (first | (rw [HQ.out, HV1.out]) | (rw [HS1.out, HV2.out]) | (rw [HS2.out, HV3.out]) | (at_builtin; refine wpList_append_sep3 _ rfl (.tmp 7) (.tmp 9) 33 rfl q 23 i0 _ 1 8 Try.underlying33 hi hz0 hz1 hz2 rfl (by decide) (q + 2) 0 0 [] ?a1 O0.out ⟨sg, 0, none⟩ n sc (vals n f) ?a2 ?a3 ?a4 ?a5 ?a6 ?a7 ?a8 ?_))
  case a1 => rfl
  case a2 => rfl
  case a3 => rw [vals_len]; omega
  case a4 => exact fun j u hu => O3.out.cells rfl j u hu
  case a5 => exact vals_one n f
  case a6 => unfold maxLen; omega
  case a7 => omega
  case a8 => have := HS3.out; omega
  intro s' v4 ho hg hs
  obtain ⟨g, c', rfl⟩ : ∃ g c', s' = .slice (some ⟨g, 0, none⟩) n c' := by
    rcases ho.2 with ⟨_, h2⟩ | ⟨g, cc, cur, h2, _⟩
    · omega
    · exact ⟨g, cc, h2⟩
  have hgq : q + 2 ≤ g := by
    rcases hs with e | e
    · simp [Value.ownBlock] at e; omega
    · have := e g rfl; have := HS3.out; omega
  have rq4 := row_grown hg RQ.out (by simp)
  have rz4 := row_grown hg RZ.out (by simp)
  have b4 : Below q w v4 := ⟨hg.os.trans B3.out.os, hg.tape.trans B3.out.tape, hg.output.trans B3.out.output, Nat.le_trans B3.out.size hg.size, fun k hk => (hg.block k (by have := HS3.out; omega) (by simp; omega)).trans (B3.out.block k hk)⟩
  have y0 : v4.cell? ⟨q, 0, none⟩ = some (.slice (some ⟨sg, 0, none⟩) n sc) := (rq4.cell 0).trans (by rw [← HX.out]; exact PV_0 _)
  have y1 : v4.frozen? ⟨q, 0, none⟩ = false := rq4.frozen 0
  have rq5 : M.RowAt (v4.setCell ⟨q, 0, none⟩ (.slice (some ⟨g, 0, none⟩) n c')) q 50 (PV (.slice (some ⟨g, 0, none⟩) n c')) := by
    have := rq4.set 0 (.slice (some ⟨g, 0, none⟩) n c')
    rw [← HX.out, PV_set] at this; exact this
  have rz5 := rz4.far (p := ⟨q, 0, none⟩) (show q ≠ q + 1 by omega) (.slice (some ⟨g, 0, none⟩) n c')
  have o5 := owns_set ho (p := ⟨q, 0, none⟩) (fun k hk e => by simp [Value.ownBlock] at hk; have e : q = k := e; omega) (.slice (some ⟨g, 0, none⟩) n c')
  have b5 := b4.setCell (p := ⟨q, 0, none⟩) (Nat.le_refl q) (.slice (some ⟨g, 0, none⟩) n c')
  obtain ⟨V5, hV5⟩ : ∃ V5, v4.setCell ⟨q, 0, none⟩ (.slice (some ⟨g, 0, none⟩) n c') = V5 := ⟨_, rfl⟩
  rw [hV5] at rq5 rz5 o5 b5
  obtain ⟨Y, hY⟩ : ∃ Y, PV (.slice (some ⟨g, 0, none⟩) n c') = Y := ⟨_, rfl⟩
  rw [hY] at rq5
  have iY : (Try.prog.info? 50).map (·.size) = some Y.size := by rw [← hY]; exact info50s _
  have zY : Try.zeroCells50.size = Y.size := by rw [← hY]; exact zero50s _
  have oY : Y.all (·.oneCell') = true := by rw [← hY]; exact PV_one rfl
  have fa : ∀ u, QC.Dr V5 u → u.cell? ⟨q, 0, none⟩ = some (.slice (some ⟨g, 0, none⟩) n c') ∧ u.cell? ⟨g, a, none⟩ = some (.int .u64 (f a)) ∧ u.frozen? ⟨g, a, none⟩ = false := fun u d => by
    refine ⟨((d.row rq5).cell 0).trans (by rw [← hY]; exact PV_0 _), ?_, ?_⟩
    · have := o5.cells rfl a _ (vals_get ha)
      rw [Addr.add_mid, Nat.zero_add] at this
      exact (d.cell _).trans this
    · exact (d.frozen _).trans (o5.frozenAt a)
  have a1 : ((a : Nat) : Int) < (n : Nat) := by omega
  have a0 : (0 : Int) ≤ (a : Nat) := by omega
  have FA := Lib.hid fa; have RQ5 := Lib.hid rq5; have RZ5 := Lib.hid rz5; have O5 := Lib.hid o5; have B5 := Lib.hid b5; have HV5 := Lib.hid hV5; have HY := Lib.hid hY; have HGQ := Lib.hid hgq
  clear ho hg hs rq4 rz4 b4 fa rq5 rz5 o5 b5 hV5 hY hgq x0 x2 HX HV1 HV2 HV3 HS1 HS2 HS3 RQ RZ B3 O0 O3
  go_wp2_with (first | (rw [HV5.out]) | fail)
  clear y0 y1
  refine QC.wp_region_d [11] [0, 1, 2, 3, 4, 5, 6, 7, 8, 9, 10, 11] (by kernel_rfl) (by kernel_rfl) (fun u d => ?_)
  obtain ⟨z0, z1, z2⟩ := FA.out u d
  have O6 := Lib.hid (O5.out.kept (below_grown d.below none) (.inr (by simp [Value.ownBlock])))
  have R6 := Lib.hid (d.row RQ5.out); have Z6 := Lib.hid (d.row RZ5.out)
  have B6 := Lib.hid (B5.out.trans d.below)
  clear FA O5 RQ5 RZ5 B5 HV5 d
  iterate 11
    (first
     | (apply QC.wpC_load
        (focus rfl)
        (focus decide)
        (focus rfl)
        (focus rfl)
        (focus rfl)
        (focus (assumption))
        (focus (intro u hu; go_simp))
        intro K hK
        go_simp
        refine hK _ ?_
        clear hK K)
     | (apply QC.wpC_pure
        (focus rfl)
        (focus decide)
        intro K hK
        go_simp
        first
         | (refine hK _ ?_; clear hK K)
         | (apply Exists.intro
            refine ⟨fun u => ?_, hK _ ?_⟩
            (focus (unfold QP.oat; go_simp; first | done | exact ⟨rfl, rfl⟩ | exact rfl))
            clear hK K)))
  apply QC.wpC_eff
  (focus rfl)
  (focus decide)
  go_wp2
  have hgq := HGQ.out
  obtain ⟨W, hW⟩ : ∃ W, u.setCell ⟨g, a, none⟩ (.int .u64 (IntKind.u64.wrap (f a + x))) = W := ⟨_, rfl⟩
  have o7 := (O6.out.stored a (.int .u64 (IntKind.u64.wrap (f a + x)))).1
  rw [vals_set ha, hW] at o7
  have r7 := R6.out.far (p := ⟨g, a, none⟩) (show g ≠ q by omega) (.int .u64 (IntKind.u64.wrap (f a + x)))
  have q7 := Z6.out.far (p := ⟨g, a, none⟩) (show g ≠ q + 1 by omega) (.int .u64 (IntKind.u64.wrap (f a + x)))
  have b7 := B6.out.setCell (p := ⟨g, a, none⟩) (show q ≤ g by omega) (.int .u64 (IntKind.u64.wrap (f a + x)))
  rw [hW] at r7 q7 b7
  have r8 := q7.setRow Y
  have b8 := M.below_setRow (cs := Y) b7 (show q ≤ q + 1 by omega)
  have o8 : (W.setRow (q + 1) Y).ownsRow q 23 1 (.slice (some ⟨g, 0, none⟩) n c') n (vals n (upF f a (IntKind.u64.wrap (f a + x)))) := by
    refine ⟨o7.1, ?_⟩
    rcases o7.2 with ⟨e, _⟩ | ⟨g', cc, cur, e, hb, hgg, rest⟩
    · cases e
    · cases e
      exact .inr ⟨g, c', cur, rfl, hb, M.RowAt.farRow hgg (show q + 1 ≠ g by omega) Y, rest⟩
  have hload := run_loadVar_row (P := Try.prog) _ (q + 1) 50 50 Y (0, 0) _ r8 Try.underlying50 rfl iY
  have fin : ∃ s', Ending.returned (.agg Y) = .returned (.agg (PV s')) ∧ RS q n (upF f a (IntKind.u64.wrap (f a + x))) s' (W.setRow (q + 1) Y) ∧ Below q w (W.setRow (q + 1) Y) := ⟨_, by rw [HY.out], ⟨⟨g, c', rfl⟩, o8⟩, b8⟩
  have FIN := Lib.hid fin; have HLD := Lib.hid hload; have HW := Lib.hid hW
  refine QC.eff_ok rfl ?_ (QC.wpC_nil ?_)
  · (repeat (first | exact QC.obl_nil | refine QC.obl_is (by assumption) ?_ | (apply QC.obl_dep; (focus decide))))
  rw [hW]
  clear z0 z1 z2 o7 b7 r8 b8 o8 hload fin hW hgq O6 R6 Z6 B6
  go_wp2_with (first | (refine wpList_load_row (x := .tmp 3) (ty := 50) (g := q) (cs := Y) (t := 50) (fr := (0, 0)) ?_ ?_ ?_ _ r7 Try.underlying50 rfl iY ?_; rfl; rfl; rfl) | (refine wpList_store_row (x := .tmp 6) (y := .tmp 23) (cells := Y) (old := Try.zeroCells50) (t := 50) (ty := 50) (g := q + 1) ?_ ?_ ?_ ?_ q7 iY zY oY ?_; rfl; rfl; rfl; rfl))
  have hload := HLD.out
  exact bodyPost_ret (v := .agg Y) (by simp [results, Try.results77, asAddr, Act.put, hload]) rfl FIN.out
end Go.Proofs.Ytnnnbgndbmcffaa
namespace Go.Proofs.Ytnnnbgndbmcffaa
open Go.RowKit
set_option linter.unusedVariables false

/-- what Move answers where nothing moves -/
def RmNo (s : Value) (er : Int) (w : World) (e : Ending) (w' : World) : Prop := e = .returned (.tuple #[.agg (PV s), .int .i64 er]) ∧ Below w.heap.size w w'
set_option maxRecDepth 100000 in
set_option maxHeartbeats 8000000 in
theorem rmove_no (n : Nat) (f : Nat → Int) (s : Value) (w : World) (h : RS 0 n f s w) (fr to x : Int) (hx : 0 ≤ x) (he : movE n f fr to x ≠ 0) : Calls Try.prog 62 #[.agg (PV s), .int .i64 fr, .int .i64 to, .int .u64 x] w (RmNo s (movE n f fr to x) w) := by
  obtain ⟨⟨sg, sc, hsf⟩, own⟩ := h
  have hs1 : s.oneCell' = true := by rw [hsf]; rfl
  obtain ⟨q, hq⟩ : ∃ q, w.heap.size = q := ⟨_, rfl⟩
  obtain ⟨X, hX⟩ : ∃ X, PV s = X := ⟨_, rfl⟩
  have iX : (Try.prog.info? 50).map (·.size) = some X.size := by rw [← hX]; exact info50s _
  have zX : Try.zeroCells50.size = X.size := by rw [← hX]; exact zero50s _
  have oX : X.all (·.oneCell') = true := by rw [← hX]; exact PV_one hs1
  obtain ⟨V1, hV1⟩ : ∃ V1, w.alloc (.cells X 50) = V1 := ⟨_, rfl⟩
  have s1 : V1.heap.size = q + 1 := by rw [← hV1, ← hq]; simp
  obtain ⟨V2, hV2⟩ : ∃ V2, V1.alloc (.cells Try.zeroCells50 50) = V2 := ⟨_, rfl⟩
  have s2 : V2.heap.size = q + 2 := by rw [← hV2]; simp [s1]
  have rq : M.RowAt V2 q 50 X := by
    have := M.RowAt.new w 50 X
    rw [hV1, hq] at this
    have := this.alloc (.cells Try.zeroCells50 50)
    rwa [hV2] at this
  have rz : M.RowAt V2 (q + 1) 50 Try.zeroCells50 := by
    have := M.RowAt.new V1 50 Try.zeroCells50
    rw [hV2, s1] at this; exact this
  have b2 : Below q w V2 := by
    rw [← hV2, ← hV1]
    exact ((Below.refl q w).alloc (by omega) _).alloc (by simp; omega) _
  have rows : ∀ v, Below (q + 2) V2 v → M.RowAt v q 50 X ∧ M.RowAt v (q + 1) 50 Try.zeroCells50 ∧ Below q w v := fun v hv => ⟨rq.below hv (by omega), rz.below hv (by omega), b2.trans (hv.mono (by omega))⟩
  have rin : ∀ v y, Calls Try.prog 75 #[.agg X, .int .i64 y] v fun e w' => e = .returned (.bool (inP n y)) ∧ Below v.heap.size v w' := fun v y => by rw [← hX, hsf]; exact rin_any _ n sc y v
  have cellB : ∀ v, Below (q + 2) V2 v → v.cell? ⟨q, 0, none⟩ = some (.slice (some ⟨sg, 0, none⟩) n sc) ∧ ∀ j, j < n → v.cell? ⟨sg, j, none⟩ = some (.int .u64 (f j)) := fun v hv => by
    refine ⟨((rows v hv).1.cell 0).trans (by rw [← hX, hsf]; exact PV_0 _), fun j hj => ?_⟩
    have hb := (rows v hv).2.2
    rw [hsf] at own
    have h1 := own.cells rfl j _ (vals_get hj)
    rw [Addr.add_mid, Nat.zero_add] at h1
    rw [hb.cell (p := ⟨sg, j, none⟩) (show sg < q from hq ▸ (own.lt sg rfl).2)]; exact h1
  unfold RmNo
  rw [hX, hq]
  have HQ := Lib.hid hq; have HV1 := Lib.hid hV1; have HV2 := Lib.hid hV2; have HS1 := Lib.hid s1; have HS2 := Lib.hid s2; have ROWS := Lib.hid rows; have RIN := Lib.hid rin; have CELL := Lib.hid cellB
  clear hq hX hV1 hV2 s1 s2 rows rin rq rz b2 cellB hsf hs1 own
  unfold movE at he ⊢
  obtain ⟨rX, rZ, bw⟩ := ROWS.out V2 (Below.refl _ _)
  have r1 : M.RowAt V2 q 50 X := rX
  cases ha : inP n fr
  · rw [if_neg (by simp)]
    have R1 := Lib.hid (RIN.out V2 fr)
    rw [ha] at R1
    clear ha he bw
    go_enter Try.func62, Try.ntmps62
    go_wp2_with (first | (rw [HQ.out, HV1.out]) | (rw [HS1.out, HV2.out]) | (refine wpList_load_row (x := .tmp 4) (ty := 50) (g := q) (cs := X) (t := 50) (fr := (0, 0)) ?_ ?_ ?_ _ rX Try.underlying50 rfl iX ?_; rfl; rfl; rfl))
    refine (R1.out).mono ?_
    rintro e v ⟨rfl, hb⟩
    have hb2 : Below (q + 2) V2 v := HS2.out ▸ hb
    clear rX rZ r1
    obtain ⟨rX, rZ, bw⟩ := ROWS.out v hb2
    have BW := Lib.hid bw
    clear hb hb2 bw R1
    have r8 := rZ.setRow X
    have hload := run_loadVar_row (P := Try.prog) _ (q + 1) 50 50 X (0, 0) _ r8 Try.underlying50 rfl iX
    have b8 := Lib.hid (M.below_setRow (cs := X) BW.out (show q ≤ q + 1 by omega))
    have HLD := Lib.hid hload
    clear r8 hload
    go_wp2_with (first | (refine wpList_load_row (x := .tmp 4) (ty := 50) (g := q) (cs := X) (t := 50) (fr := (0, 0)) ?_ ?_ ?_ _ rX Try.underlying50 rfl iX ?_; rfl; rfl; rfl) | (refine wpList_store_row (x := .tmp 8) (y := .tmp 20) (cells := X) (old := Try.zeroCells50) (t := 50) (ty := 50) (g := q + 1) ?_ ?_ ?_ ?_ rZ iX zX oX ?_; rfl; rfl; rfl; rfl))
    have hload := HLD.out
    exact bodyPost_ret (v := .tuple #[.agg X, .int .i64 3]) (by simp [results, Try.results62, asAddr, hload]) rfl ⟨rfl, b8.out⟩
  · cases hb : inP n to
    · rw [if_neg (by simp)]
      have R1 := Lib.hid (RIN.out V2 fr)
      rw [ha] at R1
      clear ha he bw
      go_enter Try.func62, Try.ntmps62
      go_wp2_with (first | (rw [HQ.out, HV1.out]) | (rw [HS1.out, HV2.out]) | (refine wpList_load_row (x := .tmp 4) (ty := 50) (g := q) (cs := X) (t := 50) (fr := (0, 0)) ?_ ?_ ?_ _ rX Try.underlying50 rfl iX ?_; rfl; rfl; rfl))
      refine (R1.out).mono ?_
      rintro e v ⟨rfl, hbv⟩
      have hb2 : Below (q + 2) V2 v := HS2.out ▸ hbv
      have R2 := Lib.hid (RIN.out v to)
      rw [hb] at R2
      have HB2 := Lib.hid hb2
      clear rX rZ r1
      obtain ⟨rX, rZ, bw⟩ := ROWS.out v hb2
      have SZ := Lib.hid (show q + 2 ≤ v.heap.size by have := hb2.size; have := HS2.out; omega)
      clear hbv hb2 bw R1 hb
      go_wp2_with (first | (refine wpList_load_row_g (x := .tmp 4) (ty := 50) (g := q) (cs := X) (t := 50) (fr := (0, 0)) ?_ ?_ ?_ _ rX Try.underlying50 rfl iX ?_; rfl; rfl; rfl) | fail)
      refine (R2.out).mono ?_
      rintro e v2 ⟨rfl, hbv⟩
      have hb3 : Below (q + 2) V2 v2 := HB2.out.trans (hbv.mono SZ.out)
      clear rX rZ
      obtain ⟨rX, rZ, bw⟩ := ROWS.out v2 hb3
      have BW := Lib.hid bw
      clear hbv hb3 bw R2
      have r8 := rZ.setRow X
      have hload := run_loadVar_row (P := Try.prog) _ (q + 1) 50 50 X (0, 0) _ r8 Try.underlying50 rfl iX
      have b8 := Lib.hid (M.below_setRow (cs := X) BW.out (show q ≤ q + 1 by omega))
      have HLD := Lib.hid hload
      clear r8 hload
      go_wp2_with (first | (refine wpList_load_row (x := .tmp 4) (ty := 50) (g := q) (cs := X) (t := 50) (fr := (0, 0)) ?_ ?_ ?_ _ rX Try.underlying50 rfl iX ?_; rfl; rfl; rfl) | (refine wpList_store_row (x := .tmp 8) (y := .tmp 20) (cells := X) (old := Try.zeroCells50) (t := 50) (ty := 50) (g := q + 1) ?_ ?_ ?_ ?_ rZ iX zX oX ?_; rfl; rfl; rfl; rfl))
      have hload := HLD.out
      exact bodyPost_ret (v := .tuple #[.agg X, .int .i64 3]) (by simp [results, Try.results62, asAddr, hload]) rfl ⟨rfl, b8.out⟩
    · rw [ha, hb, if_pos (by rfl)] at he
      rw [if_pos (by rfl)]
      obtain ⟨k, hk, rfl⟩ := in_of ha
      rw [Int.toNat_natCast] at he ⊢
      have R1 := Lib.hid (RIN.out V2 ((k : Nat) : Int))
      rw [ha] at R1
      have HBT := Lib.hid hb
      have i1 : ((k : Nat) : Int) < (n : Nat) := by omega
      have i0 : (0 : Int) ≤ (k : Nat) := by omega
      have HK := Lib.hid hk
      clear ha hb bw hk
      by_cases h0 : x = 0
      · subst h0
        rw [if_pos rfl]
        clear he
        go_enter Try.func62, Try.ntmps62
        go_wp2_with (first | (rw [HQ.out, HV1.out]) | (rw [HS1.out, HV2.out]) | (refine wpList_load_row (x := .tmp 4) (ty := 50) (g := q) (cs := X) (t := 50) (fr := (0, 0)) ?_ ?_ ?_ _ rX Try.underlying50 rfl iX ?_; rfl; rfl; rfl))
        refine (R1.out).mono ?_
        rintro e v ⟨rfl, hbv⟩
        have hb2 : Below (q + 2) V2 v := HS2.out ▸ hbv
        have R2 := Lib.hid (RIN.out v to)
        rw [HBT.out] at R2
        have HB2 := Lib.hid hb2
        clear rX rZ r1
        obtain ⟨rX, rZ, bw⟩ := ROWS.out v hb2
        have SZ := Lib.hid (show q + 2 ≤ v.heap.size by have := hb2.size; have := HS2.out; omega)
        clear hbv hb2 bw R1
        go_wp2_with (first | (refine wpList_load_row_g (x := .tmp 4) (ty := 50) (g := q) (cs := X) (t := 50) (fr := (0, 0)) ?_ ?_ ?_ _ rX Try.underlying50 rfl iX ?_; rfl; rfl; rfl) | fail)
        refine (R2.out).mono ?_
        rintro e v2 ⟨rfl, hbv⟩
        have hb3 : Below (q + 2) V2 v2 := HB2.out.trans (hbv.mono SZ.out)
        obtain ⟨y0, y1⟩ := CELL.out v2 hb3
        have y2 := y1 k HK.out
        clear rX rZ
        obtain ⟨rX, rZ, bw⟩ := ROWS.out v2 hb3
        have BW := Lib.hid bw; have BWQ := Lib.hid hb3
        clear hbv hb3 bw R2 y1
        have r8 := rZ.setRow X
        have hload := run_loadVar_row (P := Try.prog) _ (q + 1) 50 50 X (0, 0) _ r8 Try.underlying50 rfl iX
        have b8 := Lib.hid (M.below_setRow (cs := X) BW.out (show q ≤ q + 1 by omega))
        have HLD := Lib.hid hload
        clear r8 hload
        go_wp2_with (first | (refine wpList_load_row (x := .tmp 4) (ty := 50) (g := q) (cs := X) (t := 50) (fr := (0, 0)) ?_ ?_ ?_ _ rX Try.underlying50 rfl iX ?_; rfl; rfl; rfl) | (refine wpList_store_row (x := .tmp 8) (y := .tmp 23) (cells := X) (old := Try.zeroCells50) (t := 50) (ty := 50) (g := q + 1) ?_ ?_ ?_ ?_ rZ iX zX oX ?_; rfl; rfl; rfl; rfl))
        have hload := HLD.out
        exact bodyPost_ret (v := .tuple #[.agg X, .int .i64 1]) (by simp [results, Try.results62, asAddr, hload]) rfl ⟨rfl, b8.out⟩
      · rw [if_neg h0] at he ⊢
        have dx : (x == 0) = false := by simpa using h0
        have hf : f k < x := by
          apply Int.lt_of_not_ge; intro hge; exact he (by rw [if_neg (by omega)])
        rw [if_pos hf]
        clear he
        go_enter Try.func62, Try.ntmps62
        go_wp2_with (first | (rw [HQ.out, HV1.out]) | (rw [HS1.out, HV2.out]) | (refine wpList_load_row (x := .tmp 4) (ty := 50) (g := q) (cs := X) (t := 50) (fr := (0, 0)) ?_ ?_ ?_ _ rX Try.underlying50 rfl iX ?_; rfl; rfl; rfl))
        refine (R1.out).mono ?_
        rintro e v ⟨rfl, hbv⟩
        have hb2 : Below (q + 2) V2 v := HS2.out ▸ hbv
        have R2 := Lib.hid (RIN.out v to)
        rw [HBT.out] at R2
        have HB2 := Lib.hid hb2
        clear rX rZ r1
        obtain ⟨rX, rZ, bw⟩ := ROWS.out v hb2
        have SZ := Lib.hid (show q + 2 ≤ v.heap.size by have := hb2.size; have := HS2.out; omega)
        clear hbv hb2 bw R1
        go_wp2_with (first | (refine wpList_load_row_g (x := .tmp 4) (ty := 50) (g := q) (cs := X) (t := 50) (fr := (0, 0)) ?_ ?_ ?_ _ rX Try.underlying50 rfl iX ?_; rfl; rfl; rfl) | fail)
        refine (R2.out).mono ?_
        rintro e v2 ⟨rfl, hbv⟩
        have hb3 : Below (q + 2) V2 v2 := HB2.out.trans (hbv.mono SZ.out)
        obtain ⟨y0, y1⟩ := CELL.out v2 hb3
        have y2 := y1 k HK.out
        clear rX rZ
        obtain ⟨rX, rZ, bw⟩ := ROWS.out v2 hb3
        have BW := Lib.hid bw; have BWQ := Lib.hid hb3
        clear hbv hb3 bw R2 y1
        have r8 := rZ.setRow X
        have hload := run_loadVar_row (P := Try.prog) _ (q + 1) 50 50 X (0, 0) _ r8 Try.underlying50 rfl iX
        have b8 := Lib.hid (M.below_setRow (cs := X) BW.out (show q ≤ q + 1 by omega))
        have HLD := Lib.hid hload
        clear r8 hload
        go_wp2_with (first | (refine wpList_load_row (x := .tmp 4) (ty := 50) (g := q) (cs := X) (t := 50) (fr := (0, 0)) ?_ ?_ ?_ _ rX Try.underlying50 rfl iX ?_; rfl; rfl; rfl) | (refine wpList_store_row (x := .tmp 8) (y := .tmp 31) (cells := X) (old := Try.zeroCells50) (t := 50) (ty := 50) (g := q + 1) ?_ ?_ ?_ ?_ rZ iX zX oX ?_; rfl; rfl; rfl; rfl))
        have hload := HLD.out
        exact bodyPost_ret (v := .tuple #[.agg X, .int .i64 61]) (by simp [results, Try.results62, asAddr, hload]) rfl ⟨rfl, b8.out⟩
/-- what Move answers where it moves -/
def RmYes (n : Nat) (f' : Nat → Int) (w : World) (e : Ending) (w' : World) : Prop := ∃ s', e = .returned (.tuple #[.agg (PV s'), .int .i64 0]) ∧ RS w.heap.size n f' s' w' ∧ Below w.heap.size w w'
set_option maxRecDepth 100000 in
set_option maxHeartbeats 8000000 in
theorem rmove_yes (n : Nat) (f : Nat → Int) (tot : Int) (s : Value) (w : World) (h : RS 0 n f s w) (hw : Whole n f tot) (ht : tot ≤ 1125899906842624) (hn : n ≤ 32) (k m : Nat) (hk : k < n) (hm : m < n) (x : Int) (hx : 0 < x) (hf : x ≤ f k) : Calls Try.prog 62 #[.agg (PV s), .int .i64 (k : Nat), .int .i64 (m : Nat), .int .u64 x] w (RmYes n (movF f k m x) w) := by
  have h0 := h
  obtain ⟨⟨sg, sc, hsf⟩, own⟩ := h
  have hs1 : s.oneCell' = true := by rw [hsf]; rfl
  obtain ⟨q, hq⟩ : ∃ q, w.heap.size = q := ⟨_, rfl⟩
  obtain ⟨X, hX⟩ : ∃ X, PV s = X := ⟨_, rfl⟩
  have iX : (Try.prog.info? 50).map (·.size) = some X.size := by rw [← hX]; exact info50s _
  have zX : Try.zeroCells50.size = X.size := by rw [← hX]; exact zero50s _
  have oX : X.all (·.oneCell') = true := by rw [← hX]; exact PV_one hs1
  obtain ⟨V1, hV1⟩ : ∃ V1, w.alloc (.cells X 50) = V1 := ⟨_, rfl⟩
  have s1 : V1.heap.size = q + 1 := by rw [← hV1, ← hq]; simp
  obtain ⟨V2, hV2⟩ : ∃ V2, V1.alloc (.cells Try.zeroCells50 50) = V2 := ⟨_, rfl⟩
  have s2 : V2.heap.size = q + 2 := by rw [← hV2]; simp [s1]
  have rq : M.RowAt V2 q 50 X := by
    have := M.RowAt.new w 50 X
    rw [hV1, hq] at this
    have := this.alloc (.cells Try.zeroCells50 50)
    rwa [hV2] at this
  have rz : M.RowAt V2 (q + 1) 50 Try.zeroCells50 := by
    have := M.RowAt.new V1 50 Try.zeroCells50
    rw [hV2, s1] at this; exact this
  have b2 : Below q w V2 := by
    rw [← hV2, ← hV1]
    exact ((Below.refl q w).alloc (by omega) _).alloc (by simp; omega) _
  have rows : ∀ v, Below (q + 2) V2 v → M.RowAt v q 50 X ∧ M.RowAt v (q + 1) 50 Try.zeroCells50 ∧ Below q w v := fun v hv => ⟨rq.below hv (by omega), rz.below hv (by omega), b2.trans (hv.mono (by omega))⟩
  have rin : ∀ v y, Calls Try.prog 75 #[.agg X, .int .i64 y] v fun e w' => e = .returned (.bool (inP n y)) ∧ Below v.heap.size v w' := fun v y => by rw [← hX, hsf]; exact rin_any _ n sc y v
  have cellB : ∀ v, Below (q + 2) V2 v → v.cell? ⟨q, 0, none⟩ = some (.slice (some ⟨sg, 0, none⟩) n sc) ∧ ∀ j, j < n → v.cell? ⟨sg, j, none⟩ = some (.int .u64 (f j)) := fun v hv => by
    refine ⟨((rows v hv).1.cell 0).trans (by rw [← hX, hsf]; exact PV_0 _), fun j hj => ?_⟩
    have hb := (rows v hv).2.2
    rw [hsf] at own
    have h1 := own.cells rfl j _ (vals_get hj)
    rw [Addr.add_mid, Nat.zero_add] at h1
    rw [hb.cell (p := ⟨sg, j, none⟩) (show sg < q from hq ▸ (own.lt sg rfl).2)]; exact h1
  have add1 : ∀ v, Below (q + 2) V2 v → Calls Try.prog 77 #[.agg X, .int .i64 (k : Nat), .int .u64 (IntKind.u64.wrap (-x))] v fun e w' => ∃ s', e = .returned (.agg (PV s')) ∧ RS v.heap.size n (upF f k (IntKind.u64.wrap (f k + IntKind.u64.wrap (-x)))) s' w' ∧ Below v.heap.size v w' := fun v hv => by
    rw [← hX]
    exact rpadd_any n f s v (h0.same (hq.symm ▸ (rows v hv).2.2)) k hk hn _
  have f0 := hw.1
  have fk : f k ≤ 1125899906842624 := by have := sumB_le hw.1 n hk; have := hw.2; omega
  have fm : upF f k (f k - x) m + x ≤ 1125899906842624 ∧ 0 ≤ upF f k (f k - x) m := by
    have hpos : ∀ i, 0 ≤ upF f k (f k - x) i := fun i => by
      by_cases e : i = k
      · subst e; rw [upF_same]; omega
      · rw [upF_ne _ e]; exact hw.1 i
    have h1 := sumB_le hpos n hm
    rw [sumB_up, if_pos hk] at h1
    have := hw.2
    exact ⟨by omega, hpos m⟩
  have wneg : IntKind.u64.wrap (f k + IntKind.u64.wrap (-x)) = f k - x := by
    have := hw.1 k
    simp only [IntKind.wrap, IntKind.signed, IntKind.bits]
    simp
    omega
  have wadd : IntKind.u64.wrap (upF f k (f k - x) m + x) = upF f k (f k - x) m + x := u64_in _ (by omega)
  rw [wneg] at add1
  unfold RmYes
  rw [hX, hq]
  have inK : inP n ((k : Nat) : Int) = true := by unfold inP; simp; omega
  have inM : inP n ((m : Nat) : Int) = true := by unfold inP; simp; omega
  have HQ := Lib.hid hq; have HV1 := Lib.hid hV1; have HV2 := Lib.hid hV2; have HS1 := Lib.hid s1; have HS2 := Lib.hid s2; have ROWS := Lib.hid rows; have RIN := Lib.hid rin; have CELL := Lib.hid cellB; have ADD := Lib.hid add1; have WADD := Lib.hid wadd
  obtain ⟨rX, rZ, bw⟩ := ROWS.out V2 (Below.refl _ _)
  have R1 := Lib.hid (RIN.out V2 ((k : Nat) : Int))
  rw [inK] at R1
  have HBT := Lib.hid inM
  have i1 : ((k : Nat) : Int) < (n : Nat) := by omega
  have i0 : (0 : Int) ≤ (k : Nat) := by omega
  have dx : (x == 0) = false := by simp; omega
  have dl : decide (f k < x) = false := by simp; omega
  have HK := Lib.hid hk; have HM := Lib.hid hm
  have HN32 := Lib.hid hn
  have uneg : IntKind.u64.wrap (-x) = IntKind.u64.wrap (-x) := rfl
  have e2 : movF f k m x = upF (upF f k (f k - x)) m (upF f k (f k - x) m + x) := rfl
  have E2 := Lib.hid e2
  clear hq hX hV1 hV2 s1 s2 rows rin rq rz b2 cellB hsf hs1 own add1 f0 fk fm wneg wadd inK inM hw ht h0 bw uneg e2 hk hm hn hx
  have r1 : M.RowAt V2 q 50 X := rX
  have MM := Lib.hid (show ((m : Nat) : Int) = (m : Nat) from rfl)
  obtain ⟨to, hto⟩ : ∃ to : Int, ((m : Nat) : Int) = to := ⟨_, rfl⟩
  rw [hto] at HBT ⊢
  have HTO := Lib.hid hto
  clear hto MM
  go_enter Try.func62, Try.ntmps62
  go_wp2_with (first | (rw [HQ.out, HV1.out]) | (rw [HS1.out, HV2.out]) | (refine wpList_load_row (x := .tmp 4) (ty := 50) (g := q) (cs := X) (t := 50) (fr := (0, 0)) ?_ ?_ ?_ _ rX Try.underlying50 rfl iX ?_; rfl; rfl; rfl))
  refine (R1.out).mono ?_
  rintro e v ⟨rfl, hbv⟩
  have hb2 : Below (q + 2) V2 v := HS2.out ▸ hbv
  have R2 := Lib.hid (RIN.out v to)
  rw [HBT.out] at R2
  have HB2 := Lib.hid hb2
  clear rX rZ r1
  obtain ⟨rX, rZ, bw⟩ := ROWS.out v hb2
  have SZ := Lib.hid (show q + 2 ≤ v.heap.size by have := hb2.size; have := HS2.out; omega)
  clear hbv hb2 bw R1
  go_wp2_with (first | (refine wpList_load_row_g (x := .tmp 4) (ty := 50) (g := q) (cs := X) (t := 50) (fr := (0, 0)) ?_ ?_ ?_ _ rX Try.underlying50 rfl iX ?_; rfl; rfl; rfl) | fail)
  refine (R2.out).mono ?_
  rintro e v2 ⟨rfl, hbv⟩
  have hb3 : Below (q + 2) V2 v2 := HB2.out.trans (hbv.mono SZ.out)
  obtain ⟨y0, y1⟩ := CELL.out v2 hb3
  have y2 := y1 k HK.out
  clear rX rZ
  obtain ⟨rX, rZ, bw⟩ := ROWS.out v2 hb3
  have BW := Lib.hid bw; have BWQ := Lib.hid hb3
  clear hbv hb3 bw R2 y1
  have A1 := Lib.hid (ADD.out v2 BWQ.out)
  go_wp2_with (first | (refine wpList_load_row (x := .tmp 4) (ty := 50) (g := q) (cs := X) (t := 50) (fr := (0, 0)) ?_ ?_ ?_ _ rX Try.underlying50 rfl iX ?_; rfl; rfl; rfl) | fail)
  refine (A1.out).mono ?_
  rintro e v3 ⟨t1, rfl, rs1, b3⟩
  have A2 := Lib.hid (rpadd_any n _ t1 v3 ⟨rs1.1, rs1.2.mono (Nat.zero_le _)⟩ m HM.out HN32.out x)
  rw [WADD.out, HTO.out] at A2
  have SV2 := Lib.hid (show q + 2 ≤ v2.heap.size by have := BWQ.out.size; have := HS2.out; omega)
  have B3 := Lib.hid (BWQ.out.trans (b3.mono SV2.out))
  clear rs1 rX rZ A1
  go_wp2_with fail
  refine (A2.out).mono ?_
  rintro e v4 ⟨t2, rfl, rs2, b4⟩
  have hb4 : Below (q + 2) V2 v4 := B3.out.trans (b4.mono (by have := B3.out.size; have := HS2.out; omega))
  have SV3 : q + 2 ≤ v3.heap.size := by have := B3.out.size; have := HS2.out; omega
  obtain ⟨rX, rZ, bw4⟩ := ROWS.out v4 hb4
  obtain ⟨Y, hY⟩ : ∃ Y, PV t2 = Y := ⟨_, rfl⟩
  have iY : (Try.prog.info? 50).map (·.size) = some Y.size := by rw [← hY]; exact info50s _
  have zY : Try.zeroCells50.size = Y.size := by rw [← hY]; exact zero50s _
  obtain ⟨⟨g2, c2, ht2⟩, own2⟩ := rs2
  have oY : Y.all (·.oneCell') = true := by rw [← hY]; exact PV_one (by rw [ht2]; rfl)
  have r8 := rZ.setRow Y
  have hload := run_loadVar_row (P := Try.prog) _ (q + 1) 50 50 Y (0, 0) _ r8 Try.underlying50 rfl iY
  have own8 : (v4.setRow (q + 1) Y).ownsRow q 23 1 t2 n (vals n (movF f k m x)) := by
    rw [E2.out]
    have h1 := own2.mono (show q ≤ v3.heap.size by omega)
    refine ⟨h1.1, ?_⟩
    rcases own2.2 with ⟨e, _⟩ | ⟨g', cc, cur, e, hb, hgg, rest⟩
    · rw [ht2] at e; cases e
    · rw [ht2] at e
      cases e
      exact .inr ⟨g2, c2, cur, ht2, by omega, M.RowAt.farRow hgg (show q + 1 ≠ g2 by omega) Y, rest⟩
  have fin : ∃ s', Ending.returned (.tuple #[.agg Y, .int .i64 0]) = .returned (.tuple #[.agg (PV s'), .int .i64 0]) ∧ RS q n (movF f k m x) s' (v4.setRow (q + 1) Y) ∧ Below q w (v4.setRow (q + 1) Y) := ⟨t2, by rw [hY], ⟨⟨g2, c2, ht2⟩, own8⟩, M.below_setRow (cs := Y) bw4 (show q ≤ q + 1 by omega)⟩
  have FIN := Lib.hid fin; have HLD := Lib.hid hload
  rw [hY]
  clear rX r8 hload own8 fin own2 b3 b4 hb4 bw4 hY ht2 A2 SV3
  go_wp2_with (first | (refine wpList_store_row (x := .tmp 8) (y := .tmp 39) (cells := Y) (old := Try.zeroCells50) (t := 50) (ty := 50) (g := q + 1) ?_ ?_ ?_ ?_ rZ iY zY oY ?_; rfl; rfl; rfl; rfl) | fail)
  have hload := HLD.out
  exact bodyPost_ret (v := .tuple #[.agg Y, .int .i64 0]) (by simp [results, Try.results62, asAddr, hload]) rfl FIN.out
end Go.Proofs.Ytnnnbgndbmcffaa
namespace Go.Proofs.Ytnnnbgndbmcffaa
open Go.RowKit
set_option linter.unusedVariables false

set_option maxRecDepth 100000 in
set_option maxHeartbeats 4000000 in
theorem rsame_any (a1 a2 : Option Addr) (c1 c2 n : Nat) (f : Nat → Int) (w : World) (hn : n ≤ 1000) (h : ∀ u, QC.Dr w u → ∀ j, j < n → ∃ g1 o1 g2 o2, a1 = some ⟨g1, o1, none⟩ ∧ a2 = some ⟨g2, o2, none⟩ ∧ u.cell? ⟨g1, o1 + j, none⟩ = some (.int .u64 (f j)) ∧ u.cell? ⟨g2, o2 + j, none⟩ = some (.int .u64 (f j))) :
    Calls Try.prog 60 #[.slice a1 n c1, .slice a2 n c2] w fun e w' => e = .returned (.bool true) ∧ Below w.heap.size w w' := by
  have H := Lib.hid h; have HN := Lib.hid hn
  clear h hn
  go_enter Try.func60, Try.ntmps60
  go_wp2
  go_loopg [5] n (fun mm i v => ∃ j : Nat, mm + j = n ∧ i = .int .i64 j ∧ QC.Dr w v)
  case atStart => exact ⟨0, by omega, rfl, QC.Dr.refl _⟩
  case round =>
    obtain ⟨j, hj, rfl, d⟩ := hrel
    have HJ := Lib.hid hj; have D := Lib.hid d
    clear hj d
    by_cases hlt : j < n
    · have i1 : ((j : Nat) : Int) < (n : Nat) := by omega
      have i0 : (0 : Int) ≤ (j : Nat) := by omega
      have wk : IntKind.i64.wrap ((j : Int) + 1) = (j : Int) + 1 := IntWalk.i64_in _ (by have := HN.out; omega)
      obtain ⟨g1, o1, g2, o2, rfl, rfl, _, _⟩ := H.out _ (QC.Dr.refl w) j hlt
      have fa : ∀ u, QC.Dr wr u → u.cell? ⟨g1, o1 + j, none⟩ = some (.int .u64 (f j)) ∧ u.cell? ⟨g2, o2 + j, none⟩ = some (.int .u64 (f j)) := fun u hu => by
        obtain ⟨_, _, _, _, e1, e2, h3, h4⟩ := H.out u (D.out.trans hu) j hlt
        cases e1; cases e2; exact ⟨h3, h4⟩
      have FA := Lib.hid fa
      have HLT := Lib.hid hlt
      clear fa
      generalize f j = y at *
      go_wp2
      refine QC.wp_region_d [] [0, 1, 2, 3, 4, 5, 6, 7, 8] (by kernel_rfl) (by kernel_rfl) (fun u d => ?_)
      obtain ⟨z0, z1⟩ := FA.out u d
      have D2 := Lib.hid (D.out.trans d)
      clear d FA
      iterate 9
        (first
         | (apply QC.wpC_load
            (focus rfl)
            (focus decide)
            (focus rfl)
            (focus rfl)
            (focus rfl)
            (focus (assumption))
            (focus (intro u hu; go_simp))
            intro K hK
            go_simp
            refine hK _ ?_
            clear hK K)
         | (apply QC.wpC_pure
            (focus rfl)
            (focus decide)
            intro K hK
            go_simp
            first
             | (refine hK _ ?_; clear hK K)
             | (apply Exists.intro
                refine ⟨fun u => ?_, hK _ ?_⟩
                (focus (unfold QP.oat; go_simp; first | done | exact ⟨rfl, rfl⟩ | exact rfl))
                clear hK K)))
      refine QC.wpC_nil ?_
      clear z0 z1
      go_wp2
      go_roundg (n - (j + 1))
      case measure => have := HJ.out; omega
      case rel => exact ⟨j + 1, by have := HLT.out; omega, by go_num, D2.out⟩
    · obtain rfl : n = j := by have := HJ.out; omega
      clear hlt
      go_wp2
      go_ret
      exact ⟨rfl, D.out.below⟩
set_option maxRecDepth 100000 in
set_option maxHeartbeats 4000000 in
theorem rsamei_any (a1 a2 : Option Addr) (c1 c2 n : Nat) (f : Nat → Int) (w : World) (hn : n ≤ 1000) (h : ∀ u, QC.Dr w u → ∀ j, j < n → ∃ g1 o1 g2 o2, a1 = some ⟨g1, o1, none⟩ ∧ a2 = some ⟨g2, o2, none⟩ ∧ u.cell? ⟨g1, o1 + j, none⟩ = some (.int .i64 (f j)) ∧ u.cell? ⟨g2, o2 + j, none⟩ = some (.int .i64 (f j))) :
    Calls Try.prog 59 #[.slice a1 n c1, .slice a2 n c2] w fun e w' => e = .returned (.bool true) ∧ Below w.heap.size w w' := by
  have H := Lib.hid h; have HN := Lib.hid hn
  clear h hn
  go_enter Try.func59, Try.ntmps59
  go_wp2
  go_loopg [5] n (fun mm i v => ∃ j : Nat, mm + j = n ∧ i = .int .i64 j ∧ QC.Dr w v)
  case atStart => exact ⟨0, by omega, rfl, QC.Dr.refl _⟩
  case round =>
    obtain ⟨j, hj, rfl, d⟩ := hrel
    have HJ := Lib.hid hj; have D := Lib.hid d
    clear hj d
    by_cases hlt : j < n
    · have i1 : ((j : Nat) : Int) < (n : Nat) := by omega
      have i0 : (0 : Int) ≤ (j : Nat) := by omega
      have wk : IntKind.i64.wrap ((j : Int) + 1) = (j : Int) + 1 := IntWalk.i64_in _ (by have := HN.out; omega)
      obtain ⟨g1, o1, g2, o2, rfl, rfl, _, _⟩ := H.out _ (QC.Dr.refl w) j hlt
      have fa : ∀ u, QC.Dr wr u → u.cell? ⟨g1, o1 + j, none⟩ = some (.int .i64 (f j)) ∧ u.cell? ⟨g2, o2 + j, none⟩ = some (.int .i64 (f j)) := fun u hu => by
        obtain ⟨_, _, _, _, e1, e2, h3, h4⟩ := H.out u (D.out.trans hu) j hlt
        cases e1; cases e2; exact ⟨h3, h4⟩
      have FA := Lib.hid fa
      have HLT := Lib.hid hlt
      clear fa
      generalize f j = y at *
      go_wp2
      refine QC.wp_region_d [] [0, 1, 2, 3, 4, 5, 6, 7, 8] (by kernel_rfl) (by kernel_rfl) (fun u d => ?_)
      obtain ⟨z0, z1⟩ := FA.out u d
      have D2 := Lib.hid (D.out.trans d)
      clear d FA
      iterate 9
        (first
         | (apply QC.wpC_load
            (focus rfl)
            (focus decide)
            (focus rfl)
            (focus rfl)
            (focus rfl)
            (focus (assumption))
            (focus (intro u hu; go_simp))
            intro K hK
            go_simp
            refine hK _ ?_
            clear hK K)
         | (apply QC.wpC_pure
            (focus rfl)
            (focus decide)
            intro K hK
            go_simp
            first
             | (refine hK _ ?_; clear hK K)
             | (apply Exists.intro
                refine ⟨fun u => ?_, hK _ ?_⟩
                (focus (unfold QP.oat; go_simp; first | done | exact ⟨rfl, rfl⟩ | exact rfl))
                clear hK K)))
      refine QC.wpC_nil ?_
      clear z0 z1
      go_wp2
      go_roundg (n - (j + 1))
      case measure => have := HJ.out; omega
      case rel => exact ⟨j + 1, by have := HLT.out; omega, by go_num, D2.out⟩
    · obtain rfl : n = j := by have := HJ.out; omega
      clear hlt
      go_wp2
      go_ret
      exact ⟨rfl, D.out.below⟩
theorem zero50_PV : Try.zeroCells50 = PV (.slice none 0 0) := by kernel_rfl
theorem build50_1 (a : Option Addr) (n c : Nat) (w : World) : (Instr.build 50 #[(0, .slice a n c)]).run Try.prog w = .ok (.agg (PV (.slice a n c))) w := by kernel_rfl
theorem vals_zs {len : Nat} {zs : List Int} (hl : zs.length = len) : zs.map (Value.int .u64) = vals len (fun i => zs.getD i 0) := by
  apply List.ext_getElem?
  intro j
  by_cases hj : j < len
  · rw [vals_get hj, List.getElem?_map, List.getD_eq_getElem?_getD, List.getElem?_eq_getElem (by omega)]; rfl
  · rw [List.getElem?_eq_none (by simp; omega), List.getElem?_eq_none (by rw [vals_len]; omega)]
/-- what New answers for balances that may be -/
def RnYes (n : Nat) (f : Nat → Int) (w : World) (e : Ending) (w' : World) : Prop := ∃ s', e = .returned (.tuple #[.agg (PV s'), .bool true]) ∧ RS w.heap.size n f s' w' ∧ Below w.heap.size w w'
set_option maxRecDepth 100000 in
set_option maxHeartbeats 8000000 in
theorem rnew_yes (pa : Option Addr) (len cap : Nat) (zs : List Int) (w : World) (h : URow w pa len zs) (h1 : 1 ≤ len) (h2 : len ≤ 32) (h3 : zs.sum ≤ Am.mx) : Calls Try.prog 35 #[.slice pa len cap] w (RnYes len (fun i => zs.getD i 0) w) := by
  have hl := h.lens
  have add : ∀ v, Below w.heap.size w v → _ := fun v hv => radd_any pa len cap zs v (h.below hv)
  rw [show Am.addF zs = (zs.sum, 0) by unfold Am.addF; rw [if_pos h3]] at add
  obtain ⟨q, hq⟩ : ∃ q, w.heap.size = q := ⟨_, rfl⟩
  rw [hq] at add
  obtain ⟨V1, hV1⟩ : ∃ V1, w.alloc (.cells Try.zeroCells50 50) = V1 := ⟨_, rfl⟩
  have s1 : V1.heap.size = q + 1 := by rw [← hV1, ← hq]; simp
  obtain ⟨V2, hV2⟩ : ∃ V2, V1.alloc (.cells #[] 23) = V2 := ⟨_, rfl⟩
  have s2 : V2.heap.size = q + 2 := by rw [← hV2]; simp [s1]
  have b1 : Below q w V1 := by rw [← hV1]; exact (Below.refl q w).alloc (by omega) _
  have b2 : Below q w V2 := by rw [← hV2]; exact b1.alloc (by omega) _
  have rz : M.RowAt V2 q 50 Try.zeroCells50 := by
    have := M.RowAt.new w 50 Try.zeroCells50
    rw [hV1, hq] at this
    have := this.alloc (.cells #[] 23)
    rwa [hV2] at this
  have own0 : V2.ownsRow q 23 1 (.slice (some ⟨q + 1, 0, none⟩) 0 0) 0 [] := by
    have := World.ownsRow_lit (base := q) (e := 23) (size := 1) V1 #[] 0 (by omega) (by unfold maxLen; omega) rfl
    rw [hV2, s1] at this; exact this
  have hu2 := h.below (hq.symm ▸ b2)
  obtain ⟨bb, off, hp, hc⟩ := hu2.cells
  obtain rfl := hp.resolve_left (by omega)
  have hcell : ∀ j u, (zs.map (Value.int .u64))[j]? = some u → V2.cell? ((⟨bb, off, none⟩ : Addr).add j) = some u := fun j u hu => by
    rw [List.getElem?_map] at hu
    cases hz : zs[j]? with
    | none => rw [hz] at hu; cases hu
    | some z =>
      rw [hz] at hu
      obtain rfl : Value.int .u64 z = u := by simpa using hu
      have hj : j < len := by rw [← hl]; exact (List.getElem?_eq_some_iff.1 hz).1
      rw [Addr.add_mid, hc j hj, List.getD_eq_getElem?_getD, hz]; rfl
  obtain ⟨i0, hi, hz0, hz1, hz2⟩ := info_parts info23
  have hil : (zs.map (Value.int .u64)).length = len * 1 := by simp [hl]
  have A1 := Lib.hid (add V1 b1)
  have vz := vals_zs hl
  unfold RnYes
  rw [hq]
  have HQ := Lib.hid hq; have HV1 := Lib.hid hV1; have HS1 := Lib.hid s1; have HV2 := Lib.hid hV2; have HS2 := Lib.hid s2; have RZ := Lib.hid rz; have B2 := Lib.hid b2; have O0 := Lib.hid own0; have HC := Lib.hid hcell; have HI := Lib.hid hil; have VZ := Lib.hid vz
  have d1 : decide ((len : Int) < 1) = false := by simp; omega
  have d2 : decide ((32 : Int) < (len : Int)) = false := by simp; omega
  clear hl add hq hV1 s1 hV2 s2 b1 b2 rz own0 hu2 hp hc hcell hil h h3 vz
  go_enter Try.func35, Try.ntmps35
  go_wp2_with (first | (rw [HQ.out, HV1.out]) | fail)
  refine (A1.out).mono ?_
  rintro e v1 ⟨rfl, rfl⟩
  clear A1
  go_wp2_with (first | (rw [HS1.out, HV2.out]) | (at_builtin; refine wpList_append_sep3 _ rfl (.tmp 24) (.tmp 25) 33 rfl q 23 i0 _ 1 8 Try.underlying33 hi hz0 hz1 hz2 rfl (by decide) (q + 1) 0 0 [] ?a1 O0.out ⟨bb, off, none⟩ len cap (zs.map (Value.int .u64)) ?a2 HI.out HC.out (u64_one zs) (by unfold maxLen; omega) (by omega) (by have := HS2.out; omega) ?_))
  case a1 => rfl
  case a2 => rfl
  intro s' v4 ho hg hs
  obtain ⟨g, c', rfl⟩ : ∃ g c', s' = .slice (some ⟨g, 0, none⟩) len c' := by
    rcases ho.2 with ⟨_, h2⟩ | ⟨g, cc, cur, h2, _⟩
    · omega
    · exact ⟨g, cc, by simpa using h2⟩
  have hgq : q + 1 ≤ g := by
    rcases hs with e | e
    · simp [Value.ownBlock] at e; omega
    · have := e g rfl; have := HS2.out; omega
  have rz4 := row_grown hg RZ.out (by simp)
  have b4 : Below q w v4 := ⟨hg.os.trans B2.out.os, hg.tape.trans B2.out.tape, hg.output.trans B2.out.output, Nat.le_trans B2.out.size hg.size, fun k hk => (hg.block k (by have := HS2.out; omega) (by simp; omega)).trans (B2.out.block k hk)⟩
  obtain ⟨Y, hY⟩ : ∃ Y, PV (.slice (some ⟨g, 0, none⟩) len c') = Y := ⟨_, rfl⟩
  have iY : (Try.prog.info? 50).map (·.size) = some Y.size := by rw [← hY]; exact info50s _
  have zY : Try.zeroCells50.size = Y.size := by rw [← hY]; exact zero50s _
  have oY : Y.all (·.oneCell') = true := by rw [← hY]; exact PV_one rfl
  have r8 := rz4.setRow Y
  have hload := run_loadVar_row (P := Try.prog) _ q 50 50 Y (0, 0) _ r8 Try.underlying50 rfl iY
  have ho : v4.ownsRow q 23 1 (.slice (some ⟨g, 0, none⟩) len c') len (vals len fun i => zs.getD i 0) := by rw [← VZ.out]; simpa using ho
  have own8 : (v4.setRow q Y).ownsRow q 23 1 (.slice (some ⟨g, 0, none⟩) len c') len (vals len fun i => zs.getD i 0) := by
    refine ⟨ho.1, ?_⟩
    rcases ho.2 with ⟨e, _⟩ | ⟨g', cc, cur, e, hb, hgg, rest⟩
    · cases e
    · cases e
      exact .inr ⟨g, c', cur, rfl, hb, M.RowAt.farRow hgg (show q ≠ g by omega) Y, rest⟩
  have fin : ∃ s', Ending.returned (.tuple #[.agg Y, .bool true]) = .returned (.tuple #[.agg (PV s'), .bool true]) ∧ RS q len (fun i => zs.getD i 0) s' (v4.setRow q Y) ∧ Below q w (v4.setRow q Y) := ⟨_, by rw [hY], ⟨⟨g, c', rfl⟩, own8⟩, M.below_setRow (cs := Y) b4 (Nat.le_refl q)⟩
  have FIN := Lib.hid fin; have HLD := Lib.hid hload
  have HZY := Lib.hid (show Try.zeroCells50.setIfInBounds 0 (.slice (some ⟨g, 0, none⟩) len c') = Y by rw [← hY, ← PV_set (.slice none 0 0), ← zero50_PV])
  clear ho hg hs hgq r8 hload own8 fin b4 hY HV1 HV2 RZ B2 O0 HC HI VZ HQ HS1 HS2
  go_wp2_with (first | (rw [HZY.out]) | (refine wpList_store_row (x := .tmp 2) (y := .tmp 27) (cells := Y) (old := Try.zeroCells50) (t := 50) (ty := 50) (g := q) ?_ ?_ ?_ ?_ rz4 iY zY oY ?_; rfl; rfl; rfl; rfl) | fail)
  have hload := HLD.out
  exact bodyPost_ret (v := .tuple #[.agg Y, .bool true]) (by simp [results, Try.results35, asAddr, hload]) rfl FIN.out
end Go.Proofs.Ytnnnbgndbmcffaa
namespace Go.Proofs.Ytnnnbgndbmcffaa
open Go.RowKit
set_option linter.unusedVariables false

def noA : Ac := ⟨0, -1, 0, 0⟩
def seqStep (n : Nat) (f : Nat → Int) (x : Ac) : Nat → Int := if x.a < 0 then f else if movE n f x.a x.b x.n = 0 then movF f x.a.toNat x.b.toNat x.n else f
def seqF (n : Nat) (A : List Ac) (f0 : Nat → Int) (l : List Nat) : Nat → Int := l.foldl (fun f i => seqStep n f (A.getD i noA)) f0
theorem seqF_snoc (n : Nat) (A : List Ac) (f0 : Nat → Int) (l : List Nat) (i : Nat) : seqF n A f0 (l ++ [i]) = seqStep n (seqF n A f0 l) (A.getD i noA) := by unfold seqF; rw [List.foldl_append]; rfl
theorem seqF_app (n : Nat) (A : List Ac) (X : List Ac) (f0 : Nat → Int) : ∀ (l : List Nat), (∀ i ∈ l, i < A.length) → seqF n (A ++ X) f0 l = seqF n A f0 l := fun l => by
  unfold seqF
  induction l generalizing f0 with
  | nil => exact fun _ => rfl
  | cons i r ih =>
    intro h
    have e : (A ++ X).getD i noA = A.getD i noA := by
      rw [List.getD_eq_getElem?_getD, List.getD_eq_getElem?_getD, List.getElem?_append_left (h i List.mem_cons_self)]
    rw [List.foldl_cons, List.foldl_cons, e]
    exact ih _ (fun j hj => h j (List.mem_cons_of_mem _ hj))
/-- one by one -/
structure Ord (S : BS) (f0 : Nat → Int) : Prop where
  now : seqF S.n S.acts f0 S.dn = S.f
  each : ∀ (p i : Nat) (T : Tsk), S.dn[p]? = some i → S.tl[i]? = some T → (T.lists = true → T.told = (List.range S.n).map (seqF S.n S.acts f0 (S.dn.take p))) ∧ (T.lists = false → T.er = movE S.n (seqF S.n S.acts f0 (S.dn.take p)) T.fr T.to T.am)
theorem acts_getD {S : BS} {i : Nat} {T : Tsk} (hT : S.tl[i]? = some T) : S.acts.getD i noA = actOf T := by
  rw [List.getD_eq_getElem?_getD]; unfold BS.acts; rw [List.getElem?_map, hT]; rfl
theorem ord_put {S : BS} {f0 : Nat → Int} (h : Ord S f0) {i : Nat} {T : Tsk} (hT : S.tl[i]? = some T) (h' : Nat → Int) : Ord { S with h := h', tl := S.tl.set i T.next } f0 := by
  have ha : ({ S with h := h', tl := S.tl.set i T.next } : BS).acts = S.acts := map_set hT rfl
  refine ⟨by rw [ha]; exact h.now, fun p j X hp hX => ?_⟩
  rw [ha]
  have hX2 : (S.tl.set i T.next)[j]? = some X := hX
  clear hX
  rw [set_get hT] at hX2
  by_cases e : i = j
  · subst e
    rw [if_pos rfl] at hX2
    cases hX2
    exact h.each p i T hp hT
  · rw [if_neg e] at hX2
    exact h.each p j X hp hX2
theorem ord_act {S : BS} {f0 : Nat → Int} (ok : S.Ok) (h : Ord S f0) {i : Nat} {T : Tsk} (hT : S.tl[i]? = some T) (hk : T.k = T.m) : Ord (S.act i T) f0 := by
  have hni : i ∉ S.dn := fun hi => by
    obtain ⟨T', hT', h'⟩ := (ok.dm i).1 hi
    obtain rfl : T = T' := Option.some.inj (hT.symm.trans hT')
    omega
  have old : ∀ (p j : Nat), (S.dn ++ [i])[p]? = some j → (p < S.dn.length ∧ S.dn[p]? = some j) ∨ (p = S.dn.length ∧ j = i) := fun p j hp => by
    by_cases hlt : p < S.dn.length
    · rw [List.getElem?_append_left hlt] at hp; exact .inl ⟨hlt, hp⟩
    · rw [List.getElem?_append_right (by omega)] at hp
      have := (List.getElem?_eq_some_iff.1 hp).1
      simp at this
      have e : p = S.dn.length := by omega
      subst e
      simp at hp
      exact .inr ⟨rfl, hp.symm⟩
  have tk : ∀ p, p ≤ S.dn.length → (S.dn ++ [i]).take p = S.dn.take p := fun p hp => List.take_append_of_le_length hp
  unfold BS.act
  split
  · rename_i hl
    obtain ⟨X, hXd⟩ : ∃ X : Tsk, { T with k := T.k + 1, told := S.bals } = X := ⟨_, rfl⟩
    have haX : actOf X = actOf T := by rw [← hXd]; rfl
    rw [hXd]
    have ha : ({ S with tl := S.tl.set i X, dn := S.dn ++ [i] } : BS).acts = S.acts := map_set hT haX
    have hneg : (actOf T).a < 0 := by unfold actOf; rw [if_pos hl]; decide
    refine ⟨?_, fun p j Y hp hY => ?_⟩
    · rw [ha]
      show seqF S.n S.acts f0 (S.dn ++ [i]) = S.f
      rw [seqF_snoc, acts_getD hT, h.now]; unfold seqStep; rw [if_pos hneg]
    · rw [ha]
      have hY : (S.tl.set i X)[j]? = some Y := hY
      rw [set_get hT] at hY
      rcases old p j hp with ⟨hlt, hp'⟩ | ⟨rfl, rfl⟩
      · have hne : i ≠ j := fun e => hni (by rw [e]; exact List.mem_of_getElem? hp')
        rw [if_neg hne] at hY
        show (Y.lists = true → Y.told = (List.range S.n).map (seqF S.n S.acts f0 ((S.dn ++ [i]).take p))) ∧ _
        rw [tk p (by omega)]
        exact h.each p j Y hp' hY
      · rw [if_pos rfl] at hY
        cases hY
        show (X.lists = true → X.told = (List.range S.n).map (seqF S.n S.acts f0 ((S.dn ++ [j]).take S.dn.length))) ∧ _
        rw [tk _ (Nat.le_refl _), List.take_length, h.now, ← hXd]
        exact ⟨fun _ => rfl, fun e => (by have e : T.lists = false := e; rw [hl] at e; cases e)⟩
  · rename_i hl
    have hl : T.lists = false := by simpa using hl
    obtain ⟨⟨hfr, _⟩, _⟩ := ok.ra i T hT hl
    obtain ⟨X, hXd⟩ : ∃ X : Tsk, { T with k := T.k + 1, er := movE S.n S.f T.fr T.to T.am } = X := ⟨_, rfl⟩
    have haX : actOf X = actOf T := by rw [← hXd]; rfl
    rw [hXd]
    have ha : ({ S with f := if movE S.n S.f T.fr T.to T.am = 0 then movF S.f T.fr.toNat T.to.toNat T.am else S.f, tl := S.tl.set i X, dn := S.dn ++ [i] } : BS).acts = S.acts := map_set hT haX
    have hact : actOf T = ⟨0, T.fr, T.to, T.am⟩ := by unfold actOf; rw [hl]; rfl
    refine ⟨?_, fun p j Y hp hY => ?_⟩
    · rw [ha]
      show seqF S.n S.acts f0 (S.dn ++ [i]) = _
      rw [seqF_snoc, acts_getD hT, h.now, hact]; unfold seqStep; rw [if_neg (by show ¬ T.fr < 0; omega)]
    · rw [ha]
      have hY : (S.tl.set i X)[j]? = some Y := hY
      rw [set_get hT] at hY
      rcases old p j hp with ⟨hlt, hp'⟩ | ⟨rfl, rfl⟩
      · have hne : i ≠ j := fun e => hni (by rw [e]; exact List.mem_of_getElem? hp')
        rw [if_neg hne] at hY
        show (Y.lists = true → Y.told = (List.range S.n).map (seqF S.n S.acts f0 ((S.dn ++ [i]).take p))) ∧ (Y.lists = false → Y.er = movE S.n (seqF S.n S.acts f0 ((S.dn ++ [i]).take p)) Y.fr Y.to Y.am)
        rw [tk p (by omega)]
        exact h.each p j Y hp' hY
      · rw [if_pos rfl] at hY
        cases hY
        show (X.lists = true → _) ∧ (X.lists = false → X.er = movE S.n (seqF S.n S.acts f0 ((S.dn ++ [j]).take S.dn.length)) X.fr X.to X.am)
        rw [tk _ (Nat.le_refl _), List.take_length, h.now, ← hXd]
        exact ⟨fun e => (by have e : T.lists = true := e; rw [hl] at e; cases e), fun _ => rfl⟩
theorem ord_step {S : BS} {f0 : Nat → Int} (ok : S.Ok) (h : Ord S f0) (x : Int) : Ord (S.step x).1 f0 := by
  unfold BS.step
  split
  · cases hX : S.tl[x.toNat]? with
    | none => exact h
    | some X =>
      show Ord (S.stepT x.toNat X).1 f0
      rcases stepT_cases S x.toNat X with ⟨t, ht, ⟨h1, e1⟩ | ⟨h1, e1⟩⟩ | ⟨h1, e1⟩ | ⟨h1, e1⟩ | ⟨h1, e1⟩
      · rw [e1]; exact ord_put h hX _
      · rw [e1]; exact h
      · rw [e1]; exact ord_act ok h hX h1
      · rw [e1]; exact ord_put h hX _
      · rw [e1]; exact h
  · exact h
theorem ord_begin {S : BS} {f0 : Nat → Int} (ok : S.Ok) (h : Ord S f0) (X : Tsk) : Ord (S.begin X).1 f0 := by
  unfold BS.begin
  split
  · exact h
  · have ha : ({ S with tl := S.tl ++ [X] } : BS).acts = S.acts ++ [actOf X] := by simp [BS.acts]
    have hlt : ∀ i ∈ S.dn, i < S.acts.length := fun i hi => by
      obtain ⟨T, hT, _⟩ := (ok.dm i).1 hi
      rw [acts_len]; exact (List.getElem?_eq_some_iff.1 hT).1
    have hsq : ∀ p, seqF S.n (S.acts ++ [actOf X]) f0 (S.dn.take p) = seqF S.n S.acts f0 (S.dn.take p) := fun p => seqF_app _ _ _ _ _ (fun i hi => hlt i (List.mem_of_mem_take hi))
    refine ⟨?_, fun p j T hp hT => ?_⟩
    · rw [ha]
      show seqF S.n (S.acts ++ [actOf X]) f0 S.dn = S.f
      rw [seqF_app _ _ _ _ _ hlt]; exact h.now
    · rw [ha]
      show (T.lists = true → T.told = (List.range S.n).map (seqF S.n (S.acts ++ [actOf X]) f0 (S.dn.take p))) ∧ (T.lists = false → T.er = movE S.n (seqF S.n (S.acts ++ [actOf X]) f0 (S.dn.take p)) T.fr T.to T.am)
      rw [hsq]
      have hp : S.dn[p]? = some j := hp
      have hT : (S.tl ++ [X])[j]? = some T := hT
      have := hlt j (List.mem_of_getElem? hp)
      rw [acts_len] at this
      rw [List.getElem?_append_left this] at hT
      exact h.each p j T hp hT
theorem ord_do {S : BS} {f0 : Nat → Int} (ok : S.Ok) (h : Ord S f0) (x : Ac) : Ord (S.doA x) f0 := by
  unfold BS.doA
  split
  · unfold BS.start
    split
    · exact ord_begin ok h _
    · exact h
  · split
    · exact ord_begin ok h _
    · exact ord_step ok h _
theorem play_ord {S : BS} {f0 : Nat → Int} (ok : S.Ok) (h : Ord S f0) : ∀ (l : List Ac), (∀ x ∈ l, x.ok) → Ord (S.play l) f0 := fun l => by
  unfold BS.play
  induction l generalizing S with
  | nil => exact fun _ => h
  | cons x r ih => exact fun hh => ih (do_ok ok (hh x List.mem_cons_self)) (ord_do ok h x) (fun y hy => hh y (List.mem_cons_of_mem _ hy))
/-- balances stay whole, one by one -/
theorem seq_whole {n : Nat} {A : List Ac} {f0 : Nat → Int} {tot : Int} (h : Whole n f0 tot) (hA : ∀ x ∈ A, 0 ≤ x.n) : ∀ (l : List Nat), Whole n (seqF n A f0 l) tot := fun l => by
  unfold seqF
  induction l generalizing f0 with
  | nil => exact h
  | cons i r ih =>
    rw [List.foldl_cons]
    refine ih ?_
    unfold seqStep
    have hx : 0 ≤ (A.getD i noA).n := by
      rw [List.getD_eq_getElem?_getD]
      cases hi : A[i]? with
      | none => exact Int.le_refl _
      | some x => exact hA x (List.mem_of_getElem? hi)
    split
    · exact h
    · split
      · rename_i hE; exact mov_whole h hx hE
      · exact h
end Go.Proofs.Ytnnnbgndbmcffaa
namespace Go.Proofs.Ytnnnbgndbmcffaa
open Go.RowKit
set_option linter.unusedVariables false

section
variable {n : Nat} {w0 v v' : World} {b : Nat} {S : BS} {L : List (Nat × TypeId × Array Value)} {O : List Ow}
/-- a row of the law's own is stored whole -/
theorem LW.setRow {g : Nat} {t : TypeId} {cs : Array Value} (h : LW n w0 b S ((g, t, cs) :: L) O v) (Y : Array Value) (hL : ∀ x ∈ L, x.1 ≠ g) (hO : ∀ o ∈ O, o.t ≠ t) : LW n w0 b S ((g, t, Y) :: L) O (v.setRow g Y) := by
  have hrow := h.rows _ List.mem_cons_self
  have hap : ∀ o ∈ O, some g ≠ o.v.ownBlock := fun o ho => types_apart hrow (h.owns o ho) (fun e => hO o ho e.symm)
  obtain ⟨⟨rk, a, c, d, e⟩, r, rg, ow, bl, ge⟩ := h
  have chg : Chg rk (fun x => x = 0) v (v.setRow g Y) := ⟨rfl, rfl, rfl, by simp, fun k hk hn => by
    by_cases ek : g = k
    · exact absurd (by rw [← ek]; exact d (g, t, cs) List.mem_cons_self) hn
    · simp only [World.setRow, Array.getElem?_modify, if_neg ek]⟩
  refine ⟨⟨rk, a.foreign chg, c, fun x hx => ?_, e⟩, fun x hx => ?_, fun x hx => ?_, fun o ho => ?_, M.below_setRow bl (rg (g, t, cs) List.mem_cons_self), by simpa using ge⟩
  · rcases List.mem_cons.1 hx with e1 | e1
    · subst e1; exact d (g, t, cs) List.mem_cons_self
    · exact d x (List.mem_cons_of_mem _ e1)
  · rcases List.mem_cons.1 hx with e1 | e1
    · subst e1; exact M.RowAt.setRow (r (g, t, cs) List.mem_cons_self) Y
    · exact (r x (List.mem_cons_of_mem _ e1)).farRow (fun e => hL x e1 e.symm) Y
  · rcases List.mem_cons.1 hx with e1 | e1
    · subst e1; exact rg (g, t, cs) List.mem_cons_self
    · exact rg x (List.mem_cons_of_mem _ e1)
  · have hw := ow o ho
    refine ⟨hw.1, ?_⟩
    rcases hw.2 with hn | ⟨g', cap, cur, e', hb, hgg, rest⟩
    · exact .inl hn
    · refine .inr ⟨g', cap, cur, e', hb, M.RowAt.farRow hgg (fun e2 => ?_) Y, rest⟩
      have := hap o ho
      rw [e'] at this
      exact this (by rw [e2]; rfl)
/-- a purse of the reference's among the law's own slices -/
def OwP (s : Value) (m : Nat) (f : Nat → Int) : Ow := ⟨23, 1, s, m, vals m f⟩
theorem own_form {w : World} {base : Nat} {e : TypeId} {sz : Nat} {s : Value} {m : Nat} {xs : List Value} (h : w.ownsRow base e sz s m xs) (hm : 1 ≤ m) : ∃ g c, s = .slice (some ⟨g, 0, none⟩) m c := by
  rcases h.2 with ⟨_, h2⟩ | ⟨g, c, cur, h2, _⟩
  · omega
  · exact ⟨g, c, h2⟩
theorem lw_rmove {s : Value} {m : Nat} {f : Nat → Int} {tot : Int} (h : LW n w0 b S L (OwP s m f :: O) v) (hw : Whole m f tot) (ht : tot ≤ 1125899906842624) (hm : m ≤ 32) (h1 : 1 ≤ m) (x : Ac) (hx : 0 ≤ x.a) (hxn : 0 ≤ x.n) :
    Calls Try.prog 62 #[.agg (PV s), .int .i64 x.a, .int .i64 x.b, .int .u64 x.n] v fun e v' => ∃ s', e = .returned (.tuple #[.agg (PV s'), .int .i64 (movE m f x.a x.b x.n)]) ∧ LW n w0 b S L (OwP s' m (seqStep m f x) :: O) v' := by
  have own := h.owns _ List.mem_cons_self
  have rs : RS 0 m f s v := ⟨own_form own h1, own.mono (Nat.zero_le _)⟩
  have hss : seqStep m f x = if movE m f x.a x.b x.n = 0 then movF f x.a.toNat x.b.toNat x.n else f := by unfold seqStep; rw [if_neg (by omega)]
  by_cases hE : movE m f x.a x.b x.n = 0
  · rw [hss, if_pos hE, hE]
    unfold movE at hE
    cases ha : inP m x.a
    · rw [ha] at hE; cases hE
    · cases hb : inP m x.b
      · rw [ha, hb] at hE; cases hE
      · rw [ha, hb, if_pos (by rfl)] at hE
        obtain ⟨i, hi, hi2⟩ := in_of ha
        obtain ⟨j, hj, hj2⟩ := in_of hb
        rw [hi2, Int.toNat_natCast] at hE
        rw [hi2, hj2]
        by_cases e0 : x.n = 0
        · rw [if_pos e0] at hE; cases hE
        · rw [if_neg e0] at hE
          by_cases e2 : f i < x.n
          · rw [if_pos e2] at hE; cases hE
          · refine (rmove_yes m f tot s v rs hw ht hm i j hi hj x.n (by omega) (by omega)).mono ?_
            rintro e v' ⟨s', rfl, rs', hbl⟩
            refine ⟨s', rfl, ?_⟩
            rw [Int.toNat_natCast, Int.toNat_natCast]
            exact (h.copied rs'.2 hbl).sub (fun x hx => hx) (fun o ho => by
              rcases List.mem_cons.1 ho with e | e
              · rw [e]; exact List.mem_cons_self
              · exact List.mem_cons_of_mem _ (List.mem_cons_of_mem _ e))
  · rw [hss, if_neg hE]
    refine (rmove_no m f s v rs x.a x.b x.n hxn hE).mono ?_
    rintro e v' ⟨rfl, hbl⟩
    exact ⟨s, rfl, h.same hbl⟩
/-- Same of two slices of the law's own that are alike -/
theorem lw_same {a1 a2 : Option Addr} {c1 c2 m : Nat} {f : Nat → Int} (h : LW n w0 b S L O v) (h1 : (⟨23, 1, .slice a1 m c1, m, vals m f⟩ : Ow) ∈ O) (h2 : (⟨23, 1, .slice a2 m c2, m, vals m f⟩ : Ow) ∈ O) (hm : m ≤ 1000) :
    Calls Try.prog 60 #[.slice a1 m c1, .slice a2 m c2] v fun e v' => e = .returned (.bool true) ∧ LW n w0 b S L O v' := by
  refine (rsame_any a1 a2 c1 c2 m f v hm (fun u hu j hj => ?_)).mono ?_
  · have hl := h.dr hu
    obtain ⟨g1, e1, x1⟩ := hl.elem h1 rfl (vals_get hj)
    obtain ⟨g2, e2, x2⟩ := hl.elem h2 rfl (vals_get hj)
    exact ⟨g1, 0, g2, 0, e1, e2, by rw [Nat.zero_add]; exact x1, by rw [Nat.zero_add]; exact x2⟩
  · rintro e v' ⟨rfl, hb⟩
    exact ⟨rfl, h.same hb⟩
end
set_option maxRecDepth 100000 in
set_option maxHeartbeats 16000000 in
theorem order_walk (pa : Option Addr) (len cap : Nat) (zs : List Int) (A : Option Addr) (cap2 : Nat) (l : List Ac) (w : World) (hu : URow w pa len zs) (h1 : 1 ≤ len) (h2 : len ≤ 32) (h3 : zs.sum ≤ Am.mx) (hsl : RowK.SlAt w 4 Ac.cells A l) (hok : ∀ x ∈ l, x.ok) (hl : l.length ≤ 200) :
    Calls Try.prog 19 #[.slice pa len cap, .slice A l.length cap2] w (Fine w) := by
  have PLAY := Lib.hid (play_lw pa len cap zs A cap2 l w hu h1 h2 h3 hsl hok hl)
  obtain ⟨n, hn⟩ : ∃ n, w.heap.size = n := ⟨_, rfl⟩
  have HN := Lib.hid hn
  rw [hn] at PLAY
  have SH := Lib.hid (fun v => bshown_any v)
  obtain ⟨m, hm⟩ : ∃ m, l.length = m := ⟨_, rfl⟩
  rw [hm] at PLAY hl ⊢
  have rnew : ∀ v, Below n w v → _ := fun v hv => rnew_yes pa len cap zs v (hu.below (hn.symm ▸ hv : Below w.heap.size w v)) h1 h2 h3
  have htot : sumB (fun i => zs.getD i 0) len = zs.sum := by have := sumB_list zs; rwa [hu.lens] at this
  have hpos : ∀ i, 0 ≤ zs.getD i 0 := fun i => by
    rw [List.getD_eq_getElem?_getD]
    cases hz : zs[i]? with
    | none => exact Int.le_refl _
    | some z => exact (hu.fits z (List.mem_of_getElem? hz)).1
  obtain ⟨f0, hf⟩ : ∃ f : Nat → Int, (fun i => zs.getD i 0) = f := ⟨_, rfl⟩
  have hfz : ∀ j, zs.getD j 0 = f0 j := fun j => congrFun hf j
  simp only [hfz] at hpos
  rw [hf] at PLAY htot rnew
  obtain ⟨S, hS⟩ : ∃ S, (BS.new len f0).play l = S := ⟨_, rfl⟩
  have hord : Ord S f0 := by
    rw [← hS]
    exact play_ord (BS.Ok.new h2) ⟨rfl, fun p i T hp => by simp [BS.new] at hp⟩ l hok
  have hSn : S.n = len := by rw [← hS]; exact play_n _ _
  rw [hS] at PLAY
  have hwh : Whole len f0 zs.sum := ⟨hpos, htot⟩
  have hmx : zs.sum ≤ 1125899906842624 := h3
  have d1 : decide ((40 : Int) < (len : Int)) = false := by simp; omega
  have d2 : decide ((200 : Int) < (m : Int)) = false := by simp; omega
  have RNEW := Lib.hid rnew; have ORD := Lib.hid hord; have HSN := Lib.hid hSn; have WH := Lib.hid hwh; have MX := Lib.hid hmx; have HL1 := Lib.hid h1; have HL2 := Lib.hid h2
  clear hu h1 h2 h3 hsl hok hl hm hS hf hfz htot hpos hmx rnew hord hSn hwh
  go_enter Try.func19, Try.ntmps19
  go_wp2_with fail
  refine (SH.out _).mono ?_
  rintro e w1 ⟨rfl, g1⟩
  rw [hn] at g1
  have PL := Lib.hid (PLAY.out _ g1)
  clear g1 PLAY SH hn
  go_wp2_with fail
  refine (PL.out).mono ?_
  rintro e w2 ⟨b, a, c, rfl, lw2⟩
  clear PL
  have LW2 := Lib.hid lw2
  have AL := Lib.hid (acts_len S)
  have OKS := Lib.hid lw2.ok
  have RN := Lib.hid (RNEW.out _ lw2.bel)
  obtain ⟨K, hK⟩ : ∃ K, S.acts.length = K := ⟨_, rfl⟩
  have hK32 : K ≤ 32 := by rw [← hK, acts_len]; exact lw2.ok.t32
  have HK := Lib.hid hK
  rw [hK]
  clear lw2 hK RNEW
  go_wp2_with fail
  refine (RN.out).mono ?_
  rintro e w3 ⟨s0, rfl, rs0, hb3⟩
  have lw3 : LW n w b S [] [OwP s0 len f0, OwA (.slice a K c) S] w3 := by
    have := LW2.out.copied rs0.2 hb3
    rw [HK.out] at this; exact this
  obtain ⟨⟨sg0, sc0, hs0⟩, _⟩ := rs0
  have hs1 : s0.oneCell' = true := by rw [hs0]; rfl
  obtain ⟨X0, hX0⟩ : ∃ X, PV s0 = X := ⟨_, rfl⟩
  have iX : (Try.prog.info? 50).map (·.size) = some X0.size := by rw [← hX0]; exact info50s _
  have zX : Try.zeroCells50.size = X0.size := by rw [← hX0]; exact zero50s _
  have oX : X0.all (·.oneCell') = true := by rw [← hX0]; exact PV_one hs1
  have lw4 := lw3.new 50 Try.zeroCells50
  obtain ⟨gp, hgp⟩ : ∃ gp, w3.heap.size = gp := ⟨_, rfl⟩
  obtain ⟨V4, hV4⟩ : ∃ V4, w3.alloc (.cells Try.zeroCells50 50) = V4 := ⟨_, rfl⟩
  rw [hgp, hV4] at lw4
  have rZ := lw4.rows _ List.mem_cons_self
  have lw5 := lw4.setRow X0 (fun x hx => by cases hx) (fun o ho => by
    simp only [List.mem_cons, List.not_mem_nil, or_false] at ho
    rcases ho with rfl | rfl
    · show (23 : Nat) ≠ 50; decide
    · show (84 : Nat) ≠ 50; decide)
  obtain ⟨V5, hV5⟩ : ∃ V5, V4.setRow gp X0 = V5 := ⟨_, rfl⟩
  rw [hV5, ← hX0] at lw5
  have LW5 := Lib.hid lw5; have HGP := Lib.hid hgp; have HV4 := Lib.hid hV4; have HV5 := Lib.hid hV5
  have DN := Lib.hid (lw_done lw5)
  rw [hX0]
  clear lw3 lw4 lw5 hgp hV4 hV5 hb3 LW2 RN hs0 hs1
  have rZ4 : M.RowAt V4 gp 50 Try.zeroCells50 := rZ
  clear rZ
  go_wp2_with (first | (rw [HGP.out, HV4.out]) | (refine wpList_store_row (x := .tmp 7) (y := .tmp 38) (cells := X0) (old := Try.zeroCells50) (t := 50) (ty := 50) (g := gp) ?_ ?_ ?_ ?_ rZ4 iX zX oX ?_; rfl; rfl; rfl; rfl) | (rw [HV5.out]))
  refine (DN.out).mono ?_
  rintro e w6 ⟨da, dc, rfl, lw6⟩
  obtain ⟨D, hD⟩ : ∃ D, S.dn.length = D := ⟨_, rfl⟩
  have hD32 : D ≤ 32 := by rw [← hD]; have := OKS.out.dnlen; have := AL.out; have := HK.out; omega
  have HD := Lib.hid hD
  obtain ⟨od, hod⟩ : ∃ od : Ow, (⟨3, 1, .slice da S.dn.length dc, S.dn.length, S.dn.map fun i : Nat => Value.int .i64 i⟩ : Ow) = od := ⟨_, rfl⟩
  have HOD := Lib.hid hod
  rw [hod] at lw6
  have LW6 := Lib.hid (lw6.sub (L' := [(gp, 50, PV s0)]) (O' := [OwP s0 len f0, od, OwA (.slice a K c) S]) (fun x hx => hx) (fun o ho => by
    simp only [List.mem_cons, List.not_mem_nil, or_false] at ho ⊢
    rcases ho with rfl | rfl | rfl
    · exact .inr (.inl rfl)
    · exact .inl rfl
    · exact .inr (.inr rfl)))
  rw [hD]
  clear lw6 hD hod DN LW5 HGP HV4 HV5 hX0 iX zX oX rZ4
  go_wp2
  go_loopg [10] D (fun mm i v => ∃ (p : Nat) (s : Value), mm + p = D ∧ i = .int .i64 p ∧ LW n w b S [(gp, 50, PV s)] [OwP s len (seqF len S.acts f0 (S.dn.take p)), od, OwA (.slice a K c) S] v)
  case atStart => exact ⟨0, s0, by omega, rfl, LW6.out⟩
  case round =>
    clear LW6
    obtain ⟨p, s, hp, rfl, lw⟩ := hrel
    have HP := Lib.hid hp
    clear hp
    by_cases hlt : p < D
    · obtain ⟨id, hid⟩ : ∃ id, S.dn[p]? = some id := ⟨_, List.getElem?_eq_getElem (by have := HD.out; omega)⟩
      obtain ⟨T, hT, hTk⟩ := (OKS.out.dm id).1 (List.mem_of_getElem? hid)
      have hidK : id < K := by have := (List.getElem?_eq_some_iff.1 hT).1; have := AL.out; have := HK.out; omega
      have hx : S.acts[id]? = some (actOf T) := by unfold BS.acts; rw [List.getElem?_map, hT]; rfl
      have hmo : od ∈ [OwP s len (seqF len S.acts f0 (S.dn.take p)), od, OwA (.slice a K c) S] := by simp
      have hma : OwA (.slice a S.acts.length c) S ∈ [OwP s len (seqF len S.acts f0 (S.dn.take p)), od, OwA (.slice a K c) S] := by rw [HK.out]; simp
      obtain ⟨dg, hdg, cd⟩ := lw.elem hmo (a := da) (m := S.dn.length) (c := dc) (by rw [← HOD.out]) (j := p) (x := .int .i64 (id : Nat)) (by rw [← HOD.out]; show (S.dn.map _)[p]? = _; rw [List.getElem?_map, hid]; rfl)
      obtain ⟨ag, hag, ca⟩ := lw.act hma hx
      subst hdg; subst hag
      have hra := OKS.out.ra id T hT
      have hrl := OKS.out.rl id T hT
      obtain ⟨each1, each2⟩ := ORD.out.each p id T hid hT
      rw [HSN.out] at each1 each2
      have snoc : seqF len S.acts f0 (S.dn.take (p + 1)) = seqStep len (seqF len S.acts f0 (S.dn.take p)) (actOf T) := by
        rw [List.take_add_one, hid]
        show seqF len S.acts f0 (S.dn.take p ++ [id]) = _
        rw [seqF_snoc, acts_getD hT]
      have whp : Whole len (seqF len S.acts f0 (S.dn.take p)) zs.sum := seq_whole WH.out (fun x hx => by
        obtain ⟨T', hT', rfl⟩ := List.mem_map.1 hx
        obtain ⟨k, hk, rfl⟩ := List.mem_iff_getElem.1 hT'
        unfold actOf
        cases hl : S.tl[k].lists
        · exact (OKS.out.ra k _ (List.getElem?_eq_getElem hk) hl).2.2.1
        · exact Int.le_refl _) _
      generalize seqF len S.acts f0 (S.dn.take p) = fp at *
      have i1 : ((p : Nat) : Int) < (D : Nat) := by omega
      have i2 : ((id : Nat) : Int) < (K : Nat) := by omega
      have i0 : (0 : Int) ≤ (id : Nat) := by omega
      have dk : decide (((K : Nat) : Int) ≤ (id : Nat)) = false := by simp; omega
      have wk : IntKind.i64.wrap ((p : Int) + 1) = (p : Int) + 1 := IntWalk.i64_in _ (by omega)
      have HLT := Lib.hid hlt; have SNOC := Lib.hid snoc; have WHP := Lib.hid whp
      have E1 := Lib.hid each1; have E2 := Lib.hid each2; have RA := Lib.hid hra; have RL := Lib.hid hrl
      have resT : S.res (id : Int) = (T.er, true) := by rw [res_at hT, if_pos hTk]
      have tolT : S.toldOf (id : Int) = T.told := toldOf_at hT
      have RT := Lib.hid resT; have TT := Lib.hid tolT
      clear hid hT hTk hx hmo hma each1 each2 hra hrl snoc whp resT tolT
      have c1 := ca 1 (by decide); have c2 := ca 2 (by decide); have c3 := ca 3 (by decide); have c0 := ca 0 (by decide)
      rw [Nat.add_zero] at c0
      cases hl : T.lists
      · have hA : actOf T = ⟨0, T.fr, T.to, T.am⟩ := by unfold actOf; rw [hl]; rfl
        rw [hA] at c0 c1 c2 c3 SNOC
        simp only [Ac.cells] at c0 c1 c2 c3
        obtain ⟨⟨fr0, _⟩, _, am0, _⟩ := RA.out hl
        have er := E2.out hl
        have dneg : decide (T.fr < 0) = false := by simp; omega
        have lwx := lw.new 84 #[.int .i64 0, .int .i64 T.fr, .int .i64 T.to, .int .u64 T.am]
        have lwx2 := lwx.sub (L' := [(gp, 50, PV s)]) (O' := [OwP s len fp, od, OwA (.slice (some ⟨ag, 0, none⟩) K c) S]) (fun x hx => List.mem_cons_of_mem _ hx) (fun o ho => ho)
        have RES := Lib.hid (lw_result lwx2 (id : Nat))
        rw [RT.out] at RES
        have RM := Lib.hid (lw_rmove (lwx.sub (L' := [(gp, 50, PV s)]) (O' := [OwP s len fp, od, OwA (.slice (some ⟨ag, 0, none⟩) K c) S]) (fun x hx => List.mem_cons_of_mem _ hx) (fun o ho => ho)) WHP.out MX.out HL2.out HL1.out ⟨0, T.fr, T.to, T.am⟩ fr0 am0)
        obtain ⟨X, hX⟩ : ∃ X, PV s = X := ⟨_, rfl⟩
        have iXx : (Try.prog.info? 50).map (·.size) = some X.size := by rw [← hX]; exact info50s _
        have xs65 : X.size = 65 := by rw [← hX]; exact PV_size _
        have rX := lwx2.rows _ List.mem_cons_self
        rw [hX] at rX RM
        have cd2 : (wr.alloc (.cells #[.int .i64 0, .int .i64 T.fr, .int .i64 T.to, .int .u64 T.am] 84)).cell? ⟨dg, p, none⟩ = some (.int .i64 (id : Nat)) := (((Below.refl _ wr).alloc (Nat.le_refl _) _).cell (p := ⟨dg, p, none⟩) (World.block_lt_of_cell? wr _ cd)).trans cd
        have rX1 : M.RowAt (wr.alloc (.cells #[.int .i64 0, .int .i64 T.fr, .int .i64 T.to, .int .u64 T.am] 84)) gp 50 X := rX
        rw [← er] at RM
        have gpl : gp < wr.heap.size := (lw.rows _ List.mem_cons_self).lt
        generalize T.er = ee at *
        generalize T.fr = fr at *
        generalize T.to = to at *
        generalize T.am = am at *
        clear er lwx lwx2 rX hX hA hl E1 RA RL RT TT lw ca
        have HGL := Lib.hid gpl
        clear gpl
        go_wp2_with fail
        refine (RES.out).mono ?_
        rintro e w7 ⟨rfl, rfl⟩
        clear RES
        go_wp2_with (first | (refine wpList_load_row (x := .tmp 7) (ty := 50) (g := gp) (cs := X) (t := 50) (fr := (0, 0)) ?_ ?_ ?_ _ rX1 Try.underlying50 rfl iXx ?_; rfl; rfl; rfl) | fail)
        refine (RM.out).mono ?_
        rintro e w8 ⟨s', rfl, lw8⟩
        have rp8 := lw8.rows (gp, 50, X) List.mem_cons_self
        obtain ⟨sg2, sc2, hs2⟩ := own_form (lw8.owns _ List.mem_cons_self) HL1.out
        have oY' : (PV s').all (·.oneCell') = true := PV_one (by rw [show s' = _ from hs2]; rfl)
        obtain ⟨Y, hY⟩ : ∃ Y, PV s' = Y := ⟨_, rfl⟩
        have iY : (Try.prog.info? 50).map (·.size) = some Y.size := by rw [← hY]; exact info50s _
        have zY : Try.zeroCells50.size = Y.size := by rw [← hY]; exact zero50s _
        rw [hY] at oY'
        have lw9 := lw8.new 50 Try.zeroCells50
        obtain ⟨n9, hn9⟩ : ∃ n9, w8.heap.size = n9 := ⟨_, rfl⟩
        obtain ⟨V9, hV9⟩ : ∃ V9, w8.alloc (.cells Try.zeroCells50 50) = V9 := ⟨_, rfl⟩
        rw [hn9, hV9] at lw9
        have rZ9 : M.RowAt V9 n9 50 Try.zeroCells50 := lw9.rows _ List.mem_cons_self
        have ne9 : gp ≠ n9 := by have := rp8.lt; omega
        have tyO : ∀ o ∈ [OwP s' len (seqStep len fp ⟨0, fr, to, am⟩), od, OwA (.slice (some ⟨ag, 0, none⟩) K c) S], o.t ≠ 50 := fun o ho => by
          simp only [List.mem_cons, List.not_mem_nil, or_false] at ho
          rcases ho with rfl | rfl | rfl
          · show (23 : Nat) ≠ 50; decide
          · rw [← HOD.out]; show (3 : Nat) ≠ 50; decide
          · show (84 : Nat) ≠ 50; decide
        have lw10 := lw9.setRow Y (fun x hx => by simp only [List.mem_cons, List.not_mem_nil, or_false] at hx; rw [hx]; exact ne9) tyO
        obtain ⟨V10, hV10⟩ : ∃ V10, V9.setRow n9 Y = V10 := ⟨_, rfl⟩
        rw [hV10] at lw10
        have rY10 : M.RowAt V10 n9 50 Y := lw10.rows _ List.mem_cons_self
        have lw11 := lw10.sub (L' := [(gp, 50, X)]) (fun x hx => List.mem_cons_of_mem _ hx) (fun o ho => ho)
        have rX10 : M.RowAt V10 gp 50 X := lw11.rows _ List.mem_cons_self
        have zX10 : X.size = Y.size := by rw [xs65, ← hY, PV_size]
        have lw12 := lw11.setRow Y (fun x hx => by cases hx) tyO
        have LW12 := Lib.hid (show LW n w b S [(gp, 50, PV s')] [OwP s' len (seqF len S.acts f0 (S.dn.take (p + 1))), od, OwA (.slice (some ⟨ag, 0, none⟩) K c) S] (V10.setRow gp Y) from by rw [SNOC.out, hY]; exact lw12)
        have HN9 := Lib.hid hn9; have HV9 := Lib.hid hV9; have HV10 := Lib.hid hV10
        rw [hY]
        clear rX1 RM lw8 rp8 hs2 hY lw9 lw10 lw11 lw12 hn9 hV9 hV10 tyO c0 c1 c2 c3 cd cd2
        go_wp2_with (first | (rw [HN9.out, HV9.out]) | (rw [HV10.out]) | (refine wpList_store_row (x := .tmp 14) (y := .tmp 110) (cells := Y) (old := Try.zeroCells50) (t := 50) (ty := 50) (g := n9) ?_ ?_ ?_ ?_ rZ9 iY zY oY' ?_; rfl; rfl; rfl; rfl) | (refine wpList_load_row (x := .tmp 14) (ty := 50) (g := n9) (cs := Y) (t := 50) (fr := (0, 0)) ?_ ?_ ?_ _ rY10 Try.underlying50 rfl iY ?_; rfl; rfl; rfl) | (refine wpList_store_row (x := .tmp 7) (y := .tmp 112) (cells := Y) (old := X) (t := 50) (ty := 50) (g := gp) ?_ ?_ ?_ ?_ rX10 iY zX10 oY' ?_; rfl; rfl; rfl; rfl))
        go_roundg (D - (p + 1))
        case measure => have := HP.out; omega
        case rel => exact ⟨p + 1, s', by have := HLT.out; omega, by go_num, LW12.out⟩
      · have hA : actOf T = noA := by unfold actOf; rw [hl]; rfl
        rw [hA] at c0 c1 c2 c3 SNOC
        simp only [noA, Ac.cells] at c0 c1 c2 c3
        have tl := E1.out hl
        have er0 := (RL.out hl).2.2.2
        have sn2 : seqStep len fp noA = fp := by unfold seqStep; rw [if_pos (by decide)]
        rw [sn2] at SNOC
        have lwx := lw.new 84 #[.int .i64 0, .int .i64 (-1), .int .i64 0, .int .u64 0]
        have lwx2 := lwx.sub (L' := [(gp, 50, PV s)]) (O' := [OwP s len fp, od, OwA (.slice (some ⟨ag, 0, none⟩) K c) S]) (fun x hx => List.mem_cons_of_mem _ hx) (fun o ho => ho)
        have RES := Lib.hid (lw_result lwx2 (id : Nat))
        rw [RT.out, er0] at RES
        have LWX := Lib.hid lwx2
        have cd2 : (wr.alloc (.cells #[.int .i64 0, .int .i64 (-1), .int .i64 0, .int .u64 0] 84)).cell? ⟨dg, p, none⟩ = some (.int .i64 (id : Nat)) := (((Below.refl _ wr).alloc (Nat.le_refl _) _).cell (p := ⟨dg, p, none⟩) (World.block_lt_of_cell? wr _ cd)).trans cd
        have CD := Lib.hid cd2
        have TOLD := Lib.hid (show S.toldOf (id : Int) = (List.range len).map fp from by rw [TT.out]; exact tl)
        clear hA hl E2 RA RL RT TT lw ca tl er0 sn2 lwx lwx2
        go_wp2_with fail
        refine (RES.out).mono ?_
        rintro e w7 ⟨rfl, rfl⟩
        clear RES
        go_wp2
        refine QC.wp_region_d [8, 11] [0, 1, 2, 3, 4, 5, 6, 7, 9, 10, 8, 11, 12, 13] (by kernel_rfl) (by kernel_rfl) (fun u d => ?_)
        clear cd cd2 c0 c1 c2 c3
        have lwu := LWX.out.dr d
        have cd := (d.cell _).trans CD.out
        obtain ⟨sg2, sc2, hs2⟩ := own_form (lwu.owns _ List.mem_cons_self) HL1.out
        have hs2 : s = .slice (some ⟨sg2, 0, none⟩) len sc2 := hs2
        subst hs2
        have cp := ((lwu.rows _ List.mem_cons_self).cell 0).trans (PV_0 _)
        have TO := Lib.hid (lw_told lwu (id : Nat))
        rw [TOLD.out] at TO
        clear d lwu LWX CD TOLD
        iterate 10
          (first
           | (apply QC.wpC_load
              (focus rfl)
              (focus decide)
              (focus rfl)
              (focus rfl)
              (focus rfl)
              (focus (assumption))
              (focus (intro u hu; go_simp))
              intro K hK
              go_simp
              refine hK _ ?_
              clear hK K)
           | (apply QC.wpC_pure
              (focus rfl)
              (focus decide)
              intro K hK
              go_simp
              first
               | (refine hK _ ?_; clear hK K)
               | (apply Exists.intro
                  refine ⟨fun u => ?_, hK _ ?_⟩
                  (focus (unfold QP.oat; go_simp; first | done | exact ⟨rfl, rfl⟩ | exact rfl))
                  clear hK K)))
        apply QC.wpC_eff
        (focus rfl)
        (focus decide)
        go_wp2_with fail
        refine (TO.out).mono ?_
        rintro e u2 ⟨ta, tc, rfl, lw8⟩
        rw [show ((List.range len).map fp).length = len by simp] at lw8 ⊢
        have cp2 := ((lw8.rows _ List.mem_cons_self).cell 0).trans (PV_0 (.slice (some ⟨sg2, 0, none⟩) len sc2))
        have SM := Lib.hid (lw_same (m := len) (f := fp) (a1 := ta) (c1 := tc) (a2 := some ⟨sg2, 0, none⟩) (c2 := sc2) lw8 List.mem_cons_self (List.mem_cons_of_mem _ List.mem_cons_self) (by have := HL2.out; omega))
        clear cp cd TO lw8
        go_wp2
        refine QC.eff_ok rfl ?_ ?_
        · (repeat (first | exact QC.obl_nil | refine QC.obl_is (by assumption) ?_ | (apply QC.obl_dep; (focus decide))))
        clear cp2
        apply QC.wpC_eff
        (focus rfl)
        (focus decide)
        go_wp2_with fail
        refine (SM.out).mono ?_
        rintro e u3 ⟨rfl, lw9⟩
        have LW9 := Lib.hid (show LW n w b S [(gp, 50, PV (.slice (some ⟨sg2, 0, none⟩) len sc2))] [OwP (.slice (some ⟨sg2, 0, none⟩) len sc2) len (seqF len S.acts f0 (S.dn.take (p + 1))), od, OwA (.slice (some ⟨ag, 0, none⟩) K c) S] u3 from by rw [SNOC.out]; exact lw9.sub (fun x hx => hx) (fun o ho => List.mem_cons_of_mem _ ho))
        clear lw9 SM
        go_wp2
        refine QC.eff_ok rfl ?_ ?_
        · (repeat (first | exact QC.obl_nil | refine QC.obl_is (by assumption) ?_ | (apply QC.obl_dep; (focus decide))))
        iterate 2
          (first
           | (apply QC.wpC_load
              (focus rfl)
              (focus decide)
              (focus rfl)
              (focus rfl)
              (focus rfl)
              (focus (assumption))
              (focus (intro u hu; go_simp))
              intro K hK
              go_simp
              refine hK _ ?_
              clear hK K)
           | (apply QC.wpC_pure
              (focus rfl)
              (focus decide)
              intro K hK
              go_simp
              first
               | (refine hK _ ?_; clear hK K)
               | (apply Exists.intro
                  refine ⟨fun u => ?_, hK _ ?_⟩
                  (focus (unfold QP.oat; go_simp; first | done | exact ⟨rfl, rfl⟩ | exact rfl))
                  clear hK K)))
        refine QC.wpC_nil ?_
        go_wp2
        go_roundg (D - (p + 1))
        case measure => have := HP.out; omega
        case rel => exact ⟨p + 1, _, by have := HLT.out; omega, by go_num, LW9.out⟩
    · obtain rfl : p = D := by have := HP.out; omega
      have now : seqF len S.acts f0 (S.dn.take p) = S.f := by
        have h1 : S.dn.take p = S.dn := by rw [← HD.out]; exact List.take_length
        rw [h1]
        have := ORD.out.now
        rw [HSN.out] at this; exact this
      rw [now] at lw
      obtain ⟨sg2, sc2, hs2⟩ := own_form (lw.owns _ List.mem_cons_self) HL1.out
      have hs2 : s = .slice (some ⟨sg2, 0, none⟩) len sc2 := hs2
      subst hs2
      have LWF := Lib.hid lw
      clear lw now hlt
      go_wp2
      refine QC.wp_region_d [1, 4] [0, 2, 3, 1, 4, 5] (by kernel_rfl) (by kernel_rfl) (fun u d => ?_)
      have lwu := LWF.out.dr d
      have cp := ((lwu.rows _ List.mem_cons_self).cell 0).trans (PV_0 _)
      have BA := Lib.hid (lw_bals lwu)
      rw [HSN.out] at BA
      have BS' := Lib.hid (show S.bals.map (Value.int .u64) = vals len S.f from by unfold vals BS.bals; rw [HSN.out])
      rw [BS'.out] at BA
      clear d lwu LWF
      iterate 3
        (first
         | (apply QC.wpC_load
            (focus rfl)
            (focus decide)
            (focus rfl)
            (focus rfl)
            (focus rfl)
            (focus (assumption))
            (focus (intro u hu; go_simp))
            intro K hK
            go_simp
            refine hK _ ?_
            clear hK K)
         | (apply QC.wpC_pure
            (focus rfl)
            (focus decide)
            intro K hK
            go_simp
            first
             | (refine hK _ ?_; clear hK K)
             | (apply Exists.intro
                refine ⟨fun u => ?_, hK _ ?_⟩
                (focus (unfold QP.oat; go_simp; first | done | exact ⟨rfl, rfl⟩ | exact rfl))
                clear hK K)))
      apply QC.wpC_eff
      (focus rfl)
      (focus decide)
      go_wp2_with fail
      refine (BA.out).mono ?_
      rintro e u2 ⟨g3, rfl, lw8⟩
      have cp2 := ((lw8.rows _ List.mem_cons_self).cell 0).trans (PV_0 (.slice (some ⟨sg2, 0, none⟩) len sc2))
      have SM := Lib.hid (lw_same (m := len) (f := S.f) (a1 := some ⟨g3, 0, none⟩) (c1 := len) (a2 := some ⟨sg2, 0, none⟩) (c2 := sc2) lw8 List.mem_cons_self (List.mem_cons_of_mem _ List.mem_cons_self) (by have := HL2.out; omega))
      clear cp BA lw8
      go_wp2
      refine QC.eff_ok rfl ?_ ?_
      · (repeat (first | exact QC.obl_nil | refine QC.obl_is (by assumption) ?_ | (apply QC.obl_dep; (focus decide))))
      clear cp2
      apply QC.wpC_eff
      (focus rfl)
      (focus decide)
      go_wp2_with fail
      refine (SM.out).mono ?_
      rintro e u3 ⟨rfl, lw9⟩
      have FIN := Lib.hid (fine_of lw9 HN.out)
      clear lw9 SM
      go_wp2
      refine QC.eff_ok rfl ?_ ?_
      · (repeat (first | exact QC.obl_nil | refine QC.obl_is (by assumption) ?_ | (apply QC.obl_dep; (focus decide))))
      iterate 1
        (first
         | (apply QC.wpC_load
            (focus rfl)
            (focus decide)
            (focus rfl)
            (focus rfl)
            (focus rfl)
            (focus (assumption))
            (focus (intro u hu; go_simp))
            intro K hK
            go_simp
            refine hK _ ?_
            clear hK K)
         | (apply QC.wpC_pure
            (focus rfl)
            (focus decide)
            intro K hK
            go_simp
            first
             | (refine hK _ ?_; clear hK K)
             | (apply Exists.intro
                refine ⟨fun u => ?_, hK _ ?_⟩
                (focus (unfold QP.oat; go_simp; first | done | exact ⟨rfl, rfl⟩ | exact rfl))
                clear hK K)))
      refine QC.wpC_nil ?_
      go_wp2
      go_ret
      exact FIN.out
end Go.Proofs.Ytnnnbgndbmcffaa
namespace Go.Proofs.Ytnnnbgndbmcffaa
open Go.RowKit
set_option linter.unusedVariables false

set_option maxRecDepth 100000 in
set_option maxHeartbeats 4000000 in
theorem order_none (pa : Option Addr) (len cap : Nat) (zs : List Int) (A : Option Addr) (m cap2 : Nat)  (w : World) (hu : URow w pa len zs) (hl : len ≤ 40) (hm0 : m ≤ 200) (hn : len < 1 ∨ 32 < len ∨ ¬ zs.sum ≤ Am.mx) :
    Calls Try.prog 19 #[.slice pa len cap, .slice A m cap2] w (Fine w) := by
  obtain ⟨n, hn'⟩ : ∃ n, w.heap.size = n := ⟨_, rfl⟩
  have HN := Lib.hid hn'
  have hub := fun v (hv : Below n w v) => hu.below (hn'.symm ▸ hv : Below w.heap.size w v)
  have pl := fun v (hv : Below n w v) => played_none pa len cap zs (.slice A m cap2) v (hub v hv) hn
  have rn := fun v (hv : Below n w v) => rnew_no pa len cap zs v (hub v hv) (by omega) hn
  have PL := Lib.hid pl; have RN := Lib.hid rn; have SH := Lib.hid (fun v => bshown_any v)
  have dl : decide ((40 : Int) < (len : Int)) = false := by simp; omega
  have d0 : decide ((200 : Int) < (m : Int)) = false := by simp; omega
  have iK : (Try.prog.info? 50).map (·.size) = some ZP.size := by kernel_rfl
  have zK : Try.zeroCells50.size = ZP.size := by decide
  have oK : ZP.all (·.oneCell') = true := by kernel_rfl
  clear pl rn hub hu hl hn hm0
  go_enter Try.func19, Try.ntmps19
  go_wp2_with fail
  refine (SH.out _).mono ?_
  rintro e w1 ⟨rfl, g1⟩
  rw [hn'] at g1
  have B1 := Lib.hid g1
  clear g1
  go_wp2_with fail
  refine (PL.out _ B1.out).mono ?_
  rintro e w2 ⟨rfl, rfl⟩
  go_wp2_with fail
  refine (RN.out _ B1.out).mono ?_
  rintro e w2 ⟨rfl, g2⟩
  have hs1 := B1.out.size
  have B2 := Lib.hid (B1.out.trans (g2.mono (by rw [HN.out] at hs1; exact hs1)))
  have hs2 : n ≤ w2.heap.size := by have := B2.out.size; rw [HN.out] at this; exact this
  obtain ⟨g, hg⟩ : ∃ g, w2.heap.size = g := ⟨_, rfl⟩
  have r1 : M.RowAt (w2.alloc (.cells Try.zeroCells50 50)) g 50 Try.zeroCells50 := hg ▸ M.RowAt.new w2 50 Try.zeroCells50
  have b3 := Lib.hid (M.below_setRow (cs := ZP) (B2.out.alloc hs2 (.cells Try.zeroCells50 50)) (show n ≤ g by omega))
  clear g2 hs1 hs2 hn'
  go_wp2_with (refine wpList_store_row (x := .tmp 7) (y := .tmp 38) (cells := ZP) (old := Try.zeroCells50) (t := 50) (ty := 50) (g := g) ?_ ?_ ?_ ?_ r1 iK zK oK ?_; rfl; rfl; rfl; rfl)
  go_ret
  exact ⟨rfl, by rw [HN.out]; exact b3.out⟩
set_option maxRecDepth 100000 in
theorem order_many (pa : Option Addr) (len cap : Nat) (A : Option Addr) (m cap2 : Nat)  (w : World) (hb : 40 < len ∨ 200 < m) :
    Calls Try.prog 19 #[.slice pa len cap, .slice A m cap2] w (Fine w) := by
  have SH := Lib.hid (fun v => bshown_any v)
  by_cases h0 : 40 < len
  · have dt0 : decide ((40 : Int) < (len : Int)) = true := by simp; omega
    clear hb
    go_enter Try.func19, Try.ntmps19
    go_wp2_with fail
    refine (SH.out _).mono ?_
    rintro e w1 ⟨rfl, g1⟩
    have G1 := Lib.hid g1
    clear g1
    go_wp2
    go_ret
    exact ⟨rfl, G1.out⟩
  · have df0 : decide ((40 : Int) < (len : Int)) = false := by simp; omega
    have dt1 : decide ((200 : Int) < (m : Int)) = true := by simp; omega
    clear hb
    go_enter Try.func19, Try.ntmps19
    go_wp2_with fail
    refine (SH.out _).mono ?_
    rintro e w1 ⟨rfl, g1⟩
    have G1 := Lib.hid g1
    clear g1
    go_wp2
    go_ret
    exact ⟨rfl, G1.out⟩
open Go.ChangeShapes Go.WideShapes in
set_option maxRecDepth 100000 in
theorem walk_ShardOrder {H : Type} {enc : TypeId × Value → H} {W : World} {base : Nat} (b0 : Option Addr) (len0 cap0 : Nat) (z0 : List Int) (w0 : RowK.IsRow .u64 W b0 len0 cap0 z0) (v : Value) (d : DataW H) (p : List MemPlace) (hval : Value.okWide Try.prog W .any base 74 v)
    (h : DataW.Trod enc Try.prog W 0 (fun _ => true) true 74 v d p) : Calls Try.prog 19 #[.slice b0 len0 cap0, v] W (Fine W) := by
  obtain ⟨A, cap, l, rfl, h1, h2, h3, h4⟩ := RowK.sl_of_trod Ac.cells Ac.ok Try.underlying74 (size := 4) (by kernel_rfl) (by decide) act_of_trod84 hval h
  have hu := urow_of w0
  by_cases hm : 40 < len0 ∨ 200 < l.length
  · exact order_many b0 len0 cap0 A l.length cap W hm
  · by_cases hb : len0 < 1 ∨ 32 < len0 ∨ ¬ (z0.take len0).sum ≤ Am.mx
    · exact order_none b0 len0 cap0 _ A l.length cap W hu (by omega) (by omega) hb
    · exact order_walk b0 len0 cap0 _ A cap l W hu (by omega) (by omega) (Decidable.not_not.1 fun h => hb (.inr (.inr h))) h4 h3 (by omega)
end Go.Proofs.Ytnnnbgndbmcffaa
