/- What a field's function does with a writer: it writes its field; the conditions are that the blocks are known, and that the field fits. -/
import Derived.Test.YtiilgkhndfnkgaaWiH
import Derived.Test.YtiilgkhndfnkgaaQuietT
namespace Go.Proofs.Ytiilgkhndfnkgaa
open Go.RowKit Go.Shelf
set_option linter.unusedVariables false

theorem u64_in (x : Int) (h : 0 ≤ x ∧ x ≤ 18446744073709551615) : IntKind.u64.wrap x = x := by
  rw [IntKind.wrap_u64]; omega
theorem must_ok (w : World) : Calls Try.prog 46 #[.int .i64 0] w fun e w' => e = .returned (.tuple #[]) ∧ w = w' := by
  go_enter Try.func46, Try.ntmps46
  go_wp2
  go_end0
  exact ⟨rfl, rfl⟩
/-- what a field's function leaves with a writer -/
def DidW (b p : Nat) (R : Array Value) (s : ByteArray) (W : World) (e : Ending) (W' : World) : Prop := e = .returned (.tuple #[]) ∧ M.RowAt W' b 62 R ∧ M.RowAt W' p 25 #[.string s] ∧ M.But p W W'
theorem row_at {W : World} {p : Nat} {t : TypeId} {s : ByteArray} (h : M.RowAt W p t #[.string s]) : At W ⟨p, 0, none⟩ s := ⟨(h.cell 0).trans rfl, h.frozen 0⟩
theorem row_written {w w' : World} {p : Nat} {t : TypeId} {s u : ByteArray} (h : M.RowAt w p t #[.string s]) (hb : Below w.heap.size (w.setCell ⟨p, 0, none⟩ (.string u)) w') : M.RowAt w' p t #[.string u] := (h.set 0 (.string u)).below hb h.lt
theorem but_written {W W' : World} {p : Nat} {x : Value} (h : Below W.heap.size (W.setCell ⟨p, 0, none⟩ x) W') : M.But p W W' :=
  ((M.But.refl p W).set (p := ⟨p, 0, none⟩) (.inl rfl) x).trans (M.But.ofBelow p (by simpa [World.setCell] using h))
theorem numE_ok {n : Int} {wd : Int} (h1 : 1 ≤ wd) (h8 : wd ≤ 8) (h0 : 0 ≤ n) (h : n < 2 ^ (8 * wd).toNat) : numE n wd = 0 := by
  unfold numE
  rw [if_neg]
  rintro (q | q | q)
  · omega
  · omega
  · exact q (Int.ediv_eq_zero_of_lt h0 h)
set_option maxRecDepth 100000 in
set_option maxHeartbeats 2000000 in
theorem w_id (m : Msg) (h32 : m.hash.length = 32) (a c b p : Nat) (s : ByteArray) (W : World) (ra : M.RowAt W a 97 #[.func (.func 58) #[] #[]]) (rc : M.RowAt W c 3 #[.int .i64 8]) (rb : M.RowAt W b 62 m.row) (hat : M.RowAt W p 25 #[.string s]) (hpb : p ≠ b)
    (hs : s.size ≤ 4611686018427387904) (h0 : 0 ≤ m.id) (hw : m.id ≤ 18446744073709551615) (hf : m.id < 2 ^ (8 * (8 : Int)).toNat) :
    Calls Try.prog 66 #[.agg #[.pointer (some ⟨p, 0, none⟩), .pointer none], .pointer (some ⟨b, 0, none⟩), .pointer (some ⟨a, 0, none⟩), .pointer (some ⟨c, 0, none⟩)] W (DidW b p m.row (s ++ strOfNums (numB m.id 8)) W) := by
  obtain ⟨q, hq⟩ : ∃ q, W.heap.size = q := ⟨_, rfl⟩
  obtain ⟨V, hV⟩ : ∃ V, W.alloc (.cells #[.pointer (some ⟨p, 0, none⟩), .pointer none] 88) = V := ⟨_, rfl⟩
  have rn : M.RowAt V q 88 #[.pointer (some ⟨p, 0, none⟩), .pointer none] := by rw [← hV, ← hq]; exact M.RowAt.new W 88 _
  have ra' : M.RowAt V a 97 #[.func (.func 58) #[] #[]] := by rw [← hV]; exact ra.alloc _
  have rc' : M.RowAt V c 3 #[.int .i64 8] := by rw [← hV]; exact rc.alloc _
  have rb' : M.RowAt V b 62 m.row := by rw [← hV]; exact rb.alloc _
  have bV : M.But p W V := by rw [← hV]; exact (M.But.refl _ _).alloc _
  have atV : M.RowAt V p 25 #[.string s] := by rw [← hV]; exact hat.alloc _
  have a0 := (ra'.cell 0).trans rfl
  have n0 := (rn.cell 0).trans rfl; have n1 := (rn.cell 1).trans rfl
  have c0 := (rc'.cell 0).trans rfl
  have m0 := (rb'.cell 2).trans (Msg.g2)
  have num : ∀ x, x = V.drew → Calls Try.prog 14 #[.pointer (some ⟨p, 0, none⟩), .int .u64 m.id, .int .i64 8] x fun e x' => e = .returned (.int .i64 0) ∧ DidW b p m.row (s ++ strOfNums (numB m.id 8)) W (.returned (.tuple #[])) x' := by
    rintro x rfl
    refine (number_any m.id 8 ⟨p, 0, none⟩ s V.drew h0 hw hs (row_at atV.drew)).mono ?_
    rintro e x' ⟨rfl, hb⟩
    rw [numE_ok (by decide) (by decide) h0 hf]
    have hbut := but_written hb
    exact ⟨rfl, rfl, hbut.row rb'.drew (fun e => hpb e.symm), row_written atV.drew hb, bV.trans ((M.But.refl p V).drew.trans hbut)⟩
  have mu := fun x => must_ok x
  have HQ := Lib.hid hq; have HV := Lib.hid hV; have NUM := Lib.hid num; have MU := Lib.hid mu
  obtain ⟨U, hU⟩ : ∃ U, V.drew = U := ⟨_, rfl⟩
  have u0 : U.cell? ⟨q, 0, none⟩ = some (.pointer (some ⟨p, 0, none⟩)) := by rw [← hU]; exact n0
  have u1 : U.cell? ⟨b, 2, none⟩ = some (.int .u64 m.id) := by rw [← hU]; exact m0
  have u2 : U.cell? ⟨c, 0, none⟩ = some (.int .i64 8) := by rw [← hU]; exact c0
  rw [hU] at NUM
  have HU := Lib.hid hU
  generalize DidW b p m.row (s ++ strOfNums (numB m.id 8)) W = DD at *
  clear hq hV rn ra' rc' rb' bV ra rc rb hat atV num mu hU hw hf h0
  go_enter Try.func66, Try.ntmps66
  go_wp2_with (first | (rw [HQ.out, HV.out]) | go_in)
  refine QT.wp_region_p 6 (fun x => x = U) (fun x => DD (.returned (.tuple #[])) x) (by kernel_rfl) (by kernel_rfl) HU.out ?_
  iterate 8
    (refine QT.wpQ_step (fun K hK => ?_)
     go_simp
     first
       | (refine hK _ ?_; clear hK K)
       | (refine ⟨?_, hK _ ?_⟩; decide; clear hK K)
       | ((first | (apply Exists.intro; refine ⟨?_, hK _ ?_⟩) | refine ⟨⟨undef, ?_⟩, hK _ ?_⟩)
          first
            | (apply QT.al_p; decide; (focus (intro wq hq; (first | (have e := hq; simp only at e; subst e) | skip); first | (fail) | (unfold QP.oat; go_simp; first | done | exact ⟨by assumption, rfl⟩ | exact rfl | assumption | (first | ((with_reducible refine (NUM.out _ rfl).mono ?_); rintro e w' ⟨rfl, h'⟩; exact ⟨rfl, h'⟩) | ((with_reducible refine (MU.out _).mono ?_); rintro e w' ⟨rfl, rfl⟩; exact ⟨rfl, hq⟩))))))
            | (apply QT.al_dep; decide; decide; (focus (intro wq hq; (first | (have e := hq; simp only at e; subst e) | skip); first | (fail) | (unfold QP.oat; go_simp; first | done | exact ⟨by assumption, rfl⟩ | exact rfl | assumption | (first | ((with_reducible refine (NUM.out _ rfl).mono ?_); rintro e w' ⟨rfl, h'⟩; exact ⟨rfl, h'⟩) | ((with_reducible refine (MU.out _).mono ?_); rintro e w' ⟨rfl, rfl⟩; exact ⟨rfl, hq⟩))))))
            | (apply QT.al_bef; decide; decide; (focus (intro wq hq; (first | (have e := hq; simp only at e; subst e) | skip); first | (fail) | (unfold QP.oat; go_simp; first | done | exact ⟨by assumption, rfl⟩ | exact rfl | assumption | (first | ((with_reducible refine (NUM.out _ rfl).mono ?_); rintro e w' ⟨rfl, h'⟩; exact ⟨rfl, h'⟩) | ((with_reducible refine (MU.out _).mono ?_); rintro e w' ⟨rfl, rfl⟩; exact ⟨rfl, hq⟩))))))
            | (apply QT.al_ok; decide; (focus (intro wq hq; (first | (have e := hq; simp only at e; subst e) | skip); first | (fail) | (unfold QP.oat; go_simp; first | done | exact ⟨by assumption, rfl⟩ | exact rfl | assumption | (first | ((with_reducible refine (NUM.out _ rfl).mono ?_); rintro e w' ⟨rfl, h'⟩; exact ⟨rfl, h'⟩) | ((with_reducible refine (MU.out _).mono ?_); rintro e w' ⟨rfl, rfl⟩; exact ⟨rfl, hq⟩))))); (focus (intro wq hq; (first | (have e := hq; simp only at e; subst e) | skip); first | (fail) | (unfold QP.oat; go_simp; first | done | exact ⟨by assumption, rfl⟩ | exact rfl | assumption | (first | ((with_reducible refine (NUM.out _ rfl).mono ?_); rintro e w' ⟨rfl, h'⟩; exact ⟨rfl, h'⟩) | ((with_reducible refine (MU.out _).mono ?_); rintro e w' ⟨rfl, rfl⟩; exact ⟨rfl, hq⟩))))))
          clear hK K))
  refine QT.wpQ_nil ?_
  intro wz bz
  go_wp2
  go_end0
  exact bz
set_option maxRecDepth 100000 in
set_option maxHeartbeats 2000000 in
theorem w_amount (m : Msg) (h32 : m.hash.length = 32) (a c b p : Nat) (s : ByteArray) (W : World) (ra : M.RowAt W a 97 #[.func (.func 59) #[] #[]]) (rc : M.RowAt W c 3 #[.int .i64 8]) (rb : M.RowAt W b 62 m.row) (hat : M.RowAt W p 25 #[.string s]) (hpb : p ≠ b)
    (hs : s.size ≤ 4611686018427387904) (h0 : 0 ≤ m.amount) (hw : m.amount ≤ 18446744073709551615) (hf : m.amount < 2 ^ (8 * (8 : Int)).toNat) :
    Calls Try.prog 66 #[.agg #[.pointer (some ⟨p, 0, none⟩), .pointer none], .pointer (some ⟨b, 0, none⟩), .pointer (some ⟨a, 0, none⟩), .pointer (some ⟨c, 0, none⟩)] W (DidW b p m.row (s ++ strOfNums (numB m.amount 8)) W) := by
  obtain ⟨q, hq⟩ : ∃ q, W.heap.size = q := ⟨_, rfl⟩
  obtain ⟨V, hV⟩ : ∃ V, W.alloc (.cells #[.pointer (some ⟨p, 0, none⟩), .pointer none] 88) = V := ⟨_, rfl⟩
  have rn : M.RowAt V q 88 #[.pointer (some ⟨p, 0, none⟩), .pointer none] := by rw [← hV, ← hq]; exact M.RowAt.new W 88 _
  have ra' : M.RowAt V a 97 #[.func (.func 59) #[] #[]] := by rw [← hV]; exact ra.alloc _
  have rc' : M.RowAt V c 3 #[.int .i64 8] := by rw [← hV]; exact rc.alloc _
  have rb' : M.RowAt V b 62 m.row := by rw [← hV]; exact rb.alloc _
  have bV : M.But p W V := by rw [← hV]; exact (M.But.refl _ _).alloc _
  have atV : M.RowAt V p 25 #[.string s] := by rw [← hV]; exact hat.alloc _
  have a0 := (ra'.cell 0).trans rfl
  have n0 := (rn.cell 0).trans rfl; have n1 := (rn.cell 1).trans rfl
  have c0 := (rc'.cell 0).trans rfl
  have m0 := (rb'.cell 3).trans (Msg.g3)
  have num : ∀ x, x = V.drew → Calls Try.prog 14 #[.pointer (some ⟨p, 0, none⟩), .int .u64 m.amount, .int .i64 8] x fun e x' => e = .returned (.int .i64 0) ∧ DidW b p m.row (s ++ strOfNums (numB m.amount 8)) W (.returned (.tuple #[])) x' := by
    rintro x rfl
    refine (number_any m.amount 8 ⟨p, 0, none⟩ s V.drew h0 hw hs (row_at atV.drew)).mono ?_
    rintro e x' ⟨rfl, hb⟩
    rw [numE_ok (by decide) (by decide) h0 hf]
    have hbut := but_written hb
    exact ⟨rfl, rfl, hbut.row rb'.drew (fun e => hpb e.symm), row_written atV.drew hb, bV.trans ((M.But.refl p V).drew.trans hbut)⟩
  have mu := fun x => must_ok x
  have HQ := Lib.hid hq; have HV := Lib.hid hV; have NUM := Lib.hid num; have MU := Lib.hid mu
  obtain ⟨U, hU⟩ : ∃ U, V.drew = U := ⟨_, rfl⟩
  have u0 : U.cell? ⟨q, 0, none⟩ = some (.pointer (some ⟨p, 0, none⟩)) := by rw [← hU]; exact n0
  have u1 : U.cell? ⟨b, 3, none⟩ = some (.int .u64 m.amount) := by rw [← hU]; exact m0
  have u2 : U.cell? ⟨c, 0, none⟩ = some (.int .i64 8) := by rw [← hU]; exact c0
  rw [hU] at NUM
  have HU := Lib.hid hU
  generalize DidW b p m.row (s ++ strOfNums (numB m.amount 8)) W = DD at *
  clear hq hV rn ra' rc' rb' bV ra rc rb hat atV num mu hU hw hf h0
  go_enter Try.func66, Try.ntmps66
  go_wp2_with (first | (rw [HQ.out, HV.out]) | go_in)
  refine QT.wp_region_p 6 (fun x => x = U) (fun x => DD (.returned (.tuple #[])) x) (by kernel_rfl) (by kernel_rfl) HU.out ?_
  iterate 8
    (refine QT.wpQ_step (fun K hK => ?_)
     go_simp
     first
       | (refine hK _ ?_; clear hK K)
       | (refine ⟨?_, hK _ ?_⟩; decide; clear hK K)
       | ((first | (apply Exists.intro; refine ⟨?_, hK _ ?_⟩) | refine ⟨⟨undef, ?_⟩, hK _ ?_⟩)
          first
            | (apply QT.al_p; decide; (focus (intro wq hq; (first | (have e := hq; simp only at e; subst e) | skip); first | (fail) | (unfold QP.oat; go_simp; first | done | exact ⟨by assumption, rfl⟩ | exact rfl | assumption | (first | ((with_reducible refine (NUM.out _ rfl).mono ?_); rintro e w' ⟨rfl, h'⟩; exact ⟨rfl, h'⟩) | ((with_reducible refine (MU.out _).mono ?_); rintro e w' ⟨rfl, rfl⟩; exact ⟨rfl, hq⟩))))))
            | (apply QT.al_dep; decide; decide; (focus (intro wq hq; (first | (have e := hq; simp only at e; subst e) | skip); first | (fail) | (unfold QP.oat; go_simp; first | done | exact ⟨by assumption, rfl⟩ | exact rfl | assumption | (first | ((with_reducible refine (NUM.out _ rfl).mono ?_); rintro e w' ⟨rfl, h'⟩; exact ⟨rfl, h'⟩) | ((with_reducible refine (MU.out _).mono ?_); rintro e w' ⟨rfl, rfl⟩; exact ⟨rfl, hq⟩))))))
            | (apply QT.al_bef; decide; decide; (focus (intro wq hq; (first | (have e := hq; simp only at e; subst e) | skip); first | (fail) | (unfold QP.oat; go_simp; first | done | exact ⟨by assumption, rfl⟩ | exact rfl | assumption | (first | ((with_reducible refine (NUM.out _ rfl).mono ?_); rintro e w' ⟨rfl, h'⟩; exact ⟨rfl, h'⟩) | ((with_reducible refine (MU.out _).mono ?_); rintro e w' ⟨rfl, rfl⟩; exact ⟨rfl, hq⟩))))))
            | (apply QT.al_ok; decide; (focus (intro wq hq; (first | (have e := hq; simp only at e; subst e) | skip); first | (fail) | (unfold QP.oat; go_simp; first | done | exact ⟨by assumption, rfl⟩ | exact rfl | assumption | (first | ((with_reducible refine (NUM.out _ rfl).mono ?_); rintro e w' ⟨rfl, h'⟩; exact ⟨rfl, h'⟩) | ((with_reducible refine (MU.out _).mono ?_); rintro e w' ⟨rfl, rfl⟩; exact ⟨rfl, hq⟩))))); (focus (intro wq hq; (first | (have e := hq; simp only at e; subst e) | skip); first | (fail) | (unfold QP.oat; go_simp; first | done | exact ⟨by assumption, rfl⟩ | exact rfl | assumption | (first | ((with_reducible refine (NUM.out _ rfl).mono ?_); rintro e w' ⟨rfl, h'⟩; exact ⟨rfl, h'⟩) | ((with_reducible refine (MU.out _).mono ?_); rintro e w' ⟨rfl, rfl⟩; exact ⟨rfl, hq⟩))))))
          clear hK K))
  refine QT.wpQ_nil ?_
  intro wz bz
  go_wp2
  go_end0
  exact bz
set_option maxRecDepth 100000 in
set_option maxHeartbeats 2000000 in
theorem w_expiry (m : Msg) (h32 : m.hash.length = 32) (a c b p : Nat) (s : ByteArray) (W : World) (ra : M.RowAt W a 100 #[.func (.func 61) #[] #[]]) (rc : M.RowAt W c 3 #[.int .i64 4]) (rb : M.RowAt W b 62 m.row) (hat : M.RowAt W p 25 #[.string s]) (hpb : p ≠ b)
    (hs : s.size ≤ 4611686018427387904) (h0 : 0 ≤ m.expiry) (hw : m.expiry ≤ 18446744073709551615) (hf : m.expiry < 2 ^ (8 * (4 : Int)).toNat) :
    Calls Try.prog 67 #[.agg #[.pointer (some ⟨p, 0, none⟩), .pointer none], .pointer (some ⟨b, 0, none⟩), .pointer (some ⟨a, 0, none⟩), .pointer (some ⟨c, 0, none⟩)] W (DidW b p m.row (s ++ strOfNums (numB m.expiry 4)) W) := by
  obtain ⟨q, hq⟩ : ∃ q, W.heap.size = q := ⟨_, rfl⟩
  obtain ⟨V, hV⟩ : ∃ V, W.alloc (.cells #[.pointer (some ⟨p, 0, none⟩), .pointer none] 88) = V := ⟨_, rfl⟩
  have rn : M.RowAt V q 88 #[.pointer (some ⟨p, 0, none⟩), .pointer none] := by rw [← hV, ← hq]; exact M.RowAt.new W 88 _
  have ra' : M.RowAt V a 100 #[.func (.func 61) #[] #[]] := by rw [← hV]; exact ra.alloc _
  have rc' : M.RowAt V c 3 #[.int .i64 4] := by rw [← hV]; exact rc.alloc _
  have rb' : M.RowAt V b 62 m.row := by rw [← hV]; exact rb.alloc _
  have bV : M.But p W V := by rw [← hV]; exact (M.But.refl _ _).alloc _
  have atV : M.RowAt V p 25 #[.string s] := by rw [← hV]; exact hat.alloc _
  have a0 := (ra'.cell 0).trans rfl
  have n0 := (rn.cell 0).trans rfl; have n1 := (rn.cell 1).trans rfl
  have c0 := (rc'.cell 0).trans rfl
  have m0 := (rb'.cell 36).trans (Msg.g36 h32)
  have num : ∀ x, x = V.drew → Calls Try.prog 14 #[.pointer (some ⟨p, 0, none⟩), .int .u64 m.expiry, .int .i64 4] x fun e x' => e = .returned (.int .i64 0) ∧ DidW b p m.row (s ++ strOfNums (numB m.expiry 4)) W (.returned (.tuple #[])) x' := by
    rintro x rfl
    refine (number_any m.expiry 4 ⟨p, 0, none⟩ s V.drew h0 hw hs (row_at atV.drew)).mono ?_
    rintro e x' ⟨rfl, hb⟩
    rw [numE_ok (by decide) (by decide) h0 hf]
    have hbut := but_written hb
    exact ⟨rfl, rfl, hbut.row rb'.drew (fun e => hpb e.symm), row_written atV.drew hb, bV.trans ((M.But.refl p V).drew.trans hbut)⟩
  have mu := fun x => must_ok x
  have cw : IntKind.u64.wrap m.expiry = m.expiry := u64_in _ (by omega)
  have HQ := Lib.hid hq; have HV := Lib.hid hV; have NUM := Lib.hid num; have MU := Lib.hid mu
  obtain ⟨U, hU⟩ : ∃ U, V.drew = U := ⟨_, rfl⟩
  have u0 : U.cell? ⟨q, 0, none⟩ = some (.pointer (some ⟨p, 0, none⟩)) := by rw [← hU]; exact n0
  have u1 : U.cell? ⟨b, 36, none⟩ = some (.int .i64 m.expiry) := by rw [← hU]; exact m0
  have u2 : U.cell? ⟨c, 0, none⟩ = some (.int .i64 4) := by rw [← hU]; exact c0
  rw [hU] at NUM
  have HU := Lib.hid hU
  generalize DidW b p m.row (s ++ strOfNums (numB m.expiry 4)) W = DD at *
  clear hq hV rn ra' rc' rb' bV ra rc rb hat atV num mu hU hw hf h0
  go_enter Try.func67, Try.ntmps67
  go_wp2_with (first | (rw [HQ.out, HV.out]) | go_in)
  refine QT.wp_region_p 7 (fun x => x = U) (fun x => DD (.returned (.tuple #[])) x) (by kernel_rfl) (by kernel_rfl) HU.out ?_
  iterate 9
    (refine QT.wpQ_step (fun K hK => ?_)
     go_simp
     first
       | (refine hK _ ?_; clear hK K)
       | (refine ⟨?_, hK _ ?_⟩; decide; clear hK K)
       | ((first | (apply Exists.intro; refine ⟨?_, hK _ ?_⟩) | refine ⟨⟨undef, ?_⟩, hK _ ?_⟩)
          first
            | (apply QT.al_p; decide; (focus (intro wq hq; (first | (have e := hq; simp only at e; subst e) | skip); first | (fail) | (unfold QP.oat; go_simp; first | done | exact ⟨by assumption, rfl⟩ | exact rfl | assumption | (first | ((with_reducible refine (NUM.out _ rfl).mono ?_); rintro e w' ⟨rfl, h'⟩; exact ⟨rfl, h'⟩) | ((with_reducible refine (MU.out _).mono ?_); rintro e w' ⟨rfl, rfl⟩; exact ⟨rfl, hq⟩))))))
            | (apply QT.al_dep; decide; decide; (focus (intro wq hq; (first | (have e := hq; simp only at e; subst e) | skip); first | (fail) | (unfold QP.oat; go_simp; first | done | exact ⟨by assumption, rfl⟩ | exact rfl | assumption | (first | ((with_reducible refine (NUM.out _ rfl).mono ?_); rintro e w' ⟨rfl, h'⟩; exact ⟨rfl, h'⟩) | ((with_reducible refine (MU.out _).mono ?_); rintro e w' ⟨rfl, rfl⟩; exact ⟨rfl, hq⟩))))))
            | (apply QT.al_bef; decide; decide; (focus (intro wq hq; (first | (have e := hq; simp only at e; subst e) | skip); first | (fail) | (unfold QP.oat; go_simp; first | done | exact ⟨by assumption, rfl⟩ | exact rfl | assumption | (first | ((with_reducible refine (NUM.out _ rfl).mono ?_); rintro e w' ⟨rfl, h'⟩; exact ⟨rfl, h'⟩) | ((with_reducible refine (MU.out _).mono ?_); rintro e w' ⟨rfl, rfl⟩; exact ⟨rfl, hq⟩))))))
            | (apply QT.al_ok; decide; (focus (intro wq hq; (first | (have e := hq; simp only at e; subst e) | skip); first | (fail) | (unfold QP.oat; go_simp; first | done | exact ⟨by assumption, rfl⟩ | exact rfl | assumption | (first | ((with_reducible refine (NUM.out _ rfl).mono ?_); rintro e w' ⟨rfl, h'⟩; exact ⟨rfl, h'⟩) | ((with_reducible refine (MU.out _).mono ?_); rintro e w' ⟨rfl, rfl⟩; exact ⟨rfl, hq⟩))))); (focus (intro wq hq; (first | (have e := hq; simp only at e; subst e) | skip); first | (fail) | (unfold QP.oat; go_simp; first | done | exact ⟨by assumption, rfl⟩ | exact rfl | assumption | (first | ((with_reducible refine (NUM.out _ rfl).mono ?_); rintro e w' ⟨rfl, h'⟩; exact ⟨rfl, h'⟩) | ((with_reducible refine (MU.out _).mono ?_); rintro e w' ⟨rfl, rfl⟩; exact ⟨rfl, hq⟩))))))
          clear hK K))
  refine QT.wpQ_nil ?_
  intro wz bz
  go_wp2
  go_end0
  exact bz
set_option maxRecDepth 100000 in
set_option maxHeartbeats 2000000 in
theorem w_number (m : Msg) (h32 : m.hash.length = 32) (a c b p : Nat) (s : ByteArray) (W : World) (ra : M.RowAt W a 100 #[.func (.func 62) #[] #[]]) (rc : M.RowAt W c 3 #[.int .i64 2]) (rb : M.RowAt W b 62 m.row) (hat : M.RowAt W p 25 #[.string s]) (hpb : p ≠ b)
    (hs : s.size ≤ 4611686018427387904) (h0 : 0 ≤ m.number) (hw : m.number ≤ 18446744073709551615) (hf : m.number < 2 ^ (8 * (2 : Int)).toNat) :
    Calls Try.prog 67 #[.agg #[.pointer (some ⟨p, 0, none⟩), .pointer none], .pointer (some ⟨b, 0, none⟩), .pointer (some ⟨a, 0, none⟩), .pointer (some ⟨c, 0, none⟩)] W (DidW b p m.row (s ++ strOfNums (numB m.number 2)) W) := by
  obtain ⟨q, hq⟩ : ∃ q, W.heap.size = q := ⟨_, rfl⟩
  obtain ⟨V, hV⟩ : ∃ V, W.alloc (.cells #[.pointer (some ⟨p, 0, none⟩), .pointer none] 88) = V := ⟨_, rfl⟩
  have rn : M.RowAt V q 88 #[.pointer (some ⟨p, 0, none⟩), .pointer none] := by rw [← hV, ← hq]; exact M.RowAt.new W 88 _
  have ra' : M.RowAt V a 100 #[.func (.func 62) #[] #[]] := by rw [← hV]; exact ra.alloc _
  have rc' : M.RowAt V c 3 #[.int .i64 2] := by rw [← hV]; exact rc.alloc _
  have rb' : M.RowAt V b 62 m.row := by rw [← hV]; exact rb.alloc _
  have bV : M.But p W V := by rw [← hV]; exact (M.But.refl _ _).alloc _
  have atV : M.RowAt V p 25 #[.string s] := by rw [← hV]; exact hat.alloc _
  have a0 := (ra'.cell 0).trans rfl
  have n0 := (rn.cell 0).trans rfl; have n1 := (rn.cell 1).trans rfl
  have c0 := (rc'.cell 0).trans rfl
  have m0 := (rb'.cell 37).trans (Msg.g37 h32)
  have num : ∀ x, x = V.drew → Calls Try.prog 14 #[.pointer (some ⟨p, 0, none⟩), .int .u64 m.number, .int .i64 2] x fun e x' => e = .returned (.int .i64 0) ∧ DidW b p m.row (s ++ strOfNums (numB m.number 2)) W (.returned (.tuple #[])) x' := by
    rintro x rfl
    refine (number_any m.number 2 ⟨p, 0, none⟩ s V.drew h0 hw hs (row_at atV.drew)).mono ?_
    rintro e x' ⟨rfl, hb⟩
    rw [numE_ok (by decide) (by decide) h0 hf]
    have hbut := but_written hb
    exact ⟨rfl, rfl, hbut.row rb'.drew (fun e => hpb e.symm), row_written atV.drew hb, bV.trans ((M.But.refl p V).drew.trans hbut)⟩
  have mu := fun x => must_ok x
  have cw : IntKind.u64.wrap m.number = m.number := u64_in _ (by omega)
  have HQ := Lib.hid hq; have HV := Lib.hid hV; have NUM := Lib.hid num; have MU := Lib.hid mu
  obtain ⟨U, hU⟩ : ∃ U, V.drew = U := ⟨_, rfl⟩
  have u0 : U.cell? ⟨q, 0, none⟩ = some (.pointer (some ⟨p, 0, none⟩)) := by rw [← hU]; exact n0
  have u1 : U.cell? ⟨b, 37, none⟩ = some (.int .i64 m.number) := by rw [← hU]; exact m0
  have u2 : U.cell? ⟨c, 0, none⟩ = some (.int .i64 2) := by rw [← hU]; exact c0
  rw [hU] at NUM
  have HU := Lib.hid hU
  generalize DidW b p m.row (s ++ strOfNums (numB m.number 2)) W = DD at *
  clear hq hV rn ra' rc' rb' bV ra rc rb hat atV num mu hU hw hf h0
  go_enter Try.func67, Try.ntmps67
  go_wp2_with (first | (rw [HQ.out, HV.out]) | go_in)
  refine QT.wp_region_p 7 (fun x => x = U) (fun x => DD (.returned (.tuple #[])) x) (by kernel_rfl) (by kernel_rfl) HU.out ?_
  iterate 9
    (refine QT.wpQ_step (fun K hK => ?_)
     go_simp
     first
       | (refine hK _ ?_; clear hK K)
       | (refine ⟨?_, hK _ ?_⟩; decide; clear hK K)
       | ((first | (apply Exists.intro; refine ⟨?_, hK _ ?_⟩) | refine ⟨⟨undef, ?_⟩, hK _ ?_⟩)
          first
            | (apply QT.al_p; decide; (focus (intro wq hq; (first | (have e := hq; simp only at e; subst e) | skip); first | (fail) | (unfold QP.oat; go_simp; first | done | exact ⟨by assumption, rfl⟩ | exact rfl | assumption | (first | ((with_reducible refine (NUM.out _ rfl).mono ?_); rintro e w' ⟨rfl, h'⟩; exact ⟨rfl, h'⟩) | ((with_reducible refine (MU.out _).mono ?_); rintro e w' ⟨rfl, rfl⟩; exact ⟨rfl, hq⟩))))))
            | (apply QT.al_dep; decide; decide; (focus (intro wq hq; (first | (have e := hq; simp only at e; subst e) | skip); first | (fail) | (unfold QP.oat; go_simp; first | done | exact ⟨by assumption, rfl⟩ | exact rfl | assumption | (first | ((with_reducible refine (NUM.out _ rfl).mono ?_); rintro e w' ⟨rfl, h'⟩; exact ⟨rfl, h'⟩) | ((with_reducible refine (MU.out _).mono ?_); rintro e w' ⟨rfl, rfl⟩; exact ⟨rfl, hq⟩))))))
            | (apply QT.al_bef; decide; decide; (focus (intro wq hq; (first | (have e := hq; simp only at e; subst e) | skip); first | (fail) | (unfold QP.oat; go_simp; first | done | exact ⟨by assumption, rfl⟩ | exact rfl | assumption | (first | ((with_reducible refine (NUM.out _ rfl).mono ?_); rintro e w' ⟨rfl, h'⟩; exact ⟨rfl, h'⟩) | ((with_reducible refine (MU.out _).mono ?_); rintro e w' ⟨rfl, rfl⟩; exact ⟨rfl, hq⟩))))))
            | (apply QT.al_ok; decide; (focus (intro wq hq; (first | (have e := hq; simp only at e; subst e) | skip); first | (fail) | (unfold QP.oat; go_simp; first | done | exact ⟨by assumption, rfl⟩ | exact rfl | assumption | (first | ((with_reducible refine (NUM.out _ rfl).mono ?_); rintro e w' ⟨rfl, h'⟩; exact ⟨rfl, h'⟩) | ((with_reducible refine (MU.out _).mono ?_); rintro e w' ⟨rfl, rfl⟩; exact ⟨rfl, hq⟩))))); (focus (intro wq hq; (first | (have e := hq; simp only at e; subst e) | skip); first | (fail) | (unfold QP.oat; go_simp; first | done | exact ⟨by assumption, rfl⟩ | exact rfl | assumption | (first | ((with_reducible refine (NUM.out _ rfl).mono ?_); rintro e w' ⟨rfl, h'⟩; exact ⟨rfl, h'⟩) | ((with_reducible refine (MU.out _).mono ?_); rintro e w' ⟨rfl, rfl⟩; exact ⟨rfl, hq⟩))))))
          clear hK K))
  refine QT.wpQ_nil ?_
  intro wz bz
  go_wp2
  go_end0
  exact bz
set_option maxRecDepth 100000 in
set_option maxHeartbeats 2000000 in
theorem w_chan (m : Msg) (h32 : m.hash.length = 32) (a c b p : Nat) (s : ByteArray) (W : World) (ra : M.RowAt W a 108 #[.func (.func 69) #[] #[]]) (rc : M.RowAt W c 3 #[.int .i64 4]) (rb : M.RowAt W b 62 m.row) (hat : M.RowAt W p 25 #[.string s]) (hpb : p ≠ b)
    (hs : s.size ≤ 4611686018427387904) (h0 : 0 ≤ m.chan) (hw : m.chan ≤ 18446744073709551615) (hf : m.chan < 2 ^ (8 * (4 : Int)).toNat) :
    Calls Try.prog 70 #[.agg #[.pointer (some ⟨p, 0, none⟩), .pointer none], .pointer (some ⟨b, 0, none⟩), .pointer (some ⟨a, 0, none⟩), .pointer (some ⟨c, 0, none⟩)] W (DidW b p m.row (s ++ strOfNums (numB m.chan 4)) W) := by
  obtain ⟨q, hq⟩ : ∃ q, W.heap.size = q := ⟨_, rfl⟩
  obtain ⟨V, hV⟩ : ∃ V, W.alloc (.cells #[.pointer (some ⟨p, 0, none⟩), .pointer none] 88) = V := ⟨_, rfl⟩
  have rn : M.RowAt V q 88 #[.pointer (some ⟨p, 0, none⟩), .pointer none] := by rw [← hV, ← hq]; exact M.RowAt.new W 88 _
  have ra' : M.RowAt V a 108 #[.func (.func 69) #[] #[]] := by rw [← hV]; exact ra.alloc _
  have rc' : M.RowAt V c 3 #[.int .i64 4] := by rw [← hV]; exact rc.alloc _
  have rb' : M.RowAt V b 62 m.row := by rw [← hV]; exact rb.alloc _
  have bV : M.But p W V := by rw [← hV]; exact (M.But.refl _ _).alloc _
  have atV : M.RowAt V p 25 #[.string s] := by rw [← hV]; exact hat.alloc _
  have a0 := (ra'.cell 0).trans rfl
  have n0 := (rn.cell 0).trans rfl; have n1 := (rn.cell 1).trans rfl
  have c0 := (rc'.cell 0).trans rfl
  have m0 := (rb'.cell 1).trans (Msg.g1)
  have num : ∀ x, x = V.drew → Calls Try.prog 14 #[.pointer (some ⟨p, 0, none⟩), .int .u64 m.chan, .int .i64 4] x fun e x' => e = .returned (.int .i64 0) ∧ DidW b p m.row (s ++ strOfNums (numB m.chan 4)) W (.returned (.tuple #[])) x' := by
    rintro x rfl
    refine (number_any m.chan 4 ⟨p, 0, none⟩ s V.drew h0 hw hs (row_at atV.drew)).mono ?_
    rintro e x' ⟨rfl, hb⟩
    rw [numE_ok (by decide) (by decide) h0 hf]
    have hbut := but_written hb
    exact ⟨rfl, rfl, hbut.row rb'.drew (fun e => hpb e.symm), row_written atV.drew hb, bV.trans ((M.But.refl p V).drew.trans hbut)⟩
  have mu := fun x => must_ok x
  have cw : IntKind.u64.wrap m.chan = m.chan := u64_in _ (by omega)
  have HQ := Lib.hid hq; have HV := Lib.hid hV; have NUM := Lib.hid num; have MU := Lib.hid mu
  obtain ⟨U, hU⟩ : ∃ U, V.drew = U := ⟨_, rfl⟩
  have u0 : U.cell? ⟨q, 0, none⟩ = some (.pointer (some ⟨p, 0, none⟩)) := by rw [← hU]; exact n0
  have u1 : U.cell? ⟨b, 1, none⟩ = some (.int .u32 m.chan) := by rw [← hU]; exact m0
  have u2 : U.cell? ⟨c, 0, none⟩ = some (.int .i64 4) := by rw [← hU]; exact c0
  rw [hU] at NUM
  have HU := Lib.hid hU
  generalize DidW b p m.row (s ++ strOfNums (numB m.chan 4)) W = DD at *
  clear hq hV rn ra' rc' rb' bV ra rc rb hat atV num mu hU hw hf h0
  go_enter Try.func70, Try.ntmps70
  go_wp2_with (first | (rw [HQ.out, HV.out]) | go_in)
  refine QT.wp_region_p 7 (fun x => x = U) (fun x => DD (.returned (.tuple #[])) x) (by kernel_rfl) (by kernel_rfl) HU.out ?_
  iterate 9
    (refine QT.wpQ_step (fun K hK => ?_)
     go_simp
     first
       | (refine hK _ ?_; clear hK K)
       | (refine ⟨?_, hK _ ?_⟩; decide; clear hK K)
       | ((first | (apply Exists.intro; refine ⟨?_, hK _ ?_⟩) | refine ⟨⟨undef, ?_⟩, hK _ ?_⟩)
          first
            | (apply QT.al_p; decide; (focus (intro wq hq; (first | (have e := hq; simp only at e; subst e) | skip); first | (fail) | (unfold QP.oat; go_simp; first | done | exact ⟨by assumption, rfl⟩ | exact rfl | assumption | (first | ((with_reducible refine (NUM.out _ rfl).mono ?_); rintro e w' ⟨rfl, h'⟩; exact ⟨rfl, h'⟩) | ((with_reducible refine (MU.out _).mono ?_); rintro e w' ⟨rfl, rfl⟩; exact ⟨rfl, hq⟩))))))
            | (apply QT.al_dep; decide; decide; (focus (intro wq hq; (first | (have e := hq; simp only at e; subst e) | skip); first | (fail) | (unfold QP.oat; go_simp; first | done | exact ⟨by assumption, rfl⟩ | exact rfl | assumption | (first | ((with_reducible refine (NUM.out _ rfl).mono ?_); rintro e w' ⟨rfl, h'⟩; exact ⟨rfl, h'⟩) | ((with_reducible refine (MU.out _).mono ?_); rintro e w' ⟨rfl, rfl⟩; exact ⟨rfl, hq⟩))))))
            | (apply QT.al_bef; decide; decide; (focus (intro wq hq; (first | (have e := hq; simp only at e; subst e) | skip); first | (fail) | (unfold QP.oat; go_simp; first | done | exact ⟨by assumption, rfl⟩ | exact rfl | assumption | (first | ((with_reducible refine (NUM.out _ rfl).mono ?_); rintro e w' ⟨rfl, h'⟩; exact ⟨rfl, h'⟩) | ((with_reducible refine (MU.out _).mono ?_); rintro e w' ⟨rfl, rfl⟩; exact ⟨rfl, hq⟩))))))
            | (apply QT.al_ok; decide; (focus (intro wq hq; (first | (have e := hq; simp only at e; subst e) | skip); first | (fail) | (unfold QP.oat; go_simp; first | done | exact ⟨by assumption, rfl⟩ | exact rfl | assumption | (first | ((with_reducible refine (NUM.out _ rfl).mono ?_); rintro e w' ⟨rfl, h'⟩; exact ⟨rfl, h'⟩) | ((with_reducible refine (MU.out _).mono ?_); rintro e w' ⟨rfl, rfl⟩; exact ⟨rfl, hq⟩))))); (focus (intro wq hq; (first | (have e := hq; simp only at e; subst e) | skip); first | (fail) | (unfold QP.oat; go_simp; first | done | exact ⟨by assumption, rfl⟩ | exact rfl | assumption | (first | ((with_reducible refine (NUM.out _ rfl).mono ?_); rintro e w' ⟨rfl, h'⟩; exact ⟨rfl, h'⟩) | ((with_reducible refine (MU.out _).mono ?_); rintro e w' ⟨rfl, rfl⟩; exact ⟨rfl, hq⟩))))))
          clear hK K))
  refine QT.wpQ_nil ?_
  intro wz bz
  go_wp2
  go_end0
  exact bz
set_option maxRecDepth 100000 in
set_option maxHeartbeats 2000000 in
theorem w_hash (m : Msg) (h32 : m.hash.length = 32) (b p : Nat) (s : ByteArray) (W : World) (rb : M.RowAt W b 62 m.row) (hat : M.RowAt W p 25 #[.string s]) (hpb : p ≠ b) (hs : s.size ≤ 4611686018427387904) :
    Calls Try.prog 64 #[.agg #[.pointer (some ⟨p, 0, none⟩), .pointer none], .pointer (some ⟨b, 0, none⟩)] W (DidW b p m.row (s ++ strOfNums m.hash) W) := by
  obtain ⟨q, hq⟩ : ∃ q, W.heap.size = q := ⟨_, rfl⟩
  obtain ⟨V, hV⟩ : ∃ V, W.alloc (.cells #[.pointer (some ⟨p, 0, none⟩), .pointer none] 88) = V := ⟨_, rfl⟩
  have rn : M.RowAt V q 88 #[.pointer (some ⟨p, 0, none⟩), .pointer none] := by rw [← hV, ← hq]; exact M.RowAt.new W 88 _
  have rb' : M.RowAt V b 62 m.row := by rw [← hV]; exact rb.alloc _
  have bV : M.But p W V := by rw [← hV]; exact (M.But.refl _ _).alloc _
  have atV : M.RowAt V p 25 #[.string s] := by rw [← hV]; exact hat.alloc _
  have n0 := (rn.cell 0).trans rfl
  have num : ∀ x, x = V.drew → Calls Try.prog 18 #[.pointer (some ⟨p, 0, none⟩), hashV m.hash] x fun e x' => e = .returned (.tuple #[]) ∧ DidW b p m.row (s ++ strOfNums m.hash) W (.returned (.tuple #[])) x' := by
    rintro x rfl
    refine (whash_any m.hash ⟨p, 0, none⟩ s V.drew h32 hs (row_at atV.drew)).mono ?_
    rintro e x' ⟨rfl, hb⟩
    have hbut := but_written hb
    exact ⟨rfl, rfl, hbut.row rb'.drew (fun e => hpb e.symm), row_written atV.drew hb, bV.trans ((M.But.refl p V).drew.trans hbut)⟩
  have HQ := Lib.hid hq; have HV := Lib.hid hV; have NUM := Lib.hid num
  obtain ⟨U, hU⟩ : ∃ U, V.drew = U := ⟨_, rfl⟩
  have u0 : U.cell? ⟨q, 0, none⟩ = some (.pointer (some ⟨p, 0, none⟩)) := by rw [← hU]; exact n0
  have rg : ∀ x, x = U → x.rangeAt b 4 (ints m.hash) := by rintro x rfl; rw [← hU]; exact Msg.range rb'.drew h32
  have cu : ∀ x, x = U → x.cell? ⟨q, 0, none⟩ = some (.pointer (some ⟨p, 0, none⟩)) := by rintro x rfl; exact u0
  have iH : (Try.prog.info? 33).map (·.size) = some (ints m.hash).length := by rw [ints_len', h32]; kernel_rfl
  rw [hU] at NUM
  have HU := Lib.hid hU; have RG := Lib.hid rg; have CU := Lib.hid cu
  unfold hashV at NUM
  generalize DidW b p m.row (s ++ strOfNums m.hash) W = DD at *
  generalize ints m.hash = H at *
  clear hq hV rn rb' bV rb hat atV num hU rg cu
  go_enter Try.func64, Try.ntmps64
  go_wp2_with (first | (rw [HQ.out, HV.out]) | fail)
  refine QP.wp_region_p 6 (fun x => x = U) (fun x => DD (.returned (.tuple #[])) x) (by kernel_rfl) (by kernel_rfl) HU.out ?_
  iterate 7
    (refine QP.wpQ_step (fun K hK => ?_)
     go_simp
     first
       | (refine hK _ ?_; clear hK K)
       | (refine ⟨?_, hK _ ?_⟩; decide; clear hK K)
       | ((first | (apply Exists.intro; refine ⟨?_, hK _ ?_⟩) | refine ⟨⟨undef, ?_⟩, hK _ ?_⟩)
          first
            | (apply QP.al_p; decide; (focus (intro wq hq; (first | (have y0 := CU.out _ hq) | skip); first | ((refine QP.oat_load_mid (ty := 33) (x := .tmp 18) (b := b) (off := 4) (cs := H) ?_ ?_ _ (RG.out _ hq) Try.underlying33 rfl iH hq; rfl; rfl)) | (unfold QP.oat; go_simp; first | done | exact ⟨by assumption, rfl⟩ | exact rfl | assumption | (first | ((with_reducible refine (NUM.out _ hq).mono ?_); rintro e w' ⟨rfl, h'⟩; exact ⟨rfl, h'⟩) | ((with_reducible refine (NUM.out _ rfl).mono ?_); rintro e w' ⟨rfl, h'⟩; exact ⟨rfl, h'⟩))))))
            | (apply QP.al_dep; decide; decide; (focus (intro wq hq; (first | (have y0 := CU.out _ hq) | skip); first | ((refine QP.oat_load_mid (ty := 33) (x := .tmp 18) (b := b) (off := 4) (cs := H) ?_ ?_ _ (RG.out _ hq) Try.underlying33 rfl iH hq; rfl; rfl)) | (unfold QP.oat; go_simp; first | done | exact ⟨by assumption, rfl⟩ | exact rfl | assumption | (first | ((with_reducible refine (NUM.out _ hq).mono ?_); rintro e w' ⟨rfl, h'⟩; exact ⟨rfl, h'⟩) | ((with_reducible refine (NUM.out _ rfl).mono ?_); rintro e w' ⟨rfl, h'⟩; exact ⟨rfl, h'⟩))))))
            | (apply QP.al_bef; decide; decide; (focus (intro wq hq; (first | (have y0 := CU.out _ hq) | skip); first | ((refine QP.oat_load_mid (ty := 33) (x := .tmp 18) (b := b) (off := 4) (cs := H) ?_ ?_ _ (RG.out _ hq) Try.underlying33 rfl iH hq; rfl; rfl)) | (unfold QP.oat; go_simp; first | done | exact ⟨by assumption, rfl⟩ | exact rfl | assumption | (first | ((with_reducible refine (NUM.out _ hq).mono ?_); rintro e w' ⟨rfl, h'⟩; exact ⟨rfl, h'⟩) | ((with_reducible refine (NUM.out _ rfl).mono ?_); rintro e w' ⟨rfl, h'⟩; exact ⟨rfl, h'⟩))))))
            | (apply QP.al_ok; decide; (focus (intro wq hq; (first | (have y0 := CU.out _ hq) | skip); first | ((refine QP.oat_load_mid (ty := 33) (x := .tmp 18) (b := b) (off := 4) (cs := H) ?_ ?_ _ (RG.out _ hq) Try.underlying33 rfl iH hq; rfl; rfl)) | (unfold QP.oat; go_simp; first | done | exact ⟨by assumption, rfl⟩ | exact rfl | assumption | (first | ((with_reducible refine (NUM.out _ hq).mono ?_); rintro e w' ⟨rfl, h'⟩; exact ⟨rfl, h'⟩) | ((with_reducible refine (NUM.out _ rfl).mono ?_); rintro e w' ⟨rfl, h'⟩; exact ⟨rfl, h'⟩))))); (focus (intro wq hq; (first | (have y0 := CU.out _ hq) | skip); first | ((refine QP.oat_load_mid (ty := 33) (x := .tmp 18) (b := b) (off := 4) (cs := H) ?_ ?_ _ (RG.out _ hq) Try.underlying33 rfl iH hq; rfl; rfl)) | (unfold QP.oat; go_simp; first | done | exact ⟨by assumption, rfl⟩ | exact rfl | assumption | (first | ((with_reducible refine (NUM.out _ hq).mono ?_); rintro e w' ⟨rfl, h'⟩; exact ⟨rfl, h'⟩) | ((with_reducible refine (NUM.out _ rfl).mono ?_); rintro e w' ⟨rfl, h'⟩; exact ⟨rfl, h'⟩))))))
          clear hK K))
  refine QP.wpQ_nil ?_
  intro wz bz
  go_wp2
  go_end0
  exact bz
end Go.Proofs.Ytiilgkhndfnkgaa
