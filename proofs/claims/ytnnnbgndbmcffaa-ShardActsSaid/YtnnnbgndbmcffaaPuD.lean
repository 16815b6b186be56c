/- What the purse's Release, Commit and Move answer and leave; the condition is that the purse's blocks are known. -/
import Derived.Test.YtnnnbgndbmcffaaPuC
namespace Go.Proofs.Ytnnnbgndbmcffaa
open Go.RowKit
set_option linter.unusedVariables false

/-- a purse, a boxed reservation, and what has changed -/
structure PR (p B mb n cap : Nat) (f : Nat → Int) (l : Res) (w : World) (g : Nat) (C : Array Value) (v : World) : Prop where
  pu : Pu p B mb n cap f l v
  row : M.RowAt v g 121 C
  bt : Bt [B, mb] w v
section
variable {p B mb n cap : Nat} {f f' : Nat → Int} {l : Res} {w : World} {g : Nat} {C : Array Value} {v : World}
theorem PR.drew (h : PR p B mb n cap f l w g C v) : PR p B mb n cap f l w g C v.drew := ⟨h.pu.drew, h.row.drew, h.bt.drew⟩
theorem PR.set (h : PR p B mb n cap f l w g C v) (hg : g ≠ B) {a : Nat} (ha : a < n) (x : Int) (hi : Inv n (upF f a x) l) : PR p B mb n cap (upF f a x) l w g C (v.setCell ⟨B, a, none⟩ (.int .u64 x)) :=
  ⟨h.pu.set ha x hi, h.row.far (p := ⟨B, a, none⟩) (Ne.symm hg) _, h.bt.set (p := ⟨B, a, none⟩) (by simp) _⟩

set_option maxRecDepth 100000 in
set_option maxHeartbeats 4000000 in
theorem rel_yes (h : Pu p B mb n cap f l w) {i : Int} (hi : KR.ok i) {k : Nat} {y : Int} (hx : getM l i = some ((k : Int), y)) :
    Calls Try.prog 27 #[.pointer (some ⟨p, 0, none⟩), .int .i64 i] w fun e w' => e = .returned (.int .i64 0) ∧ Pu p B mb n cap (upF f k (f k + y)) (delM l i) w' ∧ Bt [B, mb] w w' := by
  obtain ⟨q, hq⟩ : ∃ q, w.heap.size = q := ⟨_, rfl⟩
  have hk : k < n := by have := (h.inv.amt hx).2.1; simp at this; exact this
  have hsum := h.inv.sum hk hx
  have hy := (h.inv.amt hx).2.2.1
  have f0 := h.inv.pos k
  have hdel := Inv.mk h.inv.n1 h.inv.n32 h.inv.pos (fun e he => h.inv.res e (delM_sub i l e he)) (by have := len_del hx; have := h.inv.len; omega) (by have := sumR_del hx; have := h.inv.tot; simp at this ⊢; simp at hy; have e1 : sumR (delM l i) + y = sumR l := sumR_del hx; omega)
  have hback := inv_back h.inv hk hx
  have n32 := h.inv.n32
  have hB := h.hB
  have hBq : B < q := by obtain ⟨cur, hr, _⟩ := hB; exact hq ▸ hr.lt
  have hne : q ≠ B := by omega
  have pu0 := h.alloc (.cells #[.int .i64 (k : Nat), .int .u64 y] 121)
  have r0 := M.RowAt.new w 121 #[.int .i64 (k : Nat), .int .u64 y]
  rw [hq] at r0
  have hmbq : mb < q := hq ▸ h.hm.lt
  have IM0 := Lib.hid h.hm; have HOK := Lib.hid hi; have HX := Lib.hid hx; have PU0 := Lib.hid pu0; have R0 := Lib.hid r0
  obtain ⟨w2, hrun0, hm2, hb2⟩ := pu0.hm.del 0 Try.underlying116 hi
  have hrun : (Builtin.delete_ #[116, 3] 0 #[Value.map (some mb), Value.int .i64 i]).run Try.prog (w.alloc (.cells #[.int .i64 (k : Nat), .int .u64 y] 121)) = .ok (.tuple #[]) w2 := hrun0
  have pr2 : PR p B mb n cap f (delM l i) w q #[.int .i64 (k : Nat), .int .u64 y] w2 := ⟨pu0.map hm2 hb2 hdel, hb2.row r0 (by omega), ((Bt.refl [B, mb] w).alloc _).trans (.ofBut hb2 (by simp))⟩
  have PR2 := Lib.hid pr2
  have c1 := h.c1
  have c11 := pu0.c1
  have qw : IntKind.u64.wrap (f k + y) = f k + y := u64_in _ (by simp at hsum hy; omega)
  have HBACK := Lib.hid hback
  have q5 : (0 : Int) ≤ k := by omega
  have q6 : (k : Int) < n := by omega
  clear h hi hx pu0 r0 hB hdel hback hsum hy f0 hrun0 hm2 hb2 pr2
  go_enter Try.func27, Try.ntmps27
  go_wp2_with (at_lookup; refine wpList_lookup_im_some rfl _ _ 116 121 rfl Try.underlying116 (.agg #[.int .i64 0, .int .u64 0]) zero121 IM0.out ?a1 i HOK.out ?a2 _ HX.out (.agg #[.int .i64 (k : Nat), .int .u64 y]) rfl ?_)
  case a2 => rfl
  have fb : ∀ v, PR p B mb n cap f (delM l i) w q #[.int .i64 (k : Nat), .int .u64 y] v → v.cell? ⟨p, 0, none⟩ = some (.slice (some ⟨B, 0, none⟩) n cap) ∧ v.cell? ⟨q, 0, none⟩ = some (.int .i64 (k : Nat)) ∧ v.cell? ⟨q, 1, none⟩ = some (.int .u64 y) ∧ v.cell? ⟨B, k, none⟩ = some (.int .u64 (f k)) ∧ v.frozen? ⟨B, k, none⟩ = false := fun v c => ⟨c.pu.c0, (c.row.cell 0).trans rfl, (c.row.cell 1).trans rfl, (c.pu.bal hk).1, (c.pu.bal hk).2⟩
  have st : ∀ v, PR p B mb n cap f (delM l i) w q #[.int .i64 (k : Nat), .int .u64 y] v → PR p B mb n cap (upF f k (f k + y)) (delM l i) w q #[.int .i64 (k : Nat), .int .u64 y] (v.setCell ⟨B, k, none⟩ (.int .u64 (f k + y))) := fun v c => c.set hne hk _ HBACK.out
  have FB := Lib.hid fb; have ST := Lib.hid st
  clear fb st
  go_wp2_with fail
  refine QT.wp_region_p 12 (PR p B mb n cap f (delM l i) w q #[.int .i64 (k : Nat), .int .u64 y]) (PR p B mb n cap (upF f k (f k + y)) (delM l i) w q #[.int .i64 (k : Nat), .int .u64 y]) (by kernel_rfl) (by kernel_rfl) PR2.out.drew ?_
  iterate 13
    (refine QT.wpQ_step (fun K hK => ?_)
     go_simp
     first
       | (refine hK _ ?_; clear hK K)
       | (refine ⟨?_, hK _ ?_⟩; decide; clear hK K)
       | ((first | (apply Exists.intro; refine ⟨?_, hK _ ?_⟩) | refine ⟨⟨undef, ?_⟩, hK _ ?_⟩)
          first
            | (apply QT.al_p; decide; (focus (intro wq hq; (first | (obtain ⟨x0, x1, x2, x3, x4⟩ := FB.out _ hq) | skip); first | (fail) | (unfold QP.oat; go_simp; first | done | exact ⟨by assumption, rfl⟩ | exact rfl | assumption | ((exact ST.out _ hq))))))
            | (apply QT.al_dep; decide; decide; (focus (intro wq hq; (first | (obtain ⟨x0, x1, x2, x3, x4⟩ := FB.out _ hq) | skip); first | (fail) | (unfold QP.oat; go_simp; first | done | exact ⟨by assumption, rfl⟩ | exact rfl | assumption | ((exact ST.out _ hq))))))
            | (apply QT.al_bef; decide; decide; (focus (intro wq hq; (first | (obtain ⟨x0, x1, x2, x3, x4⟩ := FB.out _ hq) | skip); first | (fail) | (unfold QP.oat; go_simp; first | done | exact ⟨by assumption, rfl⟩ | exact rfl | assumption | ((exact ST.out _ hq))))))
            | (apply QT.al_ok; decide; (focus (intro wq hq; (first | (obtain ⟨x0, x1, x2, x3, x4⟩ := FB.out _ hq) | skip); first | (fail) | (unfold QP.oat; go_simp; first | done | exact ⟨by assumption, rfl⟩ | exact rfl | assumption | ((exact ST.out _ hq))))); (focus (intro wq hq; (first | (obtain ⟨x0, x1, x2, x3, x4⟩ := FB.out _ hq) | skip); first | (fail) | (unfold QP.oat; go_simp; first | done | exact ⟨by assumption, rfl⟩ | exact rfl | assumption | ((exact ST.out _ hq))))))
          clear hK K))
  refine QT.wpQ_nil ?_
  intro wz bz
  go_wp2
  go_ret
  exact ⟨rfl, bz.pu, bz.bt⟩
set_option maxRecDepth 100000 in
theorem rel_no (h : Pu p B mb n cap f l w) {i : Int} (hi : KR.ok i) (hx : getM l i = none) :
    Calls Try.prog 27 #[.pointer (some ⟨p, 0, none⟩), .int .i64 i] w fun e w' => e = .returned (.int .i64 1) ∧ Below w.heap.size w w' := by
  obtain ⟨q, hq⟩ : ∃ q, w.heap.size = q := ⟨_, rfl⟩
  have HQ := Lib.hid hq
  have c1 := h.c1
  have IM0 := Lib.hid h.hm; have HOK := Lib.hid hi; have HX := Lib.hid hx
  clear h hi hx
  go_enter Try.func27, Try.ntmps27
  go_wp2_with (at_lookup; refine wpList_lookup_im_none rfl _ _ 116 121 rfl Try.underlying116 (.agg #[.int .i64 0, .int .u64 0]) zero121 IM0.out ?a1 i HOK.out ?a2 HX.out ?_)
  case a1 => rfl
  case a2 => rfl
  go_wp2
  go_ret
  exact ⟨rfl, (Below.refl _ _).alloc (Nat.le_refl _) _⟩
set_option maxRecDepth 100000 in
set_option maxHeartbeats 4000000 in
theorem com_yes (h : Pu p B mb n cap f l w) {i : Int} (hi : KR.ok i) {r y : Int} (hx : getM l i = some (r, y)) {k : Nat} (hk : k < n) :
    Calls Try.prog 37 #[.pointer (some ⟨p, 0, none⟩), .int .i64 i, .int .i64 (k : Nat)] w fun e w' => e = .returned (.int .i64 0) ∧ Pu p B mb n cap (upF f k (f k + y)) (delM l i) w' ∧ Bt [B, mb] w w' := by
  obtain ⟨q, hq⟩ : ∃ q, w.heap.size = q := ⟨_, rfl⟩
  have hsum := h.inv.sum hk hx
  have hy := (h.inv.amt hx).2.2.1
  have f0 := h.inv.pos k
  have hdel := Inv.mk h.inv.n1 h.inv.n32 h.inv.pos (fun e he => h.inv.res e (delM_sub i l e he)) (by have := len_del hx; have := h.inv.len; omega) (by have := sumR_del hx; have := h.inv.tot; simp at this ⊢; simp at hy; have e1 : sumR (delM l i) + y = sumR l := sumR_del hx; omega)
  have hback := inv_back h.inv hk hx
  have n32 := h.inv.n32
  have hB := h.hB
  have hBq : B < q := by obtain ⟨cur, hr, _⟩ := hB; exact hq ▸ hr.lt
  have hne : q ≠ B := by omega
  have pu0 := h.alloc (.cells #[.int .i64 r, .int .u64 y] 121)
  have r0 := M.RowAt.new w 121 #[.int .i64 r, .int .u64 y]
  rw [hq] at r0
  have hmbq : mb < q := hq ▸ h.hm.lt
  have IM0 := Lib.hid h.hm; have HOK := Lib.hid hi; have HX := Lib.hid hx; have HAS := Lib.hid (has_yes pu0 hk)
  obtain ⟨w2, hrun0, hm2, hb2⟩ := pu0.hm.del 0 Try.underlying116 hi
  have hrun : (Builtin.delete_ #[116, 3] 0 #[Value.map (some mb), Value.int .i64 i]).run Try.prog (w.alloc (.cells #[.int .i64 r, .int .u64 y] 121)) = .ok (.tuple #[]) w2 := hrun0
  have pr2 : PR p B mb n cap f (delM l i) w q #[.int .i64 r, .int .u64 y] w2 := ⟨pu0.map hm2 hb2 hdel, hb2.row r0 (by omega), ((Bt.refl [B, mb] w).alloc _).trans (.ofBut hb2 (by simp))⟩
  have PR2 := Lib.hid pr2
  have c1 := h.c1
  have c11 := pu0.c1
  have qw : IntKind.u64.wrap (f k + y) = f k + y := u64_in _ (by simp at hsum hy; omega)
  have HBACK := Lib.hid hback
  have q5 : (0 : Int) ≤ k := by omega
  have q6 : (k : Int) < n := by omega
  clear h hi hx pu0 r0 hB hdel hback hsum hy f0 hrun0 hm2 hb2 pr2
  go_enter Try.func37, Try.ntmps37
  go_wp2_with (at_lookup; refine wpList_lookup_im_some rfl _ _ 116 121 rfl Try.underlying116 (.agg #[.int .i64 0, .int .u64 0]) zero121 IM0.out ?a1 i HOK.out ?a2 _ HX.out (.agg #[.int .i64 r, .int .u64 y]) rfl ?_)
  case a2 => rfl
  go_wp2_with fail
  refine (HAS.out).mono ?_
  rintro e w1 ⟨rfl, rfl⟩
  have fb : ∀ v, PR p B mb n cap f (delM l i) w q #[.int .i64 r, .int .u64 y] v → v.cell? ⟨p, 0, none⟩ = some (.slice (some ⟨B, 0, none⟩) n cap) ∧ v.cell? ⟨q, 1, none⟩ = some (.int .u64 y) ∧ v.cell? ⟨B, k, none⟩ = some (.int .u64 (f k)) ∧ v.frozen? ⟨B, k, none⟩ = false := fun v c => ⟨c.pu.c0, (c.row.cell 1).trans rfl, (c.pu.bal hk).1, (c.pu.bal hk).2⟩
  have st : ∀ v, PR p B mb n cap f (delM l i) w q #[.int .i64 r, .int .u64 y] v → PR p B mb n cap (upF f k (f k + y)) (delM l i) w q #[.int .i64 r, .int .u64 y] (v.setCell ⟨B, k, none⟩ (.int .u64 (f k + y))) := fun v c => c.set hne hk _ HBACK.out
  have FB := Lib.hid fb; have ST := Lib.hid st
  clear fb st
  go_wp2_with fail
  refine QT.wp_region_p 11 (PR p B mb n cap f (delM l i) w q #[.int .i64 r, .int .u64 y]) (PR p B mb n cap (upF f k (f k + y)) (delM l i) w q #[.int .i64 r, .int .u64 y]) (by kernel_rfl) (by kernel_rfl) PR2.out.drew ?_
  iterate 12
    (refine QT.wpQ_step (fun K hK => ?_)
     go_simp
     first
       | (refine hK _ ?_; clear hK K)
       | (refine ⟨?_, hK _ ?_⟩; decide; clear hK K)
       | ((first | (apply Exists.intro; refine ⟨?_, hK _ ?_⟩) | refine ⟨⟨undef, ?_⟩, hK _ ?_⟩)
          first
            | (apply QT.al_p; decide; (focus (intro wq hq; (first | (obtain ⟨x0, x2, x3, x4⟩ := FB.out _ hq) | skip); first | (fail) | (unfold QP.oat; go_simp; first | done | exact ⟨by assumption, rfl⟩ | exact rfl | assumption | ((exact ST.out _ hq))))))
            | (apply QT.al_dep; decide; decide; (focus (intro wq hq; (first | (obtain ⟨x0, x2, x3, x4⟩ := FB.out _ hq) | skip); first | (fail) | (unfold QP.oat; go_simp; first | done | exact ⟨by assumption, rfl⟩ | exact rfl | assumption | ((exact ST.out _ hq))))))
            | (apply QT.al_bef; decide; decide; (focus (intro wq hq; (first | (obtain ⟨x0, x2, x3, x4⟩ := FB.out _ hq) | skip); first | (fail) | (unfold QP.oat; go_simp; first | done | exact ⟨by assumption, rfl⟩ | exact rfl | assumption | ((exact ST.out _ hq))))))
            | (apply QT.al_ok; decide; (focus (intro wq hq; (first | (obtain ⟨x0, x2, x3, x4⟩ := FB.out _ hq) | skip); first | (fail) | (unfold QP.oat; go_simp; first | done | exact ⟨by assumption, rfl⟩ | exact rfl | assumption | ((exact ST.out _ hq))))); (focus (intro wq hq; (first | (obtain ⟨x0, x2, x3, x4⟩ := FB.out _ hq) | skip); first | (fail) | (unfold QP.oat; go_simp; first | done | exact ⟨by assumption, rfl⟩ | exact rfl | assumption | ((exact ST.out _ hq))))))
          clear hK K))
  refine QT.wpQ_nil ?_
  intro wz bz
  go_wp2
  go_ret
  exact ⟨rfl, bz.pu, bz.bt⟩
set_option maxRecDepth 100000 in
theorem com_none (h : Pu p B mb n cap f l w) {i : Int} (hi : KR.ok i) (hx : getM l i = none) (t : Int) :
    Calls Try.prog 37 #[.pointer (some ⟨p, 0, none⟩), .int .i64 i, .int .i64 t] w fun e w' => e = .returned (.int .i64 1) ∧ Below w.heap.size w w' := by
  obtain ⟨q, hq⟩ : ∃ q, w.heap.size = q := ⟨_, rfl⟩
  have HQ := Lib.hid hq
  have c1 := h.c1
  have IM0 := Lib.hid h.hm; have HOK := Lib.hid hi; have HX := Lib.hid hx
  clear h hi hx
  go_enter Try.func37, Try.ntmps37
  go_wp2_with (at_lookup; refine wpList_lookup_im_none rfl _ _ 116 121 rfl Try.underlying116 (.agg #[.int .i64 0, .int .u64 0]) zero121 IM0.out ?a1 i HOK.out ?a2 HX.out ?_)
  case a1 => rfl
  case a2 => rfl
  go_wp2
  go_ret
  exact ⟨rfl, (Below.refl _ _).alloc (Nat.le_refl _) _⟩
set_option maxRecDepth 100000 in
theorem com_out (h : Pu p B mb n cap f l w) {i : Int} (hi : KR.ok i) {x : Int × Int} (hx : getM l i = some x) {t : Int} (ht : inP n t = false) :
    Calls Try.prog 37 #[.pointer (some ⟨p, 0, none⟩), .int .i64 i, .int .i64 t] w fun e w' => e = .returned (.int .i64 3) ∧ Below w.heap.size w w' := by
  obtain ⟨q, hq⟩ : ∃ q, w.heap.size = q := ⟨_, rfl⟩
  have HQ := Lib.hid hq
  have c1 := h.c1
  have pu0 := h.alloc (.cells #[.int .i64 x.1, .int .u64 x.2] 121)
  have IM0 := Lib.hid h.hm; have HOK := Lib.hid hi; have HX := Lib.hid hx; have HAS := Lib.hid (has_no pu0 ht)
  clear h hi hx pu0 ht
  go_enter Try.func37, Try.ntmps37
  go_wp2_with (at_lookup; refine wpList_lookup_im_some rfl _ _ 116 121 rfl Try.underlying116 (.agg #[.int .i64 0, .int .u64 0]) zero121 IM0.out ?a1 i HOK.out ?a2 x HX.out (.agg #[.int .i64 x.1, .int .u64 x.2]) rfl ?_)
  case a1 => rfl
  case a2 => rfl
  go_wp2_with fail
  refine (HAS.out).mono ?_
  rintro e w1 ⟨rfl, rfl⟩
  go_wp2
  go_ret
  exact ⟨rfl, (Below.refl _ _).alloc (Nat.le_refl _) _⟩
end
end Go.Proofs.Ytnnnbgndbmcffaa
