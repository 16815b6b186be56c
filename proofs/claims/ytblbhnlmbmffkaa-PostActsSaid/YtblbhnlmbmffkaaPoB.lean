/- What put and take do to a box of a post; the condition is that the boxes' block is known. -/
import Derived.Test.YtblbhnlmbmffkaaPoA
import Derived.Test.YtblbhnlmbmffkaaQuietT
import Derived.Test.YtblbhnlmbmffkaaQuietA
namespace Go.Proofs.Ytblbhnlmbmffkaa
open Go.RowKit
set_option linter.unusedVariables false

theorem i33 (x : Lt) : (Try.prog.info? 33).map (·.size) = some x.row.size := by show _ = some 4; kernel_rfl
theorem o33 (x : Lt) : x.row.all (·.oneCell') = true := Array.all_eq_true_iff_forall_mem.2 (fun v hv => by simp [Lt.row] at hv; rcases hv with rfl | rfl | rfl | rfl <;> rfl)
theorem l33 (x : Lt) : x.row.toList = x.cells := rfl
theorem upB_same (E : Nat → Bx) (k : Nat) (b : Bx) : upB E k b k = b := by unfold upB; rw [if_pos rfl]
theorem upB_twice (E : Nat → Bx) (k : Nat) (a b : Bx) : upB (upB E k a) k b = upB E k b := by funext i; unfold upB; split <;> rfl

set_option maxRecDepth 100000 in
set_option maxHeartbeats 4000000 in
theorem put_any (B nb k : Nat) (E : Nat → Bx) (x : Lt) (w : World) (h : M.RowAt w B 76 (boC E nb)) (hk : k < nb) (hn : nb ≤ 64) (hok : BxOk (E k)) (hm : (E k).many ≠ 8) :
    Calls Try.prog 26 #[.pointer (some ⟨B, k * 35, none⟩), .agg x.row] w fun e w' => e = .returned (.tuple #[]) ∧ M.RowAt w' B 76 (boC (upB E k (putB (E k) x)) nb) ∧ M.But B w w' := by
  obtain ⟨n, hsz⟩ : ∃ n, w.heap.size = n := ⟨_, rfl⟩
  have p0 := (PB.start h).new 33 x.row
  rw [hsz] at p0
  have h1 := hok.first; have h2 := hok.many
  obtain ⟨r, hr⟩ : ∃ r, ((E k).first + (E k).many) % 8 = r := ⟨_, rfl⟩
  have hr8 : r < 8 := hr ▸ Nat.mod_lt _ (by decide)
  have c1 := fun v (c : PB w B 76 (boC E nb) [(n, 33, x.row)] v) => And.intro (bo_first c.row hk) (bo_many c.row hk)
  have th : ∀ v, PB w B 76 (boC E nb) [(n, 33, x.row)] v → v.there B (k * 35 + r * 4) x.row.size := fun v c => bo_there4 c.row hk hr8
  have st : ∀ v, PB w B 76 (boC E nb) [(n, 33, x.row)] v → PB w B 76 (spl (boC E nb) (k * 35 + r * 4) x.cells) [(n, 33, x.row)] (v.setCells B (k * 35 + r * 4) x.row.toList) := fun v c => c.sets (k * 35 + r * 4) x.cells
  rw [boC_ring hk hr8 x] at st
  generalize hE1 : upB E k { E k with ring := upL (E k).ring r x } = E1 at *
  have hm1 : (E1 k).many = (E k).many := by rw [← hE1, upB_same]
  have c2 := fun v (c : PB w B 76 (boC E1 nb) [(n, 33, x.row)] v) => bo_many c.row hk
  have f2 := fun v (c : PB w B 76 (boC E1 nb) [(n, 33, x.row)] v) => M.RowAt.frozen c.row (k * 35 + 33)
  have s2 := fun v (c : PB w B 76 (boC E1 nb) [(n, 33, x.row)] v) => c.set (k * 35 + 33) (.int .i64 ((E k).many + 1 : Nat))
  rw [boC_many hk] at s2
  have e2 : upB E1 k { E1 k with many := (E k).many + 1 } = upB E k (putB (E k) x) := by
    rw [← hE1, upB_twice, upB_same]; unfold putB; rw [hr]
  rw [e2] at s2
  rw [hm1] at c2
  obtain ⟨V, hV⟩ : ∃ V, w.alloc (.cells x.row 33) = V := ⟨_, rfl⟩
  rw [hV] at p0
  have HV := Lib.hid hV
  have q1 : IntKind.i64.wrap (((E k).first : Int) + ((E k).many : Int)) = ((E k).first : Int) + ((E k).many : Int) := IntWalk.i64_in _ (by omega)
  have q2 : Int.tmod (((E k).first : Int) + ((E k).many : Int)) 8 = (r : Int) := by
    rw [← hr]; rfl
  have q2' : (((E k).first : Int) + ((E k).many : Int)) % 8 = (r : Int) := by
    rw [← hr]; rfl
  have q3 : IntKind.i64.wrap (r : Int) = (r : Int) := IntWalk.i64_in _ (by omega)
  have q4 : (r : Int) < 8 := by omega
  have q5 : (0 : Int) ≤ r := by omega
  have q6 : IntKind.i64.wrap (((E k).many : Int) + 1) = (((E k).many + 1 : Nat) : Int) := IntWalk.i64_in _ (by omega)
  have C1 := Lib.hid c1; have TH := Lib.hid th; have ST := Lib.hid st; have C2 := Lib.hid c2; have F2 := Lib.hid f2; have S2 := Lib.hid s2
  have ix := i33 x; have ox := o33 x
  have hrow : x.row = #[.int .i64 x.to, .int .i64 x.frm, .int .i64 x.kind, .string x.text] := rfl
  generalize (E k).first = f at *
  generalize (E k).many = m at *
  generalize boC (upB E k (putB (E k) x)) nb = Z2 at *
  generalize boC E1 nb = Z1 at *
  generalize boC E nb = Z0 at *
  have HRR := Lib.hid hrow
  generalize x.row = X at *
  clear c1 th st c2 f2 s2 hE1 hm1 e2 h1 h2 hok hm hr h hV hrow
  go_enter Try.func26, Try.ntmps26
  go_wp2
  rw [HV.out]
  refine QT.wp_region_p 15 (PB w B 76 Z0 [(n, 33, X)]) (PB w B 76 Z1 [(n, 33, X)]) (by kernel_rfl) (by kernel_rfl) p0.drew ?_
  iterate 16
    (refine QT.wpQ_step (fun K hK => ?_)
     go_simp
     first
       | (refine hK _ ?_; clear hK K)
       | (refine ⟨?_, hK _ ?_⟩; decide; clear hK K)
       | ((first | (apply Exists.intro; refine ⟨?_, hK _ ?_⟩) | refine ⟨⟨undef, ?_⟩, hK _ ?_⟩)
          first
            | (apply QT.al_p; decide; (focus (intro wq hq; (first | (obtain ⟨cf, cm⟩ := C1.out _ hq) | skip); first | (first | ((with_reducible refine QP.oat_load_row (ty := 33) (x := .tmp 3) (g := n) (t := 33) (cs := X) (fr := (0, 0)) ?_ ?_ _ (hq.at n 33 X (by simp)) Try.underlying33 ?_ ix hq); rfl; rfl; rfl) | ((with_reducible refine oat_store_mid (ty := 33) (x := .tmp 18) (y := .tmp 15) (b := B) (off := k * 35 + r * 4) (cells := X) ?_ ?_ ?_ (TH.out _ hq) ix ox (ST.out _ hq)); rfl; rfl; rfl)) | (unfold QP.oat; go_simp; first | done | exact ⟨by assumption, rfl⟩ | exact rfl | assumption | (fail)))))
            | (apply QT.al_dep; decide; decide; (focus (intro wq hq; (first | (obtain ⟨cf, cm⟩ := C1.out _ hq) | skip); first | (first | ((with_reducible refine QP.oat_load_row (ty := 33) (x := .tmp 3) (g := n) (t := 33) (cs := X) (fr := (0, 0)) ?_ ?_ _ (hq.at n 33 X (by simp)) Try.underlying33 ?_ ix hq); rfl; rfl; rfl) | ((with_reducible refine oat_store_mid (ty := 33) (x := .tmp 18) (y := .tmp 15) (b := B) (off := k * 35 + r * 4) (cells := X) ?_ ?_ ?_ (TH.out _ hq) ix ox (ST.out _ hq)); rfl; rfl; rfl)) | (unfold QP.oat; go_simp; first | done | exact ⟨by assumption, rfl⟩ | exact rfl | assumption | (fail)))))
            | (apply QT.al_bef; decide; decide; (focus (intro wq hq; (first | (obtain ⟨cf, cm⟩ := C1.out _ hq) | skip); first | (first | ((with_reducible refine QP.oat_load_row (ty := 33) (x := .tmp 3) (g := n) (t := 33) (cs := X) (fr := (0, 0)) ?_ ?_ _ (hq.at n 33 X (by simp)) Try.underlying33 ?_ ix hq); rfl; rfl; rfl) | ((with_reducible refine oat_store_mid (ty := 33) (x := .tmp 18) (y := .tmp 15) (b := B) (off := k * 35 + r * 4) (cells := X) ?_ ?_ ?_ (TH.out _ hq) ix ox (ST.out _ hq)); rfl; rfl; rfl)) | (unfold QP.oat; go_simp; first | done | exact ⟨by assumption, rfl⟩ | exact rfl | assumption | (fail)))))
            | (apply QT.al_ok; decide; (focus (intro wq hq; (first | (obtain ⟨cf, cm⟩ := C1.out _ hq) | skip); first | (first | ((with_reducible refine QP.oat_load_row (ty := 33) (x := .tmp 3) (g := n) (t := 33) (cs := X) (fr := (0, 0)) ?_ ?_ _ (hq.at n 33 X (by simp)) Try.underlying33 ?_ ix hq); rfl; rfl; rfl) | ((with_reducible refine oat_store_mid (ty := 33) (x := .tmp 18) (y := .tmp 15) (b := B) (off := k * 35 + r * 4) (cells := X) ?_ ?_ ?_ (TH.out _ hq) ix ox (ST.out _ hq)); rfl; rfl; rfl)) | (unfold QP.oat; go_simp; first | done | exact ⟨by assumption, rfl⟩ | exact rfl | assumption | (fail)))); (focus (intro wq hq; (first | (obtain ⟨cf, cm⟩ := C1.out _ hq) | skip); first | (first | ((with_reducible refine QP.oat_load_row (ty := 33) (x := .tmp 3) (g := n) (t := 33) (cs := X) (fr := (0, 0)) ?_ ?_ _ (hq.at n 33 X (by simp)) Try.underlying33 ?_ ix hq); rfl; rfl; rfl) | ((with_reducible refine oat_store_mid (ty := 33) (x := .tmp 18) (y := .tmp 15) (b := B) (off := k * 35 + r * 4) (cells := X) ?_ ?_ ?_ (TH.out _ hq) ix ox (ST.out _ hq)); rfl; rfl; rfl)) | (unfold QP.oat; go_simp; first | done | exact ⟨by assumption, rfl⟩ | exact rfl | assumption | (fail)))))
          clear hK K))
  refine QT.wpQ_nil ?_
  intro wz bz
  have cm := C2.out _ bz
  have fm := F2.out _ bz
  go_wp2
  go_end0
  have z := S2.out _ bz
  rw [show ((m + 1 : Nat) : Int) = (m : Int) + 1 by omega] at z
  exact ⟨rfl, z.row, z.but⟩

set_option maxRecDepth 100000 in
set_option maxHeartbeats 4000000 in
theorem take_any (B nb k : Nat) (E : Nat → Bx) (w : World) (h : M.RowAt w B 76 (boC E nb)) (hk : k < nb) (hn : nb ≤ 64) (hok : BxOk (E k)) (hm : (E k).many ≠ 0) :
    Calls Try.prog 28 #[.pointer (some ⟨B, k * 35, none⟩)] w fun e w' => e = .returned (.agg ((E k).ring (E k).first).row) ∧ M.RowAt w' B 76 (boC (upB E k (takeB (E k))) nb) ∧ M.But B w w' := by
  obtain ⟨n, hsz⟩ : ∃ n, w.heap.size = n := ⟨_, rfl⟩
  have HSZ := Lib.hid hsz
  have p0 := (PB.start h).new 33 lt0.row
  rw [hsz] at p0
  have h1 := hok.first; have h2 := hok.many
  obtain ⟨x, hx⟩ : ∃ x, (E k).ring (E k).first = x := ⟨_, rfl⟩
  have i0 := i33 lt0; have o0 := o33 lt0
  have hrow0 : lt0.row = #[.int .i64 0, .int .i64 0, .int .i64 0, .string ⟨#[]⟩] := rfl
  rw [hx]
  have c1 := fun L v (c : PB w B 76 (boC E nb) L v) => bo_first c.row hk
  have g1 : ∀ L v, PB w B 76 (boC E nb) L v → v.rangeAt B (k * 35 + (E k).first * 4) ((E k).ring (E k).first).row.toList := fun L v c => bo_ring c.row hk h1
  rw [hx] at g1
  have th : ∀ L v, PB w B 76 (boC E nb) L v → v.there B (k * 35 + (E k).first * 4) lt0.row.size := fun L v c => bo_there4 c.row hk h1
  have st : ∀ L g v, PG w B 76 (boC E nb) L 33 x.row g v → PG w B 76 (spl (boC E nb) (k * 35 + (E k).first * 4) lt0.cells) L 33 x.row g (v.setCells B (k * 35 + (E k).first * 4) lt0.row.toList) := fun L g v c => c.sets _ lt0.cells
  rw [boC_ring hk h1 lt0] at st
  generalize hE1 : upB E k { E k with ring := upL (E k).ring (E k).first lt0 } = E1 at *
  have hf1 : (E1 k).first = (E k).first := by rw [← hE1, upB_same]
  have c2 := fun L v (c : PB w B 76 (boC E1 nb) L v) => bo_first c.row hk
  rw [hf1] at c2
  have d2 := fun L v (c : PB w B 76 (boC E1 nb) L v) => bo_many c.row hk
  rw [show (E1 k).many = (E k).many by rw [← hE1, upB_same]] at d2
  have g2f := fun L v (c : PB w B 76 (boC E1 nb) L v) => M.RowAt.frozen c.row (k * 35 + 33)
  have f2 := fun L v (c : PB w B 76 (boC E1 nb) L v) => M.RowAt.frozen c.row (k * 35 + 32)
  have s2 := fun L v (c : PB w B 76 (boC E1 nb) L v) => c.set (k * 35 + 32) (.int .i64 (((E k).first + 1) % 8 : Nat))
  rw [boC_first hk] at s2
  generalize hE2 : upB E1 k { E1 k with first := ((E k).first + 1) % 8 } = E2 at *
  have hm2 : (E2 k).many = (E k).many := by rw [← hE2, upB_same, ← hE1, upB_same]
  have c3 := fun L v (c : PB w B 76 (boC E2 nb) L v) => bo_many c.row hk
  rw [hm2] at c3
  have f3 := fun L v (c : PB w B 76 (boC E2 nb) L v) => M.RowAt.frozen c.row (k * 35 + 33)
  have s3 := fun L v (c : PB w B 76 (boC E2 nb) L v) => c.set (k * 35 + 33) (.int .i64 ((E k).many - 1 : Nat))
  rw [boC_many hk] at s3
  have e2 : upB E2 k { E2 k with many := (E k).many - 1 } = upB E k (takeB (E k)) := by
    rw [← hE2, upB_twice, upB_same, ← hE1, upB_twice, upB_same]; rfl
  rw [e2] at s3
  obtain ⟨V, hV⟩ : ∃ V, w.alloc (.cells lt0.row 33) = V := ⟨_, rfl⟩
  rw [hV] at p0
  rw [hrow0] at hV
  have HV := Lib.hid hV
  have q1 : IntKind.i64.wrap (((E k).first : Int) + 1) = ((E k).first : Int) + 1 := IntWalk.i64_in _ (by omega)
  have q2 : Int.tmod (((E k).first : Int) + 1) 8 = ((((E k).first + 1) % 8 : Nat) : Int) := rfl
  have q2' : (((E k).first : Int) + 1) % 8 = ((((E k).first + 1) % 8 : Nat) : Int) := rfl
  have q3 : IntKind.i64.wrap ((((E k).first + 1) % 8 : Nat) : Int) = ((((E k).first + 1) % 8 : Nat) : Int) := IntWalk.i64_in _ (by omega)
  have q4 : ((E k).first : Int) < 8 := by omega
  have q5 : (0 : Int) ≤ (E k).first := by omega
  have q6 : IntKind.i64.wrap (((E k).many : Int) - 1) = (((E k).many - 1 : Nat) : Int) := by rw [show (((E k).many - 1 : Nat) : Int) = ((E k).many : Int) - 1 by omega]; exact IntWalk.i64_in _ (by omega)
  have C1 := Lib.hid c1; have G1 := Lib.hid g1; have TH := Lib.hid th; have ST := Lib.hid st; have C2 := Lib.hid c2; have F2 := Lib.hid f2; have S2 := Lib.hid s2; have C3 := Lib.hid c3; have F3 := Lib.hid f3; have S3 := Lib.hid s3; have D2 := Lib.hid d2; have G2 := Lib.hid g2f
  have ix := i33 x; have ox := o33 x
  have ixl : (Try.prog.info? 33).map (·.size) = some x.row.toList.length := ix
  have zx : lt0.row.size = x.row.size := rfl
  generalize ((E k).first + 1) % 8 = f' at *
  generalize (E k).many - 1 = m' at *
  generalize (E k).first = f at *
  generalize (E k).many = m at *
  generalize boC (upB E k (takeB (E k))) nb = Z3 at *
  generalize boC E2 nb = Z2 at *
  generalize boC E1 nb = Z1 at *
  generalize boC E nb = Z0 at *
  generalize x.row = X at *
  have HL0 := Lib.hid hrow0
  generalize lt0.row = O at *
  clear d2 g2f c1 g1 th st c2 f2 s2 c3 f3 s3 hE1 hE2 hf1 hm2 e2 h1 h2 hok hm h hV hrow0 hx
  go_enter Try.func28, Try.ntmps28
  go_wp2
  rw [HV.out]
  refine QA.wp_region_a 9 10 (PB w B 76 Z0 [(n, 33, O)]) (PG w B 76 Z0 [(n, 33, O)] 33 O) (PG w B 76 Z0 [(n, 33, O)] 33 X) (by kernel_rfl) (by kernel_rfl) p0.drew ?_
  iterate 9
    (refine QA.wpA_step (by decide) (fun K hK => ?_)
     go_simp
     first
       | (refine hK _ ?_; clear hK K)
       | (refine ⟨?_, hK _ ?_⟩; decide; clear hK K)
       | ((first | (apply Exists.intro; refine ⟨?_, hK _ ?_⟩) | refine ⟨⟨undef, ?_⟩, hK _ ?_⟩)
          first
            | (apply QA.al_p; decide; (focus (intro gx wq hS hq; (cases hS); (first | (have cf := C1.out _ _ hq) | (have cf := C1.out _ _ hq.pb) | skip); first | (first | ((with_reducible refine QP.oat_load_mid (ty := 33) (x := .tmp 11) (b := B) (off := k * 35 + f * 4) ?_ ?_ X.toList _ (G1.out _ _ hq) Try.underlying33 ?_ ixl hq); rfl; rfl; rfl) | ((with_reducible refine QP.oat_load_mid (ty := 33) (x := .tmp 11) (b := B) (off := k * 35 + f * 4) ?_ ?_ X.toList _ (G1.out _ _ hq.pb) Try.underlying33 ?_ ixl hq); rfl; rfl; rfl)) | (unfold QP.oat; go_simp; first | done | exact ⟨by assumption, rfl⟩ | exact rfl | assumption | (fail)))))
            | (apply QA.al_o; decide; (first | (apply Or.inl; decide) | (apply Or.inr; (focus (intro wq hq; (first | (have cf := C1.out _ _ hq) | (have cf := C1.out _ _ hq.pb) | skip); first | (first | ((with_reducible refine QP.oat_load_mid (ty := 33) (x := .tmp 11) (b := B) (off := k * 35 + f * 4) ?_ ?_ X.toList _ (G1.out _ _ hq) Try.underlying33 ?_ ixl hq); rfl; rfl; rfl) | ((with_reducible refine QP.oat_load_mid (ty := 33) (x := .tmp 11) (b := B) (off := k * 35 + f * 4) ?_ ?_ X.toList _ (G1.out _ _ hq.pb) Try.underlying33 ?_ ixl hq); rfl; rfl; rfl)) | (unfold QP.oat; go_simp; first | done | exact ⟨by assumption, rfl⟩ | exact rfl | assumption | (fail)))))); (first | (apply Or.inl; decide) | (apply Or.inr; apply Or.inl; decide) | (apply Or.inr; apply Or.inr; (focus (intro gx wq hS hq; (cases hS); (first | (have cf := C1.out _ _ hq) | (have cf := C1.out _ _ hq.pb) | skip); first | (first | ((with_reducible refine QP.oat_load_mid (ty := 33) (x := .tmp 11) (b := B) (off := k * 35 + f * 4) ?_ ?_ X.toList _ (G1.out _ _ hq) Try.underlying33 ?_ ixl hq); rfl; rfl; rfl) | ((with_reducible refine QP.oat_load_mid (ty := 33) (x := .tmp 11) (b := B) (off := k * 35 + f * 4) ?_ ?_ X.toList _ (G1.out _ _ hq.pb) Try.underlying33 ?_ ixl hq); rfl; rfl; rfl)) | (unfold QP.oat; go_simp; first | done | exact ⟨by assumption, rfl⟩ | exact rfl | assumption | (fail)))))); (first | (apply Or.inl; decide) | (apply Or.inr; apply Or.inl; decide) | (apply Or.inr; apply Or.inr; (focus (intro gx wq hS hq; (cases hS); (first | (have cf := C1.out _ _ hq) | (have cf := C1.out _ _ hq.pb) | skip); first | (first | ((with_reducible refine QP.oat_load_mid (ty := 33) (x := .tmp 11) (b := B) (off := k * 35 + f * 4) ?_ ?_ X.toList _ (G1.out _ _ hq) Try.underlying33 ?_ ixl hq); rfl; rfl; rfl) | ((with_reducible refine QP.oat_load_mid (ty := 33) (x := .tmp 11) (b := B) (off := k * 35 + f * 4) ?_ ?_ X.toList _ (G1.out _ _ hq.pb) Try.underlying33 ?_ ixl hq); rfl; rfl; rfl)) | (unfold QP.oat; go_simp; first | done | exact ⟨by assumption, rfl⟩ | exact rfl | assumption | (fail)))))))
          clear hK K))
  refine QA.wpA_alloc (by decide) rfl ?_ ?_
  · intro g _ wq hq hsz
    unfold QP.oat
    go_simp
    exact HL0.out ▸ PG.of hq hsz 33 O
  intro gn _
  iterate 1
    (refine QA.wpA_step (by decide) (fun K hK => ?_)
     go_simp
     first
       | (refine hK _ ?_; clear hK K)
       | (refine ⟨?_, hK _ ?_⟩; decide; clear hK K)
       | ((first | (apply Exists.intro; refine ⟨?_, hK _ ?_⟩) | refine ⟨⟨undef, ?_⟩, hK _ ?_⟩)
          first
            | (apply QA.al_p; decide; (focus (intro gx wq hS hq; (cases hS); (skip); first | (((with_reducible refine QP.oat_store_row (ty := 33) (x := .tmp 3) (y := .tmp 12) (g := _) (cells := X) (t := 33) (old := O) ?_ ?_ ?_ hq.row ix zx ox (hq.setRow X)); rfl; rfl; rfl)) | (unfold QP.oat; go_simp; first | done | exact ⟨by assumption, rfl⟩ | exact rfl | assumption | (fail)))))
            | (apply QA.al_o; decide; (first | (apply Or.inl; decide) | (apply Or.inr; (focus (intro wq hq; (skip); first | (((with_reducible refine QP.oat_store_row (ty := 33) (x := .tmp 3) (y := .tmp 12) (g := _) (cells := X) (t := 33) (old := O) ?_ ?_ ?_ hq.row ix zx ox (hq.setRow X)); rfl; rfl; rfl)) | (unfold QP.oat; go_simp; first | done | exact ⟨by assumption, rfl⟩ | exact rfl | assumption | (fail)))))); (first | (apply Or.inl; decide) | (apply Or.inr; apply Or.inl; decide) | (apply Or.inr; apply Or.inr; (focus (intro gx wq hS hq; (cases hS); (skip); first | (((with_reducible refine QP.oat_store_row (ty := 33) (x := .tmp 3) (y := .tmp 12) (g := _) (cells := X) (t := 33) (old := O) ?_ ?_ ?_ hq.row ix zx ox (hq.setRow X)); rfl; rfl; rfl)) | (unfold QP.oat; go_simp; first | done | exact ⟨by assumption, rfl⟩ | exact rfl | assumption | (fail)))))); (first | (apply Or.inl; decide) | (apply Or.inr; apply Or.inl; decide) | (apply Or.inr; apply Or.inr; (focus (intro gx wq hS hq; (cases hS); (skip); first | (((with_reducible refine QP.oat_store_row (ty := 33) (x := .tmp 3) (y := .tmp 12) (g := _) (cells := X) (t := 33) (old := O) ?_ ?_ ?_ hq.row ix zx ox (hq.setRow X)); rfl; rfl; rfl)) | (unfold QP.oat; go_simp; first | done | exact ⟨by assumption, rfl⟩ | exact rfl | assumption | (fail)))))))
          clear hK K))
  refine QA.wpA_nil ?_
  rintro g2 rfl wz bz
  go_wp2_with fail
  refine QT.wp_region_p 9 (PG w B 76 Z0 [(n, 33, O)] 33 X g2) (PG w B 76 Z1 [(n, 33, O)] 33 X g2) (by kernel_rfl) (by kernel_rfl) bz.drew ?_
  iterate 10
    (refine QT.wpQ_step (fun K hK => ?_)
     go_simp
     first
       | (refine hK _ ?_; clear hK K)
       | (refine ⟨?_, hK _ ?_⟩; decide; clear hK K)
       | ((first | (apply Exists.intro; refine ⟨?_, hK _ ?_⟩) | refine ⟨⟨undef, ?_⟩, hK _ ?_⟩)
          first
            | (apply QT.al_p; decide; (focus (intro wq hq; (first | (have cf := C1.out _ _ hq.pb) | skip); first | (((with_reducible refine oat_store_mid (ty := 33) (x := .tmp 21) (y := .tmp 18) (b := B) (off := k * 35 + f * 4) (cells := #[.int .i64 0, .int .i64 0, .int .i64 0, .string ⟨#[]⟩]) ?_ ?_ ?_ (HL0.out ▸ TH.out _ _ hq.pb) (HL0.out ▸ i0) (HL0.out ▸ o0) (HL0.out ▸ ST.out _ _ _ hq)); rfl; rfl; rfl)) | (unfold QP.oat; go_simp; first | done | exact ⟨by assumption, rfl⟩ | exact rfl | assumption | (fail)))))
            | (apply QT.al_dep; decide; decide; (focus (intro wq hq; (first | (have cf := C1.out _ _ hq.pb) | skip); first | (((with_reducible refine oat_store_mid (ty := 33) (x := .tmp 21) (y := .tmp 18) (b := B) (off := k * 35 + f * 4) (cells := #[.int .i64 0, .int .i64 0, .int .i64 0, .string ⟨#[]⟩]) ?_ ?_ ?_ (HL0.out ▸ TH.out _ _ hq.pb) (HL0.out ▸ i0) (HL0.out ▸ o0) (HL0.out ▸ ST.out _ _ _ hq)); rfl; rfl; rfl)) | (unfold QP.oat; go_simp; first | done | exact ⟨by assumption, rfl⟩ | exact rfl | assumption | (fail)))))
            | (apply QT.al_bef; decide; decide; (focus (intro wq hq; (first | (have cf := C1.out _ _ hq.pb) | skip); first | (((with_reducible refine oat_store_mid (ty := 33) (x := .tmp 21) (y := .tmp 18) (b := B) (off := k * 35 + f * 4) (cells := #[.int .i64 0, .int .i64 0, .int .i64 0, .string ⟨#[]⟩]) ?_ ?_ ?_ (HL0.out ▸ TH.out _ _ hq.pb) (HL0.out ▸ i0) (HL0.out ▸ o0) (HL0.out ▸ ST.out _ _ _ hq)); rfl; rfl; rfl)) | (unfold QP.oat; go_simp; first | done | exact ⟨by assumption, rfl⟩ | exact rfl | assumption | (fail)))))
            | (apply QT.al_ok; decide; (focus (intro wq hq; (first | (have cf := C1.out _ _ hq.pb) | skip); first | (((with_reducible refine oat_store_mid (ty := 33) (x := .tmp 21) (y := .tmp 18) (b := B) (off := k * 35 + f * 4) (cells := #[.int .i64 0, .int .i64 0, .int .i64 0, .string ⟨#[]⟩]) ?_ ?_ ?_ (HL0.out ▸ TH.out _ _ hq.pb) (HL0.out ▸ i0) (HL0.out ▸ o0) (HL0.out ▸ ST.out _ _ _ hq)); rfl; rfl; rfl)) | (unfold QP.oat; go_simp; first | done | exact ⟨by assumption, rfl⟩ | exact rfl | assumption | (fail)))); (focus (intro wq hq; (first | (have cf := C1.out _ _ hq.pb) | skip); first | (((with_reducible refine oat_store_mid (ty := 33) (x := .tmp 21) (y := .tmp 18) (b := B) (off := k * 35 + f * 4) (cells := #[.int .i64 0, .int .i64 0, .int .i64 0, .string ⟨#[]⟩]) ?_ ?_ ?_ (HL0.out ▸ TH.out _ _ hq.pb) (HL0.out ▸ i0) (HL0.out ▸ o0) (HL0.out ▸ ST.out _ _ _ hq)); rfl; rfl; rfl)) | (unfold QP.oat; go_simp; first | done | exact ⟨by assumption, rfl⟩ | exact rfl | assumption | (fail)))))
          clear hK K))
  refine QT.wpQ_nil ?_
  intro wy b2
  have cf := C2.out _ _ b2.pb
  have ff := F2.out _ _ b2.pb
  have cm := D2.out _ _ b2.pb
  have fm := G2.out _ _ b2.pb
  have s3 := S3.out _ _ (S2.out _ _ b2.pb)
  have rX := s3.at g2 33 X (by simp)
  have rN := s3.at n 33 O (by simp)
  have k3 := (s3.sub (L' := [(n, 33, O)]) (by simp)).setRow (fun x hx => by simp at hx) X
  have K3 := Lib.hid k3
  clear s3 k3 b2
  go_wp2_with (first
    | (refine wpList_load_row (x := .tmp 3) (ty := 33) (g := g2) (cs := X) (t := 33) (fr := (0, 0)) ?_ ?_ ?_ _ rX Try.underlying33 rfl ix ?_; rfl; rfl; rfl)
    | (refine wpList_store_row (x := .tmp 2) (y := .tmp 38) (cells := X) (old := O) (t := 33) (ty := 33) (g := n) ?_ ?_ ?_ ?_ rN ix zx ox ?_; rfl; rfl; rfl; rfl)
    | fail)
  have hload := run_loadVar_row (P := Try.prog) _ n 33 33 X (0, 0) _ (K3.out.at n 33 X (by simp)) Try.underlying33 rfl ix
  exact bodyPost_ret (v := .agg X) (by simp [results, Try.results28, asAddr, Act.put, hload]) rfl ⟨rfl, K3.out.row, K3.out.but⟩
end Go.Proofs.Ytblbhnlmbmffkaa
