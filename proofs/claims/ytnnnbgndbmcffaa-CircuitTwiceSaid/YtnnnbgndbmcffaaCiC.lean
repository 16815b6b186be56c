/- Open of the circuit map where Check lets it pass: a key is there already, or the circuit comes in; the conditions are the ranges of the kinds and that there is room. -/
import Derived.Test.YtnnnbgndbmcffaaCiB
namespace Go.Proofs.Ytnnnbgndbmcffaa
open Go.RowKit
set_option linter.unusedVariables false

/-- what Open does where Check lets it pass -/
def Opn (m i o : Nat) (base rate : Int) (li : List (Ky × List Value)) (lo : List (Ky × Ky)) (a b : Lg) (C : List Value) (si so : Bool) (w : World) (e : Ending) (w' : World) : Prop :=
  (si = true ∨ so = true → e = .returned (.int .i64 4) ∧ Below w.heap.size w w') ∧
  (si = false → so = false → e = .returned (.int .i64 0) ∧ Cm m i o base rate (li ++ [(a.k, C)]) (lo ++ [(b.k, a.k)]) w' ∧ Bt [i, o] w w')
theorem none_of {κ α : Type} [DecidableEq κ] {l : List (κ × α)} {i : κ} {x : α} (h : (getM l i).isSome = false) : putM l i x = l ++ [(i, x)] :=
  (none_M (getM_none (by cases hg : getM l i with | none => rfl | some _ => rw [hg] at h; cases h))).2.1
section
variable {s : List Nat} {m i o : Nat} {base rate : Int} {li : List (Ky × List Value)} {lo : List (Ky × Ky)} {n : Nat} {X : Array Value} {w v v' : World}
theorem CO.putI (h : CO s m i o base rate li lo n X w v) {li' : List (Ky × List Value)} (h1 : IM KK mkC v' i li') (hb : M.But i v v') : CO (i :: s) m i o base rate li' lo n X w v' := by
  have old := h.old
  have ne := h.cm.ne
  refine ⟨⟨hb.row h.cm.hp ne.1, h1, h.cm.ho.but hb ne.2.2.symm, ne⟩, hb.row h.row (by omega), ?_, h.wn, ?_, old⟩
  · have b1 : Bt (i :: s) w v := ⟨h.bt.os, h.bt.tape, h.bt.output, h.bt.size, fun k hk hks => h.bt.block k hk (fun e => hks (List.mem_cons_of_mem _ e))⟩
    exact b1.trans (.ofBut hb List.mem_cons_self)
  · intro g hg
    rcases List.mem_cons.1 hg with rfl | hg
    · exact old.2.1
    · exact h.out g hg
theorem CO.putO (h : CO s m i o base rate li lo n X w v) {lo' : List (Ky × Ky)} (h1 : IM KK kv v' o lo') (hb : M.But o v v') : CO (o :: s) m i o base rate li lo' n X w v' := by
  have old := h.old
  have ne := h.cm.ne
  refine ⟨⟨hb.row h.cm.hp ne.2.1, h.cm.hi.but hb ne.2.2, h1, ne⟩, hb.row h.row (by omega), ?_, h.wn, ?_, old⟩
  · have b1 : Bt (o :: s) w v := ⟨h.bt.os, h.bt.tape, h.bt.output, h.bt.size, fun k hk hks => h.bt.block k hk (fun e => hks (List.mem_cons_of_mem _ e))⟩
    exact b1.trans (.ofBut hb List.mem_cons_self)
  · intro g hg
    rcases List.mem_cons.1 hg with rfl | hg
    · exact old.2.2
    · exact h.out g hg
end
theorem und67 : (match (Try.prog.underlying 67) with | some (.struct _) => true | _ => false) = true := by kernel_rfl
set_option maxRecDepth 100000 in
set_option maxHeartbeats 8000000 in
theorem open_ok {m i o : Nat} {base rate : Int} {li : List (Ky × List Value)} {lo : List (Ky × Ky)} {w : World} (h : Cm m i o base rate li lo w) (hb : U64 base) (hr : U64 rate) (a b : Lg) (ha : a.ok) (hbo : b.ok) (C : List Value) (hx : Cells C.toArray a b) (he : ckE base rate a b = 0)
    (hli : ∀ p ∈ li, Wd p.2) (hlen : li.length < 64) (si so : Bool) (hsi : (getM li a.k).isSome = si) (hso : (getM lo b.k).isSome = so) :
    Calls Try.prog 42 #[.pointer (some ⟨m, 0, none⟩), .agg C.toArray] w (Opn m i o base rate li lo a b C si so w) := by
  have c0 := CO.start h C.toArray
  obtain ⟨_, _, z0, z1, z2, z3, z4, z5, z6, z7⟩ := c0.c hx
  have ck := check_any c0.cm hb hr a b ha hbo
  rw [he] at ck
  obtain ⟨D, hD1, hD2, hD3⟩ := look_i (i := i) hli ha.k
  obtain ⟨F, hF1, hF2, hF3⟩ := look_o (o := o) (lo := lo) hbo.k
  rw [hsi] at hD3
  rw [hso] at hF3
  have ka : KK.ok a.k := ha.k; have kb : KK.ok b.k := hbo.k
  have fa : ∀ li' lo' s v, CO s m i o base rate li' lo' w.heap.size C.toArray w v → v.cell? ⟨m, 2, none⟩ = some (.map (some i)) ∧ v.cell? ⟨m, 3, none⟩ = some (.map (some o)) ∧ v.cell? ⟨w.heap.size, 0, none⟩ = some (.int .u32 a.k.1) ∧ v.cell? ⟨w.heap.size, 1, none⟩ = some (.int .u64 a.k.2) ∧ v.cell? ⟨w.heap.size, 4, none⟩ = some (.int .u32 b.k.1) ∧ v.cell? ⟨w.heap.size, 5, none⟩ = some (.int .u64 b.k.2) := fun li' lo' s v hv => by
    obtain ⟨y0, y1, y2, y3, _, _, y4, y5, _⟩ := hv.c hx
    exact ⟨y0, y1, y2, y3, y4, y5⟩
  have lki : ∀ v, CO [] m i o base rate li lo w.heap.size C.toArray w v → (Instr.lookup 126 (.map (some i)) (.agg #[.int .u32 a.k.1, .int .u64 a.k.2]) true).run Try.prog v = .ok (.tuple #[.agg D, .bool si]) v := fun v hv => hD3 v hv.cm.hi
  have lko : ∀ v, CO [] m i o base rate li lo w.heap.size C.toArray w v → (Instr.lookup 127 (.map (some o)) (.agg #[.int .u32 b.k.1, .int .u64 b.k.2]) true).run Try.prog v = .ok (.tuple #[.agg F, .bool so]) v := fun v hv => hF3 v hv.cm.ho
  have pi : si = false → ∀ v v', CO [] m i o base rate li lo w.heap.size C.toArray w v → IM KK mkC v' i (putM li a.k C) → M.But i v v' → CO [i] m i o base rate (li ++ [(a.k, C)]) lo w.heap.size C.toArray w v' := fun hs v v' hv h1 h2 => by
    rw [none_of (by rw [hsi]; exact hs)] at h1
    exact hv.putI h1 h2
  have po : so = false → ∀ v v', CO [i] m i o base rate (li ++ [(a.k, C)]) lo w.heap.size C.toArray w v → IM KK kv v' o (putM lo b.k a.k) → M.But o v v' → CO [o, i] m i o base rate (li ++ [(a.k, C)]) (lo ++ [(b.k, a.k)]) w.heap.size C.toArray w v' := fun hs v v' hv h1 h2 => by
    rw [none_of (by rw [hso]; exact hs)] at h1
    exact hv.putO h1 h2
  have iD := info67 hD1; have iF := info61 hF1
  have zD : Z67.size = D.size := by rw [hD1]; rfl
  have zF : Z61.size = F.size := by rw [hF1]; rfl
  have iX := info67 hx.size
  obtain ⟨V, hV⟩ : ∃ V, w.alloc (.cells C.toArray 67) = V := ⟨_, rfl⟩
  obtain ⟨n, hn⟩ : ∃ n, w.heap.size = n := ⟨_, rfl⟩
  have hle : decide ((64 : Int) ≤ ((li.length : Nat) : Int)) = false := by simp; omega
  have HV := Lib.hid hV; have HN := Lib.hid hn; have HL := Lib.hid hle
  rw [hV] at ck z0 z1 z2 z3 z4 z5 z6 z7
  rw [hV] at c0
  rw [hn] at c0 z0 z1 z2 z3 z4 z5 z6 z7 fa lki lko pi po
  have CK := Lib.hid ck; have C0 := Lib.hid c0; have FA := Lib.hid fa; have LKI := Lib.hid lki; have LKO := Lib.hid lko; have PI := Lib.hid pi; have PO := Lib.hid po; have KA := Lib.hid ka; have KB := Lib.hid kb
  have fin : ∀ v, CO [] m i o base rate li lo n C.toArray w v → Below w.heap.size w v := fun v hv => hv.bt.toBelow
  have fin2 : ∀ v, CO [o, i] m i o base rate (li ++ [(a.k, C)]) (lo ++ [(b.k, a.k)]) n C.toArray w v → Bt [i, o] w v := fun v hv => ⟨hv.bt.os, hv.bt.tape, hv.bt.output, hv.bt.size, fun k hk hks => hv.bt.block k hk (fun e => hks (by simp at e ⊢; exact e.symm))⟩
  have FIN := Lib.hid fin; have FIN2 := Lib.hid fin2
  generalize hXC : C.toArray = X at *
  have HXC := Lib.hid hXC
  obtain ⟨⟨k0, ki⟩, aa, ae⟩ := a
  obtain ⟨⟨k1, kj⟩, ba, be⟩ := b
  simp only [Lg.cells] at CK
  simp only at *
  clear h hV hn ha hbo hb hr hx he ck c0 fa lki lko pi po ka kb fin fin2 hD1 hF1 hle hlen hli hsi hso hXC hD3 hF3
  go_enter Try.func42, Try.ntmps42
  go_wp2_with (rw [HN.out]; simp only [HV.out])
  go_wp2_with fail
  refine (CK.out).mono ?_
  rintro e w1 ⟨rfl, q1⟩
  have c1 := C0.out.same q1
  clear z0 z1 z2 z3 z4 z5 z6 z7 q1
  go_wp2
  refine QA.wp_region_a 11 12 (fun v => CO [] m i o base rate li lo n X w v) (fun g v => CG [] m i o base rate li lo n X w 67 Z67 g v) (fun g v => CG [] m i o base rate li lo n X w 67 D g v) (by kernel_rfl) (by kernel_rfl) c1.drew ?_
  iterate 11
    (refine QA.wpA_step (by decide) (fun K hK => ?_)
     go_simp
     first
       | (refine hK _ ?_; clear hK K)
       | (refine ⟨?_, hK _ ?_⟩; decide; clear hK K)
       | ((first | (apply Exists.intro; refine ⟨?_, hK _ ?_⟩) | refine ⟨⟨undef, ?_⟩, hK _ ?_⟩)
          first
            | (apply QA.al_p; decide; (focus (intro gx wq hS hq; (cases hS); (first | (have qq := FA.out _ _ _ _ hq; obtain ⟨x0, x1, x2, x3, x4, x5⟩ := qq; have lk := LKI.out _ hq) | (have qq := FA.out _ _ _ _ hq.co; obtain ⟨x0, x1, x2, x3, x4, x5⟩ := qq; have lk := LKI.out _ hq.co) | skip); (unfold QP.oat; go_simp; first | done | exact ⟨by assumption, rfl⟩ | exact rfl | assumption | (fail)))))
            | (apply QA.al_o; decide; (first | (apply Or.inl; decide) | (apply Or.inr; (focus (intro wq hq; (first | (have qq := FA.out _ _ _ _ hq; obtain ⟨x0, x1, x2, x3, x4, x5⟩ := qq; have lk := LKI.out _ hq) | (have qq := FA.out _ _ _ _ hq.co; obtain ⟨x0, x1, x2, x3, x4, x5⟩ := qq; have lk := LKI.out _ hq.co) | skip); (unfold QP.oat; go_simp; first | done | exact ⟨by assumption, rfl⟩ | exact rfl | assumption | (fail)))))); (first | (apply Or.inl; decide) | (apply Or.inr; apply Or.inl; decide) | (apply Or.inr; apply Or.inr; (focus (intro gx wq hS hq; (cases hS); (first | (have qq := FA.out _ _ _ _ hq; obtain ⟨x0, x1, x2, x3, x4, x5⟩ := qq; have lk := LKI.out _ hq) | (have qq := FA.out _ _ _ _ hq.co; obtain ⟨x0, x1, x2, x3, x4, x5⟩ := qq; have lk := LKI.out _ hq.co) | skip); (unfold QP.oat; go_simp; first | done | exact ⟨by assumption, rfl⟩ | exact rfl | assumption | (fail)))))); (first | (apply Or.inl; decide) | (apply Or.inr; apply Or.inl; decide) | (apply Or.inr; apply Or.inr; (focus (intro gx wq hS hq; (cases hS); (first | (have qq := FA.out _ _ _ _ hq; obtain ⟨x0, x1, x2, x3, x4, x5⟩ := qq; have lk := LKI.out _ hq) | (have qq := FA.out _ _ _ _ hq.co; obtain ⟨x0, x1, x2, x3, x4, x5⟩ := qq; have lk := LKI.out _ hq.co) | skip); (unfold QP.oat; go_simp; first | done | exact ⟨by assumption, rfl⟩ | exact rfl | assumption | (fail)))))))
          clear hK K))
  refine QA.wpA_alloc (by decide) rfl ?_ ?_
  · intro g _ wq hq hsz
    unfold QP.oat
    go_simp
    exact CG.of hq hsz 67 Z67
  intro gn _
  iterate 1
    (refine QA.wpA_step (by decide) (fun K hK => ?_)
     go_simp
     first
       | (refine hK _ ?_; clear hK K)
       | (refine ⟨?_, hK _ ?_⟩; decide; clear hK K)
       | ((first | (apply Exists.intro; refine ⟨?_, hK _ ?_⟩) | refine ⟨⟨undef, ?_⟩, hK _ ?_⟩)
          first
            | (apply QA.al_p; decide; (focus (intro gx wq hS hq; (cases hS); (have hqr := hq.rowE); first | (((with_reducible refine QP.oat_store_row (ty := 67) (x := .tmp 6) (y := .tmp 28) (g := _) (cells := D) (t := 67) (old := Z67) ?_ ?_ ?_ hqr iD zD hD2 (hq.set D)); rfl; rfl; rfl)) | (unfold QP.oat; go_simp; first | done | exact ⟨by assumption, rfl⟩ | exact rfl | assumption | (fail)))))
            | (apply QA.al_o; decide; (first | (apply Or.inl; decide) | (apply Or.inr; (focus (intro wq hq; (have hqr := hq.rowE); first | (((with_reducible refine QP.oat_store_row (ty := 67) (x := .tmp 6) (y := .tmp 28) (g := _) (cells := D) (t := 67) (old := Z67) ?_ ?_ ?_ hqr iD zD hD2 (hq.set D)); rfl; rfl; rfl)) | (unfold QP.oat; go_simp; first | done | exact ⟨by assumption, rfl⟩ | exact rfl | assumption | (fail)))))); (first | (apply Or.inl; decide) | (apply Or.inr; apply Or.inl; decide) | (apply Or.inr; apply Or.inr; (focus (intro gx wq hS hq; (cases hS); (have hqr := hq.rowE); first | (((with_reducible refine QP.oat_store_row (ty := 67) (x := .tmp 6) (y := .tmp 28) (g := _) (cells := D) (t := 67) (old := Z67) ?_ ?_ ?_ hqr iD zD hD2 (hq.set D)); rfl; rfl; rfl)) | (unfold QP.oat; go_simp; first | done | exact ⟨by assumption, rfl⟩ | exact rfl | assumption | (fail)))))); (first | (apply Or.inl; decide) | (apply Or.inr; apply Or.inl; decide) | (apply Or.inr; apply Or.inr; (focus (intro gx wq hS hq; (cases hS); (have hqr := hq.rowE); first | (((with_reducible refine QP.oat_store_row (ty := 67) (x := .tmp 6) (y := .tmp 28) (g := _) (cells := D) (t := 67) (old := Z67) ?_ ?_ ?_ hqr iD zD hD2 (hq.set D)); rfl; rfl; rfl)) | (unfold QP.oat; go_simp; first | done | exact ⟨by assumption, rfl⟩ | exact rfl | assumption | (fail)))))))
          clear hK K))
  iterate 1
    (refine QA.wpA_step (by decide) (fun K hK => ?_)
     go_simp
     first
       | (refine hK _ ?_; clear hK K)
       | (refine ⟨?_, hK _ ?_⟩; decide; clear hK K)
       | ((first | (apply Exists.intro; refine ⟨?_, hK _ ?_⟩) | refine ⟨⟨undef, ?_⟩, hK _ ?_⟩)
          first
            | (apply QA.al_p; decide; (focus (intro gx wq hS hq; (cases hS); (skip); (unfold QP.oat; go_simp; first | done | exact ⟨by assumption, rfl⟩ | exact rfl | assumption | (fail)))))
            | (apply QA.al_o; decide; (first | (apply Or.inl; decide) | (apply Or.inr; (focus (intro wq hq; (skip); (unfold QP.oat; go_simp; first | done | exact ⟨by assumption, rfl⟩ | exact rfl | assumption | (fail)))))); (first | (apply Or.inl; decide) | (apply Or.inr; apply Or.inl; decide) | (apply Or.inr; apply Or.inr; (focus (intro gx wq hS hq; (cases hS); (skip); (unfold QP.oat; go_simp; first | done | exact ⟨by assumption, rfl⟩ | exact rfl | assumption | (fail)))))); (first | (apply Or.inl; decide) | (apply Or.inr; apply Or.inl; decide) | (apply Or.inr; apply Or.inr; (focus (intro gx wq hS hq; (cases hS); (skip); (unfold QP.oat; go_simp; first | done | exact ⟨by assumption, rfl⟩ | exact rfl | assumption | (fail)))))))
          clear hK K))
  refine QA.wpA_nil ?_
  rintro g2 rfl wz bz
  have c2 := bz.co
  clear bz c1
  go_wp2
  refine QA.wp_region_a 11 12 (fun v => CO [] m i o base rate li lo n X w v) (fun g v => CG [] m i o base rate li lo n X w 61 Z61 g v) (fun g v => CG [] m i o base rate li lo n X w 61 F g v) (by kernel_rfl) (by kernel_rfl) c2.drew ?_
  iterate 11
    (refine QA.wpA_step (by decide) (fun K hK => ?_)
     go_simp
     first
       | (refine hK _ ?_; clear hK K)
       | (refine ⟨?_, hK _ ?_⟩; decide; clear hK K)
       | ((first | (apply Exists.intro; refine ⟨?_, hK _ ?_⟩) | refine ⟨⟨undef, ?_⟩, hK _ ?_⟩)
          first
            | (apply QA.al_p; decide; (focus (intro gx wq hS hq; (cases hS); (first | (have qq := FA.out _ _ _ _ hq; obtain ⟨x0, x1, x2, x3, x4, x5⟩ := qq; have lk := LKO.out _ hq) | (have qq := FA.out _ _ _ _ hq.co; obtain ⟨x0, x1, x2, x3, x4, x5⟩ := qq; have lk := LKO.out _ hq.co) | skip); (unfold QP.oat; go_simp; first | done | exact ⟨by assumption, rfl⟩ | exact rfl | assumption | (fail)))))
            | (apply QA.al_o; decide; (first | (apply Or.inl; decide) | (apply Or.inr; (focus (intro wq hq; (first | (have qq := FA.out _ _ _ _ hq; obtain ⟨x0, x1, x2, x3, x4, x5⟩ := qq; have lk := LKO.out _ hq) | (have qq := FA.out _ _ _ _ hq.co; obtain ⟨x0, x1, x2, x3, x4, x5⟩ := qq; have lk := LKO.out _ hq.co) | skip); (unfold QP.oat; go_simp; first | done | exact ⟨by assumption, rfl⟩ | exact rfl | assumption | (fail)))))); (first | (apply Or.inl; decide) | (apply Or.inr; apply Or.inl; decide) | (apply Or.inr; apply Or.inr; (focus (intro gx wq hS hq; (cases hS); (first | (have qq := FA.out _ _ _ _ hq; obtain ⟨x0, x1, x2, x3, x4, x5⟩ := qq; have lk := LKO.out _ hq) | (have qq := FA.out _ _ _ _ hq.co; obtain ⟨x0, x1, x2, x3, x4, x5⟩ := qq; have lk := LKO.out _ hq.co) | skip); (unfold QP.oat; go_simp; first | done | exact ⟨by assumption, rfl⟩ | exact rfl | assumption | (fail)))))); (first | (apply Or.inl; decide) | (apply Or.inr; apply Or.inl; decide) | (apply Or.inr; apply Or.inr; (focus (intro gx wq hS hq; (cases hS); (first | (have qq := FA.out _ _ _ _ hq; obtain ⟨x0, x1, x2, x3, x4, x5⟩ := qq; have lk := LKO.out _ hq) | (have qq := FA.out _ _ _ _ hq.co; obtain ⟨x0, x1, x2, x3, x4, x5⟩ := qq; have lk := LKO.out _ hq.co) | skip); (unfold QP.oat; go_simp; first | done | exact ⟨by assumption, rfl⟩ | exact rfl | assumption | (fail)))))))
          clear hK K))
  refine QA.wpA_alloc (by decide) rfl ?_ ?_
  · intro g _ wq hq hsz
    unfold QP.oat
    go_simp
    exact CG.of hq hsz 61 Z61
  intro gn2 _
  iterate 1
    (refine QA.wpA_step (by decide) (fun K hK => ?_)
     go_simp
     first
       | (refine hK _ ?_; clear hK K)
       | (refine ⟨?_, hK _ ?_⟩; decide; clear hK K)
       | ((first | (apply Exists.intro; refine ⟨?_, hK _ ?_⟩) | refine ⟨⟨undef, ?_⟩, hK _ ?_⟩)
          first
            | (apply QA.al_p; decide; (focus (intro gx wq hS hq; (cases hS); (have hqr := hq.rowE); first | (((with_reducible refine QP.oat_store_row (ty := 61) (x := .tmp 8) (y := .tmp 39) (g := _) (cells := F) (t := 61) (old := Z61) ?_ ?_ ?_ hqr iF zF hF2 (hq.set F)); rfl; rfl; rfl)) | (unfold QP.oat; go_simp; first | done | exact ⟨by assumption, rfl⟩ | exact rfl | assumption | (fail)))))
            | (apply QA.al_o; decide; (first | (apply Or.inl; decide) | (apply Or.inr; (focus (intro wq hq; (have hqr := hq.rowE); first | (((with_reducible refine QP.oat_store_row (ty := 61) (x := .tmp 8) (y := .tmp 39) (g := _) (cells := F) (t := 61) (old := Z61) ?_ ?_ ?_ hqr iF zF hF2 (hq.set F)); rfl; rfl; rfl)) | (unfold QP.oat; go_simp; first | done | exact ⟨by assumption, rfl⟩ | exact rfl | assumption | (fail)))))); (first | (apply Or.inl; decide) | (apply Or.inr; apply Or.inl; decide) | (apply Or.inr; apply Or.inr; (focus (intro gx wq hS hq; (cases hS); (have hqr := hq.rowE); first | (((with_reducible refine QP.oat_store_row (ty := 61) (x := .tmp 8) (y := .tmp 39) (g := _) (cells := F) (t := 61) (old := Z61) ?_ ?_ ?_ hqr iF zF hF2 (hq.set F)); rfl; rfl; rfl)) | (unfold QP.oat; go_simp; first | done | exact ⟨by assumption, rfl⟩ | exact rfl | assumption | (fail)))))); (first | (apply Or.inl; decide) | (apply Or.inr; apply Or.inl; decide) | (apply Or.inr; apply Or.inr; (focus (intro gx wq hS hq; (cases hS); (have hqr := hq.rowE); first | (((with_reducible refine QP.oat_store_row (ty := 61) (x := .tmp 8) (y := .tmp 39) (g := _) (cells := F) (t := 61) (old := Z61) ?_ ?_ ?_ hqr iF zF hF2 (hq.set F)); rfl; rfl; rfl)) | (unfold QP.oat; go_simp; first | done | exact ⟨by assumption, rfl⟩ | exact rfl | assumption | (fail)))))))
          clear hK K))
  iterate 1
    (refine QA.wpA_step (by decide) (fun K hK => ?_)
     go_simp
     first
       | (refine hK _ ?_; clear hK K)
       | (refine ⟨?_, hK _ ?_⟩; decide; clear hK K)
       | ((first | (apply Exists.intro; refine ⟨?_, hK _ ?_⟩) | refine ⟨⟨undef, ?_⟩, hK _ ?_⟩)
          first
            | (apply QA.al_p; decide; (focus (intro gx wq hS hq; (cases hS); (skip); (unfold QP.oat; go_simp; first | done | exact ⟨by assumption, rfl⟩ | exact rfl | assumption | (fail)))))
            | (apply QA.al_o; decide; (first | (apply Or.inl; decide) | (apply Or.inr; (focus (intro wq hq; (skip); (unfold QP.oat; go_simp; first | done | exact ⟨by assumption, rfl⟩ | exact rfl | assumption | (fail)))))); (first | (apply Or.inl; decide) | (apply Or.inr; apply Or.inl; decide) | (apply Or.inr; apply Or.inr; (focus (intro gx wq hS hq; (cases hS); (skip); (unfold QP.oat; go_simp; first | done | exact ⟨by assumption, rfl⟩ | exact rfl | assumption | (fail)))))); (first | (apply Or.inl; decide) | (apply Or.inr; apply Or.inl; decide) | (apply Or.inr; apply Or.inr; (focus (intro gx wq hS hq; (cases hS); (skip); (unfold QP.oat; go_simp; first | done | exact ⟨by assumption, rfl⟩ | exact rfl | assumption | (fail)))))))
          clear hK K))
  refine QA.wpA_nil ?_
  rintro g3 rfl wz2 bz
  have c3 := bz.co
  clear bz c2
  have yes : si = true ∨ so = true → Opn m i o base rate li lo ⟨(k0, ki), aa, ae⟩ ⟨(k1, kj), ba, be⟩ C si so w (.returned (.int .i64 4)) wz2 := fun hh => ⟨fun _ => ⟨rfl, FIN.out _ c3⟩, fun h1 h2 => by rcases hh with hh | hh <;> (first | (rw [h1] at hh; cases hh) | (rw [h2] at hh; cases hh))⟩
  have no : ∀ v, CO [o, i] m i o base rate (li ++ [((k0, ki), C)]) (lo ++ [((k1, kj), (k0, ki))]) n X w v → si = false → so = false → Opn m i o base rate li lo ⟨(k0, ki), aa, ae⟩ ⟨(k1, kj), ba, be⟩ C si so w (.returned (.int .i64 0)) v := fun v hv h1 h2 => ⟨fun hh => by rcases hh with hh | hh <;> (first | (rw [h1] at hh; cases hh) | (rw [h2] at hh; cases hh)), fun _ _ => ⟨rfl, hv.cm, FIN2.out _ hv⟩⟩
  have YES := Lib.hid yes; have NO := Lib.hid no
  clear yes no
  cases si
  · cases so
    · obtain ⟨_, _, y0, _⟩ := c3.cm.c
      have y1 := (FA.out _ _ _ _ c3).1
      have hle := HL.out
      go_wp2_with (at_len; refine wpList_len_im rfl _ 126 67 rfl Try.underlying126 c3.cm.hi ?a1 ?_)
      go_wp2
      clear hle
      refine QT.wp_region_p 8 (fun v => CO [] m i o base rate li lo n X w v) (fun v => CO [i] m i o base rate (li ++ [((k0, ki), C)]) lo n X w v) (by kernel_rfl) (by kernel_rfl) c3.drew ?_
      iterate 9
        (refine QT.wpQ_step (fun K hK => ?_)
         go_simp
         first
           | (refine hK _ ?_; clear hK K)
           | (refine ⟨?_, hK _ ?_⟩; decide; clear hK K)
           | ((first | (apply Exists.intro; refine ⟨?_, hK _ ?_⟩) | refine ⟨⟨undef, ?_⟩, hK _ ?_⟩)
              first
                | (apply QT.al_p; decide; (focus (intro wq hq; (have qq := FA.out _ _ _ _ hq; obtain ⟨x0, x1, x2, x3, x4, x5⟩ := qq; have hqr := hq.rowE; have him := hq.cm.hi; have pi := PI.out (by first | rfl | trivial) wq); first | (first | ((with_reducible refine QP.oat_load_row (ty := 67) (x := .tmp 3) (g := n) (t := 67) (cs := X) (fr := (0, 0)) ?_ ?_ _ hqr Try.underlying67 ?_ iX hq); rfl; rfl; rfl) | ((with_reducible refine oat_mapUpdate (m := .tmp 56) (x := .tmp 59) (v := .tmp 60) (t := 126) (e := 67) ?_ (k0, ki) C ?_ ?_ ?_ Try.underlying126 him KA.out (fun w' h1 h2 => pi w' hq h1 h2)); rfl; rfl; rfl; (rw [← HXC.out]; rfl))) | (unfold QP.oat; go_simp; first | done | exact ⟨by assumption, rfl⟩ | exact rfl | assumption | (fail)))))
                | (apply QT.al_dep; decide; decide; (focus (intro wq hq; (have qq := FA.out _ _ _ _ hq; obtain ⟨x0, x1, x2, x3, x4, x5⟩ := qq; have hqr := hq.rowE; have him := hq.cm.hi; have pi := PI.out (by first | rfl | trivial) wq); first | (first | ((with_reducible refine QP.oat_load_row (ty := 67) (x := .tmp 3) (g := n) (t := 67) (cs := X) (fr := (0, 0)) ?_ ?_ _ hqr Try.underlying67 ?_ iX hq); rfl; rfl; rfl) | ((with_reducible refine oat_mapUpdate (m := .tmp 56) (x := .tmp 59) (v := .tmp 60) (t := 126) (e := 67) ?_ (k0, ki) C ?_ ?_ ?_ Try.underlying126 him KA.out (fun w' h1 h2 => pi w' hq h1 h2)); rfl; rfl; rfl; (rw [← HXC.out]; rfl))) | (unfold QP.oat; go_simp; first | done | exact ⟨by assumption, rfl⟩ | exact rfl | assumption | (fail)))))
                | (apply QT.al_bef; decide; decide; (focus (intro wq hq; (have qq := FA.out _ _ _ _ hq; obtain ⟨x0, x1, x2, x3, x4, x5⟩ := qq; have hqr := hq.rowE; have him := hq.cm.hi; have pi := PI.out (by first | rfl | trivial) wq); first | (first | ((with_reducible refine QP.oat_load_row (ty := 67) (x := .tmp 3) (g := n) (t := 67) (cs := X) (fr := (0, 0)) ?_ ?_ _ hqr Try.underlying67 ?_ iX hq); rfl; rfl; rfl) | ((with_reducible refine oat_mapUpdate (m := .tmp 56) (x := .tmp 59) (v := .tmp 60) (t := 126) (e := 67) ?_ (k0, ki) C ?_ ?_ ?_ Try.underlying126 him KA.out (fun w' h1 h2 => pi w' hq h1 h2)); rfl; rfl; rfl; (rw [← HXC.out]; rfl))) | (unfold QP.oat; go_simp; first | done | exact ⟨by assumption, rfl⟩ | exact rfl | assumption | (fail)))))
                | (apply QT.al_ok; decide; (focus (intro wq hq; (have qq := FA.out _ _ _ _ hq; obtain ⟨x0, x1, x2, x3, x4, x5⟩ := qq; have hqr := hq.rowE; have him := hq.cm.hi; have pi := PI.out (by first | rfl | trivial) wq); first | (first | ((with_reducible refine QP.oat_load_row (ty := 67) (x := .tmp 3) (g := n) (t := 67) (cs := X) (fr := (0, 0)) ?_ ?_ _ hqr Try.underlying67 ?_ iX hq); rfl; rfl; rfl) | ((with_reducible refine oat_mapUpdate (m := .tmp 56) (x := .tmp 59) (v := .tmp 60) (t := 126) (e := 67) ?_ (k0, ki) C ?_ ?_ ?_ Try.underlying126 him KA.out (fun w' h1 h2 => pi w' hq h1 h2)); rfl; rfl; rfl; (rw [← HXC.out]; rfl))) | (unfold QP.oat; go_simp; first | done | exact ⟨by assumption, rfl⟩ | exact rfl | assumption | (fail)))); (focus (intro wq hq; (have qq := FA.out _ _ _ _ hq; obtain ⟨x0, x1, x2, x3, x4, x5⟩ := qq; have hqr := hq.rowE; have him := hq.cm.hi; have pi := PI.out (by first | rfl | trivial) wq); first | (first | ((with_reducible refine QP.oat_load_row (ty := 67) (x := .tmp 3) (g := n) (t := 67) (cs := X) (fr := (0, 0)) ?_ ?_ _ hqr Try.underlying67 ?_ iX hq); rfl; rfl; rfl) | ((with_reducible refine oat_mapUpdate (m := .tmp 56) (x := .tmp 59) (v := .tmp 60) (t := 126) (e := 67) ?_ (k0, ki) C ?_ ?_ ?_ Try.underlying126 him KA.out (fun w' h1 h2 => pi w' hq h1 h2)); rfl; rfl; rfl; (rw [← HXC.out]; rfl))) | (unfold QP.oat; go_simp; first | done | exact ⟨by assumption, rfl⟩ | exact rfl | assumption | (fail)))))
              clear hK K))
      refine QT.wpQ_nil ?_
      intro wz3 c4
      clear c3
      go_wp2
      refine QT.wp_region_p 10 (fun v => CO [i] m i o base rate (li ++ [((k0, ki), C)]) lo n X w v) (fun v => CO [o, i] m i o base rate (li ++ [((k0, ki), C)]) (lo ++ [((k1, kj), (k0, ki))]) n X w v) (by kernel_rfl) (by kernel_rfl) c4.drew ?_
      iterate 11
        (refine QT.wpQ_step (fun K hK => ?_)
         go_simp
         first
           | (refine hK _ ?_; clear hK K)
           | (refine ⟨?_, hK _ ?_⟩; decide; clear hK K)
           | ((first | (apply Exists.intro; refine ⟨?_, hK _ ?_⟩) | refine ⟨⟨undef, ?_⟩, hK _ ?_⟩)
              first
                | (apply QT.al_p; decide; (focus (intro wq hq; (have qq := FA.out _ _ _ _ hq; obtain ⟨x0, x1, x2, x3, x4, x5⟩ := qq; have him := hq.cm.ho; have po := PO.out (by first | rfl | trivial) wq); first | (((with_reducible refine oat_mapUpdate (m := .tmp 64) (x := .tmp 67) (v := .tmp 70) (t := 127) (e := 61) ?_ (k1, kj) (k0, ki) ?_ ?_ ?_ Try.underlying127 him KB.out (fun w' h1 h2 => po w' hq h1 h2)); rfl; rfl; rfl; rfl)) | (unfold QP.oat; go_simp; first | done | exact ⟨by assumption, rfl⟩ | exact rfl | assumption | (fail)))))
                | (apply QT.al_dep; decide; decide; (focus (intro wq hq; (have qq := FA.out _ _ _ _ hq; obtain ⟨x0, x1, x2, x3, x4, x5⟩ := qq; have him := hq.cm.ho; have po := PO.out (by first | rfl | trivial) wq); first | (((with_reducible refine oat_mapUpdate (m := .tmp 64) (x := .tmp 67) (v := .tmp 70) (t := 127) (e := 61) ?_ (k1, kj) (k0, ki) ?_ ?_ ?_ Try.underlying127 him KB.out (fun w' h1 h2 => po w' hq h1 h2)); rfl; rfl; rfl; rfl)) | (unfold QP.oat; go_simp; first | done | exact ⟨by assumption, rfl⟩ | exact rfl | assumption | (fail)))))
                | (apply QT.al_bef; decide; decide; (focus (intro wq hq; (have qq := FA.out _ _ _ _ hq; obtain ⟨x0, x1, x2, x3, x4, x5⟩ := qq; have him := hq.cm.ho; have po := PO.out (by first | rfl | trivial) wq); first | (((with_reducible refine oat_mapUpdate (m := .tmp 64) (x := .tmp 67) (v := .tmp 70) (t := 127) (e := 61) ?_ (k1, kj) (k0, ki) ?_ ?_ ?_ Try.underlying127 him KB.out (fun w' h1 h2 => po w' hq h1 h2)); rfl; rfl; rfl; rfl)) | (unfold QP.oat; go_simp; first | done | exact ⟨by assumption, rfl⟩ | exact rfl | assumption | (fail)))))
                | (apply QT.al_ok; decide; (focus (intro wq hq; (have qq := FA.out _ _ _ _ hq; obtain ⟨x0, x1, x2, x3, x4, x5⟩ := qq; have him := hq.cm.ho; have po := PO.out (by first | rfl | trivial) wq); first | (((with_reducible refine oat_mapUpdate (m := .tmp 64) (x := .tmp 67) (v := .tmp 70) (t := 127) (e := 61) ?_ (k1, kj) (k0, ki) ?_ ?_ ?_ Try.underlying127 him KB.out (fun w' h1 h2 => po w' hq h1 h2)); rfl; rfl; rfl; rfl)) | (unfold QP.oat; go_simp; first | done | exact ⟨by assumption, rfl⟩ | exact rfl | assumption | (fail)))); (focus (intro wq hq; (have qq := FA.out _ _ _ _ hq; obtain ⟨x0, x1, x2, x3, x4, x5⟩ := qq; have him := hq.cm.ho; have po := PO.out (by first | rfl | trivial) wq); first | (((with_reducible refine oat_mapUpdate (m := .tmp 64) (x := .tmp 67) (v := .tmp 70) (t := 127) (e := 61) ?_ (k1, kj) (k0, ki) ?_ ?_ ?_ Try.underlying127 him KB.out (fun w' h1 h2 => po w' hq h1 h2)); rfl; rfl; rfl; rfl)) | (unfold QP.oat; go_simp; first | done | exact ⟨by assumption, rfl⟩ | exact rfl | assumption | (fail)))))
              clear hK K))
      refine QT.wpQ_nil ?_
      intro wz4 c5
      clear c4
      go_wp2
      go_ret
      exact NO.out _ c5 (by first | rfl | trivial) (by first | rfl | trivial)
    · go_wp2
      go_ret
      exact YES.out (.inr trivial)
  · cases so
    · go_wp2
      go_ret
      exact YES.out (.inl trivial)
    · go_wp2
      go_ret
      exact YES.out (.inl trivial)
end Go.Proofs.Ytnnnbgndbmcffaa
