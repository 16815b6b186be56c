/- What digest's blocks returns: what the blocks of a text come to, one behind the other; the condition is that the tables are laid. -/
import Derived.Test.YtiilgkhndfnkgaaDoorDgC
import Derived.Test.YtiilgkhndfnkgaaDoorDgD
namespace Go.Proofs.YtiilgkhndfnkgaaDoor
open Go.RowKit
set_option linter.unusedVariables false

/-- the words lie in block n, the result's in n + 1 -/
structure BC (n : Nat) (w : World) (h : Sha.St) (v : World) : Prop where
  r0 : v.heap[n]? = some (.cells (stV h) 81 (0, 0))
  r1 : v.heap[n + 1]? = some (.cells Z8 81 (0, 0))
  below : Below n w v
theorem BC.drew {n : Nat} {w : World} {h : Sha.St} {v : World} (c : BC n w h v) : BC n w h v.drew := ⟨c.r0, c.r1, c.below.drew⟩
theorem BC.same {n : Nat} {w : World} {h : Sha.St} {v v' : World} (c : BC n w h v) (hb : Below v.heap.size v v') : BC n w h v' :=
  ⟨M.RowAt.call c.r0 hb, M.RowAt.call c.r1 hb, c.below.trans (hb.mono (by have := M.RowAt.lt c.r0; omega))⟩
theorem BC.set {n : Nat} {w : World} {h h' : Sha.St} {v : World} (c : BC n w h v) : BC n w h' (v.setRow n (stV h')) :=
  ⟨M.RowAt.setRow c.r0 _, M.RowAt.farRow c.r1 (by omega) _, M.below_setRow c.below (Nat.le_refl _)⟩
theorem st_size (h : Sha.St) : (stV h).size = 8 := M.rowF_size
theorem st_info (h : Sha.St) : (Tryd.prog.info? 81).map (·.size) = some (stV h).size := by rw [st_size]; kernel_rfl

theorem cut_front (b : ByteArray) (i : Nat) (h : i + 64 ≤ b.size) : (b.extract i b.size).extract 0 64 = b.extract i (i + 64) := by
  apply ByteArray.ext
  simp
  congr 1
  have : b.data.size = b.size := rfl
  omega
theorem cut_back (b : ByteArray) (i : Nat) : (b.extract i b.size).extract 64 (b.extract i b.size).size = b.extract (i + 64) b.size := by
  apply ByteArray.ext
  simp
  have : b.data.size = b.size := rfl
  congr 1 <;> omega
theorem cut_all (b : ByteArray) : b.extract 0 b.size = b := by
  apply ByteArray.ext
  simp

set_option maxRecDepth 100000 in
set_option maxHeartbeats 2000000 in
theorem blocks_any (s : Sha.St) (t : ByteArray) (w : World) (hs : s.ok) (ht : Tabs w) (htl : t.size ≤ 1000000000000000) :
    Calls Tryd.prog 36 #[.agg (stV s), .string t] w fun e w' => e = .returned (.agg (stV (Sha.blk s t (t.size / 64)))) ∧ Below w.heap.size w w' := by
  obtain ⟨n, hn⟩ : ∃ n, w.heap.size = n := ⟨_, rfl⟩
  have HN := Lib.hid hn
  have h1n : 1 < n := hn ▸ ht.lt
  obtain ⟨C, hC⟩ : ∃ C, stV s = C := ⟨_, rfl⟩
  obtain ⟨v0, hv0⟩ : ∃ v0, (w.alloc (.cells C 81)).alloc (.cells #[.int .u32 0, .int .u32 0, .int .u32 0, .int .u32 0, .int .u32 0, .int .u32 0, .int .u32 0, .int .u32 0] 81) = v0 := ⟨_, rfl⟩
  have c0 : BC n w s v0 := by
    rw [← hv0, ← hC]
    subst hn
    have a1 := M.RowAt.new w 81 (stV s)
    have a2 := M.RowAt.new (w.alloc (.cells (stV s) 81)) 81 Z8
    rw [World.size_alloc] at a2
    exact ⟨a1.alloc _, a2, ((Below.refl _ _).alloc (Nat.le_refl _) _).alloc (by simp) _⟩
  have T1 : ∀ v, Below n w v → Tabs v := fun v hv => ht.below hv h1n
  have HT := Lib.hid T1
  have HC := Lib.hid hC
  rw [hC]
  have HV := Lib.hid hv0
  clear hv0 hC T1 ht
  have t0 : t = t.extract 0 t.size := (cut_all t).symm
  have T0 := Lib.hid t0
  clear t0
  go_enter Tryd.func36, Tryd.ntmps36
  go_wp2
  rw [HV.out]
  clear hn
  go_loopg [1] (t.size / 64) (fun m u v => ∃ (k : Nat), m + k = t.size / 64 ∧ u = .string (t.extract (64 * k) t.size) ∧ BC n w (Sha.blk s t k) v)
  case atStart => exact ⟨0, by omega, by rw [Nat.mul_zero, ← T0.out], c0⟩
  case round =>
    clear c0
    obtain ⟨k, hm, rfl, bc⟩ := hrel
    have hsz : (t.extract (64 * k) t.size).size = t.size - 64 * k := by simp
    by_cases hlt : k < t.size / 64
    · have h64 : 64 ≤ (t.extract (64 * k) t.size).size := by omega
      have hcf := cut_front t (64 * k) (by omega)
      have hcb := cut_back t (64 * k)
      have hok := Sha.blk_ok hs t k
      have hbs : (t.extract (64 * k) (64 * k + 64)).size = 64 := by simp; omega
      have hcm : Sha.blk s t (k + 1) = Sha.compress (Sha.blk s t k) (t.extract (64 * k) (64 * k + 64)) := rfl
      obtain ⟨sk, hsk⟩ : ∃ sk, Sha.blk s t k = sk := ⟨_, rfl⟩
      rw [hsk] at bc hok hcm
      obtain ⟨R, hR⟩ : ∃ R, t.extract (64 * k) t.size = R := ⟨_, rfl⟩
      rw [hR] at h64 hcf hcb hsz
      obtain ⟨X, hX⟩ : ∃ X, t.extract (64 * k) (64 * k + 64) = X := ⟨_, rfl⟩
      rw [hX] at hcf hbs hcm
      have cx := fun v hv => compress_any sk X v hok hbs hv
      obtain ⟨s2, hs2⟩ : ∃ s2, Sha.compress sk X = s2 := ⟨_, rfl⟩
      rw [hs2] at cx hcm
      have CX := Lib.hid cx; have HCM := Lib.hid hcm; have HCF := Lib.hid hcf; have HCB := Lib.hid hcb; have HR := Lib.hid hR
      rw [hR]
      have h64' : (64 : Int) ≤ R.size := by omega
      have hRl : R.size ≤ 1000000000000000 := by omega
      have iS := st_info sk
      have iS2 := st_info s2
      have zS : (stV sk).size = (stV s2).size := by rw [st_size, st_size]
      have oS : (stV s2).all (·.oneCell') = true := M.rowF_one
      clear cx hcm hcf hcb hR hX hsk hs2 hbs hok hsz
      go_wp2_with fail
      refine QP.wp_region_p 7 (BC n w sk) (BC n w s2) (by kernel_rfl) (by kernel_rfl) bc.drew ?_
      iterate 8
        (refine QP.wpQ_step (fun K hK => ?_)
         go_simp
         first
           | (refine hK _ ?_; clear hK K)
           | (refine ⟨?_, hK _ ?_⟩; decide; clear hK K)
           | ((first | (apply Exists.intro; refine ⟨?_, hK _ ?_⟩) | refine ⟨⟨undef, ?_⟩, hK _ ?_⟩)
              first
                | (apply QP.al_p; decide; (focus (intro wq hq; (skip); first | (first | (refine QP.oat_load_row (ty := 81) (x := .tmp 2) (g := n) (t := 81) (cs := stV sk) (fr := (0, 0)) ?_ ?_ _ hq.r0 Tryd.underlying81 rfl iS hq; rfl; rfl) | (refine QP.oat_store_row (ty := 81) (x := .tmp 2) (y := .tmp 15) (g := n) (cells := stV s2) (t := 81) (old := stV sk) ?_ ?_ ?_ hq.r0 iS2 zS oS hq.set; rfl; rfl; rfl)) | (unfold QP.oat; go_simp; first | done | exact ⟨by assumption, rfl⟩ | exact rfl | assumption | (rw [HCF.out]; refine (CX.out _ (HT.out _ hq.below)).mono ?_; rintro e w' ⟨rfl, gq⟩; exact ⟨rfl, hq.same gq⟩)))))
                | (apply QP.al_dep; decide; decide; (focus (intro wq hq; (skip); first | (first | (refine QP.oat_load_row (ty := 81) (x := .tmp 2) (g := n) (t := 81) (cs := stV sk) (fr := (0, 0)) ?_ ?_ _ hq.r0 Tryd.underlying81 rfl iS hq; rfl; rfl) | (refine QP.oat_store_row (ty := 81) (x := .tmp 2) (y := .tmp 15) (g := n) (cells := stV s2) (t := 81) (old := stV sk) ?_ ?_ ?_ hq.r0 iS2 zS oS hq.set; rfl; rfl; rfl)) | (unfold QP.oat; go_simp; first | done | exact ⟨by assumption, rfl⟩ | exact rfl | assumption | (rw [HCF.out]; refine (CX.out _ (HT.out _ hq.below)).mono ?_; rintro e w' ⟨rfl, gq⟩; exact ⟨rfl, hq.same gq⟩)))))
                | (apply QP.al_bef; decide; decide; (focus (intro wq hq; (skip); first | (first | (refine QP.oat_load_row (ty := 81) (x := .tmp 2) (g := n) (t := 81) (cs := stV sk) (fr := (0, 0)) ?_ ?_ _ hq.r0 Tryd.underlying81 rfl iS hq; rfl; rfl) | (refine QP.oat_store_row (ty := 81) (x := .tmp 2) (y := .tmp 15) (g := n) (cells := stV s2) (t := 81) (old := stV sk) ?_ ?_ ?_ hq.r0 iS2 zS oS hq.set; rfl; rfl; rfl)) | (unfold QP.oat; go_simp; first | done | exact ⟨by assumption, rfl⟩ | exact rfl | assumption | (rw [HCF.out]; refine (CX.out _ (HT.out _ hq.below)).mono ?_; rintro e w' ⟨rfl, gq⟩; exact ⟨rfl, hq.same gq⟩)))))
                | (apply QP.al_ok; decide; (focus (intro wq hq; (skip); first | (first | (refine QP.oat_load_row (ty := 81) (x := .tmp 2) (g := n) (t := 81) (cs := stV sk) (fr := (0, 0)) ?_ ?_ _ hq.r0 Tryd.underlying81 rfl iS hq; rfl; rfl) | (refine QP.oat_store_row (ty := 81) (x := .tmp 2) (y := .tmp 15) (g := n) (cells := stV s2) (t := 81) (old := stV sk) ?_ ?_ ?_ hq.r0 iS2 zS oS hq.set; rfl; rfl; rfl)) | (unfold QP.oat; go_simp; first | done | exact ⟨by assumption, rfl⟩ | exact rfl | assumption | (rw [HCF.out]; refine (CX.out _ (HT.out _ hq.below)).mono ?_; rintro e w' ⟨rfl, gq⟩; exact ⟨rfl, hq.same gq⟩)))); (focus (intro wq hq; (skip); first | (first | (refine QP.oat_load_row (ty := 81) (x := .tmp 2) (g := n) (t := 81) (cs := stV sk) (fr := (0, 0)) ?_ ?_ _ hq.r0 Tryd.underlying81 rfl iS hq; rfl; rfl) | (refine QP.oat_store_row (ty := 81) (x := .tmp 2) (y := .tmp 15) (g := n) (cells := stV s2) (t := 81) (old := stV sk) ?_ ?_ ?_ hq.r0 iS2 zS oS hq.set; rfl; rfl; rfl)) | (unfold QP.oat; go_simp; first | done | exact ⟨by assumption, rfl⟩ | exact rfl | assumption | (rw [HCF.out]; refine (CX.out _ (HT.out _ hq.below)).mono ?_; rintro e w' ⟨rfl, gq⟩; exact ⟨rfl, hq.same gq⟩)))))
              clear hK K))
      refine QP.wpQ_nil ?_
      intro wz bz
      go_wp2
      rw [HCB.out]
      go_roundg (t.size / 64 - (k + 1))
      case measure => omega
      case rel => exact ⟨k + 1, by omega, by rw [Nat.mul_add], by rw [HCM.out]; exact bz⟩
    · obtain rfl : k = t.size / 64 := by omega
      have h64 : ¬ 64 ≤ (t.extract (64 * (t.size / 64)) t.size).size := by omega
      obtain ⟨R, hR⟩ : ∃ R, t.extract (64 * (t.size / 64)) t.size = R := ⟨_, rfl⟩
      rw [hR] at h64 hsz ⊢
      obtain ⟨sk, hsk⟩ : ∃ sk, Sha.blk s t (t.size / 64) = sk := ⟨_, rfl⟩
      have HSK := Lib.hid hsk
      rw [hsk] at bc
      have iS := st_info sk
      have zS : Z8.size = (stV sk).size := by rw [st_size]; rfl
      have oS : (stV sk).all (·.oneCell') = true := M.rowF_one
      have r0 := bc.r0
      have r1 := bc.r1
      have q6 := M.RowAt.setRow r1 (stV sk)
      have b6 := M.below_setRow (g := n + 1) (cs := stV sk) bc.below (by omega)
      clear hR hsk hsz
      go_wp2_with (first
        | (refine wpList_load_row (x := .tmp 2) (ty := 81) (g := n) (cs := stV sk) (t := 81) (fr := (0, 0)) ?_ ?_ ?_ _ r0 Tryd.underlying81 rfl iS ?_; rfl; rfl; rfl)
        | (refine wpList_store_row (x := .tmp 4) (y := .tmp 17) (cells := stV sk) (old := Z8) (t := 81) (ty := 81) (g := n + 1) ?_ ?_ ?_ ?_ r1 iS zS oS ?_; rfl; rfl; rfl; rfl))
      have hload := run_loadVar_row (P := Tryd.prog) _ (n + 1) 81 81 (stV sk) (0, 0) _ q6 Tryd.underlying81 rfl iS
      refine bodyPost_ret (v := .agg (stV sk)) (by simp [results, Tryd.results36, asAddr, Act.put, hload]) rfl ⟨by rw [HSK.out], ?_⟩
      rw [HN.out]
      exact b6
end Go.Proofs.YtiilgkhndfnkgaaDoor
