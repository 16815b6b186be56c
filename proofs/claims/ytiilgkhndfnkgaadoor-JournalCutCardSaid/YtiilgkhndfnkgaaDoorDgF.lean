/- What digest's Sum returns: SHA-256; the condition is that the tables are laid. -/
import Derived.Test.YtiilgkhndfnkgaaDoorDgE
namespace Go.Proofs.YtiilgkhndfnkgaaDoor
open Go.RowKit
set_option linter.unusedVariables false

theorem u28 : Tryd.prog.underlying 65 = some (.array 32 5) := by kernel_rfl
theorem r8_size (f : Nat → Nat) : (r8 32 f).size = 32 := M.rowF_size
theorem r8_info (f : Nat → Nat) : (Tryd.prog.info? 65).map (·.size) = some (r8 32 f).size := by rw [r8_size]; kernel_rfl
theorem r8_zero (f : Nat → Nat) : Z32.size = (r8 32 f).size := by rw [r8_size]; rfl
theorem r8_one (f : Nat → Nat) : (r8 32 f).all (·.oneCell') = true := M.rowF_one
theorem Tabs.range {w : World} (h : Tabs w) : w.rangeAt 0 0 (stV Sha.begin0).toList := fun j v hv => by
  rw [Array.getElem?_toList] at hv
  by_cases hj : j < 8
  · rw [M.rowF_get hj] at hv
    rw [Nat.zero_add, h.b j hj]; exact hv
  · rw [M.rowF_out (by omega)] at hv; cases hv

/-- the result lies in block n -/
structure BS (n : Nat) (w : World) (R : Array Value) (v : World) : Prop where
  r : v.heap[n]? = some (.cells R 65 (0, 0))
  below : Below n w v
theorem BS.drew {n : Nat} {w : World} {R : Array Value} {v : World} (c : BS n w R v) : BS n w R v.drew := ⟨c.r, c.below.drew⟩
theorem BS.same {n : Nat} {w : World} {R : Array Value} {v v' : World} (c : BS n w R v) (hb : Below v.heap.size v v') : BS n w R v' :=
  ⟨M.RowAt.call c.r hb, c.below.trans (hb.mono (by have := M.RowAt.lt c.r; omega))⟩
theorem BS.set {n : Nat} {w : World} {R R' : Array Value} {v : World} (c : BS n w R v) : BS n w R' (v.setRow n R') :=
  ⟨M.RowAt.setRow c.r _, M.below_setRow c.below (Nat.le_refl _)⟩

set_option maxRecDepth 100000 in
set_option maxHeartbeats 2000000 in
theorem sum_any (t : ByteArray) (w : World) (ht : Tabs w) (hts : t.size ≤ 100000000000) :
    Calls Tryd.prog 29 #[.string t] w fun e w' => e = .returned (.agg (r8 32 (Sha.sum t))) ∧ Below w.heap.size w w' := by
  obtain ⟨n, hn⟩ : ∃ n, w.heap.size = n := ⟨_, rfl⟩
  have HN := Lib.hid hn
  have h1n : 1 < n := hn ▸ ht.lt
  obtain ⟨v0, hv0⟩ : ∃ v0, w.alloc (.cells #[.int .u8 0, .int .u8 0, .int .u8 0, .int .u8 0, .int .u8 0, .int .u8 0, .int .u8 0, .int .u8 0, .int .u8 0, .int .u8 0, .int .u8 0, .int .u8 0, .int .u8 0, .int .u8 0, .int .u8 0, .int .u8 0, .int .u8 0, .int .u8 0, .int .u8 0, .int .u8 0, .int .u8 0, .int .u8 0, .int .u8 0, .int .u8 0, .int .u8 0, .int .u8 0, .int .u8 0, .int .u8 0, .int .u8 0, .int .u8 0, .int .u8 0, .int .u8 0] 65) = v0 := ⟨_, rfl⟩
  have c0 : BS n w Z32 v0 := by
    rw [← hv0]
    subst hn
    exact ⟨M.RowAt.new w 65 Z32, (Below.refl _ _).alloc (Nat.le_refl _) _⟩
  have T1 : ∀ v, Below n w v → Tabs v := fun v hv => ht.below hv h1n
  have HT := Lib.hid T1
  have HV := Lib.hid hv0
  have n1 := fun v => pad_any t v (by omega)
  have hps := Sha.pad_size t
  have hz := zeros_lt t.size
  have n2 := fun v hv => blocks_any Sha.begin0 (Sha.pad t) v Sha.begin0_ok hv (by omega)
  have hwd : Sha.blk Sha.begin0 (Sha.pad t) ((Sha.pad t).size / 64) = Sha.words t := rfl
  rw [hwd] at n2
  have n3 := fun v => bytes_any (Sha.words t) v (Sha.words_ok t)
  have hsm : Sha.out (Sha.words t) = Sha.sum t := rfl
  rw [hsm] at n3
  obtain ⟨P, hP⟩ : ∃ P, Sha.pad t = P := ⟨_, rfl⟩
  rw [hP] at n1 n2
  obtain ⟨W, hW⟩ : ∃ W, Sha.words t = W := ⟨_, rfl⟩
  rw [hW] at n2 n3
  obtain ⟨F, hF⟩ : ∃ F, Sha.sum t = F := ⟨_, rfl⟩
  rw [hF] at n3 ⊢
  have N1 := Lib.hid n1; have N2 := Lib.hid n2; have N3 := Lib.hid n3
  have iF := r8_info F
  have zF := r8_zero F
  have oF := r8_one F
  have i8 : (Tryd.prog.info? 81).map (·.size) = some (stV Sha.begin0).toList.length := by rw [Array.length_toList]; exact st_info _
  clear hv0 T1 ht n1 n2 n3 hps hz hwd hsm hP hW hF
  go_enter Tryd.func29, Tryd.ntmps29
  go_wp2_with fail
  rw [HV.out]
  clear hn
  refine QP.wp_region_p 5 (BS n w Z32) (BS n w (r8 32 F)) (by kernel_rfl) (by kernel_rfl) c0.drew ?_
  iterate 6
    (refine QP.wpQ_step (fun K hK => ?_)
     go_simp
     first
       | (refine hK _ ?_; clear hK K)
       | (refine ⟨?_, hK _ ?_⟩; decide; clear hK K)
       | ((first | (apply Exists.intro; refine ⟨?_, hK _ ?_⟩) | refine ⟨⟨undef, ?_⟩, hK _ ?_⟩)
          first
            | (apply QP.al_p; decide; (focus (intro wq hq; (skip); first | (first | (refine QP.oat_load_mid (ty := 81) (x := .global 0) (b := 0) (off := 0) (cs := (stV Sha.begin0).toList) ?_ ?_ _ (HT.out _ hq.below).range Tryd.underlying81 rfl i8 hq; rfl; rfl) | (refine QP.oat_store_row (ty := 65) (x := .tmp 2) (y := .tmp 7) (g := n) (cells := r8 32 F) (t := 65) (old := Z32) ?_ ?_ ?_ hq.r iF zF oF hq.set; rfl; rfl; rfl)) | (unfold QP.oat; go_simp; first | done | exact ⟨by assumption, rfl⟩ | exact rfl | assumption | (first | (refine (N1.out _).mono ?_; rintro e w' ⟨rfl, gq⟩; exact ⟨rfl, hq.same gq⟩) | (refine (N2.out _ (HT.out _ hq.below)).mono ?_; rintro e w' ⟨rfl, gq⟩; exact ⟨rfl, hq.same gq⟩) | (refine (N3.out _).mono ?_; rintro e w' ⟨rfl, gq⟩; exact ⟨rfl, hq.same gq⟩))))))
            | (apply QP.al_dep; decide; decide; (focus (intro wq hq; (skip); first | (first | (refine QP.oat_load_mid (ty := 81) (x := .global 0) (b := 0) (off := 0) (cs := (stV Sha.begin0).toList) ?_ ?_ _ (HT.out _ hq.below).range Tryd.underlying81 rfl i8 hq; rfl; rfl) | (refine QP.oat_store_row (ty := 65) (x := .tmp 2) (y := .tmp 7) (g := n) (cells := r8 32 F) (t := 65) (old := Z32) ?_ ?_ ?_ hq.r iF zF oF hq.set; rfl; rfl; rfl)) | (unfold QP.oat; go_simp; first | done | exact ⟨by assumption, rfl⟩ | exact rfl | assumption | (first | (refine (N1.out _).mono ?_; rintro e w' ⟨rfl, gq⟩; exact ⟨rfl, hq.same gq⟩) | (refine (N2.out _ (HT.out _ hq.below)).mono ?_; rintro e w' ⟨rfl, gq⟩; exact ⟨rfl, hq.same gq⟩) | (refine (N3.out _).mono ?_; rintro e w' ⟨rfl, gq⟩; exact ⟨rfl, hq.same gq⟩))))))
            | (apply QP.al_bef; decide; decide; (focus (intro wq hq; (skip); first | (first | (refine QP.oat_load_mid (ty := 81) (x := .global 0) (b := 0) (off := 0) (cs := (stV Sha.begin0).toList) ?_ ?_ _ (HT.out _ hq.below).range Tryd.underlying81 rfl i8 hq; rfl; rfl) | (refine QP.oat_store_row (ty := 65) (x := .tmp 2) (y := .tmp 7) (g := n) (cells := r8 32 F) (t := 65) (old := Z32) ?_ ?_ ?_ hq.r iF zF oF hq.set; rfl; rfl; rfl)) | (unfold QP.oat; go_simp; first | done | exact ⟨by assumption, rfl⟩ | exact rfl | assumption | (first | (refine (N1.out _).mono ?_; rintro e w' ⟨rfl, gq⟩; exact ⟨rfl, hq.same gq⟩) | (refine (N2.out _ (HT.out _ hq.below)).mono ?_; rintro e w' ⟨rfl, gq⟩; exact ⟨rfl, hq.same gq⟩) | (refine (N3.out _).mono ?_; rintro e w' ⟨rfl, gq⟩; exact ⟨rfl, hq.same gq⟩))))))
            | (apply QP.al_ok; decide; (focus (intro wq hq; (skip); first | (first | (refine QP.oat_load_mid (ty := 81) (x := .global 0) (b := 0) (off := 0) (cs := (stV Sha.begin0).toList) ?_ ?_ _ (HT.out _ hq.below).range Tryd.underlying81 rfl i8 hq; rfl; rfl) | (refine QP.oat_store_row (ty := 65) (x := .tmp 2) (y := .tmp 7) (g := n) (cells := r8 32 F) (t := 65) (old := Z32) ?_ ?_ ?_ hq.r iF zF oF hq.set; rfl; rfl; rfl)) | (unfold QP.oat; go_simp; first | done | exact ⟨by assumption, rfl⟩ | exact rfl | assumption | (first | (refine (N1.out _).mono ?_; rintro e w' ⟨rfl, gq⟩; exact ⟨rfl, hq.same gq⟩) | (refine (N2.out _ (HT.out _ hq.below)).mono ?_; rintro e w' ⟨rfl, gq⟩; exact ⟨rfl, hq.same gq⟩) | (refine (N3.out _).mono ?_; rintro e w' ⟨rfl, gq⟩; exact ⟨rfl, hq.same gq⟩))))); (focus (intro wq hq; (skip); first | (first | (refine QP.oat_load_mid (ty := 81) (x := .global 0) (b := 0) (off := 0) (cs := (stV Sha.begin0).toList) ?_ ?_ _ (HT.out _ hq.below).range Tryd.underlying81 rfl i8 hq; rfl; rfl) | (refine QP.oat_store_row (ty := 65) (x := .tmp 2) (y := .tmp 7) (g := n) (cells := r8 32 F) (t := 65) (old := Z32) ?_ ?_ ?_ hq.r iF zF oF hq.set; rfl; rfl; rfl)) | (unfold QP.oat; go_simp; first | done | exact ⟨by assumption, rfl⟩ | exact rfl | assumption | (first | (refine (N1.out _).mono ?_; rintro e w' ⟨rfl, gq⟩; exact ⟨rfl, hq.same gq⟩) | (refine (N2.out _ (HT.out _ hq.below)).mono ?_; rintro e w' ⟨rfl, gq⟩; exact ⟨rfl, hq.same gq⟩) | (refine (N3.out _).mono ?_; rintro e w' ⟨rfl, gq⟩; exact ⟨rfl, hq.same gq⟩))))))
          clear hK K))
  refine QP.wpQ_nil ?_
  intro wz bz
  go_wp2
  have hload := run_loadVar_row (P := Tryd.prog) _ n 65 65 (r8 32 F) (0, 0) _ bz.r u28 rfl iF
  refine bodyPost_ret (v := .agg (r8 32 F)) (by simp [results, Tryd.results29, asAddr, hload]) rfl ⟨rfl, ?_⟩
  rw [HN.out]
  exact bz.below
end Go.Proofs.YtiilgkhndfnkgaaDoor
