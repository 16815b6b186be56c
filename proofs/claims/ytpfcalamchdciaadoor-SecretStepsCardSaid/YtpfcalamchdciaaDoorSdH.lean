/- The walk of SecretSteps; the conditions are that the tables are laid and that arrays of bytes hold bytes. -/
import Derived.Test.YtpfcalamchdciaaDoorSdD
import Derived.Test.YtpfcalamchdciaaDoorQuietA
import Derived.Test.YtpfcalamchdciaaDoorSeF
import Derived.Test.YtpfcalamchdciaaDoorScRowT
namespace Go.Proofs.YtpfcalamchdciaaDoor
open Go.RowKit
set_option linter.unusedVariables false

theorem wrap_small (z : Nat) (h : z < 65536) : IntKind.i64.wrap (z : Int) = z := IntWalk.i64_in _ (by omega)
theorem isN_small (z : Nat) (h : z < 65536) : isN (z : Int) = true := by simp [isN]; omega
/-- blocks known whole, and a newer one -/
structure KG (n : Nat) (w : World) (L : List (Nat × TypeId × Array Value)) (t : TypeId) (Z : Array Value) (g : Nat) (v : World) : Prop where
  kb : KB n w ((g, t, Z) :: L) v
  ge : n ≤ g
  lt : ∀ x ∈ L, x.1 < g
section
variable {n g : Nat} {w v v' : World} {L : List (Nat × TypeId × Array Value)} {t : TypeId} {Z : Array Value}
theorem KG.same (c : KG n w L t Z g v) (hb : Below v.heap.size v v') : KG n w L t Z g v' := ⟨c.kb.same hb, c.ge, c.lt⟩
theorem KG.rows (c : KG n w L t Z g v) (x : Nat × TypeId × Array Value) (h : x ∈ L) : v.heap[x.1]? = some (.cells x.2.2 x.2.1 (0, 0)) := c.kb.rows x (List.mem_cons_of_mem _ h)
theorem KG.row (c : KG n w L t Z g v) : v.heap[g]? = some (.cells Z t (0, 0)) := c.kb.rows (g, t, Z) List.mem_cons_self
theorem KG.of (c : KB n w L v) (h : v.heap.size = g) (t : TypeId) (Z : Array Value) : KG n w L t Z g (v.alloc (.cells Z t)) := by
  subst h; exact ⟨c.new t Z, c.ge, fun x hx => c.lt hx⟩
theorem KG.setRow (c : KG n w L t Z g v) (D : Array Value) : KG n w L t D g (v.setRow g D) := ⟨c.kb.setRow (fun x hx => Nat.ne_of_lt (c.lt x hx)) c.ge D, c.ge, c.lt⟩
theorem KG.drew (c : KG n w L t Z g v) : KG n w L t Z g v.drew := ⟨c.kb.drew, c.ge, c.lt⟩
theorem KG.below (c : KG n w L t Z g v) : Below n w v := c.kb.below
end

set_option maxRecDepth 100000 in
set_option maxHeartbeats 4000000 in
theorem steps_walk (F : Nat → Nat) (a : Nat) (w : World) (ht : Tabs w) (hz : TzT w) (hF : ∀ j, F j < 256) (ha : a < 65536) :
    Calls Tryd.prog 13 #[.agg (r8 32 F), .int .u16 (a : Nat)] w (Fine w) := by
  obtain ⟨n, hn⟩ : ∃ n, w.heap.size = n := ⟨_, rfl⟩
  have HN := Lib.hid hn
  have h1n : 1 < n := hn ▸ ht.lt
  have h3n : 3 < n := hn ▸ hz.lt
  have tb := fun v (hb : Below n w v) => ht.below hb h1n
  have tz := fun v (hb : Below n w v) => hz.below hb h3n
  have sh := fun v (hb : Below n w v) => scshown_b v (tz v hb)
  have SH := Lib.hid sh
  have k0 : KB n w [(n, 28, r8 32 F)] (w.alloc (.cells (r8 32 F) 28)) := hn ▸ (KB.start w).new 28 (r8 32 F)
  have iF := r8_info F
  have na : isN (a : Int) = true := by simp [isN]; omega
  have ma : mkH F (a : Int) = walkH F a 16 := by unfold mkH; rw [na]; rfl
  have ea : mkE (a : Int) = 0 := by unfold mkE; rw [na]; rfl
  have c1 := fun v (hb : Below n w v) => make_any F (a : Int) v (tb v hb) hF
  rw [ma, ea] at c1
  have i1 := r8_info (walkH F a 16); have z1 := r8_zero (walkH F a 16); have o1 := r8_one (walkH F a 16)
  have q1 : IntKind.i64.wrap (a : Int) = a := IntWalk.i64_in _ (by omega)
  by_cases h0 : a = 0
  · subst h0
    rw [walk_zero] at c1 i1 z1 o1
    have e2 := fun W => r8_eq F W
    generalize r8 32 F = C at *
    have C1 := Lib.hid c1
    obtain ⟨V0, hV⟩ : ∃ V0, w.alloc (.cells C 28) = V0 := ⟨_, rfl⟩
    rw [hV] at k0
    have HV := Lib.hid hV
    clear c1 sh tb tz ht hz h1n h3n hV ma ea na ha
    go_enter Tryd.func13, Tryd.ntmps13
    go_wp2_with (first
      | (rw [HV.out]; refine wpList_load_row (x := .tmp 2) (ty := 28) (g := n) (cs := C) (t := 28) (fr := (0, 0)) ?_ ?_ ?_ _ (k0.row n 28 C (by simp)) und28 rfl iF ?_; rfl; rfl; rfl)
      | fail)
    refine (C1.out _ k0.below).mono ?_
    rintro e w1 ⟨rfl, gq⟩
    have k1 := k0.same gq
    clear gq k0
    clear hn
    obtain ⟨g1, V1, U1, hg1, hV1, rV1, hU1, kk1, geg1, ltg1⟩ := k1.box 28 (#[.int .u8 0, .int .u8 0, .int .u8 0, .int .u8 0, .int .u8 0, .int .u8 0, .int .u8 0, .int .u8 0, .int .u8 0, .int .u8 0, .int .u8 0, .int .u8 0, .int .u8 0, .int .u8 0, .int .u8 0, .int .u8 0, .int .u8 0, .int .u8 0, .int .u8 0, .int .u8 0, .int .u8 0, .int .u8 0, .int .u8 0, .int .u8 0, .int .u8 0, .int .u8 0, .int .u8 0, .int .u8 0, .int .u8 0, .int .u8 0, .int .u8 0, .int .u8 0]) C
    have Hg1 := Lib.hid hg1; have HV1 := Lib.hid hV1; have HU1 := Lib.hid hU1
    clear hg1 hV1 hU1 k1 ltg1
    go_wp2_with (first
      | (rw [Hg1.out, HV1.out]; refine wpList_store_row (x := .tmp 5) (y := .tmp 15) (cells := C) (old := Z32) (t := 28) (ty := 28) (g := g1) ?_ ?_ ?_ ?_ rV1 i1 z1 o1 ?_; rfl; rfl; rfl; rfl; rw [HU1.out])
      | (refine wpList_load_row (x := .tmp 5) (ty := 28) (g := g1) (cs := C) (t := 28) (fr := (0, 0)) ?_ ?_ ?_ _ (kk1.row g1 28 C (by simp)) und28 rfl i1 ?_; rfl; rfl; rfl)
      | (refine wpList_load_row (x := .tmp 2) (ty := 28) (g := n) (cs := C) (t := 28) (fr := (0, 0)) ?_ ?_ ?_ _ (kk1.row n 28 C (by simp)) und28 rfl iF ?_; rfl; rfl; rfl)
      | fail)
    clear rV1 Hg1 HV1 HU1
    refine (SH.out _ kk1.below).mono ?_
    rintro e w2 ⟨rfl, gq⟩
    have k2 := kk1.same gq
    clear gq kk1
    go_wp2_with (first
      | fail)
    go_ret
    exact ⟨rfl, by rw [HN.out]; exact k2.below⟩
  · have hp : place (a : Int) = Sc.pl a := by unfold place; rw [na]; rfl
    obtain ⟨hle, hst⟩ := steps ha h0 F
    have hp16 := pl_pos ha h0
    have nb : isN ((a - 2 ^ Sc.pl a : Nat) : Int) = true := isN_small _ (Nat.lt_of_le_of_lt (Nat.sub_le _ _) ha)
    have mb : mkH F ((a - 2 ^ Sc.pl a : Nat) : Int) = walkH F (a - 2 ^ Sc.pl a) 16 := by unfold mkH; rw [nb]; rfl
    have eb : mkE ((a - 2 ^ Sc.pl a : Nat) : Int) = 0 := by unfold mkE; rw [nb]; rfl
    have c2 := fun v (hb : Below n w v) => make_any F ((a - 2 ^ Sc.pl a : Nat) : Int) v (tb v hb) hF
    rw [mb, eb] at c2
    have cp := fun v (hb : Below n w v) => place_b (a : Int) v (tz v hb)
    rw [hp] at cp
    have hsub : ((a - 2 ^ Sc.pl a : Nat) : Int) = (a : Int) - (2 : Int) ^ Sc.pl a := by
      rw [Int.ofNat_sub hle]; simp
    have hlt8 := walkH_lt hF (a - 2 ^ Sc.pl a) 16
    have hne0 : (((a : Nat) : Int) == 0) = false := by simp; exact h0
    generalize Sc.pl a = p at *
    obtain ⟨A, hA⟩ : ∃ A, walkH F (a - 2 ^ p) 16 = A := ⟨_, rfl⟩
    rw [hA] at c2 hst hlt8
    rw [hst] at c1 i1 z1 o1
    have hof : Sha.sum (hstr (flipH A p)) = ofH (flipH A p) := rfl
    have cs := fun v => rsum_any (hstr (flipH A p)) v (by rw [hstr_size]; decide)
    rw [hof] at cs
    have hcv := fun v g (h : M.RowAt v g 28 (r8 32 (flipH A p))) => conv_row8 h
    have a8 := hlt8 (p / 8)
    have st := flipH_set A p (by omega) _ (xor_pow (A (p / 8)) p a8)
    have ca : (r8 32 A)[p / 8]? = some (.int .u8 (A (p / 8) : Nat)) := M.rowF_get (by omega)
    have i2 := r8_info A; have z2 := r8_zero A; have o2 := r8_one A
    have e2 := fun W => r8_eq (ofH (flipH A p)) W
    have sz : 2 ^ p ≤ a := hle
    obtain ⟨m, hm⟩ : ∃ m, a - 2 ^ p = m := ⟨_, rfl⟩
    have hm64 : m < 65536 := hm ▸ Nat.lt_of_le_of_lt (Nat.sub_le _ _) ha
    rw [hm] at c2 hsub
    generalize r8 32 (ofH (flipH A p)) = O at *
    generalize r8 32 (flipH A p) = T at *
    generalize hstr (flipH A p) = Y at *
    generalize r8 32 A = R at *
    generalize A (p / 8) = y at *
    generalize r8 32 F = C at *
    have C1 := Lib.hid c1; have C2 := Lib.hid c2; have CP := Lib.hid cp; have CS := Lib.hid cs; have HCV := Lib.hid hcv; have ST := Lib.hid st; have CA := Lib.hid ca; have E2 := Lib.hid e2
    have w0 : IntKind.i64.wrap (2 ^ p) = (2 : Int) ^ p := by
      have : ((2 : Int) ^ p) = ((2 ^ p : Nat) : Int) := by simp
      rw [this]; exact wrap_small _ (Nat.lt_of_le_of_lt sz ha)
    have w1 : IntKind.i64.wrap ((p : Int) / 8) = (p : Int) / 8 := IntWalk.i64_in _ (by omega)
    have w2 : (0 : Int) ≤ (p : Int) / 8 := by omega
    have w3 : (p : Int) / 8 < 32 := by omega
    have w4 : ((p : Int) / 8).toNat = p / 8 := by omega
    have w5 : (0 : Int) ≤ (p : Int) := by omega
    have w6 : (p : Int) < 16 := by omega
    have w7 : IntKind.i64.wrap ((a : Int) - (2 : Int) ^ p) = (m : Int) := by rw [← hsub]; exact wrap_small m hm64
    obtain ⟨V0, hV⟩ : ∃ V0, w.alloc (.cells C 28) = V0 := ⟨_, rfl⟩
    rw [hV] at k0
    have HV := Lib.hid hV
    clear c1 c2 cp cs hcv st ca e2 sh tb tz ht hz h1n h3n hV ma ea na ha mb eb nb hp hle hst hA hof hlt8 hsub hm hm64 sz h0
    go_enter Tryd.func13, Tryd.ntmps13
    go_wp2_with (first
      | (rw [HV.out]; refine wpList_load_row (x := .tmp 2) (ty := 28) (g := n) (cs := C) (t := 28) (fr := (0, 0)) ?_ ?_ ?_ _ (k0.row n 28 C (by simp)) und28 rfl iF ?_; rfl; rfl; rfl)
      | fail)
    refine (C1.out _ k0.below).mono ?_
    rintro e w1 ⟨rfl, gq⟩
    have k1 := k0.same gq
    clear gq k0
    clear hn
    obtain ⟨g1, V1, U1, hg1, hV1, rV1, hU1, kk1, geg1, ltg1⟩ := k1.box 28 (#[.int .u8 0, .int .u8 0, .int .u8 0, .int .u8 0, .int .u8 0, .int .u8 0, .int .u8 0, .int .u8 0, .int .u8 0, .int .u8 0, .int .u8 0, .int .u8 0, .int .u8 0, .int .u8 0, .int .u8 0, .int .u8 0, .int .u8 0, .int .u8 0, .int .u8 0, .int .u8 0, .int .u8 0, .int .u8 0, .int .u8 0, .int .u8 0, .int .u8 0, .int .u8 0, .int .u8 0, .int .u8 0, .int .u8 0, .int .u8 0, .int .u8 0, .int .u8 0]) O
    have Hg1 := Lib.hid hg1; have HV1 := Lib.hid hV1; have HU1 := Lib.hid hU1
    clear hg1 hV1 hU1 k1 ltg1
    go_wp2_with (first
      | (rw [Hg1.out, HV1.out]; refine wpList_store_row (x := .tmp 5) (y := .tmp 15) (cells := O) (old := Z32) (t := 28) (ty := 28) (g := g1) ?_ ?_ ?_ ?_ rV1 i1 z1 o1 ?_; rfl; rfl; rfl; rfl; rw [HU1.out])
      | fail)
    clear rV1 Hg1 HV1 HU1
    refine (CP.out _ kk1.below).mono ?_
    rintro e w2 ⟨rfl, gq⟩
    have k2 := kk1.same gq
    clear gq kk1
    go_wp2_with fail
    obtain ⟨L, hL⟩ : ∃ L, [(g1, 28, O), (n, 28, C)] = L := ⟨_, rfl⟩
    have mC : (n, 28, C) ∈ L := by rw [← hL]; simp
    have mO : (g1, 28, O) ∈ L := by rw [← hL]; simp
    have k3 : KB n w L w2 := by rw [← hL]; exact k2
    clear k2 hL geg1
    refine QA.wp_region_a 10 11 (KB n w L) (KG n w L 28 Z32) (KG n w L 28 R) (by kernel_rfl) (by kernel_rfl) k3.drew ?_
    iterate 10
      (refine QA.wpA_step (by decide) (fun K hK => ?_)
       go_simp
       first
         | (refine hK _ ?_; clear hK K)
         | (refine ⟨?_, hK _ ?_⟩; decide; clear hK K)
         | ((first | (apply Exists.intro; refine ⟨?_, hK _ ?_⟩) | refine ⟨⟨undef, ?_⟩, hK _ ?_⟩)
            first
              | (apply QA.al_p; decide; (focus (intro gx wq hS hq; (cases hS); (skip); first | (((with_reducible refine QP.oat_load_row (ty := 28) (x := .tmp 2) (g := n) (t := 28) (cs := C) (fr := (0, 0)) ?_ ?_ _ (hq.rows _ mC) und28 ?_ iF hq); rfl; rfl; rfl)) | (unfold QP.oat; go_simp; first | done | exact ⟨by assumption, rfl⟩ | exact rfl | assumption | (((with_reducible refine (C2.out _ hq.below).mono ?_); rintro e w' ⟨rfl, gq⟩; exact ⟨rfl, hq.same gq⟩))))))
              | (apply QA.al_o; decide; (first | (apply Or.inl; decide) | (apply Or.inr; (focus (intro wq hq; (skip); first | (((with_reducible refine QP.oat_load_row (ty := 28) (x := .tmp 2) (g := n) (t := 28) (cs := C) (fr := (0, 0)) ?_ ?_ _ (hq.rows _ mC) und28 ?_ iF hq); rfl; rfl; rfl)) | (unfold QP.oat; go_simp; first | done | exact ⟨by assumption, rfl⟩ | exact rfl | assumption | (((with_reducible refine (C2.out _ hq.below).mono ?_); rintro e w' ⟨rfl, gq⟩; exact ⟨rfl, hq.same gq⟩))))))); (first | (apply Or.inl; decide) | (apply Or.inr; apply Or.inl; decide) | (apply Or.inr; apply Or.inr; (focus (intro gx wq hS hq; (cases hS); (skip); first | (((with_reducible refine QP.oat_load_row (ty := 28) (x := .tmp 2) (g := n) (t := 28) (cs := C) (fr := (0, 0)) ?_ ?_ _ (hq.rows _ mC) und28 ?_ iF hq); rfl; rfl; rfl)) | (unfold QP.oat; go_simp; first | done | exact ⟨by assumption, rfl⟩ | exact rfl | assumption | (((with_reducible refine (C2.out _ hq.below).mono ?_); rintro e w' ⟨rfl, gq⟩; exact ⟨rfl, hq.same gq⟩))))))); (first | (apply Or.inl; decide) | (apply Or.inr; apply Or.inl; decide) | (apply Or.inr; apply Or.inr; (focus (intro gx wq hS hq; (cases hS); (skip); first | (((with_reducible refine QP.oat_load_row (ty := 28) (x := .tmp 2) (g := n) (t := 28) (cs := C) (fr := (0, 0)) ?_ ?_ _ (hq.rows _ mC) und28 ?_ iF hq); rfl; rfl; rfl)) | (unfold QP.oat; go_simp; first | done | exact ⟨by assumption, rfl⟩ | exact rfl | assumption | (((with_reducible refine (C2.out _ hq.below).mono ?_); rintro e w' ⟨rfl, gq⟩; exact ⟨rfl, hq.same gq⟩))))))))
            clear hK K))
    refine QA.wpA_alloc (by decide) rfl ?_ ?_
    · intro g _ wq hq hsz
      unfold QP.oat
      go_simp
      exact KG.of hq hsz 28 Z32
    intro gn _
    iterate 2
      (refine QA.wpA_step (by decide) (fun K hK => ?_)
       go_simp
       first
         | (refine hK _ ?_; clear hK K)
         | (refine ⟨?_, hK _ ?_⟩; decide; clear hK K)
         | ((first | (apply Exists.intro; refine ⟨?_, hK _ ?_⟩) | refine ⟨⟨undef, ?_⟩, hK _ ?_⟩)
            first
              | (apply QA.al_p; decide; (focus (intro gx wq hS hq; (cases hS); (skip); first | (((with_reducible refine QP.oat_store_row (ty := 28) (x := .tmp 8) (y := .tmp 40) (g := _) (cells := R) (t := 28) (old := Z32) ?_ ?_ ?_ hq.row i2 z2 o2 (hq.setRow R)); rfl; rfl; rfl)) | (unfold QP.oat; go_simp; first | done | exact ⟨by assumption, rfl⟩ | exact rfl | assumption | (fail)))))
              | (apply QA.al_o; decide; (first | (apply Or.inl; decide) | (apply Or.inr; (focus (intro wq hq; (skip); first | (((with_reducible refine QP.oat_store_row (ty := 28) (x := .tmp 8) (y := .tmp 40) (g := _) (cells := R) (t := 28) (old := Z32) ?_ ?_ ?_ hq.row i2 z2 o2 (hq.setRow R)); rfl; rfl; rfl)) | (unfold QP.oat; go_simp; first | done | exact ⟨by assumption, rfl⟩ | exact rfl | assumption | (fail)))))); (first | (apply Or.inl; decide) | (apply Or.inr; apply Or.inl; decide) | (apply Or.inr; apply Or.inr; (focus (intro gx wq hS hq; (cases hS); (skip); first | (((with_reducible refine QP.oat_store_row (ty := 28) (x := .tmp 8) (y := .tmp 40) (g := _) (cells := R) (t := 28) (old := Z32) ?_ ?_ ?_ hq.row i2 z2 o2 (hq.setRow R)); rfl; rfl; rfl)) | (unfold QP.oat; go_simp; first | done | exact ⟨by assumption, rfl⟩ | exact rfl | assumption | (fail)))))); (first | (apply Or.inl; decide) | (apply Or.inr; apply Or.inl; decide) | (apply Or.inr; apply Or.inr; (focus (intro gx wq hS hq; (cases hS); (skip); first | (((with_reducible refine QP.oat_store_row (ty := 28) (x := .tmp 8) (y := .tmp 40) (g := _) (cells := R) (t := 28) (old := Z32) ?_ ?_ ?_ hq.row i2 z2 o2 (hq.setRow R)); rfl; rfl; rfl)) | (unfold QP.oat; go_simp; first | done | exact ⟨by assumption, rfl⟩ | exact rfl | assumption | (fail)))))))
            clear hK K))
    refine QA.wpA_nil ?_
    rintro g2 rfl wz bz
    clear k3
    have setc : ∀ v, KG n w L 28 R g2 v → KG n w L 28 T g2 (v.setCell ⟨g2, p / 8, none⟩ (.int .u8 (bits .xor .u8 (y : Int) ((2 : Int) ^ (p % 8) % 256)))) := fun v c => by
      have := c.kb.set (fun x hx => Nat.ne_of_lt (c.lt x hx)) c.ge (p / 8) (.int .u8 (bits .xor .u8 (y : Int) ((2 : Int) ^ (p % 8) % 256)))
      rw [ST.out] at this
      exact ⟨this, c.ge, c.lt⟩
    have cellc : ∀ v, KG n w L 28 R g2 v → v.cell? ⟨g2, p / 8, none⟩ = some (.int .u8 (y : Nat)) ∧ v.frozen? ⟨g2, p / 8, none⟩ = false := fun v c =>
      ⟨(M.RowAt.cell c.row (p / 8)).trans CA.out, M.RowAt.frozen c.row (p / 8)⟩
    have SETC := Lib.hid setc; have CELLC := Lib.hid cellc
    clear setc cellc a8 w0 w7
    go_wp2_with fail
    refine QT.wp_region_p 9 (KG n w L 28 R g2) (KG n w L 28 T g2) (by kernel_rfl) (by kernel_rfl) bz.drew ?_
    iterate 10
      (refine QT.wpQ_step (fun K hK => ?_)
       go_simp
       first
         | (refine hK _ ?_; clear hK K)
         | (refine ⟨?_, hK _ ?_⟩; decide; clear hK K)
         | ((first | (apply Exists.intro; refine ⟨?_, hK _ ?_⟩) | refine ⟨⟨undef, ?_⟩, hK _ ?_⟩)
            first
              | (apply QT.al_p; decide; (focus (intro wq hq; (first | (obtain ⟨hc1, hf1⟩ := CELLC.out _ hq) | skip); first | (fail) | (unfold QP.oat; go_simp; first | done | exact ⟨by assumption, rfl⟩ | exact rfl | assumption | ((rw [wrap_pow]; exact SETC.out _ hq))))))
              | (apply QT.al_dep; decide; decide; (focus (intro wq hq; (first | (obtain ⟨hc1, hf1⟩ := CELLC.out _ hq) | skip); first | (fail) | (unfold QP.oat; go_simp; first | done | exact ⟨by assumption, rfl⟩ | exact rfl | assumption | ((rw [wrap_pow]; exact SETC.out _ hq))))))
              | (apply QT.al_bef; decide; decide; (focus (intro wq hq; (first | (obtain ⟨hc1, hf1⟩ := CELLC.out _ hq) | skip); first | (fail) | (unfold QP.oat; go_simp; first | done | exact ⟨by assumption, rfl⟩ | exact rfl | assumption | ((rw [wrap_pow]; exact SETC.out _ hq))))))
              | (apply QT.al_ok; decide; (focus (intro wq hq; (first | (obtain ⟨hc1, hf1⟩ := CELLC.out _ hq) | skip); first | (fail) | (unfold QP.oat; go_simp; first | done | exact ⟨by assumption, rfl⟩ | exact rfl | assumption | ((rw [wrap_pow]; exact SETC.out _ hq))))); (focus (intro wq hq; (first | (obtain ⟨hc1, hf1⟩ := CELLC.out _ hq) | skip); first | (fail) | (unfold QP.oat; go_simp; first | done | exact ⟨by assumption, rfl⟩ | exact rfl | assumption | ((rw [wrap_pow]; exact SETC.out _ hq))))))
            clear hK K))
    refine QT.wpQ_nil ?_
    intro wy b2
    go_wp2_with fail
    refine QP.wp_region_p 10 (KG n w L 28 T g2) (KG n w L 28 T g2) (by kernel_rfl) (by kernel_rfl) b2.drew ?_
    iterate 17
      (refine QP.wpQ_step (fun K hK => ?_)
       go_simp
       first
         | (refine hK _ ?_; clear hK K)
         | (refine ⟨?_, hK _ ?_⟩; decide; clear hK K)
         | ((first | (apply Exists.intro; refine ⟨?_, hK _ ?_⟩) | refine ⟨⟨undef, ?_⟩, hK _ ?_⟩)
            first
              | (apply QP.al_p; decide; (focus (intro wq hq; (first | (have hcv := HCV.out _ _ hq.row) | skip); first | (first | ((with_reducible refine oat_eql 28 28 (.tmp 58) (.tmp 61) ?_ O O ?_ ?_ true guard28 (E2.out _) hq); rfl; rfl; rfl) | ((with_reducible refine QP.oat_load_row (ty := 28) (x := .tmp 5) (g := g1) (t := 28) (cs := O) (fr := (0, 0)) ?_ ?_ _ (hq.rows _ mO) und28 ?_ i1 hq); rfl; rfl; rfl)) | (unfold QP.oat; go_simp; first | done | exact ⟨by assumption, rfl⟩ | exact rfl | assumption | (first | ((with_reducible refine (CS.out _).mono ?_); rintro e w' ⟨rfl, gq⟩; exact ⟨rfl, hq.same gq⟩) | ((with_reducible refine (SH.out _ hq.below).mono ?_); rintro e w' ⟨rfl, gq⟩; exact ⟨rfl, hq.same gq⟩))))))
              | (apply QP.al_dep; decide; decide; (focus (intro wq hq; (first | (have hcv := HCV.out _ _ hq.row) | skip); first | (first | ((with_reducible refine oat_eql 28 28 (.tmp 58) (.tmp 61) ?_ O O ?_ ?_ true guard28 (E2.out _) hq); rfl; rfl; rfl) | ((with_reducible refine QP.oat_load_row (ty := 28) (x := .tmp 5) (g := g1) (t := 28) (cs := O) (fr := (0, 0)) ?_ ?_ _ (hq.rows _ mO) und28 ?_ i1 hq); rfl; rfl; rfl)) | (unfold QP.oat; go_simp; first | done | exact ⟨by assumption, rfl⟩ | exact rfl | assumption | (first | ((with_reducible refine (CS.out _).mono ?_); rintro e w' ⟨rfl, gq⟩; exact ⟨rfl, hq.same gq⟩) | ((with_reducible refine (SH.out _ hq.below).mono ?_); rintro e w' ⟨rfl, gq⟩; exact ⟨rfl, hq.same gq⟩))))))
              | (apply QP.al_bef; decide; decide; (focus (intro wq hq; (first | (have hcv := HCV.out _ _ hq.row) | skip); first | (first | ((with_reducible refine oat_eql 28 28 (.tmp 58) (.tmp 61) ?_ O O ?_ ?_ true guard28 (E2.out _) hq); rfl; rfl; rfl) | ((with_reducible refine QP.oat_load_row (ty := 28) (x := .tmp 5) (g := g1) (t := 28) (cs := O) (fr := (0, 0)) ?_ ?_ _ (hq.rows _ mO) und28 ?_ i1 hq); rfl; rfl; rfl)) | (unfold QP.oat; go_simp; first | done | exact ⟨by assumption, rfl⟩ | exact rfl | assumption | (first | ((with_reducible refine (CS.out _).mono ?_); rintro e w' ⟨rfl, gq⟩; exact ⟨rfl, hq.same gq⟩) | ((with_reducible refine (SH.out _ hq.below).mono ?_); rintro e w' ⟨rfl, gq⟩; exact ⟨rfl, hq.same gq⟩))))))
              | (apply QP.al_ok; decide; (focus (intro wq hq; (first | (have hcv := HCV.out _ _ hq.row) | skip); first | (first | ((with_reducible refine oat_eql 28 28 (.tmp 58) (.tmp 61) ?_ O O ?_ ?_ true guard28 (E2.out _) hq); rfl; rfl; rfl) | ((with_reducible refine QP.oat_load_row (ty := 28) (x := .tmp 5) (g := g1) (t := 28) (cs := O) (fr := (0, 0)) ?_ ?_ _ (hq.rows _ mO) und28 ?_ i1 hq); rfl; rfl; rfl)) | (unfold QP.oat; go_simp; first | done | exact ⟨by assumption, rfl⟩ | exact rfl | assumption | (first | ((with_reducible refine (CS.out _).mono ?_); rintro e w' ⟨rfl, gq⟩; exact ⟨rfl, hq.same gq⟩) | ((with_reducible refine (SH.out _ hq.below).mono ?_); rintro e w' ⟨rfl, gq⟩; exact ⟨rfl, hq.same gq⟩))))); (focus (intro wq hq; (first | (have hcv := HCV.out _ _ hq.row) | skip); first | (first | ((with_reducible refine oat_eql 28 28 (.tmp 58) (.tmp 61) ?_ O O ?_ ?_ true guard28 (E2.out _) hq); rfl; rfl; rfl) | ((with_reducible refine QP.oat_load_row (ty := 28) (x := .tmp 5) (g := g1) (t := 28) (cs := O) (fr := (0, 0)) ?_ ?_ _ (hq.rows _ mO) und28 ?_ i1 hq); rfl; rfl; rfl)) | (unfold QP.oat; go_simp; first | done | exact ⟨by assumption, rfl⟩ | exact rfl | assumption | (first | ((with_reducible refine (CS.out _).mono ?_); rintro e w' ⟨rfl, gq⟩; exact ⟨rfl, hq.same gq⟩) | ((with_reducible refine (SH.out _ hq.below).mono ?_); rintro e w' ⟨rfl, gq⟩; exact ⟨rfl, hq.same gq⟩))))))
            clear hK K))
    refine QP.wpQ_nil ?_
    intro wx b3
    go_wp2
    go_ret
    exact ⟨rfl, by rw [HN.out]; exact b3.below⟩

theorem walk_SecretSteps (z0 : List Int) (l0 : z0.length = 32) (w0 : ∀ z ∈ z0, (Lit.int .u8 z).wf = true) (a1 : Int) (w1 : (Lit.int .u16 a1).wf = true) {W : World} (hL : laidMetH Tryd.prog Rows.secretStepsRow.laid W) :
    Calls Tryd.prog 13 #[.agg (z0.map (Value.int .u8)).toArray, .int .u16 a1] W (Fine W) := by
  obtain ⟨P, hP, e1⟩ := r8_of z0 l0 w0
  rw [e1]
  have h1 := RowK.wf_u16 w1
  obtain ⟨x, rfl⟩ := Int.eq_ofNat_of_zero_le h1.1
  exact steps_walk P x W (tabs_of hL (by simp [Rows.secretStepsRow]) (by simp [Rows.secretStepsRow])) (tz_of hL (by simp [Rows.secretStepsRow])) hP (by omega)
end Go.Proofs.YtpfcalamchdciaaDoor
