/- The walk of SecretFar; the conditions are that the tables are laid and that arrays of bytes hold bytes. -/
import Derived.Test.YtpfcalamchdciaaDoorSdD
import Derived.Test.YtpfcalamchdciaaDoorScRowT
namespace Go.Proofs.YtpfcalamchdciaaDoor
open Go.RowKit
set_option linter.unusedVariables false

set_option maxRecDepth 100000 in
set_option maxHeartbeats 4000000 in
theorem far_walk (F : Nat → Nat) (a b c : Nat) (w : World) (ht : Tabs w) (hz : TzT w) (hF : ∀ j, F j < 256) (ha : a < 65536) (hb : b < 65536) (hc : c < 65536) :
    Calls Tryd.prog 14 #[.agg (r8 32 F), .int .u16 (a : Nat), .int .u16 (b : Nat), .int .u16 (c : Nat)] w (Fine w) := by
  obtain ⟨n, hn⟩ : ∃ n, w.heap.size = n := ⟨_, rfl⟩
  have HN := Lib.hid hn
  have h1n : 1 < n := hn ▸ ht.lt
  have h3n : 3 < n := hn ▸ hz.lt
  have tb := fun v (hb : Below n w v) => ht.below hb h1n
  have tz := fun v (hb : Below n w v) => hz.below hb h3n
  have sh := fun v (hb : Below n w v) => scshown_b v (tz v hb)
  have SH := Lib.hid sh
  have k0 : KB n w [(n, 28, r8 32 F)] (w.alloc (.cells (r8 32 F) 28)) := hn ▸ (KB.start w).new 28 (r8 32 F)
  have iF := r8_info F
  have pa : place (a : Int) = Sc.pl a := by unfold place; rw [show isN (a : Int) = true by simp [isN]; omega]; rfl
  have pb : place (b : Int) = Sc.pl b := by unfold place; rw [show isN (b : Int) = true by simp [isN]; omega]; rfl
  have c1 := fun v (hb : Below n w v) => derive_any F (a : Int) (b : Int) v (tb v hb) (tz v hb) hF
  have c2 := fun v (hb : Below n w v) => derive_any (drH F (a : Int) (b : Int)) (b : Int) (c : Int) v (tb v hb) (tz v hb) (drH_lt hF _ _)
  have c3 := fun v (hb : Below n w v) => derive_any F (a : Int) (c : Int) v (tb v hb) (tz v hb) hF
  have i1 := r8_info (drH F (a : Int) (b : Int)); have z1 := r8_zero (drH F (a : Int) (b : Int)); have o1 := r8_one (drH F (a : Int) (b : Int))
  have i2 := r8_info (drH (drH F (a : Int) (b : Int)) (b : Int) (c : Int)); have z2 := r8_zero (drH (drH F (a : Int) (b : Int)) (b : Int) (c : Int)); have o2 := r8_one (drH (drH F (a : Int) (b : Int)) (b : Int) (c : Int))
  have i3 := r8_info (drH F (a : Int) (c : Int)); have z3 := r8_zero (drH F (a : Int) (c : Int)); have o3 := r8_one (drH F (a : Int) (c : Int))
  have q1 : IntKind.i64.wrap (a : Int) = a := IntWalk.i64_in _ (by omega)
  have q2 : IntKind.i64.wrap (b : Int) = b := IntWalk.i64_in _ (by omega)
  have q3 : IntKind.i64.wrap (c : Int) = c := IntWalk.i64_in _ (by omega)
  cases hab : can (a : Int) (b : Int)
  · have e1 : drE (a : Int) (b : Int) = 1 := by unfold drE; rw [hab]; rfl
    rw [e1] at c1
    generalize drE (b : Int) (c : Int) = E2 at *
    generalize drE (a : Int) (c : Int) = E3 at *
    generalize r8 32 (drH F (a : Int) (c : Int)) = D3 at *
    generalize r8 32 (drH (drH F (a : Int) (b : Int)) (b : Int) (c : Int)) = D2 at *
    generalize r8 32 (drH F (a : Int) (b : Int)) = D1 at *
    generalize r8 32 F = C at *
    have C1 := Lib.hid c1; have C2 := Lib.hid c2; have C3 := Lib.hid c3
    obtain ⟨V0, hV⟩ : ∃ V0, w.alloc (.cells C 28) = V0 := ⟨_, rfl⟩
    rw [hV] at k0
    have HV := Lib.hid hV
    clear c1 c2 c3 sh tb tz ht hz h1n h3n hV pa pb hab ha hb hc e1
    go_enter Tryd.func14, Tryd.ntmps14
    go_wp2_with (first
      | (rw [HV.out]; refine wpList_load_row (x := .tmp 4) (ty := 28) (g := n) (cs := C) (t := 28) (fr := (0, 0)) ?_ ?_ ?_ _ (k0.row n 28 C (by simp)) und28 rfl iF ?_; rfl; rfl; rfl)
      | fail)
    refine (C1.out _ k0.below).mono ?_
    rintro e w1 ⟨rfl, gq⟩
    have k1 := k0.same gq
    clear gq k0
    clear hn
    obtain ⟨g1, V1, U1, hg1, hV1, rV1, hU1, kk1, geg1, ltg1⟩ := k1.box 28 (#[.int .u8 0, .int .u8 0, .int .u8 0, .int .u8 0, .int .u8 0, .int .u8 0, .int .u8 0, .int .u8 0, .int .u8 0, .int .u8 0, .int .u8 0, .int .u8 0, .int .u8 0, .int .u8 0, .int .u8 0, .int .u8 0, .int .u8 0, .int .u8 0, .int .u8 0, .int .u8 0, .int .u8 0, .int .u8 0, .int .u8 0, .int .u8 0, .int .u8 0, .int .u8 0, .int .u8 0, .int .u8 0, .int .u8 0, .int .u8 0, .int .u8 0, .int .u8 0]) D1
    have Hg1 := Lib.hid hg1; have HV1 := Lib.hid hV1; have HU1 := Lib.hid hU1
    clear hg1 hV1 hU1 k1 ltg1
    go_wp2_with (first
      | (rw [Hg1.out, HV1.out]; refine wpList_store_row (x := .tmp 9) (y := .tmp 22) (cells := D1) (old := Z32) (t := 28) (ty := 28) (g := g1) ?_ ?_ ?_ ?_ rV1 i1 z1 o1 ?_; rfl; rfl; rfl; rfl; rw [HU1.out])
      | (refine wpList_load_row (x := .tmp 9) (ty := 28) (g := g1) (cs := D1) (t := 28) (fr := (0, 0)) ?_ ?_ ?_ _ (kk1.row g1 28 D1 (by simp)) und28 rfl i1 ?_; rfl; rfl; rfl)
      | fail)
    clear rV1 Hg1 HV1 HU1
    refine (C2.out _ kk1.below).mono ?_
    rintro e w2 ⟨rfl, gq⟩
    have k2 := kk1.same gq
    clear gq kk1
    obtain ⟨g2, V2, U2, hg2, hV2, rV2, hU2, kk2, geg2, ltg2⟩ := k2.box 28 (#[.int .u8 0, .int .u8 0, .int .u8 0, .int .u8 0, .int .u8 0, .int .u8 0, .int .u8 0, .int .u8 0, .int .u8 0, .int .u8 0, .int .u8 0, .int .u8 0, .int .u8 0, .int .u8 0, .int .u8 0, .int .u8 0, .int .u8 0, .int .u8 0, .int .u8 0, .int .u8 0, .int .u8 0, .int .u8 0, .int .u8 0, .int .u8 0, .int .u8 0, .int .u8 0, .int .u8 0, .int .u8 0, .int .u8 0, .int .u8 0, .int .u8 0, .int .u8 0]) D2
    have Hg2 := Lib.hid hg2; have HV2 := Lib.hid hV2; have HU2 := Lib.hid hU2
    clear hg2 hV2 hU2 k2 ltg2
    go_wp2_with (first
      | (rw [Hg2.out, HV2.out]; refine wpList_store_row (x := .tmp 11) (y := .tmp 31) (cells := D2) (old := Z32) (t := 28) (ty := 28) (g := g2) ?_ ?_ ?_ ?_ rV2 i2 z2 o2 ?_; rfl; rfl; rfl; rfl; rw [HU2.out])
      | (refine wpList_load_row (x := .tmp 4) (ty := 28) (g := n) (cs := C) (t := 28) (fr := (0, 0)) ?_ ?_ ?_ _ (kk2.row n 28 C (by simp)) und28 rfl iF ?_; rfl; rfl; rfl)
      | fail)
    clear rV2 Hg2 HV2 HU2
    refine (C3.out _ kk2.below).mono ?_
    rintro e w3 ⟨rfl, gq⟩
    have k3 := kk2.same gq
    clear gq kk2
    obtain ⟨g3, V3, U3, hg3, hV3, rV3, hU3, kk3, geg3, ltg3⟩ := k3.box 28 (#[.int .u8 0, .int .u8 0, .int .u8 0, .int .u8 0, .int .u8 0, .int .u8 0, .int .u8 0, .int .u8 0, .int .u8 0, .int .u8 0, .int .u8 0, .int .u8 0, .int .u8 0, .int .u8 0, .int .u8 0, .int .u8 0, .int .u8 0, .int .u8 0, .int .u8 0, .int .u8 0, .int .u8 0, .int .u8 0, .int .u8 0, .int .u8 0, .int .u8 0, .int .u8 0, .int .u8 0, .int .u8 0, .int .u8 0, .int .u8 0, .int .u8 0, .int .u8 0]) D3
    have Hg3 := Lib.hid hg3; have HV3 := Lib.hid hV3; have HU3 := Lib.hid hU3
    clear hg3 hV3 hU3 k3 ltg3
    go_wp2_with (first
      | (rw [Hg3.out, HV3.out]; refine wpList_store_row (x := .tmp 13) (y := .tmp 40) (cells := D3) (old := Z32) (t := 28) (ty := 28) (g := g3) ?_ ?_ ?_ ?_ rV3 i3 z3 o3 ?_; rfl; rfl; rfl; rfl; rw [HU3.out])
      | fail)
    clear rV3 Hg3 HV3 HU3
    refine (SH.out _ kk3.below).mono ?_
    rintro e w4 ⟨rfl, gq⟩
    have k4 := kk3.same gq
    clear gq kk3
    go_wp2_with (first
      | fail)
    go_ret
    exact ⟨rfl, by rw [HN.out]; exact k4.below⟩
  · cases hbc : can (b : Int) (c : Int)
    · have e1 : drE (a : Int) (b : Int) = 0 := by unfold drE; rw [hab]; rfl
      rw [e1] at c1
      have e2 : drE (b : Int) (c : Int) = 1 := by unfold drE; rw [hbc]; rfl
      rw [e2] at c2
      generalize drE (a : Int) (c : Int) = E3 at *
      generalize r8 32 (drH F (a : Int) (c : Int)) = D3 at *
      generalize r8 32 (drH (drH F (a : Int) (b : Int)) (b : Int) (c : Int)) = D2 at *
      generalize r8 32 (drH F (a : Int) (b : Int)) = D1 at *
      generalize r8 32 F = C at *
      have C1 := Lib.hid c1; have C2 := Lib.hid c2; have C3 := Lib.hid c3
      obtain ⟨V0, hV⟩ : ∃ V0, w.alloc (.cells C 28) = V0 := ⟨_, rfl⟩
      rw [hV] at k0
      have HV := Lib.hid hV
      clear c1 c2 c3 sh tb tz ht hz h1n h3n hV pa pb hab ha hb hc e1 e2 hbc
      go_enter Tryd.func14, Tryd.ntmps14
      go_wp2_with (first
        | (rw [HV.out]; refine wpList_load_row (x := .tmp 4) (ty := 28) (g := n) (cs := C) (t := 28) (fr := (0, 0)) ?_ ?_ ?_ _ (k0.row n 28 C (by simp)) und28 rfl iF ?_; rfl; rfl; rfl)
        | fail)
      refine (C1.out _ k0.below).mono ?_
      rintro e w1 ⟨rfl, gq⟩
      have k1 := k0.same gq
      clear gq k0
      clear hn
      obtain ⟨g1, V1, U1, hg1, hV1, rV1, hU1, kk1, geg1, ltg1⟩ := k1.box 28 (#[.int .u8 0, .int .u8 0, .int .u8 0, .int .u8 0, .int .u8 0, .int .u8 0, .int .u8 0, .int .u8 0, .int .u8 0, .int .u8 0, .int .u8 0, .int .u8 0, .int .u8 0, .int .u8 0, .int .u8 0, .int .u8 0, .int .u8 0, .int .u8 0, .int .u8 0, .int .u8 0, .int .u8 0, .int .u8 0, .int .u8 0, .int .u8 0, .int .u8 0, .int .u8 0, .int .u8 0, .int .u8 0, .int .u8 0, .int .u8 0, .int .u8 0, .int .u8 0]) D1
      have Hg1 := Lib.hid hg1; have HV1 := Lib.hid hV1; have HU1 := Lib.hid hU1
      clear hg1 hV1 hU1 k1 ltg1
      go_wp2_with (first
        | (rw [Hg1.out, HV1.out]; refine wpList_store_row (x := .tmp 9) (y := .tmp 22) (cells := D1) (old := Z32) (t := 28) (ty := 28) (g := g1) ?_ ?_ ?_ ?_ rV1 i1 z1 o1 ?_; rfl; rfl; rfl; rfl; rw [HU1.out])
        | (refine wpList_load_row (x := .tmp 9) (ty := 28) (g := g1) (cs := D1) (t := 28) (fr := (0, 0)) ?_ ?_ ?_ _ (kk1.row g1 28 D1 (by simp)) und28 rfl i1 ?_; rfl; rfl; rfl)
        | fail)
      clear rV1 Hg1 HV1 HU1
      refine (C2.out _ kk1.below).mono ?_
      rintro e w2 ⟨rfl, gq⟩
      have k2 := kk1.same gq
      clear gq kk1
      obtain ⟨g2, V2, U2, hg2, hV2, rV2, hU2, kk2, geg2, ltg2⟩ := k2.box 28 (#[.int .u8 0, .int .u8 0, .int .u8 0, .int .u8 0, .int .u8 0, .int .u8 0, .int .u8 0, .int .u8 0, .int .u8 0, .int .u8 0, .int .u8 0, .int .u8 0, .int .u8 0, .int .u8 0, .int .u8 0, .int .u8 0, .int .u8 0, .int .u8 0, .int .u8 0, .int .u8 0, .int .u8 0, .int .u8 0, .int .u8 0, .int .u8 0, .int .u8 0, .int .u8 0, .int .u8 0, .int .u8 0, .int .u8 0, .int .u8 0, .int .u8 0, .int .u8 0]) D2
      have Hg2 := Lib.hid hg2; have HV2 := Lib.hid hV2; have HU2 := Lib.hid hU2
      clear hg2 hV2 hU2 k2 ltg2
      go_wp2_with (first
        | (rw [Hg2.out, HV2.out]; refine wpList_store_row (x := .tmp 11) (y := .tmp 31) (cells := D2) (old := Z32) (t := 28) (ty := 28) (g := g2) ?_ ?_ ?_ ?_ rV2 i2 z2 o2 ?_; rfl; rfl; rfl; rfl; rw [HU2.out])
        | (refine wpList_load_row (x := .tmp 4) (ty := 28) (g := n) (cs := C) (t := 28) (fr := (0, 0)) ?_ ?_ ?_ _ (kk2.row n 28 C (by simp)) und28 rfl iF ?_; rfl; rfl; rfl)
        | fail)
      clear rV2 Hg2 HV2 HU2
      refine (C3.out _ kk2.below).mono ?_
      rintro e w3 ⟨rfl, gq⟩
      have k3 := kk2.same gq
      clear gq kk2
      obtain ⟨g3, V3, U3, hg3, hV3, rV3, hU3, kk3, geg3, ltg3⟩ := k3.box 28 (#[.int .u8 0, .int .u8 0, .int .u8 0, .int .u8 0, .int .u8 0, .int .u8 0, .int .u8 0, .int .u8 0, .int .u8 0, .int .u8 0, .int .u8 0, .int .u8 0, .int .u8 0, .int .u8 0, .int .u8 0, .int .u8 0, .int .u8 0, .int .u8 0, .int .u8 0, .int .u8 0, .int .u8 0, .int .u8 0, .int .u8 0, .int .u8 0, .int .u8 0, .int .u8 0, .int .u8 0, .int .u8 0, .int .u8 0, .int .u8 0, .int .u8 0, .int .u8 0]) D3
      have Hg3 := Lib.hid hg3; have HV3 := Lib.hid hV3; have HU3 := Lib.hid hU3
      clear hg3 hV3 hU3 k3 ltg3
      go_wp2_with (first
        | (rw [Hg3.out, HV3.out]; refine wpList_store_row (x := .tmp 13) (y := .tmp 40) (cells := D3) (old := Z32) (t := 28) (ty := 28) (g := g3) ?_ ?_ ?_ ?_ rV3 i3 z3 o3 ?_; rfl; rfl; rfl; rfl; rw [HU3.out])
        | fail)
      clear rV3 Hg3 HV3 HU3
      refine (SH.out _ kk3.below).mono ?_
      rintro e w4 ⟨rfl, gq⟩
      have k4 := kk3.same gq
      clear gq kk3
      go_wp2_with (first
        | fail)
      go_ret
      exact ⟨rfl, by rw [HN.out]; exact k4.below⟩
    · have e1 : drE (a : Int) (b : Int) = 0 := by unfold drE; rw [hab]; rfl
      rw [e1] at c1
      have hac := can_trans ha hb hc hab hbc
      have e2 : drE (b : Int) (c : Int) = 0 := by unfold drE; rw [hbc]; rfl
      rw [e2] at c2
      have e3 : drE (a : Int) (c : Int) = 0 := by unfold drE; rw [hac]; rfl
      rw [e3] at c3
      have m3 : drH (drH F (a : Int) (b : Int)) (b : Int) (c : Int) = drH F (a : Int) (c : Int) := by
        unfold drH
        rw [hab, hbc, hac, pa, pb]
        exact far ha hb hc hab hbc F
      rw [m3] at c2 i2 z2 o2
      have e4 := fun W => r8_eq (drH F (a : Int) (c : Int)) W
      generalize r8 32 (drH F (a : Int) (c : Int)) = D3 at *
      generalize r8 32 (drH F (a : Int) (b : Int)) = D1 at *
      generalize r8 32 F = C at *
      have C1 := Lib.hid c1; have C2 := Lib.hid c2; have C3 := Lib.hid c3
      obtain ⟨V0, hV⟩ : ∃ V0, w.alloc (.cells C 28) = V0 := ⟨_, rfl⟩
      rw [hV] at k0
      have HV := Lib.hid hV
      clear c1 c2 c3 sh tb tz ht hz h1n h3n hV pa pb hab ha hb hc e1 e2 e3 hbc hac m3
      go_enter Tryd.func14, Tryd.ntmps14
      go_wp2_with (first
        | (rw [HV.out]; refine wpList_load_row (x := .tmp 4) (ty := 28) (g := n) (cs := C) (t := 28) (fr := (0, 0)) ?_ ?_ ?_ _ (k0.row n 28 C (by simp)) und28 rfl iF ?_; rfl; rfl; rfl)
        | fail)
      refine (C1.out _ k0.below).mono ?_
      rintro e w1 ⟨rfl, gq⟩
      have k1 := k0.same gq
      clear gq k0
      clear hn
      obtain ⟨g1, V1, U1, hg1, hV1, rV1, hU1, kk1, geg1, ltg1⟩ := k1.box 28 (#[.int .u8 0, .int .u8 0, .int .u8 0, .int .u8 0, .int .u8 0, .int .u8 0, .int .u8 0, .int .u8 0, .int .u8 0, .int .u8 0, .int .u8 0, .int .u8 0, .int .u8 0, .int .u8 0, .int .u8 0, .int .u8 0, .int .u8 0, .int .u8 0, .int .u8 0, .int .u8 0, .int .u8 0, .int .u8 0, .int .u8 0, .int .u8 0, .int .u8 0, .int .u8 0, .int .u8 0, .int .u8 0, .int .u8 0, .int .u8 0, .int .u8 0, .int .u8 0]) D1
      have Hg1 := Lib.hid hg1; have HV1 := Lib.hid hV1; have HU1 := Lib.hid hU1
      clear hg1 hV1 hU1 k1 ltg1
      go_wp2_with (first
        | (rw [Hg1.out, HV1.out]; refine wpList_store_row (x := .tmp 9) (y := .tmp 22) (cells := D1) (old := Z32) (t := 28) (ty := 28) (g := g1) ?_ ?_ ?_ ?_ rV1 i1 z1 o1 ?_; rfl; rfl; rfl; rfl; rw [HU1.out])
        | (refine wpList_load_row (x := .tmp 9) (ty := 28) (g := g1) (cs := D1) (t := 28) (fr := (0, 0)) ?_ ?_ ?_ _ (kk1.row g1 28 D1 (by simp)) und28 rfl i1 ?_; rfl; rfl; rfl)
        | fail)
      clear rV1 Hg1 HV1 HU1
      refine (C2.out _ kk1.below).mono ?_
      rintro e w2 ⟨rfl, gq⟩
      have k2 := kk1.same gq
      clear gq kk1
      obtain ⟨g2, V2, U2, hg2, hV2, rV2, hU2, kk2, geg2, ltg2⟩ := k2.box 28 (#[.int .u8 0, .int .u8 0, .int .u8 0, .int .u8 0, .int .u8 0, .int .u8 0, .int .u8 0, .int .u8 0, .int .u8 0, .int .u8 0, .int .u8 0, .int .u8 0, .int .u8 0, .int .u8 0, .int .u8 0, .int .u8 0, .int .u8 0, .int .u8 0, .int .u8 0, .int .u8 0, .int .u8 0, .int .u8 0, .int .u8 0, .int .u8 0, .int .u8 0, .int .u8 0, .int .u8 0, .int .u8 0, .int .u8 0, .int .u8 0, .int .u8 0, .int .u8 0]) D3
      have Hg2 := Lib.hid hg2; have HV2 := Lib.hid hV2; have HU2 := Lib.hid hU2
      clear hg2 hV2 hU2 k2 ltg2
      go_wp2_with (first
        | (rw [Hg2.out, HV2.out]; refine wpList_store_row (x := .tmp 11) (y := .tmp 31) (cells := D3) (old := Z32) (t := 28) (ty := 28) (g := g2) ?_ ?_ ?_ ?_ rV2 i2 z2 o2 ?_; rfl; rfl; rfl; rfl; rw [HU2.out])
        | (refine wpList_load_row (x := .tmp 4) (ty := 28) (g := n) (cs := C) (t := 28) (fr := (0, 0)) ?_ ?_ ?_ _ (kk2.row n 28 C (by simp)) und28 rfl iF ?_; rfl; rfl; rfl)
        | fail)
      clear rV2 Hg2 HV2 HU2
      refine (C3.out _ kk2.below).mono ?_
      rintro e w3 ⟨rfl, gq⟩
      have k3 := kk2.same gq
      clear gq kk2
      obtain ⟨g3, V3, U3, hg3, hV3, rV3, hU3, kk3, geg3, ltg3⟩ := k3.box 28 (#[.int .u8 0, .int .u8 0, .int .u8 0, .int .u8 0, .int .u8 0, .int .u8 0, .int .u8 0, .int .u8 0, .int .u8 0, .int .u8 0, .int .u8 0, .int .u8 0, .int .u8 0, .int .u8 0, .int .u8 0, .int .u8 0, .int .u8 0, .int .u8 0, .int .u8 0, .int .u8 0, .int .u8 0, .int .u8 0, .int .u8 0, .int .u8 0, .int .u8 0, .int .u8 0, .int .u8 0, .int .u8 0, .int .u8 0, .int .u8 0, .int .u8 0, .int .u8 0]) D3
      have Hg3 := Lib.hid hg3; have HV3 := Lib.hid hV3; have HU3 := Lib.hid hU3
      clear hg3 hV3 hU3 k3 ltg3
      go_wp2_with (first
        | (rw [Hg3.out, HV3.out]; refine wpList_store_row (x := .tmp 13) (y := .tmp 40) (cells := D3) (old := Z32) (t := 28) (ty := 28) (g := g3) ?_ ?_ ?_ ?_ rV3 i3 z3 o3 ?_; rfl; rfl; rfl; rfl; rw [HU3.out])
        | (refine wpList_load_row_g (x := .tmp 11) (ty := 28) (g := g2) (cs := D3) (t := 28) (fr := (0, 0)) ?_ ?_ ?_ _ (kk3.row g2 28 D3 (by simp)) und28 rfl i2 ?_; rfl; rfl; rfl)
        | (refine wpList_load_row_g (x := .tmp 13) (ty := 28) (g := g3) (cs := D3) (t := 28) (fr := (0, 0)) ?_ ?_ ?_ _ (kk3.row g3 28 D3 (by simp)) und28 rfl i3 ?_; rfl; rfl; rfl)
        | fail)
      clear rV3 Hg3 HV3 HU3
      refine (SH.out _ kk3.below).mono ?_
      rintro e w4 ⟨rfl, gq⟩
      have k4 := kk3.same gq
      clear gq kk3
      go_wp2_with (first
        | fail)
      go_ret
      exact ⟨rfl, by rw [HN.out]; exact k4.below⟩

theorem walk_SecretFar (z0 : List Int) (l0 : z0.length = 32) (w0 : ∀ z ∈ z0, (Lit.int .u8 z).wf = true) (a1 : Int) (w1 : (Lit.int .u16 a1).wf = true) (a2 : Int) (w2 : (Lit.int .u16 a2).wf = true) (a3 : Int) (w3 : (Lit.int .u16 a3).wf = true) {W : World} (hL : laidMetH Tryd.prog Rows.secretFarRow.laid W) :
    Calls Tryd.prog 14 #[.agg (z0.map (Value.int .u8)).toArray, .int .u16 a1, .int .u16 a2, .int .u16 a3] W (Fine W) := by
  obtain ⟨P, hP, e1⟩ := r8_of z0 l0 w0
  rw [e1]
  have h1 := RowK.wf_u16 w1
  have h2 := RowK.wf_u16 w2
  have h3 := RowK.wf_u16 w3
  obtain ⟨x, rfl⟩ := Int.eq_ofNat_of_zero_le h1.1
  obtain ⟨y, rfl⟩ := Int.eq_ofNat_of_zero_le h2.1
  obtain ⟨z, rfl⟩ := Int.eq_ofNat_of_zero_le h3.1
  exact far_walk P x y z W (tabs_of hL (by simp [Rows.secretFarRow]) (by simp [Rows.secretFarRow])) (tz_of hL (by simp [Rows.secretFarRow])) hP (by omega) (by omega) (by omega)
end Go.Proofs.YtpfcalamchdciaaDoor
