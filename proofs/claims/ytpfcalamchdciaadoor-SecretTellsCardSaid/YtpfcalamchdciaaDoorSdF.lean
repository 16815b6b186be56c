/- The walk of SecretTells; the conditions are that the tables are laid and that arrays of bytes hold bytes. -/
import Derived.Test.YtpfcalamchdciaaDoorSdD
import Derived.Test.YtpfcalamchdciaaDoorScRowT
namespace Go.Proofs.YtpfcalamchdciaaDoor
open Go.RowKit
set_option linter.unusedVariables false

set_option maxRecDepth 100000 in
set_option maxHeartbeats 4000000 in
theorem tells_walk (F : Nat → Nat) (a b : Int) (w : World) (ht : Tabs w) (hz : TzT w) (hF : ∀ j, F j < 256) :
    Calls Tryd.prog 15 #[.agg (r8 32 F), .int .i64 a, .int .i64 b] w (Fine w) := by
  obtain ⟨n, hn⟩ : ∃ n, w.heap.size = n := ⟨_, rfl⟩
  have HN := Lib.hid hn
  have h1n : 1 < n := hn ▸ ht.lt
  have h3n : 3 < n := hn ▸ hz.lt
  have tb := fun v (hb : Below n w v) => ht.below hb h1n
  have tz := fun v (hb : Below n w v) => hz.below hb h3n
  have sh := fun v (hb : Below n w v) => scshown_b v (tz v hb)
  have SH := Lib.hid sh
  have k0 : KB n w [(n, 28, r8 32 F)] (w.alloc (.cells (r8 32 F) 28)) := hn ▸ (KB.start w).new 28 (r8 32 F)
  have iF := r8_info F
  have c1 := fun v (hb : Below n w v) => make_any F a v (tb v hb) hF
  have c2 := fun v => rmake_any F a v hF
  have c3 := fun v (hb : Below n w v) => derive_any F a b v (tb v hb) (tz v hb) hF
  have c4 := fun v => rderive_any F a b v hF
  have c5 := fun v (hb : Below n w v) => place_b a v (tz v hb)
  have c6 := fun v => rplace_any a v
  have c7 := fun v (hb : Below n w v) => can_b a b v (tz v hb)
  have c8 := fun v => rcan_any a b v
  have e1 := fun W => r8_eq (mkH F a) W
  have e2 := fun W => r8_eq (drH F a b) W
  have i1 := r8_info (mkH F a); have z1 := r8_zero (mkH F a); have o1 := r8_one (mkH F a)
  have i2 := r8_info (drH F a b); have z2 := r8_zero (drH F a b); have o2 := r8_one (drH F a b)
  generalize r8 32 (mkH F a) = D1 at *
  generalize r8 32 (drH F a b) = D2 at *
  generalize r8 32 F = C at *
  generalize mkE a = E1 at *
  generalize drE a b = E2 at *
  generalize place a = p at *
  generalize can a b = q at *
  have C1 := Lib.hid c1; have C2 := Lib.hid c2; have C3 := Lib.hid c3; have C4 := Lib.hid c4; have C5 := Lib.hid c5; have C6 := Lib.hid c6; have C7 := Lib.hid c7; have C8 := Lib.hid c8
  obtain ⟨V0, hV⟩ : ∃ V0, w.alloc (.cells C 28) = V0 := ⟨_, rfl⟩
  rw [hV] at k0
  have HV := Lib.hid hV
  clear c1 c2 c3 c4 c5 c6 c7 c8 sh tb tz ht hz h1n h3n hV
  go_enter Tryd.func15, Tryd.ntmps15
  go_wp2_with (first
    | (rw [HV.out]; refine wpList_load_row (x := .tmp 3) (ty := 28) (g := n) (cs := C) (t := 28) (fr := (0, 0)) ?_ ?_ ?_ _ (k0.row n 28 C (by simp)) und28 rfl iF ?_; rfl; rfl; rfl)
    | fail)
  refine (C1.out _ k0.below).mono ?_
  rintro e w1 ⟨rfl, gq⟩
  have k1 := k0.same gq
  clear gq k0
  clear hn
  obtain ⟨g1, V1, U1, hg1, hV1, rV1, hU1, kk1, geg1, ltg1⟩ := k1.box 28 (#[.int .u8 0, .int .u8 0, .int .u8 0, .int .u8 0, .int .u8 0, .int .u8 0, .int .u8 0, .int .u8 0, .int .u8 0, .int .u8 0, .int .u8 0, .int .u8 0, .int .u8 0, .int .u8 0, .int .u8 0, .int .u8 0, .int .u8 0, .int .u8 0, .int .u8 0, .int .u8 0, .int .u8 0, .int .u8 0, .int .u8 0, .int .u8 0, .int .u8 0, .int .u8 0, .int .u8 0, .int .u8 0, .int .u8 0, .int .u8 0, .int .u8 0, .int .u8 0]) D1
  have Hg1 := Lib.hid hg1; have HV1 := Lib.hid hV1; have HU1 := Lib.hid hU1
  clear hg1 hV1 hU1 k1 ltg1
  go_wp2_with (first
    | (rw [Hg1.out, HV1.out]; refine wpList_store_row (x := .tmp 7) (y := .tmp 19) (cells := D1) (old := Z32) (t := 28) (ty := 28) (g := g1) ?_ ?_ ?_ ?_ rV1 i1 z1 o1 ?_; rfl; rfl; rfl; rfl; rw [HU1.out])
    | (refine wpList_load_row (x := .tmp 3) (ty := 28) (g := n) (cs := C) (t := 28) (fr := (0, 0)) ?_ ?_ ?_ _ (kk1.row n 28 C (by simp)) und28 rfl iF ?_; rfl; rfl; rfl)
    | fail)
  clear rV1 Hg1 HV1 HU1
  refine (C2.out _).mono ?_
  rintro e w2 ⟨rfl, gq⟩
  have k2 := kk1.same gq
  clear gq kk1
  obtain ⟨g2, V2, U2, hg2, hV2, rV2, hU2, kk2, geg2, ltg2⟩ := k2.box 28 (#[.int .u8 0, .int .u8 0, .int .u8 0, .int .u8 0, .int .u8 0, .int .u8 0, .int .u8 0, .int .u8 0, .int .u8 0, .int .u8 0, .int .u8 0, .int .u8 0, .int .u8 0, .int .u8 0, .int .u8 0, .int .u8 0, .int .u8 0, .int .u8 0, .int .u8 0, .int .u8 0, .int .u8 0, .int .u8 0, .int .u8 0, .int .u8 0, .int .u8 0, .int .u8 0, .int .u8 0, .int .u8 0, .int .u8 0, .int .u8 0, .int .u8 0, .int .u8 0]) D1
  have Hg2 := Lib.hid hg2; have HV2 := Lib.hid hV2; have HU2 := Lib.hid hU2
  clear hg2 hV2 hU2 k2 ltg2
  go_wp2_with (first
    | (rw [Hg2.out, HV2.out]; refine wpList_store_row (x := .tmp 9) (y := .tmp 25) (cells := D1) (old := Z32) (t := 28) (ty := 28) (g := g2) ?_ ?_ ?_ ?_ rV2 i1 z1 o1 ?_; rfl; rfl; rfl; rfl; rw [HU2.out])
    | (refine wpList_load_row (x := .tmp 3) (ty := 28) (g := n) (cs := C) (t := 28) (fr := (0, 0)) ?_ ?_ ?_ _ (kk2.row n 28 C (by simp)) und28 rfl iF ?_; rfl; rfl; rfl)
    | fail)
  clear rV2 Hg2 HV2 HU2
  refine (C3.out _ kk2.below).mono ?_
  rintro e w3 ⟨rfl, gq⟩
  have k3 := kk2.same gq
  clear gq kk2
  obtain ⟨g3, V3, U3, hg3, hV3, rV3, hU3, kk3, geg3, ltg3⟩ := k3.box 28 (#[.int .u8 0, .int .u8 0, .int .u8 0, .int .u8 0, .int .u8 0, .int .u8 0, .int .u8 0, .int .u8 0, .int .u8 0, .int .u8 0, .int .u8 0, .int .u8 0, .int .u8 0, .int .u8 0, .int .u8 0, .int .u8 0, .int .u8 0, .int .u8 0, .int .u8 0, .int .u8 0, .int .u8 0, .int .u8 0, .int .u8 0, .int .u8 0, .int .u8 0, .int .u8 0, .int .u8 0, .int .u8 0, .int .u8 0, .int .u8 0, .int .u8 0, .int .u8 0]) D2
  have Hg3 := Lib.hid hg3; have HV3 := Lib.hid hV3; have HU3 := Lib.hid hU3
  clear hg3 hV3 hU3 k3 ltg3
  go_wp2_with (first
    | (rw [Hg3.out, HV3.out]; refine wpList_store_row (x := .tmp 11) (y := .tmp 32) (cells := D2) (old := Z32) (t := 28) (ty := 28) (g := g3) ?_ ?_ ?_ ?_ rV3 i2 z2 o2 ?_; rfl; rfl; rfl; rfl; rw [HU3.out])
    | (refine wpList_load_row (x := .tmp 3) (ty := 28) (g := n) (cs := C) (t := 28) (fr := (0, 0)) ?_ ?_ ?_ _ (kk3.row n 28 C (by simp)) und28 rfl iF ?_; rfl; rfl; rfl)
    | fail)
  clear rV3 Hg3 HV3 HU3
  refine (C4.out _).mono ?_
  rintro e w4 ⟨rfl, gq⟩
  have k4 := kk3.same gq
  clear gq kk3
  obtain ⟨g4, V4, U4, hg4, hV4, rV4, hU4, kk4, geg4, ltg4⟩ := k4.box 28 (#[.int .u8 0, .int .u8 0, .int .u8 0, .int .u8 0, .int .u8 0, .int .u8 0, .int .u8 0, .int .u8 0, .int .u8 0, .int .u8 0, .int .u8 0, .int .u8 0, .int .u8 0, .int .u8 0, .int .u8 0, .int .u8 0, .int .u8 0, .int .u8 0, .int .u8 0, .int .u8 0, .int .u8 0, .int .u8 0, .int .u8 0, .int .u8 0, .int .u8 0, .int .u8 0, .int .u8 0, .int .u8 0, .int .u8 0, .int .u8 0, .int .u8 0, .int .u8 0]) D2
  have Hg4 := Lib.hid hg4; have HV4 := Lib.hid hV4; have HU4 := Lib.hid hU4
  clear hg4 hV4 hU4 k4 ltg4
  go_wp2_with (first
    | (rw [Hg4.out, HV4.out]; refine wpList_store_row (x := .tmp 13) (y := .tmp 39) (cells := D2) (old := Z32) (t := 28) (ty := 28) (g := g4) ?_ ?_ ?_ ?_ rV4 i2 z2 o2 ?_; rfl; rfl; rfl; rfl; rw [HU4.out])
    | (refine wpList_load_row (x := .tmp 7) (ty := 28) (g := g1) (cs := D1) (t := 28) (fr := (0, 0)) ?_ ?_ ?_ _ (kk4.row g1 28 D1 (by simp)) und28 rfl i1 ?_; rfl; rfl; rfl)
    | (refine wpList_load_row (x := .tmp 9) (ty := 28) (g := g2) (cs := D1) (t := 28) (fr := (0, 0)) ?_ ?_ ?_ _ (kk4.row g2 28 D1 (by simp)) und28 rfl i1 ?_; rfl; rfl; rfl)
    | (refine wpList_load_row_g (x := .tmp 11) (ty := 28) (g := g3) (cs := D2) (t := 28) (fr := (0, 0)) ?_ ?_ ?_ _ (kk4.row g3 28 D2 (by simp)) und28 rfl i2 ?_; rfl; rfl; rfl)
    | (refine wpList_load_row_g (x := .tmp 13) (ty := 28) (g := g4) (cs := D2) (t := 28) (fr := (0, 0)) ?_ ?_ ?_ _ (kk4.row g4 28 D2 (by simp)) und28 rfl i2 ?_; rfl; rfl; rfl)
    | fail)
  clear rV4 Hg4 HV4 HU4
  refine (C5.out _ kk4.below).mono ?_
  rintro e w5 ⟨rfl, gq⟩
  have k5 := kk4.same gq
  clear gq kk4
  go_wp2_with fail
  refine (C6.out _).mono ?_
  rintro e w6 ⟨rfl, rfl⟩
  go_wp2_with fail
  refine (C7.out _ k5.below).mono ?_
  rintro e w7 ⟨rfl, gq⟩
  have k7 := k5.same gq
  clear gq k5
  go_wp2_with fail
  refine (C8.out _).mono ?_
  rintro e w8 ⟨rfl, rfl⟩
  go_wp2_with fail
  refine (SH.out _ k7.below).mono ?_
  rintro e w9 ⟨rfl, gq⟩
  have k9 := k7.same gq
  clear gq k7
  go_wp2
  go_ret
  exact ⟨rfl, by rw [HN.out]; exact k9.below⟩

theorem walk_SecretTells (z0 : List Int) (l0 : z0.length = 32) (w0 : ∀ z ∈ z0, (Lit.int .u8 z).wf = true) (a1 : Int) (_w1 : (Lit.int .i64 a1).wf = true) (a2 : Int) (_w2 : (Lit.int .i64 a2).wf = true) {W : World} (hL : laidMetH Tryd.prog Rows.secretTellsRow.laid W) :
    Calls Tryd.prog 15 #[.agg (z0.map (Value.int .u8)).toArray, .int .i64 a1, .int .i64 a2] W (Fine W) := by
  obtain ⟨P, hP, e1⟩ := r8_of z0 l0 w0
  rw [e1]
  exact tells_walk P a1 a2 W (tabs_of hL (by simp [Rows.secretTellsRow]) (by simp [Rows.secretTellsRow])) (tz_of hL (by simp [Rows.secretTellsRow])) hP
end Go.Proofs.YtpfcalamchdciaaDoor
