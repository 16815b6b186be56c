/- The walk of ShelfOther; the conditions are that the tables are laid and that arrays of bytes hold bytes. -/
import Derived.Test.YtpfcalamchdciaaDoorShO
import Derived.Test.YtpfcalamchdciaaDoorScRowT
namespace Go.Proofs.YtpfcalamchdciaaDoor
open Go.RowKit
set_option linter.unusedVariables false

set_option maxRecDepth 100000 in
set_option maxHeartbeats 4000000 in
theorem other_walk (F O : Nat → Nat) (x : Nat) (w : World) (ht : Tabs w) (hz : TzT w) (hF : ∀ j, F j < 256) (hO : ∀ j, O j < 256) (hx : x < 65536) :
    Calls Tryd.prog 18 #[.agg (r8 32 F), .int .u16 (x : Nat), .agg (r8 32 O)] w (Fine w) := by
  obtain ⟨n, hn⟩ : ∃ n, w.heap.size = n := ⟨_, rfl⟩
  have HN := Lib.hid hn
  have h1n : 1 < n := hn ▸ ht.lt
  have h3n : 3 < n := hn ▸ hz.lt
  have tb := fun v (hb : Below n w v) => ht.below hb h1n
  have tz := fun v (hb : Below n w v) => hz.below hb h3n
  have sh := fun v (hb : Below n w v) => shshown_any v (tb v hb) (tz v hb)
  have kb := (((KB.start w).new 28 (r8 32 F)).new 28 (r8 32 O)).new 71 ZS
  rw [World.size_alloc, World.size_alloc, hn] at kb
  have hor := i64_or1 hx
  obtain ⟨y, hy0⟩ : ∃ y, x ||| 1 = y := ⟨_, rfl⟩
  have hy : y < 65536 := by rw [← hy0]; exact Nat.or_lt_two_pow (n := 16) (by omega) (by decide)
  have hodd : y % 2 = 1 := by rw [← hy0]; exact or1_odd x
  rw [hy0] at hor
  have hp := pl_odd hy hodd
  have ex : (((y - 1 : Nat) : Nat) : Int) = (y : Int) - 1 := by omega
  have iF := r8_info F; have iO := r8_info O
  have m1 := fun v => mk_nat F y v hF hy
  have m2 := fun v => mk_nat O (y - 1) v hO (show y - 1 < 65536 by omega)
  have T1 := walkH_lt hO (y - 1) 16
  obtain ⟨T, hT⟩ : ∃ T, walkH O (y - 1) 16 = T := ⟨_, rfl⟩
  rw [hT] at m2 T1
  have m3 := fun v => rderive_any T ((y - 1 : Nat) : Int) (y : Int) v T1
  have e0 : putE (fun _ => none0) (Sc.pl y) (ent F y) = oneE F y := by rw [hp]; rfl
  have i1 := fun s v (kv : M.RowAt v s 71 ZS) (hb : Below n w v) => ins_good s (fun _ => none0) F y v (tb v hb) (tz v hb) hF (good_none F) hy kv
  rw [e0] at i1
  have i2 := fun s v (kv : M.RowAt v s 71 (shC (oneE F y))) (hb : Below n w v) => insert_any s (oneE F y) T ((y - 1 : Nat) : Int) v (tb v hb) (tz v hb) T1 kv
  have l1 := fun s v (kv : M.RowAt v s 71 (shC (oneE F y))) (hb : Below n w v) => lookup_any s (oneE F y) (y : Int) v (tb v hb) (tz v hb) (one_told hF) kv
  have l2 := fun s v (kv : M.RowAt v s 71 (shC (oneE F y))) (hb : Below n w v) => lookup_any s (oneE F y) ((y - 1 : Nat) : Int) v (tb v hb) (tz v hb) (one_told hF) kv
  have ln := fun s v (kv : M.RowAt v s 71 (shC (oneE F y))) => len_any s (oneE F y) v kv
  rw [one_lkH hy, one_lkE hy] at l1
  rw [one_lkE' hy hodd] at l2
  rw [one_cnt] at ln
  have hcmp := fun W => r8_cmp (drH T ((y - 1 : Nat) : Int) (y : Int)) (walkH F y 16) W
  have heq := fun W => r8_eq (walkH F y 16) W
  have d1 := fun hd => one_insR (F := F) hy hodd T hd
  have d2 := fun hd => one_insE (F := F) hy hodd T hd
  have iA := r8_info (walkH F y 16); have zA := r8_zero (walkH F y 16); have oA := r8_one (walkH F y 16)
  have iB := r8_info T; have zB := r8_zero T; have oB := r8_one T
  have iD := r8_info (drH T ((y - 1 : Nat) : Int) (y : Int)); have zD := r8_zero (drH T ((y - 1 : Nat) : Int) (y : Int)); have oD := r8_one (drH T ((y - 1 : Nat) : Int) (y : Int))
  have iE := r8_info (lkH (oneE F y) ((y - 1 : Nat) : Int)); have zE := r8_zero (lkH (oneE F y) ((y - 1 : Nat) : Int)); have oE := r8_one (lkH (oneE F y) ((y - 1 : Nat) : Int))
  generalize insE (oneE F y) T ((y - 1 : Nat) : Int) = E2 at *
  generalize insR (oneE F y) T ((y - 1 : Nat) : Int) = R2 at *
  generalize eqH (drH T ((y - 1 : Nat) : Int) (y : Int)) (walkH F y 16) = q at *
  generalize drE ((y - 1 : Nat) : Int) (y : Int) = x3 at *
  generalize r8 32 (lkH (oneE F y) ((y - 1 : Nat) : Int)) = DE at *
  generalize r8 32 (drH T ((y - 1 : Nat) : Int) (y : Int)) = DD at *
  generalize r8 32 (walkH F y 16) = DA at *
  generalize r8 32 T = DB at *
  generalize r8 32 F = C at *
  generalize r8 32 O = CO at *
  generalize oneE F y = E1 at *
  rw [ex] at m2 m3 i2 l2
  have M1 := Lib.hid m1; have M2 := Lib.hid m2; have M3 := Lib.hid m3; have I1 := Lib.hid i1; have I2 := Lib.hid i2; have L1 := Lib.hid l1; have L2 := Lib.hid l2; have LN := Lib.hid ln; have SH := Lib.hid sh
  have bz := build71
  obtain ⟨V, hV⟩ : ∃ V, ((w.alloc (.cells C 28)).alloc (.cells CO 28)).alloc (.cells ZS 71) = V := ⟨_, rfl⟩
  rw [hV] at kb
  have kb : KB n w [(n + 1 + 1, 71, ZS), (n + 1, 28, CO), (n, 28, C)] V := kb
  generalize ZS = Z at *
  have HV := Lib.hid hV
  have D1 := Lib.hid d1; have D2 := Lib.hid d2
  have q3 : IntKind.i64.wrap ((y : Int) - 1) = (y : Int) - 1 := IntWalk.i64_in _ (by omega)
  have q1 : IntKind.i64.wrap (x : Int) = x := IntWalk.i64_in _ (by omega)
  clear ht hz h1n h3n tb tz sh m1 m2 m3 i1 i2 l1 l2 ln d1 d2 hV hT T1 e0 hp hy0 ex
  cases q
  · have d1 := D1.out rfl
    have d2 := D2.out rfl
    rw [d1, d2] at I2
    clear d1 d2 D1 D2
    go_enter Tryd.func18, Tryd.ntmps18
    go_wp2_with (first
      | (refine wpList_build (t := 71) ?_ ?_ Z bz ?_; rfl; rfl)
      | (rw [HV.out]; refine wpList_load_row (x := .tmp 3) (ty := 28) (g := n) (cs := C) (t := 28) (fr := (0, 0)) ?_ ?_ ?_ _ (kb.row n 28 C (by simp)) und28 rfl iF ?_; rfl; rfl; rfl)
      | fail)
    refine (M1.out _).mono ?_
    rintro e w1 ⟨rfl, gq⟩
    have k1 := kb.same gq
    clear gq kb
    obtain ⟨g1, V1, U1, hg1, hV1, rV1, hU1, kk1, geg1, ltg1⟩ := k1.box 28 (#[.int .u8 0, .int .u8 0, .int .u8 0, .int .u8 0, .int .u8 0, .int .u8 0, .int .u8 0, .int .u8 0, .int .u8 0, .int .u8 0, .int .u8 0, .int .u8 0, .int .u8 0, .int .u8 0, .int .u8 0, .int .u8 0, .int .u8 0, .int .u8 0, .int .u8 0, .int .u8 0, .int .u8 0, .int .u8 0, .int .u8 0, .int .u8 0, .int .u8 0, .int .u8 0, .int .u8 0, .int .u8 0, .int .u8 0, .int .u8 0, .int .u8 0, .int .u8 0]) DA
    have Hg1 := Lib.hid hg1; have HV1 := Lib.hid hV1; have HU1 := Lib.hid hU1
    have lt1 : n + 1 + 1 < g1 := ltg1 (n + 1 + 1, 71, Z) (by simp)
    clear hg1 hV1 hU1 k1 ltg1
    have r1 := kk1.row g1 28 DA (by simp)
    go_wp2_with (first
      | (rw [Hg1.out, HV1.out]; refine wpList_store_row (x := .tmp 9) (y := .tmp 29) (cells := DA) (old := Z32) (t := 28) (ty := 28) (g := g1) ?_ ?_ ?_ ?_ rV1 iA zA oA ?_; rfl; rfl; rfl; rfl; rw [HU1.out])
      | (refine wpList_load_row (x := .tmp 9) (ty := 28) (g := g1) (cs := DA) (t := 28) (fr := (0, 0)) ?_ ?_ ?_ _ r1 und28 rfl iA ?_; rfl; rfl; rfl)
      | fail)
    refine (I1.out _ _ (kk1.row (n + 1 + 1) 71 Z (by simp)) kk1.below).mono ?_
    rintro e w2 ⟨rfl, hr, hb⟩
    have kq : KB n w [(n + 1 + 1, 71, Z), (g1, 28, DA), (n + 1, 28, CO), (n, 28, C)] U1 := kk1.sub (by simp)
    have k2 := kq.but (fun y hy => by simp at hy; rcases hy with rfl | rfl | rfl <;> (show _ ≠ _; omega)) (by omega) hb hr
    clear hr hb kq kk1 r1 rV1 Hg1 HV1 HU1
    go_wp2_with fail
    refine (SH.out _ k2.below).mono ?_
    rintro e w3 ⟨rfl, gq⟩
    have k3 := k2.same gq
    clear gq k2
    have rO := k3.row (n + 1) 28 CO (by simp)
    go_wp2_with (first
      | (refine wpList_load_row (x := .tmp 5) (ty := 28) (g := n + 1) (cs := CO) (t := 28) (fr := (0, 0)) ?_ ?_ ?_ _ rO und28 rfl iO ?_; rfl; rfl; rfl)
      | fail)
    refine (M2.out _).mono ?_
    rintro e w4 ⟨rfl, gq⟩
    have k4 := (k3.same gq).sub (L' := [(n + 1 + 1, 71, shC E1), (g1, 28, DA)]) (by simp)
    clear gq k3 rO
    obtain ⟨g2, V2, U2, hg2, hV2, rV2, hU2, kk2, geg2, ltg2⟩ := k4.box 28 (#[.int .u8 0, .int .u8 0, .int .u8 0, .int .u8 0, .int .u8 0, .int .u8 0, .int .u8 0, .int .u8 0, .int .u8 0, .int .u8 0, .int .u8 0, .int .u8 0, .int .u8 0, .int .u8 0, .int .u8 0, .int .u8 0, .int .u8 0, .int .u8 0, .int .u8 0, .int .u8 0, .int .u8 0, .int .u8 0, .int .u8 0, .int .u8 0, .int .u8 0, .int .u8 0, .int .u8 0, .int .u8 0, .int .u8 0, .int .u8 0, .int .u8 0, .int .u8 0]) DB
    have Hg2 := Lib.hid hg2; have HV2 := Lib.hid hV2; have HU2 := Lib.hid hU2
    have lt2 : g1 < g2 := ltg2 (g1, 28, DA) (by simp)
    clear hg2 hV2 hU2 k4 ltg2
    have r2 := kk2.row g2 28 DB (by simp)
    go_wp2_with (first
      | (rw [Hg2.out, HV2.out]; refine wpList_store_row (x := .tmp 11) (y := .tmp 45) (cells := DB) (old := Z32) (t := 28) (ty := 28) (g := g2) ?_ ?_ ?_ ?_ rV2 iB zB oB ?_; rfl; rfl; rfl; rfl; rw [HU2.out])
      | (refine wpList_load_row (x := .tmp 11) (ty := 28) (g := g2) (cs := DB) (t := 28) (fr := (0, 0)) ?_ ?_ ?_ _ r2 und28 rfl iB ?_; rfl; rfl; rfl)
      | fail)
    refine (M3.out _).mono ?_
    rintro e w5 ⟨rfl, gq⟩
    have k5 := kk2.same gq
    clear gq kk2 r2 rV2 Hg2 HV2 HU2
    obtain ⟨g3, V3, U3, hg3, hV3, rV3, hU3, kk3, geg3, ltg3⟩ := k5.box 28 (#[.int .u8 0, .int .u8 0, .int .u8 0, .int .u8 0, .int .u8 0, .int .u8 0, .int .u8 0, .int .u8 0, .int .u8 0, .int .u8 0, .int .u8 0, .int .u8 0, .int .u8 0, .int .u8 0, .int .u8 0, .int .u8 0, .int .u8 0, .int .u8 0, .int .u8 0, .int .u8 0, .int .u8 0, .int .u8 0, .int .u8 0, .int .u8 0, .int .u8 0, .int .u8 0, .int .u8 0, .int .u8 0, .int .u8 0, .int .u8 0, .int .u8 0, .int .u8 0]) DD
    have Hg3 := Lib.hid hg3; have HV3 := Lib.hid hV3; have HU3 := Lib.hid hU3
    have lt3 : g2 < g3 := ltg3 (g2, 28, DB) (by simp)
    clear hg3 hV3 hU3 k5 ltg3
    have r1 := kk3.row g1 28 DA (by simp)
    have r2 := kk3.row g2 28 DB (by simp)
    have r3 := kk3.row g3 28 DD (by simp)
    go_wp2_with (first
      | (rw [Hg3.out, HV3.out]; refine wpList_store_row (x := .tmp 13) (y := .tmp 53) (cells := DD) (old := Z32) (t := 28) (ty := 28) (g := g3) ?_ ?_ ?_ ?_ rV3 iD zD oD ?_; rfl; rfl; rfl; rfl; rw [HU3.out])
      | (refine wpList_load_row (x := .tmp 13) (ty := 28) (g := g3) (cs := DD) (t := 28) (fr := (0, 0)) ?_ ?_ ?_ _ r3 und28 rfl iD ?_; rfl; rfl; rfl)
      | (refine wpList_load_row (x := .tmp 9) (ty := 28) (g := g1) (cs := DA) (t := 28) (fr := (0, 0)) ?_ ?_ ?_ _ r1 und28 rfl iA ?_; rfl; rfl; rfl)
      | (refine wpList_load_row (x := .tmp 11) (ty := 28) (g := g2) (cs := DB) (t := 28) (fr := (0, 0)) ?_ ?_ ?_ _ r2 und28 rfl iB ?_; rfl; rfl; rfl)
      | fail)
    refine (I2.out _ _ (kk3.row (n + 1 + 1) 71 (shC E1) (by simp)) kk3.below).mono ?_
    rintro e w6 ⟨rfl, hr, hb⟩
    have kq : KB n w [(n + 1 + 1, 71, shC E1), (g1, 28, DA)] U3 := kk3.sub (by simp)
    have k6 := kq.but (fun y hy => by simp at hy; subst hy; show _ ≠ _; omega) (by omega) hb hr
    clear hr hb kq kk3 r1 r2 r3 rV3 Hg3 HV3 HU3
    go_wp2_with fail
    refine (L1.out _ _ (k6.row (n + 1 + 1) 71 (shC E1) (by simp)) k6.below).mono ?_
    rintro e w7 ⟨rfl, gq⟩
    have k7 := k6.same gq
    clear gq k6
    obtain ⟨g4, V4, U4, hg4, hV4, rV4, hU4, kk4, geg4, ltg4⟩ := k7.box 28 (#[.int .u8 0, .int .u8 0, .int .u8 0, .int .u8 0, .int .u8 0, .int .u8 0, .int .u8 0, .int .u8 0, .int .u8 0, .int .u8 0, .int .u8 0, .int .u8 0, .int .u8 0, .int .u8 0, .int .u8 0, .int .u8 0, .int .u8 0, .int .u8 0, .int .u8 0, .int .u8 0, .int .u8 0, .int .u8 0, .int .u8 0, .int .u8 0, .int .u8 0, .int .u8 0, .int .u8 0, .int .u8 0, .int .u8 0, .int .u8 0, .int .u8 0, .int .u8 0]) DA
    have Hg4 := Lib.hid hg4; have HV4 := Lib.hid hV4; have HU4 := Lib.hid hU4
    clear hg4 hV4 hU4 k7 ltg4
    go_wp2_with (first
      | (rw [Hg4.out, HV4.out]; refine wpList_store_row (x := .tmp 16) (y := .tmp 67) (cells := DA) (old := Z32) (t := 28) (ty := 28) (g := g4) ?_ ?_ ?_ ?_ rV4 iA zA oA ?_; rfl; rfl; rfl; rfl; rw [HU4.out])
      | fail)
    refine (L2.out _ _ (kk4.row (n + 1 + 1) 71 (shC E1) (by simp)) kk4.below).mono ?_
    rintro e w8 ⟨rfl, gq⟩
    have k8 := kk4.same gq
    clear gq kk4 rV4 Hg4 HV4 HU4
    obtain ⟨g5, V5, U5, hg5, hV5, rV5, hU5, kk5, geg5, ltg5⟩ := k8.box 28 (#[.int .u8 0, .int .u8 0, .int .u8 0, .int .u8 0, .int .u8 0, .int .u8 0, .int .u8 0, .int .u8 0, .int .u8 0, .int .u8 0, .int .u8 0, .int .u8 0, .int .u8 0, .int .u8 0, .int .u8 0, .int .u8 0, .int .u8 0, .int .u8 0, .int .u8 0, .int .u8 0, .int .u8 0, .int .u8 0, .int .u8 0, .int .u8 0, .int .u8 0, .int .u8 0, .int .u8 0, .int .u8 0, .int .u8 0, .int .u8 0, .int .u8 0, .int .u8 0]) DE
    have Hg5 := Lib.hid hg5; have HV5 := Lib.hid hV5; have HU5 := Lib.hid hU5
    clear hg5 hV5 hU5 k8 ltg5
    have r1 := kk5.row g1 28 DA (by simp)
    have r4 := kk5.row g4 28 DA (by simp)
    go_wp2_with (first
      | (rw [Hg5.out, HV5.out]; refine wpList_store_row (x := .tmp 18) (y := .tmp 74) (cells := DE) (old := Z32) (t := 28) (ty := 28) (g := g5) ?_ ?_ ?_ ?_ rV5 iE zE oE ?_; rfl; rfl; rfl; rfl; rw [HU5.out])
      | (refine wpList_load_row_g (x := .tmp 16) (ty := 28) (g := g4) (cs := DA) (t := 28) (fr := (0, 0)) ?_ ?_ ?_ _ r4 und28 rfl iA ?_; rfl; rfl; rfl)
      | (refine wpList_load_row_g (x := .tmp 9) (ty := 28) (g := g1) (cs := DA) (t := 28) (fr := (0, 0)) ?_ ?_ ?_ _ r1 und28 rfl iA ?_; rfl; rfl; rfl)
      | fail)
    refine (LN.out _ _ (kk5.row (n + 1 + 1) 71 (shC E1) (by simp))).mono ?_
    rintro e w9 ⟨rfl, gq⟩
    have k9 := kk5.same gq
    clear gq kk5 rV5 Hg5 HV5 HU5
    go_wp2
    go_ret
    exact ⟨rfl, by rw [HN.out]; exact k9.below⟩
  · clear D1 D2 I2 L1 L2 LN
    go_enter Tryd.func18, Tryd.ntmps18
    go_wp2_with (first
      | (refine wpList_build (t := 71) ?_ ?_ Z bz ?_; rfl; rfl)
      | (rw [HV.out]; refine wpList_load_row (x := .tmp 3) (ty := 28) (g := n) (cs := C) (t := 28) (fr := (0, 0)) ?_ ?_ ?_ _ (kb.row n 28 C (by simp)) und28 rfl iF ?_; rfl; rfl; rfl)
      | fail)
    refine (M1.out _).mono ?_
    rintro e w1 ⟨rfl, gq⟩
    have k1 := kb.same gq
    clear gq kb
    obtain ⟨g1, V1, U1, hg1, hV1, rV1, hU1, kk1, geg1, ltg1⟩ := k1.box 28 (#[.int .u8 0, .int .u8 0, .int .u8 0, .int .u8 0, .int .u8 0, .int .u8 0, .int .u8 0, .int .u8 0, .int .u8 0, .int .u8 0, .int .u8 0, .int .u8 0, .int .u8 0, .int .u8 0, .int .u8 0, .int .u8 0, .int .u8 0, .int .u8 0, .int .u8 0, .int .u8 0, .int .u8 0, .int .u8 0, .int .u8 0, .int .u8 0, .int .u8 0, .int .u8 0, .int .u8 0, .int .u8 0, .int .u8 0, .int .u8 0, .int .u8 0, .int .u8 0]) DA
    have Hg1 := Lib.hid hg1; have HV1 := Lib.hid hV1; have HU1 := Lib.hid hU1
    have lt1 : n + 1 + 1 < g1 := ltg1 (n + 1 + 1, 71, Z) (by simp)
    clear hg1 hV1 hU1 k1 ltg1
    have r1 := kk1.row g1 28 DA (by simp)
    go_wp2_with (first
      | (rw [Hg1.out, HV1.out]; refine wpList_store_row (x := .tmp 9) (y := .tmp 29) (cells := DA) (old := Z32) (t := 28) (ty := 28) (g := g1) ?_ ?_ ?_ ?_ rV1 iA zA oA ?_; rfl; rfl; rfl; rfl; rw [HU1.out])
      | (refine wpList_load_row (x := .tmp 9) (ty := 28) (g := g1) (cs := DA) (t := 28) (fr := (0, 0)) ?_ ?_ ?_ _ r1 und28 rfl iA ?_; rfl; rfl; rfl)
      | fail)
    refine (I1.out _ _ (kk1.row (n + 1 + 1) 71 Z (by simp)) kk1.below).mono ?_
    rintro e w2 ⟨rfl, hr, hb⟩
    have kq : KB n w [(n + 1 + 1, 71, Z), (g1, 28, DA), (n + 1, 28, CO), (n, 28, C)] U1 := kk1.sub (by simp)
    have k2 := kq.but (fun y hy => by simp at hy; rcases hy with rfl | rfl | rfl <;> (show _ ≠ _; omega)) (by omega) hb hr
    clear hr hb kq kk1 r1 rV1 Hg1 HV1 HU1
    go_wp2_with fail
    refine (SH.out _ k2.below).mono ?_
    rintro e w3 ⟨rfl, gq⟩
    have k3 := k2.same gq
    clear gq k2
    have rO := k3.row (n + 1) 28 CO (by simp)
    go_wp2_with (first
      | (refine wpList_load_row (x := .tmp 5) (ty := 28) (g := n + 1) (cs := CO) (t := 28) (fr := (0, 0)) ?_ ?_ ?_ _ rO und28 rfl iO ?_; rfl; rfl; rfl)
      | fail)
    refine (M2.out _).mono ?_
    rintro e w4 ⟨rfl, gq⟩
    have k4 := (k3.same gq).sub (L' := [(n + 1 + 1, 71, shC E1), (g1, 28, DA)]) (by simp)
    clear gq k3 rO
    obtain ⟨g2, V2, U2, hg2, hV2, rV2, hU2, kk2, geg2, ltg2⟩ := k4.box 28 (#[.int .u8 0, .int .u8 0, .int .u8 0, .int .u8 0, .int .u8 0, .int .u8 0, .int .u8 0, .int .u8 0, .int .u8 0, .int .u8 0, .int .u8 0, .int .u8 0, .int .u8 0, .int .u8 0, .int .u8 0, .int .u8 0, .int .u8 0, .int .u8 0, .int .u8 0, .int .u8 0, .int .u8 0, .int .u8 0, .int .u8 0, .int .u8 0, .int .u8 0, .int .u8 0, .int .u8 0, .int .u8 0, .int .u8 0, .int .u8 0, .int .u8 0, .int .u8 0]) DB
    have Hg2 := Lib.hid hg2; have HV2 := Lib.hid hV2; have HU2 := Lib.hid hU2
    have lt2 : g1 < g2 := ltg2 (g1, 28, DA) (by simp)
    clear hg2 hV2 hU2 k4 ltg2
    have r2 := kk2.row g2 28 DB (by simp)
    go_wp2_with (first
      | (rw [Hg2.out, HV2.out]; refine wpList_store_row (x := .tmp 11) (y := .tmp 45) (cells := DB) (old := Z32) (t := 28) (ty := 28) (g := g2) ?_ ?_ ?_ ?_ rV2 iB zB oB ?_; rfl; rfl; rfl; rfl; rw [HU2.out])
      | (refine wpList_load_row (x := .tmp 11) (ty := 28) (g := g2) (cs := DB) (t := 28) (fr := (0, 0)) ?_ ?_ ?_ _ r2 und28 rfl iB ?_; rfl; rfl; rfl)
      | fail)
    refine (M3.out _).mono ?_
    rintro e w5 ⟨rfl, gq⟩
    have k5 := kk2.same gq
    clear gq kk2 r2 rV2 Hg2 HV2 HU2
    obtain ⟨g3, V3, U3, hg3, hV3, rV3, hU3, kk3, geg3, ltg3⟩ := k5.box 28 (#[.int .u8 0, .int .u8 0, .int .u8 0, .int .u8 0, .int .u8 0, .int .u8 0, .int .u8 0, .int .u8 0, .int .u8 0, .int .u8 0, .int .u8 0, .int .u8 0, .int .u8 0, .int .u8 0, .int .u8 0, .int .u8 0, .int .u8 0, .int .u8 0, .int .u8 0, .int .u8 0, .int .u8 0, .int .u8 0, .int .u8 0, .int .u8 0, .int .u8 0, .int .u8 0, .int .u8 0, .int .u8 0, .int .u8 0, .int .u8 0, .int .u8 0, .int .u8 0]) DD
    have Hg3 := Lib.hid hg3; have HV3 := Lib.hid hV3; have HU3 := Lib.hid hU3
    have lt3 : g2 < g3 := ltg3 (g2, 28, DB) (by simp)
    clear hg3 hV3 hU3 k5 ltg3
    have r1 := kk3.row g1 28 DA (by simp)
    have r2 := kk3.row g2 28 DB (by simp)
    have r3 := kk3.row g3 28 DD (by simp)
    go_wp2_with (first
      | (rw [Hg3.out, HV3.out]; refine wpList_store_row (x := .tmp 13) (y := .tmp 53) (cells := DD) (old := Z32) (t := 28) (ty := 28) (g := g3) ?_ ?_ ?_ ?_ rV3 iD zD oD ?_; rfl; rfl; rfl; rfl; rw [HU3.out])
      | (refine wpList_load_row (x := .tmp 13) (ty := 28) (g := g3) (cs := DD) (t := 28) (fr := (0, 0)) ?_ ?_ ?_ _ r3 und28 rfl iD ?_; rfl; rfl; rfl)
      | (refine wpList_load_row (x := .tmp 9) (ty := 28) (g := g1) (cs := DA) (t := 28) (fr := (0, 0)) ?_ ?_ ?_ _ r1 und28 rfl iA ?_; rfl; rfl; rfl)
      | fail)
    go_ret
    exact ⟨rfl, by rw [HN.out]; exact kk3.below⟩

theorem walk_ShelfOther (z0 : List Int) (l0 : z0.length = 32) (w0 : ∀ z ∈ z0, (Lit.int .u8 z).wf = true) (a1 : Int) (w1 : (Lit.int .u16 a1).wf = true) (z2 : List Int) (l2 : z2.length = 32) (w2 : ∀ z ∈ z2, (Lit.int .u8 z).wf = true) {W : World} (hL : laidMetH Tryd.prog Rows.shelfOtherRow.laid W) :
    Calls Tryd.prog 18 #[.agg (z0.map (Value.int .u8)).toArray, .int .u16 a1, .agg (z2.map (Value.int .u8)).toArray] W (Fine W) := by
  obtain ⟨P, hP, e1⟩ := r8_of z0 l0 w0
  obtain ⟨O, hO, e2⟩ := r8_of z2 l2 w2
  rw [e1, e2]
  have h1 := RowK.wf_u16 w1
  obtain ⟨x, rfl⟩ := Int.eq_ofNat_of_zero_le h1.1
  exact other_walk P O x W (tabs_of hL (by simp [Rows.shelfOtherRow]) (by simp [Rows.shelfOtherRow])) (tz_of hL (by simp [Rows.shelfOtherRow])) hP hO (by omega)
end Go.Proofs.YtpfcalamchdciaaDoor
