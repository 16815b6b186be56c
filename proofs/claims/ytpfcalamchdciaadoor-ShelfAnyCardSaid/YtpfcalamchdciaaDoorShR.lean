/- The walk of ShelfAll (UNDER WAY: not built clean yet); the conditions are that the tables are laid and that arrays of bytes hold bytes. -/
import Derived.Test.YtpfcalamchdciaaDoorShQ
import Derived.Test.YtpfcalamchdciaaDoorScRowT
namespace Go.Proofs.YtpfcalamchdciaaDoor
open Go.RowKit
set_option linter.unusedVariables false

theorem ej_told {F : Nat → Nat} (hF : ∀ j, F j < 256) (x : Nat) : ∀ k b j, (Ej F x k b).told j < 256
  | 0, _, _ => by show 0 < 256; decide
  | k + 1, b, j => by
    show (putE (Ej F x k) (Sc.pl (x - k)) (ent F (x - k)) b).told j < 256
    unfold putE
    by_cases e : b = Sc.pl (x - k)
    · rw [if_pos e, ent_told]; exact walkH_lt hF _ 16 j
    · rw [if_neg e]; exact ej_told hF x k b j
theorem look_walk (s : Nat) (E : Nat → Ent) (i : Int) (H : Nat → Nat) (c : Int) (w : World) (ht : Tabs w) (hz : TzT w) (hE : ∀ b, b < 17 → ∀ j, (E b).told j < 256) (hs : M.RowAt w s 71 (shC E)) (hH : lkH E i = H) (hc : lkE E i = c) :
    Calls Tryd.prog 51 #[.pointer (some ⟨s, 0, none⟩), .int .i64 i] w fun e w' => e = .returned (.tuple #[.agg (r8 32 H), .int .i64 c]) ∧ Below w.heap.size w w' := by
  have := lookup_any s E i w ht hz hE hs
  rw [hH, hc] at this; exact this
theorem least_eq (s : Nat) (E : Nat → Ent) (l : Int) (w : World) (hs : M.RowAt w s 71 (shC E)) (h : (lst E 17).2 = true ∧ (lst E 17).1 = l) :
    Calls Tryd.prog 52 #[.pointer (some ⟨s, 0, none⟩)] w fun e w' => e = .returned (.tuple #[.int .i64 l, .bool true]) ∧ Below w.heap.size w w' := by
  have := least_any s E w hs
  rw [h.1, h.2] at this; exact this

set_option maxRecDepth 100000 in
set_option maxHeartbeats 4000000 in
theorem all_walk (F : Nat → Nat) (x z a : Nat) (w : World) (ht : Tabs w) (hz : TzT w) (hF : ∀ j, F j < 256) (hx : x < 65536) (hzz : z < 256) (haa : a < 256) :
    Calls Tryd.prog 20 #[.agg (r8 32 F), .int .u16 (x : Nat), .int .u8 (z : Nat), .int .u8 (a : Nat)] w (Fine w) := by
  obtain ⟨n, hn⟩ : ∃ n, w.heap.size = n := ⟨_, rfl⟩
  have HN := Lib.hid hn
  have h1n : 1 < n := hn ▸ ht.lt
  have h3n : 3 < n := hn ▸ hz.lt
  have tb := fun v (hb : Below n w v) => ht.below hb h1n
  have tz := fun v (hb : Below n w v) => hz.below hb h3n
  have sh := fun v (hb : Below n w v) => shshown_any v (tb v hb) (tz v hb)
  have kb := ((KB.start w).new 28 (r8 32 F)).new 71 ZS
  rw [World.size_alloc, hn] at kb
  have kb : KB n w [(n + 1, 71, ZS), (n, 28, r8 32 F)] ((w.alloc (.cells (r8 32 F) 28)).alloc (.cells ZS 71)) := kb
  have iF := r8_info F
  have mk := fun y (hy : y < 65536) v => mk_nat F y v hF hy
  obtain ⟨C, hC⟩ : ∃ C, r8 32 F = C := ⟨_, rfl⟩
  have ins1 := fun k v (kv : KB n w [(n + 1, 71, shC (Ej F x k)), (n, 28, C)] v) => ins_good (n + 1) (Ej F x k) F (x - k) v (tb v kv.below) (tz v kv.below) hF (ej_good F hx k) (by omega) (kv.row (n + 1) 71 _ (by simp))
  have hs1 : ∀ k, shC (putE (Ej F x k) (Sc.pl (x - k)) (ent F (x - k))) = shC (Ej F x (k + 1)) := fun k => rfl
  simp only [hs1] at ins1
  have len := fun k v (kv : KB n w [(n + 1, 71, shC (Ej F x k)), (n, 28, C)] v) => len_any (n + 1) (Ej F x k) v (kv.row (n + 1) 71 _ (by simp))
  have tl := fun k b (_ : b < 17) j => ej_told hF x k b j
  have lk1 := fun m y (hm : m ≤ x + 1) (h1 : x + 1 ≤ y + m) (h2 : y ≤ x) v (kv : M.RowAt v (n + 1) 71 (shC (Ej F x m))) (hb : Below n w v) => look_walk (n + 1) (Ej F x m) (y : Int) (walkH F y 16) 0 v (tb v hb) (tz v hb) (tl m) kv (all_yes F hx hm h1 h2).2 (all_yes F hx hm h1 h2).1
  have lk2 := fun m (hm : m ≤ x + 1) v (kv : M.RowAt v (n + 1) 71 (shC (Ej F x m))) (hb : Below n w v) => look_walk (n + 1) (Ej F x m) ((x : Int) - (m : Int)) _ 3 v (tb v hb) (tz v hb) (tl m) kv (lkH_no (all_no F hx hm).1) (all_no F hx hm).2
  have ls := fun m (hm : m ≤ x + 1) (h1 : 1 ≤ m) v (kv : M.RowAt v (n + 1) 71 (shC (Ej F x m))) => least_eq (n + 1) (Ej F x m) _ v kv (all_least F hx hm h1)
  have cle := fun k => cnt_le (Ej F x k) 17
  have e0 : ZS = shC (Ej F x 0) := rfl
  obtain ⟨G, hG⟩ : ∃ G : Nat → Array Value, (fun k => shC (Ej F x k)) = G := ⟨_, rfl⟩
  have hG' : ∀ k, shC (Ej F x k) = G k := fun k => congrFun hG k
  obtain ⟨c, hc⟩ : ∃ c : Nat → Nat, (fun k => cnt (Ej F x k) 17) = c := ⟨_, rfl⟩
  have hc' : ∀ k, cnt (Ej F x k) 17 = c k := fun k => congrFun hc k
  have iD := fun x => r8_info (walkH F x 16); have zD := fun x => r8_zero (walkH F x 16); have oD := fun x => r8_one (walkH F x 16)
  have eqD := fun z W => r8_eq (walkH F z 16) W
  obtain ⟨D, hD⟩ : ∃ D : Nat → Array Value, (fun x => r8 32 (walkH F x 16)) = D := ⟨_, rfl⟩
  have hD' : ∀ x, r8 32 (walkH F x 16) = D x := fun x => congrFun hD x
  simp only [hD'] at iD zD oD eqD mk ins1 lk1
  have EQD := Lib.hid eqD; clear eqD
  simp only [hG'] at ins1 len e0 lk1 lk2 ls
  simp only [hc'] at len cle
  have CLE := Lib.hid cle
  rw [hC] at kb iF mk ⊢
  have MK := Lib.hid mk; have I1 := Lib.hid ins1; have LEN := Lib.hid len; have LK1 := Lib.hid lk1; have LK2 := Lib.hid lk2; have LS := Lib.hid ls; have SH := Lib.hid sh
  have HG := Lib.hid hG'
  have bz := build71
  obtain ⟨V, hV⟩ : ∃ V, (w.alloc (.cells C 28)).alloc (.cells ZS 71) = V := ⟨_, rfl⟩
  rw [hV] at kb
  generalize ZS = Z at *
  have HV := Lib.hid hV
  rw [e0] at kb
  have q1 : IntKind.i64.wrap (x : Int) = x := IntWalk.i64_in _ (by omega)
  have q2 : IntKind.i64.wrap (z : Int) = z := IntWalk.i64_in _ (by omega)
  clear ht hz h1n h3n tb tz sh mk ins1 len hs1 lk1 lk2 ls hG hG' hc hc' hD hD' e0 hC hV
  go_enter Tryd.func20, Tryd.ntmps20
  obtain ⟨M, hM⟩ : ∃ M : Nat, min (z % 80) (x + 1) = M := ⟨_, rfl⟩
  have hmin : min ((z : Int) % 80) ((x : Int) + 1) = (M : Int) := by omega
  have m1 : M ≤ z % 80 := by omega
  have m2 : M ≤ x + 1 := by omega
  clear hM
  go_wp2_with (refine wpList_build (t := 71) ?_ ?_ Z bz ?_; rfl; rfl)
  rw [HV.out]
  go_loopg [11] M (fun m i v => ∃ k : Nat, m + k = M ∧ i = .int .i64 k ∧ KB n w [(n + 1, 71, G k), (n, 28, C)] v)
  case atStart => exact ⟨0, by omega, rfl, kb⟩
  case round =>
    clear kb
    obtain ⟨k, hm, rfl, kb⟩ := hrel
    by_cases hlt : k < M
    · have hcd : (k : Int) < M := by omega
      have rC := kb.row n 28 C (by simp)
      have iDk := iD (x - k); have zDk := zD (x - k); have oDk := oD (x - k)
      have mk := MK.out (x - k) (by omega)
      have ins1 := I1.out k
      have ex : (((x - k : Nat) : Nat) : Int) = (x : Int) - (k : Int) := by omega
      rw [ex] at mk ins1
      have M1 := Lib.hid mk; have J1 := Lib.hid ins1
      generalize D (x - k) = X at *
      have q3 : IntKind.i64.wrap ((x : Int) - (k : Int)) = (x : Int) - (k : Int) := IntWalk.i64_in _ (by omega)
      have HM := Lib.hid hm
      clear mk ins1 ex m1 m2
      go_wp2_with (first
        | (refine wpList_load_row (x := .tmp 4) (ty := 28) (g := n) (cs := C) (t := 28) (fr := (0, 0)) ?_ ?_ ?_ _ rC und28 rfl iF ?_; rfl; rfl; rfl)
        | fail)
      refine (M1.out _).mono ?_
      rintro e w1 ⟨rfl, gq⟩
      have k1 := kb.same gq
      clear gq kb rC
      obtain ⟨g, VG, UG, hg, hVG, rVG, hUG, kg, geg, ltg⟩ := k1.box 28 (#[.int .u8 0, .int .u8 0, .int .u8 0, .int .u8 0, .int .u8 0, .int .u8 0, .int .u8 0, .int .u8 0, .int .u8 0, .int .u8 0, .int .u8 0, .int .u8 0, .int .u8 0, .int .u8 0, .int .u8 0, .int .u8 0, .int .u8 0, .int .u8 0, .int .u8 0, .int .u8 0, .int .u8 0, .int .u8 0, .int .u8 0, .int .u8 0, .int .u8 0, .int .u8 0, .int .u8 0, .int .u8 0, .int .u8 0, .int .u8 0, .int .u8 0, .int .u8 0]) X
      have Hg := Lib.hid hg; have HVG := Lib.hid hVG; have HUG := Lib.hid hUG
      have rG := kg.row g 28 X (by simp)
      clear hg hVG hUG k1 ltg
      go_wp2_with (first
        | (rw [Hg.out, HVG.out]; refine wpList_store_row (x := .tmp 12) (y := .tmp 46) (cells := X) (old := Z32) (t := 28) (ty := 28) (g := g) ?_ ?_ ?_ ?_ rVG iDk zDk oDk ?_; rfl; rfl; rfl; rfl; rw [HUG.out])
        | (refine wpList_load_row (x := .tmp 12) (ty := 28) (g := g) (cs := X) (t := 28) (fr := (0, 0)) ?_ ?_ ?_ _ rG und28 rfl iDk ?_; rfl; rfl; rfl)
        | fail)
      have k2 := kg.sub (L' := [(n + 1, 71, G k), (n, 28, C)]) (by simp)
      refine (J1.out _ k2).mono ?_
      rintro e w2 ⟨rfl, hr, hb⟩
      have k3 := k2.but (fun y hy => by simp at hy; subst hy; show _ ≠ _; omega) (by omega) hb hr
      clear hr hb k2 kg rG rVG Hg HVG HUG
      go_wp2
      go_roundg (M - (k + 1))
      case measure => have := HM.out; omega
      case rel => exact ⟨k + 1, by omega, by go_num, k3⟩
    · obtain rfl : k = M := by omega
      have cl := CLE.out k
      have len := LEN.out k
      have lk2 := LK2.out k m2
      generalize c k = N at *
      have hN : (N : Int) ≤ 17 := by omega
      have L1 := Lib.hid len; have L2 := Lib.hid lk2
      clear len lk2 cl hm
      go_wp2_with fail
      refine (SH.out _ kb.below).mono ?_
      rintro e w1 ⟨rfl, gq⟩
      have k1 := kb.same gq
      clear gq kb
      go_wp2_with fail
      refine (L1.out _ k1).mono ?_
      rintro e w2 ⟨rfl, gq⟩
      have k2 := k1.same gq
      clear gq k1

      have iE := r8_info (fun _ => 0); have zE := r8_zero (fun _ => 0); have oE := r8_one (fun _ => 0)
      generalize r8 32 (fun _ => 0) = DE at *
      by_cases hk0 : k = 0
      · subst hk0
        have l2 := L2.out _ (k2.row (n + 1) 71 (G 0) (by simp)) k2.below
        rw [show (x : Int) - ((0 : Nat) : Int) = x by omega] at l2
        have LL := Lib.hid l2
        clear l2
        go_wp2_with fail
        refine (LL.out).mono ?_
        rintro e w3 ⟨rfl, gq⟩
        have k3 := k2.same gq
        clear gq k2
        obtain ⟨g, VG, UG, hg, hVG, rVG, hUG, kg, geg, ltg⟩ := k3.box 28 (#[.int .u8 0, .int .u8 0, .int .u8 0, .int .u8 0, .int .u8 0, .int .u8 0, .int .u8 0, .int .u8 0, .int .u8 0, .int .u8 0, .int .u8 0, .int .u8 0, .int .u8 0, .int .u8 0, .int .u8 0, .int .u8 0, .int .u8 0, .int .u8 0, .int .u8 0, .int .u8 0, .int .u8 0, .int .u8 0, .int .u8 0, .int .u8 0, .int .u8 0, .int .u8 0, .int .u8 0, .int .u8 0, .int .u8 0, .int .u8 0, .int .u8 0, .int .u8 0]) DE
        have Hg := Lib.hid hg; have HVG := Lib.hid hVG; have HUG := Lib.hid hUG
        clear hg hVG hUG k3 ltg
        go_wp2_with (first
          | (rw [Hg.out, HVG.out]; refine wpList_store_row (x := .tmp 14) (y := .tmp 70) (cells := DE) (old := Z32) (t := 28) (ty := 28) (g := g) ?_ ?_ ?_ ?_ rVG iE zE oE ?_; rfl; rfl; rfl; rfl; rw [HUG.out])
          | fail)
        go_ret
        exact ⟨rfl, by rw [HN.out]; exact kg.below⟩
      · have hkp : 0 < k := by omega
        have hr : a % k < k := Nat.mod_lt _ hkp
        obtain ⟨y, hy⟩ : ∃ y, x - a % k = y := ⟨_, rfl⟩
        have ey : (x : Int) - ((a % k : Nat) : Int) = (y : Int) := by omega
        obtain ⟨r, hrr⟩ : ∃ r, a % k = r := ⟨_, rfl⟩
        have em : (a : Int) % (k : Int) = (r : Int) := by rw [← hrr]; rfl
        have et : Int.tmod (a : Int) (k : Int) = (r : Int) := by rw [← hrr]; rfl
        rw [hrr] at hr hy ey
        have wr : IntKind.i64.wrap (r : Int) = (r : Int) := IntWalk.i64_in _ (by omega)
        have wa : IntKind.i64.wrap (a : Int) = (a : Int) := IntWalk.i64_in _ (by omega)
        have wy : IntKind.i64.wrap ((x : Int) - (r : Int)) = (y : Int) := by rw [ey]; exact IntWalk.i64_in _ (by omega)
        have dk0 : ((k : Int) == 0) = false := by simp; omega
        have wk : IntKind.i64.wrap ((x : Int) - (k : Int)) = (x : Int) - (k : Int) := IntWalk.i64_in _ (by omega)
        have wk1 : IntKind.i64.wrap ((x : Int) - (k : Int) + 1) = (x : Int) - (k : Int) + 1 := IntWalk.i64_in _ (by omega)
        have l1 := LK1.out k y m2 (by omega) (by omega)
        have lst := LS.out k m2 hkp
        have mk := MK.out y (by omega)
        have iY := iD y; have zY := zD y; have oY := oD y; have eqY := EQD.out y
        have LL1 := Lib.hid l1; have MM := Lib.hid mk; have LST := Lib.hid lst
        generalize D y = Y at *
        clear l1 mk lst hrr hy hr m1 m2
        go_wp2_with fail
        refine (LL1.out _ (k2.row (n + 1) 71 (G k) (by simp)) k2.below).mono ?_
        rintro e w3 ⟨rfl, gq⟩
        have k3 := k2.same gq
        clear gq k2
        obtain ⟨g1, V1, U1, hg1, hV1, rV1, hU1, kk1, geg1, ltg1⟩ := k3.box 28 (#[.int .u8 0, .int .u8 0, .int .u8 0, .int .u8 0, .int .u8 0, .int .u8 0, .int .u8 0, .int .u8 0, .int .u8 0, .int .u8 0, .int .u8 0, .int .u8 0, .int .u8 0, .int .u8 0, .int .u8 0, .int .u8 0, .int .u8 0, .int .u8 0, .int .u8 0, .int .u8 0, .int .u8 0, .int .u8 0, .int .u8 0, .int .u8 0, .int .u8 0, .int .u8 0, .int .u8 0, .int .u8 0, .int .u8 0, .int .u8 0, .int .u8 0, .int .u8 0]) Y
        have Hg1 := Lib.hid hg1; have HV1 := Lib.hid hV1; have HU1 := Lib.hid hU1
        have lt1 : n + 1 < g1 := ltg1 (n + 1, 71, G k) (by simp)
        clear hg1 hV1 hU1 k3 ltg1
        have rC := kk1.row n 28 C (by simp)
        go_wp2_with (first
          | (rw [Hg1.out, HV1.out]; refine wpList_store_row (x := .tmp 17) (y := .tmp 85) (cells := Y) (old := Z32) (t := 28) (ty := 28) (g := g1) ?_ ?_ ?_ ?_ rV1 iY zY oY ?_; rfl; rfl; rfl; rfl; rw [HU1.out])
          | (refine wpList_load_row (x := .tmp 4) (ty := 28) (g := n) (cs := C) (t := 28) (fr := (0, 0)) ?_ ?_ ?_ _ rC und28 rfl iF ?_; rfl; rfl; rfl)
          | fail)
        refine (MM.out _).mono ?_
        rintro e w4 ⟨rfl, gq⟩
        have k4 := kk1.same gq
        clear gq kk1 rV1 Hg1 HV1 HU1 rC
        obtain ⟨g2, V2, U2, hg2, hV2, rV2, hU2, kk2, geg2, ltg2⟩ := k4.box 28 (#[.int .u8 0, .int .u8 0, .int .u8 0, .int .u8 0, .int .u8 0, .int .u8 0, .int .u8 0, .int .u8 0, .int .u8 0, .int .u8 0, .int .u8 0, .int .u8 0, .int .u8 0, .int .u8 0, .int .u8 0, .int .u8 0, .int .u8 0, .int .u8 0, .int .u8 0, .int .u8 0, .int .u8 0, .int .u8 0, .int .u8 0, .int .u8 0, .int .u8 0, .int .u8 0, .int .u8 0, .int .u8 0, .int .u8 0, .int .u8 0, .int .u8 0, .int .u8 0]) Y
        have Hg2 := Lib.hid hg2; have HV2 := Lib.hid hV2; have HU2 := Lib.hid hU2
        have lt2 : g1 < g2 := ltg2 (g1, 28, Y) (by simp)
        clear hg2 hV2 hU2 k4 ltg2
        go_wp2_with (first
          | (rw [Hg2.out, HV2.out]; refine wpList_store_row (x := .tmp 19) (y := .tmp 91) (cells := Y) (old := Z32) (t := 28) (ty := 28) (g := g2) ?_ ?_ ?_ ?_ rV2 iY zY oY ?_; rfl; rfl; rfl; rfl; rw [HU2.out])
          | fail)
        refine (LST.out _ (kk2.row (n + 1) 71 (G k) (by simp))).mono ?_
        rintro e w5 ⟨rfl, gq⟩
        have k5 := kk2.same gq
        clear gq kk2 rV2 Hg2 HV2 HU2
        go_wp2_with fail
        refine (L2.out _ (k5.row (n + 1) 71 (G k) (by simp)) k5.below).mono ?_
        rintro e w6 ⟨rfl, gq⟩
        have k6 := k5.same gq
        clear gq k5
        obtain ⟨g3, V3, U3, hg3, hV3, rV3, hU3, kk3, geg3, ltg3⟩ := k6.box 28 (#[.int .u8 0, .int .u8 0, .int .u8 0, .int .u8 0, .int .u8 0, .int .u8 0, .int .u8 0, .int .u8 0, .int .u8 0, .int .u8 0, .int .u8 0, .int .u8 0, .int .u8 0, .int .u8 0, .int .u8 0, .int .u8 0, .int .u8 0, .int .u8 0, .int .u8 0, .int .u8 0, .int .u8 0, .int .u8 0, .int .u8 0, .int .u8 0, .int .u8 0, .int .u8 0, .int .u8 0, .int .u8 0, .int .u8 0, .int .u8 0, .int .u8 0, .int .u8 0]) DE
        have Hg3 := Lib.hid hg3; have HV3 := Lib.hid hV3; have HU3 := Lib.hid hU3
        clear hg3 hV3 hU3 k6 ltg3
        have r1 := kk3.row g1 28 Y (by simp)
        have r2 := kk3.row g2 28 Y (by simp)
        go_wp2_with (first
          | (rw [Hg3.out, HV3.out]; refine wpList_store_row (x := .tmp 23) (y := .tmp 105) (cells := DE) (old := Z32) (t := 28) (ty := 28) (g := g3) ?_ ?_ ?_ ?_ rV3 iE zE oE ?_; rfl; rfl; rfl; rfl; rw [HU3.out])
          | (refine wpList_load_row_g (x := .tmp 17) (ty := 28) (g := g1) (cs := Y) (t := 28) (fr := (0, 0)) ?_ ?_ ?_ _ r1 und28 rfl iY ?_; rfl; rfl; rfl)
          | (refine wpList_load_row_g (x := .tmp 19) (ty := 28) (g := g2) (cs := Y) (t := 28) (fr := (0, 0)) ?_ ?_ ?_ _ r2 und28 rfl iY ?_; rfl; rfl; rfl)
          | fail)
        go_ret
        exact ⟨rfl, by rw [HN.out]; exact kk3.below⟩

theorem walk_ShelfAll (z0 : List Int) (l0 : z0.length = 32) (w0 : ∀ z ∈ z0, (Lit.int .u8 z).wf = true) (a1 : Int) (w1 : (Lit.int .u16 a1).wf = true) (a2 : Int) (w2 : (Lit.int .u8 a2).wf = true) (a3 : Int) (w3 : (Lit.int .u8 a3).wf = true) {W : World} (hL : laidMetH Tryd.prog Rows.shelfAllRow.laid W) :
    Calls Tryd.prog 20 #[.agg (z0.map (Value.int .u8)).toArray, .int .u16 a1, .int .u8 a2, .int .u8 a3] W (Fine W) := by
  obtain ⟨P, hP, e1⟩ := r8_of z0 l0 w0
  rw [e1]
  have h1 := RowK.wf_u16 w1
  have h2 := RowK.wf_u8 w2
  have h3 := RowK.wf_u8 w3
  obtain ⟨x, rfl⟩ := Int.eq_ofNat_of_zero_le h1.1
  obtain ⟨z, rfl⟩ := Int.eq_ofNat_of_zero_le h2.1
  obtain ⟨a, rfl⟩ := Int.eq_ofNat_of_zero_le h3.1
  exact all_walk P x z a W (tabs_of hL (by simp [Rows.shelfAllRow]) (by simp [Rows.shelfAllRow])) (tz_of hL (by simp [Rows.shelfAllRow])) hP (by omega) (by omega) (by omega)
end Go.Proofs.YtpfcalamchdciaaDoor
