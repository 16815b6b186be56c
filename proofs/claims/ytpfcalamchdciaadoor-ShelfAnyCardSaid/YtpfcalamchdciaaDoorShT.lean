/- The walk of ShelfTwice; the conditions are that the tables are laid and that arrays of bytes hold bytes. -/
import Derived.Test.YtpfcalamchdciaaDoorShG
import Derived.Test.YtpfcalamchdciaaDoorScRowT
namespace Go.Proofs.YtpfcalamchdciaaDoor
open Go.RowKit
set_option linter.unusedVariables false

/-- the shelf after k numbers down from x -/
def Ej (F : Nat → Nat) (x : Nat) : Nat → Nat → Ent
  | 0 => fun _ => none0
  | k + 1 => putE (Ej F x k) (Sc.pl (x - k)) (ent F (x - k))
theorem ej_good (F : Nat → Nat) {x : Nat} (hx : x < 65536) : ∀ k, Good F (Ej F x k)
  | 0 => good_none F
  | k + 1 => good_put (ej_good F hx k) (by omega)
theorem putE_twice (E : Nat → Ent) (p : Nat) (e : Ent) : putE (putE E p e) p e = putE E p e := by
  funext b; unfold putE; split <;> rfl
theorem cnt_pos {E : Nat → Ent} {b : Nat} (h : (E b).full = true) : ∀ {k : Nat}, b < k → 1 ≤ cnt E k
  | k + 1, hk => by
    show 1 ≤ cnt E k + if (E k).full then 1 else 0
    by_cases e : b = k
    · subst e; rw [h]; exact Nat.le_add_left _ _
    · have := cnt_pos h (show b < k by omega); omega
theorem ej_cnt (F : Nat → Nat) {x k : Nat} (hk : 0 < k) : 1 ≤ cnt (Ej F x k) 17 := by
  obtain ⟨j, rfl⟩ : ∃ j, k = j + 1 := ⟨k - 1, by omega⟩
  refine cnt_pos (b := Sc.pl (x - j)) ?_ (Nat.lt_succ_of_le (Sc.pl_le _))
  show (putE _ _ _ _).full = true
  unfold putE; rw [if_pos rfl]; exact ent_full F _
/-- what Insert answers and leaves for any number of the seed's -/
theorem ins_mk (s : Nat) (E : Nat → Ent) (F : Nat → Nat) (i : Int) (w : World) (ht : Tabs w) (hz : TzT w) (hF : ∀ j, F j < 256) (hg : Good F E) (hs : M.RowAt w s 71 (shC E)) :
    Calls Tryd.prog 48 #[.pointer (some ⟨s, 0, none⟩), .int .i64 i, .agg (r8 32 (mkH F i))] w fun e w' => e = .returned (.int .i64 (if isN i then 0 else 1)) ∧ M.RowAt w' s 71 (shC (if isN i then insE E (mkH F i) i else E)) ∧ M.But s w w' := by
  have := insert_any s E (mkH F i) i w ht hz (mkH_lt hF i) hs
  cases h : isN i
  · have hc : can i i = false := by unfold can; rw [h]; rfl
    have e1 : insR E (mkH F i) i = 1 := by unfold insR; rw [hc]; rfl
    have e2 : insE E (mkH F i) i = E := by unfold insE; rw [hc]; rfl
    rw [e1, e2] at this
    rw [if_neg (by decide), if_neg (by decide)]; exact this
  · have h2 : 0 ≤ i ∧ i < 65536 := by simpa [isN] using h
    obtain ⟨x, rfl⟩ := Int.eq_ofNat_of_zero_le h2.1
    have e0 : mkH F ((x : Nat) : Int) = walkH F x 16 := by unfold mkH; rw [show isN ((x : Nat) : Int) = true from h]; rfl
    rw [if_pos rfl, if_pos rfl]
    have e1 : insR E (mkH F ((x : Nat) : Int)) (x : Int) = 0 := by rw [e0]; exact good_insR hg (by omega)
    rw [e1] at this; exact this

set_option maxRecDepth 100000 in
set_option maxHeartbeats 4000000 in
theorem twice_walk (F : Nat → Nat) (x z : Nat) (bad : Int) (w : World) (ht : Tabs w) (hz : TzT w) (hF : ∀ j, F j < 256) (hx : x < 65536) (hzz : z < 256) :
    Calls Tryd.prog 17 #[.agg (r8 32 F), .int .u16 (x : Nat), .int .u8 (z : Nat), .int .i64 bad] w (Fine w) := by
  obtain ⟨n, hn⟩ : ∃ n, w.heap.size = n := ⟨_, rfl⟩
  have HN := Lib.hid hn
  have h1n : 1 < n := hn ▸ ht.lt
  have h3n : 3 < n := hn ▸ hz.lt
  have tb := fun v (hb : Below n w v) => ht.below hb h1n
  have tz := fun v (hb : Below n w v) => hz.below hb h3n
  have sh := fun v (hb : Below n w v) => shshown_any v (tb v hb) (tz v hb)
  have kb := ((KB.start w).new 28 (r8 32 F)).new 71 ZS
  rw [World.size_alloc, hn] at kb
  have kb : KB n w [(n + 1, 71, ZS), (n, 28, r8 32 F)] ((w.alloc (.cells (r8 32 F) 28)).alloc (.cells ZS 71)) := kb
  have iF := r8_info F
  have mk := fun y (hy : y < 65536) v => mk_nat F y v hF hy
  obtain ⟨C, hC⟩ : ∃ C, r8 32 F = C := ⟨_, rfl⟩
  have ins1 := fun k v (kv : KB n w [(n + 1, 71, shC (Ej F x k)), (n, 28, C)] v) => ins_good (n + 1) (Ej F x k) F (x - k) v (tb v kv.below) (tz v kv.below) hF (ej_good F hx k) (by omega) (kv.row (n + 1) 71 _ (by simp))
  have ins2 := fun k v (kv : KB n w [(n + 1, 71, shC (Ej F x (k + 1))), (n, 28, C)] v) => ins_good (n + 1) (Ej F x (k + 1)) F (x - k) v (tb v kv.below) (tz v kv.below) hF (ej_good F hx (k + 1)) (by omega) (kv.row (n + 1) 71 _ (by simp))
  have hs1 : ∀ k, shC (putE (Ej F x k) (Sc.pl (x - k)) (ent F (x - k))) = shC (Ej F x (k + 1)) := fun k => rfl
  have hs2 : ∀ k, shC (putE (Ej F x (k + 1)) (Sc.pl (x - k)) (ent F (x - k))) = shC (Ej F x (k + 1)) := fun k => congrArg shC (putE_twice (Ej F x k) (Sc.pl (x - k)) (ent F (x - k)))
  simp only [hs1] at ins1
  simp only [hs2] at ins2
  have insb := fun k v (kv : KB n w [(n + 1, 71, shC (Ej F x k)), (n, 28, C)] v) => ins_mk (n + 1) (Ej F x k) F bad v (tb v kv.below) (tz v kv.below) hF (ej_good F hx k) (kv.row (n + 1) 71 _ (by simp))
  have len := fun k v (kv : KB n w [(n + 1, 71, shC (Ej F x k)), (n, 28, C)] v) => len_any (n + 1) (Ej F x k) v (kv.row (n + 1) 71 _ (by simp))
  have mkb := fun v => rmake_any F bad v hF
  have pos := fun k (hk : 0 < k) => ej_cnt F (x := x) hk
  have ib := r8_info (mkH F bad); have zb := r8_zero (mkH F bad); have ob := r8_one (mkH F bad)
  have e0 : ZS = shC (Ej F x 0) := rfl
  obtain ⟨G, hG⟩ : ∃ G : Nat → Array Value, (fun k => shC (Ej F x k)) = G := ⟨_, rfl⟩
  have hG' : ∀ k, shC (Ej F x k) = G k := fun k => congrFun hG k
  obtain ⟨c, hc⟩ : ∃ c : Nat → Nat, (fun k => cnt (Ej F x k) 17) = c := ⟨_, rfl⟩
  have hc' : ∀ k, cnt (Ej F x k) 17 = c k := fun k => congrFun hc k
  have iD := fun x => r8_info (walkH F x 16); have zD := fun x => r8_zero (walkH F x 16); have oD := fun x => r8_one (walkH F x 16)
  obtain ⟨D, hD⟩ : ∃ D : Nat → Array Value, (fun x => r8 32 (walkH F x 16)) = D := ⟨_, rfl⟩
  have hD' : ∀ x, r8 32 (walkH F x 16) = D x := fun x => congrFun hD x
  obtain ⟨B, hB⟩ : ∃ B, r8 32 (mkH F bad) = B := ⟨_, rfl⟩
  simp only [hD'] at iD zD oD mk ins1 ins2
  simp only [hG'] at ins1 ins2 len insb e0
  simp only [hc'] at len pos
  rw [hC] at kb iF mk mkb ⊢
  rw [hB] at mkb insb ib zb ob
  have MK := Lib.hid mk; have I1 := Lib.hid ins1; have I2 := Lib.hid ins2; have LEN := Lib.hid len; have IB := Lib.hid insb; have MB := Lib.hid mkb; have POS := Lib.hid pos; have SH := Lib.hid sh
  have HG := Lib.hid hG'
  have bz := build71
  obtain ⟨V, hV⟩ : ∃ V, (w.alloc (.cells C 28)).alloc (.cells ZS 71) = V := ⟨_, rfl⟩
  rw [hV] at kb
  generalize ZS = Z at *
  have HV := Lib.hid hV
  rw [e0] at kb
  have q1 : IntKind.i64.wrap (x : Int) = x := IntWalk.i64_in _ (by omega)
  have q2 : IntKind.i64.wrap (z : Int) = z := IntWalk.i64_in _ (by omega)
  clear ht hz h1n h3n tb tz sh mk ins1 ins2 len insb mkb pos hs1 hs2 hG hG' hc hc' hD hD' e0 hC hB hV
  go_enter Tryd.func17, Tryd.ntmps17
  go_wp2_with (refine wpList_build (t := 71) ?_ ?_ Z bz ?_; rfl; rfl)
  rw [HV.out]
  obtain ⟨M, hM⟩ : ∃ M : Nat, min (z % 20 + 1) (x + 1) = M := ⟨_, rfl⟩
  go_loopg [10] M (fun m i v => ∃ k : Nat, m + k = M ∧ i = .int .i64 k ∧ KB n w [(n + 1, 71, G k), (n, 28, C)] v)
  case atStart => exact ⟨0, by omega, rfl, kb⟩
  case round =>
    clear kb
    obtain ⟨k, hm, rfl, kb⟩ := hrel
    have m1 : M ≤ z % 20 + 1 := by omega
    have m2 : M ≤ x + 1 := by omega
    have m3 : M = z % 20 + 1 ∨ M = x + 1 := by omega
    have m4 : 0 < M := by omega
    by_cases hlt : k < M
    · have hcd : (k : Int) < min ((z : Int) % 20) x + 1 := by omega
      have rC := kb.row n 28 C (by simp)
      have iDk := iD (x - k); have zDk := zD (x - k); have oDk := oD (x - k)
      have mk := MK.out (x - k) (by omega)
      have ins1 := I1.out k
      have ins2 := I2.out k
      have ex : (((x - k : Nat) : Nat) : Int) = (x : Int) - (k : Int) := by omega
      rw [ex] at mk ins1 ins2
      have M1 := Lib.hid mk; have J1 := Lib.hid ins1; have J2 := Lib.hid ins2
      generalize D (x - k) = X at *
      have q3 : IntKind.i64.wrap ((x : Int) - (k : Int)) = (x : Int) - (k : Int) := IntWalk.i64_in _ (by omega)
      have HM := Lib.hid hm
      clear mk ins1 ins2 ex m1 m2 m3 m4 hM
      go_wp2_with (first
        | (refine wpList_load_row (x := .tmp 4) (ty := 28) (g := n) (cs := C) (t := 28) (fr := (0, 0)) ?_ ?_ ?_ _ rC und28 rfl iF ?_; rfl; rfl; rfl)
        | fail)
      refine (M1.out _).mono ?_
      rintro e w1 ⟨rfl, gq⟩
      have k1 := kb.same gq
      clear gq kb rC
      obtain ⟨g, VG, UG, hg, hVG, rVG, hUG, kg, geg, ltg⟩ := k1.box 28 (#[.int .u8 0, .int .u8 0, .int .u8 0, .int .u8 0, .int .u8 0, .int .u8 0, .int .u8 0, .int .u8 0, .int .u8 0, .int .u8 0, .int .u8 0, .int .u8 0, .int .u8 0, .int .u8 0, .int .u8 0, .int .u8 0, .int .u8 0, .int .u8 0, .int .u8 0, .int .u8 0, .int .u8 0, .int .u8 0, .int .u8 0, .int .u8 0, .int .u8 0, .int .u8 0, .int .u8 0, .int .u8 0, .int .u8 0, .int .u8 0, .int .u8 0, .int .u8 0]) X
      have Hg := Lib.hid hg; have HVG := Lib.hid hVG; have HUG := Lib.hid hUG
      have hlg : n + 1 < g := ltg (n + 1, 71, G k) (by simp)
      have rG := kg.row g 28 X (by simp)
      clear hg hVG hUG k1 ltg
      go_wp2_with (first
        | (rw [Hg.out, HVG.out]; refine wpList_store_row (x := .tmp 11) (y := .tmp 39) (cells := X) (old := Z32) (t := 28) (ty := 28) (g := g) ?_ ?_ ?_ ?_ rVG iDk zDk oDk ?_; rfl; rfl; rfl; rfl; rw [HUG.out])
        | (refine wpList_load_row (x := .tmp 11) (ty := 28) (g := g) (cs := X) (t := 28) (fr := (0, 0)) ?_ ?_ ?_ _ rG und28 rfl iDk ?_; rfl; rfl; rfl)
        | fail)
      have k2 := kg.sub (L' := [(n + 1, 71, G k), (n, 28, C)]) (by simp)
      refine (J1.out _ k2).mono ?_
      rintro e w2 ⟨rfl, hr, hb⟩
      have kq : KB n w [(n + 1, 71, G k), (g, 28, X), (n, 28, C)] UG := kg.sub (by simp)
      have k3 := kq.but (fun y hy => by simp at hy; rcases hy with rfl | rfl <;> (show _ ≠ _; omega)) (by omega) hb hr
      have rG := k3.row g 28 X (by simp)
      clear hr hb k2 kg kq rVG Hg HVG HUG
      go_wp2_with (first
        | (refine wpList_load_row_g (x := .tmp 11) (ty := 28) (g := g) (cs := X) (t := 28) (fr := (0, 0)) ?_ ?_ ?_ _ rG und28 rfl iDk ?_; rfl; rfl; rfl)
        | fail)
      have k4 := k3.sub (L' := [(n + 1, 71, G (k + 1)), (n, 28, C)]) (by simp)
      refine (J2.out _ k4).mono ?_
      rintro e w3 ⟨rfl, hr, hb⟩
      have k5 := k4.but (fun y hy => by simp at hy; subst hy; show _ ≠ _; omega) (by omega) hb hr
      clear hr hb k4 k3 rG
      go_wp2
      go_roundg (M - (k + 1))
      case measure => have := HM.out; omega
      case rel => exact ⟨k + 1, by omega, by go_num, k5⟩
    · have hcd : ¬ ((k : Int) < min ((z : Int) % 20) x + 1) := by omega
      obtain rfl : k = M := by omega
      have hpos := POS.out k m4
      have len := LEN.out k
      have ins := IB.out k
      generalize c k = N at *
      have hN : (0 : Int) < N := by omega
      have L1 := Lib.hid len
      clear len m1 m2 m3 m4 hM hm
      go_wp2_with fail
      refine (L1.out _ kb).mono ?_
      rintro e w1 ⟨rfl, gq⟩
      have k1 := kb.same gq
      have rC := k1.row n 28 C (by simp)
      clear gq kb
      by_cases hb0 : 0 ≤ bad
      · by_cases hb1 : bad < 65536
        · have hi : isN bad = true := by simp [isN]; omega
          rw [hi, if_pos rfl, if_pos rfl] at ins
          have J1 := Lib.hid ins
          clear ins hi
          go_wp2_with (first
            | (refine wpList_load_row (x := .tmp 4) (ty := 28) (g := n) (cs := C) (t := 28) (fr := (0, 0)) ?_ ?_ ?_ _ rC und28 rfl iF ?_; rfl; rfl; rfl)
            | fail)
          refine (MB.out _).mono ?_
          rintro e w2 ⟨rfl, gq⟩
          have k2 := k1.same gq
          clear gq k1 rC
          obtain ⟨g, VG, UG, hg, hVG, rVG, hUG, kg, geg, ltg⟩ := k2.box 28 (#[.int .u8 0, .int .u8 0, .int .u8 0, .int .u8 0, .int .u8 0, .int .u8 0, .int .u8 0, .int .u8 0, .int .u8 0, .int .u8 0, .int .u8 0, .int .u8 0, .int .u8 0, .int .u8 0, .int .u8 0, .int .u8 0, .int .u8 0, .int .u8 0, .int .u8 0, .int .u8 0, .int .u8 0, .int .u8 0, .int .u8 0, .int .u8 0, .int .u8 0, .int .u8 0, .int .u8 0, .int .u8 0, .int .u8 0, .int .u8 0, .int .u8 0, .int .u8 0]) B
          have Hg := Lib.hid hg; have HVG := Lib.hid hVG; have HUG := Lib.hid hUG
          have rG := kg.row g 28 B (by simp)
          clear hg hVG hUG k2 ltg
          go_wp2_with (first
            | (rw [Hg.out, HVG.out]; refine wpList_store_row (x := .tmp 15) (y := .tmp 71) (cells := B) (old := Z32) (t := 28) (ty := 28) (g := g) ?_ ?_ ?_ ?_ rVG ib zb ob ?_; rfl; rfl; rfl; rfl; rw [HUG.out])
            | (refine wpList_load_row (x := .tmp 15) (ty := 28) (g := g) (cs := B) (t := 28) (fr := (0, 0)) ?_ ?_ ?_ _ rG und28 rfl ib ?_; rfl; rfl; rfl)
            | fail)
          have k3 := kg.sub (L' := [(n + 1, 71, G k), (n, 28, C)]) (by simp)
          refine (J1.out _ k3).mono ?_
          rintro e w3 ⟨rfl, hr, hb⟩
          have k4 := k3.but (fun y hy => by simp at hy; subst hy; show _ ≠ _; omega) (by omega) hb hr
          clear hr hb k3 kg rG rVG Hg HVG HUG
          go_wp2_with fail
          refine (SH.out _ k4.below).mono ?_
          rintro e w4 ⟨rfl, gq⟩
          have k5 := k4.same gq
          clear gq k4
          go_wp2
          go_ret
          exact ⟨rfl, by rw [HN.out]; exact k5.below⟩
        · have hi : isN bad = false := by simp [isN]; omega
          rw [hi, if_neg (by decide), if_neg (by decide), HG.out] at ins
          have J1 := Lib.hid ins
          clear ins hi
          go_wp2_with (first
            | (refine wpList_load_row (x := .tmp 4) (ty := 28) (g := n) (cs := C) (t := 28) (fr := (0, 0)) ?_ ?_ ?_ _ rC und28 rfl iF ?_; rfl; rfl; rfl)
            | fail)
          refine (MB.out _).mono ?_
          rintro e w2 ⟨rfl, gq⟩
          have k2 := k1.same gq
          clear gq k1 rC
          obtain ⟨g, VG, UG, hg, hVG, rVG, hUG, kg, geg, ltg⟩ := k2.box 28 (#[.int .u8 0, .int .u8 0, .int .u8 0, .int .u8 0, .int .u8 0, .int .u8 0, .int .u8 0, .int .u8 0, .int .u8 0, .int .u8 0, .int .u8 0, .int .u8 0, .int .u8 0, .int .u8 0, .int .u8 0, .int .u8 0, .int .u8 0, .int .u8 0, .int .u8 0, .int .u8 0, .int .u8 0, .int .u8 0, .int .u8 0, .int .u8 0, .int .u8 0, .int .u8 0, .int .u8 0, .int .u8 0, .int .u8 0, .int .u8 0, .int .u8 0, .int .u8 0]) B
          have Hg := Lib.hid hg; have HVG := Lib.hid hVG; have HUG := Lib.hid hUG
          have rG := kg.row g 28 B (by simp)
          clear hg hVG hUG k2 ltg
          go_wp2_with (first
            | (rw [Hg.out, HVG.out]; refine wpList_store_row (x := .tmp 15) (y := .tmp 71) (cells := B) (old := Z32) (t := 28) (ty := 28) (g := g) ?_ ?_ ?_ ?_ rVG ib zb ob ?_; rfl; rfl; rfl; rfl; rw [HUG.out])
            | (refine wpList_load_row (x := .tmp 15) (ty := 28) (g := g) (cs := B) (t := 28) (fr := (0, 0)) ?_ ?_ ?_ _ rG und28 rfl ib ?_; rfl; rfl; rfl)
            | fail)
          have k3 := kg.sub (L' := [(n + 1, 71, G k), (n, 28, C)]) (by simp)
          refine (J1.out _ k3).mono ?_
          rintro e w3 ⟨rfl, hr, hb⟩
          have k4 := k3.but (fun y hy => by simp at hy; subst hy; show _ ≠ _; omega) (by omega) hb hr
          clear hr hb k3 kg rG rVG Hg HVG HUG
          go_wp2_with fail
          refine (L1.out _ k4).mono ?_
          rintro e w4 ⟨rfl, gq⟩
          have k5 := k4.same gq
          clear gq k4
          go_wp2_with fail
          refine (SH.out _ k5.below).mono ?_
          rintro e w5 ⟨rfl, gq⟩
          have k6 := k5.same gq
          clear gq k5
          go_wp2
          go_ret
          exact ⟨by simp [hb1], by rw [HN.out]; exact k6.below⟩
      · have hi : isN bad = false := by simp [isN]; omega
        rw [hi, if_neg (by decide), if_neg (by decide), HG.out] at ins
        have J1 := Lib.hid ins
        clear ins hi
        go_wp2_with (first
          | (refine wpList_load_row (x := .tmp 4) (ty := 28) (g := n) (cs := C) (t := 28) (fr := (0, 0)) ?_ ?_ ?_ _ rC und28 rfl iF ?_; rfl; rfl; rfl)
          | fail)
        refine (MB.out _).mono ?_
        rintro e w2 ⟨rfl, gq⟩
        have k2 := k1.same gq
        clear gq k1 rC
        obtain ⟨g, VG, UG, hg, hVG, rVG, hUG, kg, geg, ltg⟩ := k2.box 28 (#[.int .u8 0, .int .u8 0, .int .u8 0, .int .u8 0, .int .u8 0, .int .u8 0, .int .u8 0, .int .u8 0, .int .u8 0, .int .u8 0, .int .u8 0, .int .u8 0, .int .u8 0, .int .u8 0, .int .u8 0, .int .u8 0, .int .u8 0, .int .u8 0, .int .u8 0, .int .u8 0, .int .u8 0, .int .u8 0, .int .u8 0, .int .u8 0, .int .u8 0, .int .u8 0, .int .u8 0, .int .u8 0, .int .u8 0, .int .u8 0, .int .u8 0, .int .u8 0]) B
        have Hg := Lib.hid hg; have HVG := Lib.hid hVG; have HUG := Lib.hid hUG
        have rG := kg.row g 28 B (by simp)
        clear hg hVG hUG k2 ltg
        go_wp2_with (first
          | (rw [Hg.out, HVG.out]; refine wpList_store_row (x := .tmp 15) (y := .tmp 71) (cells := B) (old := Z32) (t := 28) (ty := 28) (g := g) ?_ ?_ ?_ ?_ rVG ib zb ob ?_; rfl; rfl; rfl; rfl; rw [HUG.out])
          | (refine wpList_load_row (x := .tmp 15) (ty := 28) (g := g) (cs := B) (t := 28) (fr := (0, 0)) ?_ ?_ ?_ _ rG und28 rfl ib ?_; rfl; rfl; rfl)
          | fail)
        have k3 := kg.sub (L' := [(n + 1, 71, G k), (n, 28, C)]) (by simp)
        refine (J1.out _ k3).mono ?_
        rintro e w3 ⟨rfl, hr, hb⟩
        have k4 := k3.but (fun y hy => by simp at hy; subst hy; show _ ≠ _; omega) (by omega) hb hr
        clear hr hb k3 kg rG rVG Hg HVG HUG
        go_wp2_with fail
        refine (L1.out _ k4).mono ?_
        rintro e w4 ⟨rfl, gq⟩
        have k5 := k4.same gq
        clear gq k4
        go_wp2_with fail
        refine (SH.out _ k5.below).mono ?_
        rintro e w5 ⟨rfl, gq⟩
        have k6 := k5.same gq
        clear gq k5
        go_wp2
        go_ret
        exact ⟨rfl, by rw [HN.out]; exact k6.below⟩

theorem walk_ShelfTwice (z0 : List Int) (l0 : z0.length = 32) (w0 : ∀ z ∈ z0, (Lit.int .u8 z).wf = true) (a1 : Int) (w1 : (Lit.int .u16 a1).wf = true) (a2 : Int) (w2 : (Lit.int .u8 a2).wf = true) (a3 : Int) (_w3 : (Lit.int .i64 a3).wf = true) {W : World} (hL : laidMetH Tryd.prog Rows.shelfTwiceRow.laid W) :
    Calls Tryd.prog 17 #[.agg (z0.map (Value.int .u8)).toArray, .int .u16 a1, .int .u8 a2, .int .i64 a3] W (Fine W) := by
  obtain ⟨P, hP, e1⟩ := r8_of z0 l0 w0
  rw [e1]
  have h1 := RowK.wf_u16 w1
  have h2 := RowK.wf_u8 w2
  obtain ⟨x, rfl⟩ := Int.eq_ofNat_of_zero_le h1.1
  obtain ⟨z, rfl⟩ := Int.eq_ofNat_of_zero_le h2.1
  exact twice_walk P x z a3 W (tabs_of hL (by simp [Rows.shelfTwiceRow]) (by simp [Rows.shelfTwiceRow])) (tz_of hL (by simp [Rows.shelfTwiceRow])) hP (by omega) (by omega)
end Go.Proofs.YtpfcalamchdciaaDoor
