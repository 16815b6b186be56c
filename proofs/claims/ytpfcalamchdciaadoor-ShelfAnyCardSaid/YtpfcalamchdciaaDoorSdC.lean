/- What secret's Make and Derive and the reference's functions return; the conditions are that the tables are laid. -/
import Derived.Test.YtpfcalamchdciaaDoorSdP
import Derived.Test.YtpfcalamchdciaaDoorDhS
namespace Go.Proofs.YtpfcalamchdciaaDoor
open Go.RowKit
set_option linter.unusedVariables false

def mkH (F : Nat → Nat) (i : Int) : Nat → Nat := if isN i then walkH F i.toNat 16 else fun _ => 0
def mkE (i : Int) : Int := if isN i then 0 else 1
def drH (F : Nat → Nat) (a b : Int) : Nat → Nat := if can a b then walkH F b.toNat (place a) else fun _ => 0
def drE (a b : Int) : Int := if can a b then 0 else 1
theorem walkH_lt {F : Nat → Nat} (hF : ∀ i, F i < 256) (i d : Nat) : ∀ j, walkH F i d j < 256 := by
  intro j
  unfold walkH
  rcases List.eq_nil_or_concat (onesL i d d) with h | ⟨l, x, h⟩
  · rw [h]; exact hF j
  · rw [h, List.concat_eq_append, List.foldl_append]; exact ofH_lt _ _
theorem mkH_lt {F : Nat → Nat} (hF : ∀ i, F i < 256) (i : Int) : ∀ j, mkH F i j < 256 := by
  intro j; unfold mkH; split
  · exact walkH_lt hF _ _ j
  · exact (by decide : (0 : Nat) < 256)
theorem drH_lt {F : Nat → Nat} (hF : ∀ i, F i < 256) (a b : Int) : ∀ j, drH F a b j < 256 := by
  intro j; unfold drH; split
  · exact walkH_lt hF _ _ j
  · exact (by decide : (0 : Nat) < 256)
theorem TzT.below {w w' : World} {B : Nat} (h : TzT w) (hb : Below B w w') (hB : 3 < B) : TzT w' := ⟨fun j hj => by rw [hb.cell (show 3 < B from hB)]; exact h.at' j hj⟩
theorem TzT.lt {w : World} (h : TzT w) : 3 < w.heap.size := World.block_lt_of_cell? w _ (h.at' 0 (by decide))

/-- .. of the reference: a number -/
theorem number_any (i : Int) (w : World) : Calls Tryd.prog 66 #[.int .i64 i] w fun e w' => e = .returned (.bool (isN i)) ∧ w = w' := by
  go_enter Tryd.func66, Tryd.ntmps66
  go_wp2
  all_goals go_ret
  all_goals exact ⟨ret_bool (by simp [isN]; omega), rfl⟩
def bitB (i b : Nat) : Bool := decide (i / 2 ^ b % 2 = 1)
set_option maxRecDepth 100000 in
theorem bit_any (i b : Nat) (w : World) (hi : i < 65536) (hb : b ≤ 16) : Calls Tryd.prog 68 #[.int .i64 (i : Nat), .int .i64 (b : Nat)] w fun e w' => e = .returned (.bool (bitB i b)) ∧ w = w' := by
  go_enter Tryd.func68, Tryd.ntmps68
  go_wp2
  go_loop [0, 5] (fun x j => ∃ k : Nat, k ≤ b ∧ x = .int .i64 ((i / 2 ^ k : Nat) : Int) ∧ j = .int .i64 k) (fun _ j => b - (intOf j).toNat)
  case atStart => exact ⟨0, by omega, by simp, rfl⟩
  case round =>
    obtain ⟨k, hk, rfl, rfl⟩ := hrel
    have hl : i / 2 ^ k ≤ i := Nat.div_le_self _ _
    have hs : i / 2 ^ k / 2 = i / 2 ^ (k + 1) := by rw [Nat.pow_succ, Nat.div_div_eq_div_mul]
    obtain ⟨x, hx⟩ : ∃ x, i / 2 ^ k = x := ⟨_, rfl⟩
    rw [hx] at hl hs
    have HX := Lib.hid hx; have HS := Lib.hid hs
    rw [hx]
    clear hx hs
    by_cases hlt : k < b
    · go_wp2
      go_round
      case rel => exact ⟨k + 1, by omega, by rw [← HS.out]; congr 1, by go_num⟩
      case measure => simp [intOf]; omega
    · obtain rfl : k = b := by omega
      go_wp2
      go_ret
      refine ⟨ret_bool ?_, rfl⟩
      unfold bitB
      rw [HX.out, Bool.eq_iff_iff]
      simp
      omega

set_option maxRecDepth 100000 in
set_option maxHeartbeats 4000000 in
theorem make_any (F : Nat → Nat) (i : Int) (w : World) (ht : Tabs w) (hF : ∀ j, F j < 256) :
    Calls Tryd.prog 42 #[.agg (r8 32 F), .int .i64 i] w fun e w' => e = .returned (.tuple #[.agg (r8 32 (mkH F i)), .int .i64 (mkE i)]) ∧ Below w.heap.size w w' := by
  obtain ⟨n, hn⟩ : ∃ n, w.heap.size = n := ⟨_, rfl⟩
  have HN := Lib.hid hn
  have h1n : 1 < n := hn ▸ ht.lt
  have kb := ((KB.start w).new 28 (r8 32 F)).new 28 Z32
  rw [World.size_alloc, hn] at kb
  have iF := r8_info F
  have cn := fun v => isN_any i v
  have CN := Lib.hid cn
  cases hN : isN i
  · have e1 : r8 32 (mkH F i) = Z32 := by unfold mkH; rw [hN]; exact z32_r8
    have e2 : mkE i = 1 := by unfold mkE; rw [hN]; rfl
    rw [e1, e2]
    rw [hN] at CN
    have iZ := r8_info (fun _ => 0)
    rw [z32_r8] at iZ
    have oZ : Z32.all (·.oneCell') = true := by kernel_rfl
    generalize r8 32 F = C at *
    obtain ⟨V, hV⟩ : ∃ V, (w.alloc (.cells C 28)).alloc (.cells #[.int .u8 0, .int .u8 0, .int .u8 0, .int .u8 0, .int .u8 0, .int .u8 0, .int .u8 0, .int .u8 0, .int .u8 0, .int .u8 0, .int .u8 0, .int .u8 0, .int .u8 0, .int .u8 0, .int .u8 0, .int .u8 0, .int .u8 0, .int .u8 0, .int .u8 0, .int .u8 0, .int .u8 0, .int .u8 0, .int .u8 0, .int .u8 0, .int .u8 0, .int .u8 0, .int .u8 0, .int .u8 0, .int .u8 0, .int .u8 0, .int .u8 0, .int .u8 0] 28) = V := ⟨_, rfl⟩
    have kV : KB n w [(n + 1, 28, Z32), (n, 28, C)] V := hV ▸ kb
    have rV := kV.row (n + 1) 28 Z32 (by simp)
    have kW := kV.setRow (fun x hx => by simp at hx; subst hx; show n ≠ n + 1; omega) (by omega) Z32
    have rW := kW.row (n + 1) 28 Z32 (by simp)
    have HV := Lib.hid hV
    clear kb cn hV hN e1 e2 kV
    go_enter Tryd.func42, Tryd.ntmps42
    go_wp2_with fail
    rw [HV.out]
    refine (CN.out _).mono ?_
    rintro e w1 ⟨rfl, rfl⟩
    go_wp2_with (refine wpList_store_row (x := .tmp 4) (y := .tmp 9) (cells := Z32) (old := Z32) (t := 28) (ty := 28) (g := n + 1) ?_ ?_ ?_ ?_ rV iZ rfl oZ ?_; rfl; rfl; rfl; rfl)
    have hload := run_loadVar_row (P := Tryd.prog) _ (n + 1) 28 28 Z32 (0, 0) _ rW und28 rfl iZ
    refine bodyPost_ret (v := .tuple #[.agg Z32, .int .i64 1]) (by simp [results, Tryd.results42, asAddr, hload]) rfl ⟨rfl, ?_⟩
    rw [HN.out]
    exact kW.below
  · have hr : 0 ≤ i ∧ i < 65536 := by simpa [isN] using hN
    obtain ⟨x, rfl⟩ := Int.eq_ofNat_of_zero_le hr.1
    have e1 : mkH F (x : Int) = walkH F x 16 := by unfold mkH; rw [hN]; rfl
    have e2 : mkE (x : Int) = 0 := by unfold mkE; rw [hN]; rfl
    rw [e1, e2]
    rw [hN] at CN
    have cc := fun v (hb : Below n w v) => chain_any F x 16 v (ht.below hb h1n) hF (by omega) (by decide)
    have iD := r8_info (walkH F x 16); have zD := r8_zero (walkH F x 16); have oD := r8_one (walkH F x 16)
    generalize r8 32 (walkH F x 16) = D at *
    generalize r8 32 F = C at *
    have CC := Lib.hid cc
    obtain ⟨V, hV⟩ : ∃ V, (w.alloc (.cells C 28)).alloc (.cells #[.int .u8 0, .int .u8 0, .int .u8 0, .int .u8 0, .int .u8 0, .int .u8 0, .int .u8 0, .int .u8 0, .int .u8 0, .int .u8 0, .int .u8 0, .int .u8 0, .int .u8 0, .int .u8 0, .int .u8 0, .int .u8 0, .int .u8 0, .int .u8 0, .int .u8 0, .int .u8 0, .int .u8 0, .int .u8 0, .int .u8 0, .int .u8 0, .int .u8 0, .int .u8 0, .int .u8 0, .int .u8 0, .int .u8 0, .int .u8 0, .int .u8 0, .int .u8 0] 28) = V := ⟨_, rfl⟩
    have kV : KB n w [(n + 1, 28, Z32), (n, 28, C)] V := hV ▸ kb
    have rC := kV.row n 28 C (by simp)
    have HV := Lib.hid hV
    clear kb cn hV hN e1 e2 cc hr ht h1n
    go_enter Tryd.func42, Tryd.ntmps42
    go_wp2_with fail
    rw [HV.out]
    refine (CN.out _).mono ?_
    rintro e w1 ⟨rfl, rfl⟩
    go_wp2_with (first
      | (refine wpList_load_row (x := .tmp 2) (ty := 28) (g := n) (cs := C) (t := 28) (fr := (0, 0)) ?_ ?_ ?_ _ rC und28 rfl iF ?_; rfl; rfl; rfl)
      | fail)
    refine (CC.out _ kV.below).mono ?_
    rintro e w2 ⟨rfl, gq⟩
    have k2 := kV.same gq
    have r2 := k2.row (n + 1) 28 Z32 (by simp)
    have kW := k2.setRow (fun x hx => by simp at hx; subst hx; show n ≠ n + 1; omega) (by omega) D
    have rW := kW.row (n + 1) 28 D (by simp)
    clear gq kV rC k2
    go_wp2_with (refine wpList_store_row (x := .tmp 4) (y := .tmp 12) (cells := D) (old := Z32) (t := 28) (ty := 28) (g := n + 1) ?_ ?_ ?_ ?_ r2 iD zD oD ?_; rfl; rfl; rfl; rfl)
    have hload := run_loadVar_row (P := Tryd.prog) _ (n + 1) 28 28 D (0, 0) _ rW und28 rfl iD
    refine bodyPost_ret (v := .tuple #[.agg D, .int .i64 0]) (by simp [results, Tryd.results42, asAddr, hload]) rfl ⟨rfl, ?_⟩
    rw [HN.out]
    exact kW.below

/-- where the walk is -/
structure WK (n : Nat) (w : World) (R : Array Value) (v : World) : Prop where
  kb : KB n w [(n, 28, R), (n + 1, 28, Z32)] v
theorem WK.drew {n : Nat} {w : World} {R : Array Value} {v : World} (c : WK n w R v) : WK n w R v.drew := ⟨c.kb.drew⟩
set_option maxRecDepth 100000 in
set_option maxHeartbeats 4000000 in
theorem rwalk_any (F : Nat → Nat) (i d : Nat) (w : World) (hF : ∀ j, F j < 256) (hi : i < 65536) (hd : d ≤ 16) :
    Calls Tryd.prog 67 #[.agg (r8 32 F), .int .i64 (d : Nat), .int .i64 (i : Nat)] w fun e w' => e = .returned (.agg (r8 32 (walkH F i d))) ∧ Below w.heap.size w w' := by
  obtain ⟨n, hn⟩ : ∃ n, w.heap.size = n := ⟨_, rfl⟩
  have HN := Lib.hid hn
  have kb := ((KB.start w).new 28 (r8 32 F)).new 28 Z32
  rw [World.size_alloc, hn] at kb
  have hC : ∃ C, r8 32 F = C := ⟨_, rfl⟩
  obtain ⟨C, hC⟩ := hC
  rw [hC] at kb
  have k0 : KB n w [(n, 28, r8 32 ((onesL i d 0).foldl step1 F)), (n + 1, 28, Z32)] ((w.alloc (.cells C 28)).alloc (.cells Z32 28)) := by
    show KB n w [(n, 28, r8 32 F), (n + 1, 28, Z32)] _
    rw [hC]; exact kb.sub (by simp)
  obtain ⟨V, hV⟩ : ∃ V, (w.alloc (.cells C 28)).alloc (.cells Z32 28) = V := ⟨_, rfl⟩
  have hV' : (w.alloc (.cells C 28)).alloc (.cells #[.int .u8 0, .int .u8 0, .int .u8 0, .int .u8 0, .int .u8 0, .int .u8 0, .int .u8 0, .int .u8 0, .int .u8 0, .int .u8 0, .int .u8 0, .int .u8 0, .int .u8 0, .int .u8 0, .int .u8 0, .int .u8 0, .int .u8 0, .int .u8 0, .int .u8 0, .int .u8 0, .int .u8 0, .int .u8 0, .int .u8 0, .int .u8 0, .int .u8 0, .int .u8 0, .int .u8 0, .int .u8 0, .int .u8 0, .int .u8 0, .int .u8 0, .int .u8 0] 28) = V := hV
  rw [hV] at k0
  have HV := Lib.hid hV'
  have hacc : ∀ j k, ((onesL i d j).foldl step1 F) k < 256 := by
    intro j k
    rcases List.eq_nil_or_concat (onesL i d j) with h | ⟨l, x, h⟩
    · rw [h]; exact hF k
    · rw [h, List.concat_eq_append, List.foldl_append]; exact ofH_lt _ _
  have HACC := Lib.hid hacc
  have hfin : (onesL i d d).foldl step1 F = walkH F i d := rfl
  have HFIN := Lib.hid hfin
  rw [hC]
  clear hV hV' kb hC hacc hfin
  go_enter Tryd.func67, Tryd.ntmps67
  go_wp2
  rw [HV.out]
  clear hn
  go_loopg [7] d (fun m b v => ∃ j : Nat, m + j = d ∧ b = .int .i64 ((d : Int) - 1 - j) ∧ KB n w [(n, 28, r8 32 ((onesL i d j).foldl step1 F)), (n + 1, 28, Z32)] v)
  case atStart => exact ⟨0, by omega, by simp, k0⟩
  case round =>
    clear k0
    obtain ⟨j, hm, rfl, kb⟩ := hrel
    by_cases hlt : j < d
    · obtain ⟨b, hb⟩ : ∃ b, d - 1 - j = b := ⟨_, rfl⟩
      have e : (d : Int) - 1 - j = (b : Int) := by omega
      have hb16 : b < 16 := by omega
      have cb := fun v => bit_any i b v hi (by omega)
      have HB := Lib.hid hb; have HE := Lib.hid e
      have hlt8 := HACC.out j
      rw [e]
      clear hb e
      by_cases hbit : i / 2 ^ b % 2 = 1
      · have hs : (onesL i d (j + 1)).foldl step1 F = ofH (flipH ((onesL i d j).foldl step1 F) b) := by
          rw [onesL_yes (by rw [HB.out]; exact hbit), HB.out, List.foldl_append]; rfl
        have hbt : bitB i b = true := by unfold bitB; simpa using hbit
        rw [hbt] at cb
        generalize (onesL i d j).foldl step1 F = A at *
        have hof : Sha.sum (hstr (flipH A b)) = ofH (flipH A b) := rfl
        have cs := fun v => rsum_any (hstr (flipH A b)) v (by rw [hstr_size]; decide)
        rw [hof] at cs
        have hcv := fun v g (h : M.RowAt v g 28 (r8 32 (flipH A b))) => conv_row8 h
        have a8 := hlt8 (b / 8)
        have st := flipH_set A b (by omega) _ (xor_pow (A (b / 8)) b a8)
        have ca : (r8 32 A)[b / 8]? = some (.int .u8 (A (b / 8) : Nat)) := M.rowF_get (by omega)
        have iO := r8_info (ofH (flipH A b)); have oO := r8_one (ofH (flipH A b))
        have zO : (r8 32 (flipH A b)).size = (r8 32 (ofH (flipH A b))).size := by rw [r8_size, r8_size]
        obtain ⟨O, hO⟩ : ∃ O, r8 32 (ofH (flipH A b)) = O := ⟨_, rfl⟩
        rw [hO] at cs iO oO zO
        have HO := Lib.hid hO; have HS := Lib.hid hs
        generalize r8 32 (flipH A b) = T at *
        generalize hstr (flipH A b) = Y at *
        generalize r8 32 A = R at *
        generalize A (b / 8) = y at *
        have setc : ∀ v, KB n w [(n, 28, R), (n + 1, 28, Z32)] v → KB n w [(n, 28, T), (n + 1, 28, Z32)] (v.setCell ⟨n, b / 8, none⟩ (.int .u8 (bits .xor .u8 (y : Int) ((2 : Int) ^ (b % 8) % 256)))) := fun v c => by
          have := c.set (fun x hx => by simp at hx; subst hx; show n + 1 ≠ n; omega) (Nat.le_refl _) (b / 8) (.int .u8 (bits .xor .u8 (y : Int) ((2 : Int) ^ (b % 8) % 256)))
          rw [st] at this; exact this
        have cellc : ∀ v, KB n w [(n, 28, R), (n + 1, 28, Z32)] v → v.cell? ⟨n, b / 8, none⟩ = some (.int .u8 (y : Nat)) ∧ v.frozen? ⟨n, b / 8, none⟩ = false := fun v c =>
          ⟨(M.RowAt.cell (c.rows (n, 28, R) List.mem_cons_self) (b / 8)).trans ca, M.RowAt.frozen (c.rows (n, 28, R) List.mem_cons_self) (b / 8)⟩
        have SETC := Lib.hid setc; have CELLC := Lib.hid cellc; have CS := Lib.hid cs; have HCV := Lib.hid hcv; have CB := Lib.hid cb
        have w1 : IntKind.i64.wrap ((b : Int) / 8) = (b : Int) / 8 := IntWalk.i64_in _ (by omega)
        have w2 : (0 : Int) ≤ (b : Int) / 8 := by omega
        have w3 : (b : Int) / 8 < 32 := by omega
        have w4 : ((b : Int) / 8).toNat = b / 8 := by omega
        clear cs hcv st ca setc cellc hof hlt8 a8 hO hs hbt hbit cb
        go_wp2_with fail
        refine (CB.out _).mono ?_
        rintro e w1 ⟨rfl, rfl⟩
        go_wp2_with fail
        refine QT.wp_region_p 11 (KB n w [(n, 28, R), (n + 1, 28, Z32)]) (KB n w [(n, 28, T), (n + 1, 28, Z32)]) (by kernel_rfl) (by kernel_rfl) kb.drew ?_
        iterate 12
          (refine QT.wpQ_step (fun K hK => ?_)
           go_simp
           first
             | (refine hK _ ?_; clear hK K)
             | (refine ⟨?_, hK _ ?_⟩; decide; clear hK K)
             | ((first | (apply Exists.intro; refine ⟨?_, hK _ ?_⟩) | refine ⟨⟨undef, ?_⟩, hK _ ?_⟩)
                first
                  | (apply QT.al_p; decide; (focus (intro wq hq; (first | (obtain ⟨hc1, hf1⟩ := CELLC.out _ hq) | skip); first | (fail) | (unfold QP.oat; go_simp; first | done | exact ⟨by assumption, rfl⟩ | exact rfl | assumption | ((rw [wrap_pow]; exact SETC.out _ hq))))))
                  | (apply QT.al_dep; decide; decide; (focus (intro wq hq; (first | (obtain ⟨hc1, hf1⟩ := CELLC.out _ hq) | skip); first | (fail) | (unfold QP.oat; go_simp; first | done | exact ⟨by assumption, rfl⟩ | exact rfl | assumption | ((rw [wrap_pow]; exact SETC.out _ hq))))))
                  | (apply QT.al_bef; decide; decide; (focus (intro wq hq; (first | (obtain ⟨hc1, hf1⟩ := CELLC.out _ hq) | skip); first | (fail) | (unfold QP.oat; go_simp; first | done | exact ⟨by assumption, rfl⟩ | exact rfl | assumption | ((rw [wrap_pow]; exact SETC.out _ hq))))))
                  | (apply QT.al_ok; decide; (focus (intro wq hq; (first | (obtain ⟨hc1, hf1⟩ := CELLC.out _ hq) | skip); first | (fail) | (unfold QP.oat; go_simp; first | done | exact ⟨by assumption, rfl⟩ | exact rfl | assumption | ((rw [wrap_pow]; exact SETC.out _ hq))))); (focus (intro wq hq; (first | (obtain ⟨hc1, hf1⟩ := CELLC.out _ hq) | skip); first | (fail) | (unfold QP.oat; go_simp; first | done | exact ⟨by assumption, rfl⟩ | exact rfl | assumption | ((rw [wrap_pow]; exact SETC.out _ hq))))))
                clear hK K))
        refine QT.wpQ_nil ?_
        intro wz bz
        have hcv := HCV.out _ _ (bz.rows (n, 28, T) List.mem_cons_self)
        go_wp2_with fail
        refine (CS.out _).mono ?_
        rintro e w3 ⟨rfl, gq⟩
        have b3 := bz.same gq
        have rT : w3.heap[n]? = some (.cells T 28 (0, 0)) := b3.rows (n, 28, T) List.mem_cons_self
        have b4 := b3.setRow (fun x hx => by simp at hx; subst hx; show n + 1 ≠ n; omega) (Nat.le_refl _) O
        clear gq bz hcv b3 kb
        go_wp2_with (refine wpList_store_row (x := .tmp 3) (y := .tmp 30) (cells := O) (old := T) (t := 28) (ty := 28) (g := n) ?_ ?_ ?_ ?_ rT iO zO oO ?_; rfl; rfl; rfl; rfl)
        go_roundg (d - (j + 1))
        case measure => omega
        case rel => exact ⟨j + 1, by omega, by have := HE.out; congr 1; push_cast; omega, by rw [HS.out, HO.out]; exact b4⟩
      · have hs : onesL i d (j + 1) = onesL i d j := onesL_no (by rw [HB.out]; exact hbit)
        have hbt : bitB i b = false := by unfold bitB; simpa using hbit
        rw [hbt] at cb
        have HS := Lib.hid hs; have CB := Lib.hid cb
        clear hs hbt hbit cb hlt8
        go_wp2_with fail
        refine (CB.out _).mono ?_
        rintro e w1 ⟨rfl, rfl⟩
        go_wp2
        go_roundg (d - (j + 1))
        case measure => omega
        case rel => exact ⟨j + 1, by omega, by have := HE.out; congr 1; push_cast; omega, by rw [HS.out]; exact kb⟩
    · obtain rfl : j = d := by omega
      have hz : (j : Int) - 1 - j = -1 := by omega
      rw [hz]
      rw [HFIN.out] at kb
      have iG := r8_info (walkH F i j); have zG := r8_zero (walkH F i j); have oG := r8_one (walkH F i j)
      obtain ⟨G, hG⟩ : ∃ G, r8 32 (walkH F i j) = G := ⟨_, rfl⟩
      rw [hG] at kb iG zG oG
      have HG := Lib.hid hG
      have rG := kb.row n 28 G (by simp)
      have kz : KB n w [(n + 1, 28, Z32), (n, 28, G)] wr := kb.sub (by simp)
      have rZ := kz.row (n + 1) 28 Z32 (by simp)
      have kW := kz.setRow (fun x hx => by simp at hx; subst hx; show n ≠ n + 1; omega) (by omega) G
      have rW := kW.row (n + 1) 28 G (by simp)
      clear hz hG kb kz
      go_wp2_with (first
        | (refine wpList_load_row (x := .tmp 3) (ty := 28) (g := n) (cs := G) (t := 28) (fr := (0, 0)) ?_ ?_ ?_ _ rG und28 rfl iG ?_; rfl; rfl; rfl)
        | (refine wpList_store_row (x := .tmp 6) (y := .tmp 31) (cells := G) (old := Z32) (t := 28) (ty := 28) (g := n + 1) ?_ ?_ ?_ ?_ rZ iG zG oG ?_; rfl; rfl; rfl; rfl))
      have hload := run_loadVar_row (P := Tryd.prog) _ (n + 1) 28 28 G (0, 0) _ rW und28 rfl iG
      refine bodyPost_ret (v := .agg G) (by simp [results, Tryd.results67, asAddr, Act.put, hload]) rfl ⟨by rw [HG.out], ?_⟩
      rw [HN.out]
      exact kW.below

set_option maxRecDepth 100000 in
set_option maxHeartbeats 4000000 in
theorem rmake_any (F : Nat → Nat) (i : Int) (w : World) (hF : ∀ j, F j < 256) :
    Calls Tryd.prog 44 #[.agg (r8 32 F), .int .i64 i] w fun e w' => e = .returned (.tuple #[.agg (r8 32 (mkH F i)), .int .i64 (mkE i)]) ∧ Below w.heap.size w w' := by
  obtain ⟨n, hn⟩ : ∃ n, w.heap.size = n := ⟨_, rfl⟩
  have HN := Lib.hid hn
  have kb := ((KB.start w).new 28 (r8 32 F)).new 28 Z32
  rw [World.size_alloc, hn] at kb
  have iF := r8_info F
  have cn := fun v => number_any i v
  have CN := Lib.hid cn
  cases hN : isN i
  · have e1 : r8 32 (mkH F i) = Z32 := by unfold mkH; rw [hN]; exact z32_r8
    have e2 : mkE i = 1 := by unfold mkE; rw [hN]; rfl
    rw [e1, e2]
    rw [hN] at CN
    have iZ := r8_info (fun _ => 0)
    rw [z32_r8] at iZ
    have oZ : Z32.all (·.oneCell') = true := by kernel_rfl
    generalize r8 32 F = C at *
    obtain ⟨V, hV⟩ : ∃ V, (w.alloc (.cells C 28)).alloc (.cells #[.int .u8 0, .int .u8 0, .int .u8 0, .int .u8 0, .int .u8 0, .int .u8 0, .int .u8 0, .int .u8 0, .int .u8 0, .int .u8 0, .int .u8 0, .int .u8 0, .int .u8 0, .int .u8 0, .int .u8 0, .int .u8 0, .int .u8 0, .int .u8 0, .int .u8 0, .int .u8 0, .int .u8 0, .int .u8 0, .int .u8 0, .int .u8 0, .int .u8 0, .int .u8 0, .int .u8 0, .int .u8 0, .int .u8 0, .int .u8 0, .int .u8 0, .int .u8 0] 28) = V := ⟨_, rfl⟩
    have kV : KB n w [(n + 1, 28, Z32), (n, 28, C)] V := hV ▸ kb
    have rV := kV.row (n + 1) 28 Z32 (by simp)
    have kW := kV.setRow (fun x hx => by simp at hx; subst hx; show n ≠ n + 1; omega) (by omega) Z32
    have rW := kW.row (n + 1) 28 Z32 (by simp)
    have HV := Lib.hid hV
    clear kb cn hV hN e1 e2 kV
    go_enter Tryd.func44, Tryd.ntmps44
    go_wp2_with fail
    rw [HV.out]
    refine (CN.out _).mono ?_
    rintro e w1 ⟨rfl, rfl⟩
    go_wp2_with (refine wpList_store_row (x := .tmp 4) (y := .tmp 9) (cells := Z32) (old := Z32) (t := 28) (ty := 28) (g := n + 1) ?_ ?_ ?_ ?_ rV iZ rfl oZ ?_; rfl; rfl; rfl; rfl)
    have hload := run_loadVar_row (P := Tryd.prog) _ (n + 1) 28 28 Z32 (0, 0) _ rW und28 rfl iZ
    refine bodyPost_ret (v := .tuple #[.agg Z32, .int .i64 1]) (by simp [results, Tryd.results44, asAddr, hload]) rfl ⟨rfl, ?_⟩
    rw [HN.out]
    exact kW.below
  · have hr : 0 ≤ i ∧ i < 65536 := by simpa [isN] using hN
    obtain ⟨x, rfl⟩ := Int.eq_ofNat_of_zero_le hr.1
    have e1 : mkH F (x : Int) = walkH F x 16 := by unfold mkH; rw [hN]; rfl
    have e2 : mkE (x : Int) = 0 := by unfold mkE; rw [hN]; rfl
    rw [e1, e2]
    rw [hN] at CN
    have cc := fun v => rwalk_any F x 16 v hF (by omega) (by decide)
    have iD := r8_info (walkH F x 16); have zD := r8_zero (walkH F x 16); have oD := r8_one (walkH F x 16)
    generalize r8 32 (walkH F x 16) = D at *
    generalize r8 32 F = C at *
    have CC := Lib.hid cc
    obtain ⟨V, hV⟩ : ∃ V, (w.alloc (.cells C 28)).alloc (.cells #[.int .u8 0, .int .u8 0, .int .u8 0, .int .u8 0, .int .u8 0, .int .u8 0, .int .u8 0, .int .u8 0, .int .u8 0, .int .u8 0, .int .u8 0, .int .u8 0, .int .u8 0, .int .u8 0, .int .u8 0, .int .u8 0, .int .u8 0, .int .u8 0, .int .u8 0, .int .u8 0, .int .u8 0, .int .u8 0, .int .u8 0, .int .u8 0, .int .u8 0, .int .u8 0, .int .u8 0, .int .u8 0, .int .u8 0, .int .u8 0, .int .u8 0, .int .u8 0] 28) = V := ⟨_, rfl⟩
    have kV : KB n w [(n + 1, 28, Z32), (n, 28, C)] V := hV ▸ kb
    have rC := kV.row n 28 C (by simp)
    have HV := Lib.hid hV
    clear kb cn hV hN e1 e2 cc hr
    go_enter Tryd.func44, Tryd.ntmps44
    go_wp2_with fail
    rw [HV.out]
    refine (CN.out _).mono ?_
    rintro e w1 ⟨rfl, rfl⟩
    go_wp2_with (first
      | (refine wpList_load_row (x := .tmp 2) (ty := 28) (g := n) (cs := C) (t := 28) (fr := (0, 0)) ?_ ?_ ?_ _ rC und28 rfl iF ?_; rfl; rfl; rfl)
      | fail)
    refine (CC.out _).mono ?_
    rintro e w2 ⟨rfl, gq⟩
    have k2 := kV.same gq
    have r2 := k2.row (n + 1) 28 Z32 (by simp)
    have kW := k2.setRow (fun x hx => by simp at hx; subst hx; show n ≠ n + 1; omega) (by omega) D
    have rW := kW.row (n + 1) 28 D (by simp)
    clear gq kV rC k2
    go_wp2_with (refine wpList_store_row (x := .tmp 4) (y := .tmp 12) (cells := D) (old := Z32) (t := 28) (ty := 28) (g := n + 1) ?_ ?_ ?_ ?_ r2 iD zD oD ?_; rfl; rfl; rfl; rfl)
    have hload := run_loadVar_row (P := Tryd.prog) _ (n + 1) 28 28 D (0, 0) _ rW und28 rfl iD
    refine bodyPost_ret (v := .tuple #[.agg D, .int .i64 0]) (by simp [results, Tryd.results44, asAddr, hload]) rfl ⟨rfl, ?_⟩
    rw [HN.out]
    exact kW.below

set_option maxRecDepth 100000 in
theorem rplace_any (i : Int) (w : World) : Calls Tryd.prog 46 #[.int .i64 i] w fun e w' => e = .returned (.int .i64 (place i)) ∧ w = w' := by
  have cn := fun v => number_any i v
  cases hN : isN i
  · have hp : place i = 0 := by unfold place; rw [hN]; rfl
    rw [hp]
    rw [hN] at cn
    have CN := Lib.hid cn
    clear cn hN hp
    go_enter Tryd.func46, Tryd.ntmps46
    go_wp2_with fail
    refine (CN.out _).mono ?_
    rintro e w1 ⟨rfl, rfl⟩
    go_wp2
    go_ret
    exact ⟨rfl, rfl⟩
  · have hr : 0 ≤ i ∧ i < 65536 := by simpa [isN] using hN
    obtain ⟨x, rfl⟩ := Int.eq_ofNat_of_zero_le hr.1
    have hx : x < 65536 := by omega
    have hp : place (x : Int) = Sc.pl x := by unfold place; rw [hN]; rfl
    rw [hp]
    rw [hN] at cn
    have CN := Lib.hid cn
    have cb := fun b v hb => bit_any x b v hx hb
    have CB := Lib.hid cb
    have hu := fun p h1 h2 h3 => pl_uniq (x := x) (p := p) hx h1 h2 h3
    have HU := Lib.hid hu
    clear cn hN hp hr cb hu
    go_enter Tryd.func46, Tryd.ntmps46
    go_wp2_with fail
    refine (CN.out _).mono ?_
    rintro e w1 ⟨rfl, rfl⟩
    go_wp2
    go_loop [3] (fun t => ∃ k : Nat, k ≤ 16 ∧ t = .int .i64 k ∧ Hid (∀ b, b < k → x / 2 ^ b % 2 = 0)) (fun t => 16 - (intOf t).toNat)
    case atStart => exact ⟨0, by omega, rfl, fun b hb => absurd hb (by omega)⟩
    case round =>
      obtain ⟨k, hk, rfl, hz⟩ := hrel
      by_cases hlt : k < 16
      · have hb := CB.out k w hk
        by_cases hbit : x / 2 ^ k % 2 = 1
        · have hbt : bitB x k = true := by unfold bitB; simpa using hbit
          rw [hbt] at hb
          have HBB := Lib.hid hb; have HBIT := Lib.hid hbit
          clear hb hbt hbit
          go_wp2_with fail
          refine (HBB.out).mono ?_
          rintro e w1 ⟨rfl, rfl⟩
          go_wp2
          go_ret
          exact ⟨ret_int (by rw [HU.out k hk hz (.inr HBIT.out)]), rfl⟩
        · have hbt : bitB x k = false := by unfold bitB; simpa using hbit
          rw [hbt] at hb
          have HBB := Lib.hid hb; have HBIT := Lib.hid hbit
          clear hb hbt hbit
          go_wp2_with fail
          refine (HBB.out).mono ?_
          rintro e w1 ⟨rfl, rfl⟩
          go_wp2
          go_round
          case rel => exact ⟨k + 1, by omega, by go_num, fun b hb => by
            by_cases e : b = k
            · subst e; have := HBIT.out; omega
            · exact hz b (by omega)⟩
          case measure => simp [intOf]; omega
      · obtain rfl : k = 16 := by omega
        go_wp2
        go_ret
        exact ⟨ret_int (by rw [← HU.out 16 hk hz (.inl rfl)]; rfl), rfl⟩

set_option maxRecDepth 100000 in
theorem rcan_any (a b : Int) (w : World) : Calls Tryd.prog 47 #[.int .i64 a, .int .i64 b] w fun e w' => e = .returned (.bool (can a b)) ∧ w = w' := by
  have ca := fun v => number_any a v
  have cb := fun v => number_any b v
  have cp := fun v => rplace_any a v
  cases hA : isN a
  · have hc : can a b = false := by unfold can; rw [hA]; rfl
    rw [hc]
    rw [hA] at ca
    have CA := Lib.hid ca
    clear ca cb cp hA hc
    go_enter Tryd.func47, Tryd.ntmps47
    go_wp2_with fail
    refine (CA.out _).mono ?_
    rintro e w1 ⟨rfl, rfl⟩
    go_wp2
    go_ret
    exact ⟨rfl, rfl⟩
  · cases hB : isN b
    · have hc : can a b = false := by unfold can; rw [hA, hB]; rfl
      rw [hc]
      rw [hA] at ca
      rw [hB] at cb
      have CA := Lib.hid ca; have CB := Lib.hid cb
      clear ca cb cp hA hB hc
      go_enter Tryd.func47, Tryd.ntmps47
      go_wp2_with fail
      refine (CA.out _).mono ?_
      rintro e w1 ⟨rfl, rfl⟩
      go_wp2_with fail
      refine (CB.out _).mono ?_
      rintro e w1 ⟨rfl, rfl⟩
      go_wp2
      go_ret
      exact ⟨rfl, rfl⟩
    · have ra : 0 ≤ a ∧ a < 65536 := by simpa [isN] using hA
      have rb : 0 ≤ b ∧ b < 65536 := by simpa [isN] using hB
      obtain ⟨x, rfl⟩ := Int.eq_ofNat_of_zero_le ra.1
      obtain ⟨y, rfl⟩ := Int.eq_ofNat_of_zero_le rb.1
      have hx : x < 65536 := by omega
      have hy : y < 65536 := by omega
      have hp : place (x : Int) = Sc.pl x := by unfold place; rw [hA]; rfl
      have hple := Sc.pl_le x
      rw [hp] at cp
      rw [hA] at ca
      rw [hB] at cb
      have hcan := can_iff hx hy
      have hyes : ∀ (k : Nat), Sc.pl x ≤ k → k < 16 → ¬ x / 2 ^ k % 2 = y / 2 ^ k % 2 → can (x : Int) (y : Int) = false := fun k h1 h2 h3 => by
        rw [← Bool.not_eq_true]
        exact fun h => h3 (eq_bits (hcan.1 h) k h1)
      have hall : (∀ k, Sc.pl x ≤ k → k < 16 → x / 2 ^ k % 2 = y / 2 ^ k % 2) → can (x : Int) (y : Int) = true := fun h => hcan.2 (bits_eq hx hy (16 - Sc.pl x) (Sc.pl x) (by omega) h)
      have bx := fun k v hk => bit_any x k v hx hk
      have by' := fun k v hk => bit_any y k v hy hk
      generalize Sc.pl x = p at *
      have CA := Lib.hid ca; have CB := Lib.hid cb; have CP := Lib.hid cp; have HY := Lib.hid hyes; have HA := Lib.hid hall; have BX := Lib.hid bx; have BY := Lib.hid by'
      clear ca cb cp hA hB hcan hyes hall bx by' ra rb hp hx hy
      go_enter Tryd.func47, Tryd.ntmps47
      go_wp2_with fail
      refine (CA.out _).mono ?_
      rintro e w1 ⟨rfl, rfl⟩
      go_wp2_with fail
      refine (CB.out _).mono ?_
      rintro e w1 ⟨rfl, rfl⟩
      go_wp2_with fail
      refine (CP.out _).mono ?_
      rintro e w1 ⟨rfl, rfl⟩
      go_wp2
      go_loop [5] (fun t => ∃ k : Nat, p ≤ k ∧ k ≤ 16 ∧ t = .int .i64 k ∧ Hid (∀ j, p ≤ j → j < k → x / 2 ^ j % 2 = y / 2 ^ j % 2)) (fun t => 16 - (intOf t).toNat)
      case atStart => exact ⟨p, by omega, hple, rfl, fun j h1 h2 => absurd h2 (by omega)⟩
      case round =>
        obtain ⟨k, hpk, hk, rfl, hz⟩ := hrel
        by_cases hlt : k < 16
        · have h1 := BX.out k w hk
          have h2 := BY.out k w hk
          obtain ⟨u, hu⟩ : ∃ u, bitB x k = u := ⟨_, rfl⟩
          obtain ⟨v, hv⟩ : ∃ v, bitB y k = v := ⟨_, rfl⟩
          rw [hu] at h1
          rw [hv] at h2
          have H1 := Lib.hid h1; have H2 := Lib.hid h2
          clear h1 h2
          by_cases huv : u = v
          · subst huv
            have e : x / 2 ^ k % 2 = y / 2 ^ k % 2 := by
              rw [← hv] at hu
              unfold bitB at hu
              have := decide_eq_decide.1 hu
              omega
            have HE := Lib.hid e
            have hne : (u != u) = false := by simp
            clear hu hv e
            go_wp2_with fail
            refine (H1.out).mono ?_
            rintro e w1 ⟨rfl, rfl⟩
            go_wp2_with fail
            refine (H2.out).mono ?_
            rintro e w1 ⟨rfl, rfl⟩
            go_wp2
            go_round
            case rel => exact ⟨k + 1, by omega, by omega, by go_num, fun j h1 h2 => by
              by_cases e : j = k
              · subst e; exact HE.out
              · exact hz j h1 (by omega)⟩
            case measure => simp [intOf]; omega
          · have e : ¬ x / 2 ^ k % 2 = y / 2 ^ k % 2 := fun e => huv (by rw [← hu, ← hv]; unfold bitB; rw [e])
            have HE := Lib.hid e
            clear hu hv e
            cases u <;> cases v
            · exact absurd rfl huv
            all_goals first
              | exact absurd rfl huv
              | (clear huv
                 go_wp2_with fail
                 refine (H1.out).mono ?_
                 rintro e w1 ⟨rfl, rfl⟩
                 go_wp2_with fail
                 refine (H2.out).mono ?_
                 rintro e w1 ⟨rfl, rfl⟩
                 go_wp2
                 go_ret
                 exact ⟨ret_bool (HY.out k hpk hlt HE.out).symm, rfl⟩)
        · obtain rfl : k = 16 := by omega
          have hf := HA.out (fun j h1 h2 => hz j h1 h2)
          have HF := Lib.hid hf
          clear hf
          go_wp2
          go_ret
          exact ⟨ret_bool (by rw [HF.out]), rfl⟩

set_option maxRecDepth 100000 in
set_option maxHeartbeats 4000000 in
theorem derive_any (F : Nat → Nat) (a b : Int) (w : World) (ht : Tabs w) (hz : TzT w) (hF : ∀ j, F j < 256) :
    Calls Tryd.prog 43 #[.agg (r8 32 F), .int .i64 a, .int .i64 b] w fun e w' => e = .returned (.tuple #[.agg (r8 32 (drH F a b)), .int .i64 (drE a b)]) ∧ Below w.heap.size w w' := by
  obtain ⟨n, hn⟩ : ∃ n, w.heap.size = n := ⟨_, rfl⟩
  have HN := Lib.hid hn
  have h1n : 1 < n := hn ▸ ht.lt
  have h3n : 3 < n := hn ▸ hz.lt
  have canB := fun v (hb : Below n w v) => (can_any a b v (hz.below hb h3n)).mono (R' := fun e w' => e = .returned (.bool (can a b)) ∧ Below v.heap.size v w') (fun e w' ⟨he, m, hm⟩ => ⟨he, by rw [hm]; exact M.below_drewN (Below.refl _ _) m⟩)
  have kb := ((KB.start w).new 28 (r8 32 F)).new 28 Z32
  rw [World.size_alloc, hn] at kb
  have iF := r8_info F
  have cn := canB
  have CN := Lib.hid cn
  cases hN : can a b
  · have e1 : r8 32 (drH F a b) = Z32 := by unfold drH; rw [hN]; exact z32_r8
    have e2 : drE a b = 1 := by unfold drE; rw [hN]; rfl
    rw [e1, e2]
    rw [hN] at CN
    have iZ := r8_info (fun _ => 0)
    rw [z32_r8] at iZ
    have oZ : Z32.all (·.oneCell') = true := by kernel_rfl
    generalize r8 32 F = C at *
    obtain ⟨V, hV⟩ : ∃ V, (w.alloc (.cells C 28)).alloc (.cells #[.int .u8 0, .int .u8 0, .int .u8 0, .int .u8 0, .int .u8 0, .int .u8 0, .int .u8 0, .int .u8 0, .int .u8 0, .int .u8 0, .int .u8 0, .int .u8 0, .int .u8 0, .int .u8 0, .int .u8 0, .int .u8 0, .int .u8 0, .int .u8 0, .int .u8 0, .int .u8 0, .int .u8 0, .int .u8 0, .int .u8 0, .int .u8 0, .int .u8 0, .int .u8 0, .int .u8 0, .int .u8 0, .int .u8 0, .int .u8 0, .int .u8 0, .int .u8 0] 28) = V := ⟨_, rfl⟩
    have kV : KB n w [(n + 1, 28, Z32), (n, 28, C)] V := hV ▸ kb
    have HV := Lib.hid hV
    clear kb cn hV hN e1 e2 ht hz h1n h3n canB
    go_enter Tryd.func43, Tryd.ntmps43
    go_wp2_with fail
    rw [HV.out]
    refine (CN.out _ kV.below).mono ?_
    rintro e w1 ⟨rfl, gq⟩
    have k1 := kV.same gq
    have rV := k1.row (n + 1) 28 Z32 (by simp)
    have kW := k1.setRow (fun x hx => by simp at hx; subst hx; show n ≠ n + 1; omega) (by omega) Z32
    have rW := kW.row (n + 1) 28 Z32 (by simp)
    clear gq kV k1
    go_wp2_with (refine wpList_store_row (x := .tmp 6) (y := .tmp 12) (cells := Z32) (old := Z32) (t := 28) (ty := 28) (g := n + 1) ?_ ?_ ?_ ?_ rV iZ rfl oZ ?_; rfl; rfl; rfl; rfl)
    have hload := run_loadVar_row (P := Tryd.prog) _ (n + 1) 28 28 Z32 (0, 0) _ rW und28 rfl iZ
    refine bodyPost_ret (v := .tuple #[.agg Z32, .int .i64 1]) (by simp [results, Tryd.results43, asAddr, hload]) rfl ⟨rfl, ?_⟩
    rw [HN.out]
    exact kW.below
  · obtain ⟨x, y, rfl, rfl, hx, hy⟩ := can_lt hN
    have e1 : drH F (x : Int) (y : Int) = walkH F y (place (x : Int)) := by unfold drH; rw [hN]; rfl
    have e2 : drE (x : Int) (y : Int) = 0 := by unfold drE; rw [hN]; rfl
    rw [e1, e2]
    rw [hN] at CN
    have hpl := place_le (x : Int)
    have cp := fun v (hb : Below n w v) => (place_any (x : Int) v (hz.below hb h3n)).mono (R' := fun e w' => e = .returned (.int .i64 (place (x : Int))) ∧ Below v.heap.size v w') (fun e w' ⟨he, hm⟩ => ⟨he, by rw [← hm]; exact Below.refl _ _⟩)
    have cc := fun v (hb : Below n w v) => chain_any F y (place (x : Int)) v (ht.below hb h1n) hF hy hpl
    generalize place (x : Int) = p at *
    have iD := r8_info (walkH F y p); have zD := r8_zero (walkH F y p); have oD := r8_one (walkH F y p)
    generalize r8 32 (walkH F y p) = D at *
    generalize r8 32 F = C at *
    have CC := Lib.hid cc; have CP := Lib.hid cp
    obtain ⟨V, hV⟩ : ∃ V, (w.alloc (.cells C 28)).alloc (.cells #[.int .u8 0, .int .u8 0, .int .u8 0, .int .u8 0, .int .u8 0, .int .u8 0, .int .u8 0, .int .u8 0, .int .u8 0, .int .u8 0, .int .u8 0, .int .u8 0, .int .u8 0, .int .u8 0, .int .u8 0, .int .u8 0, .int .u8 0, .int .u8 0, .int .u8 0, .int .u8 0, .int .u8 0, .int .u8 0, .int .u8 0, .int .u8 0, .int .u8 0, .int .u8 0, .int .u8 0, .int .u8 0, .int .u8 0, .int .u8 0, .int .u8 0, .int .u8 0] 28) = V := ⟨_, rfl⟩
    have kV : KB n w [(n + 1, 28, Z32), (n, 28, C)] V := hV ▸ kb
    have HV := Lib.hid hV
    clear kb cn hV hN e1 e2 cc cp ht hz h1n h3n canB
    go_enter Tryd.func43, Tryd.ntmps43
    go_wp2_with fail
    rw [HV.out]
    refine (CN.out _ kV.below).mono ?_
    rintro e w1 ⟨rfl, gq⟩
    have k1 := kV.same gq
    clear gq kV
    go_wp2_with fail
    clear hn
    refine QT.wp_region_p 5 (KB n w [(n + 1, 28, Z32), (n, 28, C)]) (KB n w [(n + 1, 28, D), (n, 28, C)]) (by kernel_rfl) (by kernel_rfl) k1.drew ?_
    iterate 7
      (refine QT.wpQ_step (fun K hK => ?_)
       go_simp
       first
         | (refine hK _ ?_; clear hK K)
         | (refine ⟨?_, hK _ ?_⟩; decide; clear hK K)
         | ((first | (apply Exists.intro; refine ⟨?_, hK _ ?_⟩) | refine ⟨⟨undef, ?_⟩, hK _ ?_⟩)
            first
              | (apply QT.al_p; decide; (focus (intro wq hq; (skip); first | (first | ((with_reducible refine QP.oat_load_row (ty := 28) (x := .tmp 3) (g := n) (t := 28) (cs := C) (fr := (0, 0)) ?_ ?_ _ (hq.row n 28 C (by simp)) und28 ?_ iF hq); rfl; rfl; rfl) | ((with_reducible refine QP.oat_store_row (ty := 28) (x := .tmp 6) (y := .tmp 17) (g := n + 1) (cells := D) (t := 28) (old := Z32) ?_ ?_ ?_ (hq.row (n + 1) 28 Z32 (by simp)) iD zD oD (hq.setRow (fun x hx => by simp at hx; subst hx; show n ≠ n + 1; omega) (by omega) D)); rfl; rfl; rfl)) | (unfold QP.oat; go_simp; first | done | exact ⟨by assumption, rfl⟩ | exact rfl | assumption | (first | ((with_reducible refine (CP.out _ hq.below).mono ?_); rintro e w' ⟨rfl, gq⟩; exact ⟨rfl, hq.same gq⟩) | ((with_reducible refine (CC.out _ hq.below).mono ?_); rintro e w' ⟨rfl, gq⟩; exact ⟨rfl, hq.same gq⟩))))))
              | (apply QT.al_dep; decide; decide; (focus (intro wq hq; (skip); first | (first | ((with_reducible refine QP.oat_load_row (ty := 28) (x := .tmp 3) (g := n) (t := 28) (cs := C) (fr := (0, 0)) ?_ ?_ _ (hq.row n 28 C (by simp)) und28 ?_ iF hq); rfl; rfl; rfl) | ((with_reducible refine QP.oat_store_row (ty := 28) (x := .tmp 6) (y := .tmp 17) (g := n + 1) (cells := D) (t := 28) (old := Z32) ?_ ?_ ?_ (hq.row (n + 1) 28 Z32 (by simp)) iD zD oD (hq.setRow (fun x hx => by simp at hx; subst hx; show n ≠ n + 1; omega) (by omega) D)); rfl; rfl; rfl)) | (unfold QP.oat; go_simp; first | done | exact ⟨by assumption, rfl⟩ | exact rfl | assumption | (first | ((with_reducible refine (CP.out _ hq.below).mono ?_); rintro e w' ⟨rfl, gq⟩; exact ⟨rfl, hq.same gq⟩) | ((with_reducible refine (CC.out _ hq.below).mono ?_); rintro e w' ⟨rfl, gq⟩; exact ⟨rfl, hq.same gq⟩))))))
              | (apply QT.al_bef; decide; decide; (focus (intro wq hq; (skip); first | (first | ((with_reducible refine QP.oat_load_row (ty := 28) (x := .tmp 3) (g := n) (t := 28) (cs := C) (fr := (0, 0)) ?_ ?_ _ (hq.row n 28 C (by simp)) und28 ?_ iF hq); rfl; rfl; rfl) | ((with_reducible refine QP.oat_store_row (ty := 28) (x := .tmp 6) (y := .tmp 17) (g := n + 1) (cells := D) (t := 28) (old := Z32) ?_ ?_ ?_ (hq.row (n + 1) 28 Z32 (by simp)) iD zD oD (hq.setRow (fun x hx => by simp at hx; subst hx; show n ≠ n + 1; omega) (by omega) D)); rfl; rfl; rfl)) | (unfold QP.oat; go_simp; first | done | exact ⟨by assumption, rfl⟩ | exact rfl | assumption | (first | ((with_reducible refine (CP.out _ hq.below).mono ?_); rintro e w' ⟨rfl, gq⟩; exact ⟨rfl, hq.same gq⟩) | ((with_reducible refine (CC.out _ hq.below).mono ?_); rintro e w' ⟨rfl, gq⟩; exact ⟨rfl, hq.same gq⟩))))))
              | (apply QT.al_ok; decide; (focus (intro wq hq; (skip); first | (first | ((with_reducible refine QP.oat_load_row (ty := 28) (x := .tmp 3) (g := n) (t := 28) (cs := C) (fr := (0, 0)) ?_ ?_ _ (hq.row n 28 C (by simp)) und28 ?_ iF hq); rfl; rfl; rfl) | ((with_reducible refine QP.oat_store_row (ty := 28) (x := .tmp 6) (y := .tmp 17) (g := n + 1) (cells := D) (t := 28) (old := Z32) ?_ ?_ ?_ (hq.row (n + 1) 28 Z32 (by simp)) iD zD oD (hq.setRow (fun x hx => by simp at hx; subst hx; show n ≠ n + 1; omega) (by omega) D)); rfl; rfl; rfl)) | (unfold QP.oat; go_simp; first | done | exact ⟨by assumption, rfl⟩ | exact rfl | assumption | (first | ((with_reducible refine (CP.out _ hq.below).mono ?_); rintro e w' ⟨rfl, gq⟩; exact ⟨rfl, hq.same gq⟩) | ((with_reducible refine (CC.out _ hq.below).mono ?_); rintro e w' ⟨rfl, gq⟩; exact ⟨rfl, hq.same gq⟩))))); (focus (intro wq hq; (skip); first | (first | ((with_reducible refine QP.oat_load_row (ty := 28) (x := .tmp 3) (g := n) (t := 28) (cs := C) (fr := (0, 0)) ?_ ?_ _ (hq.row n 28 C (by simp)) und28 ?_ iF hq); rfl; rfl; rfl) | ((with_reducible refine QP.oat_store_row (ty := 28) (x := .tmp 6) (y := .tmp 17) (g := n + 1) (cells := D) (t := 28) (old := Z32) ?_ ?_ ?_ (hq.row (n + 1) 28 Z32 (by simp)) iD zD oD (hq.setRow (fun x hx => by simp at hx; subst hx; show n ≠ n + 1; omega) (by omega) D)); rfl; rfl; rfl)) | (unfold QP.oat; go_simp; first | done | exact ⟨by assumption, rfl⟩ | exact rfl | assumption | (first | ((with_reducible refine (CP.out _ hq.below).mono ?_); rintro e w' ⟨rfl, gq⟩; exact ⟨rfl, hq.same gq⟩) | ((with_reducible refine (CC.out _ hq.below).mono ?_); rintro e w' ⟨rfl, gq⟩; exact ⟨rfl, hq.same gq⟩))))))
            clear hK K))
    refine QT.wpQ_nil ?_
    intro wz bz
    have rW := bz.row (n + 1) 28 D (by simp)
    go_wp2
    have hload := run_loadVar_row (P := Tryd.prog) _ (n + 1) 28 28 D (0, 0) _ rW und28 rfl iD
    refine bodyPost_ret (v := .tuple #[.agg D, .int .i64 0]) (by simp [results, Tryd.results43, asAddr, hload]) rfl ⟨rfl, ?_⟩
    rw [HN.out]
    exact bz.below

set_option maxRecDepth 100000 in
set_option maxHeartbeats 4000000 in
theorem rderive_any (F : Nat → Nat) (a b : Int) (w : World) (hF : ∀ j, F j < 256) :
    Calls Tryd.prog 45 #[.agg (r8 32 F), .int .i64 a, .int .i64 b] w fun e w' => e = .returned (.tuple #[.agg (r8 32 (drH F a b)), .int .i64 (drE a b)]) ∧ Below w.heap.size w w' := by
  obtain ⟨n, hn⟩ : ∃ n, w.heap.size = n := ⟨_, rfl⟩
  have HN := Lib.hid hn
  have kb := ((KB.start w).new 28 (r8 32 F)).new 28 Z32
  rw [World.size_alloc, hn] at kb
  have iF := r8_info F
  have cn := fun v => (rcan_any a b v).mono (R' := fun e w' => e = .returned (.bool (can a b)) ∧ Below v.heap.size v w') (fun e w' ⟨he, hm⟩ => ⟨he, by rw [← hm]; exact Below.refl _ _⟩)
  have CN := Lib.hid cn
  cases hN : can a b
  · have e1 : r8 32 (drH F a b) = Z32 := by unfold drH; rw [hN]; exact z32_r8
    have e2 : drE a b = 1 := by unfold drE; rw [hN]; rfl
    rw [e1, e2]
    rw [hN] at CN
    have iZ := r8_info (fun _ => 0)
    rw [z32_r8] at iZ
    have oZ : Z32.all (·.oneCell') = true := by kernel_rfl
    generalize r8 32 F = C at *
    obtain ⟨V, hV⟩ : ∃ V, (w.alloc (.cells C 28)).alloc (.cells #[.int .u8 0, .int .u8 0, .int .u8 0, .int .u8 0, .int .u8 0, .int .u8 0, .int .u8 0, .int .u8 0, .int .u8 0, .int .u8 0, .int .u8 0, .int .u8 0, .int .u8 0, .int .u8 0, .int .u8 0, .int .u8 0, .int .u8 0, .int .u8 0, .int .u8 0, .int .u8 0, .int .u8 0, .int .u8 0, .int .u8 0, .int .u8 0, .int .u8 0, .int .u8 0, .int .u8 0, .int .u8 0, .int .u8 0, .int .u8 0, .int .u8 0, .int .u8 0] 28) = V := ⟨_, rfl⟩
    have kV : KB n w [(n + 1, 28, Z32), (n, 28, C)] V := hV ▸ kb
    have HV := Lib.hid hV
    clear kb cn hV hN e1 e2
    go_enter Tryd.func45, Tryd.ntmps45
    go_wp2_with fail
    rw [HV.out]
    refine (CN.out _).mono ?_
    rintro e w1 ⟨rfl, gq⟩
    have k1 := kV.same gq
    have rV := k1.row (n + 1) 28 Z32 (by simp)
    have kW := k1.setRow (fun x hx => by simp at hx; subst hx; show n ≠ n + 1; omega) (by omega) Z32
    have rW := kW.row (n + 1) 28 Z32 (by simp)
    clear gq kV k1
    go_wp2_with (refine wpList_store_row (x := .tmp 6) (y := .tmp 12) (cells := Z32) (old := Z32) (t := 28) (ty := 28) (g := n + 1) ?_ ?_ ?_ ?_ rV iZ rfl oZ ?_; rfl; rfl; rfl; rfl)
    have hload := run_loadVar_row (P := Tryd.prog) _ (n + 1) 28 28 Z32 (0, 0) _ rW und28 rfl iZ
    refine bodyPost_ret (v := .tuple #[.agg Z32, .int .i64 1]) (by simp [results, Tryd.results45, asAddr, hload]) rfl ⟨rfl, ?_⟩
    rw [HN.out]
    exact kW.below
  · obtain ⟨x, y, rfl, rfl, hx, hy⟩ := can_lt hN
    have e1 : drH F (x : Int) (y : Int) = walkH F y (place (x : Int)) := by unfold drH; rw [hN]; rfl
    have e2 : drE (x : Int) (y : Int) = 0 := by unfold drE; rw [hN]; rfl
    rw [e1, e2]
    rw [hN] at CN
    have hpl := place_le (x : Int)
    have cp := fun v => (rplace_any (x : Int) v).mono (R' := fun e w' => e = .returned (.int .i64 (place (x : Int))) ∧ Below v.heap.size v w') (fun e w' ⟨he, hm⟩ => ⟨he, by rw [← hm]; exact Below.refl _ _⟩)
    have cc := fun v => rwalk_any F y (place (x : Int)) v hF hy hpl
    generalize place (x : Int) = p at *
    have iD := r8_info (walkH F y p); have zD := r8_zero (walkH F y p); have oD := r8_one (walkH F y p)
    generalize r8 32 (walkH F y p) = D at *
    generalize r8 32 F = C at *
    have CC := Lib.hid cc; have CP := Lib.hid cp
    obtain ⟨V, hV⟩ : ∃ V, (w.alloc (.cells C 28)).alloc (.cells #[.int .u8 0, .int .u8 0, .int .u8 0, .int .u8 0, .int .u8 0, .int .u8 0, .int .u8 0, .int .u8 0, .int .u8 0, .int .u8 0, .int .u8 0, .int .u8 0, .int .u8 0, .int .u8 0, .int .u8 0, .int .u8 0, .int .u8 0, .int .u8 0, .int .u8 0, .int .u8 0, .int .u8 0, .int .u8 0, .int .u8 0, .int .u8 0, .int .u8 0, .int .u8 0, .int .u8 0, .int .u8 0, .int .u8 0, .int .u8 0, .int .u8 0, .int .u8 0] 28) = V := ⟨_, rfl⟩
    have kV : KB n w [(n + 1, 28, Z32), (n, 28, C)] V := hV ▸ kb
    have HV := Lib.hid hV
    clear kb cn hV hN e1 e2 cc cp
    go_enter Tryd.func45, Tryd.ntmps45
    go_wp2_with fail
    rw [HV.out]
    refine (CN.out _).mono ?_
    rintro e w1 ⟨rfl, gq⟩
    have k1 := kV.same gq
    clear gq kV
    go_wp2_with fail
    clear hn
    refine QT.wp_region_p 5 (KB n w [(n + 1, 28, Z32), (n, 28, C)]) (KB n w [(n + 1, 28, D), (n, 28, C)]) (by kernel_rfl) (by kernel_rfl) k1.drew ?_
    iterate 7
      (refine QT.wpQ_step (fun K hK => ?_)
       go_simp
       first
         | (refine hK _ ?_; clear hK K)
         | (refine ⟨?_, hK _ ?_⟩; decide; clear hK K)
         | ((first | (apply Exists.intro; refine ⟨?_, hK _ ?_⟩) | refine ⟨⟨undef, ?_⟩, hK _ ?_⟩)
            first
              | (apply QT.al_p; decide; (focus (intro wq hq; (skip); first | (first | ((with_reducible refine QP.oat_load_row (ty := 28) (x := .tmp 3) (g := n) (t := 28) (cs := C) (fr := (0, 0)) ?_ ?_ _ (hq.row n 28 C (by simp)) und28 ?_ iF hq); rfl; rfl; rfl) | ((with_reducible refine QP.oat_store_row (ty := 28) (x := .tmp 6) (y := .tmp 17) (g := n + 1) (cells := D) (t := 28) (old := Z32) ?_ ?_ ?_ (hq.row (n + 1) 28 Z32 (by simp)) iD zD oD (hq.setRow (fun x hx => by simp at hx; subst hx; show n ≠ n + 1; omega) (by omega) D)); rfl; rfl; rfl)) | (unfold QP.oat; go_simp; first | done | exact ⟨by assumption, rfl⟩ | exact rfl | assumption | (first | ((with_reducible refine (CP.out _).mono ?_); rintro e w' ⟨rfl, gq⟩; exact ⟨rfl, hq.same gq⟩) | ((with_reducible refine (CC.out _).mono ?_); rintro e w' ⟨rfl, gq⟩; exact ⟨rfl, hq.same gq⟩))))))
              | (apply QT.al_dep; decide; decide; (focus (intro wq hq; (skip); first | (first | ((with_reducible refine QP.oat_load_row (ty := 28) (x := .tmp 3) (g := n) (t := 28) (cs := C) (fr := (0, 0)) ?_ ?_ _ (hq.row n 28 C (by simp)) und28 ?_ iF hq); rfl; rfl; rfl) | ((with_reducible refine QP.oat_store_row (ty := 28) (x := .tmp 6) (y := .tmp 17) (g := n + 1) (cells := D) (t := 28) (old := Z32) ?_ ?_ ?_ (hq.row (n + 1) 28 Z32 (by simp)) iD zD oD (hq.setRow (fun x hx => by simp at hx; subst hx; show n ≠ n + 1; omega) (by omega) D)); rfl; rfl; rfl)) | (unfold QP.oat; go_simp; first | done | exact ⟨by assumption, rfl⟩ | exact rfl | assumption | (first | ((with_reducible refine (CP.out _).mono ?_); rintro e w' ⟨rfl, gq⟩; exact ⟨rfl, hq.same gq⟩) | ((with_reducible refine (CC.out _).mono ?_); rintro e w' ⟨rfl, gq⟩; exact ⟨rfl, hq.same gq⟩))))))
              | (apply QT.al_bef; decide; decide; (focus (intro wq hq; (skip); first | (first | ((with_reducible refine QP.oat_load_row (ty := 28) (x := .tmp 3) (g := n) (t := 28) (cs := C) (fr := (0, 0)) ?_ ?_ _ (hq.row n 28 C (by simp)) und28 ?_ iF hq); rfl; rfl; rfl) | ((with_reducible refine QP.oat_store_row (ty := 28) (x := .tmp 6) (y := .tmp 17) (g := n + 1) (cells := D) (t := 28) (old := Z32) ?_ ?_ ?_ (hq.row (n + 1) 28 Z32 (by simp)) iD zD oD (hq.setRow (fun x hx => by simp at hx; subst hx; show n ≠ n + 1; omega) (by omega) D)); rfl; rfl; rfl)) | (unfold QP.oat; go_simp; first | done | exact ⟨by assumption, rfl⟩ | exact rfl | assumption | (first | ((with_reducible refine (CP.out _).mono ?_); rintro e w' ⟨rfl, gq⟩; exact ⟨rfl, hq.same gq⟩) | ((with_reducible refine (CC.out _).mono ?_); rintro e w' ⟨rfl, gq⟩; exact ⟨rfl, hq.same gq⟩))))))
              | (apply QT.al_ok; decide; (focus (intro wq hq; (skip); first | (first | ((with_reducible refine QP.oat_load_row (ty := 28) (x := .tmp 3) (g := n) (t := 28) (cs := C) (fr := (0, 0)) ?_ ?_ _ (hq.row n 28 C (by simp)) und28 ?_ iF hq); rfl; rfl; rfl) | ((with_reducible refine QP.oat_store_row (ty := 28) (x := .tmp 6) (y := .tmp 17) (g := n + 1) (cells := D) (t := 28) (old := Z32) ?_ ?_ ?_ (hq.row (n + 1) 28 Z32 (by simp)) iD zD oD (hq.setRow (fun x hx => by simp at hx; subst hx; show n ≠ n + 1; omega) (by omega) D)); rfl; rfl; rfl)) | (unfold QP.oat; go_simp; first | done | exact ⟨by assumption, rfl⟩ | exact rfl | assumption | (first | ((with_reducible refine (CP.out _).mono ?_); rintro e w' ⟨rfl, gq⟩; exact ⟨rfl, hq.same gq⟩) | ((with_reducible refine (CC.out _).mono ?_); rintro e w' ⟨rfl, gq⟩; exact ⟨rfl, hq.same gq⟩))))); (focus (intro wq hq; (skip); first | (first | ((with_reducible refine QP.oat_load_row (ty := 28) (x := .tmp 3) (g := n) (t := 28) (cs := C) (fr := (0, 0)) ?_ ?_ _ (hq.row n 28 C (by simp)) und28 ?_ iF hq); rfl; rfl; rfl) | ((with_reducible refine QP.oat_store_row (ty := 28) (x := .tmp 6) (y := .tmp 17) (g := n + 1) (cells := D) (t := 28) (old := Z32) ?_ ?_ ?_ (hq.row (n + 1) 28 Z32 (by simp)) iD zD oD (hq.setRow (fun x hx => by simp at hx; subst hx; show n ≠ n + 1; omega) (by omega) D)); rfl; rfl; rfl)) | (unfold QP.oat; go_simp; first | done | exact ⟨by assumption, rfl⟩ | exact rfl | assumption | (first | ((with_reducible refine (CP.out _).mono ?_); rintro e w' ⟨rfl, gq⟩; exact ⟨rfl, hq.same gq⟩) | ((with_reducible refine (CC.out _).mono ?_); rintro e w' ⟨rfl, gq⟩; exact ⟨rfl, hq.same gq⟩))))))
            clear hK K))
    refine QT.wpQ_nil ?_
    intro wz bz
    have rW := bz.row (n + 1) 28 D (by simp)
    go_wp2
    have hload := run_loadVar_row (P := Tryd.prog) _ (n + 1) 28 28 D (0, 0) _ rW und28 rfl iD
    refine bodyPost_ret (v := .tuple #[.agg D, .int .i64 0]) (by simp [results, Tryd.results45, asAddr, hload]) rfl ⟨rfl, ?_⟩
    rw [HN.out]
    exact bz.below

end Go.Proofs.YtpfcalamchdciaaDoor
