/- The walk of SealTags; the conditions are that the tables are laid and that arrays of bytes hold bytes. -/
import Derived.Test.YtpfcalamchdciaaDoorSeD
import Derived.Test.YtpfcalamchdciaaDoorKB
namespace Go.Proofs.YtpfcalamchdciaaDoor
open Go.RowKit
set_option linter.unusedVariables false

set_option maxRecDepth 100000 in
set_option maxHeartbeats 4000000 in
theorem tags_walk (k s : ByteArray) (P H : Nat → Nat) (w : World) (ht : Tabs w) :
    Calls Tryd.prog 11 #[.string k, .string s, .agg (r8 32 P), .agg (r8 32 H)] w (Fine w) := by
  obtain ⟨n, hn⟩ : ∃ n, w.heap.size = n := ⟨_, rfl⟩
  have HN := Lib.hid hn
  have h1n : 1 < n := hn ▸ ht.lt
  have tb := fun v (hb : Below n w v) => ht.below hb h1n
  have TB := Lib.hid tb
  have sh := fun v (hb : Below n w v) => sshown_any v (tb v hb)
  have SH := Lib.hid sh
  have iP := r8_info P; have iH := r8_info H
  have k0 : KB n w [(n + 1, 28, r8 32 H), (n, 28, r8 32 P)] ((w.alloc (.cells (r8 32 P) 28)).alloc (.cells (r8 32 H) 28)) := by
    have := ((KB.start w).new 28 (r8 32 P)).new 28 (r8 32 H)
    rw [World.size_alloc] at this
    rw [← hn]; exact this
  by_cases hk : 300 < k.size
  · generalize r8 32 P = CP at *
    generalize r8 32 H = CH at *
    obtain ⟨V0, hV⟩ : ∃ V0, (w.alloc (.cells CP 28)).alloc (.cells CH 28) = V0 := ⟨_, rfl⟩
    rw [hV] at k0
    have HV := Lib.hid hV
    have dk : decide ((300 : Int) < k.size) = true := by simp; omega
    have dk2 : (300 : Int) < k.size := by omega
    clear hn hV sh tb ht h1n
    go_enter Tryd.func11, Tryd.ntmps11
    go_wp2_with fail
    rw [HV.out]
    refine (SH.out _ k0.below).mono ?_
    rintro e w' ⟨rfl, gq⟩
    have b1 := (k0.same gq).below
    go_wp2
    go_ret
    exact ⟨rfl, by rw [HN.out]; exact b1⟩
  · by_cases hs : 600 < s.size
    · generalize r8 32 P = CP at *
      generalize r8 32 H = CH at *
      obtain ⟨V0, hV⟩ : ∃ V0, (w.alloc (.cells CP 28)).alloc (.cells CH 28) = V0 := ⟨_, rfl⟩
      rw [hV] at k0
      have HV := Lib.hid hV
      have dk : decide ((300 : Int) < k.size) = false := by simp; omega
      have dk2 : ¬ (300 : Int) < k.size := by omega
      have ds : decide ((600 : Int) < s.size) = true := by simp; omega
      have ds2 : (600 : Int) < s.size := by omega
      clear hn hV sh tb ht h1n
      go_enter Tryd.func11, Tryd.ntmps11
      go_wp2_with fail
      rw [HV.out]
      refine (SH.out _ k0.below).mono ?_
      rintro e w' ⟨rfl, gq⟩
      have b1 := (k0.same gq).below
      go_wp2
      go_ret
      exact ⟨rfl, by rw [HN.out]; exact b1⟩
    · have ct := fun v (hb : Below n w v) => tag_any k s v (tb v hb) (by omega) (by omega)
      have cr := fun v => rtag_any k s v (by omega) (by omega)
      have co := fun v (hb : Below n w v) => of_any P v (tb v hb)
      have cp := fun v => rof_any P v
      have r1 := fun v (hb : Below n w v) => right_any k s (mac k s) v (tb v hb) (by omega) (by omega)
      have r2 := fun v (hb : Below n w v) => right_any k s H v (tb v hb) (by omega) (by omega)
      have o1 := fun v (hb : Below n w v) => opens_any P (ofH P) v (tb v hb)
      have o2 := fun v (hb : Below n w v) => opens_any P H v (tb v hb)
      rw [eqH_self] at r1 o1
      have e1 := fun W => r8_cmp (mac k s) (mac k s) W
      have e2 := fun W => r8_cmp (ofH P) (ofH P) W
      rw [eqH_self] at e1 e2
      have e3 := fun W => r8_cmp H (mac k s) W
      have e4 := fun W => r8_cmp H (ofH P) W
      rw [eqH_comm] at e3 e4
      have iM := r8_info (mac k s); have zM := r8_zero (mac k s); have oM := r8_one (mac k s)
      have iO := r8_info (ofH P); have zO := r8_zero (ofH P); have oO := r8_one (ofH P)
      generalize eqH (mac k s) H = x1 at *
      generalize eqH (ofH P) H = x2 at *
      generalize r8 32 (mac k s) = M at *
      generalize r8 32 (ofH P) = O at *
      generalize r8 32 P = CP at *
      generalize r8 32 H = CH at *
      have CT := Lib.hid ct; have CR := Lib.hid cr; have CO := Lib.hid co; have CP' := Lib.hid cp; have R1 := Lib.hid r1; have R2 := Lib.hid r2; have O1 := Lib.hid o1; have O2 := Lib.hid o2
      have E1 := Lib.hid e1; have E2 := Lib.hid e2; have E3 := Lib.hid e3; have E4 := Lib.hid e4
      have x11 : (x1 == x1) = true := by simp
      have x22 : (x2 == x2) = true := by simp
      obtain ⟨V0, hV⟩ : ∃ V0, (w.alloc (.cells CP 28)).alloc (.cells CH 28) = V0 := ⟨_, rfl⟩
      rw [hV] at k0
      have HV := Lib.hid hV
      have dk : decide ((300 : Int) < k.size) = false := by simp; omega
      have dk2 : ¬ (300 : Int) < k.size := by omega
      have ds : decide ((600 : Int) < s.size) = false := by simp; omega
      have ds2 : ¬ (600 : Int) < s.size := by omega
      clear ct cr co cp r1 r2 o1 o2 e1 e2 e3 e4 hV sh tb ht
      go_enter Tryd.func11, Tryd.ntmps11
      go_wp2_with fail
      rw [HV.out]
      refine (SH.out _ k0.below).mono ?_
      rintro e w1 ⟨rfl, gq⟩
      have k1 := k0.same gq
      clear gq k0
      go_wp2_with fail
      refine (CR.out _).mono ?_
      rintro e w2 ⟨rfl, gq⟩
      have k2 := k1.same gq
      clear gq k1
      obtain ⟨g, VG, UG, hg, hVG, rVG, hUG, k22, geg, ltg⟩ := k2.box 28 #[.int .u8 0, .int .u8 0, .int .u8 0, .int .u8 0, .int .u8 0, .int .u8 0, .int .u8 0, .int .u8 0, .int .u8 0, .int .u8 0, .int .u8 0, .int .u8 0, .int .u8 0, .int .u8 0, .int .u8 0, .int .u8 0, .int .u8 0, .int .u8 0, .int .u8 0, .int .u8 0, .int .u8 0, .int .u8 0, .int .u8 0, .int .u8 0, .int .u8 0, .int .u8 0, .int .u8 0, .int .u8 0, .int .u8 0, .int .u8 0, .int .u8 0, .int .u8 0] (M)
      have Hg := Lib.hid hg; have HVG := Lib.hid hVG; have HUG := Lib.hid hUG
      clear hg hVG hUG k2
      have rP := k22.row n 28 CP (by simp)
      go_wp2_with (first
        | (rw [Hg.out, HVG.out]; refine wpList_store_row (x := .tmp 9) (y := .tmp 26) (cells := M) (old := Z32) (t := 28) (ty := 28) (g := g) ?_ ?_ ?_ ?_ rVG iM zM oM ?_; rfl; rfl; rfl; rfl; rw [HUG.out])
        | (refine wpList_load_row (x := .tmp 6) (ty := 28) (g := n) (cs := CP) (t := 28) (fr := (0, 0)) ?_ ?_ ?_ _ rP u28 rfl iP ?_; rfl; rfl; rfl)
        | fail)
      refine (CP'.out _).mono ?_
      rintro e w3 ⟨rfl, gq⟩
      have k3 := k22.same gq
      clear gq k22 rP rVG Hg HVG HUG
      obtain ⟨m, VM, UM, hm, hVM, rVM, hUM, k32, gem, ltm⟩ := k3.box 28 #[.int .u8 0, .int .u8 0, .int .u8 0, .int .u8 0, .int .u8 0, .int .u8 0, .int .u8 0, .int .u8 0, .int .u8 0, .int .u8 0, .int .u8 0, .int .u8 0, .int .u8 0, .int .u8 0, .int .u8 0, .int .u8 0, .int .u8 0, .int .u8 0, .int .u8 0, .int .u8 0, .int .u8 0, .int .u8 0, .int .u8 0, .int .u8 0, .int .u8 0, .int .u8 0, .int .u8 0, .int .u8 0, .int .u8 0, .int .u8 0, .int .u8 0, .int .u8 0] (O)
      have Hm := Lib.hid hm; have HVM := Lib.hid hVM; have HUM := Lib.hid hUM
      clear hm hVM hUM k3
      go_wp2_with (first
        | (rw [Hm.out, HVM.out]; refine wpList_store_row (x := .tmp 10) (y := .tmp 28) (cells := O) (old := Z32) (t := 28) (ty := 28) (g := m) ?_ ?_ ?_ ?_ rVM iO zO oO ?_; rfl; rfl; rfl; rfl; rw [HUM.out])
        | fail)
      clear rVM Hm HVM HUM
      clear hn h1n
      obtain ⟨L, hL⟩ : ∃ L, [(m, 28, O), (g, 28, M), (n + 1, 28, CH), (n, 28, CP)] = L := ⟨_, rfl⟩
      have mO : (m, 28, O) ∈ L := by rw [← hL]; simp
      have mM : (g, 28, M) ∈ L := by rw [← hL]; simp
      have mH : (n + 1, 28, CH) ∈ L := by rw [← hL]; simp
      have mP : (n, 28, CP) ∈ L := by rw [← hL]; simp
      have k4 : KB n w L UM := by rw [← hL]; exact k32
      clear hL k32 ltg ltm geg gem
      refine QP.wp_region_p 2 (KB n w L) (KB n w L) (by kernel_rfl) (by kernel_rfl) k4.drew ?_
      iterate 42
        (refine QP.wpQ_step (fun K hK => ?_)
         go_simp
         first
           | (refine hK _ ?_; clear hK K)
           | (refine ⟨?_, hK _ ?_⟩; decide; clear hK K)
           | ((first | (apply Exists.intro; refine ⟨?_, hK _ ?_⟩) | refine ⟨⟨undef, ?_⟩, hK _ ?_⟩)
              first
                | (apply QP.al_p; decide; (focus (intro wq hq; (skip); first | (first | ((with_reducible refine oat_eql 28 28 (.tmp 31) (.tmp 32) ?_ M M ?_ ?_ true guard28 (E1.out _) hq); rfl; rfl; rfl) | ((with_reducible refine oat_eql 28 28 (.tmp 45) (.tmp 46) ?_ CH M ?_ ?_ x1 guard28 (E3.out _) hq); rfl; rfl; rfl) | ((with_reducible refine oat_eql 28 28 (.tmp 52) (.tmp 53) ?_ O O ?_ ?_ true guard28 (E2.out _) hq); rfl; rfl; rfl) | ((with_reducible refine oat_eql 28 28 (.tmp 65) (.tmp 66) ?_ CH O ?_ ?_ x2 guard28 (E4.out _) hq); rfl; rfl; rfl) | ((with_reducible refine QP.oat_load_row (ty := 28) (x := .tmp 9) (g := g) (t := 28) (cs := M) (fr := (0, 0)) ?_ ?_ _ (hq.rows _ mM) u28 ?_ iM hq); rfl; rfl; rfl) | ((with_reducible refine QP.oat_load_row (ty := 28) (x := .tmp 10) (g := m) (t := 28) (cs := O) (fr := (0, 0)) ?_ ?_ _ (hq.rows _ mO) u28 ?_ iO hq); rfl; rfl; rfl) | ((with_reducible refine QP.oat_load_row (ty := 28) (x := .tmp 7) (g := n + 1) (t := 28) (cs := CH) (fr := (0, 0)) ?_ ?_ _ (hq.rows _ mH) u28 ?_ iH hq); rfl; rfl; rfl) | ((with_reducible refine QP.oat_load_row (ty := 28) (x := .tmp 6) (g := n) (t := 28) (cs := CP) (fr := (0, 0)) ?_ ?_ _ (hq.rows _ mP) u28 ?_ iP hq); rfl; rfl; rfl)) | (unfold QP.oat; go_simp; first | done | exact ⟨by assumption, rfl⟩ | exact rfl | assumption | (first | ((with_reducible refine (CT.out _ hq.below).mono ?_); rintro e w' ⟨rfl, gq⟩; exact ⟨rfl, hq.same gq⟩) | ((with_reducible refine (R1.out _ hq.below).mono ?_); rintro e w' ⟨rfl, gq⟩; exact ⟨rfl, hq.same gq⟩) | ((with_reducible refine (R2.out _ hq.below).mono ?_); rintro e w' ⟨rfl, gq⟩; exact ⟨rfl, hq.same gq⟩) | ((with_reducible refine (CO.out _ hq.below).mono ?_); rintro e w' ⟨rfl, gq⟩; exact ⟨rfl, hq.same gq⟩) | ((with_reducible refine (O1.out _ hq.below).mono ?_); rintro e w' ⟨rfl, gq⟩; exact ⟨rfl, hq.same gq⟩) | ((with_reducible refine (O2.out _ hq.below).mono ?_); rintro e w' ⟨rfl, gq⟩; exact ⟨rfl, hq.same gq⟩))))))
                | (apply QP.al_dep; decide; decide; (focus (intro wq hq; (skip); first | (first | ((with_reducible refine oat_eql 28 28 (.tmp 31) (.tmp 32) ?_ M M ?_ ?_ true guard28 (E1.out _) hq); rfl; rfl; rfl) | ((with_reducible refine oat_eql 28 28 (.tmp 45) (.tmp 46) ?_ CH M ?_ ?_ x1 guard28 (E3.out _) hq); rfl; rfl; rfl) | ((with_reducible refine oat_eql 28 28 (.tmp 52) (.tmp 53) ?_ O O ?_ ?_ true guard28 (E2.out _) hq); rfl; rfl; rfl) | ((with_reducible refine oat_eql 28 28 (.tmp 65) (.tmp 66) ?_ CH O ?_ ?_ x2 guard28 (E4.out _) hq); rfl; rfl; rfl) | ((with_reducible refine QP.oat_load_row (ty := 28) (x := .tmp 9) (g := g) (t := 28) (cs := M) (fr := (0, 0)) ?_ ?_ _ (hq.rows _ mM) u28 ?_ iM hq); rfl; rfl; rfl) | ((with_reducible refine QP.oat_load_row (ty := 28) (x := .tmp 10) (g := m) (t := 28) (cs := O) (fr := (0, 0)) ?_ ?_ _ (hq.rows _ mO) u28 ?_ iO hq); rfl; rfl; rfl) | ((with_reducible refine QP.oat_load_row (ty := 28) (x := .tmp 7) (g := n + 1) (t := 28) (cs := CH) (fr := (0, 0)) ?_ ?_ _ (hq.rows _ mH) u28 ?_ iH hq); rfl; rfl; rfl) | ((with_reducible refine QP.oat_load_row (ty := 28) (x := .tmp 6) (g := n) (t := 28) (cs := CP) (fr := (0, 0)) ?_ ?_ _ (hq.rows _ mP) u28 ?_ iP hq); rfl; rfl; rfl)) | (unfold QP.oat; go_simp; first | done | exact ⟨by assumption, rfl⟩ | exact rfl | assumption | (first | ((with_reducible refine (CT.out _ hq.below).mono ?_); rintro e w' ⟨rfl, gq⟩; exact ⟨rfl, hq.same gq⟩) | ((with_reducible refine (R1.out _ hq.below).mono ?_); rintro e w' ⟨rfl, gq⟩; exact ⟨rfl, hq.same gq⟩) | ((with_reducible refine (R2.out _ hq.below).mono ?_); rintro e w' ⟨rfl, gq⟩; exact ⟨rfl, hq.same gq⟩) | ((with_reducible refine (CO.out _ hq.below).mono ?_); rintro e w' ⟨rfl, gq⟩; exact ⟨rfl, hq.same gq⟩) | ((with_reducible refine (O1.out _ hq.below).mono ?_); rintro e w' ⟨rfl, gq⟩; exact ⟨rfl, hq.same gq⟩) | ((with_reducible refine (O2.out _ hq.below).mono ?_); rintro e w' ⟨rfl, gq⟩; exact ⟨rfl, hq.same gq⟩))))))
                | (apply QP.al_bef; decide; decide; (focus (intro wq hq; (skip); first | (first | ((with_reducible refine oat_eql 28 28 (.tmp 31) (.tmp 32) ?_ M M ?_ ?_ true guard28 (E1.out _) hq); rfl; rfl; rfl) | ((with_reducible refine oat_eql 28 28 (.tmp 45) (.tmp 46) ?_ CH M ?_ ?_ x1 guard28 (E3.out _) hq); rfl; rfl; rfl) | ((with_reducible refine oat_eql 28 28 (.tmp 52) (.tmp 53) ?_ O O ?_ ?_ true guard28 (E2.out _) hq); rfl; rfl; rfl) | ((with_reducible refine oat_eql 28 28 (.tmp 65) (.tmp 66) ?_ CH O ?_ ?_ x2 guard28 (E4.out _) hq); rfl; rfl; rfl) | ((with_reducible refine QP.oat_load_row (ty := 28) (x := .tmp 9) (g := g) (t := 28) (cs := M) (fr := (0, 0)) ?_ ?_ _ (hq.rows _ mM) u28 ?_ iM hq); rfl; rfl; rfl) | ((with_reducible refine QP.oat_load_row (ty := 28) (x := .tmp 10) (g := m) (t := 28) (cs := O) (fr := (0, 0)) ?_ ?_ _ (hq.rows _ mO) u28 ?_ iO hq); rfl; rfl; rfl) | ((with_reducible refine QP.oat_load_row (ty := 28) (x := .tmp 7) (g := n + 1) (t := 28) (cs := CH) (fr := (0, 0)) ?_ ?_ _ (hq.rows _ mH) u28 ?_ iH hq); rfl; rfl; rfl) | ((with_reducible refine QP.oat_load_row (ty := 28) (x := .tmp 6) (g := n) (t := 28) (cs := CP) (fr := (0, 0)) ?_ ?_ _ (hq.rows _ mP) u28 ?_ iP hq); rfl; rfl; rfl)) | (unfold QP.oat; go_simp; first | done | exact ⟨by assumption, rfl⟩ | exact rfl | assumption | (first | ((with_reducible refine (CT.out _ hq.below).mono ?_); rintro e w' ⟨rfl, gq⟩; exact ⟨rfl, hq.same gq⟩) | ((with_reducible refine (R1.out _ hq.below).mono ?_); rintro e w' ⟨rfl, gq⟩; exact ⟨rfl, hq.same gq⟩) | ((with_reducible refine (R2.out _ hq.below).mono ?_); rintro e w' ⟨rfl, gq⟩; exact ⟨rfl, hq.same gq⟩) | ((with_reducible refine (CO.out _ hq.below).mono ?_); rintro e w' ⟨rfl, gq⟩; exact ⟨rfl, hq.same gq⟩) | ((with_reducible refine (O1.out _ hq.below).mono ?_); rintro e w' ⟨rfl, gq⟩; exact ⟨rfl, hq.same gq⟩) | ((with_reducible refine (O2.out _ hq.below).mono ?_); rintro e w' ⟨rfl, gq⟩; exact ⟨rfl, hq.same gq⟩))))))
                | (apply QP.al_ok; decide; (focus (intro wq hq; (skip); first | (first | ((with_reducible refine oat_eql 28 28 (.tmp 31) (.tmp 32) ?_ M M ?_ ?_ true guard28 (E1.out _) hq); rfl; rfl; rfl) | ((with_reducible refine oat_eql 28 28 (.tmp 45) (.tmp 46) ?_ CH M ?_ ?_ x1 guard28 (E3.out _) hq); rfl; rfl; rfl) | ((with_reducible refine oat_eql 28 28 (.tmp 52) (.tmp 53) ?_ O O ?_ ?_ true guard28 (E2.out _) hq); rfl; rfl; rfl) | ((with_reducible refine oat_eql 28 28 (.tmp 65) (.tmp 66) ?_ CH O ?_ ?_ x2 guard28 (E4.out _) hq); rfl; rfl; rfl) | ((with_reducible refine QP.oat_load_row (ty := 28) (x := .tmp 9) (g := g) (t := 28) (cs := M) (fr := (0, 0)) ?_ ?_ _ (hq.rows _ mM) u28 ?_ iM hq); rfl; rfl; rfl) | ((with_reducible refine QP.oat_load_row (ty := 28) (x := .tmp 10) (g := m) (t := 28) (cs := O) (fr := (0, 0)) ?_ ?_ _ (hq.rows _ mO) u28 ?_ iO hq); rfl; rfl; rfl) | ((with_reducible refine QP.oat_load_row (ty := 28) (x := .tmp 7) (g := n + 1) (t := 28) (cs := CH) (fr := (0, 0)) ?_ ?_ _ (hq.rows _ mH) u28 ?_ iH hq); rfl; rfl; rfl) | ((with_reducible refine QP.oat_load_row (ty := 28) (x := .tmp 6) (g := n) (t := 28) (cs := CP) (fr := (0, 0)) ?_ ?_ _ (hq.rows _ mP) u28 ?_ iP hq); rfl; rfl; rfl)) | (unfold QP.oat; go_simp; first | done | exact ⟨by assumption, rfl⟩ | exact rfl | assumption | (first | ((with_reducible refine (CT.out _ hq.below).mono ?_); rintro e w' ⟨rfl, gq⟩; exact ⟨rfl, hq.same gq⟩) | ((with_reducible refine (R1.out _ hq.below).mono ?_); rintro e w' ⟨rfl, gq⟩; exact ⟨rfl, hq.same gq⟩) | ((with_reducible refine (R2.out _ hq.below).mono ?_); rintro e w' ⟨rfl, gq⟩; exact ⟨rfl, hq.same gq⟩) | ((with_reducible refine (CO.out _ hq.below).mono ?_); rintro e w' ⟨rfl, gq⟩; exact ⟨rfl, hq.same gq⟩) | ((with_reducible refine (O1.out _ hq.below).mono ?_); rintro e w' ⟨rfl, gq⟩; exact ⟨rfl, hq.same gq⟩) | ((with_reducible refine (O2.out _ hq.below).mono ?_); rintro e w' ⟨rfl, gq⟩; exact ⟨rfl, hq.same gq⟩))))); (focus (intro wq hq; (skip); first | (first | ((with_reducible refine oat_eql 28 28 (.tmp 31) (.tmp 32) ?_ M M ?_ ?_ true guard28 (E1.out _) hq); rfl; rfl; rfl) | ((with_reducible refine oat_eql 28 28 (.tmp 45) (.tmp 46) ?_ CH M ?_ ?_ x1 guard28 (E3.out _) hq); rfl; rfl; rfl) | ((with_reducible refine oat_eql 28 28 (.tmp 52) (.tmp 53) ?_ O O ?_ ?_ true guard28 (E2.out _) hq); rfl; rfl; rfl) | ((with_reducible refine oat_eql 28 28 (.tmp 65) (.tmp 66) ?_ CH O ?_ ?_ x2 guard28 (E4.out _) hq); rfl; rfl; rfl) | ((with_reducible refine QP.oat_load_row (ty := 28) (x := .tmp 9) (g := g) (t := 28) (cs := M) (fr := (0, 0)) ?_ ?_ _ (hq.rows _ mM) u28 ?_ iM hq); rfl; rfl; rfl) | ((with_reducible refine QP.oat_load_row (ty := 28) (x := .tmp 10) (g := m) (t := 28) (cs := O) (fr := (0, 0)) ?_ ?_ _ (hq.rows _ mO) u28 ?_ iO hq); rfl; rfl; rfl) | ((with_reducible refine QP.oat_load_row (ty := 28) (x := .tmp 7) (g := n + 1) (t := 28) (cs := CH) (fr := (0, 0)) ?_ ?_ _ (hq.rows _ mH) u28 ?_ iH hq); rfl; rfl; rfl) | ((with_reducible refine QP.oat_load_row (ty := 28) (x := .tmp 6) (g := n) (t := 28) (cs := CP) (fr := (0, 0)) ?_ ?_ _ (hq.rows _ mP) u28 ?_ iP hq); rfl; rfl; rfl)) | (unfold QP.oat; go_simp; first | done | exact ⟨by assumption, rfl⟩ | exact rfl | assumption | (first | ((with_reducible refine (CT.out _ hq.below).mono ?_); rintro e w' ⟨rfl, gq⟩; exact ⟨rfl, hq.same gq⟩) | ((with_reducible refine (R1.out _ hq.below).mono ?_); rintro e w' ⟨rfl, gq⟩; exact ⟨rfl, hq.same gq⟩) | ((with_reducible refine (R2.out _ hq.below).mono ?_); rintro e w' ⟨rfl, gq⟩; exact ⟨rfl, hq.same gq⟩) | ((with_reducible refine (CO.out _ hq.below).mono ?_); rintro e w' ⟨rfl, gq⟩; exact ⟨rfl, hq.same gq⟩) | ((with_reducible refine (O1.out _ hq.below).mono ?_); rintro e w' ⟨rfl, gq⟩; exact ⟨rfl, hq.same gq⟩) | ((with_reducible refine (O2.out _ hq.below).mono ?_); rintro e w' ⟨rfl, gq⟩; exact ⟨rfl, hq.same gq⟩))))))
              clear hK K))
      refine QP.wpQ_nil ?_
      intro wz bz
      go_wp2
      go_ret
      exact ⟨rfl, by rw [HN.out]; exact bz.below⟩

theorem walk_SealTags (a0 : ByteArray) (_w0 : a0.size ≤ maxLen) (a1 : ByteArray) (_w1 : a1.size ≤ maxLen) (z2 : List Int) (l2 : z2.length = 32) (w2 : ∀ z ∈ z2, (Lit.int .u8 z).wf = true) (z3 : List Int) (l3 : z3.length = 32) (w3 : ∀ z ∈ z3, (Lit.int .u8 z).wf = true) {W : World} (hL : laidMetH Tryd.prog Rows.sealTagsRow.laid W) :
    Calls Tryd.prog 11 #[.string a0, .string a1, .agg (z2.map (Value.int .u8)).toArray, .agg (z3.map (Value.int .u8)).toArray] W (Fine W) := by
  obtain ⟨P, _, e1⟩ := r8_of z2 l2 w2
  obtain ⟨H, _, e2⟩ := r8_of z3 l3 w3
  rw [e1, e2]
  exact tags_walk a0 a1 P H W (tabs_of hL (by simp [Rows.sealTagsRow]) (by simp [Rows.sealTagsRow]))
end Go.Proofs.YtpfcalamchdciaaDoor
