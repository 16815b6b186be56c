/- What seal's Of, Right, Opens, the reference's Of and the law package's shown return; the conditions are that the tables are laid and that the texts are not too long. -/
import Derived.Test.YtpfcalamchdciaaDoorSeC
namespace Go.Proofs.YtpfcalamchdciaaDoor
open Go.RowKit
set_option linter.unusedVariables false

theorem oat_eql {P : Program} {o : Oper} {a : Act} {w : World} {C' : World → Prop} (ty t : TypeId) (x y : Operand) (ho : o.op = .binOp .eql ty x y t) (A B : Array Value) (hx : a.eval x = .agg A) (hy : a.eval y = .agg B) (b : Bool)
    (hG : P.eqGuardType P.depth ty = false) (h : (Op.equalIn 10000 ty (.agg A) (.agg B)).run P w = .ok b w) (hC : C' w) : QP.oat P o a C' w (.bool b) := by
  unfold QP.oat execOp
  simp only [ho, hx, hy]
  have e1 : (eqGuard .eql ty x y (.agg A) (.agg B)).run P w = .ok () w := by
    unfold eqGuard
    simp [go_sem, hG]
  simp [e1, go_sem, h, hC]
theorem guard28 : Tryd.prog.eqGuardType Tryd.prog.depth 28 = false := by kernel_rfl

set_option maxRecDepth 100000 in
set_option maxHeartbeats 2000000 in
theorem of_any (F : Nat → Nat) (w : World) (ht : Tabs w) :
    Calls Tryd.prog 37 #[.agg (r8 32 F)] w fun e w' => e = .returned (.agg (r8 32 (ofH F))) ∧ Below w.heap.size w w' := by
  obtain ⟨n, hn⟩ : ∃ n, w.heap.size = n := ⟨_, rfl⟩
  have HN := Lib.hid hn
  have h1n : 1 < n := hn ▸ ht.lt
  have ra := M.RowAt.new w 28 (r8 32 F)
  have rb := ra.alloc (.cells Z32 28)
  have rc := M.RowAt.new (w.alloc (.cells (r8 32 F) 28)) 28 Z32
  have bc : Below n w ((w.alloc (.cells (r8 32 F) 28)).alloc (.cells Z32 28)) := by
    subst hn; exact ((Below.refl _ _).alloc (Nat.le_refl _) _).alloc (by simp) _
  rw [World.size_alloc, hn] at rc
  rw [hn] at rb
  have hcv := conv_row8 rb
  have cs := fun v (hb : Below n w v) => sum_any (hstr F) v (ht.below hb h1n) (by rw [hstr_size]; decide)
  have hof : Sha.sum (hstr F) = ofH F := rfl
  rw [hof] at cs
  have iD := r8_info (ofH F); have zD := r8_zero (ofH F); have oD := r8_one (ofH F)
  generalize r8 32 (ofH F) = D at *
  generalize r8 32 F = C at *
  generalize hstr F = Y at *
  have hcv' : (convert 51 9 (.slice (some ⟨n, 0, none⟩) 32 32)).run Tryd.prog ((w.alloc (.cells C 28)).alloc (.cells #[.int .u8 0, .int .u8 0, .int .u8 0, .int .u8 0, .int .u8 0, .int .u8 0, .int .u8 0, .int .u8 0, .int .u8 0, .int .u8 0, .int .u8 0, .int .u8 0, .int .u8 0, .int .u8 0, .int .u8 0, .int .u8 0, .int .u8 0, .int .u8 0, .int .u8 0, .int .u8 0, .int .u8 0, .int .u8 0, .int .u8 0, .int .u8 0, .int .u8 0, .int .u8 0, .int .u8 0, .int .u8 0, .int .u8 0, .int .u8 0, .int .u8 0, .int .u8 0] 28)) = .ok (.string Y) ((w.alloc (.cells C 28)).alloc (.cells #[.int .u8 0, .int .u8 0, .int .u8 0, .int .u8 0, .int .u8 0, .int .u8 0, .int .u8 0, .int .u8 0, .int .u8 0, .int .u8 0, .int .u8 0, .int .u8 0, .int .u8 0, .int .u8 0, .int .u8 0, .int .u8 0, .int .u8 0, .int .u8 0, .int .u8 0, .int .u8 0, .int .u8 0, .int .u8 0, .int .u8 0, .int .u8 0, .int .u8 0, .int .u8 0, .int .u8 0, .int .u8 0, .int .u8 0, .int .u8 0, .int .u8 0, .int .u8 0] 28)) := hcv
  obtain ⟨V, hV⟩ : ∃ V, (w.alloc (.cells C 28)).alloc (.cells Z32 28) = V := ⟨_, rfl⟩
  rw [hV] at rc bc
  have hV' : (w.alloc (.cells C 28)).alloc (.cells #[.int .u8 0, .int .u8 0, .int .u8 0, .int .u8 0, .int .u8 0, .int .u8 0, .int .u8 0, .int .u8 0, .int .u8 0, .int .u8 0, .int .u8 0, .int .u8 0, .int .u8 0, .int .u8 0, .int .u8 0, .int .u8 0, .int .u8 0, .int .u8 0, .int .u8 0, .int .u8 0, .int .u8 0, .int .u8 0, .int .u8 0, .int .u8 0, .int .u8 0, .int .u8 0, .int .u8 0, .int .u8 0, .int .u8 0, .int .u8 0, .int .u8 0, .int .u8 0] 28) = V := hV
  have CS := Lib.hid cs; have HV := Lib.hid hV'
  clear cs hcv hof hV hV' ra rb ht h1n
  go_enter Tryd.func37, Tryd.ntmps37
  go_wp2_with fail
  rw [HV.out]
  refine (CS.out _ bc).mono ?_
  rintro e w1 ⟨rfl, gq⟩
  have r1 := rc.call gq
  have b1 := bc.trans (gq.mono (by have := rc.lt; omega))
  have q1 := r1.setRow D
  have bW := M.below_setRow (g := n + 1) (cs := D) b1 (by omega)
  unfold M.RowAt at r1
  clear gq rc bc hcv'
  go_wp2_with (refine wpList_store_row (x := .tmp 2) (y := .tmp 5) (cells := D) (old := Z32) (t := 28) (ty := 28) (g := n + 1) ?_ ?_ ?_ ?_ r1 iD zD oD ?_; rfl; rfl; rfl; rfl)
  have hload := run_loadVar_row (P := Tryd.prog) _ (n + 1) 28 28 D (0, 0) _ q1 u28 rfl iD
  refine bodyPost_ret (v := .agg D) (by simp [results, Tryd.results37, asAddr, Act.put, hload]) rfl ⟨rfl, ?_⟩
  rw [HN.out]
  exact bW

set_option maxRecDepth 100000 in
set_option maxHeartbeats 2000000 in
theorem rof_any (F : Nat → Nat) (w : World) :
    Calls Tryd.prog 39 #[.agg (r8 32 F)] w fun e w' => e = .returned (.agg (r8 32 (ofH F))) ∧ Below w.heap.size w w' := by
  obtain ⟨n, hn⟩ : ∃ n, w.heap.size = n := ⟨_, rfl⟩
  have HN := Lib.hid hn
  have ra := M.RowAt.new w 28 (r8 32 F)
  have rb := ra.alloc (.cells Z32 28)
  have rc := M.RowAt.new (w.alloc (.cells (r8 32 F) 28)) 28 Z32
  have bc : Below n w ((w.alloc (.cells (r8 32 F) 28)).alloc (.cells Z32 28)) := by
    subst hn; exact ((Below.refl _ _).alloc (Nat.le_refl _) _).alloc (by simp) _
  rw [World.size_alloc, hn] at rc
  rw [hn] at rb
  have hcv := conv_row8 rb
  have cs := fun v => rsum_any (hstr F) v (by rw [hstr_size]; decide)
  have hof : Sha.sum (hstr F) = ofH F := rfl
  rw [hof] at cs
  have iD := r8_info (ofH F); have zD := r8_zero (ofH F); have oD := r8_one (ofH F)
  generalize r8 32 (ofH F) = D at *
  generalize r8 32 F = C at *
  generalize hstr F = Y at *
  have hcv' : (convert 51 9 (.slice (some ⟨n, 0, none⟩) 32 32)).run Tryd.prog ((w.alloc (.cells C 28)).alloc (.cells #[.int .u8 0, .int .u8 0, .int .u8 0, .int .u8 0, .int .u8 0, .int .u8 0, .int .u8 0, .int .u8 0, .int .u8 0, .int .u8 0, .int .u8 0, .int .u8 0, .int .u8 0, .int .u8 0, .int .u8 0, .int .u8 0, .int .u8 0, .int .u8 0, .int .u8 0, .int .u8 0, .int .u8 0, .int .u8 0, .int .u8 0, .int .u8 0, .int .u8 0, .int .u8 0, .int .u8 0, .int .u8 0, .int .u8 0, .int .u8 0, .int .u8 0, .int .u8 0] 28)) = .ok (.string Y) ((w.alloc (.cells C 28)).alloc (.cells #[.int .u8 0, .int .u8 0, .int .u8 0, .int .u8 0, .int .u8 0, .int .u8 0, .int .u8 0, .int .u8 0, .int .u8 0, .int .u8 0, .int .u8 0, .int .u8 0, .int .u8 0, .int .u8 0, .int .u8 0, .int .u8 0, .int .u8 0, .int .u8 0, .int .u8 0, .int .u8 0, .int .u8 0, .int .u8 0, .int .u8 0, .int .u8 0, .int .u8 0, .int .u8 0, .int .u8 0, .int .u8 0, .int .u8 0, .int .u8 0, .int .u8 0, .int .u8 0] 28)) := hcv
  obtain ⟨V, hV⟩ : ∃ V, (w.alloc (.cells C 28)).alloc (.cells Z32 28) = V := ⟨_, rfl⟩
  rw [hV] at rc bc
  have hV' : (w.alloc (.cells C 28)).alloc (.cells #[.int .u8 0, .int .u8 0, .int .u8 0, .int .u8 0, .int .u8 0, .int .u8 0, .int .u8 0, .int .u8 0, .int .u8 0, .int .u8 0, .int .u8 0, .int .u8 0, .int .u8 0, .int .u8 0, .int .u8 0, .int .u8 0, .int .u8 0, .int .u8 0, .int .u8 0, .int .u8 0, .int .u8 0, .int .u8 0, .int .u8 0, .int .u8 0, .int .u8 0, .int .u8 0, .int .u8 0, .int .u8 0, .int .u8 0, .int .u8 0, .int .u8 0, .int .u8 0] 28) = V := hV
  have CS := Lib.hid cs; have HV := Lib.hid hV'
  clear cs hcv hof hV hV' ra rb 
  go_enter Tryd.func39, Tryd.ntmps39
  go_wp2_with fail
  rw [HV.out]
  refine (CS.out _).mono ?_
  rintro e w1 ⟨rfl, gq⟩
  have r1 := rc.call gq
  have b1 := bc.trans (gq.mono (by have := rc.lt; omega))
  have q1 := r1.setRow D
  have bW := M.below_setRow (g := n + 1) (cs := D) b1 (by omega)
  unfold M.RowAt at r1
  clear gq rc bc hcv'
  go_wp2_with (refine wpList_store_row (x := .tmp 2) (y := .tmp 5) (cells := D) (old := Z32) (t := 28) (ty := 28) (g := n + 1) ?_ ?_ ?_ ?_ r1 iD zD oD ?_; rfl; rfl; rfl; rfl)
  have hload := run_loadVar_row (P := Tryd.prog) _ (n + 1) 28 28 D (0, 0) _ q1 u28 rfl iD
  refine bodyPost_ret (v := .agg D) (by simp [results, Tryd.results39, asAddr, Act.put, hload]) rfl ⟨rfl, ?_⟩
  rw [HN.out]
  exact bW

theorem BS.same' {n : Nat} {w : World} {R : Array Value} {v v' : World} (c : BS n w R v) (hb : Below v.heap.size v v') : BS n w R v' := c.same hb
set_option maxRecDepth 100000 in
set_option maxHeartbeats 2000000 in
theorem right_any (k s : ByteArray) (G : Nat → Nat) (w : World) (ht : Tabs w) (hk : k.size ≤ 1000000) (hs : s.size ≤ 1000000) :
    Calls Tryd.prog 40 #[.string k, .string s, .agg (r8 32 G)] w fun e w' => e = .returned (.bool (eqH (mac k s) G)) ∧ Below w.heap.size w w' := by
  obtain ⟨n, hn⟩ : ∃ n, w.heap.size = n := ⟨_, rfl⟩
  have HN := Lib.hid hn
  have h1n : 1 < n := hn ▸ ht.lt
  have c0 : BS n w (r8 32 G) (w.alloc (.cells (r8 32 G) 28)) := by
    subst hn; exact ⟨M.RowAt.new w 28 _, (Below.refl _ _).alloc (Nat.le_refl _) _⟩
  have ct := fun v (hb : Below n w v) => tag_any k s v (ht.below hb h1n) hk hs
  have hcmp := fun W => r8_cmp (mac k s) G W
  have iG := r8_info G
  generalize r8 32 (mac k s) = D at *
  generalize r8 32 G = C at *
  generalize eqH (mac k s) G = b at *
  have CT := Lib.hid ct; have HC := Lib.hid hcmp
  obtain ⟨V, hV⟩ : ∃ V, w.alloc (.cells C 28) = V := ⟨_, rfl⟩
  rw [hV] at c0
  have HV := Lib.hid hV
  clear ct hcmp ht h1n hV
  go_enter Tryd.func40, Tryd.ntmps40
  go_wp2_with fail
  rw [HV.out]
  clear hn
  refine QP.wp_region_p 2 (BS n w C) (BS n w C) (by kernel_rfl) (by kernel_rfl) c0.drew ?_
  iterate 6
    (refine QP.wpQ_step (fun K hK => ?_)
     go_simp
     first
       | (refine hK _ ?_; clear hK K)
       | (refine ⟨?_, hK _ ?_⟩; decide; clear hK K)
       | ((first | (apply Exists.intro; refine ⟨?_, hK _ ?_⟩) | refine ⟨⟨undef, ?_⟩, hK _ ?_⟩)
          first
            | (apply QP.al_p; decide; (focus (intro wq hq; (skip); first | (first | ((with_reducible refine oat_eql 28 28 (.tmp 9) (.tmp 10) ?_ D C ?_ ?_ b guard28 (HC.out _) hq); rfl; rfl; rfl) | ((with_reducible refine QP.oat_load_row (ty := 28) (x := .tmp 5) (g := n) (t := 28) (cs := C) (fr := (0, 0)) ?_ ?_ _ hq.r u28 ?_ iG hq); rfl; rfl; rfl)) | (unfold QP.oat; go_simp; first | done | exact ⟨by assumption, rfl⟩ | exact rfl | assumption | (((with_reducible refine (CT.out _ hq.below).mono ?_); rintro e w' ⟨rfl, gq⟩; exact ⟨rfl, hq.same gq⟩))))))
            | (apply QP.al_dep; decide; decide; (focus (intro wq hq; (skip); first | (first | ((with_reducible refine oat_eql 28 28 (.tmp 9) (.tmp 10) ?_ D C ?_ ?_ b guard28 (HC.out _) hq); rfl; rfl; rfl) | ((with_reducible refine QP.oat_load_row (ty := 28) (x := .tmp 5) (g := n) (t := 28) (cs := C) (fr := (0, 0)) ?_ ?_ _ hq.r u28 ?_ iG hq); rfl; rfl; rfl)) | (unfold QP.oat; go_simp; first | done | exact ⟨by assumption, rfl⟩ | exact rfl | assumption | (((with_reducible refine (CT.out _ hq.below).mono ?_); rintro e w' ⟨rfl, gq⟩; exact ⟨rfl, hq.same gq⟩))))))
            | (apply QP.al_bef; decide; decide; (focus (intro wq hq; (skip); first | (first | ((with_reducible refine oat_eql 28 28 (.tmp 9) (.tmp 10) ?_ D C ?_ ?_ b guard28 (HC.out _) hq); rfl; rfl; rfl) | ((with_reducible refine QP.oat_load_row (ty := 28) (x := .tmp 5) (g := n) (t := 28) (cs := C) (fr := (0, 0)) ?_ ?_ _ hq.r u28 ?_ iG hq); rfl; rfl; rfl)) | (unfold QP.oat; go_simp; first | done | exact ⟨by assumption, rfl⟩ | exact rfl | assumption | (((with_reducible refine (CT.out _ hq.below).mono ?_); rintro e w' ⟨rfl, gq⟩; exact ⟨rfl, hq.same gq⟩))))))
            | (apply QP.al_ok; decide; (focus (intro wq hq; (skip); first | (first | ((with_reducible refine oat_eql 28 28 (.tmp 9) (.tmp 10) ?_ D C ?_ ?_ b guard28 (HC.out _) hq); rfl; rfl; rfl) | ((with_reducible refine QP.oat_load_row (ty := 28) (x := .tmp 5) (g := n) (t := 28) (cs := C) (fr := (0, 0)) ?_ ?_ _ hq.r u28 ?_ iG hq); rfl; rfl; rfl)) | (unfold QP.oat; go_simp; first | done | exact ⟨by assumption, rfl⟩ | exact rfl | assumption | (((with_reducible refine (CT.out _ hq.below).mono ?_); rintro e w' ⟨rfl, gq⟩; exact ⟨rfl, hq.same gq⟩))))); (focus (intro wq hq; (skip); first | (first | ((with_reducible refine oat_eql 28 28 (.tmp 9) (.tmp 10) ?_ D C ?_ ?_ b guard28 (HC.out _) hq); rfl; rfl; rfl) | ((with_reducible refine QP.oat_load_row (ty := 28) (x := .tmp 5) (g := n) (t := 28) (cs := C) (fr := (0, 0)) ?_ ?_ _ hq.r u28 ?_ iG hq); rfl; rfl; rfl)) | (unfold QP.oat; go_simp; first | done | exact ⟨by assumption, rfl⟩ | exact rfl | assumption | (((with_reducible refine (CT.out _ hq.below).mono ?_); rintro e w' ⟨rfl, gq⟩; exact ⟨rfl, hq.same gq⟩))))))
          clear hK K))
  refine QP.wpQ_nil ?_
  intro wz bz
  go_wp2
  go_ret
  exact ⟨rfl, by rw [HN.out]; exact bz.below⟩

/-- two hashes that came in -/
structure BT (n : Nat) (w : World) (R S : Array Value) (v : World) : Prop where
  r : v.heap[n]? = some (.cells R 28 (0, 0))
  s : v.heap[n + 1]? = some (.cells S 28 (0, 0))
  below : Below n w v
theorem BT.drew {n : Nat} {w : World} {R S : Array Value} {v : World} (c : BT n w R S v) : BT n w R S v.drew := ⟨c.r, c.s, c.below.drew⟩
theorem BT.same {n : Nat} {w : World} {R S : Array Value} {v v' : World} (c : BT n w R S v) (hb : Below v.heap.size v v') : BT n w R S v' :=
  ⟨M.RowAt.call c.r hb, M.RowAt.call c.s hb, c.below.trans (hb.mono (by have := M.RowAt.lt c.r; omega))⟩
set_option maxRecDepth 100000 in
set_option maxHeartbeats 2000000 in
theorem opens_any (F G : Nat → Nat) (w : World) (ht : Tabs w) :
    Calls Tryd.prog 41 #[.agg (r8 32 F), .agg (r8 32 G)] w fun e w' => e = .returned (.bool (eqH (ofH F) G)) ∧ Below w.heap.size w w' := by
  obtain ⟨n, hn⟩ : ∃ n, w.heap.size = n := ⟨_, rfl⟩
  have HN := Lib.hid hn
  have h1n : 1 < n := hn ▸ ht.lt
  have c0 : BT n w (r8 32 F) (r8 32 G) ((w.alloc (.cells (r8 32 F) 28)).alloc (.cells (r8 32 G) 28)) := by
    subst hn
    have r2 := M.RowAt.new (w.alloc (.cells (r8 32 F) 28)) 28 (r8 32 G)
    rw [World.size_alloc] at r2
    exact ⟨(M.RowAt.new w 28 _).alloc _, r2, ((Below.refl _ _).alloc (Nat.le_refl _) _).alloc (by simp) _⟩
  have ct := fun v (hb : Below n w v) => of_any F v (ht.below hb h1n)
  have hcmp := fun W => r8_cmp (ofH F) G W
  have iG := r8_info G
  have iF := r8_info F
  generalize r8 32 (ofH F) = D at *
  generalize r8 32 G = C at *
  generalize r8 32 F = B at *
  generalize eqH (ofH F) G = b at *
  have CT := Lib.hid ct; have HC := Lib.hid hcmp
  obtain ⟨V, hV⟩ : ∃ V, (w.alloc (.cells B 28)).alloc (.cells C 28) = V := ⟨_, rfl⟩
  rw [hV] at c0
  have HV := Lib.hid hV
  clear ct hcmp ht h1n hV
  go_enter Tryd.func41, Tryd.ntmps41
  go_wp2_with fail
  rw [HV.out]
  clear hn
  refine QP.wp_region_p 1 (BT n w B C) (BT n w B C) (by kernel_rfl) (by kernel_rfl) c0.drew ?_
  iterate 5
    (refine QP.wpQ_step (fun K hK => ?_)
     go_simp
     first
       | (refine hK _ ?_; clear hK K)
       | (refine ⟨?_, hK _ ?_⟩; decide; clear hK K)
       | ((first | (apply Exists.intro; refine ⟨?_, hK _ ?_⟩) | refine ⟨⟨undef, ?_⟩, hK _ ?_⟩)
          first
            | (apply QP.al_p; decide; (focus (intro wq hq; (skip); first | (first | ((with_reducible refine oat_eql 28 28 (.tmp 6) (.tmp 7) ?_ D C ?_ ?_ b guard28 (HC.out _) hq); rfl; rfl; rfl) | ((with_reducible refine QP.oat_load_row (ty := 28) (x := .tmp 2) (g := n) (t := 28) (cs := B) (fr := (0, 0)) ?_ ?_ _ hq.r u28 ?_ iF hq); rfl; rfl; rfl) | ((with_reducible refine QP.oat_load_row (ty := 28) (x := .tmp 3) (g := n + 1) (t := 28) (cs := C) (fr := (0, 0)) ?_ ?_ _ hq.s u28 ?_ iG hq); rfl; rfl; rfl)) | (unfold QP.oat; go_simp; first | done | exact ⟨by assumption, rfl⟩ | exact rfl | assumption | (((with_reducible refine (CT.out _ hq.below).mono ?_); rintro e w' ⟨rfl, gq⟩; exact ⟨rfl, hq.same gq⟩))))))
            | (apply QP.al_dep; decide; decide; (focus (intro wq hq; (skip); first | (first | ((with_reducible refine oat_eql 28 28 (.tmp 6) (.tmp 7) ?_ D C ?_ ?_ b guard28 (HC.out _) hq); rfl; rfl; rfl) | ((with_reducible refine QP.oat_load_row (ty := 28) (x := .tmp 2) (g := n) (t := 28) (cs := B) (fr := (0, 0)) ?_ ?_ _ hq.r u28 ?_ iF hq); rfl; rfl; rfl) | ((with_reducible refine QP.oat_load_row (ty := 28) (x := .tmp 3) (g := n + 1) (t := 28) (cs := C) (fr := (0, 0)) ?_ ?_ _ hq.s u28 ?_ iG hq); rfl; rfl; rfl)) | (unfold QP.oat; go_simp; first | done | exact ⟨by assumption, rfl⟩ | exact rfl | assumption | (((with_reducible refine (CT.out _ hq.below).mono ?_); rintro e w' ⟨rfl, gq⟩; exact ⟨rfl, hq.same gq⟩))))))
            | (apply QP.al_bef; decide; decide; (focus (intro wq hq; (skip); first | (first | ((with_reducible refine oat_eql 28 28 (.tmp 6) (.tmp 7) ?_ D C ?_ ?_ b guard28 (HC.out _) hq); rfl; rfl; rfl) | ((with_reducible refine QP.oat_load_row (ty := 28) (x := .tmp 2) (g := n) (t := 28) (cs := B) (fr := (0, 0)) ?_ ?_ _ hq.r u28 ?_ iF hq); rfl; rfl; rfl) | ((with_reducible refine QP.oat_load_row (ty := 28) (x := .tmp 3) (g := n + 1) (t := 28) (cs := C) (fr := (0, 0)) ?_ ?_ _ hq.s u28 ?_ iG hq); rfl; rfl; rfl)) | (unfold QP.oat; go_simp; first | done | exact ⟨by assumption, rfl⟩ | exact rfl | assumption | (((with_reducible refine (CT.out _ hq.below).mono ?_); rintro e w' ⟨rfl, gq⟩; exact ⟨rfl, hq.same gq⟩))))))
            | (apply QP.al_ok; decide; (focus (intro wq hq; (skip); first | (first | ((with_reducible refine oat_eql 28 28 (.tmp 6) (.tmp 7) ?_ D C ?_ ?_ b guard28 (HC.out _) hq); rfl; rfl; rfl) | ((with_reducible refine QP.oat_load_row (ty := 28) (x := .tmp 2) (g := n) (t := 28) (cs := B) (fr := (0, 0)) ?_ ?_ _ hq.r u28 ?_ iF hq); rfl; rfl; rfl) | ((with_reducible refine QP.oat_load_row (ty := 28) (x := .tmp 3) (g := n + 1) (t := 28) (cs := C) (fr := (0, 0)) ?_ ?_ _ hq.s u28 ?_ iG hq); rfl; rfl; rfl)) | (unfold QP.oat; go_simp; first | done | exact ⟨by assumption, rfl⟩ | exact rfl | assumption | (((with_reducible refine (CT.out _ hq.below).mono ?_); rintro e w' ⟨rfl, gq⟩; exact ⟨rfl, hq.same gq⟩))))); (focus (intro wq hq; (skip); first | (first | ((with_reducible refine oat_eql 28 28 (.tmp 6) (.tmp 7) ?_ D C ?_ ?_ b guard28 (HC.out _) hq); rfl; rfl; rfl) | ((with_reducible refine QP.oat_load_row (ty := 28) (x := .tmp 2) (g := n) (t := 28) (cs := B) (fr := (0, 0)) ?_ ?_ _ hq.r u28 ?_ iF hq); rfl; rfl; rfl) | ((with_reducible refine QP.oat_load_row (ty := 28) (x := .tmp 3) (g := n + 1) (t := 28) (cs := C) (fr := (0, 0)) ?_ ?_ _ hq.s u28 ?_ iG hq); rfl; rfl; rfl)) | (unfold QP.oat; go_simp; first | done | exact ⟨by assumption, rfl⟩ | exact rfl | assumption | (((with_reducible refine (CT.out _ hq.below).mono ?_); rintro e w' ⟨rfl, gq⟩; exact ⟨rfl, hq.same gq⟩))))))
          clear hK K))
  refine QP.wpQ_nil ?_
  intro wz bz
  go_wp2
  go_ret
  exact ⟨rfl, by rw [HN.out]; exact bz.below⟩

def aKey : ByteArray := ⟨#[107, 101, 121]⟩
def aTxt : ByteArray := ⟨#[84, 104, 101, 32, 113, 117, 105, 99, 107, 32, 98, 114, 111, 119, 110, 32, 102, 111, 120, 32, 106, 117, 109, 112, 115, 32, 111, 118, 101, 114, 32, 116, 104, 101, 32, 108, 97, 122, 121, 32, 100, 111, 103]⟩
theorem anchor_0 : mac aKey aTxt 0 = 247 := by decide +kernel
theorem anchor_1 : mac aKey aTxt 1 = 188 := by decide +kernel
theorem anchor_2 : mac aKey aTxt 2 = 131 := by decide +kernel
theorem anchor_3 : mac aKey aTxt 3 = 244 := by decide +kernel
theorem anchor_31 : mac aKey aTxt 31 = 216 := by decide +kernel
set_option maxRecDepth 100000 in
set_option maxHeartbeats 2000000 in
theorem sshown_any (w : World) (ht : Tabs w) :
    Calls Tryd.prog 35 #[] w fun e w' => e = .returned (.bool true) ∧ Below w.heap.size w w' := by
  obtain ⟨n, hn⟩ : ∃ n, w.heap.size = n := ⟨_, rfl⟩
  have HN := Lib.hid hn
  have h1n : 1 < n := hn ▸ ht.lt
  have cx := fun v (hb : Below n w v) => tag_any aKey aTxt v (ht.below hb h1n) (by decide) (by decide)
  have a0 := anchor_0; have a1 := anchor_1; have a2 := anchor_2; have a3 := anchor_3; have a4 := anchor_31
  generalize mac aKey aTxt = F at *
  obtain ⟨D, hD⟩ : ∃ D, r8 32 F = D := ⟨_, rfl⟩
  have zD : Z32.size = D.size := by rw [← hD]; exact r8_zero F
  have oD : D.all (·.oneCell') = true := by rw [← hD]; exact M.rowF_one
  have iD : (Tryd.prog.info? 28).map (·.size) = some D.size := by rw [← hD]; exact r8_info F
  have d0 : ∀ v g, M.RowAt v g 28 D → v.cell? ⟨g, 0, none⟩ = some (.int .u8 247) := fun v g h => (h.cell 0).trans (by rw [← hD, M.rowF_get (by decide), a0]; rfl)
  have d1 : ∀ v g, M.RowAt v g 28 D → v.cell? ⟨g, 1, none⟩ = some (.int .u8 188) := fun v g h => (h.cell 1).trans (by rw [← hD, M.rowF_get (by decide), a1]; rfl)
  have d2 : ∀ v g, M.RowAt v g 28 D → v.cell? ⟨g, 2, none⟩ = some (.int .u8 131) := fun v g h => (h.cell 2).trans (by rw [← hD, M.rowF_get (by decide), a2]; rfl)
  have d3 : ∀ v g, M.RowAt v g 28 D → v.cell? ⟨g, 3, none⟩ = some (.int .u8 244) := fun v g h => (h.cell 3).trans (by rw [← hD, M.rowF_get (by decide), a3]; rfl)
  have d4 : ∀ v g, M.RowAt v g 28 D → v.cell? ⟨g, 31, none⟩ = some (.int .u8 216) := fun v g h => (h.cell 31).trans (by rw [← hD, M.rowF_get (by decide), a4]; rfl)
  rw [hD] at cx
  have CX := Lib.hid cx; have D0 := Lib.hid d0; have D1 := Lib.hid d1; have D2 := Lib.hid d2; have D3 := Lib.hid d3; have D4 := Lib.hid d4
  have b0 : Below n w w := Below.refl _ _
  have HT := Lib.hid ht
  clear cx d0 d1 d2 d3 d4 a0 a1 a2 a3 a4 hD ht
  go_enter Tryd.func35, Tryd.ntmps35
  go_wp2_with fail
  refine (CX.out _ b0).mono ?_
  rintro e w' ⟨rfl, gq⟩
  have gq' := gq
  rw [HN.out] at gq'
  have hge : n ≤ w'.heap.size := by have := gq.size; omega
  have rV := M.RowAt.new w' 28 Z32
  have bV := gq'.alloc hge (.cells Z32 28)
  obtain ⟨g, hg⟩ : ∃ g, w'.heap.size = g := ⟨_, rfl⟩
  rw [hg] at rV hge
  have HG := Lib.hid hg
  obtain ⟨V, hV⟩ : ∃ V, w'.alloc (.cells #[.int .u8 0, .int .u8 0, .int .u8 0, .int .u8 0, .int .u8 0, .int .u8 0, .int .u8 0, .int .u8 0, .int .u8 0, .int .u8 0, .int .u8 0, .int .u8 0, .int .u8 0, .int .u8 0, .int .u8 0, .int .u8 0, .int .u8 0, .int .u8 0, .int .u8 0, .int .u8 0, .int .u8 0, .int .u8 0, .int .u8 0, .int .u8 0, .int .u8 0, .int .u8 0, .int .u8 0, .int .u8 0, .int .u8 0, .int .u8 0, .int .u8 0, .int .u8 0] 28) = V := ⟨_, rfl⟩
  have e : w'.alloc (.cells Z32 28) = V := hV
  have HV := Lib.hid hV
  rw [e] at rV bV
  have rW := M.RowAt.setRow rV D
  have bW := M.below_setRow (g := g) (cs := D) bV hge
  obtain ⟨U, hU⟩ : ∃ U, V.setRow g D = U := ⟨_, rfl⟩
  rw [hU] at rW bW
  have HU := Lib.hid hU
  have q0 := D0.out _ _ rW
  have q1 := D1.out _ _ rW
  have q2 := D2.out _ _ rW
  have q3 := D3.out _ _ rW
  have q4 := D4.out _ _ rW
  unfold M.RowAt at rV
  clear hg hV e gq gq' rW hU
  go_wp2_with (first
    | (rw [HG.out, HV.out]; refine wpList_store_row (x := .tmp 1) (y := .tmp 2) (cells := D) (old := Z32) (t := 28) (ty := 28) (g := g) ?_ ?_ ?_ ?_ rV iD zD oD ?_; rfl; rfl; rfl; rfl; rw [HU.out]))
  go_ret
  refine ⟨rfl, ?_⟩
  rw [HN.out]
  exact bW
end Go.Proofs.YtpfcalamchdciaaDoor
