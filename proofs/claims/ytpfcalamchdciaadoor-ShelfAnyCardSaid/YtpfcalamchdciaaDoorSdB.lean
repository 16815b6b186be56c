/- What secret's chain returns: the hash behind each bit's flip and sum; the conditions are that the tables are laid, and the ranges of the numbers. -/
import Derived.Test.YtpfcalamchdciaaDoorSdA
import Derived.Test.YtpfcalamchdciaaDoorKB
namespace Go.Proofs.YtpfcalamchdciaaDoor
open Go.RowKit Go.Shelf
set_option linter.unusedVariables false
attribute [local go_sem] Oper.semAt_some

/-- in a round: the blocks known whole, and what the round keeps -/
structure RB (n : Nat) (w W : World) (bi : Nat) (L : List (Nat × TypeId × Array Value)) (v : World) : Prop where
  kb : KB n w L v
  ko : KeepsOthers W v
  ki : KeepI bi W v
section
variable {n bi : Nat} {w W v v' : World} {L : List (Nat × TypeId × Array Value)}
theorem RB.drew (c : RB n w W bi L v) : RB n w W bi L v.drew := ⟨c.kb.drew, c.ko.trans (KeepsOthers.drew _), c.ki⟩
theorem RB.same (c : RB n w W bi L v) (hb : Below v.heap.size v v') : RB n w W bi L v' :=
  ⟨c.kb.same hb, c.ko.trans ⟨hb.size, fun k o h _ => by rw [hb.block k (Array.getElem?_eq_some_iff.1 h).1]; exact h⟩, fun x hx => by
    have h := c.ki x hx
    rw [hb.cell (World.block_lt_of_cell? v _ h)]; exact h⟩
theorem RB.set {g : Nat} {t : TypeId} {Z : Array Value} (c : RB n w W bi ((g, t, Z) :: L) v) (hne : ∀ x ∈ L, x.1 ≠ g) (hg : n ≤ g) (hbi : bi ≠ g) (i : Nat) (u : Value) : RB n w W bi ((g, t, Z.setIfInBounds i u) :: L) (v.setCell ⟨g, i, none⟩ u) :=
  ⟨c.kb.set hne hg i u, c.ko.trans (KeepsOthers.setCell _ _ _), fun x hx => by
    rw [World.cell?_setCell_other _ _ _ _ (fun h => hbi (by cases h; rfl))]; exact c.ki x hx⟩
theorem RB.setRow {g : Nat} {t : TypeId} {Z : Array Value} (c : RB n w W bi ((g, t, Z) :: L) v) (hne : ∀ x ∈ L, x.1 ≠ g) (hg : n ≤ g) (hbi : bi ≠ g) (D : Array Value) : RB n w W bi ((g, t, D) :: L) (v.setRow g D) :=
  ⟨c.kb.setRow hne hg D, c.ko.trans ⟨by simp, fun k o h hc => by
    by_cases e : k = g
    · subst e
      have := c.kb.rows (k, t, Z) List.mem_cons_self
      simp only at this
      rw [this] at h; cases h; cases hc
    · simp only [World.setRow, Array.getElem?_modify]; rw [if_neg (fun h => e h.symm)]; exact h⟩, fun x hx => by
    have h := c.ki x hx
    unfold World.cell? at *
    simp only [World.setRow, Array.getElem?_modify]
    rw [if_neg (fun h => hbi h.symm)]; exact h⟩
theorem KB.grown {row : Option Nat} (c : KB n w L v) (hg : v.grownBy v' row) (hr : ∀ r, row = some r → n ≤ r ∧ ∃ o : Obj, v.heap[r]? = some o ∧ o.isCells = false) : KB n w L v' :=
  ⟨fun x hx => by
    have h := c.rows x hx
    rw [hg.block x.1 (Array.getElem?_eq_some_iff.1 h).1 (fun e => by
      obtain ⟨_, o, ho, hc⟩ := hr x.1 e.symm
      rw [h] at ho; cases ho; cases hc)]
    exact h, c.below.grown hg c.ge (fun k e => (hr k e).1), Nat.le_trans c.ge hg.size⟩
end
theorem own_kb {β : Type} {n B : Nat} {w : World} (L : β → List (Nat × TypeId × Array Value)) (hB : n ≤ B) : OwnFrom B (fun (s : β) W => KB n w (L s) W) :=
  fun s W W' row hs hg hr => hs.grown hg (fun r e => ⟨Nat.le_trans hB (hr r e).1, (hr r e).2⟩)

theorem wrap_pow (b : Nat) : IntKind.u8.wrap (2 ^ min ((b : Int).tmod 8).toNat 8) = (2 : Int) ^ (b % 8) % 256 := by
  have e : ((b : Int).tmod 8).toNat = b % 8 := by rw [Int.tmod_eq_emod_of_nonneg (by omega)]; omega
  rw [e, Nat.min_eq_left (by omega), IntKind.wrap_u8]

def accB (F : Nat → Nat) (pre : List B16) : Nat → Nat := (pre.map (·.1)).foldl step1 F
theorem accB_snoc (F : Nat → Nat) (pre : List B16) (x : B16) : accB F (pre ++ [x]) = ofH (flipH (accB F pre) x.1) := by simp [accB, step1]
theorem accB_lt {F : Nat → Nat} (hF : ∀ i, F i < 256) (pre : List B16) : ∀ i, accB F pre i < 256 := by
  intro i
  rcases List.eq_nil_or_concat pre with h | ⟨l, x, h⟩
  · subst h; exact hF i
  · rw [h, List.concat_eq_append, accB_snoc]; exact ofH_lt _ _

set_option maxRecDepth 100000 in
set_option maxHeartbeats 4000000 in
theorem chain_any (F : Nat → Nat) (i d : Nat) (w : World) (ht : Tabs w) (hF : ∀ j, F j < 256) (hi : i < 65536) (hd : d ≤ 16) :
    Calls Tryd.prog 65 #[.agg (r8 32 F), .int .i64 (i : Nat), .int .i64 (d : Nat)] w fun e w' => e = .returned (.agg (r8 32 (walkH F i d))) ∧ Below w.heap.size w w' := by
  obtain ⟨n, hn⟩ : ∃ n, w.heap.size = n := ⟨_, rfl⟩
  have HN := Lib.hid hn
  have h1n : 1 < n := hn ▸ ht.lt
  have tb := fun v (hb : Below n w v) => ht.below hb h1n
  have TB := Lib.hid tb
  have kb0 := ((((KB.start w).new 28 (r8 32 F)).new 28 Z32).alloc (.cells #[.int .i64 (i : Nat)] 3)).alloc (.cells #[.int .i64 (d : Nat)] 3)
  rw [World.size_alloc, hn] at kb0
  have ci : ((((w.alloc (.cells (r8 32 F) 28)).alloc (.cells Z32 28)).alloc (.cells #[.int .i64 (i : Nat)] 3)).alloc (.cells #[.int .i64 (d : Nat)] 3)).cell? ⟨n + 1 + 1, 0, none⟩ = some (.int .i64 (i : Nat)) := by
    have := ((M.RowAt.new ((w.alloc (.cells (r8 32 F) 28)).alloc (.cells Z32 28)) 3 #[.int .i64 (i : Nat)]).alloc (.cells #[.int .i64 (d : Nat)] 3)).cell 0
    rw [World.size_alloc, World.size_alloc, hn] at this
    exact this
  have cd : ((((w.alloc (.cells (r8 32 F) 28)).alloc (.cells Z32 28)).alloc (.cells #[.int .i64 (i : Nat)] 3)).alloc (.cells #[.int .i64 (d : Nat)] 3)).cell? ⟨n + 1 + 1 + 1, 0, none⟩ = some (.int .i64 (d : Nat)) := by
    have := (M.RowAt.new (((w.alloc (.cells (r8 32 F) 28)).alloc (.cells Z32 28)).alloc (.cells #[.int .i64 (i : Nat)] 3)) 3 #[.int .i64 (d : Nat)]).cell 0
    rw [World.size_alloc, World.size_alloc, World.size_alloc, hn] at this
    exact this
  have hsz : ((((w.alloc (.cells (r8 32 F) 28)).alloc (.cells Z32 28)).alloc (.cells #[.int .i64 (i : Nat)] 3)).alloc (.cells #[.int .i64 (d : Nat)] 3)).heap.size = n + 1 + 1 + 1 + 1 := by
    rw [World.size_alloc, World.size_alloc, World.size_alloc, World.size_alloc, hn]
  have hwk : ∀ xs : List B16, xs.map (·.1) = onesL i d d → accB F xs = walkH F i d := fun xs h => by unfold accB walkH; rw [h]
  have hacc := fun pre => accB_lt hF pre
  have hnil : accB F [] = F := rfl
  have HWK := Lib.hid hwk
  have HACC := Lib.hid hacc
  obtain ⟨G, hG⟩ : ∃ G, walkH F i d = G := ⟨_, rfl⟩
  have HG := Lib.hid hG
  obtain ⟨C, hC⟩ : ∃ C, r8 32 F = C := ⟨_, rfl⟩
  have hC0 : r8 32 (accB F []) = C := hC
  rw [hC] at kb0 ci cd hsz
  rw [hC, hG]
  have HC0 := Lib.hid hC0
  obtain ⟨W0, hW0⟩ : ∃ W0, (((w.alloc (.cells C 28)).alloc (.cells Z32 28)).alloc (.cells #[.int .i64 (i : Nat)] 3)).alloc (.cells #[.int .i64 (d : Nat)] 3) = W0 := ⟨_, rfl⟩
  rw [hW0] at kb0 ci cd hsz
  have hW0' : (((w.alloc (.cells C 28)).alloc (.cells #[.int .u8 0, .int .u8 0, .int .u8 0, .int .u8 0, .int .u8 0, .int .u8 0, .int .u8 0, .int .u8 0, .int .u8 0, .int .u8 0, .int .u8 0, .int .u8 0, .int .u8 0, .int .u8 0, .int .u8 0, .int .u8 0, .int .u8 0, .int .u8 0, .int .u8 0, .int .u8 0, .int .u8 0, .int .u8 0, .int .u8 0, .int .u8 0, .int .u8 0, .int .u8 0, .int .u8 0, .int .u8 0, .int .u8 0, .int .u8 0, .int .u8 0, .int .u8 0] 28)).alloc (.cells #[.int .i64 (i : Nat)] 3)).alloc (.cells #[.int .i64 (d : Nat)] 3) = W0 := hW0
  have HW0 := Lib.hid hW0'
  have hstops := ones_stops 7 (by decide) (n + 1 + 1) (n + 1 + 1 + 1) i d hi hd W0 ci cd
  have HST := Lib.hid hstops
  clear hW0 hW0' hC hC0 hG hwk hacc hnil ht tb ci cd hstops
  refine (callsIn_wide (n := 8)).1 ?_
  refine callsIn_of_wp_marks Tryd.func65 rfl trivial ?_ rfl
  simp only [Tryd.ntmps65, List.size_toArray, List.length_cons, List.length_nil, Nat.reduceAdd, Nat.reduceSub, Array.replicate_succ, Array.replicate_zero, List.push_toArray, List.append_toArray, List.nil_append, List.cons_append]
  gi_wp2_with fail
  refine ⟨trivial, ?_⟩
  refine (callsIn_wide.2 (ones_any _ _ _)).mono ?_
  rintro e w' ⟨rfl, rfl⟩
  rw [World.size_alloc, World.size_alloc, hn]
  rw [HW0.out]
  clear hn
  gi_wp2
  refine wpIn_rangeFunc_ownF rfl (by decide) (gf := 75) (lb := #[.pointer (some ⟨n + 1 + 1 + 1, 0, none⟩), .pointer (some ⟨n + 1 + 1, 0, none⟩)]) rfl trivial (enters_of Tryd.func75 (by kernel_rfl) rfl)
    HST.out KeepI.t KeepI.b (Below.refl _ _) (fun _ => rfl)
    (fun pre W => KB n w [(n, 28, r8 32 (accB F pre)), (n + 1, 28, Z32)] W)
    (fun _ _ _ => False)
    (own_kb _ (by rw [hsz]; omega))
    (fun _ _ _ _ _ hs _ _ => hs)
    (by rw [HC0.out]; exact kb0.sub (by simp))
    (fun x => { tmps := #[.agg C, .int .i64 (i : Nat), .int .i64 (d : Nat), .pointer (some ⟨n, 0, none⟩), undef, undef, .pointer (some ⟨n + 1, 0, none⟩), .int .i64 (x.1 : Nat), .int .i64 (i : Nat), .int .i64 (d : Nat), .func (.func 75) #[] #[.pointer (some ⟨n + 1 + 1 + 1, 0, none⟩), .pointer (some ⟨n + 1 + 1, 0, none⟩)], .int .i64 (x.1 : Nat), undef, undef, undef, undef, undef, undef, undef, undef, undef, undef, undef, undef, undef], defers := [] }) ?assign ?body ?done ?stop
  case assign =>
    intro l x W K hK
    gi_wp2
    exact hK
  case body =>
    rintro l pre ⟨b, hb⟩ W hI _
    have hlt := HACC.out pre
    have hsn := accB_snoc F pre ⟨b, hb⟩
    simp only at hsn
    obtain ⟨A, hA⟩ : ∃ A, accB F pre = A := ⟨_, rfl⟩
    rw [hA] at hsn hlt hI
    have HSN := Lib.hid hsn
    clear hsn kb0 hsz hA
    have hof : Sha.sum (hstr (flipH A b)) = ofH (flipH A b) := rfl
    have cs := fun v (h : Below n w v) => sum_any (hstr (flipH A b)) v (TB.out v h) (by rw [hstr_size]; decide)
    rw [hof] at cs
    have hcv := fun v g (h : M.RowAt v g 28 (r8 32 (flipH A b))) => conv_row8 h
    have a8 := hlt (b / 8)
    have st := flipH_set A b (by omega) _ (xor_pow (A (b / 8)) b a8)
    have ca : (r8 32 A)[b / 8]? = some (.int .u8 (A (b / 8) : Nat)) := M.rowF_get (by omega)
    have rb0 : RB n w W (n + 1 + 1) [(n, 28, r8 32 A), (n + 1, 28, Z32)] W := ⟨hI, KeepsOthers.refl _, fun v h => h⟩
    have iO := r8_info (ofH (flipH A b)); have oO := r8_one (ofH (flipH A b))
    have zO : (r8 32 (flipH A b)).size = (r8 32 (ofH (flipH A b))).size := by rw [r8_size, r8_size]
    obtain ⟨O, hO⟩ : ∃ O, r8 32 (ofH (flipH A b)) = O := ⟨_, rfl⟩
    rw [hO] at cs iO oO zO
    have HO := Lib.hid hO
    clear hO
    generalize r8 32 (flipH A b) = T at *
    generalize hstr (flipH A b) = Y at *
    generalize r8 32 A = R at *
    generalize A (b / 8) = y at *
    have setc : ∀ v, RB n w W (n + 1 + 1) [(n, 28, R), (n + 1, 28, Z32)] v → RB n w W (n + 1 + 1) [(n, 28, T), (n + 1, 28, Z32)] (v.setCell ⟨n, b / 8, none⟩ (.int .u8 (bits .xor .u8 (y : Int) ((2 : Int) ^ (b % 8) % 256)))) := fun v c => by
      have := c.set (fun x hx => by simp at hx; subst hx; show n + 1 ≠ n; omega) (Nat.le_refl _) (by omega) (b / 8) (.int .u8 (bits .xor .u8 (y : Int) ((2 : Int) ^ (b % 8) % 256)))
      rw [st] at this; exact this
    have cellc : ∀ v, RB n w W (n + 1 + 1) [(n, 28, R), (n + 1, 28, Z32)] v → v.cell? ⟨n, b / 8, none⟩ = some (.int .u8 (y : Nat)) ∧ v.frozen? ⟨n, b / 8, none⟩ = false := fun v c =>
      ⟨(M.RowAt.cell (c.kb.rows (n, 28, R) List.mem_cons_self) (b / 8)).trans ca, M.RowAt.frozen (c.kb.rows (n, 28, R) List.mem_cons_self) (b / 8)⟩
    have SETC := Lib.hid setc; have CELLC := Lib.hid cellc; have CS := Lib.hid cs; have HCV := Lib.hid hcv
    have w1 : IntKind.i64.wrap ((b : Int) / 8) = (b : Int) / 8 := IntWalk.i64_in _ (by omega)
    have w2 : (0 : Int) ≤ (b : Int) / 8 := by omega
    have w3 : (b : Int) / 8 < 32 := by omega
    have w4 : ((b : Int) / 8).toNat = b / 8 := by omega
    clear cs hcv st ca setc cellc hI hof hlt a8
    gi_wp2_with fail
    refine Rd.wpIn_region_p 9 (RB n w W (n + 1 + 1) [(n, 28, R), (n + 1, 28, Z32)]) (RB n w W (n + 1 + 1) [(n, 28, T), (n + 1, 28, Z32)]) (by kernel_rfl) (by kernel_rfl) (by kernel_rfl) rb0.drew ?_
    iterate 10
      (refine QT.wpQ_step (fun K hK => ?_)
       go_simp
       first
         | (refine hK _ ?_; clear hK K)
         | (refine ⟨?_, hK _ ?_⟩; decide; clear hK K)
         | ((first | (apply Exists.intro; refine ⟨?_, hK _ ?_⟩) | refine ⟨⟨undef, ?_⟩, hK _ ?_⟩)
            first
              | (apply QT.al_p; decide; (focus (intro wq hq; (first | (obtain ⟨hc1, hf1⟩ := CELLC.out _ hq) | skip); first | (fail) | (unfold QP.oat; go_simp; first | done | exact ⟨by assumption, rfl⟩ | exact rfl | assumption | ((rw [wrap_pow]; exact SETC.out _ hq))))))
              | (apply QT.al_dep; decide; decide; (focus (intro wq hq; (first | (obtain ⟨hc1, hf1⟩ := CELLC.out _ hq) | skip); first | (fail) | (unfold QP.oat; go_simp; first | done | exact ⟨by assumption, rfl⟩ | exact rfl | assumption | ((rw [wrap_pow]; exact SETC.out _ hq))))))
              | (apply QT.al_bef; decide; decide; (focus (intro wq hq; (first | (obtain ⟨hc1, hf1⟩ := CELLC.out _ hq) | skip); first | (fail) | (unfold QP.oat; go_simp; first | done | exact ⟨by assumption, rfl⟩ | exact rfl | assumption | ((rw [wrap_pow]; exact SETC.out _ hq))))))
              | (apply QT.al_ok; decide; (focus (intro wq hq; (first | (obtain ⟨hc1, hf1⟩ := CELLC.out _ hq) | skip); first | (fail) | (unfold QP.oat; go_simp; first | done | exact ⟨by assumption, rfl⟩ | exact rfl | assumption | ((rw [wrap_pow]; exact SETC.out _ hq))))); (focus (intro wq hq; (first | (obtain ⟨hc1, hf1⟩ := CELLC.out _ hq) | skip); first | (fail) | (unfold QP.oat; go_simp; first | done | exact ⟨by assumption, rfl⟩ | exact rfl | assumption | ((rw [wrap_pow]; exact SETC.out _ hq))))))
            clear hK K))
    refine QT.wpQ_nil ?_
    intro wz bz
    have hcv := HCV.out _ _ (bz.kb.rows (n, 28, T) List.mem_cons_self)
    gi_wp2_with fail
    refine ⟨trivial, ?_⟩
    refine (CallsIn.inRound l (callsIn_wide.2 (CS.out _ bz.kb.below))).mono ?_
    rintro e w3 ⟨rfl, gq⟩
    have b3 := bz.same gq
    have rT : w3.heap[n]? = some (.cells T 28 (0, 0)) := b3.kb.rows (n, 28, T) List.mem_cons_self
    have b4 := b3.setRow (fun x hx => by simp at hx; subst hx; show n + 1 ≠ n; omega) (Nat.le_refl _) (by omega) O
    clear gq bz hcv b3
    gi_wp2_with (refine Rd.list_store_row ?_ (x := .tmp 3) (y := .tmp 23) (cells := O) (old := T) (t := 28) (ty := 28) (g := n) ?_ ?_ ?_ rT iO zO oO ?_; rfl; rfl; rfl; rfl)
    exact ⟨b4.ko, b4.ki, by show KB n w [(n, 28, r8 32 (accB F (pre ++ [⟨b, hb⟩]))), (n + 1, 28, Z32)] _; rw [HSN.out, HO.out]; exact b4.kb⟩
  case done =>
    rintro D xs W hD hxs hI hK
    have hx : accB F xs = G := (HWK.out xs hxs).trans HG.out
    rw [hx] at hI
    have hb1 := belowK_b (w := w) (n₀ := n) (by rw [HN.out]; exact Nat.le_refl _)
    have rG : W.heap[n]? = some (.cells (r8 32 G) 28 (0, 0)) := hI.rows (n, 28, r8 32 G) List.mem_cons_self
    have rZ : W.heap[n + 1]? = some (.cells Z32 28 (0, 0)) := hI.rows (n + 1, 28, Z32) (by simp)
    have kz : KB n w [(n + 1, 28, Z32), (n, 28, r8 32 G)] W := hI.sub (by simp)
    have ks := kz.setRow (fun x hx => by simp at hx; subst hx; show n ≠ n + 1; omega) (by omega) (r8 32 G)
    have iG := r8_info G; have zG := r8_zero G; have oG := r8_one G
    have hK' : (W.setRow (n + 1) (r8 32 G)).heap[D]? = some (.deferred (some [])) := by
      simp only [World.setRow, Array.getElem?_modify]
      rw [if_neg (fun e => by rw [← e, rZ] at hK; cases hK)]; exact hK
    have HK' := Lib.hid hK'
    clear hK hK' hb1 hx hI kz
    gi_wp2_with (first
      | (refine Rd.wide_load_row ?_ (x := .tmp 3) (ty := 28) (g := n) (cs := r8 32 G) (t := 28) (fr := (0, 0)) ?_ ?_ _ rG und28 rfl iG ?_; rfl; rfl; rfl)
      | (refine Rd.wide_store_row ?_ (x := .tmp 6) (y := .tmp 24) (cells := r8 32 G) (old := Z32) (t := 28) (ty := 28) (g := n + 1) ?_ ?_ ?_ rZ iG zG oG ?_; rfl; rfl; rfl; rfl))
    refine ⟨by simp, .inl ⟨_, _, rfl, run_takeDeferred HK'.out, ?_⟩⟩
    have kp := ks.grown (grownBy_putObj' _ D (.deferred none)) (fun r e => by cases e; exact ⟨by rw [hsz] at hD; omega, _, HK'.out, rfl⟩)
    have q6 : ((W.setRow (n + 1) (r8 32 G)).putObj D (.deferred none)).heap[n + 1]? = some (.cells (r8 32 G) 28 (0, 0)) := kp.rows (n + 1, 28, r8 32 G) List.mem_cons_self
    have hload := run_loadVar_row (P := Tryd.prog) _ (n + 1) 28 28 (r8 32 G) (0, 0) _ q6 und28 rfl iG
    refine ⟨.agg (r8 32 G), ?_, rfl, by rw [HN.out]; exact kp.below⟩
    simp [results, Tryd.f65, asAddr, Act.put, hload]
  case stop =>
    rintro D c pre W _ _ h _
    exact h.elim
end Go.Proofs.YtpfcalamchdciaaDoor
