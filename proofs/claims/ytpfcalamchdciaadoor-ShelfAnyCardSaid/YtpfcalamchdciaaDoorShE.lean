/- What the shelf's Lookup returns; the conditions are that the tables are laid, that the shelf's block is known and that what was told are bytes. -/
import Derived.Test.YtpfcalamchdciaaDoorShD
namespace Go.Proofs.YtpfcalamchdciaaDoor
open Go.RowKit
set_option linter.unusedVariables false

def lkF (i : Int) (e : Ent) : Bool := can e.num i
def lkB (E : Nat → Ent) (i : Int) : Bool := lowB E (lkF i) 17
def lkV (E : Nat → Ent) (i : Int) : Ent := lowV E (lkF i) 17
def lkH (E : Nat → Ent) (i : Int) : Nat → Nat := if lkB E i then drH (lkV E i).told (lkV E i).num i else fun _ => 0
def lkE (E : Nat → Ent) (i : Int) : Int := if lkB E i then drE (lkV E i).num i else 3
theorem low_lt {E : Nat → Ent} {f : Ent → Bool} {p k : Nat} (h : low E f p = some k) : k < p ∧ (E k).full = true ∧ f (E k) = true := by
  unfold low at h
  have h1 := List.mem_of_find?_eq_some h
  have h2 := List.find?_some h
  simp only [Bool.and_eq_true] at h2
  exact ⟨List.mem_range.1 h1, h2.1, h2.2⟩
theorem lowV_told {E : Nat → Ent} {f : Ent → Bool} {p : Nat} (hE : ∀ b, b < p → ∀ j, (E b).told j < 256) : ∀ j, (lowV E f p).told j < 256 := by
  intro j
  unfold lowV
  split
  · next b hb => exact hE b (low_lt hb).1 j
  · show 0 < 256; decide
theorem sh_lowest (s fn : Nat) (E : Nat → Ent) (f : Ent → Bool) (caps : Array Value) (w : World) (hs : M.RowAt w s 71 (shC E)) (en : Enters Tryd.prog fn)
    (hcl : ∀ b, b < 17 → (E b).full = true → ∀ v, Below w.heap.size w v → Calls Tryd.prog fn (#[.agg (E b).row] ++ caps) v fun e w' => e = .returned (.bool (f (E b))) ∧ Below v.heap.size v w') :
    Calls Tryd.prog 69 #[.pointer (some ⟨s, 0, none⟩), .int .i64 17, .func (.func fn) #[] caps] w fun e w' => e = .returned (.tuple #[.agg (lowV E f 17).row, .bool (lowB E f 17)]) ∧ Below w.heap.size w w' :=
  lowest_any s 17 fn E f caps w hs (Nat.le_refl _) en hcl

set_option maxRecDepth 100000 in
set_option maxHeartbeats 4000000 in
theorem lookup_any (s : Nat) (E : Nat → Ent) (i : Int) (w : World) (ht : Tabs w) (hz : TzT w) (hE : ∀ b, b < 17 → ∀ j, (E b).told j < 256) (hs : M.RowAt w s 71 (shC E)) :
    Calls Tryd.prog 51 #[.pointer (some ⟨s, 0, none⟩), .int .i64 i] w fun e w' => e = .returned (.tuple #[.agg (r8 32 (lkH E i)), .int .i64 (lkE E i)]) ∧ Below w.heap.size w w' := by
  obtain ⟨n, hn⟩ : ∃ n, w.heap.size = n := ⟨_, rfl⟩
  have HN := Lib.hid hn
  have h1n : 1 < n := hn ▸ ht.lt
  have h3n : 3 < n := hn ▸ hz.lt
  have hsn : s < n := hn ▸ hs.lt
  have tb := fun v (hb : Below n w v) => ht.below hb h1n
  have tz := fun v (hb : Below n w v) => hz.below hb h3n
  have row := fun v (hb : Below n w v) => hs.below hb hsn
  have k0 := ((KB.start w).new 3 #[.int .i64 i]).new 28 Z32
  rw [World.size_alloc, hn] at k0
  have lw := fun v (k : KB n w [(n + 1, 28, Z32), (n, 3, #[.int .i64 i])] v) => sh_lowest s 71 E (lkF i) #[.pointer (some ⟨n, 0, none⟩)] v (row v k.below) enters71
    (fun b _ _ u hb => tells_any (E b) i n u (tz u (k.same hb).below) ((k.same hb).row n 3 _ (by simp)))
  have hT := lowV_told (f := lkF i) hE
  have eV : lowV E (lkF i) 17 = lkV E i := rfl
  have eB : lowB E (lkF i) 17 = lkB E i := rfl
  rw [eV] at hT
  rw [eV, eB] at lw
  unfold lkH lkE
  generalize lkV E i = e at *
  have iL := ent_info e
  have oL := e.row_one
  have zL : Z68.size = e.row.size := by unfold Z68; rw [Ent.row_size, Ent.row_size]
  have iZ := r8_info (fun _ => 0)
  rw [z32_r8] at iZ
  have oZ : Z32.all (·.oneCell') = true := by kernel_rfl
  have dr := fun v (hb : Below n w v) => derive_any e.told e.num i v (tb v hb) (tz v hb) hT
  have iD := r8_info (drH e.told e.num i); have zD := r8_zero (drH e.told e.num i); have oD := r8_one (drH e.told e.num i)
  have g2 := fun (g : Nat) (v : World) (k : M.RowAt v g 68 e.row) => Ent.range2 (e := e) k
  have iR : (Tryd.prog.info? 28).map (·.size) = some (r8 32 e.told).toList.length := by rw [Array.length_toList]; exact r8_info e.told
  have hcell := fun (g : Nat) (v : World) (k : M.RowAt v g 68 e.row) => (M.RowAt.cell k 1).trans e.c1
  obtain ⟨V, hV⟩ : ∃ V, (w.alloc (.cells #[.int .i64 i] 3)).alloc (.cells #[.int .u8 0, .int .u8 0, .int .u8 0, .int .u8 0, .int .u8 0, .int .u8 0, .int .u8 0, .int .u8 0, .int .u8 0, .int .u8 0, .int .u8 0, .int .u8 0, .int .u8 0, .int .u8 0, .int .u8 0, .int .u8 0, .int .u8 0, .int .u8 0, .int .u8 0, .int .u8 0, .int .u8 0, .int .u8 0, .int .u8 0, .int .u8 0, .int .u8 0, .int .u8 0, .int .u8 0, .int .u8 0, .int .u8 0, .int .u8 0, .int .u8 0, .int .u8 0] 28) = V := ⟨_, rfl⟩
  have kV : KB n w [(n + 1, 28, Z32), (n, 3, #[.int .i64 i])] V := hV ▸ k0
  have HV := Lib.hid hV
  have hrr : (r8 32 e.told).toList.toArray = r8 32 e.told := Array.toArray_toList
  have LW := Lib.hid lw; have DR := Lib.hid dr; have G2 := Lib.hid g2; have HC := Lib.hid hcell
  cases hb : lkB E i
  · have z1 : r8 32 (if (false = true) then drH e.told e.num i else fun _ => 0) = Z32 := z32_r8
    rw [z1, if_neg (by decide)]
    rw [hb] at LW
    generalize e.row = R at *
    clear z1 dr g2 hcell lw hT tb tz ht hz h1n h3n hsn row hs hV k0 hb eV eB hE
    go_enter Tryd.func51, Tryd.ntmps51
    go_wp2_with fail
    rw [HV.out]
    refine (LW.out _ kV).mono ?_
    rintro r w1 ⟨rfl, gq⟩
    have k1 := kV.same gq
    clear gq kV hn
    obtain ⟨g, VG, UG, hg, hVG, rVG, hUG, kg, geg, ltg⟩ := k1.box 68 (#[.bool false, .int .i64 0, .int .u8 0, .int .u8 0, .int .u8 0, .int .u8 0, .int .u8 0, .int .u8 0, .int .u8 0, .int .u8 0, .int .u8 0, .int .u8 0, .int .u8 0, .int .u8 0, .int .u8 0, .int .u8 0, .int .u8 0, .int .u8 0, .int .u8 0, .int .u8 0, .int .u8 0, .int .u8 0, .int .u8 0, .int .u8 0, .int .u8 0, .int .u8 0, .int .u8 0, .int .u8 0, .int .u8 0, .int .u8 0, .int .u8 0, .int .u8 0, .int .u8 0, .int .u8 0]) R
    have Hg := Lib.hid hg; have HVG := Lib.hid hVG; have HUG := Lib.hid hUG
    have hlg : n + 1 < g := ltg (n + 1, 28, Z32) (by simp)
    have rN := kg.row (n + 1) 28 Z32 (by simp)
    have kW := (kg.sub (L' := [(n + 1, 28, Z32), (n, 3, #[.int .i64 i])]) (by simp)).setRow (fun x hx => by simp at hx; subst hx; show n ≠ n + 1; omega) (by omega) Z32
    have rW := kW.row (n + 1) 28 Z32 (by simp)
    clear hg hVG hUG k1 ltg
    go_wp2_with (first
      | (rw [Hg.out, HVG.out]; refine wpList_store_row (x := .tmp 6) (y := .tmp 12) (cells := R) (old := #[.bool false, .int .i64 0, .int .u8 0, .int .u8 0, .int .u8 0, .int .u8 0, .int .u8 0, .int .u8 0, .int .u8 0, .int .u8 0, .int .u8 0, .int .u8 0, .int .u8 0, .int .u8 0, .int .u8 0, .int .u8 0, .int .u8 0, .int .u8 0, .int .u8 0, .int .u8 0, .int .u8 0, .int .u8 0, .int .u8 0, .int .u8 0, .int .u8 0, .int .u8 0, .int .u8 0, .int .u8 0, .int .u8 0, .int .u8 0, .int .u8 0, .int .u8 0, .int .u8 0, .int .u8 0]) (t := 68) (ty := 68) (g := g) ?_ ?_ ?_ ?_ rVG iL zL oL ?_; rfl; rfl; rfl; rfl; rw [HUG.out])
      | (refine wpList_store_row (x := .tmp 4) (y := .tmp 16) (cells := Z32) (old := Z32) (t := 28) (ty := 28) (g := n + 1) ?_ ?_ ?_ ?_ rN iZ rfl oZ ?_; rfl; rfl; rfl; rfl)
      | fail)
    have hload := run_loadVar_row (P := Tryd.prog) _ (n + 1) 28 28 Z32 (0, 0) _ rW und28 rfl iZ
    refine bodyPost_ret (v := .tuple #[.agg Z32, .int .i64 3]) (by simp [results, Tryd.results51, asAddr, hload]) rfl ⟨rfl, ?_⟩
    rw [HN.out]
    exact kW.below
  · rw [if_pos rfl, if_pos rfl]
    rw [hb] at LW
    obtain ⟨Y, hY⟩ : ∃ Y, (r8 32 e.told).toList = Y := ⟨_, rfl⟩
    rw [hY] at iR G2 hrr
    generalize drE e.num i = x at *
    generalize r8 32 (drH e.told e.num i) = D at *
    generalize r8 32 e.told = C at *
    generalize e.row = R at *
    generalize e.num = num at *
    clear dr g2 hcell lw hT tb tz ht hz h1n h3n hsn row hs hV k0 hb eV eB hE hY
    go_enter Tryd.func51, Tryd.ntmps51
    go_wp2_with fail
    rw [HV.out]
    refine (LW.out _ kV).mono ?_
    rintro r w1 ⟨rfl, gq⟩
    have k1 := kV.same gq
    clear gq kV hn
    obtain ⟨g, VG, UG, hg, hVG, rVG, hUG, kg, geg, ltg⟩ := k1.box 68 (#[.bool false, .int .i64 0, .int .u8 0, .int .u8 0, .int .u8 0, .int .u8 0, .int .u8 0, .int .u8 0, .int .u8 0, .int .u8 0, .int .u8 0, .int .u8 0, .int .u8 0, .int .u8 0, .int .u8 0, .int .u8 0, .int .u8 0, .int .u8 0, .int .u8 0, .int .u8 0, .int .u8 0, .int .u8 0, .int .u8 0, .int .u8 0, .int .u8 0, .int .u8 0, .int .u8 0, .int .u8 0, .int .u8 0, .int .u8 0, .int .u8 0, .int .u8 0, .int .u8 0, .int .u8 0]) R
    have Hg := Lib.hid hg; have HVG := Lib.hid hVG; have HUG := Lib.hid hUG
    have hlg : n + 1 < g := ltg (n + 1, 28, Z32) (by simp)
    have rg := G2.out g UG (kg.row g 68 R (by simp))
    have cG := HC.out g UG (kg.row g 68 R (by simp))
    have c0 : UG.cell? ⟨n, 0, none⟩ = some (.int .i64 i) := (M.RowAt.cell (kg.row n 3 #[.int .i64 i] (by simp)) 0).trans rfl
    clear hg hVG hUG k1 ltg
    go_wp2_with (first
      | (rw [Hg.out, HVG.out]; refine wpList_store_row (x := .tmp 6) (y := .tmp 12) (cells := R) (old := #[.bool false, .int .i64 0, .int .u8 0, .int .u8 0, .int .u8 0, .int .u8 0, .int .u8 0, .int .u8 0, .int .u8 0, .int .u8 0, .int .u8 0, .int .u8 0, .int .u8 0, .int .u8 0, .int .u8 0, .int .u8 0, .int .u8 0, .int .u8 0, .int .u8 0, .int .u8 0, .int .u8 0, .int .u8 0, .int .u8 0, .int .u8 0, .int .u8 0, .int .u8 0, .int .u8 0, .int .u8 0, .int .u8 0, .int .u8 0, .int .u8 0, .int .u8 0, .int .u8 0, .int .u8 0]) (t := 68) (ty := 68) (g := g) ?_ ?_ ?_ ?_ rVG iL zL oL ?_; rfl; rfl; rfl; rfl; rw [HUG.out])
      | (refine wpList_load_mid (ty := 28) (x := .tmp 17) (b := g) (o := 2) (cs := Y) ?_ ?_ ?_ _ rg und28 rfl iR ?_; rfl; rfl; rfl; rw [hrr])
      | fail)
    refine (DR.out _ kg.below).mono ?_
    rintro r w2 ⟨rfl, gq⟩
    have k2 := (kg.same gq).sub (L' := [(n + 1, 28, Z32), (n, 3, #[.int .i64 i])]) (by simp)
    have rN := k2.row (n + 1) 28 Z32 (by simp)
    have kW := k2.setRow (fun x hx => by simp at hx; subst hx; show n ≠ n + 1; omega) (by omega) D
    have rW := kW.row (n + 1) 28 D (by simp)
    clear gq kg Hg HVG HUG rVG rg cG c0
    go_wp2_with (first
      | (refine wpList_store_row (x := .tmp 4) (y := .tmp 23) (cells := D) (old := Z32) (t := 28) (ty := 28) (g := n + 1) ?_ ?_ ?_ ?_ rN iD zD oD ?_; rfl; rfl; rfl; rfl)
      | fail)
    have hload := run_loadVar_row (P := Tryd.prog) _ (n + 1) 28 28 D (0, 0) _ rW und28 rfl iD
    refine bodyPost_ret (v := .tuple #[.agg D, .int .i64 x]) (by simp [results, Tryd.results51, asAddr, hload]) rfl ⟨rfl, ?_⟩
    rw [HN.out]
    exact kW.below
end Go.Proofs.YtpfcalamchdciaaDoor
