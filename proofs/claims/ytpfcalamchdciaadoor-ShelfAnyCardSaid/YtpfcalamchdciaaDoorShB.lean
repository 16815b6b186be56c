/- What the shelf's lowest returns: the first place that has a secret of which a function holds; the conditions are that the shelf's block is known and what the function returns. -/
import Derived.Test.YtpfcalamchdciaaDoorShA
import Derived.Test.YtpfcalamchdciaaDoorSeF
import Derived.Shelf.Abstract
namespace Go.Proofs.YtpfcalamchdciaaDoor
open Go.RowKit
set_option linter.unusedVariables false

def Z68 : Array Value := none0.row
theorem z68_lit : Z68 = #[.bool false, .int .i64 0, .int .u8 0, .int .u8 0, .int .u8 0, .int .u8 0, .int .u8 0, .int .u8 0, .int .u8 0, .int .u8 0, .int .u8 0, .int .u8 0, .int .u8 0, .int .u8 0, .int .u8 0, .int .u8 0, .int .u8 0, .int .u8 0, .int .u8 0, .int .u8 0, .int .u8 0, .int .u8 0, .int .u8 0, .int .u8 0, .int .u8 0, .int .u8 0, .int .u8 0, .int .u8 0, .int .u8 0, .int .u8 0, .int .u8 0, .int .u8 0, .int .u8 0, .int .u8 0] := by rfl
theorem und69 : Tryd.prog.underlying 69 = some (.array 17 68) := by kernel_rfl
theorem slice_shelf (s p : Nat) (hp : p ≤ 17) (W : World) : (Instr.sliceAt 69 (.pointer (some ⟨s, 0, none⟩)) none (some (.int .i64 (p : Nat))) none).run Tryd.prog W = .ok (.slice (some ⟨s, 0, none⟩) p 17) W := by
  have h1 : (0 : Int) ≤ p := by omega
  have h2 : (p : Int) ≤ 17 := by omega
  simp [Instr.sliceAt, go_sem, run_underlying und69, h1, h2]
/-- the first place below p of which f holds -/
def low (E : Nat → Ent) (f : Ent → Bool) (p : Nat) : Option Nat := (List.range p).find? fun b => (E b).full && f (E b)
def lowV (E : Nat → Ent) (f : Ent → Bool) (p : Nat) : Ent := match low E f p with | some b => E b | none => none0
def lowB (E : Nat → Ent) (f : Ent → Bool) (p : Nat) : Bool := (low E f p).isSome
theorem low_none {E : Nat → Ent} {f : Ent → Bool} {p : Nat} (h : ∀ b, b < p → ((E b).full && f (E b)) = false) : low E f p = none := by
  unfold low
  rw [List.find?_eq_none]
  intro b hb
  rw [h b (List.mem_range.1 hb)]; decide
theorem low_some {E : Nat → Ent} {f : Ent → Bool} {p k : Nat} (hk : k < p) (h : ∀ b, b < k → ((E b).full && f (E b)) = false) (h1 : ((E k).full && f (E k)) = true) : low E f p = some k := by
  unfold low
  obtain ⟨d, rfl⟩ : ∃ d, p = k + (d + 1) := ⟨p - k - 1, by omega⟩
  rw [List.range_add, List.find?_append]
  have e : (List.range k).find? (fun b => (E b).full && f (E b)) = none := low_none h
  rw [e, List.range_succ_eq_map]
  simp [h1]

set_option maxRecDepth 100000 in
set_option maxHeartbeats 4000000 in
theorem lowest_any (s p fn : Nat) (E : Nat → Ent) (f : Ent → Bool) (caps : Array Value) (w : World) (hs : M.RowAt w s 71 (shC E)) (hp : p ≤ 17) (en : Enters Tryd.prog fn)
    (hcl : ∀ b, b < p → (E b).full = true → ∀ v, Below w.heap.size w v → Calls Tryd.prog fn (#[.agg (E b).row] ++ caps) v fun e w' => e = .returned (.bool (f (E b))) ∧ Below v.heap.size v w') :
    Calls Tryd.prog 69 #[.pointer (some ⟨s, 0, none⟩), .int .i64 (p : Nat), .func (.func fn) #[] caps] w fun e w' => e = .returned (.tuple #[.agg (lowV E f p).row, .bool (lowB E f p)]) ∧ Below w.heap.size w w' := by
  obtain ⟨n, hn⟩ : ∃ n, w.heap.size = n := ⟨_, rfl⟩
  have HN := Lib.hid hn
  have hsn : s < n := hn ▸ hs.lt
  have kb := (KB.start w).new 68 Z68
  rw [hn] at kb hcl
  have hrow := fun v (hb : Below n w v) => hs.below hb hsn
  obtain ⟨V, hV⟩ : ∃ V, w.alloc (.cells Z68 68) = V := ⟨_, rfl⟩
  rw [hV] at kb
  have hV' := hV
  rw [z68_lit] at hV'
  have HV := Lib.hid hV'
  have HCL := Lib.hid hcl; have HROW := Lib.hid hrow
  have hsl := slice_shelf s p hp
  have i0 : (Tryd.prog.info? 68).map (·.size) = some Z68.size := ent_info none0
  have o0 : Z68.all (·.oneCell') = true := none0.row_one
  clear hV hV' hcl hrow hs
  go_enter Tryd.func69, Tryd.ntmps69
  go_wp2
  rw [HV.out]
  clear hn hsl
  go_loopg [16] p (fun m i v => ∃ k : Nat, m + k = p ∧ i = .int .i64 k ∧ Hid (∀ b, b < k → ((E b).full && f (E b)) = false) ∧ KB n w [(n, 68, Z68)] v)
  case atStart => exact ⟨0, by omega, rfl, fun b hb => absurd hb (by omega), kb⟩
  case round =>
    clear kb
    obtain ⟨k, hm, rfl, hno, kb⟩ := hrel
    by_cases hlt : k < p
    · have rs := HROW.out _ kb.below
      have rg := sh_range rs k (by omega)
      rw [Nat.mul_comm 34 k] at rg
      have iL := ent_infoL (E k)
      have iR := ent_info (E k)
      have oR := (E k).row_one
      have zR : Z68.size = (E k).row.size := by unfold Z68; rw [Ent.row_size, Ent.row_size]
      have c0 : (E k).row[0]? = some (.bool (E k).full) := (E k).c0
      have hrow : (E k).cells.toArray = (E k).row := rfl
      have hk3 : (k : Int) < p := by omega
      obtain ⟨g, VG, UG, hg, hVG, rVG, hUG, kg, geg, ltg⟩ := kb.box 68 (#[.bool false, .int .i64 0, .int .u8 0, .int .u8 0, .int .u8 0, .int .u8 0, .int .u8 0, .int .u8 0, .int .u8 0, .int .u8 0, .int .u8 0, .int .u8 0, .int .u8 0, .int .u8 0, .int .u8 0, .int .u8 0, .int .u8 0, .int .u8 0, .int .u8 0, .int .u8 0, .int .u8 0, .int .u8 0, .int .u8 0, .int .u8 0, .int .u8 0, .int .u8 0, .int .u8 0, .int .u8 0, .int .u8 0, .int .u8 0, .int .u8 0, .int .u8 0, .int .u8 0, .int .u8 0]) (E k).row
      have Hg := Lib.hid hg; have HVG := Lib.hid hVG; have HUG := Lib.hid hUG
      have rG := kg.row g 68 (E k).row (by simp)
      have cG := (M.RowAt.cell rG 0).trans c0
      have hng : n < g := ltg (n, 68, Z68) (by simp)
      clear hg hVG hUG kb ltg rs
      have HNO := Lib.hid hno
      have hcl := fun v hb hf => HCL.out k hlt hf v hb
      have HK := Lib.hid hcl
      have hsome := fun h1 => low_some (E := E) (f := f) hlt hno h1
      have HS := Lib.hid hsome
      have hEk : ∃ e, E k = e := ⟨_, rfl⟩
      obtain ⟨e, he⟩ := hEk
      rw [he] at rg iL iR oR zR hrow kg rG cG HK HS HUG
      have HE := Lib.hid he
      obtain ⟨D, hD⟩ : ∃ D, e.row = D := ⟨_, rfl⟩
      rw [hD] at iR oR zR hrow kg rG HK HUG
      have HD := Lib.hid hD
      clear hno hcl hsome he hD c0
      obtain ⟨fl, hfl⟩ : ∃ fl, e.full = fl := ⟨_, rfl⟩
      rw [hfl] at cG
      cases fl
      · have hadd : ((E k).full && f (E k)) = false := by rw [HE.out, hfl]; rfl
        have HADD := Lib.hid hadd
        clear hadd hfl
        go_wp2_with (first
          | (refine wpList_load_mid (ty := 68) (x := .tmp 18) (b := s) (o := k * 34) (cs := e.cells) ?_ ?_ ?_ _ rg Tryd.underlying68 rfl iL ?_; rfl; rfl; rfl; rw [hrow])
          | (rw [Hg.out, HVG.out]; refine wpList_store_row (x := .tmp 9) (y := .tmp 19) (cells := D) (old := #[.bool false, .int .i64 0, .int .u8 0, .int .u8 0, .int .u8 0, .int .u8 0, .int .u8 0, .int .u8 0, .int .u8 0, .int .u8 0, .int .u8 0, .int .u8 0, .int .u8 0, .int .u8 0, .int .u8 0, .int .u8 0, .int .u8 0, .int .u8 0, .int .u8 0, .int .u8 0, .int .u8 0, .int .u8 0, .int .u8 0, .int .u8 0, .int .u8 0, .int .u8 0, .int .u8 0, .int .u8 0, .int .u8 0, .int .u8 0, .int .u8 0, .int .u8 0, .int .u8 0, .int .u8 0]) (t := 68) (ty := 68) (g := g) ?_ ?_ ?_ ?_ rVG iR zR oR ?_; rfl; rfl; rfl; rfl; rw [HUG.out])
          | fail)
        go_roundg (p - (k + 1))
        case measure => omega
        case rel => exact ⟨k + 1, by omega, by go_num, fun b hb => by
          by_cases eb : b = k
          · subst eb; exact HADD.out
          · exact HNO.out b (by omega), kg.sub (by simp)⟩
      · have hc := HK.out UG kg.below hfl
        obtain ⟨fe, hfe⟩ : ∃ fe, f e = fe := ⟨_, rfl⟩
        rw [hfe] at hc
        have HC := Lib.hid hc
        have HFL := Lib.hid hfl
        clear hc hfl
        go_wp2_with (first
          | (refine wpList_load_mid (ty := 68) (x := .tmp 18) (b := s) (o := k * 34) (cs := e.cells) ?_ ?_ ?_ _ rg Tryd.underlying68 rfl iL ?_; rfl; rfl; rfl; rw [hrow])
          | (rw [Hg.out, HVG.out]; refine wpList_store_row (x := .tmp 9) (y := .tmp 19) (cells := D) (old := #[.bool false, .int .i64 0, .int .u8 0, .int .u8 0, .int .u8 0, .int .u8 0, .int .u8 0, .int .u8 0, .int .u8 0, .int .u8 0, .int .u8 0, .int .u8 0, .int .u8 0, .int .u8 0, .int .u8 0, .int .u8 0, .int .u8 0, .int .u8 0, .int .u8 0, .int .u8 0, .int .u8 0, .int .u8 0, .int .u8 0, .int .u8 0, .int .u8 0, .int .u8 0, .int .u8 0, .int .u8 0, .int .u8 0, .int .u8 0, .int .u8 0, .int .u8 0, .int .u8 0, .int .u8 0]) (t := 68) (ty := 68) (g := g) ?_ ?_ ?_ ?_ rVG iR zR oR ?_; rfl; rfl; rfl; rfl; rw [HUG.out])
          | (refine wpList_load_row_g (x := .tmp 9) (ty := 68) (g := g) (cs := D) (t := 68) (fr := (0, 0)) ?_ ?_ ?_ _ rG Tryd.underlying68 rfl iR ?_; rfl; rfl; rfl)
          | fail)
        rw [en, Oper.upon_enter]
        refine (HC.out).mono ?_
        rintro e2 w2 ⟨rfl, gq⟩
        have k2 := kg.same gq
        have rG2 := k2.row g 68 D (by simp)
        have rN2 := k2.row n 68 Z68 (by simp)
        clear gq kg rG rVG Hg HVG HUG rg
        cases fe
        · have hadd : ((E k).full && f (E k)) = false := by rw [HE.out, hfe, HFL.out]; rfl
          have HADD := Lib.hid hadd
          clear hadd hfe
          go_wp2
          go_roundg (p - (k + 1))
          case measure => omega
          case rel => exact ⟨k + 1, by omega, by go_num, fun b hb => by
            by_cases eb : b = k
            · subst eb; exact HADD.out
            · exact HNO.out b (by omega), k2.sub (by simp)⟩
        · have hl := HS.out (by rw [hfe, HFL.out]; rfl)
          have e1 : (lowV E f p).row = D := by unfold lowV; rw [hl]; show (E k).row = D; rw [HE.out, HD.out]
          have e2 : lowB E f p = true := by unfold lowB; rw [hl]; rfl
          have E1 := Lib.hid e1; have E2 := Lib.hid e2
          have kn := (k2.sub (L' := [(n, 68, Z68), (g, 68, D)]) (by simp)).setRow (fun x hx => by simp at hx; subst hx; show g ≠ n; omega) (Nat.le_refl _) D
          have rW := kn.row n 68 D (by simp)
          clear e1 e2 hl hfe
          go_wp2_with (first
            | (refine wpList_load_row (x := .tmp 9) (ty := 68) (g := g) (cs := D) (t := 68) (fr := (0, 0)) ?_ ?_ ?_ _ rG2 Tryd.underlying68 rfl iR ?_; rfl; rfl; rfl)
            | (refine wpList_store_row (x := .tmp 6) (y := .tmp 27) (cells := D) (old := Z68) (t := 68) (ty := 68) (g := n) ?_ ?_ ?_ ?_ rN2 iR zR oR ?_; rfl; rfl; rfl; rfl))
          have hload := run_loadVar_row (P := Tryd.prog) _ n 68 68 D (0, 0) _ rW Tryd.underlying68 rfl iR
          refine bodyPost_ret (v := .tuple #[.agg D, .bool true]) (by simp [results, Tryd.results69, asAddr, hload]) rfl ⟨by rw [E1.out, E2.out], ?_⟩
          rw [HN.out]
          exact kn.below
    · obtain rfl : k = p := by omega
      have hl := low_none hno
      have e1 : (lowV E f k).row = Z68 := by unfold lowV; rw [hl]; rfl
      have e2 : lowB E f k = false := by unfold lowB; rw [hl]; rfl
      have E1 := Lib.hid e1; have E2 := Lib.hid e2
      have rn := kb.row n 68 Z68 (by simp)
      have kW := kb.setRow (fun x hx => by simp at hx) (Nat.le_refl _) Z68
      have rW := kW.row n 68 Z68 (by simp)
      clear e1 e2 hl hno hm
      go_wp2_with (refine wpList_store_row (x := .tmp 6) (y := .tmp 29) (cells := Z68) (old := Z68) (t := 68) (ty := 68) (g := n) ?_ ?_ ?_ ?_ rn i0 rfl o0 ?_; rfl; rfl; rfl; rfl)
      have hload := run_loadVar_row (P := Tryd.prog) _ n 68 68 Z68 (0, 0) _ rW Tryd.underlying68 rfl i0
      refine bodyPost_ret (v := .tuple #[.agg Z68, .bool false]) (by simp [results, Tryd.results69, asAddr, hload]) rfl ⟨by rw [E1.out, E2.out], ?_⟩
      rw [HN.out]
      exact kW.below
end Go.Proofs.YtpfcalamchdciaaDoor
