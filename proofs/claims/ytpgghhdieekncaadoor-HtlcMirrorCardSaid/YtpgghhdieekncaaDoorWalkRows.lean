/- The walks of the six laws in the form that the rows ask: from what a row lists to the tables in the world, then the walk; the conditions are the rows' own. -/
import Derived.Test.YtpgghhdieekncaaDoorRowKit
import Derived.Test.YtpgghhdieekncaaDoorLawB
namespace Go.Proofs.YtpgghhdieekncaaDoor
open Go.RowKit

theorem two_rows {w : World} {g t e : Nat} {n : String} {m : Nat} {cs : Array Value} {fuel : Nat} {a b : List Int} {p : List MemPlace}
    (ht : Tryd.prog.underlying t = some (.array 2 e)) (he : Tryd.prog.underlying e = some (.array m 3)) (hce : Tryd.prog.cellsOf e = m) (_hct : Tryd.prog.cellsOf t = m + m) (hla : a.length = m) (hlb : b.length = m)
    (hg : Tryd.prog.globalNamed n = some g) (hv : w.var? Tryd.prog n = some cs)
    (hd : DataW.trod (fun _ => ()) Tryd.prog w 0 (fun _ => true) false fuel t cs.toList = some (.agg [Lib.tabData .i64 a, Lib.tabData .i64 b], p)) :
    ∀ k, k < m → w.cell? ⟨g, k, none⟩ = some (.int .i64 (a.getD k 0)) ∧ w.cell? ⟨g, m + k, none⟩ = some (.int .i64 (b.getD k 0)) := by
  obtain ⟨xs, f, rfl, hx, hcl, hxl, hel⟩ := DataW.trod_array ht hd
  have h5 : Tryd.prog.underlying 3 = some (.int .i64) := by kernel_rfl
  have hc5 : Tryd.prog.cellsOf 3 = 1 := by kernel_rfl
  rw [hce] at hel
  match xs, hxl, hx, hel with
  | [x0, x1], _, hx, hel =>
    have e0 := hel 0 (by omega)
    have e1 := hel 1 (by omega)
    simp only [List.map_cons, List.map_nil, Prod.mk.injEq, DataW.agg.injEq, List.cons.injEq, and_true] at hx
    obtain ⟨⟨hx0, hx1⟩, _⟩ := hx
    obtain ⟨y0, z0⟩ := x0
    obtain ⟨y1, z1⟩ := x1
    simp only at hx0 hx1
    subst hx0 hx1
    have r0 := Lib.cells_of_tab he h5 hc5 hce e0
    have r1 := Lib.cells_of_tab he h5 hc5 hce e1
    intro k hk
    constructor
    · have hc := World.var?_cell hg hv k
      rw [hc]
      have := congrArg (·[k]?) r0
      simp only [Nat.zero_mul, List.drop_zero, List.getElem?_take_of_lt hk, List.getElem?_map] at this
      rw [← Array.getElem?_toList, this]
      have hka : k < a.length := by omega
      simp [List.getElem?_eq_getElem hka]
    · have hc := World.var?_cell hg hv (m + k)
      rw [hc]
      have := congrArg (·[k]?) r1
      simp only [Nat.one_mul, List.getElem?_take_of_lt hk, List.getElem?_map, List.getElem?_drop] at this
      rw [← Array.getElem?_toList, this]
      have hkb : k < b.length := by omega
      simp [List.getElem?_eq_getElem hkb]

def ev0 : List Int := [3, 4, 1, 2, 0, 1, 2, 3, 4, 0]
def ev1 : List Int := [1, 2, 3, 4, 0, 3, 4, 1, 2, 0]

theorem he_of {w : World} {laid : List (String × DataW Unit)} (h : laidMet Tryd.prog laid w) (hm : ("remitter/htlc.events", Rows.laid_remitter_htlc_events) ∈ laid) : HE w := by
  obtain ⟨ps, hv, _⟩ := h
  obtain ⟨g', t', cs, fuel, p, hg', ht', hvar, hd⟩ := RowK.laid_get hv hm
  have hg : Tryd.prog.globalNamed "remitter/htlc.events" = some 0 := by kernel_rfl
  have hty : (Tryd.prog.globals[0]?).map (·.type) = some 35 := by kernel_rfl
  obtain rfl := Option.some.inj (hg.symm.trans hg')
  obtain rfl := Option.some.inj (hty.symm.trans ht')
  have H := two_rows (a := ev0) (b := ev1) (m := 10) (e := 34) (by kernel_rfl) (by kernel_rfl) (by kernel_rfl) (by kernel_rfl) rfl rfl hg hvar hd
  refine ⟨fun k hk => ?_, fun k hk => ?_⟩
  · exact (H k hk).2
  · exact (H k hk).1

theorem ht_of {w : World} {laid : List (String × DataW Unit)} (h : laidMet Tryd.prog laid w) (hm : ("remitter/htlc.events", Rows.laid_remitter_htlc_events) ∈ laid) (hm' : ("remitter/htlc.spans", Rows.laid_remitter_htlc_spans) ∈ laid) : HT w := by
  have h1 := he_of h hm
  obtain ⟨ps, hv, _⟩ := h
  obtain ⟨g', t', cs, fuel, p, hg', ht', hvar, hd⟩ := RowK.laid_get hv hm'
  have hg : Tryd.prog.globalNamed "remitter/htlc.spans" = some 1 := by kernel_rfl
  have hty : (Tryd.prog.globals[1]?).map (·.type) = some 38 := by kernel_rfl
  obtain rfl := Option.some.inj (hg.symm.trans hg')
  obtain rfl := Option.some.inj (hty.symm.trans ht')
  have H := two_rows (a := [1, 7]) (b := [3, 5]) (m := 2) (e := 37) (by kernel_rfl) (by kernel_rfl) (by kernel_rfl) (by kernel_rfl) rfl rfl hg hvar hd
  exact ⟨h1, (H 0 (by omega)).1, (H 1 (by omega)).1, (H 0 (by omega)).2, (H 1 (by omega)).2⟩

theorem evs_of {w : World} {p : Option Addr} {len cap : Nat} {zs : List Int} (h : RowK.IsRow .u8 w p len cap zs) :
    ∃ b off, (∀ j, 0 ≤ zs.getD j 0 ∧ zs.getD j 0 ≤ 255) ∧ (len = 0 ∨ b < w.heap.size) ∧ (len = 0 ∨ p = some ⟨b, off, none⟩) ∧ Evs w b off len zs := by
  obtain ⟨b, off, h1, h2, h3, _, _, h4, h5⟩ := h.plain
  refine ⟨b, off, fun j => ?_, h1, h2, h4⟩
  by_cases hj : j < zs.length
  · have : zs.getD j 0 ∈ zs := by simp [hj]
    exact RowK.wf_u8 (h5 _ this)
  · simp [hj]

theorem walk_HtlcTells (a0 : Int) (_w0 : (Lit.int .i64 a0).wf = true) (a1 : Bool) (a2 : Int) (_w2 : (Lit.int .i64 a2).wf = true) {W : World} (hL : laidMetH Tryd.prog Rows.htlcTellsRow.laid W) :
    Calls Tryd.prog 5 #[.int .i64 a0, .bool a1, .int .i64 a2] W (Fine W) :=
  tells_walk a0 a2 a1 W (ht_of hL (by simp [Rows.htlcTellsRow]) (by simp [Rows.htlcTellsRow]))
theorem walk_HtlcOut (a0 : Int) (_w0 : (Lit.int .i64 a0).wf = true) (a1 : Bool) (a2 : Int) (_w2 : (Lit.int .i64 a2).wf = true) {W : World} (hL : laidMetH Tryd.prog Rows.htlcOutRow.laid W) :
    Calls Tryd.prog 8 #[.int .i64 a0, .bool a1, .int .i64 a2] W (Fine W) :=
  out_walk a0 a2 a1 W (ht_of hL (by simp [Rows.htlcOutRow]) (by simp [Rows.htlcOutRow]))
theorem walk_HtlcMirror (a0 : Int) (w0 : (Lit.int .u8 a0).wf = true) (a1 : Bool) (a2 : Int) (w2 : (Lit.int .u8 a2).wf = true) {W : World} (hL : laidMetH Tryd.prog Rows.htlcMirrorRow.laid W) :
    Calls Tryd.prog 6 #[.int .u8 a0, .bool a1, .int .u8 a2] W (Fine W) :=
  mirror_walk a0 a2 a1 W (ht_of hL (by simp [Rows.htlcMirrorRow]) (by simp [Rows.htlcMirrorRow])) (RowK.wf_u8 w0).1 (RowK.wf_u8 w0).2 (RowK.wf_u8 w2).1 (RowK.wf_u8 w2).2
theorem walk_HtlcGoes (a0 : Bool) (a1 : Int) (w1 : (Lit.int .u8 a1).wf = true) {W : World} (hL : laidMetH Tryd.prog Rows.htlcGoesRow.laid W) :
    Calls Tryd.prog 7 #[.bool a0, .int .u8 a1] W (Fine W) :=
  goes_walk a1 a0 W (ht_of hL (by simp [Rows.htlcGoesRow]) (by simp [Rows.htlcGoesRow])) (RowK.wf_u8 w1).1 (RowK.wf_u8 w1).2
theorem walk_HtlcOnce (a0 : Bool) (p : Option Addr) (len cap : Nat) (zs : List Int) {W : World} (h : RowK.IsRow .u8 W p len cap zs) (hL : laidMetH Tryd.prog Rows.htlcOnceRow.laid W) :
    Calls Tryd.prog 4 #[.bool a0, .slice p len cap] W (Fine W) := by
  have hT := ht_of hL (by simp [Rows.htlcOnceRow]) (by simp [Rows.htlcOnceRow])
  by_cases hl : len ≤ 200
  · obtain ⟨b, off, h1, h2, h3, h4⟩ := evs_of h
    exact once_walk a0 p b off len cap zs W hT h2 hl h1 h3 h4
  · exact once_long a0 p len cap W hT (by omega)
theorem walk_HtlcEvents (a0 : Int) (w0 : (Lit.int .u8 a0).wf = true) (a1 : Bool) (p : Option Addr) (len cap : Nat) (zs : List Int) {W : World} (h : RowK.IsRow .u8 W p len cap zs) (hL : laidMetH Tryd.prog Rows.htlcEventsRow.laid W) :
    Calls Tryd.prog 3 #[.int .u8 a0, .bool a1, .slice p len cap] W (Fine W) := by
  have hT := he_of hL (by simp [Rows.htlcEventsRow])
  by_cases hl : len ≤ 200
  · obtain ⟨b, off, h1, h2, h3, h4⟩ := evs_of h
    exact events_walk a0 a1 p b off len cap zs W hT (RowK.wf_u8 w0).1 (RowK.wf_u8 w0).2 h2 hl h1 h3 h4
  · exact events_long a0 a1 p len cap W hT (by omega)
end Go.Proofs.YtpgghhdieekncaaDoor
