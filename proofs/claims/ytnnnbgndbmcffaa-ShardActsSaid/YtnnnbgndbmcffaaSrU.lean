/- What the laws of layer 10 answer where there is no bank, or where the rows are too long; the conditions are that the rows are known. -/
import Derived.Test.YtnnnbgndbmcffaaSrT
namespace Go.Proofs.Ytnnnbgndbmcffaa
open Go.RowKit
set_option linter.unusedVariables false

section
variable {H : Type} {enc : TypeId × Value → H} {w : World} {base : Nat} {sp : Nat → Bool} {held : Bool}
set_option maxRecDepth 100000 in
theorem act_of_trod84 (n : Nat) (cs : List Value) (y : DataW H × List MemPlace) (hl : cs.length = 4) (h : DataW.trod enc Try.prog w base sp held n 84 cs = some y) : ∃ x : Ac, cs = x.cells ∧ x.ok := by
  obtain ⟨n0, y0, h0⟩ := RowK.field_of Try.underlying84 h 0 rfl
  obtain ⟨n1, y1, h1⟩ := RowK.field_of Try.underlying84 h 1 rfl
  obtain ⟨n2, y2, h2⟩ := RowK.field_of Try.underlying84 h 2 rfl
  obtain ⟨n3, y3, h3⟩ := RowK.field_of Try.underlying84 h 3 rfl
  have c3 : Try.prog.cellsOf 3 = 1 := by kernel_rfl
  have c23 : Try.prog.cellsOf 23 = 1 := by kernel_rfl
  obtain ⟨k, e0, g0⟩ := RowK.int_of Try.underlying3 h0
  obtain ⟨a, e1, g1⟩ := RowK.int_of Try.underlying3 h1
  obtain ⟨b, e2, g2⟩ := RowK.int_of Try.underlying3 h2
  obtain ⟨x, e3, g3⟩ := RowK.int_of Try.underlying23 h3
  have e0 : (cs.drop 0).take (Try.prog.cellsOf 3) = _ := e0
  have e1 : (cs.drop 1).take (Try.prog.cellsOf 3) = _ := e1
  have e2 : (cs.drop 2).take (Try.prog.cellsOf 3) = _ := e2
  have e3 : (cs.drop 3).take (Try.prog.cellsOf 23) = _ := e3
  rw [c3] at e0 e1 e2
  rw [c23] at e3
  refine ⟨⟨k, a, b, x⟩, ?_, ⟨(RowK.wf_i64 g0).1, (RowK.wf_i64 g0).2, (RowK.wf_i64 g1).1, (RowK.wf_i64 g1).2, (RowK.wf_i64 g2).1, (RowK.wf_i64 g2).2, (RowK.wf_u64 g3).1, (RowK.wf_u64 g3).2⟩⟩
  match cs, hl with
  | [u0, u1, u2, u3], _ =>
    simp at e0 e1 e2 e3
    subst e0 e1 e2 e3
    rfl
end
set_option maxRecDepth 100000 in
set_option maxHeartbeats 4000000 in
theorem goesOn_none (pa : Option Addr) (len cap : Nat) (zs : List Int) (A : Option Addr) (m cap2 : Nat)  (w : World) (hu : URow w pa len zs) (hl : len ≤ 40) (hm0 : m ≤ 200) (hn : len < 1 ∨ 32 < len ∨ ¬ zs.sum ≤ Am.mx) :
    Calls Try.prog 13 #[.slice pa len cap, .slice A m cap2] w (Fine w) := by
  obtain ⟨n, hn'⟩ : ∃ n, w.heap.size = n := ⟨_, rfl⟩
  have HN := Lib.hid hn'
  have hub := fun v (hv : Below n w v) => hu.below (hn'.symm ▸ hv : Below w.heap.size w v)
  have pl := fun v (hv : Below n w v) => played_none pa len cap zs (.slice A m cap2) v (hub v hv) hn
  have rn := fun v (hv : Below n w v) => rnew_no pa len cap zs v (hub v hv) (by omega) hn
  have PL := Lib.hid pl; have RN := Lib.hid rn; have SH := Lib.hid (fun v => bshown_any v)
  have dl : decide ((40 : Int) < (len : Int)) = false := by simp; omega
  have d0 : decide ((200 : Int) < (m : Int)) = false := by simp; omega
  have iK : (Try.prog.info? 50).map (·.size) = some ZP.size := by kernel_rfl
  have zK : Try.zeroCells50.size = ZP.size := by decide
  have oK : ZP.all (·.oneCell') = true := by kernel_rfl
  clear pl rn hub hu hl hn hm0
  go_enter Try.func13, Try.ntmps13
  go_wp2_with fail
  refine (SH.out _).mono ?_
  rintro e w1 ⟨rfl, g1⟩
  rw [hn'] at g1
  have B1 := Lib.hid g1
  clear g1
  go_wp2_with fail
  refine (PL.out _ B1.out).mono ?_
  rintro e w2 ⟨rfl, rfl⟩
  go_wp2_with fail
  refine (RN.out _ B1.out).mono ?_
  rintro e w2 ⟨rfl, g2⟩
  have hs1 := B1.out.size
  have B2 := Lib.hid (B1.out.trans (g2.mono (by rw [HN.out] at hs1; exact hs1)))
  have hs2 : n ≤ w2.heap.size := by have := B2.out.size; rw [HN.out] at this; exact this
  obtain ⟨g, hg⟩ : ∃ g, w2.heap.size = g := ⟨_, rfl⟩
  have r1 : M.RowAt (w2.alloc (.cells Try.zeroCells50 50)) g 50 Try.zeroCells50 := hg ▸ M.RowAt.new w2 50 Try.zeroCells50
  have b3 := Lib.hid (M.below_setRow (cs := ZP) (B2.out.alloc hs2 (.cells Try.zeroCells50 50)) (show n ≤ g by omega))
  clear g2 hs1 hs2 hn'
  go_wp2_with (refine wpList_store_row (x := .tmp 7) (y := .tmp 38) (cells := ZP) (old := Try.zeroCells50) (t := 50) (ty := 50) (g := g) ?_ ?_ ?_ ?_ r1 iK zK oK ?_; rfl; rfl; rfl; rfl)
  go_ret
  exact ⟨rfl, by rw [HN.out]; exact b3.out⟩
set_option maxRecDepth 100000 in
theorem goesOn_many (pa : Option Addr) (len cap : Nat) (A : Option Addr) (m cap2 : Nat)  (w : World) (hb : 40 < len ∨ 200 < m) :
    Calls Try.prog 13 #[.slice pa len cap, .slice A m cap2] w (Fine w) := by
  have SH := Lib.hid (fun v => bshown_any v)
  by_cases h0 : 40 < len
  · have dt0 : decide ((40 : Int) < (len : Int)) = true := by simp; omega
    clear hb
    go_enter Try.func13, Try.ntmps13
    go_wp2_with fail
    refine (SH.out _).mono ?_
    rintro e w1 ⟨rfl, g1⟩
    have G1 := Lib.hid g1
    clear g1
    go_wp2
    go_ret
    exact ⟨rfl, G1.out⟩
  · have df0 : decide ((40 : Int) < (len : Int)) = false := by simp; omega
    have dt1 : decide ((200 : Int) < (m : Int)) = true := by simp; omega
    clear hb
    go_enter Try.func13, Try.ntmps13
    go_wp2_with fail
    refine (SH.out _).mono ?_
    rintro e w1 ⟨rfl, g1⟩
    have G1 := Lib.hid g1
    clear g1
    go_wp2
    go_ret
    exact ⟨rfl, G1.out⟩
set_option maxRecDepth 100000 in
set_option maxHeartbeats 4000000 in
theorem locks_none (pa : Option Addr) (len cap : Nat) (zs : List Int) (A : Option Addr) (m cap2 : Nat) (d : Int) (w : World) (hu : URow w pa len zs) (hl : len ≤ 40) (hm0 : m ≤ 200) (hn : len < 1 ∨ 32 < len ∨ ¬ zs.sum ≤ Am.mx) :
    Calls Try.prog 14 #[.slice pa len cap, .slice A m cap2, .int .u8 d] w (Fine w) := by
  obtain ⟨n, hn'⟩ : ∃ n, w.heap.size = n := ⟨_, rfl⟩
  have HN := Lib.hid hn'
  have hub := fun v (hv : Below n w v) => hu.below (hn'.symm ▸ hv : Below w.heap.size w v)
  have pl := fun v (hv : Below n w v) => played_none pa len cap zs (.slice A m cap2) v (hub v hv) hn
  have rn := fun v (hv : Below n w v) => rnew_no pa len cap zs v (hub v hv) (by omega) hn
  have PL := Lib.hid pl; have RN := Lib.hid rn; have SH := Lib.hid (fun v => bshown_any v)
  have dl : decide ((40 : Int) < (len : Int)) = false := by simp; omega
  have d0 : decide ((200 : Int) < (m : Int)) = false := by simp; omega
  have iK : (Try.prog.info? 50).map (·.size) = some ZP.size := by kernel_rfl
  have zK : Try.zeroCells50.size = ZP.size := by decide
  have oK : ZP.all (·.oneCell') = true := by kernel_rfl
  clear pl rn hub hu hl hn hm0
  go_enter Try.func14, Try.ntmps14
  go_wp2_with fail
  refine (SH.out _).mono ?_
  rintro e w1 ⟨rfl, g1⟩
  rw [hn'] at g1
  have B1 := Lib.hid g1
  clear g1
  go_wp2_with fail
  refine (PL.out _ B1.out).mono ?_
  rintro e w2 ⟨rfl, rfl⟩
  go_wp2_with fail
  refine (RN.out _ B1.out).mono ?_
  rintro e w2 ⟨rfl, g2⟩
  have hs1 := B1.out.size
  have B2 := Lib.hid (B1.out.trans (g2.mono (by rw [HN.out] at hs1; exact hs1)))
  have hs2 : n ≤ w2.heap.size := by have := B2.out.size; rw [HN.out] at this; exact this
  obtain ⟨g, hg⟩ : ∃ g, w2.heap.size = g := ⟨_, rfl⟩
  have r1 : M.RowAt (w2.alloc (.cells Try.zeroCells50 50)) g 50 Try.zeroCells50 := hg ▸ M.RowAt.new w2 50 Try.zeroCells50
  have b3 := Lib.hid (M.below_setRow (cs := ZP) (B2.out.alloc hs2 (.cells Try.zeroCells50 50)) (show n ≤ g by omega))
  clear g2 hs1 hs2 hn'
  go_wp2_with (refine wpList_store_row (x := .tmp 9) (y := .tmp 43) (cells := ZP) (old := Try.zeroCells50) (t := 50) (ty := 50) (g := g) ?_ ?_ ?_ ?_ r1 iK zK oK ?_; rfl; rfl; rfl; rfl)
  go_ret
  exact ⟨rfl, by rw [HN.out]; exact b3.out⟩
set_option maxRecDepth 100000 in
theorem locks_many (pa : Option Addr) (len cap : Nat) (A : Option Addr) (m cap2 : Nat) (d : Int) (w : World) (hb : 40 < len ∨ 200 < m) :
    Calls Try.prog 14 #[.slice pa len cap, .slice A m cap2, .int .u8 d] w (Fine w) := by
  have SH := Lib.hid (fun v => bshown_any v)
  by_cases h0 : 40 < len
  · have dt0 : decide ((40 : Int) < (len : Int)) = true := by simp; omega
    clear hb
    go_enter Try.func14, Try.ntmps14
    go_wp2_with fail
    refine (SH.out _).mono ?_
    rintro e w1 ⟨rfl, g1⟩
    have G1 := Lib.hid g1
    clear g1
    go_wp2
    go_ret
    exact ⟨rfl, G1.out⟩
  · have df0 : decide ((40 : Int) < (len : Int)) = false := by simp; omega
    have dt1 : decide ((200 : Int) < (m : Int)) = true := by simp; omega
    clear hb
    go_enter Try.func14, Try.ntmps14
    go_wp2_with fail
    refine (SH.out _).mono ?_
    rintro e w1 ⟨rfl, g1⟩
    have G1 := Lib.hid g1
    clear g1
    go_wp2
    go_ret
    exact ⟨rfl, G1.out⟩
set_option maxRecDepth 100000 in
set_option maxHeartbeats 4000000 in
theorem over_none (pa : Option Addr) (len cap : Nat) (zs : List Int) (A : Option Addr) (m cap2 : Nat) (A2 : Option Addr) (m2 cap3 : Nat) (w : World) (hu : URow w pa len zs) (hl : len ≤ 40) (hm0 : m ≤ 150) (hm1 : m2 ≤ 50) (hn : len < 1 ∨ 32 < len ∨ ¬ zs.sum ≤ Am.mx) :
    Calls Try.prog 15 #[.slice pa len cap, .slice A m cap2, .slice A2 m2 cap3] w (Fine w) := by
  obtain ⟨n, hn'⟩ : ∃ n, w.heap.size = n := ⟨_, rfl⟩
  have HN := Lib.hid hn'
  have hub := fun v (hv : Below n w v) => hu.below (hn'.symm ▸ hv : Below w.heap.size w v)
  have pl := fun v (hv : Below n w v) => played_none pa len cap zs (.slice A m cap2) v (hub v hv) hn
  have rn := fun v (hv : Below n w v) => rnew_no pa len cap zs v (hub v hv) (by omega) hn
  have PL := Lib.hid pl; have RN := Lib.hid rn; have SH := Lib.hid (fun v => bshown_any v)
  have dl : decide ((40 : Int) < (len : Int)) = false := by simp; omega
  have d0 : decide ((150 : Int) < (m : Int)) = false := by simp; omega
  have d1 : decide ((50 : Int) < (m2 : Int)) = false := by simp; omega
  have iK : (Try.prog.info? 50).map (·.size) = some ZP.size := by kernel_rfl
  have zK : Try.zeroCells50.size = ZP.size := by decide
  have oK : ZP.all (·.oneCell') = true := by kernel_rfl
  clear pl rn hub hu hl hn hm0 hm1
  go_enter Try.func15, Try.ntmps15
  go_wp2_with fail
  refine (SH.out _).mono ?_
  rintro e w1 ⟨rfl, g1⟩
  rw [hn'] at g1
  have B1 := Lib.hid g1
  clear g1
  go_wp2_with fail
  refine (PL.out _ B1.out).mono ?_
  rintro e w2 ⟨rfl, rfl⟩
  go_wp2_with fail
  refine (RN.out _ B1.out).mono ?_
  rintro e w2 ⟨rfl, g2⟩
  have hs1 := B1.out.size
  have B2 := Lib.hid (B1.out.trans (g2.mono (by rw [HN.out] at hs1; exact hs1)))
  have hs2 : n ≤ w2.heap.size := by have := B2.out.size; rw [HN.out] at this; exact this
  obtain ⟨g, hg⟩ : ∃ g, w2.heap.size = g := ⟨_, rfl⟩
  have r1 : M.RowAt (w2.alloc (.cells Try.zeroCells50 50)) g 50 Try.zeroCells50 := hg ▸ M.RowAt.new w2 50 Try.zeroCells50
  have b3 := Lib.hid (M.below_setRow (cs := ZP) (B2.out.alloc hs2 (.cells Try.zeroCells50 50)) (show n ≤ g by omega))
  clear g2 hs1 hs2 hn'
  go_wp2_with (refine wpList_store_row (x := .tmp 9) (y := .tmp 52) (cells := ZP) (old := Try.zeroCells50) (t := 50) (ty := 50) (g := g) ?_ ?_ ?_ ?_ r1 iK zK oK ?_; rfl; rfl; rfl; rfl)
  go_ret
  exact ⟨rfl, by rw [HN.out]; exact b3.out⟩
set_option maxRecDepth 100000 in
theorem over_many (pa : Option Addr) (len cap : Nat) (A : Option Addr) (m cap2 : Nat) (A2 : Option Addr) (m2 cap3 : Nat) (w : World) (hb : 40 < len ∨ 150 < m ∨ 50 < m2) :
    Calls Try.prog 15 #[.slice pa len cap, .slice A m cap2, .slice A2 m2 cap3] w (Fine w) := by
  have SH := Lib.hid (fun v => bshown_any v)
  by_cases h0 : 40 < len
  · have dt0 : decide ((40 : Int) < (len : Int)) = true := by simp; omega
    clear hb
    go_enter Try.func15, Try.ntmps15
    go_wp2_with fail
    refine (SH.out _).mono ?_
    rintro e w1 ⟨rfl, g1⟩
    have G1 := Lib.hid g1
    clear g1
    go_wp2
    go_ret
    exact ⟨rfl, G1.out⟩
  · have df0 : decide ((40 : Int) < (len : Int)) = false := by simp; omega
    by_cases h1 : 150 < m
    · have dt1 : decide ((150 : Int) < (m : Int)) = true := by simp; omega
      clear hb
      go_enter Try.func15, Try.ntmps15
      go_wp2_with fail
      refine (SH.out _).mono ?_
      rintro e w1 ⟨rfl, g1⟩
      have G1 := Lib.hid g1
      clear g1
      go_wp2
      go_ret
      exact ⟨rfl, G1.out⟩
    · have df1 : decide ((150 : Int) < (m : Int)) = false := by simp; omega
      have dt2 : decide ((50 : Int) < (m2 : Int)) = true := by simp; omega
      clear hb
      go_enter Try.func15, Try.ntmps15
      go_wp2_with fail
      refine (SH.out _).mono ?_
      rintro e w1 ⟨rfl, g1⟩
      have G1 := Lib.hid g1
      clear g1
      go_wp2
      go_ret
      exact ⟨rfl, G1.out⟩
set_option maxRecDepth 100000 in
set_option maxHeartbeats 4000000 in
theorem time_none (pa : Option Addr) (len cap : Nat) (zs : List Int) (A : Option Addr) (m cap2 : Nat)  (w : World) (hu : URow w pa len zs) (hl : len ≤ 40) (hm0 : m ≤ 200) (hn : len < 1 ∨ 32 < len ∨ ¬ zs.sum ≤ Am.mx) :
    Calls Try.prog 16 #[.slice pa len cap, .slice A m cap2] w (Fine w) := by
  obtain ⟨n, hn'⟩ : ∃ n, w.heap.size = n := ⟨_, rfl⟩
  have HN := Lib.hid hn'
  have hub := fun v (hv : Below n w v) => hu.below (hn'.symm ▸ hv : Below w.heap.size w v)
  have pl := fun v (hv : Below n w v) => bnew_none pa len cap zs v (hub v hv) hn
  have rn := fun v (hv : Below n w v) => rnew_no pa len cap zs v (hub v hv) (by omega) hn
  have PL := Lib.hid pl; have RN := Lib.hid rn; have SH := Lib.hid (fun v => bshown_any v)
  have dl : decide ((40 : Int) < (len : Int)) = false := by simp; omega
  have d0 : decide ((200 : Int) < (m : Int)) = false := by simp; omega
  have iK : (Try.prog.info? 50).map (·.size) = some ZP.size := by kernel_rfl
  have zK : Try.zeroCells50.size = ZP.size := by decide
  have oK : ZP.all (·.oneCell') = true := by kernel_rfl
  clear pl rn hub hu hl hn hm0
  go_enter Try.func16, Try.ntmps16
  go_wp2_with fail
  refine (SH.out _).mono ?_
  rintro e w1 ⟨rfl, g1⟩
  rw [hn'] at g1
  have B1 := Lib.hid g1
  clear g1
  go_wp2_with fail
  refine (PL.out _ B1.out).mono ?_
  rintro e w2 ⟨rfl, rfl⟩
  go_wp2_with fail
  refine (RN.out _ B1.out).mono ?_
  rintro e w2 ⟨rfl, g2⟩
  have hs1 := B1.out.size
  have B2 := Lib.hid (B1.out.trans (g2.mono (by rw [HN.out] at hs1; exact hs1)))
  have hs2 : n ≤ w2.heap.size := by have := B2.out.size; rw [HN.out] at this; exact this
  obtain ⟨g, hg⟩ : ∃ g, w2.heap.size = g := ⟨_, rfl⟩
  have r1 : M.RowAt (w2.alloc (.cells Try.zeroCells50 50)) g 50 Try.zeroCells50 := hg ▸ M.RowAt.new w2 50 Try.zeroCells50
  have b3 := Lib.hid (M.below_setRow (cs := ZP) (B2.out.alloc hs2 (.cells Try.zeroCells50 50)) (show n ≤ g by omega))
  clear g2 hs1 hs2 hn'
  go_wp2_with (refine wpList_store_row (x := .tmp 6) (y := .tmp 44) (cells := ZP) (old := Try.zeroCells50) (t := 50) (ty := 50) (g := g) ?_ ?_ ?_ ?_ r1 iK zK oK ?_; rfl; rfl; rfl; rfl)
  go_ret
  exact ⟨rfl, by rw [HN.out]; exact b3.out⟩
set_option maxRecDepth 100000 in
theorem time_many (pa : Option Addr) (len cap : Nat) (A : Option Addr) (m cap2 : Nat)  (w : World) (hb : 40 < len ∨ 200 < m) :
    Calls Try.prog 16 #[.slice pa len cap, .slice A m cap2] w (Fine w) := by
  have SH := Lib.hid (fun v => bshown_any v)
  by_cases h0 : 40 < len
  · have dt0 : decide ((40 : Int) < (len : Int)) = true := by simp; omega
    clear hb
    go_enter Try.func16, Try.ntmps16
    go_wp2_with fail
    refine (SH.out _).mono ?_
    rintro e w1 ⟨rfl, g1⟩
    have G1 := Lib.hid g1
    clear g1
    go_wp2
    go_ret
    exact ⟨rfl, G1.out⟩
  · have df0 : decide ((40 : Int) < (len : Int)) = false := by simp; omega
    have dt1 : decide ((200 : Int) < (m : Int)) = true := by simp; omega
    clear hb
    go_enter Try.func16, Try.ntmps16
    go_wp2_with fail
    refine (SH.out _).mono ?_
    rintro e w1 ⟨rfl, g1⟩
    have G1 := Lib.hid g1
    clear g1
    go_wp2
    go_ret
    exact ⟨rfl, G1.out⟩
set_option maxRecDepth 100000 in
set_option maxHeartbeats 4000000 in
theorem lists_none (pa : Option Addr) (len cap : Nat) (zs : List Int) (A : Option Addr) (m cap2 : Nat)  (w : World) (hu : URow w pa len zs) (hl : len ≤ 40) (hm0 : m ≤ 200) (hn : len < 1 ∨ 32 < len ∨ ¬ zs.sum ≤ Am.mx) :
    Calls Try.prog 17 #[.slice pa len cap, .slice A m cap2] w (Fine w) := by
  obtain ⟨n, hn'⟩ : ∃ n, w.heap.size = n := ⟨_, rfl⟩
  have HN := Lib.hid hn'
  have hub := fun v (hv : Below n w v) => hu.below (hn'.symm ▸ hv : Below w.heap.size w v)
  have pl := fun v (hv : Below n w v) => played_none pa len cap zs (.slice A m cap2) v (hub v hv) hn
  have rn := fun v (hv : Below n w v) => rnew_no pa len cap zs v (hub v hv) (by omega) hn
  have PL := Lib.hid pl; have RN := Lib.hid rn; have SH := Lib.hid (fun v => bshown_any v)
  have dl : decide ((40 : Int) < (len : Int)) = false := by simp; omega
  have d0 : decide ((200 : Int) < (m : Int)) = false := by simp; omega
  have iK : (Try.prog.info? 50).map (·.size) = some ZP.size := by kernel_rfl
  have zK : Try.zeroCells50.size = ZP.size := by decide
  have oK : ZP.all (·.oneCell') = true := by kernel_rfl
  clear pl rn hub hu hl hn hm0
  go_enter Try.func17, Try.ntmps17
  go_wp2_with fail
  refine (SH.out _).mono ?_
  rintro e w1 ⟨rfl, g1⟩
  rw [hn'] at g1
  have B1 := Lib.hid g1
  clear g1
  go_wp2_with fail
  refine (PL.out _ B1.out).mono ?_
  rintro e w2 ⟨rfl, rfl⟩
  go_wp2_with fail
  refine (RN.out _ B1.out).mono ?_
  rintro e w2 ⟨rfl, g2⟩
  have hs1 := B1.out.size
  have B2 := Lib.hid (B1.out.trans (g2.mono (by rw [HN.out] at hs1; exact hs1)))
  have hs2 : n ≤ w2.heap.size := by have := B2.out.size; rw [HN.out] at this; exact this
  obtain ⟨g, hg⟩ : ∃ g, w2.heap.size = g := ⟨_, rfl⟩
  have r1 : M.RowAt (w2.alloc (.cells Try.zeroCells50 50)) g 50 Try.zeroCells50 := hg ▸ M.RowAt.new w2 50 Try.zeroCells50
  have b3 := Lib.hid (M.below_setRow (cs := ZP) (B2.out.alloc hs2 (.cells Try.zeroCells50 50)) (show n ≤ g by omega))
  clear g2 hs1 hs2 hn'
  go_wp2_with (refine wpList_store_row (x := .tmp 7) (y := .tmp 41) (cells := ZP) (old := Try.zeroCells50) (t := 50) (ty := 50) (g := g) ?_ ?_ ?_ ?_ r1 iK zK oK ?_; rfl; rfl; rfl; rfl)
  go_ret
  exact ⟨rfl, by rw [HN.out]; exact b3.out⟩
set_option maxRecDepth 100000 in
theorem lists_many (pa : Option Addr) (len cap : Nat) (A : Option Addr) (m cap2 : Nat)  (w : World) (hb : 40 < len ∨ 200 < m) :
    Calls Try.prog 17 #[.slice pa len cap, .slice A m cap2] w (Fine w) := by
  have SH := Lib.hid (fun v => bshown_any v)
  by_cases h0 : 40 < len
  · have dt0 : decide ((40 : Int) < (len : Int)) = true := by simp; omega
    clear hb
    go_enter Try.func17, Try.ntmps17
    go_wp2_with fail
    refine (SH.out _).mono ?_
    rintro e w1 ⟨rfl, g1⟩
    have G1 := Lib.hid g1
    clear g1
    go_wp2
    go_ret
    exact ⟨rfl, G1.out⟩
  · have df0 : decide ((40 : Int) < (len : Int)) = false := by simp; omega
    have dt1 : decide ((200 : Int) < (m : Int)) = true := by simp; omega
    clear hb
    go_enter Try.func17, Try.ntmps17
    go_wp2_with fail
    refine (SH.out _).mono ?_
    rintro e w1 ⟨rfl, g1⟩
    have G1 := Lib.hid g1
    clear g1
    go_wp2
    go_ret
    exact ⟨rfl, G1.out⟩
open Go.ChangeShapes Go.WideShapes in
set_option maxRecDepth 100000 in
theorem walk_ShardLocks {H : Type} {enc : TypeId × Value → H} {W : World} {base : Nat} (b0 : Option Addr) (len0 cap0 : Nat) (z0 : List Int) (w0 : RowK.IsRow .u64 W b0 len0 cap0 z0) (v : Value) (d : DataW H) (p : List MemPlace) (hval : Value.okWide Try.prog W .any base 74 v)
    (h : DataW.Trod enc Try.prog W 0 (fun _ => true) true 74 v d p) (a2 : Int) (w2 : (Lit.int .u8 a2).wf = true) : Calls Try.prog 14 #[.slice b0 len0 cap0, v, .int .u8 a2] W (Fine W) := by
  obtain ⟨A, cap, l, rfl, h1, h2, h3, h4⟩ := RowK.sl_of_trod Ac.cells Ac.ok Try.underlying74 (size := 4) (by kernel_rfl) (by decide) act_of_trod84 hval h
  have hu := urow_of w0
  by_cases hm : 40 < len0 ∨ 200 < l.length
  · exact locks_many b0 len0 cap0 A l.length cap a2 W hm
  · by_cases hb : len0 < 1 ∨ 32 < len0 ∨ ¬ (z0.take len0).sum ≤ Am.mx
    · exact locks_none b0 len0 cap0 _ A l.length cap a2 W hu (by omega) (by omega) hb
    · have h8 : 0 ≤ a2 ∧ a2 ≤ 255 := by simp [Lit.wf, IntKind.min, IntKind.max, IntKind.signed, IntKind.bits] at w2; omega
      obtain ⟨e, rfl⟩ := Int.eq_ofNat_of_zero_le h8.1
      exact locks_walk b0 len0 cap0 _ A cap l e W hu (by omega) (by omega) (Decidable.not_not.1 fun h => hb (.inr (.inr h))) h4 h3 (by omega) (by omega)
end Go.Proofs.Ytnnnbgndbmcffaa
