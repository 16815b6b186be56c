/- The acts of a row that came in, and what the reference's New answers where the purse's New answers none; the condition is that the row of balances is known. -/
import Derived.Test.YtnnnbgndbmcffaaPuH
import Derived.Test.YtnnnbgndbmcffaaRowSl
namespace Go.Proofs.Ytnnnbgndbmcffaa
open Go.RowKit
set_option linter.unusedVariables false

/-- one act -/
structure Ac where
  kind : Int
  a : Int
  b : Int
  n : Int
structure Ac.ok (x : Ac) : Prop where
  k0 : -9223372036854775808 ≤ x.kind
  k1 : x.kind ≤ 9223372036854775807
  a0 : -9223372036854775808 ≤ x.a
  a1 : x.a ≤ 9223372036854775807
  b0 : -9223372036854775808 ≤ x.b
  b1 : x.b ≤ 9223372036854775807
  n0 : 0 ≤ x.n
  n1 : x.n ≤ 18446744073709551615
def Ac.cells (x : Ac) : List Value := [.int .i64 x.kind, .int .i64 x.a, .int .i64 x.b, .int .u64 x.n]
section
variable {H : Type} {enc : TypeId × Value → H} {w : World} {base : Nat} {sp : Nat → Bool} {held : Bool}
set_option maxRecDepth 100000 in
theorem act_of_trod (n : Nat) (cs : List Value) (y : DataW H × List MemPlace) (hl : cs.length = 4) (h : DataW.trod enc Try.prog w base sp held n 55 cs = some y) : ∃ x : Ac, cs = x.cells ∧ x.ok := by
  obtain ⟨n0, y0, h0⟩ := RowK.field_of Try.underlying55 h 0 rfl
  obtain ⟨n1, y1, h1⟩ := RowK.field_of Try.underlying55 h 1 rfl
  obtain ⟨n2, y2, h2⟩ := RowK.field_of Try.underlying55 h 2 rfl
  obtain ⟨n3, y3, h3⟩ := RowK.field_of Try.underlying55 h 3 rfl
  have c3 : Try.prog.cellsOf 3 = 1 := by kernel_rfl
  have c23 : Try.prog.cellsOf 23 = 1 := by kernel_rfl
  obtain ⟨k, e0, g0⟩ := RowK.int_of Try.underlying3 h0
  obtain ⟨a, e1, g1⟩ := RowK.int_of Try.underlying3 h1
  obtain ⟨b, e2, g2⟩ := RowK.int_of Try.underlying3 h2
  obtain ⟨x, e3, g3⟩ := RowK.int_of Try.underlying23 h3
  have e0 : (cs.drop 0).take (Try.prog.cellsOf 3) = _ := e0
  have e1 : (cs.drop 1).take (Try.prog.cellsOf 3) = _ := e1
  have e2 : (cs.drop 2).take (Try.prog.cellsOf 3) = _ := e2
  have e3 : (cs.drop 3).take (Try.prog.cellsOf 23) = _ := e3
  rw [c3] at e0 e1 e2
  rw [c23] at e3
  refine ⟨⟨k, a, b, x⟩, ?_, ⟨(RowK.wf_i64 g0).1, (RowK.wf_i64 g0).2, (RowK.wf_i64 g1).1, (RowK.wf_i64 g1).2, (RowK.wf_i64 g2).1, (RowK.wf_i64 g2).2, (RowK.wf_u64 g3).1, (RowK.wf_u64 g3).2⟩⟩
  match cs, hl with
  | [u0, u1, u2, u3], _ =>
    simp at e0 e1 e2 e3
    subst e0 e1 e2 e3
    rfl
end
theorem act_at {w : World} {A : Option Addr} {l : List Ac} (h : RowK.SlAt w 4 Ac.cells A l) {k : Nat} {x : Ac} (hx : l[k]? = some x) {n : Nat} (hn : w.heap.size = n) :
    ∃ b off, A = some ⟨b, off, none⟩ ∧ b < n ∧ ∀ v, Below n w v → v.rangeAt b (off + k * 4) x.cells := by
  have hk : k < l.length := (List.getElem?_eq_some_iff.1 hx).1
  obtain ⟨b, off, rfl, hb, hr⟩ := h.at_ hk
  exact ⟨b, off, rfl, by omega, fun v hv j u hu => by rw [hv.cell (show b < n by omega)]; exact hr k x hx j u hu⟩

/-- no purse -/
def ZP : Array Value := #[.slice none 0 0] ++ ((List.range 32).flatMap fun _ => [Value.int .i64 0, Value.int .u64 0]).toArray
theorem build50 (w : World) : (Instr.build 50 #[]).run Try.prog w = .ok (.agg ZP) w := by kernel_rfl
set_option maxRecDepth 100000 in
set_option maxHeartbeats 4000000 in
theorem rnew_no (pa : Option Addr) (len cap : Nat) (zs : List Int) (w : World) (h : URow w pa len zs) (hl : len ≤ 1000) (hn : len < 1 ∨ 32 < len ∨ ¬ zs.sum ≤ Am.mx) :
    Calls Try.prog 35 #[.slice pa len cap] w fun e w' => e = .returned (.tuple #[.agg ZP, .bool false]) ∧ Below w.heap.size w w' := by
  have ADD := fun v (hv : Below w.heap.size w v) => radd_any pa len cap zs v (h.below hv)
  obtain ⟨x, hx⟩ : ∃ x, (Am.addF zs).1 = x := ⟨_, rfl⟩
  obtain ⟨y, hy⟩ : ∃ y, (Am.addF zs).2 = y := ⟨_, rfl⟩
  rw [hx, hy] at ADD
  have hbad : len < 1 ∨ 32 < len ∨ y ≠ 0 := by
    rcases hn with h | h | h
    · exact .inl h
    · exact .inr (.inl h)
    · refine .inr (.inr ?_)
      rw [← hy]; unfold Am.addF; rw [if_neg h]; decide
  obtain ⟨n, hs⟩ : ∃ n, w.heap.size = n := ⟨_, rfl⟩
  rw [hs] at ADD ⊢
  have hwn : w.heap.size ≤ n := by omega
  have b1 : Below n w (w.alloc (.cells Try.zeroCells50 50)) := (Below.refl n w).alloc (by omega) _
  have r1 : M.RowAt (w.alloc (.cells Try.zeroCells50 50)) n 50 Try.zeroCells50 := hs ▸ M.RowAt.new w 50 Try.zeroCells50
  have add1 := ADD _ b1
  have A1 := Lib.hid add1
  have iK : (Try.prog.info? 50).map (·.size) = some ZP.size := by kernel_rfl
  have zK : Try.zeroCells50.size = ZP.size := by decide
  have oK : ZP.all (·.oneCell') = true := by kernel_rfl
  have r2 := r1.setRow ZP
  have b2 := M.below_setRow (cs := ZP) b1 (Nat.le_refl n)
  obtain ⟨v1, hv1⟩ : ∃ v1, (w.alloc (.cells Try.zeroCells50 50)).setRow n ZP = v1 := ⟨_, rfl⟩
  rw [hv1] at r2 b2
  have hload := run_loadVar_row (P := Try.prog) _ n 50 50 ZP (0, 0) _ r2 Try.underlying50 rfl iK
  have HV := Lib.hid hv1; have B2 := Lib.hid b2; have HLD := Lib.hid hload
  clear h hx hy hn add1 ADD hv1 b1 b2 r2 hload
  rcases hbad with hb | hb | hb
  · have d1 : decide ((len : Int) < 1) = true := by simp; omega
    have d1' : decide (len < 1) = true := by simp; omega
    obtain rfl : len = 0 := by omega
    go_enter Try.func35, Try.ntmps35
    go_wp2_with fail
    refine (A1.out).mono ?_
    rintro e w1 ⟨rfl, rfl⟩
    go_wp2_with (first | (refine wpList_build rfl 50 rfl ZP build50 ?_) | (refine wpList_store_row (x := .tmp 2) (y := .tmp 23) (cells := ZP) (old := Try.zeroCells50) (t := 50) (ty := 50) (g := n) ?_ ?_ ?_ ?_ r1 iK zK oK ?_; rfl; rfl; rfl; rfl))
    rw [HV.out]
    have hload := HLD.out
    exact bodyPost_ret (v := .tuple #[.agg ZP, .bool false]) (by simp [results, Try.results35, asAddr, hload]) rfl ⟨rfl, B2.out⟩
  · by_cases hb1 : len < 1
    · omega
    have d1 : decide ((len : Int) < 1) = false := by simp; omega
    have d1' : decide (len < 1) = false := by simp; omega
    have d2 : decide ((32 : Int) < (len : Int)) = true := by simp; omega
    have d2' : decide (32 < len) = true := by simp; omega
    go_enter Try.func35, Try.ntmps35
    go_wp2_with fail
    refine (A1.out).mono ?_
    rintro e w1 ⟨rfl, rfl⟩
    go_wp2_with (first | (refine wpList_build rfl 50 rfl ZP build50 ?_) | (refine wpList_store_row (x := .tmp 2) (y := .tmp 23) (cells := ZP) (old := Try.zeroCells50) (t := 50) (ty := 50) (g := n) ?_ ?_ ?_ ?_ r1 iK zK oK ?_; rfl; rfl; rfl; rfl))
    rw [HV.out]
    have hload := HLD.out
    exact bodyPost_ret (v := .tuple #[.agg ZP, .bool false]) (by simp [results, Try.results35, asAddr, hload]) rfl ⟨rfl, B2.out⟩
  · have dy : (y == 0) = false := by simpa using hb
    by_cases hb1 : len < 1
    · have d1 : decide ((len : Int) < 1) = true := by simp; omega
      have d1' : decide (len < 1) = true := by simp; omega
      obtain rfl : len = 0 := by omega
      go_enter Try.func35, Try.ntmps35
      go_wp2_with fail
      refine (A1.out).mono ?_
      rintro e w1 ⟨rfl, rfl⟩
      go_wp2_with (first | (refine wpList_build rfl 50 rfl ZP build50 ?_) | (refine wpList_store_row (x := .tmp 2) (y := .tmp 23) (cells := ZP) (old := Try.zeroCells50) (t := 50) (ty := 50) (g := n) ?_ ?_ ?_ ?_ r1 iK zK oK ?_; rfl; rfl; rfl; rfl))
      rw [HV.out]
      have hload := HLD.out
      exact bodyPost_ret (v := .tuple #[.agg ZP, .bool false]) (by simp [results, Try.results35, asAddr, hload]) rfl ⟨rfl, B2.out⟩
    · have d1 : decide ((len : Int) < 1) = false := by simp; omega
      have d1' : decide (len < 1) = false := by simp; omega
      by_cases hb2 : 32 < len
      · have d2 : decide ((32 : Int) < (len : Int)) = true := by simp; omega
        have d2' : decide (32 < len) = true := by simp; omega
        go_enter Try.func35, Try.ntmps35
        go_wp2_with fail
        refine (A1.out).mono ?_
        rintro e w1 ⟨rfl, rfl⟩
        go_wp2_with (first | (refine wpList_build rfl 50 rfl ZP build50 ?_) | (refine wpList_store_row (x := .tmp 2) (y := .tmp 23) (cells := ZP) (old := Try.zeroCells50) (t := 50) (ty := 50) (g := n) ?_ ?_ ?_ ?_ r1 iK zK oK ?_; rfl; rfl; rfl; rfl))
        rw [HV.out]
        have hload := HLD.out
        exact bodyPost_ret (v := .tuple #[.agg ZP, .bool false]) (by simp [results, Try.results35, asAddr, hload]) rfl ⟨rfl, B2.out⟩
      · have d2 : decide ((32 : Int) < (len : Int)) = false := by simp; omega
        have d2' : decide (32 < len) = false := by simp; omega
        go_enter Try.func35, Try.ntmps35
        go_wp2_with fail
        refine (A1.out).mono ?_
        rintro e w1 ⟨rfl, rfl⟩
        go_wp2_with (first | (refine wpList_build rfl 50 rfl ZP build50 ?_) | (refine wpList_store_row (x := .tmp 2) (y := .tmp 23) (cells := ZP) (old := Try.zeroCells50) (t := 50) (ty := 50) (g := n) ?_ ?_ ?_ ?_ r1 iK zK oK ?_; rfl; rfl; rfl; rfl))
        rw [HV.out]
        have hload := HLD.out
        exact bodyPost_ret (v := .tuple #[.agg ZP, .bool false]) (by simp [results, Try.results35, asAddr, hload]) rfl ⟨rfl, B2.out⟩
end Go.Proofs.Ytnnnbgndbmcffaa
