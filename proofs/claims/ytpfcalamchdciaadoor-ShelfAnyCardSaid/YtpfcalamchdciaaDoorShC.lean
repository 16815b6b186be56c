/- What the shelf's two closures and its Len and Least return; the conditions are that the tables are laid, that the captured boxes and the shelf's block are known. -/
import Derived.Test.YtpfcalamchdciaaDoorShB
namespace Go.Proofs.YtpfcalamchdciaaDoor
open Go.RowKit
set_option linter.unusedVariables false

theorem enters70 : Enters Tryd.prog 70 := enters_of Tryd.func70 (by kernel_rfl) rfl
theorem enters71 : Enters Tryd.prog 71 := enters_of Tryd.func71 (by kernel_rfl) rfl
/-- a guarded load of cells in the midst of a block -/
theorem wpList_load_mid_g {P : Program} {ops : Array Oper} {rest : List Oper} {o : Oper} {a : Act} {w : World} {Q : Exit → Act → World → Prop} (hw : Region.wanted o (yielded ops a.tmps) = true) (ty : TypeId) (x : Operand) (ho : o.op = .load ty x)
    (b p : Nat) (hx : a.eval x = .pointer (some ⟨b, p, none⟩)) (cs : List Value) (d : TypeDesc) (hc : w.rangeAt b p cs) (hu : P.underlying ty = some d) (hd : d.isRow = true) (hi : (P.info? ty).map (·.size) = some cs.length)
    (h : wpList P ops Q rest (a.put o.dst (.agg cs.toArray)) w) : wpList P ops Q (o :: rest) a w := by
  exact wpList_step fun K hK => by rw [if_pos hw]; exact wp_load_mid ty x ho b p hx cs d hc hu hd hi (hK _ _ h)

def dif (T : Nat → Nat) (i : Int) (e : Ent) : Bool := drE i e.num == 0 && !eqH (drH T i e.num) e.told
theorem cmpT (F G : Nat → Nat) (W : World) : (Op.equalIn 10000 28 (.agg (r8 32 F)) (.agg (r8 32 G).toList.toArray)).run Tryd.prog W = .ok (eqH F G) W := by
  rw [Array.toArray_toList]; exact r8_cmp F G W

set_option maxRecDepth 100000 in
set_option maxHeartbeats 4000000 in
theorem dif_any (e : Ent) (T : Nat → Nat) (i : Int) (a b : Nat) (w : World) (ht : Tabs w) (hz : TzT w) (hT : ∀ j, T j < 256) (ra : M.RowAt w a 28 (r8 32 T)) (rb : M.RowAt w b 3 #[.int .i64 i]) :
    Calls Tryd.prog 70 #[.agg e.row, .pointer (some ⟨a, 0, none⟩), .pointer (some ⟨b, 0, none⟩)] w fun r w' => r = .returned (.bool (dif T i e)) ∧ Below w.heap.size w w' := by
  obtain ⟨n, hn⟩ : ∃ n, w.heap.size = n := ⟨_, rfl⟩
  have HN := Lib.hid hn
  have h1n : 1 < n := hn ▸ ht.lt
  have h3n : 3 < n := hn ▸ hz.lt
  have han : a < n := hn ▸ ra.lt
  have hbn : b < n := hn ▸ rb.lt
  have tb := fun v (hb : Below n w v) => ht.below hb h1n
  have tz := fun v (hb : Below n w v) => hz.below hb h3n
  have k0 : KB n w [(n, 68, e.row)] (w.alloc (.cells e.row 68)) := hn ▸ (KB.start w).new 68 e.row
  have ra0 := ra.below k0.below han
  have cb0 : (w.alloc (.cells e.row 68)).cell? ⟨b, 0, none⟩ = some (.int .i64 i) := (rb.below k0.below hbn).cell 0
  have rn0 := k0.row n 68 e.row (by simp)
  have c1n : (w.alloc (.cells e.row 68)).cell? ⟨n, 1, none⟩ = some (.int .i64 e.num) := (M.RowAt.cell rn0 1).trans e.c1
  have iT := r8_info T
  have dr := fun v (hb : Below n w v) => derive_any T i e.num v (tb v hb) (tz v hb) hT
  have iD := r8_info (drH T i e.num); have zD := r8_zero (drH T i e.num); have oD := r8_one (drH T i e.num)
  have g2 := fun (v : World) (k : KB n w [(n, 68, e.row)] v) => Ent.range2 (e := e) (k.row n 68 e.row (by simp))
  have iR : (Tryd.prog.info? 28).map (·.size) = some (r8 32 e.told).toList.length := by rw [Array.length_toList]; exact r8_info e.told
  have DR := Lib.hid dr; have G2 := Lib.hid g2
  obtain ⟨V, hV⟩ : ∃ V, w.alloc (.cells e.row 68) = V := ⟨_, rfl⟩
  rw [hV] at k0 ra0 cb0 rn0 c1n
  have HV := Lib.hid hV
  have heq := fun W => cmpT (drH T i e.num) e.told W
  unfold dif
  generalize eqH (drH T i e.num) e.told = q at *
  generalize drE i e.num = E at *
  have hE0 : E = 0 ∨ E ≠ 0 := by omega
  have HEQ := Lib.hid heq
  obtain ⟨Y, hY⟩ : ∃ Y, (r8 32 e.told).toList = Y := ⟨_, rfl⟩
  rw [hY] at iR G2 HEQ
  generalize r8 32 (drH T i e.num) = D at *
  generalize r8 32 T = C at *
  generalize e.num = num at *
  generalize e.row = R at *
  clear hV ht hz h1n h3n tb tz dr g2 heq ra rb han hbn rn0 hY
  go_enter Tryd.func70, Tryd.ntmps70
  go_wp2_with (first
    | (rw [HV.out]; refine wpList_load_row (x := .tmp 1) (ty := 28) (g := a) (cs := C) (t := 28) (fr := (0, 0)) ?_ ?_ ?_ _ ra0 und28 rfl iT ?_; rfl; rfl; rfl)
    | fail)
  refine (DR.out _ k0.below).mono ?_
  rintro r w1 ⟨rfl, gq⟩
  have k1 := k0.same gq
  clear gq k0 hn ra0 cb0 c1n
  obtain ⟨g1, V1, U1, hg1, hV1, rV1, hU1, kk1, geg1, ltg1⟩ := k1.box 28 (#[.int .u8 0, .int .u8 0, .int .u8 0, .int .u8 0, .int .u8 0, .int .u8 0, .int .u8 0, .int .u8 0, .int .u8 0, .int .u8 0, .int .u8 0, .int .u8 0, .int .u8 0, .int .u8 0, .int .u8 0, .int .u8 0, .int .u8 0, .int .u8 0, .int .u8 0, .int .u8 0, .int .u8 0, .int .u8 0, .int .u8 0, .int .u8 0, .int .u8 0, .int .u8 0, .int .u8 0, .int .u8 0, .int .u8 0, .int .u8 0, .int .u8 0, .int .u8 0]) D
  have Hg1 := Lib.hid hg1; have HV1 := Lib.hid hV1; have HU1 := Lib.hid hU1
  have r1 := kk1.row g1 28 D (by simp)
  have rg := G2.out _ (kk1.sub (L' := [(n, 68, R)]) (by simp))
  clear hg1 hV1 hU1 k1 ltg1
  rcases hE0 with rfl | hE
  · go_wp2_with (first
      | (rw [Hg1.out, HV1.out]; refine wpList_store_row (x := .tmp 5) (y := .tmp 13) (cells := D) (old := Z32) (t := 28) (ty := 28) (g := g1) ?_ ?_ ?_ ?_ rV1 iD zD oD ?_; rfl; rfl; rfl; rfl; rw [HU1.out])
      | (refine wpList_load_row_g (x := .tmp 5) (ty := 28) (g := g1) (cs := D) (t := 28) (fr := (0, 0)) ?_ ?_ ?_ _ r1 und28 rfl iD ?_; rfl; rfl; rfl)
      | (refine wpList_load_mid_g (ty := 28) (x := .tmp 19) (b := n) (p := 2) (cs := Y) ?_ ?_ ?_ _ rg und28 rfl iR ?_; rfl; rfl; rfl)
      | (rw [HEQ.out]; go_simp)
      | fail)
    go_ret
    exact ⟨by cases q <;> rfl, by rw [HN.out]; exact kk1.below⟩
  · have hb0 : (E == 0) = false := by simpa using hE
    go_wp2_with (first
      | (rw [Hg1.out, HV1.out]; refine wpList_store_row (x := .tmp 5) (y := .tmp 13) (cells := D) (old := Z32) (t := 28) (ty := 28) (g := g1) ?_ ?_ ?_ ?_ rV1 iD zD oD ?_; rfl; rfl; rfl; rfl; rw [HU1.out])
      | fail)
    go_ret
    exact ⟨by rw [hb0]; rfl, by rw [HN.out]; exact kk1.below⟩

set_option maxRecDepth 100000 in
set_option maxHeartbeats 4000000 in
theorem tells_any (e : Ent) (i : Int) (b : Nat) (w : World) (hz : TzT w) (rb : M.RowAt w b 3 #[.int .i64 i]) :
    Calls Tryd.prog 71 #[.agg e.row, .pointer (some ⟨b, 0, none⟩)] w fun r w' => r = .returned (.bool (can e.num i)) ∧ Below w.heap.size w w' := by
  obtain ⟨n, hn⟩ : ∃ n, w.heap.size = n := ⟨_, rfl⟩
  have HN := Lib.hid hn
  have h3n : 3 < n := hn ▸ hz.lt
  have hbn : b < n := hn ▸ rb.lt
  have k0 : KB n w [(n, 68, e.row)] (w.alloc (.cells e.row 68)) := hn ▸ (KB.start w).new 68 e.row
  have cb0 : (w.alloc (.cells e.row 68)).cell? ⟨b, 0, none⟩ = some (.int .i64 i) := (rb.below k0.below hbn).cell 0
  have c1n : (w.alloc (.cells e.row 68)).cell? ⟨n, 1, none⟩ = some (.int .i64 e.num) := (M.RowAt.cell (k0.row n 68 e.row (by simp)) 1).trans e.c1
  have cn := can_b e.num i _ (hz.below k0.below h3n)
  obtain ⟨V, hV⟩ : ∃ V, w.alloc (.cells e.row 68) = V := ⟨_, rfl⟩
  rw [hV] at k0 cb0 c1n cn
  have HV := Lib.hid hV; have CN := Lib.hid cn
  generalize can e.num i = c at *
  generalize e.num = num at *
  generalize e.row = R at *
  clear hV hz h3n rb hbn cn
  go_enter Tryd.func71, Tryd.ntmps71
  go_wp2_with (first | (rw [HV.out]) | fail)
  refine (CN.out).mono ?_
  rintro r w1 ⟨rfl, gq⟩
  have k1 := k0.same gq
  clear gq k0
  go_wp2
  go_ret
  exact ⟨rfl, by rw [HN.out]; exact k1.below⟩
end Go.Proofs.YtpfcalamchdciaaDoor
