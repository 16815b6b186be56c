/- What the claim rests on, part 1 of KSe: only what is used, joined; the conditions are those of each theorem. -/
import Derived.ArgAppend
import Derived.Below
import Derived.BigQuiet
import Derived.Calls
import Derived.ChangeKeysEq
import Derived.ChangeOld
import Derived.Deep.AppendLies
import Derived.Deep.AppendSrc
import Derived.Deep.DeepHandedRow
import Derived.Deep.LoopGhost
import Derived.Deep.MidRow
import Derived.Deep.Onto
import Derived.Deep.QuietTactic
import Derived.Deep.RegionHeld3
import Derived.Deep.RegionWith
import Derived.Deep.WholeRow
import Derived.DeepKeys
import Derived.DeepKeys3
import Derived.DeepKeys4
import Derived.Defers
import Derived.KernelRfl
import Derived.Laws.AppendOwn
import Derived.Laws.Bits64b
import Derived.Laws.BitsAllLaws
import Derived.Laws.BytesArg
import Derived.Laws.BytesString
import Derived.Laws.EntriesVeiled
import Derived.Laws.MakeOwn
import Derived.Laws.OwnMore
import Derived.Laws.Rows
import Derived.Laws.Tables
import Derived.Lib.BufferWrite
import Derived.Lib.Builder
import Derived.Lib.ConvBytes
import Derived.Lib.FrozenHead2
import Derived.Lib.Hide
import Derived.Lib.LaidTab
import Derived.Lib.SlFresh
import Derived.Lib.Strings
import Derived.Lib.TrailingZeros
import Derived.Lib.UnsafeStr
import Derived.LoopIn
import Derived.LoopNIn
import Derived.Maps.Keyed
import Derived.OpenShut
import Derived.Orders
import Derived.Outline
import Derived.OwnWalk
import Derived.OwnWalkIn
import Derived.ProofKit
import Derived.RangeFuncBound
import Derived.RangeFuncCalls
import Derived.RangeFuncFrom
import Derived.RangeFuncLeaves
import Derived.RangeFuncNested
import Derived.Recover
import Derived.Shelf.Abstract
import Derived.Shelf.RegionOpen
import Derived.Shelf.RegionOpenPlain
import Derived.Shelf.Spec.SlicesInsert
import Derived.Shelf.Strings.OnBuilder
import Derived.ShutString
import Derived.StillTailTactics
import Derived.TacticsInMore
import Derived.Test.YtdebnbgjgkbmaaaGreatDoorProg
import Derived.Test.YtdebnbgjgkbmaaaGreatDoorRows
import Derived.WalkKit
import Derived.WalkLawsBesides
import Derived.WalkSpells
import Derived.Test.YtdebnbgjgkbmaaaGreatDoorK4
namespace Go.Proofs.YtdebnbgjgkbmaaaGreatDoor
open Go.RowKit
namespace M
set_option linter.unusedVariables false
section
variable {w w' : World} {g : Nat} {t : TypeId} {cs : Array Value}
theorem RowAt.drewN (h : RowAt w g t cs) (n : Nat) : RowAt (w.drewN n) g t cs := h
end
section
variable {B B' : Nat} {w0 w w' : World}
theorem below_drewN (h : Below B w0 w) (n : Nat) : Below B w0 (w.drewN n) := ⟨h.os, h.tape, h.output, h.size, h.block⟩
end
section
variable {g : Nat} {w w' w'' : World}
theorem But.drewN (h : But g w w') (n : Nat) : But g w (w'.drewN n) := ⟨h.os, h.tape, h.output, h.size, h.block⟩
end
section
variable {k : IntKind} {n : Nat} {f g : Nat → Int}
theorem rowF_list {l : List Int} (h : l.length = n) : (l.map (Value.int k)).toArray = rowF k n (fun i => l.getD i 0) := by
  apply Array.ext_getElem?
  intro i
  by_cases hi : i < n
  · rw [rowF_get hi]; simp [List.getD, List.getElem?_eq_getElem (show i < l.length by omega)]
  · rw [rowF_out (by omega), Array.getElem?_eq_none (by simp; omega)]
end
end M
end Go.Proofs.YtdebnbgjgkbmaaaGreatDoor
namespace Go.Proofs.YtdebnbgjgkbmaaaGreatDoor
open Go.RowKit
set_option linter.unusedVariables false
theorem CI.drewN {n : Nat} {w : World} {s : Sha.St} {W : Nat → Nat} {v : World} (h : CI n w s W v) (k : Nat) : CI n w s W (v.drewN k) := ⟨h.r0, h.r1, h.r2, M.below_drewN h.below k⟩
end Go.Proofs.YtdebnbgjgkbmaaaGreatDoor
namespace Go.Proofs.YtdebnbgjgkbmaaaGreatDoor.RowK
open Go.ChangeShapes Go.WideShapes Go.ChangeAt Go.RowKit
open Go.ChangeMaps (open_string shut_string)
section
variable {H : Type} {enc : TypeId × Value → H} {P : Program} {w : World}
end
theorem wf_u8 {a : Int} (h : (Lit.int .u8 a).wf = true) : 0 ≤ a ∧ a ≤ 255 := by simpa [Lit.wf, IntKind.min, IntKind.max, IntKind.signed, IntKind.bits] using h
theorem wf_u16 {a : Int} (h : (Lit.int .u16 a).wf = true) : 0 ≤ a ∧ a ≤ 65535 := by simpa [Lit.wf, IntKind.min, IntKind.max, IntKind.signed, IntKind.bits] using h
end Go.Proofs.YtdebnbgjgkbmaaaGreatDoor.RowK
namespace Go.Proofs.YtdebnbgjgkbmaaaGreatDoor
open Go.RowKit
set_option linter.unusedVariables false
/-- are two hashes one? -/
def eqH (F G : Nat → Nat) : Bool := (List.range 32).all fun i => F i == G i
theorem eqItems_r8c (F G : Nat → Nat) (W : World) : ∀ (is : List Nat), (∀ i ∈ is, i < 32) → (Op.eqItems 9999 5 1 (r8 32 F) (r8 32 G) is).run Tryz.prog W = .ok (is.all fun i => F i == G i) W
  | [], _ => rfl
  | i :: is, h => by
    have hi := h i (by simp)
    have ih := eqItems_r8c F G W is (fun j hj => h j (by simp [hj]))
    have hf : (r8 32 F)[i]? = some (.int .u8 (F i : Nat)) := M.rowF_get hi
    have hg : (r8 32 G)[i]? = some (.int .u8 (G i : Nat)) := M.rowF_get hi
    by_cases he : F i = G i
    · simp [Op.eqItems, part, ih, hf, hg, go_sem, he]
    · have he' : ¬ ((F i : Nat) : Int) = ((G i : Nat) : Int) := by omega
      simp [Op.eqItems, part, hf, hg, go_sem, he, he']
set_option maxRecDepth 100000 in
theorem r8_cmp (F G : Nat → Nat) (W : World) : (Op.equalIn 10000 47 (.agg (r8 32 F)) (.agg (r8 32 G))).run Tryz.prog W = .ok (eqH F G) W := by
  have hi : ∃ i, Tryz.prog.info? 5 = some i := ⟨_, rfl⟩
  obtain ⟨i, hi⟩ := hi
  have hc : Tryz.prog.cellsOf 5 = 1 := by kernel_rfl
  have h := run_equalIn_array (P := Tryz.prog) (w := W) 9999 (r8 32 F) (r8 32 G) und28 hi
  rw [hc] at h
  exact h.trans (eqItems_r8c F G W _ (fun j hj => List.mem_range.1 hj))
/-- an array of bytes that came in, as a function -/
theorem r8_of (z : List Int) (hl : z.length = 32) (hw : ∀ a ∈ z, (Lit.int .u8 a).wf = true) : ∃ F : Nat → Nat, (∀ i, F i < 256) ∧ (z.map (Value.int .u8)).toArray = r8 32 F := by
  refine ⟨fun i => (z.getD i 0).toNat, fun i => ?_, ?_⟩
  · by_cases hi : i < z.length
    · have := RowK.wf_u8 (hw (z[i]) (List.getElem_mem hi))
      simp [List.getD_eq_getElem?_getD, List.getElem?_eq_getElem hi]; omega
    · simp [List.getD_eq_getElem?_getD, List.getElem?_eq_none (show z.length ≤ i by omega)]
  · rw [M.rowF_list hl]
    apply M.rowF_congr
    intro i hi
    have := RowK.wf_u8 (hw (z[i]'(by omega)) (List.getElem_mem _))
    simp [List.getD_eq_getElem?_getD, List.getElem?_eq_getElem (show i < z.length by omega)]; omega
end Go.Proofs.YtdebnbgjgkbmaaaGreatDoor
namespace Go.Proofs.YtdebnbgjgkbmaaaGreatDoor
open Go.RowKit
set_option linter.unusedVariables false
section
variable {n : Nat} {w v v' : World} {L L' : List (Nat × TypeId × Array Value)}
theorem KB.drewN (c : KB n w L v) (k : Nat) : KB n w L (v.drewN k) := ⟨c.rows, M.below_drewN c.below k, c.ge⟩
end
end Go.Proofs.YtdebnbgjgkbmaaaGreatDoor
namespace Go.Proofs.YtdebnbgjgkbmaaaGreatDoor
open Go.RowKit
set_option linter.unusedVariables false
theorem wpList_load_row_g {P : Program} {ops : Array Oper} {rest : List Oper} {o : Oper} {a : Act} {w : World} {Q : Exit → Act → World → Prop} (hw : Region.wanted o (yielded ops a.tmps) = true) (ty : TypeId) (x : Operand) (ho : o.op = .load ty x)
    (g : Nat) (hx : a.eval x = .pointer (some ⟨g, 0, none⟩)) (t : TypeId) (cs : Array Value) (fr : Nat × Nat) (d : TypeDesc) (hg : w.heap[g]? = some (.cells cs t fr))
    (hu : P.underlying ty = some d) (hd : (match d with | .struct _ | .array _ _ => true | _ => false) = true) (hi : (P.info? ty).map (·.size) = some cs.size)
    (h : wpList P ops Q rest (a.put o.dst (.agg cs)) w) : wpList P ops Q (o :: rest) a w :=
  wpList_step fun K hK => by rw [if_pos hw]; exact wp_load_row ty x ho g hx t cs fr d hg hu hd hi (hK _ _ h)
end Go.Proofs.YtdebnbgjgkbmaaaGreatDoor
namespace Go.Proofs.YtdebnbgjgkbmaaaGreatDoor
open Go.RowKit
set_option linter.unusedVariables false
theorem wpList_load_mid_g {P : Program} {ops : Array Oper} {rest : List Oper} {o : Oper} {a : Act} {w : World} {Q : Exit → Act → World → Prop} (hw : Region.wanted o (yielded ops a.tmps) = true) (ty : TypeId) (x : Operand) (ho : o.op = .load ty x)
    (b p : Nat) (hx : a.eval x = .pointer (some ⟨b, p, none⟩)) (cs : List Value) (d : TypeDesc) (hc : w.rangeAt b p cs) (hu : P.underlying ty = some d) (hd : d.isRow = true) (hi : (P.info? ty).map (·.size) = some cs.length)
    (h : wpList P ops Q rest (a.put o.dst (.agg cs.toArray)) w) : wpList P ops Q (o :: rest) a w := by
  exact wpList_step fun K hK => by rw [if_pos hw]; exact wp_load_mid ty x ho b p hx cs d hc hu hd hi (hK _ _ h)
theorem oat_store_mid {P : Program} {o : Oper} {a : Act} {w : World} {C' : World → Prop} (ty : TypeId) (x y : Operand) (ho : o.op = .store ty x y) (b off : Nat) (cells : Array Value) (hx : a.eval x = .pointer (some ⟨b, off, none⟩)) (hy : a.eval y = .agg cells)
    (ht : w.there b off cells.size) (hi : (P.info? ty).map (·.size) = some cells.size) (h1 : cells.all (·.oneCell') = true) (hC : C' (w.setCells b off cells.toList)) : QP.oat P o a C' w undef := by
  unfold QP.oat execOp
  simp only [ho, hx, hy, Instr.storeAt, Instr.sureAddr, Sem.run_bind, Sem.run_pure, Result.andThen_ok, run_storeVar_mid w b off ty cells ht hi h1]
  exact ⟨hC, rfl⟩
theorem wpList_build {P : Program} {ops : Array Oper} {rest : List Oper} {o : Oper} {a : Act} {w : World} {Q : Exit → Act → World → Prop} (hgd : o.guard = none) (t : TypeId) (ho : o.op = .build t #[]) (Z : Array Value)
    (hz : ∀ W, (Instr.build t #[]).run P W = .ok (.agg Z) W) (h : wpList P ops Q rest (a.put o.dst (.agg Z)) w) : wpList P ops Q (o :: rest) a w :=
  wpList_plain hgd fun _ hK => by
    unfold Oper.wp execOp
    simp only [ho, List.map_toArray, List.map_nil, Sem.run_bind, Sem.run_pure, Result.andThen_ok, hz]
    exact hK _ _ h
section
variable {w v v' : World} {B : Nat} {tB t : TypeId} {C Z : Array Value} {L L' : List (Nat × TypeId × Array Value)} {g : Nat}
end
section
variable {w v v' : World} {B : Nat} {tB t : TypeId} {C Z : Array Value} {L : List (Nat × TypeId × Array Value)} {g : Nat}
end
end Go.Proofs.YtdebnbgjgkbmaaaGreatDoor
namespace Go.Proofs.YtdebnbgjgkbmaaaGreatDoor
open Go.RowKit
/-- the table of math/bits lies in the world -/
structure TzT (w : World) : Prop where
  at' : ∀ j, j < Lib.deBruijn64tab.length → w.cell? ⟨6, j, none⟩ = some (.int .u8 (Lib.deBruijn64tab.getD j 0))
set_option maxHeartbeats 1000000 in
theorem tz64_core (x k idx : Nat) (w : World) (hx0 : ((x : Int) == 0) = false)
    (key : IntKind.u64.wrap (bits BinOp.and IntKind.u64 (x : Int) (IntKind.u64.wrap (-(x : Int))) * 285870213051353865) / 288230376151711744 = (idx : Int))
    (hi : idx < 64) (hk : k < 64) (hcell : w.cell? ⟨6, idx, none⟩ = some (.int .u8 k)) :
    Calls Tryz.prog 279 #[.int .u64 x] w fun e w' => e = .returned (.int .i64 k) ∧ w = w' := by
  go_enter Tryz.func279, Tryz.ntmps279
  go_wp2_with (simp only [key])
  go_ret
  exact ⟨rfl, rfl⟩
theorem tz64_key (x a : Nat) (hx : x < 18446744073709551616) (hx0 : x ≠ 0) (hlow : x &&& (18446744073709551616 - x) = a) :
    IntKind.u64.wrap (bits BinOp.and IntKind.u64 (x : Int) (IntKind.u64.wrap (-(x : Int))) * 285870213051353865) / 288230376151711744 = ((a * 285870213051353865 % 18446744073709551616 / 288230376151711744 : Nat) : Int) := by
  have e1 : IntKind.u64.wrap (-(x : Int)) = ((18446744073709551616 - x : Nat) : Int) := by rw [IntKind.wrap_u64]; omega
  rw [e1, bits_and_u64_nat x _ hx (by omega), hlow, IntKind.wrap_u64]
  omega
theorem tz64_any (x : Nat) (hx : x < 18446744073709551616) (w : World) (hT : TzT w) :
    Calls Tryz.prog 279 #[.int .u64 x] w fun e w' => e = .returned (.int .i64 (Lib.ctz 64 x)) ∧ w = w' := by
  by_cases hx0 : x = 0
  · subst hx0
    go_enter Tryz.func279, Tryz.ntmps279
    go_wp2
    go_ret
    exact ⟨rfl, rfl⟩
  · obtain ⟨hlow, hk⟩ := Lib.lowest_bit 64 x hx0 hx
    obtain ⟨hi, htab⟩ := Lib.deBruijn64_at _ hk
    have hcell := hT.at' _ hi
    rw [htab] at hcell
    exact tz64_core x _ _ w (by simp; omega) (tz64_key x _ hx hx0 hlow) hi hk hcell
theorem tz_any (x : Nat) (hx : x < 18446744073709551616) (w : World) (hT : TzT w) :
    Calls Tryz.prog 207 #[.int .u64 x] w fun e w' => e = .returned (.int .i64 (Lib.ctz 64 x)) ∧ w = w' := by
  have h := tz64_any x hx w hT
  generalize Lib.ctz 64 x = c at *
  have H := Lib.hid h; clear h
  go_enter Tryz.func207, Tryz.ntmps207
  go_wp2_with fail
  refine (H.out).mono ?_
  rintro e w' ⟨rfl, rfl⟩
  go_wp2
  go_ret
  exact ⟨rfl, rfl⟩
theorem quiet_same {P : Program} {f : FuncId} {args : Array Value} {w : World} {n : Nat} {v : Value}
    (h : Calls P f args (w.drewN n) fun e w' => e = .returned v ∧ w.drewN n = w') : Calls P f args (w.drewN n) fun e w'' => e = .returned v ∧ ∃ m, w'' = w.drewN m :=
  h.mono fun _ _ ⟨he, hm⟩ => ⟨he, n, hm.symm⟩
theorem isN_any (i : Int) (w : World) :
    Calls Tryz.prog 130 #[.int .i64 i] w fun e w' => e = .returned (.bool (isN i)) ∧ w = w' := by
  go_enter Tryz.func130, Tryz.ntmps130
  go_wp2
  all_goals go_ret
  all_goals exact ⟨ret_bool (by simp [isN]; omega), rfl⟩
set_option maxRecDepth 100000 in
theorem place_any (i : Int) (w : World) (hT : TzT w) :
    Calls Tryz.prog 132 #[.int .i64 i] w fun e w' => e = .returned (.int .i64 (place i)) ∧ w = w' := by
  have hn := isN_any i w
  cases h : isN i
  · rw [h] at hn
    have hp : place i = 0 := by simp [place, h]
    rw [hp]
    have HN := Lib.hid hn; clear hn h hp
    go_enter Tryz.func132, Tryz.ntmps132
    go_wp2_with fail
    refine (HN.out).mono ?_
    rintro e w' ⟨rfl, rfl⟩
    go_wp2
    go_ret
    exact ⟨rfl, rfl⟩
  · rw [h] at hn
    have h' := h
    simp only [isN, Bool.and_eq_true, decide_eq_true_eq] at h'
    obtain ⟨i0, i1⟩ := h'
    have hp : place i = min (Lib.ctz 64 i.toNat) 16 := by simp [place, h]
    rw [hp]
    obtain ⟨n, rfl⟩ := Int.eq_ofNat_of_zero_le i0
    rw [Int.toNat_natCast]
    have ht := tz_any n (by omega) w hT
    generalize Lib.ctz 64 n = c at *
    have HN := Lib.hid hn; have HT := Lib.hid ht; clear hn h hp ht
    by_cases hc : c < 16
    · rw [show ((min c 16 : Nat) : Int) = c by omega]
      go_enter Tryz.func132, Tryz.ntmps132
      go_wp2_with fail
      refine (HN.out).mono ?_
      rintro e w' ⟨rfl, rfl⟩
      go_wp2_with fail
      refine (HT.out).mono ?_
      rintro e w' ⟨rfl, rfl⟩
      go_wp2
      go_ret
      exact ⟨by first | rfl | (show Ending.returned (Value.int .i64 (min (c : Int) 16)) = _; rw [Int.min_eq_left (by omega)]), rfl⟩
    · rw [show ((min c 16 : Nat) : Int) = 16 by omega]
      by_cases he : c = 16
      · subst he
        clear hc
        go_enter Tryz.func132, Tryz.ntmps132
        go_wp2_with fail
        refine (HN.out).mono ?_
        rintro e w' ⟨rfl, rfl⟩
        go_wp2_with fail
        refine (HT.out).mono ?_
        rintro e w' ⟨rfl, rfl⟩
        go_wp2
        go_ret
        exact ⟨rfl, rfl⟩
      · have hlt : 16 < (c : Int) := by omega
        clear hc he
        generalize (c : Int) = C at *
        go_enter Tryz.func132, Tryz.ntmps132
        go_wp2_with fail
        refine (HN.out).mono ?_
        rintro e w' ⟨rfl, rfl⟩
        go_wp2_with fail
        refine (HT.out).mono ?_
        rintro e w' ⟨rfl, rfl⟩
        go_wp2
        go_ret
        exact ⟨by first | rfl | (show Ending.returned (Value.int .i64 (min C 16)) = _; rw [Int.min_eq_right (by omega)]), rfl⟩
def can (a b : Int) : Bool := isN a && isN b && (a / 2 ^ place a == b / 2 ^ place a)
theorem place_le (i : Int) : place i ≤ 16 := by unfold place; split <;> omega
theorem can_true (a b : Int) (p : Nat) (w : World) (hp : Calls Tryz.prog 132 #[.int .i64 a] w fun e w' => e = .returned (.int .i64 p) ∧ w = w') (hle : p ≤ 16)
    (ha : isN a = true) (hb : isN b = true) :
    Calls Tryz.prog 44 #[.int .i64 a, .int .i64 b] w fun e w' => e = .returned (.bool (a / 2 ^ p == b / 2 ^ p)) ∧ ∃ n, w' = w.drewN n := by
  have hn := fun w => isN_any a w
  have hm := fun w => isN_any b w
  rw [ha] at hn; rw [hb] at hm
  have HP := Lib.hid hp; have HN := Lib.hid hn; have HM := Lib.hid hm
  clear hp hn hm
  simp only [isN, Bool.and_eq_true, decide_eq_true_eq] at ha hb
  obtain ⟨a0, a1⟩ := ha
  obtain ⟨b0, b1⟩ := hb
  clear a1 b1
  go_enter Tryz.func44, Tryz.ntmps44
  go_wp2_with fail
  refine (HP.out).mono ?_
  rintro e w' ⟨rfl, rfl⟩
  go_wp2_with fail
  go_quiet (first | (go_at_call_of 130 (Value.int .i64 a); exact quiet_same (HN.out _)) | (go_at_call_of 130 (Value.int .i64 b); exact quiet_same (HM.out _)))
  go_wp2
  go_ret
  exact ⟨rfl, _, rfl⟩
theorem can_no1 (a b : Int) (p : Nat) (w : World) (hp : Calls Tryz.prog 132 #[.int .i64 a] w fun e w' => e = .returned (.int .i64 p) ∧ w = w')
    (ha : isN a = false) :
    Calls Tryz.prog 44 #[.int .i64 a, .int .i64 b] w fun e w' => e = .returned (.bool false) ∧ ∃ n, w' = w.drewN n := by
  have hn := fun w => isN_any a w
  rw [ha] at hn
  have HP := Lib.hid hp; have HN := Lib.hid hn
  clear hp hn ha
  go_enter Tryz.func44, Tryz.ntmps44
  go_wp2_with fail
  refine (HP.out).mono ?_
  rintro e w' ⟨rfl, rfl⟩
  go_wp2_with fail
  go_quiet ((go_at_call 130; exact quiet_same (HN.out _)))
  go_wp2
  go_ret
  exact ⟨rfl, _, rfl⟩
theorem can_no2 (a b : Int) (p : Nat) (w : World) (hp : Calls Tryz.prog 132 #[.int .i64 a] w fun e w' => e = .returned (.int .i64 p) ∧ w = w')
    (ha : isN a = true) (hb : isN b = false) :
    Calls Tryz.prog 44 #[.int .i64 a, .int .i64 b] w fun e w' => e = .returned (.bool false) ∧ ∃ n, w' = w.drewN n := by
  have hn := fun w => isN_any a w
  have hm := fun w => isN_any b w
  rw [ha] at hn; rw [hb] at hm
  have HP := Lib.hid hp; have HN := Lib.hid hn; have HM := Lib.hid hm
  clear hp hn hm ha hb
  go_enter Tryz.func44, Tryz.ntmps44
  go_wp2_with fail
  refine (HP.out).mono ?_
  rintro e w' ⟨rfl, rfl⟩
  go_wp2_with fail
  go_quiet (first | (go_at_call_of 130 (Value.int .i64 a); exact quiet_same (HN.out _)) | (go_at_call_of 130 (Value.int .i64 b); exact quiet_same (HM.out _)))
  go_wp2
  go_ret
  exact ⟨rfl, _, rfl⟩
theorem can_any (a b : Int) (w : World) (hT : TzT w) :
    Calls Tryz.prog 44 #[.int .i64 a, .int .i64 b] w fun e w' => e = .returned (.bool (can a b)) ∧ ∃ n, w' = w.drewN n := by
  have hp := place_any a w hT
  unfold can
  cases ha : isN a
  · exact can_no1 a b _ w hp ha
  · cases hb : isN b
    · exact can_no2 a b _ w hp ha hb
    · exact can_true a b _ w hp (place_le a) ha hb
end Go.Proofs.YtdebnbgjgkbmaaaGreatDoor
namespace Go.Proofs.YtdebnbgjgkbmaaaGreatDoor.Sc
/-- how many of the lowest bits are 0, 16 at the most -/
def pl (x : Nat) : Nat := min (Lib.ctz 64 x) 16
theorem pl_le (x : Nat) : pl x ≤ 16 := Nat.min_le_right _ _
theorem pl_zero : pl 0 = 16 := by decide
theorem pl_spec {x : Nat} (h : x < 65536) : ∃ k, x = 2 ^ pl x * k ∧ 2 ^ pl x * (k + 1) ≤ 65536 := by
  by_cases h0 : x = 0
  · subst h0; exact ⟨0, by simp, by rw [pl_zero]; decide⟩
  · obtain ⟨m, hm, hk⟩ := Lib.ctzFrom_spec 64 x (by omega) (by omega)
    have hc : Lib.ctz 64 x = Lib.ctzFrom 64 x := by unfold Lib.ctz; rw [if_neg h0]
    have h16 : Lib.ctzFrom 64 x < 16 := by
      apply Nat.lt_of_not_le; intro hle
      have h1 : 2 ^ 16 ≤ 2 ^ Lib.ctzFrom 64 x := Nat.pow_le_pow_right (by decide) hle
      have h2 : 2 ^ Lib.ctzFrom 64 x ≤ 2 ^ Lib.ctzFrom 64 x * (2 * m + 1) := Nat.le_mul_of_pos_right _ (by omega)
      rw [← hm] at h2
      omega
    have hp : pl x = Lib.ctzFrom 64 x := by unfold pl; rw [hc]; omega
    rw [hp]
    refine ⟨2 * m + 1, hm, ?_⟩
    generalize Lib.ctzFrom 64 x = p at *
    obtain ⟨d, hd⟩ : ∃ d, 16 = p + (d + 1) := ⟨15 - p, by omega⟩
    have hb : 2 * m + 1 < 2 ^ (d + 1) := by
      have : 2 ^ p * (2 * m + 1) < 2 ^ p * 2 ^ (d + 1) := by rw [← hm, ← Nat.pow_add, ← hd]; exact h
      exact Nat.lt_of_mul_lt_mul_left this
    have e : (65536 : Nat) = 2 ^ p * 2 ^ (d + 1) := by rw [← Nat.pow_add, ← hd]
    rw [e]
    exact Nat.mul_le_mul_left _ hb
end Go.Proofs.YtdebnbgjgkbmaaaGreatDoor.Sc
namespace Go.Proofs.YtdebnbgjgkbmaaaGreatDoor
set_option linter.unusedVariables false
theorem pl_low {x b : Nat} (h : x < 65536) (hb : b < Sc.pl x) : x / 2 ^ b % 2 = 0 := by
  obtain ⟨k, hk, _⟩ := Sc.pl_spec h
  obtain ⟨d, hd⟩ : ∃ d, Sc.pl x = b + (d + 1) := ⟨Sc.pl x - b - 1, by omega⟩
  rw [hd, Nat.pow_add, Nat.mul_assoc] at hk
  have : x / 2 ^ b = 2 ^ (d + 1) * k := by rw [hk]; exact Nat.mul_div_cancel_left _ (Nat.two_pow_pos b)
  rw [this, Nat.pow_succ, Nat.mul_right_comm, Nat.mul_mod_left]
theorem pl_top {x : Nat} (h : x < 65536) (hp : Sc.pl x < 16) : x / 2 ^ Sc.pl x % 2 = 1 := by
  have h0 : x ≠ 0 := fun e => by subst e; rw [Sc.pl_zero] at hp; omega
  obtain ⟨m, hm, hk⟩ := Lib.ctzFrom_spec 64 x (by omega) (by omega)
  have hc : Lib.ctz 64 x = Lib.ctzFrom 64 x := by unfold Lib.ctz; rw [if_neg h0]
  have e : Sc.pl x = Lib.ctzFrom 64 x := by unfold Sc.pl at *; omega
  rw [e]
  have : x / 2 ^ Lib.ctzFrom 64 x = 2 * m + 1 := by
    conv => lhs; lhs; rw [hm]
    exact Nat.mul_div_cancel_left _ (Nat.two_pow_pos _)
  rw [this]; omega
theorem bits_eq {x y : Nat} (hx : x < 65536) (hy : y < 65536) : ∀ d p, p + d = 16 → (∀ b, p ≤ b → b < 16 → x / 2 ^ b % 2 = y / 2 ^ b % 2) → x / 2 ^ p = y / 2 ^ p
  | 0, p, hd, _ => by
    have : p = 16 := by omega
    subst this
    omega
  | d + 1, p, hd, h => by
    have ih := bits_eq hx hy d (p + 1) (by omega) (fun b h1 h2 => h b (by omega) h2)
    have hb := h p (Nat.le_refl _) (by omega)
    rw [Nat.pow_succ, ← Nat.div_div_eq_div_mul, ← Nat.div_div_eq_div_mul] at ih
    omega
theorem eq_bits {x y p : Nat} (h : x / 2 ^ p = y / 2 ^ p) (b : Nat) (hb : p ≤ b) : x / 2 ^ b % 2 = y / 2 ^ b % 2 := by
  obtain ⟨d, rfl⟩ : ∃ d, b = p + d := ⟨b - p, by omega⟩
  rw [Nat.pow_add, ← Nat.div_div_eq_div_mul, ← Nat.div_div_eq_div_mul, h]
theorem onesL_split (y p d : Nat) (hpd : p ≤ d) : ∀ j, j ≤ p → onesL y d ((d - p) + j) = onesL y d (d - p) ++ onesL y p j
  | 0, _ => by simp [onesL]
  | j + 1, h => by
    have ih := onesL_split y p d hpd j (by omega)
    show onesL y d ((d - p + j) + 1) = _
    have e : d - 1 - (d - p + j) = p - 1 - j := by omega
    show onesL y d (d - p + j) ++ (if y / 2 ^ (d - 1 - (d - p + j)) % 2 = 1 then [d - 1 - (d - p + j)] else []) = onesL y d (d - p) ++ (onesL y p j ++ (if y / 2 ^ (p - 1 - j) % 2 = 1 then [p - 1 - j] else []))
    rw [ih, e, List.append_assoc]
theorem onesL_all (y p d : Nat) (hpd : p ≤ d) : onesL y d d = onesL y d (d - p) ++ onesL y p p := by
  have := onesL_split y p d hpd p (Nat.le_refl _)
  rw [show d - p + p = d by omega] at this
  exact this
theorem onesL_same {x y p d : Nat} (h : ∀ b, p ≤ b → b < d → x / 2 ^ b % 2 = y / 2 ^ b % 2) : ∀ j, j ≤ d - p → onesL x d j = onesL y d j
  | 0, _ => rfl
  | j + 1, hj => by
    have ih := onesL_same h j (by omega)
    have e := h (d - 1 - j) (by omega) (by omega)
    show onesL x d j ++ (if x / 2 ^ (d - 1 - j) % 2 = 1 then [d - 1 - j] else []) = onesL y d j ++ (if y / 2 ^ (d - 1 - j) % 2 = 1 then [d - 1 - j] else [])
    rw [ih, e]
theorem onesL_none {x p : Nat} (h : ∀ b, b < p → x / 2 ^ b % 2 = 0) : ∀ j, j ≤ p → onesL x p j = []
  | 0, _ => rfl
  | j + 1, hj => by
    have ih := onesL_none h j (by omega)
    have e := h (p - 1 - j) (by omega)
    show onesL x p j ++ (if x / 2 ^ (p - 1 - j) % 2 = 1 then [p - 1 - j] else []) = []
    rw [ih, e]; rfl
theorem walk_via (F : Nat → Nat) {x y p d : Nat} (hpd : p ≤ d) (h0 : ∀ b, b < p → x / 2 ^ b % 2 = 0) (h1 : ∀ b, p ≤ b → b < d → x / 2 ^ b % 2 = y / 2 ^ b % 2) :
    walkH (walkH F x d) y p = walkH F y d := by
  unfold walkH
  rw [onesL_all x p d hpd, onesL_all y p d hpd, onesL_none h0 p (Nat.le_refl _), List.append_nil, List.foldl_append, onesL_same h1 (d - p) (Nat.le_refl _)]
theorem can_iff {x y : Nat} (hx : x < 65536) (hy : y < 65536) : can (x : Int) (y : Int) = true ↔ x / 2 ^ Sc.pl x = y / 2 ^ Sc.pl x := by
  have h1 : isN (x : Int) = true := by simp [isN]; omega
  have h2 : isN (y : Int) = true := by simp [isN]; omega
  have h3 : place (x : Int) = Sc.pl x := by unfold place; rw [h1]; rfl
  unfold can
  rw [h1, h2, h3, show ((2 : Int) ^ Sc.pl x) = ((2 ^ Sc.pl x : Nat) : Int) by simp]
  simp only [Bool.true_and, beq_iff_eq]
  rw [← Int.natCast_ediv, ← Int.natCast_ediv]
  omega
theorem can_lt {x y : Int} (h : can x y = true) : ∃ a b : Nat, x = a ∧ y = b ∧ a < 65536 ∧ b < 65536 := by
  unfold can at h
  simp only [Bool.and_eq_true, isN, decide_eq_true_eq] at h
  exact ⟨x.toNat, y.toNat, by omega, by omega, by omega, by omega⟩
theorem pl_mono {x y : Nat} (hx : x < 65536) (hy : y < 65536) (h : can (x : Int) (y : Int) = true) : Sc.pl y ≤ Sc.pl x := by
  apply Nat.le_of_not_lt
  intro hlt
  have e := (can_iff hx hy).1 h
  have a := pl_top hx (by have := Sc.pl_le y; omega)
  have b := pl_low hy hlt
  rw [e] at a; omega
theorem far {x y z : Nat} (hx : x < 65536) (hy : y < 65536) (hz : z < 65536) (h : can (x : Int) (y : Int) = true) (k : can (y : Int) (z : Int) = true) (F : Nat → Nat) : walkH (walkH F y (Sc.pl x)) z (Sc.pl y) = walkH F z (Sc.pl x) :=
  walk_via F (pl_mono hx hy h) (fun b hb => pl_low hy hb) (fun b hb _ => eq_bits ((can_iff hy hz).1 k) b hb)
end Go.Proofs.YtdebnbgjgkbmaaaGreatDoor
namespace Go.Proofs.YtdebnbgjgkbmaaaGreatDoor
open Go.RowKit
set_option linter.unusedVariables false
def mkH (F : Nat → Nat) (i : Int) : Nat → Nat := if isN i then walkH F i.toNat 16 else fun _ => 0
def mkE (i : Int) : Int := if isN i then 0 else 1
def drH (F : Nat → Nat) (a b : Int) : Nat → Nat := if can a b then walkH F b.toNat (place a) else fun _ => 0
def drE (a b : Int) : Int := if can a b then 0 else 1
theorem walkH_lt {F : Nat → Nat} (hF : ∀ i, F i < 256) (i d : Nat) : ∀ j, walkH F i d j < 256 := by
  intro j
  unfold walkH
  rcases List.eq_nil_or_concat (onesL i d d) with h | ⟨l, x, h⟩
  · rw [h]; exact hF j
  · rw [h, List.concat_eq_append, List.foldl_append]; exact ofH_lt _ _
theorem TzT.below {w w' : World} {B : Nat} (h : TzT w) (hb : Below B w w') (hB : 6 < B) : TzT w' := ⟨fun j hj => by rw [hb.cell (show 6 < B from hB)]; exact h.at' j hj⟩
theorem TzT.lt {w : World} (h : TzT w) : 6 < w.heap.size := World.block_lt_of_cell? w _ (h.at' 0 (by decide))
/-- .. of the reference: a number -/
theorem number_any (i : Int) (w : World) : Calls Tryz.prog 98 #[.int .i64 i] w fun e w' => e = .returned (.bool (isN i)) ∧ w = w' := by
  go_enter Tryz.func98, Tryz.ntmps98
  go_wp2
  all_goals go_ret
  all_goals exact ⟨ret_bool (by simp [isN]; omega), rfl⟩
set_option maxRecDepth 100000 in
set_option maxHeartbeats 4000000 in
theorem make_any (F : Nat → Nat) (i : Int) (w : World) (ht : Tabs w) (hF : ∀ j, F j < 256) :
    Calls Tryz.prog 40 #[.agg (r8 32 F), .int .i64 i] w fun e w' => e = .returned (.tuple #[.agg (r8 32 (mkH F i)), .int .i64 (mkE i)]) ∧ Below w.heap.size w w' := by
  obtain ⟨n, hn⟩ : ∃ n, w.heap.size = n := ⟨_, rfl⟩
  have HN := Lib.hid hn
  have h1n : 4 < n := hn ▸ ht.lt
  have kb := ((KB.start w).new 47 (r8 32 F)).new 47 Z32
  rw [World.size_alloc, hn] at kb
  have iF := r8_info F
  have cn := fun v => isN_any i v
  have CN := Lib.hid cn
  cases hN : isN i
  · have e1 : r8 32 (mkH F i) = Z32 := by unfold mkH; rw [hN]; exact z32_r8
    have e2 : mkE i = 1 := by unfold mkE; rw [hN]; rfl
    rw [e1, e2]
    rw [hN] at CN
    have iZ := r8_info (fun _ => 0)
    rw [z32_r8] at iZ
    have oZ : Z32.all (·.oneCell') = true := by kernel_rfl
    generalize r8 32 F = C at *
    obtain ⟨V, hV⟩ : ∃ V, (w.alloc (.cells C 47)).alloc (.cells #[.int .u8 0, .int .u8 0, .int .u8 0, .int .u8 0, .int .u8 0, .int .u8 0, .int .u8 0, .int .u8 0, .int .u8 0, .int .u8 0, .int .u8 0, .int .u8 0, .int .u8 0, .int .u8 0, .int .u8 0, .int .u8 0, .int .u8 0, .int .u8 0, .int .u8 0, .int .u8 0, .int .u8 0, .int .u8 0, .int .u8 0, .int .u8 0, .int .u8 0, .int .u8 0, .int .u8 0, .int .u8 0, .int .u8 0, .int .u8 0, .int .u8 0, .int .u8 0] 47) = V := ⟨_, rfl⟩
    have kV : KB n w [(n + 1, 47, Z32), (n, 47, C)] V := hV ▸ kb
    have rV := kV.row (n + 1) 47 Z32 (by simp)
    have kW := kV.setRow (fun x hx => by simp at hx; subst hx; show n ≠ n + 1; omega) (by omega) Z32
    have rW := kW.row (n + 1) 47 Z32 (by simp)
    have HV := Lib.hid hV
    clear kb cn hV hN e1 e2 kV
    go_enter Tryz.func40, Tryz.ntmps40
    go_wp2_with fail
    rw [HV.out]
    refine (CN.out _).mono ?_
    rintro e w1 ⟨rfl, rfl⟩
    go_wp2_with (refine wpList_store_row (x := .tmp 4) (y := .tmp 9) (cells := Z32) (old := Z32) (t := 47) (ty := 47) (g := n + 1) ?_ ?_ ?_ ?_ rV iZ rfl oZ ?_; rfl; rfl; rfl; rfl)
    have hload := run_loadVar_row (P := Tryz.prog) _ (n + 1) 47 47 Z32 (0, 0) _ rW und28 rfl iZ
    refine bodyPost_ret (v := .tuple #[.agg Z32, .int .i64 1]) (by simp [results, Tryz.results40, asAddr, hload]) rfl ⟨rfl, ?_⟩
    rw [HN.out]
    exact kW.below
  · have hr : 0 ≤ i ∧ i < 65536 := by simpa [isN] using hN
    obtain ⟨x, rfl⟩ := Int.eq_ofNat_of_zero_le hr.1
    have e1 : mkH F (x : Int) = walkH F x 16 := by unfold mkH; rw [hN]; rfl
    have e2 : mkE (x : Int) = 0 := by unfold mkE; rw [hN]; rfl
    rw [e1, e2]
    rw [hN] at CN
    have cc := fun v (hb : Below n w v) => chain_any F x 16 v (ht.below hb h1n) hF (by omega) (by decide)
    have iD := r8_info (walkH F x 16); have zD := r8_zero (walkH F x 16); have oD := r8_one (walkH F x 16)
    generalize r8 32 (walkH F x 16) = D at *
    generalize r8 32 F = C at *
    have CC := Lib.hid cc
    obtain ⟨V, hV⟩ : ∃ V, (w.alloc (.cells C 47)).alloc (.cells #[.int .u8 0, .int .u8 0, .int .u8 0, .int .u8 0, .int .u8 0, .int .u8 0, .int .u8 0, .int .u8 0, .int .u8 0, .int .u8 0, .int .u8 0, .int .u8 0, .int .u8 0, .int .u8 0, .int .u8 0, .int .u8 0, .int .u8 0, .int .u8 0, .int .u8 0, .int .u8 0, .int .u8 0, .int .u8 0, .int .u8 0, .int .u8 0, .int .u8 0, .int .u8 0, .int .u8 0, .int .u8 0, .int .u8 0, .int .u8 0, .int .u8 0, .int .u8 0] 47) = V := ⟨_, rfl⟩
    have kV : KB n w [(n + 1, 47, Z32), (n, 47, C)] V := hV ▸ kb
    have rC := kV.row n 47 C (by simp)
    have HV := Lib.hid hV
    clear kb cn hV hN e1 e2 cc hr ht h1n
    go_enter Tryz.func40, Tryz.ntmps40
    go_wp2_with fail
    rw [HV.out]
    refine (CN.out _).mono ?_
    rintro e w1 ⟨rfl, rfl⟩
    go_wp2_with (first
      | (refine wpList_load_row (x := .tmp 2) (ty := 47) (g := n) (cs := C) (t := 47) (fr := (0, 0)) ?_ ?_ ?_ _ rC und28 rfl iF ?_; rfl; rfl; rfl)
      | fail)
    refine (CC.out _ kV.below).mono ?_
    rintro e w2 ⟨rfl, gq⟩
    have k2 := kV.same gq
    have r2 := k2.row (n + 1) 47 Z32 (by simp)
    have kW := k2.setRow (fun x hx => by simp at hx; subst hx; show n ≠ n + 1; omega) (by omega) D
    have rW := kW.row (n + 1) 47 D (by simp)
    clear gq kV rC k2
    go_wp2_with (refine wpList_store_row (x := .tmp 4) (y := .tmp 12) (cells := D) (old := Z32) (t := 47) (ty := 47) (g := n + 1) ?_ ?_ ?_ ?_ r2 iD zD oD ?_; rfl; rfl; rfl; rfl)
    have hload := run_loadVar_row (P := Tryz.prog) _ (n + 1) 47 47 D (0, 0) _ rW und28 rfl iD
    refine bodyPost_ret (v := .tuple #[.agg D, .int .i64 0]) (by simp [results, Tryz.results40, asAddr, hload]) rfl ⟨rfl, ?_⟩
    rw [HN.out]
    exact kW.below
set_option maxRecDepth 100000 in
set_option maxHeartbeats 4000000 in
theorem derive_any (F : Nat → Nat) (a b : Int) (w : World) (ht : Tabs w) (hz : TzT w) (hF : ∀ j, F j < 256) :
    Calls Tryz.prog 43 #[.agg (r8 32 F), .int .i64 a, .int .i64 b] w fun e w' => e = .returned (.tuple #[.agg (r8 32 (drH F a b)), .int .i64 (drE a b)]) ∧ Below w.heap.size w w' := by
  obtain ⟨n, hn⟩ : ∃ n, w.heap.size = n := ⟨_, rfl⟩
  have HN := Lib.hid hn
  have h1n : 4 < n := hn ▸ ht.lt
  have h3n : 6 < n := hn ▸ hz.lt
  have canB := fun v (hb : Below n w v) => (can_any a b v (hz.below hb h3n)).mono (R' := fun e w' => e = .returned (.bool (can a b)) ∧ Below v.heap.size v w') (fun e w' ⟨he, m, hm⟩ => ⟨he, by rw [hm]; exact M.below_drewN (Below.refl _ _) m⟩)
  have kb := ((KB.start w).new 47 (r8 32 F)).new 47 Z32
  rw [World.size_alloc, hn] at kb
  have iF := r8_info F
  have cn := canB
  have CN := Lib.hid cn
  cases hN : can a b
  · have e1 : r8 32 (drH F a b) = Z32 := by unfold drH; rw [hN]; exact z32_r8
    have e2 : drE a b = 1 := by unfold drE; rw [hN]; rfl
    rw [e1, e2]
    rw [hN] at CN
    have iZ := r8_info (fun _ => 0)
    rw [z32_r8] at iZ
    have oZ : Z32.all (·.oneCell') = true := by kernel_rfl
    generalize r8 32 F = C at *
    obtain ⟨V, hV⟩ : ∃ V, (w.alloc (.cells C 47)).alloc (.cells #[.int .u8 0, .int .u8 0, .int .u8 0, .int .u8 0, .int .u8 0, .int .u8 0, .int .u8 0, .int .u8 0, .int .u8 0, .int .u8 0, .int .u8 0, .int .u8 0, .int .u8 0, .int .u8 0, .int .u8 0, .int .u8 0, .int .u8 0, .int .u8 0, .int .u8 0, .int .u8 0, .int .u8 0, .int .u8 0, .int .u8 0, .int .u8 0, .int .u8 0, .int .u8 0, .int .u8 0, .int .u8 0, .int .u8 0, .int .u8 0, .int .u8 0, .int .u8 0] 47) = V := ⟨_, rfl⟩
    have kV : KB n w [(n + 1, 47, Z32), (n, 47, C)] V := hV ▸ kb
    have HV := Lib.hid hV
    clear kb cn hV hN e1 e2 ht hz h1n h3n canB
    go_enter Tryz.func43, Tryz.ntmps43
    go_wp2_with fail
    rw [HV.out]
    refine (CN.out _ kV.below).mono ?_
    rintro e w1 ⟨rfl, gq⟩
    have k1 := kV.same gq
    have rV := k1.row (n + 1) 47 Z32 (by simp)
    have kW := k1.setRow (fun x hx => by simp at hx; subst hx; show n ≠ n + 1; omega) (by omega) Z32
    have rW := kW.row (n + 1) 47 Z32 (by simp)
    clear gq kV k1
    go_wp2_with (refine wpList_store_row (x := .tmp 6) (y := .tmp 12) (cells := Z32) (old := Z32) (t := 47) (ty := 47) (g := n + 1) ?_ ?_ ?_ ?_ rV iZ rfl oZ ?_; rfl; rfl; rfl; rfl)
    have hload := run_loadVar_row (P := Tryz.prog) _ (n + 1) 47 47 Z32 (0, 0) _ rW und28 rfl iZ
    refine bodyPost_ret (v := .tuple #[.agg Z32, .int .i64 1]) (by simp [results, Tryz.results43, asAddr, hload]) rfl ⟨rfl, ?_⟩
    rw [HN.out]
    exact kW.below
  · obtain ⟨x, y, rfl, rfl, hx, hy⟩ := can_lt hN
    have e1 : drH F (x : Int) (y : Int) = walkH F y (place (x : Int)) := by unfold drH; rw [hN]; rfl
    have e2 : drE (x : Int) (y : Int) = 0 := by unfold drE; rw [hN]; rfl
    rw [e1, e2]
    rw [hN] at CN
    have hpl := place_le (x : Int)
    have cp := fun v (hb : Below n w v) => (place_any (x : Int) v (hz.below hb h3n)).mono (R' := fun e w' => e = .returned (.int .i64 (place (x : Int))) ∧ Below v.heap.size v w') (fun e w' ⟨he, hm⟩ => ⟨he, by rw [← hm]; exact Below.refl _ _⟩)
    have cc := fun v (hb : Below n w v) => chain_any F y (place (x : Int)) v (ht.below hb h1n) hF hy hpl
    generalize place (x : Int) = p at *
    have iD := r8_info (walkH F y p); have zD := r8_zero (walkH F y p); have oD := r8_one (walkH F y p)
    generalize r8 32 (walkH F y p) = D at *
    generalize r8 32 F = C at *
    have CC := Lib.hid cc; have CP := Lib.hid cp
    obtain ⟨V, hV⟩ : ∃ V, (w.alloc (.cells C 47)).alloc (.cells #[.int .u8 0, .int .u8 0, .int .u8 0, .int .u8 0, .int .u8 0, .int .u8 0, .int .u8 0, .int .u8 0, .int .u8 0, .int .u8 0, .int .u8 0, .int .u8 0, .int .u8 0, .int .u8 0, .int .u8 0, .int .u8 0, .int .u8 0, .int .u8 0, .int .u8 0, .int .u8 0, .int .u8 0, .int .u8 0, .int .u8 0, .int .u8 0, .int .u8 0, .int .u8 0, .int .u8 0, .int .u8 0, .int .u8 0, .int .u8 0, .int .u8 0, .int .u8 0] 47) = V := ⟨_, rfl⟩
    have kV : KB n w [(n + 1, 47, Z32), (n, 47, C)] V := hV ▸ kb
    have HV := Lib.hid hV
    clear kb cn hV hN e1 e2 cc cp ht hz h1n h3n canB
    go_enter Tryz.func43, Tryz.ntmps43
    go_wp2_with fail
    rw [HV.out]
    refine (CN.out _ kV.below).mono ?_
    rintro e w1 ⟨rfl, gq⟩
    have k1 := kV.same gq
    clear gq kV
    go_wp2_with fail
    clear hn
    refine QT.wp_region_p 5 (KB n w [(n + 1, 47, Z32), (n, 47, C)]) (KB n w [(n + 1, 47, D), (n, 47, C)]) (by kernel_rfl) (by kernel_rfl) k1.drew ?_
    iterate 7
      (refine QT.wpQ_step (fun K hK => ?_)
       go_simp
       first
         | (refine hK _ ?_; clear hK K)
         | (refine ⟨?_, hK _ ?_⟩; decide; clear hK K)
         | ((first | (apply Exists.intro; refine ⟨?_, hK _ ?_⟩) | refine ⟨⟨undef, ?_⟩, hK _ ?_⟩)
            first
              | (apply QT.al_p; decide; (focus (intro wq hq; (skip); first | (first | ((with_reducible refine QP.oat_load_row (ty := 47) (x := .tmp 3) (g := n) (t := 47) (cs := C) (fr := (0, 0)) ?_ ?_ _ (hq.row n 47 C (by simp)) und28 ?_ iF hq); rfl; rfl; rfl) | ((with_reducible refine QP.oat_store_row (ty := 47) (x := .tmp 6) (y := .tmp 17) (g := n + 1) (cells := D) (t := 47) (old := Z32) ?_ ?_ ?_ (hq.row (n + 1) 47 Z32 (by simp)) iD zD oD (hq.setRow (fun x hx => by simp at hx; subst hx; show n ≠ n + 1; omega) (by omega) D)); rfl; rfl; rfl)) | (unfold QP.oat; go_simp; first | done | exact ⟨by assumption, rfl⟩ | exact rfl | assumption | (first | ((with_reducible refine (CP.out _ hq.below).mono ?_); rintro e w' ⟨rfl, gq⟩; exact ⟨rfl, hq.same gq⟩) | ((with_reducible refine (CC.out _ hq.below).mono ?_); rintro e w' ⟨rfl, gq⟩; exact ⟨rfl, hq.same gq⟩))))))
              | (apply QT.al_dep; decide; decide; (focus (intro wq hq; (skip); first | (first | ((with_reducible refine QP.oat_load_row (ty := 47) (x := .tmp 3) (g := n) (t := 47) (cs := C) (fr := (0, 0)) ?_ ?_ _ (hq.row n 47 C (by simp)) und28 ?_ iF hq); rfl; rfl; rfl) | ((with_reducible refine QP.oat_store_row (ty := 47) (x := .tmp 6) (y := .tmp 17) (g := n + 1) (cells := D) (t := 47) (old := Z32) ?_ ?_ ?_ (hq.row (n + 1) 47 Z32 (by simp)) iD zD oD (hq.setRow (fun x hx => by simp at hx; subst hx; show n ≠ n + 1; omega) (by omega) D)); rfl; rfl; rfl)) | (unfold QP.oat; go_simp; first | done | exact ⟨by assumption, rfl⟩ | exact rfl | assumption | (first | ((with_reducible refine (CP.out _ hq.below).mono ?_); rintro e w' ⟨rfl, gq⟩; exact ⟨rfl, hq.same gq⟩) | ((with_reducible refine (CC.out _ hq.below).mono ?_); rintro e w' ⟨rfl, gq⟩; exact ⟨rfl, hq.same gq⟩))))))
              | (apply QT.al_bef; decide; decide; (focus (intro wq hq; (skip); first | (first | ((with_reducible refine QP.oat_load_row (ty := 47) (x := .tmp 3) (g := n) (t := 47) (cs := C) (fr := (0, 0)) ?_ ?_ _ (hq.row n 47 C (by simp)) und28 ?_ iF hq); rfl; rfl; rfl) | ((with_reducible refine QP.oat_store_row (ty := 47) (x := .tmp 6) (y := .tmp 17) (g := n + 1) (cells := D) (t := 47) (old := Z32) ?_ ?_ ?_ (hq.row (n + 1) 47 Z32 (by simp)) iD zD oD (hq.setRow (fun x hx => by simp at hx; subst hx; show n ≠ n + 1; omega) (by omega) D)); rfl; rfl; rfl)) | (unfold QP.oat; go_simp; first | done | exact ⟨by assumption, rfl⟩ | exact rfl | assumption | (first | ((with_reducible refine (CP.out _ hq.below).mono ?_); rintro e w' ⟨rfl, gq⟩; exact ⟨rfl, hq.same gq⟩) | ((with_reducible refine (CC.out _ hq.below).mono ?_); rintro e w' ⟨rfl, gq⟩; exact ⟨rfl, hq.same gq⟩))))))
              | (apply QT.al_ok; decide; (focus (intro wq hq; (skip); first | (first | ((with_reducible refine QP.oat_load_row (ty := 47) (x := .tmp 3) (g := n) (t := 47) (cs := C) (fr := (0, 0)) ?_ ?_ _ (hq.row n 47 C (by simp)) und28 ?_ iF hq); rfl; rfl; rfl) | ((with_reducible refine QP.oat_store_row (ty := 47) (x := .tmp 6) (y := .tmp 17) (g := n + 1) (cells := D) (t := 47) (old := Z32) ?_ ?_ ?_ (hq.row (n + 1) 47 Z32 (by simp)) iD zD oD (hq.setRow (fun x hx => by simp at hx; subst hx; show n ≠ n + 1; omega) (by omega) D)); rfl; rfl; rfl)) | (unfold QP.oat; go_simp; first | done | exact ⟨by assumption, rfl⟩ | exact rfl | assumption | (first | ((with_reducible refine (CP.out _ hq.below).mono ?_); rintro e w' ⟨rfl, gq⟩; exact ⟨rfl, hq.same gq⟩) | ((with_reducible refine (CC.out _ hq.below).mono ?_); rintro e w' ⟨rfl, gq⟩; exact ⟨rfl, hq.same gq⟩))))); (focus (intro wq hq; (skip); first | (first | ((with_reducible refine QP.oat_load_row (ty := 47) (x := .tmp 3) (g := n) (t := 47) (cs := C) (fr := (0, 0)) ?_ ?_ _ (hq.row n 47 C (by simp)) und28 ?_ iF hq); rfl; rfl; rfl) | ((with_reducible refine QP.oat_store_row (ty := 47) (x := .tmp 6) (y := .tmp 17) (g := n + 1) (cells := D) (t := 47) (old := Z32) ?_ ?_ ?_ (hq.row (n + 1) 47 Z32 (by simp)) iD zD oD (hq.setRow (fun x hx => by simp at hx; subst hx; show n ≠ n + 1; omega) (by omega) D)); rfl; rfl; rfl)) | (unfold QP.oat; go_simp; first | done | exact ⟨by assumption, rfl⟩ | exact rfl | assumption | (first | ((with_reducible refine (CP.out _ hq.below).mono ?_); rintro e w' ⟨rfl, gq⟩; exact ⟨rfl, hq.same gq⟩) | ((with_reducible refine (CC.out _ hq.below).mono ?_); rintro e w' ⟨rfl, gq⟩; exact ⟨rfl, hq.same gq⟩))))))
            clear hK K))
    refine QT.wpQ_nil ?_
    intro wz bz
    have rW := bz.row (n + 1) 47 D (by simp)
    go_wp2
    have hload := run_loadVar_row (P := Tryz.prog) _ (n + 1) 47 47 D (0, 0) _ rW und28 rfl iD
    refine bodyPost_ret (v := .tuple #[.agg D, .int .i64 0]) (by simp [results, Tryz.results43, asAddr, hload]) rfl ⟨rfl, ?_⟩
    rw [HN.out]
    exact bz.below
end Go.Proofs.YtdebnbgjgkbmaaaGreatDoor
namespace Go.Proofs.YtdebnbgjgkbmaaaGreatDoor
open Go.RowKit
set_option linter.unusedVariables false
theorem can_b (a b : Int) (w : World) (h : TzT w) : Calls Tryz.prog 44 #[.int .i64 a, .int .i64 b] w fun e w' => e = .returned (.bool (can a b)) ∧ Below w.heap.size w w' :=
  (can_any a b w h).mono fun e w' ⟨he, n, hw⟩ => ⟨he, hw ▸ M.below_drewN (Below.refl _ _) n⟩
theorem place_b (i : Int) (w : World) (h : TzT w) : Calls Tryz.prog 132 #[.int .i64 i] w fun e w' => e = .returned (.int .i64 (place i)) ∧ Below w.heap.size w w' :=
  (place_any i w h).mono fun e w' ⟨he, hw⟩ => ⟨he, hw ▸ Below.refl _ _⟩
end Go.Proofs.YtdebnbgjgkbmaaaGreatDoor
namespace Go.Proofs.YtdebnbgjgkbmaaaGreatDoor
open Go.RowKit
set_option linter.unusedVariables false
/-- what a place has -/
structure Ent where
  full : Bool
  num : Int
  told : Nat → Nat
def none0 : Ent := ⟨false, 0, fun _ => 0⟩
def Ent.cells (e : Ent) : List Value := .bool e.full :: .int .i64 e.num :: (r8 32 e.told).toList
theorem Ent.len (e : Ent) : e.cells.length = 34 := by unfold Ent.cells; rw [List.length_cons, List.length_cons, Array.length_toList, r8_size]
theorem Ent.one (e : Ent) : ∀ u ∈ e.cells, u.oneCell' = true := by
  intro u hu
  unfold Ent.cells at hu
  rcases List.mem_cons.1 hu with h | hu
  · rw [h]; rfl
  rcases List.mem_cons.1 hu with h | hu
  · rw [h]; rfl
  have := r8_one e.told
  exact (Array.all_eq_true_iff_forall_mem.1 this) u (by simpa using hu)
def Ent.row (e : Ent) : Array Value := e.cells.toArray
theorem Ent.row_size (e : Ent) : e.row.size = 34 := by unfold Ent.row; simpa using e.len
theorem Ent.row_one (e : Ent) : e.row.all (·.oneCell') = true := Array.all_eq_true_iff_forall_mem.2 (fun v hv => e.one v (by unfold Ent.row at hv; simpa using hv))
theorem ent_info (e : Ent) : (Tryz.prog.info? 90).map (·.size) = some e.row.size := by rw [e.row_size]; kernel_rfl
theorem ent_infoL (e : Ent) : (Tryz.prog.info? 90).map (·.size) = some e.cells.length := by rw [e.len]; kernel_rfl
/-- the cells of the first n places -/
def shL (E : Nat → Ent) (n : Nat) : List Value := (List.range n).flatMap fun b => (E b).cells
theorem shL_succ (E : Nat → Ent) (n : Nat) : shL E (n + 1) = shL E n ++ (E n).cells := by unfold shL; rw [List.range_succ, List.flatMap_append]; simp
theorem shL_len (E : Nat → Ent) (n : Nat) : (shL E n).length = 34 * n := by
  induction n with
  | zero => rfl
  | succ n ih => rw [shL_succ, List.length_append, ih, Ent.len]; omega
theorem shL_get (E : Nat → Ent) (n b j : Nat) (hb : b < n) (hj : j < 34) : (shL E n)[34 * b + j]? = (E b).cells[j]? := by
  induction n with
  | zero => omega
  | succ n ih =>
    rw [shL_succ]
    by_cases h : b < n
    · rw [List.getElem?_append_left (by rw [shL_len]; omega)]; exact ih h
    · obtain rfl : b = n := by omega
      rw [List.getElem?_append_right (by rw [shL_len]; omega), shL_len, show 34 * b + j - 34 * b = j by omega]
def shC (E : Nat → Ent) : Array Value := (shL E 17).toArray
theorem shC_size (E : Nat → Ent) : (shC E).size = 578 := by unfold shC; simp [shL_len]
theorem shC_get (E : Nat → Ent) (b j : Nat) (hb : b < 17) (hj : j < 34) : (shC E)[34 * b + j]? = (E b).cells[j]? := by
  unfold shC; rw [List.getElem?_toArray]; exact shL_get E 17 b j hb hj
def putE (E : Nat → Ent) (p : Nat) (e : Ent) : Nat → Ent := fun b => if b = p then e else E b
theorem shC_put (E : Nat → Ent) (p : Nat) (hp : p < 17) (e : Ent) : spl (shC E) (34 * p) e.cells = shC (putE E p e) := by
  apply Array.ext_getElem?
  intro i
  rw [spl_get _ _ _ _ (by rw [shC_size, e.len]; omega), e.len]
  by_cases h : i < 578
  · have hb : i / 34 < 17 := by omega
    have hj : i % 34 < 34 := Nat.mod_lt _ (by decide)
    have e1 := shC_get E (i / 34) (i % 34) hb hj
    have e2 := shC_get (putE E p e) (i / 34) (i % 34) hb hj
    rw [show 34 * (i / 34) + i % 34 = i by omega] at e1 e2
    rw [e1, e2]
    unfold putE
    by_cases h1 : i / 34 = p
    · rw [if_pos (by omega), if_pos h1, show i - 34 * p = i % 34 by omega]
    · rw [if_neg (by omega), if_neg h1]
  · rw [if_neg (by omega), Array.getElem?_eq_none (by rw [shC_size]; omega), Array.getElem?_eq_none (by rw [shC_size]; omega)]
theorem sh_range {v : World} {s : Nat} {E : Nat → Ent} (h : M.RowAt v s 93 (shC E)) (b : Nat) (hb : b < 17) : v.rangeAt s (34 * b) (E b).cells := fun j u hu => by
  have hj : j < 34 := by have := (List.getElem?_eq_some_iff.1 hu).1; rw [Ent.len] at this; exact this
  rw [h.cell, shC_get E b j hb hj]; exact hu
theorem sh_there {v : World} {s : Nat} {E : Nat → Ent} (h : M.RowAt v s 93 (shC E)) (b : Nat) (hb : b < 17) : v.there s (34 * b) 34 := fun j hj => by
  refine ⟨?_, h.frozen _⟩
  rw [h.cell, shC_get E b j hb hj, List.getElem?_eq_getElem (by rw [Ent.len]; exact hj)]; rfl
theorem Ent.c0 (e : Ent) : e.row[0]? = some (.bool e.full) := rfl
theorem Ent.c1 (e : Ent) : e.row[1]? = some (.int .i64 e.num) := rfl
theorem Ent.range2 {v : World} {g : Nat} {t : TypeId} {e : Ent} (h : M.RowAt v g t e.row) : v.rangeAt g 2 (r8 32 e.told).toList := fun j u hu => by
  rw [h.cell]
  unfold Ent.row Ent.cells
  rw [List.getElem?_toArray, show 2 + j = (j + 1) + 1 by omega, List.getElem?_cons_succ, List.getElem?_cons_succ]
  exact hu
end Go.Proofs.YtdebnbgjgkbmaaaGreatDoor
-- fixed
namespace Go.Proofs.YtdebnbgjgkbmaaaGreatDoor
open Go.RowKit
set_option linter.unusedVariables false
def Z68 : Array Value := none0.row
theorem z68_lit : Z68 = #[.bool false, .int .i64 0, .int .u8 0, .int .u8 0, .int .u8 0, .int .u8 0, .int .u8 0, .int .u8 0, .int .u8 0, .int .u8 0, .int .u8 0, .int .u8 0, .int .u8 0, .int .u8 0, .int .u8 0, .int .u8 0, .int .u8 0, .int .u8 0, .int .u8 0, .int .u8 0, .int .u8 0, .int .u8 0, .int .u8 0, .int .u8 0, .int .u8 0, .int .u8 0, .int .u8 0, .int .u8 0, .int .u8 0, .int .u8 0, .int .u8 0, .int .u8 0, .int .u8 0, .int .u8 0] := by rfl
theorem und69 : Tryz.prog.underlying 91 = some (.array 17 90) := by kernel_rfl
theorem slice_shelf (s p : Nat) (hp : p ≤ 17) (W : World) : (Instr.sliceAt 91 (.pointer (some ⟨s, 0, none⟩)) none (some (.int .i64 (p : Nat))) none).run Tryz.prog W = .ok (.slice (some ⟨s, 0, none⟩) p 17) W := by
  have h1 : (0 : Int) ≤ p := by omega
  have h2 : (p : Int) ≤ 17 := by omega
  simp [Instr.sliceAt, go_sem, run_underlying und69, h1, h2]
/-- the first place below p of which f holds -/
def low (E : Nat → Ent) (f : Ent → Bool) (p : Nat) : Option Nat := (List.range p).find? fun b => (E b).full && f (E b)
def lowV (E : Nat → Ent) (f : Ent → Bool) (p : Nat) : Ent := match low E f p with | some b => E b | none => none0
def lowB (E : Nat → Ent) (f : Ent → Bool) (p : Nat) : Bool := (low E f p).isSome
theorem low_none {E : Nat → Ent} {f : Ent → Bool} {p : Nat} (h : ∀ b, b < p → ((E b).full && f (E b)) = false) : low E f p = none := by
  unfold low
  rw [List.find?_eq_none]
  intro b hb
  rw [h b (List.mem_range.1 hb)]; decide
theorem low_some {E : Nat → Ent} {f : Ent → Bool} {p k : Nat} (hk : k < p) (h : ∀ b, b < k → ((E b).full && f (E b)) = false) (h1 : ((E k).full && f (E k)) = true) : low E f p = some k := by
  unfold low
  obtain ⟨d, rfl⟩ : ∃ d, p = k + (d + 1) := ⟨p - k - 1, by omega⟩
  rw [List.range_add, List.find?_append]
  have e : (List.range k).find? (fun b => (E b).full && f (E b)) = none := low_none h
  rw [e, List.range_succ_eq_map]
  simp [h1]
set_option maxRecDepth 100000 in
set_option maxHeartbeats 4000000 in
theorem lowest_any (s p fn : Nat) (E : Nat → Ent) (f : Ent → Bool) (caps : Array Value) (w : World) (hs : M.RowAt w s 93 (shC E)) (hp : p ≤ 17) (en : Enters Tryz.prog fn)
    (hcl : ∀ b, b < p → (E b).full = true → ∀ v, Below w.heap.size w v → Calls Tryz.prog fn (#[.agg (E b).row] ++ caps) v fun e w' => e = .returned (.bool (f (E b))) ∧ Below v.heap.size v w') :
    Calls Tryz.prog 133 #[.pointer (some ⟨s, 0, none⟩), .int .i64 (p : Nat), .func (.func fn) #[] caps] w fun e w' => e = .returned (.tuple #[.agg (lowV E f p).row, .bool (lowB E f p)]) ∧ Below w.heap.size w w' := by
  obtain ⟨n, hn⟩ : ∃ n, w.heap.size = n := ⟨_, rfl⟩
  have HN := Lib.hid hn
  have hsn : s < n := hn ▸ hs.lt
  have kb := (KB.start w).new 90 Z68
  rw [hn] at kb hcl
  have hrow := fun v (hb : Below n w v) => hs.below hb hsn
  obtain ⟨V, hV⟩ : ∃ V, w.alloc (.cells Z68 90) = V := ⟨_, rfl⟩
  rw [hV] at kb
  have hV' := hV
  rw [z68_lit] at hV'
  have HV := Lib.hid hV'
  have HCL := Lib.hid hcl; have HROW := Lib.hid hrow
  have hsl := slice_shelf s p hp
  have i0 : (Tryz.prog.info? 90).map (·.size) = some Z68.size := ent_info none0
  have o0 : Z68.all (·.oneCell') = true := none0.row_one
  clear hV hV' hcl hrow hs
  go_enter Tryz.func133, Tryz.ntmps133
  go_wp2
  rw [HV.out]
  clear hn hsl
  go_loopg [16] p (fun m i v => ∃ k : Nat, m + k = p ∧ i = .int .i64 k ∧ Hid (∀ b, b < k → ((E b).full && f (E b)) = false) ∧ KB n w [(n, 90, Z68)] v)
  case atStart => exact ⟨0, by omega, rfl, fun b hb => absurd hb (by omega), kb⟩
  case round =>
    clear kb
    obtain ⟨k, hm, rfl, hno, kb⟩ := hrel
    by_cases hlt : k < p
    · have rs := HROW.out _ kb.below
      have rg := sh_range rs k (by omega)
      rw [Nat.mul_comm 34 k] at rg
      have iL := ent_infoL (E k)
      have iR := ent_info (E k)
      have oR := (E k).row_one
      have zR : Z68.size = (E k).row.size := by unfold Z68; rw [Ent.row_size, Ent.row_size]
      have c0 : (E k).row[0]? = some (.bool (E k).full) := (E k).c0
      have hrow : (E k).cells.toArray = (E k).row := rfl
      have hk3 : (k : Int) < p := by omega
      obtain ⟨g, VG, UG, hg, hVG, rVG, hUG, kg, geg, ltg⟩ := kb.box 90 (#[.bool false, .int .i64 0, .int .u8 0, .int .u8 0, .int .u8 0, .int .u8 0, .int .u8 0, .int .u8 0, .int .u8 0, .int .u8 0, .int .u8 0, .int .u8 0, .int .u8 0, .int .u8 0, .int .u8 0, .int .u8 0, .int .u8 0, .int .u8 0, .int .u8 0, .int .u8 0, .int .u8 0, .int .u8 0, .int .u8 0, .int .u8 0, .int .u8 0, .int .u8 0, .int .u8 0, .int .u8 0, .int .u8 0, .int .u8 0, .int .u8 0, .int .u8 0, .int .u8 0, .int .u8 0]) (E k).row
      have Hg := Lib.hid hg; have HVG := Lib.hid hVG; have HUG := Lib.hid hUG
      have rG := kg.row g 90 (E k).row (by simp)
      have cG := (M.RowAt.cell rG 0).trans c0
      have hng : n < g := ltg (n, 90, Z68) (by simp)
      clear hg hVG hUG kb ltg rs
      have HNO := Lib.hid hno
      have hcl := fun v hb hf => HCL.out k hlt hf v hb
      have HK := Lib.hid hcl
      have hsome := fun h1 => low_some (E := E) (f := f) hlt hno h1
      have HS := Lib.hid hsome
      have hEk : ∃ e, E k = e := ⟨_, rfl⟩
      obtain ⟨e, he⟩ := hEk
      rw [he] at rg iL iR oR zR hrow kg rG cG HK HS HUG
      have HE := Lib.hid he
      obtain ⟨D, hD⟩ : ∃ D, e.row = D := ⟨_, rfl⟩
      rw [hD] at iR oR zR hrow kg rG HK HUG
      have HD := Lib.hid hD
      clear hno hcl hsome he hD c0
      obtain ⟨fl, hfl⟩ : ∃ fl, e.full = fl := ⟨_, rfl⟩
      rw [hfl] at cG
      cases fl
      · have hadd : ((E k).full && f (E k)) = false := by rw [HE.out, hfl]; rfl
        have HADD := Lib.hid hadd
        clear hadd hfl
        go_wp2_with (first
          | (refine wpList_load_mid (ty := 90) (x := .tmp 18) (b := s) (o := k * 34) (cs := e.cells) ?_ ?_ ?_ _ rg Tryz.underlying90 rfl iL ?_; rfl; rfl; rfl; rw [hrow])
          | (rw [Hg.out, HVG.out]; refine wpList_store_row (x := .tmp 9) (y := .tmp 19) (cells := D) (old := #[.bool false, .int .i64 0, .int .u8 0, .int .u8 0, .int .u8 0, .int .u8 0, .int .u8 0, .int .u8 0, .int .u8 0, .int .u8 0, .int .u8 0, .int .u8 0, .int .u8 0, .int .u8 0, .int .u8 0, .int .u8 0, .int .u8 0, .int .u8 0, .int .u8 0, .int .u8 0, .int .u8 0, .int .u8 0, .int .u8 0, .int .u8 0, .int .u8 0, .int .u8 0, .int .u8 0, .int .u8 0, .int .u8 0, .int .u8 0, .int .u8 0, .int .u8 0, .int .u8 0, .int .u8 0]) (t := 90) (ty := 90) (g := g) ?_ ?_ ?_ ?_ rVG iR zR oR ?_; rfl; rfl; rfl; rfl; rw [HUG.out])
          | fail)
        go_roundg (p - (k + 1))
        case measure => omega
        case rel => exact ⟨k + 1, by omega, by go_num, fun b hb => by
          by_cases eb : b = k
          · subst eb; exact HADD.out
          · exact HNO.out b (by omega), kg.sub (by simp)⟩
      · have hc := HK.out UG kg.below hfl
        obtain ⟨fe, hfe⟩ : ∃ fe, f e = fe := ⟨_, rfl⟩
        rw [hfe] at hc
        have HC := Lib.hid hc
        have HFL := Lib.hid hfl
        clear hc hfl
        go_wp2_with (first
          | (refine wpList_load_mid (ty := 90) (x := .tmp 18) (b := s) (o := k * 34) (cs := e.cells) ?_ ?_ ?_ _ rg Tryz.underlying90 rfl iL ?_; rfl; rfl; rfl; rw [hrow])
          | (rw [Hg.out, HVG.out]; refine wpList_store_row (x := .tmp 9) (y := .tmp 19) (cells := D) (old := #[.bool false, .int .i64 0, .int .u8 0, .int .u8 0, .int .u8 0, .int .u8 0, .int .u8 0, .int .u8 0, .int .u8 0, .int .u8 0, .int .u8 0, .int .u8 0, .int .u8 0, .int .u8 0, .int .u8 0, .int .u8 0, .int .u8 0, .int .u8 0, .int .u8 0, .int .u8 0, .int .u8 0, .int .u8 0, .int .u8 0, .int .u8 0, .int .u8 0, .int .u8 0, .int .u8 0, .int .u8 0, .int .u8 0, .int .u8 0, .int .u8 0, .int .u8 0, .int .u8 0, .int .u8 0]) (t := 90) (ty := 90) (g := g) ?_ ?_ ?_ ?_ rVG iR zR oR ?_; rfl; rfl; rfl; rfl; rw [HUG.out])
          | (refine wpList_load_row_g (x := .tmp 9) (ty := 90) (g := g) (cs := D) (t := 90) (fr := (0, 0)) ?_ ?_ ?_ _ rG Tryz.underlying90 rfl iR ?_; rfl; rfl; rfl)
          | fail)
        rw [en, Oper.upon_enter]
        refine (HC.out).mono ?_
        rintro e2 w2 ⟨rfl, gq⟩
        have k2 := kg.same gq
        have rG2 := k2.row g 90 D (by simp)
        have rN2 := k2.row n 90 Z68 (by simp)
        clear gq kg rG rVG Hg HVG HUG rg
        cases fe
        · have hadd : ((E k).full && f (E k)) = false := by rw [HE.out, hfe, HFL.out]; rfl
          have HADD := Lib.hid hadd
          clear hadd hfe
          go_wp2
          go_roundg (p - (k + 1))
          case measure => omega
          case rel => exact ⟨k + 1, by omega, by go_num, fun b hb => by
            by_cases eb : b = k
            · subst eb; exact HADD.out
            · exact HNO.out b (by omega), k2.sub (by simp)⟩
        · have hl := HS.out (by rw [hfe, HFL.out]; rfl)
          have e1 : (lowV E f p).row = D := by unfold lowV; rw [hl]; show (E k).row = D; rw [HE.out, HD.out]
          have e2 : lowB E f p = true := by unfold lowB; rw [hl]; rfl
          have E1 := Lib.hid e1; have E2 := Lib.hid e2
          have kn := (k2.sub (L' := [(n, 90, Z68), (g, 90, D)]) (by simp)).setRow (fun x hx => by simp at hx; subst hx; show g ≠ n; omega) (Nat.le_refl _) D
          have rW := kn.row n 90 D (by simp)
          clear e1 e2 hl hfe
          go_wp2_with (first
            | (refine wpList_load_row (x := .tmp 9) (ty := 90) (g := g) (cs := D) (t := 90) (fr := (0, 0)) ?_ ?_ ?_ _ rG2 Tryz.underlying90 rfl iR ?_; rfl; rfl; rfl)
            | (refine wpList_store_row (x := .tmp 6) (y := .tmp 27) (cells := D) (old := Z68) (t := 90) (ty := 90) (g := n) ?_ ?_ ?_ ?_ rN2 iR zR oR ?_; rfl; rfl; rfl; rfl))
          have hload := run_loadVar_row (P := Tryz.prog) _ n 90 90 D (0, 0) _ rW Tryz.underlying90 rfl iR
          refine bodyPost_ret (v := .tuple #[.agg D, .bool true]) (by simp [results, Tryz.results133, asAddr, hload]) rfl ⟨by rw [E1.out, E2.out], ?_⟩
          rw [HN.out]
          exact kn.below
    · obtain rfl : k = p := by omega
      have hl := low_none hno
      have e1 : (lowV E f k).row = Z68 := by unfold lowV; rw [hl]; rfl
      have e2 : lowB E f k = false := by unfold lowB; rw [hl]; rfl
      have E1 := Lib.hid e1; have E2 := Lib.hid e2
      have rn := kb.row n 90 Z68 (by simp)
      have kW := kb.setRow (fun x hx => by simp at hx) (Nat.le_refl _) Z68
      have rW := kW.row n 90 Z68 (by simp)
      clear e1 e2 hl hno hm
      go_wp2_with (refine wpList_store_row (x := .tmp 6) (y := .tmp 29) (cells := Z68) (old := Z68) (t := 90) (ty := 90) (g := n) ?_ ?_ ?_ ?_ rn i0 rfl o0 ?_; rfl; rfl; rfl; rfl)
      have hload := run_loadVar_row (P := Tryz.prog) _ n 90 90 Z68 (0, 0) _ rW Tryz.underlying90 rfl i0
      refine bodyPost_ret (v := .tuple #[.agg Z68, .bool false]) (by simp [results, Tryz.results133, asAddr, hload]) rfl ⟨by rw [E1.out, E2.out], ?_⟩
      rw [HN.out]
      exact kW.below
end Go.Proofs.YtdebnbgjgkbmaaaGreatDoor
-- fixed
namespace Go.Proofs.YtdebnbgjgkbmaaaGreatDoor
open Go.RowKit
set_option linter.unusedVariables false
theorem enters70 : Enters Tryz.prog 134 := enters_of Tryz.func134 (by kernel_rfl) rfl
theorem enters71 : Enters Tryz.prog 135 := enters_of Tryz.func135 (by kernel_rfl) rfl
def dif (T : Nat → Nat) (i : Int) (e : Ent) : Bool := drE i e.num == 0 && !eqH (drH T i e.num) e.told
theorem cmpT (F G : Nat → Nat) (W : World) : (Op.equalIn 10000 47 (.agg (r8 32 F)) (.agg (r8 32 G).toList.toArray)).run Tryz.prog W = .ok (eqH F G) W := by
  rw [Array.toArray_toList]; exact r8_cmp F G W
set_option maxRecDepth 100000 in
set_option maxHeartbeats 4000000 in
theorem dif_any (e : Ent) (T : Nat → Nat) (i : Int) (a b : Nat) (w : World) (ht : Tabs w) (hz : TzT w) (hT : ∀ j, T j < 256) (ra : M.RowAt w a 47 (r8 32 T)) (rb : M.RowAt w b 3 #[.int .i64 i]) :
    Calls Tryz.prog 134 #[.agg e.row, .pointer (some ⟨a, 0, none⟩), .pointer (some ⟨b, 0, none⟩)] w fun r w' => r = .returned (.bool (dif T i e)) ∧ Below w.heap.size w w' := by
  obtain ⟨n, hn⟩ : ∃ n, w.heap.size = n := ⟨_, rfl⟩
  have HN := Lib.hid hn
  have h1n : 4 < n := hn ▸ ht.lt
  have h3n : 6 < n := hn ▸ hz.lt
  have han : a < n := hn ▸ ra.lt
  have hbn : b < n := hn ▸ rb.lt
  have tb := fun v (hb : Below n w v) => ht.below hb h1n
  have tz := fun v (hb : Below n w v) => hz.below hb h3n
  have k0 : KB n w [(n, 90, e.row)] (w.alloc (.cells e.row 90)) := hn ▸ (KB.start w).new 90 e.row
  have ra0 := ra.below k0.below han
  have cb0 : (w.alloc (.cells e.row 90)).cell? ⟨b, 0, none⟩ = some (.int .i64 i) := (rb.below k0.below hbn).cell 0
  have rn0 := k0.row n 90 e.row (by simp)
  have c1n : (w.alloc (.cells e.row 90)).cell? ⟨n, 1, none⟩ = some (.int .i64 e.num) := (M.RowAt.cell rn0 1).trans e.c1
  have iT := r8_info T
  have dr := fun v (hb : Below n w v) => derive_any T i e.num v (tb v hb) (tz v hb) hT
  have iD := r8_info (drH T i e.num); have zD := r8_zero (drH T i e.num); have oD := r8_one (drH T i e.num)
  have g2 := fun (v : World) (k : KB n w [(n, 90, e.row)] v) => Ent.range2 (e := e) (k.row n 90 e.row (by simp))
  have iR : (Tryz.prog.info? 47).map (·.size) = some (r8 32 e.told).toList.length := by rw [Array.length_toList]; exact r8_info e.told
  have DR := Lib.hid dr; have G2 := Lib.hid g2
  obtain ⟨V, hV⟩ : ∃ V, w.alloc (.cells e.row 90) = V := ⟨_, rfl⟩
  rw [hV] at k0 ra0 cb0 rn0 c1n
  have HV := Lib.hid hV
  have heq := fun W => cmpT (drH T i e.num) e.told W
  unfold dif
  generalize eqH (drH T i e.num) e.told = q at *
  generalize drE i e.num = E at *
  have hE0 : E = 0 ∨ E ≠ 0 := by omega
  have HEQ := Lib.hid heq
  obtain ⟨Y, hY⟩ : ∃ Y, (r8 32 e.told).toList = Y := ⟨_, rfl⟩
  rw [hY] at iR G2 HEQ
  generalize r8 32 (drH T i e.num) = D at *
  generalize r8 32 T = C at *
  generalize e.num = num at *
  generalize e.row = R at *
  clear hV ht hz h1n h3n tb tz dr g2 heq ra rb han hbn rn0 hY
  go_enter Tryz.func134, Tryz.ntmps134
  go_wp2_with (first
    | (rw [HV.out]; refine wpList_load_row (x := .tmp 1) (ty := 47) (g := a) (cs := C) (t := 47) (fr := (0, 0)) ?_ ?_ ?_ _ ra0 und28 rfl iT ?_; rfl; rfl; rfl)
    | fail)
  refine (DR.out _ k0.below).mono ?_
  rintro r w1 ⟨rfl, gq⟩
  have k1 := k0.same gq
  clear gq k0 hn ra0 cb0 c1n
  obtain ⟨g1, V1, U1, hg1, hV1, rV1, hU1, kk1, geg1, ltg1⟩ := k1.box 47 (#[.int .u8 0, .int .u8 0, .int .u8 0, .int .u8 0, .int .u8 0, .int .u8 0, .int .u8 0, .int .u8 0, .int .u8 0, .int .u8 0, .int .u8 0, .int .u8 0, .int .u8 0, .int .u8 0, .int .u8 0, .int .u8 0, .int .u8 0, .int .u8 0, .int .u8 0, .int .u8 0, .int .u8 0, .int .u8 0, .int .u8 0, .int .u8 0, .int .u8 0, .int .u8 0, .int .u8 0, .int .u8 0, .int .u8 0, .int .u8 0, .int .u8 0, .int .u8 0]) D
  have Hg1 := Lib.hid hg1; have HV1 := Lib.hid hV1; have HU1 := Lib.hid hU1
  have r1 := kk1.row g1 47 D (by simp)
  have rg := G2.out _ (kk1.sub (L' := [(n, 90, R)]) (by simp))
  clear hg1 hV1 hU1 k1 ltg1
  rcases hE0 with rfl | hE
  · go_wp2_with (first
      | (rw [Hg1.out, HV1.out]; refine wpList_store_row (x := .tmp 5) (y := .tmp 13) (cells := D) (old := Z32) (t := 47) (ty := 47) (g := g1) ?_ ?_ ?_ ?_ rV1 iD zD oD ?_; rfl; rfl; rfl; rfl; rw [HU1.out])
      | (refine wpList_load_row_g (x := .tmp 5) (ty := 47) (g := g1) (cs := D) (t := 47) (fr := (0, 0)) ?_ ?_ ?_ _ r1 und28 rfl iD ?_; rfl; rfl; rfl)
      | (refine wpList_load_mid_g (ty := 47) (x := .tmp 19) (b := n) (p := 2) (cs := Y) ?_ ?_ ?_ _ rg und28 rfl iR ?_; rfl; rfl; rfl)
      | (rw [HEQ.out]; go_simp)
      | fail)
    go_ret
    exact ⟨by cases q <;> rfl, by rw [HN.out]; exact kk1.below⟩
  · have hb0 : (E == 0) = false := by simpa using hE
    go_wp2_with (first
      | (rw [Hg1.out, HV1.out]; refine wpList_store_row (x := .tmp 5) (y := .tmp 13) (cells := D) (old := Z32) (t := 47) (ty := 47) (g := g1) ?_ ?_ ?_ ?_ rV1 iD zD oD ?_; rfl; rfl; rfl; rfl; rw [HU1.out])
      | fail)
    go_ret
    exact ⟨by rw [hb0]; rfl, by rw [HN.out]; exact kk1.below⟩
set_option maxRecDepth 100000 in
set_option maxHeartbeats 4000000 in
theorem tells_any (e : Ent) (i : Int) (b : Nat) (w : World) (hz : TzT w) (rb : M.RowAt w b 3 #[.int .i64 i]) :
    Calls Tryz.prog 135 #[.agg e.row, .pointer (some ⟨b, 0, none⟩)] w fun r w' => r = .returned (.bool (can e.num i)) ∧ Below w.heap.size w w' := by
  obtain ⟨n, hn⟩ : ∃ n, w.heap.size = n := ⟨_, rfl⟩
  have HN := Lib.hid hn
  have h3n : 6 < n := hn ▸ hz.lt
  have hbn : b < n := hn ▸ rb.lt
  have k0 : KB n w [(n, 90, e.row)] (w.alloc (.cells e.row 90)) := hn ▸ (KB.start w).new 90 e.row
  have cb0 : (w.alloc (.cells e.row 90)).cell? ⟨b, 0, none⟩ = some (.int .i64 i) := (rb.below k0.below hbn).cell 0
  have c1n : (w.alloc (.cells e.row 90)).cell? ⟨n, 1, none⟩ = some (.int .i64 e.num) := (M.RowAt.cell (k0.row n 90 e.row (by simp)) 1).trans e.c1
  have cn := can_b e.num i _ (hz.below k0.below h3n)
  obtain ⟨V, hV⟩ : ∃ V, w.alloc (.cells e.row 90) = V := ⟨_, rfl⟩
  rw [hV] at k0 cb0 c1n cn
  have HV := Lib.hid hV; have CN := Lib.hid cn
  generalize can e.num i = c at *
  generalize e.num = num at *
  generalize e.row = R at *
  clear hV hz h3n rb hbn cn
  go_enter Tryz.func135, Tryz.ntmps135
  go_wp2_with (first | (rw [HV.out]) | fail)
  refine (CN.out).mono ?_
  rintro r w1 ⟨rfl, gq⟩
  have k1 := k0.same gq
  clear gq k0
  go_wp2
  go_ret
  exact ⟨rfl, by rw [HN.out]; exact k1.below⟩
end Go.Proofs.YtdebnbgjgkbmaaaGreatDoor
-- fixed
namespace Go.Proofs.YtdebnbgjgkbmaaaGreatDoor
namespace QA
open QP (upon oat wp_of_oat getD_mono)
open QT (waits fst dep_listed)
set_option linter.unusedVariables false
variable {P : Program} {ops : Array Oper} {md : Region.Mode} {A : World → Prop} {B D : Nat → World → Prop} {q p : Nat} {S S' : Nat → Prop} {Qf : Nat → Act → Prop}
abbrev ptr (g : Nat) : Value := .pointer (some ⟨g, 0, none⟩)
def allowed (P : Program) (md : Region.Mode) (ops : Array Oper) (A : World → Prop) (B D : Nat → World → Prop) (q p : Nat) (S : Nat → Prop) (i : Nat) (o : Oper) (a : Act) (v : Value) : Prop :=
  if i = p then ∀ g w, S g → B g w → oat P o a (D g) w v
  else (waits md ops q o = true ∨ ∀ w, A w → oat P o a A w v) ∧
    (waits md ops p o = true ∨ fst md ops q i = true ∨ ∀ g w, S g → B g w → oat P o a (B g) w v) ∧
    (fst md ops p i = true ∨ fst md ops q i = true ∨ ∀ g w, S g → D g w → oat P o a (D g) w v)
def made (P : Program) (A : World → Prop) (B : Nat → World → Prop) (o : Oper) (a : Act) (g : Nat) : Prop := ∀ w, A w → w.heap.size = g → oat P o a (B g) w (ptr g)
def qOp (P : Program) (md : Region.Mode) (ops : Array Oper) (A : World → Prop) (B D : Nat → World → Prop) (q p : Nat) (S : Nat → Prop) (i : Nat) (K : (Nat → Prop) → Act → Prop) (a : Act) : Prop :=
  match ops[i]? with
  | none => K S a
  | some o =>
    if i = q then Region.wanted o (yielded ops a.tmps) = true ∧ ∀ g, S g → made P A B o a g ∧ K (fun x => x = g) (a.put o.dst (ptr g))
    else if Region.wanted o (yielded ops a.tmps) then ∃ v, allowed P md ops A B D q p S i o a v ∧ K S (a.put o.dst v) else i ≠ p ∧ K S (a.put o.dst undef)
theorem allowed.mono {i : Nat} {o : Oper} {a : Act} {v : Value} (h : allowed P md ops A B D q p S i o a v) (hs : ∀ g, S' g → S g) : allowed P md ops A B D q p S' i o a v := by
  unfold allowed at *
  split
  · rename_i hip
    rw [if_pos hip] at h
    exact fun g w hg => h g w (hs g hg)
  · rename_i hip
    rw [if_neg hip] at h
    exact ⟨h.1, h.2.1.imp_right (fun h => h.imp_right fun h g w hg => h g w (hs g hg)), h.2.2.imp_right (fun h => h.imp_right fun h g w hg => h g w (hs g hg))⟩
theorem qOp_mono {i : Nat} {a : Act} {K K' : (Nat → Prop) → Act → Prop} (h : ∀ S a, K S a → K' S a) (hh : qOp P md ops A B D q p S i K a) : qOp P md ops A B D q p S i K' a := by
  unfold qOp at *
  split
  · rename_i ho; simp only [ho] at hh; exact h _ _ hh
  · rename_i o ho
    simp only [ho] at hh
    split
    · rename_i hq
      rw [if_pos hq] at hh
      exact ⟨hh.1, fun g hg => ⟨(hh.2 g hg).1, h _ _ (hh.2 g hg).2⟩⟩
    · rename_i hq
      rw [if_neg hq] at hh
      split
      · rename_i hw; simp only [hw, if_true] at hh; exact let ⟨v, h1, h2⟩ := hh; ⟨v, h1, h _ _ h2⟩
      · rename_i hw; simp only [hw] at hh; exact ⟨hh.1, h _ _ hh.2⟩
/-- the class of worlds once these are listed -/
def cls (A : World → Prop) (B D : Nat → World → Prop) (q p : Nat) (S : Nat → Prop) (listed : Array Bool) (w : World) : Prop :=
  if listed.getD q false = true then ∃ g, S g ∧ (if listed.getD p false = true then D g w else B g w) else A w ∧ ∀ g, S g
theorem set_other {listed : Array Bool} {i j : Nat} (h : i ≠ j) : (listed.setIfInBounds i true).getD j false = listed.getD j false := by
  rw [Array.getD_eq_getD_getElem?, Array.getD_eq_getD_getElem?, Array.getElem?_setIfInBounds_ne h]
theorem set_same {listed : Array Bool} {i : Nat} (h : i < listed.size) : (listed.setIfInBounds i true).getD i false = true := by
  rw [Array.getD_eq_getD_getElem?, Array.getElem?_setIfInBounds_self_of_lt h]; rfl
theorem wpOp_of_qOp {i : Nat} {a : Act} {K : (Nat → Prop) → Act → Prop} {K' : Act → World → Prop} {Q' : Exit → Act → World → Prop} {w : World} {listed : Array Bool} (hpq : fst md ops p q = true) (hne : p ≠ q) (hC : cls A B D q p S listed w) (hD : QT.Down md ops listed)
    (hi : i ∈ Region.ready md ops listed) (h : ∀ S' a w', cls A B D q p S' (listed.setIfInBounds i true) w' → K S' a → K' a w') (hh : qOp P md ops A B D q p S i K a) : wpOp P ops Q' i K' a w := by
  obtain ⟨hun, o, ho, hall⟩ := mem_ready.1 hi
  have hlt : i < listed.size := by
    rcases Nat.lt_or_ge i listed.size with h' | h'
    · exact h'
    · rw [Array.getD_eq_getD_getElem?, Array.getElem?_eq_none h'] at hun; cases hun
  have hunf : listed.getD i false = false := by
    rw [Array.getD_eq_getD_getElem?, Array.getElem?_eq_getElem hlt] at hun ⊢; exact hun
  have hpl : listed.getD p false = true → listed.getD q false = true := fun hp => by
    unfold QT.fst at hpq
    split at hpq
    · rename_i op hop
      exact dep_listed hD 4 op (hD p op hp hop) hpq
    · cases hpq
  have hfst : ∀ t, fst md ops t i = true → listed.getD t false = true → False := fun t hf ht => by
    have : listed.getD i false = true := by
      unfold QT.fst at hf
      split at hf
      · rename_i op hop
        exact dep_listed hD 4 op (hD t op ht hop) hf
      · cases hf
    rw [hunf] at this; cases this
  have hwait : ∀ t, waits md ops t o = true → listed.getD t false = true := fun t hw => dep_listed hD 4 o (fun e he h => hall e (by simpa using he) h) hw
  unfold qOp at hh
  unfold wpOp
  simp only [ho] at hh ⊢
  by_cases hiq : i = q
  · subst hiq
    rw [if_pos rfl] at hh
    have hA : A w ∧ ∀ g, S g := by unfold cls at hC; rw [hunf] at hC; simpa using hC
    obtain ⟨hw, hg⟩ := hh
    have hg' := hg w.heap.size (hA.2 _)
    simp only [hw, if_true]
    refine .inl (wp_of_oat (C' := B w.heap.size) (K := fun a => K (fun x => x = w.heap.size) a) (fun a' w' hw' hk => h _ a' w' ?_ hk) (hg'.1 w hA.1 rfl) hg'.2)
    unfold cls
    rw [set_same hlt, if_pos rfl]
    refine ⟨w.heap.size, rfl, ?_⟩
    rw [set_other hne.symm]
    have : listed.getD p false = false := by
      cases hp : listed.getD p false with
      | false => rfl
      | true => have := hpl hp; rw [hunf] at this; cases this
    rw [this]; exact hw'
  · rw [if_neg hiq] at hh
    have hq2 := set_other (listed := listed) hiq
    split
    · rename_i hw
      simp only [hw, if_true] at hh
      obtain ⟨v, hv, hK⟩ := hh
      unfold allowed at hv
      by_cases hip : i = p
      · subst hip
        rw [if_pos rfl] at hv
        have hql : listed.getD q false = true := by
          unfold QT.fst at hpq
          simp only [ho] at hpq
          exact hwait q hpq
        unfold cls at hC
        rw [hql, if_pos rfl, hunf] at hC
        obtain ⟨g, hSg, hBg⟩ := hC
        refine .inl (wp_of_oat (C' := D g) (K := fun a => K S a) (fun a' w' hw' hk => h _ a' w' ?_ hk) (hv g w hSg (by simpa using hBg)) hK)
        unfold cls
        rw [hq2, hql, if_pos rfl]
        exact ⟨g, hSg, by rw [set_same hlt, if_pos rfl]; exact hw'⟩
      · rw [if_neg hip] at hv
        have hp2 := set_other (listed := listed) hip
        by_cases hql : listed.getD q false = true
        · have hC0 := hC
          unfold cls at hC
          rw [hql, if_pos rfl] at hC
          obtain ⟨g, hSg, hg⟩ := hC
          by_cases hpl' : listed.getD p false = true
          · rw [hpl', if_pos rfl] at hg
            rcases hv.2.2 with hx | hx | hx
            · exact (hfst p hx hpl').elim
            · exact (hfst q hx hql).elim
            · refine .inl (wp_of_oat (C' := D g) (K := fun a => K S a) (fun a' w' hw' hk => h _ a' w' ?_ hk) (hx g w hSg hg) hK)
              unfold cls
              rw [hq2, hp2, hql, hpl', if_pos rfl]
              exact ⟨g, hSg, by rw [if_pos rfl]; exact hw'⟩
          · rw [if_neg hpl'] at hg
            rcases hv.2.1 with hx | hx | hx
            · exact (hpl' (hwait p hx)).elim
            · exact (hfst q hx hql).elim
            · refine .inl (wp_of_oat (C' := B g) (K := fun a => K S a) (fun a' w' hw' hk => h _ a' w' ?_ hk) (hx g w hSg hg) hK)
              unfold cls
              rw [hq2, hp2, hql, if_pos rfl]
              exact ⟨g, hSg, by rw [if_neg hpl']; exact hw'⟩
        · unfold cls at hC
          rw [if_neg hql] at hC
          rcases hv.1 with hx | hx
          · exact (hql (hwait q hx)).elim
          · refine .inl (wp_of_oat (C' := A) (K := fun a => K S a) (fun a' w' hw' hk => h _ a' w' ?_ hk) (hx w hC.1) hK)
            unfold cls
            rw [hq2, if_neg hql]
            exact ⟨hw', hC.2⟩
    · rename_i hw
      simp only [hw] at hh
      refine h _ _ _ ?_ hh.2
      unfold cls at hC ⊢
      rw [hq2, set_other hh.1]
      exact hC
def YieldsIn (P : Program) (md : Region.Mode) (ops : Array Oper) (A : World → Prop) (B D : Nat → World → Prop) (q p : Nat) (S : Nat → Prop) (i : Nat) (o : Oper) (v : Value) (a : Act) : Prop :=
  (Region.wanted o (yielded ops a.tmps) = true ∧ allowed P md ops A B D q p S i o a v) ∨
  (Region.wanted o (yielded ops a.tmps) = false ∧ i ≠ p ∧ v = undef)
theorem YieldsIn.mono {i : Nat} {o : Oper} {v : Value} {a : Act} (hy : YieldsIn P md ops A B D q p S i o v a) (hs : ∀ g, S' g → S g) : YieldsIn P md ops A B D q p S' i o v a :=
  hy.imp (fun h => ⟨h.1, h.2.mono hs⟩) id
theorem YieldsIn.qOp {i : Nat} {o : Oper} {v : Value} {a : Act} (hiq : i ≠ q) (hi : ops[i]? = some o) (hy : YieldsIn P md ops A B D q p S i o v a) {K : (Nat → Prop) → Act → Prop} (h : K S (a.put o.dst v)) : qOp P md ops A B D q p S i K a := by
  unfold QA.qOp
  simp only [hi]
  rw [if_neg hiq]
  rcases hy with ⟨hw, hv⟩ | ⟨hw, hne, rfl⟩
  · simp only [hw, if_true]; exact ⟨v, hv, h⟩
  · simp only [hw, Bool.false_eq_true, if_false]; exact ⟨hne, h⟩
theorem YieldsIn.of_same {i : Nat} {o : Oper} {v : Value} {a a' : Act} (hy : YieldsIn P md ops A B D q p S i o v a) (he : execOp a'.eval o = execOp a.eval o)
    (hw : Region.wanted o (yielded ops a'.tmps) = Region.wanted o (yielded ops a.tmps)) : YieldsIn P md ops A B D q p S i o v a' := by
  unfold YieldsIn allowed oat at *
  rw [he, hw]
  exact hy
theorem yieldsIn_of_qOp {i : Nat} {o : Oper} {a : Act} {K : (Nat → Prop) → Act → Prop} (hiq : i ≠ q) (hi : ops[i]? = some o) (h : qOp P md ops A B D q p S i K a) : ∃ v, YieldsIn P md ops A B D q p S i o v a ∧ K S (a.put o.dst v) := by
  unfold qOp at h
  simp only [hi] at h
  rw [if_neg hiq] at h
  by_cases hw : Region.wanted o (yielded ops a.tmps) = true
  · simp only [hw, if_true] at h
    obtain ⟨v, h1, h2⟩ := h
    exact ⟨v, .inl ⟨hw, h1⟩, h2⟩
  · simp only [hw] at h
    exact ⟨undef, .inr ⟨by simpa using hw, h.1, rfl⟩, h.2⟩
theorem qOp_put {i j : Nat} {oi oj : Oper} {v : Value} (hj : ops[j]? = some oj) (hap : oi.apart ops oj = true)
    (hsi : ∀ cs b, oi.op ≠ .select cs b) (hsj : ∀ cs b, oj.op ≠ .select cs b) {K : (Nat → Prop) → Act → Prop} {a : Act}
    (hy : YieldsIn P md ops A B D q p S i oi v a) (h : qOp P md ops A B D q p S j K (a.put oi.dst v)) :
    qOp P md ops A B D q p S j (fun S' a' => YieldsIn P md ops A B D q p S' i oi v a' ∧ K S' (a'.put oi.dst v)) a := by
  obtain ⟨h1, h2, h3⟩ := Oper.apart_spec hap
  have keep : ∀ (S' : Nat → Prop) (a : Act), YieldsIn P md ops A B D q p S' i oi v a → ∀ u, YieldsIn P md ops A B D q p S' i oi v (a.put oj.dst u) := fun S' a hy u =>
    hy.of_same (execOp_put oi hsi a oj.dst u h3) (wanted_put oi a oj.dst u h3)
  unfold qOp at *
  simp only [hj] at *
  rw [wanted_put oj a oi.dst v h1] at h
  by_cases hjq : j = q
  · rw [if_pos hjq] at h ⊢
    refine ⟨h.1, fun g hg => ⟨?_, keep _ a (hy.mono (fun x hx => by rw [hx]; exact hg)) _, by rw [← Act.put_comm a v _ h2]; exact (h.2 g hg).2⟩⟩
    have hm := (h.2 g hg).1
    unfold made oat at *
    rwa [execOp_put oj hsj a oi.dst v h1] at hm
  · rw [if_neg hjq] at h ⊢
    split
    · rename_i hw
      simp only [hw, if_true] at h
      obtain ⟨u, hu, hn⟩ := h
      refine ⟨u, ?_, keep _ a hy u, by rw [← Act.put_comm a v u h2]; exact hn⟩
      unfold allowed oat at *
      rwa [execOp_put oj hsj a oi.dst v h1] at hu
    · rename_i hw
      simp only [hw] at h
      exact ⟨h.1, keep _ a hy _, by rw [← Act.put_comm a v undef h2]; exact h.2⟩
theorem al_p {i : Nat} {o : Oper} {a : Act} {v : Value} (he : (i == p) = true) (hp : ∀ g w, S g → B g w → oat P o a (D g) w v) : allowed P md ops A B D q p S i o a v := by
  unfold allowed
  rw [if_pos (by simpa using he)]
  exact hp
end QA
end Go.Proofs.YtdebnbgjgkbmaaaGreatDoor
namespace Go.Proofs.YtdebnbgjgkbmaaaGreatDoor
open Go.RowKit
set_option linter.unusedVariables false
def insO (E : Nat → Ent) (T : Nat → Nat) (i : Int) : Bool := lowB E (dif T i) (place i)
def insR (E : Nat → Ent) (T : Nat → Nat) (i : Int) : Int := if can i i then (if insO E T i then 50 else 0) else 1
def insE (E : Nat → Ent) (T : Nat → Nat) (i : Int) : Nat → Ent := if can i i then (if insO E T i then E else putE E (place i) ⟨true, i, T⟩) else E
theorem foldl_spl (k : Nat) : ∀ (l : List Value) (Z : Array Value) (j : Nat), List.foldl (fun (cs : Array Value) (x : Value × Nat) => cs.setIfInBounds (k + x.2) x.1) Z (l.zipIdx j) = spl Z (k + j) l
  | [], _, _ => rfl
  | v :: r, Z, j => by
    rw [List.zipIdx_cons, List.foldl_cons]
    exact foldl_spl k r _ (j + 1)
theorem build_put' (x y : Value) (Z C : Array Value) (hC : C.size = 32) (hZ : Z.size = 34) (h0 : Z[0]? = some x) (h1 : Z[1]? = some y) : Array.foldl (fun (cs : Array Value) (x : Value × Nat) => cs.setIfInBounds (2 + x.2) x.1) Z C.zipIdx 0 C.size = #[x, y] ++ C := by
  have e : C.size = C.zipIdx.size := by simp
  rw [e, ← Array.foldl_toList, Array.toList_zipIdx, foldl_spl 2 C.toList _ 0]
  apply Array.ext_getElem?
  intro j
  have hl : C.toList.length = 32 := by rw [Array.length_toList, hC]
  rw [spl_get _ _ _ _ (by omega), hl, Array.getElem?_append, show (#[x, y] : Array Value).size = 2 from rfl]
  by_cases h : 2 ≤ j ∧ j < 34
  · rw [if_pos (by omega), if_neg (show ¬ j < 2 by omega), Array.getElem?_toList]
  · rw [if_neg (by omega)]
    by_cases h2 : j < 2
    · rw [if_pos h2]
      match j, h2 with
      | 0, _ => exact h0
      | 1, _ => exact h1
    · rw [if_neg h2, Array.getElem?_eq_none (show Z.size ≤ j by omega), Array.getElem?_eq_none (show C.size ≤ j - 2 by omega)]
theorem build_put (i : Int) (C : Array Value) (hC : C.size = 32) : Array.foldl (fun (cs : Array Value) (x : Value × Nat) => cs.setIfInBounds (2 + x.2) x.1) (#[.bool true, .int .i64 i, .int .u8 0, .int .u8 0, .int .u8 0, .int .u8 0, .int .u8 0, .int .u8 0, .int .u8 0, .int .u8 0, .int .u8 0, .int .u8 0, .int .u8 0, .int .u8 0, .int .u8 0, .int .u8 0, .int .u8 0, .int .u8 0, .int .u8 0, .int .u8 0, .int .u8 0, .int .u8 0, .int .u8 0, .int .u8 0, .int .u8 0, .int .u8 0, .int .u8 0, .int .u8 0, .int .u8 0, .int .u8 0, .int .u8 0, .int .u8 0, .int .u8 0, .int .u8 0] : Array Value) C.zipIdx 0 C.size = #[Value.bool true, Value.int .i64 i] ++ C :=
  build_put' _ _ _ C hC rfl rfl rfl
/-- the shelf's block s is known, and two boxes -/
structure SI (s : Nat) (w : World) (a b : Nat) (A B : Array Value) (C : Array Value) (v : World) : Prop where
  row : M.RowAt v s 93 C
  ra : M.RowAt v a 47 A
  rb : M.RowAt v b 3 B
  but : M.But s w v
section
variable {s a b : Nat} {w v : World} {A B C : Array Value}
theorem SI.hra (h : SI s w a b A B C v) : v.heap[a]? = some (.cells A 47 (0, 0)) := h.ra
theorem SI.drew (h : SI s w a b A B C v) : SI s w a b A B C v.drew := ⟨h.row.drew, h.ra.drew, h.rb.drew, h.but.drew⟩
end
set_option maxRecDepth 100000 in
set_option maxHeartbeats 4000000 in
theorem insert_any (s : Nat) (E : Nat → Ent) (T : Nat → Nat) (i : Int) (w : World) (ht : Tabs w) (hz : TzT w) (hT : ∀ j, T j < 256) (hs : M.RowAt w s 93 (shC E)) :
    Calls Tryz.prog 41 #[.pointer (some ⟨s, 0, none⟩), .int .i64 i, .agg (r8 32 T)] w fun e w' => e = .returned (.int .i64 (insR E T i)) ∧ M.RowAt w' s 93 (shC (insE E T i)) ∧ M.But s w w' := by
  obtain ⟨n, hn⟩ : ∃ n, w.heap.size = n := ⟨_, rfl⟩
  have HN := Lib.hid hn
  have h1n : 4 < n := hn ▸ ht.lt
  have h3n : 6 < n := hn ▸ hz.lt
  have hsn : s < n := hn ▸ hs.lt
  have tb := fun v (hb : Below n w v) => ht.below hb h1n
  have tz := fun v (hb : Below n w v) => hz.below hb h3n
  have row := fun v (hb : Below n w v) => hs.below hb hsn
  have k0 := ((KB.start w).new 3 #[.int .i64 i]).new 47 (r8 32 T)
  rw [World.size_alloc, hn] at k0
  have but := fun v (hb : Below n w v) => M.But.ofBelow s (hn.symm ▸ hb : Below w.heap.size w v)
  have ROW := Lib.hid row; have TB := Lib.hid tb; have TZ := Lib.hid tz; have BUT := Lib.hid but
  obtain ⟨V, hV⟩ : ∃ V, (w.alloc (.cells #[.int .i64 i] 3)).alloc (.cells (r8 32 T) 47) = V := ⟨_, rfl⟩
  rw [hV] at k0
  have HV := Lib.hid hV
  have cn := can_b i i V (tz V k0.below)
  have c0 : V.cell? ⟨n, 0, none⟩ = some (.int .i64 i) := (M.RowAt.cell (k0.row n 3 #[.int .i64 i] (by simp)) 0).trans rfl
  cases hci : can i i
  · have e1 : insR E T i = 1 := by unfold insR; rw [hci]; rfl
    have e2 : insE E T i = E := by unfold insE; rw [hci]; rfl
    rw [e1, e2]
    rw [hci] at cn
    have CN := Lib.hid cn
    generalize r8 32 T = C at *
    clear e1 e2 cn hV tb tz ht hz h1n h3n hsn row but hs hci
    go_enter Tryz.func41, Tryz.ntmps41
    go_wp2_with (first | (rw [HV.out]) | fail)
    refine (CN.out).mono ?_
    rintro r w1 ⟨rfl, gq⟩
    have k1 := k0.same gq
    clear gq k0 c0
    go_wp2
    go_ret
    exact ⟨rfl, ROW.out _ k1.below, BUT.out _ k1.below⟩
  · rw [hci] at cn
    have hpl := place_le i
    have pc := fun v (hb : Below n w v) => place_b i v (tz v hb)
    have lw := fun v (k : KB n w [(n + 1, 47, r8 32 T), (n, 3, #[.int .i64 i])] v) => lowest_any s (place i) 134 E (dif T i) #[.pointer (some ⟨n + 1, 0, none⟩), .pointer (some ⟨n, 0, none⟩)] v (row v k.below) (by omega) enters70
      (fun b _ _ u hb => dif_any (E b) T i (n + 1) n u (tb u (k.same hb).below) (tz u (k.same hb).below) hT ((k.same hb).row (n + 1) 47 _ (by simp)) ((k.same hb).row n 3 _ (by simp)))
    have e1 : insR E T i = if insO E T i then 50 else 0 := by unfold insR; rw [hci]; rfl
    have e2 : insE E T i = if insO E T i then E else putE E (place i) ⟨true, i, T⟩ := by unfold insE; rw [hci]; rfl
    rw [e1, e2]
    have e3 : lowB E (dif T i) (place i) = insO E T i := rfl
    rw [e3] at lw
    have iL := ent_info (lowV E (dif T i) (place i))
    have oL := (lowV E (dif T i) (place i)).row_one
    have zL : Z68.size = (lowV E (dif T i) (place i)).row.size := by unfold Z68; rw [Ent.row_size, Ent.row_size]
    generalize (lowV E (dif T i) (place i)).row = R at *
    have hsne : s ≠ n + 1 ∧ s ≠ n := ⟨by omega, by omega⟩
    have HSN := Lib.hid hsne
    clear hsne
    have CN := Lib.hid cn; have PC := Lib.hid pc; have LW := Lib.hid lw
    have iT := r8_info T
    have hput := fun v (h : M.RowAt v s 93 (shC E)) => row_setCells (Ent.cells ⟨true, i, T⟩) _ (place i * 34) v h
    have hsp := shC_put E (place i) (by omega) ⟨true, i, T⟩
    rw [Nat.mul_comm] at hsp
    rw [hsp] at hput
    have hth : ∀ v, M.RowAt v s 93 (shC E) → v.there s (place i * 34) 34 := fun v h => by rw [Nat.mul_comm]; exact sh_there h (place i) (by omega)
    have hcl : Ent.cells ⟨true, i, T⟩ = (#[Value.bool true, Value.int .i64 i] ++ r8 32 T).toList := by unfold Ent.cells; simp
    have h34 : (#[Value.bool true, Value.int .i64 i] ++ r8 32 T).size = 34 := by simp [r8_size]
    have i34 : (Tryz.prog.info? 90).map (·.size) = some (#[Value.bool true, Value.int .i64 i] ++ r8 32 T).size := by rw [h34]; kernel_rfl
    have o34 : (#[Value.bool true, Value.int .i64 i] ++ r8 32 T).all (·.oneCell') = true := by have := Ent.row_one ⟨true, i, T⟩; unfold Ent.row at this; rwa [hcl, Array.toArray_toList] at this
    rw [hcl] at hput
    have hlt : place i < 17 := by omega
    have hC32 : (r8 32 T).size = 32 := r8_size T
    have HC32 := Lib.hid hC32; have HBP := Lib.hid (build_put i (r8 32 T) hC32)
    clear hC32
    generalize place i = p at *
    obtain ⟨S2, hS2⟩ : ∃ S2, shC (putE E p ⟨true, i, T⟩) = S2 := ⟨_, rfl⟩
    rw [hS2] at hput
    have HS2 := Lib.hid hS2
    clear hS2
    generalize r8 32 T = C at *
    have HNN := Lib.hid (rfl : #[Value.bool true, Value.int .i64 i] ++ C = #[Value.bool true, Value.int .i64 i] ++ C)
    clear cn pc lw hV tb tz ht hz h1n h3n hsn but hs hci hcl hsp e1 e2 e3
    cases ho : insO E T i
    · rw [ho] at LW
      have hth' : ∀ v, SI s w (n + 1) n C #[.int .i64 i] (shC E) v → v.there s (p * 34) (#[Value.bool true, Value.int .i64 i] ++ C).size := fun v h => by rw [h34]; exact hth v h.row
      have hst : ∀ v, SI s w (n + 1) n C #[.int .i64 i] (shC E) v → SI s w (n + 1) n C #[.int .i64 i] S2 (v.setCells s (p * 34) (#[Value.bool true, Value.int .i64 i] ++ C).toList) := fun v h => ⟨hput v h.row, row_setCells_far HSN.out.1 _ _ _ h.ra, row_setCells_far HSN.out.2 _ _ _ h.rb, but_setCells _ _ _ h.but⟩
      have cbq : ∀ v, SI s w (n + 1) n C #[.int .i64 i] (shC E) v → v.cell? ⟨n, 0, none⟩ = some (.int .i64 i) := fun v h => (M.RowAt.cell h.rb 0).trans rfl
      have TH := Lib.hid hth'; have ST := Lib.hid hst; have CB := Lib.hid cbq
      clear hput hth hth' hst cbq row
      go_enter Tryz.func41, Tryz.ntmps41
      go_wp2_with (first | (rw [HV.out]) | fail)
      refine (CN.out).mono ?_
      rintro r w1 ⟨rfl, gq⟩
      have k1 := k0.same gq
      have c1 : w1.cell? ⟨n, 0, none⟩ = some (.int .i64 i) := (M.RowAt.cell (k1.row n 3 #[.int .i64 i] (by simp)) 0).trans rfl
      clear gq k0 c0 hn
      go_wp2_with fail
      refine (PC.out _ k1.below).mono ?_
      rintro r w2 ⟨rfl, gq⟩
      have k2 := k1.same gq
      clear gq k1 c1
      go_wp2_with fail
      refine (LW.out _ k2).mono ?_
      rintro r w3 ⟨rfl, gq⟩
      have k3 := k2.same gq
      clear gq k2
      obtain ⟨g, VG, UG, hg, hVG, rVG, hUG, kg, geg, ltg⟩ := k3.box 90 (#[.bool false, .int .i64 0, .int .u8 0, .int .u8 0, .int .u8 0, .int .u8 0, .int .u8 0, .int .u8 0, .int .u8 0, .int .u8 0, .int .u8 0, .int .u8 0, .int .u8 0, .int .u8 0, .int .u8 0, .int .u8 0, .int .u8 0, .int .u8 0, .int .u8 0, .int .u8 0, .int .u8 0, .int .u8 0, .int .u8 0, .int .u8 0, .int .u8 0, .int .u8 0, .int .u8 0, .int .u8 0, .int .u8 0, .int .u8 0, .int .u8 0, .int .u8 0, .int .u8 0, .int .u8 0]) R
      have Hg := Lib.hid hg; have HVG := Lib.hid hVG; have HUG := Lib.hid hUG
      clear hg hVG hUG k3 ltg
      go_wp2_with (first
        | (rw [Hg.out, HVG.out]; refine wpList_store_row (x := .tmp 8) (y := .tmp 21) (cells := R) (old := #[.bool false, .int .i64 0, .int .u8 0, .int .u8 0, .int .u8 0, .int .u8 0, .int .u8 0, .int .u8 0, .int .u8 0, .int .u8 0, .int .u8 0, .int .u8 0, .int .u8 0, .int .u8 0, .int .u8 0, .int .u8 0, .int .u8 0, .int .u8 0, .int .u8 0, .int .u8 0, .int .u8 0, .int .u8 0, .int .u8 0, .int .u8 0, .int .u8 0, .int .u8 0, .int .u8 0, .int .u8 0, .int .u8 0, .int .u8 0, .int .u8 0, .int .u8 0, .int .u8 0, .int .u8 0]) (t := 90) (ty := 90) (g := g) ?_ ?_ ?_ ?_ rVG iL zL oL ?_; rfl; rfl; rfl; rfl; rw [HUG.out])
        | fail)
      have si : SI s w (n + 1) n C #[.int .i64 i] (shC E) UG := ⟨ROW.out _ kg.below, kg.row (n + 1) 47 C (by simp), kg.row n 3 _ (by simp), BUT.out _ kg.below⟩
      clear rVG Hg HVG HUG
      have hp3 : (p : Int) < 17 := by omega
      have hp4 : (0 : Int) ≤ p := by omega
      refine QT.wp_region_p 8 (SI s w (n + 1) n C #[.int .i64 i] (shC E)) (SI s w (n + 1) n C #[.int .i64 i] S2) (by kernel_rfl) (by kernel_rfl) si.drew ?_
      iterate 9
        (refine QT.wpQ_step (fun K hK => ?_)
         go_simp
         first
           | (refine hK _ ?_; clear hK K)
           | (refine ⟨?_, hK _ ?_⟩; decide; clear hK K)
           | ((first | (apply Exists.intro; refine ⟨?_, hK _ ?_⟩) | refine ⟨⟨undef, ?_⟩, hK _ ?_⟩)
              first
                | (apply QT.al_p; decide; (focus (intro wq hq; (first | (have cb := CB.out _ hq) | skip); first | (first | ((with_reducible refine QP.oat_load_row (ty := 47) (x := .tmp 5) (g := n + 1) (t := 47) (cs := C) (fr := (0, 0)) ?_ ?_ _ hq.hra und28 ?_ iT hq); rfl; rfl; rfl) | ((with_reducible refine oat_store_mid (ty := 90) (x := .tmp 31) (y := .tmp 28) (b := s) (off := p * 34) (cells := #[Value.bool true, Value.int .i64 i] ++ C) ?_ ?_ ?_ (TH.out _ hq) i34 o34 (ST.out _ hq)); rfl; rfl; rfl)) | (unfold QP.oat; go_simp; first | done | exact ⟨by assumption, rfl⟩ | exact rfl | assumption | ((rw [if_neg, HBP.out]; exact ⟨hq, rfl⟩; (simp [HC32.out])))))))
                | (apply QT.al_dep; decide; decide; (focus (intro wq hq; (first | (have cb := CB.out _ hq) | skip); first | (first | ((with_reducible refine QP.oat_load_row (ty := 47) (x := .tmp 5) (g := n + 1) (t := 47) (cs := C) (fr := (0, 0)) ?_ ?_ _ hq.hra und28 ?_ iT hq); rfl; rfl; rfl) | ((with_reducible refine oat_store_mid (ty := 90) (x := .tmp 31) (y := .tmp 28) (b := s) (off := p * 34) (cells := #[Value.bool true, Value.int .i64 i] ++ C) ?_ ?_ ?_ (TH.out _ hq) i34 o34 (ST.out _ hq)); rfl; rfl; rfl)) | (unfold QP.oat; go_simp; first | done | exact ⟨by assumption, rfl⟩ | exact rfl | assumption | ((rw [if_neg, HBP.out]; exact ⟨hq, rfl⟩; (simp [HC32.out])))))))
                | (apply QT.al_bef; decide; decide; (focus (intro wq hq; (first | (have cb := CB.out _ hq) | skip); first | (first | ((with_reducible refine QP.oat_load_row (ty := 47) (x := .tmp 5) (g := n + 1) (t := 47) (cs := C) (fr := (0, 0)) ?_ ?_ _ hq.hra und28 ?_ iT hq); rfl; rfl; rfl) | ((with_reducible refine oat_store_mid (ty := 90) (x := .tmp 31) (y := .tmp 28) (b := s) (off := p * 34) (cells := #[Value.bool true, Value.int .i64 i] ++ C) ?_ ?_ ?_ (TH.out _ hq) i34 o34 (ST.out _ hq)); rfl; rfl; rfl)) | (unfold QP.oat; go_simp; first | done | exact ⟨by assumption, rfl⟩ | exact rfl | assumption | ((rw [if_neg, HBP.out]; exact ⟨hq, rfl⟩; (simp [HC32.out])))))))
                | (apply QT.al_ok; decide; (focus (intro wq hq; (first | (have cb := CB.out _ hq) | skip); first | (first | ((with_reducible refine QP.oat_load_row (ty := 47) (x := .tmp 5) (g := n + 1) (t := 47) (cs := C) (fr := (0, 0)) ?_ ?_ _ hq.hra und28 ?_ iT hq); rfl; rfl; rfl) | ((with_reducible refine oat_store_mid (ty := 90) (x := .tmp 31) (y := .tmp 28) (b := s) (off := p * 34) (cells := #[Value.bool true, Value.int .i64 i] ++ C) ?_ ?_ ?_ (TH.out _ hq) i34 o34 (ST.out _ hq)); rfl; rfl; rfl)) | (unfold QP.oat; go_simp; first | done | exact ⟨by assumption, rfl⟩ | exact rfl | assumption | ((rw [if_neg, HBP.out]; exact ⟨hq, rfl⟩; (simp [HC32.out])))))); (focus (intro wq hq; (first | (have cb := CB.out _ hq) | skip); first | (first | ((with_reducible refine QP.oat_load_row (ty := 47) (x := .tmp 5) (g := n + 1) (t := 47) (cs := C) (fr := (0, 0)) ?_ ?_ _ hq.hra und28 ?_ iT hq); rfl; rfl; rfl) | ((with_reducible refine oat_store_mid (ty := 90) (x := .tmp 31) (y := .tmp 28) (b := s) (off := p * 34) (cells := #[Value.bool true, Value.int .i64 i] ++ C) ?_ ?_ ?_ (TH.out _ hq) i34 o34 (ST.out _ hq)); rfl; rfl; rfl)) | (unfold QP.oat; go_simp; first | done | exact ⟨by assumption, rfl⟩ | exact rfl | assumption | ((rw [if_neg, HBP.out]; exact ⟨hq, rfl⟩; (simp [HC32.out])))))))
              clear hK K))
      refine QT.wpQ_nil ?_
      intro wz bz
      go_wp2
      go_ret
      exact ⟨rfl, HS2.out.symm ▸ bz.row, bz.but⟩
    · rw [ho] at LW
      clear hput hth row
      go_enter Tryz.func41, Tryz.ntmps41
      go_wp2_with (first | (rw [HV.out]) | fail)
      refine (CN.out).mono ?_
      rintro r w1 ⟨rfl, gq⟩
      have k1 := k0.same gq
      have c1 : w1.cell? ⟨n, 0, none⟩ = some (.int .i64 i) := (M.RowAt.cell (k1.row n 3 #[.int .i64 i] (by simp)) 0).trans rfl
      clear gq k0 c0 hn
      go_wp2_with fail
      refine (PC.out _ k1.below).mono ?_
      rintro r w2 ⟨rfl, gq⟩
      have k2 := k1.same gq
      clear gq k1 c1
      go_wp2_with fail
      refine (LW.out _ k2).mono ?_
      rintro r w3 ⟨rfl, gq⟩
      have k3 := k2.same gq
      clear gq k2
      obtain ⟨g, VG, UG, hg, hVG, rVG, hUG, kg, geg, ltg⟩ := k3.box 90 (#[.bool false, .int .i64 0, .int .u8 0, .int .u8 0, .int .u8 0, .int .u8 0, .int .u8 0, .int .u8 0, .int .u8 0, .int .u8 0, .int .u8 0, .int .u8 0, .int .u8 0, .int .u8 0, .int .u8 0, .int .u8 0, .int .u8 0, .int .u8 0, .int .u8 0, .int .u8 0, .int .u8 0, .int .u8 0, .int .u8 0, .int .u8 0, .int .u8 0, .int .u8 0, .int .u8 0, .int .u8 0, .int .u8 0, .int .u8 0, .int .u8 0, .int .u8 0, .int .u8 0, .int .u8 0]) R
      have Hg := Lib.hid hg; have HVG := Lib.hid hVG; have HUG := Lib.hid hUG
      clear hg hVG hUG k3 ltg
      go_wp2_with (first
        | (rw [Hg.out, HVG.out]; refine wpList_store_row (x := .tmp 8) (y := .tmp 21) (cells := R) (old := #[.bool false, .int .i64 0, .int .u8 0, .int .u8 0, .int .u8 0, .int .u8 0, .int .u8 0, .int .u8 0, .int .u8 0, .int .u8 0, .int .u8 0, .int .u8 0, .int .u8 0, .int .u8 0, .int .u8 0, .int .u8 0, .int .u8 0, .int .u8 0, .int .u8 0, .int .u8 0, .int .u8 0, .int .u8 0, .int .u8 0, .int .u8 0, .int .u8 0, .int .u8 0, .int .u8 0, .int .u8 0, .int .u8 0, .int .u8 0, .int .u8 0, .int .u8 0, .int .u8 0, .int .u8 0]) (t := 90) (ty := 90) (g := g) ?_ ?_ ?_ ?_ rVG iL zL oL ?_; rfl; rfl; rfl; rfl; rw [HUG.out])
        | fail)
      go_ret
      exact ⟨rfl, ROW.out _ kg.below, BUT.out _ kg.below⟩
end Go.Proofs.YtdebnbgjgkbmaaaGreatDoor
-- fixed
namespace Go.Proofs.YtdebnbgjgkbmaaaGreatDoor
open Go.RowKit
set_option linter.unusedVariables false
def lkF (i : Int) (e : Ent) : Bool := can e.num i
def lkB (E : Nat → Ent) (i : Int) : Bool := lowB E (lkF i) 17
def lkV (E : Nat → Ent) (i : Int) : Ent := lowV E (lkF i) 17
def lkH (E : Nat → Ent) (i : Int) : Nat → Nat := if lkB E i then drH (lkV E i).told (lkV E i).num i else fun _ => 0
def lkE (E : Nat → Ent) (i : Int) : Int := if lkB E i then drE (lkV E i).num i else 3
theorem low_lt {E : Nat → Ent} {f : Ent → Bool} {p k : Nat} (h : low E f p = some k) : k < p ∧ (E k).full = true ∧ f (E k) = true := by
  unfold low at h
  have h1 := List.mem_of_find?_eq_some h
  have h2 := List.find?_some h
  simp only [Bool.and_eq_true] at h2
  exact ⟨List.mem_range.1 h1, h2.1, h2.2⟩
theorem lowV_told {E : Nat → Ent} {f : Ent → Bool} {p : Nat} (hE : ∀ b, b < p → ∀ j, (E b).told j < 256) : ∀ j, (lowV E f p).told j < 256 := by
  intro j
  unfold lowV
  split
  · next b hb => exact hE b (low_lt hb).1 j
  · show 0 < 256; decide
theorem sh_lowest (s fn : Nat) (E : Nat → Ent) (f : Ent → Bool) (caps : Array Value) (w : World) (hs : M.RowAt w s 93 (shC E)) (en : Enters Tryz.prog fn)
    (hcl : ∀ b, b < 17 → (E b).full = true → ∀ v, Below w.heap.size w v → Calls Tryz.prog fn (#[.agg (E b).row] ++ caps) v fun e w' => e = .returned (.bool (f (E b))) ∧ Below v.heap.size v w') :
    Calls Tryz.prog 133 #[.pointer (some ⟨s, 0, none⟩), .int .i64 17, .func (.func fn) #[] caps] w fun e w' => e = .returned (.tuple #[.agg (lowV E f 17).row, .bool (lowB E f 17)]) ∧ Below w.heap.size w w' :=
  lowest_any s 17 fn E f caps w hs (Nat.le_refl _) en hcl
set_option maxRecDepth 100000 in
set_option maxHeartbeats 4000000 in
theorem lookup_any (s : Nat) (E : Nat → Ent) (i : Int) (w : World) (ht : Tabs w) (hz : TzT w) (hE : ∀ b, b < 17 → ∀ j, (E b).told j < 256) (hs : M.RowAt w s 93 (shC E)) :
    Calls Tryz.prog 42 #[.pointer (some ⟨s, 0, none⟩), .int .i64 i] w fun e w' => e = .returned (.tuple #[.agg (r8 32 (lkH E i)), .int .i64 (lkE E i)]) ∧ Below w.heap.size w w' := by
  obtain ⟨n, hn⟩ : ∃ n, w.heap.size = n := ⟨_, rfl⟩
  have HN := Lib.hid hn
  have h1n : 4 < n := hn ▸ ht.lt
  have h3n : 6 < n := hn ▸ hz.lt
  have hsn : s < n := hn ▸ hs.lt
  have tb := fun v (hb : Below n w v) => ht.below hb h1n
  have tz := fun v (hb : Below n w v) => hz.below hb h3n
  have row := fun v (hb : Below n w v) => hs.below hb hsn
  have k0 := ((KB.start w).new 3 #[.int .i64 i]).new 47 Z32
  rw [World.size_alloc, hn] at k0
  have lw := fun v (k : KB n w [(n + 1, 47, Z32), (n, 3, #[.int .i64 i])] v) => sh_lowest s 135 E (lkF i) #[.pointer (some ⟨n, 0, none⟩)] v (row v k.below) enters71
    (fun b _ _ u hb => tells_any (E b) i n u (tz u (k.same hb).below) ((k.same hb).row n 3 _ (by simp)))
  have hT := lowV_told (f := lkF i) hE
  have eV : lowV E (lkF i) 17 = lkV E i := rfl
  have eB : lowB E (lkF i) 17 = lkB E i := rfl
  rw [eV] at hT
  rw [eV, eB] at lw
  unfold lkH lkE
  generalize lkV E i = e at *
  have iL := ent_info e
  have oL := e.row_one
  have zL : Z68.size = e.row.size := by unfold Z68; rw [Ent.row_size, Ent.row_size]
  have iZ := r8_info (fun _ => 0)
  rw [z32_r8] at iZ
  have oZ : Z32.all (·.oneCell') = true := by kernel_rfl
  have dr := fun v (hb : Below n w v) => derive_any e.told e.num i v (tb v hb) (tz v hb) hT
  have iD := r8_info (drH e.told e.num i); have zD := r8_zero (drH e.told e.num i); have oD := r8_one (drH e.told e.num i)
  have g2 := fun (g : Nat) (v : World) (k : M.RowAt v g 90 e.row) => Ent.range2 (e := e) k
  have iR : (Tryz.prog.info? 47).map (·.size) = some (r8 32 e.told).toList.length := by rw [Array.length_toList]; exact r8_info e.told
  have hcell := fun (g : Nat) (v : World) (k : M.RowAt v g 90 e.row) => (M.RowAt.cell k 1).trans e.c1
  obtain ⟨V, hV⟩ : ∃ V, (w.alloc (.cells #[.int .i64 i] 3)).alloc (.cells #[.int .u8 0, .int .u8 0, .int .u8 0, .int .u8 0, .int .u8 0, .int .u8 0, .int .u8 0, .int .u8 0, .int .u8 0, .int .u8 0, .int .u8 0, .int .u8 0, .int .u8 0, .int .u8 0, .int .u8 0, .int .u8 0, .int .u8 0, .int .u8 0, .int .u8 0, .int .u8 0, .int .u8 0, .int .u8 0, .int .u8 0, .int .u8 0, .int .u8 0, .int .u8 0, .int .u8 0, .int .u8 0, .int .u8 0, .int .u8 0, .int .u8 0, .int .u8 0] 47) = V := ⟨_, rfl⟩
  have kV : KB n w [(n + 1, 47, Z32), (n, 3, #[.int .i64 i])] V := hV ▸ k0
  have HV := Lib.hid hV
  have hrr : (r8 32 e.told).toList.toArray = r8 32 e.told := Array.toArray_toList
  have LW := Lib.hid lw; have DR := Lib.hid dr; have G2 := Lib.hid g2; have HC := Lib.hid hcell
  cases hb : lkB E i
  · have z1 : r8 32 (if (false = true) then drH e.told e.num i else fun _ => 0) = Z32 := z32_r8
    rw [z1, if_neg (by decide)]
    rw [hb] at LW
    generalize e.row = R at *
    clear z1 dr g2 hcell lw hT tb tz ht hz h1n h3n hsn row hs hV k0 hb eV eB hE
    go_enter Tryz.func42, Tryz.ntmps42
    go_wp2_with fail
    rw [HV.out]
    refine (LW.out _ kV).mono ?_
    rintro r w1 ⟨rfl, gq⟩
    have k1 := kV.same gq
    clear gq kV hn
    obtain ⟨g, VG, UG, hg, hVG, rVG, hUG, kg, geg, ltg⟩ := k1.box 90 (#[.bool false, .int .i64 0, .int .u8 0, .int .u8 0, .int .u8 0, .int .u8 0, .int .u8 0, .int .u8 0, .int .u8 0, .int .u8 0, .int .u8 0, .int .u8 0, .int .u8 0, .int .u8 0, .int .u8 0, .int .u8 0, .int .u8 0, .int .u8 0, .int .u8 0, .int .u8 0, .int .u8 0, .int .u8 0, .int .u8 0, .int .u8 0, .int .u8 0, .int .u8 0, .int .u8 0, .int .u8 0, .int .u8 0, .int .u8 0, .int .u8 0, .int .u8 0, .int .u8 0, .int .u8 0]) R
    have Hg := Lib.hid hg; have HVG := Lib.hid hVG; have HUG := Lib.hid hUG
    have hlg : n + 1 < g := ltg (n + 1, 47, Z32) (by simp)
    have rN := kg.row (n + 1) 47 Z32 (by simp)
    have kW := (kg.sub (L' := [(n + 1, 47, Z32), (n, 3, #[.int .i64 i])]) (by simp)).setRow (fun x hx => by simp at hx; subst hx; show n ≠ n + 1; omega) (by omega) Z32
    have rW := kW.row (n + 1) 47 Z32 (by simp)
    clear hg hVG hUG k1 ltg
    go_wp2_with (first
      | (rw [Hg.out, HVG.out]; refine wpList_store_row (x := .tmp 6) (y := .tmp 12) (cells := R) (old := #[.bool false, .int .i64 0, .int .u8 0, .int .u8 0, .int .u8 0, .int .u8 0, .int .u8 0, .int .u8 0, .int .u8 0, .int .u8 0, .int .u8 0, .int .u8 0, .int .u8 0, .int .u8 0, .int .u8 0, .int .u8 0, .int .u8 0, .int .u8 0, .int .u8 0, .int .u8 0, .int .u8 0, .int .u8 0, .int .u8 0, .int .u8 0, .int .u8 0, .int .u8 0, .int .u8 0, .int .u8 0, .int .u8 0, .int .u8 0, .int .u8 0, .int .u8 0, .int .u8 0, .int .u8 0]) (t := 90) (ty := 90) (g := g) ?_ ?_ ?_ ?_ rVG iL zL oL ?_; rfl; rfl; rfl; rfl; rw [HUG.out])
      | (refine wpList_store_row (x := .tmp 4) (y := .tmp 16) (cells := Z32) (old := Z32) (t := 47) (ty := 47) (g := n + 1) ?_ ?_ ?_ ?_ rN iZ rfl oZ ?_; rfl; rfl; rfl; rfl)
      | fail)
    have hload := run_loadVar_row (P := Tryz.prog) _ (n + 1) 47 47 Z32 (0, 0) _ rW und28 rfl iZ
    refine bodyPost_ret (v := .tuple #[.agg Z32, .int .i64 3]) (by simp [results, Tryz.results42, asAddr, hload]) rfl ⟨rfl, ?_⟩
    rw [HN.out]
    exact kW.below
  · rw [if_pos rfl, if_pos rfl]
    rw [hb] at LW
    obtain ⟨Y, hY⟩ : ∃ Y, (r8 32 e.told).toList = Y := ⟨_, rfl⟩
    rw [hY] at iR G2 hrr
    generalize drE e.num i = x at *
    generalize r8 32 (drH e.told e.num i) = D at *
    generalize r8 32 e.told = C at *
    generalize e.row = R at *
    generalize e.num = num at *
    clear dr g2 hcell lw hT tb tz ht hz h1n h3n hsn row hs hV k0 hb eV eB hE hY
    go_enter Tryz.func42, Tryz.ntmps42
    go_wp2_with fail
    rw [HV.out]
    refine (LW.out _ kV).mono ?_
    rintro r w1 ⟨rfl, gq⟩
    have k1 := kV.same gq
    clear gq kV hn
    obtain ⟨g, VG, UG, hg, hVG, rVG, hUG, kg, geg, ltg⟩ := k1.box 90 (#[.bool false, .int .i64 0, .int .u8 0, .int .u8 0, .int .u8 0, .int .u8 0, .int .u8 0, .int .u8 0, .int .u8 0, .int .u8 0, .int .u8 0, .int .u8 0, .int .u8 0, .int .u8 0, .int .u8 0, .int .u8 0, .int .u8 0, .int .u8 0, .int .u8 0, .int .u8 0, .int .u8 0, .int .u8 0, .int .u8 0, .int .u8 0, .int .u8 0, .int .u8 0, .int .u8 0, .int .u8 0, .int .u8 0, .int .u8 0, .int .u8 0, .int .u8 0, .int .u8 0, .int .u8 0]) R
    have Hg := Lib.hid hg; have HVG := Lib.hid hVG; have HUG := Lib.hid hUG
    have hlg : n + 1 < g := ltg (n + 1, 47, Z32) (by simp)
    have rg := G2.out g UG (kg.row g 90 R (by simp))
    have cG := HC.out g UG (kg.row g 90 R (by simp))
    have c0 : UG.cell? ⟨n, 0, none⟩ = some (.int .i64 i) := (M.RowAt.cell (kg.row n 3 #[.int .i64 i] (by simp)) 0).trans rfl
    clear hg hVG hUG k1 ltg
    go_wp2_with (first
      | (rw [Hg.out, HVG.out]; refine wpList_store_row (x := .tmp 6) (y := .tmp 12) (cells := R) (old := #[.bool false, .int .i64 0, .int .u8 0, .int .u8 0, .int .u8 0, .int .u8 0, .int .u8 0, .int .u8 0, .int .u8 0, .int .u8 0, .int .u8 0, .int .u8 0, .int .u8 0, .int .u8 0, .int .u8 0, .int .u8 0, .int .u8 0, .int .u8 0, .int .u8 0, .int .u8 0, .int .u8 0, .int .u8 0, .int .u8 0, .int .u8 0, .int .u8 0, .int .u8 0, .int .u8 0, .int .u8 0, .int .u8 0, .int .u8 0, .int .u8 0, .int .u8 0, .int .u8 0, .int .u8 0]) (t := 90) (ty := 90) (g := g) ?_ ?_ ?_ ?_ rVG iL zL oL ?_; rfl; rfl; rfl; rfl; rw [HUG.out])
      | (refine wpList_load_mid (ty := 47) (x := .tmp 17) (b := g) (o := 2) (cs := Y) ?_ ?_ ?_ _ rg und28 rfl iR ?_; rfl; rfl; rfl; rw [hrr])
      | fail)
    refine (DR.out _ kg.below).mono ?_
    rintro r w2 ⟨rfl, gq⟩
    have k2 := (kg.same gq).sub (L' := [(n + 1, 47, Z32), (n, 3, #[.int .i64 i])]) (by simp)
    have rN := k2.row (n + 1) 47 Z32 (by simp)
    have kW := k2.setRow (fun x hx => by simp at hx; subst hx; show n ≠ n + 1; omega) (by omega) D
    have rW := kW.row (n + 1) 47 D (by simp)
    clear gq kg Hg HVG HUG rVG rg cG c0
    go_wp2_with (first
      | (refine wpList_store_row (x := .tmp 4) (y := .tmp 23) (cells := D) (old := Z32) (t := 47) (ty := 47) (g := n + 1) ?_ ?_ ?_ ?_ rN iD zD oD ?_; rfl; rfl; rfl; rfl)
      | fail)
    have hload := run_loadVar_row (P := Tryz.prog) _ (n + 1) 47 47 D (0, 0) _ rW und28 rfl iD
    refine bodyPost_ret (v := .tuple #[.agg D, .int .i64 x]) (by simp [results, Tryz.results42, asAddr, hload]) rfl ⟨rfl, ?_⟩
    rw [HN.out]
    exact kW.below
end Go.Proofs.YtdebnbgjgkbmaaaGreatDoor
-- fixed
namespace Go.Proofs.YtdebnbgjgkbmaaaGreatDoor
open Go.RowKit
set_option linter.unusedVariables false
/-- how many of the first k places have a secret -/
def cnt (E : Nat → Ent) : Nat → Nat
  | 0 => 0
  | k + 1 => cnt E k + if (E k).full then 1 else 0
end Go.Proofs.YtdebnbgjgkbmaaaGreatDoor
-- fixed
namespace Go.Proofs.YtdebnbgjgkbmaaaGreatDoor
open Go.RowKit
set_option linter.unusedVariables false
def ent (F : Nat → Nat) (x : Nat) : Ent := ⟨true, (x : Nat), walkH F x 16⟩
/-- every full place b has the secret of a number whose place is b -/
def Good (F : Nat → Nat) (E : Nat → Ent) : Prop := ∀ b, (E b).full = true → ∃ x, x < 65536 ∧ E b = ent F x ∧ Sc.pl x = b
theorem KB.but {n : Nat} {w v v' : World} {L : List (Nat × TypeId × Array Value)} {s : Nat} {t : TypeId} {C C' : Array Value} (c : KB n w ((s, t, C) :: L) v) (hne : ∀ x ∈ L, x.1 ≠ s) (hs : n ≤ s) (hb : M.But s v v') (hr : M.RowAt v' s t C') : KB n w ((s, t, C') :: L) v' :=
  ⟨fun x hx => by
    rcases List.mem_cons.1 hx with e | e
    · subst e; exact hr
    · exact hb.row (c.rows x (List.mem_cons_of_mem _ e)) (hne x e), hb.below c.below hs c.ge, Nat.le_trans c.ge hb.size⟩
def ZS : Array Value := shC fun _ => none0
theorem build71 (W : World) : (Instr.build 93 #[]).run Tryz.prog W = .ok (.agg ZS) W := by kernel_rfl
end Go.Proofs.YtdebnbgjgkbmaaaGreatDoor
-- fixed
namespace Go.Proofs.YtdebnbgjgkbmaaaGreatDoor.Oc
open Go.RowKit
set_option linter.unusedVariables false
theorem wpList_load_row_g {P : Program} {ops : Array Oper} {rest : List Oper} {o : Oper} {a : Act} {w : World} {Q : Exit → Act → World → Prop} (hw : Region.wanted o (yielded ops a.tmps) = true) (ty : TypeId) (x : Operand) (ho : o.op = .load ty x)
    (g : Nat) (hx : a.eval x = .pointer (some ⟨g, 0, none⟩)) (t : TypeId) (cs : Array Value) (fr : Nat × Nat) (d : TypeDesc) (hg : w.heap[g]? = some (.cells cs t fr))
    (hu : P.underlying ty = some d) (hd : (match d with | .struct _ | .array _ _ => true | _ => false) = true) (hi : (P.info? ty).map (·.size) = some cs.size)
    (h : wpList P ops Q rest (a.put o.dst (.agg cs)) w) : wpList P ops Q (o :: rest) a w :=
  wpList_step fun K hK => by rw [if_pos hw]; exact wp_load_row ty x ho g hx t cs fr d hg hu hd hi (hK _ _ h)
end Go.Proofs.YtdebnbgjgkbmaaaGreatDoor.Oc
namespace Go.Proofs.YtdebnbgjgkbmaaaGreatDoor
open Go.RowKit
set_option linter.unusedVariables false
theorem isN_nat {a : Nat} (h : a < 65536) : isN (a : Int) = true := by simp [isN]; omega
theorem can_selfN {a : Nat} (h : a < 65536) : can (a : Int) (a : Int) = true := by unfold can; rw [isN_nat h]; simp
theorem can_up {a b : Nat} (h : a < 65536) (hb : b < a) : can (a : Int) (b : Int) = false := by
  unfold can
  rw [isN_nat h, isN_nat (show b < 65536 by omega)]
  have hp : place (a : Int) = Sc.pl a := by unfold place Sc.pl; rw [isN_nat h, if_pos rfl, Int.toNat_natCast]
  rw [hp]
  obtain ⟨k, hk, _⟩ := Sc.pl_spec h
  obtain ⟨p, hpp⟩ : ∃ p, Sc.pl a = p := ⟨_, rfl⟩
  rw [hpp] at hk ⊢
  have h1 : a / 2 ^ p = k := by rw [hk]; exact Nat.mul_div_cancel_left _ (Nat.two_pow_pos p)
  have h2 : b / 2 ^ p < k := by
    rw [Nat.div_lt_iff_lt_mul (Nat.two_pow_pos p), Nat.mul_comm]; omega
  have h3 : (a : Int) / 2 ^ p = ((a / 2 ^ p : Nat) : Int) := by rw [Int.natCast_ediv, Int.natCast_pow]; rfl
  have h4 : (b : Int) / 2 ^ p = ((b / 2 ^ p : Nat) : Int) := by rw [Int.natCast_ediv, Int.natCast_pow]; rfl
  rw [h3, h4, h1]
  simp
  omega
/-- a shelf with one secret -/
def oneS (a : Nat) (T : Nat → Nat) : Nat → Ent := putE (fun _ => none0) (place (a : Int)) ⟨true, a, T⟩
theorem one_ins {a : Nat} (h : a < 65536) (T : Nat → Nat) : insR (fun _ => none0) T (a : Int) = 0 ∧ insE (fun _ => none0) T (a : Int) = oneS a T := by
  have ho : insO (fun _ => none0) T (a : Int) = false := by
    unfold insO lowB
    rw [low_none (fun b _ => rfl)]; rfl
  unfold insR insE
  rw [can_selfN h, ho]
  exact ⟨rfl, rfl⟩
theorem one_look {a b : Nat} (h : a < 65536) (hb : b < a) (T : Nat → Nat) : lkE (oneS a T) (b : Int) = 3 := by
  have ho : lkB (oneS a T) (b : Int) = false := by
    unfold lkB lowB
    rw [low_none (fun j _ => ?_)]; rfl
    unfold oneS putE
    split
    · show (true && can (a : Int) (b : Int)) = false
      rw [can_up h hb]; rfl
    · rfl
  unfold lkE; rw [ho]; rfl
theorem one_told {a : Nat} {T : Nat → Nat} (hT : ∀ j, T j < 256) : ∀ k, k < 17 → ∀ j, (oneS a T k).told j < 256 := fun k _ j => by
  unfold oneS putE
  split
  · exact hT j
  · show (0 : Nat) < 256; decide
theorem tz_glb {w : World} (g : SX.Glb w) : TzT w := ⟨fun j hj => by
  rw [g.r6.cell j]; unfold SX.g6
  rw [List.getElem?_toArray, List.getElem?_map, List.getElem?_eq_getElem hj]
  simp [List.getD_eq_getElem?_getD, List.getElem?_eq_getElem hj]⟩
set_option maxRecDepth 100000 in
set_option maxHeartbeats 4000000 in
theorem seed_long (C : Array Value) (n l : Nat) (w : World) (hn : n < 65536) (hb : 65535 - (n : Int) - 1 - (l % 100 : Nat) < 0) (hl : l < 65536) (sh : ∀ v, Below w.heap.size w v → Calls Tryz.prog 17 #[] v fun e w' => e = .returned (.bool true) ∧ Below v.heap.size v w') :
    Calls Tryz.prog 8 #[.agg C, .int .u16 (n : Nat), .int .u16 (l : Nat)] w fun e w' => e = .returned (.bool true) ∧ Below w.heap.size w w' := by
  have SH := Lib.hid sh
  obtain ⟨r, hr⟩ : ∃ r, l % 100 = r := ⟨_, rfl⟩
  rw [hr] at hb
  have e1 : (l : Int) % 100 = (r : Int) := by omega
  have e2 : Int.tmod (l : Int) 100 = (r : Int) := by rw [← hr]; rfl
  have w1 : IntKind.i64.wrap (n : Int) = n := by rw [IntKind.wrap_i64]; omega
  have w2 : IntKind.i64.wrap (l : Int) = l := by rw [IntKind.wrap_i64]; omega
  have w3 : IntKind.i64.wrap (65535 - (n : Int)) = 65535 - n := by rw [IntKind.wrap_i64]; omega
  have w4 : IntKind.i64.wrap (65535 - (n : Int) - 1) = 65535 - n - 1 := by rw [IntKind.wrap_i64]; omega
  have w5 : IntKind.i64.wrap (65535 - (n : Int) - 1 - (r : Int)) = 65535 - n - 1 - r := by rw [IntKind.wrap_i64]; omega
  have d1 : decide (65535 - (n : Int) - 1 - (r : Int) < 0) = true := by simp; omega
  have hbb : Below w.heap.size w (w.alloc (.cells C 47)) := (Below.refl _ _).alloc (Nat.le_refl _) _
  have BB := Lib.hid hbb
  clear sh hbb hr hb
  go_enter Tryz.func8, Tryz.ntmps8
  go_wp2_with fail
  refine (SH.out _ BB.out).mono ?_
  rintro e w1 ⟨rfl, g1⟩
  have G := Lib.hid (BB.out.trans (g1.mono BB.out.size))
  clear g1
  go_wp2
  go_ret
  exact ⟨rfl, G.out⟩
theorem iH (C : Array Value) (h : C.size = 32) : (Tryz.prog.info? 47).map (·.size) = some C.size := by rw [h]; kernel_rfl
set_option maxRecDepth 100000 in
set_option maxHeartbeats 8000000 in
theorem seed_walk (F : Nat → Nat) (hF : ∀ j, F j < 256) (n l : Nat) (w : World) (g : SX.Glb w) (hn : n < 65536) (hb : 0 ≤ 65535 - (n : Int) - 1 - (l % 100 : Nat)) (hl : l < 65536) (sh : ∀ v, Below w.heap.size w v → Calls Tryz.prog 17 #[] v fun e w' => e = .returned (.bool true) ∧ Below v.heap.size v w') :
    Calls Tryz.prog 8 #[.agg (r8 32 F), .int .u16 (n : Nat), .int .u16 (l : Nat)] w fun e w' => e = .returned (.bool true) ∧ Below w.heap.size w w' := by
  have SH := Lib.hid sh
  obtain ⟨r, hr⟩ : ∃ r, l % 100 = r := ⟨_, rfl⟩
  rw [hr] at hb
  obtain ⟨a, ha⟩ : ∃ a : Nat, 65535 - (n : Int) = (a : Int) := ⟨65535 - n, by omega⟩
  obtain ⟨b, hbb⟩ : ∃ b : Nat, (a : Int) - 1 - (r : Int) = (b : Int) := ⟨a - 1 - r, by omega⟩
  have hba : b < a := by omega
  have ha16 : a < 65536 := by omega
  have e1 : (l : Int) % 100 = (r : Int) := by omega
  have e2 : Int.tmod (l : Int) 100 = (r : Int) := by rw [← hr]; rfl
  have w1 : IntKind.i64.wrap (n : Int) = n := by rw [IntKind.wrap_i64]; omega
  have w2 : IntKind.i64.wrap (l : Int) = l := by rw [IntKind.wrap_i64]; omega
  have w3 : IntKind.i64.wrap (65535 - (n : Int)) = (a : Int) := by rw [ha, IntKind.wrap_i64]; omega
  have w4 : IntKind.i64.wrap ((a : Int) - 1) = (a : Int) - 1 := by rw [IntKind.wrap_i64]; omega
  have w5 : IntKind.i64.wrap ((a : Int) - 1 - (r : Int)) = (b : Int) := by rw [hbb, IntKind.wrap_i64]; omega
  have d1 : decide ((b : Int) < 0) = false := by simp
  obtain ⟨q, hq⟩ : ∃ q, w.heap.size = q := ⟨_, rfl⟩
  have hq8 : 7 < q := hq ▸ g.lt
  have glb := fun v (hv : Below q w v) => g.below hv hq8
  have hHt : ∀ j, mkH F (a : Int) j < 256 := fun j => by
    unfold mkH
    rw [isN_nat ha16, if_pos rfl]; exact walkH_lt hF _ _ j
  have mk := fun v (hv : Below q w v) => make_any F (a : Int) v (glb v hv).tabs hF
  rw [show mkE (a : Int) = 0 by unfold mkE; rw [isN_nat ha16]; rfl] at mk
  obtain ⟨T, hT⟩ : ∃ T, mkH F (a : Int) = T := ⟨_, rfl⟩
  rw [hT] at mk hHt
  have ins := fun v s (hv : Below q w v) hs => insert_any s (fun _ => none0) T (a : Int) v (glb v hv).tabs (tz_glb (glb v hv)) hHt hs
  rw [(one_ins ha16 T).1, (one_ins ha16 T).2] at ins
  have look := fun v s (hv : Below q w v) hs => lookup_any s (oneS a T) (b : Int) v (glb v hv).tabs (tz_glb (glb v hv)) (one_told hHt) hs
  rw [one_look ha16 hba T] at look
  have der := fun v (hv : Below q w v) => derive_any T (a : Int) (b : Int) v (glb v hv).tabs (tz_glb (glb v hv)) hHt
  rw [show drE (a : Int) (b : Int) = 1 by unfold drE; rw [can_up ha16 hba]; rfl] at der
  have cn := fun v (hv : Below q w v) => can_any (a : Int) (b : Int) v (tz_glb (glb v hv))
  rw [can_up ha16 hba] at cn
  have bz := build71
  rw [show ZS = shC fun _ => none0 from rfl] at bz
  obtain ⟨H2, hH2⟩ : ∃ H2, lkH (oneS a T) (b : Int) = H2 := ⟨_, rfl⟩
  obtain ⟨H3, hH3⟩ : ∃ H3, drH T (a : Int) (b : Int) = H3 := ⟨_, rfl⟩
  rw [hH2] at look
  rw [hH3] at der
  obtain ⟨Z1, hZ1⟩ : ∃ Z1, shC (oneS a T) = Z1 := ⟨_, rfl⟩
  rw [hZ1] at ins look
  obtain ⟨Z0, hZ0⟩ : ∃ Z0, (shC fun _ => none0) = Z0 := ⟨_, rfl⟩
  rw [hZ0] at ins bz
  obtain ⟨C, hC⟩ : ∃ C, r8 32 F = C := ⟨_, rfl⟩
  obtain ⟨D, hD⟩ : ∃ D, r8 32 T = D := ⟨_, rfl⟩
  obtain ⟨D2, hD2⟩ : ∃ D, r8 32 H2 = D := ⟨_, rfl⟩
  obtain ⟨D3, hD3⟩ : ∃ D, r8 32 H3 = D := ⟨_, rfl⟩
  have iC := iH C (by rw [← hC, r8_size]); have iD := iH D (by rw [← hD, r8_size]); have iD2 := iH D2 (by rw [← hD2, r8_size]); have iD3 := iH D3 (by rw [← hD3, r8_size])
  have oD : D.all (·.oneCell') = true := by rw [← hD]; exact M.rowF_one
  have oD2 : D2.all (·.oneCell') = true := by rw [← hD2]; exact M.rowF_one
  have oD3 : D3.all (·.oneCell') = true := by rw [← hD3]; exact M.rowF_one
  have zD : Z32.size = D.size := by rw [← hD, r8_size]; rfl
  have zD2 : Z32.size = D2.size := by rw [← hD2, r8_size]; rfl
  have zD3 : Z32.size = D3.size := by rw [← hD3, r8_size]; rfl
  rw [hC] at mk ⊢
  rw [hD] at mk ins der
  rw [hD2] at look
  rw [hD3] at der
  have k0 := (KB.start w).new 47 C
  rw [hq] at k0
  have MK := Lib.hid mk; have INS := Lib.hid ins; have LOOK := Lib.hid look; have DER := Lib.hid der; have CN := Lib.hid cn; have BZ := Lib.hid bz
  have IC := Lib.hid iC; have ID := Lib.hid iD; have ID2 := Lib.hid iD2; have ID3 := Lib.hid iD3; have OD := Lib.hid oD; have OD2 := Lib.hid oD2; have OD3 := Lib.hid oD3; have ZD := Lib.hid zD; have ZD2 := Lib.hid zD2; have ZD3 := Lib.hid zD3
  clear mk ins look der cn bz hC hD hD2 hD3 hZ0 hZ1 hH2 hH3 hT hHt glb sh iC iD iD2 iD3 oD oD2 oD3 zD zD2 zD3 hb hr ha hbb g hF
  subst hq
  go_enter Tryz.func8, Tryz.ntmps8
  go_wp2_with fail
  refine (SH.out _ k0.below).mono ?_
  rintro e v1 ⟨rfl, g1⟩
  have k1 := k0.same g1
  clear g1 k0
  have G1 := Lib.hid k1.ge
  have k2 := k1.new 93 Z0
  obtain ⟨sb, hsb⟩ : ∃ sb, v1.heap.size = sb := ⟨_, rfl⟩
  rw [hsb] at k2
  have R2 := Lib.hid (k2.row w.heap.size 47 C (by simp))
  clear k1
  go_wp2_with (first | (refine wpList_build (t := 93) ?_ ?_ Z0 BZ.out ?_; rfl; rfl) | ((with_reducible refine wpList_load_row (x := .tmp 3) (ty := 47) (g := w.heap.size) (cs := C) (t := 47) (fr := (0, 0)) ?_ ?_ ?_ _ R2.out Tryz.underlying47 rfl IC.out ?_); rfl; rfl; rfl) | fail)
  refine (MK.out _ k2.below).mono ?_
  rintro e v2 ⟨rfl, g2⟩
  have k3 := k2.same g2
  clear g2 k2 R2
  obtain ⟨ga, V3, U3, hga, hV3, rV3, hU3, k4, gea, lta⟩ := k3.box 47 (#[.int .u8 0, .int .u8 0, .int .u8 0, .int .u8 0, .int .u8 0, .int .u8 0, .int .u8 0, .int .u8 0, .int .u8 0, .int .u8 0, .int .u8 0, .int .u8 0, .int .u8 0, .int .u8 0, .int .u8 0, .int .u8 0, .int .u8 0, .int .u8 0, .int .u8 0, .int .u8 0, .int .u8 0, .int .u8 0, .int .u8 0, .int .u8 0, .int .u8 0, .int .u8 0, .int .u8 0, .int .u8 0, .int .u8 0, .int .u8 0, .int .u8 0, .int .u8 0]) D
  have HGA := Lib.hid hga; have HV3 := Lib.hid hV3; have HU3 := Lib.hid hU3
  have R4 := Lib.hid (k4.row ga 47 D (by simp))
  clear hga hV3 hU3 k3
  go_wp2_with (first | (rw [HGA.out, HV3.out]; refine wpList_store_row (x := .tmp 10) (y := .tmp 38) (cells := D) (old := #[.int .u8 0, .int .u8 0, .int .u8 0, .int .u8 0, .int .u8 0, .int .u8 0, .int .u8 0, .int .u8 0, .int .u8 0, .int .u8 0, .int .u8 0, .int .u8 0, .int .u8 0, .int .u8 0, .int .u8 0, .int .u8 0, .int .u8 0, .int .u8 0, .int .u8 0, .int .u8 0, .int .u8 0, .int .u8 0, .int .u8 0, .int .u8 0, .int .u8 0, .int .u8 0, .int .u8 0, .int .u8 0, .int .u8 0, .int .u8 0, .int .u8 0, .int .u8 0]) (t := 47) (ty := 47) (g := ga) ?_ ?_ ?_ ?_ rV3 ID.out ZD.out OD.out ?_; rfl; rfl; rfl; rfl; rw [HU3.out]) | ((with_reducible refine wpList_load_row_g (x := .tmp 10) (ty := 47) (g := ga) (cs := D) (t := 47) (fr := (0, 0)) ?_ ?_ ?_ _ R4.out Tryz.underlying47 rfl ID.out ?_); rfl; rfl; rfl) | fail)
  refine (INS.out _ sb k4.below (k4.row sb 93 Z0 (by simp))).mono ?_
  rintro e v3 ⟨rfl, r5, b5⟩
  have hsq : w.heap.size ≤ sb := by rw [← hsb]; exact G1.out
  have hlt : sb < U3.heap.size := M.RowAt.lt (k4.row sb 93 Z0 (by simp))
  have hga2 := lta (sb, 93, Z0) (by simp)
  have hga3 := lta (w.heap.size, 47, C) (by simp)
  have k5 : KB w.heap.size w [(ga, 47, D), (sb, 93, Z1)] v3 := by
    refine ⟨fun x hx => ?_, b5.below k4.below hsq k4.ge, Nat.le_trans k4.ge b5.size⟩
    simp only [List.mem_cons, List.not_mem_nil, or_false] at hx
    rcases hx with rfl | rfl
    · exact b5.row (k4.row ga 47 D (by simp)) (by omega)
    · exact r5
  clear k4 r5 b5 R4 rV3 HGA HV3 HU3 lta
  go_wp2_with fail
  refine (LOOK.out _ sb k5.below (k5.row sb 93 Z1 (by simp))).mono ?_
  rintro e v4 ⟨rfl, g6⟩
  have k6 := k5.same g6
  clear g6 k5
  obtain ⟨gb, V6, U6, hgb, hV6, rV6, hU6, k7, geb, ltb⟩ := k6.box 47 (#[.int .u8 0, .int .u8 0, .int .u8 0, .int .u8 0, .int .u8 0, .int .u8 0, .int .u8 0, .int .u8 0, .int .u8 0, .int .u8 0, .int .u8 0, .int .u8 0, .int .u8 0, .int .u8 0, .int .u8 0, .int .u8 0, .int .u8 0, .int .u8 0, .int .u8 0, .int .u8 0, .int .u8 0, .int .u8 0, .int .u8 0, .int .u8 0, .int .u8 0, .int .u8 0, .int .u8 0, .int .u8 0, .int .u8 0, .int .u8 0, .int .u8 0, .int .u8 0]) D2
  have HGB := Lib.hid hgb; have HV6 := Lib.hid hV6; have HU6 := Lib.hid hU6
  have R7 := Lib.hid (k7.row ga 47 D (by simp))
  clear hgb hV6 hU6 k6
  go_wp2_with (first | (rw [HGB.out, HV6.out]; refine wpList_store_row (x := .tmp 12) (y := .tmp 53) (cells := D2) (old := #[.int .u8 0, .int .u8 0, .int .u8 0, .int .u8 0, .int .u8 0, .int .u8 0, .int .u8 0, .int .u8 0, .int .u8 0, .int .u8 0, .int .u8 0, .int .u8 0, .int .u8 0, .int .u8 0, .int .u8 0, .int .u8 0, .int .u8 0, .int .u8 0, .int .u8 0, .int .u8 0, .int .u8 0, .int .u8 0, .int .u8 0, .int .u8 0, .int .u8 0, .int .u8 0, .int .u8 0, .int .u8 0, .int .u8 0, .int .u8 0, .int .u8 0, .int .u8 0]) (t := 47) (ty := 47) (g := gb) ?_ ?_ ?_ ?_ rV6 ID2.out ZD2.out OD2.out ?_; rfl; rfl; rfl; rfl; rw [HU6.out]) | ((with_reducible refine wpList_load_row (x := .tmp 10) (ty := 47) (g := ga) (cs := D) (t := 47) (fr := (0, 0)) ?_ ?_ ?_ _ R7.out Tryz.underlying47 rfl ID.out ?_); rfl; rfl; rfl) | fail)
  refine (DER.out _ k7.below).mono ?_
  rintro e v5 ⟨rfl, g8⟩
  have k8 := k7.same g8
  clear g8 k7 R7
  obtain ⟨gc, V8, U8, hgc, hV8, rV8, hU8, k9, gec, ltc⟩ := k8.box 47 (#[.int .u8 0, .int .u8 0, .int .u8 0, .int .u8 0, .int .u8 0, .int .u8 0, .int .u8 0, .int .u8 0, .int .u8 0, .int .u8 0, .int .u8 0, .int .u8 0, .int .u8 0, .int .u8 0, .int .u8 0, .int .u8 0, .int .u8 0, .int .u8 0, .int .u8 0, .int .u8 0, .int .u8 0, .int .u8 0, .int .u8 0, .int .u8 0, .int .u8 0, .int .u8 0, .int .u8 0, .int .u8 0, .int .u8 0, .int .u8 0, .int .u8 0, .int .u8 0]) D3
  have HGC := Lib.hid hgc; have HV8 := Lib.hid hV8; have HU8 := Lib.hid hU8
  clear hgc hV8 hU8 k8
  go_wp2_with (first | (rw [HGC.out, HV8.out]; refine wpList_store_row (x := .tmp 14) (y := .tmp 60) (cells := D3) (old := #[.int .u8 0, .int .u8 0, .int .u8 0, .int .u8 0, .int .u8 0, .int .u8 0, .int .u8 0, .int .u8 0, .int .u8 0, .int .u8 0, .int .u8 0, .int .u8 0, .int .u8 0, .int .u8 0, .int .u8 0, .int .u8 0, .int .u8 0, .int .u8 0, .int .u8 0, .int .u8 0, .int .u8 0, .int .u8 0, .int .u8 0, .int .u8 0, .int .u8 0, .int .u8 0, .int .u8 0, .int .u8 0, .int .u8 0, .int .u8 0, .int .u8 0, .int .u8 0]) (t := 47) (ty := 47) (g := gc) ?_ ?_ ?_ ?_ rV8 ID3.out ZD3.out OD3.out ?_; rfl; rfl; rfl; rfl; rw [HU8.out]) | fail)
  refine (CN.out _ k9.below).mono ?_
  rintro e v6 ⟨rfl, nn, rfl⟩
  have B9 := Lib.hid (k9.drewN nn).below
  clear k9
  go_wp2
  go_ret
  exact ⟨rfl, B9.out⟩
end Go.Proofs.YtdebnbgjgkbmaaaGreatDoor
namespace Go.Proofs.YtdebnbgjgkbmaaaGreatDoor.RowK
open Go.ChangeShapes Go.WideShapes Go.ChangeAt Go.RowKit
theorem arr_of_trod {H : Type} {enc : TypeId × Value → H} {P : Program} {w : World} {base : Nat} {sp : Nat → Bool} {held : Bool} {r : Reach} {b0 : Nat} {t e : TypeId} {k : IntKind} {n : Nat} {v : Value} {d : DataW H} {p : List MemPlace}
    (ht : P.underlying t = some (.array n e)) (he : P.underlying e = some (.int k)) (hce : P.cellsOf e = 1) (hct : P.cellsOf t = n)
    (hval : Value.okWide P w r b0 t v) (h : DataW.Trod enc P w base sp held t v d p) :
    ∃ zs : List Int, zs.length = n ∧ (∀ z ∈ zs, (Lit.int k z).wf = true) ∧ v = .agg (zs.map (Value.int k)).toArray := by
  have hv : ∃ cs : Array Value, v = .agg cs ∧ cs.size = n := by
    simp only [Value.okWide, ht] at hval
    obtain ⟨cs, h1, h2, _⟩ := hval
    exact ⟨cs, h1, by rw [h2, hct]⟩
  obtain ⟨cs, rfl, hs⟩ := hv
  obtain ⟨fuel, hf⟩ := h
  obtain ⟨xs, m, _, _, _, hxl, hall⟩ := DataW.trod_array ht hf
  have hone : ∀ i, i < n → ∃ z, cs.toList[i]? = some (.int k z) ∧ (Lit.int k z).wf = true := by
    intro i hi
    have hc : (Value.agg cs).cells = cs := rfl
    have h1 := hall i hi
    rw [hc, hce, Nat.mul_one, List.getElem?_eq_getElem (by omega)] at h1
    obtain ⟨z, h2, _, h3⟩ := DataW.trod_int he h1
    refine ⟨z, ?_, h3⟩
    have := congrArg (·[0]?) h2
    simpa [List.getElem?_take, List.getElem?_drop] using this
  have key : ∀ l : List Value, (∀ i, i < l.length → ∃ z, l[i]? = some (.int k z) ∧ (Lit.int k z).wf = true) → ∃ zs : List Int, zs.length = l.length ∧ (∀ z ∈ zs, (Lit.int k z).wf = true) ∧ l = zs.map (Value.int k) := by
    intro l
    induction l with
    | nil => exact fun _ => ⟨[], rfl, by simp, rfl⟩
    | cons x r ih =>
      intro hl
      obtain ⟨zs, h1, h2, h3⟩ := ih (fun i hi => by simpa using hl (i + 1) (by simpa using hi))
      obtain ⟨z, h4, h5⟩ := hl 0 (by simp)
      simp at h4
      exact ⟨z :: zs, by simp [h1], by intro y hy; rcases List.mem_cons.1 hy with e | e; exact e ▸ h5; exact h2 y e, by rw [h4, h3]; rfl⟩
  obtain ⟨zs, h1, h2, h3⟩ := key cs.toList (fun i hi => hone i (by rw [← hs]; simpa using hi))
  exact ⟨zs, by rw [h1]; simpa using hs, h2, by rw [← h3]⟩
end Go.Proofs.YtdebnbgjgkbmaaaGreatDoor.RowK
namespace Go.Proofs.YtdebnbgjgkbmaaaGreatDoor
open Go.RowKit
set_option linter.unusedVariables false
theorem seed_lst : SX.Lst Rows.topSeedRow.laid := by
  refine ⟨?_, ?_, ?_, ?_, ?_⟩ <;> simp [Rows.topSeedRow]
theorem u16_of {a : Int} (h : (Lit.int .u16 a).wf = true) : ∃ n : Nat, a = (n : Int) ∧ n < 65536 := by
  have := RowK.wf_u16 h
  exact ⟨a.toNat, by omega, by omega⟩
theorem walk_TopSeed (z0 : List Int) (l0 : z0.length = 32) (w0 : ∀ z ∈ z0, (Lit.int .u8 z).wf = true) (a1 : Int) (w1 : (Lit.int .u16 a1).wf = true) (a2 : Int) (w2 : (Lit.int .u16 a2).wf = true) {W : World} (hsh : W.ShapedOpen Tryz.prog) (hL : laidMetH Tryz.prog Rows.topSeedRow.laid W) :
    Calls Tryz.prog 8 #[.agg (z0.map (Value.int .u8)).toArray, .int .u16 a1, .int .u16 a2] W fun e W' => e = .returned (.bool true) ∧ Below W.heap.size W W' := by
  have g := SX.glb_of hsh hL seed_lst
  have sh : ∀ v, Below W.heap.size W v → Calls Tryz.prog 17 #[] v fun e w' => e = .returned (.bool true) ∧ Below v.heap.size v w' := fun v hb => SX.shown_any v (g.below hb g.lt)
  obtain ⟨n, rfl, hn⟩ := u16_of w1
  obtain ⟨l, rfl, hl⟩ := u16_of w2
  obtain ⟨P, hP, e1⟩ := r8_of z0 l0 w0
  by_cases hb : 0 ≤ 65535 - (n : Int) - 1 - (l % 100 : Nat)
  · rw [e1]
    exact seed_walk P hP n l W g hn hb hl sh
  · exact seed_long _ n l W hn (by omega) hl sh
end Go.Proofs.YtdebnbgjgkbmaaaGreatDoor
namespace Go.Proofs.YtdebnbgjgkbmaaaGreatDoor.Wit9d6a22
set_option maxRecDepth 100000
noncomputable def laidWorld (os : Os) : World :=
  { World.holding Tryz.prog os ⟨#[], #[], []⟩ with heap := (((((((((((((World.holding Tryz.prog os ⟨#[], #[], []⟩).heap).modify 5 fun
    | .cells _ t frozen => .cells #[.int .u8 0, .int .u8 1, .int .u8 28, .int .u8 2, .int .u8 29, .int .u8 14, .int .u8 24, .int .u8 3, .int .u8 30, .int .u8 22, .int .u8 20, .int .u8 15, .int .u8 25, .int .u8 17, .int .u8 4, .int .u8 8, .int .u8 31, .int .u8 27, .int .u8 13, .int .u8 23, .int .u8 21, .int .u8 19, .int .u8 16, .int .u8 7, .int .u8 26, .int .u8 12, .int .u8 18, .int .u8 6, .int .u8 11, .int .u8 5, .int .u8 10, .int .u8 9] t frozen
    | o => o)).modify 6 fun
    | .cells _ t frozen => .cells #[.int .u8 0, .int .u8 1, .int .u8 56, .int .u8 2, .int .u8 57, .int .u8 49, .int .u8 28, .int .u8 3, .int .u8 61, .int .u8 58, .int .u8 42, .int .u8 50, .int .u8 38, .int .u8 29, .int .u8 17, .int .u8 4, .int .u8 62, .int .u8 47, .int .u8 59, .int .u8 36, .int .u8 45, .int .u8 43, .int .u8 51, .int .u8 22, .int .u8 53, .int .u8 39, .int .u8 33, .int .u8 30, .int .u8 24, .int .u8 18, .int .u8 12, .int .u8 5, .int .u8 63, .int .u8 55, .int .u8 48, .int .u8 27, .int .u8 60, .int .u8 41, .int .u8 37, .int .u8 16, .int .u8 46, .int .u8 35, .int .u8 44, .int .u8 21, .int .u8 52, .int .u8 32, .int .u8 23, .int .u8 11, .int .u8 54, .int .u8 26, .int .u8 40, .int .u8 15, .int .u8 34, .int .u8 20, .int .u8 31, .int .u8 10, .int .u8 25, .int .u8 14, .int .u8 19, .int .u8 9, .int .u8 13, .int .u8 8, .int .u8 7, .int .u8 6] t frozen
    | o => o)).modify 0 fun
    | .cells _ t frozen => .cells #[.int .u32 1779033703, .int .u32 3144134277, .int .u32 1013904242, .int .u32 2773480762, .int .u32 1359893119, .int .u32 2600822924, .int .u32 528734635, .int .u32 1541459225] t frozen
    | o => o)).modify 4 fun
    | .cells _ t frozen => .cells #[.int .u32 1116352408, .int .u32 1899447441, .int .u32 3049323471, .int .u32 3921009573, .int .u32 961987163, .int .u32 1508970993, .int .u32 2453635748, .int .u32 2870763221, .int .u32 3624381080, .int .u32 310598401, .int .u32 607225278, .int .u32 1426881987, .int .u32 1925078388, .int .u32 2162078206, .int .u32 2614888103, .int .u32 3248222580, .int .u32 3835390401, .int .u32 4022224774, .int .u32 264347078, .int .u32 604807628, .int .u32 770255983, .int .u32 1249150122, .int .u32 1555081692, .int .u32 1996064986, .int .u32 2554220882, .int .u32 2821834349, .int .u32 2952996808, .int .u32 3210313671, .int .u32 3336571891, .int .u32 3584528711, .int .u32 113926993, .int .u32 338241895, .int .u32 666307205, .int .u32 773529912, .int .u32 1294757372, .int .u32 1396182291, .int .u32 1695183700, .int .u32 1986661051, .int .u32 2177026350, .int .u32 2456956037, .int .u32 2730485921, .int .u32 2820302411, .int .u32 3259730800, .int .u32 3345764771, .int .u32 3516065817, .int .u32 3600352804, .int .u32 4094571909, .int .u32 275423344, .int .u32 430227734, .int .u32 506948616, .int .u32 659060556, .int .u32 883997877, .int .u32 958139571, .int .u32 1322822218, .int .u32 1537002063, .int .u32 1747873779, .int .u32 1955562222, .int .u32 2024104815, .int .u32 2227730452, .int .u32 2361852424, .int .u32 2428436474, .int .u32 2756734187, .int .u32 3204031479, .int .u32 3329325298] t frozen
    | o => o)).modify 7 fun
    | .cells _ t frozen => .cells #[.int .i64 3, .int .i64 4, .int .i64 1, .int .i64 2, .int .i64 0, .int .i64 1, .int .i64 2, .int .i64 3, .int .i64 4, .int .i64 0, .int .i64 1, .int .i64 2, .int .i64 3, .int .i64 4, .int .i64 0, .int .i64 3, .int .i64 4, .int .i64 1, .int .i64 2, .int .i64 0] t frozen
    | o => o)).modify 3 fun
    | .cells _ t frozen => .cells #[.int .i64 1, .int .i64 7, .int .i64 3, .int .i64 5] t frozen
    | o => o) }
noncomputable def at' (os : Os) (args : Array Value) : World := (laidWorld os).forCall (fun _ _ => 0) ⟨#[], args, []⟩
theorem vars (os : Os) (args : Array Value) : ((laidWorld os).forCall (fun _ _ => 0) ⟨#[], args, []⟩).variablesB Tryz.checked.prog = true := by kernel_rfl
theorem rest (os : Os) (args : Array Value) : (((laidWorld os).forCall (fun _ _ => 0) ⟨#[], args, []⟩).heap.toList.drop Tryz.checked.prog.globals.size).take ((begin Tryz.checked.prog (fun _ _ => 0) default).world.heap.size - Tryz.checked.prog.globals.size) =
      (begin Tryz.checked.prog (fun _ _ => 0) default).world.heap.toList.drop Tryz.checked.prog.globals.size := by kernel_rfl
def laid : List (String × DataW Unit) := [("math/bits.deBruijn32tab", Rows.laid_math_bits_deBruijn32tab), ("math/bits.deBruijn64tab", Rows.laid_math_bits_deBruijn64tab), ("remitter/digest.begin", Rows.laid_remitter_digest_begin), ("remitter/digest.table", Rows.laid_remitter_digest_table), ("remitter/htlc.events", Rows.laid_remitter_htlc_events), ("remitter/htlc.spans", Rows.laid_remitter_htlc_spans)]
theorem met (os : Os) (args : Array Value) : laidMet Tryz.prog laid ((laidWorld os).forCall (fun _ _ => 0) ⟨#[], args, []⟩).memory :=
  laidMet_of_run' 8 (by kernel_rfl) (by kernel_rfl)
end Go.Proofs.YtdebnbgjgkbmaaaGreatDoor.Wit9d6a22
