/- What the claim rests on, part 1 of KAo: only what is used, joined; the conditions are those of each theorem. -/
import Derived.ArgAppend
import Derived.Below
import Derived.BigQuiet
import Derived.Calls
import Derived.Carry
import Derived.ChangeKeysEq
import Derived.ChangeOld
import Derived.Deep.AppendLies
import Derived.Deep.AppendSrc
import Derived.Deep.DeepHandedRow
import Derived.Deep.LoopGhost
import Derived.Deep.MidRow
import Derived.Deep.Onto
import Derived.Deep.QuietTactic
import Derived.Deep.RegionHeld3
import Derived.Deep.RegionWith
import Derived.Deep.WholeRow
import Derived.DeepKeys
import Derived.DeepKeys3
import Derived.DeepKeys4
import Derived.Defers
import Derived.KernelRfl
import Derived.Laws.AppendOwn
import Derived.Laws.Bits64b
import Derived.Laws.BitsAllLaws
import Derived.Laws.BytesArg
import Derived.Laws.BytesString
import Derived.Laws.EntriesVeiled
import Derived.Laws.MakeOwn
import Derived.Laws.OwnMore
import Derived.Laws.Rows
import Derived.Laws.Tables
import Derived.Lib.BufferWrite
import Derived.Lib.Builder
import Derived.Lib.ConvBytes
import Derived.Lib.FrozenHead2
import Derived.Lib.Hide
import Derived.Lib.LaidTab
import Derived.Lib.Mul64
import Derived.Lib.SlFresh
import Derived.Lib.Strings
import Derived.Lib.TrailingZeros
import Derived.Lib.UnsafeStr
import Derived.LoopIn
import Derived.LoopNIn
import Derived.Maps.Keyed
import Derived.Maps.RangeWalk
import Derived.OpenShut
import Derived.Orders
import Derived.Outline
import Derived.OwnWalk
import Derived.OwnWalkIn
import Derived.ProofKit
import Derived.RangeFuncBound
import Derived.RangeFuncCalls
import Derived.RangeFuncFrom
import Derived.RangeFuncLeaves
import Derived.RangeFuncNested
import Derived.Recover
import Derived.Shelf.Abstract
import Derived.Shelf.RegionOpen
import Derived.Shelf.RegionOpenPlain
import Derived.Shelf.Spec.SlicesInsert
import Derived.Shelf.Strings.OnBuilder
import Derived.ShutString
import Derived.StillTailTactics
import Derived.TacticsInMore
import Derived.Test.YtdebnbgjgkbmaaaGreatDoorProg
import Derived.Test.YtdebnbgjgkbmaaaGreatDoorRows
import Derived.WalkKit
import Derived.WalkLawsBesides
import Derived.WalkSpells
import Derived.Test.YtdebnbgjgkbmaaaGreatDoorK4
namespace Go.Proofs.YtdebnbgjgkbmaaaGreatDoor
namespace SX
open Go Go.RowKit
open Go.ChangeMaps (setBlock)
set_option linter.unusedVariables false
section
variable {E : Env} {keys eqs : List Nat} {σ : Sig} {ρ : Rho} {h h' : Hp} {nx nx' : Nat} {w : World}
theorem modify_set {α : Type} (f : α → α) : ∀ (l : List α) (j : Nat) (a : α), l[j]? = some a → l.modify j f = l.set j (f a)
  | [], _, _, h => by simp at h
  | x :: r, 0, a, h => by
    obtain rfl : x = a := by simpa using h
    rfl
  | x :: r, j + 1, a, h => by
    have hj : r[j]? = some a := by simpa using h
    simp [modify_set f r j a hj]
end
end SX
end Go.Proofs.YtdebnbgjgkbmaaaGreatDoor
namespace Go.Proofs.YtdebnbgjgkbmaaaGreatDoor.RowK
open Go.ChangeShapes Go.WideShapes Go.ChangeAt Go.RowKit
open Go.ChangeMaps (open_string shut_string)
/-- A slice of integers that came in: it is nil; or it leads to a row of 'cap' cells, the numbers 'zs' (the first 'len' are its elements, the rest its spare room), each fitting its kind. -/
def IsRow (k : IntKind) (w : World) (a : Option Addr) (len cap : Nat) (zs : List Int) : Prop :=
  (a = none ∧ len = 0 ∧ cap = 0 ∧ zs = []) ∨
  ∃ x : Addr, a = some x ∧ len ≤ cap ∧ cap ≤ maxLen ∧ zs.length = cap ∧ (∀ i, i < zs.length → w.cell? (x.add i) = some (.int k (zs.getD i 0))) ∧ ∀ n ∈ zs, (Lit.int k n).wf = true
section
variable {H : Type} {enc : TypeId × Value → H} {P : Program} {w : World}
theorem isRow_of_trod {t e : TypeId} {k : IntKind} {a : Option Addr} {len cap : Nat} {d : DataW H} {p : List MemPlace}
    (ht : P.underlying t = some (.slice e)) (he : P.underlying e = some (.int k)) (hc : P.cellsOf e = 1)
    (h : DataW.Trod enc P w 0 (fun _ => true) true t (.slice a len cap) d p) : ∃ zs, IsRow k w a len cap zs := by
  obtain ⟨fuel, hf⟩ := h
  rcases open_ints ht he hc hf with ⟨hcs, _⟩ | ⟨x, l, c, zs, hcs, _, hl, hm, hz, _, hcell, hwz⟩
  · simp [Value.cells] at hcs
    obtain ⟨rfl, rfl, rfl⟩ := hcs
    exact ⟨[], .inl ⟨rfl, rfl, rfl, rfl⟩⟩
  · simp [Value.cells] at hcs
    obtain ⟨rfl, rfl, rfl⟩ := hcs
    exact ⟨zs, .inr ⟨_, rfl, hl, hm, by simpa using hz, hcell, hwz⟩⟩
/-- The row of an argument, at a plain address; where there is no element nothing is said of it. -/
theorem IsRow.plain {k : IntKind} {a : Option Addr} {len cap : Nat} {zs : List Int} (h : IsRow k w a len cap zs) :
    ∃ b off, (len = 0 ∨ b < w.heap.size) ∧ (len = 0 ∨ a = some ⟨b, off, none⟩) ∧ len ≤ zs.length ∧ zs.length = cap ∧ cap ≤ maxLen ∧
      (∀ j, j < len → w.cell? ⟨b, off + j, none⟩ = some (.int k (zs.getD j 0))) ∧ ∀ n ∈ zs, (Lit.int k n).wf = true := by
  rcases h with ⟨rfl, rfl, rfl, rfl⟩ | ⟨x, rfl, hl, hm, hz, hc, hw⟩
  · exact ⟨0, 0, .inl rfl, .inl rfl, by simp, by simp, by simp, fun j hj => by omega, fun n hn => by cases hn⟩
  · by_cases h0 : len = 0
    · subst h0; exact ⟨0, 0, .inl rfl, .inl rfl, by omega, hz, hm, fun j hj => by omega, hw⟩
    · obtain ⟨b, off, rfl, hc'⟩ := ints_at hc (by omega)
      exact ⟨b, off, .inr (World.block_lt_of_cell? w _ (hc' 0 (by omega))), .inr rfl, by omega, hz, hm, fun j hj => hc' j (by omega), hw⟩
end
theorem wf_u64 {a : Int} (h : (Lit.int .u64 a).wf = true) : 0 ≤ a ∧ a ≤ 18446744073709551615 := by simpa [Lit.wf, IntKind.min, IntKind.max, IntKind.signed, IntKind.bits] using h
end Go.Proofs.YtdebnbgjgkbmaaaGreatDoor.RowK
namespace Go.Proofs.YtdebnbgjgkbmaaaGreatDoor
open Go.RowKit
set_option linter.unusedVariables false
def X119 (n o : Int) : Array Value := #[.int .u32 0, .int .u64 n, .int .u64 o, .int .u8 0, .int .u8 0, .int .u8 0, .int .u8 0, .int .u8 0, .int .u8 0, .int .u8 0, .int .u8 0, .int .u8 0, .int .u8 0, .int .u8 0, .int .u8 0, .int .u8 0, .int .u8 0, .int .u8 0, .int .u8 0, .int .u8 0, .int .u8 0, .int .u8 0, .int .u8 0, .int .u8 0, .int .u8 0, .int .u8 0, .int .u8 0, .int .u8 0, .int .u8 0, .int .u8 0, .int .u8 0, .int .u8 0, .int .u8 0, .int .u8 0, .int .u8 0, .string ⟨#[]⟩, .string ⟨#[]⟩]
namespace SX
noncomputable def tk3 (i : Nat) : Value := .complex .f64 0 i
noncomputable def X119t : List Value := .int .u32 0 :: tk3 0 :: tk3 1 :: List.append (List.replicate 32 (.int .u8 0)) [.string ⟨#[]⟩, .string ⟨#[]⟩]
noncomputable def parts256 : List (Nat × Value) := [(0, .agg ⟨X119t⟩), (2, .agg ⟨[tk3 1, tk3 2]⟩)]
noncomputable def isAggO (o : Option Value) : Bool := match o with | some (.agg _) => true | _ => false
set_option maxRecDepth 1000000 in
theorem q256 : isAggO (qBuild E1 256 parts256) = true := by kernel_rfl
theorem isAggO_some {o : Option Value} (h : isAggO o = true) : ∃ D, o = some (.agg D) := by
  unfold isAggO at h
  split at h
  · exact ⟨_, rfl⟩
  · cases h
def sg3 (n o d : Int) : Sig := fun _ b => match b with | 0 => .int .u64 n | 1 => .int .u64 o | _ => .int .u64 d
theorem vl119 (n o d : Int) (ρ : Rho) : CL (sg3 n o d) ρ X119t (X119 n o).toList := by
  have z : ∀ (v : Value), flat1 v = true → VR (sg3 n o d) ρ v v := fun v h => flat1_refl h
  refine CL.cons (VR.int _ _) rfl rfl (CL.cons (VR.tok .f64 0 0 .u64 n rfl) rfl rfl (CL.cons (VR.tok .f64 0 1 .u64 o rfl) rfl rfl ?_))
  refine ⟨rfl, fun i x x' a b => ?_⟩
  have e : (List.append (List.replicate 32 (Value.int .u8 0)) [.string ⟨#[]⟩, .string ⟨#[]⟩]) = (X119 n o).toList.drop 3 := rfl
  have b' : ((X119 n o).toList.drop 3)[i]? = some x' := b
  rw [← e, a] at b'
  cases b'
  have hx : x = .int .u8 0 ∨ x = .string ⟨#[]⟩ := by
    have := List.mem_of_getElem? a
    have := List.mem_append.1 this
    rcases this with h | h
    · exact .inl (List.mem_replicate.1 h).2
    · simp at h; exact .inr h
  rcases hx with rfl | rfl
  · exact ⟨VR.int _ _, rfl, rfl⟩
  · exact ⟨VR.string _, rfl, rfl⟩
theorem build256 (n o d : Int) (W : World) : ∃ D : Array Value, (Instr.build 256 #[(0, .agg (X119 n o)), (2, .agg #[.int .u64 o, .int .u64 d])]).run Tryz.prog W = .ok (.agg D) W := by
  obtain ⟨D0, hD⟩ := isAggO_some q256
  have hp : PL (sg3 n o d) (fun _ => none) parts256 (#[(0, Value.agg (X119 n o)), (2, .agg #[.int .u64 o, .int .u64 d])] : Array (Nat × Value)).toList := by
    refine ⟨rfl, fun i x x' a b => ?_⟩
    match i with
    | 0 => cases a; cases b; exact ⟨rfl, (vl119 n o d _).agg⟩
    | 1 =>
      cases a; cases b
      exact ⟨rfl, (CL.cons (VR.tok .f64 0 1 .u64 o rfl) rfl rfl (CL.cons (VR.tok .f64 0 2 .u64 d rfl) rfl rfl CL.nil)).agg⟩
    | i + 2 => simp [parts256] at a
  obtain ⟨v', h1, h2⟩ := qBuild_ok (w := W) cfg1.env cfg1.zero hp hD
  obtain ⟨D, rfl, _⟩ := h2.agg_inv
  exact ⟨D, h1⟩
end SX
theorem i119 (n o : Int) : (Tryz.prog.info? 119).map (·.size) = some (X119 n o).size := by show _ = some 37; kernel_rfl
theorem wpList_build_v {P : Program} {ops : Array Oper} {rest : List Oper} {o : Oper} {a : Act} {w : World} {Q : Exit → Act → World → Prop} (hgd : o.guard = none) (t : TypeId) (i j : Nat) (x y : Operand) (ho : o.op = .build t #[(i, x), (j, y)]) (Z : Array Value)
    (hz : (Instr.build t #[(i, a.eval x), (j, a.eval y)]).run P w = .ok (.agg Z) w) (h : wpList P ops Q rest (a.put o.dst (.agg Z)) w) : wpList P ops Q (o :: rest) a w :=
  wpList_plain hgd fun _ hK => by
    unfold Oper.wp execOp
    simp only [ho, List.map_toArray, List.map_cons, List.map_nil, Sem.run_bind, Sem.run_pure, Result.andThen_ok, hz]
    exact hK _ _ h
set_option maxRecDepth 100000 in
set_option maxHeartbeats 4000000 in
theorem chnew_no (o : Int) (w : World) : Calls Tryz.prog 53 #[.agg (X119 0 o)] w fun e w' => e = .returned (.pointer none) ∧ Below w.heap.size w w' := by
  have B := Lib.hid (((Below.refl w.heap.size w).alloc (Nat.le_refl _) (.cells (X119 0 o) 119)))
  have c1 : (X119 0 o)[1]? = some (.int .u64 0) := rfl
  generalize X119 0 o = X at *
  go_enter Tryz.func53, Tryz.ntmps53
  go_wp2
  go_ret
  exact ⟨rfl, B.out⟩
set_option maxRecDepth 100000 in
set_option maxHeartbeats 4000000 in
theorem chnew_yes (n o : Int) (w : World) (h1 : 1 ≤ n) (h2 : n ≤ 1125899906842624) (h3 : 0 ≤ o) (h4 : o ≤ n) : Calls Tryz.prog 53 #[.agg (X119 n o)] w fun e w' => (∃ a, e = .returned (.pointer (some a))) ∧ Below w.heap.size w w' := by
  have B := Lib.hid (((Below.refl w.heap.size w).alloc (Nat.le_refl _) (.cells (X119 n o) 119)))
  have c1 : (X119 n o)[1]? = some (.int .u64 n) := rfl
  have c2 : (X119 n o)[2]? = some (.int .u64 o) := rfl
  have c3 : (X119 n o)[35]? = some (.string ⟨#[]⟩) := rfl
  have c4 : (X119 n o)[36]? = some (.string ⟨#[]⟩) := rfl
  have ix := i119 n o
  obtain ⟨D, bd⟩ := SX.build256 n o (n - o) (w.alloc (.cells (X119 n o) 119))
  have d1 : decide (n < 1) = false := by simp; omega
  have d2 : decide (1125899906842624 < n) = false := by simp; omega
  have d3 : decide (n < o) = false := by simp; omega
  have hw : IntKind.u64.wrap (n - o) = n - o := by rw [IntKind.wrap_u64]; omega
  have r : (w.alloc (.cells (X119 n o) 119)).heap[w.heap.size]? = some (.cells (X119 n o) 119 (0, 0)) := M.RowAt.new w 119 (X119 n o)
  have BD := Lib.hid bd
  clear bd h1 h2 h3 h4
  generalize X119 n o = X at *
  have R := Lib.hid r
  have IX := Lib.hid ix
  clear r ix
  go_enter Tryz.func53, Tryz.ntmps53
  go_wp2_with (first | ((with_reducible refine wpList_load_row (x := .tmp 1) (ty := 119) (g := w.heap.size) (cs := X) (t := 119) (fr := (0, 0)) ?_ ?_ ?_ _ R.out Tryz.underlying119 rfl IX.out ?_); rfl; rfl; rfl) | ((with_reducible refine wpList_build_v (t := 256) (i := 0) (j := 2) (x := .tmp 28) (y := .tmp 36) ?_ ?_ D ?_ ?_); rfl; rfl) | fail)
  · exact BD.out
  go_wp2
  go_ret
  exact ⟨⟨_, rfl⟩, B.out.alloc (by simp) _⟩
end Go.Proofs.YtdebnbgjgkbmaaaGreatDoor
namespace Go.Proofs.YtdebnbgjgkbmaaaGreatDoor.Pu.Am
/-- the greatest amount -/
def mx : Int := 1125899906842624
/-- what amounts come to, and the error -/
def addF (l : List Int) : Int × Int := if l.sum ≤ mx then (l.sum, 0) else (0, 60)
/-- the same, step by step, s being there already -/
def addL (s : Int) : List Int → Int × Int
  | [] => (s, 0)
  | n :: r => if mx - s < n then (0, 60) else addL (s + n) r
theorem sum_nonneg {l : List Int} (h : ∀ z ∈ l, 0 ≤ z) : 0 ≤ l.sum := by
  induction l with
  | nil => simp
  | cons a r ih =>
    have h1 := h a (by simp)
    have h2 := ih fun z hz => h z (by simp [hz])
    simp only [List.sum_cons]; omega
theorem addL_eq {l : List Int} (h : ∀ z ∈ l, 0 ≤ z) (s : Int) (hs : s ≤ mx) : addL s l = if s + l.sum ≤ mx then (s + l.sum, 0) else (0, 60) := by
  induction l generalizing s with
  | nil => simp [addL, hs]
  | cons a r ih =>
    have h1 := h a (by simp)
    have hr : ∀ z ∈ r, 0 ≤ z := fun z hz => h z (by simp [hz])
    have h2 := sum_nonneg hr
    have e : (a :: r).sum = a + r.sum := List.sum_cons
    simp only [addL]
    by_cases hc : mx - s < a
    · rw [if_pos hc, if_neg (by rw [e]; omega)]
    · rw [if_neg hc, ih hr (s + a) (by omega)]
      by_cases hq : s + a + r.sum ≤ mx
      · rw [if_pos hq, if_pos (by rw [e]; omega), e, ← Int.add_assoc]
      · rw [if_neg hq, if_neg (by rw [e]; omega)]
theorem addL_addF {l : List Int} (h : ∀ z ∈ l, 0 ≤ z) : addL 0 l = addF l := by
  rw [addL_eq h 0 (by decide)]; simp [addF]
end Go.Proofs.YtdebnbgjgkbmaaaGreatDoor.Pu.Am
namespace Go.Proofs.YtdebnbgjgkbmaaaGreatDoor.Pu
open Go.RowKit
theorem u64_in (n : Int) (h : 0 ≤ n ∧ n ≤ 18446744073709551615) : IntKind.u64.wrap n = n := by rw [IntKind.wrap_u64]; omega
/-- a row of numbers of 64 bits that a call reads -/
structure URow (w : World) (p : Option Addr) (len : Nat) (zs : List Int) : Prop where
  lens : zs.length = len
  short : len ≤ 9223372036854775807
  fits : ∀ z ∈ zs, 0 ≤ z ∧ z ≤ 18446744073709551615
  cells : ∃ b off, (len = 0 ∨ p = some ⟨b, off, none⟩) ∧ ∀ j, j < len → w.cell? ⟨b, off + j, none⟩ = some (.int .u64 (zs.getD j 0))
theorem drop_step (zs : List Int) (k : Nat) (h : k < zs.length) : zs.drop k = zs.getD k 0 :: zs.drop (k + 1) := by
  rw [List.drop_eq_getElem_cons h]; simp [h]
set_option maxHeartbeats 400000 in
theorem add_any (p : Option Addr) (len cap : Nat) (zs : List Int) (w : World) (h : URow w p len zs) :
    Calls Tryz.prog 51 #[.slice p len cap] w fun e w' => e = .returned (.tuple #[.int .u64 (Am.addF zs).1, .int .i64 (Am.addF zs).2]) ∧ w = w' := by
  obtain ⟨hl, hs, hf, b, off, hp, hc⟩ := h
  rw [← Am.addL_addF (fun z hz => (hf z hz).1)]
  have HL := Lib.hid hl; have HF := Lib.hid hf; have HP := Lib.hid hp; have HC := Lib.hid hc
  clear hl hf hp hc
  go_enter Tryz.func51, Tryz.ntmps51
  go_wp2
  go_loop [4, 9] (fun s i => ∃ (k : Nat) (x : Int), k ≤ len ∧ i = .int .i64 k ∧ s = .int .u64 x ∧ 0 ≤ x ∧ x ≤ 1125899906842624 ∧ Am.addL 0 zs = Am.addL x (zs.drop k)) (fun _ i => len - (intOf i).toNat)
  case atStart => exact ⟨0, 0, by omega, rfl, rfl, by omega, by omega, by simp⟩
  case round =>
    obtain ⟨k, x, hk, rfl, rfl, x0, x1, hx⟩ := hrel
    have HX := Lib.hid hx; clear hx
    by_cases hlt : k < len
    · obtain rfl : p = some ⟨b, off, none⟩ := by rcases HP.out with h | h; (omega); exact h
      have hcell := HC.out k hlt
      have hfit : 0 ≤ zs.getD k 0 ∧ zs.getD k 0 ≤ 18446744073709551615 := HF.out _ (by have := HL.out; simp [show k < zs.length by omega])
      have hd := drop_step zs k (by have := HL.out; omega)
      rw [hd] at HX
      clear hd
      generalize zs.getD k 0 = z at *
      obtain ⟨z0, z1⟩ := hfit
      by_cases hgt : 1125899906842624 - x < z
      · have he : Am.addL x (z :: zs.drop (k + 1)) = (0, 60) := by
          simp only [Am.addL]; rw [if_pos (by show (1125899906842624 : Int) - x < z; exact hgt)]
        have HE := Lib.hid (HX.out.trans he); clear he
        go_wp2
        go_ret2
        exact ⟨by rw [HE.out]; rfl, rfl⟩
      · have he : Am.addL x (z :: zs.drop (k + 1)) = Am.addL (x + z) (zs.drop (k + 1)) := by
          simp only [Am.addL]; rw [if_neg (by show ¬ (1125899906842624 : Int) - x < z; exact hgt)]
        have HE := Lib.hid (HX.out.trans he); clear he
        go_wp2
        go_round
        case rel => exact ⟨k + 1, x + z, by omega, by go_num, rfl, by omega, by omega, HE.out⟩
        case measure => simp [intOf]; omega
    · have he : Am.addL x (zs.drop k) = (x, 0) := by
        rw [List.drop_eq_nil_of_le (by have := HL.out; omega)]; rfl
      have HE := Lib.hid (HX.out.trans he); clear he
      go_wp2
      go_ret2
      exact ⟨by rw [HE.out]; rfl, rfl⟩
namespace Mul64
end Mul64
end Go.Proofs.YtdebnbgjgkbmaaaGreatDoor.Pu
namespace Go.Proofs.YtdebnbgjgkbmaaaGreatDoor.Pu
open Go.RowKit
theorem ret_bool {a b : Bool} (h : a = b) : Ending.returned (.bool a) = .returned (.bool b) := by rw [h]
end Go.Proofs.YtdebnbgjgkbmaaaGreatDoor.Pu
namespace Go.Proofs.YtdebnbgjgkbmaaaGreatDoor.Pu
open Go.RowKit
section
variable (w0 : World)
end
theorem addF_yes {l : List Int} {x : Int} (e : l.sum = x) (h : x ≤ 1125899906842624) : Am.addF l = (x, 0) := by
  unfold Am.addF Am.mx; subst e; rw [if_pos h]
theorem addF_no {l : List Int} {x : Int} (e : l.sum = x) (h : ¬ x ≤ 1125899906842624) : Am.addF l = (0, 60) := by
  unfold Am.addF Am.mx; subst e; rw [if_neg h]
end Go.Proofs.YtdebnbgjgkbmaaaGreatDoor.Pu
namespace Go.Proofs.YtdebnbgjgkbmaaaGreatDoor.Pu
open Go.RowKit
theorem URow.below {w w' : World} {p : Option Addr} {len : Nat} {zs : List Int} (h : URow w p len zs) (b : Below w.heap.size w w') : URow w' p len zs := by
  obtain ⟨h1, h2, h3, bb, off, h4, h5⟩ := h
  refine ⟨h1, h2, h3, bb, off, h4, fun j hj => ?_⟩
  have := h5 j hj
  rw [b.cell (World.block_lt_of_cell? w _ this)]; exact this
section
variable (w0 : World)
theorem add_ok (p : Option Addr) (len cap : Nat) (zs : List Int) (w : World) (h : Below w0.heap.size w0 w) (hu : URow w0 p len zs) :
    Calls Tryz.prog 51 #[.slice p len cap] w fun e w' => e = .returned (.tuple #[.int .u64 (Am.addF zs).1, .int .i64 (Am.addF zs).2]) ∧ Below w0.heap.size w0 w' :=
  (add_any p len cap zs w (hu.below h)).mono fun _ _ ⟨he, hw⟩ => ⟨he, hw ▸ h⟩
end
end Go.Proofs.YtdebnbgjgkbmaaaGreatDoor.Pu
namespace Go.Proofs.YtdebnbgjgkbmaaaGreatDoor
open Go.RowKit Go.Maps Go.MapKept
open Go.ChangeMaps (setBlock)
set_option linter.unusedVariables false
/-- a type of keys -/
structure KT (P : Program) (k : TypeId) (κ : Type) where
  kv : κ → Value
  ok : κ → Prop
  law : Keyed P k
  rd : ∀ i, ok i → ∃ l, Go.keyOf P k (kv i) = some l
  inj : ∀ i j, kv i = kv j → i = j
def intKT {P : Program} {k : TypeId} {q : IntKind} (hk : P.underlying k = some (.int q)) : KT P k Int :=
  ⟨fun i => .int q i, fun i => (Lit.int q i).wf = true, int_keyed hk, fun i h => ⟨_, keyOf_int_mk hk h⟩, fun i j h => by injection h⟩
section
variable {κ α : Type} [DecidableEq κ]
def getM : List (κ × α) → κ → Option α
  | [], _ => none
  | p :: r, i => if p.1 = i then some p.2 else getM r i
def putM : List (κ × α) → κ → α → List (κ × α)
  | [], i, x => [(i, x)]
  | p :: r, i, x => if p.1 = i then (i, x) :: r else p :: putM r i x
def delM : List (κ × α) → κ → List (κ × α)
  | [], _ => []
  | p :: r, i => if p.1 = i then r else p :: delM r i
theorem none_M {i : κ} {x : α} : ∀ {l : List (κ × α)}, (∀ p ∈ l, p.1 ≠ i) → getM l i = none ∧ putM l i x = l ++ [(i, x)] ∧ delM l i = l
  | [], _ => ⟨rfl, rfl, rfl⟩
  | p :: r, h => by
    obtain ⟨h1, h2, h3⟩ := none_M (x := x) (fun q hq => h q (List.mem_cons_of_mem _ hq))
    have hp := h p List.mem_cons_self
    unfold getM putM delM
    rw [if_neg hp, if_neg hp, if_neg hp, h1, h2, h3]
    exact ⟨rfl, rfl, rfl⟩
theorem some_M {i : κ} {x : α} : ∀ {l : List (κ × α)} {j : Nat} {p : κ × α}, l.Pairwise (fun a b => a.1 ≠ b.1) → l[j]? = some p → p.1 = i → getM l i = some p.2 ∧ putM l i x = l.set j (i, x) ∧ delM l i = l.eraseIdx j
  | [], j, p, _, h, _ => by simp at h
  | q :: r, 0, p, _, h, e => by
    obtain rfl : q = p := by simpa using h
    unfold getM putM delM
    rw [if_pos e, if_pos e, if_pos e]
    exact ⟨rfl, rfl, rfl⟩
  | q :: r, j + 1, p, hd, h, e => by
    obtain ⟨h1, h2⟩ := List.pairwise_cons.1 hd
    have hj : r[j]? = some p := by simpa using h
    have hq : ¬ q.1 = i := fun e2 => h1 p (List.mem_of_getElem? hj) (e2.trans e.symm)
    obtain ⟨a1, a2, a3⟩ := some_M (x := x) h2 hj e
    unfold getM putM delM
    rw [if_neg hq, if_neg hq, if_neg hq, a1, a2, a3]
    exact ⟨rfl, rfl, rfl⟩
theorem delM_sub (i : κ) : ∀ (l : List (κ × α)) (p : κ × α), p ∈ delM l i → p ∈ l
  | [], _, h => by cases h
  | q :: r, p, h => by
    unfold delM at h
    split at h
    · exact List.mem_cons_of_mem _ h
    · rcases List.mem_cons.1 h with e | e
      · exact e ▸ List.mem_cons_self
      · exact List.mem_cons_of_mem _ (delM_sub i r p e)
end
section
variable {P : Program} {k : TypeId} {κ α : Type}
/-- block b is a map of just these entries, in their order -/
def IM (K : KT P k κ) (mk : α → Value) (w : World) (b : Nat) (l : List (κ × α)) : Prop :=
  ∃ es clock, w.heap[b]? = some (.map es clock) ∧ Stamped es clock ∧ es.toList.map (fun e => (e.key, e.val)) = l.map (fun p => (K.kv p.1, mk p.2)) ∧ ∀ p ∈ l, K.ok p.1
variable {K : KT P k κ} {mk : α → Value} {w w' : World} {b : Nat} {l : List (κ × α)}
theorem IM.lt (h : IM K mk w b l) : b < w.heap.size := by
  obtain ⟨es, clock, hb, _⟩ := h
  exact (Array.getElem?_eq_some_iff.1 hb).1
theorem IM.of (h : IM K mk w b l) (e : w'.heap[b]? = w.heap[b]?) : IM K mk w' b l := by
  obtain ⟨es, clock, hb, r⟩ := h
  exact ⟨es, clock, e.trans hb, r⟩
theorem IM.below {B : Nat} (h : IM K mk w b l) (hb : Below B w w') (hg : b < B) : IM K mk w' b l := h.of (hb.block b hg)
theorem IM.call (h : IM K mk w b l) (hb : Below w.heap.size w w') : IM K mk w' b l := h.below hb h.lt
theorem IM.but {g : Nat} (h : IM K mk w b l) (hb : M.But g w w') (hg : b ≠ g) : IM K mk w' b l := h.of (hb.block b h.lt hg)
theorem IM.drew (h : IM K mk w b l) : IM K mk w.drew b l := h
theorem IM.alloc (h : IM K mk w b l) (o : Obj) : IM K mk (w.alloc o) b l := h.call ((Below.refl _ _).alloc (Nat.le_refl _) o)
theorem IM.far (h : IM K mk w b l) {p : Addr} (hp : p.block ≠ b) (v : Value) : IM K mk (w.setCell p v) b l := h.of (by
  simp only [World.setCell, Array.getElem?_modify, if_neg hp])
theorem IM.farRow (h : IM K mk w b l) {g : Nat} (hg : g ≠ b) (cs : Array Value) : IM K mk (w.setRow g cs) b l := h.of (by
  simp only [World.setRow, Array.getElem?_modify, if_neg hg])
theorem IM.new (K : KT P k κ) (mk : α → Value) (w : World) : IM K mk (w.alloc (.map #[] 0)) w.heap.size [] :=
  ⟨#[], 0, heap_alloc_new w _, stamped_empty 0, rfl, fun p h => by cases h⟩
theorem IM.dist (h : IM K mk w b l) : l.Pairwise (fun a b => a.1 ≠ b.1) := by
  obtain ⟨es, clock, hb, hs, he, _⟩ := h
  have h1 := ((stamped_iff es clock).1 hs).2.2
  have h2 : (es.toList.map (fun e => (e.key, e.val))).Pairwise (fun x y => x.1 ≠ y.1) := by rw [List.pairwise_map]; exact h1
  rw [he, List.pairwise_map] at h2
  exact h2.imp (fun h3 e => h3 (by rw [e]))
theorem IM.keys {es : Array MapEntry} (he : es.toList.map (fun e => (e.key, e.val)) = l.map (fun p => (K.kv p.1, mk p.2))) (ho : ∀ p ∈ l, K.ok p.1) : ∀ e ∈ es.toList, ∃ q, Go.keyOf P k e.key = some q := by
  intro e h
  have : (e.key, e.val) ∈ l.map (fun p => (K.kv p.1, mk p.2)) := he ▸ List.mem_map.2 ⟨e, h, rfl⟩
  obtain ⟨p, hp, e1⟩ := List.mem_map.1 this
  obtain ⟨q, hq⟩ := K.rd p.1 (ho p hp)
  exact ⟨q, by have := congrArg Prod.fst e1; simp at this; rw [← this]; exact hq⟩
theorem IM.not_in {es : Array MapEntry} (he : es.toList.map (fun e => (e.key, e.val)) = l.map (fun p => (K.kv p.1, mk p.2))) {i : κ} (h : ∀ e ∈ es.toList, e.key ≠ K.kv i) : ∀ p ∈ l, p.1 ≠ i := by
  intro p hp e
  have : (K.kv p.1, mk p.2) ∈ es.toList.map (fun e => (e.key, e.val)) := he ▸ List.mem_map.2 ⟨p, hp, rfl⟩
  obtain ⟨y, hy, e1⟩ := List.mem_map.1 this
  exact h y hy (by have := congrArg Prod.fst e1; simp at this; rw [this, e])
theorem IM.at {es : Array MapEntry} (he : es.toList.map (fun e => (e.key, e.val)) = l.map (fun p => (K.kv p.1, mk p.2))) {i : κ} {j : Nat} {e0 : MapEntry} (h : es.toList[j]? = some e0) (hk : e0.key = K.kv i) : ∃ p, l[j]? = some p ∧ p.1 = i ∧ e0.val = mk p.2 := by
  have h1 : (es.toList.map (fun e => (e.key, e.val)))[j]? = some (e0.key, e0.val) := by rw [List.getElem?_map, h]; rfl
  rw [he, List.getElem?_map] at h1
  cases hl : l[j]? with
  | none => rw [hl] at h1; cases h1
  | some p =>
    rw [hl] at h1
    simp at h1
    exact ⟨p, rfl, K.inj _ _ (h1.1.trans hk), h1.2.symm⟩
theorem but_setBlock (w : World) (b : Nat) (o : Obj) : M.But b w (setBlock w b o) :=
  ⟨rfl, rfl, rfl, by simp [setBlock], fun j hj hne => by simp only [setBlock]; exact Array.getElem?_setIfInBounds_ne (Ne.symm hne)⟩
/-- m[i], with ok -/
theorem IM.look [DecidableEq κ] (h : IM K mk w b l) {t e : TypeId} (ht : P.underlying t = some (.map k e)) {z : Value} (hz : (zeroValue e).run P w = .ok z w) {i : κ} (hi : K.ok i) :
    (Instr.lookup t (.map (some b)) (K.kv i) true).run P w = .ok (.tuple #[match getM l i with | some x => mk x | none => z, .bool (getM l i).isSome]) w := by
  have hd := h.dist
  obtain ⟨es, clock, hb, hs, he, ho⟩ := h
  obtain ⟨q, hq⟩ := K.rd i hi
  rcases K.law.find w hq es.toList (IM.keys he ho) with ⟨h1, h2⟩ | ⟨j, e0, h1, h2, h3⟩
  · have hg : getM l i = none := by
      cases hl : l with
      | nil => rfl
      | cons p r => exact (none_M (x := p.2) (hl ▸ IM.not_in he h2)).1
    rw [hg]
    simp [Instr.lookup, run_underlying ht, MapKept.run_getObj_map hb, K.law.check w _ hq, h1, hz, Result.andThen]
  · obtain ⟨p, hp, e1, e2⟩ := IM.at he h2 h3
    rw [(some_M (x := p.2) hd hp e1).1]
    simp [Instr.lookup, run_underlying ht, MapKept.run_getObj_map hb, K.law.check w _ hq, h1, e2, Result.andThen]
theorem modify_set {α : Type} (f : α → α) : ∀ (l : List α) (j : Nat) (a : α), l[j]? = some a → l.modify j f = l.set j (f a)
  | [], _, _, h => by simp at h
  | x :: r, 0, a, h => by
    obtain rfl : x = a := by simpa using h
    rfl
  | x :: r, j + 1, a, h => by
    have hj : r[j]? = some a := by simpa using h
    simp [modify_set f r j a hj]
/-- m[i] = x -/
theorem IM.put [DecidableEq κ] (h : IM K mk w b l) {t e : TypeId} (ht : P.underlying t = some (.map k e)) {i : κ} (hi : K.ok i) (x : α) :
    ∃ w', (Instr.mapUpdate t (.map (some b)) (K.kv i) (mk x)).run P w = .ok () w' ∧ IM K mk w' b (putM l i x) ∧ M.But b w w' := by
  have hd := h.dist
  obtain ⟨es, clock, hb, hs, he, ho⟩ := h
  obtain ⟨q, hq⟩ := K.rd i hi
  rcases K.law.find w hq es.toList (IM.keys he ho) with ⟨h1, h2⟩ | ⟨j, e0, h1, h2, h3⟩
  · refine ⟨setBlock w b (.map (es.push ⟨K.kv i, mk x, clock⟩) (clock + 1)), ?_, ⟨_, _, (heap_set hb).1, stamped_push hs h2, ?_, ?_⟩, but_setBlock _ _ _⟩
    · simp [Instr.mapUpdate, run_underlying ht, MapKept.run_getObj_map hb, K.law.check w false hq, h1, MapKept.run_setObj_map _ hb, Result.andThen, setBlock]
    · rw [(none_M (x := x) (IM.not_in he h2)).2.1, Array.toList_push, List.map_append, List.map_append, he]; rfl
    · rw [(none_M (x := x) (IM.not_in he h2)).2.1]
      intro p hp
      rcases List.mem_append.1 hp with hp | hp
      · exact ho p hp
      · obtain rfl : p = (i, x) := by simpa using hp
        exact hi
  · have hj : es[j]? = some e0 := by simpa using h2
    obtain ⟨p, hp, e1, e2⟩ := IM.at he h2 h3
    have hp2 := (some_M (x := x) hd hp e1).2.1
    refine ⟨setBlock w b (.map (es.modify j (fun e' => { e' with key := K.kv i, val := mk x })) clock), ?_, ⟨_, _, (heap_set hb).1, stamped_modify hs _ _ (fun _ _ => rfl) (fun e' _ he' => by rw [hj] at he'; cases he'; exact h3.symm), ?_, ?_⟩, but_setBlock _ _ _⟩
    · simp [Instr.mapUpdate, run_underlying ht, MapKept.run_getObj_map hb, K.law.check w false hq, h1, hj, h3, K.law.stays w hq, MapKept.run_setObj_map _ hb, Result.andThen, setBlock]
    · rw [hp2, Array.toList_modify, modify_set _ _ _ _ h2, List.map_set, he, List.map_set]
    · rw [hp2]
      intro p' hp'
      rcases List.mem_or_eq_of_mem_set hp' with h | rfl
      · exact ho p' h
      · exact hi
/-- delete(m, i) -/
theorem IM.del [DecidableEq κ] (h : IM K mk w b l) {t e : TypeId} (ty : TypeId) (ht : P.underlying t = some (.map k e)) {i : κ} (hi : K.ok i) :
    ∃ w', (Builtin.delete_ #[t, k] ty #[.map (some b), K.kv i]).run P w = .ok (.tuple #[]) w' ∧ IM K mk w' b (delM l i) ∧ M.But b w w' := by
  have hd := h.dist
  obtain ⟨es, clock, hb, hs, he, ho⟩ := h
  obtain ⟨q, hq⟩ := K.rd i hi
  rcases K.law.find w hq es.toList (IM.keys he ho) with ⟨h1, h2⟩ | ⟨j, e0, h1, h2, h3⟩
  · have hl : delM l i = l := by
      cases hl : l with
      | nil => rfl
      | cons p r => exact (none_M (x := p.2) (hl ▸ IM.not_in he h2)).2.2
    rw [hl]
    refine ⟨setBlock w b (.map es clock), ?_, ⟨_, _, (heap_set hb).1, hs, he, ho⟩, but_setBlock _ _ _⟩
    simp [Builtin.delete_, run_underlying ht, MapKept.run_getObj_map hb, K.law.check w _ hq, h1, MapKept.run_setObj_map _ hb, Result.andThen, setBlock]
  · have hjl : j < es.toList.length := (List.getElem?_eq_some_iff.1 h2).1
    have hjs : j < es.size := by simpa using hjl
    have hsub : (es.eraseIdxIfInBounds j).toList = es.toList.eraseIdx j := by
      unfold Array.eraseIdxIfInBounds
      rw [dif_pos hjs]
      simp
    obtain ⟨p, hp, e1, e2⟩ := IM.at he h2 h3
    have hp2 := (some_M (x := p.2) hd hp e1).2.2
    refine ⟨setBlock w b (.map (es.eraseIdxIfInBounds j) clock), ?_, ⟨_, _, (heap_set hb).1, stamped_erase hs j, ?_, ?_⟩, but_setBlock _ _ _⟩
    · simp [Builtin.delete_, run_underlying ht, MapKept.run_getObj_map hb, K.law.check w _ hq, h1, MapKept.run_setObj_map _ hb, Result.andThen, setBlock]
    · rw [hp2, hsub, ChangeMaps.map_eraseIdx, he, ChangeMaps.map_eraseIdx]
    · exact fun p' hp' => ho p' (delM_sub i l p' hp')
theorem IM.len (h : IM K mk w b l) {t e : TypeId} (ht : P.underlying t = some (.map k e)) (es : Array MapEntry) (clock : Nat) (hb : w.heap[b]? = some (.map es clock)) : es.size = l.length := by
  obtain ⟨es', clock', hb', hs, he, ho⟩ := h
  rw [hb] at hb'
  cases hb'
  have := congrArg List.length he
  simpa using this
/-- a range over it under way: what is still to come -/
def IR (K : KT P k κ) (mk : α → Value) (w : World) (b r : Nat) (l left : List (κ × α)) : Prop :=
  ∃ es clock since seen c0, w.heap[b]? = some (.map es clock) ∧ Stamped es clock ∧ es.toList.map (fun e => (e.key, e.val)) = l.map (fun p => (K.kv p.1, mk p.2)) ∧ (∀ p ∈ l, K.ok p.1) ∧
    w.heap[r]? = some (.mapIter (some b) since seen c0) ∧ (∀ x ∈ es.toList, x.born < since) ∧ since ≤ c0 ∧ since ≤ clock ∧ (leftOf es seen).toList.map (fun e => (e.key, e.val)) = left.map (fun p => (K.kv p.1, mk p.2))
theorem IR.im {r : Nat} {left : List (κ × α)} (h : IR K mk w b r l left) : IM K mk w b l := by
  obtain ⟨es, clock, since, seen, c0, hb, hs, he, ho, _⟩ := h
  exact ⟨es, clock, hb, hs, he, ho⟩
theorem IR.of {r : Nat} {left : List (κ × α)} (h : IR K mk w b r l left) (e : w'.heap[b]? = w.heap[b]?) (e2 : w'.heap[r]? = w.heap[r]?) : IR K mk w' b r l left := by
  obtain ⟨es, clock, since, seen, c0, hb, hs, he, ho, hr, rest⟩ := h
  exact ⟨es, clock, since, seen, c0, e.trans hb, hs, he, ho, e2.trans hr, rest⟩
theorem IR.ne {r : Nat} {left : List (κ × α)} (h : IR K mk w b r l left) : r ≠ b := by
  obtain ⟨es, clock, since, seen, c0, hb, hs, he, ho, hr, rest⟩ := h
  intro e
  rw [e, hb] at hr
  cases hr
theorem IR.lt {r : Nat} {left : List (κ × α)} (h : IR K mk w b r l left) : r < w.heap.size := by
  obtain ⟨es, clock, since, seen, c0, hb, hs, he, ho, hr, rest⟩ := h
  exact (Array.getElem?_eq_some_iff.1 hr).1
theorem IR.call {r : Nat} {left : List (κ × α)} (h : IR K mk w b r l left) (hb : Below w.heap.size w w') : IR K mk w' b r l left := h.of (hb.block b h.im.lt) (hb.block r h.lt)
theorem IM.range (h : IM K mk w b l) {t e : TypeId} (ht : P.underlying t = some (.map k e)) :
    ∃ w', (Instr.range t (.map (some b))).run P w = .ok (.pointer (some ⟨w.heap.size, 0, none⟩)) w' ∧ IR K mk w' b w.heap.size l l ∧ Below w.heap.size w w' ∧ w'.heap.size = w.heap.size + 1 := by
  have hlt := h.lt
  obtain ⟨es, clock, hb, hs, he, ho⟩ := h
  refine ⟨_, run_range_map w t k e b es clock ht hb, ⟨es, clock, clock, #[], clock, ((MapKept.heap_alloc w _).2 b hlt).trans hb, hs, he, ho, (MapKept.heap_alloc w _).1, hs.1, Nat.le_refl _, Nat.le_refl _, ?_⟩, (Below.refl _ _).alloc (Nat.le_refl _) _, by simp⟩
  have : leftOf es #[] = es := by unfold leftOf; simp
  rw [this]; exact he
theorem filter_one {β γ : Type} [DecidableEq γ] (f : β → γ) : ∀ {L : List β} {e : β}, e ∈ L → (L.map f).Nodup → ∃ L1 L2, L = L1 ++ e :: L2 ∧ L.filter (fun x => decide (f x ≠ f e)) = L1 ++ L2
  | x :: r, e, he, hn => by
    rw [List.map_cons, List.nodup_cons] at hn
    rcases List.mem_cons.1 he with rfl | he
    · refine ⟨[], r, rfl, ?_⟩
      rw [List.filter_cons_of_neg (by simp), List.nil_append, List.filter_eq_self]
      intro y hy
      simp
      exact fun e2 => hn.1 (e2 ▸ List.mem_map.2 ⟨y, hy, rfl⟩)
    · obtain ⟨L1, L2, h1, h2⟩ := filter_one f he hn.2
      refine ⟨x :: L1, L2, by rw [h1]; rfl, ?_⟩
      rw [List.filter_cons_of_pos (by simp; exact fun e2 => hn.1 (e2 ▸ List.mem_map.2 ⟨e, he, rfl⟩)), h2]; rfl
/-- one step: nothing is left, or one of those that are left comes -/
theorem IR.next {r : Nat} {left : List (κ × α)} (h : IR K mk w b r l left) (ty : TypeId) :
    (left = [] ∧ (Instr.next (.pointer (some ⟨r, 0, none⟩)) false ty).run P w = .ok (.tuple #[.bool false]) w) ∨
    ∃ L1 p L2 w', left = L1 ++ p :: L2 ∧ (Instr.next (.pointer (some ⟨r, 0, none⟩)) false ty).run P w = .ok (.tuple #[.bool true, K.kv p.1, mk p.2]) w' ∧ IR K mk w' b r l (L1 ++ L2) ∧ M.But r w w' ∧ w'.heap.size = w.heap.size ∧ (Instr.entry (.pointer (some ⟨r, 0, none⟩))).run P w' = .ok (.tuple #[K.kv p.1, mk p.2]) w' := by
  have hne := h.ne
  obtain ⟨es, clock, since, seen, c0, hb, hs, he, ho, hr, hold, hsc, hsk, hl⟩ := h
  rcases run_next_at (P := P) w ty r b since c0 seen es clock hr hb hold hsc with ⟨h0, hrun⟩ | ⟨e, hem, w1, hal, hrun⟩
  · refine .inl ⟨?_, hrun⟩
    have : (leftOf es seen).toList = [] := by simpa using h0
    rw [this] at hl
    simpa using hl.symm
  · obtain ⟨hme, hes⟩ := mem_left hem
    have hst := (stamped_iff es clock).1 hs
    have hnd : ((leftOf es seen).toList.map (·.born)).Nodup := by
      unfold leftOf
      rw [Array.toList_filter]
      exact (List.Sublist.map _ List.filter_sublist).nodup hst.2.1
    obtain ⟨E1, E2, hE, hF⟩ := filter_one (fun x : MapEntry => x.born) hem hnd
    rw [hE, List.map_append, List.map_cons] at hl
    obtain ⟨L1, R, e1, e2, e3⟩ := List.map_eq_append_iff.1 hl.symm
    obtain ⟨p, L2, e4, e5, e6⟩ := List.map_eq_cons_iff.1 e3
    have hkey : e.key = K.kv p.1 := (congrArg Prod.fst e5).symm
    have hval : e.val = mk p.2 := (congrArg Prod.snd e5).symm
    have hr1 : w1.heap[r]? = some (.mapIter (some b) since seen c0) := by rcases hal with rfl | rfl <;> exact hr
    have hb1 : w1.heap[b]? = some (.map es clock) := by rcases hal with rfl | rfl <;> exact hb
    have hset := heap_set (o' := .mapIter (some b) since (seen.push e.born) clock) hr1
    have hb' : (setBlock w1 r (.mapIter (some b) since (seen.push e.born) clock)).heap[b]? = some (.map es clock) := (hset.2 b (fun e1 => hne e1.symm)).trans hb1
    refine .inr ⟨L1, p, L2, _, by rw [e1, e4], by rw [← hkey, ← hval]; exact hrun, ⟨es, clock, since, seen.push e.born, clock, hb', hs, he, ho, hset.1, hold, hsk, hsk, ?_⟩, ?_, ?_, ?_⟩
    · have hpush : (leftOf es (seen.push e.born)).toList = (leftOf es seen).toList.filter (fun x => decide (x.born ≠ e.born)) := by
        unfold leftOf
        rw [Array.toList_filter, Array.toList_filter, List.filter_filter]
        apply List.filter_congr
        intro x _
        simp [Bool.and_comm]
      rw [hpush, hF, List.map_append, List.map_append, ← e2, ← e6]
    · have hb2 := but_setBlock w1 r (.mapIter (some b) since (seen.push e.born) clock)
      rcases hal with rfl | rfl
      · exact hb2
      · exact ⟨hb2.os, hb2.tape, hb2.output, hb2.size, hb2.block⟩
    · rcases hal with rfl | rfl <;> exact Array.size_setIfInBounds
    · rw [← hkey, ← hval]
      exact run_entry_at _ r b since seen es clock e hset.1 hb' hme hst.2.1
end
section
variable {P : Program} {k : TypeId} {κ α : Type} {K : KT P k κ} {mk : α → Value} {w : World} {ops : Array Oper} {rest : List Oper} {o : Oper} {a : Act} {Q : Exit → Act → World → Prop} {b : Nat} {l : List (κ × α)}
theorem wpList_range_im (hg : o.guard = none) (m : Operand) (t e : TypeId) (hop : o.op = Op.range t m) (ht : P.underlying t = some (.map k e))
    (h : IM K mk w b l) (hm : a.eval m = .map (some b))
    (hK : ∀ w', IR K mk w' b w.heap.size l l → Below w.heap.size w w' → w'.heap.size = w.heap.size + 1 → wpList P ops Q rest (a.put o.dst (.pointer (some ⟨w.heap.size, 0, none⟩))) w') :
    wpList P ops Q (o :: rest) a w := by
  refine wpList_plain hg fun K' hK' => ?_
  obtain ⟨w', hrun, r1, r2, r3⟩ := h.range ht
  unfold Oper.wp
  simp [execOp, hop, hm, hrun, Result.andThen]
  exact hK' _ _ (hK w' r1 r2 r3)
theorem wpList_next_im (hg : o.guard = none) (it : Operand) (hop : o.op = Op.next it false) (r : Nat) (left : List (κ × α)) (hit : a.eval it = .pointer (some ⟨r, 0, none⟩)) (h : IR K mk w b r l left)
    (hDone : left = [] → wpList P ops Q rest (a.put o.dst (.tuple #[.bool false])) w)
    (hMore : ∀ (L1 : List (κ × α)) (p : κ × α) (L2 : List (κ × α)) (w' : World), left = L1 ++ p :: L2 → IR K mk w' b r l (L1 ++ L2) → M.But r w w' → w'.heap.size = w.heap.size → (Instr.entry (.pointer (some ⟨r, 0, none⟩))).run P w' = .ok (.tuple #[K.kv p.1, mk p.2]) w' →
      wpList P ops Q rest (a.put o.dst (.tuple #[.bool true, K.kv p.1, mk p.2])) w') :
    wpList P ops Q (o :: rest) a w := by
  refine wpList_plain hg fun K' hK' => ?_
  unfold Oper.wp
  rcases h.next o.type with ⟨h0, hrun⟩ | ⟨L1, p, L2, w', h0, hrun, r1, r2, r3, r4⟩
  · simp [execOp, hop, hit, hrun, Result.andThen]
    exact hK' _ _ (hDone h0)
  · simp [execOp, hop, hit, hrun, Result.andThen]
    exact hK' _ _ (hMore L1 p L2 w' h0 r1 r2 r3 r4)
end
end Go.Proofs.YtdebnbgjgkbmaaaGreatDoor
namespace Go.Proofs.YtdebnbgjgkbmaaaGreatDoor
open Go.RowKit
set_option linter.unusedVariables false
theorem wpList_append_sep {P : Program} (w : World) {ops : Array Oper} {rest : List Oper} {o : Oper} {a : Act} {Q : Exit → Act → World → Prop}
    (hg : o.guard = none) (s x : Operand) (t : TypeId) (hop : o.op = Op.call { callee := Callee.builtin Builtin.append, args := #[s, x], argTypes := #[t, t] })
    (base : Nat) (e : TypeId) (i : TypeInfo) (z : Value) (size bytes : Nat) (h1 : P.underlying t = some (.slice e)) (h2 : P.info? e = some i) (h3 : i.zero = some z) (h4 : i.size = size) (h5 : i.bytes = bytes) (h6 : z.cells.size = size) (h7 : 0 < size)
    (g k cap : Nat) (xs : List Value) (hs : a.eval s = .slice (some ⟨g, 0, none⟩) k cap) (hown : w.ownsRow base e size (.slice (some ⟨g, 0, none⟩) k cap) k xs)
    (ad : Addr) (m c : Nat) (news : List Value) (hx : a.eval x = .slice (some ad) m c) (hn : news.length = m * size) (hc : ∀ j u, news[j]? = some u → w.cell? (ad.add j) = some u) (h1c : ∀ u ∈ news, u.oneCell' = true)
    (b0 : 0 < k + m) (b1 : k + m ≤ maxLen) (b2 : (k + m) * bytes ≤ 140737488355328) (hbase : base ≤ w.heap.size)
    (hK : ∀ g' cap' w', w'.ownsRow base e size (.slice (some ⟨g', 0, none⟩) (k + m) cap') (k + m) (xs ++ news) → w.grownBy w' (some g) → (g' = g ∨ w.heap.size ≤ g') → wpList P ops Q rest (a.put o.dst (.slice (some ⟨g', 0, none⟩) (k + m) cap')) w') :
    wpList P ops Q (o :: rest) a w := by
  by_cases hr : k + m ≤ cap
  · exact wpList_append_fits w hg s x t hop base e i size h1 h2 h4 g k cap xs hs hown ad m c news hx hn hc h1c hr (fun w' q1 q2 => hK _ _ _ q1 q2 (.inl rfl))
  · refine wpList_append_grows w hg s x t hop e i z size bytes h1 h2 h3 h4 h5 h6 h7 (some ⟨g, 0, none⟩) k cap xs hs (by simp) hown.1 (fun b hb j u hu => by cases hb; exact hown.cells rfl j u hu) ad m c news hx hn hc h1c (by omega) b1 b2 (fun v' w' q1 q2 => ?_)
    obtain ⟨g', cap', rfl, q3, q4⟩ := q1.form b0
    exact hK g' cap' w' (q1.mono hbase) ⟨q2.os, q2.tape, q2.output, q2.size, fun j hj _ => q2.block j hj (by simp)⟩ (.inr q3)
/-- .. of a row that is not nil, of any many elements -/
theorem wpList_append_sep3 {P : Program} (w : World) {ops : Array Oper} {rest : List Oper} {o : Oper} {a : Act} {Q : Exit → Act → World → Prop}
    (hg : o.guard = none) (s x : Operand) (t : TypeId) (hop : o.op = Op.call { callee := Callee.builtin Builtin.append, args := #[s, x], argTypes := #[t, t] })
    (base : Nat) (e : TypeId) (i : TypeInfo) (z : Value) (size bytes : Nat) (h1 : P.underlying t = some (.slice e)) (h2 : P.info? e = some i) (h3 : i.zero = some z) (h4 : i.size = size) (h5 : i.bytes = bytes) (h6 : z.cells.size = size) (h7 : 0 < size)
    (g k cap : Nat) (xs : List Value) (hs : a.eval s = .slice (some ⟨g, 0, none⟩) k cap) (hown : w.ownsRow base e size (.slice (some ⟨g, 0, none⟩) k cap) k xs)
    (ad : Addr) (m c : Nat) (news : List Value) (hx : a.eval x = .slice (some ad) m c) (hn : news.length = m * size) (hc : ∀ j u, news[j]? = some u → w.cell? (ad.add j) = some u) (h1c : ∀ u ∈ news, u.oneCell' = true)
    (b1 : k + m ≤ maxLen) (b2 : (k + m) * bytes ≤ 140737488355328) (hbase : base ≤ w.heap.size)
    (hK : ∀ v' w', w'.ownsRow base e size v' (k + m) (xs ++ news) → w.grownBy w' (some g) → (v'.ownBlock = some g ∨ ∀ g', v'.ownBlock = some g' → w.heap.size ≤ g') → wpList P ops Q rest (a.put o.dst v') w') :
    wpList P ops Q (o :: rest) a w := by
  by_cases hr : k + m ≤ cap
  · exact wpList_append_fits w hg s x t hop base e i size h1 h2 h4 g k cap xs hs hown ad m c news hx hn hc h1c hr (fun w' q1 q2 => hK _ _ q1 q2 (.inl rfl))
  · exact wpList_append_sep w hg s x t hop base e i z size bytes h1 h2 h3 h4 h5 h6 h7 g k cap xs hs hown ad m c news hx hn hc h1c (by omega) b1 b2 hbase fun g' cap' w' q1 q2 q3 => hK _ _ q1 q2 (by
      rcases q3 with rfl | q3
      · exact .inl rfl
      · exact .inr fun b hb => by cases hb; exact q3)
end Go.Proofs.YtdebnbgjgkbmaaaGreatDoor
namespace Go.Proofs.YtdebnbgjgkbmaaaGreatDoor.Pu
open Go.RowKit
set_option linter.unusedVariables false
/-- what was there is as it was, but for some blocks -/
structure Bt (s : List Nat) (w w' : World) : Prop where
  os : w'.os = w.os
  tape : w'.tape = w.tape
  output : w'.output = w.output
  size : w.heap.size ≤ w'.heap.size
  block : ∀ k, k < w.heap.size → k ∉ s → w'.heap[k]? = w.heap[k]?
section
variable {s : List Nat} {w w' w'' : World}
theorem Bt.refl (s : List Nat) (w : World) : Bt s w w := ⟨rfl, rfl, rfl, Nat.le_refl _, fun _ _ _ => rfl⟩
theorem Bt.trans (h : Bt s w w') (h' : Bt s w' w'') : Bt s w w'' :=
  ⟨h'.os.trans h.os, h'.tape.trans h.tape, h'.output.trans h.output, Nat.le_trans h.size h'.size, fun k hk hs => (h'.block k (Nat.lt_of_lt_of_le hk h.size) hs).trans (h.block k hk hs)⟩
theorem Bt.ofBelow (s : List Nat) (h : Below w.heap.size w w') : Bt s w w' := ⟨h.os, h.tape, h.output, h.size, fun k hk _ => h.block k hk⟩
theorem Bt.ofBut {g : Nat} (h : M.But g w w') (hg : g ∈ s) : Bt s w w' := ⟨h.os, h.tape, h.output, h.size, fun k hk hs => h.block k hk (fun e => hs (e ▸ hg))⟩
theorem Bt.drew (h : Bt s w w') : Bt s w w'.drew := ⟨h.os, h.tape, h.output, h.size, h.block⟩
theorem Bt.alloc (h : Bt s w w') (o : Obj) : Bt s w (w'.alloc o) := h.trans (.ofBelow s ((Below.refl _ _).alloc (Nat.le_refl _) o))
theorem Bt.set (h : Bt s w w') {p : Addr} (hp : p.block ∈ s) (v : Value) : Bt s w (w'.setCell p v) := h.trans (.ofBut ((M.But.refl p.block w').set (.inl rfl) v) hp)
theorem Bt.row {k : Nat} {t : TypeId} {cs : Array Value} (h : Bt s w w') (hr : M.RowAt w k t cs) (hk : k ∉ s) : M.RowAt w' k t cs := by
  have hl := hr.lt
  unfold M.RowAt at *; rw [h.block k hl hk]; exact hr
theorem Bt.below {B : Nat} {w0 : World} (h : Bt s w w') (hb : Below B w0 w) (hs : ∀ g ∈ s, B ≤ g) (hB : B ≤ w.heap.size) : Below B w0 w' :=
  ⟨h.os.trans hb.os, h.tape.trans hb.tape, h.output.trans hb.output, Nat.le_trans hb.size h.size, fun k hk => (h.block k (by omega) (fun e => by have := hs k e; omega)).trans (hb.block k hk)⟩
end
def upF {α : Type} (f : Nat → α) (k : Nat) (x : α) : Nat → α := fun i => if i = k then x else f i
theorem upF_same {α : Type} (f : Nat → α) (k : Nat) (x : α) : upF f k x k = x := if_pos rfl
theorem upF_ne {α : Type} (f : Nat → α) {k j : Nat} (h : j ≠ k) (x : α) : upF f k x j = f j := if_neg h
abbrev Res := List (Int × Int × Int)
def sumB (f : Nat → Int) : Nat → Int
  | 0 => 0
  | k + 1 => sumB f k + f k
def sumR : Res → Int
  | [] => 0
  | e :: r => e.2.2 + sumR r
theorem sumB_nonneg {f : Nat → Int} (h : ∀ i, 0 ≤ f i) : ∀ n, 0 ≤ sumB f n
  | 0 => Int.le_refl _
  | n + 1 => by have := sumB_nonneg h n; have := h n; show 0 ≤ sumB f n + f n; omega
theorem sumB_le {f : Nat → Int} (h : ∀ i, 0 ≤ f i) {a : Nat} : ∀ n, a < n → f a ≤ sumB f n
  | n + 1, ha => by
    show f a ≤ sumB f n + f n
    by_cases e : a = n
    · subst e; have := sumB_nonneg h a; omega
    · have := sumB_le h n (show a < n by omega); have := h n; omega
theorem sumB_mono {f : Nat → Int} (h : ∀ i, 0 ≤ f i) : ∀ n k, k ≤ n → sumB f k ≤ sumB f n
  | 0, k, hk => by rw [Nat.le_zero.1 hk]; exact Int.le_refl _
  | n + 1, k, hk => by
    by_cases e : k = n + 1
    · subst e; exact Int.le_refl _
    · have := sumB_mono h n k (by omega); have := h n; show _ ≤ sumB f n + f n; omega
theorem sumR_app (l r : Res) : sumR (l ++ r) = sumR l + sumR r := by
  induction l with
  | nil => show sumR r = 0 + sumR r; omega
  | cons e l ih => show e.2.2 + sumR (l ++ r) = e.2.2 + sumR l + sumR r; rw [ih]; omega
theorem sumR_nonneg {l : Res} (h : ∀ e ∈ l, 0 ≤ e.2.2) : 0 ≤ sumR l := by
  induction l with
  | nil => exact Int.le_refl _
  | cons e l ih =>
    have := h e List.mem_cons_self
    have := ih fun x hx => h x (List.mem_cons_of_mem _ hx)
    show 0 ≤ e.2.2 + sumR l; omega
theorem sumR_del {l : Res} {i : Int} {x : Int × Int} (h : getM l i = some x) : sumR (delM l i) + x.2 = sumR l := by
  induction l with
  | nil => cases h
  | cons e l ih =>
    unfold getM at h; unfold delM
    split at h
    · rename_i he
      rw [if_pos he]
      obtain rfl : e.2 = x := Option.some.inj h
      show sumR l + e.2.2 = e.2.2 + sumR l; omega
    · rename_i he
      rw [if_neg he]
      have := ih h
      show e.2.2 + sumR (delM l i) + x.2 = e.2.2 + sumR l; omega
/-- what always holds of a purse -/
structure Inv (n : Nat) (f : Nat → Int) (l : Res) : Prop where
  n1 : 1 ≤ n
  n32 : n ≤ 32
  pos : ∀ i, 0 ≤ f i
  res : ∀ e ∈ l, 0 ≤ e.1 ∧ e.1 ≤ 32 ∧ 0 ≤ e.2.1 ∧ e.2.1 < (n : Int) ∧ 0 ≤ e.2.2
  len : l.length ≤ 32
  tot : sumB f n + sumR l ≤ Am.mx
theorem Inv.bal {n : Nat} {f : Nat → Int} {l : Res} (h : Inv n f l) {a : Nat} (ha : a < n) : f a ≤ 1125899906842624 := by
  have := sumB_le h.pos n ha
  have := sumR_nonneg fun e he => (h.res e he).2.2.2.2
  have := h.tot
  unfold Am.mx at this; omega
theorem Inv.sum {n : Nat} {f : Nat → Int} {l : Res} (h : Inv n f l) {a : Nat} (ha : a < n) {i : Int} {x : Int × Int} (hx : getM l i = some x) : f a + x.2 ≤ 1125899906842624 := by
  have h0 := sumB_le h.pos n ha
  have h2 := sumR_del hx
  have h3 := sumR_nonneg (l := delM l i) fun e he => (h.res e (delM_sub i l e he)).2.2.2.2
  have := h.tot
  unfold Am.mx at this; omega
def mkR (x : Int × Int) : Value := .agg #[.int .i64 x.1, .int .u64 x.2]
def KR : KT Tryz.prog 3 Int := intKT Tryz.underlying3
/-- a purse: its own block, its balances, its reservations -/
structure Pu (p B mb n cap : Nat) (f : Nat → Int) (l : Res) (w : World) : Prop where
  hp : M.RowAt w p 252 #[.slice (some ⟨B, 0, none⟩) n cap, .map (some mb)]
  hB : ∃ cur, M.RowAt w B 27 cur ∧ ∀ i, i < n → cur[i]? = some (.int .u64 (f i))
  hm : IM KR mkR w mb l
  ne : p ≠ B ∧ p ≠ mb ∧ B ≠ mb
  cap : n ≤ cap
  inv : Inv n f l
section
variable {p B mb n cap : Nat} {f : Nat → Int} {l l' : Res} {w w' : World} {s : List Nat}
theorem Pu.bt (h : Pu p B mb n cap f l w) (hb : Bt s w w') (h1 : p ∉ s) (h2 : B ∉ s) (h3 : mb ∉ s) : Pu p B mb n cap f l w' := by
  obtain ⟨cur, hr, hc⟩ := h.hB
  exact ⟨hb.row h.hp h1, ⟨cur, hb.row hr h2, hc⟩, h.hm.of (hb.block mb h.hm.lt h3), h.ne, h.cap, h.inv⟩
theorem Pu.same (h : Pu p B mb n cap f l w) (hb : Below w.heap.size w w') : Pu p B mb n cap f l w' := h.bt (s := []) (.ofBelow _ hb) (by simp) (by simp) (by simp)
theorem Pu.alloc (h : Pu p B mb n cap f l w) (o : Obj) : Pu p B mb n cap f l (w.alloc o) := h.same ((Below.refl _ _).alloc (Nat.le_refl _) o)
theorem Pu.drew (h : Pu p B mb n cap f l w) : Pu p B mb n cap f l w.drew := by
  obtain ⟨cur, hr, hc⟩ := h.hB
  exact ⟨h.hp, ⟨cur, hr, hc⟩, h.hm, h.ne, h.cap, h.inv⟩
theorem Pu.c0 (h : Pu p B mb n cap f l w) : w.cell? ⟨p, 0, none⟩ = some (.slice (some ⟨B, 0, none⟩) n cap) := (h.hp.cell 0).trans rfl
theorem Pu.c1 (h : Pu p B mb n cap f l w) : w.cell? ⟨p, 1, none⟩ = some (.map (some mb)) := (h.hp.cell 1).trans rfl
theorem Pu.bal (h : Pu p B mb n cap f l w) {i : Nat} (hi : i < n) : w.cell? ⟨B, i, none⟩ = some (.int .u64 (f i)) ∧ w.frozen? ⟨B, i, none⟩ = false := by
  obtain ⟨cur, hr, hc⟩ := h.hB
  exact ⟨by rw [hr.cell]; exact hc i hi, hr.frozen i⟩
/-- a balance is written -/
theorem Pu.set (h : Pu p B mb n cap f l w) {a : Nat} (ha : a < n) (x : Int) (hi : Inv n (upF f a x) l) : Pu p B mb n cap (upF f a x) l (w.setCell ⟨B, a, none⟩ (.int .u64 x)) := by
  obtain ⟨cur, hr, hc⟩ := h.hB
  refine ⟨h.hp.far (p := ⟨B, a, none⟩) (Ne.symm h.ne.1) _, ⟨_, hr.set a _, fun i hi => ?_⟩, h.hm.far (p := ⟨B, a, none⟩) h.ne.2.2 _, h.ne, h.cap, hi⟩
  rw [Array.getElem?_setIfInBounds]
  by_cases e : a = i
  · subst e
    have hlt : a < cur.size := (Array.getElem?_eq_some_iff.1 (hc a ha)).1
    rw [if_pos rfl, if_pos hlt, upF_same]
  · rw [if_neg e, upF_ne f (fun e2 => e e2.symm)]; exact hc i hi
/-- the map is written -/
theorem Pu.map (h : Pu p B mb n cap f l w) (hm : IM KR mkR w' mb l') (hb : M.But mb w w') (hi : Inv n f l') : Pu p B mb n cap f l' w' := by
  obtain ⟨cur, hr, hc⟩ := h.hB
  exact ⟨hb.row h.hp h.ne.2.1, ⟨cur, hb.row hr h.ne.2.2, hc⟩, hm, h.ne, h.cap, hi⟩
end
section
variable {p B mb n cap : Nat} {f : Nat → Int} {l : Res} {w : World}
end
end Go.Proofs.YtdebnbgjgkbmaaaGreatDoor.Pu
-- fixed
namespace Go.Proofs.YtdebnbgjgkbmaaaGreatDoor.Pu
open Go.RowKit
set_option linter.unusedVariables false
section
variable {p B mb n cap : Nat} {f : Nat → Int} {l : Res} {w : World}
theorem sumR_mid (L1 L2 : Res) (e : Int × Int × Int) : sumR (L1 ++ e :: L2) = sumR (L1 ++ L2) + e.2.2 := by
  rw [sumR_app, sumR_app]; show sumR L1 + (_ + sumR L2) = _; omega
/-- a range over the reservations under way -/
structure RG (p B mb n cap : Nat) (f : Nat → Int) (l : Res) (q g : Nat) (w : World) (left : Res) (v : World) : Prop where
  ir : IR KR mkR v mb g l left
  bel : Below q w v
  sub : ∀ e ∈ left, e ∈ l
  ge : q ≤ g
theorem RG.next {q g : Nat} {left L1 L2 : Res} {e : Int × Int × Int} {v v' : World} (c : RG p B mb n cap f l q g w left v) (he : left = L1 ++ e :: L2) (hr : IR KR mkR v' mb g l (L1 ++ L2)) (hb : M.But g v v') (hq : q ≤ v.heap.size) : RG p B mb n cap f l q g w (L1 ++ L2) v' :=
  ⟨hr, hb.below c.bel c.ge hq, fun x hx => c.sub x (by rw [he]; rcases List.mem_append.1 hx with h | h <;> simp [h]), c.ge⟩
theorem RG.alloc {q g : Nat} {left : Res} {v : World} (c : RG p B mb n cap f l q g w left v) (hq : q ≤ v.heap.size) (o : Obj) : RG p B mb n cap f l q g w left (v.alloc o) :=
  ⟨c.ir.call ((Below.refl _ _).alloc (Nat.le_refl _) o), c.bel.alloc hq o, c.sub, c.ge⟩
end
end Go.Proofs.YtdebnbgjgkbmaaaGreatDoor.Pu
-- fixed
namespace Go.Proofs.YtdebnbgjgkbmaaaGreatDoor.Pu
open Go.RowKit
set_option linter.unusedVariables false
section
variable {p B mb n cap : Nat} {f : Nat → Int} {l : Res} {w : World}
set_option maxRecDepth 100000 in
set_option maxHeartbeats 4000000 in
theorem total_any (h : Pu p B mb n cap f l w) :
    Calls Tryz.prog 54 #[.pointer (some ⟨p, 0, none⟩)] w fun e w' => e = .returned (.int .u64 (sumB f n + sumR l)) ∧ Below w.heap.size w w' := by
  obtain ⟨q, hq⟩ : ∃ q, w.heap.size = q := ⟨_, rfl⟩
  have HQ := Lib.hid hq
  have hres : ∀ e ∈ l, 0 ≤ e.2.2 := fun e he => (h.inv.res e he).2.2.2.2
  have htot := h.inv.tot
  unfold Am.mx at htot
  have hsr := sumR_nonneg hres
  have hsb0 := sumB_nonneg h.inv.pos n
  have bb := fun k (hk : k ≤ n) => And.intro (sumB_nonneg h.inv.pos k) (sumB_mono h.inv.pos n k hk)
  have cb := fun k (hk : k < n) => (h.bal hk).1
  have fp := h.inv.pos
  have IM0 := Lib.hid h.hm
  have c0 := h.c0
  have c1 := h.c1
  have n32 := h.inv.n32
  have HRES := Lib.hid hres; have BB := Lib.hid bb; have CB := Lib.hid cb; have FP := Lib.hid fp
  have st : ∀ k, sumB f (k + 1) = sumB f k + f k := fun k => rfl
  have ST := Lib.hid st
  clear h hres bb cb fp st
  go_enter Tryz.func54, Tryz.ntmps54
  go_wp2
  go_loopw [3, 13] (fun s i v => ∃ k : Nat, k ≤ n ∧ i = .int .i64 k ∧ s = .int .u64 (sumB f k) ∧ v = w) (fun _ i _ => n - (intOf i).toNat)
  case atStart => exact ⟨0, Nat.zero_le _, rfl, rfl, rfl⟩
  case round =>
    obtain ⟨k, hk, rfl, rfl, rfl⟩ := hrel
    by_cases hlt : k < n
    · have cb := CB.out k hlt
      have b1 := BB.out k hk
      have b2 := BB.out (k + 1) hlt
      rw [ST.out] at b2
      have f0 := FP.out k
      have S1 := Lib.hid (ST.out k)
      generalize sumB f k = s at *
      generalize f k = y at *
      have qw : IntKind.u64.wrap (s + y) = s + y := u64_in _ (by omega)
      go_wp2
      go_roundw
      case rel => exact ⟨k + 1, by omega, by go_num, by rw [S1.out], trivial⟩
      case measure => simp [intOf]; omega
    · obtain rfl : k = n := by omega
      clear hlt hk
      generalize hS : sumB f k = S at *
      have HS := Lib.hid hS
      clear hS
      obtain ⟨wo, rfl⟩ : ∃ wo : World, wo = wr := ⟨_, rfl⟩
      go_wp2_with (at_range; refine wpList_range_im rfl _ 250 258 rfl Tryz.underlying250 IM0.out ?a1 ?_)
      case a1 => rfl
      intro w2 hir hb2 hsz2
      have rg : RG p B mb k cap f l q q wo l w2 := ⟨hir, hb2, fun e he => he, Nat.le_refl _⟩
      have hq2 : q ≤ w2.heap.size := by omega
      clear hir hb2 hq
      go_wp2
      go_loopg [3] l.length (fun m s v => ∃ left : Res, m = left.length ∧ s = .int .u64 (S + sumR l - sumR left) ∧ sumR left ≤ sumR l ∧ RG p B mb k cap f l q q wo left v)
      case atStart => exact ⟨l, rfl, by rw [Int.add_sub_cancel], Int.le_refl _, rg⟩
      case round =>
        clear rg hq2 hsz2
        obtain ⟨left, hm, rfl, hlt, rg⟩ := hrel
        have hqv := rg.bel.size
        rw [HQ.out] at hqv
        have RGH := Lib.hid rg
        have HM := Lib.hid hm
        clear hm rg
        go_wp2_with (at_next; refine wpList_next_im rfl _ rfl q left ?a1 RGH.out.ir ?_ ?_)
        case a1 => rfl
        · intro hdone
          subst hdone
          rw [show sumR ([] : Res) = 0 from rfl, Int.sub_zero]
          go_wp2
          go_ret
          exact ⟨by rw [← HS.out]; rfl, by rw [HQ.out]; exact RGH.out.bel⟩
        · intro L1 i r y L2 w3 he hir hb3 hsz3 hen
          simp only [mkR] at hen ⊢
          have e1 : sumR left = sumR (L1 ++ L2) + y := by rw [he]; exact sumR_mid L1 L2 (i, r, y)
          have rg3 := (RGH.out.next he hir hb3 hqv).alloc (by omega) (.cells #[.int .i64 r, .int .u64 y] 258)
          have hin : (i, r, y) ∈ l := RGH.out.sub _ (by rw [he]; simp)
          have h0 : 0 ≤ y := HRES.out _ hin
          have hl2 := sumR_nonneg (l := L1 ++ L2) (fun x hx => HRES.out x (RGH.out.sub x (by rw [he]; rcases List.mem_append.1 hx with h | h <;> simp [h])))
          have hlen : left.length = (L1 ++ L2).length + 1 := by rw [he]; simp; omega
          have RG3 := Lib.hid rg3; have HLEN := Lib.hid hlen
          clear rg3 hlen hin hir hb3 he
          have hgoal : ∀ x, x = S + sumR l - sumR (L1 ++ L2) → sumR (L1 ++ L2) ≤ sumR l → ∃ left' : Res, (L1 ++ L2).length = left'.length ∧ Value.int .u64 x = .int .u64 (S + sumR l - sumR left') ∧ sumR left' ≤ sumR l ∧ RG p B mb k cap f l q q wo left' (w3.alloc (.cells #[.int .i64 r, .int .u64 y] 258)) := fun x hx hle => ⟨L1 ++ L2, rfl, by rw [hx], hle, RG3.out⟩
          have HG := Lib.hid hgoal
          clear hgoal RG3 RGH
          generalize sumR l = tot at *
          generalize sumR (L1 ++ L2) = now at *
          generalize sumR left = was at *
          obtain ⟨A, hA⟩ : ∃ A, S + tot - was = A := ⟨_, rfl⟩
          have hqw : IntKind.u64.wrap (A + y) = A + y := u64_in _ (by omega)
          have hA2 : A + y = S + tot - now := by omega
          have hle : now ≤ tot := by omega
          have HA2 := Lib.hid hA2
          rw [hA]
          clear e1 hl2 hA hA2 hlt
          go_wp2
          go_roundg (L1 ++ L2).length
          case measure => have := HM.out; have := HLEN.out; omega
          case rel => exact HG.out _ HA2.out hle
end
theorem info23 : (Tryz.prog.info? 27).map (fun i => (i.zero, i.size, i.bytes)) = some (some (.int .u64 0), 1, 8) := by kernel_rfl
/-- a copy of a row of numbers -/
def Cloned (w : World) (zs : List Int) (e : Ending) (w' : World) : Prop :=
  ∃ g cap, e = .returned (.slice (some ⟨g, 0, none⟩) zs.length cap) ∧ w'.ownsRow w.heap.size 27 1 (.slice (some ⟨g, 0, none⟩) zs.length cap) zs.length (zs.map (Value.int .u64)) ∧ Below w.heap.size w w'
set_option maxRecDepth 100000 in
set_option maxHeartbeats 4000000 in
theorem clone_any (pa : Option Addr) (len cap : Nat) (zs : List Int) (w : World) (h : URow w pa len zs) (h0 : 0 < len) (h32 : len ≤ 1000) : Calls Tryz.prog 142 #[.slice pa len cap] w (Cloned w zs) := by
  obtain ⟨hl, _, _, b, off, hp, hc⟩ := h
  obtain rfl := hp.resolve_left (by omega)
  obtain ⟨i0, hi, hz0, hz1, hz2⟩ := info_parts info23
  have own0 : (w.alloc (.cells #[] 27)).ownsRow w.heap.size 27 1 (.slice (some ⟨w.heap.size, 0, none⟩) 0 0) 0 [] := ⟨rfl, .inr ⟨_, 0, #[], rfl, Nat.le_refl _, M.RowAt.new w 27 #[], Nat.le_refl _, by unfold maxLen; omega, rfl, rfl⟩⟩
  have hcell : ∀ j u, (zs.map (Value.int .u64))[j]? = some u → (w.alloc (.cells #[] 27)).cell? ((⟨b, off, none⟩ : Addr).add j) = some u := fun j u hu => by
    rw [List.getElem?_map] at hu
    cases hz : zs[j]? with
    | none => rw [hz] at hu; cases hu
    | some z =>
      rw [hz] at hu
      obtain rfl : Value.int .u64 z = u := by simpa using hu
      have hj : j < len := by rw [← hl]; exact (List.getElem?_eq_some_iff.1 hz).1
      have hcj := hc j hj
      rw [Addr.add_mid, ((Below.refl _ w).alloc (Nat.le_refl _) (.cells #[] 27)).cell (p := ⟨b, off + j, none⟩) (World.block_lt_of_cell? w _ hcj), hcj, List.getD_eq_getElem?_getD, hz]; rfl
  have hone : ∀ u ∈ zs.map (Value.int .u64), u.oneCell' = true := fun u hu => by obtain ⟨y, _, rfl⟩ := List.mem_map.1 hu; rfl
  have hil : (zs.map (Value.int .u64)).length = len * 1 := by simp [hl]
  have hge : w.heap.size ≤ (w.alloc (.cells #[] 27)).heap.size := by simp
  have O0 := Lib.hid own0; have HC := Lib.hid hcell; have HO := Lib.hid hone; have HI := Lib.hid hil; have HG := Lib.hid hge; have HL := Lib.hid hl
  have hnil : ∀ W, (binOp .eql 112 (.slice (some ⟨b, off, none⟩) len cap) (.slice none 0 0)).run Tryz.prog W = .ok (.bool false) W := fun W => by
    simp only [binOp]
    simp [Op.equal, Op.maxDepth, Lib.run_equalIn_slice_nil W 9999 112 27 (some ⟨b, off, none⟩) len cap 0 0 Tryz.underlying112]
  clear own0 hcell hone hil hge hc hp hl
  go_enter Tryz.func142, Tryz.ntmps142
  go_wp2_with (at_builtin; refine wpList_append_sep3 _ rfl (.tmp 5) (.tmp 6) 112 rfl w.heap.size 27 i0 _ 1 8 Tryz.underlying112 hi hz0 hz1 hz2 rfl (by decide) w.heap.size 0 0 [] ?a1 O0.out ⟨b, off, none⟩ len cap (zs.map (Value.int .u64)) ?a2 HI.out HC.out HO.out (by unfold maxLen; omega) (by omega) HG.out ?_)
  case a1 => rfl
  case a2 => rfl
  intro u w4 ho hg hs4
  have ho' : w4.ownsRow w.heap.size 27 1 u zs.length (zs.map (Value.int .u64)) := by rw [HL.out]; simpa using ho
  have hb : Below w.heap.size w w4 := ⟨hg.os, hg.tape, hg.output, Nat.le_trans (by simp) hg.size, fun j hj => by
    rw [hg.block j (by simp; omega) (fun e => by cases e; omega)]
    exact ((Below.refl _ w).alloc (Nat.le_refl _) (.cells #[] 27)).block j hj⟩
  obtain ⟨g, c, rfl⟩ : ∃ g c, u = .slice (some ⟨g, 0, none⟩) zs.length c := by
    rcases ho'.2 with ⟨_, h2⟩ | ⟨g, c, _, h1, _⟩
    · rw [HL.out] at h2; omega
    · exact ⟨g, c, h1⟩
  have fin : Cloned w zs (.returned (.slice (some ⟨g, 0, none⟩) zs.length c)) w4 := ⟨g, c, rfl, ho', hb⟩
  have FIN := Lib.hid fin
  clear ho hg hs4 ho' hb fin
  go_wp2
  go_ret
  exact FIN.out
/-- what New returns for balances that may be -/
def NewYes (w : World) (len : Nat) (f : Nat → Int) (e : Ending) (w' : World) : Prop :=
  ∃ p B mb cap, e = .returned (.pointer (some ⟨p, 0, none⟩)) ∧ Pu p B mb len cap f [] w' ∧ Below w.heap.size w w' ∧ w.heap.size ≤ p ∧ w.heap.size ≤ B ∧ w.heap.size ≤ mb
theorem sumB_list : ∀ (zs : List Int) , sumB (fun i => zs.getD i 0) zs.length = zs.sum := by
  intro zs
  have key : ∀ (k : Nat), k ≤ zs.length → sumB (fun i => zs.getD i 0) k = (zs.take k).sum := by
    intro k
    induction k with
    | zero => intro _; simp [sumB]
    | succ k ih =>
      intro hk
      show sumB (fun i => zs.getD i 0) k + zs.getD k 0 = _
      rw [ih (by omega), List.take_add_one, List.sum_append, List.getElem?_eq_getElem (by omega), List.getD_eq_getElem?_getD, List.getElem?_eq_getElem (show k < zs.length by omega)]
      simp
  have := key zs.length (Nat.le_refl _)
  rwa [List.take_of_length_le (Nat.le_refl _)] at this
end Go.Proofs.YtdebnbgjgkbmaaaGreatDoor.Pu
-- fixed
namespace Go.Proofs.YtdebnbgjgkbmaaaGreatDoor.Pu
open Go.RowKit
set_option linter.unusedVariables false
theorem own_cur {w : World} {base g n cap : Nat} {zs : List Int} (h : w.ownsRow base 27 1 (.slice (some ⟨g, 0, none⟩) n cap) n (zs.map (Value.int .u64))) (hz : zs.length = n) : base ≤ g ∧ n ≤ cap ∧ ∃ cur, M.RowAt w g 27 cur ∧ ∀ i, i < n → cur[i]? = some (.int .u64 (zs.getD i 0)) := by
  rcases h.2 with ⟨h1, _⟩ | ⟨g', c', cur, h1, h2, h3, h4, _, _, h5⟩
  · cases h1
  · cases h1
    refine ⟨h2, h4, cur, h3, fun i hi => ?_⟩
    have h6 := congrArg (fun l => l[i]?) h5
    simp only [Nat.mul_one, List.getElem?_take, if_pos hi, List.getElem?_map, Array.getElem?_toList] at h6
    rw [h6, List.getD_eq_getElem?_getD, List.getElem?_eq_getElem (by omega)]; rfl
set_option maxRecDepth 100000 in
set_option maxHeartbeats 4000000 in
theorem new_yes (pa : Option Addr) (len cap : Nat) (zs : List Int) (w : World) (h : URow w pa len zs) (h1 : 1 ≤ len) (h2 : len ≤ 32) (h3 : zs.sum ≤ Am.mx) : Calls Tryz.prog 52 #[.slice pa len cap] w (NewYes w len (fun i => zs.getD i 0)) := by
  obtain ⟨q, hq⟩ : ∃ q, w.heap.size = q := ⟨_, rfl⟩
  have HQ := Lib.hid hq
  have hl := h.lens
  have hf := h.fits
  have add := add_any pa len cap zs w h
  rw [show Am.addF zs = (zs.sum, 0) by unfold Am.addF; rw [if_pos h3]] at add
  have cl := clone_any pa len cap zs w h (by omega) (by omega)
  have inv : Inv len (fun i => zs.getD i 0) [] := by
    refine ⟨h1, h2, fun i => ?_, fun e he => (by cases he), by decide, ?_⟩
    · show 0 ≤ zs.getD i 0
      rw [List.getD_eq_getElem?_getD]
      cases hz : zs[i]? with
      | none => exact Int.le_refl _
      | some z => exact (hf z (List.mem_of_getElem? hz)).1
    · have := sumB_list zs
      rw [hl] at this
      rw [this]; show zs.sum + 0 ≤ _; omega
  have fin : ∀ (g cp : Nat) (w1 : World), w1.ownsRow q 27 1 (.slice (some ⟨g, 0, none⟩) len cp) len (zs.map (Value.int .u64)) → Below q w w1 → q ≤ w1.heap.size → NewYes w len (fun i => zs.getD i 0) (.returned (.pointer (some ⟨w1.heap.size + 1, 0, none⟩))) ((w1.alloc (.map #[] 0)).alloc (.cells #[.slice (some ⟨g, 0, none⟩) len cp, .map (some w1.heap.size)] 252)) := by
    intro g cp w1 ho hb hs
    obtain ⟨e1, e2, cur, hr, hc⟩ := own_cur ho hl
    have hg := hr.lt
    refine ⟨w1.heap.size + 1, g, w1.heap.size, cp, rfl, ⟨?_, ⟨cur, (hr.alloc _).alloc _, hc⟩, (IM.new KR mkR w1).alloc _, ⟨by omega, by omega, by omega⟩, e2, inv⟩, ?_, by rw [hq]; omega, by rw [hq]; omega, by rw [hq]; omega⟩
    · have := M.RowAt.new (w1.alloc (.map #[] 0)) 252 #[.slice (some ⟨g, 0, none⟩) len cp, .map (some w1.heap.size)]
      rwa [World.size_alloc] at this
    · rw [hq]; exact (hb.alloc hs _).alloc (by simp; omega) _
  unfold Cloned at cl
  rw [hl, hq] at cl
  have ADD := Lib.hid add; have CL := Lib.hid cl; have FIN := Lib.hid fin
  have d1 : decide ((len : Int) < 1) = false := by simp; omega
  have d2 : decide ((32 : Int) < (len : Int)) = false := by simp; omega
  have d1' : decide (len < 1) = false := by simp; omega
  have d2' : decide (32 < len) = false := by simp; omega
  have hmm := @run_makeMap Tryz.prog
  clear add cl fin inv hf h h3
  go_enter Tryz.func52, Tryz.ntmps52
  go_wp2_with fail
  refine (ADD.out).mono ?_
  rintro e w1 ⟨rfl, rfl⟩
  go_wp2_with fail
  refine (CL.out).mono ?_
  rintro e w1 ⟨g, cp, rfl, ho, hb⟩
  have f1 := FIN.out g cp w1 ho hb (by rw [← HQ.out]; exact (by have := hb.size; rw [HQ.out] at *; exact this))
  have F1 := Lib.hid f1
  clear ho hb f1
  go_wp2
  go_ret
  exact F1.out
set_option maxRecDepth 100000 in
theorem new_out (pa : Option Addr) (len cap : Nat) (w : World) (h : len < 1 ∨ 32 < len) : Calls Tryz.prog 52 #[.slice pa len cap] w fun e w' => e = .returned (.pointer none) ∧ w = w' := by
  rcases h with h | h
  · have d1 : decide ((len : Int) < 1) = true := by simp; omega
    have d1' : decide (len < 1) = true := by simp; omega
    obtain rfl : len = 0 := by omega
    go_enter Tryz.func52, Tryz.ntmps52
    go_wp2
    go_ret
    exact ⟨rfl, rfl⟩
  · have d1 : decide ((len : Int) < 1) = false := by simp; omega
    have d2 : decide ((32 : Int) < (len : Int)) = true := by simp; omega
    have d1' : decide (len < 1) = false := by simp; omega
    have d2' : decide (32 < len) = true := by simp; omega
    go_enter Tryz.func52, Tryz.ntmps52
    go_wp2
    go_ret
    exact ⟨rfl, rfl⟩
set_option maxRecDepth 100000 in
theorem new_sum (pa : Option Addr) (len cap : Nat) (zs : List Int) (w : World) (h : URow w pa len zs) (h1 : 1 ≤ len) (h2 : len ≤ 32) (h3 : ¬ zs.sum ≤ Am.mx) : Calls Tryz.prog 52 #[.slice pa len cap] w fun e w' => e = .returned (.pointer none) ∧ w = w' := by
  have add := add_any pa len cap zs w h
  rw [show Am.addF zs = (0, 60) by unfold Am.addF; rw [if_neg h3]] at add
  have ADD := Lib.hid add
  have d1 : decide ((len : Int) < 1) = false := by simp; omega
  have d2 : decide ((32 : Int) < (len : Int)) = false := by simp; omega
  have d1' : decide (len < 1) = false := by simp; omega
  have d2' : decide (32 < len) = false := by simp; omega
  clear add h h3
  go_enter Tryz.func52, Tryz.ntmps52
  go_wp2_with fail
  refine (ADD.out).mono ?_
  rintro e w1 ⟨rfl, rfl⟩
  go_wp2
  go_ret
  exact ⟨rfl, rfl⟩
end Go.Proofs.YtdebnbgjgkbmaaaGreatDoor.Pu
-- fixed
namespace Go.Proofs.YtdebnbgjgkbmaaaGreatDoor.Pu
open Go.RowKit
set_option linter.unusedVariables false
theorem urow_of {w : World} {p : Option Addr} {len cap : Nat} {zs : List Int} (h : RowK.IsRow .u64 w p len cap zs) : URow w p len (zs.take len) := by
  obtain ⟨b, off, _, h2, h3, h4, hm, h5, h6⟩ := h.plain
  unfold maxLen at hm
  refine ⟨by simp; omega, by omega, fun z hz => RowK.wf_u64 (h6 z (List.mem_of_mem_take hz)), b, off, h2, fun j hj => ?_⟩
  rw [h5 j hj]
  simp [List.getD_eq_getElem?_getD, List.getElem?_take_of_lt hj]
theorem sum_nn : ∀ {zs : List Int}, (∀ z ∈ zs, 0 ≤ z) → 0 ≤ zs.sum
  | [], _ => by simp
  | z :: zs, h => by
    have h1 := h z List.mem_cons_self
    have h2 := sum_nn (zs := zs) (fun y hy => h y (List.mem_cons_of_mem _ hy))
    simp; omega
theorem head_le {zs : List Int} (h : ∀ z ∈ zs, 0 ≤ z) : 0 ≤ zs.getD 0 0 ∧ zs.getD 0 0 ≤ zs.sum := by
  cases zs with
  | nil => simp
  | cons z zs =>
    have h1 := h z List.mem_cons_self
    have h2 := sum_nn (zs := zs) (fun y hy => h y (List.mem_cons_of_mem _ hy))
    simp; omega
set_option maxRecDepth 100000 in
set_option maxHeartbeats 4000000 in
theorem amounts_long (pa : Option Addr) (len cap : Nat) (w : World) (hl : 30 < len) (sh : ∀ v, Below w.heap.size w v → Calls Tryz.prog 17 #[] v fun e w' => e = .returned (.bool true) ∧ Below v.heap.size v w') :
    Calls Tryz.prog 10 #[.slice pa len cap] w fun e w' => e = .returned (.bool true) ∧ Below w.heap.size w w' := by
  have SH := Lib.hid sh
  clear sh
  go_enter Tryz.func10, Tryz.ntmps10
  go_wp2_with fail
  refine (SH.out _ (Below.refl _ _)).mono ?_
  rintro e w1 ⟨rfl, g1⟩
  go_wp2
  go_ret
  exact ⟨rfl, g1⟩
set_option maxRecDepth 100000 in
set_option maxHeartbeats 8000000 in
theorem amounts_walk (pa : Option Addr) (len cap : Nat) (zs : List Int) (w : World) (ur : URow w pa len zs) (hl : len ≤ 30) (sh : ∀ v, Below w.heap.size w v → Calls Tryz.prog 17 #[] v fun e w' => e = .returned (.bool true) ∧ Below v.heap.size v w') :
    Calls Tryz.prog 10 #[.slice pa len cap] w fun e w' => e = .returned (.bool true) ∧ Below w.heap.size w w' := by
  obtain ⟨n, hn⟩ : ∃ n, w.heap.size = n := ⟨_, rfl⟩
  have HN := Lib.hid hn
  have SH := Lib.hid sh
  have d1 : decide ((30 : Int) < (len : Int)) = false := by simp; omega
  have d1' : decide (30 < len) = false := by simp; omega
  have hfit := ur.fits
  have hnn : ∀ z ∈ zs, 0 ≤ z := fun z hz => (hfit z hz).1
  have hlen := ur.lens
  obtain ⟨S, hS⟩ : ∃ S, zs.sum = S := ⟨_, rfl⟩
  have hS0 : 0 ≤ S := hS ▸ sum_nn hnn
  have UR := Lib.hid ur
  by_cases h0 : len = 0
  · have hz : zs = [] := List.length_eq_zero_iff.1 (by omega)
    subst hz
    subst h0
    have hS' : S = 0 := by rw [← hS]; rfl
    have ad := fun v (hv : URow v pa 0 []) => add_any pa 0 cap [] v hv
    rw [show Am.addF [] = (0, 0) from addF_yes rfl (by decide)] at ad
    have nw := fun v => new_out pa 0 cap v (.inl (by decide))
    have AD := Lib.hid ad; have NW := Lib.hid nw
    clear ad nw sh hfit hnn
    go_enter Tryz.func10, Tryz.ntmps10
    go_wp2_with fail
    refine (SH.out _ (Below.refl _ _)).mono ?_
    rintro e w1 ⟨rfl, g1⟩
    have u1 := UR.out.below g1
    go_wp2_with fail
    refine (AD.out _ u1).mono ?_
    rintro e w2 ⟨rfl, rfl⟩
    go_wp2_with fail
    refine (NW.out _).mono ?_
    rintro e w2 ⟨rfl, rfl⟩
    go_wp2
    go_ret
    exact ⟨rfl, g1⟩
  have dl : ((len : Int) == 0) = false := by simp; omega
  by_cases hm : S ≤ 1125899906842624
  · have ad := fun v (hv : URow v pa len zs) => add_any pa len cap zs v hv
    rw [addF_yes hS hm] at ad
    have nw := fun v (hv : URow v pa len zs) => new_yes pa len cap zs v hv (by omega) (by omega) (by rw [hS]; exact hm)
    unfold NewYes at nw
    have hb := sumB_list zs
    rw [hS, hlen] at hb
    obtain ⟨ho0, hoS⟩ := head_le hnn
    rw [hS] at hoS
    obtain ⟨b, off, hp, hc⟩ := ur.cells
    have hpa := hp.resolve_left h0
    have hc0 := hc 0 (by omega)
    obtain ⟨o, hoo⟩ : ∃ o, zs.getD 0 0 = o := ⟨_, rfl⟩
    rw [hoo] at ho0 hoS hc0
    have tot := fun p B mb c v (hv : Pu p B mb len c (fun i => zs.getD i 0) [] v) => total_any hv
    have ht : sumB (fun i => zs.getD i 0) len + sumR [] = S := by rw [hb]; show S + 0 = S; omega
    rw [ht] at tot
    have HC := Lib.hid hc0
    have AD := Lib.hid ad; have NW := Lib.hid nw; have TOT := Lib.hid tot
    have dm : decide (S ≤ 1125899906842624) = true := by simpa using hm
    have hbl : b < n := by
      rw [← hn]
      rcases Nat.lt_or_ge b w.heap.size with h | h
      · exact h
      · have : w.cell? ⟨b, off + 0, none⟩ = none := by unfold World.cell?; simp [Array.getElem?_eq_none h]
        rw [this] at hc0; cases hc0
    have HB := Lib.hid hbl
    subst hpa
    clear hc hp hb ht tot nw ad sh hfit hnn hbl hoo
    by_cases hp0 : S = 0
    · have ho : o = 0 := by omega
      subst hp0
      subst ho
      have cn := fun v => chnew_no 0 v
      unfold X119 at cn
      have CN := Lib.hid cn
      clear cn hc0
      go_enter Tryz.func10, Tryz.ntmps10
      go_wp2_with fail
      refine (SH.out _ (Below.refl _ _)).mono ?_
      rintro e w1 ⟨rfl, g1⟩
      have u1 := UR.out.below g1
      have hc1 : w1.cell? ⟨b, off + 0, none⟩ = some (.int .u64 0) := by rw [g1.cell (show b < w.heap.size by rw [hn]; exact HB.out)]; exact HC.out
      have s1 := g1.size
      go_wp2_with fail
      refine (AD.out _ u1).mono ?_
      rintro e w2 ⟨rfl, rfl⟩
      go_wp2_with fail
      refine (NW.out _ u1).mono ?_
      rintro e w2 ⟨p, B, mb, c, rfl, pu, g2, _, _, _⟩
      have hc2 : w2.cell? ⟨b, off, none⟩ = some (.int .u64 0) := by rw [g2.cell (p := ⟨b, off, none⟩) (show b < w1.heap.size by have := HB.out; omega)]; exact hc1
      have PU := Lib.hid pu
      have G := Lib.hid (g1.trans (g2.mono s1))
      clear u1 g1 g2 hc1 s1 pu
      go_wp2_with fail
      refine (CN.out _).mono ?_
      rintro e w3 ⟨rfl, g3⟩
      have pu3 := PU.out.same g3
      have G3 := Lib.hid (G.out.trans (g3.mono G.out.size))
      clear G g3 hc2
      go_wp2_with fail
      refine (TOT.out _ _ _ _ _ pu3).mono ?_
      rintro e w4 ⟨rfl, g4⟩
      have G4 := Lib.hid (G3.out.trans (g4.mono G3.out.size))
      clear G3 g4 pu3
      go_wp2
      go_ret
      exact ⟨rfl, G4.out⟩
    · have hp1 : 1 ≤ S := by omega
      have cn := fun v => chnew_yes S o v hp1 hm ho0 hoS
      unfold X119 at cn
      have CN := Lib.hid cn
      have dS : decide (0 < S) = true := by simp; omega
      clear cn hc0
      go_enter Tryz.func10, Tryz.ntmps10
      go_wp2_with fail
      refine (SH.out _ (Below.refl _ _)).mono ?_
      rintro e w1 ⟨rfl, g1⟩
      have u1 := UR.out.below g1
      have hc1 : w1.cell? ⟨b, off + 0, none⟩ = some (.int .u64 o) := by rw [g1.cell (show b < w.heap.size by rw [hn]; exact HB.out)]; exact HC.out
      have s1 := g1.size
      go_wp2_with fail
      refine (AD.out _ u1).mono ?_
      rintro e w2 ⟨rfl, rfl⟩
      go_wp2_with fail
      refine (NW.out _ u1).mono ?_
      rintro e w2 ⟨p, B, mb, c, rfl, pu, g2, _, _, _⟩
      have hc2 : w2.cell? ⟨b, off, none⟩ = some (.int .u64 o) := by rw [g2.cell (p := ⟨b, off, none⟩) (show b < w1.heap.size by have := HB.out; omega)]; exact hc1
      have PU := Lib.hid pu
      have G := Lib.hid (g1.trans (g2.mono s1))
      clear u1 g1 g2 hc1 s1 pu
      go_wp2_with fail
      refine (CN.out _).mono ?_
      rintro e w3 ⟨⟨ca, rfl⟩, g3⟩
      have pu3 := PU.out.same g3
      have G3 := Lib.hid (G.out.trans (g3.mono G.out.size))
      clear G g3 hc2
      go_wp2_with fail
      refine (TOT.out _ _ _ _ _ pu3).mono ?_
      rintro e w4 ⟨rfl, g4⟩
      have G4 := Lib.hid (G3.out.trans (g4.mono G3.out.size))
      clear G3 g4 pu3
      go_wp2
      go_ret
      exact ⟨rfl, G4.out⟩
  · have ad := fun v (hv : URow v pa len zs) => add_any pa len cap zs v hv
    rw [addF_no hS hm] at ad
    have nw := fun v (hv : URow v pa len zs) => new_sum pa len cap zs v hv (by omega) (by omega) (by rw [hS]; exact hm)
    have AD := Lib.hid ad; have NW := Lib.hid nw
    clear ad nw sh hfit hnn
    go_enter Tryz.func10, Tryz.ntmps10
    go_wp2_with fail
    refine (SH.out _ (Below.refl _ _)).mono ?_
    rintro e w1 ⟨rfl, g1⟩
    have u1 := UR.out.below g1
    go_wp2_with fail
    refine (AD.out _ u1).mono ?_
    rintro e w2 ⟨rfl, rfl⟩
    go_wp2_with fail
    refine (NW.out _ u1).mono ?_
    rintro e w2 ⟨rfl, rfl⟩
    go_wp2
    go_ret
    exact ⟨rfl, g1⟩
end Go.Proofs.YtdebnbgjgkbmaaaGreatDoor.Pu
namespace Go.Proofs.YtdebnbgjgkbmaaaGreatDoor
open Go.RowKit
set_option linter.unusedVariables false
theorem amounts_lst : SX.Lst Rows.topAmountsRow.laid := by
  refine ⟨?_, ?_, ?_, ?_, ?_⟩ <;> simp [Rows.topAmountsRow]
theorem walk_TopAmounts (pa : Option Addr) (len cap : Nat) (zs : List Int) {W : World} (hrow : RowK.IsRow .u64 W pa len cap zs) (hsh : W.ShapedOpen Tryz.prog) (hL : laidMetH Tryz.prog Rows.topAmountsRow.laid W) :
    Calls Tryz.prog 10 #[.slice pa len cap] W fun e W' => e = .returned (.bool true) ∧ Below W.heap.size W W' := by
  have g := SX.glb_of hsh hL amounts_lst
  have sh : ∀ v, Below W.heap.size W v → Calls Tryz.prog 17 #[] v fun e w' => e = .returned (.bool true) ∧ Below v.heap.size v w' := fun v hb => SX.shown_any v (g.below hb g.lt)
  by_cases hl : len ≤ 30
  · exact Pu.amounts_walk pa len cap _ W (Pu.urow_of hrow) hl sh
  · exact Pu.amounts_long pa len cap W (by omega) sh
end Go.Proofs.YtdebnbgjgkbmaaaGreatDoor
namespace Go.Proofs.YtdebnbgjgkbmaaaGreatDoor.Wit9d6a22
set_option maxRecDepth 100000
noncomputable def laidWorld (os : Os) : World :=
  { World.holding Tryz.prog os ⟨#[], #[], []⟩ with heap := (((((((((((((World.holding Tryz.prog os ⟨#[], #[], []⟩).heap).modify 5 fun
    | .cells _ t frozen => .cells #[.int .u8 0, .int .u8 1, .int .u8 28, .int .u8 2, .int .u8 29, .int .u8 14, .int .u8 24, .int .u8 3, .int .u8 30, .int .u8 22, .int .u8 20, .int .u8 15, .int .u8 25, .int .u8 17, .int .u8 4, .int .u8 8, .int .u8 31, .int .u8 27, .int .u8 13, .int .u8 23, .int .u8 21, .int .u8 19, .int .u8 16, .int .u8 7, .int .u8 26, .int .u8 12, .int .u8 18, .int .u8 6, .int .u8 11, .int .u8 5, .int .u8 10, .int .u8 9] t frozen
    | o => o)).modify 6 fun
    | .cells _ t frozen => .cells #[.int .u8 0, .int .u8 1, .int .u8 56, .int .u8 2, .int .u8 57, .int .u8 49, .int .u8 28, .int .u8 3, .int .u8 61, .int .u8 58, .int .u8 42, .int .u8 50, .int .u8 38, .int .u8 29, .int .u8 17, .int .u8 4, .int .u8 62, .int .u8 47, .int .u8 59, .int .u8 36, .int .u8 45, .int .u8 43, .int .u8 51, .int .u8 22, .int .u8 53, .int .u8 39, .int .u8 33, .int .u8 30, .int .u8 24, .int .u8 18, .int .u8 12, .int .u8 5, .int .u8 63, .int .u8 55, .int .u8 48, .int .u8 27, .int .u8 60, .int .u8 41, .int .u8 37, .int .u8 16, .int .u8 46, .int .u8 35, .int .u8 44, .int .u8 21, .int .u8 52, .int .u8 32, .int .u8 23, .int .u8 11, .int .u8 54, .int .u8 26, .int .u8 40, .int .u8 15, .int .u8 34, .int .u8 20, .int .u8 31, .int .u8 10, .int .u8 25, .int .u8 14, .int .u8 19, .int .u8 9, .int .u8 13, .int .u8 8, .int .u8 7, .int .u8 6] t frozen
    | o => o)).modify 0 fun
    | .cells _ t frozen => .cells #[.int .u32 1779033703, .int .u32 3144134277, .int .u32 1013904242, .int .u32 2773480762, .int .u32 1359893119, .int .u32 2600822924, .int .u32 528734635, .int .u32 1541459225] t frozen
    | o => o)).modify 4 fun
    | .cells _ t frozen => .cells #[.int .u32 1116352408, .int .u32 1899447441, .int .u32 3049323471, .int .u32 3921009573, .int .u32 961987163, .int .u32 1508970993, .int .u32 2453635748, .int .u32 2870763221, .int .u32 3624381080, .int .u32 310598401, .int .u32 607225278, .int .u32 1426881987, .int .u32 1925078388, .int .u32 2162078206, .int .u32 2614888103, .int .u32 3248222580, .int .u32 3835390401, .int .u32 4022224774, .int .u32 264347078, .int .u32 604807628, .int .u32 770255983, .int .u32 1249150122, .int .u32 1555081692, .int .u32 1996064986, .int .u32 2554220882, .int .u32 2821834349, .int .u32 2952996808, .int .u32 3210313671, .int .u32 3336571891, .int .u32 3584528711, .int .u32 113926993, .int .u32 338241895, .int .u32 666307205, .int .u32 773529912, .int .u32 1294757372, .int .u32 1396182291, .int .u32 1695183700, .int .u32 1986661051, .int .u32 2177026350, .int .u32 2456956037, .int .u32 2730485921, .int .u32 2820302411, .int .u32 3259730800, .int .u32 3345764771, .int .u32 3516065817, .int .u32 3600352804, .int .u32 4094571909, .int .u32 275423344, .int .u32 430227734, .int .u32 506948616, .int .u32 659060556, .int .u32 883997877, .int .u32 958139571, .int .u32 1322822218, .int .u32 1537002063, .int .u32 1747873779, .int .u32 1955562222, .int .u32 2024104815, .int .u32 2227730452, .int .u32 2361852424, .int .u32 2428436474, .int .u32 2756734187, .int .u32 3204031479, .int .u32 3329325298] t frozen
    | o => o)).modify 7 fun
    | .cells _ t frozen => .cells #[.int .i64 3, .int .i64 4, .int .i64 1, .int .i64 2, .int .i64 0, .int .i64 1, .int .i64 2, .int .i64 3, .int .i64 4, .int .i64 0, .int .i64 1, .int .i64 2, .int .i64 3, .int .i64 4, .int .i64 0, .int .i64 3, .int .i64 4, .int .i64 1, .int .i64 2, .int .i64 0] t frozen
    | o => o)).modify 3 fun
    | .cells _ t frozen => .cells #[.int .i64 1, .int .i64 7, .int .i64 3, .int .i64 5] t frozen
    | o => o) }
theorem vars (os : Os) (args : Array Value) : ((laidWorld os).forCall (fun _ _ => 0) ⟨#[], args, []⟩).variablesB Tryz.checked.prog = true := by kernel_rfl
theorem rest (os : Os) (args : Array Value) : (((laidWorld os).forCall (fun _ _ => 0) ⟨#[], args, []⟩).heap.toList.drop Tryz.checked.prog.globals.size).take ((begin Tryz.checked.prog (fun _ _ => 0) default).world.heap.size - Tryz.checked.prog.globals.size) =
      (begin Tryz.checked.prog (fun _ _ => 0) default).world.heap.toList.drop Tryz.checked.prog.globals.size := by kernel_rfl
def laid : List (String × DataW Unit) := [("math/bits.deBruijn32tab", Rows.laid_math_bits_deBruijn32tab), ("math/bits.deBruijn64tab", Rows.laid_math_bits_deBruijn64tab), ("remitter/digest.begin", Rows.laid_remitter_digest_begin), ("remitter/digest.table", Rows.laid_remitter_digest_table), ("remitter/htlc.events", Rows.laid_remitter_htlc_events), ("remitter/htlc.spans", Rows.laid_remitter_htlc_spans)]
theorem met (os : Os) (args : Array Value) : laidMet Tryz.prog laid ((laidWorld os).forCall (fun _ _ => 0) ⟨#[], args, []⟩).memory :=
  laidMet_of_run' 8 (by kernel_rfl) (by kernel_rfl)
end Go.Proofs.YtdebnbgjgkbmaaaGreatDoor.Wit9d6a22
