/- What the claim rests on, part 1 of KHs: only what is used, joined; the conditions are those of each theorem. -/
import Derived.ArgAppend
import Derived.Below
import Derived.BigQuiet
import Derived.Calls
import Derived.Carry
import Derived.ChangeKeysEq
import Derived.ChangeOld
import Derived.Deep.AppendLies
import Derived.Deep.AppendSrc
import Derived.Deep.DeepHandedRow
import Derived.Deep.LoopGhost
import Derived.Deep.MidRow
import Derived.Deep.Onto
import Derived.Deep.QuietTactic
import Derived.Deep.RegionHeld3
import Derived.Deep.RegionWith
import Derived.Deep.Slices
import Derived.Deep.WholeRow
import Derived.DeepKeys
import Derived.DeepKeys3
import Derived.DeepKeys4
import Derived.Defers
import Derived.KernelRfl
import Derived.Laws.AppendOwn
import Derived.Laws.Bits64b
import Derived.Laws.BitsAllLaws
import Derived.Laws.BytesArg
import Derived.Laws.BytesString
import Derived.Laws.EntriesVeiled
import Derived.Laws.MakeOwn
import Derived.Laws.OwnMore
import Derived.Laws.Rows
import Derived.Laws.Tables
import Derived.Lib.BufferWrite
import Derived.Lib.Builder
import Derived.Lib.ConvBytes
import Derived.Lib.FrozenHead2
import Derived.Lib.Hide
import Derived.Lib.LaidTab
import Derived.Lib.Mul64
import Derived.Lib.SlFresh
import Derived.Lib.Strings
import Derived.Lib.TrailingZeros
import Derived.Lib.UnsafeStr
import Derived.LoopIn
import Derived.LoopNIn
import Derived.Maps.Keyed
import Derived.Maps.RangeWalk
import Derived.OpenShut
import Derived.Orders
import Derived.Outline
import Derived.OwnWalk
import Derived.OwnWalkIn
import Derived.ProofKit
import Derived.RangeFuncBound
import Derived.RangeFuncCalls
import Derived.RangeFuncFrom
import Derived.RangeFuncLeaves
import Derived.RangeFuncNested
import Derived.Recover
import Derived.Shelf.Abstract
import Derived.Shelf.RegionOpen
import Derived.Shelf.RegionOpenPlain
import Derived.Shelf.Spec.SlicesInsert
import Derived.Shelf.Strings.OnBuilder
import Derived.ShutString
import Derived.StillTailTactics
import Derived.TacticsInMore
import Derived.Test.YtdebnbgjgkbmaaaGreatDoorProg
import Derived.Test.YtdebnbgjgkbmaaaGreatDoorRows
import Derived.WalkKit
import Derived.WalkLawsBesides
import Derived.WalkSpells
import Derived.Test.YtdebnbgjgkbmaaaGreatDoorK4
namespace Go.Proofs.YtdebnbgjgkbmaaaGreatDoor
namespace Sha
set_option linter.unusedVariables false
theorem big0_lt {x : Nat} (h : x < 4294967296) : big0 x < 4294967296 := xor_lt (xor_lt (rot_lt h (by omega)) (rot_lt h (by omega))) (rot_lt h (by omega))
theorem maj_lt {a b c : Nat} (h : a < 4294967296) (hb : b < 4294967296) : maj a b c < 4294967296 := xor_lt (xor_lt (and_lt h) (and_lt h)) (and_lt hb)
end Sha
end Go.Proofs.YtdebnbgjgkbmaaaGreatDoor
namespace Go.Proofs.YtdebnbgjgkbmaaaGreatDoor
open Go.RowKit
set_option linter.unusedVariables false
theorem rot_zero (x : Nat) : Sha.rot x 0 = x := by unfold Sha.rot; rw [Nat.pow_zero, Nat.mod_one, Nat.zero_mul, Nat.div_one, Nat.add_zero]
theorem rot_succ (x n : Nat) (hn : n < 32) : Sha.rot x n / 2 + Sha.rot x n % 2 * 2147483648 = Sha.rot x (n + 1) := by
  unfold Sha.rot
  have hp : 0 < 2 ^ n := Nat.two_pow_pos n
  have e1 : 2 ^ (32 - n) = 2 * 2 ^ (31 - n) := by rw [show 32 - n = 31 - n + 1 by omega, Nat.pow_succ, Nat.mul_comm]
  have e2 : x / 2 ^ (n + 1) = x / 2 ^ n / 2 := by rw [Nat.pow_succ, Nat.div_div_eq_div_mul]
  have e3 : x % 2 ^ (n + 1) = x % 2 ^ n + 2 ^ n * (x / 2 ^ n % 2) := by rw [Nat.pow_succ]; exact Nat.mod_mul
  have e4 : 2 ^ n * 2 ^ (31 - n) = 2147483648 := by rw [← Nat.pow_add, show n + (31 - n) = 31 by omega]
  rw [e1, e2, e3, show 32 - (n + 1) = 31 - n by omega]
  generalize x / 2 ^ n = q at *
  generalize x % 2 ^ n = r at *
  generalize 2 ^ (31 - n) = P at *
  have h1 : (r + 2 ^ n * (q % 2)) * P = r * P + q % 2 * 2147483648 := by
    rw [Nat.add_mul, Nat.mul_comm (2 ^ n) (q % 2), Nat.mul_assoc, e4]
  have h2 : r * (2 * P) = 2 * (r * P) := by rw [Nat.mul_left_comm]
  rw [h1, h2]
  generalize r * P = m
  omega
set_option maxRecDepth 100000 in
set_option maxHeartbeats 1000000 in
theorem turn_any (x n : Nat) (w : World) (hx : x < 4294967296) (hn : n ≤ 32) :
    Calls Tryz.prog 285 #[.int .u64 (x : Nat), .int .i64 (n : Nat)] w fun e w' => e = .returned (.int .u64 (Sha.rot x n : Nat)) ∧ w = w' := by
  go_enter Tryz.func285, Tryz.ntmps285
  go_wp2
  go_loop [0, 5] (fun a i => ∃ k : Nat, k ≤ n ∧ i = .int .i64 k ∧ a = .int .u64 (Sha.rot x k : Nat)) (fun _ i => n - (intOf i).toNat)
  case atStart => exact ⟨0, by omega, rfl, by rw [rot_zero]⟩
  case round =>
    obtain ⟨k, hk, rfl, rfl⟩ := hrel
    by_cases hlt : k < n
    · have hs := rot_succ x k (by omega)
      have hr := Sha.rot_lt hx (show k ≤ 32 by omega)
      have HS := Lib.hid hs; clear hs
      generalize Sha.rot x k = r at *
      go_wp2
      go_round
      case rel => exact ⟨k + 1, by omega, by go_num, by rw [← HS.out]; congr 1⟩
      case measure => simp [intOf]; omega
    · obtain rfl : k = n := by omega
      go_wp2
      go_ret
      exact ⟨rfl, rfl⟩
set_option maxRecDepth 100000 in
set_option maxHeartbeats 1000000 in
theorem shift_any (x n : Nat) (w : World) (hx : x < 18446744073709551616) (hn : n ≤ 64) :
    Calls Tryz.prog 221 #[.int .u64 (x : Nat), .int .i64 (n : Nat)] w fun e w' => e = .returned (.int .u64 (x / 2 ^ n : Nat)) ∧ w = w' := by
  go_enter Tryz.func221, Tryz.ntmps221
  go_wp2
  go_loop [0, 5] (fun a i => ∃ k : Nat, k ≤ n ∧ i = .int .i64 k ∧ a = .int .u64 (x / 2 ^ k : Nat)) (fun _ i => n - (intOf i).toNat)
  case atStart => exact ⟨0, by omega, rfl, by rw [Nat.pow_zero, Nat.div_one]⟩
  case round =>
    obtain ⟨k, hk, rfl, rfl⟩ := hrel
    by_cases hlt : k < n
    · have hs : x / 2 ^ k / 2 = x / 2 ^ (k + 1) := by rw [Nat.pow_succ, Nat.div_div_eq_div_mul]
      have hr : x / 2 ^ k < 18446744073709551616 := Nat.lt_of_le_of_lt (Nat.div_le_self _ _) hx
      have HS := Lib.hid hs; clear hs
      generalize x / 2 ^ k = r at *
      go_wp2
      go_round
      case rel => exact ⟨k + 1, by omega, by go_num, by rw [← HS.out]; congr 1⟩
      case measure => simp [intOf]; omega
    · obtain rfl : k = n := by omega
      go_wp2
      go_ret
      exact ⟨rfl, rfl⟩
end Go.Proofs.YtdebnbgjgkbmaaaGreatDoor
namespace Go.Proofs.YtdebnbgjgkbmaaaGreatDoor
open Go.RowKit
set_option linter.unusedVariables false
/-- a row of one-cell elements, marked behind its end or not at all -/
def MarkRow (w : World) (base : Nat) (e : TypeId) (v : Value) (n : Nat) (xs : List Value) : Prop :=
  xs.length = n ∧ ∃ g cap cur lo hi, v = .slice (some ⟨g, 0, none⟩) n cap ∧ base ≤ g ∧ w.heap[g]? = some (.cells cur e (lo, hi)) ∧ (cap ≤ lo ∨ hi = 0) ∧ n ≤ cap ∧ cap ≤ maxLen ∧ cap ≤ cur.size ∧ cur.toList.take n = xs
theorem MarkRow.alloc {w : World} {base n : Nat} {e : TypeId} {v : Value} {xs : List Value} (h : MarkRow w base e v n xs) (o : Obj) : MarkRow (w.alloc o) base e v n xs := by
  obtain ⟨h0, g, cap, cur, lo, hi, h1, h2, h3, h4⟩ := h
  refine ⟨h0, g, cap, cur, lo, hi, h1, h2, ?_, h4⟩
  have hl := (Array.getElem?_eq_some_iff.1 h3).1
  rw [Below.heap_alloc w o g hl]; exact h3
theorem MarkRow.form {w : World} {base n : Nat} {e : TypeId} {v : Value} {xs : List Value} (h : MarkRow w base e v n xs) : ∃ g cap, v = .slice (some ⟨g, 0, none⟩) n cap := by
  obtain ⟨_, g, cap, _, _, _, h1, _⟩ := h
  exact ⟨g, cap, h1⟩
theorem MarkRow.lt {w : World} {base n : Nat} {e : TypeId} {v : Value} {xs : List Value} (h : MarkRow w base e v n xs) : ∀ k, v.ownBlock = some k → base ≤ k ∧ k < w.heap.size := by
  obtain ⟨_, g, cap, cur, _, _, rfl, h2, h3, _⟩ := h
  intro k hk
  have : g = k := by simpa [Value.ownBlock] using hk
  subst this
  exact ⟨h2, (Array.getElem?_eq_some_iff.1 h3).1⟩
theorem MarkRow.ofBytes {w : World} {base : Nat} (s : ByteArray) (hb : base ≤ w.heap.size) (hs : s.size ≤ maxLen) : MarkRow (Lib.bytesWorld w 5 s) base 5 (.slice (some ⟨w.heap.size, 0, none⟩) s.size (grownCap w s.size 0 5)) s.size (s.data.toList.map fun b => .int .u8 b.toNat) := by
  have hge := grownCap_ge w s.size 0 5
  refine ⟨by simp, w.heap.size, _, _, _, _, rfl, hb, Lib.bytesWorld_at_new w 5 s, ?_, hge, grownCap_le_maxLen w s.size 0 5 hs, ?_, ?_⟩
  · left; simp [Lib.bytesCells]; have : s.data.size = s.size := rfl; omega
  · simp [Lib.bytesCells]; have : s.data.size = s.size := rfl; omega
  · simp [Lib.bytesCells]
section
variable {P : Program}
theorem run_append_room1 (w : World) (t ty e : TypeId) (i : TypeInfo) (ht : P.underlying t = some (.slice e)) (hi : P.info? e = some i) (hsz : i.size = 1) (g n cap : Nat) (k : IntKind) (x : Int) (a : Addr) (c : Nat)
    (hx : w.cell? a = some (.int k x)) (u : Value) (hc : w.cell? ⟨g, n, none⟩ = some u) (hf : w.frozen? ⟨g, n, none⟩ = false) (hroom : n + 1 ≤ cap) :
    (Builtin.append_ #[t, t] ty #[.slice (some ⟨g, 0, none⟩) n cap, .slice (some a) 1 c]).run P w = .ok (.slice (some ⟨g, 0, none⟩) (n + 1) cap) (w.setCell ⟨g, n, none⟩ (.int k x)) := by
  simp [Builtin.append_, run_underlying ht, sizeOf, typeInfo, hi, Builtin.lenOf, hroom, hsz, hx, Addr.add_lit, storeCells, go_sem, hc, hf]
theorem run_append_mark (w : World) (base : Nat) (t ty e : TypeId) (i : TypeInfo) (z : Value) (ht : P.underlying t = some (.slice e)) (hi : P.info? e = some i) (hz : i.zero = some z) (hsize : i.size = 1) (hby : i.bytes = 1) (hzs : z.cells.size = 1)
    (v : Value) (n : Nat) (xs : List Value) (hown : MarkRow w base e v n xs) (a : Addr) (c : Nat) (k : IntKind) (x : Int) (hx : w.cell? a = some (.int k x)) (hn : n + 1 ≤ 140737488355328) (hbase : base ≤ w.heap.size) :
    ∃ v' w', (Builtin.append_ #[t, t] ty #[v, .slice (some a) 1 c]).run P w = .ok v' w' ∧ MarkRow w' base e v' (n + 1) (xs ++ [.int k x]) ∧ w.grownBy w' v.ownBlock := by
  obtain ⟨hl, g, cap, cur, lo, hi', rfl, hbg, hg, hfr, hnc, hcm, hcs, htk⟩ := hown
  have hcell : ∀ j, j < n → w.cell? ⟨g, j, none⟩ = xs[j]? := fun j hj => by
    unfold World.cell?
    rw [hg]
    simp only [Option.isSome_none, Bool.false_eq_true, if_false]
    rw [← htk, List.getElem?_take_of_lt hj, Array.getElem?_toList]
  by_cases hroom : n + 1 ≤ cap
  · have hc : ∃ u, w.cell? ⟨g, n, none⟩ = some u := by
      unfold World.cell?
      rw [hg]
      simp only [Option.isSome_none, Bool.false_eq_true, if_false]
      exact ⟨_, Array.getElem?_eq_getElem (by omega)⟩
    obtain ⟨u, hc⟩ := hc
    have hf : w.frozen? ⟨g, n, none⟩ = false := by
      unfold World.frozen?
      rw [hg]
      simp only [Bool.and_eq_false_iff, decide_eq_false_iff_not]
      omega
    refine ⟨_, _, run_append_room1 w t ty e i ht hi hsize g n cap k x a c hx u hc hf hroom, ⟨by simp [hl], g, cap, cur.setIfInBounds n (.int k x), lo, hi', rfl, hbg, ?_, hfr, hroom, hcm, by simpa using hcs, ?_⟩, ⟨rfl, rfl, rfl, by simp [World.setCell], fun j _ hj => ?_⟩⟩
    · simp [World.setCell, Array.getElem?_modify, hg]
    · have hlt : n < cur.size := by omega
      rw [Array.toList_setIfInBounds, List.take_set, List.take_succ_eq_append_getElem (by simpa using hlt), htk]
      rw [List.set_append_right _ _ (by omega), hl, Nat.sub_self]
      rfl
    · simp only [World.setCell, Array.getElem?_modify]
      rw [if_neg (fun h => hj (by simp [Value.ownBlock, h]))]
  · have hge := grownCap_ge w (n + 1) cap e
    have hr := run_append_grow (P := P) w t ty e i z ht hi hz ⟨g, 0, none⟩ n cap xs (by rw [hsize, hl, Nat.mul_one]) (fun j v hv => by
        rw [Addr.add_mid, Nat.zero_add, hcell j (by have := (List.getElem?_eq_some_iff.1 hv).1; omega)]; exact hv)
      a 1 c [.int k x] (by simp [hsize]) (fun j v hv => by
        match j with
        | 0 => simp at hv; subst hv; simpa [Addr.add] using hx
        | j + 1 => simp at hv) (by omega) (by omega) (by
        have := growslice_fits (need := n + 1) (old := cap) (bytes := 1) (by omega) (by omega)
        rw [hby]; exact this)
    refine ⟨_, _, hr, ⟨by simp [hl], w.heap.size, _, _, 0, 0, rfl, hbase, heap_alloc_new w.drew _, .inr rfl, hge, grownCap_le_maxLen w (n + 1) cap e (by unfold maxLen; omega), ?_, ?_⟩, ⟨rfl, rfl, rfl, by simp, fun j hj _ => Below.heap_alloc w.drew _ j hj⟩⟩
    · simp only [Array.size_append, List.size_toArray, size_zeroCells, hzs, hl, List.length_cons, List.length_nil]
      omega
    · simp only [Array.toList_append, List.append_assoc]
      rw [← List.append_assoc]
      exact List.take_left' (by simp [hl])
theorem wpList_append_mark (w : World) {ops : Array Oper} {rest : List Oper} {o : Oper} {a : Act} {Q : Exit → Act → World → Prop} (hgd : o.guard = none) (s x : Operand) (t : TypeId)
    (ho : o.op = .call { callee := .builtin .append, args := #[s, x], argTypes := #[t, t] })
    (base : Nat) (e : TypeId) (i : TypeInfo) (z : Value) (ht : P.underlying t = some (.slice e)) (hi : P.info? e = some i) (hz : i.zero = some z) (hsize : i.size = 1) (hby : i.bytes = 1) (hzs : z.cells.size = 1)
    (v : Value) (n : Nat) (xs : List Value) (hs : a.eval s = v) (hown : MarkRow w base e v n xs) (ad : Addr) (c : Nat) (k : IntKind) (y : Int) (hx : a.eval x = .slice (some ad) 1 c) (hc : w.cell? ad = some (.int k y)) (hn : n + 1 ≤ 140737488355328) (hbase : base ≤ w.heap.size)
    (hK : ∀ v' w', MarkRow w' base e v' (n + 1) (xs ++ [.int k y]) → w.grownBy w' v.ownBlock → wpList P ops Q rest (a.put o.dst v') w') : wpList P ops Q (o :: rest) a w := by
  refine wpList_plain hgd fun K hK' => ?_
  obtain ⟨v', w', hrun, r1, r2⟩ := run_append_mark (P := P) w base t o.type e i z ht hi hz hsize hby hzs v n xs hown ad c k y hc hn hbase
  unfold Oper.wp
  simp [execOp, ho, resolve, invoke, builtin, hs, hx, hrun, Result.andThen]
  exact hK' _ _ (hK v' w' r1 r2)
end
/-- .. turned into a text -/
theorem conv_mark {w : World} {base n : Nat} {v : Value} {l : List Nat} (h : MarkRow w base 5 v n (bytesV l)) : (convert 55 9 v).run Tryz.prog w = .ok (.string (Sha.bytesOfL l)) w := by
  obtain ⟨hlen, g, cap, cur, lo, hi, rfl, hb, hg, hf, hn, hm, hs, ht⟩ := h
  have hll : l.length = n := by simpa [bytesV_len] using hlen
  have e := run_convert_bytes_arg (P := Tryz.prog) w 55 5 Tryz.underlying55 Tryz.underlying5 g 0 n cap (l.map fun (n : Nat) => (n : Int)) (by simp [hll]) (fun i hi => ?_) 9 Tryz.underlying9
  · rw [strOf_bytes] at e; exact e
  · unfold World.cell?
    rw [hg]
    simp only [Option.isSome_none, Bool.false_eq_true, if_false]
    have e := congrArg (·[i]?) ht
    simp only [List.getElem?_take_of_lt hi, bytesV, List.getElem?_map] at e
    rw [Nat.zero_add, ← Array.getElem?_toList, e]
    have hi' : i < l.length := by omega
    simp [List.getD, List.getElem?_eq_getElem hi']
end Go.Proofs.YtdebnbgjgkbmaaaGreatDoor
namespace Go.Proofs.YtdebnbgjgkbmaaaGreatDoor
open Go.RowKit
set_option linter.unusedVariables false
theorem shift_int (x : Nat) (k : Int) (w : World) (hx : x < 18446744073709551616) (h0 : 0 ≤ k) (hk : k ≤ 64) :
    Calls Tryz.prog 221 #[.int .u64 (x : Nat), .int .i64 k] w fun e w' => e = .returned (.int .u64 (x / 2 ^ k.toNat : Nat)) ∧ w = w' := by
  obtain ⟨n, rfl⟩ := Int.eq_ofNat_of_zero_le h0
  exact shift_any x n w hx (by omega)
theorem bytesOfL_app (a b : List Nat) : Sha.bytesOfL (a ++ b) = Sha.bytesOfL a ++ Sha.bytesOfL b := by
  apply ByteArray.ext; simp [Sha.bytesOfL]
def natsOf (s : ByteArray) : List Nat := s.data.toList.map (·.toNat)
theorem bytesOfL_nats (s : ByteArray) : Sha.bytesOfL (natsOf s) = s := by
  apply ByteArray.ext
  simp only [Sha.bytesOfL, natsOf, List.map_map]
  have : ((fun n => UInt8.ofNat n) ∘ fun (x : UInt8) => x.toNat) = id := by funext x; simp
  rw [this, List.map_id]
theorem natsOf_len (s : ByteArray) : (natsOf s).length = s.size := by simp [natsOf]
theorem pad_eq (s : ByteArray) : Sha.pad s = Sha.bytesOfL (natsOf s ++ (128 :: (List.replicate (Sha.zeros s.size) 0 ++ len8 s.size 8))) := by
  rw [bytesOfL_app, bytesOfL_nats]; rfl
theorem new_one (w : World) (E : TypeId) (u : Value) : (w.alloc (.cells #[u] E)).cell? ⟨w.heap.size, 0, none⟩ = some u := (M.RowAt.new w E #[u]).cell 0
set_option maxRecDepth 100000 in
set_option maxHeartbeats 2000000 in
theorem rpad_any (s : ByteArray) (w : World) (hs : s.size ≤ 1000000000000) :
    Calls Tryz.prog 219 #[.string s] w fun e w' => e = .returned (.string (Sha.pad s)) ∧ Below w.heap.size w w' := by
  obtain ⟨i0, hi, hz0, hz1, hz2⟩ := info_parts info5
  obtain ⟨B, hB⟩ : ∃ B, w.heap.size = B := ⟨_, rfl⟩
  have hcs := fun W => Lib.run_convert_string_bytes (P := Tryz.prog) W 9 55 5 s Tryz.underlying9 Tryz.underlying55 Tryz.underlying5
  have o0 := MarkRow.ofBytes (w := w) (base := B) s (by omega) (by unfold maxLen; omega)
  have o1 : MarkRow (Lib.bytesWorld w 5 s) B 5 (.slice (some ⟨w.heap.size, 0, none⟩) s.size (grownCap w s.size 0 5)) s.size (bytesV (natsOf s)) := by
    have e : (s.data.toList.map fun b => Value.int .u8 b.toNat) = bytesV (natsOf s) := by simp [bytesV, natsOf]
    rw [← e]; exact o0
  have b1 : Below B w (Lib.bytesWorld w 5 s) := by
    refine ⟨rfl, rfl, rfl, by rw [Lib.bytesWorld_size]; omega, fun k hk => Lib.bytesWorld_at_old w 5 s k (by omega)⟩
  have hz1w : (Lib.bytesWorld w 5 s).heap.size = B + 1 := by rw [Lib.bytesWorld_size, hB]
  have HB := Lib.hid hB
  have zl := zeros_lt s.size
  have hp := pad_eq s
  rw [hp]
  clear hB o0 hp
  have nl := natsOf_len s
  go_enter Tryz.func219, Tryz.ntmps219
  go_wp2_with (at_builtin; refine wpList_append_mark _ rfl (.tmp 11) (.tmp 12) 55 rfl B 5 i0 (.int .u8 0) Tryz.underlying55 hi hz0 hz1 hz2 rfl _ (s.size) (bytesV (natsOf s)) rfl (o1.alloc _) ⟨B + 1, 0, none⟩ 1 .u8 (128) rfl ?c1 ?c2 ?c3 ?_)
  case c1 => rw [← hz1w]; exact new_one _ _ _
  case c2 => omega
  case c3 => simp; omega
  intro v1 w1 p1 g1
  have q1 : Below B w w1 := (b1.alloc (by omega) _).grown g1 (by simp; omega) (fun k hk => (o1.lt k hk).1)
  have hex : ∃ g cap, v1 = .slice (some ⟨g, 0, none⟩) (s.size + 1 + 0) cap := p1.form
  have e1 : bytesV (natsOf s) ++ [.int .u8 128] = bytesV (natsOf s ++ 128 :: List.replicate 0 0) := by simp [bytesV]
  rw [e1] at p1
  clear e1 hcs o1 b1 hz1w g1
  obtain ⟨z, hz⟩ : ∃ z, Sha.zeros s.size = z := ⟨_, rfl⟩
  have HZ := Lib.hid hz
  rw [hz] at zl
  clear hz
  go_wp2
  go_loopg [4] z (fun m v wr => ∃ (j g cap : Nat), m + j = z ∧ v = .slice (some ⟨g, 0, none⟩) (s.size + 1 + j) cap ∧ MarkRow wr B 5 v (s.size + 1 + j) (bytesV (natsOf s ++ 128 :: List.replicate j 0)) ∧ Below B w wr)
  case atStart =>
    obtain ⟨g, cap, hv⟩ := hex
    exact ⟨0, g, cap, by omega, hv, p1, q1⟩
  case round =>
    clear p1 q1 hex
    obtain ⟨j, g, cap, hm, hv, hown, hb⟩ := hrel
    subst hv
    have hsz := hb.size
    have hBr : B ≤ wr.heap.size := by have := HB.out; omega
    by_cases hlt : j < z
    · have hne : (((s.size : Int) + 1 + (j : Int)) % 64 != 56) = true := by
        have := HZ.out
        unfold Sha.zeros at this
        rw [bne_iff_ne]; omega
      go_wp2_with (at_builtin; refine wpList_append_mark _ rfl (.tmp 18) (.tmp 19) 55 rfl B 5 i0 (.int .u8 0) Tryz.underlying55 hi hz0 hz1 hz2 rfl _ (s.size + 1 + j) (bytesV (natsOf s ++ 128 :: List.replicate j 0)) rfl (hown.alloc _) ⟨wr.heap.size, 0, none⟩ 1 .u8 (0) rfl ?c1 ?c2 ?c3 ?_)
      case c1 => exact new_one _ _ _
      case c2 => omega
      case c3 => simp; omega
      intro v' w1 hown1 hg1
      have hb1 : Below B w w1 := (hb.alloc hBr _).grown hg1 (by simp; omega) (fun k hk => (hown.lt k hk).1)
      have hl : bytesV (natsOf s ++ 128 :: List.replicate j 0) ++ [.int .u8 0] = bytesV (natsOf s ++ 128 :: List.replicate (j + 1) 0) := by rw [rep_succ]; simp [bytesV]
      rw [hl] at hown1
      clear hl
      go_wp2
      go_roundg (z - (j + 1))
      case measure => omega
      case rel =>
        obtain ⟨g', cap', hv⟩ := hown1.form
        exact ⟨j + 1, g', cap', by omega, hv, hown1, hb1⟩
    · obtain rfl : j = z := by omega
      have hne : (((s.size : Int) + 1 + (j : Int)) % 64 != 56) = false := by
        have := HZ.out
        unfold Sha.zeros at this
        rw [bne_eq_false_iff_eq]; omega
      go_wp2
      go_loopg [4, 5] 8 (fun m v i wr => ∃ (k g cap : Nat) (I : Int), m + k = 8 ∧ Hid (I = 7 - k) ∧ -1 ≤ I ∧ I ≤ 7 ∧ i = .int .i64 I ∧ v = .slice (some ⟨g, 0, none⟩) (s.size + 1 + j + k) cap ∧ MarkRow wr B 5 v (s.size + 1 + j + k) (bytesV (natsOf s ++ 128 :: (List.replicate j 0 ++ len8 s.size k))) ∧ Below B w wr)
      case atStart => exact ⟨0, g, cap, 7, by omega, by unfold Hid; omega, by omega, by omega, rfl, rfl, by simpa [len8] using hown, hb⟩
      case round =>
        clear hown hb hsz hBr hne hm
        obtain ⟨k, g2, cap2, I, hm, hI, i0', i7, rfl, hv, hown, hb⟩ := hrel
        subst hv
        have hsz := hb.size
        have hBr : B ≤ wr.heap.size := by have := HB.out; omega
        by_cases hlt : 0 ≤ I
        · have sh := shift_int (s.size * 8) (8 * I) wr (by omega) (by omega) (by omega)
          rw [Int.natCast_mul] at sh
          have SH := Lib.hid sh
          clear sh
          go_wp2_with fail
          refine (SH.out).mono ?_
          rintro e w2 ⟨rfl, rfl⟩
          have ev : ((s.size * 8 / 2 ^ (8 * I).toNat : Nat) : Int) % 256 = ((8 * s.size / 2 ^ (56 - 8 * k) % 256 : Nat) : Int) := by
            have : (8 * I).toNat = 56 - 8 * k := by have := hI; unfold Hid at this; omega
            rw [this, Nat.mul_comm s.size 8]; norm_cast
          have hle : s.size * 8 / 2 ^ (8 * I).toNat < 18446744073709551616 := Nat.lt_of_le_of_lt (Nat.div_le_self _ _) (by omega)
          have EV := Lib.hid ev
          clear ev
          generalize s.size * 8 / 2 ^ (8 * I).toNat = y at *
          go_wp2_with (at_builtin; refine wpList_append_mark _ rfl (.tmp 25) (.tmp 32) 55 rfl B 5 i0 (.int .u8 0) Tryz.underlying55 hi hz0 hz1 hz2 rfl _ (s.size + 1 + j + k) (bytesV (natsOf s ++ 128 :: (List.replicate j 0 ++ len8 s.size k))) rfl (hown.alloc _) ⟨wr.heap.size, 0, none⟩ 1 .u8 ((y : Int) % 256) rfl ?c1 ?c2 ?c3 ?_)
          case c1 => exact new_one _ _ _
          case c2 => omega
          case c3 => simp; omega
          intro v' w1 hown1 hg1
          have hb1 : Below B w w1 := (hb.alloc hBr _).grown hg1 (by simp; omega) (fun k hk => (hown.lt k hk).1)
          have hl : bytesV (natsOf s ++ 128 :: (List.replicate j 0 ++ len8 s.size k)) ++ [.int .u8 ((y : Int) % 256)] = bytesV (natsOf s ++ 128 :: (List.replicate j 0 ++ len8 s.size (k + 1))) := by
            rw [len8_succ, EV.out]; simp [bytesV]
          rw [hl] at hown1
          clear hl
          go_wp2
          have hI' : I = 7 - (k : Int) := hI
          go_roundg (8 - (k + 1))
          case measure => omega
          case rel =>
            obtain ⟨g', cap', hv⟩ := hown1.form
            exact ⟨k + 1, g', cap', I - 1, by omega, by unfold Hid at *; omega, by omega, by omega, rfl, hv, hown1, hb1⟩
        · obtain rfl : I = -1 := by omega
          obtain rfl : k = 8 := by unfold Hid at hI; omega
          have hcv := conv_mark hown
          clear hI
          go_wp2
          go_ret
          exact ⟨by rw [HZ.out]; rfl, by rw [HB.out]; exact hb⟩
end Go.Proofs.YtdebnbgjgkbmaaaGreatDoor
namespace Go.Proofs.YtdebnbgjgkbmaaaGreatDoor
open Go.RowKit
set_option linter.unusedVariables false
def Y64 : Array Value := #[.int .u64 0, .int .u64 0, .int .u64 0, .int .u64 0, .int .u64 0, .int .u64 0, .int .u64 0, .int .u64 0, .int .u64 0, .int .u64 0, .int .u64 0, .int .u64 0, .int .u64 0, .int .u64 0, .int .u64 0, .int .u64 0, .int .u64 0, .int .u64 0, .int .u64 0, .int .u64 0, .int .u64 0, .int .u64 0, .int .u64 0, .int .u64 0, .int .u64 0, .int .u64 0, .int .u64 0, .int .u64 0, .int .u64 0, .int .u64 0, .int .u64 0, .int .u64 0, .int .u64 0, .int .u64 0, .int .u64 0, .int .u64 0, .int .u64 0, .int .u64 0, .int .u64 0, .int .u64 0, .int .u64 0, .int .u64 0, .int .u64 0, .int .u64 0, .int .u64 0, .int .u64 0, .int .u64 0, .int .u64 0, .int .u64 0, .int .u64 0, .int .u64 0, .int .u64 0, .int .u64 0, .int .u64 0, .int .u64 0, .int .u64 0, .int .u64 0, .int .u64 0, .int .u64 0, .int .u64 0, .int .u64 0, .int .u64 0, .int .u64 0, .int .u64 0]
theorem y64_r : Y64 = r64 64 (fun _ => 0) := by rfl
theorem stX_cell {u : World} {m : Nat} {t : TypeId} {s : Sha.St} (h : M.RowAt u m t (stX s)) (j : Nat) (hj : j < 8) : u.cell? ⟨m, j, none⟩ = some (.int .u64 (s.get j : Nat)) := (h.cell j).trans (M.rowF_get hj)
theorem big {a : Nat} (h : a < 4294967296) : a < 18446744073709551616 := by omega
theorem sig0_64 {x : Nat} (hx : x < 4294967296) : bits .xor .u64 (bits .xor .u64 ((Sha.rot x 7 : Nat) : Int) ((Sha.rot x 18 : Nat) : Int)) ((x / 2 ^ 3 : Nat) : Int) = ((Sha.sig0 x : Nat) : Int) := by
  have a := Sha.rot_lt hx (show 7 ≤ 32 by omega)
  have b := Sha.rot_lt hx (show 18 ≤ 32 by omega)
  rw [u64_xor_nat _ _ (big a) (big b), u64_xor_nat _ _ (big (Sha.xor_lt a b)) (big (Nat.lt_of_le_of_lt (Nat.div_le_self _ _) hx))]; rfl
theorem sig1_64 {x : Nat} (hx : x < 4294967296) : bits .xor .u64 (bits .xor .u64 ((Sha.rot x 17 : Nat) : Int) ((Sha.rot x 19 : Nat) : Int)) ((x / 2 ^ 10 : Nat) : Int) = ((Sha.sig1 x : Nat) : Int) := by
  have a := Sha.rot_lt hx (show 17 ≤ 32 by omega)
  have b := Sha.rot_lt hx (show 19 ≤ 32 by omega)
  rw [u64_xor_nat _ _ (big a) (big b), u64_xor_nat _ _ (big (Sha.xor_lt a b)) (big (Nat.lt_of_le_of_lt (Nat.div_le_self _ _) hx))]; rfl
theorem big1_64 {x : Nat} (hx : x < 4294967296) : bits .xor .u64 (bits .xor .u64 ((Sha.rot x 6 : Nat) : Int) ((Sha.rot x 11 : Nat) : Int)) ((Sha.rot x 25 : Nat) : Int) = ((Sha.big1 x : Nat) : Int) := by
  have a := Sha.rot_lt hx (show 6 ≤ 32 by omega)
  have b := Sha.rot_lt hx (show 11 ≤ 32 by omega)
  have c := Sha.rot_lt hx (show 25 ≤ 32 by omega)
  rw [u64_xor_nat _ _ (big a) (big b), u64_xor_nat _ _ (big (Sha.xor_lt a b)) (big c)]; rfl
theorem big0_64 {x : Nat} (hx : x < 4294967296) : bits .xor .u64 (bits .xor .u64 ((Sha.rot x 2 : Nat) : Int) ((Sha.rot x 13 : Nat) : Int)) ((Sha.rot x 22 : Nat) : Int) = ((Sha.big0 x : Nat) : Int) := by
  have a := Sha.rot_lt hx (show 2 ≤ 32 by omega)
  have b := Sha.rot_lt hx (show 13 ≤ 32 by omega)
  have c := Sha.rot_lt hx (show 22 ≤ 32 by omega)
  rw [u64_xor_nat _ _ (big a) (big b), u64_xor_nat _ _ (big (Sha.xor_lt a b)) (big c)]; rfl
theorem ch_64 {e f g : Nat} (he : e < 4294967296) (hf : f < 4294967296) (hg : g < 4294967296) :
    bits .xor .u64 (bits .and .u64 (e : Int) (f : Int)) (bits .and .u64 (4294967295 - (e : Int)) (g : Int)) = ((Sha.ch e f g : Nat) : Int) := by
  have e1 : (4294967295 - (e : Int)) = ((4294967295 - e : Nat) : Int) := by omega
  rw [e1, u64_and_nat e f (big he) (big hf), u64_and_nat _ g (by omega) (big hg), u64_xor_nat _ _ (big (Sha.and_lt he)) (big (Sha.and_lt (by omega)))]; rfl
theorem maj_64 {a b c : Nat} (ha : a < 4294967296) (hb : b < 4294967296) (hc : c < 4294967296) :
    bits .xor .u64 (bits .xor .u64 (bits .and .u64 (a : Int) (b : Int)) (bits .and .u64 (a : Int) (c : Int))) (bits .and .u64 (b : Int) (c : Int)) = ((Sha.maj a b c : Nat) : Int) := by
  rw [u64_and_nat a b (big ha) (big hb), u64_and_nat a c (big ha) (big hc), u64_and_nat b c (big hb) (big hc), u64_xor_nat _ _ (big (Sha.and_lt ha)) (big (Sha.and_lt ha)), u64_xor_nat _ _ (big (Sha.xor_lt (Sha.and_lt ha) (Sha.and_lt ha))) (big (Sha.and_lt hb))]; rfl
def KV : Array Value := #[.int .u64 1116352408, .int .u64 1899447441, .int .u64 3049323471, .int .u64 3921009573, .int .u64 961987163, .int .u64 1508970993, .int .u64 2453635748, .int .u64 2870763221, .int .u64 3624381080, .int .u64 310598401, .int .u64 607225278, .int .u64 1426881987, .int .u64 1925078388, .int .u64 2162078206, .int .u64 2614888103, .int .u64 3248222580, .int .u64 3835390401, .int .u64 4022224774, .int .u64 264347078, .int .u64 604807628, .int .u64 770255983, .int .u64 1249150122, .int .u64 1555081692, .int .u64 1996064986, .int .u64 2554220882, .int .u64 2821834349, .int .u64 2952996808, .int .u64 3210313671, .int .u64 3336571891, .int .u64 3584528711, .int .u64 113926993, .int .u64 338241895, .int .u64 666307205, .int .u64 773529912, .int .u64 1294757372, .int .u64 1396182291, .int .u64 1695183700, .int .u64 1986661051, .int .u64 2177026350, .int .u64 2456956037, .int .u64 2730485921, .int .u64 2820302411, .int .u64 3259730800, .int .u64 3345764771, .int .u64 3516065817, .int .u64 3600352804, .int .u64 4094571909, .int .u64 275423344, .int .u64 430227734, .int .u64 506948616, .int .u64 659060556, .int .u64 883997877, .int .u64 958139571, .int .u64 1322822218, .int .u64 1537002063, .int .u64 1747873779, .int .u64 1955562222, .int .u64 2024104815, .int .u64 2227730452, .int .u64 2361852424, .int .u64 2428436474, .int .u64 2756734187, .int .u64 3204031479, .int .u64 3329325298]
theorem kv_r : KV = r64 64 Sha.k := by kernel_rfl
set_option maxRecDepth 100000 in
set_option maxHeartbeats 1000000 in
theorem K_any (w : World) : Calls Tryz.prog 286 #[] w fun e w' => e = .returned (.agg (r64 64 Sha.k)) ∧ Below w.heap.size w w' := by
  rw [← kv_r]
  obtain ⟨n, hn⟩ : ∃ n, w.heap.size = n := ⟨_, rfl⟩
  have HN := Lib.hid hn
  have r0 := heap_alloc_new w (.cells Y64 395)
  have iK : (Tryz.prog.info? 395).map (·.size) = some KV.size := by kernel_rfl
  have zK : Y64.size = KV.size := rfl
  have oK : KV.all (·.oneCell') = true := by kernel_rfl
  rw [hn] at r0
  have q6 := M.RowAt.setRow r0 KV
  have b6 : Below n w ((w.alloc (.cells Y64 395)).setRow n KV) := M.below_setRow (hn ▸ (Below.refl _ _).alloc (Nat.le_refl _) _) (Nat.le_refl _)
  obtain ⟨v1, hv1⟩ : ∃ v1, (w.alloc (.cells #[.int .u64 0, .int .u64 0, .int .u64 0, .int .u64 0, .int .u64 0, .int .u64 0, .int .u64 0, .int .u64 0, .int .u64 0, .int .u64 0, .int .u64 0, .int .u64 0, .int .u64 0, .int .u64 0, .int .u64 0, .int .u64 0, .int .u64 0, .int .u64 0, .int .u64 0, .int .u64 0, .int .u64 0, .int .u64 0, .int .u64 0, .int .u64 0, .int .u64 0, .int .u64 0, .int .u64 0, .int .u64 0, .int .u64 0, .int .u64 0, .int .u64 0, .int .u64 0, .int .u64 0, .int .u64 0, .int .u64 0, .int .u64 0, .int .u64 0, .int .u64 0, .int .u64 0, .int .u64 0, .int .u64 0, .int .u64 0, .int .u64 0, .int .u64 0, .int .u64 0, .int .u64 0, .int .u64 0, .int .u64 0, .int .u64 0, .int .u64 0, .int .u64 0, .int .u64 0, .int .u64 0, .int .u64 0, .int .u64 0, .int .u64 0, .int .u64 0, .int .u64 0, .int .u64 0, .int .u64 0, .int .u64 0, .int .u64 0, .int .u64 0, .int .u64 0] 395)).setRow n KV = v1 := ⟨_, rfl⟩
  have q6 : M.RowAt v1 n 395 KV := hv1 ▸ q6
  have b6 : Below n w v1 := hv1 ▸ b6
  have HV := Lib.hid hv1
  clear hv1
  go_enter Tryz.func286, Tryz.ntmps286
  go_wp2_with (refine wpList_store_row (x := .tmp 0) (y := .tmp 1) (cells := KV) (old := Y64) (t := 395) (ty := 395) (g := n) ?_ ?_ ?_ ?_ r0 iK zK oK ?_; rfl; rfl; rfl; rfl)
  rw [HV.out]
  have u91 : Tryz.prog.underlying 395 = some (.array 64 27) := by kernel_rfl
  have hload := run_loadVar_row (P := Tryz.prog) _ n 395 395 KV (0, 0) _ q6 u91 rfl iK
  refine bodyPost_ret (v := .agg KV) (by simp [results, Tryz.results286, asAddr, hload]) rfl ⟨rfl, ?_⟩
  exact b6
end Go.Proofs.YtdebnbgjgkbmaaaGreatDoor
namespace Go.Proofs.YtdebnbgjgkbmaaaGreatDoor
open Go.RowKit
set_option linter.unusedVariables false
section
variable {n : Nat} {w : World} {s : Sha.St} {W W' : Nat → Nat} {v v' : World}
end
theorem t1_64 {s : Sha.St} (h : s.ok) {K X : Nat} (hK : K < 4294967296) (hX : X < 4294967296) :
    IntKind.u64.wrap ((s.h : Int) + (Sha.big1 s.e : Nat)) = (s.h : Int) + (Sha.big1 s.e : Nat) ∧
    IntKind.u64.wrap ((s.h : Int) + (Sha.big1 s.e : Nat) + (Sha.ch s.e s.f s.g : Nat)) = (s.h : Int) + (Sha.big1 s.e : Nat) + (Sha.ch s.e s.f s.g : Nat) ∧
    IntKind.u64.wrap ((s.h : Int) + (Sha.big1 s.e : Nat) + (Sha.ch s.e s.f s.g : Nat) + (K : Int)) = (s.h : Int) + (Sha.big1 s.e : Nat) + (Sha.ch s.e s.f s.g : Nat) + (K : Int) ∧
    IntKind.u64.wrap ((s.h : Int) + (Sha.big1 s.e : Nat) + (Sha.ch s.e s.f s.g : Nat) + (K : Int) + (X : Int)) = (s.h : Int) + (Sha.big1 s.e : Nat) + (Sha.ch s.e s.f s.g : Nat) + (K : Int) + (X : Int) ∧
    ((s.h : Int) + (Sha.big1 s.e : Nat) + (Sha.ch s.e s.f s.g : Nat) + (K : Int) + (X : Int)).tmod 4294967296 = ((Sha.t1 s K X : Nat) : Int) := by
  have h1 := Sha.ch_lt (f := s.f) (g := s.g) h.e
  have h2 := Sha.big1_lt h.e
  have h3 := h.h
  unfold Sha.t1
  generalize Sha.ch s.e s.f s.g = c at *
  generalize Sha.big1 s.e = b at *
  refine ⟨?_, ?_, ?_, ?_, ?_⟩
  · rw [IntKind.wrap_u64]; omega
  · rw [IntKind.wrap_u64]; omega
  · rw [IntKind.wrap_u64]; omega
  · rw [IntKind.wrap_u64]; omega
  · rw [Int.tmod_eq_emod_of_nonneg (by omega)]; omega
theorem t2_64 {s : Sha.St} (h : s.ok) : (((Sha.big0 s.a : Nat) : Int) + (Sha.maj s.a s.b s.c : Nat)) % 18446744073709551616 = ((Sha.big0 s.a : Nat) : Int) + (Sha.maj s.a s.b s.c : Nat) ∧ (((Sha.big0 s.a : Nat) : Int) + (Sha.maj s.a s.b s.c : Nat)) % 4294967296 = ((Sha.t2 s : Nat) : Int) := by
  have h1 := Sha.maj_lt (c := s.c) h.a h.b
  have h2 := Sha.big0_lt h.a
  unfold Sha.t2
  generalize Sha.maj s.a s.b s.c = c at *
  generalize Sha.big0 s.a = b at *
  omega
theorem small_sum {a b : Nat} (ha : a < 4294967296) (hb : b < 4294967296) : ((a : Int) + (b : Int)) % 18446744073709551616 = (a : Int) + (b : Int) ∧ ((a : Int) + (b : Int)) % 4294967296 = (((a + b) % 4294967296 : Nat) : Int) := by omega
theorem not_64 {e : Nat} (h : e < 4294967296) : (4294967295 - (e : Int)) % 18446744073709551616 = 4294967295 - (e : Int) := by omega
theorem info91 (A : Array Value) (h : A.size = 64) : (Tryz.prog.info? 395).map (·.size) = some A.size := by rw [h]; kernel_rfl
theorem info37 (A : Array Value) (h : A.size = 8) : (Tryz.prog.info? 347).map (·.size) = some A.size := by rw [h]; kernel_rfl
theorem und37 : Tryz.prog.underlying 347 = some (.array 8 27) := by kernel_rfl
set_option maxRecDepth 100000 in
set_option maxHeartbeats 4000000 in
theorem rcompress_any (s : Sha.St) (b : ByteArray) (w : World) (hs : s.ok) (hb : b.size = 64) :
    Calls Tryz.prog 220 #[.agg (stX s), .string b] w fun e w' => e = .returned (.tuple #[.agg (stX (Sha.compress s b)), .bool true]) ∧ Below w.heap.size w w' := by
  obtain ⟨n, hn⟩ : ∃ n, w.heap.size = n := ⟨_, rfl⟩
  have c0 : M.RowAt (((w.alloc (.cells (stX s) 347)).alloc (.cells Y8 347)).alloc (.cells Y64 395)) n 347 (stX s) ∧ M.RowAt (((w.alloc (.cells (stX s) 347)).alloc (.cells Y8 347)).alloc (.cells Y64 395)) (n + 1) 347 Y8 ∧
      M.RowAt (((w.alloc (.cells (stX s) 347)).alloc (.cells Y8 347)).alloc (.cells Y64 395)) (n + 1 + 1) 395 Y64 ∧ Below n w (((w.alloc (.cells (stX s) 347)).alloc (.cells Y8 347)).alloc (.cells Y64 395)) := by
    subst hn
    have a1 := M.RowAt.new w 347 (stX s)
    have a2 := M.RowAt.new (w.alloc (.cells (stX s) 347)) 347 Y8
    have a3 := M.RowAt.new ((w.alloc (.cells (stX s) 347)).alloc (.cells Y8 347)) 395 Y64
    rw [World.size_alloc] at a2 a3
    rw [World.size_alloc] at a3
    exact ⟨(a1.alloc _).alloc _, a2.alloc _, a3, (((Below.refl _ _).alloc (Nat.le_refl _) _).alloc (by simp) _).alloc (by simp; omega) _⟩
  have hp0 : Sha.pw b 0 = fun _ => 0 := by funext j; exact Sha.pw_zero b 0 j (by omega)
  obtain ⟨C, hC⟩ : ∃ C, stX s = C := ⟨_, rfl⟩
  obtain ⟨a1, a2, a3, a4⟩ := c0
  have rr := a3
  have b1 := a1.farRow (b := n + 1 + 1) (by omega) Y64
  have b2 := a2.farRow (b := n + 1 + 1) (by omega) Y64
  have b3 := a3.setRow Y64
  have b4 := M.below_setRow (g := n + 1 + 1) (cs := Y64) a4 (by omega)
  rw [y64_r, ← show r64 64 (Sha.pw b 0) = r64 64 (fun _ => 0) by rw [hp0]] at b3
  have i91 : (Tryz.prog.info? 395).map (·.size) = some Y64.size := by kernel_rfl
  have o91 : Y64.all (·.oneCell') = true := by kernel_rfl
  have rL : (((w.alloc (.cells C 347)).alloc (.cells #[.int .u64 0, .int .u64 0, .int .u64 0, .int .u64 0, .int .u64 0, .int .u64 0, .int .u64 0, .int .u64 0] 347)).alloc (.cells #[.int .u64 0, .int .u64 0, .int .u64 0, .int .u64 0, .int .u64 0, .int .u64 0, .int .u64 0, .int .u64 0, .int .u64 0, .int .u64 0, .int .u64 0, .int .u64 0, .int .u64 0, .int .u64 0, .int .u64 0, .int .u64 0, .int .u64 0, .int .u64 0, .int .u64 0, .int .u64 0, .int .u64 0, .int .u64 0, .int .u64 0, .int .u64 0, .int .u64 0, .int .u64 0, .int .u64 0, .int .u64 0, .int .u64 0, .int .u64 0, .int .u64 0, .int .u64 0, .int .u64 0, .int .u64 0, .int .u64 0, .int .u64 0, .int .u64 0, .int .u64 0, .int .u64 0, .int .u64 0, .int .u64 0, .int .u64 0, .int .u64 0, .int .u64 0, .int .u64 0, .int .u64 0, .int .u64 0, .int .u64 0, .int .u64 0, .int .u64 0, .int .u64 0, .int .u64 0, .int .u64 0, .int .u64 0, .int .u64 0, .int .u64 0, .int .u64 0, .int .u64 0, .int .u64 0, .int .u64 0, .int .u64 0, .int .u64 0, .int .u64 0, .int .u64 0] 395)).heap[n + 1 + 1]? = some (.cells Y64 395 (0, 0)) := by rw [← hC]; exact rr
  obtain ⟨v0, hv0⟩ : ∃ v0, (((w.alloc (.cells C 347)).alloc (.cells #[.int .u64 0, .int .u64 0, .int .u64 0, .int .u64 0, .int .u64 0, .int .u64 0, .int .u64 0, .int .u64 0] 347)).alloc (.cells #[.int .u64 0, .int .u64 0, .int .u64 0, .int .u64 0, .int .u64 0, .int .u64 0, .int .u64 0, .int .u64 0, .int .u64 0, .int .u64 0, .int .u64 0, .int .u64 0, .int .u64 0, .int .u64 0, .int .u64 0, .int .u64 0, .int .u64 0, .int .u64 0, .int .u64 0, .int .u64 0, .int .u64 0, .int .u64 0, .int .u64 0, .int .u64 0, .int .u64 0, .int .u64 0, .int .u64 0, .int .u64 0, .int .u64 0, .int .u64 0, .int .u64 0, .int .u64 0, .int .u64 0, .int .u64 0, .int .u64 0, .int .u64 0, .int .u64 0, .int .u64 0, .int .u64 0, .int .u64 0, .int .u64 0, .int .u64 0, .int .u64 0, .int .u64 0, .int .u64 0, .int .u64 0, .int .u64 0, .int .u64 0, .int .u64 0, .int .u64 0, .int .u64 0, .int .u64 0, .int .u64 0, .int .u64 0, .int .u64 0, .int .u64 0, .int .u64 0, .int .u64 0, .int .u64 0, .int .u64 0, .int .u64 0, .int .u64 0, .int .u64 0, .int .u64 0] 395)).setRow (n + 1 + 1) Y64 = v0 := ⟨_, rfl⟩
  have e0 : (((w.alloc (.cells (stX s) 347)).alloc (.cells Y8 347)).alloc (.cells Y64 395)).setRow (n + 1 + 1) Y64 = v0 := by rw [hC, ← hv0]; rfl
  have e0' : (((w.alloc (.cells (stX s) 347)).alloc (.cells Y8 347)).alloc (.cells Y64 395)).setRow (n + 1 + 1) (r64 64 (Sha.pw b 0)) = v0 := by rw [← e0, y64_r, hp0]
  have c0 : CX n w s (Sha.pw b 0) v0 := by
    rw [e0] at b1 b2 b4
    refine ⟨b1, b2, ?_, b4⟩
    have := M.RowAt.setRow a3 (r64 64 (Sha.pw b 0))
    rw [e0'] at this
    exact this
  have HC := Lib.hid hC; have HV := Lib.hid hv0; have HB := Lib.hid hb; have HN := Lib.hid hn
  have RL := Lib.hid rL
  rw [hC]
  clear hC hv0 e0 e0' hp0 a1 a2 a3 a4 b1 b2 b3 b4 rr rL
  go_enter Tryz.func220, Tryz.ntmps220
  go_wp2_with (refine wpList_store_row (x := .tmp 6) (y := .tmp 28) (cells := Y64) (old := Y64) (t := 395) (ty := 395) (g := n + 1 + 1) ?_ ?_ ?_ ?_ RL.out i91 rfl o91 ?_; rfl; rfl; rfl; rfl; rw [HV.out])
  clear hb hn
  go_loopg [7] 16 (fun m i wr => ∃ k : Nat, m + k = 16 ∧ i = .int .i64 k ∧ CX n w s (Sha.pw b (4 * k)) wr)
  case atStart => exact ⟨0, by omega, rfl, c0⟩
  case round =>
    clear c0
    obtain ⟨i, hm, rfl, ci0⟩ := hrel
    by_cases hlt : i < 16
    · have hi16 : (i : Int) < 16 := by omega
      go_wp2
      go_loopg [8] 4 (fun m j wr => ∃ k : Nat, m + k = 4 ∧ j = .int .i64 k ∧ CX n w s (Sha.pw b (4 * i + k)) wr)
      case atStart => exact ⟨0, by omega, rfl, ci0⟩
      case round =>
        clear ci0
        obtain ⟨k, hmk, rfl, ci⟩ := hrel
        by_cases hk : k < 4
        · obtain ⟨q, hq⟩ : ∃ q, 4 * i + k = q := ⟨_, rfl⟩
          rw [hq] at ci
          have hqi : q / 4 = i := by omega
          have q2 := ci.r2.cell i
          rw [M.rowF_get (show i < 64 by omega)] at q2
          have hbk : q < b.size := by rw [HB.out]; omega
          have hlw := Sha.pw_lt3 b q
          rw [hqi] at hlw
          have hby := b[q].toNat_lt
          have g0 : IntKind.i64.wrap (4 * (i : Int)) = 4 * (i : Int) := IntWalk.i64_in _ (by omega)
          have g1 : IntKind.i64.wrap (4 * (i : Int) + (k : Int)) = (q : Int) := by rw [IntWalk.i64_in _ (by omega)]; omega
          have g2 : (0 : Int) ≤ (q : Int) := by omega
          have g3 : (q : Int) < 64 := by omega
          have g4 : (i : Int) < 64 := by omega
          have w5 : IntKind.u64.wrap ((Sha.pw b q i : Nat) * 256) = (Sha.pw b q i : Nat) * 256 := by rw [IntKind.wrap_u64]; omega
          have w6 : IntKind.u64.wrap (b[q].toNat : Int) = (b[q].toNat : Int) := by rw [IntKind.wrap_u64]; omega
          have w7 : IntKind.u64.wrap ((Sha.pw b q i : Nat) * 256 + (b[q].toNat : Int)) = ((Sha.pw b (q + 1) i : Nat) : Int) := by
            have h := Sha.pw_next b q
            rw [hqi, Sha.byte_at b q hbk] at h
            rw [h, IntKind.wrap_u64]; omega
          have w8 : ((Sha.pw b q i : Nat) * 256 + (b[q].toNat : Int)) = ((Sha.pw b (q + 1) i : Nat) : Int) := by
            have h := Sha.pw_next b q
            rw [hqi, Sha.byte_at b q hbk] at h
            rw [h]; omega
          have ci2 := ci.drew
          have q3 := ci2.r2.frozen i
          have q4 := ci2.r2.cell i
          rw [M.rowF_get (show i < 64 by omega)] at q4
          have ci3 := ci2.set i (Sha.pw b (q + 1) i) (by omega) (W' := Sha.pw b (q + 1)) (fun j _ => by
            split
            · rename_i h; rw [h]
            · rename_i h; exact Sha.pw_same b q j (by rw [hqi]; exact h))
          have HQ := Lib.hid hq
          clear hqi hq
          generalize Sha.pw b (q + 1) i = P at *
          generalize Sha.pw b q i = P0 at *
          go_wp2_with fail
          go_still_tail 14, (by kernel_rfl)
          change wpList _ _ _ _ _ wr.drew
          generalize wr.drew = wd at *
          go_wp2
          go_roundg (4 - (k + 1))
          case measure => omega
          case rel => exact ⟨k + 1, by omega, by go_num, by rw [show 4 * i + (k + 1) = q + 1 by have := HQ.out; omega]; exact ci3⟩
        · obtain rfl : k = 4 := by omega
          rw [show 4 * i + 4 = 4 * (i + 1) by omega] at ci
          go_wp2
          go_roundg (16 - (i + 1))
          case measure => omega
          case rel => exact ⟨i + 1, by omega, by go_num, ci⟩
    · obtain rfl : i = 16 := by omega
      have c2 : CX n w s (Sha.W b (16 - 16)) wr := by
        have e : Sha.pw b (4 * 16) = Sha.W b 0 := by funext j; exact (Sha.W_zero b j).symm
        rw [e] at ci0; exact ci0
      clear ci0 hm hlt
      go_wp2
      go_loopg [9] 48 (fun m i wr => ∃ k : Nat, m + k = 64 ∧ 16 ≤ k ∧ i = .int .i64 k ∧ CX n w s (Sha.W b (k - 16)) wr)
      case atStart => exact ⟨16, by omega, by omega, rfl, c2⟩
      case round =>
        clear c2
        obtain ⟨k, hm, h16, rfl, ci⟩ := hrel
        by_cases hlt : k < 64
        · obtain ⟨i, hi⟩ : ∃ i, k = 16 + i := ⟨k - 16, by omega⟩
          rw [show k - 16 = i by omega] at ci
          have q1 := ci.r2.cell (i + 1)
          have q2 := ci.r2.cell (i + 14)
          rw [M.rowF_get (show i + 1 < 64 by omega)] at q1
          rw [M.rowF_get (show i + 14 < 64 by omega)] at q2
          have w2 : (0 : Int) ≤ (k : Int) - 15 := by omega
          have w3 : (k : Int) - 15 < 64 := by omega
          have w4 : ((k : Int) - 15).toNat = i + 1 := by omega
          have x2 : (0 : Int) ≤ (k : Int) - 2 := by omega
          have x3 : (k : Int) - 2 < 64 := by omega
          have x4 : ((k : Int) - 2).toNat = i + 14 := by omega
          have w5 : (15 : Int) ≤ k := by omega
          have x5 : (2 : Int) ≤ k := by omega
          have HI := Lib.hid hi
          clear hi
          have l1 := Sha.W_lt b i (i + 1)
          have l2 := Sha.W_lt b i (i + 14)
          have nx := Sha.W_next b i
          obtain ⟨x, hx⟩ : ∃ x, Sha.W b i (i + 1) = x := ⟨_, rfl⟩
          obtain ⟨y, hy⟩ : ∃ y, Sha.W b i (i + 14) = y := ⟨_, rfl⟩
          rw [hx] at q1 l1 nx
          rw [hy] at q2 l2 nx
          have NX := Lib.hid nx; have LX := Lib.hid l1; have LY := Lib.hid l2
          clear nx hx hy l1 l2
          have t1 := fun W => turn_any x 7 W LX.out (by decide)
          have t2 := fun W => turn_any x 18 W LX.out (by decide)
          have t3 := fun W => shift_any x 3 W (big LX.out) (by decide)
          have t4 := fun W => turn_any y 17 W LY.out (by decide)
          have t5 := fun W => turn_any y 19 W LY.out (by decide)
          have t6 := fun W => shift_any y 10 W (big LY.out) (by decide)
          have hA := sig0_64 LX.out
          have hB := sig1_64 LY.out
          have la := Sha.sig0_lt LX.out
          have lb := Sha.sig1_lt LY.out
          generalize Sha.rot x 7 = r1 at *
          generalize Sha.rot x 18 = r2 at *
          generalize x / 2 ^ 3 = r3 at *
          generalize Sha.rot y 17 = r4 at *
          generalize Sha.rot y 19 = r5 at *
          generalize y / 2 ^ 10 = r6 at *
          generalize Sha.sig0 x = S0 at *
          generalize Sha.sig1 y = S1 at *
          have T1 := Lib.hid t1; have T2 := Lib.hid t2; have T3 := Lib.hid t3; have T4 := Lib.hid t4; have T5 := Lib.hid t5; have T6 := Lib.hid t6
          have SA := Lib.hid la; have SB := Lib.hid lb
          clear t1 t2 t3 t4 t5 t6 la lb
          go_wp2_with fail
          refine (T1.out _).mono ?_
          rintro e w1 ⟨rfl, rfl⟩
          go_wp2_with fail
          refine (T2.out _).mono ?_
          rintro e w1 ⟨rfl, rfl⟩
          go_wp2_with fail
          refine (T3.out _).mono ?_
          rintro e w1 ⟨rfl, rfl⟩
          go_wp2_with fail
          refine (T4.out _).mono ?_
          rintro e w1 ⟨rfl, rfl⟩
          go_wp2_with fail
          refine (T5.out _).mono ?_
          rintro e w1 ⟨rfl, rfl⟩
          go_wp2_with fail
          refine (T6.out _).mono ?_
          rintro e w1 ⟨rfl, rfl⟩
          clear q1 q2 w2 w3 w4 w5 x2 x3 x4 x5
          have w1 : IntKind.i64.wrap ((k : Int) - 16) = (k : Int) - 16 := IntWalk.i64_in _ (by omega)
          have w2 : (0 : Int) ≤ (k : Int) - 16 := by omega
          have w3' : (k : Int) - 16 < 64 := by omega
          have w4' : ((k : Int) - 16).toNat = i := by have := HI.out; omega
          have w5 : (16 : Int) ≤ k := by omega
          have x1 : IntKind.i64.wrap ((k : Int) - 7) = (k : Int) - 7 := IntWalk.i64_in _ (by omega)
          have x2 : (0 : Int) ≤ (k : Int) - 7 := by omega
          have x3 : (k : Int) - 7 < 64 := by omega
          have x4 : ((k : Int) - 7).toNat = i + 9 := by have := HI.out; omega
          have x5 : (7 : Int) ≤ k := by omega
          have hi64 : i < 48 := by have := HI.out; omega
          have q1 := ci.r2.cell i
          have q2 := ci.r2.cell (i + 9)
          rw [M.rowF_get (show i < 64 by omega)] at q1
          rw [M.rowF_get (show i + 9 < 64 by omega)] at q2
          have nx := NX.out
          have ci4 := ci.drew
          have f5 := ci4.r2.frozen k
          have q5 := ci4.r2.cell k
          rw [M.rowF_get hlt] at q5
          have ci5 := ci4.set k (Sha.W b (i + 1) (16 + i)) hlt (W' := Sha.W b (i + 1)) (fun j _ => by
            split
            · rename_i h; rw [h, HI.out]
            · rename_i h; exact Sha.W_same b i j (by have := HI.out; omega))
          have lp := Sha.W_lt b i i
          have lq := Sha.W_lt b i (i + 9)
          generalize Sha.W b (i + 1) (16 + i) = N at *
          generalize Sha.W b i (i + 9) = q at *
          generalize Sha.W b i i = p at *
          have s0l := SA.out
          have s1l := SB.out
          have u1 : IntKind.u64.wrap ((p : Int) + (S0 : Int)) = (p : Int) + (S0 : Int) := by rw [IntKind.wrap_u64]; omega
          have u2 : IntKind.u64.wrap ((p : Int) + (S0 : Int) + (q : Int)) = (p : Int) + (S0 : Int) + (q : Int) := by rw [IntKind.wrap_u64]; omega
          have u3 : IntKind.u64.wrap ((p : Int) + (S0 : Int) + (q : Int) + (S1 : Int)) = (p : Int) + (S0 : Int) + (q : Int) + (S1 : Int) := by rw [IntKind.wrap_u64]; omega
          have hsum : ((p : Int) + (S0 : Int) + (q : Int) + (S1 : Int)).tmod 4294967296 = (N : Int) := by
            rw [Int.tmod_eq_emod_of_nonneg (by omega)]; omega
          have hsum2 : ((p : Int) + (S0 : Int) + (q : Int) + (S1 : Int)) % 4294967296 = (N : Int) := by omega
          clear nx s0l s1l NX lp lq
          go_wp2_with fail
          go_still_tail 16, (by kernel_rfl)
          change wpList _ _ _ _ _ wr.drew
          generalize wr.drew = w5 at *
          go_wp2
          go_roundg (64 - (k + 1))
          case measure => omega
          case rel => exact ⟨k + 1, by omega, by omega, by go_num, by rw [show k + 1 - 16 = i + 1 by have := HI.out; omega]; exact ci5⟩
        · obtain rfl : k = 64 := by omega
          have cw : CX n w s (Sha.W b 48) wr := ci
          clear ci hm hlt h16
          obtain ⟨WF, hWF⟩ : ∃ WF, Sha.W b 48 = WF := ⟨_, rfl⟩
          have hWl : ∀ j, WF j < 4294967296 := fun j => by rw [← hWF]; exact Sha.W_lt b 48 j
          rw [hWF] at cw
          have HWF := Lib.hid hWF; have HWl := Lib.hid hWl
          clear hWF hWl
          go_wp2_with fail
          refine (K_any _).mono ?_
          rintro e w1 ⟨rfl, g1⟩
          have cw1 := cw.same g1
          clear cw g1
          obtain ⟨m, hm⟩ : ∃ m, w1.heap.size = m := ⟨_, rfl⟩
          have hnm : n + 1 + 1 < m := by have := cw1.r2.lt; omega
          have sK : (r64 64 Sha.k).size = 64 := M.rowF_size
          have oK : (r64 64 Sha.k).all (·.oneCell') = true := M.rowF_one
          have cw2 := cw1.same ((Below.refl _ w1).alloc (Nat.le_refl _) (.cells (r64 64 Sha.k) 395))
          have p2 := M.RowAt.new w1 395 (r64 64 Sha.k)
          have e9 := World.setRow_alloc_new w1 Y64 (r64 64 Sha.k) 395
          have r9 := heap_alloc_new w1 (.cells Y64 395)
          have hz2 : (w1.alloc (.cells (r64 64 Sha.k) 395)).heap.size = m + 1 := by simp; exact hm
          rw [hm] at p2 e9 r9
          rw [← e9] at cw2 p2 hz2
          have iK := info91 _ sK
          obtain ⟨KK, hKK⟩ : ∃ KK, r64 64 Sha.k = KK := ⟨_, rfl⟩
          rw [hKK] at iK oK sK cw2 p2 hz2 ⊢
          have zK : Y64.size = KK.size := by rw [sK]; rfl
          obtain ⟨v1, hv1⟩ : ∃ v1, (w1.alloc (.cells #[.int .u64 0, .int .u64 0, .int .u64 0, .int .u64 0, .int .u64 0, .int .u64 0, .int .u64 0, .int .u64 0, .int .u64 0, .int .u64 0, .int .u64 0, .int .u64 0, .int .u64 0, .int .u64 0, .int .u64 0, .int .u64 0, .int .u64 0, .int .u64 0, .int .u64 0, .int .u64 0, .int .u64 0, .int .u64 0, .int .u64 0, .int .u64 0, .int .u64 0, .int .u64 0, .int .u64 0, .int .u64 0, .int .u64 0, .int .u64 0, .int .u64 0, .int .u64 0, .int .u64 0, .int .u64 0, .int .u64 0, .int .u64 0, .int .u64 0, .int .u64 0, .int .u64 0, .int .u64 0, .int .u64 0, .int .u64 0, .int .u64 0, .int .u64 0, .int .u64 0, .int .u64 0, .int .u64 0, .int .u64 0, .int .u64 0, .int .u64 0, .int .u64 0, .int .u64 0, .int .u64 0, .int .u64 0, .int .u64 0, .int .u64 0, .int .u64 0, .int .u64 0, .int .u64 0, .int .u64 0, .int .u64 0, .int .u64 0, .int .u64 0, .int .u64 0] 395)).setRow m KK = v1 := ⟨_, rfl⟩
          have cw2 : CX n w s WF v1 := hv1 ▸ cw2
          have p2 : M.RowAt v1 m 395 KK := hv1 ▸ p2
          have hz2 : v1.heap.size = m + 1 := hv1 ▸ hz2
          have HV1 := Lib.hid hv1; have HKK := Lib.hid hKK
          clear e9 hv1 hKK cw1
          have sC : (stX s).size = 8 := M.rowF_size
          have oC : (stX s).all (·.oneCell') = true := M.rowF_one
          have r0 := cw2.r0
          have cw3 := cw2.same ((Below.refl _ v1).alloc (Nat.le_refl _) (.cells (stX s) 347))
          have p3 := p2.alloc (.cells (stX s) 347)
          have q3 := M.RowAt.new v1 347 (stX s)
          have e8 := World.setRow_alloc_new v1 Y8 (stX s) 347
          have r8' := heap_alloc_new v1 (.cells Y8 347)
          rw [hz2] at q3 e8 r8'
          rw [← e8] at cw3 p3 q3
          rw [HC.out] at r0 sC oC cw3 p3 q3
          have iC := info37 _ sC
          have zC : Y8.size = C.size := by rw [sC]; rfl
          obtain ⟨v2, hv2⟩ : ∃ v2, (v1.alloc (.cells #[.int .u64 0, .int .u64 0, .int .u64 0, .int .u64 0, .int .u64 0, .int .u64 0, .int .u64 0, .int .u64 0] 347)).setRow (m + 1) C = v2 := ⟨_, rfl⟩
          have cw3 : CX n w s WF v2 := hv2 ▸ cw3
          have p3 : M.RowAt v2 m 395 KK := hv2 ▸ p3
          have q3 : M.RowAt v2 (m + 1) 347 C := hv2 ▸ q3
          have HV2 := Lib.hid hv2
          unfold M.RowAt at r0
          clear e8 hv2 cw2 p2 sK
          go_wp2_with (first
            | (refine wpList_store_row (x := .tmp 14) (y := .tmp 95) (cells := KK) (old := Y64) (t := 395) (ty := 395) (g := m) ?_ ?_ ?_ ?_ r9 iK zK oK ?_; rfl; rfl; rfl; rfl; rw [HV1.out])
            | (refine wpList_load_row (x := .tmp 2) (ty := 347) (g := n) (cs := C) (t := 347) (fr := (0, 0)) ?_ ?_ ?_ _ r0 und37 rfl iC ?_; rfl; rfl; rfl)
            | (refine wpList_store_row (x := .tmp 15) (y := .tmp 96) (cells := C) (old := Y8) (t := 347) (ty := 347) (g := m + 1) ?_ ?_ ?_ ?_ r8' iC zC oC ?_; rfl; rfl; rfl; rfl; rw [HV2.out]))
          rw [← HC.out] at q3
          rw [← HKK.out] at p3
          clear r0 r8' r9 hz2 hm
          go_loopg [16] 64 (fun m' i v => ∃ k : Nat, m' + k = 64 ∧ i = .int .i64 k ∧ CX n w s WF v ∧ M.RowAt v m 395 (r64 64 Sha.k) ∧ M.RowAt v (m + 1) 347 (stX (Sha.run WF s k)))
          case atStart => exact ⟨0, by omega, rfl, cw3, p3, q3⟩
          case round =>
            clear cw3 p3 q3
            obtain ⟨k, hm', rfl, ci, pk, pm⟩ := hrel
            by_cases hlt : k < 64
            · have hrs : Sha.run WF s (k + 1) = Sha.step (Sha.run WF s k) (Sha.k k) (WF k) := rfl
              have hok := Sha.run_ok (W := WF) hs k
              obtain ⟨st, hst⟩ : ∃ st, Sha.run WF s k = st := ⟨_, rfl⟩
              rw [hst] at pm hrs hok
              have HRS := Lib.hid hrs; have HOK := Lib.hid hok
              clear hrs hst hok
              have ck := (pk.cell k).trans (M.rowF_get hlt)
              have cx := (ci.r2.cell k).trans (M.rowF_get hlt)
              have q0 : wr.cell? ⟨m + 1, 0, none⟩ = some (.int .u64 (st.a : Nat)) := stX_cell pm 0 (by decide)
              have q1 : wr.cell? ⟨m + 1, 1, none⟩ = some (.int .u64 (st.b : Nat)) := stX_cell pm 1 (by decide)
              have q2 : wr.cell? ⟨m + 1, 2, none⟩ = some (.int .u64 (st.c : Nat)) := stX_cell pm 2 (by decide)
              have q4 : wr.cell? ⟨m + 1, 4, none⟩ = some (.int .u64 (st.e : Nat)) := stX_cell pm 4 (by decide)
              have q5 : wr.cell? ⟨m + 1, 5, none⟩ = some (.int .u64 (st.f : Nat)) := stX_cell pm 5 (by decide)
              have q6 : wr.cell? ⟨m + 1, 6, none⟩ = some (.int .u64 (st.g : Nat)) := stX_cell pm 6 (by decide)
              have q7 : wr.cell? ⟨m + 1, 7, none⟩ = some (.int .u64 (st.h : Nat)) := stX_cell pm 7 (by decide)
              have hch := ch_64 HOK.out.e HOK.out.f HOK.out.g
              have hmj := maj_64 HOK.out.a HOK.out.b HOK.out.c
              have hn6 := not_64 HOK.out.e
              have t6 : ∀ W, Calls Tryz.prog 285 #[.int .u64 (st.e : Nat), .int .i64 6] W fun e w' => e = .returned (.int .u64 (Sha.rot st.e 6 : Nat)) ∧ W = w' := fun W => turn_any st.e 6 W HOK.out.e (by decide)
              have t11 : ∀ W, Calls Tryz.prog 285 #[.int .u64 (st.e : Nat), .int .i64 11] W fun e w' => e = .returned (.int .u64 (Sha.rot st.e 11 : Nat)) ∧ W = w' := fun W => turn_any st.e 11 W HOK.out.e (by decide)
              have t25 : ∀ W, Calls Tryz.prog 285 #[.int .u64 (st.e : Nat), .int .i64 25] W fun e w' => e = .returned (.int .u64 (Sha.rot st.e 25 : Nat)) ∧ W = w' := fun W => turn_any st.e 25 W HOK.out.e (by decide)
              have t2' : ∀ W, Calls Tryz.prog 285 #[.int .u64 (st.a : Nat), .int .i64 2] W fun e w' => e = .returned (.int .u64 (Sha.rot st.a 2 : Nat)) ∧ W = w' := fun W => turn_any st.a 2 W HOK.out.a (by decide)
              have t13 : ∀ W, Calls Tryz.prog 285 #[.int .u64 (st.a : Nat), .int .i64 13] W fun e w' => e = .returned (.int .u64 (Sha.rot st.a 13 : Nat)) ∧ W = w' := fun W => turn_any st.a 13 W HOK.out.a (by decide)
              have t22 : ∀ W, Calls Tryz.prog 285 #[.int .u64 (st.a : Nat), .int .i64 22] W fun e w' => e = .returned (.int .u64 (Sha.rot st.a 22 : Nat)) ∧ W = w' := fun W => turn_any st.a 22 W HOK.out.a (by decide)
              have hb1 := big1_64 HOK.out.e
              have hb0 := big0_64 HOK.out.a
              have hkk := Sha.k_lt k
              obtain ⟨X, hX⟩ : ∃ X, WF k = X := ⟨_, rfl⟩
              have hxl : X < 4294967296 := by rw [← hX]; exact HWl.out k
              rw [hX] at cx
              have HX := Lib.hid hX
              obtain ⟨KI, hKI⟩ : ∃ KI, Sha.k k = KI := ⟨_, rfl⟩
              rw [hKI] at ck hkk
              have HKI := Lib.hid hKI
              clear hX hKI
              obtain ⟨s1, s2, s3, s4, s5⟩ := t1_64 HOK.out hkk hxl
              obtain ⟨s6, s7⟩ := t2_64 HOK.out
              obtain ⟨T1, hT1⟩ : ∃ T, Sha.t1 st KI X = T := ⟨_, rfl⟩
              obtain ⟨T2, hT2⟩ : ∃ T, Sha.t2 st = T := ⟨_, rfl⟩
              have l1 : T1 < 4294967296 := by rw [← hT1]; exact Nat.mod_lt _ (by decide)
              have l2 : T2 < 4294967296 := by rw [← hT2]; exact Nat.mod_lt _ (by decide)
              obtain ⟨f1, f2⟩ := small_sum l1 l2
              obtain ⟨f3, f4⟩ := small_sum HOK.out.d l1
              obtain ⟨NA, hNA⟩ : ∃ N, (T1 + T2) % 4294967296 = N := ⟨_, rfl⟩
              obtain ⟨NE, hNE⟩ : ∃ N, (st.d + T1) % 4294967296 = N := ⟨_, rfl⟩
              have hN : Sha.step st KI X = ⟨NA, st.a, st.b, st.c, NE, st.e, st.f, st.g⟩ := by
                unfold Sha.step; rw [hT1, hT2, hNA, hNE]
              rw [hT1] at s5
              rw [hT2] at s7
              rw [hNA] at f2
              rw [hNE] at f4
              have HNN := Lib.hid hN
              clear hN hNA hNE hT1 hT2 l1 l2 hkk hxl
              generalize Sha.ch st.e st.f st.g = ch at *
              generalize Sha.maj st.a st.b st.c = mj at *
              generalize Sha.big1 st.e = B1 at *
              generalize Sha.big0 st.a = B0 at *
              generalize Sha.rot st.e 6 = r6 at *
              generalize Sha.rot st.e 11 = r11 at *
              generalize Sha.rot st.e 25 = r25 at *
              generalize Sha.rot st.a 2 = r2 at *
              generalize Sha.rot st.a 13 = r13 at *
              generalize Sha.rot st.a 22 = r22 at *
              have D6 := Lib.hid t6; have D11 := Lib.hid t11; have D25 := Lib.hid t25; have D2 := Lib.hid t2'; have D13 := Lib.hid t13; have D22 := Lib.hid t22
              clear t6 t11 t25 t2' t13 t22
              obtain ⟨Cf, hCf⟩ : ∃ C : World → Prop, C = fun w' => w' = wr.drew := ⟨_, rfl⟩
              have HCf := Lib.hid hCf
              have cf0 : Cf wr.drew := by rw [hCf]
              clear hCf
              go_wp2_with fail
              refine QP.wp_region_p 22 Cf Cf (by kernel_rfl) (by kernel_rfl) cf0 ?_
              iterate 23
                (refine QP.wpQ_step (fun K hK => ?_)
                 go_simp
                 first
                   | (refine hK _ ?_; clear hK K)
                   | (refine ⟨?_, hK _ ?_⟩; decide; clear hK K)
                   | ((first | (apply Exists.intro; refine ⟨?_, hK _ ?_⟩) | refine ⟨⟨undef, ?_⟩, hK _ ?_⟩)
                      first
                        | (apply QP.al_p; decide; (focus (intro wq hq; (rw [HCf.out] at hq; subst hq); (unfold QP.oat; go_simp; first | done | exact ⟨by assumption, rfl⟩ | exact rfl | assumption | (first | exact ⟨cf0, rfl⟩ | ((with_reducible refine (D6.out _).mono ?_); rintro e w' ⟨rfl, rfl⟩; exact ⟨rfl, cf0⟩) | ((with_reducible refine (D11.out _).mono ?_); rintro e w' ⟨rfl, rfl⟩; exact ⟨rfl, cf0⟩) | ((with_reducible refine (D25.out _).mono ?_); rintro e w' ⟨rfl, rfl⟩; exact ⟨rfl, cf0⟩))))))
                        | (apply QP.al_dep; decide; decide; (focus (intro wq hq; (rw [HCf.out] at hq; subst hq); (unfold QP.oat; go_simp; first | done | exact ⟨by assumption, rfl⟩ | exact rfl | assumption | (first | exact ⟨cf0, rfl⟩ | ((with_reducible refine (D6.out _).mono ?_); rintro e w' ⟨rfl, rfl⟩; exact ⟨rfl, cf0⟩) | ((with_reducible refine (D11.out _).mono ?_); rintro e w' ⟨rfl, rfl⟩; exact ⟨rfl, cf0⟩) | ((with_reducible refine (D25.out _).mono ?_); rintro e w' ⟨rfl, rfl⟩; exact ⟨rfl, cf0⟩))))))
                        | (apply QP.al_bef; decide; decide; (focus (intro wq hq; (rw [HCf.out] at hq; subst hq); (unfold QP.oat; go_simp; first | done | exact ⟨by assumption, rfl⟩ | exact rfl | assumption | (first | exact ⟨cf0, rfl⟩ | ((with_reducible refine (D6.out _).mono ?_); rintro e w' ⟨rfl, rfl⟩; exact ⟨rfl, cf0⟩) | ((with_reducible refine (D11.out _).mono ?_); rintro e w' ⟨rfl, rfl⟩; exact ⟨rfl, cf0⟩) | ((with_reducible refine (D25.out _).mono ?_); rintro e w' ⟨rfl, rfl⟩; exact ⟨rfl, cf0⟩))))))
                        | (apply QP.al_ok; decide; (focus (intro wq hq; (rw [HCf.out] at hq; subst hq); (unfold QP.oat; go_simp; first | done | exact ⟨by assumption, rfl⟩ | exact rfl | assumption | (first | exact ⟨cf0, rfl⟩ | ((with_reducible refine (D6.out _).mono ?_); rintro e w' ⟨rfl, rfl⟩; exact ⟨rfl, cf0⟩) | ((with_reducible refine (D11.out _).mono ?_); rintro e w' ⟨rfl, rfl⟩; exact ⟨rfl, cf0⟩) | ((with_reducible refine (D25.out _).mono ?_); rintro e w' ⟨rfl, rfl⟩; exact ⟨rfl, cf0⟩))))); (focus (intro wq hq; (rw [HCf.out] at hq; subst hq); (unfold QP.oat; go_simp; first | done | exact ⟨by assumption, rfl⟩ | exact rfl | assumption | (first | exact ⟨cf0, rfl⟩ | ((with_reducible refine (D6.out _).mono ?_); rintro e w' ⟨rfl, rfl⟩; exact ⟨rfl, cf0⟩) | ((with_reducible refine (D11.out _).mono ?_); rintro e w' ⟨rfl, rfl⟩; exact ⟨rfl, cf0⟩) | ((with_reducible refine (D25.out _).mono ?_); rintro e w' ⟨rfl, rfl⟩; exact ⟨rfl, cf0⟩))))))
                      clear hK K))
              refine QP.wpQ_nil ?_
              intro wz hz
              rw [HCf.out] at hz
              subst hz
              have q3 : wr.cell? ⟨m + 1, 3, none⟩ = some (.int .u64 (st.d : Nat)) := stX_cell pm 3 (by decide)
              have ci4 := ci.drew
              have pm4 := pm.drew
              have pk4 := pk.drew
              clear ci pm pk hch hb1 hn6 s1 s2 s3 s4 s5 ck cx q7
              go_wp2_with fail
              refine (D2.out _).mono ?_
              rintro e w1 ⟨rfl, rfl⟩
              go_wp2_with fail
              refine (D13.out _).mono ?_
              rintro e w1 ⟨rfl, rfl⟩
              go_wp2_with fail
              refine (D22.out _).mono ?_
              rintro e w1 ⟨rfl, rfl⟩
              obtain ⟨D, hD⟩ : ∃ D, stX ⟨NA, st.a, st.b, st.c, NE, st.e, st.f, st.g⟩ = D := ⟨_, rfl⟩
              have sD : D.size = 8 := by rw [← hD]; exact M.rowF_size
              have oD : D.all (·.oneCell') = true := by rw [← hD]; exact M.rowF_one
              have iD := info37 _ sD
              have zD : (stX st).size = D.size := by rw [sD]; exact M.rowF_size
              have pm5 := pm4.setRow D
              have pk5 := pk4.farRow (b := m + 1) (by omega) D
              have ci5 : CX n w s WF (wr.drew.setRow (m + 1) D) :=
                ⟨ci4.r0.farRow (by omega) _, ci4.r1.farRow (by omega) _, ci4.r2.farRow (by omega) _, M.below_setRow ci4.below (by omega)⟩
              have rr := pm4
              unfold M.RowAt at rr
              have hDl : D = #[.int .u64 (NA : Int), .int .u64 (st.a : Int), .int .u64 (st.b : Int), .int .u64 (st.c : Int), .int .u64 (NE : Int), .int .u64 (st.e : Int), .int .u64 (st.f : Int), .int .u64 (st.g : Int)] := by rw [← hD]; rfl
              have HDL := Lib.hid hDl; have HD := Lib.hid hD
              clear hD hDl
              go_wp2_with (refine wpList_store_row (x := .tmp 15) (y := .tmp 184) (cells := D) (old := stX st) (t := 347) (ty := 347) (g := m + 1) ?_ ?_ ?_ ?_ rr iD zD oD ?_; rfl; rfl; rfl; (rw [HDL.out]; rfl))
              go_roundg (64 - (k + 1))
              case measure => omega
              case rel => exact ⟨k + 1, by omega, by go_num, ci5, pk5, by rw [HRS.out, HX.out, HKI.out, HNN.out, HD.out]; exact pm5⟩
            · obtain rfl : k = 64 := by omega
              obtain ⟨rv, hrv⟩ : ∃ rv, Sha.run WF s 64 = rv := ⟨_, rfl⟩
              have hcp : Sha.compress s b = Sha.add s rv := by rw [← hrv, ← HWF.out]; rfl
              rw [hrv] at pm
              have hvok := Sha.run_ok (W := WF) hs 64
              rw [hrv] at hvok
              have HCP := Lib.hid hcp
              have cc : ∃ f : Nat → Nat, (∀ j, j < 8 → f j = if j < 0 then (Sha.add s rv).get j else s.get j) ∧ M.RowAt wr n 347 (r64 8 f) ∧ M.RowAt wr (n + 1) 347 Y8 ∧ M.RowAt wr (m + 1) 347 (stX rv) ∧ Below n w wr :=
                ⟨s.get, fun j _ => rfl, ci.r0, ci.r1, pm, ci.below⟩
              have HVOK := Lib.hid hvok
              clear ci pm pk hrv hcp hvok hlt
              go_wp2
              go_loopg [23] 8 (fun m' i v => ∃ (k : Nat) (f : Nat → Nat), m' + k = 8 ∧ i = .int .i64 k ∧ (∀ j, j < 8 → f j = if j < k then (Sha.add s rv).get j else s.get j) ∧ M.RowAt v n 347 (r64 8 f) ∧ M.RowAt v (n + 1) 347 Y8 ∧ M.RowAt v (m + 1) 347 (stX rv) ∧ Below n w v)
              case atStart =>
                obtain ⟨f, h1, h2⟩ := cc
                exact ⟨0, f, by omega, rfl, h1, h2⟩
              case round =>
                clear cc hm'
                obtain ⟨k, f, hm', rfl, hf, c0, c1, c2, cb⟩ := hrel
                by_cases hlt : k < 8
                · have HF := Lib.hid hf
                  clear hf
                  have e1 := (c0.cell k).trans (M.rowF_get hlt)
                  have e2 := stX_cell c2 k hlt
                  have fk : f k = s.get k := by rw [HF.out k hlt, if_neg (by omega)]
                  rw [fk] at e1
                  have hg := Sha.add_get s rv k hlt
                  have l1 := Sha.St.get_lt hs k
                  have l2 := Sha.St.get_lt HVOK.out k
                  have d0 := c0.drew; have d1 := c1.drew; have d2 := c2.drew
                  have db := cb.drew
                  have d5 := d0.frozen k
                  have d6 := (d0.cell k).trans (M.rowF_get hlt)
                  rw [fk] at d6
                  have e3 := d0.set k (.int .u64 ((Sha.add s rv).get k : Nat))
                  rw [M.rowF_set (g := fun j => ((if j = k then (Sha.add s rv).get k else f j : Nat) : Int)) _ hlt (fun j _ => by split <;> rfl)] at e3
                  have e4 := d1.far (p := ⟨n, k, none⟩) (by show n ≠ n + 1; omega) (.int .u64 ((Sha.add s rv).get k : Nat))
                  have e5 := d2.far (p := ⟨n, k, none⟩) (by show n ≠ m + 1; omega) (.int .u64 ((Sha.add s rv).get k : Nat))
                  have e6 : Below n w (wr.drew.setCell ⟨n, k, none⟩ (.int .u64 ((Sha.add s rv).get k : Nat))) := db.setCell (Nat.le_refl _) _
                  have hF2 : ∀ j, j < 8 → (if j = k then (Sha.add s rv).get k else f j) = if j < k + 1 then (Sha.add s rv).get j else s.get j := fun j hj => by
                    by_cases h : j = k
                    · rw [if_pos h, if_pos (by omega), h]
                    · rw [if_neg h, HF.out j hj]
                      by_cases h2 : j < k
                      · rw [if_pos h2, if_pos (by omega)]
                      · rw [if_neg h2, if_neg (by omega)]
                  have HF2 := Lib.hid hF2
                  obtain ⟨F2, hF2'⟩ : ∃ F2 : Nat → Nat, (fun j => if j = k then (Sha.add s rv).get k else f j) = F2 := ⟨_, rfl⟩
                  have e3 : M.RowAt (wr.drew.setCell ⟨n, k, none⟩ (.int .u64 ((Sha.add s rv).get k : Nat))) n 347 (r64 8 F2) := by rw [← hF2']; exact e3
                  have hF3 : ∀ j, j < 8 → F2 j = if j < k + 1 then (Sha.add s rv).get j else s.get j := fun j hj => by rw [← hF2']; exact HF2.out j hj
                  have HF3 := Lib.hid hF3
                  clear hF2 hF2' hF3 fk HF2 d0 d1 d2 db
                  generalize (Sha.add s rv).get k = N at *
                  generalize s.get k = x at *
                  generalize rv.get k = y at *
                  have hs1 : IntKind.u64.wrap ((x : Int) + (y : Int)) = (x : Int) + (y : Int) := by rw [IntKind.wrap_u64]; omega
                  have hs0 : ((x : Int) + (y : Int)) % 18446744073709551616 = (x : Int) + (y : Int) := by omega
                  have hs3 : ((x : Int) + (y : Int)).tmod 4294967296 = (N : Int) := by rw [Int.tmod_eq_emod_of_nonneg (by omega)]; omega
                  have hs2 : ((x : Int) + (y : Int)) % 4294967296 = (N : Int) := by omega
                  clear hg l1 l2
                  have HE3 := Lib.hid e3; have HE4 := Lib.hid e4; have HE5 := Lib.hid e5; have HE6 := Lib.hid e6
                  clear e3 e4 e5 e6 c0 c1 c2 cb
                  go_wp2_with fail
                  go_still_tail 10, (by kernel_rfl)
                  change wpList _ _ _ _ _ wr.drew
                  generalize wr.drew = w5 at *
                  go_wp2
                  go_roundg (8 - (k + 1))
                  case measure => omega
                  case rel => exact ⟨k + 1, F2, by omega, by go_num, HF3.out, HE3.out, HE4.out, HE5.out, HE6.out⟩
                · obtain rfl : k = 8 := by omega
                  have hfin : r64 8 f = stX (Sha.add s rv) := M.rowF_congr (fun j hj => by rw [hf j hj, if_pos hj])
                  rw [hfin] at c0
                  have HCF : Hid (stX (Sha.add s rv) = stX (Sha.compress s b)) := Lib.hid (by rw [HCP.out])
                  obtain ⟨D, hD⟩ : ∃ D, stX (Sha.add s rv) = D := ⟨_, rfl⟩
                  have sD : D.size = 8 := by rw [← hD]; exact M.rowF_size
                  have zD : Y8.size = D.size := by rw [sD]; rfl
                  have oD : D.all (·.oneCell') = true := by rw [← hD]; exact M.rowF_one
                  have iD := info37 _ sD
                  have HD := Lib.hid hD
                  rw [hD] at c0
                  have q6 := c1.setRow D
                  have b6 := M.below_setRow (g := n + 1) (cs := D) cb (by omega)
                  unfold M.RowAt at c0 c1
                  clear hf hfin hD
                  go_wp2_with (first
                    | (refine wpList_load_row (x := .tmp 2) (ty := 347) (g := n) (cs := D) (t := 347) (fr := (0, 0)) ?_ ?_ ?_ _ c0 und37 rfl iD ?_; rfl; rfl; rfl)
                    | (refine wpList_store_row (x := .tmp 4) (y := .tmp 199) (cells := D) (old := Y8) (t := 347) (ty := 347) (g := n + 1) ?_ ?_ ?_ ?_ c1 iD zD oD ?_; rfl; rfl; rfl; rfl))
                  have hload := run_loadVar_row (P := Tryz.prog) _ (n + 1) 347 347 D (0, 0) _ q6 und37 rfl iD
                  refine bodyPost_ret (v := .tuple #[.agg D, .bool true]) (by simp [results, Tryz.results220, asAddr, hload]) rfl ⟨by rw [← HD.out, HCF.out], ?_⟩
                  rw [HN.out]
                  exact b6
end Go.Proofs.YtdebnbgjgkbmaaaGreatDoor
namespace Go.Proofs.YtdebnbgjgkbmaaaGreatDoor
open Go.RowKit
set_option linter.unusedVariables false
theorem bv_r : BV = stX Sha.begin0 := by kernel_rfl
section
variable {n : Nat} {w : World} {R R' : Array Value} {h h' : Sha.St} {v v' : World}
theorem CS.setH (c : CS n w R h v) : CS n w R h' (v.setRow (n + 1) (stX h')) :=
  ⟨M.RowAt.farRow c.r (by omega) _, M.RowAt.setRow c.h _, M.below_setRow c.below (by omega)⟩
end
theorem cut_mid (b : ByteArray) (i : Nat) : (b.extract i (i + 64)).size = min 64 (b.size - i) := by simp; omega
theorem set8 {n g : Nat} {w v : World} {R : Array Value} {h : Sha.St} (c : CS n w R h v) (hg : n + 1 < g) (r : M.RowAt v g 347 Y8) (s2 : Sha.St) :
    CS n w R h ((((((((v.setCell ⟨g, 0, none⟩ (.int .u64 (s2.a : Nat))).setCell ⟨g, 1, none⟩ (.int .u64 (s2.b : Nat))).setCell ⟨g, 2, none⟩ (.int .u64 (s2.c : Nat))).setCell ⟨g, 3, none⟩ (.int .u64 (s2.d : Nat))).setCell ⟨g, 4, none⟩ (.int .u64 (s2.e : Nat))).setCell ⟨g, 5, none⟩ (.int .u64 (s2.f : Nat))).setCell ⟨g, 6, none⟩ (.int .u64 (s2.g : Nat))).setCell ⟨g, 7, none⟩ (.int .u64 (s2.h : Nat))) ∧ M.RowAt ((((((((v.setCell ⟨g, 0, none⟩ (.int .u64 (s2.a : Nat))).setCell ⟨g, 1, none⟩ (.int .u64 (s2.b : Nat))).setCell ⟨g, 2, none⟩ (.int .u64 (s2.c : Nat))).setCell ⟨g, 3, none⟩ (.int .u64 (s2.d : Nat))).setCell ⟨g, 4, none⟩ (.int .u64 (s2.e : Nat))).setCell ⟨g, 5, none⟩ (.int .u64 (s2.f : Nat))).setCell ⟨g, 6, none⟩ (.int .u64 (s2.g : Nat))).setCell ⟨g, 7, none⟩ (.int .u64 (s2.h : Nat))) g 347 (stX s2) := by
  have key : ∀ (v : World) (i : Nat) (u : Value), CS n w R h v → CS n w R h (v.setCell ⟨g, i, none⟩ u) := fun v i u c =>
    ⟨M.RowAt.far c.r (by show g ≠ n; omega) u, M.RowAt.far c.h (by show g ≠ n + 1; omega) u, c.below.setCell (by show n ≤ g; omega) u⟩
  refine ⟨key _ _ _ (key _ _ _ (key _ _ _ (key _ _ _ (key _ _ _ (key _ _ _ (key _ _ _ (key _ _ _ c))))))), ?_⟩
  have e : ((((((((Y8.setIfInBounds 0 (.int .u64 (s2.a : Nat))).setIfInBounds 1 (.int .u64 (s2.b : Nat))).setIfInBounds 2 (.int .u64 (s2.c : Nat))).setIfInBounds 3 (.int .u64 (s2.d : Nat))).setIfInBounds 4 (.int .u64 (s2.e : Nat))).setIfInBounds 5 (.int .u64 (s2.f : Nat))).setIfInBounds 6 (.int .u64 (s2.g : Nat))).setIfInBounds 7 (.int .u64 (s2.h : Nat))) = stX s2 := by
    have l : stX s2 = #[.int .u64 (s2.a : Nat), .int .u64 (s2.b : Nat), .int .u64 (s2.c : Nat), .int .u64 (s2.d : Nat), .int .u64 (s2.e : Nat), .int .u64 (s2.f : Nat), .int .u64 (s2.g : Nat), .int .u64 (s2.h : Nat)] := rfl
    rw [l]; simp [Y8]
  rw [← e]
  exact ((((((((r.set 0 (.int .u64 (s2.a : Nat))).set 1 (.int .u64 (s2.b : Nat))).set 2 (.int .u64 (s2.c : Nat))).set 3 (.int .u64 (s2.d : Nat))).set 4 (.int .u64 (s2.e : Nat))).set 5 (.int .u64 (s2.f : Nat))).set 6 (.int .u64 (s2.g : Nat))).set 7 (.int .u64 (s2.h : Nat)))
theorem bcell {W w1 : World} (hb : Below W.heap.size W w1) : (∀ b o, b < W.heap.size → w1.cell? ⟨b, o, none⟩ = W.cell? ⟨b, o, none⟩) ∧ (∀ b o, b < W.heap.size → w1.frozen? ⟨b, o, none⟩ = W.frozen? ⟨b, o, none⟩) :=
  ⟨fun b o h => hb.cell (p := ⟨b, o, none⟩) h, fun b o h => hb.frozen (p := ⟨b, o, none⟩) h⟩
set_option maxRecDepth 100000 in
set_option maxHeartbeats 4000000 in
theorem rsum_any (t : ByteArray) (w : World) (hts : t.size ≤ 100000000000) :
    Calls Tryz.prog 149 #[.string t] w fun e w' => e = .returned (.agg (r8 32 (Sha.sum t))) ∧ Below w.heap.size w w' := by
  obtain ⟨n, hn⟩ : ∃ n, w.heap.size = n := ⟨_, rfl⟩
  have HN := Lib.hid hn
  have c0 : CS n w Z32 Sha.begin0 (((w.alloc (.cells Z32 47)).alloc (.cells Y8 347)).setRow (n + 1) (stX Sha.begin0)) := by
    subst hn
    have a1 := M.RowAt.new w 47 Z32
    have a2 := M.RowAt.new (w.alloc (.cells Z32 47)) 347 Y8
    rw [World.size_alloc] at a2
    exact ⟨(a1.alloc _).farRow (by omega) _, a2.setRow _, M.below_setRow (((Below.refl _ _).alloc (Nat.le_refl _) _).alloc (by simp) _) (by omega)⟩
  have r1 : ((w.alloc (.cells Z32 47)).alloc (.cells Y8 347)).heap[n + 1]? = some (.cells Y8 347 (0, 0)) := by
    subst hn
    have a2 := M.RowAt.new (w.alloc (.cells Z32 47)) 347 Y8
    rw [World.size_alloc] at a2
    exact a2
  rw [← bv_r] at c0
  have r1' : ((w.alloc (.cells #[.int .u8 0, .int .u8 0, .int .u8 0, .int .u8 0, .int .u8 0, .int .u8 0, .int .u8 0, .int .u8 0, .int .u8 0, .int .u8 0, .int .u8 0, .int .u8 0, .int .u8 0, .int .u8 0, .int .u8 0, .int .u8 0, .int .u8 0, .int .u8 0, .int .u8 0, .int .u8 0, .int .u8 0, .int .u8 0, .int .u8 0, .int .u8 0, .int .u8 0, .int .u8 0, .int .u8 0, .int .u8 0, .int .u8 0, .int .u8 0, .int .u8 0, .int .u8 0] 47)).alloc (.cells #[.int .u64 0, .int .u64 0, .int .u64 0, .int .u64 0, .int .u64 0, .int .u64 0, .int .u64 0, .int .u64 0] 347)).heap[n + 1]? = some (.cells Y8 347 (0, 0)) := r1
  obtain ⟨v0, hv0⟩ : ∃ v0, ((w.alloc (.cells #[.int .u8 0, .int .u8 0, .int .u8 0, .int .u8 0, .int .u8 0, .int .u8 0, .int .u8 0, .int .u8 0, .int .u8 0, .int .u8 0, .int .u8 0, .int .u8 0, .int .u8 0, .int .u8 0, .int .u8 0, .int .u8 0, .int .u8 0, .int .u8 0, .int .u8 0, .int .u8 0, .int .u8 0, .int .u8 0, .int .u8 0, .int .u8 0, .int .u8 0, .int .u8 0, .int .u8 0, .int .u8 0, .int .u8 0, .int .u8 0, .int .u8 0, .int .u8 0] 47)).alloc (.cells #[.int .u64 0, .int .u64 0, .int .u64 0, .int .u64 0, .int .u64 0, .int .u64 0, .int .u64 0, .int .u64 0] 347)).setRow (n + 1) BV = v0 := ⟨_, rfl⟩
  have c0 : CS n w Z32 Sha.begin0 v0 := hv0 ▸ c0
  have iB := info37 BV rfl
  have oB : BV.all (·.oneCell') = true := by kernel_rfl
  have n1 := fun v => rpad_any t v (by omega)
  have hps := Sha.pad_size t
  have hz := zeros_lt t.size
  have hpw := Sha.pad_whole t
  obtain ⟨P, hP⟩ : ∃ P, Sha.pad t = P := ⟨_, rfl⟩
  rw [hP] at n1 hps hpw
  have hwd : Sha.words t = Sha.blk Sha.begin0 P (P.size / 64) := by rw [← hP]; rfl
  have N1 := Lib.hid n1; have HV := Lib.hid hv0; have R1 := Lib.hid r1'; have HWD := Lib.hid hwd
  have hPs : P.size ≤ 1000000000000 := by omega
  clear n1 hv0 r1 r1' hwd hP hps
  go_enter Tryz.func149, Tryz.ntmps149
  go_wp2_with (refine wpList_store_row (x := .tmp 3) (y := .tmp 10) (cells := BV) (old := Y8) (t := 347) (ty := 347) (g := n + 1) ?_ ?_ ?_ ?_ R1.out iB rfl oB ?_; rfl; rfl; rfl; rfl; rw [HV.out])
  refine (N1.out _).mono ?_
  rintro e v1 ⟨rfl, g1⟩
  have c1 := c0.same g1
  clear c0 g1 hn hz
  go_wp2
  go_loopg [5] (P.size / 64) (fun m i v => ∃ (k : Nat), m + k = P.size / 64 ∧ i = .int .i64 (64 * (k : Int)) ∧ CS n w Z32 (Sha.blk Sha.begin0 P k) v)
  case atStart => exact ⟨0, by omega, rfl, c1⟩
  case round =>
    clear c1
    obtain ⟨k, hm, rfl, cs⟩ := hrel
    by_cases hlt : k < P.size / 64
    · have hk1 : 64 * (k : Int) < P.size := by omega
      have g1 : IntKind.i64.wrap (64 * (k : Int) + 64) = 64 * (k : Int) + 64 := IntWalk.i64_in _ (by omega)
      have g2 : (64 * (k : Int)).toNat = 64 * k := by omega
      have g3 : (64 * (k : Int) + 64).toNat = 64 * k + 64 := by omega
      have g4 : (0 : Int) ≤ 64 * (k : Int) := by omega
      have g5 : 64 * (k : Int) + 64 ≤ P.size := by omega
      have g6 : 64 * (k : Int) ≤ 64 * (k : Int) + 64 := by omega
      have g7 : (0 : Int) ≤ 64 * (k : Int) + 64 := by omega
      have hok := Sha.blk_ok Sha.begin0_ok P k
      have hcm : Sha.blk Sha.begin0 P (k + 1) = Sha.compress (Sha.blk Sha.begin0 P k) (P.extract (64 * k) (64 * k + 64)) := rfl
      have hXs : (P.extract (64 * k) (64 * k + 64)).size = 64 := by rw [cut_mid]; omega
      obtain ⟨sk, hsk⟩ : ∃ sk, Sha.blk Sha.begin0 P k = sk := ⟨_, rfl⟩
      rw [hsk] at cs hok hcm
      obtain ⟨X, hX⟩ : ∃ X, P.extract (64 * k) (64 * k + 64) = X := ⟨_, rfl⟩
      rw [hX] at hXs hcm
      have cx := fun v => rcompress_any sk X v hok hXs
      obtain ⟨s2, hs2⟩ : ∃ s2, Sha.compress sk X = s2 := ⟨_, rfl⟩
      rw [hs2] at cx hcm
      have cx : ∀ v, Calls Tryz.prog 220 #[.agg #[.int .u64 (sk.a : Nat), .int .u64 (sk.b : Nat), .int .u64 (sk.c : Nat), .int .u64 (sk.d : Nat), .int .u64 (sk.e : Nat), .int .u64 (sk.f : Nat), .int .u64 (sk.g : Nat), .int .u64 (sk.h : Nat)], .string X] v fun e w' => e = .returned (.tuple #[.agg #[.int .u64 (s2.a : Nat), .int .u64 (s2.b : Nat), .int .u64 (s2.c : Nat), .int .u64 (s2.d : Nat), .int .u64 (s2.e : Nat), .int .u64 (s2.f : Nat), .int .u64 (s2.g : Nat), .int .u64 (s2.h : Nat)], .bool true]) ∧ Below v.heap.size v w' := cx
      clear hs2
      have CX := Lib.hid cx; have HX := Lib.hid hX; have HCM := Lib.hid hcm
      clear cx hX hcm hXs hok hsk
      have hnlt := M.RowAt.lt cs.h
      have iS2 := info37 (stX s2) M.rowF_size
      have zS : (stX sk).size = (stX s2).size := by rw [M.rowF_size, M.rowF_size]
      have oS : (stX s2).all (·.oneCell') = true := M.rowF_one
      have q0 : wr.cell? ⟨n + 1, 0, none⟩ = some (.int .u64 (sk.a : Nat)) := stX_cell cs.h 0 (by decide)
      have q1 : wr.cell? ⟨n + 1, 1, none⟩ = some (.int .u64 (sk.b : Nat)) := stX_cell cs.h 1 (by decide)
      have q2 : wr.cell? ⟨n + 1, 2, none⟩ = some (.int .u64 (sk.c : Nat)) := stX_cell cs.h 2 (by decide)
      have q3 : wr.cell? ⟨n + 1, 3, none⟩ = some (.int .u64 (sk.d : Nat)) := stX_cell cs.h 3 (by decide)
      have q4 : wr.cell? ⟨n + 1, 4, none⟩ = some (.int .u64 (sk.e : Nat)) := stX_cell cs.h 4 (by decide)
      have q5 : wr.cell? ⟨n + 1, 5, none⟩ = some (.int .u64 (sk.f : Nat)) := stX_cell cs.h 5 (by decide)
      have q6 : wr.cell? ⟨n + 1, 6, none⟩ = some (.int .u64 (sk.g : Nat)) := stX_cell cs.h 6 (by decide)
      have q7 : wr.cell? ⟨n + 1, 7, none⟩ = some (.int .u64 (sk.h : Nat)) := stX_cell cs.h 7 (by decide)
      go_wp2_with fail
      go_region_with (first | (go_at_call 220; rw [HX.out]; refine (CX.out _).mono ?_; rintro e w' ⟨rfl, gq⟩; obtain ⟨hc, hf⟩ := bcell gq))
      · have csV := (cs.drew.same gq).same ((Below.refl _ w').alloc (Nat.le_refl _) (.cells #[.int .u64 (s2.a : Nat), .int .u64 (s2.b : Nat), .int .u64 (s2.c : Nat), .int .u64 (s2.d : Nat), .int .u64 (s2.e : Nat), .int .u64 (s2.f : Nat), .int .u64 (s2.g : Nat), .int .u64 (s2.h : Nat)] 347))
        have rV : M.RowAt (w'.alloc (.cells #[.int .u64 (s2.a : Nat), .int .u64 (s2.b : Nat), .int .u64 (s2.c : Nat), .int .u64 (s2.d : Nat), .int .u64 (s2.e : Nat), .int .u64 (s2.f : Nat), .int .u64 (s2.g : Nat), .int .u64 (s2.h : Nat)] 347)) w'.heap.size 347 (stX s2) := M.RowAt.new w' 347 _
        generalize w'.alloc (.cells #[.int .u64 (s2.a : Nat), .int .u64 (s2.b : Nat), .int .u64 (s2.c : Nat), .int .u64 (s2.d : Nat), .int .u64 (s2.e : Nat), .int .u64 (s2.f : Nat), .int .u64 (s2.g : Nat), .int .u64 (s2.h : Nat)] 347) = V at *
        generalize w'.heap.size = g at *
        unfold M.RowAt at rV
        have hS := csV.h
        have csW : CS n w Z32 s2 (V.setRow (n + 1) (stX s2)) := csV.setH
        clear gq hc hf
        go_wp2_with (first
          | (refine wpList_load_row (x := .tmp 6) (ty := 347) (g := g) (cs := stX s2) (t := 347) (fr := (0, 0)) ?_ ?_ ?_ _ rV und37 rfl iS2 ?_; rfl; rfl; rfl)
          | (refine wpList_store_row (x := .tmp 3) (y := .tmp 29) (cells := stX s2) (old := stX sk) (t := 347) (ty := 347) (g := n + 1) ?_ ?_ ?_ ?_ hS iS2 zS oS ?_; rfl; rfl; rfl; rfl))
        go_roundg (P.size / 64 - (k + 1))
        case measure => omega
        case rel => exact ⟨k + 1, by omega, by congr 1, by rw [HCM.out]; exact csW⟩
      · have cs1 := ((cs.same ((Below.refl _ wr).alloc (Nat.le_refl _) (.cells #[.int .u64 0, .int .u64 0, .int .u64 0, .int .u64 0, .int .u64 0, .int .u64 0, .int .u64 0, .int .u64 0] 347))).drew).same gq
        have r1 : M.RowAt w' wr.heap.size 347 Y8 := (M.RowAt.new wr 347 Y8).drew.below gq (by simp)
        obtain ⟨csV, rV⟩ := set8 cs1 hnlt r1 s2
        generalize ((((((((w'.setCell ⟨wr.heap.size, 0, none⟩ (.int .u64 (s2.a : Nat))).setCell ⟨wr.heap.size, 1, none⟩ (.int .u64 (s2.b : Nat))).setCell ⟨wr.heap.size, 2, none⟩ (.int .u64 (s2.c : Nat))).setCell ⟨wr.heap.size, 3, none⟩ (.int .u64 (s2.d : Nat))).setCell ⟨wr.heap.size, 4, none⟩ (.int .u64 (s2.e : Nat))).setCell ⟨wr.heap.size, 5, none⟩ (.int .u64 (s2.f : Nat))).setCell ⟨wr.heap.size, 6, none⟩ (.int .u64 (s2.g : Nat))).setCell ⟨wr.heap.size, 7, none⟩ (.int .u64 (s2.h : Nat))) = V at *
        generalize wr.heap.size = g at *
        unfold M.RowAt at rV
        have hS := csV.h
        have csW : CS n w Z32 s2 (V.setRow (n + 1) (stX s2)) := csV.setH
        clear gq hc hf
        go_wp2_with (first
          | (refine wpList_load_row (x := .tmp 6) (ty := 347) (g := g) (cs := stX s2) (t := 347) (fr := (0, 0)) ?_ ?_ ?_ _ rV und37 rfl iS2 ?_; rfl; rfl; rfl)
          | (refine wpList_store_row (x := .tmp 3) (y := .tmp 29) (cells := stX s2) (old := stX sk) (t := 347) (ty := 347) (g := n + 1) ?_ ?_ ?_ ?_ hS iS2 zS oS ?_; rfl; rfl; rfl; rfl))
        go_roundg (P.size / 64 - (k + 1))
        case measure => omega
        case rel => exact ⟨k + 1, by omega, by congr 1, by rw [HCM.out]; exact csW⟩
      · have cs1 := ((cs.same ((Below.refl _ wr).alloc (Nat.le_refl _) (.cells #[.int .u64 0, .int .u64 0, .int .u64 0, .int .u64 0, .int .u64 0, .int .u64 0, .int .u64 0, .int .u64 0] 347))).drew).same gq
        have r1 : M.RowAt w' wr.heap.size 347 Y8 := (M.RowAt.new wr 347 Y8).drew.below gq (by simp)
        obtain ⟨csV, rV⟩ := set8 cs1 hnlt r1 s2
        generalize ((((((((w'.setCell ⟨wr.heap.size, 0, none⟩ (.int .u64 (s2.a : Nat))).setCell ⟨wr.heap.size, 1, none⟩ (.int .u64 (s2.b : Nat))).setCell ⟨wr.heap.size, 2, none⟩ (.int .u64 (s2.c : Nat))).setCell ⟨wr.heap.size, 3, none⟩ (.int .u64 (s2.d : Nat))).setCell ⟨wr.heap.size, 4, none⟩ (.int .u64 (s2.e : Nat))).setCell ⟨wr.heap.size, 5, none⟩ (.int .u64 (s2.f : Nat))).setCell ⟨wr.heap.size, 6, none⟩ (.int .u64 (s2.g : Nat))).setCell ⟨wr.heap.size, 7, none⟩ (.int .u64 (s2.h : Nat))) = V at *
        generalize wr.heap.size = g at *
        unfold M.RowAt at rV
        have hS := csV.h
        have csW : CS n w Z32 s2 (V.setRow (n + 1) (stX s2)) := csV.setH
        clear gq hc hf
        go_wp2_with (first
          | (refine wpList_load_row (x := .tmp 6) (ty := 347) (g := g) (cs := stX s2) (t := 347) (fr := (0, 0)) ?_ ?_ ?_ _ rV und37 rfl iS2 ?_; rfl; rfl; rfl)
          | (refine wpList_store_row (x := .tmp 3) (y := .tmp 29) (cells := stX s2) (old := stX sk) (t := 347) (ty := 347) (g := n + 1) ?_ ?_ ?_ ?_ hS iS2 zS oS ?_; rfl; rfl; rfl; rfl))
        go_roundg (P.size / 64 - (k + 1))
        case measure => omega
        case rel => exact ⟨k + 1, by omega, by congr 1, by rw [HCM.out]; exact csW⟩
    · obtain rfl : k = P.size / 64 := by omega
      have hk1 : ¬ 64 * ((P.size / 64 : Nat) : Int) < P.size := by omega
      rw [← HWD.out] at cs
      have hwok := Sha.words_ok t
      have hsm : ∀ i, Sha.sum t i = (Sha.words t).get (i / 4) / 2 ^ (24 - 8 * (i % 4)) % 256 := fun i => rfl
      obtain ⟨W, hW⟩ : ∃ W, Sha.words t = W := ⟨_, rfl⟩
      rw [hW] at cs hwok hsm
      obtain ⟨F, hF⟩ : ∃ F, Sha.sum t = F := ⟨_, rfl⟩
      rw [hF] at hsm
      have HF := Lib.hid hF; have HSM := Lib.hid hsm; have HWOK := Lib.hid hwok
      clear hW hF hsm hwok
      obtain ⟨m, hm'⟩ : ∃ m, wr.heap.size = m := ⟨_, rfl⟩
      have hnm : n + 1 < m := by have := M.RowAt.lt cs.h; omega
      have c1 := cs.same ((Below.refl _ wr).alloc (Nat.le_refl _) (.cells Z32 47))
      have p1 := M.RowAt.new wr 47 Z32
      have r9 := heap_alloc_new wr (.cells Z32 47)
      have e9 := World.setRow_alloc_new wr Z32 Z32 47
      rw [hm'] at p1 r9 e9
      rw [← e9] at c1 p1
      have i28 := r8_info (fun _ => 0)
      rw [z32_r8] at i28
      have o28 : Z32.all (·.oneCell') = true := by kernel_rfl
      obtain ⟨v1, hv1⟩ : ∃ v1, (wr.alloc (.cells #[.int .u8 0, .int .u8 0, .int .u8 0, .int .u8 0, .int .u8 0, .int .u8 0, .int .u8 0, .int .u8 0, .int .u8 0, .int .u8 0, .int .u8 0, .int .u8 0, .int .u8 0, .int .u8 0, .int .u8 0, .int .u8 0, .int .u8 0, .int .u8 0, .int .u8 0, .int .u8 0, .int .u8 0, .int .u8 0, .int .u8 0, .int .u8 0, .int .u8 0, .int .u8 0, .int .u8 0, .int .u8 0, .int .u8 0, .int .u8 0, .int .u8 0, .int .u8 0] 47)).setRow m Z32 = v1 := ⟨_, rfl⟩
      have c1 : CS n w Z32 W v1 := hv1 ▸ c1
      have p1 : M.RowAt v1 m 47 Z32 := hv1 ▸ p1
      have HV1 := Lib.hid hv1
      clear hv1 e9 cs hm
      generalize ((P.size / 64 : Nat) : Int) = Q at *
      go_wp2_with (refine wpList_store_row (x := .tmp 8) (y := .tmp 30) (cells := Z32) (old := Z32) (t := 47) (ty := 47) (g := m) ?_ ?_ ?_ ?_ r9 i28 rfl o28 ?_; rfl; rfl; rfl; rfl; rw [HV1.out])
      rw [← upto_zero F] at p1
      clear r9 hm'
      go_loopg [9] 32 (fun m' i v => ∃ k : Nat, m' + k = 32 ∧ i = .int .i64 k ∧ CS n w Z32 W v ∧ M.RowAt v m 47 (r8 32 (upto F k)))
      case atStart => exact ⟨0, by omega, rfl, c1, p1⟩
      case round =>
        clear c1 p1
        obtain ⟨k, hm, rfl, cs, p2⟩ := hrel
        by_cases hlt : k < 32
        · have q0 : wr.cell? ⟨n + 1, k / 4, none⟩ = some (.int .u64 (W.get (k / 4) : Nat)) := stX_cell cs.h (k / 4) (by omega)
          have q2 := (p2.cell k).trans (M.rowF_get hlt)
          rw [upto_at] at q2
          have f2 := p2.frozen k
          have w4 : ((k : Int) / 4).toNat = k / 4 := by omega
          have hx := Sha.St.get_lt HWOK.out (k / 4)
          have e1 := HSM.out k
          generalize W.get (k / 4) = x at *
          have sh := fun v => shift_int x (24 - 8 * ((k : Int) % 4)) v (by omega) (by omega) (by omega)
          have hto : (24 - 8 * ((k : Int) % 4)).toNat = 24 - 8 * (k % 4) := by omega
          rw [hto] at sh
          obtain ⟨y, hy⟩ : ∃ y, x / 2 ^ (24 - 8 * (k % 4)) = y := ⟨_, rfl⟩
          rw [hy] at sh e1
          have SH := Lib.hid sh
          have ev : (y : Int) % 256 = ((F k : Nat) : Int) := by rw [e1]; omega
          have EV := Lib.hid ev
          have r2 := p2.set k (.int .u8 ((y : Int) % 256))
          rw [ev, upto_set _ _ _ hlt, ← ev] at r2
          have rc : CS n w Z32 W (wr.setCell ⟨m, k, none⟩ (.int .u8 ((y : Int) % 256))) :=
            ⟨M.RowAt.far cs.r (by show m ≠ n; omega) _, M.RowAt.far cs.h (by show m ≠ n + 1; omega) _, cs.below.setCell (by show n ≤ m; omega) _⟩
          have RC := Lib.hid rc; have R2 := Lib.hid r2
          clear ev rc r2 sh hx hy e1 hto
          go_wp2_with fail
          refine (SH.out _).mono ?_
          rintro e w2 ⟨rfl, rfl⟩
          go_wp2
          go_roundg (32 - (k + 1))
          case measure => omega
          case rel => exact ⟨k + 1, by omega, by go_num, RC.out, R2.out⟩
        · obtain rfl : k = 32 := by omega
          rw [upto_all] at p2
          obtain ⟨D, hD⟩ : ∃ D, r8 32 F = D := ⟨_, rfl⟩
          have zD : Z32.size = D.size := by rw [← hD]; exact r8_zero F
          have oD : D.all (·.oneCell') = true := by rw [← hD]; exact M.rowF_one
          have iD : (Tryz.prog.info? 47).map (·.size) = some D.size := by rw [← hD]; exact r8_info F
          have HD := Lib.hid hD
          rw [hD] at p2
          have pr := cs.r
          have q6 := M.RowAt.setRow pr D
          have b6 := M.below_setRow (g := n) (cs := D) cs.below (Nat.le_refl _)
          unfold M.RowAt at p2
          clear hD
          go_wp2_with (first
            | (refine wpList_load_row (x := .tmp 8) (ty := 47) (g := m) (cs := D) (t := 47) (fr := (0, 0)) ?_ ?_ ?_ _ p2 und28 rfl iD ?_; rfl; rfl; rfl)
            | (refine wpList_store_row (x := .tmp 2) (y := .tmp 48) (cells := D) (old := Z32) (t := 47) (ty := 47) (g := n) ?_ ?_ ?_ ?_ pr iD zD oD ?_; rfl; rfl; rfl; rfl))
          have hload := run_loadVar_row (P := Tryz.prog) _ n 47 47 D (0, 0) _ q6 und28 rfl iD
          refine bodyPost_ret (v := .agg D) (by simp [results, Tryz.results149, asAddr, Act.put, hload]) rfl ⟨by rw [← HD.out, HF.out], ?_⟩
          rw [HN.out]
          exact b6
end Go.Proofs.YtdebnbgjgkbmaaaGreatDoor
namespace Go.Proofs.YtdebnbgjgkbmaaaGreatDoor.RowK
open Go.ChangeShapes Go.WideShapes Go.ChangeAt Go.RowKit
open Go.ChangeMaps (open_string shut_string)
section
variable {H : Type} {enc : TypeId × Value → H} {P : Program} {w : World}
end
theorem wf_u8 {a : Int} (h : (Lit.int .u8 a).wf = true) : 0 ≤ a ∧ a ≤ 255 := by simpa [Lit.wf, IntKind.min, IntKind.max, IntKind.signed, IntKind.bits] using h
end Go.Proofs.YtdebnbgjgkbmaaaGreatDoor.RowK
namespace Go.Proofs.YtdebnbgjgkbmaaaGreatDoor
open Go.RowKit
set_option linter.unusedVariables false
/-- are two hashes one? -/
def eqH (F G : Nat → Nat) : Bool := (List.range 32).all fun i => F i == G i
theorem eqH_self (F : Nat → Nat) : eqH F F = true := by unfold eqH; simp
theorem eqItems_r8c (F G : Nat → Nat) (W : World) : ∀ (is : List Nat), (∀ i ∈ is, i < 32) → (Op.eqItems 9999 5 1 (r8 32 F) (r8 32 G) is).run Tryz.prog W = .ok (is.all fun i => F i == G i) W
  | [], _ => rfl
  | i :: is, h => by
    have hi := h i (by simp)
    have ih := eqItems_r8c F G W is (fun j hj => h j (by simp [hj]))
    have hf : (r8 32 F)[i]? = some (.int .u8 (F i : Nat)) := M.rowF_get hi
    have hg : (r8 32 G)[i]? = some (.int .u8 (G i : Nat)) := M.rowF_get hi
    by_cases he : F i = G i
    · simp [Op.eqItems, part, ih, hf, hg, go_sem, he]
    · have he' : ¬ ((F i : Nat) : Int) = ((G i : Nat) : Int) := by omega
      simp [Op.eqItems, part, hf, hg, go_sem, he, he']
set_option maxRecDepth 100000 in
theorem r8_cmp (F G : Nat → Nat) (W : World) : (Op.equalIn 10000 47 (.agg (r8 32 F)) (.agg (r8 32 G))).run Tryz.prog W = .ok (eqH F G) W := by
  have hi : ∃ i, Tryz.prog.info? 5 = some i := ⟨_, rfl⟩
  obtain ⟨i, hi⟩ := hi
  have hc : Tryz.prog.cellsOf 5 = 1 := by kernel_rfl
  have h := run_equalIn_array (P := Tryz.prog) (w := W) 9999 (r8 32 F) (r8 32 G) und28 hi
  rw [hc] at h
  exact h.trans (eqItems_r8c F G W _ (fun j hj => List.mem_range.1 hj))
end Go.Proofs.YtdebnbgjgkbmaaaGreatDoor
namespace Go.Proofs.YtdebnbgjgkbmaaaGreatDoor
open Go.RowKit
set_option linter.unusedVariables false
theorem oat_eql {P : Program} {o : Oper} {a : Act} {w : World} {C' : World → Prop} (ty t : TypeId) (x y : Operand) (ho : o.op = .binOp .eql ty x y t) (A B : Array Value) (hx : a.eval x = .agg A) (hy : a.eval y = .agg B) (b : Bool)
    (hG : P.eqGuardType P.depth ty = false) (h : (Op.equalIn 10000 ty (.agg A) (.agg B)).run P w = .ok b w) (hC : C' w) : QP.oat P o a C' w (.bool b) := by
  unfold QP.oat execOp
  simp only [ho, hx, hy]
  have e1 : (eqGuard .eql ty x y (.agg A) (.agg B)).run P w = .ok () w := by
    unfold eqGuard
    simp [go_sem, hG]
  simp [e1, go_sem, h, hC]
theorem guard28 : Tryz.prog.eqGuardType Tryz.prog.depth 47 = false := by kernel_rfl
set_option maxRecDepth 100000 in
set_option maxHeartbeats 2000000 in
theorem of_any (F : Nat → Nat) (w : World) (ht : Tabs w) :
    Calls Tryz.prog 97 #[.agg (r8 32 F)] w fun e w' => e = .returned (.agg (r8 32 (ofH F))) ∧ Below w.heap.size w w' := by
  obtain ⟨n, hn⟩ : ∃ n, w.heap.size = n := ⟨_, rfl⟩
  have HN := Lib.hid hn
  have h1n : 4 < n := hn ▸ ht.lt
  have ra := M.RowAt.new w 47 (r8 32 F)
  have rb := ra.alloc (.cells Z32 47)
  have rc := M.RowAt.new (w.alloc (.cells (r8 32 F) 47)) 47 Z32
  have bc : Below n w ((w.alloc (.cells (r8 32 F) 47)).alloc (.cells Z32 47)) := by
    subst hn; exact ((Below.refl _ _).alloc (Nat.le_refl _) _).alloc (by simp) _
  rw [World.size_alloc, hn] at rc
  rw [hn] at rb
  have hcv := conv_row8 rb
  have cs := fun v (hb : Below n w v) => sum_any (hstr F) v (ht.below hb h1n) (by rw [hstr_size]; decide)
  have hof : Sha.sum (hstr F) = ofH F := rfl
  rw [hof] at cs
  have iD := r8_info (ofH F); have zD := r8_zero (ofH F); have oD := r8_one (ofH F)
  generalize r8 32 (ofH F) = D at *
  generalize r8 32 F = C at *
  generalize hstr F = Y at *
  have hcv' : (convert 55 9 (.slice (some ⟨n, 0, none⟩) 32 32)).run Tryz.prog ((w.alloc (.cells C 47)).alloc (.cells #[.int .u8 0, .int .u8 0, .int .u8 0, .int .u8 0, .int .u8 0, .int .u8 0, .int .u8 0, .int .u8 0, .int .u8 0, .int .u8 0, .int .u8 0, .int .u8 0, .int .u8 0, .int .u8 0, .int .u8 0, .int .u8 0, .int .u8 0, .int .u8 0, .int .u8 0, .int .u8 0, .int .u8 0, .int .u8 0, .int .u8 0, .int .u8 0, .int .u8 0, .int .u8 0, .int .u8 0, .int .u8 0, .int .u8 0, .int .u8 0, .int .u8 0, .int .u8 0] 47)) = .ok (.string Y) ((w.alloc (.cells C 47)).alloc (.cells #[.int .u8 0, .int .u8 0, .int .u8 0, .int .u8 0, .int .u8 0, .int .u8 0, .int .u8 0, .int .u8 0, .int .u8 0, .int .u8 0, .int .u8 0, .int .u8 0, .int .u8 0, .int .u8 0, .int .u8 0, .int .u8 0, .int .u8 0, .int .u8 0, .int .u8 0, .int .u8 0, .int .u8 0, .int .u8 0, .int .u8 0, .int .u8 0, .int .u8 0, .int .u8 0, .int .u8 0, .int .u8 0, .int .u8 0, .int .u8 0, .int .u8 0, .int .u8 0] 47)) := hcv
  obtain ⟨V, hV⟩ : ∃ V, (w.alloc (.cells C 47)).alloc (.cells Z32 47) = V := ⟨_, rfl⟩
  rw [hV] at rc bc
  have hV' : (w.alloc (.cells C 47)).alloc (.cells #[.int .u8 0, .int .u8 0, .int .u8 0, .int .u8 0, .int .u8 0, .int .u8 0, .int .u8 0, .int .u8 0, .int .u8 0, .int .u8 0, .int .u8 0, .int .u8 0, .int .u8 0, .int .u8 0, .int .u8 0, .int .u8 0, .int .u8 0, .int .u8 0, .int .u8 0, .int .u8 0, .int .u8 0, .int .u8 0, .int .u8 0, .int .u8 0, .int .u8 0, .int .u8 0, .int .u8 0, .int .u8 0, .int .u8 0, .int .u8 0, .int .u8 0, .int .u8 0] 47) = V := hV
  have CS := Lib.hid cs; have HV := Lib.hid hV'
  clear cs hcv hof hV hV' ra rb ht h1n
  go_enter Tryz.func97, Tryz.ntmps97
  go_wp2_with fail
  rw [HV.out]
  refine (CS.out _ bc).mono ?_
  rintro e w1 ⟨rfl, gq⟩
  have r1 := rc.call gq
  have b1 := bc.trans (gq.mono (by have := rc.lt; omega))
  have q1 := r1.setRow D
  have bW := M.below_setRow (g := n + 1) (cs := D) b1 (by omega)
  unfold M.RowAt at r1
  clear gq rc bc hcv'
  go_wp2_with (refine wpList_store_row (x := .tmp 2) (y := .tmp 5) (cells := D) (old := Z32) (t := 47) (ty := 47) (g := n + 1) ?_ ?_ ?_ ?_ r1 iD zD oD ?_; rfl; rfl; rfl; rfl)
  have hload := run_loadVar_row (P := Tryz.prog) _ (n + 1) 47 47 D (0, 0) _ q1 u28 rfl iD
  refine bodyPost_ret (v := .agg D) (by simp [results, Tryz.results97, asAddr, Act.put, hload]) rfl ⟨rfl, ?_⟩
  rw [HN.out]
  exact bW
/-- two hashes that came in -/
structure BT (n : Nat) (w : World) (R S : Array Value) (v : World) : Prop where
  r : v.heap[n]? = some (.cells R 47 (0, 0))
  s : v.heap[n + 1]? = some (.cells S 47 (0, 0))
  below : Below n w v
theorem BT.drew {n : Nat} {w : World} {R S : Array Value} {v : World} (c : BT n w R S v) : BT n w R S v.drew := ⟨c.r, c.s, c.below.drew⟩
theorem BT.same {n : Nat} {w : World} {R S : Array Value} {v v' : World} (c : BT n w R S v) (hb : Below v.heap.size v v') : BT n w R S v' :=
  ⟨M.RowAt.call c.r hb, M.RowAt.call c.s hb, c.below.trans (hb.mono (by have := M.RowAt.lt c.r; omega))⟩
set_option maxRecDepth 100000 in
set_option maxHeartbeats 2000000 in
theorem opens_any (F G : Nat → Nat) (w : World) (ht : Tabs w) :
    Calls Tryz.prog 26 #[.agg (r8 32 F), .agg (r8 32 G)] w fun e w' => e = .returned (.bool (eqH (ofH F) G)) ∧ Below w.heap.size w w' := by
  obtain ⟨n, hn⟩ : ∃ n, w.heap.size = n := ⟨_, rfl⟩
  have HN := Lib.hid hn
  have h1n : 4 < n := hn ▸ ht.lt
  have c0 : BT n w (r8 32 F) (r8 32 G) ((w.alloc (.cells (r8 32 F) 47)).alloc (.cells (r8 32 G) 47)) := by
    subst hn
    have r2 := M.RowAt.new (w.alloc (.cells (r8 32 F) 47)) 47 (r8 32 G)
    rw [World.size_alloc] at r2
    exact ⟨(M.RowAt.new w 47 _).alloc _, r2, ((Below.refl _ _).alloc (Nat.le_refl _) _).alloc (by simp) _⟩
  have ct := fun v (hb : Below n w v) => of_any F v (ht.below hb h1n)
  have hcmp := fun W => r8_cmp (ofH F) G W
  have iG := r8_info G
  have iF := r8_info F
  generalize r8 32 (ofH F) = D at *
  generalize r8 32 G = C at *
  generalize r8 32 F = B at *
  generalize eqH (ofH F) G = b at *
  have CT := Lib.hid ct; have HC := Lib.hid hcmp
  obtain ⟨V, hV⟩ : ∃ V, (w.alloc (.cells B 47)).alloc (.cells C 47) = V := ⟨_, rfl⟩
  rw [hV] at c0
  have HV := Lib.hid hV
  clear ct hcmp ht h1n hV
  go_enter Tryz.func26, Tryz.ntmps26
  go_wp2_with fail
  rw [HV.out]
  clear hn
  refine QP.wp_region_p 1 (BT n w B C) (BT n w B C) (by kernel_rfl) (by kernel_rfl) c0.drew ?_
  iterate 5
    (refine QP.wpQ_step (fun K hK => ?_)
     go_simp
     first
       | (refine hK _ ?_; clear hK K)
       | (refine ⟨?_, hK _ ?_⟩; decide; clear hK K)
       | ((first | (apply Exists.intro; refine ⟨?_, hK _ ?_⟩) | refine ⟨⟨undef, ?_⟩, hK _ ?_⟩)
          first
            | (apply QP.al_p; decide; (focus (intro wq hq; (skip); first | (first | ((with_reducible refine oat_eql 47 47 (.tmp 6) (.tmp 7) ?_ D C ?_ ?_ b guard28 (HC.out _) hq); rfl; rfl; rfl) | ((with_reducible refine QP.oat_load_row (ty := 47) (x := .tmp 2) (g := n) (t := 47) (cs := B) (fr := (0, 0)) ?_ ?_ _ hq.r u28 ?_ iF hq); rfl; rfl; rfl) | ((with_reducible refine QP.oat_load_row (ty := 47) (x := .tmp 3) (g := n + 1) (t := 47) (cs := C) (fr := (0, 0)) ?_ ?_ _ hq.s u28 ?_ iG hq); rfl; rfl; rfl)) | (unfold QP.oat; go_simp; first | done | exact ⟨by assumption, rfl⟩ | exact rfl | assumption | (((with_reducible refine (CT.out _ hq.below).mono ?_); rintro e w' ⟨rfl, gq⟩; exact ⟨rfl, hq.same gq⟩))))))
            | (apply QP.al_dep; decide; decide; (focus (intro wq hq; (skip); first | (first | ((with_reducible refine oat_eql 47 47 (.tmp 6) (.tmp 7) ?_ D C ?_ ?_ b guard28 (HC.out _) hq); rfl; rfl; rfl) | ((with_reducible refine QP.oat_load_row (ty := 47) (x := .tmp 2) (g := n) (t := 47) (cs := B) (fr := (0, 0)) ?_ ?_ _ hq.r u28 ?_ iF hq); rfl; rfl; rfl) | ((with_reducible refine QP.oat_load_row (ty := 47) (x := .tmp 3) (g := n + 1) (t := 47) (cs := C) (fr := (0, 0)) ?_ ?_ _ hq.s u28 ?_ iG hq); rfl; rfl; rfl)) | (unfold QP.oat; go_simp; first | done | exact ⟨by assumption, rfl⟩ | exact rfl | assumption | (((with_reducible refine (CT.out _ hq.below).mono ?_); rintro e w' ⟨rfl, gq⟩; exact ⟨rfl, hq.same gq⟩))))))
            | (apply QP.al_bef; decide; decide; (focus (intro wq hq; (skip); first | (first | ((with_reducible refine oat_eql 47 47 (.tmp 6) (.tmp 7) ?_ D C ?_ ?_ b guard28 (HC.out _) hq); rfl; rfl; rfl) | ((with_reducible refine QP.oat_load_row (ty := 47) (x := .tmp 2) (g := n) (t := 47) (cs := B) (fr := (0, 0)) ?_ ?_ _ hq.r u28 ?_ iF hq); rfl; rfl; rfl) | ((with_reducible refine QP.oat_load_row (ty := 47) (x := .tmp 3) (g := n + 1) (t := 47) (cs := C) (fr := (0, 0)) ?_ ?_ _ hq.s u28 ?_ iG hq); rfl; rfl; rfl)) | (unfold QP.oat; go_simp; first | done | exact ⟨by assumption, rfl⟩ | exact rfl | assumption | (((with_reducible refine (CT.out _ hq.below).mono ?_); rintro e w' ⟨rfl, gq⟩; exact ⟨rfl, hq.same gq⟩))))))
            | (apply QP.al_ok; decide; (focus (intro wq hq; (skip); first | (first | ((with_reducible refine oat_eql 47 47 (.tmp 6) (.tmp 7) ?_ D C ?_ ?_ b guard28 (HC.out _) hq); rfl; rfl; rfl) | ((with_reducible refine QP.oat_load_row (ty := 47) (x := .tmp 2) (g := n) (t := 47) (cs := B) (fr := (0, 0)) ?_ ?_ _ hq.r u28 ?_ iF hq); rfl; rfl; rfl) | ((with_reducible refine QP.oat_load_row (ty := 47) (x := .tmp 3) (g := n + 1) (t := 47) (cs := C) (fr := (0, 0)) ?_ ?_ _ hq.s u28 ?_ iG hq); rfl; rfl; rfl)) | (unfold QP.oat; go_simp; first | done | exact ⟨by assumption, rfl⟩ | exact rfl | assumption | (((with_reducible refine (CT.out _ hq.below).mono ?_); rintro e w' ⟨rfl, gq⟩; exact ⟨rfl, hq.same gq⟩))))); (focus (intro wq hq; (skip); first | (first | ((with_reducible refine oat_eql 47 47 (.tmp 6) (.tmp 7) ?_ D C ?_ ?_ b guard28 (HC.out _) hq); rfl; rfl; rfl) | ((with_reducible refine QP.oat_load_row (ty := 47) (x := .tmp 2) (g := n) (t := 47) (cs := B) (fr := (0, 0)) ?_ ?_ _ hq.r u28 ?_ iF hq); rfl; rfl; rfl) | ((with_reducible refine QP.oat_load_row (ty := 47) (x := .tmp 3) (g := n + 1) (t := 47) (cs := C) (fr := (0, 0)) ?_ ?_ _ hq.s u28 ?_ iG hq); rfl; rfl; rfl)) | (unfold QP.oat; go_simp; first | done | exact ⟨by assumption, rfl⟩ | exact rfl | assumption | (((with_reducible refine (CT.out _ hq.below).mono ?_); rintro e w' ⟨rfl, gq⟩; exact ⟨rfl, hq.same gq⟩))))))
          clear hK K))
  refine QP.wpQ_nil ?_
  intro wz bz
  go_wp2
  go_ret
  exact ⟨rfl, by rw [HN.out]; exact bz.below⟩
end Go.Proofs.YtdebnbgjgkbmaaaGreatDoor
namespace Go.Proofs.YtdebnbgjgkbmaaaGreatDoor
open Go.RowKit Go.Maps Go.MapKept
open Go.ChangeMaps (setBlock)
set_option linter.unusedVariables false
/-- a type of keys -/
structure KT (P : Program) (k : TypeId) (κ : Type) where
  kv : κ → Value
  ok : κ → Prop
  law : Keyed P k
  rd : ∀ i, ok i → ∃ l, Go.keyOf P k (kv i) = some l
  inj : ∀ i j, kv i = kv j → i = j
def intKT {P : Program} {k : TypeId} {q : IntKind} (hk : P.underlying k = some (.int q)) : KT P k Int :=
  ⟨fun i => .int q i, fun i => (Lit.int q i).wf = true, int_keyed hk, fun i h => ⟨_, keyOf_int_mk hk h⟩, fun i j h => by injection h⟩
section
variable {κ α : Type} [DecidableEq κ]
def getM : List (κ × α) → κ → Option α
  | [], _ => none
  | p :: r, i => if p.1 = i then some p.2 else getM r i
def putM : List (κ × α) → κ → α → List (κ × α)
  | [], i, x => [(i, x)]
  | p :: r, i, x => if p.1 = i then (i, x) :: r else p :: putM r i x
def delM : List (κ × α) → κ → List (κ × α)
  | [], _ => []
  | p :: r, i => if p.1 = i then r else p :: delM r i
theorem none_M {i : κ} {x : α} : ∀ {l : List (κ × α)}, (∀ p ∈ l, p.1 ≠ i) → getM l i = none ∧ putM l i x = l ++ [(i, x)] ∧ delM l i = l
  | [], _ => ⟨rfl, rfl, rfl⟩
  | p :: r, h => by
    obtain ⟨h1, h2, h3⟩ := none_M (x := x) (fun q hq => h q (List.mem_cons_of_mem _ hq))
    have hp := h p List.mem_cons_self
    unfold getM putM delM
    rw [if_neg hp, if_neg hp, if_neg hp, h1, h2, h3]
    exact ⟨rfl, rfl, rfl⟩
theorem some_M {i : κ} {x : α} : ∀ {l : List (κ × α)} {j : Nat} {p : κ × α}, l.Pairwise (fun a b => a.1 ≠ b.1) → l[j]? = some p → p.1 = i → getM l i = some p.2 ∧ putM l i x = l.set j (i, x) ∧ delM l i = l.eraseIdx j
  | [], j, p, _, h, _ => by simp at h
  | q :: r, 0, p, _, h, e => by
    obtain rfl : q = p := by simpa using h
    unfold getM putM delM
    rw [if_pos e, if_pos e, if_pos e]
    exact ⟨rfl, rfl, rfl⟩
  | q :: r, j + 1, p, hd, h, e => by
    obtain ⟨h1, h2⟩ := List.pairwise_cons.1 hd
    have hj : r[j]? = some p := by simpa using h
    have hq : ¬ q.1 = i := fun e2 => h1 p (List.mem_of_getElem? hj) (e2.trans e.symm)
    obtain ⟨a1, a2, a3⟩ := some_M (x := x) h2 hj e
    unfold getM putM delM
    rw [if_neg hq, if_neg hq, if_neg hq, a1, a2, a3]
    exact ⟨rfl, rfl, rfl⟩
theorem delM_sub (i : κ) : ∀ (l : List (κ × α)) (p : κ × α), p ∈ delM l i → p ∈ l
  | [], _, h => by cases h
  | q :: r, p, h => by
    unfold delM at h
    split at h
    · exact List.mem_cons_of_mem _ h
    · rcases List.mem_cons.1 h with e | e
      · exact e ▸ List.mem_cons_self
      · exact List.mem_cons_of_mem _ (delM_sub i r p e)
theorem getM_mem {l : List (κ × α)} {i : κ} {x : α} (h : getM l i = some x) : (i, x) ∈ l := by
  induction l with
  | nil => cases h
  | cons p r ih =>
    unfold getM at h
    split at h
    · rename_i e
      obtain rfl : p.2 = x := Option.some.inj h
      rw [← e]; exact List.mem_cons_self
    · exact List.mem_cons_of_mem _ (ih h)
end
section
variable {P : Program} {k : TypeId} {κ α : Type}
/-- block b is a map of just these entries, in their order -/
def IM (K : KT P k κ) (mk : α → Value) (w : World) (b : Nat) (l : List (κ × α)) : Prop :=
  ∃ es clock, w.heap[b]? = some (.map es clock) ∧ Stamped es clock ∧ es.toList.map (fun e => (e.key, e.val)) = l.map (fun p => (K.kv p.1, mk p.2)) ∧ ∀ p ∈ l, K.ok p.1
variable {K : KT P k κ} {mk : α → Value} {w w' : World} {b : Nat} {l : List (κ × α)}
theorem IM.lt (h : IM K mk w b l) : b < w.heap.size := by
  obtain ⟨es, clock, hb, _⟩ := h
  exact (Array.getElem?_eq_some_iff.1 hb).1
theorem IM.of (h : IM K mk w b l) (e : w'.heap[b]? = w.heap[b]?) : IM K mk w' b l := by
  obtain ⟨es, clock, hb, r⟩ := h
  exact ⟨es, clock, e.trans hb, r⟩
theorem IM.below {B : Nat} (h : IM K mk w b l) (hb : Below B w w') (hg : b < B) : IM K mk w' b l := h.of (hb.block b hg)
theorem IM.call (h : IM K mk w b l) (hb : Below w.heap.size w w') : IM K mk w' b l := h.below hb h.lt
theorem IM.but {g : Nat} (h : IM K mk w b l) (hb : M.But g w w') (hg : b ≠ g) : IM K mk w' b l := h.of (hb.block b h.lt hg)
theorem IM.drew (h : IM K mk w b l) : IM K mk w.drew b l := h
theorem IM.alloc (h : IM K mk w b l) (o : Obj) : IM K mk (w.alloc o) b l := h.call ((Below.refl _ _).alloc (Nat.le_refl _) o)
theorem IM.far (h : IM K mk w b l) {p : Addr} (hp : p.block ≠ b) (v : Value) : IM K mk (w.setCell p v) b l := h.of (by
  simp only [World.setCell, Array.getElem?_modify, if_neg hp])
theorem IM.farRow (h : IM K mk w b l) {g : Nat} (hg : g ≠ b) (cs : Array Value) : IM K mk (w.setRow g cs) b l := h.of (by
  simp only [World.setRow, Array.getElem?_modify, if_neg hg])
theorem IM.new (K : KT P k κ) (mk : α → Value) (w : World) : IM K mk (w.alloc (.map #[] 0)) w.heap.size [] :=
  ⟨#[], 0, heap_alloc_new w _, stamped_empty 0, rfl, fun p h => by cases h⟩
theorem IM.dist (h : IM K mk w b l) : l.Pairwise (fun a b => a.1 ≠ b.1) := by
  obtain ⟨es, clock, hb, hs, he, _⟩ := h
  have h1 := ((stamped_iff es clock).1 hs).2.2
  have h2 : (es.toList.map (fun e => (e.key, e.val))).Pairwise (fun x y => x.1 ≠ y.1) := by rw [List.pairwise_map]; exact h1
  rw [he, List.pairwise_map] at h2
  exact h2.imp (fun h3 e => h3 (by rw [e]))
theorem IM.keys {es : Array MapEntry} (he : es.toList.map (fun e => (e.key, e.val)) = l.map (fun p => (K.kv p.1, mk p.2))) (ho : ∀ p ∈ l, K.ok p.1) : ∀ e ∈ es.toList, ∃ q, Go.keyOf P k e.key = some q := by
  intro e h
  have : (e.key, e.val) ∈ l.map (fun p => (K.kv p.1, mk p.2)) := he ▸ List.mem_map.2 ⟨e, h, rfl⟩
  obtain ⟨p, hp, e1⟩ := List.mem_map.1 this
  obtain ⟨q, hq⟩ := K.rd p.1 (ho p hp)
  exact ⟨q, by have := congrArg Prod.fst e1; simp at this; rw [← this]; exact hq⟩
theorem IM.not_in {es : Array MapEntry} (he : es.toList.map (fun e => (e.key, e.val)) = l.map (fun p => (K.kv p.1, mk p.2))) {i : κ} (h : ∀ e ∈ es.toList, e.key ≠ K.kv i) : ∀ p ∈ l, p.1 ≠ i := by
  intro p hp e
  have : (K.kv p.1, mk p.2) ∈ es.toList.map (fun e => (e.key, e.val)) := he ▸ List.mem_map.2 ⟨p, hp, rfl⟩
  obtain ⟨y, hy, e1⟩ := List.mem_map.1 this
  exact h y hy (by have := congrArg Prod.fst e1; simp at this; rw [this, e])
theorem IM.at {es : Array MapEntry} (he : es.toList.map (fun e => (e.key, e.val)) = l.map (fun p => (K.kv p.1, mk p.2))) {i : κ} {j : Nat} {e0 : MapEntry} (h : es.toList[j]? = some e0) (hk : e0.key = K.kv i) : ∃ p, l[j]? = some p ∧ p.1 = i ∧ e0.val = mk p.2 := by
  have h1 : (es.toList.map (fun e => (e.key, e.val)))[j]? = some (e0.key, e0.val) := by rw [List.getElem?_map, h]; rfl
  rw [he, List.getElem?_map] at h1
  cases hl : l[j]? with
  | none => rw [hl] at h1; cases h1
  | some p =>
    rw [hl] at h1
    simp at h1
    exact ⟨p, rfl, K.inj _ _ (h1.1.trans hk), h1.2.symm⟩
theorem but_setBlock (w : World) (b : Nat) (o : Obj) : M.But b w (setBlock w b o) :=
  ⟨rfl, rfl, rfl, by simp [setBlock], fun j hj hne => by simp only [setBlock]; exact Array.getElem?_setIfInBounds_ne (Ne.symm hne)⟩
/-- m[i], with ok -/
theorem IM.look [DecidableEq κ] (h : IM K mk w b l) {t e : TypeId} (ht : P.underlying t = some (.map k e)) {z : Value} (hz : (zeroValue e).run P w = .ok z w) {i : κ} (hi : K.ok i) :
    (Instr.lookup t (.map (some b)) (K.kv i) true).run P w = .ok (.tuple #[match getM l i with | some x => mk x | none => z, .bool (getM l i).isSome]) w := by
  have hd := h.dist
  obtain ⟨es, clock, hb, hs, he, ho⟩ := h
  obtain ⟨q, hq⟩ := K.rd i hi
  rcases K.law.find w hq es.toList (IM.keys he ho) with ⟨h1, h2⟩ | ⟨j, e0, h1, h2, h3⟩
  · have hg : getM l i = none := by
      cases hl : l with
      | nil => rfl
      | cons p r => exact (none_M (x := p.2) (hl ▸ IM.not_in he h2)).1
    rw [hg]
    simp [Instr.lookup, run_underlying ht, MapKept.run_getObj_map hb, K.law.check w _ hq, h1, hz, Result.andThen]
  · obtain ⟨p, hp, e1, e2⟩ := IM.at he h2 h3
    rw [(some_M (x := p.2) hd hp e1).1]
    simp [Instr.lookup, run_underlying ht, MapKept.run_getObj_map hb, K.law.check w _ hq, h1, e2, Result.andThen]
theorem modify_set {α : Type} (f : α → α) : ∀ (l : List α) (j : Nat) (a : α), l[j]? = some a → l.modify j f = l.set j (f a)
  | [], _, _, h => by simp at h
  | x :: r, 0, a, h => by
    obtain rfl : x = a := by simpa using h
    rfl
  | x :: r, j + 1, a, h => by
    have hj : r[j]? = some a := by simpa using h
    simp [modify_set f r j a hj]
/-- m[i] = x -/
theorem IM.put [DecidableEq κ] (h : IM K mk w b l) {t e : TypeId} (ht : P.underlying t = some (.map k e)) {i : κ} (hi : K.ok i) (x : α) :
    ∃ w', (Instr.mapUpdate t (.map (some b)) (K.kv i) (mk x)).run P w = .ok () w' ∧ IM K mk w' b (putM l i x) ∧ M.But b w w' := by
  have hd := h.dist
  obtain ⟨es, clock, hb, hs, he, ho⟩ := h
  obtain ⟨q, hq⟩ := K.rd i hi
  rcases K.law.find w hq es.toList (IM.keys he ho) with ⟨h1, h2⟩ | ⟨j, e0, h1, h2, h3⟩
  · refine ⟨setBlock w b (.map (es.push ⟨K.kv i, mk x, clock⟩) (clock + 1)), ?_, ⟨_, _, (heap_set hb).1, stamped_push hs h2, ?_, ?_⟩, but_setBlock _ _ _⟩
    · simp [Instr.mapUpdate, run_underlying ht, MapKept.run_getObj_map hb, K.law.check w false hq, h1, MapKept.run_setObj_map _ hb, Result.andThen, setBlock]
    · rw [(none_M (x := x) (IM.not_in he h2)).2.1, Array.toList_push, List.map_append, List.map_append, he]; rfl
    · rw [(none_M (x := x) (IM.not_in he h2)).2.1]
      intro p hp
      rcases List.mem_append.1 hp with hp | hp
      · exact ho p hp
      · obtain rfl : p = (i, x) := by simpa using hp
        exact hi
  · have hj : es[j]? = some e0 := by simpa using h2
    obtain ⟨p, hp, e1, e2⟩ := IM.at he h2 h3
    have hp2 := (some_M (x := x) hd hp e1).2.1
    refine ⟨setBlock w b (.map (es.modify j (fun e' => { e' with key := K.kv i, val := mk x })) clock), ?_, ⟨_, _, (heap_set hb).1, stamped_modify hs _ _ (fun _ _ => rfl) (fun e' _ he' => by rw [hj] at he'; cases he'; exact h3.symm), ?_, ?_⟩, but_setBlock _ _ _⟩
    · simp [Instr.mapUpdate, run_underlying ht, MapKept.run_getObj_map hb, K.law.check w false hq, h1, hj, h3, K.law.stays w hq, MapKept.run_setObj_map _ hb, Result.andThen, setBlock]
    · rw [hp2, Array.toList_modify, modify_set _ _ _ _ h2, List.map_set, he, List.map_set]
    · rw [hp2]
      intro p' hp'
      rcases List.mem_or_eq_of_mem_set hp' with h | rfl
      · exact ho p' h
      · exact hi
/-- delete(m, i) -/
theorem IM.del [DecidableEq κ] (h : IM K mk w b l) {t e : TypeId} (ty : TypeId) (ht : P.underlying t = some (.map k e)) {i : κ} (hi : K.ok i) :
    ∃ w', (Builtin.delete_ #[t, k] ty #[.map (some b), K.kv i]).run P w = .ok (.tuple #[]) w' ∧ IM K mk w' b (delM l i) ∧ M.But b w w' := by
  have hd := h.dist
  obtain ⟨es, clock, hb, hs, he, ho⟩ := h
  obtain ⟨q, hq⟩ := K.rd i hi
  rcases K.law.find w hq es.toList (IM.keys he ho) with ⟨h1, h2⟩ | ⟨j, e0, h1, h2, h3⟩
  · have hl : delM l i = l := by
      cases hl : l with
      | nil => rfl
      | cons p r => exact (none_M (x := p.2) (hl ▸ IM.not_in he h2)).2.2
    rw [hl]
    refine ⟨setBlock w b (.map es clock), ?_, ⟨_, _, (heap_set hb).1, hs, he, ho⟩, but_setBlock _ _ _⟩
    simp [Builtin.delete_, run_underlying ht, MapKept.run_getObj_map hb, K.law.check w _ hq, h1, MapKept.run_setObj_map _ hb, Result.andThen, setBlock]
  · have hjl : j < es.toList.length := (List.getElem?_eq_some_iff.1 h2).1
    have hjs : j < es.size := by simpa using hjl
    have hsub : (es.eraseIdxIfInBounds j).toList = es.toList.eraseIdx j := by
      unfold Array.eraseIdxIfInBounds
      rw [dif_pos hjs]
      simp
    obtain ⟨p, hp, e1, e2⟩ := IM.at he h2 h3
    have hp2 := (some_M (x := p.2) hd hp e1).2.2
    refine ⟨setBlock w b (.map (es.eraseIdxIfInBounds j) clock), ?_, ⟨_, _, (heap_set hb).1, stamped_erase hs j, ?_, ?_⟩, but_setBlock _ _ _⟩
    · simp [Builtin.delete_, run_underlying ht, MapKept.run_getObj_map hb, K.law.check w _ hq, h1, MapKept.run_setObj_map _ hb, Result.andThen, setBlock]
    · rw [hp2, hsub, ChangeMaps.map_eraseIdx, he, ChangeMaps.map_eraseIdx]
    · exact fun p' hp' => ho p' (delM_sub i l p' hp')
theorem IM.len (h : IM K mk w b l) {t e : TypeId} (ht : P.underlying t = some (.map k e)) (es : Array MapEntry) (clock : Nat) (hb : w.heap[b]? = some (.map es clock)) : es.size = l.length := by
  obtain ⟨es', clock', hb', hs, he, ho⟩ := h
  rw [hb] at hb'
  cases hb'
  have := congrArg List.length he
  simpa using this
/-- a range over it under way: what is still to come -/
def IR (K : KT P k κ) (mk : α → Value) (w : World) (b r : Nat) (l left : List (κ × α)) : Prop :=
  ∃ es clock since seen c0, w.heap[b]? = some (.map es clock) ∧ Stamped es clock ∧ es.toList.map (fun e => (e.key, e.val)) = l.map (fun p => (K.kv p.1, mk p.2)) ∧ (∀ p ∈ l, K.ok p.1) ∧
    w.heap[r]? = some (.mapIter (some b) since seen c0) ∧ (∀ x ∈ es.toList, x.born < since) ∧ since ≤ c0 ∧ since ≤ clock ∧ (leftOf es seen).toList.map (fun e => (e.key, e.val)) = left.map (fun p => (K.kv p.1, mk p.2))
theorem IR.im {r : Nat} {left : List (κ × α)} (h : IR K mk w b r l left) : IM K mk w b l := by
  obtain ⟨es, clock, since, seen, c0, hb, hs, he, ho, _⟩ := h
  exact ⟨es, clock, hb, hs, he, ho⟩
theorem IR.of {r : Nat} {left : List (κ × α)} (h : IR K mk w b r l left) (e : w'.heap[b]? = w.heap[b]?) (e2 : w'.heap[r]? = w.heap[r]?) : IR K mk w' b r l left := by
  obtain ⟨es, clock, since, seen, c0, hb, hs, he, ho, hr, rest⟩ := h
  exact ⟨es, clock, since, seen, c0, e.trans hb, hs, he, ho, e2.trans hr, rest⟩
theorem IR.ne {r : Nat} {left : List (κ × α)} (h : IR K mk w b r l left) : r ≠ b := by
  obtain ⟨es, clock, since, seen, c0, hb, hs, he, ho, hr, rest⟩ := h
  intro e
  rw [e, hb] at hr
  cases hr
theorem IR.lt {r : Nat} {left : List (κ × α)} (h : IR K mk w b r l left) : r < w.heap.size := by
  obtain ⟨es, clock, since, seen, c0, hb, hs, he, ho, hr, rest⟩ := h
  exact (Array.getElem?_eq_some_iff.1 hr).1
theorem IR.call {r : Nat} {left : List (κ × α)} (h : IR K mk w b r l left) (hb : Below w.heap.size w w') : IR K mk w' b r l left := h.of (hb.block b h.im.lt) (hb.block r h.lt)
theorem IM.range (h : IM K mk w b l) {t e : TypeId} (ht : P.underlying t = some (.map k e)) :
    ∃ w', (Instr.range t (.map (some b))).run P w = .ok (.pointer (some ⟨w.heap.size, 0, none⟩)) w' ∧ IR K mk w' b w.heap.size l l ∧ Below w.heap.size w w' ∧ w'.heap.size = w.heap.size + 1 := by
  have hlt := h.lt
  obtain ⟨es, clock, hb, hs, he, ho⟩ := h
  refine ⟨_, run_range_map w t k e b es clock ht hb, ⟨es, clock, clock, #[], clock, ((MapKept.heap_alloc w _).2 b hlt).trans hb, hs, he, ho, (MapKept.heap_alloc w _).1, hs.1, Nat.le_refl _, Nat.le_refl _, ?_⟩, (Below.refl _ _).alloc (Nat.le_refl _) _, by simp⟩
  have : leftOf es #[] = es := by unfold leftOf; simp
  rw [this]; exact he
theorem filter_one {β γ : Type} [DecidableEq γ] (f : β → γ) : ∀ {L : List β} {e : β}, e ∈ L → (L.map f).Nodup → ∃ L1 L2, L = L1 ++ e :: L2 ∧ L.filter (fun x => decide (f x ≠ f e)) = L1 ++ L2
  | x :: r, e, he, hn => by
    rw [List.map_cons, List.nodup_cons] at hn
    rcases List.mem_cons.1 he with rfl | he
    · refine ⟨[], r, rfl, ?_⟩
      rw [List.filter_cons_of_neg (by simp), List.nil_append, List.filter_eq_self]
      intro y hy
      simp
      exact fun e2 => hn.1 (e2 ▸ List.mem_map.2 ⟨y, hy, rfl⟩)
    · obtain ⟨L1, L2, h1, h2⟩ := filter_one f he hn.2
      refine ⟨x :: L1, L2, by rw [h1]; rfl, ?_⟩
      rw [List.filter_cons_of_pos (by simp; exact fun e2 => hn.1 (e2 ▸ List.mem_map.2 ⟨e, he, rfl⟩)), h2]; rfl
/-- one step: nothing is left, or one of those that are left comes -/
theorem IR.next {r : Nat} {left : List (κ × α)} (h : IR K mk w b r l left) (ty : TypeId) :
    (left = [] ∧ (Instr.next (.pointer (some ⟨r, 0, none⟩)) false ty).run P w = .ok (.tuple #[.bool false]) w) ∨
    ∃ L1 p L2 w', left = L1 ++ p :: L2 ∧ (Instr.next (.pointer (some ⟨r, 0, none⟩)) false ty).run P w = .ok (.tuple #[.bool true, K.kv p.1, mk p.2]) w' ∧ IR K mk w' b r l (L1 ++ L2) ∧ M.But r w w' ∧ w'.heap.size = w.heap.size ∧ (Instr.entry (.pointer (some ⟨r, 0, none⟩))).run P w' = .ok (.tuple #[K.kv p.1, mk p.2]) w' := by
  have hne := h.ne
  obtain ⟨es, clock, since, seen, c0, hb, hs, he, ho, hr, hold, hsc, hsk, hl⟩ := h
  rcases run_next_at (P := P) w ty r b since c0 seen es clock hr hb hold hsc with ⟨h0, hrun⟩ | ⟨e, hem, w1, hal, hrun⟩
  · refine .inl ⟨?_, hrun⟩
    have : (leftOf es seen).toList = [] := by simpa using h0
    rw [this] at hl
    simpa using hl.symm
  · obtain ⟨hme, hes⟩ := mem_left hem
    have hst := (stamped_iff es clock).1 hs
    have hnd : ((leftOf es seen).toList.map (·.born)).Nodup := by
      unfold leftOf
      rw [Array.toList_filter]
      exact (List.Sublist.map _ List.filter_sublist).nodup hst.2.1
    obtain ⟨E1, E2, hE, hF⟩ := filter_one (fun x : MapEntry => x.born) hem hnd
    rw [hE, List.map_append, List.map_cons] at hl
    obtain ⟨L1, R, e1, e2, e3⟩ := List.map_eq_append_iff.1 hl.symm
    obtain ⟨p, L2, e4, e5, e6⟩ := List.map_eq_cons_iff.1 e3
    have hkey : e.key = K.kv p.1 := (congrArg Prod.fst e5).symm
    have hval : e.val = mk p.2 := (congrArg Prod.snd e5).symm
    have hr1 : w1.heap[r]? = some (.mapIter (some b) since seen c0) := by rcases hal with rfl | rfl <;> exact hr
    have hb1 : w1.heap[b]? = some (.map es clock) := by rcases hal with rfl | rfl <;> exact hb
    have hset := heap_set (o' := .mapIter (some b) since (seen.push e.born) clock) hr1
    have hb' : (setBlock w1 r (.mapIter (some b) since (seen.push e.born) clock)).heap[b]? = some (.map es clock) := (hset.2 b (fun e1 => hne e1.symm)).trans hb1
    refine .inr ⟨L1, p, L2, _, by rw [e1, e4], by rw [← hkey, ← hval]; exact hrun, ⟨es, clock, since, seen.push e.born, clock, hb', hs, he, ho, hset.1, hold, hsk, hsk, ?_⟩, ?_, ?_, ?_⟩
    · have hpush : (leftOf es (seen.push e.born)).toList = (leftOf es seen).toList.filter (fun x => decide (x.born ≠ e.born)) := by
        unfold leftOf
        rw [Array.toList_filter, Array.toList_filter, List.filter_filter]
        apply List.filter_congr
        intro x _
        simp [Bool.and_comm]
      rw [hpush, hF, List.map_append, List.map_append, ← e2, ← e6]
    · have hb2 := but_setBlock w1 r (.mapIter (some b) since (seen.push e.born) clock)
      rcases hal with rfl | rfl
      · exact hb2
      · exact ⟨hb2.os, hb2.tape, hb2.output, hb2.size, hb2.block⟩
    · rcases hal with rfl | rfl <;> exact Array.size_setIfInBounds
    · rw [← hkey, ← hval]
      exact run_entry_at _ r b since seen es clock e hset.1 hb' hme hst.2.1
end
section
variable {P : Program} {k : TypeId} {κ α : Type} {K : KT P k κ} {mk : α → Value} {w : World} {ops : Array Oper} {rest : List Oper} {o : Oper} {a : Act} {Q : Exit → Act → World → Prop} {b : Nat} {l : List (κ × α)}
end
end Go.Proofs.YtdebnbgjgkbmaaaGreatDoor
namespace Go.Proofs.YtdebnbgjgkbmaaaGreatDoor
namespace QR
set_option linter.unusedVariables false
variable {P : Program}
def upd (L : Nat → Bool) (i : Nat) : Nat → Bool := fun j => if j = i then true else L j
def updV (V : Nat → Value) (i : Nat) (v : Value) : Nat → Value := fun j => if j = i then v else V j
/-- the act once these are listed, with these values -/
def putAll (L : Nat → Bool) (V : Nat → Value) : List Oper → Nat → Act → Act
  | [], _, a => a
  | o :: r, k, a => putAll L V r (k + 1) (if L k then a.put o.dst (V k) else a)
def apartB : List Oper → Bool
  | [] => true
  | o :: r => (r.all fun x => match o.dst with | some d => x.dst != some d | none => true) && apartB r
theorem putAll_comm {L : Nat → Bool} {V : Nat → Value} {x : Option Tmp} {v : Value} : ∀ (l : List Oper) (k : Nat) (a : Act), (∀ o ∈ l, ∀ d, x = some d → o.dst ≠ some d) → (putAll L V l k a).put x v = putAll L V l k (a.put x v)
  | [], _, _, _ => rfl
  | o :: r, k, a, h => by
    unfold putAll
    rw [putAll_comm r (k + 1) _ (fun o' ho' => h o' (List.mem_cons_of_mem _ ho'))]
    split
    · rw [Act.put_comm a v (V k) (h o List.mem_cons_self)]
    · rfl
theorem putAll_congr {L L' : Nat → Bool} {V V' : Nat → Value} : ∀ (l : List Oper) (k : Nat) (a : Act), (∀ j, k ≤ j → j < k + l.length → L j = L' j ∧ V j = V' j) → putAll L V l k a = putAll L' V' l k a
  | [], _, _, _ => rfl
  | o :: r, k, a, h => by
    unfold putAll
    obtain ⟨h1, h2⟩ := h k (Nat.le_refl _) (by simp)
    rw [h1, h2]
    exact putAll_congr r (k + 1) _ (fun j hj hj2 => h j (by omega) (by simp at hj2 ⊢; omega))
theorem putAll_step {L : Nat → Bool} {V : Nat → Value} {v : Value} {i : Nat} {o : Oper} : ∀ (l : List Oper) (k : Nat) (a : Act), apartB l = true → k ≤ i → l[i - k]? = some o → L i = false → (putAll L V l k a).put o.dst v = putAll (upd L i) (updV V i v) l k a
  | [], _, _, _, _, h, _ => by simp at h
  | x :: r, k, a, hap, hk, ho, hL => by
    unfold apartB at hap
    rw [Bool.and_eq_true] at hap
    unfold putAll
    by_cases hki : k = i
    · subst hki
      rw [Nat.sub_self] at ho
      obtain rfl : x = o := by simpa using ho
      rw [hL, if_neg (by decide), putAll_comm r (k + 1) a (fun o' ho' d hd => ?_)]
      · have e1 : upd L k k = true := if_pos rfl
        have e2 : updV V k v k = v := if_pos rfl
        rw [e1, e2, if_pos rfl]
        exact putAll_congr r (k + 1) _ (fun j hj _ => ⟨(if_neg (by omega)).symm, (if_neg (by omega)).symm⟩)
      · have := List.all_eq_true.1 hap.1 o' ho'
        rw [hd] at this
        simpa using this
    · have hk' : k < i := by omega
      have e1 : upd L i k = L k := if_neg hki
      have e2 : updV V i v k = V k := if_neg hki
      rw [e1, e2]
      have ho' : r[i - (k + 1)]? = some o := by rw [show i - k = (i - (k + 1)) + 1 by omega] at ho; simpa using ho
      exact putAll_step r (k + 1) _ hap.2 hk' ho' hL
theorem eval_put_ne {a : Act} {x : Option Tmp} {v : Value} {d : Tmp} (h : x ≠ some d) : (a.put x v).eval (.tmp d) = a.eval (.tmp d) := by
  cases x with
  | none => rfl
  | some e =>
    have hne : e ≠ d := fun h' => h (by rw [h'])
    unfold Act.put Act.eval
    simp [Array.getElem?_setIfInBounds_ne hne]
theorem eval_base {L : Nat → Bool} {V : Nat → Value} {d : Tmp} : ∀ (l : List Oper) (k : Nat) (a : Act), (l.all fun o => o.dst != some d) = true → (putAll L V l k a).eval (.tmp d) = a.eval (.tmp d)
  | [], _, _, _ => rfl
  | o :: r, k, a, h => by
    rw [List.all_cons, Bool.and_eq_true] at h
    unfold putAll
    rw [eval_base r (k + 1) _ h.2]
    split
    · exact eval_put_ne (by simpa using h.1)
    · rfl
theorem size_put (a : Act) (x : Option Tmp) (v : Value) : (a.put x v).tmps.size = a.tmps.size := by
  cases x <;> simp [Act.put]
theorem size_putAll {L : Nat → Bool} {V : Nat → Value} : ∀ (l : List Oper) (k : Nat) (a : Act), (putAll L V l k a).tmps.size = a.tmps.size
  | [], _, _ => rfl
  | o :: r, k, a => by
    unfold putAll
    rw [size_putAll r]
    split
    · exact size_put _ _ _
    · rfl
theorem eval_put_eq {a : Act} {v : Value} {d : Tmp} (h : d < a.tmps.size) : (a.put (some d) v).eval (.tmp d) = v := by
  unfold Act.put Act.eval
  simp [Array.getD_eq_getD_getElem?, Array.getElem?_setIfInBounds_self_of_lt h]
theorem eval_at {L : Nat → Bool} {V : Nat → Value} {d : Tmp} {o : Oper} {i : Nat} : ∀ (l : List Oper) (k : Nat) (a : Act), apartB l = true → d < a.tmps.size → k ≤ i → l[i - k]? = some o → o.dst = some d → L i = true → (putAll L V l k a).eval (.tmp d) = V i
  | [], _, _, _, _, _, h, _, _ => by simp at h
  | x :: r, k, a, hap, hd, hk, ho, hdst, hL => by
    unfold apartB at hap
    rw [Bool.and_eq_true] at hap
    unfold putAll
    by_cases hki : k = i
    · subst hki
      rw [Nat.sub_self] at ho
      obtain rfl : x = o := by simpa using ho
      rw [hL, if_pos rfl, eval_base r (k + 1) _ (List.all_eq_true.2 fun o' ho' => by
        have := List.all_eq_true.1 hap.1 o' ho'
        rw [hdst] at this
        exact this), hdst]
      exact eval_put_eq hd
    · have ho' : r[i - (k + 1)]? = some o := by rw [show i - k = (i - (k + 1)) + 1 by omega] at ho; simpa using ho
      refine eval_at r (k + 1) _ hap.2 ?_ (by omega) ho' hdst hL
      split
      · rw [size_put]; exact hd
      · exact hd
def lf (listed : Array Bool) : Nat → Bool := fun j => listed.getD j false
theorem lf_set {listed : Array Bool} {i : Nat} (h : i < listed.size) : lf (listed.setIfInBounds i true) = upd (lf listed) i := by
  funext j
  unfold lf upd
  simp only [Array.getD_eq_getD_getElem?, Array.getElem?_setIfInBounds]
  by_cases hij : i = j
  · subst hij; simp [h]
  · rw [if_neg hij, if_neg (fun e => hij e.symm)]
def cnt (n : Nat) (listed : Array Bool) : Nat := ((List.range n).filter fun i => !(lf listed i)).length
theorem cnt_set {n : Nat} {listed : Array Bool} {i : Nat} (h : i < listed.size) (hn : i < n) (hf : lf listed i = false) : cnt n (listed.setIfInBounds i true) < cnt n listed := by
  unfold cnt
  rw [lf_set h]
  have e : (List.range n).filter (fun j => !(upd (lf listed) i j)) = ((List.range n).filter fun j => !(lf listed j)).filter (fun j => decide (j ≠ i)) := by
    rw [List.filter_filter]
    apply List.filter_congr
    intro j _
    unfold upd
    by_cases hj : j = i
    · simp [hj]
    · simp [hj]
  rw [e]
  refine List.length_filter_lt_length_iff_exists.2 ⟨i, List.mem_filter.2 ⟨List.mem_range.2 hn, by simp [hf]⟩, by simp⟩
end QR
end Go.Proofs.YtdebnbgjgkbmaaaGreatDoor
namespace Go.Proofs.YtdebnbgjgkbmaaaGreatDoor
namespace QC
open Go.RowKit
open QP (upon oat wp_of_oat)
open QT (dep)
open QR (upd updV putAll apartB putAll_congr putAll_step lf lf_set cnt cnt_set size_put)
set_option linter.unusedVariables false
variable {P : Program}
/-- o yields v in the world w, and leaves it -/
def Y (P : Program) (ops : Array Oper) (o : Oper) (a : Act) (v : Value) (w : World) : Prop :=
  (Region.wanted o (yielded ops a.tmps) = true ∧ oat P o a (fun u => u = w) w v) ∨ (Region.wanted o (yielded ops a.tmps) = false ∧ v = undef)
abbrev Fl := List (Nat × (World → Prop))
/-- the walk: quiet operations as soon as they can, each with what it rests on; an effect must leave what the floating ones rest on -/
def wpC (P : Program) (ops : Array Oper) (E : List Nat) (Q : Exit → Act → World → Prop) : List Nat → Fl → Act → World → Prop
  | [], _, a, w => Q .normal a w
  | i :: r, F, a, w => ∃ o, ops[i]? = some o ∧
    if E.contains i then
      wpList P ops (fun e a' w' => e = .normal ∧ a'.defers = a.defers ∧ (∀ x ∈ F, dep .any ops x.1 30 o = true ∨ x.2 w') ∧ wpC P ops E Q r F a' w') [o] a w
    else ∃ v, ((∀ u, Y P ops o a v u) ∧ wpC P ops E Q r F (a.put o.dst v) w) ∨ (∃ R : World → Prop, R w ∧ (∀ u, R u → Y P ops o a v u) ∧ wpC P ops E Q r ((i, R) :: F) (a.put o.dst v) w)
/-- operation o waits for number j by itself -/
def aft (o : Oper) (j : Nat) : Bool := o.after.toList.any fun e => Region.binds .any e && e.on == j
def lexB (l : List Oper) : Bool := (List.range l.length).all fun i => match l[i]? with | some o => o.after.toList.all fun e => !Region.binds .any e || decide (e.on < i) | none => true
/-- who writes what an operation looks at, it waits for -/
def readB (l : List Oper) : Bool := l.all fun o => (List.range l.length).all fun j => match l[j]? with | some x => (match x.dst with | some d => !(o.looksAt l.toArray).contains d || aft o j | none => true) | none => true
def ordB (l : List Oper) (E : List Nat) : List Nat → List Nat → Bool
  | [], done => (List.range l.length).all fun i => done.contains i
  | i :: r, done => !done.contains i && (match l[i]? with | some o => o.after.toList.all fun e => !Region.binds .any e || done.contains e.on | none => false) &&
    (!E.contains i || r.all fun k => match l[k]? with | some o => dep .any l.toArray i 30 o | none => false) && ordB l E r (i :: done)
def okC (l : List Oper) (E : List Nat) (ord : List Nat) : Bool := apartB l && lexB l && readB l && Region.noSelect l.toArray && ordB l E ord []
theorem tmps_congr {L L' : Nat → Bool} {V V' : Nat → Value} {t : Tmp} : ∀ (l : List Oper) (k : Nat) (a a' : Act), a.tmps[t]? = a'.tmps[t]? → a.tmps.size = a'.tmps.size → (∀ j o, l[j]? = some o → o.dst = some t → L (k + j) = L' (k + j) ∧ V (k + j) = V' (k + j)) →
    (putAll L V l k a).tmps[t]? = (putAll L' V' l k a').tmps[t]?
  | [], _, _, _, h, _, _ => h
  | o :: r, k, a, a', h, hs, hl => by
    unfold putAll
    refine tmps_congr r (k + 1) _ _ ?_ ?_ (fun j o' ho' hd => by have := hl (j + 1) o' (by simpa using ho') hd; simpa [Nat.add_assoc, Nat.add_comm 1 j] using this)
    · by_cases hd : o.dst = some t
      · obtain ⟨e1, e2⟩ := hl 0 o rfl hd
        simp only [Nat.add_zero] at e1 e2
        rw [e1, e2]
        split
        · rw [hd]; unfold Act.put; simp [Array.getElem?_setIfInBounds, hs]
        · exact h
      · have keep : ∀ (b : Bool) (x : Value) (c : Act), (if b = true then c.put o.dst x else c).tmps[t]? = c.tmps[t]? := fun b x c => by
          split
          · cases hx : o.dst with
            | none => rfl
            | some d =>
              have hne : d ≠ t := fun e => hd (by rw [hx, e])
              unfold Act.put; simp [Array.getElem?_setIfInBounds_ne hne]
          · rfl
        rw [keep, keep]; exact h
    · have keep : ∀ (b : Bool) (x : Value) (c : Act), (if b = true then c.put o.dst x else c).tmps.size = c.tmps.size := fun b x c => by
        split
        · exact size_put _ _ _
        · rfl
      rw [keep, keep]; exact hs
theorem exec_congr {ops : Array Oper} {a a' : Act} (o : Oper) (hs : ∀ cs b, o.op ≠ .select cs b) (h : ∀ t ∈ o.looksAt ops, a.tmps[t]? = a'.tmps[t]?) : execOp a.eval o = execOp a'.eval o := by
  refine execOp_congr o hs fun x hx => ?_
  cases x with
  | tmp t =>
    have := h t (List.mem_append_left _ (List.mem_filterMap.2 ⟨.tmp t, by simpa using hx, rfl⟩))
    show a.tmps.getD t undef = a'.tmps.getD t undef
    rw [Array.getD_eq_getD_getElem?, Array.getD_eq_getD_getElem?, this]
  | _ => rfl
theorem wanted_congr {ops : Array Oper} {a a' : Act} (o : Oper) (h : ∀ t ∈ o.looksAt ops, a.tmps[t]? = a'.tmps[t]?) : Region.wanted o (yielded ops a.tmps) = Region.wanted o (yielded ops a'.tmps) := by
  unfold Region.wanted
  cases hg : o.guard with
  | none => rfl
  | some gw =>
    obtain ⟨g, want⟩ := gw
    have hy : yielded ops a.tmps g = yielded ops a'.tmps g := by
      unfold yielded
      cases ht : (ops[g]?).bind (·.dst) with
      | none => rfl
      | some t => rw [Option.bind_some, Option.bind_some, h t (by simp [Oper.looksAt, hg, ht])]
    simp only [hy]
theorem Y_congr {ops : Array Oper} {a a' : Act} {o : Oper} {v : Value} {w : World} (hs : ∀ cs b, o.op ≠ .select cs b) (h : ∀ t ∈ o.looksAt ops, a.tmps[t]? = a'.tmps[t]?) (hy : Y P ops o a v w) : Y P ops o a' v w := by
  unfold Y oat at *
  rw [← exec_congr o hs h, ← wanted_congr o h]; exact hy
/-- a region that draws its order: the invariant I by what is listed and which values came, one step for each operation -/
theorem wp_region_g {id : Nat} {Q : Exit → Act → World → Prop} {a0 : Act} {w0 : World} {l : List Oper} (I : (Nat → Bool) → (Nat → Value) → World → Prop) (hm : P.follows .mixedOrders = true) (hap : apartB l = true)
    (hlex : ∀ i o, l[i]? = some o → ∀ e ∈ o.after.toList, Region.binds .any e = true → e.on < i)
    (h0 : ∀ V, I (fun _ => false) V w0.drew)
    (hstep : ∀ i o, l[i]? = some o → ∀ L V w, I L V w → L i = false → (∀ j o', l[j]? = some o' → L j = true → ∀ e ∈ o'.after.toList, Region.binds .any e = true → L e.on = true) →
      (∀ e ∈ o.after.toList, Region.binds .any e = true → L e.on = true) → ∀ a, a = putAll L V l 0 a0 → ∀ K : Act → World → Prop, (∀ v w', I (upd L i) (updV V i v) w' → K (a.put o.dst v) w') → if Region.wanted o (yielded l.toArray a.tmps) then o.wp P a w K Q else K (a.put o.dst undef) w)
    (hend : ∀ L V w, (∀ i, i < l.length → L i = true) → I L V w → Q .normal (putAll L V l 0 a0) w) : (Code.region id l.toArray true).wp P Q a0 w0 := by
  have key : ∀ (fuel : Nat) (listed : Array Bool) (V : Nat → Value) (w : World), listed.size = l.length → cnt l.length listed ≤ fuel → I (lf listed) V w →
      (∀ j o', l[j]? = some o' → lf listed j = true → ∀ e ∈ o'.after.toList, Region.binds .any e = true → lf listed e.on = true) →
      wpAny P .any l.toArray Q fuel listed (putAll (lf listed) V l 0 a0) w := by
    have full : ∀ (listed : Array Bool), listed.size = l.length → Region.ready .any l.toArray listed = [] → ∀ i, i < l.length → lf listed i = true := by
      intro listed hs hr i
      induction i using Nat.strongRecOn with
      | _ i ih =>
        intro hi
        rcases hb : lf listed i with _ | _
        · exfalso
          have ho : l[i]? = some (l[i]) := List.getElem?_eq_getElem hi
          have hmem : i ∈ Region.ready .any l.toArray listed := by
            refine mem_ready.2 ⟨?_, l[i], by simp, fun e he hbd => ?_⟩
            · unfold lf at hb
              rw [Array.getD_eq_getD_getElem?, Array.getElem?_eq_getElem (by omega)] at hb ⊢
              exact hb
            · have hlt := hlex i _ ho e (by simpa using he) hbd
              exact ih e.on (by omega) (by omega)
          rw [hr] at hmem; cases hmem
        · rfl
    intro fuel
    induction fuel with
    | zero =>
      intro listed V w hs hc hI hd
      have hall : ∀ i, i < l.length → lf listed i = true := fun i hi => by
        rcases hb : lf listed i with _ | _
        · exfalso
          have : 0 < cnt l.length listed := List.length_pos_iff.2 (List.ne_nil_of_mem (List.mem_filter.2 ⟨List.mem_range.2 hi, by simp [hb]⟩))
          omega
        · rfl
      refine ⟨?_, hend _ V w hall hI⟩
      rcases hr : Region.ready .any l.toArray listed with _ | ⟨i, r⟩
      · rfl
      · exfalso
        have hmem : i ∈ Region.ready .any l.toArray listed := by rw [hr]; exact List.mem_cons_self
        obtain ⟨h1, o, ho, _⟩ := mem_ready.1 hmem
        have hi : i < l.length := by have := (Array.getElem?_eq_some_iff.1 ho).1; simpa using this
        have := hall i hi
        unfold lf at this
        rw [Array.getD_eq_getD_getElem?, Array.getElem?_eq_getElem (by omega)] at this h1
        simp at this h1
        rw [this] at h1; cases h1
    | succ fuel ih =>
      intro listed V w hs hc hI hd
      refine ⟨fun hr => hend _ V w (full listed hs hr) hI, fun i hi => ?_⟩
      obtain ⟨h1, o, ho, hdep⟩ := mem_ready.1 hi
      have hol : l[i]? = some o := by simpa using ho
      have hil : i < l.length := (List.getElem?_eq_some_iff.1 hol).1
      have hLi : lf listed i = false := by
        unfold lf
        rw [Array.getD_eq_getD_getElem?, Array.getElem?_eq_getElem (by omega)] at h1 ⊢
        exact h1
      have nxt : ∀ v w', I (upd (lf listed) i) (updV V i v) w' → wpAny P .any l.toArray Q fuel (listed.setIfInBounds i true) ((putAll (lf listed) V l 0 a0).put o.dst v) w' := fun v w' hI' => by
        rw [putAll_step l 0 a0 hap (Nat.zero_le _) (by simpa using hol) hLi, ← lf_set (by omega)]
        rw [← lf_set (by omega)] at hI'
        refine ih _ _ w' (by simpa using hs) (by have := cnt_set (n := l.length) (listed := listed) (i := i) (by omega) hil hLi; omega) hI' (fun j o' hj hl e he hb => ?_)
        rw [lf_set (by omega)] at hl ⊢
        unfold upd at hl ⊢
        by_cases hji : j = i
        · subst hji
          obtain rfl : o' = o := Option.some.inj (hj.symm.trans hol)
          split
          · rfl
          · exact hdep e (by simpa using he) hb
        · rw [if_neg hji] at hl
          split
          · rfl
          · exact hd j o' hj hl e he hb
      have := hstep i o hol (lf listed) V w hI hLi hd (fun e he hb => hdep e (by simpa using he) hb) _ rfl _ nxt
      unfold wpOp
      simp only [ho]
      split
      · rename_i hw; rw [if_pos hw] at this; exact .inl this
      · rename_i hw; rw [if_neg hw] at this; exact this
  refine wp_region_any hm ?_
  have e0 : lf (Array.replicate l.length false) = fun _ => false := by
    funext j; unfold lf; rw [Array.getD_eq_getD_getElem?, Array.getElem?_replicate]; split <;> rfl
  have h1 := key l.toArray.size (Array.replicate l.length false) (fun _ => undef) w0.drew (by simp) (by unfold cnt; have := List.length_filter_le (fun i => !(lf (Array.replicate l.length false) i)) (List.range l.length); simpa using this) (by rw [e0]; exact h0 _) (fun j o' _ hl => by rw [e0] at hl; cases hl)
  have e1 : putAll (lf (Array.replicate l.length false)) (fun _ => undef) l 0 a0 = a0 := by
    rw [e0]
    have : ∀ (r : List Oper) (k : Nat) (a : Act), putAll (fun _ => false) (fun _ => undef) r k a = a := fun r => by
      induction r with
      | nil => intros; rfl
      | cons o r ih => intro k a; unfold putAll; rw [if_neg (by decide)]; exact ih _ _
    exact this l 0 a0
  rw [e1] at h1
  simpa using h1
/-- an unlisted operation that the walk has behind it -/
def Rob (P : Program) (l : List Oper) (E : List Nat) (F : Fl) (aW : Act) (w : World) (k : Nat) (v : Value) : Prop :=
  E.contains k = false ∧ ∃ o, l[k]? = some o ∧ ((∀ u, Y P l.toArray o aW v u) ∨ ∃ R, (k, R) ∈ F ∧ R w ∧ ∀ u, R u → Y P l.toArray o aW v u)
def dn (done : List Nat) : Nat → Bool := fun k => done.contains k
structure St (P : Program) (l : List Oper) (E : List Nat) (Q : Exit → Act → World → Prop) (a0 : Act) (L : Nat → Bool) (V : Nat → Value) (w : World) (W : Nat → Value) (ord done : List Nat) (F : Fl) : Prop where
  ag : ∀ k, L k = true → W k = V k
  od : ordB l E ord done = true
  sub : ∀ k, L k = true → dn done k = true
  eff : ∀ k, dn done k = true → E.contains k = true → L k = true
  dep : ∀ k o, dn done k = true → l[k]? = some o → ∀ e ∈ o.after.toList, Region.binds .any e = true → dn done e.on = true
  rob : ∀ k, dn done k = true → L k = false → Rob P l E F (putAll (dn done) W l 0 a0) w k (W k)
  wp : wpC P l.toArray E Q ord F (putAll (dn done) W l 0 a0) w
theorem dn_cons {i : Nat} {done : List Nat} (h : dn done i = false) : dn (i :: done) = upd (dn done) i := by
  funext j; unfold dn upd
  by_cases hj : j = i
  · subst hj; simp
  · rw [if_neg hj]; simp [hj]
theorem aft_of {l : List Oper} (hr : readB l = true) {o : Oper} {k : Nat} (ho : l[k]? = some o) {t : Tmp} (ht : t ∈ o.looksAt l.toArray) {j : Nat} {x : Oper} (hx : l[j]? = some x) (hd : x.dst = some t) : ∃ e ∈ o.after.toList, Region.binds .any e = true ∧ e.on = j := by
  unfold readB at hr
  have h1 := List.all_eq_true.1 hr o (List.mem_of_getElem? ho)
  have h2 := List.all_eq_true.1 h1 j (List.mem_range.2 (List.getElem?_eq_some_iff.1 hx).1)
  simp only [hx, hd, Bool.or_eq_true, Bool.not_eq_true'] at h2
  rcases h2 with h2 | h2
  · simp [ht] at h2
  · unfold aft at h2
    obtain ⟨e, he, hb⟩ := List.any_eq_true.1 h2
    simp only [Bool.and_eq_true, beq_iff_eq] at hb
    exact ⟨e, he, hb.1, hb.2⟩
theorem dep_all {l : List Oper} {L : Nat → Bool} (hD : ∀ j o', l[j]? = some o' → L j = true → ∀ e ∈ o'.after.toList, Region.binds .any e = true → L e.on = true) {t : Nat} : ∀ (f : Nat) (o : Oper), (∀ e ∈ o.after.toList, Region.binds .any e = true → L e.on = true) → dep .any l.toArray t f o = true → L t = true
  | 0, _, _, h => by simp [dep] at h
  | f + 1, o, hall, h => by
    unfold dep at h
    obtain ⟨e, he, hb⟩ := List.any_eq_true.1 h
    simp only [Bool.and_eq_true, Bool.or_eq_true, beq_iff_eq] at hb
    obtain ⟨h1, h2⟩ := hb
    rcases h2 with h2 | h2
    · rw [← h2]; exact hall e he h1
    · cases ho : l.toArray[e.on]? with
      | none => simp [ho] at h2
      | some o' =>
        simp only [ho] at h2
        have ho' : l[e.on]? = some o' := by simpa using ho
        exact dep_all hD f o' (hD e.on o' ho' (hall e he h1)) h2
section
variable {l : List Oper} {E : List Nat} {Q : Exit → Act → World → Prop} {a0 : Act} {L : Nat → Bool} {V W : Nat → Value} {w : World} {ord done : List Nat} {F : Fl}
theorem ordB_cons {i : Nat} {r : List Nat} (h : ordB l E (i :: r) done = true) : dn done i = false ∧ (∀ o, l[i]? = some o → ∀ e ∈ o.after.toList, Region.binds .any e = true → dn done e.on = true) ∧ (∃ o, l[i]? = some o) ∧
    (E.contains i = true → ∀ k ∈ r, ∃ o, l[k]? = some o ∧ dep .any l.toArray i 30 o = true) ∧ ordB l E r (i :: done) = true := by
  unfold ordB at h
  simp only [Bool.and_eq_true, Bool.not_eq_true', Bool.or_eq_true] at h
  obtain ⟨⟨⟨h1, h2⟩, h3⟩, h4⟩ := h
  refine ⟨h1, fun o ho e he hb => ?_, ?_, fun hE k hk => ?_, h4⟩
  · simp only [ho] at h2
    have := List.all_eq_true.1 h2 e he
    simpa [hb, dn] using this
  · cases ho : l[i]? with
    | none => simp [ho] at h2
    | some o => exact ⟨o, rfl⟩
  · rcases h3 with h3 | h3
    · rw [hE] at h3; cases h3
    · have := List.all_eq_true.1 h3 k hk
      cases hk : l[k]? with
      | none => simp [hk] at this
      | some o => exact ⟨o, rfl, by simpa [hk] using this⟩
theorem ordB_mem {i : Nat} (hi : i < l.length) : ∀ (ord done : List Nat), ordB l E ord done = true → dn done i = false → i ∈ ord
  | [], done, h, hd => by
    unfold ordB at h
    have := List.all_eq_true.1 h i (List.mem_range.2 hi)
    unfold dn at hd; rw [hd] at this; cases this
  | j :: r, done, h, hd => by
    obtain ⟨h1, _, _, _, h5⟩ := ordB_cons h
    by_cases hij : i = j
    · subst hij; exact List.mem_cons_self
    · refine List.mem_cons_of_mem _ (ordB_mem hi r _ h5 ?_)
      rw [dn_cons h1]; unfold upd; rw [if_neg hij]; exact hd
theorem agree (hr : readB l = true) {k : Nat} {o : Oper} (ho : l[k]? = some o) {L' : Nat → Bool} {V' : Nat → Value} (h : ∀ e ∈ o.after.toList, Region.binds .any e = true → L e.on = L' e.on ∧ V e.on = V' e.on) : ∀ t ∈ o.looksAt l.toArray, (putAll L V l 0 a0).tmps[t]? = (putAll L' V' l 0 a0).tmps[t]? := fun t ht =>
  tmps_congr l 0 _ _ rfl rfl fun j x hx hd => by
    obtain ⟨e, he, hb, hj⟩ := aft_of hr ho ht hx hd
    have := h e he hb
    rw [hj] at this; simpa using this
theorem St.quiet {i : Nat} {r : List Nat} (hap : apartB l = true) (hr : readB l = true) (hsel : ∀ o ∈ l, ∀ cs b, o.op ≠ .select cs b) (s : St P l E Q a0 L V w W (i :: r) done F) (hE : E.contains i = false) : ∃ W' F', St P l E Q a0 L V w W' r (i :: done) F' := by
  obtain ⟨h1, h2, ⟨o, ho⟩, _, h5⟩ := ordB_cons s.od
  have hLi : L i = false := by
    cases hb : L i
    · rfl
    · have := s.sub i hb; rw [h1] at this; cases this
  have hwp := s.wp
  obtain ⟨o', ho', hwp⟩ := hwp
  obtain rfl : o' = o := Option.some.inj (by rw [← ho, ← ho']; simp)
  rw [hE, if_neg (by decide)] at hwp
  obtain ⟨v, hwp⟩ := hwp
  have eput : (putAll (dn done) W l 0 a0).put o'.dst v = putAll (dn (i :: done)) (updV W i v) l 0 a0 := by
    rw [putAll_step l 0 a0 hap (Nat.zero_le _) (by simpa using ho) h1, dn_cons h1]
  have Ymv : ∀ k x v' u, l[k]? = some x → (∀ e ∈ x.after.toList, Region.binds .any e = true → dn done e.on = true) → Y P l.toArray x (putAll (dn done) W l 0 a0) v' u → Y P l.toArray x (putAll (dn (i :: done)) (updV W i v) l 0 a0) v' u := fun k x v' u hx hdep hy =>
    Y_congr (hsel x (List.mem_of_getElem? hx)) (agree hr hx (fun e he hb => by
      have hd := hdep e he hb
      have hne : e.on ≠ i := fun he => by rw [he, h1] at hd; cases hd
      rw [dn_cons h1]
      exact ⟨(if_neg hne).symm, (if_neg hne).symm⟩)) hy
  have mk : ∀ F' : Fl, (∀ x ∈ F, x ∈ F') → Rob P l E F' (putAll (dn (i :: done)) (updV W i v) l 0 a0) w i v → wpC P l.toArray E Q r F' ((putAll (dn done) W l 0 a0).put o'.dst v) w → ∃ W' F', St P l E Q a0 L V w W' r (i :: done) F' := fun F' hF hrob hw => by
    refine ⟨updV W i v, F', ⟨fun k hk => ?_, h5, fun k hk => ?_, fun k hk hEk => ?_, fun k x hk hx e he hb => ?_, fun k hk hLk => ?_, by rw [← eput]; exact hw⟩⟩
    · have hne : k ≠ i := fun e => by rw [e, hLi] at hk; cases hk
      show (if k = i then v else W k) = V k
      rw [if_neg hne]; exact s.ag k hk
    · rw [dn_cons h1]; unfold upd
      split
      · rfl
      · exact s.sub k hk
    · rw [dn_cons h1] at hk; unfold upd at hk
      by_cases hki : k = i
      · subst hki; rw [hE] at hEk; cases hEk
      · rw [if_neg hki] at hk; exact s.eff k hk hEk
    · rw [dn_cons h1] at hk ⊢; unfold upd at hk ⊢
      split
      · rfl
      · by_cases hki : k = i
        · subst hki
          obtain rfl : x = o' := Option.some.inj (hx.symm.trans ho)
          exact h2 x ho e he hb
        · rw [if_neg hki] at hk; exact s.dep k x hk hx e he hb
    · by_cases hki : k = i
      · subst hki
        show Rob P l E F' _ w k (if k = k then v else W k)
        rw [if_pos rfl]; exact hrob
      · rw [dn_cons h1] at hk; unfold upd at hk; rw [if_neg hki] at hk
        obtain ⟨g1, x, hx, g2⟩ := s.rob k hk hLk
        show Rob P l E F' _ w k (if k = i then v else W k)
        rw [if_neg hki]
        refine ⟨g1, x, hx, ?_⟩
        rcases g2 with g2 | ⟨R, g2, g3, g4⟩
        · exact .inl fun u => Ymv k x _ u hx (fun e he hb => s.dep k x hk hx e he hb) (g2 u)
        · exact .inr ⟨R, hF _ g2, g3, fun u hu => Ymv k x _ u hx (fun e he hb => s.dep k x hk hx e he hb) (g4 u hu)⟩
  rcases hwp with ⟨hy, hw⟩ | ⟨R, hR, hy, hw⟩
  · exact mk F (fun x hx => hx) ⟨hE, o', ho, .inl fun u => Ymv i o' v u ho (fun e he hb => h2 o' ho e he hb) (hy u)⟩ hw
  · exact mk ((i, R) :: F) (fun x hx => List.mem_cons_of_mem _ hx) ⟨hE, o', ho, .inr ⟨R, List.mem_cons_self, hR, fun u hu => Ymv i o' v u ho (fun e he hb => h2 o' ho e he hb) (hy u hu)⟩⟩ hw
/-- the walk goes on to an effect, or until i is behind it -/
theorem St.adv (hap : apartB l = true) (hr : readB l = true) (hsel : ∀ o ∈ l, ∀ cs b, o.op ≠ .select cs b) {i : Nat} (hi : i < l.length) : ∀ (ord done : List Nat) (W : Nat → Value) (F : Fl), St P l E Q a0 L V w W ord done F →
    ∃ W' ord' done' F', St P l E Q a0 L V w W' ord' done' F' ∧ (dn done' i = true ∨ ∃ p r, ord' = p :: r ∧ E.contains p = true)
  | [], done, W, F, s => by
    cases hd : dn done i
    · have := ordB_mem hi [] done s.od hd; cases this
    · exact ⟨W, [], done, F, s, .inl hd⟩
  | p :: r, done, W, F, s => by
    cases hE : E.contains p
    · obtain ⟨W', F', s'⟩ := s.quiet hap hr hsel hE
      exact St.adv hap hr hsel hi r (p :: done) W' F' s'
    · exact ⟨W, p :: r, done, F, s, .inr ⟨p, r, rfl, hE⟩⟩
theorem St.finish (hap : apartB l = true) (hr : readB l = true) (hsel : ∀ o ∈ l, ∀ cs b, o.op ≠ .select cs b) (hL : ∀ i, i < l.length → L i = true) : ∀ (ord done : List Nat) (W : Nat → Value) (F : Fl), St P l E Q a0 L V w W ord done F → Q .normal (putAll L V l 0 a0) w
  | [], done, W, F, s => by
    have h := s.wp
    have e : putAll (dn done) W l 0 a0 = putAll L V l 0 a0 := putAll_congr l 0 a0 fun j _ hj => by
      have hLj := hL j (by omega)
      exact ⟨by rw [s.sub j hLj, hLj], s.ag j hLj⟩
    rw [← e]; exact h
  | p :: r, done, W, F, s => by
    obtain ⟨h1, _, ⟨o, ho⟩, _, _⟩ := ordB_cons s.od
    have := s.sub p (hL p (List.getElem?_eq_some_iff.1 ho).1)
    rw [h1] at this; cases this
end
theorem wp_region_c {id : Nat} {Q : Exit → Act → World → Prop} {a : Act} {w : World} {l : List Oper} (E ord : List Nat) (hm : P.follows .mixedOrders = true) (hB : okC l E ord = true)
    (h : wpC P l.toArray E Q ord [] a w.drew) : (Code.region id l.toArray true).wp P Q a w := by
  unfold okC at hB
  simp only [Bool.and_eq_true] at hB
  obtain ⟨⟨⟨⟨hap, hlx⟩, hr⟩, hns⟩, hord⟩ := hB
  have hsel : ∀ o ∈ l, ∀ cs b, o.op ≠ .select cs b := fun o ho cs b => by
    obtain ⟨j, hj⟩ := List.getElem?_of_mem ho
    exact Region.noSelect_spec hns j o cs b (by simpa using hj)
  have hlex : ∀ i o, l[i]? = some o → ∀ e ∈ o.after.toList, Region.binds .any e = true → e.on < i := fun i o ho e he hb => by
    have h1 := List.all_eq_true.1 hlx i (List.mem_range.2 (List.getElem?_eq_some_iff.1 ho).1)
    simp only [ho] at h1
    have := List.all_eq_true.1 h1 e he
    simpa [hb] using this
  have p0 : ∀ V : Nat → Value, putAll (dn []) V l 0 a = a := fun V => by
    have : ∀ (r : List Oper) (k : Nat) (a : Act), putAll (dn []) V r k a = a := fun r => by
      induction r with
      | nil => intros; rfl
      | cons o r ih => intro k a; unfold putAll; rw [if_neg (by unfold dn; simp)]; exact ih _ _
    exact this l 0 a
  refine wp_region_g (fun L V w => ∃ W ord done F, St P l E Q a L V w W ord done F) hm hap hlex (fun V => ⟨V, ord, [], [], ⟨fun k hk => (by cases hk), hord, fun k hk => (by cases hk), fun k hk => (by simp [dn] at hk), fun k o hk => (by simp [dn] at hk), fun k hk => (by simp [dn] at hk), by rw [p0]; exact h⟩⟩) ?_ (fun L V w hL ⟨W, ord, done, F, s⟩ => s.finish hap hr hsel hL _ _ _ _)
  intro i o ho L V u ⟨W, ord, done, F, s⟩ hLi hD hdp aA haA K hK
  have hi : i < l.length := (List.getElem?_eq_some_iff.1 ho).1
  obtain ⟨W, ord, done, F, s, hcase⟩ := s.adv hap hr hsel hi
  have hso := hsel o (List.mem_of_getElem? ho)
  have cong : ∀ t ∈ o.looksAt l.toArray, (putAll (dn done) W l 0 a).tmps[t]? = aA.tmps[t]? := by
    rw [haA]
    exact agree hr ho fun e he hb => by
      have := hdp e he hb
      exact ⟨by rw [s.sub _ this, this], s.ag _ this⟩
  cases hdi : dn done i
  · -- the next effect
    rcases hcase with hc | ⟨p, r, rfl, hE⟩
    · rw [hdi] at hc; cases hc
    obtain ⟨h1, h2, ⟨op, hop⟩, h4, h5⟩ := ordB_cons s.od
    have hmem := ordB_mem hi _ _ s.od hdi
    have hip : i = p := by
      rcases List.mem_cons.1 hmem with e | hmem
      · exact e
      · obtain ⟨x, hx, hdx⟩ := h4 hE i hmem
        obtain rfl : x = o := Option.some.inj (hx.symm.trans ho)
        have := s.sub p (dep_all hD 30 x hdp hdx)
        rw [h1] at this; cases this
    subst hip
    obtain ⟨o', ho', hwp⟩ := s.wp
    obtain rfl : o' = o := Option.some.inj (by rw [← ho, ← ho']; simp)
    rw [hE, if_pos rfl] at hwp
    have nxt : ∀ v w', (∀ x ∈ F, dep .any l.toArray x.1 30 o' = true ∨ x.2 w') → wpC P l.toArray E Q r F ((putAll (dn done) W l 0 a).put o'.dst v) w' → K (aA.put o'.dst v) w' := fun v w' hF hw => by
      have eput : (putAll (dn done) W l 0 a).put o'.dst v = putAll (dn (i :: done)) (updV W i v) l 0 a := by
        rw [putAll_step l 0 a hap (Nat.zero_le _) (by simpa using ho) h1, dn_cons h1]
      refine hK v w' ⟨updV W i v, r, i :: done, F, ⟨fun k hk => ?_, h5, fun k hk => ?_, fun k hk hEk => ?_, fun k x hk hx e he hb => ?_, fun k hk hLk => ?_, by rw [← eput]; exact hw⟩⟩
      · unfold upd at hk; unfold updV
        split
        · rfl
        · rename_i hne; rw [if_neg hne] at hk; exact s.ag k hk
      · rw [dn_cons h1]; unfold upd at hk ⊢
        split
        · rfl
        · rename_i hne; rw [if_neg hne] at hk; exact s.sub k hk
      · rw [dn_cons h1] at hk; unfold upd at hk ⊢
        split
        · rfl
        · rename_i hne; rw [if_neg hne] at hk; exact s.eff k hk hEk
      · rw [dn_cons h1] at hk ⊢; unfold upd at hk ⊢
        split
        · rfl
        · by_cases hki : k = i
          · subst hki
            obtain rfl : x = o' := Option.some.inj (hx.symm.trans ho)
            exact h2 x ho e he hb
          · rw [if_neg hki] at hk; exact s.dep k x hk hx e he hb
      · unfold upd at hLk
        have hki : k ≠ i := fun e => by rw [if_pos e] at hLk; cases hLk
        rw [if_neg hki] at hLk
        rw [dn_cons h1] at hk; unfold upd at hk; rw [if_neg hki] at hk
        obtain ⟨g1, x, hx, g2⟩ := s.rob k hk hLk
        show Rob P l E F _ w' k (if k = i then v else W k)
        rw [if_neg hki]
        have Ymv : ∀ u, Y P l.toArray x (putAll (dn done) W l 0 a) (W k) u → Y P l.toArray x (putAll (dn (i :: done)) (updV W i v) l 0 a) (W k) u := fun u hy =>
          Y_congr (hsel x (List.mem_of_getElem? hx)) (agree hr hx (fun e he hb => by
            have hd := s.dep k x hk hx e he hb
            have hne : e.on ≠ i := fun he => by rw [he, h1] at hd; cases hd
            rw [dn_cons h1]
            exact ⟨(if_neg hne).symm, (if_neg hne).symm⟩)) hy
        refine ⟨g1, x, hx, ?_⟩
        rcases g2 with g2 | ⟨R, g2, g3, g4⟩
        · exact .inl fun u => Ymv u (g2 u)
        · refine .inr ⟨R, g2, ?_, fun u hu => Ymv u (g4 u hu)⟩
          rcases hF _ g2 with hh | hh
          · have := dep_all hD 30 o' hdp hh
            rw [hLk] at this; cases this
          · exact hh
    unfold wpList at hwp
    rw [wanted_congr o' cong] at hwp
    split
    · rename_i hwt
      rw [if_pos hwt] at hwp
      rcases hwp with hwp | ⟨_, _, _, hout, _⟩
      · unfold Oper.wp at hwp ⊢
        rw [exec_congr o' hso cong] at hwp
        generalize (execOp aA.eval o').run P u = res at *
        cases res with
        | ok n w' =>
          cases n <;> simp only [Oper.upon] at hwp ⊢
          case value v => exact nxt v w' hwp.2.2.1 hwp.2.2.2
          case skip => exact nxt undef w' hwp.2.2.1 hwp.2.2.2
          case defer d =>
            have he := hwp.2.1
            have hp : ∀ (b : Act) (t : Option Tmp) (v : Value), (b.put t v).defers = b.defers := fun b t v => by cases t <;> rfl
            rw [hp] at he
            have := congrArg List.length he
            simp at this
          case enter f args =>
            refine Calls.mono hwp fun e w'' he => ?_
            cases e with
            | returned v => exact nxt v w'' he.2.2.1 he.2.2.2
            | panicked c => cases he.1
            | outgrown => obtain ⟨_, _, h, _⟩ := he; cases h
          case row row args => exact Rows.mono hwp fun v w'' he => nxt v w'' he.2.2.1 he.2.2.2
        | halt x w' =>
          cases x <;> simp only [Oper.upon] at hwp
          case panic v => cases hwp.1
      · cases hout
    · rename_i hwt
      rw [if_neg hwt] at hwp
      exact nxt undef u hwp.2.2.1 hwp.2.2.2
  · -- a quiet one that the walk has behind it
    obtain ⟨g1, x, hx, g2⟩ := s.rob i hdi hLi
    obtain rfl : x = o := Option.some.inj (hx.symm.trans ho)
    have hy : Y P l.toArray x (putAll (dn done) W l 0 a) (W i) u := by
      rcases g2 with g2 | ⟨R, _, g3, g4⟩
      · exact g2 u
      · exact g4 u g3
    have hy := Y_congr hso cong hy
    have nxt : K (aA.put x.dst (W i)) u := hK (W i) u ⟨W, ord, done, F, ⟨fun k hk => by
        unfold upd at hk; unfold updV
        by_cases hki : k = i
        · rw [if_pos hki, hki]
        · rw [if_neg hki] at hk; rw [if_neg hki]; exact s.ag k hk, s.od, fun k hk => by
        unfold upd at hk
        by_cases hki : k = i
        · rw [hki]; exact hdi
        · rw [if_neg hki] at hk; exact s.sub k hk, fun k hk hEk => by
        unfold upd
        split
        · rfl
        · exact s.eff k hk hEk, s.dep, fun k hk hLk => by
        unfold upd at hLk
        by_cases hki : k = i
        · rw [if_pos hki] at hLk; cases hLk
        · rw [if_neg hki] at hLk; exact s.rob k hk hLk, s.wp⟩⟩
    rcases hy with ⟨hw, hy⟩ | ⟨hw, hv⟩
    · rw [if_pos hw]
      refine wp_of_oat (C' := fun u' => u' = u) (K := fun a' => a' = aA.put x.dst (W i)) (fun a' w' e1 e2 => ?_) hy rfl
      rw [e1, e2]; exact nxt
    · rw [if_neg (by rw [hw]; decide)]
      rw [← hv]; exact nxt
section
variable {ops : Array Oper} {E : List Nat} {Q : Exit → Act → World → Prop} {i : Nat} {r : List Nat} {F : Fl} {a : Act} {w : World} {o : Oper}
theorem wpC_nil (h : Q .normal a w) : wpC P ops E Q [] F a w := h
/-- an operation that looks at no memory -/
theorem wpC_pure (ho : ops.toList[i]? = some o) (hE : E.contains i = false)
    (h : ∀ K : Act → Prop, (∀ a, wpC P ops E Q r F a w → K a) → if Region.wanted o (yielded ops a.tmps) then ∃ v, (∀ u, oat P o a (fun x => x = u) u v) ∧ K (a.put o.dst v) else K (a.put o.dst undef)) : wpC P ops E Q (i :: r) F a w := by
  have := h _ (fun _ h => h)
  refine ⟨o, by rw [← Array.getElem?_toList]; exact ho, ?_⟩
  rw [hE, if_neg (by decide)]
  split at this
  · rename_i hw
    obtain ⟨v, h1, h2⟩ := this
    exact ⟨v, .inl ⟨fun u => .inl ⟨hw, h1 u⟩, h2⟩⟩
  · rename_i hw
    exact ⟨undef, .inl ⟨fun u => .inr ⟨by simpa using hw, rfl⟩, this⟩⟩
/-- an operation that rests on R -/
theorem wpC_rest (R : World → Prop) (v : Value) (ho : ops.toList[i]? = some o) (hE : E.contains i = false) (hw : Region.wanted o (yielded ops a.tmps) = true) (hR : R w) (hy : ∀ u, R u → oat P o a (fun x => x = u) u v)
    (h : wpC P ops E Q r ((i, R) :: F) (a.put o.dst v) w) : wpC P ops E Q (i :: r) F a w := by
  refine ⟨o, by rw [← Array.getElem?_toList]; exact ho, ?_⟩
  rw [hE, if_neg (by decide)]
  exact ⟨v, .inr ⟨R, hR, fun u hu => .inl ⟨hw, hy u hu⟩, h⟩⟩
theorem wpC_load {ty : TypeId} {x : Operand} {p : Addr} {v : Value} (ho : ops.toList[i]? = some o) (hE : E.contains i = false) (hop : o.op = .load ty x) (hw : Region.wanted o (yielded ops a.tmps) = true) (hx : a.eval x = .pointer (some p)) (hc : w.cell? p = some v)
    (hl : ∀ u : World, u.cell? p = some v → (Instr.loadAt ty (.pointer (some p))).run P u = .ok v u)
    (h : ∀ K : Act → Prop, (∀ a, wpC P ops E Q r ((i, fun u => u.cell? p = some v) :: F) a w → K a) → K (a.put o.dst v)) : wpC P ops E Q (i :: r) F a w := by
  refine wpC_rest (fun u => u.cell? p = some v) v ho hE hw hc (fun u hu => ?_) (h _ fun _ h => h)
  unfold oat execOp
  simp only [hop, hx, Sem.run_bind, Sem.run_pure, Result.andThen_ok, hl u hu]
  exact ⟨rfl, rfl⟩
/-- what an effect must leave -/
def effQ (P : Program) (ops : Array Oper) (E : List Nat) (Q : Exit → Act → World → Prop) (r : List Nat) (F : Fl) (o : Oper) (a : Act) (e : Exit) (a' : Act) (w' : World) : Prop :=
  e = .normal ∧ a'.defers = a.defers ∧ (∀ x ∈ F, dep .any ops x.1 30 o = true ∨ x.2 w') ∧ wpC P ops E Q r F a' w'
theorem eff_ok {a' : Act} {w' : World} (hd : a'.defers = a.defers) (hF : ∀ x ∈ F, dep .any ops x.1 30 o = true ∨ x.2 w') (h : wpC P ops E Q r F a' w') : effQ P ops E Q r F o a .normal a' w' := ⟨rfl, hd, hF, h⟩
/-- an operation that makes or writes memory -/
theorem wpC_eff (ho : ops.toList[i]? = some o) (hE : E.contains i = true)
    (h : wpList P ops (effQ P ops E Q r F o a) [o] a w) : wpC P ops E Q (i :: r) F a w := by
  refine ⟨o, by rw [← Array.getElem?_toList]; exact ho, ?_⟩
  rw [hE, if_pos rfl]; exact h
theorem obl_nil {w' : World} : ∀ x ∈ ([] : Fl), dep .any ops x.1 30 o = true ∨ x.2 w' := fun x hx => by cases hx
theorem obl_dep {w' : World} {j : Nat} {R : World → Prop} (h : dep .any ops j 30 o = true) (hF : ∀ x ∈ F, dep .any ops x.1 30 o = true ∨ x.2 w') : ∀ x ∈ ((j, R) :: F : Fl), dep .any ops x.1 30 o = true ∨ x.2 w' := fun x hx => by
  rcases List.mem_cons.1 hx with e | e
  · subst e; exact .inl h
  · exact hF x e
theorem obl_is {w' : World} {j : Nat} {R : World → Prop} (h : R w') (hF : ∀ x ∈ F, dep .any ops x.1 30 o = true ∨ x.2 w') : ∀ x ∈ ((j, R) :: F : Fl), dep .any ops x.1 30 o = true ∨ x.2 w' := fun x hx => by
  rcases List.mem_cons.1 hx with e | e
  · subst e; exact .inr h
  · exact hF x e
end
/-- but for what was drawn, the same world -/
structure Dr (w u : World) : Prop where
  heap : u.heap = w.heap
  os : u.os = w.os
  tape : u.tape = w.tape
  output : u.output = w.output
section
variable {w u v : World}
theorem Dr.refl (w : World) : Dr w w := ⟨rfl, rfl, rfl, rfl⟩
theorem Dr.drew (w : World) : Dr w w.drew := ⟨rfl, rfl, rfl, rfl⟩
theorem Dr.trans (h : Dr w u) (h' : Dr u v) : Dr w v := ⟨h'.heap.trans h.heap, h'.os.trans h.os, h'.tape.trans h.tape, h'.output.trans h.output⟩
theorem Dr.cell (h : Dr w u) (p : Addr) : u.cell? p = w.cell? p := by unfold World.cell?; rw [h.heap]
theorem Dr.frozen (h : Dr w u) (p : Addr) : u.frozen? p = w.frozen? p := by unfold World.frozen?; rw [h.heap]
theorem Dr.row (h : Dr w u) {g : Nat} {t : TypeId} {cs : Array Value} (hr : M.RowAt w g t cs) : M.RowAt u g t cs := by unfold M.RowAt at *; rw [h.heap]; exact hr
theorem Dr.below {n : Nat} (h : Dr w u) : Below n w u := ⟨h.os, h.tape, h.output, by rw [h.heap]; exact Nat.le_refl _, fun k _ => by rw [h.heap]⟩
theorem Dr.size (h : Dr w u) : u.heap.size = w.heap.size := by rw [h.heap]
end
theorem wp_region_d {id : Nat} {Q : Exit → Act → World → Prop} {a : Act} {w : World} {l : List Oper} (E ord : List Nat) (hm : P.follows .mixedOrders = true) (hB : okC l E ord = true)
    (h : ∀ u, Dr w u → wpC P l.toArray E Q ord [] a u) : (Code.region id l.toArray true).wp P Q a w := wp_region_c E ord hm hB (h _ (Dr.drew w))
end QC
end Go.Proofs.YtdebnbgjgkbmaaaGreatDoor
namespace Go.Proofs.YtdebnbgjgkbmaaaGreatDoor
namespace Hs
open Go.RowKit
set_option linter.unusedVariables false
/-- the preimage of a byte -/
def PA (a : Nat) : Nat → Nat := fun i => if i = 0 then a else 42
def fK (k : Nat) : Nat → Nat := fun i => if i < k then 42 else 0
theorem fK_set {k : Nat} (hk : k < 32) : (r8 32 (fK k)).setIfInBounds k (.int .u8 42) = r8 32 (fK (k + 1)) := M.rowF_set 42 hk fun j hj => by
  unfold fK
  by_cases h1 : j = k
  · subst h1; simp
  · rw [if_neg h1]
    by_cases h2 : j < k
    · rw [if_pos h2, if_pos (by omega)]
    · rw [if_neg h2, if_neg (by omega)]
theorem PA_set (a : Nat) : (r8 32 (fK 32)).setIfInBounds 0 (.int .u8 (a : Nat)) = r8 32 (PA a) := M.rowF_set (a : Nat) (by decide) fun j hj => by
  unfold fK PA
  by_cases h1 : j = 0
  · simp [h1]
  · rw [if_neg h1, if_neg h1, if_pos hj]
theorem PA_lt {a : Nat} (h : a < 256) (i : Nat) : PA a i < 256 := by unfold PA; split <;> omega
/-- the two rows of the call -/
structure PW (n : Nat) (w : World) (k : Nat) (v : World) : Prop where
  r0 : M.RowAt v n 47 Z32
  r1 : M.RowAt v (n + 1) 47 (r8 32 (fK k))
  bel : Below n w v
set_option maxRecDepth 100000 in
set_option maxHeartbeats 4000000 in
theorem pre_any (a : Nat) (w : World) : Calls Tryz.prog 24 #[.int .u8 (a : Nat)] w fun e w' => e = .returned (.agg (r8 32 (PA a))) ∧ Below w.heap.size w w' := by
  obtain ⟨n, hn⟩ : ∃ n, w.heap.size = n := ⟨_, rfl⟩
  have HN := Lib.hid hn
  have pset := PA_set a
  have iD := r8_info (PA a); have zD := r8_zero (PA a); have oD := r8_one (PA a)
  generalize r8 32 (PA a) = D at *
  have PS := Lib.hid pset
  clear pset
  have p0 : PW n w 0 ((w.alloc (.cells Z32 47)).alloc (.cells Z32 47)) := by
    subst hn
    refine ⟨(M.RowAt.new w 47 Z32).alloc _, ?_, ((Below.refl _ _).alloc (Nat.le_refl _) _).alloc (by simp) _⟩
    have := M.RowAt.new (w.alloc (.cells Z32 47)) 47 Z32
    rw [World.size_alloc] at this
    exact this
  obtain ⟨V, hV⟩ : ∃ V, (w.alloc (.cells Z32 47)).alloc (.cells Z32 47) = V := ⟨_, rfl⟩
  have hV' : (w.alloc (.cells #[.int .u8 0, .int .u8 0, .int .u8 0, .int .u8 0, .int .u8 0, .int .u8 0, .int .u8 0, .int .u8 0, .int .u8 0, .int .u8 0, .int .u8 0, .int .u8 0, .int .u8 0, .int .u8 0, .int .u8 0, .int .u8 0, .int .u8 0, .int .u8 0, .int .u8 0, .int .u8 0, .int .u8 0, .int .u8 0, .int .u8 0, .int .u8 0, .int .u8 0, .int .u8 0, .int .u8 0, .int .u8 0, .int .u8 0, .int .u8 0, .int .u8 0, .int .u8 0] 47)).alloc (.cells #[.int .u8 0, .int .u8 0, .int .u8 0, .int .u8 0, .int .u8 0, .int .u8 0, .int .u8 0, .int .u8 0, .int .u8 0, .int .u8 0, .int .u8 0, .int .u8 0, .int .u8 0, .int .u8 0, .int .u8 0, .int .u8 0, .int .u8 0, .int .u8 0, .int .u8 0, .int .u8 0, .int .u8 0, .int .u8 0, .int .u8 0, .int .u8 0, .int .u8 0, .int .u8 0, .int .u8 0, .int .u8 0, .int .u8 0, .int .u8 0, .int .u8 0, .int .u8 0] 47) = V := hV
  rw [hV] at p0
  have HV := Lib.hid hV'
  have P0 := Lib.hid p0
  have s1 : (w.alloc (.cells #[.int .u8 0, .int .u8 0, .int .u8 0, .int .u8 0, .int .u8 0, .int .u8 0, .int .u8 0, .int .u8 0, .int .u8 0, .int .u8 0, .int .u8 0, .int .u8 0, .int .u8 0, .int .u8 0, .int .u8 0, .int .u8 0, .int .u8 0, .int .u8 0, .int .u8 0, .int .u8 0, .int .u8 0, .int .u8 0, .int .u8 0, .int .u8 0, .int .u8 0, .int .u8 0, .int .u8 0, .int .u8 0, .int .u8 0, .int .u8 0, .int .u8 0, .int .u8 0] 47)).heap.size = n + 1 := by rw [World.size_alloc, hn]
  have HS := Lib.hid s1
  clear hn hV hV' p0 s1
  go_enter Tryz.func24, Tryz.ntmps24
  go_wp2_with (first | (rw [HN.out, HS.out, HV.out]) | (rw [HN.out, HV.out]) | fail)
  go_loopg [5] 32 (fun g i W => ∃ (k : Nat), g + k = 32 ∧ i = .int .i64 k ∧ PW n w k W)
  case atStart => exact ⟨0, by omega, rfl, P0.out⟩
  case round =>
    obtain ⟨k, hk, rfl, pw⟩ := hrel
    have HK := Lib.hid hk
    by_cases hlt : k < 32
    · have f1 := pw.r1.frozen k
      have c1 : wr.cell? ⟨n + 1, k, none⟩ = some (.int .u8 ((fK k k : Nat) : Int)) := (pw.r1.cell k).trans (M.rowF_get hlt)
      have hi : (k : Int) < 32 := by omega
      have h0 : (0 : Int) ≤ (k : Int) := by omega
      have nx : PW n w (k + 1) (wr.setCell ⟨n + 1, k, none⟩ (.int .u8 42)) := by
        refine ⟨pw.r0.far (by show n + 1 ≠ n; omega) _, ?_, pw.bel.setCell (by show n ≤ n + 1; omega) _⟩
        rw [← fK_set hlt]; exact pw.r1.set k _
      have NX := Lib.hid nx
      clear pw nx hk
      go_wp2
      go_roundg (32 - (k + 1))
      case measure => have := HK.out; omega
      case rel => exact ⟨k + 1, by have := HK.out; omega, by go_num, NX.out⟩
    · obtain rfl : k = 32 := by omega
      have f1 := pw.r1.frozen 0
      have c1 : wr.cell? ⟨n + 1, 0, none⟩ = some (.int .u8 ((fK 32 0 : Nat) : Int)) := (pw.r1.cell 0).trans (M.rowF_get (by decide))
      obtain ⟨X, hX⟩ : ∃ X, wr.setCell ⟨n + 1, 0, none⟩ (.int .u8 (a : Nat)) = X := ⟨_, rfl⟩
      have rX : M.RowAt X (n + 1) 47 D := by rw [← hX, ← PS.out]; exact pw.r1.set 0 _
      have rN : M.RowAt X n 47 Z32 := by rw [← hX]; exact pw.r0.far (by show n + 1 ≠ n; omega) _
      have bX : Below n w X := by rw [← hX]; exact pw.bel.setCell (by show n ≤ n + 1; omega) _
      have q1 := rN.setRow D
      have bW := M.below_setRow (g := n) (cs := D) bX (Nat.le_refl _)
      have HX := Lib.hid hX
      unfold M.RowAt at rN
      clear hX pw hk
      go_wp2_with (first | (rw [HX.out]) | (refine wpList_load_row (x := .tmp 3) (ty := 47) (g := n + 1) (cs := D) (t := 47) (fr := (0, 0)) ?_ ?_ ?_ _ rX Tryz.underlying47 rfl iD ?_; rfl; rfl; rfl) | (refine wpList_store_row (x := .tmp 2) (y := .tmp 13) (cells := D) (old := Z32) (t := 47) (ty := 47) (g := n) ?_ ?_ ?_ ?_ rN iD zD oD ?_; rfl; rfl; rfl; rfl) | fail)
      have hload := run_loadVar_row (P := Tryz.prog) _ n 47 47 D (0, 0) _ q1 u28 rfl iD
      refine bodyPost_ret (v := .agg D) (by simp [results, Tryz.results24, asAddr, Act.put, hload]) rfl ⟨rfl, ?_⟩
      rw [HN.out]
      exact bW
end Hs
end Go.Proofs.YtdebnbgjgkbmaaaGreatDoor
namespace Go.Proofs.YtdebnbgjgkbmaaaGreatDoor.Pu.Am
/-- the greatest amount -/
def mx : Int := 1125899906842624
/-- what amounts come to, and the error -/
def addF (l : List Int) : Int × Int := if l.sum ≤ mx then (l.sum, 0) else (0, 60)
/-- the same, step by step, s being there already -/
def addL (s : Int) : List Int → Int × Int
  | [] => (s, 0)
  | n :: r => if mx - s < n then (0, 60) else addL (s + n) r
theorem sum_nonneg {l : List Int} (h : ∀ z ∈ l, 0 ≤ z) : 0 ≤ l.sum := by
  induction l with
  | nil => simp
  | cons a r ih =>
    have h1 := h a (by simp)
    have h2 := ih fun z hz => h z (by simp [hz])
    simp only [List.sum_cons]; omega
theorem addL_eq {l : List Int} (h : ∀ z ∈ l, 0 ≤ z) (s : Int) (hs : s ≤ mx) : addL s l = if s + l.sum ≤ mx then (s + l.sum, 0) else (0, 60) := by
  induction l generalizing s with
  | nil => simp [addL, hs]
  | cons a r ih =>
    have h1 := h a (by simp)
    have hr : ∀ z ∈ r, 0 ≤ z := fun z hz => h z (by simp [hz])
    have h2 := sum_nonneg hr
    have e : (a :: r).sum = a + r.sum := List.sum_cons
    simp only [addL]
    by_cases hc : mx - s < a
    · rw [if_pos hc, if_neg (by rw [e]; omega)]
    · rw [if_neg hc, ih hr (s + a) (by omega)]
      by_cases hq : s + a + r.sum ≤ mx
      · rw [if_pos hq, if_pos (by rw [e]; omega), e, ← Int.add_assoc]
      · rw [if_neg hq, if_neg (by rw [e]; omega)]
theorem addL_addF {l : List Int} (h : ∀ z ∈ l, 0 ≤ z) : addL 0 l = addF l := by
  rw [addL_eq h 0 (by decide)]; simp [addF]
end Go.Proofs.YtdebnbgjgkbmaaaGreatDoor.Pu.Am
namespace Go.Proofs.YtdebnbgjgkbmaaaGreatDoor.Pu
open Go.RowKit
theorem u64_in (n : Int) (h : 0 ≤ n ∧ n ≤ 18446744073709551615) : IntKind.u64.wrap n = n := by rw [IntKind.wrap_u64]; omega
/-- a row of numbers of 64 bits that a call reads -/
structure URow (w : World) (p : Option Addr) (len : Nat) (zs : List Int) : Prop where
  lens : zs.length = len
  short : len ≤ 9223372036854775807
  fits : ∀ z ∈ zs, 0 ≤ z ∧ z ≤ 18446744073709551615
  cells : ∃ b off, (len = 0 ∨ p = some ⟨b, off, none⟩) ∧ ∀ j, j < len → w.cell? ⟨b, off + j, none⟩ = some (.int .u64 (zs.getD j 0))
theorem drop_step (zs : List Int) (k : Nat) (h : k < zs.length) : zs.drop k = zs.getD k 0 :: zs.drop (k + 1) := by
  rw [List.drop_eq_getElem_cons h]; simp [h]
set_option maxHeartbeats 400000 in
theorem add_any (p : Option Addr) (len cap : Nat) (zs : List Int) (w : World) (h : URow w p len zs) :
    Calls Tryz.prog 51 #[.slice p len cap] w fun e w' => e = .returned (.tuple #[.int .u64 (Am.addF zs).1, .int .i64 (Am.addF zs).2]) ∧ w = w' := by
  obtain ⟨hl, hs, hf, b, off, hp, hc⟩ := h
  rw [← Am.addL_addF (fun z hz => (hf z hz).1)]
  have HL := Lib.hid hl; have HF := Lib.hid hf; have HP := Lib.hid hp; have HC := Lib.hid hc
  clear hl hf hp hc
  go_enter Tryz.func51, Tryz.ntmps51
  go_wp2
  go_loop [4, 9] (fun s i => ∃ (k : Nat) (x : Int), k ≤ len ∧ i = .int .i64 k ∧ s = .int .u64 x ∧ 0 ≤ x ∧ x ≤ 1125899906842624 ∧ Am.addL 0 zs = Am.addL x (zs.drop k)) (fun _ i => len - (intOf i).toNat)
  case atStart => exact ⟨0, 0, by omega, rfl, rfl, by omega, by omega, by simp⟩
  case round =>
    obtain ⟨k, x, hk, rfl, rfl, x0, x1, hx⟩ := hrel
    have HX := Lib.hid hx; clear hx
    by_cases hlt : k < len
    · obtain rfl : p = some ⟨b, off, none⟩ := by rcases HP.out with h | h; (omega); exact h
      have hcell := HC.out k hlt
      have hfit : 0 ≤ zs.getD k 0 ∧ zs.getD k 0 ≤ 18446744073709551615 := HF.out _ (by have := HL.out; simp [show k < zs.length by omega])
      have hd := drop_step zs k (by have := HL.out; omega)
      rw [hd] at HX
      clear hd
      generalize zs.getD k 0 = z at *
      obtain ⟨z0, z1⟩ := hfit
      by_cases hgt : 1125899906842624 - x < z
      · have he : Am.addL x (z :: zs.drop (k + 1)) = (0, 60) := by
          simp only [Am.addL]; rw [if_pos (by show (1125899906842624 : Int) - x < z; exact hgt)]
        have HE := Lib.hid (HX.out.trans he); clear he
        go_wp2
        go_ret2
        exact ⟨by rw [HE.out]; rfl, rfl⟩
      · have he : Am.addL x (z :: zs.drop (k + 1)) = Am.addL (x + z) (zs.drop (k + 1)) := by
          simp only [Am.addL]; rw [if_neg (by show ¬ (1125899906842624 : Int) - x < z; exact hgt)]
        have HE := Lib.hid (HX.out.trans he); clear he
        go_wp2
        go_round
        case rel => exact ⟨k + 1, x + z, by omega, by go_num, rfl, by omega, by omega, HE.out⟩
        case measure => simp [intOf]; omega
    · have he : Am.addL x (zs.drop k) = (x, 0) := by
        rw [List.drop_eq_nil_of_le (by have := HL.out; omega)]; rfl
      have HE := Lib.hid (HX.out.trans he); clear he
      go_wp2
      go_ret2
      exact ⟨by rw [HE.out]; rfl, rfl⟩
namespace Mul64
end Mul64
end Go.Proofs.YtdebnbgjgkbmaaaGreatDoor.Pu
namespace Go.Proofs.YtdebnbgjgkbmaaaGreatDoor.Pu
open Go.RowKit
theorem ret_bool {a b : Bool} (h : a = b) : Ending.returned (.bool a) = .returned (.bool b) := by rw [h]
end Go.Proofs.YtdebnbgjgkbmaaaGreatDoor.Pu
namespace Go.Proofs.YtdebnbgjgkbmaaaGreatDoor.Pu
open Go.RowKit
theorem URow.below {w w' : World} {p : Option Addr} {len : Nat} {zs : List Int} (h : URow w p len zs) (b : Below w.heap.size w w') : URow w' p len zs := by
  obtain ⟨h1, h2, h3, bb, off, h4, h5⟩ := h
  refine ⟨h1, h2, h3, bb, off, h4, fun j hj => ?_⟩
  have := h5 j hj
  rw [b.cell (World.block_lt_of_cell? w _ this)]; exact this
section
variable (w0 : World)
theorem add_ok (p : Option Addr) (len cap : Nat) (zs : List Int) (w : World) (h : Below w0.heap.size w0 w) (hu : URow w0 p len zs) :
    Calls Tryz.prog 51 #[.slice p len cap] w fun e w' => e = .returned (.tuple #[.int .u64 (Am.addF zs).1, .int .i64 (Am.addF zs).2]) ∧ Below w0.heap.size w0 w' :=
  (add_any p len cap zs w (hu.below h)).mono fun _ _ ⟨he, hw⟩ => ⟨he, hw ▸ h⟩
end
end Go.Proofs.YtdebnbgjgkbmaaaGreatDoor.Pu
namespace Go.Proofs.YtdebnbgjgkbmaaaGreatDoor.Pu
open Go.RowKit
set_option linter.unusedVariables false
/-- what was there is as it was, but for some blocks -/
structure Bt (s : List Nat) (w w' : World) : Prop where
  os : w'.os = w.os
  tape : w'.tape = w.tape
  output : w'.output = w.output
  size : w.heap.size ≤ w'.heap.size
  block : ∀ k, k < w.heap.size → k ∉ s → w'.heap[k]? = w.heap[k]?
section
variable {s : List Nat} {w w' w'' : World}
theorem Bt.refl (s : List Nat) (w : World) : Bt s w w := ⟨rfl, rfl, rfl, Nat.le_refl _, fun _ _ _ => rfl⟩
theorem Bt.trans (h : Bt s w w') (h' : Bt s w' w'') : Bt s w w'' :=
  ⟨h'.os.trans h.os, h'.tape.trans h.tape, h'.output.trans h.output, Nat.le_trans h.size h'.size, fun k hk hs => (h'.block k (Nat.lt_of_lt_of_le hk h.size) hs).trans (h.block k hk hs)⟩
theorem Bt.ofBelow (s : List Nat) (h : Below w.heap.size w w') : Bt s w w' := ⟨h.os, h.tape, h.output, h.size, fun k hk _ => h.block k hk⟩
theorem Bt.ofBut {g : Nat} (h : M.But g w w') (hg : g ∈ s) : Bt s w w' := ⟨h.os, h.tape, h.output, h.size, fun k hk hs => h.block k hk (fun e => hs (e ▸ hg))⟩
theorem Bt.drew (h : Bt s w w') : Bt s w w'.drew := ⟨h.os, h.tape, h.output, h.size, h.block⟩
theorem Bt.alloc (h : Bt s w w') (o : Obj) : Bt s w (w'.alloc o) := h.trans (.ofBelow s ((Below.refl _ _).alloc (Nat.le_refl _) o))
theorem Bt.set (h : Bt s w w') {p : Addr} (hp : p.block ∈ s) (v : Value) : Bt s w (w'.setCell p v) := h.trans (.ofBut ((M.But.refl p.block w').set (.inl rfl) v) hp)
theorem Bt.row {k : Nat} {t : TypeId} {cs : Array Value} (h : Bt s w w') (hr : M.RowAt w k t cs) (hk : k ∉ s) : M.RowAt w' k t cs := by
  have hl := hr.lt
  unfold M.RowAt at *; rw [h.block k hl hk]; exact hr
theorem Bt.below {B : Nat} {w0 : World} (h : Bt s w w') (hb : Below B w0 w) (hs : ∀ g ∈ s, B ≤ g) (hB : B ≤ w.heap.size) : Below B w0 w' :=
  ⟨h.os.trans hb.os, h.tape.trans hb.tape, h.output.trans hb.output, Nat.le_trans hb.size h.size, fun k hk => (h.block k (by omega) (fun e => by have := hs k e; omega)).trans (hb.block k hk)⟩
end
def upF {α : Type} (f : Nat → α) (k : Nat) (x : α) : Nat → α := fun i => if i = k then x else f i
theorem upF_same {α : Type} (f : Nat → α) (k : Nat) (x : α) : upF f k x k = x := if_pos rfl
theorem upF_ne {α : Type} (f : Nat → α) {k j : Nat} (h : j ≠ k) (x : α) : upF f k x j = f j := if_neg h
abbrev Res := List (Int × Int × Int)
def sumB (f : Nat → Int) : Nat → Int
  | 0 => 0
  | k + 1 => sumB f k + f k
def sumR : Res → Int
  | [] => 0
  | e :: r => e.2.2 + sumR r
theorem sumB_nonneg {f : Nat → Int} (h : ∀ i, 0 ≤ f i) : ∀ n, 0 ≤ sumB f n
  | 0 => Int.le_refl _
  | n + 1 => by have := sumB_nonneg h n; have := h n; show 0 ≤ sumB f n + f n; omega
theorem sumB_le {f : Nat → Int} (h : ∀ i, 0 ≤ f i) {a : Nat} : ∀ n, a < n → f a ≤ sumB f n
  | n + 1, ha => by
    show f a ≤ sumB f n + f n
    by_cases e : a = n
    · subst e; have := sumB_nonneg h a; omega
    · have := sumB_le h n (show a < n by omega); have := h n; omega
theorem sumR_nonneg {l : Res} (h : ∀ e ∈ l, 0 ≤ e.2.2) : 0 ≤ sumR l := by
  induction l with
  | nil => exact Int.le_refl _
  | cons e l ih =>
    have := h e List.mem_cons_self
    have := ih fun x hx => h x (List.mem_cons_of_mem _ hx)
    show 0 ≤ e.2.2 + sumR l; omega
theorem sumR_del {l : Res} {i : Int} {x : Int × Int} (h : getM l i = some x) : sumR (delM l i) + x.2 = sumR l := by
  induction l with
  | nil => cases h
  | cons e l ih =>
    unfold getM at h; unfold delM
    split at h
    · rename_i he
      rw [if_pos he]
      obtain rfl : e.2 = x := Option.some.inj h
      show sumR l + e.2.2 = e.2.2 + sumR l; omega
    · rename_i he
      rw [if_neg he]
      have := ih h
      show e.2.2 + sumR (delM l i) + x.2 = e.2.2 + sumR l; omega
/-- what always holds of a purse -/
structure Inv (n : Nat) (f : Nat → Int) (l : Res) : Prop where
  n1 : 1 ≤ n
  n32 : n ≤ 32
  pos : ∀ i, 0 ≤ f i
  res : ∀ e ∈ l, 0 ≤ e.1 ∧ e.1 ≤ 32 ∧ 0 ≤ e.2.1 ∧ e.2.1 < (n : Int) ∧ 0 ≤ e.2.2
  len : l.length ≤ 32
  tot : sumB f n + sumR l ≤ Am.mx
theorem Inv.sum {n : Nat} {f : Nat → Int} {l : Res} (h : Inv n f l) {a : Nat} (ha : a < n) {i : Int} {x : Int × Int} (hx : getM l i = some x) : f a + x.2 ≤ 1125899906842624 := by
  have h0 := sumB_le h.pos n ha
  have h2 := sumR_del hx
  have h3 := sumR_nonneg (l := delM l i) fun e he => (h.res e (delM_sub i l e he)).2.2.2.2
  have := h.tot
  unfold Am.mx at this; omega
def mkR (x : Int × Int) : Value := .agg #[.int .i64 x.1, .int .u64 x.2]
def KR : KT Tryz.prog 3 Int := intKT Tryz.underlying3
/-- a purse: its own block, its balances, its reservations -/
structure Pu (p B mb n cap : Nat) (f : Nat → Int) (l : Res) (w : World) : Prop where
  hp : M.RowAt w p 252 #[.slice (some ⟨B, 0, none⟩) n cap, .map (some mb)]
  hB : ∃ cur, M.RowAt w B 27 cur ∧ ∀ i, i < n → cur[i]? = some (.int .u64 (f i))
  hm : IM KR mkR w mb l
  ne : p ≠ B ∧ p ≠ mb ∧ B ≠ mb
  cap : n ≤ cap
  inv : Inv n f l
section
variable {p B mb n cap : Nat} {f : Nat → Int} {l l' : Res} {w w' : World} {s : List Nat}
theorem Pu.bt (h : Pu p B mb n cap f l w) (hb : Bt s w w') (h1 : p ∉ s) (h2 : B ∉ s) (h3 : mb ∉ s) : Pu p B mb n cap f l w' := by
  obtain ⟨cur, hr, hc⟩ := h.hB
  exact ⟨hb.row h.hp h1, ⟨cur, hb.row hr h2, hc⟩, h.hm.of (hb.block mb h.hm.lt h3), h.ne, h.cap, h.inv⟩
theorem Pu.same (h : Pu p B mb n cap f l w) (hb : Below w.heap.size w w') : Pu p B mb n cap f l w' := h.bt (s := []) (.ofBelow _ hb) (by simp) (by simp) (by simp)
theorem Pu.alloc (h : Pu p B mb n cap f l w) (o : Obj) : Pu p B mb n cap f l (w.alloc o) := h.same ((Below.refl _ _).alloc (Nat.le_refl _) o)
theorem Pu.drew (h : Pu p B mb n cap f l w) : Pu p B mb n cap f l w.drew := by
  obtain ⟨cur, hr, hc⟩ := h.hB
  exact ⟨h.hp, ⟨cur, hr, hc⟩, h.hm, h.ne, h.cap, h.inv⟩
theorem Pu.c0 (h : Pu p B mb n cap f l w) : w.cell? ⟨p, 0, none⟩ = some (.slice (some ⟨B, 0, none⟩) n cap) := (h.hp.cell 0).trans rfl
theorem Pu.c1 (h : Pu p B mb n cap f l w) : w.cell? ⟨p, 1, none⟩ = some (.map (some mb)) := (h.hp.cell 1).trans rfl
/-- a balance is written -/
theorem Pu.set (h : Pu p B mb n cap f l w) {a : Nat} (ha : a < n) (x : Int) (hi : Inv n (upF f a x) l) : Pu p B mb n cap (upF f a x) l (w.setCell ⟨B, a, none⟩ (.int .u64 x)) := by
  obtain ⟨cur, hr, hc⟩ := h.hB
  refine ⟨h.hp.far (p := ⟨B, a, none⟩) (Ne.symm h.ne.1) _, ⟨_, hr.set a _, fun i hi => ?_⟩, h.hm.far (p := ⟨B, a, none⟩) h.ne.2.2 _, h.ne, h.cap, hi⟩
  rw [Array.getElem?_setIfInBounds]
  by_cases e : a = i
  · subst e
    have hlt : a < cur.size := (Array.getElem?_eq_some_iff.1 (hc a ha)).1
    rw [if_pos rfl, if_pos hlt, upF_same]
  · rw [if_neg e, upF_ne f (fun e2 => e e2.symm)]; exact hc i hi
/-- the map is written -/
theorem Pu.map (h : Pu p B mb n cap f l w) (hm : IM KR mkR w' mb l') (hb : M.But mb w w') (hi : Inv n f l') : Pu p B mb n cap f l' w' := by
  obtain ⟨cur, hr, hc⟩ := h.hB
  exact ⟨hb.row h.hp h.ne.2.1, ⟨cur, hb.row hr h.ne.2.2, hc⟩, hm, h.ne, h.cap, hi⟩
end
section
variable {p B mb n cap : Nat} {f : Nat → Int} {l : Res} {w : World}
end
end Go.Proofs.YtdebnbgjgkbmaaaGreatDoor.Pu
-- fixed
namespace Go.Proofs.YtdebnbgjgkbmaaaGreatDoor.Pu
open Go.RowKit
set_option linter.unusedVariables false
section
variable {p B mb n cap : Nat} {f : Nat → Int} {l : Res} {w : World}
/-- a range over the reservations under way -/
structure RG (p B mb n cap : Nat) (f : Nat → Int) (l : Res) (q g : Nat) (w : World) (left : Res) (v : World) : Prop where
  ir : IR KR mkR v mb g l left
  bel : Below q w v
  sub : ∀ e ∈ left, e ∈ l
  ge : q ≤ g
theorem RG.next {q g : Nat} {left L1 L2 : Res} {e : Int × Int × Int} {v v' : World} (c : RG p B mb n cap f l q g w left v) (he : left = L1 ++ e :: L2) (hr : IR KR mkR v' mb g l (L1 ++ L2)) (hb : M.But g v v') (hq : q ≤ v.heap.size) : RG p B mb n cap f l q g w (L1 ++ L2) v' :=
  ⟨hr, hb.below c.bel c.ge hq, fun x hx => c.sub x (by rw [he]; rcases List.mem_append.1 hx with h | h <;> simp [h]), c.ge⟩
theorem RG.alloc {q g : Nat} {left : Res} {v : World} (c : RG p B mb n cap f l q g w left v) (hq : q ≤ v.heap.size) (o : Obj) : RG p B mb n cap f l q g w left (v.alloc o) :=
  ⟨c.ir.call ((Below.refl _ _).alloc (Nat.le_refl _) o), c.bel.alloc hq o, c.sub, c.ge⟩
end
end Go.Proofs.YtdebnbgjgkbmaaaGreatDoor.Pu
-- fixed
namespace Go.Proofs.YtdebnbgjgkbmaaaGreatDoor.Pu
open Go.RowKit
set_option linter.unusedVariables false
/-- a key: a channel and a number -/
abbrev Ky := Int × Int
def kv (x : Ky) : Value := .agg #[.int .u32 x.1, .int .u64 x.2]
def Ky.fit (x : Ky) : Prop := (0 ≤ x.1 ∧ x.1 ≤ 4294967295) ∧ 0 ≤ x.2 ∧ x.2 ≤ 18446744073709551615
theorem law61 : Maps.Keyed Tryz.prog 103 := Maps.Keyed.of_law (deep_law_laid RowK.laidOut (m := 3) (by omega) (of_decide_eq_true (by kernel_rfl)) (by kernel_rfl) (by rw [Tryz.underlying103]))
theorem keyOf61 (x : Ky) (h : x.fit) : ∃ l, Go.keyOf Tryz.prog 103 (kv x) = some l := by
  have hkt : Tryz.prog.keyType 103 = true := by kernel_rfl
  have hsz : ∃ m, Tryz.prog.types.size = m + 1 := ⟨Tryz.prog.types.size - 1, by have : 0 < Tryz.prog.types.size := of_decide_eq_true (by kernel_rfl); omega⟩
  obtain ⟨m, hm⟩ := hsz
  have c61 : Tryz.prog.cellsOf 103 = 2 := by kernel_rfl
  have c22 : Tryz.prog.cellsOf 40 = 1 := by kernel_rfl
  have c23 : Tryz.prog.cellsOf 27 = 1 := by kernel_rfl
  have w1 : (Lit.int .u32 x.1).wf = true := by simp [Lit.wf, IntKind.min, IntKind.max, IntKind.signed, IntKind.bits]; have := h.1; omega
  have w2 : (Lit.int .u64 x.2).wf = true := by simp [Lit.wf, IntKind.min, IntKind.max, IntKind.signed, IntKind.bits]; have := h.2; omega
  refine ⟨.string (Go.keyBytes [.int .u32 x.1, .int .u64 x.2]), ?_⟩
  unfold Go.keyOf kv
  simp only [Tryz.underlying103]
  rw [if_pos (by simp [hkt, Value.formed, Tryz.underlying103, c61]), hm]
  unfold Program.keyLits
  simp only [Tryz.underlying103, Value.cells]
  rw [if_pos ⟨by rw [c61]; rfl, by kernel_rfl⟩]
  simp [Program.keyLits, Tryz.underlying40, Tryz.underlying27, c22, c23, w1, w2]
def KK : KT Tryz.prog 103 Ky := ⟨kv, Ky.fit, law61, keyOf61, fun i j h => by
  unfold kv at h
  injection h with h
  have h0 := congrArg (fun a : Array Value => a[0]?) h
  have h1 := congrArg (fun a : Array Value => a[1]?) h
  simp at h0 h1
  exact Prod.ext h0 h1⟩
def mkC (x : List Value) : Value := .agg x.toArray
/-- the map: its own block and the two maps in it -/
structure Cm (m i o : Nat) (base rate : Int) (li : List (Ky × List Value)) (lo : List (Ky × Ky)) (w : World) : Prop where
  hp : M.RowAt w m 241 #[.int .u64 base, .int .u64 rate, .map (some i), .map (some o)]
  hi : IM KK mkC w i li
  ho : IM KK kv w o lo
  ne : m ≠ i ∧ m ≠ o ∧ i ≠ o
section
variable {m i o : Nat} {base rate : Int} {li : List (Ky × List Value)} {lo : List (Ky × Ky)} {w w' : World}
theorem Cm.bt {s : List Nat} (h : Cm m i o base rate li lo w) (hb : Bt s w w') (h1 : m ∉ s) (h2 : i ∉ s) (h3 : o ∉ s) : Cm m i o base rate li lo w' :=
  ⟨hb.row h.hp h1, h.hi.of (hb.block i h.hi.lt h2), h.ho.of (hb.block o h.ho.lt h3), h.ne⟩
theorem Cm.same (h : Cm m i o base rate li lo w) (hb : Below w.heap.size w w') : Cm m i o base rate li lo w' := h.bt (s := []) (.ofBelow _ hb) (by simp) (by simp) (by simp)
theorem Cm.drew (h : Cm m i o base rate li lo w) : Cm m i o base rate li lo w.drew := ⟨h.hp, h.hi, h.ho, h.ne⟩
theorem Cm.c (h : Cm m i o base rate li lo w) : w.cell? ⟨m, 0, none⟩ = some (.int .u64 base) ∧ w.cell? ⟨m, 1, none⟩ = some (.int .u64 rate) ∧ w.cell? ⟨m, 2, none⟩ = some (.map (some i)) ∧ w.cell? ⟨m, 3, none⟩ = some (.map (some o)) :=
  ⟨(h.hp.cell 0).trans rfl, (h.hp.cell 1).trans rfl, (h.hp.cell 2).trans rfl, (h.hp.cell 3).trans rfl⟩
end
set_option maxRecDepth 100000 in
theorem cnew_any (base rate : Int) (w : World) : Calls Tryz.prog 45 #[.int .u64 base, .int .u64 rate] w fun e w' => ∃ m i o, e = .returned (.pointer (some ⟨m, 0, none⟩)) ∧ Cm m i o base rate [] [] w' ∧ Below w.heap.size w w' ∧ w.heap.size ≤ m ∧ w.heap.size ≤ i ∧ w.heap.size ≤ o := by
  have hmm := @run_makeMap Tryz.prog
  go_enter Tryz.func45, Tryz.ntmps45
  go_wp2
  go_ret
  have e1 : (w.alloc (.map #[] 0)).heap.size = w.heap.size + 1 := by simp
  have r := M.RowAt.new ((w.alloc (.map #[] 0)).alloc (.map #[] 0)) 241 #[.int .u64 base, .int .u64 rate, .map (some w.heap.size), .map (some (w.heap.size + 1))]
  have o := IM.new KK kv (w.alloc (.map #[] 0))
  rw [e1] at o
  have e2 : ((w.alloc (.map #[] 0)).alloc (.map #[] 0)).heap.size = w.heap.size + 1 + 1 := by simp
  rw [e2] at r
  exact ⟨w.heap.size + 1 + 1, w.heap.size, w.heap.size + 1, rfl, ⟨r, ((IM.new KK mkC w).alloc _).alloc _, o.alloc _, by omega, by omega, by omega⟩, (((Below.refl _ w).alloc (Nat.le_refl _) _).alloc (by simp) _).alloc (by simp; omega) _, by omega, by omega, by omega⟩
end Go.Proofs.YtdebnbgjgkbmaaaGreatDoor.Pu
-- fixed
namespace Go.Proofs.YtdebnbgjgkbmaaaGreatDoor
namespace Hs
open Go.RowKit
set_option linter.unusedVariables false
def hv (l : List Int) : Value := .agg (Oc.ints l).toArray
def hok (l : List Int) : Prop := l.length = 32 ∧ ∀ x ∈ l, 0 ≤ x ∧ x ≤ 255
def hl (F : Nat → Nat) : List Int := (List.range 32).map fun i => (F i : Int)
theorem hl_ok {F : Nat → Nat} (h : ∀ i, F i < 256) : hok (hl F) := by
  refine ⟨by simp [hl], fun x hx => ?_⟩
  obtain ⟨i, _, rfl⟩ := List.mem_map.1 hx
  have := h i
  omega
theorem hl_v (F : Nat → Nat) : hv (hl F) = .agg (r8 32 F) := by
  unfold hv
  congr 1
set_option maxRecDepth 100000 in
theorem law47 : Maps.Keyed Tryz.prog 47 := Maps.Keyed.of_law (deep_law_laid RowK.laidOut (m := 3) (by omega) (of_decide_eq_true (by kernel_rfl)) (by kernel_rfl) (by rw [Tryz.underlying47]))
set_option maxRecDepth 100000 in
theorem keyOf47 (l : List Int) (h : hok l) : ∃ q, Go.keyOf Tryz.prog 47 (hv l) = some q := by
  have hkt : Tryz.prog.keyType 47 = true := by kernel_rfl
  have hsz : ∃ m, Tryz.prog.types.size = m + 2 := ⟨Tryz.prog.types.size - 2, by have : 1 < Tryz.prog.types.size := of_decide_eq_true (by kernel_rfl); omega⟩
  obtain ⟨m, hm⟩ := hsz
  have hl := Wi.hash_lits (m + 1) l h.1 h.2
  have hc : Tryz.prog.cellsOf 47 = 32 := by kernel_rfl
  have hlen : (Oc.ints l).length = 32 := by unfold Oc.ints; rw [List.length_map]; exact h.1
  refine ⟨.string (Go.keyBytes (Wi.hlits l)), ?_⟩
  unfold Go.keyOf hv
  simp only [Tryz.underlying47]
  rw [if_pos (by simp [hkt, Value.formed, Tryz.underlying47, hc, hlen]), hm]
  simp only [Value.cells]
  rw [hl]; rfl
theorem hv_inj (i j : List Int) (h : hv i = hv j) : i = j := by
  unfold hv at h
  injection h with h
  have h2 := congrArg Array.toList h
  simp only [Oc.ints] at h2
  exact List.map_inj_right (fun a b e => by injection e) |>.1 h2
def hKT : KT Tryz.prog 47 (List Int) := ⟨hv, hok, law47, keyOf47, hv_inj⟩
abbrev Inv := List (List Int × List Int)
/-- a relay: its row and its invoices -/
structure Rl (R mi : Nat) (C : Array Value) (l : Inv) (v : World) : Prop where
  row : M.RowAt v R 197 C
  hC : C[2]? = some (.map (some mi))
  im : IM hKT hv v mi l
  ne : R ≠ mi
  vs : ∀ p ∈ l, p.2.length = 32
section
variable {R mi : Nat} {C : Array Value} {l : Inv} {w v v' : World}
theorem Rl.same (h : Rl R mi C l v) (hb : Below v.heap.size v v') : Rl R mi C l v' := ⟨h.row.call hb, h.hC, h.im.call hb, h.ne, h.vs⟩
set_option maxRecDepth 100000 in
set_option maxHeartbeats 4000000 in
theorem new_any (w : World) : Calls Tryz.prog 22 #[.int .u64 0, .int .u64 0] w fun e w' => ∃ R mi C, e = .returned (.pointer (some ⟨R, 0, none⟩)) ∧ Rl R mi C [] w' ∧ Below w.heap.size w w' ∧ w.heap.size ≤ R ∧ w.heap.size ≤ mi := by
  have hmm := @run_makeMap Tryz.prog
  obtain ⟨n, hn⟩ : ∃ n, w.heap.size = n := ⟨_, rfl⟩
  have HN := Lib.hid hn
  have CN := Lib.hid (Pu.cnew_any 0 0 w)
  clear hn
  go_enter Tryz.func22, Tryz.ntmps22
  go_wp2_with fail
  refine (CN.out).mono ?_
  rintro e w1 ⟨m, i, o, rfl, _, b1, _, _, _⟩
  rw [HN.out] at b1
  obtain ⟨q, hq⟩ : ∃ q, w1.heap.size = q := ⟨_, rfl⟩
  have HQ := Lib.hid hq
  have B1 := Lib.hid b1
  clear hq b1
  go_wp2
  go_ret
  have hnq : n ≤ q := by have := B1.out.size; have := HQ.out; have := HN.out; omega
  have s1 : (w1.alloc (.map #[] 0)).heap.size = q + 1 := by rw [World.size_alloc, HQ.out]
  have s2 : ((w1.alloc (.map #[] 0)).alloc (.map #[] 0)).heap.size = q + 2 := by rw [World.size_alloc, s1]
  have s3 : (((w1.alloc (.map #[] 0)).alloc (.map #[] 0)).alloc (.map #[] 0)).heap.size = q + 3 := by rw [World.size_alloc, s2]
  have s4 : ((((w1.alloc (.map #[] 0)).alloc (.map #[] 0)).alloc (.map #[] 0)).alloc (.map #[] 0)).heap.size = q + 4 := by rw [World.size_alloc, s3]
  have m0 := IM.new hKT hv w1
  rw [HQ.out] at m0
  have r := M.RowAt.new ((((w1.alloc (.map #[] 0)).alloc (.map #[] 0)).alloc (.map #[] 0)).alloc (.map #[] 0)) 197 #[.pointer (some ⟨m, 0, none⟩), .slice none 0 0, .map (some q), .map (some (q + 1)), .map (some (q + 2)), .map (some (q + 3)), .bool false]
  rw [s4] at r
  have bb := (((B1.out.alloc (by rw [HQ.out]; omega) (.map #[] 0)).alloc (by omega) (.map #[] 0)).alloc (by omega) (.map #[] 0)).alloc (by omega) (.map #[] 0)
  have bb2 := bb.alloc (by omega) (.cells #[.pointer (some ⟨m, 0, none⟩), .slice none 0 0, .map (some q), .map (some (q + 1)), .map (some (q + 2)), .map (some (q + 3)), .bool false] 197)
  simp only [HQ.out, HN.out]
  exact ⟨q + 4, q, _, rfl, ⟨r, rfl, ((((m0.alloc _).alloc _).alloc _).alloc _), by omega, fun p hp => by cases hp⟩, bb2, by omega, hnq⟩
theorem zero47 (w : World) : (zeroValue 47).run Tryz.prog w = .ok (.agg Z32) w := by kernel_rfl
theorem Rl.cell (h : Rl R mi C l v) : v.cell? ⟨R, 2, none⟩ = some (.map (some mi)) := (h.row.cell 2).trans h.hC
def got (l : Inv) (k : List Int) : Value := match getM l k with | some x => hv x | none => .agg Z32
theorem Rl.look (h : Rl R mi C l v) {k : List Int} (hk : hok k) : (Instr.lookup 192 (.map (some mi)) (hv k) true).run Tryz.prog v = .ok (.tuple #[got l k, .bool (getM l k).isSome]) v := by
  have := h.im.look Tryz.underlying192 (zero47 v) hk
  unfold got
  show (Instr.lookup 192 (.map (some mi)) (hKT.kv k) true).run Tryz.prog v = _
  rw [this]
  cases getM l k <;> rfl
theorem Rl.but (h : Rl R mi C l v) {l' : Inv} (hb : M.But mi v v') (hi : IM hKT hv v' mi l') (hs : ∀ p ∈ l', p.2.length = 32) : Rl R mi C l' v' := ⟨hb.row h.row h.ne, h.hC, hi, h.ne, hs⟩
theorem ints_one (x : List Int) : (Oc.ints x).toArray.all (·.oneCell') = true := by
  rw [Array.all_eq_true']
  intro u hu
  unfold Oc.ints at hu
  rw [List.mem_toArray] at hu
  obtain ⟨z, _, rfl⟩ := List.mem_map.1 hu
  rfl
theorem put_len {l : Inv} (h : ∀ p ∈ l, p.2.length = 32) (k x : List Int) (hx : x.length = 32) : ∀ p ∈ putM l k x, p.2.length = 32 := by
  induction l with
  | nil => intro p hp; unfold putM at hp; rw [List.mem_singleton] at hp; subst hp; exact hx
  | cons q r ih =>
    intro p hp
    unfold putM at hp
    split at hp
    · rcases List.mem_cons.1 hp with rfl | hp
      · exact hx
      · exact h p (List.mem_cons_of_mem _ hp)
    · rcases List.mem_cons.1 hp with rfl | hp
      · exact h _ List.mem_cons_self
      · exact ih (fun p hp => h p (List.mem_cons_of_mem _ hp)) p hp
theorem info47 (D : Array Value) (h : D.size = 32) : (Tryz.prog.info? 47).map (·.size) = some D.size := by rw [h]; kernel_rfl
set_option maxRecDepth 100000 in
set_option maxHeartbeats 8000000 in
theorem inv_yes (F : Nat → Nat) (hF : ∀ i, F i < 256) (h : Rl R mi C l w) (ht : Tabs w) {x : List Int} (hg : getM l (hl (ofH F)) = some x) :
    Calls Tryz.prog 23 #[.pointer (some ⟨R, 0, none⟩), .agg (r8 32 F)] w fun e w' => e = .returned (.tuple #[.agg Z32, .int .i64 4]) ∧ Rl R mi C l w' ∧ Below w.heap.size w w' := by
  obtain ⟨n, hn⟩ : ∃ n, w.heap.size = n := ⟨_, rfl⟩
  have h1n : 4 < n := hn ▸ ht.lt
  have hRn : R < n := hn ▸ h.row.lt
  have hmn : mi < n := hn ▸ h.im.lt
  have ra := (M.RowAt.new w 47 (r8 32 F)).alloc (.cells Z32 47)
  have rb := M.RowAt.new (w.alloc (.cells (r8 32 F) 47)) 47 Z32
  rw [World.size_alloc, hn] at rb
  rw [hn] at ra
  obtain ⟨V, hV⟩ : ∃ V, (w.alloc (.cells (r8 32 F) 47)).alloc (.cells Z32 47) = V := ⟨_, rfl⟩
  have bV : Below n w V := by rw [← hV]; subst hn; exact ((Below.refl _ _).alloc (Nat.le_refl _) _).alloc (by simp) _
  have hV' : (w.alloc (.cells (r8 32 F) 47)).alloc (.cells #[.int .u8 0, .int .u8 0, .int .u8 0, .int .u8 0, .int .u8 0, .int .u8 0, .int .u8 0, .int .u8 0, .int .u8 0, .int .u8 0, .int .u8 0, .int .u8 0, .int .u8 0, .int .u8 0, .int .u8 0, .int .u8 0, .int .u8 0, .int .u8 0, .int .u8 0, .int .u8 0, .int .u8 0, .int .u8 0, .int .u8 0, .int .u8 0, .int .u8 0, .int .u8 0, .int .u8 0, .int .u8 0, .int .u8 0, .int .u8 0, .int .u8 0, .int .u8 0] 47) = V := hV
  have s1 : (w.alloc (.cells (r8 32 F) 47)).heap.size = n + 1 := by rw [World.size_alloc, hn]
  rw [hV] at ra rb
  have hR := h.same (bV.mono (Nat.le_of_eq hn))
  have OF := Lib.hid (of_any F V (ht.below bV h1n))
  have hok1 := hl_ok (ofH_lt F)
  have hvk := hl_v (ofH F)
  have hvf := hl_v F
  have hkfl : (hl F).length = 32 := (hl_ok hF).1
  have iD := r8_info (ofH F); have zD := r8_zero (ofH F); have oD := r8_one (ofH F)
  have iF := r8_info F
  generalize hl (ofH F) = k at *
  generalize hl F = kf at *
  generalize r8 32 (ofH F) = H at *
  generalize r8 32 F = FR at *
  have HV := Lib.hid hV'; have HS := Lib.hid s1; have HN := Lib.hid hn; have RA := Lib.hid ra; have RB := Lib.hid rb; have HR := Lib.hid hR; have BV := Lib.hid bV
  clear hV hV' s1 ra rb hR bV h ht hn
  go_enter Tryz.func23, Tryz.ntmps23
  have raV : V.heap[n]? = some (.cells FR 47 (0, 0)) := RA.out
  go_wp2_with (first | (rw [HN.out, HS.out, HV.out]) | (rw [HN.out, HV.out]) | (refine wpList_load_row (x := .tmp 3) (ty := 47) (g := n) (cs := FR) (t := 47) (fr := (0, 0)) ?_ ?_ ?_ _ raV Tryz.underlying47 rfl iF ?_; rfl; rfl; rfl) | fail)
  refine (OF.out).mono ?_
  rintro e w1 ⟨rfl, g1⟩
  have ra1 := RA.out.call g1
  have rb1 := RB.out.call g1
  have hr1 := HR.out.same g1
  have bl1 := BV.out.trans (g1.mono (by have := RB.out.lt; omega))
  obtain ⟨g, hg⟩ : ∃ g, w1.heap.size = g := ⟨_, rfl⟩
  have hgn : n + 1 < g := by rw [← hg]; exact rb1.lt
  obtain ⟨V3, hV3⟩ : ∃ V3, w1.alloc (.cells Z32 47) = V3 := ⟨_, rfl⟩
  have hV3' : w1.alloc (.cells #[.int .u8 0, .int .u8 0, .int .u8 0, .int .u8 0, .int .u8 0, .int .u8 0, .int .u8 0, .int .u8 0, .int .u8 0, .int .u8 0, .int .u8 0, .int .u8 0, .int .u8 0, .int .u8 0, .int .u8 0, .int .u8 0, .int .u8 0, .int .u8 0, .int .u8 0, .int .u8 0, .int .u8 0, .int .u8 0, .int .u8 0, .int .u8 0, .int .u8 0, .int .u8 0, .int .u8 0, .int .u8 0, .int .u8 0, .int .u8 0, .int .u8 0, .int .u8 0] 47) = V3 := hV3
  obtain ⟨V4, hV4⟩ : ∃ V4, V3.setRow g H = V4 := ⟨_, rfl⟩
  have b3 : Below g w1 V3 := by rw [← hV3, ← hg]; exact (Below.refl _ _).alloc (Nat.le_refl _) _
  have r3 : M.RowAt V3 g 47 Z32 := by rw [← hV3, ← hg]; exact M.RowAt.new w1 47 Z32
  have b4 : Below g w1 V4 := by rw [← hV4]; exact M.below_setRow b3 (Nat.le_refl _)
  have r4 : M.RowAt V4 g 47 H := by rw [← hV4]; exact r3.setRow H
  have ra4 := ra1.below b4 (by omega)
  have rb4 := rb1.below b4 (by omega)
  have hr4 := hr1.same (hg ▸ b4)
  have bl4 : Below n w V4 := bl1.trans (b4.mono (by omega))
  have HG := Lib.hid hg; have HV3 := Lib.hid hV3'; have HV4 := Lib.hid hV4; have R4 := Lib.hid r4; have RA4 := Lib.hid ra4; have RB4 := Lib.hid rb4; have HR4 := Lib.hid hr4; have BL4 := Lib.hid bl4
  unfold M.RowAt at r3
  clear g1 ra1 rb1 hr1 bl1 hg hV3 hV3' hV4 b3 b4 r4 ra4 rb4 hr4 bl4 raV RA RB HR BV HV HS OF
  go_wp2_with (first | (rw [HG.out, HV3.out]) | (refine wpList_store_row (x := .tmp 6) (y := .tmp 10) (cells := H) (old := Z32) (t := 47) (ty := 47) (g := g) ?_ ?_ ?_ ?_ r3 iD zD oD ?_; rfl; rfl; rfl; rfl; rw [HV4.out]) | fail)
  go_wp2
  have hgot : got l k = .agg (Oc.ints x).toArray := by unfold got; rw [hg]; rfl
  have hxl : (Oc.ints x).toArray.size = 32 := by
    rw [List.size_toArray]; unfold Oc.ints; rw [List.length_map]; exact HR4.out.vs _ (getM_mem hg)
  have iE := info47 _ hxl
  have zE : Z32.size = (Oc.ints x).toArray.size := by rw [hxl]; rfl
  have oE := ints_one x
  generalize (Oc.ints x).toArray = E at *
  have isS : (getM l k).isSome = true := by rw [hg]; rfl
  refine QC.wp_region_d [9, 10] [0, 1, 2, 3, 4, 5, 6, 7, 8, 9, 10, 11] (by kernel_rfl) (by kernel_rfl) (fun u d => ?_)
  have hru := HR4.out.same (d.below (n := V4.heap.size))
  have c2 := hru.cell
  have ru := M.RowAt.call R4.out (d.below (n := V4.heap.size))
  have lu := hru.look hok1
  rw [hgot, isS, hvk] at lu
  obtain ⟨g2, hg2⟩ : ∃ g2, u.heap.size = g2 := ⟨_, rfl⟩
  obtain ⟨V5, hV5⟩ : ∃ V5, u.alloc (.cells Z32 47) = V5 := ⟨_, rfl⟩
  have hV5' : u.alloc (.cells #[.int .u8 0, .int .u8 0, .int .u8 0, .int .u8 0, .int .u8 0, .int .u8 0, .int .u8 0, .int .u8 0, .int .u8 0, .int .u8 0, .int .u8 0, .int .u8 0, .int .u8 0, .int .u8 0, .int .u8 0, .int .u8 0, .int .u8 0, .int .u8 0, .int .u8 0, .int .u8 0, .int .u8 0, .int .u8 0, .int .u8 0, .int .u8 0, .int .u8 0, .int .u8 0, .int .u8 0, .int .u8 0, .int .u8 0, .int .u8 0, .int .u8 0, .int .u8 0] 47) = V5 := hV5
  have b5 : Below u.heap.size u V5 := by rw [← hV5]; exact (Below.refl _ _).alloc (Nat.le_refl _) _
  have r5 : M.RowAt V5 g2 47 Z32 := by rw [← hV5, ← hg2]; exact M.RowAt.new u 47 Z32
  have hr5 := hru.same b5
  have c25 := hr5.cell
  have rh5 := ru.call b5
  have lu5 := hr5.look hok1
  rw [hgot, isS, hvk] at lu5
  obtain ⟨V6, hV6⟩ : ∃ V6, V5.setRow g2 E = V6 := ⟨_, rfl⟩
  have hg2n : g < g2 := by rw [← hg2]; exact ru.lt
  have b6 : Below g2 u V6 := by rw [← hV6]; exact M.below_setRow (hg2 ▸ b5) (Nat.le_refl _)
  have hr6 := hru.same (hg2 ▸ b6)
  have rh6 := ru.below b6 (by omega)
  have bl6 : Below n w V6 := (BL4.out.trans (d.below (n := n))).trans (b6.mono (by omega))
  have ra6 : M.RowAt V6 n 47 FR := (M.RowAt.call RA4.out (d.below (n := V4.heap.size))).below b6 (by omega)
  have rb6 : M.RowAt V6 (n + 1) 47 Z32 := (M.RowAt.call RB4.out (d.below (n := V4.heap.size))).below b6 (by omega)
  have HG2 := Lib.hid hg2; have HV5 := Lib.hid hV5'; have HV6 := Lib.hid hV6; have HR6 := Lib.hid hr6; have RH6 := Lib.hid rh6; have BL6 := Lib.hid bl6; have RA6 := Lib.hid ra6; have RB6 := Lib.hid rb6
  unfold M.RowAt at r5
  clear hru hg2 hV5 hV5' hV6 b5 hr5 b6 hr6 rh6 bl6 ra6 rb6 hgot isS d
  iterate 4
    (first
     | (apply QC.wpC_load
        (focus rfl)
        (focus decide)
        (focus rfl)
        (focus rfl)
        (focus rfl)
        (focus (assumption))
        (focus (intro u hu; go_simp))
        intro K hK
        go_simp
        refine hK _ ?_
        clear hK K)
     | (apply QC.wpC_pure
        (focus rfl)
        (focus decide)
        intro K hK
        go_simp
        first
         | (refine hK _ ?_; clear hK K)
         | (apply Exists.intro
            refine ⟨fun u => ?_, hK _ ?_⟩
            (focus (unfold QP.oat; go_simp; first | done | exact ⟨rfl, rfl⟩ | exact rfl))
            clear hK K)))
  refine QC.wpC_rest (fun u => M.RowAt u g 47 H) (.agg H) rfl (by decide) rfl ru ?_ ?_
  · intro x hx
    exact QP.oat_load_row (ty := 47) (x := .tmp 6) rfl (g := g) rfl (t := 47) (cs := H) (fr := (0, 0)) _ hx Tryz.underlying47 rfl iD rfl
  refine QC.wpC_rest (fun u => (Instr.lookup 192 (.map (some mi)) (.agg H) true).run Tryz.prog u = .ok (.tuple #[.agg E, .bool true]) u) (.tuple #[.agg E, .bool true]) rfl (by decide) rfl lu ?_ ?_
  · intro u hu; unfold QP.oat; go_simp
  try go_simp
  iterate 3
    (first
     | (apply QC.wpC_load
        (focus rfl)
        (focus decide)
        (focus rfl)
        (focus rfl)
        (focus rfl)
        (focus (assumption))
        (focus (intro u hu; go_simp))
        intro K hK
        go_simp
        refine hK _ ?_
        clear hK K)
     | (apply QC.wpC_pure
        (focus rfl)
        (focus decide)
        intro K hK
        go_simp
        first
         | (refine hK _ ?_; clear hK K)
         | (apply Exists.intro
            refine ⟨fun u => ?_, hK _ ?_⟩
            (focus (unfold QP.oat; go_simp; first | done | exact ⟨rfl, rfl⟩ | exact rfl))
            clear hK K)))
  apply QC.wpC_eff
  (focus rfl)
  (focus decide)
  go_wp2
  rw [HG2.out, HV5.out]
  refine QC.eff_ok rfl ?_ ?_
  · (repeat (first | exact QC.obl_nil | refine QC.obl_is (by assumption) ?_ | (apply QC.obl_dep; (focus decide))))
  apply QC.wpC_eff
  (focus rfl)
  (focus decide)
  go_wp2_with (first | (refine wpList_store_row (x := .tmp 7) (y := .tmp 18) (cells := E) (old := Z32) (t := 47) (ty := 47) (g := g2) ?_ ?_ ?_ ?_ r5 iE zE oE ?_; rfl; rfl; rfl; rfl; rw [HV6.out]) | fail)
  refine QC.eff_ok rfl ?_ ?_
  · (repeat (first | exact QC.obl_nil | refine QC.obl_is (by assumption) ?_ | (apply QC.obl_dep; (focus decide))))
  iterate 1
    (first
     | (apply QC.wpC_load
        (focus rfl)
        (focus decide)
        (focus rfl)
        (focus rfl)
        (focus rfl)
        (focus (assumption))
        (focus (intro u hu; go_simp))
        intro K hK
        go_simp
        refine hK _ ?_
        clear hK K)
     | (apply QC.wpC_pure
        (focus rfl)
        (focus decide)
        intro K hK
        go_simp
        first
         | (refine hK _ ?_; clear hK K)
         | (apply Exists.intro
            refine ⟨fun u => ?_, hK _ ?_⟩
            (focus (unfold QP.oat; go_simp; first | done | exact ⟨rfl, rfl⟩ | exact rfl))
            clear hK K)))
  refine QC.wpC_nil ?_
  clear c2 ru lu r5 c25 rh5 lu5
  have rb6 : V6.heap[n + 1]? = some (.cells Z32 47 (0, 0)) := RB6.out
  have ra6 : V6.heap[n]? = some (.cells FR 47 (0, 0)) := RA6.out
  have rh6 : V6.heap[g]? = some (.cells H 47 (0, 0)) := RH6.out
  have iZ := info47 Z32 rfl
  have oZ : Z32.all (·.oneCell') = true := by kernel_rfl
  obtain ⟨V7, hV7⟩ : ∃ V7, V6.setRow (n + 1) Z32 = V7 := ⟨_, rfl⟩
  have HV7 := Lib.hid hV7
  clear hV7
  go_wp2_with (first | (refine wpList_store_row (x := .tmp 4) (y := .tmp 21) (cells := Z32) (old := Z32) (t := 47) (ty := 47) (g := n + 1) ?_ ?_ ?_ ?_ rb6 iZ rfl oZ ?_; rfl; rfl; rfl; rfl; rw [HV7.out]) | fail)
  have b7 : Below n w V7 := by rw [← HV7.out]; exact M.below_setRow BL6.out (by omega)
  have r7 : Rl R mi C l V7 := by
    rw [← HV7.out]
    exact ⟨HR6.out.row.farRow (by omega) _, HR6.out.hC, HR6.out.im.farRow (by omega) _, HR6.out.ne, HR6.out.vs⟩
  have q7 : M.RowAt V7 (n + 1) 47 Z32 := by rw [← HV7.out]; exact M.RowAt.setRow RB6.out Z32
  have hload := run_loadVar_row (P := Tryz.prog) _ (n + 1) 47 47 Z32 (0, 0) _ q7 u28 rfl iZ
  refine bodyPost_ret (v := .tuple #[.agg Z32, .int .i64 4]) (by simp [results, Tryz.results23, asAddr, hload]) rfl ⟨rfl, r7, ?_⟩
  rw [HN.out]; exact b7
set_option maxRecDepth 100000 in
set_option maxHeartbeats 8000000 in
theorem inv_no (F : Nat → Nat) (hF : ∀ i, F i < 256) (h : Rl R mi C l w) (ht : Tabs w) (hg : getM l (hl (ofH F)) = none) :
    Calls Tryz.prog 23 #[.pointer (some ⟨R, 0, none⟩), .agg (r8 32 F)] w fun e w' => e = .returned (.tuple #[.agg (r8 32 (ofH F)), .int .i64 0]) ∧ Rl R mi C (putM l (hl (ofH F)) (hl F)) w' ∧ M.But mi w w' := by
  obtain ⟨n, hn⟩ : ∃ n, w.heap.size = n := ⟨_, rfl⟩
  have h1n : 4 < n := hn ▸ ht.lt
  have hRn : R < n := hn ▸ h.row.lt
  have hmn : mi < n := hn ▸ h.im.lt
  have ra := (M.RowAt.new w 47 (r8 32 F)).alloc (.cells Z32 47)
  have rb := M.RowAt.new (w.alloc (.cells (r8 32 F) 47)) 47 Z32
  rw [World.size_alloc, hn] at rb
  rw [hn] at ra
  obtain ⟨V, hV⟩ : ∃ V, (w.alloc (.cells (r8 32 F) 47)).alloc (.cells Z32 47) = V := ⟨_, rfl⟩
  have bV : Below n w V := by rw [← hV]; subst hn; exact ((Below.refl _ _).alloc (Nat.le_refl _) _).alloc (by simp) _
  have hV' : (w.alloc (.cells (r8 32 F) 47)).alloc (.cells #[.int .u8 0, .int .u8 0, .int .u8 0, .int .u8 0, .int .u8 0, .int .u8 0, .int .u8 0, .int .u8 0, .int .u8 0, .int .u8 0, .int .u8 0, .int .u8 0, .int .u8 0, .int .u8 0, .int .u8 0, .int .u8 0, .int .u8 0, .int .u8 0, .int .u8 0, .int .u8 0, .int .u8 0, .int .u8 0, .int .u8 0, .int .u8 0, .int .u8 0, .int .u8 0, .int .u8 0, .int .u8 0, .int .u8 0, .int .u8 0, .int .u8 0, .int .u8 0] 47) = V := hV
  have s1 : (w.alloc (.cells (r8 32 F) 47)).heap.size = n + 1 := by rw [World.size_alloc, hn]
  rw [hV] at ra rb
  have hR := h.same (bV.mono (Nat.le_of_eq hn))
  have OF := Lib.hid (of_any F V (ht.below bV h1n))
  have hok1 := hl_ok (ofH_lt F)
  have hvk := hl_v (ofH F)
  have hvf := hl_v F
  have hkfl : (hl F).length = 32 := (hl_ok hF).1
  have iD := r8_info (ofH F); have zD := r8_zero (ofH F); have oD := r8_one (ofH F)
  have iF := r8_info F
  generalize hl (ofH F) = k at *
  generalize hl F = kf at *
  generalize r8 32 (ofH F) = H at *
  generalize r8 32 F = FR at *
  have HV := Lib.hid hV'; have HS := Lib.hid s1; have HN := Lib.hid hn; have RA := Lib.hid ra; have RB := Lib.hid rb; have HR := Lib.hid hR; have BV := Lib.hid bV
  clear hV hV' s1 ra rb hR bV h ht hn
  go_enter Tryz.func23, Tryz.ntmps23
  have raV : V.heap[n]? = some (.cells FR 47 (0, 0)) := RA.out
  go_wp2_with (first | (rw [HN.out, HS.out, HV.out]) | (rw [HN.out, HV.out]) | (refine wpList_load_row (x := .tmp 3) (ty := 47) (g := n) (cs := FR) (t := 47) (fr := (0, 0)) ?_ ?_ ?_ _ raV Tryz.underlying47 rfl iF ?_; rfl; rfl; rfl) | fail)
  refine (OF.out).mono ?_
  rintro e w1 ⟨rfl, g1⟩
  have ra1 := RA.out.call g1
  have rb1 := RB.out.call g1
  have hr1 := HR.out.same g1
  have bl1 := BV.out.trans (g1.mono (by have := RB.out.lt; omega))
  obtain ⟨g, hg⟩ : ∃ g, w1.heap.size = g := ⟨_, rfl⟩
  have hgn : n + 1 < g := by rw [← hg]; exact rb1.lt
  obtain ⟨V3, hV3⟩ : ∃ V3, w1.alloc (.cells Z32 47) = V3 := ⟨_, rfl⟩
  have hV3' : w1.alloc (.cells #[.int .u8 0, .int .u8 0, .int .u8 0, .int .u8 0, .int .u8 0, .int .u8 0, .int .u8 0, .int .u8 0, .int .u8 0, .int .u8 0, .int .u8 0, .int .u8 0, .int .u8 0, .int .u8 0, .int .u8 0, .int .u8 0, .int .u8 0, .int .u8 0, .int .u8 0, .int .u8 0, .int .u8 0, .int .u8 0, .int .u8 0, .int .u8 0, .int .u8 0, .int .u8 0, .int .u8 0, .int .u8 0, .int .u8 0, .int .u8 0, .int .u8 0, .int .u8 0] 47) = V3 := hV3
  obtain ⟨V4, hV4⟩ : ∃ V4, V3.setRow g H = V4 := ⟨_, rfl⟩
  have b3 : Below g w1 V3 := by rw [← hV3, ← hg]; exact (Below.refl _ _).alloc (Nat.le_refl _) _
  have r3 : M.RowAt V3 g 47 Z32 := by rw [← hV3, ← hg]; exact M.RowAt.new w1 47 Z32
  have b4 : Below g w1 V4 := by rw [← hV4]; exact M.below_setRow b3 (Nat.le_refl _)
  have r4 : M.RowAt V4 g 47 H := by rw [← hV4]; exact r3.setRow H
  have ra4 := ra1.below b4 (by omega)
  have rb4 := rb1.below b4 (by omega)
  have hr4 := hr1.same (hg ▸ b4)
  have bl4 : Below n w V4 := bl1.trans (b4.mono (by omega))
  have HG := Lib.hid hg; have HV3 := Lib.hid hV3'; have HV4 := Lib.hid hV4; have R4 := Lib.hid r4; have RA4 := Lib.hid ra4; have RB4 := Lib.hid rb4; have HR4 := Lib.hid hr4; have BL4 := Lib.hid bl4
  unfold M.RowAt at r3
  clear g1 ra1 rb1 hr1 bl1 hg hV3 hV3' hV4 b3 b4 r4 ra4 rb4 hr4 bl4 raV RA RB HR BV HV HS OF
  go_wp2_with (first | (rw [HG.out, HV3.out]) | (refine wpList_store_row (x := .tmp 6) (y := .tmp 10) (cells := H) (old := Z32) (t := 47) (ty := 47) (g := g) ?_ ?_ ?_ ?_ r3 iD zD oD ?_; rfl; rfl; rfl; rfl; rw [HV4.out]) | fail)
  go_wp2
  have hgot : got l k = .agg Z32 := by unfold got; rw [hg]
  have iE := info47 Z32 rfl
  have oE : Z32.all (·.oneCell') = true := by kernel_rfl
  obtain ⟨E, hE⟩ : ∃ E, Z32 = E := ⟨_, rfl⟩
  rw [hE] at hgot iE oE
  have zE : Z32.size = E.size := by rw [hE]
  clear hE
  have isS : (getM l k).isSome = false := by rw [hg]; rfl
  refine QC.wp_region_d [9, 10] [0, 1, 2, 3, 4, 5, 6, 7, 8, 9, 10, 11] (by kernel_rfl) (by kernel_rfl) (fun u d => ?_)
  have hru := HR4.out.same (d.below (n := V4.heap.size))
  have c2 := hru.cell
  have ru := M.RowAt.call R4.out (d.below (n := V4.heap.size))
  have lu := hru.look hok1
  rw [hgot, isS, hvk] at lu
  obtain ⟨g2, hg2⟩ : ∃ g2, u.heap.size = g2 := ⟨_, rfl⟩
  obtain ⟨V5, hV5⟩ : ∃ V5, u.alloc (.cells Z32 47) = V5 := ⟨_, rfl⟩
  have hV5' : u.alloc (.cells #[.int .u8 0, .int .u8 0, .int .u8 0, .int .u8 0, .int .u8 0, .int .u8 0, .int .u8 0, .int .u8 0, .int .u8 0, .int .u8 0, .int .u8 0, .int .u8 0, .int .u8 0, .int .u8 0, .int .u8 0, .int .u8 0, .int .u8 0, .int .u8 0, .int .u8 0, .int .u8 0, .int .u8 0, .int .u8 0, .int .u8 0, .int .u8 0, .int .u8 0, .int .u8 0, .int .u8 0, .int .u8 0, .int .u8 0, .int .u8 0, .int .u8 0, .int .u8 0] 47) = V5 := hV5
  have b5 : Below u.heap.size u V5 := by rw [← hV5]; exact (Below.refl _ _).alloc (Nat.le_refl _) _
  have r5 : M.RowAt V5 g2 47 Z32 := by rw [← hV5, ← hg2]; exact M.RowAt.new u 47 Z32
  have hr5 := hru.same b5
  have c25 := hr5.cell
  have rh5 := ru.call b5
  have lu5 := hr5.look hok1
  rw [hgot, isS, hvk] at lu5
  obtain ⟨V6, hV6⟩ : ∃ V6, V5.setRow g2 E = V6 := ⟨_, rfl⟩
  have hg2n : g < g2 := by rw [← hg2]; exact ru.lt
  have b6 : Below g2 u V6 := by rw [← hV6]; exact M.below_setRow (hg2 ▸ b5) (Nat.le_refl _)
  have hr6 := hru.same (hg2 ▸ b6)
  have rh6 := ru.below b6 (by omega)
  have bl6 : Below n w V6 := (BL4.out.trans (d.below (n := n))).trans (b6.mono (by omega))
  have ra6 : M.RowAt V6 n 47 FR := (M.RowAt.call RA4.out (d.below (n := V4.heap.size))).below b6 (by omega)
  have rb6 : M.RowAt V6 (n + 1) 47 Z32 := (M.RowAt.call RB4.out (d.below (n := V4.heap.size))).below b6 (by omega)
  have HG2 := Lib.hid hg2; have HV5 := Lib.hid hV5'; have HV6 := Lib.hid hV6; have HR6 := Lib.hid hr6; have RH6 := Lib.hid rh6; have BL6 := Lib.hid bl6; have RA6 := Lib.hid ra6; have RB6 := Lib.hid rb6
  unfold M.RowAt at r5
  clear hru hg2 hV5 hV5' hV6 b5 hr5 b6 hr6 rh6 bl6 ra6 rb6 hgot isS d
  iterate 4
    (first
     | (apply QC.wpC_load
        (focus rfl)
        (focus decide)
        (focus rfl)
        (focus rfl)
        (focus rfl)
        (focus (assumption))
        (focus (intro u hu; go_simp))
        intro K hK
        go_simp
        refine hK _ ?_
        clear hK K)
     | (apply QC.wpC_pure
        (focus rfl)
        (focus decide)
        intro K hK
        go_simp
        first
         | (refine hK _ ?_; clear hK K)
         | (apply Exists.intro
            refine ⟨fun u => ?_, hK _ ?_⟩
            (focus (unfold QP.oat; go_simp; first | done | exact ⟨rfl, rfl⟩ | exact rfl))
            clear hK K)))
  refine QC.wpC_rest (fun u => M.RowAt u g 47 H) (.agg H) rfl (by decide) rfl ru ?_ ?_
  · intro x hx
    exact QP.oat_load_row (ty := 47) (x := .tmp 6) rfl (g := g) rfl (t := 47) (cs := H) (fr := (0, 0)) _ hx Tryz.underlying47 rfl iD rfl
  refine QC.wpC_rest (fun u => (Instr.lookup 192 (.map (some mi)) (.agg H) true).run Tryz.prog u = .ok (.tuple #[.agg E, .bool false]) u) (.tuple #[.agg E, .bool false]) rfl (by decide) rfl lu ?_ ?_
  · intro u hu; unfold QP.oat; go_simp
  try go_simp
  iterate 3
    (first
     | (apply QC.wpC_load
        (focus rfl)
        (focus decide)
        (focus rfl)
        (focus rfl)
        (focus rfl)
        (focus (assumption))
        (focus (intro u hu; go_simp))
        intro K hK
        go_simp
        refine hK _ ?_
        clear hK K)
     | (apply QC.wpC_pure
        (focus rfl)
        (focus decide)
        intro K hK
        go_simp
        first
         | (refine hK _ ?_; clear hK K)
         | (apply Exists.intro
            refine ⟨fun u => ?_, hK _ ?_⟩
            (focus (unfold QP.oat; go_simp; first | done | exact ⟨rfl, rfl⟩ | exact rfl))
            clear hK K)))
  apply QC.wpC_eff
  (focus rfl)
  (focus decide)
  go_wp2
  rw [HG2.out, HV5.out]
  refine QC.eff_ok rfl ?_ ?_
  · (repeat (first | exact QC.obl_nil | refine QC.obl_is (by assumption) ?_ | (apply QC.obl_dep; (focus decide))))
  apply QC.wpC_eff
  (focus rfl)
  (focus decide)
  go_wp2_with (first | (refine wpList_store_row (x := .tmp 7) (y := .tmp 18) (cells := E) (old := Z32) (t := 47) (ty := 47) (g := g2) ?_ ?_ ?_ ?_ r5 iE zE oE ?_; rfl; rfl; rfl; rfl; rw [HV6.out]) | fail)
  refine QC.eff_ok rfl ?_ ?_
  · (repeat (first | exact QC.obl_nil | refine QC.obl_is (by assumption) ?_ | (apply QC.obl_dep; (focus decide))))
  iterate 1
    (first
     | (apply QC.wpC_load
        (focus rfl)
        (focus decide)
        (focus rfl)
        (focus rfl)
        (focus rfl)
        (focus (assumption))
        (focus (intro u hu; go_simp))
        intro K hK
        go_simp
        refine hK _ ?_
        clear hK K)
     | (apply QC.wpC_pure
        (focus rfl)
        (focus decide)
        intro K hK
        go_simp
        first
         | (refine hK _ ?_; clear hK K)
         | (apply Exists.intro
            refine ⟨fun u => ?_, hK _ ?_⟩
            (focus (unfold QP.oat; go_simp; first | done | exact ⟨rfl, rfl⟩ | exact rfl))
            clear hK K)))
  refine QC.wpC_nil ?_
  clear c2 ru lu r5 c25 rh5 lu5
  go_wp2
  refine QC.wp_region_d [6] [0, 1, 2, 3, 4, 5, 6] (by kernel_rfl) (by kernel_rfl) (fun u2 d => ?_)
  have hru := HR6.out.same (d.below (n := V6.heap.size))
  have c2 := hru.cell
  have rg := M.RowAt.call RH6.out (d.below (n := V6.heap.size))
  have rn := M.RowAt.call RA6.out (d.below (n := V6.heap.size))
  have rz := M.RowAt.call RB6.out (d.below (n := V6.heap.size))
  have bu := BL6.out.trans (d.below (n := n))
  obtain ⟨W, hrun, him, hbt⟩ := hru.im.put Tryz.underlying192 hok1 kf
  have hrun : (Instr.mapUpdate 192 (.map (some mi)) (.agg H) (.agg FR)).run Tryz.prog u2 = .ok () W := by
    rw [← hvk, ← hvf]; exact hrun
  have rgW := hbt.row rg (by omega)
  have rzW := hbt.row rz (by omega)
  have hrW := hru.but hbt him (put_len hru.vs k kf hkfl)
  obtain ⟨X, hX⟩ : ∃ X, W.setRow (n + 1) H = X := ⟨_, rfl⟩
  have qX : M.RowAt X (n + 1) 47 H := by rw [← hX]; exact rzW.setRow H
  have hrX : Rl R mi C (putM l k kf) X := by
    rw [← hX]
    exact ⟨hrW.row.farRow (by omega) _, hrW.hC, hrW.im.farRow (by omega) _, hrW.ne, hrW.vs⟩
  have bX : M.But mi w X := by
    rw [← hX]
    have h1 : M.But mi w u2 := M.But.ofBelow mi (HN.out.symm ▸ bu)
    exact (h1.trans hbt).setRow (.inr (by have := HN.out; omega)) H
  have HRX := Lib.hid hrX; have BX := Lib.hid bX; have HX := Lib.hid hX; have QX := Lib.hid qX
  unfold M.RowAt at rzW rgW
  clear hru him hbt rz bu hrW hX qX hrX bX d
  iterate 4
    (first
     | (apply QC.wpC_load
        (focus rfl)
        (focus decide)
        (focus rfl)
        (focus rfl)
        (focus rfl)
        (focus (assumption))
        (focus (intro u hu; go_simp))
        intro K hK
        go_simp
        refine hK _ ?_
        clear hK K)
     | (apply QC.wpC_pure
        (focus rfl)
        (focus decide)
        intro K hK
        go_simp
        first
         | (refine hK _ ?_; clear hK K)
         | (apply Exists.intro
            refine ⟨fun u => ?_, hK _ ?_⟩
            (focus (unfold QP.oat; go_simp; first | done | exact ⟨rfl, rfl⟩ | exact rfl))
            clear hK K)))
  refine QC.wpC_rest (fun u => M.RowAt u g 47 H) (.agg H) rfl (by decide) rfl rg ?_ ?_
  · intro x hx
    exact QP.oat_load_row (ty := 47) (x := .tmp 6) rfl (g := g) rfl (t := 47) (cs := H) (fr := (0, 0)) _ hx Tryz.underlying47 rfl iD rfl
  refine QC.wpC_rest (fun u => M.RowAt u n 47 FR) (.agg FR) rfl (by decide) rfl rn ?_ ?_
  · intro x hx
    exact QP.oat_load_row (ty := 47) (x := .tmp 3) rfl (g := n) rfl (t := 47) (cs := FR) (fr := (0, 0)) _ hx Tryz.underlying47 rfl iF rfl
  apply QC.wpC_eff
  (focus rfl)
  (focus decide)
  go_wp2
  refine QC.eff_ok rfl ?_ ?_
  · (repeat (first | exact QC.obl_nil | refine QC.obl_is (by assumption) ?_ | (apply QC.obl_dep; (focus decide))))
  refine QC.wpC_nil ?_
  clear c2 rg rn hrun
  go_wp2_with (first | (refine wpList_load_row (x := .tmp 6) (ty := 47) (g := g) (cs := H) (t := 47) (fr := (0, 0)) ?_ ?_ ?_ _ rgW Tryz.underlying47 rfl iD ?_; rfl; rfl; rfl) | (refine wpList_store_row (x := .tmp 4) (y := .tmp 28) (cells := H) (old := Z32) (t := 47) (ty := 47) (g := n + 1) ?_ ?_ ?_ ?_ rzW iD zD oD ?_; rfl; rfl; rfl; rfl; rw [HX.out]) | fail)
  have hload := run_loadVar_row (P := Tryz.prog) _ (n + 1) 47 47 H (0, 0) _ QX.out u28 rfl iD
  refine bodyPost_ret (v := .tuple #[.agg H, .int .i64 0]) (by simp [results, Tryz.results23, asAddr, hload]) rfl ⟨rfl, HRX.out, BX.out⟩
end
end Hs
end Go.Proofs.YtdebnbgjgkbmaaaGreatDoor
namespace Go.Proofs.YtdebnbgjgkbmaaaGreatDoor
open Go.RowKit
def can (a b : Int) : Bool := isN a && isN b && (a / 2 ^ place a == b / 2 ^ place a)
end Go.Proofs.YtdebnbgjgkbmaaaGreatDoor
namespace Go.Proofs.YtdebnbgjgkbmaaaGreatDoor.Sc
/-- how many of the lowest bits are 0, 16 at the most -/
def pl (x : Nat) : Nat := min (Lib.ctz 64 x) 16
theorem pl_le (x : Nat) : pl x ≤ 16 := Nat.min_le_right _ _
theorem pl_zero : pl 0 = 16 := by decide
theorem pl_spec {x : Nat} (h : x < 65536) : ∃ k, x = 2 ^ pl x * k ∧ 2 ^ pl x * (k + 1) ≤ 65536 := by
  by_cases h0 : x = 0
  · subst h0; exact ⟨0, by simp, by rw [pl_zero]; decide⟩
  · obtain ⟨m, hm, hk⟩ := Lib.ctzFrom_spec 64 x (by omega) (by omega)
    have hc : Lib.ctz 64 x = Lib.ctzFrom 64 x := by unfold Lib.ctz; rw [if_neg h0]
    have h16 : Lib.ctzFrom 64 x < 16 := by
      apply Nat.lt_of_not_le; intro hle
      have h1 : 2 ^ 16 ≤ 2 ^ Lib.ctzFrom 64 x := Nat.pow_le_pow_right (by decide) hle
      have h2 : 2 ^ Lib.ctzFrom 64 x ≤ 2 ^ Lib.ctzFrom 64 x * (2 * m + 1) := Nat.le_mul_of_pos_right _ (by omega)
      rw [← hm] at h2
      omega
    have hp : pl x = Lib.ctzFrom 64 x := by unfold pl; rw [hc]; omega
    rw [hp]
    refine ⟨2 * m + 1, hm, ?_⟩
    generalize Lib.ctzFrom 64 x = p at *
    obtain ⟨d, hd⟩ : ∃ d, 16 = p + (d + 1) := ⟨15 - p, by omega⟩
    have hb : 2 * m + 1 < 2 ^ (d + 1) := by
      have : 2 ^ p * (2 * m + 1) < 2 ^ p * 2 ^ (d + 1) := by rw [← hm, ← Nat.pow_add, ← hd]; exact h
      exact Nat.lt_of_mul_lt_mul_left this
    have e : (65536 : Nat) = 2 ^ p * 2 ^ (d + 1) := by rw [← Nat.pow_add, ← hd]
    rw [e]
    exact Nat.mul_le_mul_left _ hb
end Go.Proofs.YtdebnbgjgkbmaaaGreatDoor.Sc
namespace Go.Proofs.YtdebnbgjgkbmaaaGreatDoor
set_option linter.unusedVariables false
theorem pl_low {x b : Nat} (h : x < 65536) (hb : b < Sc.pl x) : x / 2 ^ b % 2 = 0 := by
  obtain ⟨k, hk, _⟩ := Sc.pl_spec h
  obtain ⟨d, hd⟩ : ∃ d, Sc.pl x = b + (d + 1) := ⟨Sc.pl x - b - 1, by omega⟩
  rw [hd, Nat.pow_add, Nat.mul_assoc] at hk
  have : x / 2 ^ b = 2 ^ (d + 1) * k := by rw [hk]; exact Nat.mul_div_cancel_left _ (Nat.two_pow_pos b)
  rw [this, Nat.pow_succ, Nat.mul_right_comm, Nat.mul_mod_left]
theorem pl_top {x : Nat} (h : x < 65536) (hp : Sc.pl x < 16) : x / 2 ^ Sc.pl x % 2 = 1 := by
  have h0 : x ≠ 0 := fun e => by subst e; rw [Sc.pl_zero] at hp; omega
  obtain ⟨m, hm, hk⟩ := Lib.ctzFrom_spec 64 x (by omega) (by omega)
  have hc : Lib.ctz 64 x = Lib.ctzFrom 64 x := by unfold Lib.ctz; rw [if_neg h0]
  have e : Sc.pl x = Lib.ctzFrom 64 x := by unfold Sc.pl at *; omega
  rw [e]
  have : x / 2 ^ Lib.ctzFrom 64 x = 2 * m + 1 := by
    conv => lhs; lhs; rw [hm]
    exact Nat.mul_div_cancel_left _ (Nat.two_pow_pos _)
  rw [this]; omega
theorem bits_eq {x y : Nat} (hx : x < 65536) (hy : y < 65536) : ∀ d p, p + d = 16 → (∀ b, p ≤ b → b < 16 → x / 2 ^ b % 2 = y / 2 ^ b % 2) → x / 2 ^ p = y / 2 ^ p
  | 0, p, hd, _ => by
    have : p = 16 := by omega
    subst this
    omega
  | d + 1, p, hd, h => by
    have ih := bits_eq hx hy d (p + 1) (by omega) (fun b h1 h2 => h b (by omega) h2)
    have hb := h p (Nat.le_refl _) (by omega)
    rw [Nat.pow_succ, ← Nat.div_div_eq_div_mul, ← Nat.div_div_eq_div_mul] at ih
    omega
theorem eq_bits {x y p : Nat} (h : x / 2 ^ p = y / 2 ^ p) (b : Nat) (hb : p ≤ b) : x / 2 ^ b % 2 = y / 2 ^ b % 2 := by
  obtain ⟨d, rfl⟩ : ∃ d, b = p + d := ⟨b - p, by omega⟩
  rw [Nat.pow_add, ← Nat.div_div_eq_div_mul, ← Nat.div_div_eq_div_mul, h]
theorem onesL_split (y p d : Nat) (hpd : p ≤ d) : ∀ j, j ≤ p → onesL y d ((d - p) + j) = onesL y d (d - p) ++ onesL y p j
  | 0, _ => by simp [onesL]
  | j + 1, h => by
    have ih := onesL_split y p d hpd j (by omega)
    show onesL y d ((d - p + j) + 1) = _
    have e : d - 1 - (d - p + j) = p - 1 - j := by omega
    show onesL y d (d - p + j) ++ (if y / 2 ^ (d - 1 - (d - p + j)) % 2 = 1 then [d - 1 - (d - p + j)] else []) = onesL y d (d - p) ++ (onesL y p j ++ (if y / 2 ^ (p - 1 - j) % 2 = 1 then [p - 1 - j] else []))
    rw [ih, e, List.append_assoc]
theorem onesL_all (y p d : Nat) (hpd : p ≤ d) : onesL y d d = onesL y d (d - p) ++ onesL y p p := by
  have := onesL_split y p d hpd p (Nat.le_refl _)
  rw [show d - p + p = d by omega] at this
  exact this
theorem onesL_same {x y p d : Nat} (h : ∀ b, p ≤ b → b < d → x / 2 ^ b % 2 = y / 2 ^ b % 2) : ∀ j, j ≤ d - p → onesL x d j = onesL y d j
  | 0, _ => rfl
  | j + 1, hj => by
    have ih := onesL_same h j (by omega)
    have e := h (d - 1 - j) (by omega) (by omega)
    show onesL x d j ++ (if x / 2 ^ (d - 1 - j) % 2 = 1 then [d - 1 - j] else []) = onesL y d j ++ (if y / 2 ^ (d - 1 - j) % 2 = 1 then [d - 1 - j] else [])
    rw [ih, e]
theorem onesL_none {x p : Nat} (h : ∀ b, b < p → x / 2 ^ b % 2 = 0) : ∀ j, j ≤ p → onesL x p j = []
  | 0, _ => rfl
  | j + 1, hj => by
    have ih := onesL_none h j (by omega)
    have e := h (p - 1 - j) (by omega)
    show onesL x p j ++ (if x / 2 ^ (p - 1 - j) % 2 = 1 then [p - 1 - j] else []) = []
    rw [ih, e]; rfl
theorem walk_via (F : Nat → Nat) {x y p d : Nat} (hpd : p ≤ d) (h0 : ∀ b, b < p → x / 2 ^ b % 2 = 0) (h1 : ∀ b, p ≤ b → b < d → x / 2 ^ b % 2 = y / 2 ^ b % 2) :
    walkH (walkH F x d) y p = walkH F y d := by
  unfold walkH
  rw [onesL_all x p d hpd, onesL_all y p d hpd, onesL_none h0 p (Nat.le_refl _), List.append_nil, List.foldl_append, onesL_same h1 (d - p) (Nat.le_refl _)]
theorem can_iff {x y : Nat} (hx : x < 65536) (hy : y < 65536) : can (x : Int) (y : Int) = true ↔ x / 2 ^ Sc.pl x = y / 2 ^ Sc.pl x := by
  have h1 : isN (x : Int) = true := by simp [isN]; omega
  have h2 : isN (y : Int) = true := by simp [isN]; omega
  have h3 : place (x : Int) = Sc.pl x := by unfold place; rw [h1]; rfl
  unfold can
  rw [h1, h2, h3, show ((2 : Int) ^ Sc.pl x) = ((2 ^ Sc.pl x : Nat) : Int) by simp]
  simp only [Bool.true_and, beq_iff_eq]
  rw [← Int.natCast_ediv, ← Int.natCast_ediv]
  omega
theorem pl_mono {x y : Nat} (hx : x < 65536) (hy : y < 65536) (h : can (x : Int) (y : Int) = true) : Sc.pl y ≤ Sc.pl x := by
  apply Nat.le_of_not_lt
  intro hlt
  have e := (can_iff hx hy).1 h
  have a := pl_top hx (by have := Sc.pl_le y; omega)
  have b := pl_low hy hlt
  rw [e] at a; omega
theorem far {x y z : Nat} (hx : x < 65536) (hy : y < 65536) (hz : z < 65536) (h : can (x : Int) (y : Int) = true) (k : can (y : Int) (z : Int) = true) (F : Nat → Nat) : walkH (walkH F y (Sc.pl x)) z (Sc.pl y) = walkH F z (Sc.pl x) :=
  walk_via F (pl_mono hx hy h) (fun b hb => pl_low hy hb) (fun b hb _ => eq_bits ((can_iff hy hz).1 k) b hb)
end Go.Proofs.YtdebnbgjgkbmaaaGreatDoor
namespace Go.Proofs.YtdebnbgjgkbmaaaGreatDoor
open Go.RowKit
set_option linter.unusedVariables false
def mkH (F : Nat → Nat) (i : Int) : Nat → Nat := if isN i then walkH F i.toNat 16 else fun _ => 0
def mkE (i : Int) : Int := if isN i then 0 else 1
/-- .. of the reference: a number -/
theorem number_any (i : Int) (w : World) : Calls Tryz.prog 98 #[.int .i64 i] w fun e w' => e = .returned (.bool (isN i)) ∧ w = w' := by
  go_enter Tryz.func98, Tryz.ntmps98
  go_wp2
  all_goals go_ret
  all_goals exact ⟨ret_bool (by simp [isN]; omega), rfl⟩
def bitB (i b : Nat) : Bool := decide (i / 2 ^ b % 2 = 1)
set_option maxRecDepth 100000 in
theorem bit_any (i b : Nat) (w : World) (hi : i < 65536) (hb : b ≤ 16) : Calls Tryz.prog 187 #[.int .i64 (i : Nat), .int .i64 (b : Nat)] w fun e w' => e = .returned (.bool (bitB i b)) ∧ w = w' := by
  go_enter Tryz.func187, Tryz.ntmps187
  go_wp2
  go_loop [0, 5] (fun x j => ∃ k : Nat, k ≤ b ∧ x = .int .i64 ((i / 2 ^ k : Nat) : Int) ∧ j = .int .i64 k) (fun _ j => b - (intOf j).toNat)
  case atStart => exact ⟨0, by omega, by simp, rfl⟩
  case round =>
    obtain ⟨k, hk, rfl, rfl⟩ := hrel
    have hl : i / 2 ^ k ≤ i := Nat.div_le_self _ _
    have hs : i / 2 ^ k / 2 = i / 2 ^ (k + 1) := by rw [Nat.pow_succ, Nat.div_div_eq_div_mul]
    obtain ⟨x, hx⟩ : ∃ x, i / 2 ^ k = x := ⟨_, rfl⟩
    rw [hx] at hl hs
    have HX := Lib.hid hx; have HS := Lib.hid hs
    rw [hx]
    clear hx hs
    by_cases hlt : k < b
    · go_wp2
      go_round
      case rel => exact ⟨k + 1, by omega, by rw [← HS.out]; congr 1, by go_num⟩
      case measure => simp [intOf]; omega
    · obtain rfl : k = b := by omega
      go_wp2
      go_ret
      refine ⟨ret_bool ?_, rfl⟩
      unfold bitB
      rw [HX.out, Bool.eq_iff_iff]
      simp
      omega
set_option maxRecDepth 100000 in
set_option maxHeartbeats 4000000 in
theorem rwalk_any (F : Nat → Nat) (i d : Nat) (w : World) (hF : ∀ j, F j < 256) (hi : i < 65536) (hd : d ≤ 16) :
    Calls Tryz.prog 99 #[.agg (r8 32 F), .int .i64 (d : Nat), .int .i64 (i : Nat)] w fun e w' => e = .returned (.agg (r8 32 (walkH F i d))) ∧ Below w.heap.size w w' := by
  obtain ⟨n, hn⟩ : ∃ n, w.heap.size = n := ⟨_, rfl⟩
  have HN := Lib.hid hn
  have kb := ((KB.start w).new 47 (r8 32 F)).new 47 Z32
  rw [World.size_alloc, hn] at kb
  have hC : ∃ C, r8 32 F = C := ⟨_, rfl⟩
  obtain ⟨C, hC⟩ := hC
  rw [hC] at kb
  have k0 : KB n w [(n, 47, r8 32 ((onesL i d 0).foldl step1 F)), (n + 1, 47, Z32)] ((w.alloc (.cells C 47)).alloc (.cells Z32 47)) := by
    show KB n w [(n, 47, r8 32 F), (n + 1, 47, Z32)] _
    rw [hC]; exact kb.sub (by simp)
  obtain ⟨V, hV⟩ : ∃ V, (w.alloc (.cells C 47)).alloc (.cells Z32 47) = V := ⟨_, rfl⟩
  have hV' : (w.alloc (.cells C 47)).alloc (.cells #[.int .u8 0, .int .u8 0, .int .u8 0, .int .u8 0, .int .u8 0, .int .u8 0, .int .u8 0, .int .u8 0, .int .u8 0, .int .u8 0, .int .u8 0, .int .u8 0, .int .u8 0, .int .u8 0, .int .u8 0, .int .u8 0, .int .u8 0, .int .u8 0, .int .u8 0, .int .u8 0, .int .u8 0, .int .u8 0, .int .u8 0, .int .u8 0, .int .u8 0, .int .u8 0, .int .u8 0, .int .u8 0, .int .u8 0, .int .u8 0, .int .u8 0, .int .u8 0] 47) = V := hV
  rw [hV] at k0
  have HV := Lib.hid hV'
  have hacc : ∀ j k, ((onesL i d j).foldl step1 F) k < 256 := by
    intro j k
    rcases List.eq_nil_or_concat (onesL i d j) with h | ⟨l, x, h⟩
    · rw [h]; exact hF k
    · rw [h, List.concat_eq_append, List.foldl_append]; exact ofH_lt _ _
  have HACC := Lib.hid hacc
  have hfin : (onesL i d d).foldl step1 F = walkH F i d := rfl
  have HFIN := Lib.hid hfin
  rw [hC]
  clear hV hV' kb hC hacc hfin
  go_enter Tryz.func99, Tryz.ntmps99
  go_wp2
  rw [HV.out]
  clear hn
  go_loopg [7] d (fun m b v => ∃ j : Nat, m + j = d ∧ b = .int .i64 ((d : Int) - 1 - j) ∧ KB n w [(n, 47, r8 32 ((onesL i d j).foldl step1 F)), (n + 1, 47, Z32)] v)
  case atStart => exact ⟨0, by omega, by simp, k0⟩
  case round =>
    clear k0
    obtain ⟨j, hm, rfl, kb⟩ := hrel
    by_cases hlt : j < d
    · obtain ⟨b, hb⟩ : ∃ b, d - 1 - j = b := ⟨_, rfl⟩
      have e : (d : Int) - 1 - j = (b : Int) := by omega
      have hb16 : b < 16 := by omega
      have cb := fun v => bit_any i b v hi (by omega)
      have HB := Lib.hid hb; have HE := Lib.hid e
      have hlt8 := HACC.out j
      rw [e]
      clear hb e
      by_cases hbit : i / 2 ^ b % 2 = 1
      · have hs : (onesL i d (j + 1)).foldl step1 F = ofH (flipH ((onesL i d j).foldl step1 F) b) := by
          rw [onesL_yes (by rw [HB.out]; exact hbit), HB.out, List.foldl_append]; rfl
        have hbt : bitB i b = true := by unfold bitB; simpa using hbit
        rw [hbt] at cb
        generalize (onesL i d j).foldl step1 F = A at *
        have hof : Sha.sum (hstr (flipH A b)) = ofH (flipH A b) := rfl
        have cs := fun v => rsum_any (hstr (flipH A b)) v (by rw [hstr_size]; decide)
        rw [hof] at cs
        have hcv := fun v g (h : M.RowAt v g 47 (r8 32 (flipH A b))) => conv_row8 h
        have a8 := hlt8 (b / 8)
        have st := flipH_set A b (by omega) _ (xor_pow (A (b / 8)) b a8)
        have ca : (r8 32 A)[b / 8]? = some (.int .u8 (A (b / 8) : Nat)) := M.rowF_get (by omega)
        have iO := r8_info (ofH (flipH A b)); have oO := r8_one (ofH (flipH A b))
        have zO : (r8 32 (flipH A b)).size = (r8 32 (ofH (flipH A b))).size := by rw [r8_size, r8_size]
        obtain ⟨O, hO⟩ : ∃ O, r8 32 (ofH (flipH A b)) = O := ⟨_, rfl⟩
        rw [hO] at cs iO oO zO
        have HO := Lib.hid hO; have HS := Lib.hid hs
        generalize r8 32 (flipH A b) = T at *
        generalize hstr (flipH A b) = Y at *
        generalize r8 32 A = R at *
        generalize A (b / 8) = y at *
        have setc : ∀ v, KB n w [(n, 47, R), (n + 1, 47, Z32)] v → KB n w [(n, 47, T), (n + 1, 47, Z32)] (v.setCell ⟨n, b / 8, none⟩ (.int .u8 (bits .xor .u8 (y : Int) ((2 : Int) ^ (b % 8) % 256)))) := fun v c => by
          have := c.set (fun x hx => by simp at hx; subst hx; show n + 1 ≠ n; omega) (Nat.le_refl _) (b / 8) (.int .u8 (bits .xor .u8 (y : Int) ((2 : Int) ^ (b % 8) % 256)))
          rw [st] at this; exact this
        have cellc : ∀ v, KB n w [(n, 47, R), (n + 1, 47, Z32)] v → v.cell? ⟨n, b / 8, none⟩ = some (.int .u8 (y : Nat)) ∧ v.frozen? ⟨n, b / 8, none⟩ = false := fun v c =>
          ⟨(M.RowAt.cell (c.rows (n, 47, R) List.mem_cons_self) (b / 8)).trans ca, M.RowAt.frozen (c.rows (n, 47, R) List.mem_cons_self) (b / 8)⟩
        have SETC := Lib.hid setc; have CELLC := Lib.hid cellc; have CS := Lib.hid cs; have HCV := Lib.hid hcv; have CB := Lib.hid cb
        have w1 : IntKind.i64.wrap ((b : Int) / 8) = (b : Int) / 8 := IntWalk.i64_in _ (by omega)
        have w2 : (0 : Int) ≤ (b : Int) / 8 := by omega
        have w3 : (b : Int) / 8 < 32 := by omega
        have w4 : ((b : Int) / 8).toNat = b / 8 := by omega
        clear cs hcv st ca setc cellc hof hlt8 a8 hO hs hbt hbit cb
        go_wp2_with fail
        refine (CB.out _).mono ?_
        rintro e w1 ⟨rfl, rfl⟩
        go_wp2_with fail
        refine QT.wp_region_p 11 (KB n w [(n, 47, R), (n + 1, 47, Z32)]) (KB n w [(n, 47, T), (n + 1, 47, Z32)]) (by kernel_rfl) (by kernel_rfl) kb.drew ?_
        iterate 12
          (refine QT.wpQ_step (fun K hK => ?_)
           go_simp
           first
             | (refine hK _ ?_; clear hK K)
             | (refine ⟨?_, hK _ ?_⟩; decide; clear hK K)
             | ((first | (apply Exists.intro; refine ⟨?_, hK _ ?_⟩) | refine ⟨⟨undef, ?_⟩, hK _ ?_⟩)
                first
                  | (apply QT.al_p; decide; (focus (intro wq hq; (first | (obtain ⟨hc1, hf1⟩ := CELLC.out _ hq) | skip); first | (fail) | (unfold QP.oat; go_simp; first | done | exact ⟨by assumption, rfl⟩ | exact rfl | assumption | ((rw [wrap_pow]; exact SETC.out _ hq))))))
                  | (apply QT.al_dep; decide; decide; (focus (intro wq hq; (first | (obtain ⟨hc1, hf1⟩ := CELLC.out _ hq) | skip); first | (fail) | (unfold QP.oat; go_simp; first | done | exact ⟨by assumption, rfl⟩ | exact rfl | assumption | ((rw [wrap_pow]; exact SETC.out _ hq))))))
                  | (apply QT.al_bef; decide; decide; (focus (intro wq hq; (first | (obtain ⟨hc1, hf1⟩ := CELLC.out _ hq) | skip); first | (fail) | (unfold QP.oat; go_simp; first | done | exact ⟨by assumption, rfl⟩ | exact rfl | assumption | ((rw [wrap_pow]; exact SETC.out _ hq))))))
                  | (apply QT.al_ok; decide; (focus (intro wq hq; (first | (obtain ⟨hc1, hf1⟩ := CELLC.out _ hq) | skip); first | (fail) | (unfold QP.oat; go_simp; first | done | exact ⟨by assumption, rfl⟩ | exact rfl | assumption | ((rw [wrap_pow]; exact SETC.out _ hq))))); (focus (intro wq hq; (first | (obtain ⟨hc1, hf1⟩ := CELLC.out _ hq) | skip); first | (fail) | (unfold QP.oat; go_simp; first | done | exact ⟨by assumption, rfl⟩ | exact rfl | assumption | ((rw [wrap_pow]; exact SETC.out _ hq))))))
                clear hK K))
        refine QT.wpQ_nil ?_
        intro wz bz
        have hcv := HCV.out _ _ (bz.rows (n, 47, T) List.mem_cons_self)
        go_wp2_with fail
        refine (CS.out _).mono ?_
        rintro e w3 ⟨rfl, gq⟩
        have b3 := bz.same gq
        have rT : w3.heap[n]? = some (.cells T 47 (0, 0)) := b3.rows (n, 47, T) List.mem_cons_self
        have b4 := b3.setRow (fun x hx => by simp at hx; subst hx; show n + 1 ≠ n; omega) (Nat.le_refl _) O
        clear gq bz hcv b3 kb
        go_wp2_with (refine wpList_store_row (x := .tmp 3) (y := .tmp 30) (cells := O) (old := T) (t := 47) (ty := 47) (g := n) ?_ ?_ ?_ ?_ rT iO zO oO ?_; rfl; rfl; rfl; rfl)
        go_roundg (d - (j + 1))
        case measure => omega
        case rel => exact ⟨j + 1, by omega, by have := HE.out; congr 1; push_cast; omega, by rw [HS.out, HO.out]; exact b4⟩
      · have hs : onesL i d (j + 1) = onesL i d j := onesL_no (by rw [HB.out]; exact hbit)
        have hbt : bitB i b = false := by unfold bitB; simpa using hbit
        rw [hbt] at cb
        have HS := Lib.hid hs; have CB := Lib.hid cb
        clear hs hbt hbit cb hlt8
        go_wp2_with fail
        refine (CB.out _).mono ?_
        rintro e w1 ⟨rfl, rfl⟩
        go_wp2
        go_roundg (d - (j + 1))
        case measure => omega
        case rel => exact ⟨j + 1, by omega, by have := HE.out; congr 1; push_cast; omega, by rw [HS.out]; exact kb⟩
    · obtain rfl : j = d := by omega
      have hz : (j : Int) - 1 - j = -1 := by omega
      rw [hz]
      rw [HFIN.out] at kb
      have iG := r8_info (walkH F i j); have zG := r8_zero (walkH F i j); have oG := r8_one (walkH F i j)
      obtain ⟨G, hG⟩ : ∃ G, r8 32 (walkH F i j) = G := ⟨_, rfl⟩
      rw [hG] at kb iG zG oG
      have HG := Lib.hid hG
      have rG := kb.row n 47 G (by simp)
      have kz : KB n w [(n + 1, 47, Z32), (n, 47, G)] wr := kb.sub (by simp)
      have rZ := kz.row (n + 1) 47 Z32 (by simp)
      have kW := kz.setRow (fun x hx => by simp at hx; subst hx; show n ≠ n + 1; omega) (by omega) G
      have rW := kW.row (n + 1) 47 G (by simp)
      clear hz hG kb kz
      go_wp2_with (first
        | (refine wpList_load_row (x := .tmp 3) (ty := 47) (g := n) (cs := G) (t := 47) (fr := (0, 0)) ?_ ?_ ?_ _ rG und28 rfl iG ?_; rfl; rfl; rfl)
        | (refine wpList_store_row (x := .tmp 6) (y := .tmp 31) (cells := G) (old := Z32) (t := 47) (ty := 47) (g := n + 1) ?_ ?_ ?_ ?_ rZ iG zG oG ?_; rfl; rfl; rfl; rfl))
      have hload := run_loadVar_row (P := Tryz.prog) _ (n + 1) 47 47 G (0, 0) _ rW und28 rfl iG
      refine bodyPost_ret (v := .agg G) (by simp [results, Tryz.results99, asAddr, Act.put, hload]) rfl ⟨by rw [HG.out], ?_⟩
      rw [HN.out]
      exact kW.below
set_option maxRecDepth 100000 in
set_option maxHeartbeats 4000000 in
theorem rmake_any (F : Nat → Nat) (i : Int) (w : World) (hF : ∀ j, F j < 256) :
    Calls Tryz.prog 25 #[.agg (r8 32 F), .int .i64 i] w fun e w' => e = .returned (.tuple #[.agg (r8 32 (mkH F i)), .int .i64 (mkE i)]) ∧ Below w.heap.size w w' := by
  obtain ⟨n, hn⟩ : ∃ n, w.heap.size = n := ⟨_, rfl⟩
  have HN := Lib.hid hn
  have kb := ((KB.start w).new 47 (r8 32 F)).new 47 Z32
  rw [World.size_alloc, hn] at kb
  have iF := r8_info F
  have cn := fun v => number_any i v
  have CN := Lib.hid cn
  cases hN : isN i
  · have e1 : r8 32 (mkH F i) = Z32 := by unfold mkH; rw [hN]; exact z32_r8
    have e2 : mkE i = 1 := by unfold mkE; rw [hN]; rfl
    rw [e1, e2]
    rw [hN] at CN
    have iZ := r8_info (fun _ => 0)
    rw [z32_r8] at iZ
    have oZ : Z32.all (·.oneCell') = true := by kernel_rfl
    generalize r8 32 F = C at *
    obtain ⟨V, hV⟩ : ∃ V, (w.alloc (.cells C 47)).alloc (.cells #[.int .u8 0, .int .u8 0, .int .u8 0, .int .u8 0, .int .u8 0, .int .u8 0, .int .u8 0, .int .u8 0, .int .u8 0, .int .u8 0, .int .u8 0, .int .u8 0, .int .u8 0, .int .u8 0, .int .u8 0, .int .u8 0, .int .u8 0, .int .u8 0, .int .u8 0, .int .u8 0, .int .u8 0, .int .u8 0, .int .u8 0, .int .u8 0, .int .u8 0, .int .u8 0, .int .u8 0, .int .u8 0, .int .u8 0, .int .u8 0, .int .u8 0, .int .u8 0] 47) = V := ⟨_, rfl⟩
    have kV : KB n w [(n + 1, 47, Z32), (n, 47, C)] V := hV ▸ kb
    have rV := kV.row (n + 1) 47 Z32 (by simp)
    have kW := kV.setRow (fun x hx => by simp at hx; subst hx; show n ≠ n + 1; omega) (by omega) Z32
    have rW := kW.row (n + 1) 47 Z32 (by simp)
    have HV := Lib.hid hV
    clear kb cn hV hN e1 e2 kV
    go_enter Tryz.func25, Tryz.ntmps25
    go_wp2_with fail
    rw [HV.out]
    refine (CN.out _).mono ?_
    rintro e w1 ⟨rfl, rfl⟩
    go_wp2_with (refine wpList_store_row (x := .tmp 4) (y := .tmp 9) (cells := Z32) (old := Z32) (t := 47) (ty := 47) (g := n + 1) ?_ ?_ ?_ ?_ rV iZ rfl oZ ?_; rfl; rfl; rfl; rfl)
    have hload := run_loadVar_row (P := Tryz.prog) _ (n + 1) 47 47 Z32 (0, 0) _ rW und28 rfl iZ
    refine bodyPost_ret (v := .tuple #[.agg Z32, .int .i64 1]) (by simp [results, Tryz.results25, asAddr, hload]) rfl ⟨rfl, ?_⟩
    rw [HN.out]
    exact kW.below
  · have hr : 0 ≤ i ∧ i < 65536 := by simpa [isN] using hN
    obtain ⟨x, rfl⟩ := Int.eq_ofNat_of_zero_le hr.1
    have e1 : mkH F (x : Int) = walkH F x 16 := by unfold mkH; rw [hN]; rfl
    have e2 : mkE (x : Int) = 0 := by unfold mkE; rw [hN]; rfl
    rw [e1, e2]
    rw [hN] at CN
    have cc := fun v => rwalk_any F x 16 v hF (by omega) (by decide)
    have iD := r8_info (walkH F x 16); have zD := r8_zero (walkH F x 16); have oD := r8_one (walkH F x 16)
    generalize r8 32 (walkH F x 16) = D at *
    generalize r8 32 F = C at *
    have CC := Lib.hid cc
    obtain ⟨V, hV⟩ : ∃ V, (w.alloc (.cells C 47)).alloc (.cells #[.int .u8 0, .int .u8 0, .int .u8 0, .int .u8 0, .int .u8 0, .int .u8 0, .int .u8 0, .int .u8 0, .int .u8 0, .int .u8 0, .int .u8 0, .int .u8 0, .int .u8 0, .int .u8 0, .int .u8 0, .int .u8 0, .int .u8 0, .int .u8 0, .int .u8 0, .int .u8 0, .int .u8 0, .int .u8 0, .int .u8 0, .int .u8 0, .int .u8 0, .int .u8 0, .int .u8 0, .int .u8 0, .int .u8 0, .int .u8 0, .int .u8 0, .int .u8 0] 47) = V := ⟨_, rfl⟩
    have kV : KB n w [(n + 1, 47, Z32), (n, 47, C)] V := hV ▸ kb
    have rC := kV.row n 47 C (by simp)
    have HV := Lib.hid hV
    clear kb cn hV hN e1 e2 cc hr
    go_enter Tryz.func25, Tryz.ntmps25
    go_wp2_with fail
    rw [HV.out]
    refine (CN.out _).mono ?_
    rintro e w1 ⟨rfl, rfl⟩
    go_wp2_with (first
      | (refine wpList_load_row (x := .tmp 2) (ty := 47) (g := n) (cs := C) (t := 47) (fr := (0, 0)) ?_ ?_ ?_ _ rC und28 rfl iF ?_; rfl; rfl; rfl)
      | fail)
    refine (CC.out _).mono ?_
    rintro e w2 ⟨rfl, gq⟩
    have k2 := kV.same gq
    have r2 := k2.row (n + 1) 47 Z32 (by simp)
    have kW := k2.setRow (fun x hx => by simp at hx; subst hx; show n ≠ n + 1; omega) (by omega) D
    have rW := kW.row (n + 1) 47 D (by simp)
    clear gq kV rC k2
    go_wp2_with (refine wpList_store_row (x := .tmp 4) (y := .tmp 12) (cells := D) (old := Z32) (t := 47) (ty := 47) (g := n + 1) ?_ ?_ ?_ ?_ r2 iD zD oD ?_; rfl; rfl; rfl; rfl)
    have hload := run_loadVar_row (P := Tryz.prog) _ (n + 1) 47 47 D (0, 0) _ rW und28 rfl iD
    refine bodyPost_ret (v := .tuple #[.agg D, .int .i64 0]) (by simp [results, Tryz.results25, asAddr, hload]) rfl ⟨rfl, ?_⟩
    rw [HN.out]
    exact kW.below
end Go.Proofs.YtdebnbgjgkbmaaaGreatDoor
namespace Go.Proofs.YtdebnbgjgkbmaaaGreatDoor
namespace SX
open Go Go.RowKit
open Go.ChangeMaps (setBlock)
set_option linter.unusedVariables false
section
variable {E : Env} {keys eqs : List Nat} {σ : Sig} {ρ : Rho} {h h' : Hp} {nx nx' : Nat} {w : World}
theorem modify_set {α : Type} (f : α → α) : ∀ (l : List α) (j : Nat) (a : α), l[j]? = some a → l.modify j f = l.set j (f a)
  | [], _, _, h => by simp at h
  | x :: r, 0, a, h => by
    obtain rfl : x = a := by simpa using h
    rfl
  | x :: r, j + 1, a, h => by
    have hj : r[j]? = some a := by simpa using h
    simp [modify_set f r j a hj]
end
end SX
end Go.Proofs.YtdebnbgjgkbmaaaGreatDoor
namespace Go.Proofs.YtdebnbgjgkbmaaaGreatDoor
namespace Hs
open Go.RowKit
set_option linter.unusedVariables false
noncomputable def num8 (l : List Nat) : Nat := (l.take 8).foldl (fun s x => Nat.add (Nat.mul s 256) x) 0
noncomputable def hN (a : Nat) : Nat := SX.shaF (hstr (PA a)) num8
theorem hN_eq (a : Nat) : hN a = num8 ((List.range 32).map (ofH (PA a))) := SX.shaF_eq _ _
def HL : List Nat := [14957230179327540776, 17265241093810513405, 5678557474771580719, 12569708901956031377, 9076715903723877459, 6636726452239221488, 5165261453358271594, 2001897711005976785, 12099728569443529713, 10843328684616849289, 18039318809535584645, 5509592473350212702, 3094616466761292539, 5646481426204820361, 14681095250017805595, 9901785957337314040, 3593677747615587248, 12658918073342475719, 17446416007453232145, 1959022555091021058, 4496320978109651327, 11211733214114691115, 6494755685252488372, 12577138288243489016, 7426512851368219082, 9945395912632143860, 12978780902063953702, 4998403556256285244, 17711470849513924145, 7336414678601244970, 13212866454309972210, 5568217249816231024, 12914709450318611469, 11332076402443392627, 8766604999286710936, 9666249437268497068, 787473044983791014, 8907201102338116183, 11259539804134929708, 18127125799814569222, 14956197083230187643, 11972698472454733755, 6074901588164687625, 14351601178174360621, 1933078744626667829, 1253900066046168019, 2855994534459925900, 3338330428928473340, 12914604483693471634, 15491882575035916963, 12401854279921933799, 12604668840729338529, 11225901514417439656, 9380439658511410702, 8484122547566177291, 8793892331901469802, 9634061653831468052, 12439163466618348169, 10320264492177228094, 2540357214944364900, 9964103851056833160, 7719198960108770084, 16868318912161229037, 483198699072027358, 9702760779927544258, 11495587058345440393, 8019498401796830822, 12900571748868409267, 17416201654577371455, 6073808752728391714, 14473537723906213218, 3946475723839934913, 7814933366695089703, 12264803863411901489, 8021318720786064137, 14432658052263839918, 11122116217126207610, 14756460314634558172, 5371530797230750644, 3552400562718997588, 7189413661652430045, 10666777654751559059, 4327119314158602751, 15469539147160206378, 7471250768292361796, 10221784493081009409, 8852898239897371644, 15010032378605306693, 11506583483754169730, 6030636920238976444, 6456825970446477932, 11584013021986582213, 10854475609943064087, 11820129295236404099, 15483633671365601249, 9300102695642132405, 11350546917819689154, 6258967989492702416, 1165063863179056342, 709992387601150393, 256229067555653128, 10997780834751270881, 2441933544714730774, 15843802075613924646, 4694095250343169587, 13046144513001842194, 6956652026213718772, 5685676699638474991, 213830686885261420, 356448384441312730, 4718201323059332588, 9230491841021322981, 11646245064579522670, 4147785951529370721, 15374438173708363913, 2741087966868446750, 17976569240216579674, 8297627678809693743, 13540153359810878705, 7702894778540650023, 13598422645442953612, 8529854959167906911, 5334446207232460364, 8082311322532202408, 1885104656340653586, 10045177271012538861, 6982081969762579880, 12902719535659662180, 13211478961883928864, 8806321048415480909, 5236024806563799820, 15334242886964564545, 17732643512072889498, 15708228480028362290, 5892733679037415147, 8236280326950328562, 14928862606629394441, 16096106121468754166, 11138203092241988286, 9685913360553553870, 5749042642616073018, 4646786195125870466, 14150588158144766698, 2574728818720699873, 14115660177160588510, 16379825695462493577, 11790960588728566502, 15324456839151576389, 9983594428491991210, 16632586051062892940, 9121884986395808919, 11536598272520724283, 2922994076651876785, 15835298394992958957, 3198827998206069246, 11349798979713214824, 9337507101032178026, 13714939965124452706, 2821655194089978618, 590350370100000378, 7127208001131696011, 6393473591121647262, 7010640798648691378, 5892067696775342069, 7198728111225210495, 1711850097486037665, 5785241090832602088, 17987164694878996596, 9148819401666012984, 18012728735957076826, 4238262299853459862, 2696153456312618743, 15547258453519216357, 12273409429324824574, 4875506960123638480, 5560829831815600411, 491724016409600368, 12967366751572932368, 4590717552196554015, 16923382458640731348, 17094047214575104222, 5919103514933843867, 2415384298438640060, 2983467577079569452, 4770365593884954979, 11911822798555176448, 10312051514615759315, 13342145027477027439, 6556687887432238772, 3118609950578440868, 15478626801470692969, 13115392050107276459, 11442130315615601049, 613774922777853501, 17772655047154738001, 14968115735996849418, 14507924557360773978, 17399957407884861639, 17853262328644857654, 6954210211141286799, 985149271390320420, 9221663881251765800, 1138102698298772822, 13835818482277354324, 14500265915956065227, 3945853555953741130, 14129501607336235464, 10418465097729479097, 12096915791292949243, 7040258977054764258, 15477540796356547338, 8433404592255353075, 10408714845043896781, 3699600990994059104, 2312911037137205400, 11012359691171391733, 9907397746844047741, 8896124506728201977, 14399453909910743123, 11265412230446029177, 6379086458987247855, 506051431005127637, 3131668610074957648, 6533079205647849971, 4606227968221614556, 11648263073737960525, 16495936811820047655, 390328404590572577, 8458836111139604229, 8962402678343462938, 14841126604512062165, 10247787437715097257, 2613056380739525145, 17837726838727065430, 8298434190328717993, 993211347848268433, 14689468123200230204, 12071101054438292055, 2368351874125312560, 8968402920121693773, 5547416603624660351, 12906134521840609354, 9277983642177600991, 11816695767768362600, 12708103255629304184, 14755879071446296065, 3121328392630678676, 7824937722104621125, 224227676669352900, 13078206792231119529, 3135532585390156118, 9100280242615763222, 4637300029765304946, 7062554240875414209, 11667194918396520243, 16574609501974218549]
theorem hl_all : (List.range 256).all (fun a => Nat.beq (hN a) (HL.getD a 0)) = true := by kernel_rfl
theorem hl_apart : (List.range 256).all (fun a => (List.range a).all fun b => !Nat.beq (HL.getD a 0) (HL.getD b 0)) = true := by kernel_rfl
theorem hl_ne {a b : Nat} (ha : a < 256) (hb : b < a) : hN a ≠ hN b := fun e => by
  have h1 := List.all_eq_true.1 hl_all a (by simp; omega)
  have h2 := List.all_eq_true.1 hl_all b (by simp; omega)
  have h3 := List.all_eq_true.1 (List.all_eq_true.1 hl_apart a (by simp; omega)) b (by simp; omega)
  have e1 := Nat.eq_of_beq_eq_true h1
  have e2 := Nat.eq_of_beq_eq_true h2
  rw [← e1, ← e2, e, Bool.not_eq_true', Nat.beq_refl] at h3
  cases h3
theorem hl_iff {a b : Nat} (ha : a < 256) (hb : b < 256) (h : hl (ofH (PA a)) = hl (ofH (PA b))) : a = b := by
  have h2 : (List.range 32).map (ofH (PA a)) = (List.range 32).map (ofH (PA b)) := by
    have := congrArg (List.map Int.toNat) h
    unfold hl at this
    rw [List.map_map, List.map_map] at this
    have e : ∀ F : Nat → Nat, (Int.toNat ∘ fun i => ((F i : Nat) : Int)) = F := fun F => by funext i; simp
    have e2 : ∀ F : Nat → Nat, List.map (Int.toNat ∘ fun i => ((F i : Nat) : Int)) (List.range 32) = List.map F (List.range 32) := fun F => by rw [e F]
    exact (e2 _).symm.trans (this.trans (e2 _))
  have h3 : hN a = hN b := by rw [hN_eq, hN_eq, h2]
  rcases Nat.lt_trichotomy a b with h4 | h4 | h4
  · exact absurd h3.symm (hl_ne hb h4)
  · exact h4
  · exact absurd h3 (hl_ne ha h4)
theorem pa_iff {a b : Nat} : eqH (PA a) (PA b) = decide (a = b) := by
  unfold eqH
  by_cases h : a = b
  · subst h; simp
  · rw [decide_eq_false h, List.all_eq_false]
    exact ⟨0, by simp, by simpa [PA] using h⟩
theorem ones0 : onesL 0 16 16 = [] := by decide
theorem mk0 (F : Nat → Nat) : mkH F 0 = F := by
  have h : isN 0 = true := by decide
  unfold mkH
  rw [if_pos h]
  unfold walkH
  show (onesL 0 16 16).foldl step1 F = F
  rw [ones0]; rfl
theorem mk0E : mkE 0 = 0 := by decide
end Hs
end Go.Proofs.YtdebnbgjgkbmaaaGreatDoor
namespace Go.Proofs.YtdebnbgjgkbmaaaGreatDoor
namespace Hs
open Go.RowKit
set_option linter.unusedVariables false
/-- the relay, and rows made since -/
structure HQ (n : Nat) (w : World) (R mi : Nat) (C : Array Value) (l : Inv) (L : List (Nat × TypeId × Array Value)) (v : World) : Prop where
  kb : KB n w L v
  rl : Rl R mi C l v
  ap : ∀ x ∈ L, x.1 ≠ mi ∧ x.1 ≠ R
  ge : n ≤ mi
section
variable {n R mi : Nat} {w v v' : World} {C : Array Value} {l l' : Inv} {L : List (Nat × TypeId × Array Value)}
theorem HQ.same (h : HQ n w R mi C l L v) (hb : Below v.heap.size v v') : HQ n w R mi C l L v' := ⟨h.kb.same hb, h.rl.same hb, h.ap, h.ge⟩
theorem HQ.but (h : HQ n w R mi C l L v) (hr : Rl R mi C l' v') (hb : M.But mi v v') : HQ n w R mi C l' L v' :=
  ⟨⟨fun x hx => hb.row (h.kb.rows x hx) (h.ap x hx).1, hb.below h.kb.below h.ge h.kb.ge, Nat.le_trans h.kb.ge hb.size⟩, hr, h.ap, h.ge⟩
theorem HQ.box (h : HQ n w R mi C l L v) (D : Array Value) : ∃ g V U, v.heap.size = g ∧ v.alloc (.cells Z32 47) = V ∧ V.heap[g]? = some (.cells Z32 47 (0, 0)) ∧ V.setRow g D = U ∧ HQ n w R mi C l ((g, 47, D) :: L) U := by
  obtain ⟨g, V, U, e1, e2, e3, e4, e5, e6, e7⟩ := h.kb.box 47 Z32 D
  have hb : Below v.heap.size v U := by
    rw [← e4, ← e2, ← e1]
    exact M.below_setRow ((Below.refl _ _).alloc (Nat.le_refl _) _) (Nat.le_refl _)
  exact ⟨g, V, U, e1, e2, e3, e4, e5, h.rl.same hb, fun x hx => by
    rcases List.mem_cons.1 hx with rfl | hx
    · have h1 := h.rl.im.lt; have h2 := h.rl.row.lt
      exact ⟨show g ≠ mi by omega, show g ≠ R by omega⟩
    · exact h.ap x hx, h.ge⟩
end
set_option maxRecDepth 100000 in
set_option maxHeartbeats 16000000 in
theorem hashes_walk (a b : Nat) (ha : a < 256) (hb : b < 256) (w : World) (ht : Tabs w) (sh : ∀ v, Below w.heap.size w v → Calls Tryz.prog 17 #[] v fun e w' => e = .returned (.bool true) ∧ Below v.heap.size v w') :
    Calls Tryz.prog 5 #[.int .u8 (a : Nat), .int .u8 (b : Nat)] w fun e w' => e = .returned (.bool true) ∧ Below w.heap.size w w' := by
  obtain ⟨n, hn⟩ : ∃ n, w.heap.size = n := ⟨_, rfl⟩
  have h1n : 4 < n := hn ▸ ht.lt
  have HN := Lib.hid hn; have HT := Lib.hid ht; have SH := Lib.hid sh
  have NW := Lib.hid (new_any w)
  have PRA := Lib.hid (fun v => pre_any a v)
  have PRB := Lib.hid (fun v => pre_any b v)
  have MK := Lib.hid (fun v => by
    have := rmake_any (PA a) 0 v (PA_lt ha)
    rw [mk0, mk0E] at this; exact this)
  have OP := Lib.hid (fun v (h : Tabs v) => by
    have := opens_any (PA a) (ofH (PA a)) v h
    rw [eqH_self] at this; exact this)
  have iA := r8_info (ofH (PA a)); have oA := r8_one (ofH (PA a)); have zA := r8_zero (ofH (PA a))
  have iP := r8_info (PA a); have oP := r8_one (PA a); have zP := r8_zero (PA a)
  have iB := r8_info (ofH (PA b)); have oB := r8_one (ofH (PA b)); have zB := r8_zero (ofH (PA b))
  have CPP := Lib.hid (fun W => by
    have := r8_cmp (PA a) (PA a) W
    rw [eqH_self] at this; exact this)
  have CPB := Lib.hid (fun W => r8_cmp (PA a) (PA b) W)
  have IN1 := Lib.hid (fun R mi C v (h : Rl R mi C [] v) (ht : Tabs v) => inv_no (PA a) (PA_lt ha) h ht rfl)
  have IN2 := Lib.hid (fun R mi C v (h : Rl R mi C [(hl (ofH (PA a)), hl (PA a))] v) (ht : Tabs v) (e : a = b) => inv_yes (x := hl (PA a)) (PA b) (PA_lt hb) h ht (by rw [e]; unfold getM; rw [if_pos rfl]))
  have IN3 := Lib.hid (fun R mi C v (h : Rl R mi C [(hl (ofH (PA a)), hl (PA a))] v) (ht : Tabs v) (e : a ≠ b) => inv_no (PA b) (PA_lt hb) h ht (by unfold getM; rw [if_neg (fun e2 => e (hl_iff ha hb e2))]; rfl))
  rw [pa_iff] at CPB
  generalize r8 32 (ofH (PA a)) = HA at *
  generalize r8 32 (ofH (PA b)) = HB at *
  generalize r8 32 (PA a) = FA at *
  generalize r8 32 (PA b) = FB at *
  generalize hl (ofH (PA a)) = kA at *
  generalize hl (PA a) = vA at *
  generalize hl (ofH (PA b)) = kB at *
  generalize hl (PA b) = vB at *
  clear hn ht sh
  go_enter Tryz.func5, Tryz.ntmps5
  go_wp2_with fail
  refine (NW.out).mono ?_
  rintro e w1 ⟨R, mi, C, rfl, hr, b1, le1, le2⟩
  have Q1 := Lib.hid (show HQ n w R mi C [] [] w1 from ⟨⟨(fun x hx => by cases hx), HN.out ▸ b1, by have := b1.size; have := HN.out; omega⟩, hr, (fun x hx => by cases hx), HN.out ▸ le2⟩)
  clear hr b1 le1 le2 NW
  go_wp2_with fail
  refine (SH.out _ (HN.out.symm ▸ Q1.out.kb.below)).mono ?_
  rintro e w2 ⟨rfl, g2⟩
  have Q2 := Lib.hid (Q1.out.same g2)
  clear g2 Q1
  go_wp2_with fail
  refine (PRA.out _).mono ?_
  rintro e w3 ⟨rfl, g3⟩
  have Q3 := Lib.hid (Q2.out.same g3)
  clear g3 Q2
  have IV := Lib.hid (IN1.out R mi C w3 Q3.out.rl (HT.out.below Q3.out.kb.below h1n))
  go_wp2_with fail
  refine (IV.out).mono ?_
  rintro e w4 ⟨rfl, hr4, g4⟩
  have q4 := Q3.out.but hr4 g4
  obtain ⟨g6, V6, U6, e1, e2, e3, e4, q6⟩ := q4.box HA
  have E1 := Lib.hid e1; have E2 := Lib.hid (show w4.alloc (.cells #[.int .u8 0, .int .u8 0, .int .u8 0, .int .u8 0, .int .u8 0, .int .u8 0, .int .u8 0, .int .u8 0, .int .u8 0, .int .u8 0, .int .u8 0, .int .u8 0, .int .u8 0, .int .u8 0, .int .u8 0, .int .u8 0, .int .u8 0, .int .u8 0, .int .u8 0, .int .u8 0, .int .u8 0, .int .u8 0, .int .u8 0, .int .u8 0, .int .u8 0, .int .u8 0, .int .u8 0, .int .u8 0, .int .u8 0, .int .u8 0, .int .u8 0, .int .u8 0] 47) = V6 from e2); have E4 := Lib.hid e4; have Q6 := Lib.hid q6
  clear hr4 g4 q4 e1 e2 e4 q6 IV Q3
  go_wp2_with (first | (rw [E1.out, E2.out]) | (refine wpList_store_row (x := .tmp 6) (y := .tmp 24) (cells := HA) (old := Z32) (t := 47) (ty := 47) (g := g6) ?_ ?_ ?_ ?_ e3 iA zA oA ?_; rfl; rfl; rfl; rfl; rw [E4.out]) | fail)
  refine (PRB.out _).mono ?_
  rintro e w7 ⟨rfl, g7⟩
  have Q7 := Lib.hid (Q6.out.same g7)
  clear g7 Q6 e3
  by_cases hab : a = b
  · subst hab
    have IV := Lib.hid (IN2.out R mi C w7 Q7.out.rl (HT.out.below Q7.out.kb.below h1n) rfl)
    go_wp2_with fail
    refine (IV.out).mono ?_
    rintro e w8 ⟨rfl, hr8, gg8⟩
    have q8 := Q7.out.same gg8
    obtain ⟨g8, V8, U8, e1, e2, e3, e4, q9⟩ := q8.box Z32
    have E1 := Lib.hid e1; have E2 := Lib.hid (show w8.alloc (.cells #[.int .u8 0, .int .u8 0, .int .u8 0, .int .u8 0, .int .u8 0, .int .u8 0, .int .u8 0, .int .u8 0, .int .u8 0, .int .u8 0, .int .u8 0, .int .u8 0, .int .u8 0, .int .u8 0, .int .u8 0, .int .u8 0, .int .u8 0, .int .u8 0, .int .u8 0, .int .u8 0, .int .u8 0, .int .u8 0, .int .u8 0, .int .u8 0, .int .u8 0, .int .u8 0, .int .u8 0, .int .u8 0, .int .u8 0, .int .u8 0, .int .u8 0, .int .u8 0] 47) = V8 from e2); have E4 := Lib.hid e4; have Q9 := Lib.hid q9
    clear hr8 gg8 q8 e1 e2 e4 q9 IV Q7
    have iZ := info47 Z32 rfl
    have oZ : Z32.all (·.oneCell') = true := by kernel_rfl
    go_wp2_with (first | (rw [E1.out, E2.out]) | (refine wpList_store_row (x := .tmp 8) (y := .tmp 31) (cells := Z32) (old := Z32) (t := 47) (ty := 47) (g := g8) ?_ ?_ ?_ ?_ e3 iZ rfl oZ ?_; rfl; rfl; rfl; rfl; rw [E4.out]) | fail)
    refine (PRA.out _).mono ?_
    rintro e w10 ⟨rfl, g10⟩
    have Q10 := Lib.hid (Q9.out.same g10)
    clear g10 Q9 e3
    go_wp2_with fail
    refine (MK.out _).mono ?_
    rintro e w11 ⟨rfl, g11⟩
    have q11 := Q10.out.same g11
    obtain ⟨g10, V11, U11, e1, e2, e3, e4, q12⟩ := q11.box FA
    have E1 := Lib.hid e1; have E2 := Lib.hid (show w11.alloc (.cells #[.int .u8 0, .int .u8 0, .int .u8 0, .int .u8 0, .int .u8 0, .int .u8 0, .int .u8 0, .int .u8 0, .int .u8 0, .int .u8 0, .int .u8 0, .int .u8 0, .int .u8 0, .int .u8 0, .int .u8 0, .int .u8 0, .int .u8 0, .int .u8 0, .int .u8 0, .int .u8 0, .int .u8 0, .int .u8 0, .int .u8 0, .int .u8 0, .int .u8 0, .int .u8 0, .int .u8 0, .int .u8 0, .int .u8 0, .int .u8 0, .int .u8 0, .int .u8 0] 47) = V11 from e2); have E4 := Lib.hid e4; have Q12 := Lib.hid q12
    clear g11 q11 e1 e2 e4 q12 Q10
    go_wp2_with (first | (rw [E1.out, E2.out]) | (refine wpList_store_row (x := .tmp 10) (y := .tmp 37) (cells := FA) (old := Z32) (t := 47) (ty := 47) (g := g10) ?_ ?_ ?_ ?_ e3 iP zP oP ?_; rfl; rfl; rfl; rfl; rw [E4.out]) | fail)
    clear e3
    have CPB2 : ∀ W, (Op.equalIn 10000 47 (.agg FA) (.agg FB)).run Tryz.prog W = .ok true W := fun W => by have := CPB.out W; simpa using this
    refine QC.wp_region_d [12, 14, 19, 24, 26] [0, 1, 2, 3, 4, 5, 6, 7, 8, 9, 10, 11, 13, 12, 14, 15, 16, 17, 18, 19, 20, 21, 22, 23, 25, 28, 29, 30, 24, 26, 27, 31, 32, 33] (by kernel_rfl) (by kernel_rfl) (fun u d => ?_)
    have qu := Q12.out.same (d.below (n := U11.heap.size))
    have h6 : u.heap[g6]? = some (.cells HA 47 (0, 0)) := qu.kb.rows (g6, 47, HA) (by simp)
    have QU := Lib.hid qu
    clear d Q12 qu
    iterate 12
      (first
       | (apply QC.wpC_load
          (focus rfl)
          (focus decide)
          (focus rfl)
          (focus rfl)
          (focus rfl)
          (focus (assumption))
          (focus (intro u hu; go_simp))
          intro K hK
          go_simp
          refine hK _ ?_
          clear hK K)
       | (apply QC.wpC_pure
          (focus rfl)
          (focus decide)
          intro K hK
          go_simp
          first
           | (refine hK _ ?_; clear hK K)
           | (apply Exists.intro
              refine ⟨fun u => ?_, hK _ ?_⟩
              (focus (unfold QP.oat; go_simp; first | done | exact ⟨rfl, rfl⟩ | exact rfl))
              clear hK K)))
    refine QC.wpC_rest (fun u => u.heap[g6]? = some (.cells HA 47 (0, 0))) (.agg HA) rfl (by decide) (by first | rfl | go_simp) h6 ?_ ?_
    · intro x hx
      exact QP.oat_load_row (ty := 47) (x := .tmp 6) rfl (g := g6) rfl (t := 47) (cs := HA) (fr := (0, 0)) _ hx Tryz.underlying47 rfl iA rfl
    apply QC.wpC_eff
    (focus rfl)
    (focus decide)
    go_wp2_with fail
    refine (PRA.out _).mono ?_
    rintro e w13 ⟨rfl, g13⟩
    have Q13 := Lib.hid (QU.out.same g13)
    have h6b : w13.heap[g6]? = some (.cells HA 47 (0, 0)) := Q13.out.kb.rows (g6, 47, HA) (by simp)
    go_wp2
    refine QC.eff_ok rfl ?_ ?_
    · (repeat (first | exact QC.obl_nil | refine QC.obl_is (by assumption) ?_ | (apply QC.obl_dep; (focus decide))))
    clear g13 QU h6
    apply QC.wpC_eff
    (focus rfl)
    (focus decide)
    go_wp2_with fail
    refine (OP.out _ (HT.out.below Q13.out.kb.below h1n)).mono ?_
    rintro e w14 ⟨rfl, g14⟩
    have Q14 := Lib.hid (Q13.out.same g14)
    have h6c : w14.heap[g6]? = some (.cells HA 47 (0, 0)) := Q14.out.kb.rows (g6, 47, HA) (by simp)
    have h10 : w14.heap[g10]? = some (.cells FA 47 (0, 0)) := Q14.out.kb.rows (g10, 47, FA) (by simp)
    go_wp2
    refine QC.eff_ok rfl ?_ ?_
    · (repeat (first | exact QC.obl_nil | refine QC.obl_is (by assumption) ?_ | (apply QC.obl_dep; (focus decide))))
    clear g14 Q13 h6b
    iterate 2
      (first
       | (apply QC.wpC_load
          (focus rfl)
          (focus decide)
          (focus rfl)
          (focus rfl)
          (focus rfl)
          (focus (assumption))
          (focus (intro u hu; go_simp))
          intro K hK
          go_simp
          refine hK _ ?_
          clear hK K)
       | (apply QC.wpC_pure
          (focus rfl)
          (focus decide)
          intro K hK
          go_simp
          first
           | (refine hK _ ?_; clear hK K)
           | (apply Exists.intro
              refine ⟨fun u => ?_, hK _ ?_⟩
              (focus (unfold QP.oat; go_simp; first | done | exact ⟨rfl, rfl⟩ | exact rfl))
              clear hK K)))
    refine QC.wpC_rest (fun u => u.heap[g10]? = some (.cells FA 47 (0, 0))) (.agg FA) rfl (by decide) (by first | rfl | go_simp) h10 ?_ ?_
    · intro x hx
      exact QP.oat_load_row (ty := 47) (x := .tmp 10) rfl (g := g10) rfl (t := 47) (cs := FA) (fr := (0, 0)) _ hx Tryz.underlying47 rfl iP rfl
    iterate 1
      (first
       | (apply QC.wpC_load
          (focus rfl)
          (focus decide)
          (focus rfl)
          (focus rfl)
          (focus rfl)
          (focus (assumption))
          (focus (intro u hu; go_simp))
          intro K hK
          go_simp
          refine hK _ ?_
          clear hK K)
       | (apply QC.wpC_pure
          (focus rfl)
          (focus decide)
          intro K hK
          go_simp
          first
           | (refine hK _ ?_; clear hK K)
           | (apply Exists.intro
              refine ⟨fun u => ?_, hK _ ?_⟩
              (focus (unfold QP.oat; go_simp; first | done | exact ⟨rfl, rfl⟩ | exact rfl))
              clear hK K)))
    apply QC.wpC_eff
    (focus rfl)
    (focus decide)
    go_wp2_with fail
    refine (PRA.out _).mono ?_
    rintro e w15 ⟨rfl, g15⟩
    have Q15 := Lib.hid (Q14.out.same g15)
    have h6d : w15.heap[g6]? = some (.cells HA 47 (0, 0)) := Q15.out.kb.rows (g6, 47, HA) (by simp)
    have h10b : w15.heap[g10]? = some (.cells FA 47 (0, 0)) := Q15.out.kb.rows (g10, 47, FA) (by simp)
    go_wp2
    refine QC.eff_ok rfl ?_ ?_
    · (repeat (first | exact QC.obl_nil | refine QC.obl_is (by assumption) ?_ | (apply QC.obl_dep; (focus decide))))
    clear g15 Q14 h6c h10
    refine QC.wpC_rest (fun _ => True) (.bool true) rfl (by decide) (by first | rfl | go_simp) trivial ?_ ?_
    · intro x hx
      exact oat_eql 47 47 (.tmp 56) (.tmp 58) rfl FA FA (by first | rfl | go_simp) (by first | rfl | go_simp) true guard28 (CPP.out x) rfl
    iterate 7
      (first
       | (apply QC.wpC_load
          (focus rfl)
          (focus decide)
          (focus rfl)
          (focus rfl)
          (focus rfl)
          (focus (assumption))
          (focus (intro u hu; go_simp))
          intro K hK
          go_simp
          refine hK _ ?_
          clear hK K)
       | (apply QC.wpC_pure
          (focus rfl)
          (focus decide)
          intro K hK
          go_simp
          first
           | (refine hK _ ?_; clear hK K)
           | (apply Exists.intro
              refine ⟨fun u => ?_, hK _ ?_⟩
              (focus (unfold QP.oat; go_simp; first | done | exact ⟨rfl, rfl⟩ | exact rfl))
              clear hK K)))
    apply QC.wpC_eff
    (focus rfl)
    (focus decide)
    go_wp2_with fail
    refine (PRA.out _).mono ?_
    rintro e w16 ⟨rfl, g16⟩
    have Q16 := Lib.hid (Q15.out.same g16)
    have h6e : w16.heap[g6]? = some (.cells HA 47 (0, 0)) := Q16.out.kb.rows (g6, 47, HA) (by simp)
    have h10c : w16.heap[g10]? = some (.cells FA 47 (0, 0)) := Q16.out.kb.rows (g10, 47, FA) (by simp)
    go_wp2
    refine QC.eff_ok rfl ?_ ?_
    · (repeat (first | exact QC.obl_nil | refine QC.obl_is (by assumption) ?_ | (apply QC.obl_dep; (focus decide))))
    clear g16 Q15 h6d h10b
    apply QC.wpC_eff
    (focus rfl)
    (focus decide)
    go_wp2_with fail
    refine (PRB.out _).mono ?_
    rintro e w17 ⟨rfl, g17⟩
    have Q17 := Lib.hid (Q16.out.same g17)
    have h6f : w17.heap[g6]? = some (.cells HA 47 (0, 0)) := Q17.out.kb.rows (g6, 47, HA) (by simp)
    have h10d : w17.heap[g10]? = some (.cells FA 47 (0, 0)) := Q17.out.kb.rows (g10, 47, FA) (by simp)
    go_wp2
    refine QC.eff_ok rfl ?_ ?_
    · (repeat (first | exact QC.obl_nil | refine QC.obl_is (by assumption) ?_ | (apply QC.obl_dep; (focus decide))))
    clear g17 Q16 h6e h10c
    refine QC.wpC_rest (fun _ => True) (.bool true) rfl (by decide) (by first | rfl | go_simp) trivial ?_ ?_
    · intro x hx
      exact oat_eql 47 47 (.tmp 63) (.tmp 65) rfl FA FB (by first | rfl | go_simp) (by first | rfl | go_simp) true guard28 (CPB2 x) rfl
    iterate 3
      (first
       | (apply QC.wpC_load
          (focus rfl)
          (focus decide)
          (focus rfl)
          (focus rfl)
          (focus rfl)
          (focus (assumption))
          (focus (intro u hu; go_simp))
          intro K hK
          go_simp
          refine hK _ ?_
          clear hK K)
       | (apply QC.wpC_pure
          (focus rfl)
          (focus decide)
          intro K hK
          go_simp
          first
           | (refine hK _ ?_; clear hK K)
           | (apply Exists.intro
              refine ⟨fun u => ?_, hK _ ?_⟩
              (focus (unfold QP.oat; go_simp; first | done | exact ⟨rfl, rfl⟩ | exact rfl))
              clear hK K)))
    refine QC.wpC_nil ?_
    go_wp2
    go_ret
    exact ⟨rfl, HN.out.symm ▸ Q17.out.kb.below⟩
  · have IV := Lib.hid (IN3.out R mi C w7 Q7.out.rl (HT.out.below Q7.out.kb.below h1n) hab)
    have HAB := Lib.hid hab
    clear hab
    go_wp2_with fail
    refine (IV.out).mono ?_
    rintro e w8 ⟨rfl, hr8, gg8⟩
    have q8 := Q7.out.but hr8 gg8
    obtain ⟨g8, V8, U8, e1, e2, e3, e4, q9⟩ := q8.box HB
    have E1 := Lib.hid e1; have E2 := Lib.hid (show w8.alloc (.cells #[.int .u8 0, .int .u8 0, .int .u8 0, .int .u8 0, .int .u8 0, .int .u8 0, .int .u8 0, .int .u8 0, .int .u8 0, .int .u8 0, .int .u8 0, .int .u8 0, .int .u8 0, .int .u8 0, .int .u8 0, .int .u8 0, .int .u8 0, .int .u8 0, .int .u8 0, .int .u8 0, .int .u8 0, .int .u8 0, .int .u8 0, .int .u8 0, .int .u8 0, .int .u8 0, .int .u8 0, .int .u8 0, .int .u8 0, .int .u8 0, .int .u8 0, .int .u8 0] 47) = V8 from e2); have E4 := Lib.hid e4; have Q9 := Lib.hid q9
    clear hr8 gg8 q8 e1 e2 e4 q9 IV Q7
    have iZ := info47 Z32 rfl
    have oZ : Z32.all (·.oneCell') = true := by kernel_rfl
    go_wp2_with (first | (rw [E1.out, E2.out]) | (refine wpList_store_row (x := .tmp 8) (y := .tmp 31) (cells := HB) (old := Z32) (t := 47) (ty := 47) (g := g8) ?_ ?_ ?_ ?_ e3 iB zB oB ?_; rfl; rfl; rfl; rfl; rw [E4.out]) | fail)
    refine (PRA.out _).mono ?_
    rintro e w10 ⟨rfl, g10⟩
    have Q10 := Lib.hid (Q9.out.same g10)
    clear g10 Q9 e3
    go_wp2_with fail
    refine (MK.out _).mono ?_
    rintro e w11 ⟨rfl, g11⟩
    have q11 := Q10.out.same g11
    obtain ⟨g10, V11, U11, e1, e2, e3, e4, q12⟩ := q11.box FA
    have E1 := Lib.hid e1; have E2 := Lib.hid (show w11.alloc (.cells #[.int .u8 0, .int .u8 0, .int .u8 0, .int .u8 0, .int .u8 0, .int .u8 0, .int .u8 0, .int .u8 0, .int .u8 0, .int .u8 0, .int .u8 0, .int .u8 0, .int .u8 0, .int .u8 0, .int .u8 0, .int .u8 0, .int .u8 0, .int .u8 0, .int .u8 0, .int .u8 0, .int .u8 0, .int .u8 0, .int .u8 0, .int .u8 0, .int .u8 0, .int .u8 0, .int .u8 0, .int .u8 0, .int .u8 0, .int .u8 0, .int .u8 0, .int .u8 0] 47) = V11 from e2); have E4 := Lib.hid e4; have Q12 := Lib.hid q12
    clear g11 q11 e1 e2 e4 q12 Q10
    go_wp2_with (first | (rw [E1.out, E2.out]) | (refine wpList_store_row (x := .tmp 10) (y := .tmp 37) (cells := FA) (old := Z32) (t := 47) (ty := 47) (g := g10) ?_ ?_ ?_ ?_ e3 iP zP oP ?_; rfl; rfl; rfl; rfl; rw [E4.out]) | fail)
    clear e3
    have CPB2 : ∀ W, (Op.equalIn 10000 47 (.agg FA) (.agg FB)).run Tryz.prog W = .ok false W := fun W => by have := CPB.out W; rw [decide_eq_false HAB.out] at this; exact this
    have i1 : ((a : Int) == (b : Int)) = false := by have := HAB.out; simp; omega
    have i2 : decide ((a : Int) = (b : Int)) = false := by have := HAB.out; simp; omega
    refine QC.wp_region_d [12, 14, 19, 24, 26] [0, 1, 2, 3, 4, 5, 6, 7, 8, 9, 10, 11, 13, 12, 14, 15, 16, 17, 18, 19, 20, 21, 22, 23, 25, 28, 29, 30, 24, 26, 27, 31, 32, 33] (by kernel_rfl) (by kernel_rfl) (fun u d => ?_)
    have qu := Q12.out.same (d.below (n := U11.heap.size))
    have h6 : u.heap[g6]? = some (.cells HA 47 (0, 0)) := qu.kb.rows (g6, 47, HA) (by simp)
    have QU := Lib.hid qu
    clear d Q12 qu
    iterate 12
      (first
       | (apply QC.wpC_load
          (focus rfl)
          (focus decide)
          (focus rfl)
          (focus rfl)
          (focus rfl)
          (focus (assumption))
          (focus (intro u hu; go_simp))
          intro K hK
          go_simp
          refine hK _ ?_
          clear hK K)
       | (apply QC.wpC_pure
          (focus rfl)
          (focus decide)
          intro K hK
          go_simp
          first
           | (refine hK _ ?_; clear hK K)
           | (apply Exists.intro
              refine ⟨fun u => ?_, hK _ ?_⟩
              (focus (unfold QP.oat; go_simp; first | done | exact ⟨rfl, rfl⟩ | exact rfl))
              clear hK K)))
    refine QC.wpC_rest (fun u => u.heap[g6]? = some (.cells HA 47 (0, 0))) (.agg HA) rfl (by decide) (by first | rfl | go_simp) h6 ?_ ?_
    · intro x hx
      exact QP.oat_load_row (ty := 47) (x := .tmp 6) rfl (g := g6) rfl (t := 47) (cs := HA) (fr := (0, 0)) _ hx Tryz.underlying47 rfl iA rfl
    apply QC.wpC_eff
    (focus rfl)
    (focus decide)
    go_wp2_with fail
    refine (PRA.out _).mono ?_
    rintro e w13 ⟨rfl, g13⟩
    have Q13 := Lib.hid (QU.out.same g13)
    have h6b : w13.heap[g6]? = some (.cells HA 47 (0, 0)) := Q13.out.kb.rows (g6, 47, HA) (by simp)
    go_wp2
    refine QC.eff_ok rfl ?_ ?_
    · (repeat (first | exact QC.obl_nil | refine QC.obl_is (by assumption) ?_ | (apply QC.obl_dep; (focus decide))))
    clear g13 QU h6
    apply QC.wpC_eff
    (focus rfl)
    (focus decide)
    go_wp2_with fail
    refine (OP.out _ (HT.out.below Q13.out.kb.below h1n)).mono ?_
    rintro e w14 ⟨rfl, g14⟩
    have Q14 := Lib.hid (Q13.out.same g14)
    have h6c : w14.heap[g6]? = some (.cells HA 47 (0, 0)) := Q14.out.kb.rows (g6, 47, HA) (by simp)
    have h10 : w14.heap[g10]? = some (.cells FA 47 (0, 0)) := Q14.out.kb.rows (g10, 47, FA) (by simp)
    go_wp2
    refine QC.eff_ok rfl ?_ ?_
    · (repeat (first | exact QC.obl_nil | refine QC.obl_is (by assumption) ?_ | (apply QC.obl_dep; (focus decide))))
    clear g14 Q13 h6b
    iterate 2
      (first
       | (apply QC.wpC_load
          (focus rfl)
          (focus decide)
          (focus rfl)
          (focus rfl)
          (focus rfl)
          (focus (assumption))
          (focus (intro u hu; go_simp))
          intro K hK
          go_simp
          refine hK _ ?_
          clear hK K)
       | (apply QC.wpC_pure
          (focus rfl)
          (focus decide)
          intro K hK
          go_simp
          first
           | (refine hK _ ?_; clear hK K)
           | (apply Exists.intro
              refine ⟨fun u => ?_, hK _ ?_⟩
              (focus (unfold QP.oat; go_simp; first | done | exact ⟨rfl, rfl⟩ | exact rfl))
              clear hK K)))
    refine QC.wpC_rest (fun u => u.heap[g10]? = some (.cells FA 47 (0, 0))) (.agg FA) rfl (by decide) (by first | rfl | go_simp) h10 ?_ ?_
    · intro x hx
      exact QP.oat_load_row (ty := 47) (x := .tmp 10) rfl (g := g10) rfl (t := 47) (cs := FA) (fr := (0, 0)) _ hx Tryz.underlying47 rfl iP rfl
    iterate 1
      (first
       | (apply QC.wpC_load
          (focus rfl)
          (focus decide)
          (focus rfl)
          (focus rfl)
          (focus rfl)
          (focus (assumption))
          (focus (intro u hu; go_simp))
          intro K hK
          go_simp
          refine hK _ ?_
          clear hK K)
       | (apply QC.wpC_pure
          (focus rfl)
          (focus decide)
          intro K hK
          go_simp
          first
           | (refine hK _ ?_; clear hK K)
           | (apply Exists.intro
              refine ⟨fun u => ?_, hK _ ?_⟩
              (focus (unfold QP.oat; go_simp; first | done | exact ⟨rfl, rfl⟩ | exact rfl))
              clear hK K)))
    apply QC.wpC_eff
    (focus rfl)
    (focus decide)
    go_wp2_with fail
    refine (PRA.out _).mono ?_
    rintro e w15 ⟨rfl, g15⟩
    have Q15 := Lib.hid (Q14.out.same g15)
    have h6d : w15.heap[g6]? = some (.cells HA 47 (0, 0)) := Q15.out.kb.rows (g6, 47, HA) (by simp)
    have h10b : w15.heap[g10]? = some (.cells FA 47 (0, 0)) := Q15.out.kb.rows (g10, 47, FA) (by simp)
    go_wp2
    refine QC.eff_ok rfl ?_ ?_
    · (repeat (first | exact QC.obl_nil | refine QC.obl_is (by assumption) ?_ | (apply QC.obl_dep; (focus decide))))
    clear g15 Q14 h6c h10
    refine QC.wpC_rest (fun _ => True) (.bool true) rfl (by decide) (by first | rfl | go_simp) trivial ?_ ?_
    · intro x hx
      exact oat_eql 47 47 (.tmp 56) (.tmp 58) rfl FA FA (by first | rfl | go_simp) (by first | rfl | go_simp) true guard28 (CPP.out x) rfl
    iterate 7
      (first
       | (apply QC.wpC_load
          (focus rfl)
          (focus decide)
          (focus rfl)
          (focus rfl)
          (focus rfl)
          (focus (assumption))
          (focus (intro u hu; go_simp))
          intro K hK
          go_simp
          refine hK _ ?_
          clear hK K)
       | (apply QC.wpC_pure
          (focus rfl)
          (focus decide)
          intro K hK
          go_simp
          first
           | (refine hK _ ?_; clear hK K)
           | (apply Exists.intro
              refine ⟨fun u => ?_, hK _ ?_⟩
              (focus (unfold QP.oat; go_simp; first | done | exact ⟨rfl, rfl⟩ | exact rfl))
              clear hK K)))
    apply QC.wpC_eff
    (focus rfl)
    (focus decide)
    go_wp2_with fail
    refine (PRA.out _).mono ?_
    rintro e w16 ⟨rfl, g16⟩
    have Q16 := Lib.hid (Q15.out.same g16)
    have h6e : w16.heap[g6]? = some (.cells HA 47 (0, 0)) := Q16.out.kb.rows (g6, 47, HA) (by simp)
    have h10c : w16.heap[g10]? = some (.cells FA 47 (0, 0)) := Q16.out.kb.rows (g10, 47, FA) (by simp)
    go_wp2
    refine QC.eff_ok rfl ?_ ?_
    · (repeat (first | exact QC.obl_nil | refine QC.obl_is (by assumption) ?_ | (apply QC.obl_dep; (focus decide))))
    clear g16 Q15 h6d h10b
    apply QC.wpC_eff
    (focus rfl)
    (focus decide)
    go_wp2_with fail
    refine (PRB.out _).mono ?_
    rintro e w17 ⟨rfl, g17⟩
    have Q17 := Lib.hid (Q16.out.same g17)
    have h6f : w17.heap[g6]? = some (.cells HA 47 (0, 0)) := Q17.out.kb.rows (g6, 47, HA) (by simp)
    have h10d : w17.heap[g10]? = some (.cells FA 47 (0, 0)) := Q17.out.kb.rows (g10, 47, FA) (by simp)
    go_wp2
    refine QC.eff_ok rfl ?_ ?_
    · (repeat (first | exact QC.obl_nil | refine QC.obl_is (by assumption) ?_ | (apply QC.obl_dep; (focus decide))))
    clear g17 Q16 h6e h10c
    refine QC.wpC_rest (fun _ => True) (.bool false) rfl (by decide) (by first | rfl | go_simp) trivial ?_ ?_
    · intro x hx
      exact oat_eql 47 47 (.tmp 63) (.tmp 65) rfl FA FB (by first | rfl | go_simp) (by first | rfl | go_simp) false guard28 (CPB2 x) rfl
    iterate 3
      (first
       | (apply QC.wpC_load
          (focus rfl)
          (focus decide)
          (focus rfl)
          (focus rfl)
          (focus rfl)
          (focus (assumption))
          (focus (intro u hu; go_simp))
          intro K hK
          go_simp
          refine hK _ ?_
          clear hK K)
       | (apply QC.wpC_pure
          (focus rfl)
          (focus decide)
          intro K hK
          go_simp
          first
           | (refine hK _ ?_; clear hK K)
           | (apply Exists.intro
              refine ⟨fun u => ?_, hK _ ?_⟩
              (focus (unfold QP.oat; go_simp; first | done | exact ⟨rfl, rfl⟩ | exact rfl))
              clear hK K)))
    refine QC.wpC_nil ?_
    go_wp2
    go_ret
    exact ⟨rfl, HN.out.symm ▸ Q17.out.kb.below⟩
end Hs
end Go.Proofs.YtdebnbgjgkbmaaaGreatDoor
namespace Go.Proofs.YtdebnbgjgkbmaaaGreatDoor
open Go.RowKit
set_option linter.unusedVariables false
set_option maxRecDepth 1000000 in
theorem hashes_lst : SX.Lst Rows.topHashesRow.laid := by
  refine ⟨?_, ?_, ?_, ?_, ?_⟩ <;> simp [Rows.topHashesRow]
theorem u8_of {a : Int} (h : (Lit.int .u8 a).wf = true) : ∃ n : Nat, a = (n : Int) ∧ n < 256 := by
  have := RowK.wf_u8 h
  exact ⟨a.toNat, by omega, by omega⟩
set_option maxRecDepth 1000000 in
theorem walk_TopHashes (a0 : Int) (w0 : (Lit.int .u8 a0).wf = true) (a1 : Int) (w1 : (Lit.int .u8 a1).wf = true) {W : World} (hsh : W.ShapedOpen Tryz.prog) (hL : laidMetH Tryz.prog Rows.topHashesRow.laid W) :
    Calls Tryz.prog 5 #[.int .u8 a0, .int .u8 a1] W fun e W' => e = .returned (.bool true) ∧ Below W.heap.size W W' := by
  have g := SX.glb_of hsh hL hashes_lst
  obtain ⟨a, rfl, ha⟩ := u8_of w0
  obtain ⟨b, rfl, hb⟩ := u8_of w1
  exact Hs.hashes_walk a b ha hb W g.tabs (fun v hb => SX.shown_any v (g.below hb g.lt))
end Go.Proofs.YtdebnbgjgkbmaaaGreatDoor
namespace Go.Proofs.YtdebnbgjgkbmaaaGreatDoor.Wit9d6a22
set_option maxRecDepth 100000
noncomputable def laidWorld (os : Os) : World :=
  { World.holding Tryz.prog os ⟨#[], #[], []⟩ with heap := (((((((((((((World.holding Tryz.prog os ⟨#[], #[], []⟩).heap).modify 5 fun
    | .cells _ t frozen => .cells #[.int .u8 0, .int .u8 1, .int .u8 28, .int .u8 2, .int .u8 29, .int .u8 14, .int .u8 24, .int .u8 3, .int .u8 30, .int .u8 22, .int .u8 20, .int .u8 15, .int .u8 25, .int .u8 17, .int .u8 4, .int .u8 8, .int .u8 31, .int .u8 27, .int .u8 13, .int .u8 23, .int .u8 21, .int .u8 19, .int .u8 16, .int .u8 7, .int .u8 26, .int .u8 12, .int .u8 18, .int .u8 6, .int .u8 11, .int .u8 5, .int .u8 10, .int .u8 9] t frozen
    | o => o)).modify 6 fun
    | .cells _ t frozen => .cells #[.int .u8 0, .int .u8 1, .int .u8 56, .int .u8 2, .int .u8 57, .int .u8 49, .int .u8 28, .int .u8 3, .int .u8 61, .int .u8 58, .int .u8 42, .int .u8 50, .int .u8 38, .int .u8 29, .int .u8 17, .int .u8 4, .int .u8 62, .int .u8 47, .int .u8 59, .int .u8 36, .int .u8 45, .int .u8 43, .int .u8 51, .int .u8 22, .int .u8 53, .int .u8 39, .int .u8 33, .int .u8 30, .int .u8 24, .int .u8 18, .int .u8 12, .int .u8 5, .int .u8 63, .int .u8 55, .int .u8 48, .int .u8 27, .int .u8 60, .int .u8 41, .int .u8 37, .int .u8 16, .int .u8 46, .int .u8 35, .int .u8 44, .int .u8 21, .int .u8 52, .int .u8 32, .int .u8 23, .int .u8 11, .int .u8 54, .int .u8 26, .int .u8 40, .int .u8 15, .int .u8 34, .int .u8 20, .int .u8 31, .int .u8 10, .int .u8 25, .int .u8 14, .int .u8 19, .int .u8 9, .int .u8 13, .int .u8 8, .int .u8 7, .int .u8 6] t frozen
    | o => o)).modify 0 fun
    | .cells _ t frozen => .cells #[.int .u32 1779033703, .int .u32 3144134277, .int .u32 1013904242, .int .u32 2773480762, .int .u32 1359893119, .int .u32 2600822924, .int .u32 528734635, .int .u32 1541459225] t frozen
    | o => o)).modify 4 fun
    | .cells _ t frozen => .cells #[.int .u32 1116352408, .int .u32 1899447441, .int .u32 3049323471, .int .u32 3921009573, .int .u32 961987163, .int .u32 1508970993, .int .u32 2453635748, .int .u32 2870763221, .int .u32 3624381080, .int .u32 310598401, .int .u32 607225278, .int .u32 1426881987, .int .u32 1925078388, .int .u32 2162078206, .int .u32 2614888103, .int .u32 3248222580, .int .u32 3835390401, .int .u32 4022224774, .int .u32 264347078, .int .u32 604807628, .int .u32 770255983, .int .u32 1249150122, .int .u32 1555081692, .int .u32 1996064986, .int .u32 2554220882, .int .u32 2821834349, .int .u32 2952996808, .int .u32 3210313671, .int .u32 3336571891, .int .u32 3584528711, .int .u32 113926993, .int .u32 338241895, .int .u32 666307205, .int .u32 773529912, .int .u32 1294757372, .int .u32 1396182291, .int .u32 1695183700, .int .u32 1986661051, .int .u32 2177026350, .int .u32 2456956037, .int .u32 2730485921, .int .u32 2820302411, .int .u32 3259730800, .int .u32 3345764771, .int .u32 3516065817, .int .u32 3600352804, .int .u32 4094571909, .int .u32 275423344, .int .u32 430227734, .int .u32 506948616, .int .u32 659060556, .int .u32 883997877, .int .u32 958139571, .int .u32 1322822218, .int .u32 1537002063, .int .u32 1747873779, .int .u32 1955562222, .int .u32 2024104815, .int .u32 2227730452, .int .u32 2361852424, .int .u32 2428436474, .int .u32 2756734187, .int .u32 3204031479, .int .u32 3329325298] t frozen
    | o => o)).modify 7 fun
    | .cells _ t frozen => .cells #[.int .i64 3, .int .i64 4, .int .i64 1, .int .i64 2, .int .i64 0, .int .i64 1, .int .i64 2, .int .i64 3, .int .i64 4, .int .i64 0, .int .i64 1, .int .i64 2, .int .i64 3, .int .i64 4, .int .i64 0, .int .i64 3, .int .i64 4, .int .i64 1, .int .i64 2, .int .i64 0] t frozen
    | o => o)).modify 3 fun
    | .cells _ t frozen => .cells #[.int .i64 1, .int .i64 7, .int .i64 3, .int .i64 5] t frozen
    | o => o) }
theorem vars (os : Os) (args : Array Value) : ((laidWorld os).forCall (fun _ _ => 0) ⟨#[], args, []⟩).variablesB Tryz.checked.prog = true := by kernel_rfl
theorem rest (os : Os) (args : Array Value) : (((laidWorld os).forCall (fun _ _ => 0) ⟨#[], args, []⟩).heap.toList.drop Tryz.checked.prog.globals.size).take ((begin Tryz.checked.prog (fun _ _ => 0) default).world.heap.size - Tryz.checked.prog.globals.size) =
      (begin Tryz.checked.prog (fun _ _ => 0) default).world.heap.toList.drop Tryz.checked.prog.globals.size := by kernel_rfl
def laid : List (String × DataW Unit) := [("math/bits.deBruijn32tab", Rows.laid_math_bits_deBruijn32tab), ("math/bits.deBruijn64tab", Rows.laid_math_bits_deBruijn64tab), ("remitter/digest.begin", Rows.laid_remitter_digest_begin), ("remitter/digest.table", Rows.laid_remitter_digest_table), ("remitter/htlc.events", Rows.laid_remitter_htlc_events), ("remitter/htlc.spans", Rows.laid_remitter_htlc_spans)]
theorem met (os : Os) (args : Array Value) : laidMet Tryz.prog laid ((laidWorld os).forCall (fun _ _ => 0) ⟨#[], args, []⟩).memory :=
  laidMet_of_run' 8 (by kernel_rfl) (by kernel_rfl)
end Go.Proofs.YtdebnbgjgkbmaaaGreatDoor.Wit9d6a22
