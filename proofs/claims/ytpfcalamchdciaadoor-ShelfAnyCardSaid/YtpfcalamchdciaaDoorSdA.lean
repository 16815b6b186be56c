/- What secret's ones hands back, and what it tells a loop: the bits of a number that are 1, from the highest one down; the conditions are the ranges of the numbers. -/
import Derived.Test.YtpfcalamchdciaaDoorRound
import Derived.Test.YtpfcalamchdciaaDoorSeF
import Derived.Test.YtpfcalamchdciaaDoorScFns
namespace Go.Proofs.YtpfcalamchdciaaDoor
open Go.RowKit Go.Shelf
set_option linter.unusedVariables false
attribute [local go_sem] Oper.semAt_some

/-- the first j of the bits below d, from the highest one down, those that are 1 -/
def onesL (i d : Nat) : Nat → List Nat
  | 0 => []
  | j + 1 => onesL i d j ++ (if i / 2 ^ (d - 1 - j) % 2 = 1 then [d - 1 - j] else [])
theorem onesL_len (i d j : Nat) : (onesL i d j).length ≤ j := by
  induction j with
  | zero => simp [onesL]
  | succ j ih => unfold onesL; rw [List.length_append]; split <;> simp <;> omega
theorem onesL_yes {i d j : Nat} (h : i / 2 ^ (d - 1 - j) % 2 = 1) : onesL i d (j + 1) = onesL i d j ++ [d - 1 - j] := by show _ ++ _ = _; rw [if_pos h]
theorem onesL_no {i d j : Nat} (h : ¬ i / 2 ^ (d - 1 - j) % 2 = 1) : onesL i d (j + 1) = onesL i d j := by show _ ++ _ = _; rw [if_neg h]; simp
def step1 (F : Nat → Nat) (b : Nat) : Nat → Nat := ofH (flipH F b)
def walkH (F : Nat → Nat) (i d : Nat) : Nat → Nat := (onesL i d d).foldl step1 F

theorem ones_any (i d : Int) (w : World) :
    Calls Tryd.prog 74 #[.int .i64 i, .int .i64 d] w fun e w' => e = .returned (.func (.func 75) #[] #[.pointer (some ⟨w.heap.size + 1, 0, none⟩), .pointer (some ⟨w.heap.size, 0, none⟩)]) ∧ w' = (w.alloc (.cells #[.int .i64 i] 3)).alloc (.cells #[.int .i64 d] 3) := by
  have hmf : ∀ (fn : Fn) (first cap : Array Value) (w : World), (Instr.makeFunc fn first cap).run Tryd.prog w = .ok (.func fn first cap) w := fun _ _ _ _ => rfl
  go_enter Tryd.func74, Tryd.ntmps74
  go_wp2
  go_ret
  exact ⟨rfl, rfl⟩

abbrev B16 := { b : Nat // b < 16 }
/-- the box of the number stays as it is -/
def KeepI (bi : Nat) (W W' : World) : Prop := ∀ v, W.cell? ⟨bi, 0, none⟩ = some v → W'.cell? ⟨bi, 0, none⟩ = some v
theorem KeepI.t {bi : Nat} {A B C : World} (h : KeepI bi A B) (k : KeepI bi B C) : KeepI bi A C := fun v hv => k v (h v hv)
theorem KeepI.b {bi : Nat} {w : World} (W : World) (l : Nat) (o o' : Obj) (_ : w.heap.size ≤ l) (h : W.heap[l]? = some o) (hc : o.isCells = false) (_ : o.isWalk = false) : KeepI bi W (W.putObj l o') :=
  fun v hv => cell_kept hv (grownBy_putObj' W l o') (fun r e => by cases e; exact ⟨o, h, hc⟩)

theorem i64_and1 (n : Int) : bits .and .i64 n 1 = n % 2 := by
  have h1 : (BitVec.ofInt 64 1).toNat = 2 ^ 1 - 1 := by decide
  have key : (BitVec.ofInt 64 n &&& BitVec.ofInt 64 1).toNat = (n % ((2 ^ 64 : Nat) : Int)).toNat % 2 ^ 1 := by
    rw [BitVec.toNat_and, BitVec.toNat_ofInt, h1, Nat.and_two_pow_sub_one_eq_mod]
  show IntKind.i64.wrap ((BitVec.ofInt 64 n &&& BitVec.ofInt 64 1).toNat : Nat) = n % 2
  rw [key, IntKind.wrap_i64]
  omega
theorem bit_yes {i b : Nat} (h : i / 2 ^ b % 2 = 1) : bits .and .i64 ((i : Int) / 2 ^ b) 1 = 1 := by
  rw [i64_and1, show ((i : Int) / 2 ^ b) = ((i / 2 ^ b : Nat) : Int) by norm_cast]; omega
theorem bit_no {i b : Nat} (h : ¬ i / 2 ^ b % 2 = 1) : bits .and .i64 ((i : Int) / 2 ^ b) 1 = 0 := by
  rw [i64_and1, show ((i : Int) / 2 ^ b) = ((i / 2 ^ b : Nat) : Int) by norm_cast]; omega

set_option maxRecDepth 100000 in
set_option maxHeartbeats 2000000 in
theorem ones_stops (n : Nat) (hn : 1 ≤ n) (bi bd i d : Nat) (hi : i < 65536) (hd : d ≤ 16) (w0 : World) (hbi : w0.cell? ⟨bi, 0, none⟩ = some (.int .i64 (i : Nat))) (hbd : w0.cell? ⟨bd, 0, none⟩ = some (.int .i64 (d : Nat))) :
    SeqStopsK (α := B16) Fence.wide n Tryd.prog 75 #[.pointer (some ⟨bd, 0, none⟩), .pointer (some ⟨bi, 0, none⟩)] (fun x => #[.int .i64 (x.1 : Nat)]) (KeepI bi) (fun xs => xs.map (·.1) = onesL i d d) (fun _ => True) 17 w0 := by
  intro l J Jx W hW hJ hJx hY h0
  have hbi' : W.cell? ⟨bi, 0, none⟩ = some (.int .i64 (i : Nat)) := by rw [hW.cell (World.block_lt_of_cell? w0 _ hbi)]; exact hbi
  have hbd' : W.cell? ⟨bd, 0, none⟩ = some (.int .i64 (d : Nat)) := by rw [hW.cell (World.block_lt_of_cell? w0 _ hbd)]; exact hbd
  clear hbi hbd hW
  refine callsIn_of_wp Tryd.func75 rfl trivial ?_ rfl
  simp only [Tryd.ntmps75, List.size_toArray, List.length_cons, List.length_nil, Nat.reduceAdd, Nat.reduceSub, Array.replicate_succ, Array.replicate_zero, List.push_toArray, List.append_toArray, List.nil_append, List.cons_append]
  gi_wp2
  gi_loopw [4] (fun p wr => ∃ (j : Nat) (pre : List B16), j ≤ d ∧ p = .int .i64 ((d : Int) - 1 - j) ∧ pre.map (·.1) = onesL i d j ∧ wr.cell? ⟨bi, 0, none⟩ = some (.int .i64 (i : Nat)) ∧ J pre wr)
    (fun p wr => (intOf p + 1).toNat)
  case atStart => exact ⟨0, [], by omega, by simp, rfl, hbi', h0⟩
  case round =>
    clear h0 hbi' hbd'
    obtain ⟨j, pre, hj, rfl, hpre, hci, hJs⟩ := hrel
    by_cases hlt : j < d
    · obtain ⟨b, hb⟩ : ∃ b, d - 1 - j = b := ⟨_, rfl⟩
      have e : (d : Int) - 1 - j = (b : Int) := by omega
      have hb16 : b < 16 := by omega
      have hlen := onesL_len i d j
      have hpl : pre.length = (onesL i d j).length := by rw [← hpre, List.length_map]
      have HB := Lib.hid hb; have HE := Lib.hid e; have HP := Lib.hid hpre; have HPL := Lib.hid hpl
      rw [e]
      clear hb e hpre hpl
      by_cases hbit : i / 2 ^ b % 2 = 1
      · have hy1 := onesL_yes (i := i) (d := d) (j := j) (by rw [HB.out]; exact hbit)
        have hand := bit_yes hbit
        have HY1 := Lib.hid hy1
        obtain ⟨fn, tmps, assign, body, hy, hR⟩ := hY pre ⟨b, hb16⟩ wr hJs (by have := HPL.out; omega)
        dsimp only at hy
        clear hy1 hbit
        gi_wp2
        refine hR.mono ?_
        rintro e W3 (⟨rfl, hJ3, hk3⟩ | ⟨rfl, hJx3⟩)
        · have hc3 := hk3 _ hci
          gi_wp2
          go_roundw
          case rel => exact ⟨j + 1, pre ++ [⟨b, hb16⟩], by omega, by have := HE.out; congr 1; push_cast; omega, by rw [List.map_append, HP.out, HY1.out, HB.out]; rfl, hc3, hJ3⟩
          case measure => simp [intOf]
        · gi_wp2
          refine bodyPost_ret (results_none rfl _ _ _) rfl ?_
          exact ⟨⟨_, rfl⟩, .inr ⟨pre ++ [⟨b, hb16⟩], trivial, hJx3⟩⟩
      · have hn1 := onesL_no (i := i) (d := d) (j := j) (by rw [HB.out]; exact hbit)
        have hand := bit_no hbit
        have HN1 := Lib.hid hn1
        clear hn1 hbit
        gi_wp2
        refine ⟨fun _ h => (by cases h), ?_⟩
        gi_wp2
        go_roundw
        case rel => exact ⟨j + 1, pre, by omega, by have := HE.out; congr 1; push_cast; omega, by rw [HP.out, HN1.out], hci, hJs⟩
        case measure => simp [intOf]
    · obtain rfl : j = d := by omega
      have hz : (j : Int) - 1 - j = -1 := by omega
      rw [hz]
      clear hz
      gi_wp2
      go_end0
      exact ⟨⟨_, rfl⟩, .inl ⟨pre, hpre, hJs⟩⟩
end Go.Proofs.YtpfcalamchdciaaDoor
