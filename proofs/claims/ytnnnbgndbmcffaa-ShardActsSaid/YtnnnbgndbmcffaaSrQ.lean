/- New of a bank, and the law package's shown; the condition is that the row of balances is known. -/
import Derived.Test.YtnnnbgndbmcffaaSrO
import Derived.Test.YtnnnbgndbmcffaaPuH
namespace Go.Proofs.Ytnnnbgndbmcffaa
open Go.RowKit
set_option linter.unusedVariables false

def BS.new (n : Nat) (f : Nat → Int) : BS := ⟨n, f, fun _ => -1, [], []⟩
theorem BS.Ok.new {n : Nat} {f : Nat → Int} (hn : n ≤ 32) : (BS.new n f).Ok :=
  ⟨hn, Nat.zero_le _, fun i T h => by simp [BS.new] at h, fun i T h => by simp [BS.new] at h, fun i T h => by simp [BS.new] at h, fun i T h => by simp [BS.new] at h, fun i T h => by simp [BS.new] at h, fun s hs i => ⟨fun h => (by unfold BS.new at h; simp at h; try omega), fun ⟨T, h, _⟩ => by simp [BS.new] at h⟩, fun s hs => .inl rfl, List.nodup_nil, fun i => ⟨fun h => by simp [BS.new] at h, fun ⟨T, h, _⟩ => by simp [BS.new] at h⟩⟩
/-- a bank of the caller's own -/
def NewBk (n : Nat) (f : Nat → Int) (w : World) (e : Ending) (w' : World) : Prop := ∃ b rk, e = .returned (.pointer (some ⟨b, 0, none⟩)) ∧ Bk rk b (BS.new n f) w' ∧ Below w.heap.size w w' ∧ ∀ k, k < w.heap.size → rk k = 0
theorem build94 (w : World) : (Instr.build 94 #[(0, .int .i64 (-1)), (1, .int .i64 (-1)), (2, .int .i64 (-1)), (3, .int .i64 (-1))]).run Try.prog w = .ok (.agg #[.int .i64 (-1), .int .i64 (-1), .int .i64 (-1), .int .i64 (-1)]) w := by kernel_rfl
theorem build141 (w : World) (p : Nat) (n : Int) : (Instr.build 141 #[(0, .pointer (some ⟨p, 0, none⟩)), (1, .int .i64 n), (2, .agg #[.int .i64 (-1), .int .i64 (-1), .int .i64 (-1), .int .i64 (-1)])]).run Try.prog w = .ok (.agg #[.pointer (some ⟨p, 0, none⟩), .int .i64 n, .int .i64 (-1), .int .i64 (-1), .int .i64 (-1), .int .i64 (-1), .slice none 0 0, .slice none 0 0]) w := by kernel_rfl
set_option maxRecDepth 100000 in
theorem bnew_yes (pa : Option Addr) (len cap : Nat) (zs : List Int) (w : World) (h : URow w pa len zs) (h1 : 1 ≤ len) (h2 : len ≤ 32) (h3 : zs.sum ≤ Am.mx) : Calls Try.prog 51 #[.slice pa len cap] w (NewBk len (fun i => zs.getD i 0) w) := by
  have NW := Lib.hid (new_yes pa len cap zs w h h1 h2 h3)
  have fin : ∀ w1 p B mb cp, Pu p B mb len cp (fun i => zs.getD i 0) [] w1 → Below w.heap.size w w1 → w.heap.size ≤ p → w.heap.size ≤ B → w.heap.size ≤ mb →
      NewBk len (fun i => zs.getD i 0) w (.returned (.pointer (some ⟨w1.heap.size, 0, none⟩))) (w1.alloc (.cells #[.pointer (some ⟨p, 0, none⟩), .int .i64 len, .int .i64 (-1), .int .i64 (-1), .int .i64 (-1), .int .i64 (-1), .slice none 0 0, .slice none 0 0] 141)) := by
    intro w1 p B mb cp hp hb a1 a2 a3
    obtain ⟨n1, n2, n3⟩ := hp.ne
    have l1 := hp.hp.lt
    have l2 : B < w1.heap.size := by obtain ⟨cur, hr, _⟩ := hp.hB; exact hr.lt
    have l3 := hp.hm.lt
    have hsz := hb.size
    refine ⟨w1.heap.size, fun k => if k = w1.heap.size then 1 else if k = B ∨ k = mb then 2 else if k = p then 5 else 0, rfl, ⟨p, B, mb, cp, .slice none 0 0, .slice none 0 0, [], ⟨fun k hk => ?_, hp.alloc _, ?_, ?_, ?_, if_pos rfl, M.RowAt.new w1 141 _, World.ownsRow_nil _ _ _ _, fun k hk => (by cases hk), World.ownsRow_nil _ _ _ _, fun k hk => (by cases hk), fun i T hT => (by simp [BS.new] at hT), BS.Ok.new h2⟩⟩, hb.alloc hsz _, fun k hk => ?_⟩
    · simp at hk
      show (if k = w1.heap.size then 1 else if k = B ∨ k = mb then 2 else if k = p then 5 else 0) = 0
      rw [if_neg (by omega), if_neg (by omega), if_neg (by omega)]
    · show (if p = w1.heap.size then 1 else if p = B ∨ p = mb then 2 else if p = p then 5 else 0) = 5
      rw [if_neg (by omega), if_neg (by omega), if_pos rfl]
    · show (if B = w1.heap.size then 1 else if B = B ∨ B = mb then 2 else if B = p then 5 else 0) = 2
      rw [if_neg (by omega), if_pos (.inl rfl)]
    · show (if mb = w1.heap.size then 1 else if mb = B ∨ mb = mb then 2 else if mb = p then 5 else 0) = 2
      rw [if_neg (by omega), if_pos (.inr rfl)]
    · show (if k = w1.heap.size then 1 else if k = B ∨ k = mb then 2 else if k = p then 5 else 0) = 0
      rw [if_neg (by omega), if_neg (by omega), if_neg (by omega)]
  have FIN := Lib.hid fin
  have hb1 := build94
  have hb2 := build141
  clear fin h h1 h2 h3
  go_enter Try.func51, Try.ntmps51
  go_wp2_with fail
  refine (NW.out).mono ?_
  rintro e w1 ⟨p, B, mb, cp, rfl, hp, hb, a1, a2, a3⟩
  have F1 := Lib.hid (FIN.out w1 p B mb cp hp hb a1 a2 a3)
  clear hp hb a1 a2 a3
  go_wp2
  go_ret
  exact F1.out
set_option maxRecDepth 100000 in
theorem bnew_no (pa : Option Addr) (len cap : Nat) (w : World) (h : Calls Try.prog 23 #[.slice pa len cap] w fun e w' => e = .returned (.pointer none) ∧ w = w') : Calls Try.prog 51 #[.slice pa len cap] w fun e w' => e = .returned (.pointer none) ∧ w = w' := by
  have NW := Lib.hid h
  clear h
  go_enter Try.func51, Try.ntmps51
  go_wp2_with fail
  refine (NW.out).mono ?_
  rintro e w1 ⟨rfl, rfl⟩
  go_wp2
  go_ret
  exact ⟨rfl, rfl⟩
/-- New of what may not be is nil -/
theorem bnew_none (pa : Option Addr) (len cap : Nat) (zs : List Int) (w : World) (hu : URow w pa len zs) (hn : len < 1 ∨ 32 < len ∨ ¬ zs.sum ≤ Am.mx) : Calls Try.prog 51 #[.slice pa len cap] w fun e w' => e = .returned (.pointer none) ∧ w = w' := by
  refine bnew_no pa len cap w ?_
  by_cases h : len < 1 ∨ 32 < len
  · exact new_out pa len cap w h
  · exact new_sum pa len cap zs w hu (by omega) (by omega) (by rcases hn with h1 | h1 | h1 <;> first | exact h1 | omega)
/-- the bank of shown -/
def shS : BS := BS.new 2 f50
def shS1 : BS := (shS.start 0 1 3).1
def shS2 : BS := (shS1.start 0 1 1).1
def shS3 : BS := (shS2.step 0).1
def shS4 : BS := (shS3.step 1).1
theorem sh_facts : (shS.start 0 1 3).2 = (0, 0) ∧ (shS1.start 0 1 1).2 = (1, 0) ∧ (shS2.step 0).2 = 0 ∧ (shS3.step 1).2 = 100 ∧ hold shS4.h 0 = 0 ∧ hold shS4.h 1 = -1 := by decide
set_option maxRecDepth 100000 in
set_option maxHeartbeats 4000000 in
theorem bshown_any (w : World) : Calls Try.prog 45 #[] w fun e w' => e = .returned (.bool true) ∧ Below w.heap.size w w' := by
  obtain ⟨n, hn⟩ : ∃ n, w.heap.size = n := ⟨_, rfl⟩
  have HN := Lib.hid hn
  have r0 := M.RowAt.new w 23 #[.int .u64 5, .int .u64 0]
  rw [hn] at r0
  obtain ⟨V, hV⟩ : ∃ V, w.alloc (.cells #[.int .u64 5, .int .u64 0] 23) = V := ⟨_, rfl⟩
  have b0 : Below n w V := by rw [← hV, ← hn]; exact (Below.refl _ _).alloc (Nat.le_refl _) _
  have hz : n ≤ V.heap.size := by rw [← hV]; simp; omega
  rw [hV] at r0
  have ur : URow V (some ⟨n, 0, none⟩) 2 [5, 0] := ⟨rfl, by decide, fun z hz => by simp at hz; rcases hz with rfl | rfl <;> decide, n, 0, .inr rfl, fun j hj => by
    rw [Nat.zero_add, r0.cell]
    match j, hj with
    | 0, _ => rfl
    | 1, _ => rfl⟩
  have nw : Calls Try.prog 51 #[.slice (some ⟨n, 0, none⟩) 2 2] V (NewBk 2 f50 V) := bnew_yes (some ⟨n, 0, none⟩) 2 2 [5, 0] V ur (by decide) (by decide) (by decide)
  have NW := Lib.hid nw; have B0 := Lib.hid b0; have HZ := Lib.hid hz; have HV := Lib.hid hV
  obtain ⟨f1, f2, f3, f4, f5, f6⟩ := sh_facts
  have F5 := Lib.hid f5; have F6 := Lib.hid f6
  clear nw b0 hz r0 ur hn hV
  go_enter Try.func45, Try.ntmps45
  go_wp2_with (first | (rw [HN.out, HV.out]) | fail)
  refine (NW.out).mono ?_
  rintro e w1 ⟨b, rk, rfl, bk, hb, hr⟩
  have ST := Lib.hid (start_any bk 0 1 3 (by decide))
  have BB := Lib.hid (B0.out.trans (hb.mono HZ.out))
  have rn : ∀ k, k < n → rk k = 0 := fun k hk => hr k (by have := HZ.out; omega)
  have RN := Lib.hid rn
  have hz1 : n ≤ w1.heap.size := by have := hb.size; have := HZ.out; omega
  have HZ1 := Lib.hid hz1
  clear hb hr rn bk hz1
  go_wp2_with fail
  refine (ST.out).mono ?_
  rintro e w2 ⟨rfl, rk2, bk2, fr2⟩
  have ST2 := Lib.hid (start_any bk2 0 1 1 (by decide))
  have FR2 := Lib.hid fr2
  rw [show (BS.start (BS.new 2 f50) 0 1 3).2 = (0, 0) from f1]
  clear bk2 fr2 ST
  go_wp2_with fail
  refine (ST2.out).mono ?_
  rintro e w3 ⟨rfl, rk3, bk3, fr3⟩
  have ST3 := Lib.hid (step_any bk3 0)
  have FR3 := Lib.hid (FR2.out.trans fr3)
  rw [show (BS.start (BS.start (BS.new 2 f50) 0 1 3).1 0 1 1).2 = (1, 0) from f2]
  clear bk3 fr3 ST2 FR2
  go_wp2_with fail
  refine (ST3.out).mono ?_
  rintro e w4 ⟨rfl, rk4, bk4, fr4⟩
  have ST4 := Lib.hid (step_any bk4 1)
  have FR4 := Lib.hid (FR3.out.trans fr4)
  rw [show (BS.step (BS.start (BS.start (BS.new 2 f50) 0 1 3).1 0 1 1).1 0).2 = 0 from f3]
  clear bk4 fr4 ST3 FR3
  go_wp2_with fail
  refine (ST4.out).mono ?_
  rintro e w5 ⟨rfl, rk5, bk5, fr5⟩
  have H0 := Lib.hid (holder_bk bk5 0)
  have H1 := Lib.hid (holder_bk bk5 1)
  have FR5 := Lib.hid (FR4.out.trans fr5)
  rw [show (BS.step (BS.step (BS.start (BS.start (BS.new 2 f50) 0 1 3).1 0 1 1).1 0).1 1).2 = 100 from f4]
  clear bk5 fr5 ST4 FR4
  rw [show hold (BS.step (BS.step (BS.start (BS.start (BS.new 2 f50) 0 1 3).1 0 1 1).1 0).1 1).1.h 0 = 0 from F5.out] at H0
  rw [show hold (BS.step (BS.step (BS.start (BS.start (BS.new 2 f50) 0 1 3).1 0 1 1).1 0).1 1).1.h 1 = -1 from F6.out] at H1
  go_wp2_with fail
  refine (H0.out).mono ?_
  rintro e w6 ⟨rfl, rfl⟩
  go_wp2_with fail
  refine (H1.out).mono ?_
  rintro e w7 ⟨rfl, rfl⟩
  have fin := Lib.hid (FR5.out.chg.below BB.out (fun k hk => by rw [RN.out k hk]; exact fun e => e rfl) HZ1.out)
  go_wp2
  go_ret
  exact ⟨rfl, by rw [HN.out]; exact fin.out⟩
end Go.Proofs.Ytnnnbgndbmcffaa
