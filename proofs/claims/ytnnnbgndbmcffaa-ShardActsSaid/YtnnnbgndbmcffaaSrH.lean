/- Balances of a bank, and free (a task gives all its locks back); the conditions are that the blocks are known. -/
import Derived.Test.YtnnnbgndbmcffaaSrG
namespace Go.Proofs.Ytnnnbgndbmcffaa
open Go.RowKit
set_option linter.unusedVariables false

/-- the balances in a new row -/
def Balanced (n : Nat) (f : Nat → Int) (w : World) (e : Ending) (w' : World) : Prop :=
  ∃ g, e = .returned (.slice (some ⟨g, 0, none⟩) n n) ∧ w.heap.size ≤ g ∧ w'.ownsRow 0 23 1 (.slice (some ⟨g, 0, none⟩) n n) n (((List.range n).map f).map (Value.int .u64)) ∧ Below w.heap.size w w'
set_option maxRecDepth 100000 in
set_option maxHeartbeats 4000000 in
theorem balances_any {pu B mb n cap : Nat} {f : Nat → Int} {w : World} (h : Pu pu B mb n cap f [] w) (b : Nat) (hh : Nat → Int) (ts ds : Value) (rb : M.RowAt w b 141 (bankR pu n hh ts ds)) :
    Calls Try.prog 61 #[.pointer (some ⟨b, 0, none⟩)] w (Balanced n f w) := by
  obtain ⟨q, hq⟩ : ∃ q, w.heap.size = q := ⟨_, rfl⟩
  have n32 := h.inv.n32
  have n1 := h.inv.n1
  have bq : b < q := hq ▸ rb.lt
  have fb : ∀ v, Below q w v → v.cell? ⟨b, 0, none⟩ = some (.pointer (some ⟨pu, 0, none⟩)) ∧ v.cell? ⟨b, 1, none⟩ = some (.int .i64 n) := fun v hv => ⟨((rb.below hv bq).cell 0).trans rfl, ((rb.below hv bq).cell 1).trans rfl⟩
  have bal : ∀ v, Below q w v → ∀ a, a < n → _ := fun v hv a ha => bal_yes (h.same (hq ▸ hv)) ha
  have x1 := (fb w (Below.refl _ _)).2
  obtain ⟨i0, hi, hz0, hz1, hz2⟩ := info_parts info23
  have fin : ∀ v cur, M.RowAt v q 23 cur → cur.size = n → (∀ j, j < n → cur[j]? = some (.int .u64 (f j))) → Below q w v → Balanced n f w (.returned (.slice (some ⟨q, 0, none⟩) n n)) v := fun v cur hr hs hc hb => by
    refine ⟨q, rfl, by omega, ⟨by simp, .inr ⟨q, n, cur, rfl, Nat.zero_le _, hr, Nat.le_refl _, by unfold maxLen; omega, by omega, ?_⟩⟩, by rw [hq]; exact hb⟩
    apply List.ext_getElem?
    intro j
    rw [List.getElem?_take, Array.getElem?_toList]
    by_cases hj : j < n
    · rw [if_pos (by omega), hc j hj]; simp [hj]
    · rw [if_neg (by omega)]; exact (List.getElem?_eq_none (by simp; omega)).symm
  have FB := Lib.hid fb; have BAL := Lib.hid bal; have FIN := Lib.hid fin; have HQ := Lib.hid hq
  clear h rb fb bal fin hq
  go_enter Try.func61, Try.ntmps61
  go_wp2_with (at_make; refine wpList_make_full _ rfl (.tmp 8) (.tmp 8) 33 rfl 0 23 i0 _ 1 Try.underlying33 hi hz0 hz1 .i64 .i64 n n n ?a1 ?a2 rfl rfl (by rw [hz2]; omega) (by unfold maxLen; omega) (Nat.zero_le _) ?_)
  case a1 => rfl
  case a2 => rfl
  intro w1 ho hg
  rw [HQ.out] at ho
  have hb1 : Below q w w1 := by rw [← HQ.out]; exact ⟨hg.os, hg.tape, hg.output, hg.size, fun k hk => hg.block k hk (by simp)⟩
  have hrow : ∃ cur, M.RowAt w1 q 23 cur ∧ cur.size = n := by
    rcases ho.2 with ⟨h1, _⟩ | ⟨g', c', cur, h1, _, h3, _, _, h4, _⟩
    · cases h1
    · cases h1; exact ⟨cur, h3, by omega⟩
  obtain ⟨cur, hr, hsz⟩ := hrow
  have R1 := Lib.hid hr; have S1 := Lib.hid hsz; have B1 := Lib.hid hb1
  clear ho hg hr hsz hb1 x1
  rw [HQ.out]
  go_wp2
  go_loopg [12] n (fun m i v => ∃ (k : Nat) (cur : Array Value), m + k = n ∧ i = .int .i64 k ∧ M.RowAt v q 23 cur ∧ cur.size = n ∧ (∀ j, j < k → cur[j]? = some (.int .u64 (f j))) ∧ Below q w v)
  case atStart => exact ⟨0, cur, by omega, rfl, R1.out, S1.out, fun j hj => absurd hj (by omega), B1.out⟩
  case round =>
    clear R1 S1 B1
    obtain ⟨k, cur, hk, rfl, hr, hsz, hc, hb⟩ := hrel
    have HK := Lib.hid hk; have HC := Lib.hid hc; have HB := Lib.hid hb; have HR := Lib.hid hr; have HS := Lib.hid hsz
    by_cases hlt : k < n
    · obtain ⟨x0, x1⟩ := FB.out _ hb
      have BK := Lib.hid (BAL.out _ hb k hlt)
      have ck : ∃ y, wr.cell? ⟨q, k, none⟩ = some y := ⟨cur[k]'(by omega), by rw [hr.cell]; exact Array.getElem?_eq_getElem (by omega)⟩
      obtain ⟨y, ck⟩ := ck
      have fk : wr.frozen? ⟨q, k, none⟩ = false := hr.frozen k
      have i1 : ((k : Nat) : Int) < (n : Nat) := by omega
      have i0 : (0 : Int) ≤ (k : Nat) := by omega
      have nx : ∃ (k' : Nat) (cur' : Array Value), n - (k + 1) + k' = n ∧ Value.int .i64 ((k : Int) + 1) = .int .i64 k' ∧ M.RowAt (wr.setCell ⟨q, k, none⟩ (.int .u64 (f k))) q 23 cur' ∧ cur'.size = n ∧ (∀ j, j < k' → cur'[j]? = some (.int .u64 (f j))) ∧ Below q w (wr.setCell ⟨q, k, none⟩ (.int .u64 (f k))) := by
        refine ⟨k + 1, cur.setIfInBounds k (.int .u64 (f k)), by omega, by go_num, hr.set k _, by simp [hsz], fun j hj => ?_, hb.setCell (p := ⟨q, k, none⟩) (Nat.le_refl _) _⟩
        rw [Array.getElem?_setIfInBounds]
        by_cases e : k = j
        · subst e; rw [if_pos rfl, if_pos (by omega)]
        · rw [if_neg e]; exact hc j (by omega)
      have NX := Lib.hid nx
      clear hk hc hb hr hsz nx
      go_wp2_with fail
      refine (BK.out).mono ?_
      rintro e w2 ⟨rfl, rfl⟩
      go_wp2
      go_roundg (n - (k + 1))
      case measure => have := HK.out; omega
      case rel => exact NX.out
    · obtain rfl : k = n := by omega
      clear hlt hk hc hb hr hsz
      go_wp2
      go_ret
      exact FIN.out _ _ HR.out HS.out HC.out HB.out

/-- what free leaves of the locks -/
def freeH (h : Nat → Int) (id : Int) (k : Nat) : Nat → Int := fun s => if s < k ∧ h s = id then -1 else h s
theorem bankR_free {pu n : Nat} {h : Nat → Int} {ts ds : Value} {id : Int} {k : Nat} (hk : k < 4) (hh : h k = id) : (bankR pu n (freeH h id k) ts ds).setIfInBounds (2 + k) (.int .i64 (-1)) = bankR pu n (freeH h id (k + 1)) ts ds := by
  obtain rfl | rfl | rfl | rfl : k = 0 ∨ k = 1 ∨ k = 2 ∨ k = 3 := by omega
  all_goals simp [bankR, freeH, hh]
theorem bankR_keep {pu n : Nat} {h : Nat → Int} {ts ds : Value} {id : Int} {k : Nat} (hh : h k ≠ id) : bankR pu n (freeH h id k) ts ds = bankR pu n (freeH h id (k + 1)) ts ds := by
  have e : freeH h id (k + 1) = freeH h id k := by
    funext s; unfold freeH
    by_cases e : s = k
    · subst e; rw [if_neg (fun h => hh h.2), if_neg (fun h => hh h.2)]
    · by_cases e2 : s < k
      · simp [e2, show s < k + 1 by omega]
      · rw [if_neg (by omega), if_neg (by omega)]
  rw [e]
theorem idx94 (y0 y1 y2 y3 : Int) (W : World) : (Instr.index 94 (.agg #[.int .i64 y0, .int .i64 y1, .int .i64 y2, .int .i64 y3]) (.int .i64 0)).run Try.prog W = .ok (.int .i64 y0) W ∧ (Instr.index 94 (.agg #[.int .i64 y0, .int .i64 y1, .int .i64 y2, .int .i64 y3]) (.int .i64 1)).run Try.prog W = .ok (.int .i64 y1) W
    ∧ (Instr.index 94 (.agg #[.int .i64 y0, .int .i64 y1, .int .i64 y2, .int .i64 y3]) (.int .i64 2)).run Try.prog W = .ok (.int .i64 y2) W ∧ (Instr.index 94 (.agg #[.int .i64 y0, .int .i64 y1, .int .i64 y2, .int .i64 y3]) (.int .i64 3)).run Try.prog W = .ok (.int .i64 y3) W := ⟨by kernel_rfl, by kernel_rfl, by kernel_rfl, by kernel_rfl⟩
set_option maxRecDepth 100000 in
set_option maxHeartbeats 4000000 in
theorem tfree_any (b tk pu n : Nat) (h : Nat → Int) (ts ds : Value) (id fr to am er : Int) (steps told : Value) (acted : Bool) (w : World) (rt : M.RowAt w tk 136 (taskR b id fr to am steps acted er told)) (rb : M.RowAt w b 141 (bankR pu n h ts ds)) (hne : tk ≠ b) :
    Calls Try.prog 82 #[.pointer (some ⟨tk, 0, none⟩)] w fun e w' => e = .returned (.int .i64 0) ∧ M.RowAt w' b 141 (bankR pu n (fun s => if h s = id then -1 else h s) ts ds) ∧ M.But b w w' := by
  have fb : ∀ v, M.But b w v → v.cell? ⟨tk, 0, none⟩ = some (.pointer (some ⟨b, 0, none⟩)) ∧ v.cell? ⟨tk, 1, none⟩ = some (.int .i64 id) := fun v hv => ⟨((hv.row rt hne).cell 0).trans rfl, ((hv.row rt hne).cell 1).trans rfl⟩
  have FB := Lib.hid fb
  obtain ⟨x0, x1⟩ := fb w (M.But.refl b w)
  have hr4 : w.rangeAt b 2 [.int .i64 (h 0), .int .i64 (h 1), .int .i64 (h 2), .int .i64 (h 3)] := fun j v hv => by
    rw [rb.cell]
    match j, hv with
    | 0, hv => simpa [bankR] using hv
    | 1, hv => simpa [bankR] using hv
    | 2, hv => simpa [bankR] using hv
    | 3, hv => simpa [bankR] using hv
    | j + 4, hv => simp at hv
  have e0 : bankR pu n h ts ds = bankR pu n (freeH h id 0) ts ds := by unfold bankR freeH; simp
  have e4 : bankR pu n (freeH h id 4) ts ds = bankR pu n (fun s => if h s = id then -1 else h s) ts ds := by unfold bankR freeH; simp
  have r0 := rb
  rw [e0] at r0
  obtain ⟨y0, hy0⟩ : ∃ y0, h 0 = y0 := ⟨_, rfl⟩
  obtain ⟨y1, hy1⟩ : ∃ y1, h 1 = y1 := ⟨_, rfl⟩
  obtain ⟨y2, hy2⟩ : ∃ y2, h 2 = y2 := ⟨_, rfl⟩
  obtain ⟨y3, hy3⟩ : ∃ y3, h 3 = y3 := ⟨_, rfl⟩
  have R0 := Lib.hid r0; have E4 := Lib.hid e4; have HY := Lib.hid (And.intro hy0 (And.intro hy1 (And.intro hy2 hy3)))
  rw [hy0, hy1, hy2, hy3] at hr4
  clear hy0 hy1 hy2 hy3
  clear rt rb fb e0 e4 r0
  go_enter Try.func82, Try.ntmps82
  go_wp2_with (refine wpList_load_mid rfl 94 (.tmp 10) rfl b 2 rfl [.int .i64 y0, .int .i64 y1, .int .i64 y2, .int .i64 y3] _ hr4 Try.underlying94 rfl (by kernel_rfl) ?_)
  clear hr4 x0 x1
  go_loopg [12] 4 (fun m i v => ∃ k : Nat, m + k = 4 ∧ i = .int .i64 k ∧ M.RowAt v b 141 (bankR pu n (freeH h id k) ts ds) ∧ M.But b w v)
  case atStart => exact ⟨0, rfl, rfl, R0.out, M.But.refl b w⟩
  case round =>
    clear R0
    obtain ⟨k, hk, rfl, hr, hb⟩ := hrel
    have HR := Lib.hid hr; have HB := Lib.hid hb; have HK := Lib.hid hk
    obtain ⟨x0, x1⟩ := FB.out _ hb
    by_cases hlt : k < 4
    · have cf : wr.frozen? ⟨b, 2 + k, none⟩ = false := hr.frozen _
      have ck : ∃ y, wr.cell? ⟨b, 2 + k, none⟩ = some y := ⟨_, by rw [hr.cell]; exact Array.getElem?_eq_getElem (by simp [bankR]; omega)⟩
      obtain ⟨y, ck⟩ := ck
      have nx : h k = id → ∃ k' : Nat, 4 - (k + 1) + k' = 4 ∧ Value.int .i64 ((k : Int) + 1) = .int .i64 k' ∧ M.RowAt (wr.setCell ⟨b, 2 + k, none⟩ (.int .i64 (-1))) b 141 (bankR pu n (freeH h id k') ts ds) ∧ M.But b w (wr.setCell ⟨b, 2 + k, none⟩ (.int .i64 (-1))) := fun hh => by
        have := hr.set (2 + k) (.int .i64 (-1))
        rw [bankR_free hlt hh] at this
        exact ⟨k + 1, by omega, by go_num, this, hb.set (p := ⟨b, 2 + k, none⟩) (.inl rfl) _⟩
      have ny : h k ≠ id → ∃ k' : Nat, 4 - (k + 1) + k' = 4 ∧ Value.int .i64 ((k : Int) + 1) = .int .i64 k' ∧ M.RowAt wr b 141 (bankR pu n (freeH h id k') ts ds) ∧ M.But b w wr := fun hh => by
        rw [bankR_keep hh] at hr
        exact ⟨k + 1, by omega, by go_num, hr, hb⟩
      have NX := Lib.hid nx; have NY := Lib.hid ny
      clear hr hb nx ny HR HB
      obtain rfl | rfl | rfl | rfl : k = 0 ∨ k = 1 ∨ k = 2 ∨ k = 3 := by omega
      all_goals
        clear hlt hk
        obtain ⟨ix0, ix1, ix2, ix3⟩ := idx94 y0 y1 y2 y3 wr
      · by_cases hh : y0 = id
        · have N := Lib.hid (NX.out (HY.out.1.trans hh))
          subst hh
          clear NX NY
          go_wp2
          go_roundg 3
          case measure => have := HK.out; omega
          case rel => exact N.out
        · have N := Lib.hid (NY.out (fun e => hh (HY.out.1.symm.trans e)))
          have hd : (y0 == id) = false := by simpa using hh
          clear NX NY hh
          go_wp2
          go_roundg 3
          case measure => have := HK.out; omega
          case rel => exact N.out
      · by_cases hh : y1 = id
        · have N := Lib.hid (NX.out (HY.out.2.1.trans hh))
          subst hh
          clear NX NY
          go_wp2
          go_roundg 2
          case measure => have := HK.out; omega
          case rel => exact N.out
        · have N := Lib.hid (NY.out (fun e => hh (HY.out.2.1.symm.trans e)))
          have hd : (y1 == id) = false := by simpa using hh
          clear NX NY hh
          go_wp2
          go_roundg 2
          case measure => have := HK.out; omega
          case rel => exact N.out
      · by_cases hh : y2 = id
        · have N := Lib.hid (NX.out (HY.out.2.2.1.trans hh))
          subst hh
          clear NX NY
          go_wp2
          go_roundg 1
          case measure => have := HK.out; omega
          case rel => exact N.out
        · have N := Lib.hid (NY.out (fun e => hh (HY.out.2.2.1.symm.trans e)))
          have hd : (y2 == id) = false := by simpa using hh
          clear NX NY hh
          go_wp2
          go_roundg 1
          case measure => have := HK.out; omega
          case rel => exact N.out
      · by_cases hh : y3 = id
        · have N := Lib.hid (NX.out (HY.out.2.2.2.trans hh))
          subst hh
          clear NX NY
          go_wp2
          go_roundg 0
          case measure => have := HK.out; omega
          case rel => exact N.out
        · have N := Lib.hid (NY.out (fun e => hh (HY.out.2.2.2.symm.trans e)))
          have hd : (y3 == id) = false := by simpa using hh
          clear NX NY hh
          go_wp2
          go_roundg 0
          case measure => have := HK.out; omega
          case rel => exact N.out
    · obtain rfl : k = 4 := by omega
      rw [E4.out] at HR
      clear hlt hk hr hb
      go_wp2
      go_ret
      exact ⟨rfl, HR.out, HB.out⟩
end Go.Proofs.Ytnnnbgndbmcffaa
