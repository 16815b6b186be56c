/- The law package's shown of layer 9, and the walk of PurseFull; no conditions. -/
import Derived.Test.YtnnnbgndbmcffaaPuG
namespace Go.Proofs.Ytnnnbgndbmcffaa
open Go.RowKit
set_option linter.unusedVariables false

/-- a purse of the law's own, beyond what was there -/
structure PW (n : Nat) (w : World) (p B mb m cap : Nat) (f : Nat → Int) (l : Res) (v : World) : Prop where
  pu : Pu p B mb m cap f l v
  bel : Below n w v
  gp : n ≤ p
  gB : n ≤ B
  gm : n ≤ mb
section
variable {n p B mb m cap : Nat} {w v v' : World} {f f' : Nat → Int} {l l' : Res}
theorem PW.ge (c : PW n w p B mb m cap f l v) : n ≤ v.heap.size := by have := c.pu.hp.lt; have := c.gp; omega
theorem PW.same (c : PW n w p B mb m cap f l v) (hb : Below v.heap.size v v') : PW n w p B mb m cap f l v' := ⟨c.pu.same hb, c.bel.trans (hb.mono c.ge), c.gp, c.gB, c.gm⟩
theorem PW.bt (c : PW n w p B mb m cap f l v) (pu : Pu p B mb m cap f' l' v') (hb : Bt [B, mb] v v') : PW n w p B mb m cap f' l' v' := ⟨pu, hb.below c.bel (fun g hg => by simp at hg; rcases hg with rfl | rfl; exact c.gB; exact c.gm) c.ge, c.gp, c.gB, c.gm⟩
theorem PW.of {q len : Nat} {e : Ending} (hb : Below n w v) (hq : n ≤ v.heap.size) (h : NewYes v len f e v') : ∃ p B mb cap, e = .returned (.pointer (some ⟨p, 0, none⟩)) ∧ PW n w p B mb len cap f [] v' := by
  obtain ⟨p, B, mb, cap, he, hp, hbel, h1, h2, h3⟩ := h
  exact ⟨p, B, mb, cap, he, hp, hb.trans (hbel.mono hq), by omega, by omega, by omega⟩
end
theorem new_two (g : Nat) (x y : Int) (v : World) (hr : M.RowAt v g 23 #[.int .u64 x, .int .u64 y]) (hx : 0 ≤ x) (hy : 0 ≤ y) (hs : x + y ≤ 1125899906842624) : Calls Try.prog 23 #[.slice (some ⟨g, 0, none⟩) 2 2] v (NewYes v 2 (fun i => ([x, y] : List Int).getD i 0)) := by
  refine new_yes (some ⟨g, 0, none⟩) 2 2 [x, y] v ⟨rfl, by decide, fun z hz => ?_, g, 0, .inr rfl, fun j hj => ?_⟩ (by decide) (by decide) (by simp [Am.mx]; omega)
  · simp at hz; rcases hz with rfl | rfl <;> omega
  · rw [Nat.zero_add, hr.cell]
    match j, hj with
    | 0, _ => rfl
    | 1, _ => rfl
def f50 : Nat → Int := fun i => ([5, 0] : List Int).getD i 0
def f2 : Nat → Int := upF f50 0 (f50 0 - 3)
def f3 : Nat → Int := upF f2 1 (f2 1 + 3)
set_option maxRecDepth 100000 in
set_option maxHeartbeats 4000000 in
theorem pshown_any (w : World) : Calls Try.prog 24 #[] w fun e w' => e = .returned (.bool true) ∧ Below w.heap.size w w' := by
  obtain ⟨n, hn⟩ : ∃ n, w.heap.size = n := ⟨_, rfl⟩
  have HN := Lib.hid hn
  have r0 := M.RowAt.new w 23 #[.int .u64 5, .int .u64 0]
  rw [hn] at r0
  have nw := new_two n 5 0 _ r0 (by decide) (by decide) (by decide)
  have b0 : Below n w (w.alloc (.cells #[.int .u64 5, .int .u64 0] 23)) := by rw [← hn]; exact (Below.refl _ _).alloc (Nat.le_refl _) _
  have hz : n ≤ (w.alloc (.cells #[.int .u64 5, .int .u64 0] 23)).heap.size := by simp; omega
  have NW := Lib.hid nw; have B0 := Lib.hid b0; have HZ := Lib.hid hz
  have fr : freeM ([] : Res) = 0 := rfl
  have e2 : f3 0 = 2 ∧ f3 1 = 3 := ⟨rfl, rfl⟩
  have E2 := Lib.hid e2
  clear nw b0 hz r0 fr e2
  go_enter Try.func24, Try.ntmps24
  go_wp2_with fail
  refine (NW.out).mono ?_
  rintro e w1 hnew
  obtain ⟨p, B, mb, cap, rfl, pw⟩ := PW.of (q := 0) B0.out HZ.out hnew
  have R1 := Lib.hid (res_yes pw.pu (a := 0) (by decide) (x := 3) (by decide) (by decide) (by decide))
  clear hnew hn
  go_wp2_with fail
  refine (R1.out).mono ?_
  rintro e w2 ⟨rfl, pu2, bt2⟩
  have pw2 := pw.bt pu2 bt2
  have C1 := Lib.hid (com_yes pu2 (i := 0) (by exact ok_small (by decide) (by decide)) (r := 0) (y := 3) rfl (k := 1) (by decide))
  clear pw bt2 R1 pu2
  go_wp2_with fail
  refine (C1.out).mono ?_
  rintro e w3 ⟨rfl, pu3, bt3⟩
  have pw3 := pw2.bt pu3 bt3
  have Q0 : Hid (Calls Try.prog 39 #[.pointer (some ⟨p, 0, none⟩), .int .i64 0] w3 fun e w' => e = .returned (.tuple #[.int .u64 2, .int .i64 0]) ∧ w3 = w') := Lib.hid (bal_yes pu3 (a := 0) (by decide))
  have Q1 : Hid (Calls Try.prog 39 #[.pointer (some ⟨p, 0, none⟩), .int .i64 1] w3 fun e w' => e = .returned (.tuple #[.int .u64 3, .int .i64 0]) ∧ w3 = w') := Lib.hid (bal_yes pu3 (a := 1) (by decide))
  clear pw2 bt3 C1 pu3
  go_wp2_with fail
  refine (Q0.out).mono ?_
  rintro e w4 ⟨rfl, rfl⟩
  go_wp2_with fail
  refine (Q1.out).mono ?_
  rintro e w4 ⟨rfl, rfl⟩
  go_wp2
  go_ret
  exact ⟨rfl, by rw [HN.out]; exact pw3.bel⟩

def f100 : Nat → Int := fun i => ([100, 0] : List Int).getD i 0
def FF : Nat → Nat → Int
  | 0 => f100
  | i + 1 => upF (FF i) 0 (FF i 0 - 1)
theorem FF_zero : ∀ i, FF i 0 = 100 - (i : Int)
  | 0 => rfl
  | i + 1 => by show upF (FF i) 0 (FF i 0 - 1) 0 = _; rw [upF_same, FF_zero i]; omega
def LF (i : Nat) : Res := (List.range i).map fun j => (((j : Nat) : Int), (0 : Int), (1 : Int))
theorem LF_len (i : Nat) : (LF i).length = i := by simp [LF]
theorem LF_succ (i : Nat) : LF (i + 1) = LF i ++ [(((i : Nat) : Int), (0 : Int), (1 : Int))] := by unfold LF; rw [List.range_succ, List.map_append]; rfl
theorem getM_app {l r : Res} {i : Int} : getM (l ++ r) i = match getM l i with | some x => some x | none => getM r i := by
  induction l with
  | nil => rfl
  | cons e l ih =>
    show (if e.1 = i then some e.2 else getM (l ++ r) i) = match (if e.1 = i then some e.2 else getM l i) with | some x => some x | none => getM r i
    by_cases h : e.1 = i
    · rw [if_pos h, if_pos h]
    · rw [if_neg h, if_neg h, ih]
theorem LF_get {i j : Nat} (h : j < i) : getM (LF i) ((j : Nat) : Int) = some ((0 : Int), (1 : Int)) := by
  induction i with
  | zero => omega
  | succ i ih =>
    rw [LF_succ, getM_app]
    by_cases e : j < i
    · rw [ih e]
    · obtain rfl : j = i := by omega
      have : getM (LF j) ((j : Nat) : Int) = none := by
        cases hg : getM (LF j) ((j : Nat) : Int) with
        | none => rfl
        | some x =>
          have hm := getM_mem hg
          unfold LF at hm
          obtain ⟨a, ha, e⟩ := List.mem_map.1 hm
          have := List.mem_range.1 ha
          have := congrArg Prod.fst e
          simp at this; omega
      rw [this]
      show getM [(((j : Nat) : Int), (0 : Int), (1 : Int))] ((j : Nat) : Int) = _
      unfold getM; rw [if_pos rfl]
theorem LF_held (i : Nat) : heldR 0 (LF i) = (i : Int) := by
  induction i with
  | zero => rfl
  | succ i ih => rw [LF_succ, heldR_app, ih]; show (i : Int) + (1 + 0) = _; omega
theorem LF_free {i : Nat} (hd : (LF i).Pairwise (fun a b => a.1 ≠ b.1)) : freeM (LF i) = i := by
  obtain ⟨h1, h2, h3⟩ := freeM_spec hd
  rw [LF_len] at h3
  by_cases e : freeM (LF i) < i
  · rw [LF_get e] at h2; cases h2
  · omega
theorem LF_del_free {i k : Nat} (hk : k < i) (hd : (LF i).Pairwise (fun a b => a.1 ≠ b.1)) : freeM (delM (LF i) ((k : Nat) : Int)) = k := by
  obtain ⟨h1, h2, h3⟩ := freeM_spec (dist_del hd ((k : Nat) : Int))
  generalize freeM (delM (LF i) ((k : Nat) : Int)) = F at *
  have h4 := len_del (LF_get hk)
  rw [LF_len] at h4
  by_cases e : F < k
  · rw [getM_del hd, if_neg (by omega), LF_get (by omega)] at h2; cases h2
  · by_cases e2 : F = k
    · exact e2
    · have := h1 k (by omega)
      rw [getM_del hd, if_pos rfl] at this; cases this

set_option maxRecDepth 100000 in
set_option maxHeartbeats 8000000 in
theorem full_walk (z a : Nat) (w : World) (hz : z < 256) (ha : a < 256) : Calls Try.prog 6 #[.int .u8 (z : Nat), .int .u8 (a : Nat)] w (Fine w) := by
  obtain ⟨n, hn⟩ : ∃ n, w.heap.size = n := ⟨_, rfl⟩
  have HN := Lib.hid hn
  have r0 := M.RowAt.new w 23 #[.int .u64 100, .int .u64 0]
  rw [hn] at r0
  have nw := new_two n 100 0 _ r0 (by decide) (by decide) (by decide)
  have b0 : Below n w (w.alloc (.cells #[.int .u64 100, .int .u64 0] 23)) := by rw [← hn]; exact (Below.refl _ _).alloc (Nat.le_refl _) _
  have hzz : n ≤ (w.alloc (.cells #[.int .u64 100, .int .u64 0] 23)).heap.size := by simp; omega
  have NW := Lib.hid nw; have B0 := Lib.hid b0; have HZ := Lib.hid hzz
  have sh := fun v => pshown_any v
  have SH := Lib.hid sh
  obtain ⟨M, hM⟩ : ∃ M, z % 40 = M := ⟨_, rfl⟩
  have hM2 : M < 40 := by omega
  have e1 : (z : Int) % 40 = (M : Int) := by omega
  have qz : IntKind.i64.wrap (z : Int) = z := IntWalk.i64_in _ (by omega)
  have qa : IntKind.i64.wrap (a : Int) = a := IntWalk.i64_in _ (by omega)
  have fin : ∀ v, Below n w v → Fine w (.returned (.bool true)) v := fun v hv => ⟨rfl, by rw [hn]; exact hv⟩
  have FIN := Lib.hid fin
  clear nw b0 hzz r0 sh hM fin
  go_enter Try.func6, Try.ntmps6
  go_wp2_with fail
  refine (NW.out).mono ?_
  rintro e w1 hnew
  obtain ⟨p, B, mb, cap, rfl, pw⟩ := PW.of (q := 0) B0.out HZ.out hnew
  clear hnew hn
  go_wp2_with fail
  refine (SH.out _).mono ?_
  rintro e w2 ⟨rfl, g2⟩
  have pw2 : PW n w p B mb 2 cap (FF (min 0 32)) (LF (min 0 32)) w2 := pw.same g2
  clear pw g2
  go_wp2
  rw [e1]
  clear e1
  go_loopg [7] M (fun g i v => ∃ k : Nat, g + k = M ∧ i = .int .i64 k ∧ PW n w p B mb 2 cap (FF (min k 32)) (LF (min k 32)) v)
  case atStart => exact ⟨0, by omega, rfl, pw2⟩
  case round =>
    clear pw2
    obtain ⟨k, hm, rfl, pw⟩ := hrel
    have HM := Lib.hid hm
    by_cases hlt : k < M
    · by_cases h32 : k < 32
      · rw [Nat.min_eq_left (show k ≤ 32 by omega)] at pw
        have hF := FF_zero k
        have R1 := res_yes pw.pu (a := 0) (by decide) (x := 1) (by decide) (by rw [LF_len]; exact h32) (by rw [hF]; omega)
        rw [LF_free pw.pu.hm.dist] at R1
        have hnext : ∀ v', Pu p B mb 2 cap (upF (FF k) 0 (FF k 0 - 1)) (LF k ++ [(((k : Nat) : Int), (((0 : Nat) : Int)), 1)]) v' → Bt [B, mb] wr v' → PW n w p B mb 2 cap (FF (min (k + 1) 32)) (LF (min (k + 1) 32)) v' := fun v' h1 h2 => by
          rw [Nat.min_eq_left (show k + 1 ≤ 32 by omega), LF_succ]
          exact pw.bt h1 h2
        have HNX := Lib.hid hnext; have RR := Lib.hid R1
        have dk : decide ((32 : Int) ≤ (k : Int)) = false := by simp; omega
        clear R1 hnext pw hF hm
        go_wp2_with fail
        refine (RR.out).mono ?_
        rintro e w3 ⟨rfl, h1, h2⟩
        have pw3 := HNX.out _ h1 h2
        clear h1 h2 RR HNX
        go_wp2
        go_roundg (M - (k + 1))
        case measure => have := HM.out; omega
        case rel => exact ⟨k + 1, by have := HM.out; omega, by go_num, pw3⟩
      · rw [Nat.min_eq_right (show 32 ≤ k by omega)] at pw
        have hE : resE 2 (FF 32) (LF 32) 0 1 = 2 := by unfold resE; rw [if_pos (by decide), if_neg (by decide), if_pos (by rw [LF_len]; exact Nat.le_refl _)]
        have R1 := res_no pw.pu 0 1 (by decide) (by decide) (by rw [hE]; decide)
        rw [hE] at R1
        have hnext : PW n w p B mb 2 cap (FF (min (k + 1) 32)) (LF (min (k + 1) 32)) wr := by
          rw [Nat.min_eq_right (show 32 ≤ k + 1 by omega)]; exact pw
        have HNX := Lib.hid hnext; have RR := Lib.hid R1
        have dk : decide ((32 : Int) ≤ (k : Int)) = true := by simp; omega
        clear R1 hnext pw hm hE
        go_wp2_with fail
        refine (RR.out).mono ?_
        rintro e w3 ⟨rfl, rfl⟩
        go_wp2
        go_roundg (M - (k + 1))
        case measure => have := HM.out; omega
        case rel => exact ⟨k + 1, by have := HM.out; omega, by go_num, HNX.out⟩
    · obtain rfl : k = M := by omega
      rcases Nat.lt_trichotomy k 32 with hk | hk | hk
      · rw [Nat.min_eq_left (show k ≤ 32 by omega)] at pw
        by_cases h0 : k = 0
        · subst h0
          have HD := held_yes pw.pu (a := 0) (by decide)
          rw [show (((0 : Nat) : Int)) = 0 from rfl, LF_held] at HD
          have HDD := Lib.hid HD
          have RN := fun v (c : PW n w p B mb 2 cap (FF 0) (LF 0) v) => rel_no c.pu (i := 0) (ok_small (by decide) (by decide)) rfl
          have RNN := Lib.hid RN
          clear RN HD hm hlt
          go_wp2_with fail
          refine (HDD.out).mono ?_
          rintro e w3 ⟨rfl, g3⟩
          have pw3 := pw.same g3
          go_wp2_with fail
          refine (RNN.out _ pw3).mono ?_
          rintro e w4 ⟨rfl, g4⟩
          have pw4 := pw3.same g4
          go_wp2
          go_ret
          exact FIN.out _ pw4.bel
        · have hmin : min ((k : Nat) : Int) 32 = (k : Int) := by omega
          have hki : (k : Int) < 32 := by omega
          have hki2 : (k : Int) ≤ 32 := by omega
          skip
          have HD := held_yes pw.pu (a := 0) (by decide)
          rw [show (((0 : Nat) : Int)) = 0 from rfl, LF_held] at HD
          have HDD := Lib.hid HD
          have qu : IntKind.u64.wrap ((k : Nat) : Int) = ((k : Nat) : Int) := u64_in _ (by omega)
          clear HD hm hlt
          obtain ⟨r, hr⟩ : ∃ r, a % k = r := ⟨_, rfl⟩
          have hrH : r < k := hr ▸ Nat.mod_lt _ (by omega)
          have dist := pw.pu.hm.dist
          have REL := fun v (c : PW n w p B mb 2 cap (FF k) (LF k) v) => rel_yes c.pu (i := ((r : Nat) : Int)) (ok_small (by omega) (by omega)) (k := 0) (y := 1) (LF_get hrH)
          have hF := FF_zero k
          have hlen := len_del (LF_get hrH)
          rw [LF_len] at hlen
          have RES := fun v (c : PW n w p B mb 2 cap (upF (FF k) 0 (FF k 0 + 1)) (delM (LF k) ((r : Nat) : Int)) v) => res_yes c.pu (a := 0) (by decide) (x := 2) (by decide) (by omega) (by rw [upF_same, hF]; omega)
          rw [LF_del_free hrH dist] at RES
          have e2 : (a : Int) % ((k : Nat) : Int) = (r : Int) := by rw [← hr]; rfl
          have e3 : Int.tmod (a : Int) ((k : Nat) : Int) = (r : Int) := by rw [← hr]; rfl
          have dH : (((k : Nat) : Int) == 0) = false := by simp <;> omega
          have qr : IntKind.i64.wrap (r : Int) = (r : Int) := IntWalk.i64_in _ (by omega)
          have RL := Lib.hid REL; have RS := Lib.hid RES
          clear REL RES hF hlen dist hr
          go_wp2_with fail
          refine (HDD.out).mono ?_
          rintro e w3 ⟨rfl, g3⟩
          have pw3 := pw.same g3
          clear g3 pw
          go_wp2_with fail
          ((with_reducible refine (RL.out _ pw3).mono ?_))
          rintro e w4 ⟨rfl, h1, h2⟩
          have pw4 := pw3.bt h1 h2
          clear h1 h2 pw3
          go_wp2_with fail
          refine (RS.out _ pw4).mono ?_
          rintro e w5 ⟨rfl, h1, h2⟩
          have pw5 := pw4.bt h1 h2
          clear h1 h2 pw4
          go_wp2
          go_ret
          exact FIN.out _ pw5.bel
      · subst hk
        rw [Nat.min_eq_left (Nat.le_refl _)] at pw
        skip
        have HD := held_yes pw.pu (a := 0) (by decide)
        rw [show (((0 : Nat) : Int)) = 0 from rfl, LF_held] at HD
        have HDD := Lib.hid HD
        have qu : IntKind.u64.wrap (32 : Int) = (32 : Int) := u64_in _ (by omega)
        clear HD hm hlt
        obtain ⟨r, hr⟩ : ∃ r, a % 32 = r := ⟨_, rfl⟩
        have hrH : r < 32 := hr ▸ Nat.mod_lt _ (by omega)
        have dist := pw.pu.hm.dist
        have REL := fun v (c : PW n w p B mb 2 cap (FF 32) (LF 32) v) => rel_yes c.pu (i := ((r : Nat) : Int)) (ok_small (by omega) (by omega)) (k := 0) (y := 1) (LF_get hrH)
        have hF := FF_zero 32
        have hlen := len_del (LF_get hrH)
        rw [LF_len] at hlen
        have RES := fun v (c : PW n w p B mb 2 cap (upF (FF 32) 0 (FF 32 0 + 1)) (delM (LF 32) ((r : Nat) : Int)) v) => res_yes c.pu (a := 0) (by decide) (x := 2) (by decide) (by omega) (by rw [upF_same, hF]; omega)
        rw [LF_del_free hrH dist] at RES
        have e2 : (a : Int) % (32 : Int) = (r : Int) := by rw [← hr]; rfl
        have e3 : Int.tmod (a : Int) (32 : Int) = (r : Int) := by rw [← hr]; rfl
        have dH : ((32 : Int) == 0) = false := by simp <;> omega
        have qr : IntKind.i64.wrap (r : Int) = (r : Int) := IntWalk.i64_in _ (by omega)
        have RL := Lib.hid REL; have RS := Lib.hid RES
        clear REL RES hF hlen dist hr
        go_wp2_with fail
        refine (HDD.out).mono ?_
        rintro e w3 ⟨rfl, g3⟩
        have pw3 := pw.same g3
        clear g3 pw
        go_wp2_with fail
        ((with_reducible refine (RL.out _ pw3).mono ?_))
        rintro e w4 ⟨rfl, h1, h2⟩
        have pw4 := pw3.bt h1 h2
        clear h1 h2 pw3
        go_wp2_with fail
        refine (RS.out _ pw4).mono ?_
        rintro e w5 ⟨rfl, h1, h2⟩
        have pw5 := pw4.bt h1 h2
        clear h1 h2 pw4
        go_wp2
        go_ret
        exact FIN.out _ pw5.bel
      · rw [Nat.min_eq_right (show 32 ≤ k by omega)] at pw
        have hmin : min ((k : Nat) : Int) 32 = 32 := by omega
        have hki : ¬ ((k : Int) ≤ 32) := by omega
        have hki2 : (32 : Int) < (k : Int) := by omega
        skip
        have HD := held_yes pw.pu (a := 0) (by decide)
        rw [show (((0 : Nat) : Int)) = 0 from rfl, LF_held] at HD
        have HDD := Lib.hid HD
        have qu : IntKind.u64.wrap (32 : Int) = (32 : Int) := u64_in _ (by omega)
        clear HD hm hlt
        obtain ⟨r, hr⟩ : ∃ r, a % 32 = r := ⟨_, rfl⟩
        have hrH : r < 32 := hr ▸ Nat.mod_lt _ (by omega)
        have dist := pw.pu.hm.dist
        have REL := fun v (c : PW n w p B mb 2 cap (FF 32) (LF 32) v) => rel_yes c.pu (i := ((r : Nat) : Int)) (ok_small (by omega) (by omega)) (k := 0) (y := 1) (LF_get hrH)
        have hF := FF_zero 32
        have hlen := len_del (LF_get hrH)
        rw [LF_len] at hlen
        have RES := fun v (c : PW n w p B mb 2 cap (upF (FF 32) 0 (FF 32 0 + 1)) (delM (LF 32) ((r : Nat) : Int)) v) => res_yes c.pu (a := 0) (by decide) (x := 2) (by decide) (by omega) (by rw [upF_same, hF]; omega)
        rw [LF_del_free hrH dist] at RES
        have e2 : (a : Int) % (32 : Int) = (r : Int) := by rw [← hr]; rfl
        have e3 : Int.tmod (a : Int) (32 : Int) = (r : Int) := by rw [← hr]; rfl
        have dH : ((32 : Int) == 0) = false := by simp <;> omega
        have qr : IntKind.i64.wrap (r : Int) = (r : Int) := IntWalk.i64_in _ (by omega)
        have RL := Lib.hid REL; have RS := Lib.hid RES
        clear REL RES hF hlen dist hr
        go_wp2_with fail
        refine (HDD.out).mono ?_
        rintro e w3 ⟨rfl, g3⟩
        have pw3 := pw.same g3
        clear g3 pw
        go_wp2_with fail
        ((with_reducible refine (RL.out _ pw3).mono ?_))
        rintro e w4 ⟨rfl, h1, h2⟩
        have pw4 := pw3.bt h1 h2
        clear h1 h2 pw3
        go_wp2_with fail
        refine (RS.out _ pw4).mono ?_
        rintro e w5 ⟨rfl, h1, h2⟩
        have pw5 := pw4.bt h1 h2
        clear h1 h2 pw4
        go_wp2
        go_ret
        exact FIN.out _ pw5.bel
theorem walk_PurseFull (a0 : Int) (w0 : (Lit.int .u8 a0).wf = true) (a1 : Int) (w1 : (Lit.int .u8 a1).wf = true) {W : World} : Calls Try.prog 6 #[.int .u8 a0, .int .u8 a1] W (Fine W) := by
  have h1 := RowK.wf_u8 w0
  have h2 := RowK.wf_u8 w1
  obtain ⟨z, rfl⟩ := Int.eq_ofNat_of_zero_le h1.1
  obtain ⟨a, rfl⟩ := Int.eq_ofNat_of_zero_le h2.1
  exact full_walk z a W (by omega) (by omega)
end Go.Proofs.Ytnnnbgndbmcffaa
