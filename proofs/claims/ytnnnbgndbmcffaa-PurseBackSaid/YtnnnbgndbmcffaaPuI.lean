/- The walk of PurseBack; the condition is that the row of balances is known. -/
import Derived.Test.YtnnnbgndbmcffaaPuH
namespace Go.Proofs.Ytnnnbgndbmcffaa
open Go.RowKit
set_option linter.unusedVariables false

/-- two purses of the law's own, the second one newer -/
structure P2 (n : Nat) (w : World) (m : Nat) (p B mb cap : Nat) (f : Nat → Int) (l : Res) (q C mc cap2 : Nat) (g : Nat → Int) (v : World) : Prop where
  p1 : Pu p B mb m cap f l v
  p2 : Pu q C mc m cap2 g [] v
  bel : Below n w v
  ge : n ≤ p ∧ n ≤ B ∧ n ≤ mb
  sep : ∀ x, (x = p ∨ x = B ∨ x = mb) → x < q ∧ x < C ∧ x < mc
section
variable {n m p B mb cap q C mc cap2 : Nat} {w v v' : World} {f f' g g' : Nat → Int} {l l' : Res}
theorem P2.gv (c : P2 n w m p B mb cap f l q C mc cap2 g v) : n ≤ v.heap.size := by have := c.p1.hp.lt; have := c.ge.1; omega
theorem P2.same (c : P2 n w m p B mb cap f l q C mc cap2 g v) (hb : Below v.heap.size v v') : P2 n w m p B mb cap f l q C mc cap2 g v' :=
  ⟨c.p1.same hb, c.p2.same hb, c.bel.trans (hb.mono c.gv), c.ge, c.sep⟩
theorem P2.bt1 (c : P2 n w m p B mb cap f l q C mc cap2 g v) (pu : Pu p B mb m cap f' l' v') (hb : Bt [B, mb] v v') : P2 n w m p B mb cap f' l' q C mc cap2 g v' := by
  have h1 := c.sep B (by simp); have h2 := c.sep mb (by simp)
  refine ⟨pu, c.p2.bt hb (by simp; omega) (by simp; omega) (by simp; omega), hb.below c.bel (fun k hk => by simp at hk; rcases hk with rfl | rfl; exact c.ge.2.1; exact c.ge.2.2) c.gv, c.ge, c.sep⟩
theorem P2.bt2 (c : P2 n w m p B mb cap f l q C mc cap2 g v) (pu : Pu q C mc m cap2 g' [] v') (hb : Bt [C, mc] v v') : P2 n w m p B mb cap f l q C mc cap2 g' v' := by
  have h0 := c.sep p (by simp); have h1 := c.sep B (by simp); have h2 := c.sep mb (by simp)
  refine ⟨c.p1.bt hb (by simp; omega) (by simp; omega) (by simp; omega), pu, hb.below c.bel (fun k hk => by simp at hk; have := c.ge; rcases hk with rfl | rfl <;> omega) c.gv, c.ge, c.sep⟩
theorem P2.of {e : Ending} (c : PW n w p B mb m cap f [] v) (h : NewYes v m g e v') : ∃ q C mc cap2, e = .returned (.pointer (some ⟨q, 0, none⟩)) ∧ P2 n w m p B mb cap f [] q C mc cap2 g v' := by
  obtain ⟨q, C, mc, cap2, he, hp, hb, h1, h2, h3⟩ := h
  obtain ⟨cur, hr, _⟩ := c.pu.hB
  have a1 := c.pu.hp.lt; have a2 := hr.lt; have a3 := c.pu.hm.lt
  exact ⟨q, C, mc, cap2, he, c.pu.same hb, hp, c.bel.trans (hb.mono c.ge), ⟨c.gp, c.gB, c.gm⟩, fun x hx => by rcases hx with rfl | rfl | rfl <;> omega⟩
end
theorem upF_back (f : Nat → Int) (x : Nat) (n : Int) : upF (upF f x (f x - n)) x (upF f x (f x - n) x + n) = f := by
  funext i
  by_cases h : i = x
  · subst h; rw [upF_same, upF_same]; omega
  · rw [upF_ne _ h, upF_ne _ h]

set_option maxRecDepth 100000 in
set_option maxHeartbeats 8000000 in
theorem back_walk (pa : Option Addr) (len cap : Nat) (zs : List Int) (a b : Nat) (x : Int) (w : World) (hu : URow w pa len zs) (h1 : 1 ≤ len) (h2 : len ≤ 32) (h3 : zs.sum ≤ Am.mx) (ha : a < 256) (hb : b < 256) (hx : 0 ≤ x) (hx2 : x ≤ 18446744073709551615) :
    Calls Try.prog 11 #[.slice pa len cap, .int .u8 (a : Nat), .int .u8 (b : Nat), .int .u64 x] w (Fine w) := by
  obtain ⟨n, hn⟩ : ∃ n, w.heap.size = n := ⟨_, rfl⟩
  have HN := Lib.hid hn
  have hub := fun v (hv : Below n w v) => hu.below (hn.symm ▸ hv : Below w.heap.size w v)
  have nw := fun v (hv : Below n w v) => new_yes pa len cap zs v (hub v hv) h1 h2 h3
  have cell : ∃ bb off, pa = some ⟨bb, off, none⟩ ∧ ∀ v, Below n w v → ∀ j, j < len → v.cell? ⟨bb, off + j, none⟩ = some (.int .u64 (zs.getD j 0)) := by
    obtain ⟨bb, off, hp, hc⟩ := hu.cells
    refine ⟨bb, off, hp.resolve_left (by omega), fun v hv j hj => ?_⟩
    rw [hv.cell (p := ⟨bb, off + j, none⟩) (by rw [← hn]; exact World.block_lt_of_cell? w _ (hc j hj)), hc j hj]
  obtain ⟨bb, off, rfl, cell⟩ := cell
  have sh := fun v => pshown_any v
  obtain ⟨s, hs⟩ : ∃ s, a % len = s := ⟨_, rfl⟩
  obtain ⟨t, ht⟩ : ∃ t, b % len = t := ⟨_, rfl⟩
  have hsl : s < len := hs ▸ Nat.mod_lt _ (by omega)
  have htl : t < len := ht ▸ Nat.mod_lt _ (by omega)
  have es : (a : Int) % (len : Int) = (s : Int) := by rw [← hs]; rfl
  have es' : Int.tmod (a : Int) (len : Int) = (s : Int) := by rw [← hs]; rfl
  have et : (b : Int) % (len : Int) = (t : Int) := by rw [← ht]; rfl
  have et' : Int.tmod (b : Int) (len : Int) = (t : Int) := by rw [← ht]; rfl
  have qa : IntKind.i64.wrap (a : Int) = a := IntWalk.i64_in _ (by omega)
  have qb : IntKind.i64.wrap (b : Int) = b := IntWalk.i64_in _ (by omega)
  have qs : IntKind.i64.wrap (s : Int) = s := IntWalk.i64_in _ (by omega)
  have qt : IntKind.i64.wrap (t : Int) = t := IntWalk.i64_in _ (by omega)
  have dl : ((len : Int) == 0) = false := by simp; omega
  have fin : ∀ v, Below n w v → Fine w (.returned (.bool true)) v := fun v hv => ⟨rfl, by rw [hn]; exact hv⟩
  obtain ⟨f, hf⟩ : ∃ f : Nat → Int, (fun i => zs.getD i 0) = f := ⟨_, rfl⟩
  have hfz : ∀ j, zs.getD j 0 = f j := fun j => congrFun hf j
  simp only [hfz] at cell
  rw [hf] at nw
  have NW := Lib.hid nw; have CELL := Lib.hid cell; have SH := Lib.hid sh; have FIN := Lib.hid fin
  have sl3 : (s : Int) < len := by omega
  have B00 := Lib.hid (Below.refl n w)
  clear nw cell sh fin hs ht hub hu hf hfz h3
  go_enter Try.func11, Try.ntmps11
  go_wp2_with fail
  refine (NW.out _ B00.out).mono ?_
  rintro e w1 hnew
  obtain ⟨p, B, mb, cap1, rfl, pw⟩ := PW.of (q := 0) B00.out (by rw [hn]; exact Nat.le_refl _) hnew
  clear hnew hn
  go_wp2_with fail
  refine (NW.out _ pw.bel).mono ?_
  rintro e w2 hnew
  obtain ⟨q, C, mc, cap2, rfl, pq⟩ := P2.of pw hnew
  clear hnew pw
  go_wp2_with fail
  refine (SH.out _).mono ?_
  rintro e w3 ⟨rfl, g3⟩
  have p3 := pq.same g3
  clear pq g3
  by_cases hE : resE len f [] (s : Nat) x = 0
  · have hin : inP len (s : Nat) = true := by unfold inP; simp; omega
    have hx0 : 0 < x ∧ x ≤ f s := by
      unfold resE at hE
      rw [hin, if_pos rfl, Int.toNat_natCast] at hE
      by_cases e0 : x = 0
      · rw [if_pos e0] at hE; cases hE
      · rw [if_neg e0, if_neg (by decide)] at hE
        by_cases e1 : f s < x
        · rw [if_pos e1] at hE; cases hE
        · omega
    obtain ⟨x0, xf⟩ := hx0
    have R1 := res_yes p3.p1 hsl x0 (by decide) xf
    rw [show freeM ([] : Res) = 0 from rfl] at R1
    have R1' : Calls Try.prog 25 #[.pointer (some ⟨p, 0, none⟩), .int .i64 (s : Nat), .int .u64 x] w3 fun e w' => e = .returned (.tuple #[.int .i64 0, .int .i64 0]) ∧ Pu p B mb len cap1 (upF f s (f s - x)) [((0 : Int), ((s : Nat) : Int), x)] w' ∧ Bt [B, mb] w3 w' := R1
    have RR1 := Lib.hid R1'
    have bal := p3.p1.inv.bal hsl
    have f0 := p3.p1.inv.pos s
    have R8 : ∀ v, Pu p B mb len cap1 f [] v → Calls Try.prog 25 #[.pointer (some ⟨p, 0, none⟩), .int .i64 (s : Nat), .int .u64 x] v fun e w' => e = .returned (.tuple #[.int .i64 0, .int .i64 0]) ∧ Pu p B mb len cap1 (upF f s (f s - x)) [((0 : Int), ((s : Nat) : Int), x)] w' ∧ Bt [B, mb] v w' := fun v c => res_yes c hsl x0 (by decide) xf
    have R2 := fun v (c : Pu q C mc len cap2 f [] v) => mov_yes c hsl htl x0 xf
    have R3 : ∀ v, Pu p B mb len cap1 (upF f s (f s - x)) [((0 : Int), ((s : Nat) : Int), x)] v → Calls Try.prog 26 #[.pointer (some ⟨p, 0, none⟩), .int .i64 (s : Nat)] v fun e w' => e = .returned (.tuple #[.int .u64 x, .int .i64 0]) ∧ Below v.heap.size v w' := fun v c => by
      have := held_yes c hsl
      rwa [show heldR ((s : Nat) : Int) [((0 : Int), ((s : Nat) : Int), x)] = x by show (if ((s : Nat) : Int) = ((s : Nat) : Int) then x else 0) + 0 = x; rw [if_pos rfl]; omega] at this
    have R4 : ∀ v, Pu p B mb len cap1 (upF f s (f s - x)) [((0 : Int), ((s : Nat) : Int), x)] v → Calls Try.prog 39 #[.pointer (some ⟨p, 0, none⟩), .int .i64 (s : Nat)] v fun e w' => e = .returned (.tuple #[.int .u64 (f s - x), .int .i64 0]) ∧ v = w' := fun v c => by
      have := bal_yes c hsl
      rwa [upF_same] at this
    have g0 : getM [((0 : Int), ((s : Nat) : Int), x)] (0 : Int) = some (((s : Nat) : Int), x) := rfl
    have d0 : delM [((0 : Int), ((s : Nat) : Int), x)] (0 : Int) = [] := rfl
    have R5 : ∀ v, Pu p B mb len cap1 (upF f s (f s - x)) [((0 : Int), ((s : Nat) : Int), x)] v → Calls Try.prog 27 #[.pointer (some ⟨p, 0, none⟩), .int .i64 0] v fun e w' => e = .returned (.int .i64 0) ∧ Pu p B mb len cap1 f [] w' ∧ Bt [B, mb] v w' := fun v c => by
      have := rel_yes c (ok_small (by decide) (by decide)) g0
      rwa [upF_back, d0] at this
    have R6 : ∀ v, Pu p B mb len cap1 f [] v → Calls Try.prog 27 #[.pointer (some ⟨p, 0, none⟩), .int .i64 0] v fun e w' => e = .returned (.int .i64 1) ∧ Below v.heap.size v w' := fun v c => rel_no c (ok_small (by decide) (by decide)) rfl
    have R7 := fun v (c : Pu p B mb len cap1 f [] v) => bal_yes c hsl
    have R9 : ∀ v, Pu p B mb len cap1 (upF f s (f s - x)) [((0 : Int), ((s : Nat) : Int), x)] v → Calls Try.prog 37 #[.pointer (some ⟨p, 0, none⟩), .int .i64 0, .int .i64 (t : Nat)] v fun e w' => e = .returned (.int .i64 0) ∧ Pu p B mb len cap1 (movF f s t x) [] w' ∧ Bt [B, mb] v w' := fun v c => by
      have := com_yes c (ok_small (by decide) (by decide)) g0 htl
      rwa [d0] at this
    have RA := fun v (c : Pu p B mb len cap1 (movF f s t x) [] v) j (hj : j < len) => bal_yes c hj
    have RB := fun v (c : Pu q C mc len cap2 (movF f s t x) [] v) j (hj : j < len) => bal_yes c hj
    have H2 := Lib.hid R2; have H3 := Lib.hid R3; have H4 := Lib.hid R4; have H5 := Lib.hid R5; have H6 := Lib.hid R6; have H7 := Lib.hid R7; have H8 := Lib.hid R8; have H9 := Lib.hid R9; have HA := Lib.hid RA; have HB := Lib.hid RB
    generalize movF f s t x = fm at *
    generalize hfs : f s = z at *
    have HFS := Lib.hid hfs
    have qw : IntKind.u64.wrap (z - x) = z - x := u64_in _ (by omega)
    clear R1 R1' R2 R3 R4 R5 R6 R7 R8 R9 RA RB g0 d0 hE hin hfs
    go_wp2_with fail
    refine (RR1.out).mono ?_
    rintro e w4 ⟨rfl, pu, bt⟩
    have p4 := p3.bt1 pu bt
    clear p3 pu bt
    go_wp2_with fail
    refine (H2.out _ p4.p2).mono ?_
    rintro e w5 ⟨rfl, pu, bt⟩
    have p5 := p4.bt2 pu bt
    clear p4 pu bt
    go_wp2_with fail
    refine (H3.out _ p5.p1).mono ?_
    rintro e w6 ⟨rfl, gq⟩
    have p6 := p5.same gq
    clear p5 gq
    go_wp2_with fail
    refine (H4.out _ p6.p1).mono ?_
    rintro e w7 ⟨rfl, rfl⟩
    have c6 := CELL.out _ p6.bel s hsl
    rw [HFS.out] at c6
    go_wp2_with fail
    refine (H5.out _ p6.p1).mono ?_
    rintro e w7 ⟨rfl, pu, bt⟩
    have p7 := p6.bt1 pu bt
    clear p6 pu bt c6
    go_wp2_with fail
    refine (H6.out _ p7.p1).mono ?_
    rintro e w8 ⟨rfl, gq⟩
    have p8 := p7.same gq
    clear p7 gq
    go_wp2_with fail
    refine (H7.out _ p8.p1).mono ?_
    rintro e w9 ⟨rfl, rfl⟩
    go_wp2_with fail
    refine (H8.out _ p8.p1).mono ?_
    rintro e w9 ⟨rfl, pu, bt⟩
    have p9 := p8.bt1 pu bt
    clear p8 pu bt
    have c9 := CELL.out _ p9.bel s hsl
    rw [HFS.out] at c9
    go_wp2_with fail
    refine (H9.out _ p9.p1).mono ?_
    rintro e w10 ⟨rfl, pu, bt⟩
    have p10 := p9.bt1 pu bt
    clear p9 pu bt c9
    go_wp2
    go_loopg [24] len (fun g i v => ∃ k : Nat, g + k = len ∧ i = .int .i64 k ∧ v = w10)
    case atStart => exact ⟨0, by omega, rfl, rfl⟩
    case round =>
      obtain ⟨k, hg, rfl, rfl⟩ := hrel
      have HG := Lib.hid hg
      clear hg
      by_cases hlt : k < len
      · have r1 := HA.out _ p10.p1 k hlt
        have r2 := HB.out _ p10.p2 k hlt
        have Q1 := Lib.hid r1; have Q2 := Lib.hid r2
        generalize fm k = y at *
        clear r1 r2
        go_wp2_with fail
        refine (Q1.out).mono ?_
        rintro e w11 ⟨rfl, rfl⟩
        go_wp2_with fail
        refine (Q2.out).mono ?_
        rintro e w11 ⟨rfl, rfl⟩
        go_wp2
        go_roundg (len - (k + 1))
        case measure => have := HG.out; omega
        case rel => exact ⟨k + 1, by have := HG.out; omega, by go_num, by first | rfl | trivial⟩
      · have hb10 := Lib.hid p10.bel
        clear p10
        go_wp2
        go_ret
        exact FIN.out _ hb10.out
  · have hM : movE len f (s : Nat) (t : Nat) x = resE len f [] (s : Nat) x := by
      unfold movE resE
      rw [show inP len (s : Nat) = true by unfold inP; simp; omega, show inP len (t : Nat) = true by unfold inP; simp; omega]
      simp
    have R1 := res_no p3.p1 (s : Nat) x hx hx2 hE
    have R2 := mov_no p3.p2 (s : Nat) (t : Nat) x hx (by rw [hM]; exact hE)
    have R3 := bal_yes p3.p1 hsl
    rw [hM] at R2
    have c3 := CELL.out _ p3.bel s hsl
    generalize resE len f [] (s : Nat) x = E at *
    have dE : (E == 0) = false := by simpa using hE
    have RR1 := Lib.hid R1; have RR2 := Lib.hid R2; have RR3 := Lib.hid R3
    have BB := Lib.hid p3.bel
    clear R1 R2 R3 hM p3
    go_wp2_with fail
    refine (RR1.out).mono ?_
    rintro e w4 ⟨rfl, rfl⟩
    go_wp2_with fail
    refine (RR2.out).mono ?_
    rintro e w4 ⟨rfl, rfl⟩
    go_wp2_with fail
    refine (RR3.out).mono ?_
    rintro e w4 ⟨rfl, rfl⟩
    go_wp2
    go_ret
    exact FIN.out _ BB.out

set_option maxRecDepth 100000 in
theorem back_none (pa : Option Addr) (len cap : Nat) (a b x : Int) (w : World) (nw : ∀ v, Below w.heap.size w v → Calls Try.prog 23 #[.slice pa len cap] v fun e w' => e = .returned (.pointer none) ∧ v = w') :
    Calls Try.prog 11 #[.slice pa len cap, .int .u8 a, .int .u8 b, .int .u64 x] w (Fine w) := by
  have NW := Lib.hid (nw w (Below.refl _ _))
  have SH := Lib.hid (fun v => pshown_any v)
  clear nw
  go_enter Try.func11, Try.ntmps11
  go_wp2_with fail
  refine (NW.out).mono ?_
  rintro e w1 ⟨rfl, rfl⟩
  go_wp2_with fail
  refine (NW.out).mono ?_
  rintro e w1 ⟨rfl, rfl⟩
  go_wp2_with fail
  refine (SH.out _).mono ?_
  rintro e w1 ⟨rfl, g1⟩
  go_wp2
  go_ret
  exact ⟨rfl, g1⟩
theorem walk_PurseBack (b0 : Option Addr) (len0 cap0 : Nat) (z0 : List Int) {W : World} (w0 : RowK.IsRow .u64 W b0 len0 cap0 z0) (a1 : Int) (w1 : (Lit.int .u8 a1).wf = true) (a2 : Int) (w2 : (Lit.int .u8 a2).wf = true) (a3 : Int) (w3 : (Lit.int .u64 a3).wf = true) :
    Calls Try.prog 11 #[.slice b0 len0 cap0, .int .u8 a1, .int .u8 a2, .int .u64 a3] W (Fine W) := by
  have hu := urow_of w0
  have h1 := RowK.wf_u8 w1
  have h2 := RowK.wf_u8 w2
  have h3 := RowK.wf_u64 w3
  obtain ⟨a, rfl⟩ := Int.eq_ofNat_of_zero_le h1.1
  obtain ⟨b, rfl⟩ := Int.eq_ofNat_of_zero_le h2.1
  by_cases hl : len0 < 1 ∨ 32 < len0
  · exact back_none b0 len0 cap0 _ _ _ W (fun v _ => new_out b0 len0 cap0 v hl)
  · by_cases hs : (z0.take len0).sum ≤ Am.mx
    · exact back_walk b0 len0 cap0 _ a b a3 W hu (by omega) (by omega) hs (by omega) (by omega) h3.1 h3.2
    · exact back_none b0 len0 cap0 _ _ _ W (fun v hv => new_sum b0 len0 cap0 _ v (hu.below hv) (by omega) (by omega) hs)
end Go.Proofs.Ytnnnbgndbmcffaa
