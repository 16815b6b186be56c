/- The walk of PurseTotal; the condition is that the rows are known. -/
import Derived.Test.YtnnnbgndbmcffaaPuJ
namespace Go.Proofs.Ytnnnbgndbmcffaa
open Go.RowKit
set_option linter.unusedVariables false

/-- the law's own purse, with what it has in all -/
structure PT (n : Nat) (w : World) (p B mb m cap : Nat) (S : Int) (v : World) : Prop where
  ex : ∃ f l, PW n w p B mb m cap f l v ∧ sumB f m + sumR l = S
section
variable {n p B mb m cap : Nat} {w v v' : World} {S : Int}
theorem PT.ge (c : PT n w p B mb m cap S v) : n ≤ v.heap.size := by obtain ⟨f, l, h, _⟩ := c.ex; exact h.ge
theorem PT.bel (c : PT n w p B mb m cap S v) : Below n w v := by obtain ⟨f, l, h, _⟩ := c.ex; exact h.bel
theorem PT.same (c : PT n w p B mb m cap S v) (hb : Below v.heap.size v v') : PT n w p B mb m cap S v' := by obtain ⟨f, l, h, hs⟩ := c.ex; exact ⟨f, l, h.same hb, hs⟩
theorem PT.alloc (c : PT n w p B mb m cap S v) (o : Obj) : PT n w p B mb m cap S (v.alloc o) := c.same ((Below.refl _ _).alloc (Nat.le_refl _) o)
theorem pt_total (c : PT n w p B mb m cap S v) : Calls Try.prog 36 #[.pointer (some ⟨p, 0, none⟩)] v fun e v' => e = .returned (.int .u64 S) ∧ PT n w p B mb m cap S v' := by
  obtain ⟨f, l, h, hs⟩ := c.ex
  refine (total_any h.pu).mono ?_
  rintro e v' ⟨rfl, hb⟩
  exact ⟨by rw [hs], c.same hb⟩
theorem pt_res (c : PT n w p B mb m cap S v) (a x : Int) (h0 : 0 ≤ x) (h1 : x ≤ 18446744073709551615) : Calls Try.prog 25 #[.pointer (some ⟨p, 0, none⟩), .int .i64 a, .int .u64 x] v fun e v' => (∃ u, e = .returned u) ∧ PT n w p B mb m cap S v' := by
  obtain ⟨f, l, h, hs⟩ := c.ex
  by_cases hE : resE m f l a x = 0
  · unfold resE at hE
    cases hin : inP m a
    · rw [hin] at hE; cases hE
    · rw [hin, if_pos rfl] at hE
      obtain ⟨k, hk, rfl⟩ := in_of hin
      rw [Int.toNat_natCast] at hE
      by_cases e0 : x = 0
      · rw [if_pos e0] at hE; cases hE
      · rw [if_neg e0] at hE
        by_cases e1 : 32 ≤ l.length
        · rw [if_pos e1] at hE; cases hE
        · rw [if_neg e1] at hE
          by_cases e2 : f k < x
          · rw [if_pos e2] at hE; cases hE
          · refine (res_yes h.pu hk (show 0 < x by omega) (by omega) (by omega)).mono ?_
            rintro e v' ⟨rfl, pu, bt⟩
            refine ⟨⟨_, rfl⟩, _, _, h.bt pu bt, ?_⟩
            rw [sumB_up, if_pos hk, sumR_app]
            show _ + (_ + (x + 0)) = S
            omega
  · refine (res_no h.pu a x h0 h1 hE).mono ?_
    rintro e v' ⟨rfl, rfl⟩
    exact ⟨⟨_, rfl⟩, c⟩
theorem pt_mov (c : PT n w p B mb m cap S v) (a b x : Int) (h0 : 0 ≤ x) : Calls Try.prog 38 #[.pointer (some ⟨p, 0, none⟩), .int .i64 a, .int .i64 b, .int .u64 x] v fun e v' => (∃ u, e = .returned u) ∧ PT n w p B mb m cap S v' := by
  obtain ⟨f, l, h, hs⟩ := c.ex
  by_cases hE : movE m f a b x = 0
  · unfold movE at hE
    cases ha : inP m a
    · rw [ha] at hE; cases hE
    · cases hb : inP m b
      · rw [ha, hb] at hE; cases hE
      · rw [ha, hb, if_pos (by rfl)] at hE
        obtain ⟨i, hi, rfl⟩ := in_of ha
        obtain ⟨j, hj, rfl⟩ := in_of hb
        rw [Int.toNat_natCast] at hE
        by_cases e0 : x = 0
        · rw [if_pos e0] at hE; cases hE
        · rw [if_neg e0] at hE
          by_cases e2 : f i < x
          · rw [if_pos e2] at hE; cases hE
          · refine (mov_yes h.pu hi hj (show 0 < x by omega) (by omega)).mono ?_
            rintro e v' ⟨rfl, pu, bt⟩
            refine ⟨⟨_, rfl⟩, _, _, h.bt pu bt, ?_⟩
            unfold movF
            rw [sumB_up, if_pos hj, sumB_up, if_pos hi]
            omega
  · refine (mov_no h.pu a b x h0 hE).mono ?_
    rintro e v' ⟨rfl, rfl⟩
    exact ⟨⟨_, rfl⟩, c⟩
theorem pt_rel (c : PT n w p B mb m cap S v) (i : Int) (h0 : -9223372036854775808 ≤ i) (h1 : i ≤ 9223372036854775807) : Calls Try.prog 27 #[.pointer (some ⟨p, 0, none⟩), .int .i64 i] v fun e v' => (∃ u, e = .returned u) ∧ PT n w p B mb m cap S v' := by
  obtain ⟨f, l, h, hs⟩ := c.ex
  cases hg : getM l i with
  | none =>
    refine (rel_no h.pu (ok_small h0 h1) hg).mono ?_
    rintro e v' ⟨rfl, hb⟩
    exact ⟨⟨_, rfl⟩, c.same hb⟩
  | some y =>
    obtain ⟨r, y⟩ := y
    obtain ⟨r0, r1, _, _⟩ := h.pu.inv.amt hg
    obtain ⟨k, hk⟩ := Int.eq_ofNat_of_zero_le r0
    have hk : r = (k : Int) := hk
    subst hk
    have hkm : k < m := by have : ((k : Nat) : Int) < (m : Int) := r1; omega
    refine (rel_yes h.pu (ok_small h0 h1) hg).mono ?_
    rintro e v' ⟨rfl, pu, bt⟩
    refine ⟨⟨_, rfl⟩, _, _, h.bt pu bt, ?_⟩
    have := sumR_del hg
    rw [sumB_up, if_pos hkm]
    have : sumR (delM l i) + y = sumR l := this
    omega
theorem pt_com (c : PT n w p B mb m cap S v) (i t : Int) (h0 : -9223372036854775808 ≤ i) (h1 : i ≤ 9223372036854775807) : Calls Try.prog 37 #[.pointer (some ⟨p, 0, none⟩), .int .i64 i, .int .i64 t] v fun e v' => (∃ u, e = .returned u) ∧ PT n w p B mb m cap S v' := by
  obtain ⟨f, l, h, hs⟩ := c.ex
  cases hg : getM l i with
  | none =>
    refine (com_none h.pu (ok_small h0 h1) hg t).mono ?_
    rintro e v' ⟨rfl, hb⟩
    exact ⟨⟨_, rfl⟩, c.same hb⟩
  | some y =>
    cases ht : inP m t
    · refine (com_out h.pu (ok_small h0 h1) hg ht).mono ?_
      rintro e v' ⟨rfl, hb⟩
      exact ⟨⟨_, rfl⟩, c.same hb⟩
    · obtain ⟨r, y⟩ := y
      obtain ⟨k, hk, rfl⟩ := in_of ht
      refine (com_yes h.pu (ok_small h0 h1) hg hk).mono ?_
      rintro e v' ⟨rfl, pu, bt⟩
      refine ⟨⟨_, rfl⟩, _, _, h.bt pu bt, ?_⟩
      have : sumR (delM l i) + y = sumR l := sumR_del hg
      rw [sumB_up, if_pos hk]
      omega
end

set_option maxRecDepth 100000 in
set_option maxHeartbeats 8000000 in
theorem total_walk (pa : Option Addr) (len cap : Nat) (zs : List Int) (A : Option Addr) (cap2 : Nat) (l : List Ac) (w : World) (hu : URow w pa len zs) (h1 : 1 ≤ len) (h2 : len ≤ 32) (h3 : zs.sum ≤ Am.mx) (hsl : RowK.SlAt w 4 Ac.cells A l) (hok : ∀ x ∈ l, x.ok) (hl : l.length ≤ 150) :
    Calls Try.prog 10 #[.slice pa len cap, .slice A l.length cap2] w (Fine w) := by
  obtain ⟨n, hn⟩ : ∃ n, w.heap.size = n := ⟨_, rfl⟩
  have HN := Lib.hid hn
  have hub := fun v (hv : Below n w v) => hu.below (hn.symm ▸ hv : Below w.heap.size w v)
  have nw := fun v (hv : Below n w v) => new_yes pa len cap zs v (hub v hv) h1 h2 h3
  have cell : ∃ bb off, pa = some ⟨bb, off, none⟩ ∧ ∀ v, Below n w v → ∀ j, j < len → v.cell? ⟨bb, off + j, none⟩ = some (.int .u64 (zs.getD j 0)) := by
    obtain ⟨bb, off, hp, hc⟩ := hu.cells
    refine ⟨bb, off, hp.resolve_left (by omega), fun v hv j hj => ?_⟩
    rw [hv.cell (p := ⟨bb, off + j, none⟩) (by rw [← hn]; exact World.block_lt_of_cell? w _ (hc j hj)), hc j hj]
  obtain ⟨bb, off, rfl, cell⟩ := cell
  have sh := fun v => pshown_any v
  have fin : ∀ v, Below n w v → Fine w (.returned (.bool true)) v := fun v hv => ⟨rfl, by rw [hn]; exact hv⟩
  have htot : sumB (fun i => zs.getD i 0) len = zs.sum := by have := sumB_list zs; rwa [hu.lens] at this
  have hpos : ∀ i, 0 ≤ zs.getD i 0 := fun i => by
    rw [List.getD_eq_getElem?_getD]
    cases hz : zs[i]? with
    | none => exact Int.le_refl _
    | some z => exact (hu.fits z (List.mem_of_getElem? hz)).1
  obtain ⟨f, hf⟩ : ∃ f : Nat → Int, (fun i => zs.getD i 0) = f := ⟨_, rfl⟩
  have hfz : ∀ j, zs.getD j 0 = f j := fun j => congrFun hf j
  simp only [hfz] at cell hpos
  rw [hf] at nw htot
  have hmx : sumB f len ≤ 1125899906842624 := by rw [htot]; exact h3
  have bb2 := fun k (hk : k ≤ len) => And.intro (sumB_nonneg hpos k) (Int.le_trans (sumB_mono hpos len k hk) hmx)
  have st : ∀ k, sumB f (k + 1) = sumB f k + f k := fun k => rfl
  have acts : ∀ k x, l[k]? = some x → ∃ b off, A = some ⟨b, off, none⟩ ∧ b < n ∧ ∀ v, Below n w v → v.rangeAt b (off + k * 4) x.cells := fun k x hx => act_at hsl hx hn
  have oks : ∀ k (h : k < l.length), ∃ x, l[k]? = some x ∧ x.ok := fun k h => ⟨l[k], List.getElem?_eq_getElem h, hok _ (List.getElem_mem h)⟩
  obtain ⟨S, hS⟩ : ∃ S, sumB f len = S := ⟨_, rfl⟩
  have pt : ∀ p B mb cap v, PW n w p B mb len cap f [] v → PT n w p B mb len cap S v := fun p B mb cap v h => ⟨f, [], h, by rw [hS]; show S + 0 = S; omega⟩
  obtain ⟨m, hm⟩ : ∃ m, l.length = m := ⟨_, rfl⟩
  rw [hm] at oks hl ⊢
  have NW := Lib.hid nw; have CELL := Lib.hid cell; have SH := Lib.hid sh; have FIN := Lib.hid fin; have BB := Lib.hid bb2; have ST := Lib.hid st; have ACTS := Lib.hid acts; have OKS := Lib.hid oks; have PTH := Lib.hid pt; have HSS := Lib.hid hS
  have B00 := Lib.hid (Below.refl n w)
  have d1 : decide ((40 : Int) < (len : Int)) = false := by simp; omega
  have d1' : decide (40 < len) = false := by simp; omega
  have d2 : decide ((150 : Int) < (m : Int)) = false := by simp; omega
  have d2' : decide (150 < m) = false := by simp; omega
  clear nw cell sh fin hub hu hf hfz h3 htot hpos hmx bb2 st acts oks hsl hok pt hS hm
  go_enter Try.func10, Try.ntmps10
  go_wp2_with fail
  refine (SH.out _).mono ?_
  rintro e w1 ⟨rfl, g1⟩
  have B1 := Lib.hid (show Below n w w1 by rw [hn] at g1; exact g1)
  have hn1 : n ≤ w1.heap.size := by rw [← hn]; exact g1.size
  clear hn g1
  go_wp2_with fail
  refine (NW.out _ B1.out).mono ?_
  rintro e w2 hnew
  obtain ⟨p, B, mb, cap1, rfl, pw⟩ := PW.of (q := 0) B1.out hn1 hnew
  have p2 := PTH.out _ _ _ _ _ pw
  clear hnew pw hn1
  go_wp2_with fail
  refine (pt_total p2).mono ?_
  rintro e w3 ⟨rfl, p3⟩
  clear p2
  have P3 := Lib.hid p3
  clear p3
  go_wp2
  go_loopg [9] m (fun g i v => ∃ k : Nat, g + k = m ∧ i = .int .i64 k ∧ PT n w p B mb len cap1 S v)
  case atStart => exact ⟨0, by omega, rfl, P3.out⟩
  case round =>
    obtain ⟨k, hg, rfl, pv⟩ := hrel
    clear P3
    have HG := Lib.hid hg
    clear hg
    have PV := Lib.hid pv
    clear pv
    by_cases hlt : k < m
    · obtain ⟨x, hx, hok⟩ := OKS.out k hlt
      obtain ⟨ab, ao, rfl, hab, hr⟩ := ACTS.out k x hx
      have rg := hr _ PV.out.bel
      have PA := Lib.hid (fun o => PV.out.alloc o)
      have KK := Lib.hid hok
      obtain ⟨K, a, b, y⟩ := x
      have g0 := KK.out.a0; have g1 := KK.out.a1; have g2 := KK.out.n0; have g3 := KK.out.n1
      simp only at g0 g1 g2 g3
      have c0 := rg 0 _ rfl; have c1 := rg 1 _ rfl; have c2 := rg 2 _ rfl; have c3 := rg 3 _ rfl
      rw [Nat.add_zero] at c0
      simp only at c0 c1 c2 c3
      have RES := Lib.hid (fun v (c : PT n w p B mb len cap1 S v) => pt_res c a y g2 g3)
      have COM := Lib.hid (fun v (c : PT n w p B mb len cap1 S v) => pt_com c a b g0 g1)
      have REL := Lib.hid (fun v (c : PT n w p B mb len cap1 S v) => pt_rel c a g0 g1)
      have MOV := Lib.hid (fun v (c : PT n w p B mb len cap1 S v) => pt_mov c a b y g2)
      clear hr hok hx g0 g1 g2 g3 rg
      have hfin : ∀ v, PT n w p B mb len cap1 S v → ∃ k' : Nat, m - (k + 1) + k' = m ∧ Value.int .i64 ((k : Int) + 1) = .int .i64 k' ∧ PT n w p B mb len cap1 S v := fun v h => ⟨k + 1, by have := HG.out; omega, by go_num, h⟩
      have HFIN := Lib.hid hfin
      clear hfin
      by_cases q0 : K = 0
      · subst q0
        go_wp2_with fail
        refine (RES.out _ (PA.out _)).mono ?_
        rintro e w4 ⟨⟨u, rfl⟩, p4⟩
        go_wp2_with fail
        refine (pt_total p4).mono ?_
        rintro e w5 ⟨rfl, p5⟩
        go_wp2
        go_roundg (m - (k + 1))
        case measure => have := HG.out; omega
        case rel => exact HFIN.out _ p5
      · have e0 : (K == 0) = false := by simpa using q0
        by_cases q1 : K = 1
        · subst q1
          go_wp2_with fail
          refine (RES.out _ (PA.out _)).mono ?_
          rintro e w4 ⟨⟨u, rfl⟩, p4⟩
          go_wp2_with fail
          refine (pt_total p4).mono ?_
          rintro e w5 ⟨rfl, p5⟩
          go_wp2
          go_roundg (m - (k + 1))
          case measure => have := HG.out; omega
          case rel => exact HFIN.out _ p5
        · have e1 : (K == 1) = false := by simpa using q1
          by_cases q2 : K = 2
          · subst q2
            go_wp2_with fail
            refine (COM.out _ (PA.out _)).mono ?_
            rintro e w4 ⟨⟨u, rfl⟩, p4⟩
            go_wp2_with fail
            refine (pt_total p4).mono ?_
            rintro e w5 ⟨rfl, p5⟩
            go_wp2
            go_roundg (m - (k + 1))
            case measure => have := HG.out; omega
            case rel => exact HFIN.out _ p5
          · have e2 : (K == 2) = false := by simpa using q2
            by_cases q3 : K = 3
            · subst q3
              go_wp2_with fail
              refine (COM.out _ (PA.out _)).mono ?_
              rintro e w4 ⟨⟨u, rfl⟩, p4⟩
              go_wp2_with fail
              refine (pt_total p4).mono ?_
              rintro e w5 ⟨rfl, p5⟩
              go_wp2
              go_roundg (m - (k + 1))
              case measure => have := HG.out; omega
              case rel => exact HFIN.out _ p5
            · have e3 : (K == 3) = false := by simpa using q3
              by_cases q4 : K = 4
              · subst q4
                go_wp2_with fail
                refine (REL.out _ (PA.out _)).mono ?_
                rintro e w4 ⟨⟨u, rfl⟩, p4⟩
                go_wp2_with fail
                refine (pt_total p4).mono ?_
                rintro e w5 ⟨rfl, p5⟩
                go_wp2
                go_roundg (m - (k + 1))
                case measure => have := HG.out; omega
                case rel => exact HFIN.out _ p5
              · have e4 : (K == 4) = false := by simpa using q4
                by_cases q5 : K = 5
                · subst q5
                  go_wp2_with fail
                  refine (MOV.out _ (PA.out _)).mono ?_
                  rintro e w4 ⟨⟨u, rfl⟩, p4⟩
                  go_wp2_with fail
                  refine (pt_total p4).mono ?_
                  rintro e w5 ⟨rfl, p5⟩
                  go_wp2
                  go_roundg (m - (k + 1))
                  case measure => have := HG.out; omega
                  case rel => exact HFIN.out _ p5
                · have e5 : (K == 5) = false := by simpa using q5
                  go_wp2_with fail
                  refine (pt_total (PA.out _)).mono ?_
                  rintro e w5 ⟨rfl, p5⟩
                  go_wp2
                  go_roundg (m - (k + 1))
                  case measure => have := HG.out; omega
                  case rel => exact HFIN.out _ p5
    · have hb := PV.out.bel
      have HB := Lib.hid hb
      clear PV hb
      obtain rfl : k = m := by have := HG.out; omega
      clear hlt
      obtain ⟨wo, rfl⟩ : ∃ wo : World, wo = wr := ⟨_, rfl⟩
      go_wp2
      go_loopw [11, 12] (fun s i v => ∃ j : Nat, j ≤ len ∧ i = .int .i64 j ∧ s = .int .u64 (sumB f j) ∧ v = wo) (fun _ i _ => len - (intOf i).toNat)
      case atStart => exact ⟨0, Nat.zero_le _, rfl, rfl, rfl⟩
      case round =>
        obtain ⟨j, hj, rfl, rfl, rfl⟩ := hrel
        by_cases hjl : j < len
        · have cb := CELL.out _ HB.out j hjl
          have b1 := BB.out j hj
          have b2 := BB.out (j + 1) hjl
          rw [ST.out] at b2
          have S1 := Lib.hid (ST.out j)
          generalize sumB f j = s at *
          generalize f j = y at *
          have qw : IntKind.u64.wrap (s + y) = s + y := u64_in _ (by omega)
          go_wp2
          go_roundw
          case rel => exact ⟨j + 1, by omega, by go_num, by rw [S1.out], trivial⟩
          case measure => simp [intOf]; omega
        · obtain rfl : j = len := by omega
          rw [HSS.out]
          go_wp2
          go_ret
          exact FIN.out _ HB.out

set_option maxRecDepth 100000 in
set_option maxHeartbeats 4000000 in
theorem total_none (pa : Option Addr) (len cap : Nat) (zs : List Int) (A : Option Addr) (m cap2 : Nat) (w : World) (hu : URow w pa len zs) (hl : len ≤ 40) (hm : m ≤ 150) (hn : len < 1 ∨ 32 < len ∨ ¬ zs.sum ≤ Am.mx) :
    Calls Try.prog 10 #[.slice pa len cap, .slice A m cap2] w (Fine w) := by
  obtain ⟨n, hn'⟩ : ∃ n, w.heap.size = n := ⟨_, rfl⟩
  have HN := Lib.hid hn'
  have hub := fun v (hv : Below n w v) => hu.below (hn'.symm ▸ hv : Below w.heap.size w v)
  have nw : ∀ v, Below n w v → Calls Try.prog 23 #[.slice pa len cap] v fun e w' => e = .returned (.pointer none) ∧ v = w' := fun v hv => by
    by_cases h : len < 1 ∨ 32 < len
    · exact new_out pa len cap v h
    · exact new_sum pa len cap zs v (hub v hv) (by omega) (by omega) (by rcases hn with h1 | h1 | h1 <;> first | exact h1 | omega)
  have rn := fun v (hv : Below n w v) => rnew_no pa len cap zs v (hub v hv) (by omega) hn
  have NW := Lib.hid nw; have RN := Lib.hid rn; have SH := Lib.hid (fun v => pshown_any v)
  have d1 : decide ((40 : Int) < (len : Int)) = false := by simp; omega
  have d1' : decide (40 < len) = false := by simp; omega
  have d2 : decide ((150 : Int) < (m : Int)) = false := by simp; omega
  have d2' : decide (150 < m) = false := by simp; omega
  have iK : (Try.prog.info? 50).map (·.size) = some ZP.size := by kernel_rfl
  have zK : Try.zeroCells50.size = ZP.size := by decide
  have oK : ZP.all (·.oneCell') = true := by kernel_rfl
  clear nw rn hub hu hl hm hn
  go_enter Try.func10, Try.ntmps10
  go_wp2_with fail
  refine (SH.out _).mono ?_
  rintro e w1 ⟨rfl, g1⟩
  rw [hn'] at g1
  have B1 := Lib.hid g1
  clear g1
  go_wp2_with fail
  refine (NW.out _ B1.out).mono ?_
  rintro e w2 ⟨rfl, rfl⟩
  go_wp2_with fail
  refine (RN.out _ B1.out).mono ?_
  rintro e w2 ⟨rfl, g2⟩
  have hs1 := B1.out.size
  have B2 := Lib.hid (B1.out.trans (g2.mono (by rw [HN.out] at hs1; exact hs1)))
  have hs2 : n ≤ w2.heap.size := by have := B2.out.size; rw [HN.out] at this; exact this
  obtain ⟨g, hg⟩ : ∃ g, w2.heap.size = g := ⟨_, rfl⟩
  have r1 : M.RowAt (w2.alloc (.cells Try.zeroCells50 50)) g 50 Try.zeroCells50 := hg ▸ M.RowAt.new w2 50 Try.zeroCells50
  have b3 := Lib.hid (M.below_setRow (cs := ZP) (B2.out.alloc hs2 (.cells Try.zeroCells50 50)) (show n ≤ g by omega))
  clear g2 hs1 hs2 hn'
  go_wp2_with (refine wpList_store_row (x := .tmp 6) (y := .tmp 33) (cells := ZP) (old := Try.zeroCells50) (t := 50) (ty := 50) (g := g) ?_ ?_ ?_ ?_ r1 iK zK oK ?_; rfl; rfl; rfl; rfl)
  go_ret
  exact ⟨rfl, by rw [HN.out]; exact b3.out⟩
set_option maxRecDepth 100000 in
theorem total_many (pa : Option Addr) (len cap : Nat) (A : Option Addr) (m cap2 : Nat) (w : World) (hb : 40 < len ∨ 150 < m) :
    Calls Try.prog 10 #[.slice pa len cap, .slice A m cap2] w (Fine w) := by
  have SH := Lib.hid (fun v => pshown_any v)
  by_cases h : 40 < len
  · have d1 : decide ((40 : Int) < (len : Int)) = true := by simp; omega
    have d1' : decide (40 < len) = true := by simp; omega
    go_enter Try.func10, Try.ntmps10
    go_wp2_with fail
    refine (SH.out _).mono ?_
    rintro e w1 ⟨rfl, g1⟩
    go_wp2
    go_ret
    exact ⟨rfl, g1⟩
  · have d1 : decide ((40 : Int) < (len : Int)) = false := by simp; omega
    have d1' : decide (40 < len) = false := by simp; omega
    have d2 : decide ((150 : Int) < (m : Int)) = true := by simp; omega
    have d2' : decide (150 < m) = true := by simp; omega
    go_enter Try.func10, Try.ntmps10
    go_wp2_with fail
    refine (SH.out _).mono ?_
    rintro e w1 ⟨rfl, g1⟩
    go_wp2
    go_ret
    exact ⟨rfl, g1⟩
open Go.ChangeShapes Go.WideShapes in
set_option maxRecDepth 100000 in
theorem walk_PurseTotal {H : Type} {enc : TypeId × Value → H} {W : World} {base : Nat} (b0 : Option Addr) (len0 cap0 : Nat) (z0 : List Int) (w0 : RowK.IsRow .u64 W b0 len0 cap0 z0) (v : Value) (d : DataW H) (p : List MemPlace) (hval : Value.okWide Try.prog W .any base 45 v)
    (h : DataW.Trod enc Try.prog W 0 (fun _ => true) true 45 v d p) : Calls Try.prog 10 #[.slice b0 len0 cap0, v] W (Fine W) := by
  obtain ⟨A, cap, l, rfl, h1, h2, h3, h4⟩ := RowK.sl_of_trod Ac.cells Ac.ok Try.underlying45 (size := 4) (by kernel_rfl) (by decide) act_of_trod hval h
  have hu := urow_of w0
  by_cases hm : 40 < len0 ∨ 150 < l.length
  · exact total_many b0 len0 cap0 A l.length cap W hm
  · by_cases hb : len0 < 1 ∨ 32 < len0 ∨ ¬ (z0.take len0).sum ≤ Am.mx
    · exact total_none b0 len0 cap0 _ A l.length cap W hu (by omega) (by omega) hb
    · exact total_walk b0 len0 cap0 _ A cap l W hu (by omega) (by omega) (Decidable.not_not.1 fun h => hb (.inr (.inr h))) h4 h3 (by omega)
end Go.Proofs.Ytnnnbgndbmcffaa
