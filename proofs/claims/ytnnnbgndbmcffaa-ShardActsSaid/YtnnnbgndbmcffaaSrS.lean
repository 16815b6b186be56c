/- What played leaves: a bank behind some acts, and the acts that began its tasks; the condition is that the rows are known. -/
import Derived.Test.YtnnnbgndbmcffaaSrR
namespace Go.Proofs.Ytnnnbgndbmcffaa
open Go.RowKit
set_option linter.unusedVariables false

theorem info84 : (Try.prog.info? 84).map (fun i => (i.zero, i.size, i.bytes)) = some (some (.agg #[.int .i64 0, .int .i64 0, .int .i64 0, .int .u64 0]), 4, 32) := by kernel_rfl
theorem build84 (w : World) : (Instr.build 84 #[(1, .int .i64 (-1))]).run Try.prog w = .ok (.agg #[.int .i64 0, .int .i64 (-1), .int .i64 0, .int .u64 0]) w := by kernel_rfl
def flatA (l : List Ac) : List Value := l.flatMap Ac.cells
theorem flatA_snoc (l : List Ac) (x : Ac) : flatA (l ++ [x]) = flatA l ++ x.cells := by unfold flatA; rw [List.flatMap_append]; simp
/-- the slice of the tasks' acts -/
def OwA (tv : Value) (S : BS) : Ow := ⟨84, 4, tv, S.acts.length, flatA S.acts⟩
theorem acts_len (S : BS) : S.acts.length = S.tl.length := by simp [BS.acts]
theorem cells_one (x : Ac) : ∀ u ∈ x.cells, u.oneCell' = true := fun u hu => by
  simp [Ac.cells] at hu; rcases hu with rfl | rfl | rfl | rfl <;> rfl
/-- played's post -/
def Played (n : Nat) (w : World) (S : BS) (e : Ending) (w' : World) : Prop := ∃ b a c, e = .returned (.tuple #[.pointer (some ⟨b, 0, none⟩), .slice a S.acts.length c]) ∧ LW n w b S [] [OwA (.slice a S.acts.length c) S] w'
theorem LW.pushed {n : Nat} {w v v' : World} {b : Nat} {S S' : BS} {tv u : Value} {x : Ac} (h : LW n w b S' [] [OwA tv S] v) (ho : v'.ownsRow n 84 4 u (S.acts.length + 1) (flatA S.acts ++ x.cells)) (hg : v.grownBy v' tv.ownBlock) (hs : u.ownBlock = tv.ownBlock ∨ ∀ g, u.ownBlock = some g → v.heap.size ≤ g)
    (ha : S'.acts = S.acts ++ [x]) : LW n w b S' [] [OwA u S'] v' := by
  have := h.grow (o := OwA tv S) ho hg hs (fun x hx => by cases hx) (fun o ho => by cases ho)
  unfold OwA
  rw [ha, flatA_snoc, List.length_append]
  exact this
set_option maxRecDepth 100000 in
set_option maxHeartbeats 8000000 in
theorem played_yes (pa : Option Addr) (len cap : Nat) (zs : List Int) (A : Option Addr) (cap2 : Nat) (l : List Ac) (w : World) (hu : URow w pa len zs) (h1 : 1 ≤ len) (h2 : len ≤ 32) (h3 : zs.sum ≤ Am.mx) (hsl : RowK.SlAt w 4 Ac.cells A l) (hok : ∀ x ∈ l, x.ok) (hl : l.length ≤ 200) :
    Calls Try.prog 46 #[.slice pa len cap, .slice A l.length cap2] w (Played w.heap.size w ((BS.new len fun i => zs.getD i 0).play l)) := by
  obtain ⟨n, hn⟩ : ∃ n, w.heap.size = n := ⟨_, rfl⟩
  rw [hn]
  have NW := Lib.hid (bnew_yes pa len cap zs w hu h1 h2 h3)
  have acts : ∀ k x, l[k]? = some x → ∃ b off, A = some ⟨b, off, none⟩ ∧ b < n ∧ ∀ v, Below n w v → v.rangeAt b (off + k * 4) x.cells := fun k x hx => act_at hsl hx hn
  have oks : ∀ k (h : k < l.length), ∃ x, l[k]? = some x ∧ x.ok := fun k h => ⟨l[k], List.getElem?_eq_getElem h, hok _ (List.getElem_mem h)⟩
  obtain ⟨S0, hS0⟩ : ∃ S0, BS.new len (fun i => zs.getD i 0) = S0 := ⟨_, rfl⟩
  rw [hS0]
  obtain ⟨i0, hi, hz0, hz1, hz2⟩ := info_parts info84
  have new : ∀ e w', NewBk len (fun i => zs.getD i 0) w e w' → ∃ b, e = .returned (.pointer (some ⟨b, 0, none⟩)) ∧ LW n w b S0 [] [] w' := fun e w' h => by
    have := lw_new (n := n) (Below.refl n w) (by omega) h
    rw [hS0] at this; exact this
  have S0a : S0.acts = [] := by rw [← hS0]; rfl
  obtain ⟨m, hm⟩ : ∃ m, l.length = m := ⟨_, rfl⟩
  have tk : ∀ k x, l[k]? = some x → S0.play (l.take (k + 1)) = (S0.play (l.take k)).doA x := fun k x hx => by rw [List.take_add_one, hx]; exact play_snoc _ _ _
  have tm : S0.play (l.take m) = S0.play l := by rw [← hm, List.take_length]
  have t0 : S0.play (l.take 0) = S0 := rfl
  have hb0 := build84
  rw [hm] at oks hl ⊢
  have ACTS := Lib.hid acts; have OKS := Lib.hid oks; have NEW := Lib.hid new; have TK := Lib.hid tk; have TM := Lib.hid tm; have T0 := Lib.hid t0; have SA := Lib.hid S0a
  clear acts oks new tk tm t0 S0a hu h1 h2 h3 hsl hok hm hS0 hn
  go_enter Try.func46, Try.ntmps46
  go_wp2_with fail
  refine (NW.out).mono ?_
  rintro e w1 hnew
  obtain ⟨b, rfl, lw1⟩ := NEW.out _ _ hnew
  have LW1 := Lib.hid (lw1.copied (t := 84) (sz := 4) (World.ownsRow_lit (base := w1.heap.size) (e := 84) (size := 4) w1 #[] 0 (Nat.le_refl _) (by unfold maxLen; omega) rfl) ((Below.refl _ _).alloc (Nat.le_refl _) _))
  clear hnew lw1 NW NEW
  go_wp2
  go_loopg [7, 8] m (fun mm tv i v => ∃ (k : Nat) (S : BS) (a : Option Addr) (c : Nat), mm + k = m ∧ i = .int .i64 k ∧ S = S0.play (l.take k) ∧ tv = .slice a S.acts.length c ∧ LW n w b S [] [OwA (.slice a S.acts.length c) S] v)
  case atStart => exact ⟨0, S0, some ⟨w1.heap.size, 0, none⟩, 0, by omega, rfl, T0.out.symm, by rw [SA.out]; rfl, by unfold OwA; rw [SA.out]; exact LW1.out⟩
  case round =>
    clear LW1
    obtain ⟨k, S, a, c, hk, rfl, hS, rfl, lw⟩ := hrel
    have HK := Lib.hid hk; have HS := Lib.hid hS
    clear hk hS
    by_cases hlt : k < m
    · obtain ⟨x, hx, xok⟩ := OKS.out k hlt
      obtain ⟨ab, ao, rfl, hab, hr⟩ := ACTS.out k x hx
      have rg := hr _ lw.bel
      have DO := Lib.hid (TK.out k x hx)
      rw [← HS.out] at DO
      obtain ⟨K, xa, xb, y⟩ := x
      have g2 := xok.n0
      simp only at g2
      have c0 := rg 0 _ rfl; have c1 := rg 1 _ rfl; have c2 := rg 2 _ rfl; have c3 := rg 3 _ rfl
      rw [Nat.add_zero] at c0
      simp only at c0 c1 c2 c3
      have lwn := lw.new 84 #[.int .i64 K, .int .i64 xa, .int .i64 xb, .int .u64 y]
      obtain ⟨gx, hgx⟩ : ∃ gx, wr.heap.size = gx := ⟨_, rfl⟩
      rw [hgx] at lwn
      have LWN := Lib.hid lwn; have HGX := Lib.hid hgx
      have sal : S.acts.length ≤ 32 := by rw [acts_len]; exact lw.ok.t32
      have SAL := Lib.hid sal
      clear hr xok hx rg lw lwn hgx sal
      have hfin : ∀ S' a' c' v, S' = S.doA ⟨K, xa, xb, y⟩ → LW n w b S' [] [OwA (.slice a' S'.acts.length c') S'] v → ∃ (k' : Nat) (S : BS) (a : Option Addr) (c : Nat), m - (k + 1) + k' = m ∧ Value.int .i64 ((k : Int) + 1) = .int .i64 k' ∧ S = S0.play (l.take k') ∧ Value.slice a' S'.acts.length c' = .slice a S.acts.length c ∧ LW n w b S [] [OwA (.slice a S.acts.length c) S] v := fun S' a' c' v e h => ⟨k + 1, S', a', c', by have := HK.out; omega, by go_num, by rw [e, DO.out], rfl, h⟩
      have HFIN := Lib.hid hfin
      clear hfin
      by_cases q0 : K = 0
      · subst q0
        have ST := Lib.hid (lw_start (fr := xa) (to := xb) (am := y) LWN.out g2)
        go_wp2_with fail
        rw [HGX.out]
        refine (ST.out).mono ?_
        rintro e w4 ⟨rfl, lw4⟩
        have SA4 := Lib.hid (start_acts S xa xb y)
        have DO4 := Lib.hid (show S.doA ⟨0, xa, xb, y⟩ = (S.start xa xb y).1 from rfl)
        generalize hS' : S.start xa xb y = r at *
        obtain ⟨S', r1, r2⟩ := r
        simp only at lw4 SA4 DO4
        have LW4 := Lib.hid lw4
        clear c0 c1 c2 c3 hS' ST LWN lw4
        by_cases e2 : r2 = 0
        · subst e2
          rw [if_pos rfl] at SA4
          have rowx := LW4.out.row gx 84 _ List.mem_cons_self
          have x0 := (rowx.cell 0).trans rfl; have x1 := (rowx.cell 1).trans rfl; have x2 := (rowx.cell 2).trans rfl; have x3 := (rowx.cell 3).trans rfl
          have LW5 := Lib.hid (((LW4.out.sub (L' := []) (O' := [OwA (.slice a S.acts.length c) S]) (fun x hx => by cases hx) (fun o ho => ho))).alloc (.cells #[.int .i64 0, .int .i64 xa, .int .i64 xb, .int .u64 y] 84))
          have r5 := M.RowAt.new w4 84 #[.int .i64 0, .int .i64 xa, .int .i64 xb, .int .u64 y]
          obtain ⟨n5, hn5⟩ : ∃ n5, w4.heap.size = n5 := ⟨_, rfl⟩
          obtain ⟨V5, hV5⟩ : ∃ V5, w4.alloc (.cells #[.int .i64 0, .int .i64 xa, .int .i64 xb, .int .u64 y] 84) = V5 := ⟨_, rfl⟩
          rw [hV5] at LW5 r5
          rw [hn5] at r5
          have R5 := Lib.hid r5; have HN5 := Lib.hid hn5; have HV5 := Lib.hid hV5
          clear rowx r5 hn5 hV5 LW4
          go_wp2_with (first | (rw [HN5.out, HV5.out]) | (at_builtin; refine wpList_append_sep2 _ rfl (.tmp 50) (.tmp 52) 74 rfl n 84 i0 _ 4 32 Try.underlying74 hi hz0 hz1 hz2 rfl (by decide) (.slice a S.acts.length c) S.acts.length _ ?a1 (LW5.out.owns _ List.mem_cons_self) ⟨n5, 0, none⟩ 1 1 [.int .i64 0, .int .i64 xa, .int .i64 xb, .int .u64 y] ?a2 rfl ?a3 ?a4 (by decide) ?a5 ?a6 LW5.out.ge ?_))
          case a1 => rfl
          case a2 => rfl
          case a3 =>
            intro j x hx
            rw [Addr.add_mid, R5.out.cell, Nat.zero_add]
            simpa using hx
          case a4 =>
            intro x hx
            simp at hx
            rcases hx with rfl | rfl | rfl | rfl <;> rfl
          case a5 => have := SAL.out; unfold maxLen; omega
          case a6 => have := SAL.out; omega
          intro u u6 ho hg hs
          obtain ⟨ua, uc, rfl⟩ : ∃ ua uc, u = .slice ua (S.acts.length + 1) uc := by
            rcases ho.2 with ⟨_, h2⟩ | ⟨g, cc, cur, h2, _⟩
            · omega
            · exact ⟨_, _, h2⟩
          have lw6 := LW5.out.pushed (x := ⟨0, xa, xb, y⟩) ho hg hs SA4.out
          have len6 : S.acts.length + 1 = S'.acts.length := by rw [SA4.out, List.length_append]; rfl
          rw [len6] at lw6 ⊢
          have LW6 := Lib.hid lw6
          clear ho hg hs lw6 len6 LW5 R5 HN5 HV5
          go_wp2
          go_roundg (m - (k + 1))
          case measure => have := HK.out; omega
          case rel => exact HFIN.out S' _ _ _ DO4.out.symm LW6.out
        · rw [if_neg e2] at SA4
          have d2 : (r2 == 0) = false := by simpa using e2
          have LW6 := Lib.hid (show LW n w b S' [] [OwA (.slice a S'.acts.length c) S'] w4 from by unfold OwA; rw [SA4.out]; exact LW4.out.sub (L' := []) (O' := [OwA (.slice a S.acts.length c) S]) (fun x hx => by cases hx) (fun o ho => ho))
          rw [show S.acts.length = S'.acts.length by rw [SA4.out]]
          clear LW4
          go_wp2
          go_roundg (m - (k + 1))
          case measure => have := HK.out; omega
          case rel => exact HFIN.out S' _ _ _ DO4.out.symm LW6.out
      · have e0 : (K == 0) = false := by simpa using q0
        by_cases q1 : K = 1
        · subst q1
          have ST := Lib.hid (lw_list LWN.out)
          go_wp2_with fail
          rw [HGX.out]
          refine (ST.out).mono ?_
          rintro e w4 ⟨rfl, lw4⟩
          have SA4 := Lib.hid (list_acts S)
          have DO4 := Lib.hid (show S.doA ⟨1, xa, xb, y⟩ = S.list.1 from rfl)
          generalize hS' : S.list = r at *
          obtain ⟨S', r1, r2⟩ := r
          simp only at lw4 SA4 DO4
          have LW4 := Lib.hid lw4
          clear c0 c1 c2 c3 hS' ST LWN lw4
          by_cases e2 : r2 = 0
          · subst e2
            rw [if_pos rfl] at SA4
            have LW5 := Lib.hid (((LW4.out.sub (L' := []) (O' := [OwA (.slice a S.acts.length c) S]) (fun x hx => by cases hx) (fun o ho => ho))).alloc (.cells #[.int .i64 0, .int .i64 (-1), .int .i64 0, .int .u64 0] 84))
            have r5 := M.RowAt.new w4 84 #[.int .i64 0, .int .i64 (-1), .int .i64 0, .int .u64 0]
            obtain ⟨n5, hn5⟩ : ∃ n5, w4.heap.size = n5 := ⟨_, rfl⟩
            obtain ⟨V5, hV5⟩ : ∃ V5, w4.alloc (.cells #[.int .i64 0, .int .i64 (-1), .int .i64 0, .int .u64 0] 84) = V5 := ⟨_, rfl⟩
            rw [hV5] at LW5 r5
            rw [hn5] at r5
            have R5 := Lib.hid r5; have HN5 := Lib.hid hn5; have HV5 := Lib.hid hV5
            clear r5 hn5 hV5 LW4
            go_wp2_with (first | (rw [HN5.out, HV5.out]) | (at_builtin; refine wpList_append_sep2 _ rfl (.tmp 63) (.tmp 65) 74 rfl n 84 i0 _ 4 32 Try.underlying74 hi hz0 hz1 hz2 rfl (by decide) (.slice a S.acts.length c) S.acts.length _ ?a1 (LW5.out.owns _ List.mem_cons_self) ⟨n5, 0, none⟩ 1 1 [.int .i64 0, .int .i64 (-1), .int .i64 0, .int .u64 0] ?a2 rfl ?a3 ?a4 (by decide) ?a5 ?a6 LW5.out.ge ?_))
            case a1 => rfl
            case a2 => rfl
            case a3 =>
              intro j x hx
              rw [Addr.add_mid, R5.out.cell, Nat.zero_add]
              simpa using hx
            case a4 =>
              intro x hx
              simp at hx
              rcases hx with rfl | rfl | rfl | rfl <;> rfl
            case a5 => have := SAL.out; unfold maxLen; omega
            case a6 => have := SAL.out; omega
            intro u u6 ho hg hs
            obtain ⟨ua, uc, rfl⟩ : ∃ ua uc, u = .slice ua (S.acts.length + 1) uc := by
              rcases ho.2 with ⟨_, h2⟩ | ⟨g, cc, cur, h2, _⟩
              · omega
              · exact ⟨_, _, h2⟩
            have lw6 := LW5.out.pushed (x := ⟨0, -1, 0, 0⟩) ho hg hs SA4.out
            have len6 : S.acts.length + 1 = S'.acts.length := by rw [SA4.out, List.length_append]; rfl
            rw [len6] at lw6 ⊢
            have LW6 := Lib.hid lw6
            clear ho hg hs lw6 len6 LW5 R5 HN5 HV5
            go_wp2
            go_roundg (m - (k + 1))
            case measure => have := HK.out; omega
            case rel => exact HFIN.out S' _ _ _ DO4.out.symm LW6.out
          · rw [if_neg e2] at SA4
            have d2 : (r2 == 0) = false := by simpa using e2
            have LW6 := Lib.hid (show LW n w b S' [] [OwA (.slice a S'.acts.length c) S'] w4 from by unfold OwA; rw [SA4.out]; exact LW4.out.sub (L' := []) (O' := [OwA (.slice a S.acts.length c) S]) (fun x hx => by cases hx) (fun o ho => ho))
            rw [show S.acts.length = S'.acts.length by rw [SA4.out]]
            clear LW4
            go_wp2
            go_roundg (m - (k + 1))
            case measure => have := HK.out; omega
            case rel => exact HFIN.out S' _ _ _ DO4.out.symm LW6.out
        · have e1 : (K == 1) = false := by simpa using q1
          have ST := Lib.hid (lw_step LWN.out xa)
          go_wp2_with fail
          rw [HGX.out]
          refine (ST.out).mono ?_
          rintro e w4 ⟨rfl, lw4⟩
          have SA4 := Lib.hid (acts_step S xa)
          have DO4 := Lib.hid (show S.doA ⟨K, xa, xb, y⟩ = (S.step xa).1 from by unfold BS.doA; simp only; rw [if_neg q0, if_neg q1])
          generalize hS' : S.step xa = r at *
          obtain ⟨S', r2⟩ := r
          simp only at lw4 SA4 DO4
          have LW6 := Lib.hid (show LW n w b S' [] [OwA (.slice a S'.acts.length c) S'] w4 from by unfold OwA; rw [SA4.out]; exact lw4.sub (L' := []) (O' := [OwA (.slice a S.acts.length c) S]) (fun x hx => by cases hx) (fun o ho => ho))
          rw [show S.acts.length = S'.acts.length by rw [SA4.out]]
          clear c0 c1 c2 c3 hS' ST LWN lw4
          go_wp2
          go_roundg (m - (k + 1))
          case measure => have := HK.out; omega
          case rel => exact HFIN.out S' _ _ _ DO4.out.symm LW6.out
    · obtain rfl : k = m := by have := HK.out; omega
      have fin : Played n w (S0.play l) (.returned (.tuple #[.pointer (some ⟨b, 0, none⟩), .slice a S.acts.length c])) wr := by
        have e : S = S0.play l := by rw [HS.out, TM.out]
        rw [← e]; exact ⟨b, a, c, rfl, lw⟩
      have FIN := Lib.hid fin
      clear fin lw hlt
      go_wp2
      go_ret2
      exact FIN.out
theorem played_none (pa : Option Addr) (len cap : Nat) (zs : List Int) (v : Value) (w : World) (hu : URow w pa len zs) (hn : len < 1 ∨ 32 < len ∨ ¬ zs.sum ≤ Am.mx) : Calls Try.prog 46 #[.slice pa len cap, v] w fun e w' => e = .returned (.tuple #[.pointer none, .slice none 0 0]) ∧ w = w' := by
  have NW := Lib.hid (bnew_none pa len cap zs w hu hn)
  clear hu hn
  go_enter Try.func46, Try.ntmps46
  go_wp2_with fail
  refine (NW.out).mono ?_
  rintro e w1 ⟨rfl, rfl⟩
  go_wp2
  go_ret2
  exact ⟨rfl, rfl⟩
end Go.Proofs.Ytnnnbgndbmcffaa
