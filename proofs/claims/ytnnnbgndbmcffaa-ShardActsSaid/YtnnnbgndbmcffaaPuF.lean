/- What the purse's Total and New return, and the law package's shown; the conditions are that the purse's blocks, and the row of balances, are known. -/
import Derived.Test.YtnnnbgndbmcffaaPuE
import Derived.Deep.Onto
namespace Go.Proofs.Ytnnnbgndbmcffaa
open Go.RowKit
set_option linter.unusedVariables false
section
variable {p B mb n cap : Nat} {f : Nat → Int} {l : Res} {w : World}
set_option maxRecDepth 100000 in
set_option maxHeartbeats 4000000 in
theorem total_any (h : Pu p B mb n cap f l w) :
    Calls Try.prog 36 #[.pointer (some ⟨p, 0, none⟩)] w fun e w' => e = .returned (.int .u64 (sumB f n + sumR l)) ∧ Below w.heap.size w w' := by
  obtain ⟨q, hq⟩ : ∃ q, w.heap.size = q := ⟨_, rfl⟩
  have HQ := Lib.hid hq
  have hres : ∀ e ∈ l, 0 ≤ e.2.2 := fun e he => (h.inv.res e he).2.2.2.2
  have htot := h.inv.tot
  unfold Am.mx at htot
  have hsr := sumR_nonneg hres
  have hsb0 := sumB_nonneg h.inv.pos n
  have bb := fun k (hk : k ≤ n) => And.intro (sumB_nonneg h.inv.pos k) (sumB_mono h.inv.pos n k hk)
  have cb := fun k (hk : k < n) => (h.bal hk).1
  have fp := h.inv.pos
  have IM0 := Lib.hid h.hm
  have c0 := h.c0
  have c1 := h.c1
  have n32 := h.inv.n32
  have HRES := Lib.hid hres; have BB := Lib.hid bb; have CB := Lib.hid cb; have FP := Lib.hid fp
  have st : ∀ k, sumB f (k + 1) = sumB f k + f k := fun k => rfl
  have ST := Lib.hid st
  clear h hres bb cb fp st
  go_enter Try.func36, Try.ntmps36
  go_wp2
  go_loopw [3, 13] (fun s i v => ∃ k : Nat, k ≤ n ∧ i = .int .i64 k ∧ s = .int .u64 (sumB f k) ∧ v = w) (fun _ i _ => n - (intOf i).toNat)
  case atStart => exact ⟨0, Nat.zero_le _, rfl, rfl, rfl⟩
  case round =>
    obtain ⟨k, hk, rfl, rfl, rfl⟩ := hrel
    by_cases hlt : k < n
    · have cb := CB.out k hlt
      have b1 := BB.out k hk
      have b2 := BB.out (k + 1) hlt
      rw [ST.out] at b2
      have f0 := FP.out k
      have S1 := Lib.hid (ST.out k)
      generalize sumB f k = s at *
      generalize f k = y at *
      have qw : IntKind.u64.wrap (s + y) = s + y := u64_in _ (by omega)
      go_wp2
      go_roundw
      case rel => exact ⟨k + 1, by omega, by go_num, by rw [S1.out], trivial⟩
      case measure => simp [intOf]; omega
    · obtain rfl : k = n := by omega
      clear hlt hk
      generalize hS : sumB f k = S at *
      have HS := Lib.hid hS
      clear hS
      obtain ⟨wo, rfl⟩ : ∃ wo : World, wo = wr := ⟨_, rfl⟩
      go_wp2_with (at_range; refine wpList_range_im rfl _ 116 121 rfl Try.underlying116 IM0.out ?a1 ?_)
      case a1 => rfl
      intro w2 hir hb2 hsz2
      have rg : RG p B mb k cap f l q q wo l w2 := ⟨hir, hb2, fun e he => he, Nat.le_refl _⟩
      have hq2 : q ≤ w2.heap.size := by omega
      clear hir hb2 hq
      go_wp2
      go_loopg [3] l.length (fun m s v => ∃ left : Res, m = left.length ∧ s = .int .u64 (S + sumR l - sumR left) ∧ sumR left ≤ sumR l ∧ RG p B mb k cap f l q q wo left v)
      case atStart => exact ⟨l, rfl, by rw [Int.add_sub_cancel], Int.le_refl _, rg⟩
      case round =>
        clear rg hq2 hsz2
        obtain ⟨left, hm, rfl, hlt, rg⟩ := hrel
        have hqv := rg.bel.size
        rw [HQ.out] at hqv
        have RGH := Lib.hid rg
        have HM := Lib.hid hm
        clear hm rg
        go_wp2_with (at_next; refine wpList_next_im rfl _ rfl q left ?a1 RGH.out.ir ?_ ?_)
        case a1 => rfl
        · intro hdone
          subst hdone
          rw [show sumR ([] : Res) = 0 from rfl, Int.sub_zero]
          go_wp2
          go_ret
          exact ⟨by rw [← HS.out]; rfl, by rw [HQ.out]; exact RGH.out.bel⟩
        · intro L1 i r y L2 w3 he hir hb3 hsz3 hen
          simp only [mkR] at hen ⊢
          have e1 : sumR left = sumR (L1 ++ L2) + y := by rw [he]; exact sumR_mid L1 L2 (i, r, y)
          have rg3 := (RGH.out.next he hir hb3 hqv).alloc (by omega) (.cells #[.int .i64 r, .int .u64 y] 121)
          have hin : (i, r, y) ∈ l := RGH.out.sub _ (by rw [he]; simp)
          have h0 : 0 ≤ y := HRES.out _ hin
          have hl2 := sumR_nonneg (l := L1 ++ L2) (fun x hx => HRES.out x (RGH.out.sub x (by rw [he]; rcases List.mem_append.1 hx with h | h <;> simp [h])))
          have hlen : left.length = (L1 ++ L2).length + 1 := by rw [he]; simp; omega
          have RG3 := Lib.hid rg3; have HLEN := Lib.hid hlen
          clear rg3 hlen hin hir hb3 he
          have hgoal : ∀ x, x = S + sumR l - sumR (L1 ++ L2) → sumR (L1 ++ L2) ≤ sumR l → ∃ left' : Res, (L1 ++ L2).length = left'.length ∧ Value.int .u64 x = .int .u64 (S + sumR l - sumR left') ∧ sumR left' ≤ sumR l ∧ RG p B mb k cap f l q q wo left' (w3.alloc (.cells #[.int .i64 r, .int .u64 y] 121)) := fun x hx hle => ⟨L1 ++ L2, rfl, by rw [hx], hle, RG3.out⟩
          have HG := Lib.hid hgoal
          clear hgoal RG3 RGH
          generalize sumR l = tot at *
          generalize sumR (L1 ++ L2) = now at *
          generalize sumR left = was at *
          obtain ⟨A, hA⟩ : ∃ A, S + tot - was = A := ⟨_, rfl⟩
          have hqw : IntKind.u64.wrap (A + y) = A + y := u64_in _ (by omega)
          have hA2 : A + y = S + tot - now := by omega
          have hle : now ≤ tot := by omega
          have HA2 := Lib.hid hA2
          rw [hA]
          clear e1 hl2 hA hA2 hlt
          go_wp2
          go_roundg (L1 ++ L2).length
          case measure => have := HM.out; have := HLEN.out; omega
          case rel => exact HG.out _ HA2.out hle
end

theorem info23 : (Try.prog.info? 23).map (fun i => (i.zero, i.size, i.bytes)) = some (some (.int .u64 0), 1, 8) := by kernel_rfl
/-- a copy of a row of numbers -/
def Cloned (w : World) (zs : List Int) (e : Ending) (w' : World) : Prop :=
  ∃ g cap, e = .returned (.slice (some ⟨g, 0, none⟩) zs.length cap) ∧ w'.ownsRow w.heap.size 23 1 (.slice (some ⟨g, 0, none⟩) zs.length cap) zs.length (zs.map (Value.int .u64)) ∧ Below w.heap.size w w'
set_option maxRecDepth 100000 in
set_option maxHeartbeats 4000000 in
theorem clone_any (pa : Option Addr) (len cap : Nat) (zs : List Int) (w : World) (h : URow w pa len zs) (h0 : 0 < len) (h32 : len ≤ 1000) : Calls Try.prog 65 #[.slice pa len cap] w (Cloned w zs) := by
  obtain ⟨hl, _, _, b, off, hp, hc⟩ := h
  obtain rfl := hp.resolve_left (by omega)
  obtain ⟨i0, hi, hz0, hz1, hz2⟩ := info_parts info23
  have own0 : (w.alloc (.cells #[] 23)).ownsRow w.heap.size 23 1 (.slice (some ⟨w.heap.size, 0, none⟩) 0 0) 0 [] := ⟨rfl, .inr ⟨_, 0, #[], rfl, Nat.le_refl _, M.RowAt.new w 23 #[], Nat.le_refl _, by unfold maxLen; omega, rfl, rfl⟩⟩
  have hcell : ∀ j u, (zs.map (Value.int .u64))[j]? = some u → (w.alloc (.cells #[] 23)).cell? ((⟨b, off, none⟩ : Addr).add j) = some u := fun j u hu => by
    rw [List.getElem?_map] at hu
    cases hz : zs[j]? with
    | none => rw [hz] at hu; cases hu
    | some z =>
      rw [hz] at hu
      obtain rfl : Value.int .u64 z = u := by simpa using hu
      have hj : j < len := by rw [← hl]; exact (List.getElem?_eq_some_iff.1 hz).1
      have hcj := hc j hj
      rw [Addr.add_mid, ((Below.refl _ w).alloc (Nat.le_refl _) (.cells #[] 23)).cell (p := ⟨b, off + j, none⟩) (World.block_lt_of_cell? w _ hcj), hcj, List.getD_eq_getElem?_getD, hz]; rfl
  have hone : ∀ u ∈ zs.map (Value.int .u64), u.oneCell' = true := fun u hu => by obtain ⟨y, _, rfl⟩ := List.mem_map.1 hu; rfl
  have hil : (zs.map (Value.int .u64)).length = len * 1 := by simp [hl]
  have hge : w.heap.size ≤ (w.alloc (.cells #[] 23)).heap.size := by simp
  have O0 := Lib.hid own0; have HC := Lib.hid hcell; have HO := Lib.hid hone; have HI := Lib.hid hil; have HG := Lib.hid hge; have HL := Lib.hid hl
  have hnil : ∀ W, (binOp .eql 33 (.slice (some ⟨b, off, none⟩) len cap) (.slice none 0 0)).run Try.prog W = .ok (.bool false) W := fun W => by
    simp only [binOp]
    simp [Op.equal, Op.maxDepth, Lib.run_equalIn_slice_nil W 9999 33 23 (some ⟨b, off, none⟩) len cap 0 0 Try.underlying33]
  clear own0 hcell hone hil hge hc hp hl
  go_enter Try.func65, Try.ntmps65
  go_wp2_with (at_builtin; refine wpList_append_sep3 _ rfl (.tmp 5) (.tmp 6) 33 rfl w.heap.size 23 i0 _ 1 8 Try.underlying33 hi hz0 hz1 hz2 rfl (by decide) w.heap.size 0 0 [] ?a1 O0.out ⟨b, off, none⟩ len cap (zs.map (Value.int .u64)) ?a2 HI.out HC.out HO.out (by unfold maxLen; omega) (by omega) HG.out ?_)
  case a1 => rfl
  case a2 => rfl
  intro u w4 ho hg hs4
  have ho' : w4.ownsRow w.heap.size 23 1 u zs.length (zs.map (Value.int .u64)) := by rw [HL.out]; simpa using ho
  have hb : Below w.heap.size w w4 := ⟨hg.os, hg.tape, hg.output, Nat.le_trans (by simp) hg.size, fun j hj => by
    rw [hg.block j (by simp; omega) (fun e => by cases e; omega)]
    exact ((Below.refl _ w).alloc (Nat.le_refl _) (.cells #[] 23)).block j hj⟩
  obtain ⟨g, c, rfl⟩ : ∃ g c, u = .slice (some ⟨g, 0, none⟩) zs.length c := by
    rcases ho'.2 with ⟨_, h2⟩ | ⟨g, c, _, h1, _⟩
    · rw [HL.out] at h2; omega
    · exact ⟨g, c, h1⟩
  have fin : Cloned w zs (.returned (.slice (some ⟨g, 0, none⟩) zs.length c)) w4 := ⟨g, c, rfl, ho', hb⟩
  have FIN := Lib.hid fin
  clear ho hg hs4 ho' hb fin
  go_wp2
  go_ret
  exact FIN.out
/-- what New returns for balances that may be -/
def NewYes (w : World) (len : Nat) (f : Nat → Int) (e : Ending) (w' : World) : Prop :=
  ∃ p B mb cap, e = .returned (.pointer (some ⟨p, 0, none⟩)) ∧ Pu p B mb len cap f [] w' ∧ Below w.heap.size w w' ∧ w.heap.size ≤ p ∧ w.heap.size ≤ B ∧ w.heap.size ≤ mb
theorem sumB_list : ∀ (zs : List Int) , sumB (fun i => zs.getD i 0) zs.length = zs.sum := by
  intro zs
  have key : ∀ (k : Nat), k ≤ zs.length → sumB (fun i => zs.getD i 0) k = (zs.take k).sum := by
    intro k
    induction k with
    | zero => intro _; simp [sumB]
    | succ k ih =>
      intro hk
      show sumB (fun i => zs.getD i 0) k + zs.getD k 0 = _
      rw [ih (by omega), List.take_add_one, List.sum_append, List.getElem?_eq_getElem (by omega), List.getD_eq_getElem?_getD, List.getElem?_eq_getElem (show k < zs.length by omega)]
      simp
  have := key zs.length (Nat.le_refl _)
  rwa [List.take_of_length_le (Nat.le_refl _)] at this
end Go.Proofs.Ytnnnbgndbmcffaa
