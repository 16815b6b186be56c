/- What the purse's Reserve, Release, Commit and Move answer and leave; the condition is that the purse's blocks are known. -/
import Derived.Test.YtnnnbgndbmcffaaPuB
namespace Go.Proofs.Ytnnnbgndbmcffaa
open Go.RowKit
set_option linter.unusedVariables false

theorem inv_set {n : Nat} {f : Nat → Int} {l l' : Res} (h : Inv n f l) {a : Nat} (ha : a < n) {x : Int} (hx : 0 ≤ x) (hl : ∀ e ∈ l', 0 ≤ e.1 ∧ e.1 ≤ 32 ∧ 0 ≤ e.2.1 ∧ e.2.1 < (n : Int) ∧ 0 ≤ e.2.2) (hn : l'.length ≤ 32) (ht : x + sumR l' ≤ f a + sumR l) : Inv n (upF f a x) l' := by
  refine ⟨h.n1, h.n32, fun i => ?_, hl, hn, ?_⟩
  · by_cases e : i = a
    · subst e; rw [upF_same]; exact hx
    · rw [upF_ne f e]; exact h.pos i
  · rw [sumB_up, if_pos ha]; have := h.tot; omega
theorem inv_down {n : Nat} {f : Nat → Int} {l : Res} (h : Inv n f l) {a : Nat} (ha : a < n) {x : Int} (h0 : 0 ≤ x) (h1 : x ≤ f a) : Inv n (upF f a (f a - x)) l :=
  inv_set h ha (by omega) h.res h.len (by omega)
theorem inv_put {n : Nat} {f : Nat → Int} {l : Res} (h : Inv n f l) {a : Nat} (ha : a < n) {x : Int} (h0 : 0 ≤ x) (h1 : x ≤ f a) (hl : l.length < 32) {i : Nat} (hi : i ≤ l.length) : Inv n (upF f a (f a - x)) (l ++ [((i : Int), ((a : Nat) : Int), x)]) := by
  refine inv_set h ha (by omega) ?_ (by simp; omega) (by rw [sumR_app]; show f a - x + (sumR l + (x + 0)) ≤ _; omega)
  intro e he
  rcases List.mem_append.1 he with he | he
  · exact h.res e he
  · obtain rfl : e = ((i : Int), ((a : Nat) : Int), x) := by simpa using he
    exact ⟨by show (0 : Int) ≤ i; omega, by show (i : Int) ≤ 32; omega, by show (0 : Int) ≤ a; omega, by show (a : Int) < n; omega, h0⟩
theorem inv_back {n : Nat} {f : Nat → Int} {l : Res} (h : Inv n f l) {t : Nat} (ht : t < n) {i : Int} {x : Int × Int} (hx : getM l i = some x) : Inv n (upF f t (f t + x.2)) (delM l i) := by
  have h2 := (h.amt hx).2.2.1
  have h3 := sumR_del hx
  have h4 := h.pos t
  have h5 := len_del hx
  have h6 := h.len
  exact inv_set h ht (by omega) (fun e he => h.res e (delM_sub i l e he)) (by omega) (by omega)
theorem inv_up {n : Nat} {f : Nat → Int} {l : Res} (h : Inv n f l) {a b : Nat} (ha : a < n) (hb : b < n) {x : Int} (h0 : 0 ≤ x) (h1 : x ≤ f a) : Inv n (upF (upF f a (f a - x)) b (upF f a (f a - x) b + x)) l := by
  have i1 := inv_down h ha h0 h1
  have p1 := i1.pos b
  refine ⟨h.n1, h.n32, fun i => ?_, h.res, h.len, ?_⟩
  · by_cases e : i = b
    · subst e; rw [upF_same]; omega
    · rw [upF_ne _ e]; exact i1.pos i
  · rw [sumB_up, if_pos hb, sumB_up, if_pos ha]; have := h.tot; omega
theorem put_none {l : Res} {i : Int} (y : Int × Int) (h : getM l i = none) : putM l i y = l ++ [(i, y)] := (none_M (x := y) (getM_none h)).2.1

section
variable {p B mb n cap : Nat} {f : Nat → Int} {l : Res} {w : World}
/-- what Reserve answers -/
def resE (n : Nat) (f : Nat → Int) (l : Res) (a x : Int) : Int := if inP n a then (if x = 0 then 1 else if 32 ≤ l.length then 2 else if f a.toNat < x then 61 else 0) else 3
set_option maxRecDepth 100000 in
set_option maxHeartbeats 4000000 in
theorem res_yes (h : Pu p B mb n cap f l w) {a : Nat} (ha : a < n) {x : Int} (hx : 0 < x) (hl : l.length < 32) (hf : x ≤ f a) :
    Calls Try.prog 25 #[.pointer (some ⟨p, 0, none⟩), .int .i64 (a : Nat), .int .u64 x] w fun e w' => e = .returned (.tuple #[.int .i64 (freeM l : Nat), .int .i64 0]) ∧ Pu p B mb n cap (upF f a (f a - x)) (l ++ [(((freeM l : Nat) : Int), ((a : Nat) : Int), x)]) w' ∧ Bt [B, mb] w w' := by
  have HAS := Lib.hid (has_yes h ha)
  have n32 := h.inv.n32
  have fa := h.inv.bal ha
  have f0 := h.inv.pos a
  have SUB := Lib.hid (fun v => sub_any (f a) x v f0 (by omega) (by omega))
  have FREE := Lib.hid (free_any h)
  obtain ⟨s1, s2, s3⟩ := freeM_spec h.hm.dist
  have cb := (h.bal ha).1
  have c0 := h.c0; have c1 := h.c1
  have im := Lib.hid h.hm
  have i1 := inv_down h.inv ha (by omega) hf
  have i2 := inv_put h.inv ha (by omega) hf hl s3
  have hput := put_none ((a : Int), x) s2
  have HPUT := Lib.hid hput
  have dl : decide ((32 : Int) ≤ (l.length : Int)) = false := by simp; omega
  have dl' : decide (32 ≤ l.length) = false := by simp; omega
  have dx : (x == 0) = false := by simp; omega
  have dfx : decide (f a < x) = false := by simp; omega
  have nfx : ¬ f a < x := by omega
  have hok : KR.ok ((freeM l : Nat) : Int) := ok_small (by omega) (by omega)
  have HOK := Lib.hid hok
  have HH := Lib.hid h; have I1 := Lib.hid i1; have I2 := Lib.hid i2
  rw [if_neg nfx, if_neg nfx] at SUB
  generalize hF : freeM l = F at *
  generalize f a - x = y at *
  generalize hfa : f a = z at *
  clear s1 s2 s3 i1 i2 hput hok h nfx hF
  go_enter Try.func25, Try.ntmps25
  go_wp2_with fail
  refine (HAS.out).mono ?_
  rintro e w1 ⟨rfl, rfl⟩
  go_wp2_with (at_len; refine wpList_len_im rfl _ 116 121 rfl Try.underlying116 im.out ?a1 ?_)
  case a1 => rfl
  go_wp2_with fail
  refine (SUB.out _).mono ?_
  rintro e w2 ⟨rfl, rfl⟩
  go_wp2_with fail
  refine (FREE.out).mono ?_
  rintro e w3 ⟨rfl, g3⟩
  have pu3 := HH.out.same g3
  have c03 := pu3.c0
  obtain ⟨cb3, cf3⟩ := pu3.bal ha
  have pu4 := pu3.set ha y I1.out
  have c14 := pu4.c1
  have im4 := Lib.hid pu4.hm
  have PU4 := Lib.hid pu4
  have b4 := (Bt.ofBelow [B, mb] g3).set (p := ⟨B, a, none⟩) (by simp) (.int .u64 y)
  have B4 := Lib.hid b4
  clear pu3 pu4 g3 b4 c0 c1 cb
  go_wp2_with (at_mapUpdate; refine wpList_mapUpdate_im (y := ((a : Int), x)) rfl _ _ _ 116 121 rfl Try.underlying116 im4.out ?a1 ((F : Nat) : Int) HOK.out ?a2 ?a3 ?_)
  case a1 => rfl
  case a2 => rfl
  case a3 => rfl
  intro w5 hm5 hb5
  rw [HPUT.out] at hm5
  have pu5 := PU4.out.map hm5 hb5 I2.out
  have b5 := B4.out.trans (.ofBut hb5 (by simp))
  clear hm5 hb5
  go_wp2
  go_ret2
  exact ⟨rfl, pu5, b5⟩
set_option maxRecDepth 100000 in
set_option maxHeartbeats 4000000 in
theorem res_no (h : Pu p B mb n cap f l w) (a x : Int) (hx : 0 ≤ x) (hx1 : x ≤ 18446744073709551615) (he : resE n f l a x ≠ 0) :
    Calls Try.prog 25 #[.pointer (some ⟨p, 0, none⟩), .int .i64 a, .int .u64 x] w fun e w' => e = .returned (.tuple #[.int .i64 0, .int .i64 (resE n f l a x)]) ∧ w = w' := by
  unfold resE at he ⊢
  cases hin : inP n a
  · have HAS := Lib.hid (has_no h hin)
    rw [if_neg (by decide)]
    clear h hin he
    go_enter Try.func25, Try.ntmps25
    go_wp2_with fail
    refine (HAS.out).mono ?_
    rintro e w1 ⟨rfl, rfl⟩
    go_wp2
    go_ret2
    exact ⟨rfl, rfl⟩
  · rw [if_pos rfl]
    rw [hin, if_pos rfl] at he
    obtain ⟨k, hk, rfl⟩ := in_of hin
    rw [Int.toNat_natCast] at he ⊢
    have HAS := Lib.hid (has_yes h hk)
    by_cases h0 : x = 0
    · subst h0
      rw [if_pos rfl]
      clear h hin he
      go_enter Try.func25, Try.ntmps25
      go_wp2_with fail
      refine (HAS.out).mono ?_
      rintro e w1 ⟨rfl, rfl⟩
      go_wp2
      go_ret2
      exact ⟨rfl, rfl⟩
    · rw [if_neg h0] at he ⊢
      have dx : (x == 0) = false := by simpa using h0
      have c1 := h.c1
      have im := Lib.hid h.hm
      by_cases hl : 32 ≤ l.length
      · rw [if_pos hl]
        have dl : decide ((32 : Int) ≤ (l.length : Int)) = true := by simp; omega
        have dl' : decide (32 ≤ l.length) = true := by simp; omega
        clear h hin he
        go_enter Try.func25, Try.ntmps25
        go_wp2_with fail
        refine (HAS.out).mono ?_
        rintro e w1 ⟨rfl, rfl⟩
        go_wp2_with (at_len; refine wpList_len_im rfl _ 116 121 rfl Try.underlying116 im.out ?a1 ?_)
        case a1 => rfl
        go_wp2
        go_ret2
        exact ⟨rfl, rfl⟩
      · rw [if_neg hl] at he ⊢
        have dl : decide ((32 : Int) ≤ (l.length : Int)) = false := by simp; omega
        have dl' : decide (32 ≤ l.length) = false := by simp; omega
        have hf : f k < x := by
          apply Int.lt_of_not_ge; intro hge; exact he (by rw [if_neg (by omega)])
        rw [if_pos hf]
        have fa := h.inv.bal hk
        have f0 := h.inv.pos k
        have n32 := h.inv.n32
        have c0 := h.c0
        have cb := (h.bal hk).1
        have SUB := Lib.hid (fun v => sub_any (f k) x v f0 (by omega) hx)
        rw [if_pos hf, if_pos hf] at SUB
        clear h hin he
        go_enter Try.func25, Try.ntmps25
        go_wp2_with fail
        refine (HAS.out).mono ?_
        rintro e w1 ⟨rfl, rfl⟩
        go_wp2_with (at_len; refine wpList_len_im rfl _ 116 121 rfl Try.underlying116 im.out ?a1 ?_)
        case a1 => rfl
        go_wp2_with fail
        refine (SUB.out _).mono ?_
        rintro e w2 ⟨rfl, rfl⟩
        go_wp2
        go_ret2
        exact ⟨rfl, rfl⟩
end
end Go.Proofs.Ytnnnbgndbmcffaa
