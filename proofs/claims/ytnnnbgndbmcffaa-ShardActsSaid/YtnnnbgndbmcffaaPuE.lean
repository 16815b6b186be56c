/- What the purse's Move, Held, Total and New answer and leave; the conditions are that the purse's blocks, and the row of balances, are known. -/
import Derived.Test.YtnnnbgndbmcffaaPuD
import Derived.Carry
namespace Go.Proofs.Ytnnnbgndbmcffaa
open Go.RowKit
set_option linter.unusedVariables false
section
variable {p B mb n cap : Nat} {f : Nat → Int} {l : Res} {w : World}
def movF (f : Nat → Int) (a b : Nat) (x : Int) : Nat → Int := upF (upF f a (f a - x)) b (upF f a (f a - x) b + x)
set_option maxRecDepth 100000 in
set_option maxHeartbeats 4000000 in
theorem mov_yes (h : Pu p B mb n cap f l w) {a b : Nat} (ha : a < n) (hb : b < n) {x : Int} (hx : 0 < x) (hf : x ≤ f a) :
    Calls Try.prog 38 #[.pointer (some ⟨p, 0, none⟩), .int .i64 (a : Nat), .int .i64 (b : Nat), .int .u64 x] w fun e w' => e = .returned (.int .i64 0) ∧ Pu p B mb n cap (movF f a b x) l w' ∧ Bt [B, mb] w w' := by
  have HA := Lib.hid (has_yes h ha); have HB := Lib.hid (has_yes h hb)
  have n32 := h.inv.n32
  have fa := h.inv.bal ha
  have f0 := h.inv.pos a
  have SUB := Lib.hid (fun v => sub_any (f a) x v f0 (by omega) (by omega))
  have nfx : ¬ f a < x := by omega
  rw [if_neg nfx, if_neg nfx] at SUB
  obtain ⟨cb, cf⟩ := h.bal ha
  have c0 := h.c0
  have i1 := inv_down h.inv ha (by omega) hf
  have i2 := inv_up h.inv ha hb (by omega) hf
  have p1 := h.set ha (f a - x) i1
  obtain ⟨cb1, cf1⟩ := p1.bal hb
  have c01 := p1.c0
  have p2 := p1.set hb _ i2
  have bt := ((Bt.refl [B, mb] w).set (p := ⟨B, a, none⟩) (by simp) (.int .u64 (f a - x))).set (p := ⟨B, b, none⟩) (by simp) (.int .u64 (upF f a (f a - x) b + x))
  have u0 := i1.pos b
  have u1 := i1.bal hb
  have qw : IntKind.u64.wrap (upF f a (f a - x) b + x) = upF f a (f a - x) b + x := u64_in _ (by omega)
  have dx : (x == 0) = false := by simp; omega
  have P2 := Lib.hid p2; have BT := Lib.hid bt
  unfold movF
  generalize upF (upF f a (f a - x)) b (upF f a (f a - x) b + x) = f2 at *
  generalize upF f a (f a - x) b = ub at *
  generalize f a - x = y at *
  generalize f a = z at *
  clear h i1 i2 p1 p2 bt nfx
  go_enter Try.func38, Try.ntmps38
  go_wp2_with fail
  refine (HA.out).mono ?_
  rintro e w1 ⟨rfl, rfl⟩
  go_wp2_with fail
  refine (HB.out).mono ?_
  rintro e w1 ⟨rfl, rfl⟩
  go_wp2_with fail
  refine (SUB.out _).mono ?_
  rintro e w2 ⟨rfl, rfl⟩
  go_wp2
  go_ret
  exact ⟨rfl, P2.out, BT.out⟩
/-- what Move answers -/
def movE (n : Nat) (f : Nat → Int) (a b x : Int) : Int := if inP n a && inP n b then (if x = 0 then 1 else if f a.toNat < x then 61 else 0) else 3
set_option maxRecDepth 100000 in
set_option maxHeartbeats 4000000 in
theorem mov_no (h : Pu p B mb n cap f l w) (a b x : Int) (hx : 0 ≤ x) (he : movE n f a b x ≠ 0) :
    Calls Try.prog 38 #[.pointer (some ⟨p, 0, none⟩), .int .i64 a, .int .i64 b, .int .u64 x] w fun e w' => e = .returned (.int .i64 (movE n f a b x)) ∧ w = w' := by
  unfold movE at he ⊢
  cases ha : inP n a
  · have HAS := Lib.hid (has_no h ha)
    rw [if_neg (by simp)]
    clear h ha he
    go_enter Try.func38, Try.ntmps38
    go_wp2_with fail
    refine (HAS.out).mono ?_
    rintro e w1 ⟨rfl, rfl⟩
    go_wp2
    go_ret
    exact ⟨rfl, rfl⟩
  · cases hb : inP n b
    · have HAS := Lib.hid (has_any h a); have HBS := Lib.hid (has_no h hb)
      rw [ha] at HAS
      rw [if_neg (by simp)]
      clear h ha hb he
      go_enter Try.func38, Try.ntmps38
      go_wp2_with fail
      refine (HAS.out).mono ?_
      rintro e w1 ⟨rfl, rfl⟩
      go_wp2_with fail
      refine (HBS.out).mono ?_
      rintro e w1 ⟨rfl, rfl⟩
      go_wp2
      go_ret
      exact ⟨rfl, rfl⟩
    · rw [ha, hb, if_pos (by rfl)] at he
      rw [if_pos (by rfl)]
      obtain ⟨k, hk, rfl⟩ := in_of ha
      rw [Int.toNat_natCast] at he ⊢
      have HAS := Lib.hid (has_any h ((k : Nat) : Int)); have HBS := Lib.hid (has_any h b)
      rw [ha] at HAS
      rw [hb] at HBS
      by_cases h0 : x = 0
      · subst h0
        rw [if_pos rfl]
        clear h ha hb he
        go_enter Try.func38, Try.ntmps38
        go_wp2_with fail
        refine (HAS.out).mono ?_
        rintro e w1 ⟨rfl, rfl⟩
        go_wp2_with fail
        refine (HBS.out).mono ?_
        rintro e w1 ⟨rfl, rfl⟩
        go_wp2
        go_ret
        exact ⟨rfl, rfl⟩
      · rw [if_neg h0] at he ⊢
        have dx : (x == 0) = false := by simpa using h0
        have hf : f k < x := by
          apply Int.lt_of_not_ge; intro hge; exact he (by rw [if_neg (by omega)])
        rw [if_pos hf]
        have fa := h.inv.bal hk
        have f0 := h.inv.pos k
        have n32 := h.inv.n32
        have c0 := h.c0
        have cb := (h.bal hk).1
        have SUB := Lib.hid (fun v => sub_any (f k) x v f0 (by omega) hx)
        rw [if_pos hf, if_pos hf] at SUB
        clear h ha hb he
        go_enter Try.func38, Try.ntmps38
        go_wp2_with fail
        refine (HAS.out).mono ?_
        rintro e w1 ⟨rfl, rfl⟩
        go_wp2_with fail
        refine (HBS.out).mono ?_
        rintro e w1 ⟨rfl, rfl⟩
        go_wp2_with fail
        refine (SUB.out _).mono ?_
        rintro e w2 ⟨rfl, rfl⟩
        go_wp2
        go_ret
        exact ⟨rfl, rfl⟩

/-- all that is reserved of an account -/
def heldR (a : Int) : Res → Int
  | [] => 0
  | e :: r => (if e.2.1 = a then e.2.2 else 0) + heldR a r
theorem heldR_app (a : Int) (l r : Res) : heldR a (l ++ r) = heldR a l + heldR a r := by
  induction l with
  | nil => show heldR a r = 0 + heldR a r; omega
  | cons e l ih => show _ + heldR a (l ++ r) = _ + heldR a l + heldR a r; rw [ih]; omega
theorem heldR_mid (a : Int) (L1 L2 : Res) (e : Int × Int × Int) : heldR a (L1 ++ e :: L2) = heldR a (L1 ++ L2) + (if e.2.1 = a then e.2.2 else 0) := by
  rw [heldR_app, heldR_app]; show heldR a L1 + (_ + heldR a L2) = _; omega
theorem sumR_mid (L1 L2 : Res) (e : Int × Int × Int) : sumR (L1 ++ e :: L2) = sumR (L1 ++ L2) + e.2.2 := by
  rw [sumR_app, sumR_app]; show sumR L1 + (_ + sumR L2) = _; omega
theorem heldR_le (a : Int) {l : Res} (h : ∀ e ∈ l, 0 ≤ e.2.2) : 0 ≤ heldR a l ∧ heldR a l ≤ sumR l := by
  induction l with
  | nil => exact ⟨Int.le_refl _, Int.le_refl _⟩
  | cons e l ih =>
    have h1 := h e List.mem_cons_self
    have h2 := ih fun x hx => h x (List.mem_cons_of_mem _ hx)
    show 0 ≤ (if e.2.1 = a then e.2.2 else 0) + heldR a l ∧ (if e.2.1 = a then e.2.2 else 0) + heldR a l ≤ e.2.2 + sumR l
    split <;> omega
/-- a range over the reservations under way -/
structure RG (p B mb n cap : Nat) (f : Nat → Int) (l : Res) (q g : Nat) (w : World) (left : Res) (v : World) : Prop where
  ir : IR KR mkR v mb g l left
  bel : Below q w v
  sub : ∀ e ∈ left, e ∈ l
  ge : q ≤ g
theorem RG.next {q g : Nat} {left L1 L2 : Res} {e : Int × Int × Int} {v v' : World} (c : RG p B mb n cap f l q g w left v) (he : left = L1 ++ e :: L2) (hr : IR KR mkR v' mb g l (L1 ++ L2)) (hb : M.But g v v') (hq : q ≤ v.heap.size) : RG p B mb n cap f l q g w (L1 ++ L2) v' :=
  ⟨hr, hb.below c.bel c.ge hq, fun x hx => c.sub x (by rw [he]; rcases List.mem_append.1 hx with h | h <;> simp [h]), c.ge⟩
theorem RG.alloc {q g : Nat} {left : Res} {v : World} (c : RG p B mb n cap f l q g w left v) (hq : q ≤ v.heap.size) (o : Obj) : RG p B mb n cap f l q g w left (v.alloc o) :=
  ⟨c.ir.call ((Below.refl _ _).alloc (Nat.le_refl _) o), c.bel.alloc hq o, c.sub, c.ge⟩
set_option maxRecDepth 100000 in
set_option maxHeartbeats 4000000 in
theorem held_yes (h : Pu p B mb n cap f l w) {a : Nat} (ha : a < n) :
    Calls Try.prog 26 #[.pointer (some ⟨p, 0, none⟩), .int .i64 (a : Nat)] w fun e w' => e = .returned (.tuple #[.int .u64 (heldR (a : Nat) l), .int .i64 0]) ∧ Below w.heap.size w w' := by
  obtain ⟨q, hq⟩ : ∃ q, w.heap.size = q := ⟨_, rfl⟩
  have HQ := Lib.hid hq
  have HAS := Lib.hid (has_yes h ha)
  have hres : ∀ e ∈ l, 0 ≤ e.2.2 := fun e he => (h.inv.res e he).2.2.2.2
  have hl := heldR_le ((a : Nat) : Int) hres
  have htot := h.inv.tot
  have hsb := sumB_nonneg h.inv.pos n
  unfold Am.mx at htot
  have hmx : sumR l ≤ 1125899906842624 := by omega
  have IM0 := Lib.hid h.hm
  have c1 := h.c1
  have n32 := h.inv.n32
  have HRES := Lib.hid hres
  clear h hres htot hsb
  go_enter Try.func26, Try.ntmps26
  go_wp2_with fail
  refine (HAS.out).mono ?_
  rintro e w1 ⟨rfl, rfl⟩
  go_wp2_with (at_range; refine wpList_range_im rfl _ 116 121 rfl Try.underlying116 IM0.out ?a1 ?_)
  case a1 => rfl
  intro w2 hir hb2 hsz2
  have rg : RG p B mb n cap f l q q w l w2 := ⟨hir, hb2, fun e he => he, Nat.le_refl _⟩
  have hq2 : q ≤ w2.heap.size := by omega
  clear hir hb2
  clear hq
  go_wp2
  go_loopg [6] l.length (fun m s v => ∃ left : Res, m = left.length ∧ s = .int .u64 (heldR (a : Nat) l - heldR (a : Nat) left) ∧ heldR (a : Nat) left ≤ heldR (a : Nat) l ∧ RG p B mb n cap f l q q w left v)
  case atStart => exact ⟨l, rfl, by rw [Int.sub_self], Int.le_refl _, rg⟩
  case round =>
    clear rg hq2 hsz2
    obtain ⟨left, hm, rfl, hlt, rg⟩ := hrel
    have hqv := rg.bel.size
    rw [HQ.out] at hqv
    have RGH := Lib.hid rg
    have HM := Lib.hid hm
    clear hm rg
    go_wp2_with (at_next; refine wpList_next_im rfl _ rfl q left ?a1 RGH.out.ir ?_ ?_)
    case a1 => rfl
    · intro hdone
      subst hdone
      rw [show heldR (a : Nat) ([] : Res) = 0 from rfl, Int.sub_zero]
      go_wp2
      go_ret2
      exact ⟨rfl, by rw [HQ.out]; exact RGH.out.bel⟩
    · intro L1 i r y L2 w3 he hir hb3 hsz3 hen
      simp only [mkR] at hen ⊢
      have e1 : heldR (a : Nat) left = heldR (a : Nat) (L1 ++ L2) + (if r = ((a : Nat) : Int) then y else 0) := by rw [he]; exact heldR_mid ((a : Nat) : Int) L1 L2 (i, r, y)
      have rg3 := (RGH.out.next he hir hb3 hqv).alloc (by omega) (.cells #[.int .i64 r, .int .u64 y] 121)
      have hin : (i, r, y) ∈ l := RGH.out.sub _ (by rw [he]; simp)
      have h0 : 0 ≤ y := HRES.out _ hin
      have hl2 := heldR_le ((a : Nat) : Int) (l := L1 ++ L2) (fun x hx => HRES.out x (RGH.out.sub x (by rw [he]; rcases List.mem_append.1 hx with h | h <;> simp [h])))
      have hl3 := heldR_le ((a : Nat) : Int) (l := left) (fun x hx => HRES.out x (RGH.out.sub x hx))
      have hlen : left.length = (L1 ++ L2).length + 1 := by rw [he]; simp; omega
      have hsz3' : q ≤ w3.heap.size := by omega
      have RG3 := Lib.hid rg3; have HLEN := Lib.hid hlen; have HIN := Lib.hid hin
      obtain ⟨hl0, hl1⟩ := hl
      clear rg3 hlen hin hir hb3 he
      have hgoal : ∀ x, x = heldR (a : Nat) l - heldR (a : Nat) (L1 ++ L2) → heldR (a : Nat) (L1 ++ L2) ≤ heldR (a : Nat) l → ∃ left' : Res, (L1 ++ L2).length = left'.length ∧ Value.int .u64 x = .int .u64 (heldR (a : Nat) l - heldR (a : Nat) left') ∧ heldR (a : Nat) left' ≤ heldR (a : Nat) l ∧ RG p B mb n cap f l q q w left' (w3.alloc (.cells #[.int .i64 r, .int .u64 y] 121)) := fun x hx hle => ⟨L1 ++ L2, rfl, by rw [hx], hle, RG3.out⟩
      have HG := Lib.hid hgoal
      clear hgoal RG3 RGH
      generalize heldR (a : Nat) l = tot at *
      generalize heldR (a : Nat) (L1 ++ L2) = now at *
      generalize heldR (a : Nat) left = was at *
      obtain ⟨A, hA⟩ : ∃ A, tot - was = A := ⟨_, rfl⟩
      by_cases hr : r = ((a : Nat) : Int)
      · subst hr
        rw [if_pos rfl] at e1
        have hqw : IntKind.u64.wrap (A + y) = A + y := u64_in _ (by omega)
        have hA2 : A + y = tot - now := by omega
        have hle : now ≤ tot := by omega
        have HA2 := Lib.hid hA2
        rw [hA]
        clear e1 hl2 hl3 hA hA2 hlt hl0 hl1
        go_wp2
        go_roundg (L1 ++ L2).length
        case measure => have := HM.out; have := HLEN.out; omega
        case rel => exact HG.out _ HA2.out hle
      · rw [if_neg hr] at e1
        have hd : (r == ((a : Nat) : Int)) = false := by simpa using hr
        have hA2 : A = tot - now := by omega
        have hle : now ≤ tot := by omega
        have HA2 := Lib.hid hA2
        rw [hA]
        clear e1 hl2 hl3 hA hA2 hlt hl0 hl1
        go_wp2
        go_roundg (L1 ++ L2).length
        case measure => have := HM.out; have := HLEN.out; omega
        case rel => exact HG.out _ HA2.out hle
end
end Go.Proofs.Ytnnnbgndbmcffaa
