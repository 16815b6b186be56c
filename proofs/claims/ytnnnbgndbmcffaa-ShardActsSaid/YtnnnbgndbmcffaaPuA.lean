/- Plain words for the purse, its blocks in memory, and the small functions; the condition is that the purse's blocks are known. -/
import Derived.Test.YtnnnbgndbmcffaaAmRows
import Derived.Test.YtnnnbgndbmcffaaTools
import Derived.Test.YtnnnbgndbmcffaaIMap
import Derived.Test.YtnnnbgndbmcffaaAppSep
import Derived.Test.YtnnnbgndbmcffaaQuietT
import Derived.Deep.LoopGhost
import Derived.OwnWalk
namespace Go.Proofs.Ytnnnbgndbmcffaa
open Go.RowKit
set_option linter.unusedVariables false

/-- what was there is as it was, but for some blocks -/
structure Bt (s : List Nat) (w w' : World) : Prop where
  os : w'.os = w.os
  tape : w'.tape = w.tape
  output : w'.output = w.output
  size : w.heap.size ≤ w'.heap.size
  block : ∀ k, k < w.heap.size → k ∉ s → w'.heap[k]? = w.heap[k]?
section
variable {s : List Nat} {w w' w'' : World}
theorem Bt.refl (s : List Nat) (w : World) : Bt s w w := ⟨rfl, rfl, rfl, Nat.le_refl _, fun _ _ _ => rfl⟩
theorem Bt.trans (h : Bt s w w') (h' : Bt s w' w'') : Bt s w w'' :=
  ⟨h'.os.trans h.os, h'.tape.trans h.tape, h'.output.trans h.output, Nat.le_trans h.size h'.size, fun k hk hs => (h'.block k (Nat.lt_of_lt_of_le hk h.size) hs).trans (h.block k hk hs)⟩
theorem Bt.ofBelow (s : List Nat) (h : Below w.heap.size w w') : Bt s w w' := ⟨h.os, h.tape, h.output, h.size, fun k hk _ => h.block k hk⟩
theorem Bt.ofBut {g : Nat} (h : M.But g w w') (hg : g ∈ s) : Bt s w w' := ⟨h.os, h.tape, h.output, h.size, fun k hk hs => h.block k hk (fun e => hs (e ▸ hg))⟩
theorem Bt.drew (h : Bt s w w') : Bt s w w'.drew := ⟨h.os, h.tape, h.output, h.size, h.block⟩
theorem Bt.drewN (h : Bt s w w') (k : Nat) : Bt s w (w'.drewN k) := ⟨h.os, h.tape, h.output, h.size, h.block⟩
theorem Bt.alloc (h : Bt s w w') (o : Obj) : Bt s w (w'.alloc o) := h.trans (.ofBelow s ((Below.refl _ _).alloc (Nat.le_refl _) o))
theorem Bt.set (h : Bt s w w') {p : Addr} (hp : p.block ∈ s) (v : Value) : Bt s w (w'.setCell p v) := h.trans (.ofBut ((M.But.refl p.block w').set (.inl rfl) v) hp)
theorem Bt.row {k : Nat} {t : TypeId} {cs : Array Value} (h : Bt s w w') (hr : M.RowAt w k t cs) (hk : k ∉ s) : M.RowAt w' k t cs := by
  have hl := hr.lt
  unfold M.RowAt at *; rw [h.block k hl hk]; exact hr
theorem Bt.below {B : Nat} {w0 : World} (h : Bt s w w') (hb : Below B w0 w) (hs : ∀ g ∈ s, B ≤ g) (hB : B ≤ w.heap.size) : Below B w0 w' :=
  ⟨h.os.trans hb.os, h.tape.trans hb.tape, h.output.trans hb.output, Nat.le_trans hb.size h.size, fun k hk => (h.block k (by omega) (fun e => by have := hs k e; omega)).trans (hb.block k hk)⟩
end

def upF {α : Type} (f : Nat → α) (k : Nat) (x : α) : Nat → α := fun i => if i = k then x else f i
theorem upF_same {α : Type} (f : Nat → α) (k : Nat) (x : α) : upF f k x k = x := if_pos rfl
theorem upF_ne {α : Type} (f : Nat → α) {k j : Nat} (h : j ≠ k) (x : α) : upF f k x j = f j := if_neg h
abbrev Res := List (Int × Int × Int)
def sumB (f : Nat → Int) : Nat → Int
  | 0 => 0
  | k + 1 => sumB f k + f k
def sumR : Res → Int
  | [] => 0
  | e :: r => e.2.2 + sumR r
theorem sumB_up {f : Nat → Int} {a : Nat} (x : Int) : ∀ n, sumB (upF f a x) n = sumB f n + if a < n then x - f a else 0
  | 0 => by show (0 : Int) = 0 + _; rw [if_neg (by omega)]; rfl
  | n + 1 => by
    show sumB (upF f a x) n + upF f a x n = sumB f n + f n + _
    rw [sumB_up x n]
    by_cases h : n = a
    · subst h; rw [upF_same, if_neg (by omega), if_pos (by omega)]; omega
    · rw [upF_ne f h]
      by_cases h2 : a < n
      · rw [if_pos h2, if_pos (by omega)]; omega
      · rw [if_neg h2, if_neg (by omega)]; omega
theorem sumB_nonneg {f : Nat → Int} (h : ∀ i, 0 ≤ f i) : ∀ n, 0 ≤ sumB f n
  | 0 => Int.le_refl _
  | n + 1 => by have := sumB_nonneg h n; have := h n; show 0 ≤ sumB f n + f n; omega
theorem sumB_le {f : Nat → Int} (h : ∀ i, 0 ≤ f i) {a : Nat} : ∀ n, a < n → f a ≤ sumB f n
  | n + 1, ha => by
    show f a ≤ sumB f n + f n
    by_cases e : a = n
    · subst e; have := sumB_nonneg h a; omega
    · have := sumB_le h n (show a < n by omega); have := h n; omega
theorem sumB_mono {f : Nat → Int} (h : ∀ i, 0 ≤ f i) : ∀ n k, k ≤ n → sumB f k ≤ sumB f n
  | 0, k, hk => by rw [Nat.le_zero.1 hk]; exact Int.le_refl _
  | n + 1, k, hk => by
    by_cases e : k = n + 1
    · subst e; exact Int.le_refl _
    · have := sumB_mono h n k (by omega); have := h n; show _ ≤ sumB f n + f n; omega
theorem sumR_app (l r : Res) : sumR (l ++ r) = sumR l + sumR r := by
  induction l with
  | nil => show sumR r = 0 + sumR r; omega
  | cons e l ih => show e.2.2 + sumR (l ++ r) = e.2.2 + sumR l + sumR r; rw [ih]; omega
theorem sumR_nonneg {l : Res} (h : ∀ e ∈ l, 0 ≤ e.2.2) : 0 ≤ sumR l := by
  induction l with
  | nil => exact Int.le_refl _
  | cons e l ih =>
    have := h e List.mem_cons_self
    have := ih fun x hx => h x (List.mem_cons_of_mem _ hx)
    show 0 ≤ e.2.2 + sumR l; omega
theorem sumR_del {l : Res} {i : Int} {x : Int × Int} (h : getM l i = some x) : sumR (delM l i) + x.2 = sumR l := by
  induction l with
  | nil => cases h
  | cons e l ih =>
    unfold getM at h; unfold delM
    split at h
    · rename_i he
      rw [if_pos he]
      obtain rfl : e.2 = x := Option.some.inj h
      show sumR l + e.2.2 = e.2.2 + sumR l; omega
    · rename_i he
      rw [if_neg he]
      have := ih h
      show e.2.2 + sumR (delM l i) + x.2 = e.2.2 + sumR l; omega
theorem len_del {l : Res} {i : Int} {x : Int × Int} (h : getM l i = some x) : (delM l i).length + 1 = l.length := by
  induction l with
  | nil => cases h
  | cons e l ih =>
    unfold getM at h; unfold delM
    split at h
    · rename_i he; rw [if_pos he]; rfl
    · rename_i he
      rw [if_neg he]
      show (delM l i).length + 1 + 1 = l.length + 1
      rw [ih h]
theorem dist_del {l : Res} (hd : l.Pairwise (fun a b => a.1 ≠ b.1)) (i : Int) : (delM l i).Pairwise (fun a b => a.1 ≠ b.1) := by
  induction l with
  | nil => exact List.Pairwise.nil
  | cons e l ih =>
    obtain ⟨h1, h2⟩ := List.pairwise_cons.1 hd
    unfold delM
    split
    · exact h2
    · exact List.pairwise_cons.2 ⟨fun q hq => h1 q (delM_sub i l q hq), ih h2⟩
theorem keys_le : ∀ (k : Nat) (l : Res), l.Pairwise (fun a b => a.1 ≠ b.1) → (∀ j : Nat, j < k → (getM l (j : Int)).isSome = true) → k ≤ l.length
  | 0, _, _, _ => Nat.zero_le _
  | k + 1, l, hd, h => by
    obtain ⟨x, hx⟩ := Option.isSome_iff_exists.1 (h k (Nat.lt_succ_self k))
    have h1 := keys_le k (delM l (k : Int)) (dist_del hd _) (fun j hj => by
      rw [getM_del hd, if_neg (by omega)]; exact h j (by omega))
    have := len_del hx
    omega
def freeGo (l : Res) : Nat → Nat → Nat
  | 0, i => i
  | f + 1, i => if (getM l (i : Int)).isSome then freeGo l f (i + 1) else i
/-- the least number that none has -/
def freeM (l : Res) : Nat := freeGo l l.length 0
theorem freeGo_spec (l : Res) (hd : l.Pairwise (fun a b => a.1 ≠ b.1)) : ∀ f i, f + i = l.length → (∀ j : Nat, j < i → (getM l (j : Int)).isSome = true) → (∀ j : Nat, j < freeGo l f i → (getM l (j : Int)).isSome = true) ∧ getM l (freeGo l f i : Nat) = none ∧ freeGo l f i ≤ l.length
  | 0, i, hi, h => by
    refine ⟨h, ?_, by show i ≤ _; omega⟩
    show getM l (i : Int) = none
    cases hg : getM l (i : Int) with
    | none => rfl
    | some x =>
      have := keys_le (i + 1) l hd (fun j hj => by
        by_cases e : j = i
        · subst e; rw [hg]; rfl
        · exact h j (by omega))
      omega
  | f + 1, i, hi, h => by
    unfold freeGo
    cases hg : getM l (i : Int) with
    | none => rw [if_neg (show ¬ (none : Option (Int × Int)).isSome = true by decide)]; exact ⟨h, hg, by omega⟩
    | some x =>
      rw [if_pos (show (some x).isSome = true from rfl)]
      exact freeGo_spec l hd f (i + 1) (by omega) (fun j hj => by
        by_cases e : j = i
        · subst e; rw [hg]; rfl
        · exact h j (by omega))
theorem freeM_spec {l : Res} (hd : l.Pairwise (fun a b => a.1 ≠ b.1)) : (∀ j : Nat, j < freeM l → (getM l (j : Int)).isSome = true) ∧ getM l (freeM l : Nat) = none ∧ freeM l ≤ l.length :=
  freeGo_spec l hd l.length 0 rfl (fun j hj => absurd hj (by omega))
/-- what always holds of a purse -/
structure Inv (n : Nat) (f : Nat → Int) (l : Res) : Prop where
  n1 : 1 ≤ n
  n32 : n ≤ 32
  pos : ∀ i, 0 ≤ f i
  res : ∀ e ∈ l, 0 ≤ e.1 ∧ e.1 ≤ 32 ∧ 0 ≤ e.2.1 ∧ e.2.1 < (n : Int) ∧ 0 ≤ e.2.2
  len : l.length ≤ 32
  tot : sumB f n + sumR l ≤ Am.mx
theorem Inv.bal {n : Nat} {f : Nat → Int} {l : Res} (h : Inv n f l) {a : Nat} (ha : a < n) : f a ≤ 1125899906842624 := by
  have := sumB_le h.pos n ha
  have := sumR_nonneg fun e he => (h.res e he).2.2.2.2
  have := h.tot
  unfold Am.mx at this; omega
theorem Inv.amt {n : Nat} {f : Nat → Int} {l : Res} (h : Inv n f l) {i : Int} {x : Int × Int} (hx : getM l i = some x) : 0 ≤ x.1 ∧ x.1 < (n : Int) ∧ 0 ≤ x.2 ∧ x.2 ≤ 1125899906842624 := by
  have h1 := h.res _ (getM_mem hx)
  have h2 := sumR_del hx
  have h3 := sumR_nonneg (l := delM l i) fun e he => (h.res e (delM_sub i l e he)).2.2.2.2
  have h4 := sumB_nonneg h.pos n
  have := h.tot
  unfold Am.mx at this
  exact ⟨h1.2.2.1, h1.2.2.2.1, h1.2.2.2.2, by omega⟩
theorem Inv.sum {n : Nat} {f : Nat → Int} {l : Res} (h : Inv n f l) {a : Nat} (ha : a < n) {i : Int} {x : Int × Int} (hx : getM l i = some x) : f a + x.2 ≤ 1125899906842624 := by
  have h0 := sumB_le h.pos n ha
  have h2 := sumR_del hx
  have h3 := sumR_nonneg (l := delM l i) fun e he => (h.res e (delM_sub i l e he)).2.2.2.2
  have := h.tot
  unfold Am.mx at this; omega

def mkR (x : Int × Int) : Value := .agg #[.int .i64 x.1, .int .u64 x.2]
def KR : KT Try.prog 3 Int := intKT Try.underlying3
/-- a purse: its own block, its balances, its reservations -/
structure Pu (p B mb n cap : Nat) (f : Nat → Int) (l : Res) (w : World) : Prop where
  hp : M.RowAt w p 118 #[.slice (some ⟨B, 0, none⟩) n cap, .map (some mb)]
  hB : ∃ cur, M.RowAt w B 23 cur ∧ ∀ i, i < n → cur[i]? = some (.int .u64 (f i))
  hm : IM KR mkR w mb l
  ne : p ≠ B ∧ p ≠ mb ∧ B ≠ mb
  cap : n ≤ cap
  inv : Inv n f l
section
variable {p B mb n cap : Nat} {f : Nat → Int} {l l' : Res} {w w' : World} {s : List Nat}
theorem Pu.bt (h : Pu p B mb n cap f l w) (hb : Bt s w w') (h1 : p ∉ s) (h2 : B ∉ s) (h3 : mb ∉ s) : Pu p B mb n cap f l w' := by
  obtain ⟨cur, hr, hc⟩ := h.hB
  exact ⟨hb.row h.hp h1, ⟨cur, hb.row hr h2, hc⟩, h.hm.of (hb.block mb h.hm.lt h3), h.ne, h.cap, h.inv⟩
theorem Pu.same (h : Pu p B mb n cap f l w) (hb : Below w.heap.size w w') : Pu p B mb n cap f l w' := h.bt (s := []) (.ofBelow _ hb) (by simp) (by simp) (by simp)
theorem Pu.alloc (h : Pu p B mb n cap f l w) (o : Obj) : Pu p B mb n cap f l (w.alloc o) := h.same ((Below.refl _ _).alloc (Nat.le_refl _) o)
theorem Pu.drew (h : Pu p B mb n cap f l w) : Pu p B mb n cap f l w.drew := by
  obtain ⟨cur, hr, hc⟩ := h.hB
  exact ⟨h.hp, ⟨cur, hr, hc⟩, h.hm, h.ne, h.cap, h.inv⟩
theorem Pu.c0 (h : Pu p B mb n cap f l w) : w.cell? ⟨p, 0, none⟩ = some (.slice (some ⟨B, 0, none⟩) n cap) := (h.hp.cell 0).trans rfl
theorem Pu.c1 (h : Pu p B mb n cap f l w) : w.cell? ⟨p, 1, none⟩ = some (.map (some mb)) := (h.hp.cell 1).trans rfl
theorem Pu.bal (h : Pu p B mb n cap f l w) {i : Nat} (hi : i < n) : w.cell? ⟨B, i, none⟩ = some (.int .u64 (f i)) ∧ w.frozen? ⟨B, i, none⟩ = false := by
  obtain ⟨cur, hr, hc⟩ := h.hB
  exact ⟨by rw [hr.cell]; exact hc i hi, hr.frozen i⟩
/-- a balance is written -/
theorem Pu.set (h : Pu p B mb n cap f l w) {a : Nat} (ha : a < n) (x : Int) (hi : Inv n (upF f a x) l) : Pu p B mb n cap (upF f a x) l (w.setCell ⟨B, a, none⟩ (.int .u64 x)) := by
  obtain ⟨cur, hr, hc⟩ := h.hB
  refine ⟨h.hp.far (p := ⟨B, a, none⟩) (Ne.symm h.ne.1) _, ⟨_, hr.set a _, fun i hi => ?_⟩, h.hm.far (p := ⟨B, a, none⟩) h.ne.2.2 _, h.ne, h.cap, hi⟩
  rw [Array.getElem?_setIfInBounds]
  by_cases e : a = i
  · subst e
    have hlt : a < cur.size := (Array.getElem?_eq_some_iff.1 (hc a ha)).1
    rw [if_pos rfl, if_pos hlt, upF_same]
  · rw [if_neg e, upF_ne f (fun e2 => e e2.symm)]; exact hc i hi
/-- the map is written -/
theorem Pu.map (h : Pu p B mb n cap f l w) (hm : IM KR mkR w' mb l') (hb : M.But mb w w') (hi : Inv n f l') : Pu p B mb n cap f l' w' := by
  obtain ⟨cur, hr, hc⟩ := h.hB
  exact ⟨hb.row h.hp h.ne.2.1, ⟨cur, hb.row hr h.ne.2.2, hc⟩, hm, h.ne, h.cap, hi⟩
end
theorem zero121 (w : World) : (zeroValue 121).run Try.prog w = .ok (.agg #[.int .i64 0, .int .u64 0]) w := by kernel_rfl
theorem ok_small {i : Int} (h0 : -9223372036854775808 ≤ i) (h1 : i ≤ 9223372036854775807) : KR.ok i := by
  show (Lit.int .i64 i).wf = true
  simp [Lit.wf, IntKind.min, IntKind.max, IntKind.signed, IntKind.bits]; omega

section
variable {p B mb n cap : Nat} {f : Nat → Int} {l : Res} {w : World}
def inP (n : Nat) (a : Int) : Bool := decide (0 ≤ a) && decide (a < (n : Int))
set_option maxRecDepth 100000 in
theorem has_any (h : Pu p B mb n cap f l w) (a : Int) : Calls Try.prog 66 #[.pointer (some ⟨p, 0, none⟩), .int .i64 a] w fun e w' => e = .returned (.bool (inP n a)) ∧ w = w' := by
  have c0 := h.c0
  have n32 := h.inv.n32
  unfold inP
  clear h
  by_cases h0 : 0 ≤ a
  · have d0 : decide (0 ≤ a) = true := by simp [h0]
    rw [d0]
    go_enter Try.func66, Try.ntmps66
    go_wp2
    go_ret
    exact ⟨by simp, rfl⟩
  · have d0 : decide (0 ≤ a) = false := by simp; omega
    rw [d0]
    go_enter Try.func66, Try.ntmps66
    go_wp2
    go_ret
    exact ⟨rfl, rfl⟩
theorem has_yes (h : Pu p B mb n cap f l w) {a : Nat} (ha : a < n) : Calls Try.prog 66 #[.pointer (some ⟨p, 0, none⟩), .int .i64 (a : Nat)] w fun e w' => e = .returned (.bool true) ∧ w = w' := by
  have := has_any h (a : Nat)
  rwa [show inP n (a : Nat) = true by unfold inP; simp; omega] at this
theorem has_no (h : Pu p B mb n cap f l w) {a : Int} (ha : inP n a = false) : Calls Try.prog 66 #[.pointer (some ⟨p, 0, none⟩), .int .i64 a] w fun e w' => e = .returned (.bool false) ∧ w = w' := by
  have := has_any h a
  rwa [ha] at this
theorem in_of {a : Int} (h : inP n a = true) : ∃ k : Nat, k < n ∧ a = (k : Int) := by
  unfold inP at h
  simp at h
  obtain ⟨k, rfl⟩ := Int.eq_ofNat_of_zero_le h.1
  exact ⟨k, by omega, rfl⟩
set_option maxRecDepth 100000 in
theorem bal_yes (h : Pu p B mb n cap f l w) {a : Nat} (ha : a < n) : Calls Try.prog 39 #[.pointer (some ⟨p, 0, none⟩), .int .i64 (a : Nat)] w fun e w' => e = .returned (.tuple #[.int .u64 (f a), .int .i64 0]) ∧ w = w' := by
  have c0 := h.c0
  have cb := (h.bal ha).1
  have HAS := Lib.hid (has_yes h ha)
  have n32 := h.inv.n32
  clear h
  go_enter Try.func39, Try.ntmps39
  go_wp2_with fail
  refine (HAS.out).mono ?_
  rintro e w1 ⟨rfl, rfl⟩
  go_wp2
  go_ret2
  exact ⟨rfl, rfl⟩
set_option maxRecDepth 100000 in
theorem bal_no (h : Pu p B mb n cap f l w) {a : Int} (ha : inP n a = false) : Calls Try.prog 39 #[.pointer (some ⟨p, 0, none⟩), .int .i64 a] w fun e w' => e = .returned (.tuple #[.int .u64 0, .int .i64 3]) ∧ w = w' := by
  have HAS := Lib.hid (has_no h ha)
  clear h ha
  go_enter Try.func39, Try.ntmps39
  go_wp2_with fail
  refine (HAS.out).mono ?_
  rintro e w1 ⟨rfl, rfl⟩
  go_wp2
  go_ret2
  exact ⟨rfl, rfl⟩
end
end Go.Proofs.Ytnnnbgndbmcffaa
