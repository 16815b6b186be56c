/- A law's own world: rows, slices, and slices with a frozen head, each with a name, in blocks of their own, beyond what was there; no conditions. -/
import Derived.Test.YtiilgkhndfnkgaaDoorMem
import Derived.Lib.FrozenHead2
namespace Go.Proofs.YtiilgkhndfnkgaaDoor
open Go.RowKit
set_option linter.unusedVariables false

inductive Th
  | row (g : Nat) (t : TypeId) (cs : Array Value)
  | own (t : TypeId) (sz : Nat) (u : Value) (k : Nat) (xs : List Value)
  | ownF (t : TypeId) (u : Value) (k : Nat) (xs : List Value)
def Th.blk : Th → Option Nat
  | .row g _ _ => some g
  | .own _ _ u _ _ => u.ownBlock
  | .ownF _ u _ _ => u.ownBlock
def Th.at (n : Nat) (v : World) : Th → Prop
  | .row g t cs => M.RowAt v g t cs ∧ n ≤ g
  | .own t sz u k xs => v.ownsRow n t sz u k xs
  | .ownF t u k xs => v.ownsRowF n t 1 u k xs
abbrev Ths := List (Nat × Th)
structure TW (n : Nat) (w0 : World) (X : Ths) (v : World) : Prop where
  at_ : ∀ x ∈ X, x.2.at n v
  ap : ∀ x ∈ X, ∀ y ∈ X, x.1 ≠ y.1 → x.2.blk = none ∨ x.2.blk ≠ y.2.blk
  bel : Below n w0 v
  ge : n ≤ v.heap.size
/-- a is no name of these -/
def New (a : Nat) (X : Ths) : Prop := ∀ y ∈ X, y.1 ≠ a
section
variable {n : Nat} {w0 v v' : World} {X X' : Ths} {a : Nat} {x x' : Th}
theorem Th.lt (h : x.at n v) : ∀ g, x.blk = some g → n ≤ g ∧ g < v.heap.size := fun g hg => by
  cases x with
  | row g' t cs => obtain rfl : g' = g := Option.some.inj hg; exact ⟨h.2, h.1.lt⟩
  | own t sz u k xs => exact World.ownsRow.lt h g hg
  | ownF t u k xs => exact World.ownsRowF.lt h g hg
theorem Th.keep (h : x.at n v) {r : Option Nat} (hg : v.grownBy v' r) (hr : x.blk = none ∨ x.blk ≠ r) : x.at n v' := by
  cases x with
  | row g t cs =>
    refine ⟨?_, h.2⟩
    have h1 := h.1
    unfold M.RowAt at *
    rw [hg.block g (M.RowAt.lt h.1) (by rcases hr with e | e; cases e; exact e)]; exact h1
  | own t sz u k xs => exact World.ownsRow.kept h hg hr
  | ownF t u k xs => exact World.ownsRowF.kept h hg hr
theorem below_grownT {w w' : World} (h : Below w.heap.size w w') (r : Option Nat) : w.grownBy w' r := ⟨h.os, h.tape, h.output, h.size, fun k hk _ => h.block k hk⟩
theorem but_grownT {g : Nat} {w w' : World} (h : M.But g w w') : w.grownBy w' (some g) := ⟨h.os, h.tape, h.output, h.size, fun k hk hne => h.block k hk (fun e => hne (by rw [e]))⟩
theorem TW.start (w : World) : TW w.heap.size w [] w := ⟨fun x hx => (by cases hx), fun x hx => (by cases hx), Below.refl _ _, Nat.le_refl _⟩
theorem TW.sub (h : TW n w0 X v) (hs : ∀ x ∈ X', x ∈ X) : TW n w0 X' v := ⟨fun x hx => h.at_ x (hs x hx), fun x hx y hy => h.ap x (hs x hx) y (hs y hy), h.bel, h.ge⟩
/-- one thing changes -/
theorem TW.change (h : TW n w0 ((a, x) :: X) v) (hn : New a X) (hg : v.grownBy v' x.blk) (hx : x'.at n v') (hb : x'.blk = x.blk ∨ ∀ g, x'.blk = some g → v.heap.size ≤ g) : TW n w0 ((a, x') :: X) v' := by
  have hx0 := h.at_ (a, x) List.mem_cons_self
  have apX : ∀ y ∈ X, y.2.blk = none ∨ y.2.blk ≠ x.blk := fun y hy => h.ap y (List.mem_cons_of_mem _ hy) (a, x) List.mem_cons_self (hn y hy)
  have fresh : ∀ y ∈ X, ∀ g, y.2.blk = some g → g < v.heap.size := fun y hy g e => (Th.lt (h.at_ y (List.mem_cons_of_mem _ hy)) g e).2
  refine ⟨fun y hy => ?_, fun y hy z hz hne => ?_, ?_, Nat.le_trans h.ge hg.size⟩
  · rcases List.mem_cons.1 hy with e | e
    · subst e; exact hx
    · exact Th.keep (h.at_ y (List.mem_cons_of_mem _ e)) hg (apX y e)
  · have key : ∀ y ∈ X, y.2.blk = none ∨ y.2.blk ≠ x'.blk := fun y hy => by
      rcases hb with e | e
      · rw [e]; exact apX y hy
      · cases h1 : y.2.blk with
        | none => exact .inl rfl
        | some g => exact .inr (fun e2 => by have := e g e2.symm; have := fresh y hy g h1; omega)
    rcases List.mem_cons.1 hy with e | e
    · rcases List.mem_cons.1 hz with e2 | e2
      · subst e; subst e2; exact absurd rfl hne
      · subst e
        rcases key z e2 with h1 | h1
        · cases h2 : x'.blk with
          | none => exact .inl rfl
          | some g => exact .inr (fun e => by rw [h1] at e; cases e)
        · exact .inr (fun e => h1 e.symm)
    · rcases List.mem_cons.1 hz with e2 | e2
      · subst e2; exact key y e
      · exact h.ap y (List.mem_cons_of_mem _ e) z (List.mem_cons_of_mem _ e2) hne
  · refine ⟨hg.os.trans h.bel.os, hg.tape.trans h.bel.tape, hg.output.trans h.bel.output, Nat.le_trans h.bel.size hg.size, fun k hk => (hg.block k (by have := h.ge; omega) (fun e => ?_)).trans (h.bel.block k hk)⟩
    have := (Th.lt hx0 k e.symm).1; omega
theorem TW.same (h : TW n w0 X v) (hb : Below v.heap.size v v') : TW n w0 X v' :=
  ⟨fun x hx => Th.keep (h.at_ x hx) (below_grownT hb none) (by cases x.2.blk <;> simp), h.ap, h.bel.trans (hb.mono h.ge), Nat.le_trans h.ge hb.size⟩
theorem TW.alloc (h : TW n w0 X v) (o : Obj) : TW n w0 X (v.alloc o) := h.same ((Below.refl _ _).alloc (Nat.le_refl _) o)
theorem TW.drew (h : TW n w0 X v) : TW n w0 X v.drew := h.same ((Below.refl _ _).drew)
/-- one more -/
theorem TW.add (h : TW n w0 X v) (hn : New a X) (hb : Below v.heap.size v v') (hx : x.at n v') (hf : ∀ g, x.blk = some g → v.heap.size ≤ g) : TW n w0 ((a, x) :: X) v' := by
  have h' := h.same hb
  have fresh : ∀ y ∈ X, ∀ g, y.2.blk = some g → g < v.heap.size := fun y hy g e => (Th.lt (h.at_ y hy) g e).2
  have key : ∀ y ∈ X, y.2.blk = none ∨ y.2.blk ≠ x.blk := fun y hy => by
    cases h1 : y.2.blk with
    | none => exact .inl rfl
    | some g => exact .inr (fun e2 => by have := hf g e2.symm; have := fresh y hy g h1; omega)
  refine ⟨fun y hy => ?_, fun y hy z hz hne => ?_, h'.bel, h'.ge⟩
  · rcases List.mem_cons.1 hy with e | e
    · subst e; exact hx
    · exact h'.at_ y e
  · rcases List.mem_cons.1 hy with e | e
    · rcases List.mem_cons.1 hz with e2 | e2
      · subst e; subst e2; exact absurd rfl hne
      · subst e
        rcases key z e2 with h1 | h1
        · cases h2 : x.blk with
          | none => exact .inl rfl
          | some g => exact .inr (fun e => by rw [h1] at e; cases e)
        · exact .inr (fun e => h1 e.symm)
    · rcases List.mem_cons.1 hz with e2 | e2
      · subst e2; exact key y e
      · exact h.ap y e z e2 hne
theorem TW.newRow (h : TW n w0 X v) (hn : New a X) (t : TypeId) (cs : Array Value) : TW n w0 ((a, .row v.heap.size t cs) :: X) (v.alloc (.cells cs t)) :=
  h.add hn ((Below.refl _ _).alloc (Nat.le_refl _) _) ⟨M.RowAt.new v t cs, h.ge⟩ (fun g e => by obtain rfl := Option.some.inj e; exact Nat.le_refl _)
theorem TW.nilOwn (h : TW n w0 X v) (hn : New a X) (t : TypeId) (sz : Nat) : TW n w0 ((a, .own t sz (.slice none 0 0) 0 []) :: X) v :=
  h.add hn (Below.refl _ _) ⟨by simp, .inl ⟨rfl, rfl⟩⟩ (fun g e => by cases e)
theorem TW.nilOwnF (h : TW n w0 X v) (hn : New a X) (t : TypeId) : TW n w0 ((a, .ownF t (.slice none 0 0) 0 []) :: X) v :=
  h.add hn (Below.refl _ _) ⟨by simp, .inl ⟨rfl, rfl⟩⟩ (fun g e => by cases e)
theorem TW.own_mono {t : TypeId} {sz k m : Nat} {u : Value} {xs : List Value} (ho : v.ownsRow m t sz u k xs) (hm : n ≤ m) : v.ownsRow n t sz u k xs := by
  refine ⟨ho.1, ?_⟩
  rcases ho.2 with hn | ⟨g, cap, cur, e, hb, rest⟩
  · exact .inl hn
  · exact .inr ⟨g, cap, cur, e, Nat.le_trans hm hb, rest⟩
/-- a slice made since -/
theorem TW.copied {t : TypeId} {sz k : Nat} {u : Value} {xs : List Value} (h : TW n w0 X v) (hn : New a X) (ho : v'.ownsRow v.heap.size t sz u k xs) (hb : Below v.heap.size v v') : TW n w0 ((a, .own t sz u k xs) :: X) v' :=
  h.add hn hb (TW.own_mono ho h.ge) (fun g e => (ho.lt g e).1)
theorem TW.row {g : Nat} {t : TypeId} {cs : Array Value} (h : TW n w0 X v) (hm : (a, .row g t cs) ∈ X) : M.RowAt v g t cs := (h.at_ _ hm).1
theorem TW.own {t : TypeId} {sz k : Nat} {u : Value} {xs : List Value} (h : TW n w0 X v) (hm : (a, .own t sz u k xs) ∈ X) : v.ownsRow n t sz u k xs := h.at_ _ hm
theorem TW.ownF {t : TypeId} {k : Nat} {u : Value} {xs : List Value} (h : TW n w0 X v) (hm : (a, .ownF t u k xs) ∈ X) : v.ownsRowF n t 1 u k xs := h.at_ _ hm
theorem TW.setCell {g : Nat} {t : TypeId} {cs : Array Value} (h : TW n w0 ((a, .row g t cs) :: X) v) (hn : New a X) (j : Nat) (y : Value) : TW n w0 ((a, .row g t (cs.setIfInBounds j y)) :: X) (v.setCell ⟨g, j, none⟩ y) :=
  h.change hn (but_grownT ((M.But.refl g v).set (p := ⟨g, j, none⟩) (.inl rfl) y)) ⟨(h.row List.mem_cons_self).set j y, (h.at_ _ List.mem_cons_self).2⟩ (.inl rfl)
theorem TW.setRow {g : Nat} {t : TypeId} {cs : Array Value} (h : TW n w0 ((a, .row g t cs) :: X) v) (hn : New a X) (cs' : Array Value) : TW n w0 ((a, .row g t cs') :: X) (v.setRow g cs') :=
  h.change hn (but_grownT ((M.But.refl g v).setRow (.inl rfl) cs')) ⟨(h.row List.mem_cons_self).setRow cs', (h.at_ _ List.mem_cons_self).2⟩ (.inl rfl)
/-- a slice that has grown -/
theorem TW.grow {t : TypeId} {sz k k' : Nat} {u u' : Value} {xs xs' : List Value} (h : TW n w0 ((a, .own t sz u k xs) :: X) v) (hn : New a X) (ho : v'.ownsRow n t sz u' k' xs') (hg : v.grownBy v' u.ownBlock) (hs : u'.ownBlock = u.ownBlock ∨ ∀ g, u'.ownBlock = some g → v.heap.size ≤ g) : TW n w0 ((a, .own t sz u' k' xs') :: X) v' :=
  h.change hn hg ho hs
/-- a cell of a slice -/
theorem TW.cellOf {t : TypeId} {sz k : Nat} {u : Value} {xs : List Value} (h : TW n w0 X v) (hm : (a, .own t sz u k xs) ∈ X) {ad : Option Addr} {m c : Nat} (hu : u = .slice ad m c) {j : Nat} {y : Value} (hy : xs[j]? = some y) :
    ∃ g, ad = some ⟨g, 0, none⟩ ∧ v.cell? ⟨g, j, none⟩ = some y := by
  have ho := h.own hm
  subst hu
  rcases ho.2 with ⟨e, h0⟩ | ⟨g, cap, cur, e, _⟩
  · have := ho.1
    subst h0
    rw [Nat.zero_mul] at this
    rw [List.length_eq_zero_iff.1 this] at hy; cases hy
  · cases e
    have := ho.cells (g := g) rfl j y hy
    have hadd : (⟨g, 0, none⟩ : Addr).add j = ⟨g, j, none⟩ := by unfold Addr.add; split <;> simp_all
    rw [hadd] at this
    exact ⟨g, rfl, this⟩
end
end Go.Proofs.YtiilgkhndfnkgaaDoor
