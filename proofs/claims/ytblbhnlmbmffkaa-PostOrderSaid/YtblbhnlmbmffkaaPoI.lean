/- The walk of PostOrder; the condition is that the row of numbers is known. -/
import Derived.Test.YtblbhnlmbmffkaaPoH
import Derived.Test.YtblbhnlmbmffkaaAppSep
namespace Go.Proofs.Ytblbhnlmbmffkaa
open Go.RowKit
set_option linter.unusedVariables false

def upF {α : Type} (f : Nat → α) (k : Nat) (x : α) : Nat → α := fun i => if i = k then x else f i
theorem upF_same {α : Type} (f : Nat → α) (k : Nat) (x : α) : upF f k x k = x := if_pos rfl
theorem upF_ne {α : Type} (f : Nat → α) {k j : Nat} (h : j ≠ k) (x : α) : upF f k x j = f j := if_neg h
def ints (l : List Nat) : List Value := l.map fun i => Value.int .i64 (i : Nat)
theorem ints_len (l : List Nat) : (ints l).length = l.length := by simp [ints]
theorem grown_of_below {w w' : World} (h : Below w.heap.size w w') (r : Option Nat) : w.grownBy w' r := ⟨h.os, h.tape, h.output, h.size, fun k hk _ => h.block k hk⟩
theorem own_slice {w : World} {base size n : Nat} {e : TypeId} {v : Value} {xs : List Value} (h : w.ownsRow base e size v n xs) : ∃ a c, v = .slice a n c := by
  rcases h.2 with ⟨h1, h2⟩ | ⟨g, c, _, h1, _⟩
  · exact ⟨none, 0, by rw [h1, h2]⟩
  · exact ⟨_, _, h1⟩
/-- the world of PostOrder: a post of three boxes, and three rows of numbers -/
structure OW (n q s : Nat) (w : World) (E : Nat → Bx) (v : Nat → Value) (L : Nat → List Nat) (x : World) : Prop where
  pt : Pt (q + 1) q 3 E x
  row : M.RowAt x s 27 (rowG 3 v)
  own : ∀ k, k < 3 → x.ownsRow (s + 1) 3 1 (v k) (L k).length (ints (L k))
  sep : ∀ i j, i < 3 → j < 3 → i ≠ j → (v i).ownBlock = none ∨ (v i).ownBlock ≠ (v j).ownBlock
  bel : Below n w x
  lt : q + 1 < s
  le : n ≤ q
section
variable {n q s : Nat} {w x x' : World} {E E' : Nat → Bx} {v : Nat → Value} {L : Nat → List Nat}
theorem OW.gt (c : OW n q s w E v L x) {k : Nat} (hk : k < 3) : ∀ g, (v k).ownBlock = some g → s < g ∧ g < x.heap.size := fun g hg => by
  have := (c.own k hk).lt g hg; exact ⟨by omega, this.2⟩
theorem OW.same (c : OW n q s w E v L x) (hb : Below x.heap.size x x') : OW n q s w E v L x' :=
  ⟨c.pt.same hb, c.row.call hb, fun k hk => (c.own k hk).kept (row := none) (grown_of_below hb none) (by cases h : (v k).ownBlock with | none => exact .inl rfl | some g => exact .inr (by simp)), c.sep, c.bel.trans (hb.mono (by have := c.pt.ltB; have := c.le; omega)), c.lt, c.le⟩
theorem OW.alloc (c : OW n q s w E v L x) (o : Obj) : OW n q s w E v L (x.alloc o) := c.same ((Below.refl _ _).alloc (Nat.le_refl _) o)
theorem OW.drew (c : OW n q s w E v L x) : OW n q s w E v L x.drew := ⟨c.pt.drew, c.row.drew, c.own, c.sep, c.bel.drew, c.lt, c.le⟩
theorem OW.call (c : OW n q s w E v L x) (hb : M.But q x x') (hr : M.RowAt x' q 76 (boC E' 3)) (hok : ∀ k, BxOk (E' k)) : OW n q s w E' v L x' :=
  ⟨c.pt.call hb hr hok, hb.row c.row (by have := c.lt; omega), fun k hk => (c.own k hk).kept (But.grown hb) (by
    cases h : (v k).ownBlock with
    | none => exact .inl rfl
    | some g => exact .inr fun e => by have := (c.gt hk g h).1; have := c.lt; cases e; omega), c.sep, hb.below c.bel c.le (by have := c.pt.ltB; have := c.le; omega), c.lt, c.le⟩
theorem OW.drewN (c : OW n q s w E v L x) (k : Nat) : OW n q s w E v L (x.drewN k) := ⟨⟨c.pt.hp.drewN k, c.pt.hB.drewN k, c.pt.ne, c.pt.nb1, c.pt.nb64, c.pt.ok⟩, c.row.drewN k, c.own, c.sep, M.below_drewN c.bel k, c.lt, c.le⟩
/-- a row that is written, or made anew, and put into its place -/
theorem OW.app (c : OW n q s w E v L x) {k : Nat} (hk : k < 3) {u : Value} {l : List Nat} (hg : x.grownBy x' (v k).ownBlock) (ho : x'.ownsRow (s + 1) 3 1 u l.length (ints l)) (hs : u.ownBlock = (v k).ownBlock ∨ ∀ g, u.ownBlock = some g → x.heap.size ≤ g) :
    OW n q s w E (upF v k u) (upF L k l) (x'.setCell ⟨s, k, none⟩ u) := by
  have hlt := c.lt; have hle := c.le
  have hs1 := c.row.lt
  have hq := c.pt.ltB
  have hp := c.pt.ltp
  have nb : ∀ j, j ≤ s → j < x.heap.size → x'.heap[j]? = x.heap[j]? := fun j hj hx => hg.block j hx (fun e => by have := (c.gt hk j e.symm).1; omega)
  have pt' : Pt (q + 1) q 3 E x' := ⟨by have := c.pt.hp; unfold M.RowAt at *; rw [nb _ (by omega) hp]; exact this, by have := c.pt.hB; unfold M.RowAt at *; rw [nb _ (by omega) hq]; exact this, c.pt.ne, c.pt.nb1, c.pt.nb64, c.pt.ok⟩
  have row' : M.RowAt x' s 27 (rowG 3 v) := by have := c.row; unfold M.RowAt at *; rw [nb _ (by omega) hs1]; exact this
  have bel' : Below n w x' := ⟨hg.os.trans c.bel.os, hg.tape.trans c.bel.tape, hg.output.trans c.bel.output, Nat.le_trans c.bel.size hg.size, fun j hj => (nb j (by omega) (by omega)).trans (c.bel.block j hj)⟩
  have kp : ∀ (u' : Value) (m : Nat) (xs : List Value), x'.ownsRow (s + 1) 3 1 u' m xs → (x'.setCell ⟨s, k, none⟩ u).ownsRow (s + 1) 3 1 u' m xs := fun u' m xs h => h.kept (row := some s) ⟨rfl, rfl, rfl, by simp [World.setCell], fun j hj hne => by simp only [World.setCell, Array.getElem?_modify]; rw [if_neg (fun e => hne (by rw [e]))]⟩ (by
    cases hb : u'.ownBlock with
    | none => exact .inl rfl
    | some g => exact .inr fun e => by have := (h.lt g hb).1; cases e; omega)
  refine ⟨?_, ?_, ?_, ?_, bel'.setCell (p := ⟨s, k, none⟩) (by show n ≤ s; omega) u, hlt, hle⟩
  · exact ⟨pt'.hp.far (p := ⟨s, k, none⟩) (by show s ≠ _; omega) u, pt'.hB.far (p := ⟨s, k, none⟩) (by show s ≠ _; omega) u, pt'.ne, pt'.nb1, pt'.nb64, pt'.ok⟩
  · have := row'.set k u
    rwa [rowG_set (g := upF v k u) u (fun j hj => rfl)] at this
  · intro j hj
    apply kp
    by_cases e : j = k
    · subst e; rw [upF_same, upF_same]; exact ho
    · rw [upF_ne _ e, upF_ne _ e]
      exact (c.own j hj).kept hg (by
        rcases c.sep j k hj hk e with h | h
        · exact .inl h
        · exact .inr h)
  · intro i j hi hj hij
    have fresh : ∀ i, i < 3 → i ≠ k → (v i).ownBlock = none ∨ (v i).ownBlock ≠ u.ownBlock := fun i hi e => by
      rcases hs with h | h
      · rw [h]; exact c.sep i k hi hk e
      · cases hv : (v i).ownBlock with
        | none => exact .inl rfl
        | some g => exact .inr fun e2 => by have := h g e2.symm; have := (c.gt hi g hv).2; omega
    by_cases e : i = k
    · subst e
      rw [upF_same, upF_ne _ (Ne.symm hij)]
      rcases fresh j hj (Ne.symm hij) with h | h
      · cases hu : u.ownBlock with
        | none => exact .inl rfl
        | some g => exact .inr (by rw [h]; simp)
      · exact .inr (Ne.symm h)
    · rw [upF_ne _ e]
      by_cases e2 : j = k
      · subst e2; rw [upF_same]; exact fresh i hi e
      · rw [upF_ne _ e2]; exact c.sep i j hi hj hij
theorem OW.cell (c : OW n q s w E v L x) {k : Nat} (hk : k < 3) : x.cell? ⟨s, k, none⟩ = some (v k) := by rw [c.row.cell, rowG_get hk]
theorem OW.fr (c : OW n q s w E v L x) (k : Nat) : x.frozen? ⟨s, k, none⟩ = false := c.row.frozen k
/-- the length of a row, as the walk sees it -/
theorem OW.val (c : OW n q s w E v L x) {k : Nat} (hk : k < 3) : ∃ a cp, v k = .slice a (L k).length cp ∧ ∀ i, i < (L k).length → ∃ g, a = some ⟨g, 0, none⟩ ∧ x.cell? ⟨g, i, none⟩ = some (.int .i64 ((L k).getD i 0 : Nat)) := by
  have own := c.own k hk
  rcases own.2 with ⟨e1, e2⟩ | ⟨g, cp, cur, e1, _⟩
  · exact ⟨none, 0, by rw [e1, e2], fun i hi => absurd hi (by omega)⟩
  · refine ⟨some ⟨g, 0, none⟩, cp, e1, fun i hi => ⟨g, rfl, ?_⟩⟩
    have cl := own.cells (g := g) (by rw [e1]; rfl) i (.int .i64 ((L k).getD i 0 : Nat)) (by unfold ints; rw [List.getElem?_map, List.getD_eq_getElem?_getD, List.getElem?_eq_getElem hi]; rfl)
    rwa [Addr.add_mid, Nat.zero_add] at cl
end
theorem OW.app_cell {n q s : Nat} {w x x' : World} {E : Nat → Bx} {v : Nat → Value} {L : Nat → List Nat} (c : OW n q s w E v L x) {k : Nat} (hk : k < 3) (hg : x.grownBy x' (v k).ownBlock) : x'.cell? ⟨s, k, none⟩ = some (v k) ∧ x'.frozen? ⟨s, k, none⟩ = false := by
  have row' : M.RowAt x' s 27 (rowG 3 v) := by
    have := c.row; unfold M.RowAt at *
    rw [hg.block s c.row.lt (fun e => by have := (c.gt hk s e.symm).1; omega)]; exact this
  exact ⟨by rw [row'.cell, rowG_get hk], row'.frozen k⟩
/-- what waits in the boxes is what was sent -/
structure Sent (E : Nat → Bx) (L : Nat → List Nat) : Prop where
  shut : ∀ k, k < 3 → (E k).shut = false
  bl : ∀ k, k < 3 → bl (E k) = (L k).map fun i => ⟨(k : Nat), 0, (i : Nat), ⟨#[]⟩⟩
theorem Sent.many {E : Nat → Bx} {L : Nat → List Nat} (h : Sent E L) {k : Nat} (hk : k < 3) : (E k).many = (L k).length := by
  rw [← bl_len, h.bl k hk]; simp
theorem Sent.zero : Sent (fun _ => bx0) fun _ => [] := ⟨fun _ _ => rfl, fun _ _ => rfl⟩
theorem Sent.send_no {E : Nat → Bx} {L : Nat → List Nat} (h : Sent E L) {k : Nat} (hk : k < 3) (hl : (L k).length = 8) : sendR 3 E (k : Nat) = 160 := by
  unfold sendR
  rw [Int.toNat_natCast, if_pos ⟨by omega, by omega⟩, h.shut k hk, if_neg (by decide), h.many hk, if_pos hl]
theorem Sent.send_yes {E : Nat → Bx} {L : Nat → List Nat} (h : Sent E L) {k : Nat} (hk : k < 3) (hl : (L k).length ≠ 8) : sendR 3 E (k : Nat) = 0 := by
  unfold sendR
  rw [Int.toNat_natCast, if_pos ⟨by omega, by omega⟩, h.shut k hk, if_neg (by decide), h.many hk, if_neg hl]
theorem Sent.send {E : Nat → Bx} {L : Nat → List Nat} (h : Sent E L) (hok : ∀ k, BxOk (E k)) {k : Nat} (hk : k < 3) (hl : (L k).length ≠ 8) (i : Nat) : Sent (sendB 3 E ⟨(k : Nat), 0, (i : Nat), ⟨#[]⟩⟩) (upF L k (L k ++ [i])) := by
  have he : sendB 3 E ⟨(k : Nat), 0, (i : Nat), ⟨#[]⟩⟩ = upB E k (putB (E k) ⟨(k : Nat), 0, (i : Nat), ⟨#[]⟩⟩) := by
    unfold sendB; rw [if_pos (h.send_yes hk hl)]; rfl
  rw [he]
  constructor
  · intro j hj
    unfold upB
    by_cases e : j = k
    · rw [if_pos e]; exact h.shut k hk
    · rw [if_neg e]; exact h.shut j hj
  · intro j hj
    by_cases e : j = k
    · subst e
      rw [upB_same, upF_same, put_bl (hok j) (by rw [h.many hk]; exact hl), h.bl j hk, List.map_append]; rfl
    · unfold upB
      rw [if_neg e, upF_ne _ e]; exact h.bl j hj
theorem Sent.take_no {E : Nat → Bx} {L : Nat → List Nat} (h : Sent E L) {k : Nat} (hk : k < 3) (hl : L k = []) : takeR 3 E (k : Nat) = 3 ∧ takeE 3 E (k : Nat) = E ∧ takeV 3 E (k : Nat) = lt0 := by
  have hr : takeR 3 E (k : Nat) = 3 := by
    unfold takeR; rw [Int.toNat_natCast, if_neg (by rintro ⟨_, _, h3⟩; exact h3 (by rw [h.many hk, hl]; rfl))]
  refine ⟨hr, ?_, ?_⟩
  · unfold takeE; rw [hr, if_neg (by decide)]
  · unfold takeV; rw [hr, if_neg (by decide)]
theorem Sent.take_yes {E : Nat → Bx} {L : Nat → List Nat} (h : Sent E L) (hok : ∀ k, BxOk (E k)) {k : Nat} (hk : k < 3) {a : Nat} {r : List Nat} (hl : L k = a :: r) :
    takeR 3 E (k : Nat) = 0 ∧ takeV 3 E (k : Nat) = ⟨(k : Nat), 0, (a : Nat), ⟨#[]⟩⟩ ∧ Sent (takeE 3 E (k : Nat)) (upF L k r) := by
  have hm : (E k).many ≠ 0 := by rw [h.many hk, hl]; simp
  have hr : takeR 3 E (k : Nat) = 0 := by
    unfold takeR; rw [Int.toNat_natCast, if_pos ⟨by omega, by omega, hm⟩]
  have hb := take_bl (hok k) hm
  rw [h.bl k hk, hl, List.map_cons] at hb
  obtain ⟨h1, h2⟩ := List.cons.inj hb
  refine ⟨hr, ?_, ?_⟩
  · unfold takeV; rw [if_pos hr, Int.toNat_natCast]; exact h1.symm
  · have he : takeE 3 E (k : Nat) = upB E k (takeB (E k)) := by unfold takeE; rw [if_pos hr, Int.toNat_natCast]
    rw [he]
    constructor
    · intro j hj
      unfold upB
      by_cases e : j = k
      · rw [if_pos e]; exact h.shut k hk
      · rw [if_neg e]; exact h.shut j hj
    · intro j hj
      by_cases e : j = k
      · subst e
        rw [upB_same, upF_same]; exact h2.symm
      · unfold upB
        rw [if_neg e, upF_ne _ e]; exact h.bl j hj
theorem Sent.sum {E : Nat → Bx} {L : Nat → List Nat} (h : Sent E L) : sumM E 3 = (L 0).length + (L 1).length + (L 2).length := by
  show 0 + (E 0).many + (E 1).many + (E 2).many = _
  rw [h.many (show 0 < 3 by decide), h.many (show 1 < 3 by decide), h.many (show 2 < 3 by decide)]; omega
theorem info3 : (Try.prog.info? 3).map (fun i => (i.zero, i.size, i.bytes)) = some (some (.int .i64 0), 1, 8) := by kernel_rfl
end Go.Proofs.Ytblbhnlmbmffkaa
