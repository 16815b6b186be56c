/- A law's own world beside a bank: rows and slices that the bank does not touch; what the acts of a row make of a bank in plain words; no conditions. -/
import Derived.Test.YtnnnbgndbmcffaaSrQ
import Derived.Test.YtnnnbgndbmcffaaPuJ
namespace Go.Proofs.Ytnnnbgndbmcffaa
open Go.RowKit
set_option linter.unusedVariables false

/-- a slice that is grown -/
structure Ow where
  t : TypeId
  sz : Nat
  v : Value
  n : Nat
  xs : List Value
/-- a bank, and what the law has beside it -/
structure LW (n : Nat) (w0 : World) (b : Nat) (S : BS) (L : List (Nat × TypeId × Array Value)) (O : List Ow) (v : World) : Prop where
  ex : ∃ rk, Bk rk b S v ∧ (∀ k, k < n → rk k = 0) ∧ (∀ x ∈ L, rk x.1 = 0) ∧ (∀ o ∈ O, ∀ g, o.v.ownBlock = some g → rk g = 0)
  rows : ∀ x ∈ L, M.RowAt v x.1 x.2.1 x.2.2
  rge : ∀ x ∈ L, n ≤ x.1
  owns : ∀ o ∈ O, v.ownsRow n o.t o.sz o.v o.n o.xs
  bel : Below n w0 v
  ge : n ≤ v.heap.size
section
variable {n : Nat} {w0 v v' : World} {b : Nat} {S S' : BS} {L L' : List (Nat × TypeId × Array Value)} {O O' : List Ow}
theorem LW.row (h : LW n w0 b S L O v) (g : Nat) (t : TypeId) (cs : Array Value) (hx : (g, t, cs) ∈ L) : M.RowAt v g t cs := h.rows _ hx
theorem LW.ok (h : LW n w0 b S L O v) : S.Ok := by obtain ⟨rk, bk, _⟩ := h.ex; exact bk.ok
theorem LW.sub (h : LW n w0 b S L O v) (h1 : ∀ x ∈ L', x ∈ L) (h2 : ∀ o ∈ O', o ∈ O) : LW n w0 b S L' O' v := by
  obtain ⟨⟨rk, a, c, d, e⟩, r, rg, o, bl, ge⟩ := h
  exact ⟨⟨rk, a, c, fun x hx => d x (h1 x hx), fun x hx => e x (h2 x hx)⟩, fun x hx => r x (h1 x hx), fun x hx => rg x (h1 x hx), fun x hx => o x (h2 x hx), bl, ge⟩
/-- a call of the bank -/
theorem LW.call {R : (Nat → Nat) → BS × Ending → World → Prop} {f : FuncId} {args : Array Value} {e0 : Ending} (h : LW n w0 b S L O v) (hc : ∀ rk, Bk rk b S v → Calls Try.prog f args v fun e w' => e = e0 ∧ ∃ rk', Bk rk' b S' w' ∧ Fr rk rk' v w') :
    Calls Try.prog f args v fun e w' => e = e0 ∧ LW n w0 b S' L O w' := by
  obtain ⟨⟨rk, a, c, d, e⟩, r, rg, o, bl, ge⟩ := h
  refine (hc rk a).mono ?_
  rintro e' w' ⟨rfl, rk', bk', fr⟩
  refine ⟨rfl, ⟨rk', bk', fun k hk => (fr.keep k (by omega)).trans (c k hk), fun x hx => (fr.row (r x hx) (d x hx)).2, fun x hx g hg => (fr.keep g ((o x hx).lt g hg).2).trans (e x hx g hg)⟩, fun x hx => (fr.row (r x hx) (d x hx)).1, rg, fun x hx => fr.chg.owns (o x hx) (fun g hg => by rw [e x hx g hg]; exact fun e => e rfl), fr.chg.below bl (fun k hk => by rw [c k hk]; exact fun e => e rfl) ge, Nat.le_trans ge fr.chg.size⟩
theorem LW.same (h : LW n w0 b S L O v) (hb : Below v.heap.size v v') : LW n w0 b S L O v' := by
  obtain ⟨⟨rk, a, c, d, e⟩, r, rg, o, bl, ge⟩ := h
  exact ⟨⟨rk, a.same hb, c, d, e⟩, fun x hx => (r x hx).call hb, rg, fun x hx => (o x hx).kept (below_grown hb none) (by cases x.v.ownBlock <;> simp), bl.trans (hb.mono ge), Nat.le_trans ge hb.size⟩
theorem LW.alloc (h : LW n w0 b S L O v) (o : Obj) : LW n w0 b S L O (v.alloc o) := h.same ((Below.refl _ _).alloc (Nat.le_refl _) o)
theorem LW.dr (h : LW n w0 b S L O v) (d : QC.Dr v v') : LW n w0 b S L O v' := h.same d.below
theorem LW.new (h : LW n w0 b S L O v) (t : TypeId) (cs : Array Value) : LW n w0 b S ((v.heap.size, t, cs) :: L) O (v.alloc (.cells cs t)) := by
  have h' := h.alloc (.cells cs t)
  obtain ⟨⟨rk, a, c, d, e⟩, _, _, _, _, ge⟩ := h
  refine ⟨⟨rk, a.same ((Below.refl _ _).alloc (Nat.le_refl _) _), c, fun x hx => ?_, e⟩, fun x hx => ?_, fun x hx => ?_, h'.owns, h'.bel, h'.ge⟩
  · rcases List.mem_cons.1 hx with e | e
    · subst e; exact a.own _ (Nat.le_refl _)
    · exact d x e
  · rcases List.mem_cons.1 hx with e | e
    · subst e; exact M.RowAt.new v t cs
    · exact h'.rows x e
  · rcases List.mem_cons.1 hx with e | e
    · subst e; exact ge
    · exact h'.rge x e
/-- a copy made since -/
theorem LW.copied (h : LW n w0 b S L O v) {t : TypeId} {sz k : Nat} {u : Value} {xs : List Value} (ho : v'.ownsRow v.heap.size t sz u k xs) (hb : Below v.heap.size v v') : LW n w0 b S L (⟨t, sz, u, k, xs⟩ :: O) v' := by
  have h' := h.same hb
  obtain ⟨⟨rk, a, c, d, e⟩, _, _, _, _, ge⟩ := h
  refine ⟨⟨rk, a.same hb, c, d, fun o hx g hg => ?_⟩, h'.rows, h'.rge, fun o hx => ?_, h'.bel, h'.ge⟩
  · rcases List.mem_cons.1 hx with e1 | e1
    · subst e1; exact a.own g (ho.lt g hg).1
    · exact e o e1 g hg
  · rcases List.mem_cons.1 hx with e1 | e1
    · subst e1; exact ho.mono ge
    · exact h'.owns o e1
theorem Bk.foreign {rk : Nat → Nat} (h : Bk rk b S v) (c : Chg rk (fun x => x = 0) v v') : Bk rk b S v' := by
  have own := h.own
  obtain ⟨pu, B, mb, cap, ts, ds, tks, g⟩ := h
  exact ⟨pu, B, mb, cap, ts, ds, tks, g.chg c (fun _ h => h) (fun _ _ => rfl) (fun k hk => own k (Nat.le_trans c.size hk))⟩
/-- a slice that has grown -/
theorem LW.grow {o : Ow} (h : LW n w0 b S L (o :: O) v) {k : Nat} {u : Value} {xs : List Value} (ho : v'.ownsRow n o.t o.sz u k xs) (hg : v.grownBy v' o.v.ownBlock) (hs : u.ownBlock = o.v.ownBlock ∨ ∀ g, u.ownBlock = some g → v.heap.size ≤ g)
    (hL : ∀ x ∈ L, some x.1 ≠ o.v.ownBlock) (hO : ∀ o2 ∈ O, o2.v.ownBlock = none ∨ o2.v.ownBlock ≠ o.v.ownBlock) : LW n w0 b S L (⟨o.t, o.sz, u, k, xs⟩ :: O) v' := by
  obtain ⟨⟨rk, a, c, d, e⟩, r, rg, ow, bl, ge⟩ := h
  have hoo := ow o List.mem_cons_self
  have ho0 := e o List.mem_cons_self
  have chg : Chg rk (fun x => x = 0) v v' := ⟨hg.os, hg.tape, hg.output, hg.size, fun j hj hn => hg.block j hj (fun e => hn (ho0 j e.symm))⟩
  refine ⟨⟨rk, a.foreign chg, c, d, fun o2 hx g hg2 => ?_⟩, fun x hx => row_grown hg (r x hx) (hL x hx), rg, fun o2 hx => ?_, ⟨hg.os.trans bl.os, hg.tape.trans bl.tape, hg.output.trans bl.output, Nat.le_trans bl.size hg.size, fun j hj => (hg.block j (by omega) (fun e => by have := (hoo.lt j e.symm).1; omega)).trans (bl.block j hj)⟩, Nat.le_trans ge hg.size⟩
  · rcases List.mem_cons.1 hx with e1 | e1
    · subst e1
      rcases hs with e2 | e2
      · exact ho0 g (by rw [← e2]; exact hg2)
      · exact a.own g (e2 g hg2)
    · exact e o2 (List.mem_cons_of_mem _ e1) g hg2
  · rcases List.mem_cons.1 hx with e1 | e1
    · subst e1; exact ho
    · exact (ow o2 (List.mem_cons_of_mem _ e1)).kept hg (hO o2 e1)
/-- a cell of a row of the law's own -/
theorem LW.set {g : Nat} {t : TypeId} {cs : Array Value} (h : LW n w0 b S ((g, t, cs) :: L) O v) (i : Nat) (u : Value) (hL : ∀ x ∈ L, x.1 ≠ g) (hO : ∀ o ∈ O, ∀ k, o.v.ownBlock = some k → k ≠ g) : LW n w0 b S ((g, t, cs.setIfInBounds i u) :: L) O (v.setCell ⟨g, i, none⟩ u) := by
  obtain ⟨⟨rk, a, c, d, e⟩, r, rg, ow, bl, ge⟩ := h
  have chg : Chg rk (fun x => x = 0) v (v.setCell ⟨g, i, none⟩ u) := (Chg.refl rk _ v).set (p := ⟨g, i, none⟩) (fun _ => d (g, t, cs) List.mem_cons_self) u
  refine ⟨⟨rk, a.foreign chg, c, fun x hx => ?_, e⟩, fun x hx => ?_, fun x hx => ?_, fun o ho => owns_set (ow o ho) (p := ⟨g, i, none⟩) (fun k hk e => hO o ho k hk e.symm) u, bl.setCell (p := ⟨g, i, none⟩) (rg (g, t, cs) List.mem_cons_self) u, by simp [World.setCell]; exact ge⟩
  · rcases List.mem_cons.1 hx with e1 | e1
    · subst e1; exact d (g, t, cs) List.mem_cons_self
    · exact d x (List.mem_cons_of_mem _ e1)
  · rcases List.mem_cons.1 hx with e1 | e1
    · subst e1; exact (r (g, t, cs) List.mem_cons_self).set i u
    · exact (r x (List.mem_cons_of_mem _ e1)).far (p := ⟨g, i, none⟩) (fun e => hL x e1 e.symm) u
  · rcases List.mem_cons.1 hx with e1 | e1
    · subst e1; exact rg (g, t, cs) List.mem_cons_self
    · exact rg x (List.mem_cons_of_mem _ e1)
/-- rows and slices of other types lie in other blocks -/
theorem types_apart {g : Nat} {t t2 : TypeId} {cs : Array Value} {sz m k : Nat} {u : Value} {xs : List Value} (hr : M.RowAt v g t cs) (ho : v.ownsRow m t2 sz u k xs) (ht : t ≠ t2) : some g ≠ u.ownBlock := fun e => by
  obtain ⟨cur, r⟩ := owns_row ho e.symm
  unfold M.RowAt at hr r
  rw [hr] at r; cases r; exact ht rfl
theorem types_apart2 {t t2 : TypeId} {sz sz2 m k m2 k2 : Nat} {u u2 : Value} {xs xs2 : List Value} (ho2 : v.ownsRow m2 t2 sz2 u2 k2 xs2) (ho : v.ownsRow m t sz u k xs) (ht : t2 ≠ t) : u2.ownBlock = none ∨ u2.ownBlock ≠ u.ownBlock := by
  cases h2 : u2.ownBlock with
  | none => exact .inl rfl
  | some g =>
    obtain ⟨cur, r⟩ := owns_row ho2 h2
    exact .inr (types_apart r ho ht)
theorem lw_start {fr to am : Int} (h : LW n w0 b S L O v) (h0 : 0 ≤ am) : Calls Try.prog 52 #[.pointer (some ⟨b, 0, none⟩), .int .i64 fr, .int .i64 to, .int .u64 am] v fun e w' => e = .returned (.tuple #[.int .i64 (S.start fr to am).2.1, .int .i64 (S.start fr to am).2.2]) ∧ LW n w0 b (S.start fr to am).1 L O w' :=
  h.call (R := fun _ _ _ => True) fun rk bk => start_any bk fr to am h0
theorem lw_list (h : LW n w0 b S L O v) : Calls Try.prog 53 #[.pointer (some ⟨b, 0, none⟩)] v fun e w' => e = .returned (.tuple #[.int .i64 S.list.2.1, .int .i64 S.list.2.2]) ∧ LW n w0 b S.list.1 L O w' :=
  h.call (R := fun _ _ _ => True) fun rk bk => list_any bk
theorem lw_step (h : LW n w0 b S L O v) (id : Int) : Calls Try.prog 47 #[.pointer (some ⟨b, 0, none⟩), .int .i64 id] v fun e w' => e = .returned (.int .i64 (S.step id).2) ∧ LW n w0 b (S.step id).1 L O w' :=
  h.call (R := fun _ _ _ => True) fun rk bk => step_any bk id
theorem lw_holder (h : LW n w0 b S L O v) (c : Int) : Calls Try.prog 49 #[.pointer (some ⟨b, 0, none⟩), .int .i64 c] v fun e w' => e = .returned (.int .i64 (hold S.h c)) ∧ v = w' := by obtain ⟨rk, bk, _⟩ := h.ex; exact holder_bk bk c
theorem lw_result (h : LW n w0 b S L O v) (id : Int) : Calls Try.prog 50 #[.pointer (some ⟨b, 0, none⟩), .int .i64 id] v fun e w' => e = .returned (.tuple #[.int .i64 (S.res id).1, .bool (S.res id).2]) ∧ v = w' := by obtain ⟨rk, bk, _⟩ := h.ex; exact result_bk bk id
theorem lw_told (h : LW n w0 b S L O v) (id : Int) : Calls Try.prog 54 #[.pointer (some ⟨b, 0, none⟩), .int .i64 id] v fun e w' => ∃ a c, e = .returned (.slice a (S.toldOf id).length c) ∧ LW n w0 b S L (⟨23, 1, .slice a (S.toldOf id).length c, (S.toldOf id).length, (S.toldOf id).map (Value.int .u64)⟩ :: O) w' := by
  obtain ⟨rk, bk, _⟩ := h.ex
  refine (told_bk bk id).mono ?_
  rintro e w' ⟨u, rfl, h1, ⟨a, c, rfl⟩, h3⟩
  exact ⟨a, c, rfl, h.copied h1 h3⟩
theorem lw_done (h : LW n w0 b S L O v) : Calls Try.prog 48 #[.pointer (some ⟨b, 0, none⟩)] v fun e w' => ∃ a c, e = .returned (.slice a S.dn.length c) ∧ LW n w0 b S L (⟨3, 1, .slice a S.dn.length c, S.dn.length, S.dn.map fun i : Nat => Value.int .i64 i⟩ :: O) w' := by
  obtain ⟨rk, bk, _⟩ := h.ex
  refine (done_bk bk).mono ?_
  rintro e w' ⟨u, rfl, h1, ⟨a, c, rfl⟩, h3⟩
  exact ⟨a, c, rfl, h.copied h1 h3⟩
theorem lw_bals (h : LW n w0 b S L O v) : Calls Try.prog 61 #[.pointer (some ⟨b, 0, none⟩)] v fun e w' => ∃ g, e = .returned (.slice (some ⟨g, 0, none⟩) S.n S.n) ∧ LW n w0 b S L (⟨23, 1, .slice (some ⟨g, 0, none⟩) S.n S.n, S.n, S.bals.map (Value.int .u64)⟩ :: O) w' := by
  obtain ⟨rk, bk, _⟩ := h.ex
  refine (bals_bk bk).mono ?_
  rintro e w' ⟨g, rfl, hg, h1, h3⟩
  refine ⟨g, rfl, h.copied ?_ h3⟩
  rcases h1.2 with ⟨e, _⟩ | ⟨g2, c2, cur, e, _, rest⟩
  · cases e
  · cases e
    exact ⟨h1.1, .inr ⟨g, S.n, cur, rfl, hg, rest⟩⟩
theorem lw_new {len : Nat} {f : Nat → Int} {e : Ending} (hb : Below n w0 v) (ge : n ≤ v.heap.size) (h : NewBk len f v e v') : ∃ b, e = .returned (.pointer (some ⟨b, 0, none⟩)) ∧ LW n w0 b (BS.new len f) [] [] v' := by
  obtain ⟨b, rk, he, bk, hbl, hr⟩ := h
  exact ⟨b, he, ⟨rk, bk, fun k hk => hr k (by omega), fun x hx => (by cases hx), fun x hx => (by cases hx)⟩, fun x hx => (by cases hx), fun x hx => (by cases hx), fun x hx => (by cases hx), hb.trans (hbl.mono ge), Nat.le_trans ge hbl.size⟩
end
/-- the act that began a task -/
def actOf (T : Tsk) : Ac := if T.lists then ⟨0, -1, 0, 0⟩ else ⟨0, T.fr, T.to, T.am⟩
def BS.acts (S : BS) : List Ac := S.tl.map actOf
def BS.doA (S : BS) (x : Ac) : BS := if x.kind = 0 then (S.start x.a x.b x.n).1 else if x.kind = 1 then S.list.1 else (S.step x.a).1
def BS.play (S : BS) (l : List Ac) : BS := l.foldl BS.doA S
theorem play_snoc (S : BS) (l : List Ac) (x : Ac) : S.play (l ++ [x]) = (S.play l).doA x := by unfold BS.play; rw [List.foldl_append]; rfl
theorem map_set {l : List Tsk} {i : Nat} {T X : Tsk} (hT : l[i]? = some T) (h : actOf X = actOf T) : (l.set i X).map actOf = l.map actOf := by
  apply List.ext_getElem?
  intro j
  rw [List.getElem?_map, set_get hT, List.getElem?_map]
  split
  · rename_i e; subst e; rw [hT]; simp [h]
  · rfl
theorem acts_stepT {S : BS} {i : Nat} {T : Tsk} (hT : S.tl[i]? = some T) : (S.stepT i T).1.acts = S.acts := by
  unfold BS.stepT
  split
  · split
    · exact map_set hT rfl
    · rfl
  · split
    · unfold BS.act
      split <;> exact map_set hT rfl
    · split
      · exact map_set hT rfl
      · rfl
theorem acts_step (S : BS) (id : Int) : (S.step id).1.acts = S.acts := by
  unfold BS.step
  split
  · split
    · rename_i T hT; exact acts_stepT hT
    · rfl
  · rfl
theorem begin_acts (S : BS) (X : Tsk) : (S.begin X).1.acts = (if (S.begin X).2.2 = 0 then S.acts ++ [actOf X] else S.acts) := by
  unfold BS.begin
  split
  · simp
  · simp [BS.acts]
theorem start_acts (S : BS) (fr to am : Int) : (S.start fr to am).1.acts = (if (S.start fr to am).2.2 = 0 then S.acts ++ [⟨0, fr, to, am⟩] else S.acts) := by
  unfold BS.start
  split
  · exact begin_acts S _
  · simp
theorem list_acts (S : BS) : S.list.1.acts = (if S.list.2.2 = 0 then S.acts ++ [⟨0, -1, 0, 0⟩] else S.acts) := begin_acts S _
end Go.Proofs.Ytnnnbgndbmcffaa
