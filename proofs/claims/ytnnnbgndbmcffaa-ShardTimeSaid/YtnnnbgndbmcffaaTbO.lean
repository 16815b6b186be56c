/- ShardTime: plain law, world with maps, walk, whole; the condition is that the rows are known. -/
import Derived.Test.YtnnnbgndbmcffaaSrW
namespace Go.Proofs.Ytnnnbgndbmcffaa
open Go.RowKit
set_option linter.unusedVariables false

def mkI (x : Int) : Value := .int .i64 x
/-- .. with maps beside -/
structure LX (n : Nat) (w0 : World) (b : Nat) (S : BS) (L : List (Nat × TypeId × Array Value)) (O : List Ow) (Ms : List (Nat × List (Int × Int))) (v : World) : Prop where
  ex : ∃ rk, Bk rk b S v ∧ (∀ k, k < n → rk k = 0) ∧ (∀ x ∈ L, rk x.1 = 0) ∧ (∀ o ∈ O, ∀ g, o.v.ownBlock = some g → rk g = 0) ∧ (∀ x ∈ Ms, rk x.1 = 0)
  rows : ∀ x ∈ L, M.RowAt v x.1 x.2.1 x.2.2
  rge : ∀ x ∈ L, n ≤ x.1
  owns : ∀ o ∈ O, v.ownsRow n o.t o.sz o.v o.n o.xs
  mps : ∀ x ∈ Ms, IM KR mkI v x.1 x.2
  mge : ∀ x ∈ Ms, n ≤ x.1
  bel : Below n w0 v
  ge : n ≤ v.heap.size
section
variable {n : Nat} {w0 v v' : World} {b : Nat} {S S' : BS} {L L' : List (Nat × TypeId × Array Value)} {O O' : List Ow} {Ms Ms' : List (Nat × List (Int × Int))}
theorem LX.lw (h : LX n w0 b S L O Ms v) : LW n w0 b S L O v := by
  obtain ⟨⟨rk, a, c, d, e, f⟩, r, rg, o, _, _, bl, ge⟩ := h
  exact ⟨⟨rk, a, c, d, e⟩, r, rg, o, bl, ge⟩
theorem LX.of (h : LW n w0 b S L O v) : LX n w0 b S L O [] v := by
  obtain ⟨⟨rk, a, c, d, e⟩, r, rg, o, bl, ge⟩ := h
  exact ⟨⟨rk, a, c, d, e, fun x hx => (by cases hx)⟩, r, rg, o, fun x hx => (by cases hx), fun x hx => (by cases hx), bl, ge⟩
theorem LX.sub (h : LX n w0 b S L O Ms v) (h1 : ∀ x ∈ L', x ∈ L) (h2 : ∀ o ∈ O', o ∈ O) : LX n w0 b S L' O' Ms v := by
  obtain ⟨⟨rk, a, c, d, e, f⟩, r, rg, o, m, mg, bl, ge⟩ := h
  exact ⟨⟨rk, a, c, fun x hx => d x (h1 x hx), fun x hx => e x (h2 x hx), f⟩, fun x hx => r x (h1 x hx), fun x hx => rg x (h1 x hx), fun x hx => o x (h2 x hx), m, mg, bl, ge⟩
theorem LX.call {f : FuncId} {args : Array Value} {e0 : Ending} (h : LX n w0 b S L O Ms v) (hc : ∀ rk, Bk rk b S v → Calls Try.prog f args v fun e w' => e = e0 ∧ ∃ rk', Bk rk' b S' w' ∧ Fr rk rk' v w') :
    Calls Try.prog f args v fun e w' => e = e0 ∧ LX n w0 b S' L O Ms w' := by
  obtain ⟨⟨rk, a, c, d, e, f⟩, r, rg, o, m, mg, bl, ge⟩ := h
  refine (hc rk a).mono ?_
  rintro e' w' ⟨rfl, rk', bk', fr⟩
  refine ⟨rfl, ⟨rk', bk', fun k hk => (fr.keep k (by omega)).trans (c k hk), fun x hx => (fr.row (r x hx) (d x hx)).2, fun x hx g hg => (fr.keep g ((o x hx).lt g hg).2).trans (e x hx g hg), fun x hx => (fr.keep _ (m x hx).lt).trans (f x hx)⟩, fun x hx => (fr.row (r x hx) (d x hx)).1, rg, fun x hx => fr.chg.owns (o x hx) (fun g hg => by rw [e x hx g hg]; exact fun e => e rfl), fun x hx => (m x hx).of (fr.chg.block _ (m x hx).lt (by rw [f x hx]; exact fun e => e rfl)), mg, fr.chg.below bl (fun k hk => by rw [c k hk]; exact fun e => e rfl) ge, Nat.le_trans ge fr.chg.size⟩
theorem LX.same (h : LX n w0 b S L O Ms v) (hb : Below v.heap.size v v') : LX n w0 b S L O Ms v' := by
  obtain ⟨⟨rk, a, c, d, e, f⟩, r, rg, o, m, mg, bl, ge⟩ := h
  exact ⟨⟨rk, a.same hb, c, d, e, f⟩, fun x hx => (r x hx).call hb, rg, fun x hx => (o x hx).kept (below_grown hb none) (by cases x.v.ownBlock <;> simp), fun x hx => (m x hx).call hb, mg, bl.trans (hb.mono ge), Nat.le_trans ge hb.size⟩
theorem LX.alloc (h : LX n w0 b S L O Ms v) (o : Obj) : LX n w0 b S L O Ms (v.alloc o) := h.same ((Below.refl _ _).alloc (Nat.le_refl _) o)
theorem LX.dr (h : LX n w0 b S L O Ms v) (d : QC.Dr v v') : LX n w0 b S L O Ms v' := h.same d.below
theorem LX.new (h : LX n w0 b S L O Ms v) (t : TypeId) (cs : Array Value) : LX n w0 b S ((v.heap.size, t, cs) :: L) O Ms (v.alloc (.cells cs t)) := by
  have h' := h.alloc (.cells cs t)
  obtain ⟨⟨rk, a, c, d, e, f⟩, _, _, _, _, _, _, ge⟩ := h
  refine ⟨⟨rk, a.same ((Below.refl _ _).alloc (Nat.le_refl _) _), c, fun x hx => ?_, e, f⟩, fun x hx => ?_, fun x hx => ?_, h'.owns, h'.mps, h'.mge, h'.bel, h'.ge⟩
  · rcases List.mem_cons.1 hx with e | e
    · subst e; exact a.own _ (Nat.le_refl _)
    · exact d x e
  · rcases List.mem_cons.1 hx with e | e
    · subst e; exact M.RowAt.new v t cs
    · exact h'.rows x e
  · rcases List.mem_cons.1 hx with e | e
    · subst e; exact ge
    · exact h'.rge x e
theorem LX.newMap (h : LX n w0 b S L O Ms v) : LX n w0 b S L O ((v.heap.size, []) :: Ms) (v.alloc (.map #[] 0)) := by
  have h' := h.alloc (.map #[] 0)
  obtain ⟨⟨rk, a, c, d, e, f⟩, _, _, _, _, _, _, ge⟩ := h
  refine ⟨⟨rk, a.same ((Below.refl _ _).alloc (Nat.le_refl _) _), c, d, e, fun x hx => ?_⟩, h'.rows, h'.rge, h'.owns, fun x hx => ?_, fun x hx => ?_, h'.bel, h'.ge⟩
  · rcases List.mem_cons.1 hx with e | e
    · subst e; exact a.own _ (Nat.le_refl _)
    · exact f x e
  · rcases List.mem_cons.1 hx with e | e
    · subst e; exact IM.new KR mkI v
    · exact h'.mps x e
  · rcases List.mem_cons.1 hx with e | e
    · subst e; exact ge
    · exact h'.mge x e
theorem LX.copied (h : LX n w0 b S L O Ms v) {t : TypeId} {sz k : Nat} {u : Value} {xs : List Value} (ho : v'.ownsRow v.heap.size t sz u k xs) (hb : Below v.heap.size v v') : LX n w0 b S L (⟨t, sz, u, k, xs⟩ :: O) Ms v' := by
  have h' := h.same hb
  obtain ⟨⟨rk, a, c, d, e, f⟩, _, _, _, _, _, _, ge⟩ := h
  refine ⟨⟨rk, a.same hb, c, d, fun o hx g hg => ?_, f⟩, h'.rows, h'.rge, fun o hx => ?_, h'.mps, h'.mge, h'.bel, h'.ge⟩
  · rcases List.mem_cons.1 hx with e1 | e1
    · subst e1; exact a.own g (ho.lt g hg).1
    · exact e o e1 g hg
  · rcases List.mem_cons.1 hx with e1 | e1
    · subst e1; exact ho.mono ge
    · exact h'.owns o e1
/-- a block that is a row is no map -/
theorem map_apart {g : Nat} {t : TypeId} {cs : Array Value} {mb : Nat} {l : List (Int × Int)} (hr : M.RowAt v g t cs) (hm : IM KR mkI v mb l) : g ≠ mb := fun e => by
  subst e
  obtain ⟨es, clock, hb, _⟩ := hm
  unfold M.RowAt at hr
  rw [hr] at hb; cases hb
theorem LX.grow {o : Ow} (h : LX n w0 b S L (o :: O) Ms v) {k : Nat} {u : Value} {xs : List Value} (ho : v'.ownsRow n o.t o.sz u k xs) (hg : v.grownBy v' o.v.ownBlock) (hs : u.ownBlock = o.v.ownBlock ∨ ∀ g, u.ownBlock = some g → v.heap.size ≤ g)
    (hL : ∀ x ∈ L, some x.1 ≠ o.v.ownBlock) (hO : ∀ o2 ∈ O, o2.v.ownBlock = none ∨ o2.v.ownBlock ≠ o.v.ownBlock) : LX n w0 b S L (⟨o.t, o.sz, u, k, xs⟩ :: O) Ms v' := by
  obtain ⟨⟨rk, a, c, d, e, f⟩, r, rg, ow, m, mg, bl, ge⟩ := h
  have hoo := ow o List.mem_cons_self
  have ho0 := e o List.mem_cons_self
  have chg : Chg rk (fun x => x = 0) v v' := ⟨hg.os, hg.tape, hg.output, hg.size, fun j hj hn => hg.block j hj (fun e => hn (ho0 j e.symm))⟩
  refine ⟨⟨rk, a.foreign chg, c, d, fun o2 hx g hg2 => ?_, f⟩, fun x hx => row_grown hg (r x hx) (hL x hx), rg, fun o2 hx => ?_, fun x hx => (m x hx).of (hg.block _ (m x hx).lt (fun e => ?_)), mg, ⟨hg.os.trans bl.os, hg.tape.trans bl.tape, hg.output.trans bl.output, Nat.le_trans bl.size hg.size, fun j hj => (hg.block j (by omega) (fun e => by have := (hoo.lt j e.symm).1; omega)).trans (bl.block j hj)⟩, Nat.le_trans ge hg.size⟩
  · rcases List.mem_cons.1 hx with e1 | e1
    · subst e1
      rcases hs with e2 | e2
      · exact ho0 g (by rw [← e2]; exact hg2)
      · exact a.own g (e2 g hg2)
    · exact e o2 (List.mem_cons_of_mem _ e1) g hg2
  · rcases List.mem_cons.1 hx with e1 | e1
    · subst e1; exact ho
    · exact (ow o2 (List.mem_cons_of_mem _ e1)).kept hg (hO o2 e1)
  · obtain ⟨cur, hr⟩ := owns_row hoo e.symm
    exact map_apart hr (m x hx) rfl
/-- a map that was written -/
theorem LX.put {mb : Nat} {l l' : List (Int × Int)} (h : LX n w0 b S L O ((mb, l) :: Ms) v) (hm : IM KR mkI v' mb l') (hb : M.But mb v v') (hne : ∀ x ∈ Ms, x.1 ≠ mb) : LX n w0 b S L O ((mb, l') :: Ms) v' := by
  obtain ⟨⟨rk, a, c, d, e, f⟩, r, rg, ow, m, mg, bl, ge⟩ := h
  have m0 := m (mb, l) List.mem_cons_self
  have chg : Chg rk (fun x => x = 0) v v' := Chg.ofBut hb (f (mb, l) List.mem_cons_self)
  refine ⟨⟨rk, a.foreign chg, c, d, e, fun x hx => ?_⟩, fun x hx => hb.row (r x hx) (map_apart (r x hx) m0), rg, fun o ho => (ow o ho).kept (but_grown hb) ?_, fun x hx => ?_, fun x hx => ?_, hb.below bl (mg (mb, l) List.mem_cons_self) ge, Nat.le_trans ge hb.size⟩
  · rcases List.mem_cons.1 hx with e1 | e1
    · subst e1; exact f (mb, l) List.mem_cons_self
    · exact f x (List.mem_cons_of_mem _ e1)
  · cases hob : o.v.ownBlock with
    | none => exact .inl rfl
    | some g =>
      obtain ⟨cur, hr⟩ := owns_row (ow o ho) hob
      exact .inr (fun e => by cases e; exact map_apart hr m0 rfl)
  · rcases List.mem_cons.1 hx with e1 | e1
    · subst e1; exact hm
    · exact (m x (List.mem_cons_of_mem _ e1)).but hb (hne x e1)
  · rcases List.mem_cons.1 hx with e1 | e1
    · subst e1; exact mg (mb, l) List.mem_cons_self
    · exact mg x (List.mem_cons_of_mem _ e1)
theorem lx_start {fr to am : Int} (h : LX n w0 b S L O Ms v) (h0 : 0 ≤ am) : Calls Try.prog 52 #[.pointer (some ⟨b, 0, none⟩), .int .i64 fr, .int .i64 to, .int .u64 am] v fun e w' => e = .returned (.tuple #[.int .i64 (S.start fr to am).2.1, .int .i64 (S.start fr to am).2.2]) ∧ LX n w0 b (S.start fr to am).1 L O Ms w' := h.call fun rk bk => start_any bk fr to am h0
theorem lx_list (h : LX n w0 b S L O Ms v) : Calls Try.prog 53 #[.pointer (some ⟨b, 0, none⟩)] v fun e w' => e = .returned (.tuple #[.int .i64 S.list.2.1, .int .i64 S.list.2.2]) ∧ LX n w0 b S.list.1 L O Ms w' := h.call fun rk bk => list_any bk
theorem lx_step (h : LX n w0 b S L O Ms v) (id : Int) : Calls Try.prog 47 #[.pointer (some ⟨b, 0, none⟩), .int .i64 id] v fun e w' => e = .returned (.int .i64 (S.step id).2) ∧ LX n w0 b (S.step id).1 L O Ms w' := h.call fun rk bk => step_any bk id
theorem lx_done (h : LX n w0 b S L O Ms v) : Calls Try.prog 48 #[.pointer (some ⟨b, 0, none⟩)] v fun e w' => ∃ a c, e = .returned (.slice a S.dn.length c) ∧ LX n w0 b S L (⟨3, 1, .slice a S.dn.length c, S.dn.length, S.dn.map fun i : Nat => Value.int .i64 i⟩ :: O) Ms w' := by
  obtain ⟨rk, bk, _⟩ := h.ex
  refine (done_bk bk).mono ?_
  rintro e w' ⟨u, rfl, h1, ⟨a, c, rfl⟩, h3⟩
  exact ⟨a, c, rfl, h.copied h1 h3⟩
end
end Go.Proofs.Ytnnnbgndbmcffaa
namespace Go.Proofs.Ytnnnbgndbmcffaa
open Go.RowKit
set_option linter.unusedVariables false

def heldI (S : BS) (x : Int) : Nat → Bool
  | 0 => false
  | s + 1 => heldI S x s || (hold S.h (s : Int) == x)
/-- a bank, what is over, and how many were at each beginning -/
structure TS3 where
  S : BS
  E : List Int
  bl : List Nat
def TS3.beg (t : TS3) (r : BS × Int × Int) : TS3 := if r.2.2 = 0 then ⟨r.1, t.E, t.bl ++ [t.E.length]⟩ else ⟨r.1, t.E, t.bl⟩
def TS3.go (t : TS3) (x : Int) : TS3 := if (t.S.step x).2 = 0 then (if (((t.S.step x).1.res x).2 && !heldI (t.S.step x).1 x 4) then ⟨(t.S.step x).1, t.E ++ [x], t.bl⟩ else ⟨(t.S.step x).1, t.E, t.bl⟩) else ⟨(t.S.step x).1, t.E, t.bl⟩
def TS3.act (t : TS3) (x : Ac) : TS3 := if x.kind = 0 then t.beg (t.S.start x.a x.b x.n) else if x.kind = 1 then t.beg t.S.list else t.go x.a
def TS3.play (t : TS3) (l : List Ac) : TS3 := l.foldl TS3.act t
theorem tplay_snoc (t : TS3) (l : List Ac) (x : Ac) : t.play (l ++ [x]) = (t.play l).act x := by unfold TS3.play; rw [List.foldl_append]; rfl
/-- all that was over at a beginning acted ahead of it -/
structure TI (t : TS3) : Prop where
  ok : t.S.Ok
  len : t.bl.length = t.S.tl.length
  over : ∀ e ∈ t.E, ∃ i : Nat, e = (i : Int) ∧ i ∈ t.S.dn
  le : ∀ x ∈ t.bl, x ≤ t.E.length
  pos : ∀ (p id x : Nat), t.S.dn[p]? = some id → t.bl[id]? = some x → ∀ (k : Nat) (e : Int), k < x → t.E[k]? = some e → ∃ q i : Nat, q < p ∧ e = (i : Int) ∧ t.S.dn[q]? = some i
theorem begin_dn (S : BS) (X : Tsk) : (S.begin X).1.dn = S.dn := by unfold BS.begin; split <;> rfl
theorem start_dn (S : BS) (fr to am : Int) : (S.start fr to am).1.dn = S.dn := by unfold BS.start; split; exact begin_dn _ _; rfl
theorem ti_beg {t : TS3} (h : TI t) (r : BS × Int × Int) (ok : r.1.Ok) (hd : r.1.dn = t.S.dn) (ha : r.1.tl.length = t.S.tl.length + (if r.2.2 = 0 then 1 else 0)) : TI (t.beg r) := by
  unfold TS3.beg
  have hlt : ∀ (p id : Nat), t.S.dn[p]? = some id → id < t.bl.length := fun p id hp => by
    obtain ⟨T, hT, _⟩ := (h.ok.dm id).1 (List.mem_of_getElem? hp)
    rw [h.len]; exact (List.getElem?_eq_some_iff.1 hT).1
  by_cases hr : r.2.2 = 0
  · rw [if_pos hr] at ha ⊢
    refine ⟨ok, ?_, fun e he => ?_, fun x hx => ?_, fun p id x hp hx k e hk he => ?_⟩
    · rw [ha]; simp [h.len]
    · obtain ⟨i, h1, h2⟩ := h.over e he
      exact ⟨i, h1, by show i ∈ r.1.dn; rw [hd]; exact h2⟩
    · rcases List.mem_append.1 hx with h1 | h1
      · exact h.le x h1
      · simp at h1; rw [h1]; exact Nat.le_refl _
    · have hp : r.1.dn[p]? = some id := hp
      rw [hd] at hp
      have hx : (t.bl ++ [t.E.length])[id]? = some x := hx
      rw [List.getElem?_append_left (hlt p id hp)] at hx
      show ∃ q i : Nat, q < p ∧ e = (i : Int) ∧ r.1.dn[q]? = some i
      rw [hd]; exact h.pos p id x hp hx k e hk he
  · rw [if_neg hr] at ha ⊢
    refine ⟨ok, by rw [ha]; exact h.len, fun e he => ?_, h.le, fun p id x hp hx k e hk he => ?_⟩
    · obtain ⟨i, h1, h2⟩ := h.over e he
      exact ⟨i, h1, by show i ∈ r.1.dn; rw [hd]; exact h2⟩
    · have hp : r.1.dn[p]? = some id := hp
      rw [hd] at hp
      show ∃ q i : Nat, q < p ∧ e = (i : Int) ∧ r.1.dn[q]? = some i
      rw [hd]; exact h.pos p id x hp hx k e hk he
theorem step_dn (S : BS) (x : Int) : (S.step x).1.dn = S.dn ∨ ∃ i : Nat, (S.step x).1.dn = S.dn ++ [i] := by
  unfold BS.step
  split
  · cases hX : S.tl[x.toNat]? with
    | none => exact .inl rfl
    | some X =>
      show (S.stepT x.toNat X).1.dn = _ ∨ ∃ i : Nat, (S.stepT x.toNat X).1.dn = _
      rcases stepT_cases S x.toNat X with ⟨t, ht, ⟨h1, e1⟩ | ⟨h1, e1⟩⟩ | ⟨h1, e1⟩ | ⟨h1, e1⟩ | ⟨h1, e1⟩
      · rw [e1]; exact .inl rfl
      · rw [e1]; exact .inl rfl
      · rw [e1]; refine .inr ⟨x.toNat, ?_⟩; show (S.act x.toNat X).dn = _; unfold BS.act; split <;> rfl
      · rw [e1]; exact .inl rfl
      · rw [e1]; exact .inl rfl
  · exact .inl rfl
theorem ti_dn {t : TS3} (h : TI t) (S' : BS) (ok : S'.Ok) (hl : S'.tl.length = t.S.tl.length) (hd : S'.dn = t.S.dn ∨ ∃ i : Nat, S'.dn = t.S.dn ++ [i]) : TI ⟨S', t.E, t.bl⟩ := by
  have sub : ∀ (q i : Nat), t.S.dn[q]? = some i → S'.dn[q]? = some i := fun q i hq => by
    rcases hd with e | ⟨j, e⟩
    · rw [e]; exact hq
    · rw [e, List.getElem?_append_left (List.getElem?_eq_some_iff.1 hq).1]; exact hq
  refine ⟨ok, by show t.bl.length = S'.tl.length; rw [hl]; exact h.len, fun e he => ?_, h.le, fun p id x hp hx k e hk he => ?_⟩
  · obtain ⟨i, h1, h2⟩ := h.over e he
    obtain ⟨q, hq⟩ := List.getElem?_of_mem h2
    exact ⟨i, h1, List.mem_of_getElem? (sub q i hq)⟩
  · show ∃ q i : Nat, q < p ∧ e = (i : Int) ∧ S'.dn[q]? = some i
    have hp : S'.dn[p]? = some id := hp
    by_cases hlt : p < t.S.dn.length
    · have hp' : t.S.dn[p]? = some id := by
        rcases hd with e | ⟨j, e⟩
        · rw [← e]; exact hp
        · rw [e, List.getElem?_append_left hlt] at hp; exact hp
      obtain ⟨q, i, h1, h2, h3⟩ := h.pos p id x hp' hx k e hk he
      exact ⟨q, i, h1, h2, sub q i h3⟩
    · obtain ⟨i, h1, h2⟩ := h.over e (List.mem_of_getElem? he)
      obtain ⟨q, hq⟩ := List.getElem?_of_mem h2
      exact ⟨q, i, by have := (List.getElem?_eq_some_iff.1 hq).1; omega, h1, sub q i hq⟩
theorem ti_push {t : TS3} (h : TI t) {i : Nat} (hi : i ∈ t.S.dn) : TI ⟨t.S, t.E ++ [(i : Int)], t.bl⟩ := by
  refine ⟨h.ok, h.len, fun e he => ?_, fun x hx => ?_, fun p id x hp hx k e hk he => ?_⟩
  · rcases List.mem_append.1 he with h1 | h1
    · exact h.over e h1
    · simp at h1; exact ⟨i, h1, hi⟩
  · have := h.le x hx
    show x ≤ (t.E ++ [(i : Int)]).length
    rw [List.length_append]; omega
  · have hx : t.bl[id]? = some x := hx
    have := h.le x (List.mem_of_getElem? hx)
    have he : (t.E ++ [(i : Int)])[k]? = some e := he
    rw [List.getElem?_append_left (by omega)] at he
    exact h.pos p id x hp hx k e hk he
theorem ti_act {t : TS3} (h : TI t) {x : Ac} (hx : x.ok) : TI (t.act x) := by
  have alen : ∀ (r : BS × Int × Int) (y : Ac), r.1.acts = (if r.2.2 = 0 then t.S.acts ++ [y] else t.S.acts) → r.1.tl.length = t.S.tl.length + (if r.2.2 = 0 then 1 else 0) := fun r y e => by
    rw [← acts_len, e, ← acts_len]
    split <;> simp
  unfold TS3.act
  split
  · exact ti_beg h _ (h.ok.start _ _ _ hx.n0) (start_dn _ _ _ _) (alen _ _ (start_acts _ _ _ _))
  · split
    · exact ti_beg h _ h.ok.list (begin_dn _ _) (alen _ _ (list_acts _))
    · unfold TS3.go
      have hS := ti_dn h (t.S.step x.a).1 (h.ok.step _) (acts_tl' (acts_step _ _)) (step_dn _ _)
      split
      · split
        · rename_i h1
          rw [Bool.and_eq_true] at h1
          have hr := h1.1
          have : ∃ i : Nat, x.a = (i : Int) ∧ i ∈ (t.S.step x.a).1.dn := by
            unfold BS.res at hr
            split at hr
            · rename_i h0
              obtain ⟨i, hi⟩ := Int.eq_ofNat_of_zero_le h0
              refine ⟨i, hi, ((h.ok.step x.a).dm i).2 ?_⟩
              have e : x.a.toNat = i := by rw [hi]; exact Int.toNat_natCast i
              rw [e] at hr
              cases hT : (t.S.step x.a).1.tl[i]? with
              | none => rw [hT] at hr; cases hr
              | some T =>
                rw [hT] at hr
                simp only at hr
                split at hr
                · rename_i hk; exact ⟨T, rfl, hk⟩
                · cases hr
            · cases hr
          obtain ⟨i, hi, hd⟩ := this
          have := ti_push hS hd
          rw [← hi] at this
          exact this
        · exact hS
      · exact hS
where acts_tl' {S S' : BS} (h : S'.acts = S.acts) : S'.tl.length = S.tl.length := by rw [← acts_len, ← acts_len, h]
theorem ti_play {t : TS3} (h : TI t) : ∀ (l : List Ac), (∀ x ∈ l, x.ok) → TI (t.play l) := fun l => by
  unfold TS3.play
  induction l generalizing t with
  | nil => exact fun _ => h
  | cons x r ih => exact fun hh => ih (ti_act h (hh x List.mem_cons_self)) (fun y hy => hh y (List.mem_cons_of_mem _ hy))
theorem ti_new {n : Nat} {f : Nat → Int} (hn : n ≤ 32) : TI ⟨BS.new n f, [], []⟩ :=
  ⟨BS.Ok.new hn, rfl, fun e he => (by cases he), fun x hx => (by cases hx), fun p id x hp => (by simp [BS.new] at hp)⟩
/-- the two maps -/
def bmap (bl : List Nat) : List (Int × Int) := (List.range bl.length).map fun (i : Nat) => ((i : Int), (bl.getD i 0 : Nat))
def amap (dn : List Nat) (k : Nat) : List (Int × Int) := (List.range k).map fun (i : Nat) => ((dn.getD i 0 : Nat), ((i : Int) + 1))
theorem bmap_snoc (bl : List Nat) (x : Nat) : bmap (bl ++ [x]) = bmap bl ++ [((bl.length : Int), (x : Int))] := by
  unfold bmap
  rw [List.length_append, List.length_singleton, List.range_succ, List.map_append]
  congr 1
  · apply List.map_congr_left
    intro i hi
    have := List.mem_range.1 hi
    rw [List.getD_eq_getElem?_getD, List.getD_eq_getElem?_getD, List.getElem?_append_left this]
  · simp [List.getD_eq_getElem?_getD]
theorem bmap_put (bl : List Nat) (x : Nat) : putM (bmap bl) (bl.length : Int) (x : Int) = bmap (bl ++ [x]) := by
  rw [bmap_snoc]
  refine (none_M (fun p hp => ?_)).2.1
  unfold bmap at hp
  obtain ⟨i, hi, rfl⟩ := List.mem_map.1 hp
  have := List.mem_range.1 hi
  show (i : Int) ≠ (bl.length : Int)
  omega
theorem amap_put {dn : List Nat} (hd : dn.Nodup) {k id : Nat} (hk : dn[k]? = some id) : putM (amap dn k) (id : Int) ((k : Int) + 1) = amap dn (k + 1) := by
  have e : amap dn (k + 1) = amap dn k ++ [((id : Int), (k : Int) + 1)] := by
    unfold amap
    rw [List.range_succ, List.map_append]
    simp [List.getD_eq_getElem?_getD, hk]
  rw [e]
  refine (none_M (fun p hp => ?_)).2.1
  unfold amap at hp
  obtain ⟨i, hi, rfl⟩ := List.mem_map.1 hp
  have hik := List.mem_range.1 hi
  have hkl := (List.getElem?_eq_some_iff.1 hk).1
  show ((dn.getD i 0 : Nat) : Int) ≠ (id : Int)
  rw [List.getD_eq_getElem?_getD, List.getElem?_eq_getElem (show i < dn.length by omega)]
  intro e
  have e2 : ((dn[i] : Nat) : Int) = (id : Int) := by simpa using e
  have e3 : dn[k] = id := by have := List.getElem?_eq_getElem hkl; rw [hk] at this; exact (Option.some.inj this).symm
  exact List.pairwise_iff_getElem.1 hd i k (by omega) hkl hik (by omega)
def lookI (l : List (Int × Int)) (i : Int) : Int := match getM l i with | some x => x | none => 0
theorem bmap_look {bl : List Nat} {id x : Nat} (hx : bl[id]? = some x) : lookI (bmap bl) (id : Int) = (x : Int) := by
  have key : ∀ (n : Nat) (f : Nat → Int), id < n → getM ((List.range n).map fun (i : Nat) => ((i : Int), f i)) (id : Int) = some (f id) := fun n f h => by
    refine getM_of_mem (l := (List.range n).map fun (i : Nat) => ((i : Int), f i)) (p := ((id : Int), f id)) ?_ (List.mem_map.2 ⟨id, List.mem_range.2 h, rfl⟩)
    rw [List.pairwise_map]
    exact List.Pairwise.imp (fun {a b} (h : a < b) e => by have e : (a : Int) = (b : Int) := e; omega) List.pairwise_lt_range
  unfold lookI bmap
  rw [key bl.length (fun i => (bl.getD i 0 : Nat)) (List.getElem?_eq_some_iff.1 hx).1, List.getD_eq_getElem?_getD, hx]; rfl
theorem amap_look_in {dn : List Nat} (hd : dn.Nodup) {p id : Nat} (hp : dn[p]? = some id) : lookI (amap dn dn.length) (id : Int) = (p : Int) + 1 := by
  have hpl := (List.getElem?_eq_some_iff.1 hp).1
  have : getM (amap dn dn.length) (id : Int) = some ((p : Int) + 1) := by
    unfold amap
    refine getM_of_mem (p := ((id : Int), (p : Int) + 1)) ?_ (List.mem_map.2 ⟨p, List.mem_range.2 hpl, by simp [List.getD_eq_getElem?_getD, hp]⟩)
    rw [List.pairwise_map]
    refine List.Pairwise.imp_of_mem (fun {a b} ha hb (h : a < b) e => ?_) List.pairwise_lt_range
    have ha := List.mem_range.1 ha
    have hb := List.mem_range.1 hb
    have e : ((dn.getD a 0 : Nat) : Int) = ((dn.getD b 0 : Nat) : Int) := e
    rw [List.getD_eq_getElem?_getD, List.getD_eq_getElem?_getD, List.getElem?_eq_getElem ha, List.getElem?_eq_getElem hb] at e
    have e2 : ((dn[a] : Nat) : Int) = ((dn[b] : Nat) : Int) := by simpa using e
    exact List.pairwise_iff_getElem.1 hd a b ha hb h (by omega)
  unfold lookI; rw [this]
theorem amap_look_out {dn : List Nat} {id : Nat} (hp : id ∉ dn) : lookI (amap dn dn.length) (id : Int) = 0 := by
  have : getM (amap dn dn.length) (id : Int) = none := by
    refine (none_M (x := 0) (fun q hq => ?_)).1
    unfold amap at hq
    obtain ⟨i, hi, rfl⟩ := List.mem_map.1 hq
    have := List.mem_range.1 hi
    show ((dn.getD i 0 : Nat) : Int) ≠ (id : Int)
    rw [List.getD_eq_getElem?_getD, List.getElem?_eq_getElem this]
    intro e
    have e2 : ((dn[i] : Nat) : Int) = (id : Int) := by simpa using e
    have e3 : dn[i] = id := by omega
    exact hp (e3 ▸ List.getElem_mem _)
  unfold lookI; rw [this]
/-- what the last loops ask -/
theorem time_law {t : TS3} (h : TI t) {id x k : Nat} (hx : t.bl[id]? = some x) (hk : k < x) : ∃ e : Int, t.E[k]? = some e ∧ (0 < lookI (amap t.S.dn t.S.dn.length) (id : Int) → ¬ lookI (amap t.S.dn t.S.dn.length) (id : Int) < lookI (amap t.S.dn t.S.dn.length) e) := by
  have hle := h.le x (List.mem_of_getElem? hx)
  obtain ⟨e, he⟩ : ∃ e, t.E[k]? = some e := ⟨_, List.getElem?_eq_getElem (by omega)⟩
  refine ⟨e, he, fun h0 => ?_⟩
  by_cases hid : id ∈ t.S.dn
  · obtain ⟨p, hp⟩ := List.getElem?_of_mem hid
    obtain ⟨q, i, h1, h2, h3⟩ := h.pos p id x hp hx k e hk he
    rw [amap_look_in h.ok.dd hp, h2, amap_look_in h.ok.dd h3]
    omega
  · rw [amap_look_out hid] at h0; omega
end Go.Proofs.Ytnnnbgndbmcffaa
namespace Go.Proofs.Ytnnnbgndbmcffaa
open Go.RowKit
set_option linter.unusedVariables false

theorem zero3 (w : World) : (zeroValue 3).run Try.prog w = .ok (.int .i64 0) w := by kernel_rfl
def OwN (v : Value) (l : List Int) : Ow := ⟨3, 1, v, l.length, l.map (Value.int .i64)⟩
theorem im_look {v : World} {mb : Nat} {l : List (Int × Int)} (h : IM KR mkI v mb l) {i : Int} (hi : KR.ok i) : (Instr.lookup 89 (.map (some mb)) (.int .i64 i) false).run Try.prog v = .ok (.int .i64 (lookI l i)) v := by
  have := h.look1 Try.underlying89 (zero3 v) hi
  unfold lookI
  cases hg : getM l i with
  | none => rw [hg] at this; exact this
  | some x => rw [hg] at this; exact this
theorem begin_id (S : BS) (X : Tsk) (h : (S.begin X).2.2 = 0) : (S.begin X).2.1 = (S.tl.length : Int) := by
  unfold BS.begin at h ⊢; split at h
  · cases h
  · rename_i h2; rw [if_neg h2]
theorem start_id (S : BS) (fr to am : Int) (h : (S.start fr to am).2.2 = 0) : (S.start fr to am).2.1 = (S.tl.length : Int) := by
  unfold BS.start at h ⊢; split at h
  · rename_i h2; rw [if_pos h2]; exact begin_id S _ h
  · cases h
theorem list_id (S : BS) (h : S.list.2.2 = 0) : S.list.2.1 = (S.tl.length : Int) := begin_id S _ h
set_option maxRecDepth 100000 in
set_option maxHeartbeats 16000000 in
theorem time_walk (pa : Option Addr) (len cap : Nat) (zs : List Int) (A : Option Addr) (cap2 : Nat) (l : List Ac) (w : World) (hu : URow w pa len zs) (h1 : 1 ≤ len) (h2 : len ≤ 32) (h3 : zs.sum ≤ Am.mx) (hsl : RowK.SlAt w 4 Ac.cells A l) (hok : ∀ x ∈ l, x.ok) (hl : l.length ≤ 200) :
    Calls Try.prog 16 #[.slice pa len cap, .slice A l.length cap2] w (Fine w) := by
  obtain ⟨n, hn⟩ : ∃ n, w.heap.size = n := ⟨_, rfl⟩
  have HN := Lib.hid hn
  have nwy := fun v (hv : Below n w v) => bnew_yes pa len cap zs v (hu.below (hn.symm ▸ hv : Below w.heap.size w v)) h1 h2 h3
  have SH := Lib.hid (fun v => bshown_any v)
  have acts : ∀ k x, l[k]? = some x → ∃ b off, A = some ⟨b, off, none⟩ ∧ b < n ∧ ∀ v, Below n w v → v.rangeAt b (off + k * 4) x.cells := fun k x hx => act_at hsl hx hn
  have oks : ∀ k (h : k < l.length), ∃ x, l[k]? = some x ∧ x.ok := fun k h => ⟨l[k], List.getElem?_eq_getElem h, hok _ (List.getElem_mem h)⟩
  obtain ⟨T0, hT0⟩ : ∃ T0 : TS3, TS3.mk (BS.new len fun i => zs.getD i 0) [] [] = T0 := ⟨_, rfl⟩
  have ti : ∀ k, TI (T0.play (l.take k)) := fun k => ti_play (by rw [← hT0]; exact ti_new h2) _ (fun x hx => hok x (List.mem_of_mem_take hx))
  have T0S : T0 = ⟨T0.S, [], []⟩ := by rw [← hT0]
  have new : ∀ v e w', Below n w v → n ≤ v.heap.size → NewBk len (fun i => zs.getD i 0) v e w' → ∃ b, e = .returned (.pointer (some ⟨b, 0, none⟩)) ∧ LX n w b T0.S [] [] [] w' := fun v e w' hb ge h => by
    obtain ⟨b, he, lw⟩ := lw_new hb ge h
    refine ⟨b, he, ?_⟩
    rw [← hT0]; exact .of lw
  obtain ⟨m, hm⟩ : ∃ m, l.length = m := ⟨_, rfl⟩
  have tk : ∀ k x, l[k]? = some x → T0.play (l.take (k + 1)) = (T0.play (l.take k)).act x := fun k x hx => by rw [List.take_add_one, hx]; exact tplay_snoc _ _ _
  rw [hm] at oks hl ⊢
  have d1 : decide ((40 : Int) < (len : Int)) = false := by simp; omega
  have d2 : decide ((200 : Int) < (m : Int)) = false := by simp; omega
  obtain ⟨j0, j0i, j00, j01, j02⟩ := info_parts info3
  have NWY := Lib.hid nwy; have ACTS := Lib.hid acts; have OKS := Lib.hid oks; have TIP := Lib.hid ti; have NEW := Lib.hid new; have TK := Lib.hid tk; have HL := Lib.hid hl; have HT0S := Lib.hid T0S
  have hmm := @run_makeMap Try.prog
  clear nwy acts oks ti new tk hu h1 h2 h3 hsl hok hm hT0 T0S hl
  go_enter Try.func16, Try.ntmps16
  go_wp2_with fail
  refine (SH.out _).mono ?_
  rintro e w1 ⟨rfl, g1⟩
  rw [hn] at g1
  have PL := Lib.hid (NWY.out _ g1)
  have NW1 := Lib.hid (fun e w' => NEW.out w1 e w' g1 (by have := g1.size; rw [HN.out] at this; exact this))
  clear g1 NWY NEW SH hn
  go_wp2_with fail
  refine (PL.out).mono ?_
  rintro e w2 hnew
  obtain ⟨b, rfl, lw2⟩ := NW1.out _ _ hnew
  have lw3 := lw2.copied (t := 3) (sz := 1) (World.ownsRow_lit (base := w2.heap.size) (e := 3) (size := 1) w2 #[] 0 (Nat.le_refl _) (by unfold maxLen; omega) rfl) ((Below.refl _ _).alloc (Nat.le_refl _) _)
  obtain ⟨v2, hv2⟩ : ∃ v2, w2.alloc (.cells #[] 3) = v2 := ⟨_, rfl⟩
  have hv2s : v2.heap.size = w2.heap.size + 1 := by rw [← hv2]; simp
  rw [hv2] at lw3
  have LW4 := Lib.hid lw3.newMap
  obtain ⟨mb, hmb⟩ : ∃ mb, v2.heap.size = mb := ⟨_, rfl⟩
  rw [hmb] at LW4
  have HV2 := Lib.hid hv2; have HMB := Lib.hid hmb
  clear hnew lw2 lw3 PL NW1 hv2 hv2s hmb
  go_wp2_with (first | (rw [HV2.out, HMB.out]) | (rw [HV2.out]) | (rw [HMB.out]) | fail)
  go_loopg [8, 10, 11] m (fun mm ev mv i v => ∃ (k : Nat) (S : BS) (E : List Int) (bl : List Nat) (a : Option Addr) (c : Nat), mm + k = m ∧ i = .int .i64 k ∧ T0.play (l.take k) = ⟨S, E, bl⟩ ∧ E.length ≤ k ∧ ev = .slice a E.length c ∧ mv = .int .i64 bl.length ∧ LX n w b S [] [OwN (.slice a E.length c) E] [(mb, bmap bl)] v)
  case atStart => exact ⟨0, T0.S, [], [], some ⟨w2.heap.size, 0, none⟩, 0, by omega, rfl, HT0S.out, Nat.le_refl _, rfl, rfl, LW4.out⟩
  case round =>
    clear LW4 HV2 HMB
    obtain ⟨k, S, E, bl, a, c, hk, rfl, hS, hel, rfl, rfl, lw⟩ := hrel
    have tik := TIP.out k
    rw [hS] at tik
    have TIK := Lib.hid tik
    have HK := Lib.hid hk; have HS := Lib.hid hS; have HEL := Lib.hid hel
    have BLT := Lib.hid (show bl.length = S.tl.length from tik.len)
    have BL32 := Lib.hid (show bl.length ≤ 32 from by rw [BLT.out]; exact lw.lw.ok.t32)
    clear hk hS hel tik
    by_cases hlt : k < m
    · obtain ⟨x, hx, xok⟩ := OKS.out k hlt
      obtain ⟨ab, ao, rfl, hab, hr⟩ := ACTS.out k x hx
      have rg := hr _ lw.bel
      have DO := Lib.hid (TK.out k x hx)
      rw [HS.out] at DO
      obtain ⟨K, xa, xb, y⟩ := x
      have g2 := xok.n0
      simp only at g2
      have c0 := rg 0 _ rfl; have c1 := rg 1 _ rfl; have c2 := rg 2 _ rfl; have c3 := rg 3 _ rfl
      rw [Nat.add_zero] at c0
      simp only at c0 c1 c2 c3
      have lwn := lw.new 84 #[.int .i64 K, .int .i64 xa, .int .i64 xb, .int .u64 y]
      obtain ⟨gx, hgx⟩ : ∃ gx, wr.heap.size = gx := ⟨_, rfl⟩
      rw [hgx] at lwn
      have LWN := Lib.hid lwn; have HGX := Lib.hid hgx; have HLT := Lib.hid hlt
      have wk : IntKind.i64.wrap ((k : Int) + 1) = (k : Int) + 1 := IntWalk.i64_in _ (by have := HL.out; omega)
      clear hr xok hx rg lw lwn hgx
      by_cases q0 : K = 0
      · subst q0
        have ST := Lib.hid (lx_start (fr := xa) (to := xb) (am := y) LWN.out g2)
        go_wp2_with fail
        rw [HGX.out]
        refine (ST.out).mono ?_
        rintro e w4 ⟨rfl, lw4⟩
        have ID4 := Lib.hid (start_id S xa xb y)
        have DO4 := Lib.hid (show TS3.act ⟨S, E, bl⟩ ⟨0, xa, xb, y⟩ = (if (S.start xa xb y).2.2 = 0 then ⟨(S.start xa xb y).1, E, bl ++ [E.length]⟩ else ⟨(S.start xa xb y).1, E, bl⟩ : TS3) from rfl)
        generalize hS' : S.start xa xb y = r at *
        obtain ⟨S', r1, r2⟩ := r
        simp only at lw4 ID4 DO4
        rw [DO4.out] at DO
        have LW4 := Lib.hid lw4
        clear c0 c1 c2 c3 hS' ST LWN lw4
        by_cases e2 : r2 = 0
        · subst e2
          rw [if_pos rfl] at DO
          obtain rfl : r1 = (bl.length : Int) := by rw [ID4.out rfl, BLT.out]
          have lw5 := LW4.out.sub (L' := []) (O' := [OwN (.slice a E.length c) E]) (fun x hx => by cases hx) (fun o ho => ho)
          have IMB := Lib.hid (lw5.mps (mb, bmap bl) List.mem_cons_self)
          have HKO := Lib.hid (show KR.ok (bl.length : Int) from ok_small (by have := BL32.out; omega) (by have := BL32.out; omega))
          have LW5 := Lib.hid lw5
          have wkb : IntKind.i64.wrap ((bl.length : Int) + 1) = (bl.length : Int) + 1 := IntWalk.i64_in _ (by have := BL32.out; omega)
          clear lw5 LW4
          go_wp2_with (at_mapUpdate; refine wpList_mapUpdate_im (y := (E.length : Int)) rfl _ _ _ 89 3 rfl Try.underlying89 IMB.out ?a1 (bl.length : Int) HKO.out ?a2 ?a3 ?_)
          case a1 => rfl
          case a2 => rfl
          case a3 => rfl
          intro w6 hm6 hb6
          rw [bmap_put] at hm6
          have LW6 := Lib.hid (LW5.out.put hm6 hb6 (fun x hx => by cases hx))
          clear hm6 hb6 LW5 IMB
          go_wp2
          go_roundg (m - (k + 1))
          case measure => have := HK.out; omega
          case rel => exact ⟨k + 1, S', E, bl ++ [E.length], a, c, by have := HLT.out; omega, by go_num, DO.out, by have := HEL.out; omega, rfl, by rw [List.length_append]; rfl, LW6.out⟩
        · rw [if_neg e2] at DO
          have d2 : (r2 == 0) = false := by simpa using e2
          have LW6 := Lib.hid (LW4.out.sub (L' := []) (O' := [OwN (.slice a E.length c) E]) (fun x hx => by cases hx) (fun o ho => ho))
          clear LW4
          go_wp2
          go_roundg (m - (k + 1))
          case measure => have := HK.out; omega
          case rel => exact ⟨k + 1, S', E, bl, a, c, by have := HLT.out; omega, by go_num, DO.out, by have := HEL.out; omega, rfl, rfl, LW6.out⟩
      · have e0 : (K == 0) = false := by simpa using q0
        by_cases q1 : K = 1
        · subst q1
          have ST := Lib.hid (lx_list LWN.out)
          go_wp2_with fail
          rw [HGX.out]
          refine (ST.out).mono ?_
          rintro e w4 ⟨rfl, lw4⟩
          have ID4 := Lib.hid (list_id S)
          have DO4 := Lib.hid (show TS3.act ⟨S, E, bl⟩ ⟨1, xa, xb, y⟩ = (if (S.list).2.2 = 0 then ⟨(S.list).1, E, bl ++ [E.length]⟩ else ⟨(S.list).1, E, bl⟩ : TS3) from rfl)
          generalize hS' : S.list = r at *
          obtain ⟨S', r1, r2⟩ := r
          simp only at lw4 ID4 DO4
          rw [DO4.out] at DO
          have LW4 := Lib.hid lw4
          clear c0 c1 c2 c3 hS' ST LWN lw4
          by_cases e2 : r2 = 0
          · subst e2
            rw [if_pos rfl] at DO
            obtain rfl : r1 = (bl.length : Int) := by rw [ID4.out rfl, BLT.out]
            have lw5 := LW4.out.sub (L' := []) (O' := [OwN (.slice a E.length c) E]) (fun x hx => by cases hx) (fun o ho => ho)
            have IMB := Lib.hid (lw5.mps (mb, bmap bl) List.mem_cons_self)
            have HKO := Lib.hid (show KR.ok (bl.length : Int) from ok_small (by have := BL32.out; omega) (by have := BL32.out; omega))
            have LW5 := Lib.hid lw5
            have wkb : IntKind.i64.wrap ((bl.length : Int) + 1) = (bl.length : Int) + 1 := IntWalk.i64_in _ (by have := BL32.out; omega)
            clear lw5 LW4
            go_wp2_with (at_mapUpdate; refine wpList_mapUpdate_im (y := (E.length : Int)) rfl _ _ _ 89 3 rfl Try.underlying89 IMB.out ?a1 (bl.length : Int) HKO.out ?a2 ?a3 ?_)
            case a1 => rfl
            case a2 => rfl
            case a3 => rfl
            intro w6 hm6 hb6
            rw [bmap_put] at hm6
            have LW6 := Lib.hid (LW5.out.put hm6 hb6 (fun x hx => by cases hx))
            clear hm6 hb6 LW5 IMB
            go_wp2
            go_roundg (m - (k + 1))
            case measure => have := HK.out; omega
            case rel => exact ⟨k + 1, S', E, bl ++ [E.length], a, c, by have := HLT.out; omega, by go_num, DO.out, by have := HEL.out; omega, rfl, by rw [List.length_append]; rfl, LW6.out⟩
          · rw [if_neg e2] at DO
            have d2 : (r2 == 0) = false := by simpa using e2
            have LW6 := Lib.hid (LW4.out.sub (L' := []) (O' := [OwN (.slice a E.length c) E]) (fun x hx => by cases hx) (fun o ho => ho))
            clear LW4
            go_wp2
            go_roundg (m - (k + 1))
            case measure => have := HK.out; omega
            case rel => exact ⟨k + 1, S', E, bl, a, c, by have := HLT.out; omega, by go_num, DO.out, by have := HEL.out; omega, rfl, rfl, LW6.out⟩
        · have e1 : (K == 1) = false := by simpa using q1
          have ST := Lib.hid (lx_step LWN.out xa)
          go_wp2_with fail
          rw [HGX.out]
          refine (ST.out).mono ?_
          rintro e w4 ⟨rfl, lw4⟩
          have DO4 := Lib.hid (show TS3.act ⟨S, E, bl⟩ ⟨K, xa, xb, y⟩ = TS3.go ⟨S, E, bl⟩ xa from by unfold TS3.act; simp only; rw [if_neg q0, if_neg q1])
          have DO5 := Lib.hid (show TS3.go ⟨S, E, bl⟩ xa = (if (S.step xa).2 = 0 then (if (((S.step xa).1.res xa).2 && !heldI (S.step xa).1 xa 4) then ⟨(S.step xa).1, E ++ [xa], bl⟩ else ⟨(S.step xa).1, E, bl⟩) else ⟨(S.step xa).1, E, bl⟩ : TS3) from rfl)
          rw [DO4.out, DO5.out] at DO
          clear DO4 DO5
          generalize hS' : S.step xa = r at *
          obtain ⟨S', r2⟩ := r
          simp only at lw4 DO
          have rowx := lw4.rows (gx, 84, _) List.mem_cons_self
          have x1 := (rowx.cell 1).trans rfl
          have LW4 := Lib.hid lw4
          clear c0 c1 c2 c3 hS' ST LWN lw4 rowx
          by_cases e2 : r2 = 0
          · subst e2
            rw [if_pos rfl] at DO
            have RES := Lib.hid (lw_result LW4.out.lw xa)
            obtain ⟨⟨er, ac⟩, hre⟩ : ∃ r, S'.res xa = r := ⟨_, rfl⟩
            rw [hre] at RES DO
            simp only at RES DO
            clear hre
            go_wp2_with fail
            refine (RES.out).mono ?_
            rintro e w5 ⟨rfl, rfl⟩
            clear RES x1
            go_wp2
            go_loopg [17, 18] 4 (fun mm hv si v => ∃ s : Nat, mm + s = 4 ∧ si = .int .i64 s ∧ hv = .bool (heldI S' xa s) ∧ LX n w b S' [(gx, 84, #[.int .i64 K, .int .i64 xa, .int .i64 xb, .int .u64 y])] [OwN (.slice a E.length c) E] [(mb, bmap bl)] v)
            case atStart => exact ⟨0, rfl, rfl, rfl, LW4.out⟩
            case round =>
              clear LW4
              obtain ⟨s, hs, rfl, rfl, lws⟩ := hrel
              have HS := Lib.hid hs
              clear hs
              by_cases hs4 : s < 4
              · have eH := Lib.hid (show heldI S' xa (s + 1) = (heldI S' xa s || (hold S'.h (s : Int) == xa)) from rfl)
                have i4 : ((s : Nat) : Int) < 4 := by omega
                have nx : ∀ bv, bv = (heldI S' xa s || (hold S'.h (s : Int) == xa)) → Value.bool bv = .bool (heldI S' xa (s + 1)) := fun bv h => by rw [h, eH.out]
                have NX := Lib.hid nx
                have HS4 := Lib.hid hs4
                have LWS := Lib.hid lws
                have HOLQ := Lib.hid (fun u (h : LX n w b S' [(gx, 84, #[.int .i64 K, .int .i64 xa, .int .i64 xb, .int .u64 y])] [OwN (.slice a E.length c) E] [(mb, bmap bl)] u) => lw_holder h.lw (s : Nat))
                have X1 := Lib.hid (show ∀ v, LX n w b S' [(gx, 84, #[.int .i64 K, .int .i64 xa, .int .i64 xb, .int .u64 y])] [OwN (.slice a E.length c) E] [(mb, bmap bl)] v → v.cell? ⟨gx, 1, none⟩ = some (.int .i64 xa) from fun v h => ((h.rows (gx, 84, _) List.mem_cons_self).cell 1).trans rfl)
                clear nx eH lws
                generalize heldI S' xa s = hb at *
                generalize hold S'.h (s : Int) = ho at *
                cases hb
                · by_cases q : ho = xa
                  · subst q
                    go_wp2
                    refine QT.wp_region_p 9 (fun v => LX n w b S' [(gx, 84, #[.int .i64 K, .int .i64 ho, .int .i64 xb, .int .u64 y])] [OwN (.slice a E.length c) E] [(mb, bmap bl)] v) (fun v => LX n w b S' [(gx, 84, #[.int .i64 K, .int .i64 ho, .int .i64 xb, .int .u64 y])] [OwN (.slice a E.length c) E] [(mb, bmap bl)] v) (by kernel_rfl) (by kernel_rfl) (LWS.out.dr (QC.Dr.drew _)) ?_
                    iterate 10
                      (refine QT.wpQ_step (fun K hK => ?_)
                       go_simp
                       first
                         | (refine hK _ ?_; clear hK K)
                         | (refine ⟨?_, hK _ ?_⟩; decide; clear hK K)
                         | ((first | (apply Exists.intro; refine ⟨?_, hK _ ?_⟩) | refine ⟨⟨undef, ?_⟩, hK _ ?_⟩)
                            first
                              | (apply QT.al_p; decide; (focus (intro wq hq; (have x1 := X1.out _ hq); first | (fail) | (unfold QP.oat; go_simp; first | done | exact ⟨by assumption, rfl⟩ | exact rfl | assumption | (((with_reducible refine (HOLQ.out _ hq).mono ?_); rintro e w' ⟨rfl, rfl⟩; exact ⟨rfl, hq⟩))))))
                              | (apply QT.al_dep; decide; decide; (focus (intro wq hq; (have x1 := X1.out _ hq); first | (fail) | (unfold QP.oat; go_simp; first | done | exact ⟨by assumption, rfl⟩ | exact rfl | assumption | (((with_reducible refine (HOLQ.out _ hq).mono ?_); rintro e w' ⟨rfl, rfl⟩; exact ⟨rfl, hq⟩))))))
                              | (apply QT.al_bef; decide; decide; (focus (intro wq hq; (have x1 := X1.out _ hq); first | (fail) | (unfold QP.oat; go_simp; first | done | exact ⟨by assumption, rfl⟩ | exact rfl | assumption | (((with_reducible refine (HOLQ.out _ hq).mono ?_); rintro e w' ⟨rfl, rfl⟩; exact ⟨rfl, hq⟩))))))
                              | (apply QT.al_ok; decide; (focus (intro wq hq; (have x1 := X1.out _ hq); first | (fail) | (unfold QP.oat; go_simp; first | done | exact ⟨by assumption, rfl⟩ | exact rfl | assumption | (((with_reducible refine (HOLQ.out _ hq).mono ?_); rintro e w' ⟨rfl, rfl⟩; exact ⟨rfl, hq⟩))))); (focus (intro wq hq; (have x1 := X1.out _ hq); first | (fail) | (unfold QP.oat; go_simp; first | done | exact ⟨by assumption, rfl⟩ | exact rfl | assumption | (((with_reducible refine (HOLQ.out _ hq).mono ?_); rintro e w' ⟨rfl, rfl⟩; exact ⟨rfl, hq⟩))))))
                            clear hK K))
                    refine QT.wpQ_nil ?_
                    intro wz lwz
                    have LWU := Lib.hid lwz
                    clear lwz
                    go_wp2
                    go_roundg (4 - (s + 1))
                    case measure => have := HS.out; omega
                    case rel => exact ⟨s + 1, by have := HS4.out; omega, by go_num, NX.out true (by simp), LWU.out⟩
                  · have dq : (ho == xa) = false := by simpa using q
                    go_wp2
                    refine QT.wp_region_p 9 (fun v => LX n w b S' [(gx, 84, #[.int .i64 K, .int .i64 xa, .int .i64 xb, .int .u64 y])] [OwN (.slice a E.length c) E] [(mb, bmap bl)] v) (fun v => LX n w b S' [(gx, 84, #[.int .i64 K, .int .i64 xa, .int .i64 xb, .int .u64 y])] [OwN (.slice a E.length c) E] [(mb, bmap bl)] v) (by kernel_rfl) (by kernel_rfl) (LWS.out.dr (QC.Dr.drew _)) ?_
                    iterate 10
                      (refine QT.wpQ_step (fun K hK => ?_)
                       go_simp
                       first
                         | (refine hK _ ?_; clear hK K)
                         | (refine ⟨?_, hK _ ?_⟩; decide; clear hK K)
                         | ((first | (apply Exists.intro; refine ⟨?_, hK _ ?_⟩) | refine ⟨⟨undef, ?_⟩, hK _ ?_⟩)
                            first
                              | (apply QT.al_p; decide; (focus (intro wq hq; (have x1 := X1.out _ hq); first | (fail) | (unfold QP.oat; go_simp; first | done | exact ⟨by assumption, rfl⟩ | exact rfl | assumption | (((with_reducible refine (HOLQ.out _ hq).mono ?_); rintro e w' ⟨rfl, rfl⟩; exact ⟨rfl, hq⟩))))))
                              | (apply QT.al_dep; decide; decide; (focus (intro wq hq; (have x1 := X1.out _ hq); first | (fail) | (unfold QP.oat; go_simp; first | done | exact ⟨by assumption, rfl⟩ | exact rfl | assumption | (((with_reducible refine (HOLQ.out _ hq).mono ?_); rintro e w' ⟨rfl, rfl⟩; exact ⟨rfl, hq⟩))))))
                              | (apply QT.al_bef; decide; decide; (focus (intro wq hq; (have x1 := X1.out _ hq); first | (fail) | (unfold QP.oat; go_simp; first | done | exact ⟨by assumption, rfl⟩ | exact rfl | assumption | (((with_reducible refine (HOLQ.out _ hq).mono ?_); rintro e w' ⟨rfl, rfl⟩; exact ⟨rfl, hq⟩))))))
                              | (apply QT.al_ok; decide; (focus (intro wq hq; (have x1 := X1.out _ hq); first | (fail) | (unfold QP.oat; go_simp; first | done | exact ⟨by assumption, rfl⟩ | exact rfl | assumption | (((with_reducible refine (HOLQ.out _ hq).mono ?_); rintro e w' ⟨rfl, rfl⟩; exact ⟨rfl, hq⟩))))); (focus (intro wq hq; (have x1 := X1.out _ hq); first | (fail) | (unfold QP.oat; go_simp; first | done | exact ⟨by assumption, rfl⟩ | exact rfl | assumption | (((with_reducible refine (HOLQ.out _ hq).mono ?_); rintro e w' ⟨rfl, rfl⟩; exact ⟨rfl, hq⟩))))))
                            clear hK K))
                    refine QT.wpQ_nil ?_
                    intro wz lwz
                    have LWU := Lib.hid lwz
                    clear lwz
                    go_wp2
                    go_roundg (4 - (s + 1))
                    case measure => have := HS.out; omega
                    case rel => exact ⟨s + 1, by have := HS4.out; omega, by go_num, NX.out false (by simp [dq]), LWU.out⟩
                · go_wp2
                  refine QT.wp_region_p 9 (fun v => LX n w b S' [(gx, 84, #[.int .i64 K, .int .i64 xa, .int .i64 xb, .int .u64 y])] [OwN (.slice a E.length c) E] [(mb, bmap bl)] v) (fun v => LX n w b S' [(gx, 84, #[.int .i64 K, .int .i64 xa, .int .i64 xb, .int .u64 y])] [OwN (.slice a E.length c) E] [(mb, bmap bl)] v) (by kernel_rfl) (by kernel_rfl) (LWS.out.dr (QC.Dr.drew _)) ?_
                  iterate 10
                    (refine QT.wpQ_step (fun K hK => ?_)
                     go_simp
                     first
                       | (refine hK _ ?_; clear hK K)
                       | (refine ⟨?_, hK _ ?_⟩; decide; clear hK K)
                       | ((first | (apply Exists.intro; refine ⟨?_, hK _ ?_⟩) | refine ⟨⟨undef, ?_⟩, hK _ ?_⟩)
                          first
                            | (apply QT.al_p; decide; (focus (intro wq hq; (have x1 := X1.out _ hq); first | (fail) | (unfold QP.oat; go_simp; first | done | exact ⟨by assumption, rfl⟩ | exact rfl | assumption | (((with_reducible refine (HOLQ.out _ hq).mono ?_); rintro e w' ⟨rfl, rfl⟩; exact ⟨rfl, hq⟩))))))
                            | (apply QT.al_dep; decide; decide; (focus (intro wq hq; (have x1 := X1.out _ hq); first | (fail) | (unfold QP.oat; go_simp; first | done | exact ⟨by assumption, rfl⟩ | exact rfl | assumption | (((with_reducible refine (HOLQ.out _ hq).mono ?_); rintro e w' ⟨rfl, rfl⟩; exact ⟨rfl, hq⟩))))))
                            | (apply QT.al_bef; decide; decide; (focus (intro wq hq; (have x1 := X1.out _ hq); first | (fail) | (unfold QP.oat; go_simp; first | done | exact ⟨by assumption, rfl⟩ | exact rfl | assumption | (((with_reducible refine (HOLQ.out _ hq).mono ?_); rintro e w' ⟨rfl, rfl⟩; exact ⟨rfl, hq⟩))))))
                            | (apply QT.al_ok; decide; (focus (intro wq hq; (have x1 := X1.out _ hq); first | (fail) | (unfold QP.oat; go_simp; first | done | exact ⟨by assumption, rfl⟩ | exact rfl | assumption | (((with_reducible refine (HOLQ.out _ hq).mono ?_); rintro e w' ⟨rfl, rfl⟩; exact ⟨rfl, hq⟩))))); (focus (intro wq hq; (have x1 := X1.out _ hq); first | (fail) | (unfold QP.oat; go_simp; first | done | exact ⟨by assumption, rfl⟩ | exact rfl | assumption | (((with_reducible refine (HOLQ.out _ hq).mono ?_); rintro e w' ⟨rfl, rfl⟩; exact ⟨rfl, hq⟩))))))
                          clear hK K))
                  refine QT.wpQ_nil ?_
                  intro wz lwz
                  have LWU := Lib.hid lwz
                  clear lwz
                  go_wp2
                  go_roundg (4 - (s + 1))
                  case measure => have := HS.out; omega
                  case rel => exact ⟨s + 1, by have := HS4.out; omega, by go_num, NX.out true (by simp), LWU.out⟩
              · obtain rfl : s = 4 := by have := HS.out; omega
                clear hs4
                have x1 := ((lws.rows (gx, 84, _) List.mem_cons_self).cell 1).trans rfl
                have LW5 := Lib.hid (lws.sub (L' := []) (O' := [OwN (.slice a E.length c) E]) (fun x hx => by cases hx) (fun o ho => ho))
                clear lws
                generalize heldI S' xa 4 = hb at *
                cases ac
                · have DO : Hid (T0.play (List.take (k + 1) l) = ⟨S', E, bl⟩) := DO
                  go_wp2
                  go_roundg (m - (k + 1))
                  case measure => have := HK.out; omega
                  case rel => exact ⟨k + 1, S', E, bl, a, c, by have := HLT.out; omega, by go_num, DO.out, by have := HEL.out; omega, rfl, rfl, LW5.out⟩
                · cases hb
                  · have DO : Hid (T0.play (List.take (k + 1) l) = ⟨S', E ++ [xa], bl⟩) := DO
                    obtain ⟨n5, hn5⟩ : ∃ n5, wr.heap.size = n5 := ⟨_, rfl⟩
                    obtain ⟨V5, hV5⟩ : ∃ V5, wr.alloc (.cells #[.int .i64 xa] 3) = V5 := ⟨_, rfl⟩
                    have LW6 := Lib.hid (LW5.out.alloc (.cells #[.int .i64 xa] 3))
                    have r5 := M.RowAt.new wr 3 #[.int .i64 xa]
                    rw [hV5] at LW6 r5
                    rw [hn5] at r5
                    have R5 := Lib.hid r5; have HN5 := Lib.hid hn5; have HV5 := Lib.hid hV5
                    clear r5 hn5 hV5 LW5
                    go_wp2_with (first | (rw [HN5.out, HV5.out]) | (at_builtin; refine wpList_append_sep2 _ rfl (.tmp 92) (.tmp 95) 78 rfl n 3 j0 _ 1 8 Try.underlying78 j0i j00 j01 j02 rfl (by decide) (.slice a E.length c) E.length _ ?p1 (LW6.out.owns _ List.mem_cons_self) ⟨n5, 0, none⟩ 1 1 [.int .i64 xa] ?p2 rfl ?p3 ?p4 (by decide) ?p5 ?p6 LW6.out.ge ?_))
                    case p3 =>
                      intro t x hx
                      first | rw [Addr.add_mid, R5.out.cell, Nat.zero_add] | rw [R5.out.cell]
                      simpa using hx
                    case p4 =>
                      first
                        | rfl
                        | (intro x hx; simp at hx; subst hx; rfl)
                    case p5 => have := HEL.out; have := HLT.out; have := HL.out; unfold maxLen; omega
                    case p6 => have := HEL.out; have := HLT.out; have := HL.out; omega
                    intro u u6 ho hg hs
                    obtain ⟨ua, uc, rfl⟩ : ∃ ua uc, u = .slice ua (E.length + 1) uc := by
                      rcases ho.2 with ⟨_, h2⟩ | ⟨g, cc, cur, h2, _⟩
                      · omega
                      · exact ⟨_, _, h2⟩
                    have lw7 := LW6.out.grow ho hg hs (fun x hx => by cases hx) (fun o2 ho2 => by cases ho2)
                    have OWU : (⟨3, 1, .slice ua (E.length + 1) uc, E.length + 1, (E.map (Value.int .i64)) ++ [.int .i64 xa]⟩ : Ow) = OwN (.slice ua (E ++ [xa]).length uc) (E ++ [xa]) := by unfold OwN; simp
                    have lw7 : LX n w b S' [] [⟨3, 1, .slice ua (E.length + 1) uc, E.length + 1, (E.map (Value.int .i64)) ++ [.int .i64 xa]⟩] [(mb, bmap bl)] u6 := lw7
                    rw [OWU] at lw7
                    have LEN6 := Lib.hid (show E.length + 1 = (E ++ [xa]).length from by simp)
                    rw [LEN6.out]
                    have LW7 := Lib.hid lw7
                    clear ho hg hs lw7 LW6 R5 HN5 HV5 OWU
                    go_wp2
                    go_roundg (m - (k + 1))
                    case measure => have := HK.out; omega
                    case rel => exact ⟨k + 1, S', E ++ [xa], bl, ua, uc, by have := HLT.out; omega, by go_num, DO.out, by have := HEL.out; rw [← LEN6.out]; omega, rfl, rfl, LW7.out⟩
                  · have DO : Hid (T0.play (List.take (k + 1) l) = ⟨S', E, bl⟩) := DO
                    go_wp2
                    go_roundg (m - (k + 1))
                    case measure => have := HK.out; omega
                    case rel => exact ⟨k + 1, S', E, bl, a, c, by have := HLT.out; omega, by go_num, DO.out, by have := HEL.out; omega, rfl, rfl, LW5.out⟩
          · rw [if_neg e2] at DO
            have d3 : (r2 == 0) = false := by simpa using e2
            have LW6 := Lib.hid (LW4.out.sub (L' := []) (O' := [OwN (.slice a E.length c) E]) (fun x hx => by cases hx) (fun o ho => ho))
            clear LW4 x1
            go_wp2
            go_roundg (m - (k + 1))
            case measure => have := HK.out; omega
            case rel => exact ⟨k + 1, S', E, bl, a, c, by have := HLT.out; omega, by go_num, DO.out, by have := HEL.out; omega, rfl, rfl, LW6.out⟩
    · obtain rfl : k = m := by have := HK.out; omega
      clear hlt
      have DN := Lib.hid (lx_done lw)
      have OKS2 := Lib.hid lw.lw.ok
      clear lw HS
      go_wp2_with fail
      refine (DN.out).mono ?_
      rintro e w6 ⟨da, dc, rfl, lw6⟩
      have LAW := Lib.hid (fun id x k hx hk => time_law (t := ⟨S, E, bl⟩) TIK.out (id := id) (x := x) (k := k) hx hk)
      have OVK := Lib.hid (show ∀ e ∈ E, KR.ok e from fun e he => by
        obtain ⟨i, h1, h2⟩ := TIK.out.over e he
        have : i < S.tl.length := by obtain ⟨T, hT, _⟩ := (OKS2.out.dm i).1 h2; exact (List.getElem?_eq_some_iff.1 hT).1
        have := OKS2.out.t32
        exact ok_small (by omega) (by omega))
      have DNK := Lib.hid (show ∀ i ∈ S.dn, i < 32 from fun i h2 => by
        have : i < S.tl.length := by obtain ⟨T, hT, _⟩ := (OKS2.out.dm i).1 h2; exact (List.getElem?_eq_some_iff.1 hT).1
        have := OKS2.out.t32
        omega)
      have DND := Lib.hid OKS2.out.dd
      have BLX := Lib.hid (show ∀ (id : Nat) (x : Nat), bl[id]? = some x → x ≤ E.length from fun id x hx => TIK.out.le x (List.mem_of_getElem? hx))
      clear DN
      obtain ⟨dn, hdn⟩ : ∃ dn, S.dn = dn := ⟨_, rfl⟩
      simp only [hdn] at LAW DNK DND lw6
      obtain ⟨D, hD⟩ : ∃ D, dn.length = D := ⟨_, rfl⟩
      have HD := Lib.hid hD
      have hD32 : D ≤ 32 := by
        rw [← hD, ← hdn]; have := OKS2.out.dnlen; have := OKS2.out.t32; omega
      rw [hdn, hD]
      obtain ⟨od, hod⟩ : ∃ od : Ow, (⟨3, 1, .slice da dn.length dc, dn.length, dn.map fun i : Nat => Value.int .i64 i⟩ : Ow) = od := ⟨_, rfl⟩
      have HOD := Lib.hid hod
      rw [hod] at lw6
      have ne1 : ∀ x ∈ [(mb, bmap bl)], x.1 ≠ w6.heap.size := fun x hx => by
        have := (lw6.mps x hx).lt; omega
      have LW7 := Lib.hid lw6.newMap
      obtain ⟨mc, hmc⟩ : ∃ mc, w6.heap.size = mc := ⟨_, rfl⟩
      rw [hmc] at LW7 ne1
      have HMC := Lib.hid hmc; have NE1 := Lib.hid ne1
      clear lw6 hod hD hdn hmc ne1
      go_wp2_with (first | (rw [HMC.out]) | fail)
      go_loopg [21] D (fun mm i v => ∃ q : Nat, mm + q = D ∧ i = .int .i64 q ∧ LX n w b S [] [od, OwN (.slice a E.length c) E] [(mc, amap dn q), (mb, bmap bl)] v)
      case atStart => exact ⟨0, by omega, rfl, LW7.out⟩
      case round =>
        clear LW7 HMC
        obtain ⟨q, hq, rfl, lwq⟩ := hrel
        have HQ := Lib.hid hq
        clear hq
        by_cases hlt : q < D
        · obtain ⟨id, hid⟩ : ∃ id, dn[q]? = some id := ⟨_, List.getElem?_eq_getElem (by have := HD.out; omega)⟩
          obtain ⟨dg, hdg, cd⟩ := lwq.lw.elem (o := od) List.mem_cons_self (a := da) (m := dn.length) (c := dc) (by rw [← HOD.out]) (j := q) (x := .int .i64 (id : Nat)) (by rw [← HOD.out]; show (dn.map _)[q]? = _; rw [List.getElem?_map, hid]; rfl)
          subst hdg
          have IMC := Lib.hid (lwq.mps (mc, amap dn q) List.mem_cons_self)
          have id32 := DNK.out id (List.mem_of_getElem? hid)
          have HKO := Lib.hid (show KR.ok (id : Int) from ok_small (by omega) (by omega))
          have PUT := Lib.hid (amap_put DND.out hid)
          have LWQ := Lib.hid lwq
          have wk : IntKind.i64.wrap ((q : Int) + 1) = (q : Int) + 1 := IntWalk.i64_in _ (by omega)
          have HLT := Lib.hid hlt
          have i1 : ((q : Nat) : Int) < (D : Nat) := by omega
          clear lwq hid id32
          go_wp2_with (at_mapUpdate; refine wpList_mapUpdate_im (y := ((q : Int) + 1)) rfl _ _ _ 89 3 rfl Try.underlying89 IMC.out ?a1 (id : Int) HKO.out ?a2 ?a3 ?_)
          case a2 => rfl
          case a3 => rfl
          intro w8 hm8 hb8
          rw [PUT.out] at hm8
          have LW8 := Lib.hid (LWQ.out.put hm8 hb8 NE1.out)
          clear hm8 hb8 LWQ IMC cd
          go_wp2
          go_roundg (D - (q + 1))
          case measure => have := HQ.out; omega
          case rel => exact ⟨q + 1, by have := HLT.out; omega, by go_num, LW8.out⟩
        · obtain rfl : q = D := by have := HQ.out; omega
          clear hlt
          have LAWQ := Lib.hid (fun id x k hx hk => LAW.out id x k hx hk)
          simp only [HD.out] at LAWQ
          have LWQ := Lib.hid lwq
          clear lwq LAW
          obtain ⟨B, hB⟩ : ∃ B, bl.length = B := ⟨_, rfl⟩
          have HB := Lib.hid hB
          have hB32 : B ≤ 32 := by rw [← hB]; exact BL32.out
          rw [hB]
          clear hB
          go_wp2
          go_loopg [22] B (fun mm i v => ∃ id : Nat, mm + id = B ∧ i = .int .i64 id ∧ LX n w b S [] [od, OwN (.slice a E.length c) E] [(mc, amap dn q), (mb, bmap bl)] v)
          case atStart => exact ⟨0, by omega, rfl, LWQ.out⟩
          case round =>
            clear LWQ
            obtain ⟨id, hid, rfl, lwi⟩ := hrel
            have HID := Lib.hid hid
            clear hid
            by_cases hlt : id < B
            · obtain ⟨x, hx⟩ : ∃ x, bl[id]? = some x := ⟨_, List.getElem?_eq_getElem (by have := HB.out; omega)⟩
              have HKO := Lib.hid (show KR.ok (id : Int) from ok_small (by omega) (by omega))
              have LB := Lib.hid (fun u (h : LX n w b S [] [od, OwN (.slice a E.length c) E] [(mc, amap dn q), (mb, bmap bl)] u) => (im_look (h.mps (mb, bmap bl) (List.mem_cons_of_mem _ List.mem_cons_self)) HKO.out))
              rw [bmap_look hx] at LB
              have LA := Lib.hid (fun u (h : LX n w b S [] [od, OwN (.slice a E.length c) E] [(mc, amap dn q), (mb, bmap bl)] u) => (im_look (h.mps (mc, amap dn q) List.mem_cons_self) HKO.out))
              have LE := Lib.hid (fun e he u (h : LX n w b S [] [od, OwN (.slice a E.length c) E] [(mc, amap dn q), (mb, bmap bl)] u) => (im_look (h.mps (mc, amap dn q) List.mem_cons_self) (OVK.out e he)))
              have LWX := Lib.hid (fun k => LAWQ.out id x k hx)
              have XL := Lib.hid (BLX.out id x hx)
              have xl2 : x ≤ 200 := by have := XL.out; have := HEL.out; have := HL.out; omega
              have LWI := Lib.hid lwi
              have i1 : ((id : Nat) : Int) < (B : Nat) := by omega
              have HLT := Lib.hid hlt
              have wki : IntKind.i64.wrap ((id : Int) + 1) = (id : Int) + 1 := IntWalk.i64_in _ (by omega)
              generalize lookI (amap dn q) (id : Int) = Aid at *
              clear lwi hx
              go_wp2
              go_loopg [23] x (fun mm i v => ∃ k : Nat, mm + k = x ∧ i = .int .i64 k ∧ LX n w b S [] [od, OwN (.slice a E.length c) E] [(mc, amap dn q), (mb, bmap bl)] v)
              case atStart => exact ⟨0, by omega, rfl, LWI.out⟩
              case round =>
                clear LWI
                obtain ⟨k, hk, rfl, lwk⟩ := hrel
                have HK2 := Lib.hid hk
                clear hk
                have lkb := LB.out _ lwk
                have LWK := Lib.hid lwk
                clear lwk
                by_cases hlt : k < x
                · obtain ⟨e, he, hle⟩ := LWX.out k hlt
                  have i2 : ((k : Nat) : Int) < (x : Nat) := by omega
                  have wk : IntKind.i64.wrap ((k : Int) + 1) = (k : Int) + 1 := IntWalk.i64_in _ (by omega)
                  have LEK := Lib.hid (LE.out e (List.mem_of_getElem? he))
                  have HE := Lib.hid he
                  have HLT2 := Lib.hid hlt
                  generalize lookI (amap dn q) e = Ae at *
                  clear hlt he
                  by_cases q0 : 0 < Aid
                  · have q1 := hle q0
                    have dq0 : decide (0 < Aid) = true := by simpa using q0
                    have dq1 : decide (Aid < Ae) = false := by simpa using q1
                    clear hle q1
                    go_wp2
                    refine QC.wp_region_d [] [0, 1, 2, 3, 4, 5, 6, 7, 8, 9, 10, 11, 12, 13, 14, 15] (by kernel_rfl) (by kernel_rfl) (fun u d => ?_)
                    have lwu := LWK.out.dr d
                    obtain ⟨eg, heg, ce⟩ := lwu.lw.elem (o := OwN (.slice a E.length c) E) (List.mem_cons_of_mem _ List.mem_cons_self) rfl (j := k) (x := .int .i64 e) (by show (E.map _)[k]? = _; rw [List.getElem?_map, HE.out]; rfl)
                    subst heg
                    have la := LA.out _ lwu
                    have le := LEK.out _ lwu
                    have LWU := Lib.hid lwu
                    have i3 : ((k : Nat) : Int) < (E.length : Nat) := by have := HLT2.out; have := XL.out; omega
                    clear d lwu LWK lkb
                    iterate 2
                      (first
                       | (apply QC.wpC_load
                          (focus rfl)
                          (focus decide)
                          (focus rfl)
                          (focus rfl)
                          (focus rfl)
                          (focus (assumption))
                          (focus (intro u hu; go_simp))
                          intro K hK
                          go_simp
                          refine hK _ ?_
                          clear hK K)
                       | (apply QC.wpC_pure
                          (focus rfl)
                          (focus decide)
                          intro K hK
                          go_simp
                          first
                           | (refine hK _ ?_; clear hK K)
                           | (apply Exists.intro
                              refine ⟨fun u => ?_, hK _ ?_⟩
                              (focus (unfold QP.oat; go_simp; first | done | exact ⟨rfl, rfl⟩ | exact rfl))
                              clear hK K)))
                    refine QC.wpC_rest (fun u => (Instr.lookup 89 (.map (some mc)) (.int .i64 id) false).run Try.prog u = .ok (.int .i64 Aid) u) (.int .i64 Aid) rfl (by decide) rfl la ?_ ?_
                    · intro u hu; unfold QP.oat; go_simp
                    try go_simp
                    iterate 7
                      (first
                       | (apply QC.wpC_load
                          (focus rfl)
                          (focus decide)
                          (focus rfl)
                          (focus rfl)
                          (focus rfl)
                          (focus (assumption))
                          (focus (intro u hu; go_simp))
                          intro K hK
                          go_simp
                          refine hK _ ?_
                          clear hK K)
                       | (apply QC.wpC_pure
                          (focus rfl)
                          (focus decide)
                          intro K hK
                          go_simp
                          first
                           | (refine hK _ ?_; clear hK K)
                           | (apply Exists.intro
                              refine ⟨fun u => ?_, hK _ ?_⟩
                              (focus (unfold QP.oat; go_simp; first | done | exact ⟨rfl, rfl⟩ | exact rfl))
                              clear hK K)))
                    refine QC.wpC_rest (fun u => (Instr.lookup 89 (.map (some mc)) (.int .i64 e) false).run Try.prog u = .ok (.int .i64 Ae) u) (.int .i64 Ae) rfl (by decide) rfl le ?_ ?_
                    · intro u hu; unfold QP.oat; go_simp
                    try go_simp
                    iterate 2
                      (first
                       | (apply QC.wpC_load
                          (focus rfl)
                          (focus decide)
                          (focus rfl)
                          (focus rfl)
                          (focus rfl)
                          (focus (assumption))
                          (focus (intro u hu; go_simp))
                          intro K hK
                          go_simp
                          refine hK _ ?_
                          clear hK K)
                       | (apply QC.wpC_pure
                          (focus rfl)
                          (focus decide)
                          intro K hK
                          go_simp
                          first
                           | (refine hK _ ?_; clear hK K)
                           | (apply Exists.intro
                              refine ⟨fun u => ?_, hK _ ?_⟩
                              (focus (unfold QP.oat; go_simp; first | done | exact ⟨rfl, rfl⟩ | exact rfl))
                              clear hK K)))
                    refine QC.wpC_rest (fun u => (Instr.lookup 89 (.map (some mc)) (.int .i64 id) false).run Try.prog u = .ok (.int .i64 Aid) u) (.int .i64 Aid) rfl (by decide) rfl la ?_ ?_
                    · intro u hu; unfold QP.oat; go_simp
                    try go_simp
                    iterate 2
                      (first
                       | (apply QC.wpC_load
                          (focus rfl)
                          (focus decide)
                          (focus rfl)
                          (focus rfl)
                          (focus rfl)
                          (focus (assumption))
                          (focus (intro u hu; go_simp))
                          intro K hK
                          go_simp
                          refine hK _ ?_
                          clear hK K)
                       | (apply QC.wpC_pure
                          (focus rfl)
                          (focus decide)
                          intro K hK
                          go_simp
                          first
                           | (refine hK _ ?_; clear hK K)
                           | (apply Exists.intro
                              refine ⟨fun u => ?_, hK _ ?_⟩
                              (focus (unfold QP.oat; go_simp; first | done | exact ⟨rfl, rfl⟩ | exact rfl))
                              clear hK K)))
                    refine QC.wpC_nil ?_
                    go_wp2
                    go_roundg (x - (k + 1))
                    case measure => have := HK2.out; omega
                    case rel => exact ⟨k + 1, by have := HLT2.out; omega, by go_num, LWU.out⟩
                  · have dq0 : decide (0 < Aid) = false := by simpa using q0
                    clear hle
                    go_wp2
                    refine QC.wp_region_d [] [0, 1, 2, 3, 4, 5, 6, 7, 8, 9, 10, 11, 12, 13, 14, 15] (by kernel_rfl) (by kernel_rfl) (fun u d => ?_)
                    have lwu := LWK.out.dr d
                    have la := LA.out _ lwu
                    have LWU := Lib.hid lwu
                    clear d lwu LWK lkb
                    iterate 2
                      (first
                       | (apply QC.wpC_load
                          (focus rfl)
                          (focus decide)
                          (focus rfl)
                          (focus rfl)
                          (focus rfl)
                          (focus (assumption))
                          (focus (intro u hu; go_simp))
                          intro K hK
                          go_simp
                          refine hK _ ?_
                          clear hK K)
                       | (apply QC.wpC_pure
                          (focus rfl)
                          (focus decide)
                          intro K hK
                          go_simp
                          first
                           | (refine hK _ ?_; clear hK K)
                           | (apply Exists.intro
                              refine ⟨fun u => ?_, hK _ ?_⟩
                              (focus (unfold QP.oat; go_simp; first | done | exact ⟨rfl, rfl⟩ | exact rfl))
                              clear hK K)))
                    refine QC.wpC_rest (fun u => (Instr.lookup 89 (.map (some mc)) (.int .i64 id) false).run Try.prog u = .ok (.int .i64 Aid) u) (.int .i64 Aid) rfl (by decide) rfl la ?_ ?_
                    · intro u hu; unfold QP.oat; go_simp
                    try go_simp
                    iterate 13
                      (first
                       | (apply QC.wpC_load
                          (focus rfl)
                          (focus decide)
                          (focus rfl)
                          (focus rfl)
                          (focus rfl)
                          (focus (assumption))
                          (focus (intro u hu; go_simp))
                          intro K hK
                          go_simp
                          refine hK _ ?_
                          clear hK K)
                       | (apply QC.wpC_pure
                          (focus rfl)
                          (focus decide)
                          intro K hK
                          go_simp
                          first
                           | (refine hK _ ?_; clear hK K)
                           | (apply Exists.intro
                              refine ⟨fun u => ?_, hK _ ?_⟩
                              (focus (unfold QP.oat; go_simp; first | done | exact ⟨rfl, rfl⟩ | exact rfl))
                              clear hK K)))
                    refine QC.wpC_nil ?_
                    go_wp2
                    go_roundg (x - (k + 1))
                    case measure => have := HK2.out; omega
                    case rel => exact ⟨k + 1, by have := HLT2.out; omega, by go_num, LWU.out⟩
                · obtain rfl : k = x := by have := HK2.out; omega
                  clear hlt
                  go_wp2
                  go_roundg (B - (id + 1))
                  case measure => have := HID.out; omega
                  case rel => exact ⟨id + 1, by have := HLT.out; omega, by go_num, LWK.out⟩
            · obtain rfl : id = B := by have := HID.out; omega
              have FIN := Lib.hid (fine_of lwi.lw HN.out)
              clear lwi hlt
              go_wp2
              go_ret
              exact FIN.out
end Go.Proofs.Ytnnnbgndbmcffaa
namespace Go.Proofs.Ytnnnbgndbmcffaa
open Go.RowKit
set_option linter.unusedVariables false

open Go.ChangeShapes Go.WideShapes in
set_option maxRecDepth 100000 in
theorem walk_ShardTime {H : Type} {enc : TypeId × Value → H} {W : World} {base : Nat} (b0 : Option Addr) (len0 cap0 : Nat) (z0 : List Int) (w0 : RowK.IsRow .u64 W b0 len0 cap0 z0) (v : Value) (d : DataW H) (p : List MemPlace) (hval : Value.okWide Try.prog W .any base 74 v)
    (h : DataW.Trod enc Try.prog W 0 (fun _ => true) true 74 v d p) : Calls Try.prog 16 #[.slice b0 len0 cap0, v] W (Fine W) := by
  obtain ⟨A, cap, l, rfl, h1, h2, h3, h4⟩ := RowK.sl_of_trod Ac.cells Ac.ok Try.underlying74 (size := 4) (by kernel_rfl) (by decide) act_of_trod84 hval h
  have hu := urow_of w0
  by_cases hm : 40 < len0 ∨ 200 < l.length
  · exact time_many b0 len0 cap0 A l.length cap W hm
  · by_cases hb : len0 < 1 ∨ 32 < len0 ∨ ¬ (z0.take len0).sum ≤ Am.mx
    · exact time_none b0 len0 cap0 _ A l.length cap W hu (by omega) (by omega) hb
    · exact time_walk b0 len0 cap0 _ A cap l W hu (by omega) (by omega) (Decidable.not_not.1 fun h => hb (.inr (.inr h))) h4 h3 (by omega)
end Go.Proofs.Ytnnnbgndbmcffaa
