/- What the law package's shown answers: true; the condition is that the tables are laid. -/
import Derived.Test.YtiilgkhndfnkgaaDoorJoE
namespace Go.Proofs.YtiilgkhndfnkgaaDoor
open Oc
open Go.RowKit
set_option linter.unusedVariables false
section
variable {n : Nat} {w0 v v' : World} {a b c jb m : Nat} {B : ByteArray} {X X' : Ths}
theorem TW.lit (h : TW n w0 X v) (hn : New a X) (t : TypeId) (sz k : Nat) (cs : Array Value) (hm : k ≤ maxLen) (hs : cs.size = k * sz) :
    TW n w0 ((a, .own t sz (.slice (some ⟨v.heap.size, 0, none⟩) k k) k cs.toList) :: X) (v.alloc (.cells cs t)) :=
  h.add hn ((Below.refl _ _).alloc (Nat.le_refl _) _) (World.ownsRow_lit v cs k h.ge hm hs) (fun g e => by obtain rfl := Option.some.inj e; exact Nat.le_refl _)
/-- a thing beside a journal -/
theorem Jn.tw (h : Jn n w0 a jb m B X v) : ∃ p buf, (p = .pointer none ∨ p = .pointer (some ⟨jb, 0, none⟩)) ∧ (B.size = 0 → buf = .slice none 0 0) ∧ TW n w0 (JX a jb p buf m B X) v := h.ex
theorem Jn.lit (h : Jn n w0 a jb m B X v) (hn : New c X) (d1 : c ≠ a) (d2 : c ≠ a + 1) (t : TypeId) (sz k : Nat) (cs : Array Value) (hm : k ≤ maxLen) (hs : cs.size = k * sz) :
    Jn n w0 a jb m B ((c, .own t sz (.slice (some ⟨v.heap.size, 0, none⟩) k k) k cs.toList) :: X) (v.alloc (.cells cs t)) := by
  obtain ⟨p, buf, hp, hz, tw⟩ := h.ex
  have t1 := tw.lit (a := c) ((hn.cons (by omega)).cons (by omega)) t sz k cs hm hs
  exact ⟨⟨p, buf, hp, hz, t1.sub (fun x hx => by simp only [List.mem_cons] at hx ⊢; rcases hx with e | e | e | e; exact .inr (.inl e); exact .inr (.inr (.inl e)); exact .inl e; exact .inr (.inr (.inr e)))⟩, h.n1.cons (by omega), h.n2.cons (by omega)⟩
theorem Jn.sub (h : Jn n w0 a jb m B X v) (hs : ∀ x ∈ X', x ∈ X) : Jn n w0 a jb m B X' v := by
  obtain ⟨p, buf, hp, hz, tw⟩ := h.ex
  exact ⟨⟨p, buf, hp, hz, tw.sub (fun x hx => by simp only [List.mem_cons] at hx ⊢; rcases hx with e | e | e; exact .inl e; exact .inr (.inl e); exact .inr (.inr (hs x e)))⟩, fun y hy => h.n1 y (hs y hy), fun y hy => h.n2 y (hs y hy)⟩
theorem Jn.own {t : TypeId} {sz k : Nat} {u : Value} {xs : List Value} (h : Jn n w0 a jb m B X v) (hm : (c, .own t sz u k xs) ∈ X) : v.ownsRow n t sz u k xs := h.rest.own hm
/-- two journals -/
structure Jn2 (n : Nat) (w0 : World) (a jb m : Nat) (B : ByteArray) (a' jb' m' : Nat) (B' : ByteArray) (X : Ths) (v : World) : Prop where
  ex : ∃ p buf p' buf', (p = .pointer none ∨ p = .pointer (some ⟨jb, 0, none⟩)) ∧ (B.size = 0 → buf = .slice none 0 0) ∧ (p' = .pointer none ∨ p' = .pointer (some ⟨jb', 0, none⟩)) ∧ (B'.size = 0 → buf' = .slice none 0 0) ∧
    TW n w0 (JX a jb p buf m B (JX a' jb' p' buf' m' B' X)) v
  n1 : New a X
  n2 : New (a + 1) X
  n3 : New a' X
  n4 : New (a' + 1) X
  d1 : a ≠ a'
  d2 : a + 1 ≠ a'
  d3 : a ≠ a' + 1
theorem Jn2.swap {a' jb' m' : Nat} {B' : ByteArray} (h : Jn2 n w0 a jb m B a' jb' m' B' X v) : Jn2 n w0 a' jb' m' B' a jb m B X v := by
  obtain ⟨p, buf, p', buf', h1, h2, h3, h4, tw⟩ := h.ex
  exact ⟨⟨p', buf', p, buf, h3, h4, h1, h2, tw.sub (fun x hx => by simp only [List.mem_cons] at hx ⊢; rcases hx with e | e | e | e | e; exact .inr (.inr (.inl e)); exact .inr (.inr (.inr (.inl e))); exact .inl e; exact .inr (.inl e); exact .inr (.inr (.inr (.inr e))))⟩, h.n3, h.n4, h.n1, h.n2, fun e => h.d1 e.symm, fun e => h.d3 e.symm, fun e => h.d2 e.symm⟩
theorem Jn2.fst {a' jb' m' : Nat} {B' : ByteArray} (h : Jn2 n w0 a jb m B a' jb' m' B' X v) : Jn n w0 a jb m B X v := by
  obtain ⟨p, buf, p', buf', h1, h2, h3, h4, tw⟩ := h.ex
  exact ⟨⟨p, buf, h1, h2, tw.sub (fun x hx => by simp only [List.mem_cons] at hx ⊢; rcases hx with e | e | e; exact .inl e; exact .inr (.inl e); exact .inr (.inr (.inr (.inr e))))⟩, h.n1, h.n2⟩
theorem Jn2.sub {a' jb' m' : Nat} {B' : ByteArray} (h : Jn2 n w0 a jb m B a' jb' m' B' X v) (hs : ∀ x ∈ X', x ∈ X) : Jn2 n w0 a jb m B a' jb' m' B' X' v := by
  obtain ⟨p, buf, p', buf', h1, h2, h3, h4, tw⟩ := h.ex
  exact ⟨⟨p, buf, p', buf', h1, h2, h3, h4, tw.sub (fun x hx => by simp only [List.mem_cons] at hx ⊢; rcases hx with e | e | e | e | e; exact .inl e; exact .inr (.inl e); exact .inr (.inr (.inl e)); exact .inr (.inr (.inr (.inl e))); exact .inr (.inr (.inr (.inr (hs x e)))))⟩,
    fun y hy => h.n1 y (hs y hy), fun y hy => h.n2 y (hs y hy), fun y hy => h.n3 y (hs y hy), fun y hy => h.n4 y (hs y hy), h.d1, h.d2, h.d3⟩
theorem Jn2.same {a' jb' m' : Nat} {B' : ByteArray} (h : Jn2 n w0 a jb m B a' jb' m' B' X v) (hb : Below v.heap.size v v') : Jn2 n w0 a jb m B a' jb' m' B' X v' := by
  obtain ⟨p, buf, p', buf', h1, h2, h3, h4, tw⟩ := h.ex
  exact ⟨⟨p, buf, p', buf', h1, h2, h3, h4, tw.same hb⟩, h.n1, h.n2, h.n3, h.n4, h.d1, h.d2, h.d3⟩
/-- what is done with the first one leaves the other one as it is -/
theorem Jn2.call {a' jb' m' : Nat} {B' : ByteArray} {f : Nat} {args : Array Value} {R : Ending → Prop} {q : Nat} {C : ByteArray} (h : Jn2 n w0 a jb m B a' jb' m' B' X v)
    (hc : ∀ X', (∀ x ∈ X, x ∈ X') → Jn n w0 a jb m B X' v → Calls Tryd.prog f args v fun e v' => R e ∧ Jn n w0 a jb q C X' v') :
    Calls Tryd.prog f args v fun e v' => R e ∧ Jn2 n w0 a jb q C a' jb' m' B' X v' := by
  obtain ⟨p, buf, p', buf', h1, h2, h3, h4, tw⟩ := h.ex
  have d1 := h.d1; have d2 := h.d2; have d3 := h.d3
  refine (hc (JX a' jb' p' buf' m' B' X) (fun x hx => List.mem_cons_of_mem _ (List.mem_cons_of_mem _ hx)) ⟨⟨p, buf, h1, h2, tw⟩, (h.n1.cons (by omega)).cons (by omega), (h.n2.cons (by omega)).cons (by omega)⟩).mono ?_
  rintro e v' ⟨hR, hj⟩
  obtain ⟨p2, buf2, g1, g2, t2⟩ := hj.ex
  exact ⟨hR, ⟨p2, buf2, p', buf', g1, g2, h3, h4, t2⟩, h.n1, h.n2, h.n3, h.n4, h.d1, h.d2, h.d3⟩
theorem recover_beside {a' c' : Nat} (ht : Tabs w0) (h1n : 1 < n) (h : Jn n w0 a jb m B X v) (n1 : New a' X) (n2 : New (a' + 1) X) (n3 : New c' X) (d1 : a' ≠ a) (d2 : a' + 1 ≠ a) (d3 : a' ≠ a + 1) (d4 : c' ≠ a') (d5 : c' ≠ a' + 1) (d6 : c' ≠ a) (d7 : c' ≠ a + 1)
    (L : List ByteArray) (tl : ByteArray) (hL : ∀ t ∈ L, t.size ≤ 1024) (hl : L.length ≤ 1000) (hz : (rcds 0 L ++ tl).size ≤ 100000000) (hbad : Bad L.length tl) :
    Calls Tryd.prog 7 #[.string (rcds 0 L ++ tl)] v fun e v' => ∃ g ad cp, e = .returned (.tuple #[.pointer (some ⟨g, 0, none⟩), .slice ad L.length cp]) ∧
      Jn2 n w0 a' g L.length (rcds 0 L) a jb m B ((c', .own 9 1 (.slice ad L.length cp) L.length (L.map .string)) :: X) v' := by
  obtain ⟨p, buf, h1, h2, tw⟩ := h.ex
  refine (recover_any (a := a') (c := c') ht h1n tw ((n1.cons (by omega)).cons (by omega)) ((n2.cons (by omega)).cons (by omega)) ((n3.cons (by omega)).cons (by omega)) d4 d5 L tl hL hl hz hbad).mono ?_
  rintro e v' ⟨g, ad, cp, rfl, hj⟩
  obtain ⟨p2, buf2, g1, g2, t2⟩ := hj.ex
  refine ⟨g, ad, cp, rfl, ⟨p2, buf2, p, buf, g1, g2, h1, h2, t2.sub (fun x hx => by simp only [List.mem_cons] at hx ⊢; rcases hx with e | e | e | e | e | e; exact .inl e; exact .inr (.inl e); exact .inr (.inr (.inr (.inl e))); exact .inr (.inr (.inr (.inr (.inl e)))); exact .inr (.inr (.inl e)); exact .inr (.inr (.inr (.inr (.inr e)))))⟩,
    n1.cons (by omega), n2.cons (by omega), h.n1.cons (by omega), h.n2.cons (by omega), d1, d2, d3⟩
set_option maxHeartbeats 4000000 in
set_option maxRecDepth 100000 in
theorem shown_any (w : World) (ht : Tabs w) : Calls Tryd.prog 6 #[] w fun e w' => e = .returned (.bool true) ∧ Below w.heap.size w w' := by
  obtain ⟨n, hn⟩ : ∃ n, w.heap.size = n := ⟨_, rfl⟩
  have h1n : 1 < n := hn ▸ ht.lt
  have t0 : TW n w [] w := hn ▸ TW.start w
  have nn : ∀ a, New a [] := fun a y hy => by cases hy
  have hA : (⟨#[97]⟩ : ByteArray).size = 1 := rfl
  have c1 := recover_any (a := 0) (c := 2) ht h1n t0 (nn _) (nn _) (nn _) (by decide) (by decide) [] .empty (by simp) (by simp) (by decide) (Bad.nil _)
  have e1 : rcds 0 [] ++ ByteArray.empty = ⟨#[]⟩ := rfl
  rw [e1] at c1
  have c2 := fun {u : World} {g : Nat} {ad : Option Addr} {cp q : Nat} {X : Ths} (h : Jn n w 0 g 0 (rcds 0 []) ((3, .own 9 1 (.slice (some ⟨q, 0, none⟩) 1 1) 1 [.string ⟨#[97]⟩]) :: X) u) =>
    append_any ht h1n h [⟨#[97]⟩] rfl List.mem_cons_self (by simp [hA]) (by decide) (by decide)
  have zB : (rcds 0 [] ++ rcds 0 [⟨#[97]⟩]).size = 15 := by
    show (ByteArray.empty ++ (rcd 0 ⟨#[97]⟩ ++ ByteArray.empty)).size = 15
    rw [ByteArray.size_append, ByteArray.size_append, rcd_size]; rfl
  have zR : rcds 0 [] ++ rcds 0 [⟨#[97]⟩] = rcds 0 [⟨#[97]⟩] ++ .empty := by
    show ByteArray.empty ++ _ = _
    rw [empty_app, ByteArray.append_empty]
  have C1 := Lib.hid c1; have HN := Lib.hid hn; have HT := Lib.hid ht; have H1 := Lib.hid h1n; have NN := Lib.hid nn; have HA := Lib.hid hA
  clear c1 t0 hn e1 ht h1n nn hA
  generalize hQ : rcds 0 [] ++ rcds 0 [⟨#[97]⟩] = Q at *
  have HQ := Lib.hid hQ; have ZR := Lib.hid zR
  clear hQ zR
  go_enter Tryd.func6, Tryd.ntmps6
  go_wp2_with fail
  refine (C1.out).mono ?_
  rintro e v1 ⟨g, ad, cp, rfl, j1⟩
  have j2 := j1.lit (c := 3) ((NN.out 3).cons (by decide)) (by decide) (by decide) 9 1 1 #[.string ⟨#[97]⟩] (by decide) rfl
  have C2 := Lib.hid (append_any HT.out H1.out j2 [⟨#[97]⟩] rfl List.mem_cons_self (by simp [HA.out]) (by decide) (by decide))
  clear j1 j2 c2
  go_wp2_with fail
  refine (C2.out).mono ?_
  rintro e v2 ⟨rfl, j3⟩
  have j3 : Jn n w 0 g 1 (rcds 0 [] ++ rcds 0 [⟨#[97]⟩]) _ v2 := j3
  rw [HQ.out] at j3
  have C3 := Lib.hid (bytes_of_journal j3 (by omega))
  clear j3 C1 C2
  go_wp2_with fail
  refine (C3.out).mono ?_
  rintro e v3 ⟨rfl, j4⟩
  have C4 := Lib.hid (recover_beside (a' := 4) (c' := 6) HT.out H1.out j4 ((((NN.out _).cons (by decide)).cons (by decide))) ((((NN.out _).cons (by decide)).cons (by decide))) ((((NN.out _).cons (by decide)).cons (by decide))) (by decide) (by decide) (by decide) (by decide) (by decide) (by decide) (by decide)
    [⟨#[97]⟩] .empty (by simp [HA.out]) (by decide) (by rw [← ZR.out]; omega) (Bad.nil _))
  rw [← ZR.out] at C4
  clear j4 C3
  go_wp2_with fail
  refine (C4.out).mono ?_
  rintro e v4 ⟨g2, ad2, cp2, rfl, j5⟩
  have own := j5.fst.rest.cellOf List.mem_cons_self rfl (j := 0) (y := .string ⟨#[97]⟩) rfl
  obtain ⟨gl, rfl, hc⟩ := own
  have C5 := Lib.hid (bytes_of_journal j5.swap.fst (by omega))
  clear C4
  have J5 := Lib.hid j5.swap.fst
  clear j5
  go_wp2_with fail
  refine (C5.out).mono ?_
  rintro e v5 ⟨rfl, j6⟩
  have C6 := Lib.hid (len_of_journal j6)
  have J6 := Lib.hid j6
  clear C5 j6
  go_wp2_with fail
  refine (C6.out).mono ?_
  rintro e v6 ⟨rfl, rfl⟩
  go_wp2
  go_ret
  exact ⟨rfl, HN.out ▸ J6.out.bel⟩
end
end Go.Proofs.YtiilgkhndfnkgaaDoor
