/- A bank in plain words, and in memory: whose each block is, what lies in it, and what a change leaves; no conditions. -/
import Derived.Test.YtnnnbgndbmcffaaSrE
namespace Go.Proofs.Ytnnnbgndbmcffaa
open Go.RowKit
set_option linter.unusedVariables false

/-- a task: what it moves, or that it lists, and how far it is -/
structure Tsk where
  fr : Int
  to : Int
  am : Int
  lists : Bool
  k : Nat
  er : Int
  told : List Int
def Tsk.need (T : Tsk) (s : Nat) : Bool := T.lists || T.fr % 4 == (s : Int) || T.to % 4 == (s : Int)
def Tsk.needs (T : Tsk) : List Nat := [0, 1, 2, 3].filter T.need
def Tsk.m (T : Tsk) : Nat := T.needs.length
def Tsk.next (T : Tsk) : Tsk := { T with k := T.k + 1 }
structure BS where
  n : Nat
  f : Nat → Int
  h : Nat → Int
  tl : List Tsk
  dn : List Nat
def BS.bals (S : BS) : List Int := (List.range S.n).map S.f
def BS.act (S : BS) (i : Nat) (T : Tsk) : BS :=
  if T.lists then { S with tl := S.tl.set i { T with k := T.k + 1, told := S.bals }, dn := S.dn ++ [i] }
  else { S with f := if movE S.n S.f T.fr T.to T.am = 0 then movF S.f T.fr.toNat T.to.toNat T.am else S.f, tl := S.tl.set i { T with k := T.k + 1, er := movE S.n S.f T.fr T.to T.am }, dn := S.dn ++ [i] }
def BS.stepT (S : BS) (i : Nat) (T : Tsk) : BS × Int :=
  match T.needs[T.k]? with
  | some s => if S.h s = -1 then ({ S with h := upF S.h s i, tl := S.tl.set i T.next }, 0) else (S, 100)
  | none => if T.k = T.m then (S.act i T, 0) else if T.k = T.m + 1 then ({ S with h := fun s => if S.h s = (i : Int) then -1 else S.h s, tl := S.tl.set i T.next }, 0) else (S, 3)
def BS.step (S : BS) (id : Int) : BS × Int :=
  if 0 ≤ id then (match S.tl[id.toNat]? with | some T => S.stepT id.toNat T | none => (S, 3)) else (S, 3)
def BS.begin (S : BS) (T : Tsk) : BS × Int × Int := if 32 ≤ S.tl.length then (S, 0, 2) else ({ S with tl := S.tl ++ [T] }, S.tl.length, 0)
def mvT (fr to am : Int) : Tsk := ⟨fr, to, am, false, 0, 0, []⟩
def liT : Tsk := ⟨0, 0, 0, true, 0, 0, []⟩
def BS.start (S : BS) (fr to am : Int) : BS × Int × Int := if inP S.n fr && inP S.n to then S.begin (mvT fr to am) else (S, 0, 3)
def BS.list (S : BS) : BS × Int × Int := S.begin liT
/-- what always holds of a bank -/
structure BS.Ok (S : BS) : Prop where
  n32 : S.n ≤ 32
  t32 : S.tl.length ≤ 32
  km : ∀ (i : Nat) (T : Tsk), S.tl[i]? = some T → T.k ≤ T.m + 2
  ra : ∀ (i : Nat) (T : Tsk), S.tl[i]? = some T → T.lists = false → (0 ≤ T.fr ∧ T.fr < (S.n : Int)) ∧ (0 ≤ T.to ∧ T.to < (S.n : Int)) ∧ 0 ≤ T.am ∧ T.told = []
  rl : ∀ (i : Nat) (T : Tsk), S.tl[i]? = some T → T.lists = true → T.fr = 0 ∧ T.to = 0 ∧ T.am = 0 ∧ T.er = 0
  un : ∀ (i : Nat) (T : Tsk), S.tl[i]? = some T → T.k ≤ T.m → T.er = 0 ∧ T.told = []
  tn : ∀ (i : Nat) (T : Tsk), S.tl[i]? = some T → T.told.length ≤ 32
  hd : ∀ s, s < 4 → ∀ i : Nat, S.h s = (i : Int) ↔ ∃ T, S.tl[i]? = some T ∧ T.k ≤ T.m + 1 ∧ s ∈ T.needs.take T.k
  hr : ∀ s, s < 4 → S.h s = -1 ∨ ∃ i : Nat, S.h s = (i : Int)
  dd : S.dn.Nodup
  dm : ∀ i, i ∈ S.dn ↔ ∃ T, S.tl[i]? = some T ∧ T.m < T.k

theorem Tsk.lt4 {T : Tsk} {s : Nat} (h : s ∈ T.needs) : s < 4 := by
  unfold Tsk.needs at h
  have := (List.mem_filter.1 h).1
  simp at this; omega
theorem Tsk.m4 (T : Tsk) : T.m ≤ 4 := by
  unfold Tsk.m Tsk.needs
  have := List.length_filter_le T.need [0, 1, 2, 3]
  simpa using this

/-- blocks of these owners alone changed -/
structure Chg (rk : Nat → Nat) (R : Nat → Prop) (w w' : World) : Prop where
  os : w'.os = w.os
  tape : w'.tape = w.tape
  output : w'.output = w.output
  size : w.heap.size ≤ w'.heap.size
  block : ∀ k, k < w.heap.size → ¬ R (rk k) → w'.heap[k]? = w.heap[k]?
section
variable {rk rk' : Nat → Nat} {R R' : Nat → Prop} {w w' w'' : World} {g : Nat} {t : TypeId} {cs : Array Value}
theorem Chg.refl (rk : Nat → Nat) (R : Nat → Prop) (w : World) : Chg rk R w w := ⟨rfl, rfl, rfl, Nat.le_refl _, fun _ _ _ => rfl⟩
theorem Chg.trans (h : Chg rk R w w') (h' : Chg rk R w' w'') : Chg rk R w w'' :=
  ⟨h'.os.trans h.os, h'.tape.trans h.tape, h'.output.trans h.output, Nat.le_trans h.size h'.size, fun k hk hr => (h'.block k (Nat.lt_of_lt_of_le hk h.size) hr).trans (h.block k hk hr)⟩
theorem Chg.ofBelow (rk : Nat → Nat) (R : Nat → Prop) (h : Below w.heap.size w w') : Chg rk R w w' := ⟨h.os, h.tape, h.output, h.size, fun k hk _ => h.block k hk⟩
theorem Chg.ofBut (h : M.But g w w') (hr : R (rk g)) : Chg rk R w w' := ⟨h.os, h.tape, h.output, h.size, fun k hk hn => h.block k hk (fun e => hn (e ▸ hr))⟩
theorem Chg.ofBt {s : List Nat} (h : Bt s w w') (hr : ∀ g ∈ s, R (rk g)) : Chg rk R w w' := ⟨h.os, h.tape, h.output, h.size, fun k hk hn => h.block k hk (fun e => hn (hr k e))⟩
theorem Chg.mono (h : Chg rk R w w') (hr : ∀ x, R x → R' x) : Chg rk R' w w' := ⟨h.os, h.tape, h.output, h.size, fun k hk hn => h.block k hk (fun e => hn (hr _ e))⟩
theorem Chg.roles (h : Chg rk R w w') (hr : ∀ k, k < w.heap.size → rk' k = rk k) : Chg rk' R w w' := ⟨h.os, h.tape, h.output, h.size, fun k hk hn => h.block k hk (by rw [← hr k hk]; exact hn)⟩
theorem Chg.row (h : Chg rk R w w') (hr : M.RowAt w g t cs) (hg : ¬ R (rk g)) : M.RowAt w' g t cs := by
  have hl := hr.lt
  unfold M.RowAt at *; rw [h.block g hl hg]; exact hr
theorem Chg.owns (h : Chg rk R w w') {base : Nat} {e : TypeId} {size : Nat} {v : Value} {n : Nat} {xs : List Value} (ho : w.ownsRow base e size v n xs) (hv : ∀ g, v.ownBlock = some g → ¬ R (rk g)) : w'.ownsRow base e size v n xs := by
  refine ⟨ho.1, ?_⟩
  rcases ho.2 with hn | ⟨g, cap, cur, rfl, hb, hgg, rest⟩
  · exact .inl hn
  · exact .inr ⟨g, cap, cur, rfl, hb, h.row hgg (hv g rfl), rest⟩
theorem Chg.below {n : Nat} {w0 : World} (h : Chg rk R w w') (hb : Below n w0 w) (hr : ∀ k, k < n → ¬ R (rk k)) (hn : n ≤ w.heap.size) : Below n w0 w' :=
  ⟨h.os.trans hb.os, h.tape.trans hb.tape, h.output.trans hb.output, Nat.le_trans hb.size h.size, fun k hk => (h.block k (by omega) (hr k hk)).trans (hb.block k hk)⟩
end
/-- what a call of the bank leaves to the others -/
structure Fr (rk rk' : Nat → Nat) (w w' : World) : Prop where
  chg : Chg rk (fun x => x ≠ 0) w w'
  keep : ∀ k, k < w.heap.size → rk' k = rk k
section
variable {rk rk' rk'' : Nat → Nat} {w w' w'' : World} {g : Nat} {t : TypeId} {cs : Array Value}
theorem Fr.refl (rk : Nat → Nat) (w : World) : Fr rk rk w w := ⟨Chg.refl _ _ _, fun _ _ => rfl⟩
theorem Fr.trans (h : Fr rk rk' w w') (h' : Fr rk' rk'' w' w'') : Fr rk rk'' w w'' :=
  ⟨⟨h'.chg.os.trans h.chg.os, h'.chg.tape.trans h.chg.tape, h'.chg.output.trans h.chg.output, Nat.le_trans h.chg.size h'.chg.size, fun k hk hr =>
    (h'.chg.block k (Nat.lt_of_lt_of_le hk h.chg.size) (by rw [h.keep k hk]; exact hr)).trans (h.chg.block k hk hr)⟩, fun k hk => (h'.keep k (Nat.lt_of_lt_of_le hk h.chg.size)).trans (h.keep k hk)⟩
theorem Fr.ofBelow (rk : Nat → Nat) (h : Below w.heap.size w w') : Fr rk rk w w' := ⟨Chg.ofBelow _ _ h, fun _ _ => rfl⟩
theorem Fr.ofChg {R : Nat → Prop} (h : Chg rk R w w') (hr : ∀ x, R x → x ≠ 0) : Fr rk rk w w' := ⟨h.mono hr, fun _ _ => rfl⟩
theorem Fr.row (h : Fr rk rk' w w') (hr : M.RowAt w g t cs) (hg : rk g = 0) : M.RowAt w' g t cs ∧ rk' g = 0 := ⟨h.chg.row hr (by rw [hg]; exact fun e => e rfl), by rw [h.keep g hr.lt, hg]⟩
end

abbrev ptrV (t : Nat) : Value := .pointer (some ⟨t, 0, none⟩)
/-- a step of a task that takes a lock -/
def LockV (rk : Nat → Nat) (w : World) (tk s : Nat) (v : Value) : Prop :=
  ∃ q0 q1, v = (Value.func (Fn.func 86) #[] #[.pointer (some ⟨q0, 0, none⟩), .pointer (some ⟨q1, 0, none⟩)]) ∧ M.RowAt w q0 132 #[ptrV tk] ∧ M.RowAt w q1 3 #[.int .i64 s] ∧ rk q0 = 5 ∧ rk q1 = 5
def actV (T : Tsk) (tk : Nat) : Value := .func (Fn.func (if T.lists then 74 else 73)) #[ptrV tk] #[]
def freeV (tk : Nat) : Value := .func (Fn.func 82) #[ptrV tk] #[]
/-- a row of numbers, or none -/
def ToldV (rk : Nat → Nat) (w : World) (v : Value) (l : List Int) : Prop := w.ownsRow 0 23 1 v l.length (l.map (Value.int .u64)) ∧ ∀ g, v.ownBlock = some g → rk g = 5
/-- the steps that a task began with -/
structure StepsAt (rk : Nat → Nat) (w : World) (tk : Nat) (T : Tsk) (sb : Nat) (cs : Array Value) : Prop where
  rs : rk sb = 5
  hs : M.RowAt w sb 137 cs
  lk : ∀ j (h : j < T.m), ∃ v, cs[j]? = some v ∧ LockV rk w tk (T.needs[j]'h) v
  ac : cs[T.m]? = some (actV T tk)
  fe : cs[T.m + 1]? = some (freeV tk)
/-- a task in memory -/
structure Tk (rk : Nat → Nat) (b i tk : Nat) (T : Tsk) (w : World) : Prop where
  rt : rk tk = 6 + i
  ex : ∃ sb a c cs tov, M.RowAt w tk 136 (taskR b i T.fr T.to T.am (.slice (some a) (T.m + 2 - T.k) c) (decide (T.m < T.k)) T.er tov) ∧ (T.k < T.m + 2 → a = ⟨sb, T.k, none⟩) ∧ T.m + 2 - T.k ≤ c ∧ c ≤ maxLen ∧ StepsAt rk w tk T sb cs ∧ ToldV rk w tov T.told
structure BkG (rk : Nat → Nat) (b pu B mb cap : Nat) (ts ds : Value) (tks : List Nat) (S : BS) (w : World) : Prop where
  own : ∀ k, w.heap.size ≤ k → rk k = 0
  hpu : Pu pu B mb S.n cap S.f [] w
  rpu : rk pu = 5
  rB : rk B = 2
  rmb : rk mb = 2
  rb : rk b = 1
  hb : M.RowAt w b 141 (bankR pu S.n S.h ts ds)
  hts : w.ownsRow 0 132 1 ts S.tl.length (tks.map ptrV)
  rts : ∀ g, ts.ownBlock = some g → rk g = 3
  hds : w.ownsRow 0 3 1 ds S.dn.length (S.dn.map fun i : Nat => Value.int .i64 i)
  rds : ∀ g, ds.ownBlock = some g → rk g = 4
  tk : ∀ (i : Nat) (T : Tsk), S.tl[i]? = some T → ∃ p, tks[i]? = some p ∧ Tk rk b i p T w
  ok : S.Ok
/-- a bank in memory -/
def Bk (rk : Nat → Nat) (b : Nat) (S : BS) (w : World) : Prop := ∃ pu B mb cap ts ds tks, BkG rk b pu B mb cap ts ds tks S w
section
variable {rk rk' : Nat → Nat} {R : Nat → Prop} {w w' : World} {b i tk sb : Nat} {T : Tsk} {cs : Array Value}
theorem LockV.chg {s : Nat} {v : Value} (h : LockV rk w tk s v) (c : Chg rk R w w') (h5 : ¬ R 5) (hk : ∀ k, k < w.heap.size → rk' k = rk k) : LockV rk' w' tk s v := by
  obtain ⟨q0, q1, e, r0, r1, k0, k1⟩ := h
  exact ⟨q0, q1, e, c.row r0 (by rw [k0]; exact h5), c.row r1 (by rw [k1]; exact h5), (hk _ r0.lt).trans k0, (hk _ r1.lt).trans k1⟩
theorem ToldV.chg {v : Value} {l : List Int} (h : ToldV rk w v l) (c : Chg rk R w w') (h5 : ¬ R 5) (hk : ∀ k, k < w.heap.size → rk' k = rk k) : ToldV rk' w' v l :=
  ⟨c.owns h.1 (fun g hg => by rw [h.2 g hg]; exact h5), fun g hg => (hk g (h.1.lt g hg).2).trans (h.2 g hg)⟩
theorem StepsAt.chg (h : StepsAt rk w tk T sb cs) (c : Chg rk R w w') (h5 : ¬ R 5) (hk : ∀ k, k < w.heap.size → rk' k = rk k) : StepsAt rk' w' tk T sb cs :=
  ⟨(hk _ h.hs.lt).trans h.rs, c.row h.hs (by rw [h.rs]; exact h5), fun j hj => let ⟨v, e, hv⟩ := h.lk j hj; ⟨v, e, hv.chg c h5 hk⟩, h.ac, h.fe⟩
theorem Tk.chg (h : Tk rk b i tk T w) (c : Chg rk R w w') (h5 : ¬ R 5) (hi : ¬ R (6 + i)) (hk : ∀ k, k < w.heap.size → rk' k = rk k) : Tk rk' b i tk T w' := by
  obtain ⟨rt, sb, a, cp, cs, tov, r, h0, h1, h2, hs, ht⟩ := h
  exact ⟨(hk _ r.lt).trans rt, sb, a, cp, cs, tov, c.row r (by rw [rt]; exact hi), h0, h1, h2, hs.chg c h5 hk, ht.chg c h5 hk⟩
theorem Pu.chg {p B mb n cap : Nat} {f : Nat → Int} {l : Res} (h : Pu p B mb n cap f l w) (c : Chg rk R w w') (h5 : ¬ R 5) (h2 : ¬ R 2) (rp : rk p = 5) (rB : rk B = 2) (rm : rk mb = 2) : Pu p B mb n cap f l w' := by
  obtain ⟨cur, hr, hc⟩ := h.hB
  exact ⟨c.row h.hp (by rw [rp]; exact h5), ⟨cur, c.row hr (by rw [rB]; exact h2), hc⟩, h.hm.of (c.block mb h.hm.lt (by rw [rm]; exact h2)), h.ne, h.cap, h.inv⟩
/-- nothing of the bank changed -/
theorem BkG.chg {pu B mb cap : Nat} {ts ds : Value} {tks : List Nat} {S : BS} (h : BkG rk b pu B mb cap ts ds tks S w) (c : Chg rk R w w') (hR : ∀ x, R x → x = 0) (hk : ∀ k, k < w.heap.size → rk' k = rk k) (hn : ∀ k, w'.heap.size ≤ k → rk' k = 0) : BkG rk' b pu B mb cap ts ds tks S w' := by
  have h5 : ∀ x, x ≠ 0 → ¬ R x := fun x hx hr => hx (hR x hr)
  obtain ⟨own, hpu, rpu, rB, rmb, rb, hb, hts, rts, hds, rds, htk, ok⟩ := h
  have hBl : B < w.heap.size := by obtain ⟨cur, hr, _⟩ := hpu.hB; exact hr.lt
  refine ⟨hn, hpu.chg c (h5 5 (by decide)) (h5 2 (by decide)) rpu rB rmb, (hk _ hpu.hp.lt).trans rpu, (hk _ hBl).trans rB, (hk _ hpu.hm.lt).trans rmb, (hk _ hb.lt).trans rb, c.row hb (by rw [rb]; exact h5 1 (by decide)),
    c.owns hts (fun g hg => by rw [rts g hg]; exact h5 3 (by decide)), fun g hg => (hk g (hts.lt g hg).2).trans (rts g hg), c.owns hds (fun g hg => by rw [rds g hg]; exact h5 4 (by decide)), fun g hg => (hk g (hds.lt g hg).2).trans (rds g hg),
    fun i T hT => let ⟨p, e, t⟩ := htk i T hT; ⟨p, e, t.chg c (h5 5 (by decide)) (h5 _ (by omega)) hk⟩, ok⟩
theorem Bk.same {S : BS} (h : Bk rk b S w) (hb : Below w.heap.size w w') : Bk rk b S w' := by
  obtain ⟨pu, B, mb, cap, ts, ds, tks, g⟩ := h
  exact ⟨pu, B, mb, cap, ts, ds, tks, g.chg (Chg.ofBelow rk (fun _ => False) hb) (fun _ h => h.elim) (fun _ _ => rfl) (fun k hk => g.own k (Nat.le_trans hb.size hk))⟩
theorem Bk.own {S : BS} (h : Bk rk b S w) : ∀ k, w.heap.size ≤ k → rk k = 0 := by obtain ⟨pu, B, mb, cap, ts, ds, tks, g⟩ := h; exact g.own
theorem Bk.ok {S : BS} (h : Bk rk b S w) : S.Ok := by obtain ⟨pu, B, mb, cap, ts, ds, tks, g⟩ := h; exact g.ok
theorem Bk.lt {S : BS} (h : Bk rk b S w) : b < w.heap.size := by obtain ⟨pu, B, mb, cap, ts, ds, tks, g⟩ := h; exact g.hb.lt
end
end Go.Proofs.Ytnnnbgndbmcffaa
