/- begin: a task is taken among the tasks; the conditions are that the bank, the task's block and the row of its needs are known. -/
import Derived.Test.YtnnnbgndbmcffaaSrK
namespace Go.Proofs.Ytnnnbgndbmcffaa
open Go.RowKit
set_option linter.unusedVariables false

def NK (T : Tsk) (k : Nat) : List Nat := (List.range k).filter T.need
theorem NK4 (T : Tsk) : NK T 4 = T.needs := rfl
theorem NK_yes {T : Tsk} {k : Nat} (h : T.need k = true) : NK T (k + 1) = NK T k ++ [k] := by unfold NK; rw [List.range_succ, List.filter_append]; simp [h]
theorem NK_no {T : Tsk} {k : Nat} (h : T.need k = false) : NK T (k + 1) = NK T k := by unfold NK; rw [List.range_succ, List.filter_append]; simp [h]
/-- a lock made since -/
def LockN (q : Nat) (v : World) (tk s : Nat) (x : Value) : Prop := ∃ q0 q1, x = (Value.func (Fn.func 86) #[] #[.pointer (some ⟨q0, 0, none⟩), .pointer (some ⟨q1, 0, none⟩)]) ∧ M.RowAt v q0 132 #[ptrV tk] ∧ M.RowAt v q1 3 #[.int .i64 s] ∧ q ≤ q0 ∧ q ≤ q1
/-- a task that begins, once the first k shards are behind -/
structure BG (w : World) (q b tk : Nat) (i fr to am : Int) (T : Tsk) (k : Nat) (sv : Value) (xs : List Value) (v : World) : Prop where
  row : M.RowAt v tk 136 (taskR b i fr to am sv false 0 (.slice none 0 0))
  own : v.ownsRow q 137 1 sv xs.length xs
  len : xs.length = (NK T k).length
  lk : ∀ (j s : Nat) (x : Value), (NK T k)[j]? = some s → xs[j]? = some x → LockN q v tk s x
  bt : Bt [tk] w v
  ge : q ≤ v.heap.size
  tq : tk < q
  ws : w.heap.size = q
section
variable {w v v' : World} {q b tk : Nat} {i fr to am : Int} {T : Tsk} {k : Nat} {sv : Value} {xs : List Value}
theorem LockN.grown {row : Option Nat} {s : Nat} {x : Value} (h : LockN q v tk s x) (hg : v.grownBy v' row) (hr : ∀ g t c, row = some g → M.RowAt v g t c → t = 137) : LockN q v' tk s x := by
  obtain ⟨q0, q1, e, r0, r1, h0, h1⟩ := h
  refine ⟨q0, q1, e, row_grown hg r0 (fun e => absurd (hr _ _ _ e.symm r0) (by decide)), row_grown hg r1 (fun e => absurd (hr _ _ _ e.symm r1) (by decide)), h0, h1⟩
theorem BG.same (h : BG w q b tk i fr to am T k sv xs v) (hb : Below v.heap.size v v') : BG w q b tk i fr to am T k sv xs v' :=
  ⟨h.row.call hb, h.own.kept (below_grown hb none) (by cases sv.ownBlock <;> simp), h.len, fun j s x h1 h2 => (h.lk j s x h1 h2).grown (below_grown hb none) (fun g t c e => by cases e), h.bt.trans (Bt.ofBelow _ hb), Nat.le_trans h.ge hb.size, h.tq, h.ws⟩
theorem BG.dr (h : BG w q b tk i fr to am T k sv xs v) (d : QC.Dr v v') : BG w q b tk i fr to am T k sv xs v' := h.same d.below
theorem BG.alloc (h : BG w q b tk i fr to am T k sv xs v) (o : Obj) : BG w q b tk i fr to am T k sv xs (v.alloc o) := h.same ((Below.refl _ _).alloc (Nat.le_refl _) o)
theorem BG.cell (h : BG w q b tk i fr to am T k sv xs v) : v.cell? ⟨tk, 5, none⟩ = some sv ∧ v.frozen? ⟨tk, 5, none⟩ = false := ⟨(h.row.cell 5).trans rfl, h.row.frozen _⟩
theorem BG.own_ne (h : BG w q b tk i fr to am T k sv xs v) : ∀ g, sv.ownBlock = some g → g ≠ tk := fun g hg => by have := (h.own.lt g hg).1; have := h.tq; omega
end
theorem mkf (fn : Fn) (first cap : Array Value) (w : World) : (Instr.makeFunc fn first cap).run Try.prog w = .ok (.func fn first cap) w := rfl
set_option maxRecDepth 100000 in
theorem lock_new (tk : Nat) (s : Int) (w : World) : Calls Try.prog 81 #[ptrV tk, .int .i64 s] w fun e w' => e = .returned (Value.func (Fn.func 86) #[] #[.pointer (some ⟨w.heap.size, 0, none⟩), .pointer (some ⟨w.heap.size + 1, 0, none⟩)]) ∧ w' = (w.alloc (.cells #[ptrV tk] 132)).alloc (.cells #[.int .i64 s] 3) := by
  have hmf := mkf
  go_enter Try.func81, Try.ntmps81
  go_wp2
  go_ret
  exact ⟨rfl, rfl⟩
theorem info137 : (Try.prog.info? 137).map (fun i => (i.zero, i.size, i.bytes)) = some (some Value.nilFunc, 1, 8) := by kernel_rfl
theorem info132 : (Try.prog.info? 132).map (fun i => (i.zero, i.size, i.bytes)) = some (some (.pointer none), 1, 8) := by kernel_rfl
/-- one more lock -/
theorem BG.push {w v v' : World} {q b tk : Nat} {i fr to am : Int} {T : Tsk} {k : Nat} {sv sv' : Value} {xs : List Value} {n : Nat} (h : BG w q b tk i fr to am T k sv xs v) (hk : T.need k = true)
    (r0 : M.RowAt v n 132 #[ptrV tk]) (r1 : M.RowAt v (n + 1) 3 #[.int .i64 k]) (hn : q ≤ n) (ho : v'.ownsRow q 137 1 sv' (xs.length + 1) (xs ++ [(Value.func (Fn.func 86) #[] #[.pointer (some ⟨n, 0, none⟩), .pointer (some ⟨n + 1, 0, none⟩)])])) (hg : v.grownBy v' sv.ownBlock) :
    BG w q b tk i fr to am T (k + 1) sv' (xs ++ [(Value.func (Fn.func 86) #[] #[.pointer (some ⟨n, 0, none⟩), .pointer (some ⟨n + 1, 0, none⟩)])]) (v'.setCell ⟨tk, 5, none⟩ sv') := by
  have hne : ∀ g, sv'.ownBlock = some g → g ≠ tk := fun g hg => by have := (ho.lt g hg).1; have := h.tq; omega
  have ht : ∀ g t c, sv.ownBlock = some g → M.RowAt v g t c → t = 137 := fun g t c hg hr => by
    obtain ⟨cur, r⟩ := owns_row h.own hg
    unfold M.RowAt at r hr
    rw [r] at hr; cases hr; rfl
  have rowv' := row_grown hg h.row (fun e => h.own_ne tk e.symm rfl)
  have far : ∀ s x, LockN q v' tk s x → LockN q (v'.setCell ⟨tk, 5, none⟩ sv') tk s x := fun s x ⟨q0, q1, e, a0, a1, g0, g1⟩ => by
    have := h.tq
    exact ⟨q0, q1, e, a0.far (p := ⟨tk, 5, none⟩) (show tk ≠ q0 by omega) _, a1.far (p := ⟨tk, 5, none⟩) (show tk ≠ q1 by omega) _, g0, g1⟩
  have bt' : Bt [tk] w v' := ⟨hg.os.trans h.bt.os, hg.tape.trans h.bt.tape, hg.output.trans h.bt.output, Nat.le_trans h.bt.size hg.size, fun k hk hn => (hg.block k (Nat.lt_of_lt_of_le hk h.bt.size) (fun e => by have := (h.own.lt k e.symm).1; have := h.ws; omega)).trans (h.bt.block k hk hn)⟩
  refine ⟨task_set5 rowv', ?_, ?_, fun j s x h1 h2 => ?_, (Bt.set bt' (p := ⟨tk, 5, none⟩) (by simp) _), ?_, h.tq, h.ws⟩ -- (p := ⟨tk, 5, none⟩) (by simp) _, ?_, h.tq, h.ws⟩
  · simpa using owns_set ho (p := ⟨tk, 5, none⟩) (fun g hg e => hne g hg e.symm) sv'
  · rw [NK_yes hk]; simp [h.len]
  · rw [NK_yes hk] at h1
    by_cases hj : j < (NK T k).length
    · rw [List.getElem?_append_left hj] at h1
      rw [List.getElem?_append_left (by rw [h.len]; exact hj)] at h2
      exact far s x ((h.lk j s x h1 h2).grown hg ht)
    · have hj2 : j = (NK T k).length := by
        have := (List.getElem?_eq_some_iff.1 h1).1
        simp at this; omega
      subst hj2
      rw [List.getElem?_append_right (Nat.le_refl _)] at h1
      rw [← h.len, List.getElem?_append_right (Nat.le_refl _)] at h2
      simp at h1 h2
      subst h1; subst h2
      exact far k _ (LockN.grown ⟨n, n + 1, rfl, r0, r1, hn, by omega⟩ hg ht)
  · have := hg.size; have := h.ge; simp [World.setCell]; omega
/-- a task's block as it begins -/
def taskZ (fr to am : Int) : Array Value := #[.pointer none, .int .i64 0, .int .i64 fr, .int .i64 to, .int .u64 am, .slice none 0 0, .bool false, .int .i64 0, .slice none 0 0]
theorem BG.start {w : World} {q b tk : Nat} {T : Tsk} (row : M.RowAt w tk 136 (taskZ T.fr T.to T.am)) (hq : w.heap.size = q) (n : Int) : BG w q b tk n T.fr T.to T.am T 0 (.slice none 0 0) [] ((w.setCell ⟨tk, 0, none⟩ (ptrV b)).setCell ⟨tk, 1, none⟩ (.int .i64 n)) := by
  have r := (row.set 0 (ptrV b)).set 1 (.int .i64 n)
  refine ⟨r, World.ownsRow_nil _ _ _ _, rfl, fun j s x h1 _ => by simp [NK] at h1, ((Bt.refl _ w).set (p := ⟨tk, 0, none⟩) (by simp) _).set (p := ⟨tk, 1, none⟩) (by simp) _, by simp [World.setCell]; omega, hq ▸ row.lt, hq⟩
/-- what begin leaves -/
structure BegP (w : World) (q b tk pu n : Nat) (h : Nat → Int) (ts ds : Value) (i : Nat) (T : Tsk) (tks : List Nat) (w' : World) : Prop where
  ex : ∃ sb c xs ts', M.RowAt w' tk 136 (taskR b i T.fr T.to T.am (.slice (some ⟨sb, 0, none⟩) (T.m + 2) c) false 0 (.slice none 0 0)) ∧ w'.ownsRow q 137 1 (.slice (some ⟨sb, 0, none⟩) (T.m + 2) c) (T.m + 2) (xs ++ [actV T tk, freeV tk]) ∧ xs.length = T.m ∧
    (∀ (j s : Nat) (x : Value), T.needs[j]? = some s → xs[j]? = some x → ∃ q0 q1, x = (Value.func (Fn.func 86) #[] #[.pointer (some ⟨q0, 0, none⟩), .pointer (some ⟨q1, 0, none⟩)]) ∧ M.RowAt w' q0 132 #[ptrV tk] ∧ M.RowAt w' q1 3 #[.int .i64 s] ∧ q ≤ q0 ∧ q ≤ q1 ∧ ts'.ownBlock ≠ some q0 ∧ ts'.ownBlock ≠ some q1) ∧
    M.RowAt w' b 141 (bankR pu n h ts' ds) ∧ w'.ownsRow 0 132 1 ts' (tks.length + 1) ((tks ++ [tk]).map ptrV) ∧ (ts'.ownBlock = ts.ownBlock ∨ ∀ g, ts'.ownBlock = some g → q ≤ g)
  bt : Bt (tk :: b :: ts.ownBlock.toList) w w'
/-- all its steps are there -/
structure BH (w : World) (q b tk pu n : Nat) (h : Nat → Int) (ts ds : Value) (T : Tsk) (tks : List Nat) (sb c : Nat) (xs : List Value) (v : World) : Prop where
  row : M.RowAt v tk 136 (taskR b (tks.length : Nat) T.fr T.to T.am (.slice (some ⟨sb, 0, none⟩) (T.m + 2) c) false 0 (.slice none 0 0))
  own : v.ownsRow q 137 1 (.slice (some ⟨sb, 0, none⟩) (T.m + 2) c) (T.m + 2) (xs ++ [actV T tk, freeV tk])
  len : xs.length = T.m
  lk : ∀ (j s : Nat) (x : Value), T.needs[j]? = some s → xs[j]? = some x → LockN q v tk s x
  rb : M.RowAt v b 141 (bankR pu n h ts ds)
  ots : v.ownsRow 0 132 1 ts tks.length (tks.map ptrV)
  tsq : ∀ g, ts.ownBlock = some g → g < q ∧ g ≠ tk ∧ g ≠ b
  bt : Bt [tk] w v
  ge : q ≤ v.heap.size
  lt : tk < q ∧ b < q ∧ tk ≠ b
  ws : w.heap.size = q
section
variable {w v v' : World} {q b tk pu n : Nat} {h : Nat → Int} {ts ds : Value} {T : Tsk} {tks : List Nat} {sb c k : Nat} {sv sv2 : Value} {xs : List Value}
theorem BH.alloc (H : BH w q b tk pu n h ts ds T tks sb c xs v) (o : Obj) : BH w q b tk pu n h ts ds T tks sb c xs (v.alloc o) :=
  ⟨H.row.alloc o, H.own.alloc o, H.len, fun j s x h1 h2 => (H.lk j s x h1 h2).grown (below_grown ((Below.refl _ _).alloc (Nat.le_refl _) o) none) (fun g t c e => by cases e), H.rb.alloc o, H.ots.alloc o, H.tsq, H.bt.alloc o, by have := H.ge; simp; omega, H.lt, H.ws⟩
theorem BG.done (h0 : BG w q b tk (tks.length : Nat) T.fr T.to T.am T 4 sv xs v) (hb : M.RowAt w b 141 (bankR pu n h ts ds)) (hts : w.ownsRow 0 132 1 ts tks.length (tks.map ptrV)) (hn : ∀ g, ts.ownBlock = some g → g ≠ tk ∧ g ≠ b) (tb : tk ≠ b)
    (ho : v'.ownsRow q 137 1 (.slice (some ⟨sb, 0, none⟩) (xs.length + 2) c) (xs.length + 2) (xs ++ [actV T tk, freeV tk])) (hg : v.grownBy v' sv.ownBlock) : BH w q b tk pu n h ts ds T tks sb c xs (v'.setCell ⟨tk, 5, none⟩ (.slice (some ⟨sb, 0, none⟩) (xs.length + 2) c)) := by
  have lx : xs.length = T.m := h0.len
  have hsv : ∀ g, sv.ownBlock = some g → q ≤ g := fun g hg => (h0.own.lt g hg).1
  have ht : ∀ g t c, sv.ownBlock = some g → M.RowAt v g t c → t = 137 := fun g t c hg hr => by
    obtain ⟨cur, r⟩ := owns_row h0.own hg
    unfold M.RowAt at r hr
    rw [r] at hr; cases hr; rfl
  have bq : b < q := h0.ws ▸ hb.lt
  have rowv' := row_grown hg h0.row (fun e => h0.own_ne tk e.symm rfl)
  have hbv := h0.bt.row hb (by simp; exact fun e => tb e.symm)
  have hbv' := row_grown hg hbv (fun e => by have := hsv b e.symm; omega)
  have tsq : ∀ g, ts.ownBlock = some g → g < q := fun g hg => h0.ws ▸ (hts.lt g hg).2
  have otv := owns_bt h0.bt hts (fun g hg => by simp; exact (hn g hg).1)
  have otv' := otv.kept hg (by
    cases hsb : sv.ownBlock with
    | none => cases ts.ownBlock <;> simp
    | some g1 =>
      cases htb : ts.ownBlock with
      | none => exact .inl rfl
      | some g2 => refine .inr (fun e => ?_); cases e; have := tsq _ htb; have := hsv _ hsb; omega)
  have bt' : Bt [tk] w v' := ⟨hg.os.trans h0.bt.os, hg.tape.trans h0.bt.tape, hg.output.trans h0.bt.output, Nat.le_trans h0.bt.size hg.size, fun k hk hn => (hg.block k (Nat.lt_of_lt_of_le hk h0.bt.size) (fun e => by have := hsv k e.symm; have := h0.ws; omega)).trans (h0.bt.block k hk hn)⟩
  have tq := h0.tq
  rw [lx] at ho ⊢
  have e0 : decide (T.m < 0) = false := by simp
  refine ⟨task_set5 rowv', owns_set ho (p := ⟨tk, 5, none⟩) (fun g hg e => by have := (ho.lt g hg).1; have e : tk = g := e; omega) _, lx, fun j s x h1 h2 => ?_, hbv'.far (p := ⟨tk, 5, none⟩) tb _, owns_set otv' (p := ⟨tk, 5, none⟩) (fun g hg e => (hn g hg).1 e.symm) _, fun g hg => ⟨tsq g hg, hn g hg⟩, bt'.set (p := ⟨tk, 5, none⟩) (by simp) _, by have := hg.size; have := h0.ge; simp [World.setCell]; omega, ⟨tq, bq, tb⟩, h0.ws⟩
  obtain ⟨q0, q1, e, a0, a1, g0, g1⟩ := (h0.lk j s x h1 h2).grown hg ht
  exact ⟨q0, q1, e, a0.far (p := ⟨tk, 5, none⟩) (show tk ≠ q0 by omega) _, a1.far (p := ⟨tk, 5, none⟩) (show tk ≠ q1 by omega) _, g0, g1⟩
theorem BH.fin {ts' : Value} (H : BH w q b tk pu n h ts ds T tks sb c xs v) (ho : v'.ownsRow 0 132 1 ts' (tks.length + 1) (tks.map ptrV ++ [ptrV tk])) (hg : v.grownBy v' ts.ownBlock) (hs : ts'.ownBlock = ts.ownBlock ∨ ∀ g, ts'.ownBlock = some g → v.heap.size ≤ g) :
    BegP w q b tk pu n h ts ds tks.length T tks (v'.setCell ⟨b, 6, none⟩ ts') := by
  obtain ⟨tq, bq, tb⟩ := H.lt
  have hne : ∀ k, q ≤ k → ts.ownBlock ≠ some k := fun k hk e => by have := (H.tsq k e).1; omega
  have hne' : ∀ k, q ≤ k → k < v.heap.size → ts'.ownBlock ≠ some k := fun k hk hk2 e => by
    rcases hs with e2 | e2
    · exact hne k hk (by rw [← e2]; exact e)
    · have := e2 k e; omega
  have hbk : ∀ g, ts'.ownBlock = some g → b ≠ g := fun g hg => by
    rcases hs with e2 | e2
    · exact fun e => (H.tsq g (by rw [← e2]; exact hg)).2.2 e.symm
    · have := e2 g hg; have := H.ge; omega
  refine ⟨⟨sb, c, xs, ts', (row_grown hg H.row (fun e => (H.tsq tk e.symm).2.1 rfl)).far (p := ⟨b, 6, none⟩) (Ne.symm tb) _, owns_set (H.own.kept hg (by
    refine .inr (fun e => ?_)
    have h1 := (H.own.lt sb rfl).1
    exact hne sb h1 e.symm)) (p := ⟨b, 6, none⟩) (fun g hg e => by have := (H.own.lt g hg).1; have e : b = g := e; omega) _, H.len, fun j s x h1 h2 => ?_, ?_, ?_, ?_⟩, ?_⟩
  · obtain ⟨q0, q1, e, a0, a1, g0, g1⟩ := H.lk j s x h1 h2
    exact ⟨q0, q1, e, (row_grown hg a0 (fun e => hne q0 g0 e.symm)).far (p := ⟨b, 6, none⟩) (show b ≠ q0 by omega) _, (row_grown hg a1 (fun e => hne q1 g1 e.symm)).far (p := ⟨b, 6, none⟩) (show b ≠ q1 by omega) _, g0, g1, hne' q0 g0 a0.lt, hne' q1 g1 a1.lt⟩
  · have := (row_grown hg H.rb (fun e => (H.tsq b e.symm).2.2 rfl)).set 6 ts'
    exact this
  · have := owns_set ho (p := ⟨b, 6, none⟩) (fun g hg e => hbk g hg e) ts'
    simpa using this
  · rcases hs with e | e
    · exact .inl e
    · exact .inr fun g hg => Nat.le_trans H.ge (e g hg)
  · exact ((H.bt.mono (by simp)).trans (Bt.ofGrown hg (by intro g hg; simp [hg]))).set (p := ⟨b, 6, none⟩) (by simp) _
end
set_option maxRecDepth 100000 in
set_option maxHeartbeats 8000000 in
theorem begin_walk {b pu n : Nat} {h : Nat → Int} {g0 : Option Addr} {c0 : Nat} {ds : Value} {tks : List Nat} {w : World} (tk nb : Nat) (l : List Int) (T : Tsk) (row : M.RowAt w tk 136 (taskZ T.fr T.to T.am)) (rn : M.RowAt w nb 3 (i64s l)) (hb : M.RowAt w b 141 (bankR pu n h (.slice g0 tks.length c0) ds)) (hts : w.ownsRow 0 132 1 (.slice g0 tks.length c0) tks.length (tks.map ptrV))
    (tb : tk ≠ b) (tn : tk ≠ nb) (n1 : ∀ g, (Value.slice g0 tks.length c0).ownBlock = some g → g ≠ tk ∧ g ≠ b) (hneed : ∀ s, s < 4 → (T.need s = true ↔ (s : Int) ∈ l)) (hl : l.length ≤ 100) (h32 : tks.length < 32) :
    Calls Try.prog 72 #[.pointer (some ⟨b, 0, none⟩), ptrV tk, actV T tk, .slice (some ⟨nb, 0, none⟩) l.length l.length] w fun e w' => e = .returned (.tuple #[.int .i64 tks.length, .int .i64 0]) ∧ BegP w w.heap.size b tk pu n h (.slice g0 tks.length c0) ds tks.length T tks w' := by
  obtain ⟨q, hq⟩ : ∃ q, w.heap.size = q := ⟨_, rfl⟩
  rw [hq]
  have z6 : w.cell? ⟨b, 6, none⟩ = some (.slice g0 tks.length c0) := (hb.cell 6).trans rfl
  have z0 : w.cell? ⟨tk, 0, none⟩ = some (.pointer none) := (row.cell 0).trans rfl
  have z1 : w.cell? ⟨tk, 1, none⟩ = some (.int .i64 0) := (row.cell 1).trans rfl
  have f0 : w.frozen? ⟨tk, 0, none⟩ = false := row.frozen _
  have f1 : w.frozen? ⟨tk, 1, none⟩ = false := row.frozen _
  have bg0 := BG.start (b := b) row hq (tks.length : Nat)
  have d32 : decide ((32 : Int) ≤ ((tks.length : Nat) : Int)) = false := by simp; omega
  obtain ⟨i0, hi, hz0, hz1, hz2⟩ := info_parts info137
  obtain ⟨j0, hj, hy0, hy1, hy2⟩ := info_parts info132
  have con : ∀ v, Bt [tk] w v → ∀ k, k < 4 → _ := fun v hv k hk => contains_any nb l.length 3 l k (T.need k) (hneed k hk) hl v (hv.row rn (by simp; exact fun e => tn e.symm))
  have CON := Lib.hid con; have BG0 := Lib.hid bg0; have HQ := Lib.hid hq; have H32 := Lib.hid h32; have HB := Lib.hid hb; have HTS := Lib.hid hts; have HN := Lib.hid n1; have TB := Lib.hid tb
  have hmf := mkf
  clear con bg0 hq hb hts row rn n1 hneed hl tn tb h32
  obtain ⟨av, hav⟩ : ∃ av, actV T tk = av := ⟨_, rfl⟩
  have HAV := Lib.hid hav
  have av1 : ∃ a b c, av = .func a b c := ⟨_, _, _, hav.symm⟩
  obtain ⟨a1, a2, a3, rfl⟩ := av1
  rw [hav]
  clear hav
  go_enter Try.func72, Try.ntmps72
  go_wp2
  clear z0 z1 f0 f1 z6 d32
  go_loopg [29] 4 (fun mm i v => ∃ (k : Nat) (sv : Value) (xs : List Value), mm + k = 4 ∧ i = .int .i64 k ∧ BG w q b tk (tks.length : Nat) T.fr T.to T.am T k sv xs v)
  case atStart => exact ⟨0, _, _, rfl, rfl, BG0.out⟩
  case round =>
    clear BG0
    obtain ⟨k, sv, xs, hk, rfl, bg⟩ := hrel
    have HK := Lib.hid hk; have BGH := Lib.hid bg
    by_cases hlt : k < 4
    · have CN := Lib.hid (CON.out _ bg.bt k hlt)
      have i4 : ((k : Nat) : Int) < 4 := by omega
      clear bg hk
      cases hnd : T.need k
      · rw [hnd] at CN
        have nx := BGH.out
        have NX : BG w q b tk (tks.length : Nat) T.fr T.to T.am T (k + 1) sv xs wr := ⟨nx.row, nx.own, by rw [NK_no hnd]; exact nx.len, fun j s x h1 => nx.lk j s x (by rwa [NK_no hnd] at h1), nx.bt, nx.ge, nx.tq, nx.ws⟩
        have NX := Lib.hid NX
        clear nx hnd
        go_wp2_with fail
        refine (CN.out).mono ?_
        rintro e w2 ⟨rfl, rfl⟩
        go_wp2
        go_roundg (4 - (k + 1))
        case measure => have := HK.out; omega
        case rel => exact ⟨k + 1, sv, xs, by omega, by go_num, NX.out⟩
      · rw [hnd] at CN
        have HND := Lib.hid hnd
        clear hnd
        go_wp2_with fail
        refine (CN.out).mono ?_
        rintro e w2 ⟨rfl, rfl⟩
        clear CN
        go_wp2
        refine QC.wp_region_d [7, 8, 9, 12] [0, 1, 2, 3, 4, 5, 6, 7, 8, 9, 10, 11, 12] (by kernel_rfl) (by kernel_rfl) (fun u1 d1 => ?_)
        have BG1 := Lib.hid (BGH.out.dr d1)
        clear BGH d1
        obtain ⟨y0, y1⟩ := BG1.out.cell
        iterate 7
          (first
           | (apply QC.wpC_load
              (focus rfl)
              (focus decide)
              (focus rfl)
              (focus rfl)
              (focus rfl)
              (focus (assumption))
              (focus (intro u hu; go_simp))
              intro K hK
              go_simp
              refine hK _ ?_
              clear hK K)
           | (apply QC.wpC_pure
              (focus rfl)
              (focus decide)
              intro K hK
              go_simp
              first
               | (refine hK _ ?_; clear hK K)
               | (apply Exists.intro
                  refine ⟨fun u => ?_, hK _ ?_⟩
                  (focus (unfold QP.oat; go_simp; first | done | exact ⟨rfl, rfl⟩ | exact rfl))
                  clear hK K)))
        apply QC.wpC_eff
        (focus rfl)
        (focus decide)
        go_wp2_with fail
        refine (lock_new tk k u1).mono ?_
        rintro e u2 ⟨rfl, hu2⟩
        have r0 := (M.RowAt.new u1 132 #[ptrV tk]).alloc (.cells #[.int .i64 k] 3)
        have r1 := M.RowAt.new (u1.alloc (.cells #[ptrV tk] 132)) 3 #[.int .i64 k]
        have BG2 := Lib.hid ((BG1.out.alloc (.cells #[ptrV tk] 132)).alloc (.cells #[.int .i64 k] 3))
        have hge := BG1.out.ge
        obtain ⟨n0, hn0⟩ : ∃ n0, u1.heap.size = n0 := ⟨_, rfl⟩
        rw [World.size_alloc] at r1
        rw [hn0] at r0 r1 hge ⊢
        rw [← hu2] at r0 r1 BG2
        clear hu2 y0 y1 BG1 hn0
        have R0 := Lib.hid r0; have R1 := Lib.hid r1; have HGE := Lib.hid hge
        clear r0 r1 hge
        obtain ⟨y0, y1⟩ := BG2.out.cell
        go_wp2
        refine QC.eff_ok rfl ?_ ?_
        · (repeat (first | exact QC.obl_nil | refine QC.obl_is (by assumption) ?_ | (apply QC.obl_dep; (focus decide))))
        apply QC.wpC_eff
        (focus rfl)
        (focus decide)
        go_wp2
        have BG3 := Lib.hid (BG2.out.alloc (.cells #[(Value.func (Fn.func 86) #[] #[.pointer (some ⟨n0, 0, none⟩), .pointer (some ⟨n0 + 1, 0, none⟩)])] 137))
        have r3 := M.RowAt.new u2 137 #[(Value.func (Fn.func 86) #[] #[.pointer (some ⟨n0, 0, none⟩), .pointer (some ⟨n0 + 1, 0, none⟩)])]
        have R03 := Lib.hid (R0.out.alloc (.cells #[(Value.func (Fn.func 86) #[] #[.pointer (some ⟨n0, 0, none⟩), .pointer (some ⟨n0 + 1, 0, none⟩)])] 137)); have R13 := Lib.hid (R1.out.alloc (.cells #[(Value.func (Fn.func 86) #[] #[.pointer (some ⟨n0, 0, none⟩), .pointer (some ⟨n0 + 1, 0, none⟩)])] 137))
        obtain ⟨n2, hn2⟩ : ∃ n2, u2.heap.size = n2 := ⟨_, rfl⟩
        rw [hn2] at r3 ⊢
        have R3 := Lib.hid r3
        clear r3 y0 y1 BG2 R0 R1 hn2
        generalize u2.alloc (.cells #[(Value.func (Fn.func 86) #[] #[.pointer (some ⟨n0, 0, none⟩), .pointer (some ⟨n0 + 1, 0, none⟩)])] 137) = u3 at *
        obtain ⟨y0, y1⟩ := BG3.out.cell
        refine QC.eff_ok rfl ?_ ?_
        · (repeat (first | exact QC.obl_nil | refine QC.obl_is (by assumption) ?_ | (apply QC.obl_dep; (focus decide))))
        have XL : xs.length ≤ 4 := by
          have := BG3.out.len
          have h4 : (NK T k).length ≤ k := by unfold NK; exact Nat.le_trans (List.length_filter_le _ _) (by simp)
          omega
        apply QC.wpC_eff
        (focus rfl)
        (focus decide)
        refine wpList_append_sep2 _ rfl (.tmp 39) (.tmp 43) 134 rfl q 137 i0 _ 1 8 Try.underlying134 hi hz0 hz1 hz2 rfl (by decide) sv xs.length _ ?a1 BG3.out.own ⟨n2, 0, none⟩ 1 1 [(Value.func (Fn.func 86) #[] #[.pointer (some ⟨n0, 0, none⟩), .pointer (some ⟨n0 + 1, 0, none⟩)])] ?a2 rfl ?a3 ?a4 (by decide) ?a5 ?a6 BG3.out.ge ?_
        case a1 => rfl
        case a2 => rfl
        case a3 => intro j x hx; rw [Addr.add_mid, R3.out.cell, Nat.zero_add]; simpa using hx
        case a4 => intro x hx; simp at hx; subst hx; rfl
        case a5 => unfold maxLen; omega
        case a6 => omega
        intro sv' u4 ho hg hs
        obtain ⟨g', cap', rfl⟩ : ∃ g' cap', sv' = .slice (some ⟨g', 0, none⟩) (xs.length + 1) cap' := by
          rcases ho.2 with ⟨_, h2⟩ | ⟨g, cc, cur, h2, _⟩
          · omega
          · exact ⟨g, cc, h2⟩
        have NX := Lib.hid (BG3.out.push HND.out R03.out R13.out HGE.out ho hg)
        have rw4 := row_grown hg BG3.out.row (fun e => BG3.out.own_ne tk e.symm rfl)
        have z0 : u4.cell? ⟨tk, 5, none⟩ = some sv := (rw4.cell 5).trans rfl
        have z1 : u4.frozen? ⟨tk, 5, none⟩ = false := rw4.frozen _
        refine wpList_nil ?_
        refine QC.eff_ok rfl ?_ ?_
        · (repeat (first | exact QC.obl_nil | refine QC.obl_is (by assumption) ?_ | (apply QC.obl_dep; (focus decide))))
        clear y0 y1 ho hg hs rw4 BG3 R3 R03 R13 XL HGE
        iterate 2
          (first
           | (apply QC.wpC_load
              (focus rfl)
              (focus decide)
              (focus rfl)
              (focus rfl)
              (focus rfl)
              (focus (assumption))
              (focus (intro u hu; go_simp))
              intro K hK
              go_simp
              refine hK _ ?_
              clear hK K)
           | (apply QC.wpC_pure
              (focus rfl)
              (focus decide)
              intro K hK
              go_simp
              first
               | (refine hK _ ?_; clear hK K)
               | (apply Exists.intro
                  refine ⟨fun u => ?_, hK _ ?_⟩
                  (focus (unfold QP.oat; go_simp; first | done | exact ⟨rfl, rfl⟩ | exact rfl))
                  clear hK K)))
        apply QC.wpC_eff
        (focus rfl)
        (focus decide)
        go_wp2
        refine QC.eff_ok rfl ?_ (QC.wpC_nil ?_)
        · (repeat (first | exact QC.obl_nil | refine QC.obl_is (by assumption) ?_ | (apply QC.obl_dep; (focus decide))))
        clear z0 z1
        go_wp2
        go_roundg (4 - (k + 1))
        case measure => have := HK.out; omega
        case rel => exact ⟨k + 1, _, _, by omega, by go_num, NX.out⟩
    · obtain rfl : k = 4 := by omega
      clear hk bg hlt
      obtain ⟨n5, hn5⟩ : ∃ n5, wr.heap.size = n5 := ⟨_, rfl⟩
      obtain ⟨V5, hV5⟩ : ∃ V5, wr.alloc (.cells #[.func a1 a2 a3, freeV tk] 137) = V5 := ⟨_, rfl⟩
      have r5 := M.RowAt.new wr 137 #[.func a1 a2 a3, freeV tk]
      have BG5 := Lib.hid (BGH.out.alloc (.cells #[.func a1 a2 a3, freeV tk] 137))
      obtain ⟨y0, y1⟩ := BGH.out.cell
      have y2 : wr.cell? ⟨tk, 0, none⟩ = some (ptrV b) := (BGH.out.row.cell 0).trans rfl
      rw [hV5] at r5 BG5
      rw [hn5] at r5
      have R5 := Lib.hid r5; have HN5 := Lib.hid hn5; have HV5 := Lib.hid hV5
      have XL : xs.length ≤ 4 := by have := BG5.out.len; have := T.m4; rw [NK4] at *; unfold Tsk.m at *; omega
      clear r5 hn5 hV5 BGH
      unfold freeV at HV5
      go_wp2_with (first | (rw [HN5.out, HV5.out]) | (at_builtin; refine wpList_append_sep2 _ rfl (.tmp 52) (.tmp 56) 134 rfl q 137 i0 _ 1 8 Try.underlying134 hi hz0 hz1 hz2 rfl (by decide) sv xs.length _ ?a1 BG5.out.own ⟨n5, 0, none⟩ 2 2 [.func a1 a2 a3, freeV tk] ?a2 rfl ?a3 ?a4 (by decide) ?a5 ?a6 BG5.out.ge ?_))
      case a1 => rfl
      case a2 => rfl
      case a3 =>
        intro j x hx
        rw [Addr.add_mid, R5.out.cell, Nat.zero_add]
        simpa using hx
      case a4 =>
        intro x hx
        simp at hx
        rcases hx with rfl | rfl <;> rfl
      case a5 => unfold maxLen; omega
      case a6 => omega
      intro sv2 u6 ho hg hs
      obtain ⟨sb, c, rfl⟩ : ∃ sb c, sv2 = .slice (some ⟨sb, 0, none⟩) (xs.length + 2) c := by
        rcases ho.2 with ⟨_, h2⟩ | ⟨g, cc, cur, h2, _⟩
        · omega
        · exact ⟨g, cc, h2⟩
      have rw6 := row_grown hg BG5.out.row (fun e => BG5.out.own_ne tk e.symm rfl)
      have z0 : u6.cell? ⟨tk, 5, none⟩ = some sv := (rw6.cell 5).trans rfl
      have z1 : u6.frozen? ⟨tk, 5, none⟩ = false := rw6.frozen _
      have bh := BG.done (sv := sv) BG5.out HB.out HTS.out HN.out TB.out (by rw [← HAV.out] at ho; exact ho) hg
      have BH7 := Lib.hid bh
      obtain ⟨V7, hV7⟩ : ∃ V7, u6.setCell ⟨tk, 5, none⟩ (.slice (some ⟨sb, 0, none⟩) (xs.length + 2) c) = V7 := ⟨_, rfl⟩
      rw [hV7] at BH7
      have z2 : V7.cell? ⟨b, 6, none⟩ = some (.slice g0 tks.length c0) := (BH7.out.rb.cell 6).trans rfl
      obtain ⟨n7, hn7⟩ : ∃ n7, V7.heap.size = n7 := ⟨_, rfl⟩
      obtain ⟨V8, hV8⟩ : ∃ V8, V7.alloc (.cells #[ptrV tk] 132) = V8 := ⟨_, rfl⟩
      have r8 := M.RowAt.new V7 132 #[ptrV tk]
      have BH8 := Lib.hid (BH7.out.alloc (.cells #[ptrV tk] 132))
      rw [hV8] at r8 BH8
      rw [hn7] at r8
      have R8 := Lib.hid r8; have HN7 := Lib.hid hn7; have HV7 := Lib.hid hV7; have HV8 := Lib.hid hV8
      clear y0 y1 y2 ho hg hs rw6 bh hV7 hn7 hV8 r8 BG5 R5 HN5 HV5 BH7
      go_wp2_with (first | (rw [HV7.out]) | (rw [HN7.out, HV8.out]) | (at_builtin; refine wpList_append_sep2 _ rfl (.tmp 64) (.tmp 66) 139 rfl 0 132 j0 _ 1 8 Try.underlying139 hj hy0 hy1 hy2 rfl (by decide) (.slice g0 tks.length c0) tks.length _ ?b1 BH8.out.ots ⟨n7, 0, none⟩ 1 1 [ptrV tk] ?b2 rfl ?b3 ?b4 (by decide) ?b5 ?b6 (Nat.zero_le _) ?_))
      case b1 => rfl
      case b2 => rfl
      case b3 =>
        intro j x hx
        rw [Addr.add_mid, R8.out.cell, Nat.zero_add]
        simpa using hx
      case b4 =>
        intro x hx
        simp at hx
        subst hx; rfl
      case b5 => have := H32.out; unfold maxLen; omega
      case b6 => have := H32.out; omega
      intro ts' u9 ho hg hs
      obtain ⟨g9, c9, rfl⟩ : ∃ g9 c9, ts' = .slice (some ⟨g9, 0, none⟩) (tks.length + 1) c9 := by
        rcases ho.2 with ⟨_, h2⟩ | ⟨g, cc, cur, h2, _⟩
        · omega
        · exact ⟨g, cc, h2⟩
      have rb9 := row_grown hg BH8.out.rb (fun e => (BH8.out.tsq b e.symm).2.2 rfl)
      have rt9 := row_grown hg BH8.out.row (fun e => (BH8.out.tsq tk e.symm).2.1 rfl)
      have z3 : u9.cell? ⟨b, 6, none⟩ = some (.slice g0 tks.length c0) := (rb9.cell 6).trans rfl
      have z4 : u9.frozen? ⟨b, 6, none⟩ = false := rb9.frozen _
      have z5 : (u9.setCell ⟨b, 6, none⟩ (.slice (some ⟨g9, 0, none⟩) (tks.length + 1) c9)).cell? ⟨tk, 1, none⟩ = some (.int .i64 (tks.length : Nat)) := ((rt9.far (p := ⟨b, 6, none⟩) (Ne.symm TB.out) _).cell 1).trans rfl
      have fin := Lib.hid (BH8.out.fin ho hg hs)
      clear ho hg hs rb9 rt9 BH8 R8 z0 z1 z2 HV7 HN7 HV8
      go_wp2
      go_ret2
      exact ⟨rfl, fin.out⟩
end Go.Proofs.Ytnnnbgndbmcffaa
