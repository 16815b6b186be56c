/- The reference's bank, and ShardActs; the conditions are that the rows are known. -/
import Derived.Test.YtnnnbgndbmcffaaTaO
import Derived.Test.YtnnnbgndbmcffaaFork
import Derived.Deep.Upon
namespace Go.Proofs.Ytnnnbgndbmcffaa
open Go.RowKit
set_option linter.unusedVariables false

theorem needs_sorted (T : Tsk) : T.needs.Pairwise (· < ·) := List.Pairwise.filter _ (by decide)
theorem needs_mem {T : Tsk} {s : Nat} : s ∈ T.needs ↔ s < 4 ∧ T.need s = true := by
  unfold Tsk.needs
  rw [List.mem_filter]
  refine ⟨fun h => ⟨by have := h.1; simp at this; omega, h.2⟩, fun h => ⟨?_, h.2⟩⟩
  have h1 := h.1
  simp; omega
theorem held_iff {S : BS} (ok : S.Ok) {i : Nat} {T : Tsk} (hT : S.tl[i]? = some T) (hk : T.k < T.m + 2) {s : Nat} (hs : s < 4) : S.h s = (i : Int) ↔ s ∈ T.needs.take T.k := by
  rw [ok.hd s hs i]
  constructor
  · rintro ⟨T', hT', _, h⟩
    rw [hT] at hT'; cases hT'; exact h
  · exact fun h => ⟨T, hT, by omega, h⟩
theorem at_take {l : List Nat} (hp : l.Pairwise (· < ·)) {k : Nat} (hk : k < l.length) : l[k] ∉ l.take k := fun h => by
  obtain ⟨j, hj, e⟩ := List.mem_take_iff_getElem.1 h
  have hj' : j < k := by omega
  have := List.pairwise_iff_getElem.1 hp j k (by omega) hk hj'
  omega
/-- the first shard that is needed and not held is the next of the task's locks -/
theorem first_need {S : BS} (ok : S.Ok) {i : Nat} {T : Tsk} (hT : S.tl[i]? = some T) (hk : T.k < T.m + 2) {s : Nat} (hs : s < 4) (hb : ∀ s', s' < s → T.need s' = true → S.h s' = (i : Int)) (hn : T.need s = true) (hh : S.h s ≠ (i : Int)) : T.needs[T.k]? = some s := by
  have hnot : s ∉ T.needs.take T.k := fun h => hh ((held_iff ok hT hk hs).2 h)
  have hmem : s ∈ T.needs := needs_mem.2 ⟨hs, hn⟩
  obtain ⟨j, hj, e⟩ := List.mem_iff_getElem.1 hmem
  have hkj : T.k ≤ j := by
    refine Nat.le_of_not_lt fun hlt => hnot ?_
    exact List.mem_take_iff_getElem.2 ⟨j, by omega, e⟩
  by_cases hjk : j = T.k
  · rw [← hjk, List.getElem?_eq_getElem hj, e]
  · exfalso
    have hlt := List.pairwise_iff_getElem.1 (needs_sorted T) T.k j (by omega) hj (by omega)
    have h4 := needs_mem.1 (List.getElem_mem (show T.k < T.needs.length by omega))
    have := hb _ (by omega) h4.2
    exact at_take (needs_sorted T) (by omega) ((held_iff ok hT hk h4.1).1 this)
theorem all_held {S : BS} (ok : S.Ok) {i : Nat} {T : Tsk} (hT : S.tl[i]? = some T) (hk : T.k < T.m + 2) (hb : ∀ s', s' < 4 → T.need s' = true → S.h s' = (i : Int)) : T.m ≤ T.k := by
  refine Nat.le_of_not_lt fun hlt => ?_
  have h4 := needs_mem.1 (List.getElem_mem (show T.k < T.needs.length from hlt))
  exact at_take (needs_sorted T) hlt ((held_iff ok hT hk h4.1).1 (hb _ h4.1 h4.2))
/-- what Step answers, case by case -/
theorem rstep_neg (S : BS) {id : Int} (h : id < 0) : S.step id = (S, 3) := by unfold BS.step; rw [if_neg (by omega)]
theorem rstep_out (S : BS) {id : Nat} (h : S.tl.length ≤ id) : S.step (id : Int) = (S, 3) := by
  unfold BS.step
  rw [if_pos (by omega), Int.toNat_natCast, List.getElem?_eq_none h]
theorem rstep_at {S : BS} {i : Nat} {T : Tsk} (hT : S.tl[i]? = some T) : S.step (i : Int) = S.stepT i T := by
  unfold BS.step
  rw [if_pos (by omega), Int.toNat_natCast, hT]
theorem rstep_over {S : BS} {i : Nat} {T : Tsk} (hT : S.tl[i]? = some T) (hk : T.m + 2 ≤ T.k) : S.step (i : Int) = (S, 3) := by
  rw [rstep_at hT]
  unfold BS.stepT
  rw [List.getElem?_eq_none (show T.needs.length ≤ T.k by show T.m ≤ T.k; omega)]
  simp only
  rw [if_neg (by omega), if_neg (by omega)]
theorem rstep_lock {S : BS} {i : Nat} {T : Tsk} (hT : S.tl[i]? = some T) {s : Nat} (hs : T.needs[T.k]? = some s) (hh : S.h s = -1) : S.step (i : Int) = ({ S with h := upF S.h s i, tl := S.tl.set i T.next }, 0) := by
  rw [rstep_at hT]
  unfold BS.stepT
  rw [hs]; simp only; rw [if_pos hh]
theorem rstep_wait {S : BS} {i : Nat} {T : Tsk} (hT : S.tl[i]? = some T) {s : Nat} (hs : T.needs[T.k]? = some s) (hh : S.h s ≠ -1) : S.step (i : Int) = (S, 100) := by
  rw [rstep_at hT]
  unfold BS.stepT
  rw [hs]; simp only; rw [if_neg hh]
theorem rstep_act {S : BS} {i : Nat} {T : Tsk} (hT : S.tl[i]? = some T) (hk : T.k = T.m) : S.step (i : Int) = (S.act i T, 0) := by
  rw [rstep_at hT]
  unfold BS.stepT
  rw [List.getElem?_eq_none (show T.needs.length ≤ T.k by show T.m ≤ T.k; omega)]
  simp only
  rw [if_pos hk]
theorem rstep_free {S : BS} {i : Nat} {T : Tsk} (hT : S.tl[i]? = some T) (hk : T.k = T.m + 1) : S.step (i : Int) = ({ S with h := fun s => if S.h s = (i : Int) then -1 else S.h s, tl := S.tl.set i T.next }, 0) := by
  rw [rstep_at hT]
  unfold BS.stepT
  rw [List.getElem?_eq_none (show T.needs.length ≤ T.k by show T.m ≤ T.k; omega)]
  simp only
  rw [if_neg (by omega), if_pos hk]
/-- a task of the reference's -/
def tcells (T : Tsk) (u : Value) : List Value :=
  [.int .i64 T.fr, .int .i64 T.to, .int .u64 T.am, .bool (T.need 0), .bool (T.need 1), .bool (T.need 2), .bool (T.need 3), .bool T.lists, .bool (decide (T.m < T.k)), .bool (decide (T.m + 2 ≤ T.k)), .int .i64 T.er, u]
def flatT : List Tsk → List Value → List Value
  | T :: r, u :: q => tcells T u ++ flatT r q
  | _, _ => []
theorem flatT_len : ∀ (tl : List Tsk) (us : List Value), us.length = tl.length → (flatT tl us).length = tl.length * 12
  | [], [], _ => rfl
  | T :: r, u :: q, h => by
    have := flatT_len r q (by simpa using h)
    show (tcells T u ++ flatT r q).length = _
    rw [List.length_append, this, List.length_cons]
    show 12 + _ = _; omega
  | [], _ :: _, h => by cases h
  | _ :: _, [], h => by cases h
theorem flatT_at : ∀ (tl : List Tsk) (us : List Value) (i : Nat) (T : Tsk) (u : Value), tl[i]? = some T → us[i]? = some u → ∀ j, j < 12 → (flatT tl us)[i * 12 + j]? = (tcells T u)[j]?
  | [], _, i, T, u, h, _, j, _ => by simp at h
  | _ :: _, [], i, T, u, _, h, j, _ => by simp at h
  | X :: r, y :: q, 0, T, u, h1, h2, j, hj => by
    simp at h1 h2; subst h1; subst h2
    show (tcells X y ++ flatT r q)[0 * 12 + j]? = _
    rw [Nat.zero_mul, Nat.zero_add, List.getElem?_append_left hj]
  | X :: r, y :: q, i + 1, T, u, h1, h2, j, hj => by
    have := flatT_at r q i T u (by simpa using h1) (by simpa using h2) j hj
    show (tcells X y ++ flatT r q)[(i + 1) * 12 + j]? = _
    rw [List.getElem?_append_right (show (tcells X y).length ≤ (i + 1) * 12 + j by show 12 ≤ _; omega), ← this]
    congr 1
    show (i + 1) * 12 + j - 12 = _
    omega
theorem flatT_snoc : ∀ (tl : List Tsk) (us : List Value) (T : Tsk) (u : Value), us.length = tl.length → flatT (tl ++ [T]) (us ++ [u]) = flatT tl us ++ tcells T u
  | [], [], T, u, _ => by show tcells T u ++ flatT [] [] = _; simp [flatT]
  | X :: r, y :: q, T, u, h => by
    have := flatT_snoc r q T u (by simpa using h)
    show tcells X y ++ flatT (r ++ [T]) (q ++ [u]) = (tcells X y ++ flatT r q) ++ tcells T u
    rw [this, List.append_assoc]
  | [], _ :: _, _, _, h => by cases h
  | _ :: _, [], _, _, h => by cases h
theorem flatT_set : ∀ (tl : List Tsk) (us : List Value) (i : Nat) (T : Tsk) (u : Value) (T' : Tsk) (u' x : Value) (j : Nat), tl[i]? = some T → us[i]? = some u → j < 12 → tcells T' u' = (tcells T u).set j x → (flatT tl us).set (i * 12 + j) x = flatT (tl.set i T') (us.set i u')
  | [], _, i, T, u, _, _, _, j, h, _, _, _ => by simp at h
  | _ :: _, [], i, T, u, _, _, _, j, _, h, _, _ => by simp at h
  | X :: r, y :: q, 0, T, u, T', u', x, j, h1, h2, hj, e => by
    simp at h1 h2; subst h1; subst h2
    show (tcells X y ++ flatT r q).set (0 * 12 + j) x = tcells T' u' ++ flatT r q
    rw [Nat.zero_mul, Nat.zero_add, List.set_append_left _ _ hj, e]
  | X :: r, y :: q, i + 1, T, u, T', u', x, j, h1, h2, hj, e => by
    have := flatT_set r q i T u T' u' x j (by simpa using h1) (by simpa using h2) hj e
    show (tcells X y ++ flatT r q).set ((i + 1) * 12 + j) x = tcells X y ++ flatT (r.set i T') (q.set i u')
    rw [List.set_append_right _ _ (show (tcells X y).length ≤ (i + 1) * 12 + j by show 12 ≤ _; omega), ← this]
    congr 2
    show (i + 1) * 12 + j - 12 = _
    omega
theorem flatT_same : ∀ (tl : List Tsk) (us : List Value) (i : Nat) (T T' : Tsk), tl[i]? = some T → (∀ u, tcells T' u = tcells T u) → flatT (tl.set i T') us = flatT tl us
  | [], _, i, T, _, h, _ => by simp at h
  | _ :: _, [], 0, T, _, _, _ => rfl
  | _ :: _, [], _ + 1, T, _, _, _ => rfl
  | X :: r, y :: q, 0, T, T', h, e => by
    simp at h; subst h
    show tcells T' y ++ flatT r q = tcells X y ++ flatT r q
    rw [e]
  | X :: r, y :: q, i + 1, T, T', h, e => by
    show tcells X y ++ flatT (r.set i T') q = tcells X y ++ flatT r q
    rw [flatT_same r q i T T' (by simpa using h) e]
theorem tcells_one (T : Tsk) (u : Value) (hu : u.oneCell' = true) : ∀ x ∈ tcells T u, x.oneCell' = true := fun x hx => by
  unfold tcells at hx
  simp only [List.mem_cons, List.not_mem_nil, or_false] at hx
  rcases hx with rfl | rfl | rfl | rfl | rfl | rfl | rfl | rfl | rfl | rfl | rfl | rfl
  all_goals first | exact hu | rfl
/-- the reference's bank -/
def RC (s tv : Value) (h : Nat → Int) (dv : Value) : Array Value := (s :: (Zs ++ [tv, .int .i64 (h 0), .int .i64 (h 1), .int .i64 (h 2), .int .i64 (h 3), dv])).toArray
section
variable (s tv dv x : Value) (h : Nat → Int)
theorem RC_size : (RC s tv h dv).size = 71 := by rw [RC, List.size_toArray]; rfl
theorem RC_0 : (RC s tv h dv)[0]? = some s := rfl
theorem RC_T : (RC s tv h dv)[65]? = some tv := rfl
theorem RC_D : (RC s tv h dv)[70]? = some dv := rfl
theorem RC_h {i : Nat} (hi : i < 4) : (RC s tv h dv)[66 + i]? = some (.int .i64 (h i)) := by
  match i, hi with
  | 0, _ => rfl
  | 1, _ => rfl
  | 2, _ => rfl
  | 3, _ => rfl
theorem RC_setT : (RC s tv h dv).setIfInBounds 65 x = RC s x h dv := by unfold RC; rw [List.setIfInBounds_toArray]; rfl
theorem RC_setD : (RC s tv h dv).setIfInBounds 70 x = RC s tv h x := by unfold RC; rw [List.setIfInBounds_toArray]; rfl
theorem RC_seth {i : Nat} (hi : i < 4) (y : Int) : (RC s tv h dv).setIfInBounds (66 + i) (.int .i64 y) = RC s tv (upF h i y) dv := by
  match i, hi with
  | 0, _ => unfold RC; rw [List.setIfInBounds_toArray]; rfl
  | 1, _ => unfold RC; rw [List.setIfInBounds_toArray]; rfl
  | 2, _ => unfold RC; rw [List.setIfInBounds_toArray]; rfl
  | 3, _ => unfold RC; rw [List.setIfInBounds_toArray]; rfl
theorem RC_P : (RC s tv h dv).extract 0 65 = PV s := by unfold RC PV; rw [List.extract_toArray]; rfl
theorem info96 : (Try.prog.info? 96).map (·.size) = some (RC s tv h dv).size := by rw [RC_size]; kernel_rfl
theorem zero96 : Try.zeroCells96.size = (RC s tv h dv).size := by rw [RC_size]; decide
theorem RC_one (hs : s.oneCell' = true) (ht : tv.oneCell' = true) (hd : dv.oneCell' = true) : (RC s tv h dv).all (·.oneCell') = true := by
  unfold RC
  rw [List.all_toArray, List.all_cons, List.all_append, hs, Zs_one]
  simp only [List.all_cons, List.all_nil, ht, hd]; rfl
end
end Go.Proofs.Ytnnnbgndbmcffaa
namespace Go.Proofs.Ytnnnbgndbmcffaa
open Go.RowKit
set_option linter.unusedVariables false

theorem wpList_append_nothing {P : Program} (w : World) {ops : Array Oper} {rest : List Oper} {o : Oper} {a : Act} {Q : Exit → Act → World → Prop}
    (hg : o.guard = none) (s x : Operand) (t : TypeId) (hop : o.op = Op.call { callee := Callee.builtin Builtin.append, args := #[s, x], argTypes := #[t, t] })
    (e : TypeId) (i : TypeInfo) (h1 : P.underlying t = some (.slice e)) (h2 : P.info? e = some i)
    (ad : Addr) (k c c2 : Nat) (hk : k ≤ c) (hs : a.eval s = .slice (some ad) k c) (hx : a.eval x = .slice none 0 c2)
    (hK : wpList P ops Q rest (a.put o.dst (.slice (some ad) k c)) w) : wpList P ops Q (o :: rest) a w := by
  refine wpList_plain hg fun K hK' => ?_
  have hrun := run_append_nothing (P := P) w t t o.type e i h1 h2 (some ad) k c hk (.slice none 0 c2) (Src.ofNil w h1 c2)
  unfold Oper.wp
  simp [execOp, hop, resolve, invoke, builtin, hs, hx, hrun, Result.andThen]
  exact hK' _ _ hK
/-- a copy: append(fresh, old...) -/
theorem wpList_append_copy {P : Program} (w : World) {ops : Array Oper} {rest : List Oper} {o : Oper} {a : Act} {Q : Exit → Act → World → Prop}
    (hg : o.guard = none) (s x : Operand) (t : TypeId) (hop : o.op = Op.call { callee := Callee.builtin Builtin.append, args := #[s, x], argTypes := #[t, t] })
    (base : Nat) (e : TypeId) (i : TypeInfo) (z : Value) (size bytes : Nat) (h1 : P.underlying t = some (.slice e)) (h2 : P.info? e = some i) (h3 : i.zero = some z) (h4 : i.size = size) (h5 : i.bytes = bytes) (h6 : z.cells.size = size) (h7 : 0 < size)
    (g : Nat) (hs : a.eval s = .slice (some ⟨g, 0, none⟩) 0 0) (hown : w.ownsRow base e size (.slice (some ⟨g, 0, none⟩) 0 0) 0 [])
    (base2 : Nat) (u : Value) (n : Nat) (xs : List Value) (hx : a.eval x = u) (hu : w.ownsRow base2 e size u n xs) (h1c : ∀ u ∈ xs, u.oneCell' = true)
    (b1 : n ≤ maxLen) (b2 : n * bytes ≤ 140737488355328) (hbase : base ≤ w.heap.size)
    (hK : ∀ a' c' w', w'.ownsRow base e size (.slice (some ⟨a', 0, none⟩) n c') n xs → w.grownBy w' (some g) → (a' = g ∨ w.heap.size ≤ a') → wpList P ops Q rest (a.put o.dst (.slice (some ⟨a', 0, none⟩) n c')) w') :
    wpList P ops Q (o :: rest) a w := by
  rcases hu.2 with ⟨rfl, rfl⟩ | ⟨g2, cap, cur, rfl, _⟩
  · have hx0 : xs = [] := List.length_eq_zero_iff.1 (by have := hu.1; omega)
    subst hx0
    exact wpList_append_nothing w hg s x t hop e i h1 h2 _ 0 0 _ (Nat.le_refl _) hs hx (hK g 0 w hown ⟨rfl, rfl, rfl, Nat.le_refl _, fun _ _ _ => rfl⟩ (.inl rfl))
  · by_cases hn : n = 0
    · subst hn
      have hx0 : xs = [] := List.length_eq_zero_iff.1 (by have := hu.1; omega)
      subst hx0
      refine wpList_append_fits w hg s x t hop base e i size h1 h2 h4 g 0 0 [] hs hown _ 0 cap [] hx (by simp) (by simp) (by simp) (Nat.le_refl _) (fun w' q1 q2 => ?_)
      exact hK g 0 w' q1 q2 (.inl rfl)
    · refine wpList_append_sep w hg s x t hop base e i z size bytes h1 h2 h3 h4 h5 h6 h7 g 0 0 [] hs hown _ n cap xs hx hu.1 (fun j v hv => hu.cells rfl j v hv) h1c (by omega) (by omega) (by simpa using b2) hbase (fun g' cap' w' q1 q2 q3 => ?_)
      simp only [Nat.zero_add, List.nil_append] at q1 ⊢
      exact hK g' cap' w' q1 q2 q3
def OwT (v : Value) (tl : List Tsk) (us : List Value) : Ow := ⟨107, 12, v, tl.length, flatT tl us⟩
def ToldO (O : List Ow) (T : Tsk) (u : Value) : Prop := ∃ a c, u = .slice a T.told.length c ∧ (⟨23, 1, u, T.told.length, T.told.map (Value.int .u64)⟩ : Ow) ∈ O
/-- a bank of the reference's -/
structure RBO (O : List Ow) (S : BS) (s tv dv : Value) : Prop where
  sf : ∃ a c, s = .slice a S.n c
  tf : ∃ a c, tv = .slice a S.tl.length c
  df : ∃ a c, dv = .slice a S.dn.length c
  bal : OwP s S.n S.f ∈ O
  dn : OwV dv S.dn ∈ O
  ts : ∃ us : List Value, us.length = S.tl.length ∧ OwT tv S.tl us ∈ O ∧ ∀ (i : Nat) (T : Tsk) (u : Value), S.tl[i]? = some T → us[i]? = some u → ToldO O T u
  ty : ∀ o ∈ O, o.t = 23 ∨ o.t = 3 ∨ o.t = 107
section
variable {n : Nat} {w0 v v' : World} {b : Nat} {S : BS} {L : List (Nat × TypeId × Array Value)} {O : List Ow}
/-- one of the law's own rows was written -/
theorem LW.but {g : Nat} {t : TypeId} {cs cs' : Array Value} (h : LW n w0 b S ((g, t, cs) :: L) O v) (hb : M.But g v v') (hr : M.RowAt v' g t cs') (hL : ∀ x ∈ L, x.1 ≠ g) (hO : ∀ o ∈ O, o.t ≠ t) : LW n w0 b S ((g, t, cs') :: L) O v' := by
  have hrow := h.rows _ List.mem_cons_self
  have hap : ∀ o ∈ O, some g ≠ o.v.ownBlock := fun o ho => types_apart hrow (h.owns o ho) (fun e => hO o ho e.symm)
  obtain ⟨⟨rk, a, c, d, e⟩, r, rg, ow, bl, ge⟩ := h
  have hg := rg (g, t, cs) List.mem_cons_self
  refine ⟨⟨rk, a.foreign (Chg.ofBut hb (d (g, t, cs) List.mem_cons_self)), c, fun x hx => ?_, e⟩, fun x hx => ?_, fun x hx => ?_, fun o ho => (ow o ho).kept (but_grown hb) (.inr fun e => hap o ho e.symm), hb.below bl hg ge, Nat.le_trans ge hb.size⟩
  · rcases List.mem_cons.1 hx with e1 | e1
    · subst e1; exact d (g, t, cs) List.mem_cons_self
    · exact d x (List.mem_cons_of_mem _ e1)
  · rcases List.mem_cons.1 hx with e1 | e1
    · subst e1; exact hr
    · exact hb.row (r x (List.mem_cons_of_mem _ e1)) (hL x e1)
  · rcases List.mem_cons.1 hx with e1 | e1
    · subst e1; exact hg
    · exact rg x (List.mem_cons_of_mem _ e1)
/-- a cell of a row of the law's own -/
theorem LW.setCell {g : Nat} {t : TypeId} {cs : Array Value} (h : LW n w0 b S ((g, t, cs) :: L) O v) (j : Nat) (x : Value) (hL : ∀ x ∈ L, x.1 ≠ g) (hO : ∀ o ∈ O, o.t ≠ t) : LW n w0 b S ((g, t, cs.setIfInBounds j x) :: L) O (v.setCell ⟨g, j, none⟩ x) :=
  h.but ((M.But.refl g v).set (.inl rfl) x) ((h.rows _ List.mem_cons_self).set j x) hL hO
/-- a cell of a slice of the law's own -/
theorem LW.poke {t : TypeId} {sz k g c : Nat} {xs : List Value} (h : LW n w0 b S L (⟨t, sz, .slice (some ⟨g, 0, none⟩) k c, k, xs⟩ :: O) v) (j : Nat) (x : Value) (hL : ∀ x ∈ L, x.2.1 ≠ t) (hO : ∀ o ∈ O, o.t ≠ t) :
    LW n w0 b S L (⟨t, sz, .slice (some ⟨g, 0, none⟩) k c, k, xs.set j x⟩ :: O) (v.setCell ⟨g, j, none⟩ x) := by
  have ho := h.owns _ List.mem_cons_self
  obtain ⟨h1, h2⟩ := ho.stored j x
  refine h.grow h1 h2 (.inl rfl) (fun y hy => ?_) (fun o2 ho2 => types_apart2 (h.owns o2 (List.mem_cons_of_mem _ ho2)) ho (hO o2 ho2))
  exact types_apart (h.rows y hy) ho (hL y hy)
end
end Go.Proofs.Ytnnnbgndbmcffaa
namespace Go.Proofs.Ytnnnbgndbmcffaa
open Go.RowKit
set_option linter.unusedVariables false

/-- what the reference leaves where a task may begin -/
def RBeg (n : Nat) (w0 : World) (b : Nat) (S0 : BS) (L : List (Nat × TypeId × Array Value)) (s dv : Value) (r : BS × Int × Int) (e : Ending) (w' : World) : Prop :=
  ∃ tv' O', e = .returned (.tuple #[.agg (RC s tv' r.1.h dv), .int .i64 r.2.1, .int .i64 r.2.2]) ∧ LW n w0 b S0 L O' w' ∧ RBO O' r.1 s tv' dv
theorem info107y (T : Tsk) (u : Value) : (Try.prog.info? 107).map (·.size) = some (tcells T u).toArray.size := by kernel_rfl
theorem info107 : (Try.prog.info? 107).map (fun i => (i.zero, i.size, i.bytes)) = some (some (.agg #[.int .i64 0, .int .i64 0, .int .u64 0, .bool false, .bool false, .bool false, .bool false, .bool false, .bool false, .bool false, .int .i64 0, .slice none 0 0]), 12, 64) := by kernel_rfl
theorem flatT_one : ∀ (tl : List Tsk) (us : List Value), (∀ u ∈ us, u.oneCell' = true) → ∀ x ∈ flatT tl us, x.oneCell' = true
  | [], _, _, x, hx => by cases hx
  | _ :: _, [], _, x, hx => by cases hx
  | T :: r, u :: q, h, x, hx => by
    rcases List.mem_append.1 (show x ∈ tcells T u ++ flatT r q from hx) with e | e
    · exact tcells_one T u (h u List.mem_cons_self) x e
    · exact flatT_one r q (fun y hy => h y (List.mem_cons_of_mem _ hy)) x e
theorem RBO.ones {O : List Ow} {S : BS} {s tv dv : Value} (h : RBO O S s tv dv) : (RC s tv S.h dv).all (·.oneCell') = true := by
  obtain ⟨_, _, e1⟩ := h.sf
  obtain ⟨_, _, e2⟩ := h.tf
  obtain ⟨_, _, e3⟩ := h.df
  exact RC_one _ _ _ _ (by rw [e1]; rfl) (by rw [e2]; rfl) (by rw [e3]; rfl)
theorem RBO.no96 {O : List Ow} {S : BS} {s tv dv : Value} (h : RBO O S s tv dv) : ∀ o ∈ O, o.t ≠ 96 := fun o ho => by
  rcases h.ty o ho with e | e | e <;> rw [e] <;> decide
/-- without the tasks' slices -/
def noT (O : List Ow) : List Ow := O.filter fun o => decide (o.t ≠ 107)
theorem noT_sub {O : List Ow} : ∀ o ∈ noT O, o ∈ O := fun o ho => (List.mem_filter.1 ho).1
theorem noT_ne {O : List Ow} : ∀ o ∈ noT O, o.t ≠ 107 := fun o ho => by simpa using (List.mem_filter.1 ho).2
theorem noT_in {O : List Ow} {o : Ow} (ho : o ∈ O) (h : o.t ≠ 107) : o ∈ noT O := List.mem_filter.2 ⟨ho, by simpa using h⟩
def nilO : Ow := ⟨23, 1, .slice none 0 0, 0, []⟩
theorem LW.nilO {n : Nat} {w0 v : World} {b : Nat} {S : BS} {L : List (Nat × TypeId × Array Value)} {O : List Ow} (h : LW n w0 b S L O v) : LW n w0 b S L (nilO :: O) v := by
  obtain ⟨⟨rk, a, c, d, e⟩, r, rg, ow, bl, ge⟩ := h
  refine ⟨⟨rk, a, c, d, fun o ho g hg => ?_⟩, r, rg, fun o ho => ?_, bl, ge⟩
  · rcases List.mem_cons.1 ho with e1 | e1
    · subst e1; cases hg
    · exact e o e1 g hg
  · rcases List.mem_cons.1 ho with e1 | e1
    · subst e1; exact ⟨rfl, .inl ⟨rfl, rfl⟩⟩
    · exact ow o e1
theorem RBO.snoc {O : List Ow} {S : BS} {s tv dv : Value} (rb : RBO O S s tv dv) {us : List Value} (hl : us.length = S.tl.length) (ht : ∀ (i : Nat) (T : Tsk) (u : Value), S.tl[i]? = some T → us[i]? = some u → ToldO O T u) (X : Tsk) (hX : X.told = []) (ua : Option Addr) (uc : Nat) :
    RBO (OwT (.slice ua (S.tl.length + 1) uc) (S.tl ++ [X]) (us ++ [.slice none 0 0]) :: nilO :: noT O) { S with tl := S.tl ++ [X] } s (.slice ua (S.tl.length + 1) uc) dv := by
  refine ⟨rb.sf, ⟨ua, uc, by simp⟩, rb.df, ?_, ?_, ⟨us ++ [.slice none 0 0], by simp [hl], List.mem_cons_self, fun i T u hT hu => ?_⟩, fun o ho => ?_⟩
  · exact List.mem_cons_of_mem _ (List.mem_cons_of_mem _ (noT_in rb.bal (by show (23 : Nat) ≠ 107; decide)))
  · exact List.mem_cons_of_mem _ (List.mem_cons_of_mem _ (noT_in rb.dn (by show (3 : Nat) ≠ 107; decide)))
  · by_cases hi : i < S.tl.length
    · have hT : (S.tl ++ [X])[i]? = some T := hT
      rw [List.getElem?_append_left hi] at hT
      rw [List.getElem?_append_left (by omega)] at hu
      obtain ⟨a, c, e1, e2⟩ := ht i T u hT hu
      exact ⟨a, c, e1, List.mem_cons_of_mem _ (List.mem_cons_of_mem _ (noT_in e2 (by show (23 : Nat) ≠ 107; decide)))⟩
    · have hT : (S.tl ++ [X])[i]? = some T := hT
      have hlt := (List.getElem?_eq_some_iff.1 hT).1
      rw [List.length_append, List.length_singleton] at hlt
      obtain rfl : i = S.tl.length := by omega
      rw [List.getElem?_append_right (Nat.le_refl _), Nat.sub_self] at hT
      rw [List.getElem?_append_right (by omega), hl, Nat.sub_self] at hu
      simp at hT hu
      subst hT; subst hu
      refine ⟨none, 0, by rw [hX]; rfl, ?_⟩
      rw [hX]
      exact List.mem_cons_of_mem _ List.mem_cons_self
  · rcases List.mem_cons.1 ho with rfl | ho
    · exact .inr (.inr rfl)
    · rcases List.mem_cons.1 ho with rfl | ho
      · exact .inl rfl
      · exact rb.ty o (noT_sub o ho)
section
variable {n : Nat} {w0 v : World} {b : Nat} {S0 S : BS} {L : List (Nat × TypeId × Array Value)} {O : List Ow} {s tv dv : Value}
set_option maxRecDepth 100000 in
set_option maxHeartbeats 8000000 in
theorem rbegin_full (h : LW n w0 b S0 L O v) (rb : RBO O S s tv dv) (X : Tsk) (hl : 32 ≤ S.tl.length) (hl2 : S.tl.length ≤ 32) :
    Calls Try.prog 76 #[.agg (RC s tv S.h dv), .agg (tcells X (.slice none 0 0)).toArray] v (RBeg n w0 b S0 L s dv (S.begin X)) := by
  have hb : S.begin X = (S, 0, 2) := by unfold BS.begin; rw [if_pos hl]
  rw [hb]
  have ones := rb.ones
  obtain ⟨ta, tc, htv⟩ := rb.tf
  obtain ⟨q, hq⟩ : ∃ q, v.heap.size = q := ⟨_, rfl⟩
  obtain ⟨R, hR⟩ : ∃ R, RC s tv S.h dv = R := ⟨_, rfl⟩
  obtain ⟨Y, hY⟩ : ∃ Y, (tcells X (.slice none 0 0)).toArray = Y := ⟨_, rfl⟩
  have iR : (Try.prog.info? 96).map (·.size) = some R.size := by rw [← hR]; exact info96 _ _ _ _
  have zR : Try.zeroCells96.size = R.size := by rw [← hR]; exact zero96 _ _ _ _
  rw [hR] at ones
  have lw1 := h.new 96 R
  obtain ⟨V1, hV1⟩ : ∃ V1, v.alloc (.cells R 96) = V1 := ⟨_, rfl⟩
  have s1 : V1.heap.size = q + 1 := by rw [← hV1, ← hq]; simp
  rw [hV1, hq] at lw1
  have lw2 := lw1.new 107 Y
  obtain ⟨V2, hV2⟩ : ∃ V2, V1.alloc (.cells Y 107) = V2 := ⟨_, rfl⟩
  have s2 : V2.heap.size = q + 2 := by rw [← hV2]; simp [s1]
  rw [hV2, s1] at lw2
  have lw3 := lw2.new 96 Try.zeroCells96
  obtain ⟨V3, hV3⟩ : ∃ V3, V2.alloc (.cells Try.zeroCells96 96) = V3 := ⟨_, rfl⟩
  rw [hV3, s2] at lw3
  have rR : M.RowAt V3 q 96 R := lw3.rows (q, 96, R) (by simp)
  have rZ : M.RowAt V3 (q + 2) 96 Try.zeroCells96 := lw3.rows (q + 2, 96, Try.zeroCells96) (by simp)
  have c65 : V3.cell? ⟨q, 65, none⟩ = some (.slice ta S.tl.length tc) := (rR.cell 65).trans (by rw [← hR, RC_T, htv])
  have lw4 := lw3.setRow R (fun x hx => by
    have hx' : x.1 < q + 2 := by
      rcases List.mem_cons.1 hx with e | hx
      · rw [e]; show q + 1 < q + 2; omega
      · rcases List.mem_cons.1 hx with e | hx
        · rw [e]; show q < q + 2; omega
        · have := (h.rows x hx).lt; rw [hq] at this; omega
    omega) rb.no96
  have fin : RBeg n w0 b S0 L s dv (S, 0, 2) (.returned (.tuple #[.agg R, .int .i64 0, .int .i64 2])) (V3.setRow (q + 2) R) := ⟨tv, O, by rw [hR], lw4.sub (fun x hx => by simp [hx]) (fun o ho => ho), rb⟩
  have hload := run_loadVar_row (P := Try.prog) _ (q + 2) 96 96 R (0, 0) _ (rZ.setRow R) Try.underlying96 rfl iR
  have FIN := Lib.hid fin; have HLD := Lib.hid hload
  obtain ⟨m, hm⟩ : ∃ m, S.tl.length = m := ⟨_, rfl⟩
  have d1 : decide ((32 : Int) ≤ (m : Int)) = true := by simp; omega
  rw [hm] at c65
  have HQ := Lib.hid hq; have HV1 := Lib.hid hV1; have HV2 := Lib.hid hV2; have HV3 := Lib.hid hV3; have HS1 := Lib.hid s1; have HS2 := Lib.hid s2
  rw [hR, hY]
  clear fin hload lw1 lw2 lw3 lw4 hV1 hV2 hV3 s1 s2 hq hR hY htv hm hl hl2 rb h hb
  go_enter Try.func76, Try.ntmps76
  go_wp2_with (first | (rw [HQ.out, HV1.out]) | (rw [HS1.out, HV2.out]) | (rw [HS2.out, HV3.out]) | (refine wpList_load_row (x := .tmp 2) (ty := 96) (g := q) (cs := R) (t := 96) (fr := (0, 0)) ?_ ?_ ?_ _ rR Try.underlying96 rfl iR ?_; rfl; rfl; rfl) | (refine wpList_store_row (x := .tmp 4) (y := .tmp 11) (cells := R) (old := Try.zeroCells96) (t := 96) (ty := 96) (g := q + 2) ?_ ?_ ?_ ?_ rZ iR zR ones ?_; rfl; rfl; rfl; rfl))
  have hload := HLD.out
  exact bodyPost_ret (v := .tuple #[.agg R, .int .i64 0, .int .i64 2]) (by simp [results, Try.results76, asAddr, hload]) rfl FIN.out
set_option maxRecDepth 100000 in
set_option maxHeartbeats 16000000 in
theorem rbegin_ok (h : LW n w0 b S0 L O v) (rb : RBO O S s tv dv) (X : Tsk) (hl : S.tl.length < 32) (hX : X.told = []) :
    Calls Try.prog 76 #[.agg (RC s tv S.h dv), .agg (tcells X (.slice none 0 0)).toArray] v (RBeg n w0 b S0 L s dv (S.begin X)) := by
  have hb : S.begin X = ({ S with tl := S.tl ++ [X] }, (S.tl.length : Int), 0) := by unfold BS.begin; rw [if_neg (by omega)]
  rw [hb]
  obtain ⟨us, hus, tin, htold⟩ := rb.ts
  have ones := rb.ones
  obtain ⟨ta, tc, htv⟩ := rb.tf
  obtain ⟨sa, sc, hsv⟩ := rb.sf
  obtain ⟨da, dc, hdv⟩ := rb.df
  obtain ⟨i0, hi, hz0, hz1, hz2⟩ := info_parts info107
  obtain ⟨q, hq⟩ : ∃ q, v.heap.size = q := ⟨_, rfl⟩
  obtain ⟨R, hR⟩ : ∃ R, RC s tv S.h dv = R := ⟨_, rfl⟩
  obtain ⟨m, hm⟩ : ∃ m, S.tl.length = m := ⟨_, rfl⟩
  obtain ⟨fr, hfr⟩ : ∃ x, X.fr = x := ⟨_, rfl⟩
  obtain ⟨to, hto⟩ : ∃ x, X.to = x := ⟨_, rfl⟩
  obtain ⟨am, ham⟩ : ∃ x, X.am = x := ⟨_, rfl⟩
  obtain ⟨e0, he0⟩ : ∃ x, X.need 0 = x := ⟨_, rfl⟩
  obtain ⟨e1, he1⟩ : ∃ x, X.need 1 = x := ⟨_, rfl⟩
  obtain ⟨e2, he2⟩ : ∃ x, X.need 2 = x := ⟨_, rfl⟩
  obtain ⟨e3, he3⟩ : ∃ x, X.need 3 = x := ⟨_, rfl⟩
  obtain ⟨li, hli⟩ : ∃ x, X.lists = x := ⟨_, rfl⟩
  obtain ⟨ac, hac⟩ : ∃ x, decide (X.m < X.k) = x := ⟨_, rfl⟩
  obtain ⟨ov, hov⟩ : ∃ x, decide (X.m + 2 ≤ X.k) = x := ⟨_, rfl⟩
  obtain ⟨er, her⟩ : ∃ x, X.er = x := ⟨_, rfl⟩
  have hY : tcells X (.slice none 0 0) = [.int .i64 fr, .int .i64 to, .int .u64 am, .bool e0, .bool e1, .bool e2, .bool e3, .bool li, .bool ac, .bool ov, .int .i64 er, .slice none 0 0] := by unfold tcells; rw [hfr, hto, ham, he0, he1, he2, he3, hli, hac, hov, her]
  have iR : (Try.prog.info? 96).map (·.size) = some R.size := by rw [← hR]; exact info96 _ _ _ _
  have iY : (Try.prog.info? 107).map (·.size) = some (#[.int .i64 fr, .int .i64 to, .int .u64 am, .bool e0, .bool e1, .bool e2, .bool e3, .bool li, .bool ac, .bool ov, .int .i64 er, .slice none 0 0] : Array Value).size := by kernel_rfl
  have rst : ∀ ua uc, ∃ R', R.setIfInBounds 65 (.slice ua (m + 1) uc) = R' ∧ (Try.prog.info? 96).map (·.size) = some R'.size ∧ Try.zeroCells96.size = R'.size ∧ R'.all (·.oneCell') = true ∧ R'[65]? = some (.slice ua (m + 1) uc) := fun ua uc => by
    refine ⟨_, rfl, ?_⟩
    rw [← hR, RC_setT]
    exact ⟨info96 _ _ _ _, zero96 _ _ _ _, RC_one _ _ _ _ (by rw [hsv]; rfl) rfl (by rw [hdv]; rfl), RC_T _ _ _ _⟩
  have lw1 := h.new 96 R
  obtain ⟨V1, hV1⟩ : ∃ V1, v.alloc (.cells R 96) = V1 := ⟨_, rfl⟩
  have s1 : V1.heap.size = q + 1 := by rw [← hV1, ← hq]; simp
  rw [hV1, hq] at lw1
  have lw2 := lw1.new 107 #[.int .i64 fr, .int .i64 to, .int .u64 am, .bool e0, .bool e1, .bool e2, .bool e3, .bool li, .bool ac, .bool ov, .int .i64 er, .slice none 0 0]
  obtain ⟨V2, hV2⟩ : ∃ V2, V1.alloc (.cells #[.int .i64 fr, .int .i64 to, .int .u64 am, .bool e0, .bool e1, .bool e2, .bool e3, .bool li, .bool ac, .bool ov, .int .i64 er, .slice none 0 0] 107) = V2 := ⟨_, rfl⟩
  have s2 : V2.heap.size = q + 2 := by rw [← hV2]; simp [s1]
  rw [hV2, s1] at lw2
  have lw3 := lw2.new 96 Try.zeroCells96
  obtain ⟨V3, hV3⟩ : ∃ V3, V2.alloc (.cells Try.zeroCells96 96) = V3 := ⟨_, rfl⟩
  rw [hV3, s2] at lw3
  have rt : R[65]? = some (.slice ta m tc) := by rw [← hR, RC_T, htv, hm]
  have c65 : V3.cell? ⟨q, 65, none⟩ = some (.slice ta m tc) := ((lw3.rows (q, 96, R) (by simp)).cell 65).trans rt
  have FONE := Lib.hid (show ∀ u ∈ flatT S.tl us, u.oneCell' = true from flatT_one _ _ (fun u hu => by
    obtain ⟨i, hi⟩ := List.getElem?_of_mem hu
    obtain ⟨_, _, e, _⟩ := htold i _ u (List.getElem?_eq_getElem (by have := (List.getElem?_eq_some_iff.1 hi).1; omega)) hi
    rw [e]; rfl))
  have YONE := Lib.hid (show ∀ u ∈ ([.int .i64 fr, .int .i64 to, .int .u64 am, .bool e0, .bool e1, .bool e2, .bool e3, .bool li, .bool ac, .bool ov, .int .i64 er, .slice none 0 0] : List Value), u.oneCell' = true from by rw [← hY]; exact tcells_one _ _ rfl)
  have finq : ∀ ua uc R' z, R.setIfInBounds 65 (.slice ua (m + 1) uc) = R' → LW n w0 b S0 ((q, 96, R') :: (q + 2, 96, Try.zeroCells96) :: L) (⟨107, 12, .slice ua (m + 1) uc, m + 1, flatT S.tl us ++ [.int .i64 fr, .int .i64 to, .int .u64 am, .bool e0, .bool e1, .bool e2, .bool e3, .bool li, .bool ac, .bool ov, .int .i64 er, .slice none 0 0]⟩ :: noT O) z → RBeg n w0 b S0 L s dv ({ S with tl := S.tl ++ [X] }, (m : Int), 0) (.returned (.tuple #[.agg R', .int .i64 m, .int .i64 0])) (z.setRow (q + 2) R') := fun ua uc R' z e lw => by
    have lwa := lw.sub (L' := (q + 2, 96, Try.zeroCells96) :: L) (fun x hx => List.mem_cons_of_mem _ hx) (fun o ho => ho)
    have lwb := lwa.setRow R' (fun x hx => by have := (h.rows x hx).lt; omega) (fun o ho => by
      rcases List.mem_cons.1 ho with rfl | ho
      · show (107 : Nat) ≠ 96; decide
      · exact rb.no96 o (noT_sub o ho))
    have lwc := (lwb.nilO).sub (L' := L) (O' := OwT (.slice ua (S.tl.length + 1) uc) (S.tl ++ [X]) (us ++ [.slice none 0 0]) :: nilO :: noT O) (fun x hx => List.mem_cons_of_mem _ hx) (fun o ho => by
      have eT : OwT (.slice ua (S.tl.length + 1) uc) (S.tl ++ [X]) (us ++ [.slice none 0 0]) = ⟨107, 12, .slice ua (m + 1) uc, m + 1, flatT S.tl us ++ [.int .i64 fr, .int .i64 to, .int .u64 am, .bool e0, .bool e1, .bool e2, .bool e3, .bool li, .bool ac, .bool ov, .int .i64 er, .slice none 0 0]⟩ := by
        unfold OwT; rw [flatT_snoc _ _ _ _ hus, hY, List.length_append, hm]; rfl
      simp only [List.mem_cons] at ho ⊢
      rcases ho with rfl | rfl | ho
      · exact .inr (.inl eT)
      · exact .inl rfl
      · exact .inr (.inr ho))
    refine ⟨.slice ua (S.tl.length + 1) uc, _, ?_, lwc, rb.snoc hus htold X hX ua uc⟩
    rw [← e, ← hR, RC_setT, hm]
  have NEQ := Lib.hid (show ∀ x ∈ L, x.1 ≠ q from fun x hx => by have := (h.rows x hx).lt; omega)
  have N96 := Lib.hid rb.no96
  have M32 := Lib.hid (show m < 32 from by omega)
  have TIN := Lib.hid (show (⟨107, 12, .slice ta m tc, m, flatT S.tl us⟩ : Ow) ∈ O from by rw [← hm, ← htv]; exact tin)
  have LW3 := Lib.hid lw3; have RT := Lib.hid rt; have RST := Lib.hid rst; have FINQ := Lib.hid finq
  have d1 : decide ((32 : Int) ≤ (m : Int)) = false := by simp; omega
  have wk : IntKind.i64.wrap ((m : Nat) : Int) = (m : Int) := IntWalk.i64_in _ (by omega)
  have HQ := Lib.hid hq; have HV1 := Lib.hid hV1; have HV2 := Lib.hid hV2; have HV3 := Lib.hid hV3; have HS1 := Lib.hid s1; have HS2 := Lib.hid s2
  rw [hR, hY, hm]
  clear finq lw1 lw2 lw3 hV1 hV2 hV3 s1 s2 hq hR hY htv hm hl rb h hb hsv hdv tin htold hus rst rt ones hfr hto ham he0 he1 he2 he3 hli hac hov her
  go_enter Try.func76, Try.ntmps76
  go_wp2_with (first | (rw [HQ.out, HV1.out]) | (rw [HS1.out, HV2.out]) | (rw [HS2.out, HV3.out]) | fail)
  refine QF.wp_region_f [0, 3, 5, 6, 8] (.q 1 <| .q 2 <| .q 4 <| .two 0 (.two 3 (.one 5 <| .one 6 <| .q 7 <| .one 8 <| .nil) 5 (.one 3 <| .one 6 <| .q 7 <| .one 8 <| .nil)) 5 (.one 0 <| .one 3 <| .one 6 <| .q 7 <| .one 8 <| .nil)) (by kernel_rfl) (by kernel_rfl) (fun u d => ?_)
  have LWU := Lib.hid (LW3.out.dr d)
  have cu : u.cell? ⟨q, 65, none⟩ = some (.slice ta m tc) := ((LWU.out.rows (q, 96, R) (by simp)).cell 65).trans RT.out
  have rYu : M.RowAt u (q + 1) 107 #[.int .i64 fr, .int .i64 to, .int .u64 am, .bool e0, .bool e1, .bool e2, .bool e3, .bool li, .bool ac, .bool ov, .int .i64 er, .slice none 0 0] := LWU.out.rows (q + 1, 107, #[.int .i64 fr, .int .i64 to, .int .u64 am, .bool e0, .bool e1, .bool e2, .bool e3, .bool li, .bool ac, .bool ov, .int .i64 er, .slice none 0 0]) (by simp)
  clear d LW3 c65
  iterate 2
    (first
     | (apply QF.wpF_load
        (focus rfl)
        (focus rfl)
        (focus rfl)
        (focus rfl)
        (focus (assumption))
        (focus (intro u hu; go_simp))
        intro K hK
        go_simp
        refine hK _ ?_
        clear hK K)
     | (apply QF.wpF_pure
        (focus rfl)
        intro K hK
        go_simp
        first
         | (refine hK _ ?_; clear hK K)
         | (apply Exists.intro
            refine ⟨fun u => ?_, hK _ ?_⟩
            (focus (unfold QP.oat; go_simp; first | done | exact ⟨rfl, rfl⟩ | exact rfl))
            clear hK K)))
  refine QF.wpF_rest (fun u => M.RowAt u (q + 1) 107 #[.int .i64 fr, .int .i64 to, .int .u64 am, .bool e0, .bool e1, .bool e2, .bool e3, .bool li, .bool ac, .bool ov, .int .i64 er, .slice none 0 0]) (.agg #[.int .i64 fr, .int .i64 to, .int .u64 am, .bool e0, .bool e1, .bool e2, .bool e3, .bool li, .bool ac, .bool ov, .int .i64 er, .slice none 0 0]) rfl rfl rYu ?_ ?_
  · intro u hu; exact QP.oat_load_row (ty := 107) (x := .tmp 3) rfl (q + 1) rfl 107 #[.int .i64 fr, .int .i64 to, .int .u64 am, .bool e0, .bool e1, .bool e2, .bool e3, .bool li, .bool ac, .bool ov, .int .i64 er, .slice none 0 0] (0, 0) _ hu Try.underlying107 rfl iY rfl
  try go_simp
  refine QF.wpF_two ?_ ?_
  · skip
    apply QF.wpF_one
    (focus rfl)
    obtain ⟨g0, hg0⟩ : ∃ g0, u.heap.size = g0 := ⟨_, rfl⟩
    have NEG := Lib.hid (show ∀ x ∈ ((q + 2, 96, Try.zeroCells96) :: (q + 1, 107, (#[.int .i64 fr, .int .i64 to, .int .u64 am, .bool e0, .bool e1, .bool e2, .bool e3, .bool li, .bool ac, .bool ov, .int .i64 er, .slice none 0 0] : Array Value)) :: (q, 96, R) :: L), x.1 ≠ g0 from fun x hx e => by have := (LWU.out.rows x hx).lt; omega)
    have LTO := Lib.hid (show ∀ o ∈ O, ∀ g, o.v.ownBlock = some g → g < g0 from fun o ho g hg => by rw [← hg0]; exact ((LWU.out.owns o ho).lt g hg).2)
    have lwn := LWU.out.copied (t := 107) (sz := 12) (World.ownsRow_lit (base := u.heap.size) (e := 107) (size := 12) u #[] 0 (Nat.le_refl _) (by unfold maxLen; omega) rfl) ((Below.refl _ _).alloc (Nat.le_refl _) _)
    obtain ⟨u1, hu1⟩ : ∃ uu, u.alloc (.cells #[] 107) = uu := ⟨_, rfl⟩
    rw [hu1, hg0] at lwn
    have HG0 := Lib.hid hg0; have HU1 := Lib.hid hu1
    clear LWU hg0 hu1 cu rYu
    have cu : u1.cell? ⟨q, 65, none⟩ = some (.slice ta m tc) := ((lwn.rows (q, 96, R) (by simp)).cell 65).trans RT.out
    have rYu : M.RowAt u1 (q + 1) 107 #[.int .i64 fr, .int .i64 to, .int .u64 am, .bool e0, .bool e1, .bool e2, .bool e3, .bool li, .bool ac, .bool ov, .int .i64 er, .slice none 0 0] := lwn.rows (q + 1, 107, #[.int .i64 fr, .int .i64 to, .int .u64 am, .bool e0, .bool e1, .bool e2, .bool e3, .bool li, .bool ac, .bool ov, .int .i64 er, .slice none 0 0]) (by simp)
    have LW1 := Lib.hid lwn
    clear lwn
    go_wp2_with (first | (rw [HG0.out, HU1.out]) | fail)
    refine QF.eff_ok rfl ?_ ?_
    · (repeat (first | exact QC.obl_nil | refine QC.obl_is (by assumption) ?_ | (apply QC.obl_dep; (focus decide))))
    clear HG0 HU1
    refine QF.wpF_two ?_ ?_
    · skip
      apply QF.wpF_one
      (focus rfl)
      go_wp2_with (at_builtin; refine wpList_append_copy _ rfl (.tmp 12) (.tmp 14) 93 rfl n 107 i0 _ 12 64 Try.underlying93 hi hz0 hz1 hz2 rfl (by decide) g0 ?xa1 (LW1.out.owns _ List.mem_cons_self) n (.slice ta m tc) m (flatT S.tl us) ?xa2 (LW1.out.owns _ (List.mem_cons_of_mem _ TIN.out)) FONE.out ?xa4 ?xa5 LW1.out.ge ?_)
      case xa1 => rfl
      case xa2 => rfl
      case xa4 => have := M32.out; unfold maxLen; omega
      case xa5 => have := M32.out; omega
      intro a' c' u2 ho hg hs
      have NEA := Lib.hid (show ∀ x ∈ ((q + 2, 96, Try.zeroCells96) :: (q + 1, 107, (#[.int .i64 fr, .int .i64 to, .int .u64 am, .bool e0, .bool e1, .bool e2, .bool e3, .bool li, .bool ac, .bool ov, .int .i64 er, .slice none 0 0] : Array Value)) :: (q, 96, R) :: L), x.1 ≠ a' from fun x hx => by
        have h1 := (LW1.out.rows x hx).lt
        have h2 := NEG.out x hx
        rcases hs with e | e
        · rw [e]; exact h2
        · omega)
      have lwn := LW1.out.grow ho hg (hs.elim (fun e => .inl (by rw [e]; rfl)) (fun e => .inr (fun g hg => by cases hg; exact e))) (fun x hx e => by cases e; exact NEG.out x hx rfl) (fun o2 ho2 => by
        cases h2 : o2.v.ownBlock with
        | none => exact .inl rfl
        | some g => exact .inr (fun e => by have := LTO.out o2 ho2 g h2; have e2 : some g = some g0 := e; have := Option.some.inj e2; omega))
      have lwn := lwn.sub (L' := ((q + 2, 96, Try.zeroCells96) :: (q + 1, 107, (#[.int .i64 fr, .int .i64 to, .int .u64 am, .bool e0, .bool e1, .bool e2, .bool e3, .bool li, .bool ac, .bool ov, .int .i64 er, .slice none 0 0] : Array Value)) :: (q, 96, R) :: L)) (O' := ⟨107, 12, .slice (some ⟨a', 0, none⟩) m c', m, flatT S.tl us⟩ :: noT O) (fun x hx => hx) (fun o ho => by
        rcases List.mem_cons.1 ho with rfl | ho
        · exact List.mem_cons_self
        · exact List.mem_cons_of_mem _ (noT_sub o ho))
      clear ho hg hs LW1 cu rYu
      have cu : u2.cell? ⟨q, 65, none⟩ = some (.slice ta m tc) := ((lwn.rows (q, 96, R) (by simp)).cell 65).trans RT.out
      have rYu : M.RowAt u2 (q + 1) 107 #[.int .i64 fr, .int .i64 to, .int .u64 am, .bool e0, .bool e1, .bool e2, .bool e3, .bool li, .bool ac, .bool ov, .int .i64 er, .slice none 0 0] := lwn.rows (q + 1, 107, #[.int .i64 fr, .int .i64 to, .int .u64 am, .bool e0, .bool e1, .bool e2, .bool e3, .bool li, .bool ac, .bool ov, .int .i64 er, .slice none 0 0]) (by simp)
      have LW2 := Lib.hid lwn
      clear lwn
      go_wp2
      refine QF.eff_ok rfl ?_ ?_
      · (repeat (first | exact QC.obl_nil | refine QC.obl_is (by assumption) ?_ | (apply QC.obl_dep; (focus decide))))
      apply QF.wpF_one
      (focus rfl)
      obtain ⟨n5, hn5⟩ : ∃ n5, u2.heap.size = n5 := ⟨_, rfl⟩
      have N5Q := Lib.hid (show q + 2 < n5 from hn5 ▸ (LW2.out.rows (q + 2, 96, Try.zeroCells96) (by simp)).lt)
      have NEA := Lib.hid (show ∀ x ∈ ((n5, 107, (#[.int .i64 fr, .int .i64 to, .int .u64 am, .bool e0, .bool e1, .bool e2, .bool e3, .bool li, .bool ac, .bool ov, .int .i64 er, .slice none 0 0] : Array Value)) :: ((q + 2, 96, Try.zeroCells96) :: (q + 1, 107, (#[.int .i64 fr, .int .i64 to, .int .u64 am, .bool e0, .bool e1, .bool e2, .bool e3, .bool li, .bool ac, .bool ov, .int .i64 er, .slice none 0 0] : Array Value)) :: (q, 96, R) :: L)), x.1 ≠ a' from fun x hx => by
        have hh := ((LW2.out.owns _ List.mem_cons_self).lt a' rfl).2
        rcases List.mem_cons.1 hx with rfl | hx
        · show n5 ≠ a'; omega
        · exact NEA.out x hx)
      have lwn := LW2.out.new 107 #[.int .i64 fr, .int .i64 to, .int .u64 am, .bool e0, .bool e1, .bool e2, .bool e3, .bool li, .bool ac, .bool ov, .int .i64 er, .slice none 0 0]
      obtain ⟨u3, hu1⟩ : ∃ uu, u2.alloc (.cells #[.int .i64 fr, .int .i64 to, .int .u64 am, .bool e0, .bool e1, .bool e2, .bool e3, .bool li, .bool ac, .bool ov, .int .i64 er, .slice none 0 0] 107) = uu := ⟨_, rfl⟩
      rw [hu1, hn5] at lwn
      have HN5 := Lib.hid hn5; have HU1 := Lib.hid hu1
      clear LW2 hn5 hu1 cu rYu
      have cu : u3.cell? ⟨q, 65, none⟩ = some (.slice ta m tc) := ((lwn.rows (q, 96, R) (by simp)).cell 65).trans RT.out
      have rYu : M.RowAt u3 (q + 1) 107 #[.int .i64 fr, .int .i64 to, .int .u64 am, .bool e0, .bool e1, .bool e2, .bool e3, .bool li, .bool ac, .bool ov, .int .i64 er, .slice none 0 0] := lwn.rows (q + 1, 107, #[.int .i64 fr, .int .i64 to, .int .u64 am, .bool e0, .bool e1, .bool e2, .bool e3, .bool li, .bool ac, .bool ov, .int .i64 er, .slice none 0 0]) (by simp)
      have LW3 := Lib.hid lwn
      clear lwn
      go_wp2_with (first | (rw [HN5.out, HU1.out]) | fail)
      refine QF.eff_ok rfl ?_ ?_
      · (repeat (first | exact QC.obl_nil | refine QC.obl_is (by assumption) ?_ | (apply QC.obl_dep; (focus decide))))
      clear HN5 HU1
      apply QF.wpF_one
      (focus rfl)
      have R5 := Lib.hid (LW3.out.rows (n5, 107, #[.int .i64 fr, .int .i64 to, .int .u64 am, .bool e0, .bool e1, .bool e2, .bool e3, .bool li, .bool ac, .bool ov, .int .i64 er, .slice none 0 0]) (by simp))
      go_wp2_with (at_builtin; refine wpList_append_sep2 _ rfl (.tmp 15) (.tmp 17) 93 rfl n 107 i0 _ 12 64 Try.underlying93 hi hz0 hz1 hz2 rfl (by decide) (.slice (some ⟨a', 0, none⟩) m c') m _ ?xb1 (LW3.out.owns _ List.mem_cons_self) ⟨n5, 0, none⟩ 1 1 [.int .i64 fr, .int .i64 to, .int .u64 am, .bool e0, .bool e1, .bool e2, .bool e3, .bool li, .bool ac, .bool ov, .int .i64 er, .slice none 0 0] ?xb2 rfl ?xb3 ?xb4 (by decide) ?xb5 ?xb6 LW3.out.ge ?_)
      case xb3 =>
        intro j x hx
        first | rw [Addr.add_mid, R5.out.cell, Nat.zero_add] | rw [R5.out.cell]
        simpa using hx
      case xb4 => first | exact YONE.out | (repeat' (first | rfl | apply And.intro))
      case xb5 => have := M32.out; unfold maxLen; omega
      case xb6 => have := M32.out; omega
      intro uv u6 ho hg hs
      obtain ⟨ua, uc, rfl⟩ : ∃ ua uc, uv = .slice ua (m + 1) uc := by
        rcases ho.2 with ⟨_, h2⟩ | ⟨g, cc, cur, h2, _⟩
        · omega
        · exact ⟨_, _, h2⟩
      have lw6 := LW3.out.grow ho hg hs (fun x hx e => by cases e; exact NEA.out x hx rfl) (fun o2 ho2 => types_apart2 (LW3.out.owns o2 (List.mem_cons_of_mem _ ho2)) (LW3.out.owns _ List.mem_cons_self) (noT_ne o2 ho2))
      have lw7 := lw6.sub (L' := (q, 96, R) :: (q + 2, 96, Try.zeroCells96) :: L) (O' := ⟨107, 12, .slice ua (m + 1) uc, m + 1, flatT S.tl us ++ [.int .i64 fr, .int .i64 to, .int .u64 am, .bool e0, .bool e1, .bool e2, .bool e3, .bool li, .bool ac, .bool ov, .int .i64 er, .slice none 0 0]⟩ :: noT O) (fun x hx => by
        simp only [List.mem_cons] at hx ⊢
        rcases hx with rfl | rfl | hx
        · simp
        · simp
        · simp [hx]) (fun o ho => ho)
      have lw8 := lw7.setCell 65 (.slice ua (m + 1) uc) (fun x hx => by
        rcases List.mem_cons.1 hx with rfl | hx
        · show q + 2 ≠ q; omega
        · exact NEQ.out x hx) (fun o ho => by
        rcases List.mem_cons.1 ho with rfl | ho
        · show (107 : Nat) ≠ 96; decide
        · exact N96.out o (noT_sub o ho))
      obtain ⟨R', hR', iR', zR', oR', rt'⟩ := RST.out ua uc
      rw [hR'] at lw8
      have LW8 := Lib.hid lw8
      obtain ⟨V8, hV8⟩ : ∃ V8, u6.setCell ⟨q, 65, none⟩ (.slice ua (m + 1) uc) = V8 := ⟨_, rfl⟩
      rw [hV8] at LW8
      have HV8 := Lib.hid hV8
      have cq6 := (lw7.rows (q, 96, R) (by simp)).cell 65
      have fz6 : u6.frozen? ⟨q, 65, none⟩ = false := (lw7.rows (q, 96, R) (by simp)).frozen 65
      rw [RT.out] at cq6
      clear ho hg hs LW3 cu rYu lw6 lw7 lw8 R5 hV8
      go_wp2
      refine QF.eff_ok rfl ?_ ?_
      · (repeat (first | exact QC.obl_nil | refine QC.obl_is (by assumption) ?_ | (apply QC.obl_dep; (focus decide))))
      iterate 1
        (first
         | (apply QF.wpF_load
            (focus rfl)
            (focus rfl)
            (focus rfl)
            (focus rfl)
            (focus (assumption))
            (focus (intro u hu; go_simp))
            intro K hK
            go_simp
            refine hK _ ?_
            clear hK K)
         | (apply QF.wpF_pure
            (focus rfl)
            intro K hK
            go_simp
            first
             | (refine hK _ ?_; clear hK K)
             | (apply Exists.intro
                refine ⟨fun u => ?_, hK _ ?_⟩
                (focus (unfold QP.oat; go_simp; first | done | exact ⟨rfl, rfl⟩ | exact rfl))
                clear hK K)))
      apply QF.wpF_one
      (focus rfl)
      go_wp2_with (first | (rw [HV8.out]) | fail)
      refine QF.eff_ok rfl ?_ ?_
      · (repeat (first | exact QC.obl_nil | refine QC.obl_is (by assumption) ?_ | (apply QC.obl_dep; (focus decide))))
      refine QF.wpF_nil ?_
      clear cq6 fz6 HV8
      go_wp2
      refine QC.wp_region_d [5] [0, 1, 2, 3, 4, 5, 6, 7] (by kernel_rfl) (by kernel_rfl) (fun z d => ?_)
      have lwz := LW8.out.dr d
      have rR' : M.RowAt z q 96 R' := lwz.rows (q, 96, R') (by simp)
      have rZ' : M.RowAt z (q + 2) 96 Try.zeroCells96 := lwz.rows (q + 2, 96, Try.zeroCells96) (by simp)
      have cz := (rR'.cell 65).trans rt'
      have FIN := Lib.hid (FINQ.out ua uc R' z hR' lwz)
      have HLD := Lib.hid (run_loadVar_row (P := Try.prog) _ (q + 2) 96 96 R' (0, 0) _ (rZ'.setRow R') Try.underlying96 rfl iR')
      clear d lwz LW8
      refine QC.wpC_rest (fun u => M.RowAt u q 96 R') (.agg R') rfl (by decide) rfl rR' ?_ ?_
      · intro u hu; exact QP.oat_load_row (ty := 96) (x := .tmp 2) rfl q rfl 96 R' (0, 0) _ hu Try.underlying96 rfl iR' rfl
      try go_simp
      iterate 4
        (first
         | (apply QC.wpC_load
            (focus rfl)
            (focus decide)
            (focus rfl)
            (focus rfl)
            (focus rfl)
            (focus (assumption))
            (focus (intro u hu; go_simp))
            intro K hK
            go_simp
            refine hK _ ?_
            clear hK K)
         | (apply QC.wpC_pure
            (focus rfl)
            (focus decide)
            intro K hK
            go_simp
            first
             | (refine hK _ ?_; clear hK K)
             | (apply Exists.intro
                refine ⟨fun u => ?_, hK _ ?_⟩
                (focus (unfold QP.oat; go_simp; first | done | exact ⟨rfl, rfl⟩ | exact rfl))
                clear hK K)))
      have rq9 := rR'.farRow (show q + 2 ≠ q by omega) R'
      have cz9 := (rq9.cell 65).trans rt'
      apply QC.wpC_eff
      (focus rfl)
      (focus decide)
      go_wp2_with (first | (refine wpList_store_row (x := .tmp 4) (y := .tmp 20) (cells := R') (old := Try.zeroCells96) (t := 96) (ty := 96) (g := q + 2) ?_ ?_ ?_ ?_ rZ' iR' zR' oR' ?_; rfl; rfl; rfl; rfl) | fail)
      refine QC.eff_ok rfl ?_ ?_
      · (repeat (first | exact QC.obl_nil | refine QC.obl_is (by assumption) ?_ | (apply QC.obl_dep; (focus decide))))
      iterate 2
        (first
         | (apply QC.wpC_load
            (focus rfl)
            (focus decide)
            (focus rfl)
            (focus rfl)
            (focus rfl)
            (focus (assumption))
            (focus (intro u hu; go_simp))
            intro K hK
            go_simp
            refine hK _ ?_
            clear hK K)
         | (apply QC.wpC_pure
            (focus rfl)
            (focus decide)
            intro K hK
            go_simp
            first
             | (refine hK _ ?_; clear hK K)
             | (apply Exists.intro
                refine ⟨fun u => ?_, hK _ ?_⟩
                (focus (unfold QP.oat; go_simp; first | done | exact ⟨rfl, rfl⟩ | exact rfl))
                clear hK K)))
      refine QC.wpC_nil ?_
      go_wp2
      have hload := HLD.out
      exact bodyPost_ret (v := .tuple #[.agg R', .int .i64 m, .int .i64 0]) (by simp [results, Try.results76, asAddr, hload]) rfl FIN.out
    · skip
      apply QF.wpF_one
      (focus rfl)
      obtain ⟨n5, hn5⟩ : ∃ n5, u1.heap.size = n5 := ⟨_, rfl⟩
      have N5Q := Lib.hid (show q + 2 < n5 from hn5 ▸ (LW1.out.rows (q + 2, 96, Try.zeroCells96) (by simp)).lt)
      have NEG := Lib.hid (show ∀ x ∈ ((n5, 107, (#[.int .i64 fr, .int .i64 to, .int .u64 am, .bool e0, .bool e1, .bool e2, .bool e3, .bool li, .bool ac, .bool ov, .int .i64 er, .slice none 0 0] : Array Value)) :: ((q + 2, 96, Try.zeroCells96) :: (q + 1, 107, (#[.int .i64 fr, .int .i64 to, .int .u64 am, .bool e0, .bool e1, .bool e2, .bool e3, .bool li, .bool ac, .bool ov, .int .i64 er, .slice none 0 0] : Array Value)) :: (q, 96, R) :: L)), x.1 ≠ g0 from fun x hx => by
        have hh := ((LW1.out.owns _ List.mem_cons_self).lt g0 rfl).2
        rcases List.mem_cons.1 hx with rfl | hx
        · show n5 ≠ g0; omega
        · exact NEG.out x hx)
      have lwn := LW1.out.new 107 #[.int .i64 fr, .int .i64 to, .int .u64 am, .bool e0, .bool e1, .bool e2, .bool e3, .bool li, .bool ac, .bool ov, .int .i64 er, .slice none 0 0]
      obtain ⟨u2, hu1⟩ : ∃ uu, u1.alloc (.cells #[.int .i64 fr, .int .i64 to, .int .u64 am, .bool e0, .bool e1, .bool e2, .bool e3, .bool li, .bool ac, .bool ov, .int .i64 er, .slice none 0 0] 107) = uu := ⟨_, rfl⟩
      rw [hu1, hn5] at lwn
      have HN5 := Lib.hid hn5; have HU1 := Lib.hid hu1
      clear LW1 hn5 hu1 cu rYu
      have cu : u2.cell? ⟨q, 65, none⟩ = some (.slice ta m tc) := ((lwn.rows (q, 96, R) (by simp)).cell 65).trans RT.out
      have rYu : M.RowAt u2 (q + 1) 107 #[.int .i64 fr, .int .i64 to, .int .u64 am, .bool e0, .bool e1, .bool e2, .bool e3, .bool li, .bool ac, .bool ov, .int .i64 er, .slice none 0 0] := lwn.rows (q + 1, 107, #[.int .i64 fr, .int .i64 to, .int .u64 am, .bool e0, .bool e1, .bool e2, .bool e3, .bool li, .bool ac, .bool ov, .int .i64 er, .slice none 0 0]) (by simp)
      have LW2 := Lib.hid lwn
      clear lwn
      go_wp2_with (first | (rw [HN5.out, HU1.out]) | fail)
      refine QF.eff_ok rfl ?_ ?_
      · (repeat (first | exact QC.obl_nil | refine QC.obl_is (by assumption) ?_ | (apply QC.obl_dep; (focus decide))))
      clear HN5 HU1
      apply QF.wpF_one
      (focus rfl)
      go_wp2_with (at_builtin; refine wpList_append_copy _ rfl (.tmp 12) (.tmp 14) 93 rfl n 107 i0 _ 12 64 Try.underlying93 hi hz0 hz1 hz2 rfl (by decide) g0 ?ya1 (LW2.out.owns _ List.mem_cons_self) n (.slice ta m tc) m (flatT S.tl us) ?ya2 (LW2.out.owns _ (List.mem_cons_of_mem _ TIN.out)) FONE.out ?ya4 ?ya5 LW2.out.ge ?_)
      case ya1 => rfl
      case ya2 => rfl
      case ya4 => have := M32.out; unfold maxLen; omega
      case ya5 => have := M32.out; omega
      intro a' c' u3 ho hg hs
      have NEA := Lib.hid (show ∀ x ∈ ((n5, 107, (#[.int .i64 fr, .int .i64 to, .int .u64 am, .bool e0, .bool e1, .bool e2, .bool e3, .bool li, .bool ac, .bool ov, .int .i64 er, .slice none 0 0] : Array Value)) :: ((q + 2, 96, Try.zeroCells96) :: (q + 1, 107, (#[.int .i64 fr, .int .i64 to, .int .u64 am, .bool e0, .bool e1, .bool e2, .bool e3, .bool li, .bool ac, .bool ov, .int .i64 er, .slice none 0 0] : Array Value)) :: (q, 96, R) :: L)), x.1 ≠ a' from fun x hx => by
        have h1 := (LW2.out.rows x hx).lt
        have h2 := NEG.out x hx
        rcases hs with e | e
        · rw [e]; exact h2
        · omega)
      have lwn := LW2.out.grow ho hg (hs.elim (fun e => .inl (by rw [e]; rfl)) (fun e => .inr (fun g hg => by cases hg; exact e))) (fun x hx e => by cases e; exact NEG.out x hx rfl) (fun o2 ho2 => by
        cases h2 : o2.v.ownBlock with
        | none => exact .inl rfl
        | some g => exact .inr (fun e => by have := LTO.out o2 ho2 g h2; have e2 : some g = some g0 := e; have := Option.some.inj e2; omega))
      have lwn := lwn.sub (L' := ((n5, 107, (#[.int .i64 fr, .int .i64 to, .int .u64 am, .bool e0, .bool e1, .bool e2, .bool e3, .bool li, .bool ac, .bool ov, .int .i64 er, .slice none 0 0] : Array Value)) :: ((q + 2, 96, Try.zeroCells96) :: (q + 1, 107, (#[.int .i64 fr, .int .i64 to, .int .u64 am, .bool e0, .bool e1, .bool e2, .bool e3, .bool li, .bool ac, .bool ov, .int .i64 er, .slice none 0 0] : Array Value)) :: (q, 96, R) :: L))) (O' := ⟨107, 12, .slice (some ⟨a', 0, none⟩) m c', m, flatT S.tl us⟩ :: noT O) (fun x hx => hx) (fun o ho => by
        rcases List.mem_cons.1 ho with rfl | ho
        · exact List.mem_cons_self
        · exact List.mem_cons_of_mem _ (noT_sub o ho))
      clear ho hg hs LW2 cu rYu
      have cu : u3.cell? ⟨q, 65, none⟩ = some (.slice ta m tc) := ((lwn.rows (q, 96, R) (by simp)).cell 65).trans RT.out
      have rYu : M.RowAt u3 (q + 1) 107 #[.int .i64 fr, .int .i64 to, .int .u64 am, .bool e0, .bool e1, .bool e2, .bool e3, .bool li, .bool ac, .bool ov, .int .i64 er, .slice none 0 0] := lwn.rows (q + 1, 107, #[.int .i64 fr, .int .i64 to, .int .u64 am, .bool e0, .bool e1, .bool e2, .bool e3, .bool li, .bool ac, .bool ov, .int .i64 er, .slice none 0 0]) (by simp)
      have LW3 := Lib.hid lwn
      clear lwn
      go_wp2
      refine QF.eff_ok rfl ?_ ?_
      · (repeat (first | exact QC.obl_nil | refine QC.obl_is (by assumption) ?_ | (apply QC.obl_dep; (focus decide))))
      apply QF.wpF_one
      (focus rfl)
      have R5 := Lib.hid (LW3.out.rows (n5, 107, #[.int .i64 fr, .int .i64 to, .int .u64 am, .bool e0, .bool e1, .bool e2, .bool e3, .bool li, .bool ac, .bool ov, .int .i64 er, .slice none 0 0]) (by simp))
      go_wp2_with (at_builtin; refine wpList_append_sep2 _ rfl (.tmp 15) (.tmp 17) 93 rfl n 107 i0 _ 12 64 Try.underlying93 hi hz0 hz1 hz2 rfl (by decide) (.slice (some ⟨a', 0, none⟩) m c') m _ ?yb1 (LW3.out.owns _ List.mem_cons_self) ⟨n5, 0, none⟩ 1 1 [.int .i64 fr, .int .i64 to, .int .u64 am, .bool e0, .bool e1, .bool e2, .bool e3, .bool li, .bool ac, .bool ov, .int .i64 er, .slice none 0 0] ?yb2 rfl ?yb3 ?yb4 (by decide) ?yb5 ?yb6 LW3.out.ge ?_)
      case yb3 =>
        intro j x hx
        first | rw [Addr.add_mid, R5.out.cell, Nat.zero_add] | rw [R5.out.cell]
        simpa using hx
      case yb4 => first | exact YONE.out | (repeat' (first | rfl | apply And.intro))
      case yb5 => have := M32.out; unfold maxLen; omega
      case yb6 => have := M32.out; omega
      intro uv u6 ho hg hs
      obtain ⟨ua, uc, rfl⟩ : ∃ ua uc, uv = .slice ua (m + 1) uc := by
        rcases ho.2 with ⟨_, h2⟩ | ⟨g, cc, cur, h2, _⟩
        · omega
        · exact ⟨_, _, h2⟩
      have lw6 := LW3.out.grow ho hg hs (fun x hx e => by cases e; exact NEA.out x hx rfl) (fun o2 ho2 => types_apart2 (LW3.out.owns o2 (List.mem_cons_of_mem _ ho2)) (LW3.out.owns _ List.mem_cons_self) (noT_ne o2 ho2))
      have lw7 := lw6.sub (L' := (q, 96, R) :: (q + 2, 96, Try.zeroCells96) :: L) (O' := ⟨107, 12, .slice ua (m + 1) uc, m + 1, flatT S.tl us ++ [.int .i64 fr, .int .i64 to, .int .u64 am, .bool e0, .bool e1, .bool e2, .bool e3, .bool li, .bool ac, .bool ov, .int .i64 er, .slice none 0 0]⟩ :: noT O) (fun x hx => by
        simp only [List.mem_cons] at hx ⊢
        rcases hx with rfl | rfl | hx
        · simp
        · simp
        · simp [hx]) (fun o ho => ho)
      have lw8 := lw7.setCell 65 (.slice ua (m + 1) uc) (fun x hx => by
        rcases List.mem_cons.1 hx with rfl | hx
        · show q + 2 ≠ q; omega
        · exact NEQ.out x hx) (fun o ho => by
        rcases List.mem_cons.1 ho with rfl | ho
        · show (107 : Nat) ≠ 96; decide
        · exact N96.out o (noT_sub o ho))
      obtain ⟨R', hR', iR', zR', oR', rt'⟩ := RST.out ua uc
      rw [hR'] at lw8
      have LW8 := Lib.hid lw8
      obtain ⟨V8, hV8⟩ : ∃ V8, u6.setCell ⟨q, 65, none⟩ (.slice ua (m + 1) uc) = V8 := ⟨_, rfl⟩
      rw [hV8] at LW8
      have HV8 := Lib.hid hV8
      have cq6 := (lw7.rows (q, 96, R) (by simp)).cell 65
      have fz6 : u6.frozen? ⟨q, 65, none⟩ = false := (lw7.rows (q, 96, R) (by simp)).frozen 65
      rw [RT.out] at cq6
      clear ho hg hs LW3 cu rYu lw6 lw7 lw8 R5 hV8
      go_wp2
      refine QF.eff_ok rfl ?_ ?_
      · (repeat (first | exact QC.obl_nil | refine QC.obl_is (by assumption) ?_ | (apply QC.obl_dep; (focus decide))))
      iterate 1
        (first
         | (apply QF.wpF_load
            (focus rfl)
            (focus rfl)
            (focus rfl)
            (focus rfl)
            (focus (assumption))
            (focus (intro u hu; go_simp))
            intro K hK
            go_simp
            refine hK _ ?_
            clear hK K)
         | (apply QF.wpF_pure
            (focus rfl)
            intro K hK
            go_simp
            first
             | (refine hK _ ?_; clear hK K)
             | (apply Exists.intro
                refine ⟨fun u => ?_, hK _ ?_⟩
                (focus (unfold QP.oat; go_simp; first | done | exact ⟨rfl, rfl⟩ | exact rfl))
                clear hK K)))
      apply QF.wpF_one
      (focus rfl)
      go_wp2_with (first | (rw [HV8.out]) | fail)
      refine QF.eff_ok rfl ?_ ?_
      · (repeat (first | exact QC.obl_nil | refine QC.obl_is (by assumption) ?_ | (apply QC.obl_dep; (focus decide))))
      refine QF.wpF_nil ?_
      clear cq6 fz6 HV8
      go_wp2
      refine QC.wp_region_d [5] [0, 1, 2, 3, 4, 5, 6, 7] (by kernel_rfl) (by kernel_rfl) (fun z d => ?_)
      have lwz := LW8.out.dr d
      have rR' : M.RowAt z q 96 R' := lwz.rows (q, 96, R') (by simp)
      have rZ' : M.RowAt z (q + 2) 96 Try.zeroCells96 := lwz.rows (q + 2, 96, Try.zeroCells96) (by simp)
      have cz := (rR'.cell 65).trans rt'
      have FIN := Lib.hid (FINQ.out ua uc R' z hR' lwz)
      have HLD := Lib.hid (run_loadVar_row (P := Try.prog) _ (q + 2) 96 96 R' (0, 0) _ (rZ'.setRow R') Try.underlying96 rfl iR')
      clear d lwz LW8
      refine QC.wpC_rest (fun u => M.RowAt u q 96 R') (.agg R') rfl (by decide) rfl rR' ?_ ?_
      · intro u hu; exact QP.oat_load_row (ty := 96) (x := .tmp 2) rfl q rfl 96 R' (0, 0) _ hu Try.underlying96 rfl iR' rfl
      try go_simp
      iterate 4
        (first
         | (apply QC.wpC_load
            (focus rfl)
            (focus decide)
            (focus rfl)
            (focus rfl)
            (focus rfl)
            (focus (assumption))
            (focus (intro u hu; go_simp))
            intro K hK
            go_simp
            refine hK _ ?_
            clear hK K)
         | (apply QC.wpC_pure
            (focus rfl)
            (focus decide)
            intro K hK
            go_simp
            first
             | (refine hK _ ?_; clear hK K)
             | (apply Exists.intro
                refine ⟨fun u => ?_, hK _ ?_⟩
                (focus (unfold QP.oat; go_simp; first | done | exact ⟨rfl, rfl⟩ | exact rfl))
                clear hK K)))
      have rq9 := rR'.farRow (show q + 2 ≠ q by omega) R'
      have cz9 := (rq9.cell 65).trans rt'
      apply QC.wpC_eff
      (focus rfl)
      (focus decide)
      go_wp2_with (first | (refine wpList_store_row (x := .tmp 4) (y := .tmp 20) (cells := R') (old := Try.zeroCells96) (t := 96) (ty := 96) (g := q + 2) ?_ ?_ ?_ ?_ rZ' iR' zR' oR' ?_; rfl; rfl; rfl; rfl) | fail)
      refine QC.eff_ok rfl ?_ ?_
      · (repeat (first | exact QC.obl_nil | refine QC.obl_is (by assumption) ?_ | (apply QC.obl_dep; (focus decide))))
      iterate 2
        (first
         | (apply QC.wpC_load
            (focus rfl)
            (focus decide)
            (focus rfl)
            (focus rfl)
            (focus rfl)
            (focus (assumption))
            (focus (intro u hu; go_simp))
            intro K hK
            go_simp
            refine hK _ ?_
            clear hK K)
         | (apply QC.wpC_pure
            (focus rfl)
            (focus decide)
            intro K hK
            go_simp
            first
             | (refine hK _ ?_; clear hK K)
             | (apply Exists.intro
                refine ⟨fun u => ?_, hK _ ?_⟩
                (focus (unfold QP.oat; go_simp; first | done | exact ⟨rfl, rfl⟩ | exact rfl))
                clear hK K)))
      refine QC.wpC_nil ?_
      go_wp2
      have hload := HLD.out
      exact bodyPost_ret (v := .tuple #[.agg R', .int .i64 m, .int .i64 0]) (by simp [results, Try.results76, asAddr, hload]) rfl FIN.out
  · skip
    apply QF.wpF_one
    (focus rfl)
    obtain ⟨n5, hn5⟩ : ∃ n5, u.heap.size = n5 := ⟨_, rfl⟩
    have N5Q := Lib.hid (show q + 2 < n5 from hn5 ▸ (LWU.out.rows (q + 2, 96, Try.zeroCells96) (by simp)).lt)
    have lwn := LWU.out.new 107 #[.int .i64 fr, .int .i64 to, .int .u64 am, .bool e0, .bool e1, .bool e2, .bool e3, .bool li, .bool ac, .bool ov, .int .i64 er, .slice none 0 0]
    obtain ⟨u1, hu1⟩ : ∃ uu, u.alloc (.cells #[.int .i64 fr, .int .i64 to, .int .u64 am, .bool e0, .bool e1, .bool e2, .bool e3, .bool li, .bool ac, .bool ov, .int .i64 er, .slice none 0 0] 107) = uu := ⟨_, rfl⟩
    rw [hu1, hn5] at lwn
    have HN5 := Lib.hid hn5; have HU1 := Lib.hid hu1
    clear LWU hn5 hu1 cu rYu
    have cu : u1.cell? ⟨q, 65, none⟩ = some (.slice ta m tc) := ((lwn.rows (q, 96, R) (by simp)).cell 65).trans RT.out
    have rYu : M.RowAt u1 (q + 1) 107 #[.int .i64 fr, .int .i64 to, .int .u64 am, .bool e0, .bool e1, .bool e2, .bool e3, .bool li, .bool ac, .bool ov, .int .i64 er, .slice none 0 0] := lwn.rows (q + 1, 107, #[.int .i64 fr, .int .i64 to, .int .u64 am, .bool e0, .bool e1, .bool e2, .bool e3, .bool li, .bool ac, .bool ov, .int .i64 er, .slice none 0 0]) (by simp)
    have LW1 := Lib.hid lwn
    clear lwn
    go_wp2_with (first | (rw [HN5.out, HU1.out]) | fail)
    refine QF.eff_ok rfl ?_ ?_
    · (repeat (first | exact QC.obl_nil | refine QC.obl_is (by assumption) ?_ | (apply QC.obl_dep; (focus decide))))
    clear HN5 HU1
    apply QF.wpF_one
    (focus rfl)
    obtain ⟨g0, hg0⟩ : ∃ g0, u1.heap.size = g0 := ⟨_, rfl⟩
    have NEG := Lib.hid (show ∀ x ∈ ((n5, 107, (#[.int .i64 fr, .int .i64 to, .int .u64 am, .bool e0, .bool e1, .bool e2, .bool e3, .bool li, .bool ac, .bool ov, .int .i64 er, .slice none 0 0] : Array Value)) :: ((q + 2, 96, Try.zeroCells96) :: (q + 1, 107, (#[.int .i64 fr, .int .i64 to, .int .u64 am, .bool e0, .bool e1, .bool e2, .bool e3, .bool li, .bool ac, .bool ov, .int .i64 er, .slice none 0 0] : Array Value)) :: (q, 96, R) :: L)), x.1 ≠ g0 from fun x hx e => by have := (LW1.out.rows x hx).lt; omega)
    have LTO := Lib.hid (show ∀ o ∈ O, ∀ g, o.v.ownBlock = some g → g < g0 from fun o ho g hg => by rw [← hg0]; exact ((LW1.out.owns o ho).lt g hg).2)
    have lwn := LW1.out.copied (t := 107) (sz := 12) (World.ownsRow_lit (base := u1.heap.size) (e := 107) (size := 12) u1 #[] 0 (Nat.le_refl _) (by unfold maxLen; omega) rfl) ((Below.refl _ _).alloc (Nat.le_refl _) _)
    obtain ⟨u2, hu1⟩ : ∃ uu, u1.alloc (.cells #[] 107) = uu := ⟨_, rfl⟩
    rw [hu1, hg0] at lwn
    have HG0 := Lib.hid hg0; have HU1 := Lib.hid hu1
    clear LW1 hg0 hu1 cu rYu
    have cu : u2.cell? ⟨q, 65, none⟩ = some (.slice ta m tc) := ((lwn.rows (q, 96, R) (by simp)).cell 65).trans RT.out
    have rYu : M.RowAt u2 (q + 1) 107 #[.int .i64 fr, .int .i64 to, .int .u64 am, .bool e0, .bool e1, .bool e2, .bool e3, .bool li, .bool ac, .bool ov, .int .i64 er, .slice none 0 0] := lwn.rows (q + 1, 107, #[.int .i64 fr, .int .i64 to, .int .u64 am, .bool e0, .bool e1, .bool e2, .bool e3, .bool li, .bool ac, .bool ov, .int .i64 er, .slice none 0 0]) (by simp)
    have LW2 := Lib.hid lwn
    clear lwn
    go_wp2_with (first | (rw [HG0.out, HU1.out]) | fail)
    refine QF.eff_ok rfl ?_ ?_
    · (repeat (first | exact QC.obl_nil | refine QC.obl_is (by assumption) ?_ | (apply QC.obl_dep; (focus decide))))
    clear HG0 HU1
    apply QF.wpF_one
    (focus rfl)
    go_wp2_with (at_builtin; refine wpList_append_copy _ rfl (.tmp 12) (.tmp 14) 93 rfl n 107 i0 _ 12 64 Try.underlying93 hi hz0 hz1 hz2 rfl (by decide) g0 ?za1 (LW2.out.owns _ List.mem_cons_self) n (.slice ta m tc) m (flatT S.tl us) ?za2 (LW2.out.owns _ (List.mem_cons_of_mem _ TIN.out)) FONE.out ?za4 ?za5 LW2.out.ge ?_)
    case za1 => rfl
    case za2 => rfl
    case za4 => have := M32.out; unfold maxLen; omega
    case za5 => have := M32.out; omega
    intro a' c' u3 ho hg hs
    have NEA := Lib.hid (show ∀ x ∈ ((n5, 107, (#[.int .i64 fr, .int .i64 to, .int .u64 am, .bool e0, .bool e1, .bool e2, .bool e3, .bool li, .bool ac, .bool ov, .int .i64 er, .slice none 0 0] : Array Value)) :: ((q + 2, 96, Try.zeroCells96) :: (q + 1, 107, (#[.int .i64 fr, .int .i64 to, .int .u64 am, .bool e0, .bool e1, .bool e2, .bool e3, .bool li, .bool ac, .bool ov, .int .i64 er, .slice none 0 0] : Array Value)) :: (q, 96, R) :: L)), x.1 ≠ a' from fun x hx => by
      have h1 := (LW2.out.rows x hx).lt
      have h2 := NEG.out x hx
      rcases hs with e | e
      · rw [e]; exact h2
      · omega)
    have lwn := LW2.out.grow ho hg (hs.elim (fun e => .inl (by rw [e]; rfl)) (fun e => .inr (fun g hg => by cases hg; exact e))) (fun x hx e => by cases e; exact NEG.out x hx rfl) (fun o2 ho2 => by
      cases h2 : o2.v.ownBlock with
      | none => exact .inl rfl
      | some g => exact .inr (fun e => by have := LTO.out o2 ho2 g h2; have e2 : some g = some g0 := e; have := Option.some.inj e2; omega))
    have lwn := lwn.sub (L' := ((n5, 107, (#[.int .i64 fr, .int .i64 to, .int .u64 am, .bool e0, .bool e1, .bool e2, .bool e3, .bool li, .bool ac, .bool ov, .int .i64 er, .slice none 0 0] : Array Value)) :: ((q + 2, 96, Try.zeroCells96) :: (q + 1, 107, (#[.int .i64 fr, .int .i64 to, .int .u64 am, .bool e0, .bool e1, .bool e2, .bool e3, .bool li, .bool ac, .bool ov, .int .i64 er, .slice none 0 0] : Array Value)) :: (q, 96, R) :: L))) (O' := ⟨107, 12, .slice (some ⟨a', 0, none⟩) m c', m, flatT S.tl us⟩ :: noT O) (fun x hx => hx) (fun o ho => by
      rcases List.mem_cons.1 ho with rfl | ho
      · exact List.mem_cons_self
      · exact List.mem_cons_of_mem _ (noT_sub o ho))
    clear ho hg hs LW2 cu rYu
    have cu : u3.cell? ⟨q, 65, none⟩ = some (.slice ta m tc) := ((lwn.rows (q, 96, R) (by simp)).cell 65).trans RT.out
    have rYu : M.RowAt u3 (q + 1) 107 #[.int .i64 fr, .int .i64 to, .int .u64 am, .bool e0, .bool e1, .bool e2, .bool e3, .bool li, .bool ac, .bool ov, .int .i64 er, .slice none 0 0] := lwn.rows (q + 1, 107, #[.int .i64 fr, .int .i64 to, .int .u64 am, .bool e0, .bool e1, .bool e2, .bool e3, .bool li, .bool ac, .bool ov, .int .i64 er, .slice none 0 0]) (by simp)
    have LW3 := Lib.hid lwn
    clear lwn
    go_wp2
    refine QF.eff_ok rfl ?_ ?_
    · (repeat (first | exact QC.obl_nil | refine QC.obl_is (by assumption) ?_ | (apply QC.obl_dep; (focus decide))))
    apply QF.wpF_one
    (focus rfl)
    have R5 := Lib.hid (LW3.out.rows (n5, 107, #[.int .i64 fr, .int .i64 to, .int .u64 am, .bool e0, .bool e1, .bool e2, .bool e3, .bool li, .bool ac, .bool ov, .int .i64 er, .slice none 0 0]) (by simp))
    go_wp2_with (at_builtin; refine wpList_append_sep2 _ rfl (.tmp 15) (.tmp 17) 93 rfl n 107 i0 _ 12 64 Try.underlying93 hi hz0 hz1 hz2 rfl (by decide) (.slice (some ⟨a', 0, none⟩) m c') m _ ?zb1 (LW3.out.owns _ List.mem_cons_self) ⟨n5, 0, none⟩ 1 1 [.int .i64 fr, .int .i64 to, .int .u64 am, .bool e0, .bool e1, .bool e2, .bool e3, .bool li, .bool ac, .bool ov, .int .i64 er, .slice none 0 0] ?zb2 rfl ?zb3 ?zb4 (by decide) ?zb5 ?zb6 LW3.out.ge ?_)
    case zb3 =>
      intro j x hx
      first | rw [Addr.add_mid, R5.out.cell, Nat.zero_add] | rw [R5.out.cell]
      simpa using hx
    case zb4 => first | exact YONE.out | (repeat' (first | rfl | apply And.intro))
    case zb5 => have := M32.out; unfold maxLen; omega
    case zb6 => have := M32.out; omega
    intro uv u6 ho hg hs
    obtain ⟨ua, uc, rfl⟩ : ∃ ua uc, uv = .slice ua (m + 1) uc := by
      rcases ho.2 with ⟨_, h2⟩ | ⟨g, cc, cur, h2, _⟩
      · omega
      · exact ⟨_, _, h2⟩
    have lw6 := LW3.out.grow ho hg hs (fun x hx e => by cases e; exact NEA.out x hx rfl) (fun o2 ho2 => types_apart2 (LW3.out.owns o2 (List.mem_cons_of_mem _ ho2)) (LW3.out.owns _ List.mem_cons_self) (noT_ne o2 ho2))
    have lw7 := lw6.sub (L' := (q, 96, R) :: (q + 2, 96, Try.zeroCells96) :: L) (O' := ⟨107, 12, .slice ua (m + 1) uc, m + 1, flatT S.tl us ++ [.int .i64 fr, .int .i64 to, .int .u64 am, .bool e0, .bool e1, .bool e2, .bool e3, .bool li, .bool ac, .bool ov, .int .i64 er, .slice none 0 0]⟩ :: noT O) (fun x hx => by
      simp only [List.mem_cons] at hx ⊢
      rcases hx with rfl | rfl | hx
      · simp
      · simp
      · simp [hx]) (fun o ho => ho)
    have lw8 := lw7.setCell 65 (.slice ua (m + 1) uc) (fun x hx => by
      rcases List.mem_cons.1 hx with rfl | hx
      · show q + 2 ≠ q; omega
      · exact NEQ.out x hx) (fun o ho => by
      rcases List.mem_cons.1 ho with rfl | ho
      · show (107 : Nat) ≠ 96; decide
      · exact N96.out o (noT_sub o ho))
    obtain ⟨R', hR', iR', zR', oR', rt'⟩ := RST.out ua uc
    rw [hR'] at lw8
    have LW8 := Lib.hid lw8
    obtain ⟨V8, hV8⟩ : ∃ V8, u6.setCell ⟨q, 65, none⟩ (.slice ua (m + 1) uc) = V8 := ⟨_, rfl⟩
    rw [hV8] at LW8
    have HV8 := Lib.hid hV8
    have cq6 := (lw7.rows (q, 96, R) (by simp)).cell 65
    have fz6 : u6.frozen? ⟨q, 65, none⟩ = false := (lw7.rows (q, 96, R) (by simp)).frozen 65
    rw [RT.out] at cq6
    clear ho hg hs LW3 cu rYu lw6 lw7 lw8 R5 hV8
    go_wp2
    refine QF.eff_ok rfl ?_ ?_
    · (repeat (first | exact QC.obl_nil | refine QC.obl_is (by assumption) ?_ | (apply QC.obl_dep; (focus decide))))
    iterate 1
      (first
       | (apply QF.wpF_load
          (focus rfl)
          (focus rfl)
          (focus rfl)
          (focus rfl)
          (focus (assumption))
          (focus (intro u hu; go_simp))
          intro K hK
          go_simp
          refine hK _ ?_
          clear hK K)
       | (apply QF.wpF_pure
          (focus rfl)
          intro K hK
          go_simp
          first
           | (refine hK _ ?_; clear hK K)
           | (apply Exists.intro
              refine ⟨fun u => ?_, hK _ ?_⟩
              (focus (unfold QP.oat; go_simp; first | done | exact ⟨rfl, rfl⟩ | exact rfl))
              clear hK K)))
    apply QF.wpF_one
    (focus rfl)
    go_wp2_with (first | (rw [HV8.out]) | fail)
    refine QF.eff_ok rfl ?_ ?_
    · (repeat (first | exact QC.obl_nil | refine QC.obl_is (by assumption) ?_ | (apply QC.obl_dep; (focus decide))))
    refine QF.wpF_nil ?_
    clear cq6 fz6 HV8
    go_wp2
    refine QC.wp_region_d [5] [0, 1, 2, 3, 4, 5, 6, 7] (by kernel_rfl) (by kernel_rfl) (fun z d => ?_)
    have lwz := LW8.out.dr d
    have rR' : M.RowAt z q 96 R' := lwz.rows (q, 96, R') (by simp)
    have rZ' : M.RowAt z (q + 2) 96 Try.zeroCells96 := lwz.rows (q + 2, 96, Try.zeroCells96) (by simp)
    have cz := (rR'.cell 65).trans rt'
    have FIN := Lib.hid (FINQ.out ua uc R' z hR' lwz)
    have HLD := Lib.hid (run_loadVar_row (P := Try.prog) _ (q + 2) 96 96 R' (0, 0) _ (rZ'.setRow R') Try.underlying96 rfl iR')
    clear d lwz LW8
    refine QC.wpC_rest (fun u => M.RowAt u q 96 R') (.agg R') rfl (by decide) rfl rR' ?_ ?_
    · intro u hu; exact QP.oat_load_row (ty := 96) (x := .tmp 2) rfl q rfl 96 R' (0, 0) _ hu Try.underlying96 rfl iR' rfl
    try go_simp
    iterate 4
      (first
       | (apply QC.wpC_load
          (focus rfl)
          (focus decide)
          (focus rfl)
          (focus rfl)
          (focus rfl)
          (focus (assumption))
          (focus (intro u hu; go_simp))
          intro K hK
          go_simp
          refine hK _ ?_
          clear hK K)
       | (apply QC.wpC_pure
          (focus rfl)
          (focus decide)
          intro K hK
          go_simp
          first
           | (refine hK _ ?_; clear hK K)
           | (apply Exists.intro
              refine ⟨fun u => ?_, hK _ ?_⟩
              (focus (unfold QP.oat; go_simp; first | done | exact ⟨rfl, rfl⟩ | exact rfl))
              clear hK K)))
    have rq9 := rR'.farRow (show q + 2 ≠ q by omega) R'
    have cz9 := (rq9.cell 65).trans rt'
    apply QC.wpC_eff
    (focus rfl)
    (focus decide)
    go_wp2_with (first | (refine wpList_store_row (x := .tmp 4) (y := .tmp 20) (cells := R') (old := Try.zeroCells96) (t := 96) (ty := 96) (g := q + 2) ?_ ?_ ?_ ?_ rZ' iR' zR' oR' ?_; rfl; rfl; rfl; rfl) | fail)
    refine QC.eff_ok rfl ?_ ?_
    · (repeat (first | exact QC.obl_nil | refine QC.obl_is (by assumption) ?_ | (apply QC.obl_dep; (focus decide))))
    iterate 2
      (first
       | (apply QC.wpC_load
          (focus rfl)
          (focus decide)
          (focus rfl)
          (focus rfl)
          (focus rfl)
          (focus (assumption))
          (focus (intro u hu; go_simp))
          intro K hK
          go_simp
          refine hK _ ?_
          clear hK K)
       | (apply QC.wpC_pure
          (focus rfl)
          (focus decide)
          intro K hK
          go_simp
          first
           | (refine hK _ ?_; clear hK K)
           | (apply Exists.intro
              refine ⟨fun u => ?_, hK _ ?_⟩
              (focus (unfold QP.oat; go_simp; first | done | exact ⟨rfl, rfl⟩ | exact rfl))
              clear hK K)))
    refine QC.wpC_nil ?_
    go_wp2
    have hload := HLD.out
    exact bodyPost_ret (v := .tuple #[.agg R', .int .i64 m, .int .i64 0]) (by simp [results, Try.results76, asAddr, hload]) rfl FIN.out
end
end Go.Proofs.Ytnnnbgndbmcffaa
namespace Go.Proofs.Ytnnnbgndbmcffaa
open Go.RowKit
set_option linter.unusedVariables false

theorem build105 (w : World) : (Instr.build 105 #[(0, .bool true), (1, .bool true), (2, .bool true), (3, .bool true)]).run Try.prog w = .ok (.agg #[.bool true, .bool true, .bool true, .bool true]) w := by kernel_rfl
theorem tcells_li : tcells liT (.slice none 0 0) = [.int .i64 0, .int .i64 0, .int .u64 0, .bool true, .bool true, .bool true, .bool true, .bool true, .bool false, .bool false, .int .i64 0, .slice none 0 0] := rfl
theorem build107l (w : World) : (Instr.build 107 #[(3, .agg #[.bool true, .bool true, .bool true, .bool true]), (4, .bool true)]).run Try.prog w = .ok (.agg #[.int .i64 0, .int .i64 0, .int .u64 0, .bool true, .bool true, .bool true, .bool true, .bool true, .bool false, .bool false, .int .i64 0, .slice none 0 0]) w := by kernel_rfl
section
variable {n : Nat} {w0 v : World} {b : Nat} {S0 S : BS} {L : List (Nat × TypeId × Array Value)} {O : List Ow} {s tv dv : Value}
theorem rbegin (h : LW n w0 b S0 L O v) (rb : RBO O S s tv dv) (X : Tsk) (hl : S.tl.length ≤ 32) (hX : X.told = []) :
    Calls Try.prog 76 #[.agg (RC s tv S.h dv), .agg (tcells X (.slice none 0 0)).toArray] v (RBeg n w0 b S0 L s dv (S.begin X)) := by
  by_cases h32 : 32 ≤ S.tl.length
  · exact rbegin_full h rb X h32 hl
  · exact rbegin_ok h rb X (by omega) hX
/-- what is stored last and returned -/
theorem rbeg_fin {q : Nat} {r : BS × Int × Int} {e : Ending} {w' : World} {K0 : List (Nat × TypeId × Array Value)} (hr : RBeg n w0 b S0 (K0 ++ (q, 96, Try.zeroCells96) :: L) s dv r e w') (hq : ∀ x ∈ L, x.1 ≠ q) :
    ∃ R', e = .returned (.tuple #[.agg R', .int .i64 r.2.1, .int .i64 r.2.2]) ∧ (Try.prog.info? 96).map (·.size) = some R'.size ∧ Try.zeroCells96.size = R'.size ∧ R'.all (·.oneCell') = true ∧ M.RowAt w' q 96 Try.zeroCells96 ∧
      RBeg n w0 b S0 L s dv r (.returned (.tuple #[.agg R', .int .i64 r.2.1, .int .i64 r.2.2])) (w'.setRow q R') := by
  obtain ⟨tv', O', rfl, lw, rb⟩ := hr
  refine ⟨_, rfl, info96 _ _ _ _, zero96 _ _ _ _, rb.ones, lw.rows (q, 96, Try.zeroCells96) (by simp), tv', O', rfl, ?_, rb⟩
  have h1 := lw.sub (L' := (q, 96, Try.zeroCells96) :: L) (fun x hx => List.mem_append.2 (.inr hx)) (fun o ho => ho)
  exact (h1.setRow _ hq rb.no96).sub (fun x hx => List.mem_cons_of_mem _ hx) (fun o ho => ho)
set_option maxRecDepth 100000 in
set_option maxHeartbeats 8000000 in
theorem rlist_any (h : LW n w0 b S0 L O v) (rb : RBO O S s tv dv) (hl : S.tl.length ≤ 32) : Calls Try.prog 57 #[.agg (RC s tv S.h dv)] v (RBeg n w0 b S0 L s dv S.list) := by
  obtain ⟨q, hq⟩ : ∃ q, v.heap.size = q := ⟨_, rfl⟩
  have lw1 := h.new 96 (RC s tv S.h dv)
  obtain ⟨V1, hV1⟩ : ∃ V1, v.alloc (.cells (RC s tv S.h dv) 96) = V1 := ⟨_, rfl⟩
  have s1 : V1.heap.size = q + 1 := by rw [← hV1, ← hq]; simp
  rw [hV1, hq] at lw1
  have lw2 := lw1.new 96 Try.zeroCells96
  obtain ⟨V2, hV2⟩ : ∃ V2, V1.alloc (.cells Try.zeroCells96 96) = V2 := ⟨_, rfl⟩
  rw [hV2, s1] at lw2
  have lw3 := lw2.sub (L' := [(q, 96, RC s tv S.h dv)] ++ (q + 1, 96, Try.zeroCells96) :: L) (fun x hx => by simp only [List.cons_append, List.nil_append, List.mem_cons] at hx ⊢; rcases hx with e | e | e; exact .inr (.inl e); exact .inl e; exact .inr (.inr e)) (fun o ho => ho)
  have BG := Lib.hid (rbegin lw3 rb liT hl rfl)
  have FQ := Lib.hid (fun e w' hr => rbeg_fin (q := q + 1) (K0 := [(q, 96, RC s tv S.h dv)]) (L := L) (b := b) (n := n) (w0 := w0) (S0 := S0) (s := s) (dv := dv) (r := S.begin liT) (e := e) (w' := w') hr (fun x hx => by have := (h.rows x hx).lt; omega))
  have rR : M.RowAt V2 q 96 (RC s tv S.h dv) := lw3.rows (q, 96, RC s tv S.h dv) (by simp)
  have hb105 := build105
  have hb107 := build107l
  have hSl : S.list = S.begin liT := rfl
  rw [hSl]
  have iR := info96 s tv dv S.h
  generalize RC s tv S.h dv = R at *
  rw [tcells_li] at BG
  obtain ⟨r, hr⟩ : ∃ r, S.begin liT = r := ⟨_, rfl⟩
  rw [hr] at BG FQ ⊢
  obtain ⟨r0, r1, r2⟩ := r
  have HQ := Lib.hid hq; have HV1 := Lib.hid hV1; have HV2 := Lib.hid hV2; have HS1 := Lib.hid s1
  clear lw1 lw2 lw3 hq hV1 hV2 s1 hr hSl h rb hl
  go_enter Try.func57, Try.ntmps57
  go_wp2_with (first | (rw [HQ.out, HV1.out]) | (rw [HS1.out, HV2.out]) | (refine wpList_load_row (x := .tmp 1) (ty := 96) (g := q) (cs := R) (t := 96) (fr := (0, 0)) ?_ ?_ ?_ _ rR Try.underlying96 rfl iR ?_; rfl; rfl; rfl) | fail)
  refine (BG.out).mono ?_
  rintro e w3 hrb
  obtain ⟨R', rfl, iR', zR', oR', rZ, fin⟩ := FQ.out _ _ hrb
  have hload := run_loadVar_row (P := Try.prog) _ (q + 1) 96 96 R' (0, 0) _ (rZ.setRow R') Try.underlying96 rfl iR'
  have FIN := Lib.hid fin; have HLD := Lib.hid hload
  clear BG FQ hrb fin hload
  go_wp2_with (first | (refine wpList_store_row (x := .tmp 2) (y := .tmp 9) (cells := R') (old := Try.zeroCells96) (t := 96) (ty := 96) (g := q + 1) ?_ ?_ ?_ ?_ rZ iR' zR' oR' ?_; rfl; rfl; rfl; rfl) | fail)
  have hload := HLD.out
  exact bodyPost_ret (v := .tuple #[.agg R', .int .i64 r1, .int .i64 r2]) (by simp [results, Try.results57, asAddr, hload]) rfl FIN.out
end
end Go.Proofs.Ytnnnbgndbmcffaa
namespace Go.Proofs.Ytnnnbgndbmcffaa
open Go.RowKit
set_option linter.unusedVariables false

theorem RC_range {w : World} {g : Nat} {s tv dv : Value} {h : Nat → Int} (r : M.RowAt w g 96 (RC s tv h dv)) : w.rangeAt g 0 (PV s).toList := fun j x hx => by
  rw [Nat.zero_add, r.cell]
  have hl := (List.getElem?_eq_some_iff.1 hx).1
  have h65 : j < 65 := by have := PV_size s; simpa [this] using hl
  have : (RC s tv h dv)[j]? = (PV s)[j]? := by
    have e := RC_P s tv dv h
    rw [← e, Array.getElem?_extract]
    simp [h65, RC_size]
  rw [this]; simpa using hx
section
variable {n : Nat} {w0 v : World} {b : Nat} {S0 S : BS} {L : List (Nat × TypeId × Array Value)} {O : List Ow} {s tv dv : Value}
set_option maxRecDepth 100000 in
set_option maxHeartbeats 8000000 in
theorem rstart_no (h : LW n w0 b S0 L O v) (rb : RBO O S s tv dv) (fr to am : Int) (hin : (inP S.n fr && inP S.n to) = false) : Calls Try.prog 56 #[.agg (RC s tv S.h dv), .int .i64 fr, .int .i64 to, .int .u64 am] v (RBeg n w0 b S0 L s dv (S.start fr to am)) := by
  have hb : S.start fr to am = (S, 0, 3) := by unfold BS.start; rw [if_neg (by rw [hin]; decide)]
  rw [hb]
  have ones := rb.ones
  obtain ⟨sa, sc, hsv⟩ := rb.sf
  have rin : ∀ u x, Calls Try.prog 75 #[.agg (PV s), .int .i64 x] u fun e w' => e = .returned (.bool (inP S.n x)) ∧ Below u.heap.size u w' := fun u x => by rw [hsv]; exact rin_any sa S.n sc x u
  obtain ⟨q, hq⟩ : ∃ q, v.heap.size = q := ⟨_, rfl⟩
  have lw1 := h.new 96 (RC s tv S.h dv)
  obtain ⟨V1, hV1⟩ : ∃ V1, v.alloc (.cells (RC s tv S.h dv) 96) = V1 := ⟨_, rfl⟩
  have s1 : V1.heap.size = q + 1 := by rw [← hV1, ← hq]; simp
  rw [hV1, hq] at lw1
  have lw2 := lw1.new 96 Try.zeroCells96
  obtain ⟨V2, hV2⟩ : ∃ V2, V1.alloc (.cells Try.zeroCells96 96) = V2 := ⟨_, rfl⟩
  rw [hV2, s1] at lw2
  have iP : (Try.prog.info? 50).map (·.size) = some (PV s).toList.length := by rw [Array.length_toList]; exact info50s s
  have rng := fun u (l : LW n w0 b S0 ((q + 1, 96, Try.zeroCells96) :: (q, 96, RC s tv S.h dv) :: L) O u) => RC_range (l.rows (q, 96, RC s tv S.h dv) (by simp))
  have iR := info96 s tv dv S.h; have zR := zero96 s tv dv S.h
  have finq : ∀ u, LW n w0 b S0 ((q + 1, 96, Try.zeroCells96) :: (q, 96, RC s tv S.h dv) :: L) O u → RBeg n w0 b S0 L s dv (S, 0, 3) (.returned (.tuple #[.agg (RC s tv S.h dv), .int .i64 0, .int .i64 3])) (u.setRow (q + 1) (RC s tv S.h dv)) := fun u l => by
    have l1 := l.setRow (RC s tv S.h dv) (fun x hx => by
      rcases List.mem_cons.1 hx with rfl | hx
      · show q ≠ q + 1; omega
      · have := (h.rows x hx).lt; omega) rb.no96
    exact ⟨tv, O, rfl, l1.sub (fun x hx => by simp [hx]) (fun o ho => ho), rb⟩
  generalize RC s tv S.h dv = R at *
  generalize hP : PV s = P at *
  have LW2 := Lib.hid lw2; have RIN := Lib.hid rin; have RNG := Lib.hid rng; have FINQ := Lib.hid finq
  have HQ := Lib.hid hq; have HV1 := Lib.hid hV1; have HV2 := Lib.hid hV2; have HS1 := Lib.hid s1
  have eP : P.toList.toArray = P := Array.toArray_toList
  have rP := RNG.out _ LW2.out
  clear lw1 lw2 hq hV1 hV2 s1 h rb hb rin rng finq hP hsv
  go_enter Try.func56, Try.ntmps56
  cases ha : inP S.n fr
  · have R1 := Lib.hid (RIN.out V2 fr)
    rw [ha] at R1
    clear ha hin
    go_wp2_with (first | (rw [HQ.out, HV1.out]) | (rw [HS1.out, HV2.out]) | (refine wpList_load_mid (x := .tmp 12) (ty := 50) (b := q) (o := 0) (cs := P.toList) ?_ ?_ ?_ _ rP Try.underlying50 rfl iP ?_; rfl; rfl; rfl) | fail)
    skip
    refine (R1.out).mono ?_
    rintro e w3 ⟨rfl, hb3⟩
    have LW3 := Lib.hid (LW2.out.same hb3)
    have rR := LW3.out.rows (q, 96, R) (by simp)
    have rZ := LW3.out.rows (q + 1, 96, Try.zeroCells96) (by simp)
    have hload := run_loadVar_row (P := Try.prog) _ (q + 1) 96 96 R (0, 0) _ (rZ.setRow R) Try.underlying96 rfl iR
    have FIN := Lib.hid (FINQ.out _ LW3.out); have HLD := Lib.hid hload
    clear hb3 R1 LW2 hload rP
    go_wp2_with (first | (refine wpList_load_row (x := .tmp 4) (ty := 96) (g := q) (cs := R) (t := 96) (fr := (0, 0)) ?_ ?_ ?_ _ rR Try.underlying96 rfl iR ?_; rfl; rfl; rfl) | (refine wpList_store_row (x := .tmp 8) (y := .tmp 24) (cells := R) (old := Try.zeroCells96) (t := 96) (ty := 96) (g := q + 1) ?_ ?_ ?_ ?_ rZ iR zR ones ?_; rfl; rfl; rfl; rfl) | fail)
    have hload := HLD.out
    exact bodyPost_ret (v := .tuple #[.agg R, .int .i64 0, .int .i64 3]) (by simp [results, Try.results56, asAddr, hload]) rfl FIN.out
  · rw [ha, Bool.true_and] at hin
    have R1 := Lib.hid (RIN.out V2 fr)
    rw [ha] at R1
    clear ha
    go_wp2_with (first | (rw [HQ.out, HV1.out]) | (rw [HS1.out, HV2.out]) | (refine wpList_load_mid (x := .tmp 12) (ty := 50) (b := q) (o := 0) (cs := P.toList) ?_ ?_ ?_ _ rP Try.underlying50 rfl iP ?_; rfl; rfl; rfl) | fail)
    refine (R1.out).mono ?_
    rintro e w3 ⟨rfl, hb3⟩
    have LW3 := Lib.hid (LW2.out.same hb3)
    have R2 := Lib.hid (RIN.out w3 to)
    rw [hin] at R2
    clear hb3 R1 LW2 rP hin
    have rP := RNG.out _ LW3.out
    go_wp2_with (first | (refine wpList_load_mid_g (x := .tmp 18) (ty := 50) (b := q) (p := 0) (cs := P.toList) ?_ ?_ ?_ _ rP Try.underlying50 rfl iP ?_; rfl; rfl; rfl) | fail)
    refine (R2.out).mono ?_
    rintro e w4 ⟨rfl, hb4⟩
    have LW4 := Lib.hid (LW3.out.same hb4)
    have rR := LW4.out.rows (q, 96, R) (by simp)
    have rZ := LW4.out.rows (q + 1, 96, Try.zeroCells96) (by simp)
    have hload := run_loadVar_row (P := Try.prog) _ (q + 1) 96 96 R (0, 0) _ (rZ.setRow R) Try.underlying96 rfl iR
    have FIN := Lib.hid (FINQ.out _ LW4.out); have HLD := Lib.hid hload
    clear hb4 R2 LW3 hload rP
    go_wp2_with (first | (refine wpList_load_row (x := .tmp 4) (ty := 96) (g := q) (cs := R) (t := 96) (fr := (0, 0)) ?_ ?_ ?_ _ rR Try.underlying96 rfl iR ?_; rfl; rfl; rfl) | (refine wpList_store_row (x := .tmp 8) (y := .tmp 24) (cells := R) (old := Try.zeroCells96) (t := 96) (ty := 96) (g := q + 1) ?_ ?_ ?_ ?_ rZ iR zR ones ?_; rfl; rfl; rfl; rfl) | fail)
    have hload := HLD.out
    exact bodyPost_ret (v := .tuple #[.agg R, .int .i64 0, .int .i64 3]) (by simp [results, Try.results56, asAddr, hload]) rfl FIN.out
end
end Go.Proofs.Ytnnnbgndbmcffaa
namespace Go.Proofs.Ytnnnbgndbmcffaa
open Go.RowKit
set_option linter.unusedVariables false

theorem build107s (fr to am : Int) (w : World) : (Instr.build 107 #[(0, .int .i64 fr), (1, .int .i64 to), (2, .int .u64 am)]).run Try.prog w = .ok (.agg #[.int .i64 fr, .int .i64 to, .int .u64 am, .bool false, .bool false, .bool false, .bool false, .bool false, .bool false, .bool false, .int .i64 0, .slice none 0 0]) w := by kernel_rfl
theorem mv_cells {fr to : Nat} (fi ti am : Int) (ra rc : Nat) (h : fi = (fr : Nat) ∧ ti = (to : Nat) ∧ fr % 4 = ra ∧ to % 4 = rc) : ((#[.int .i64 fi, .int .i64 ti, .int .u64 am, .bool false, .bool false, .bool false, .bool false, .bool false, .bool false, .bool false, .int .i64 0, .slice none 0 0] : Array Value).setIfInBounds (3 + ra) (.bool true)).setIfInBounds (3 + rc) (.bool true) = (tcells (mvT fr to am) (.slice none 0 0)).toArray := by
  obtain ⟨rfl, rfl, h1, h2⟩ := h
  have n : ∀ s : Nat, s < 4 → (mvT fr to am).need s = (decide (ra = s) || decide (rc = s)) := fun s hs => by
    unfold Tsk.need mvT
    simp only [Bool.false_or]
    congr 1
    · rw [Bool.eq_iff_iff]; simp; omega
    · rw [Bool.eq_iff_iff]; simp; omega
  have e0 := n 0 (by decide); have e1 := n 1 (by decide); have e2 := n 2 (by decide); have e3 := n 3 (by decide)
  unfold tcells
  rw [e0, e1, e2, e3]
  have a4 : ra < 4 := by omega
  have c4 : rc < 4 := by omega
  obtain rfl | rfl | rfl | rfl : ra = 0 ∨ ra = 1 ∨ ra = 2 ∨ ra = 3 := by omega
  all_goals (obtain rfl | rfl | rfl | rfl : rc = 0 ∨ rc = 1 ∨ rc = 2 ∨ rc = 3 := by omega)
  all_goals first | rfl | simp [mvT]
section
variable {n : Nat} {w0 v v' : World} {b : Nat} {S0 S : BS} {L : List (Nat × TypeId × Array Value)} {O : List Ow} {s tv dv : Value}
/-- one of the law's own rows was written; apart by blocks -/
theorem LW.butA {g : Nat} {t : TypeId} {cs cs' : Array Value} (h : LW n w0 b S ((g, t, cs) :: L) O v) (hb : M.But g v v') (hr : M.RowAt v' g t cs') (hL : ∀ x ∈ L, x.1 ≠ g) (hap : ∀ o ∈ O, some g ≠ o.v.ownBlock) : LW n w0 b S ((g, t, cs') :: L) O v' := by
  have hrow := h.rows _ List.mem_cons_self
  obtain ⟨⟨rk, a, c, d, e⟩, r, rg, ow, bl, ge⟩ := h
  have hg := rg (g, t, cs) List.mem_cons_self
  refine ⟨⟨rk, a.foreign (Chg.ofBut hb (d (g, t, cs) List.mem_cons_self)), c, fun x hx => ?_, e⟩, fun x hx => ?_, fun x hx => ?_, fun o ho => (ow o ho).kept (but_grown hb) (.inr fun e => hap o ho e.symm), hb.below bl hg ge, Nat.le_trans ge hb.size⟩
  · rcases List.mem_cons.1 hx with e1 | e1
    · subst e1; exact d (g, t, cs) List.mem_cons_self
    · exact d x (List.mem_cons_of_mem _ e1)
  · rcases List.mem_cons.1 hx with e1 | e1
    · subst e1; exact hr
    · exact hb.row (r x (List.mem_cons_of_mem _ e1)) (hL x e1)
  · rcases List.mem_cons.1 hx with e1 | e1
    · subst e1; exact hg
    · exact rg x (List.mem_cons_of_mem _ e1)
theorem LW.setCellA {g : Nat} {t : TypeId} {cs : Array Value} (h : LW n w0 b S ((g, t, cs) :: L) O v) (j : Nat) (x : Value) (hL : ∀ x ∈ L, x.1 ≠ g) (hap : ∀ o ∈ O, some g ≠ o.v.ownBlock) : LW n w0 b S ((g, t, cs.setIfInBounds j x) :: L) O (v.setCell ⟨g, j, none⟩ x) :=
  h.butA ((M.But.refl g v).set (.inl rfl) x) ((h.rows _ List.mem_cons_self).set j x) hL hap
set_option maxRecDepth 100000 in
set_option maxHeartbeats 8000000 in
theorem rstart_yes (h : LW n w0 b S0 L O v) (rb : RBO O S s tv dv) (fr to : Nat) (am : Int) (hfr : fr < S.n) (hto : to < S.n) (hl : S.tl.length ≤ 32) (hn32 : S.n ≤ 32) : Calls Try.prog 56 #[.agg (RC s tv S.h dv), .int .i64 (fr : Nat), .int .i64 (to : Nat), .int .u64 am] v (RBeg n w0 b S0 L s dv (S.start fr to am)) := by
  have hi1 : inP S.n (fr : Nat) = true := by unfold inP; simp; omega
  have hi2 : inP S.n (to : Nat) = true := by unfold inP; simp; omega
  have hb : S.start (fr : Nat) (to : Nat) am = S.begin (mvT fr to am) := by unfold BS.start; rw [if_pos (by rw [hi1, hi2]; rfl)]
  rw [hb]
  have ones := rb.ones
  obtain ⟨sa, sc, hsv⟩ := rb.sf
  have rin : ∀ u x, Calls Try.prog 75 #[.agg (PV s), .int .i64 x] u fun e w' => e = .returned (.bool (inP S.n x)) ∧ Below u.heap.size u w' := fun u x => by rw [hsv]; exact rin_any sa S.n sc x u
  obtain ⟨q, hq⟩ : ∃ q, v.heap.size = q := ⟨_, rfl⟩
  have lw1 := h.new 96 (RC s tv S.h dv)
  obtain ⟨V1, hV1⟩ : ∃ V1, v.alloc (.cells (RC s tv S.h dv) 96) = V1 := ⟨_, rfl⟩
  have s1 : V1.heap.size = q + 1 := by rw [← hV1, ← hq]; simp
  rw [hV1, hq] at lw1
  have lw2 := lw1.new 96 Try.zeroCells96
  obtain ⟨V2, hV2⟩ : ∃ V2, V1.alloc (.cells Try.zeroCells96 96) = V2 := ⟨_, rfl⟩
  rw [hV2, s1] at lw2
  have iP : (Try.prog.info? 50).map (·.size) = some (PV s).toList.length := by rw [Array.length_toList]; exact info50s s
  have rng := fun u (l : LW n w0 b S0 ((q + 1, 96, Try.zeroCells96) :: (q, 96, RC s tv S.h dv) :: L) O u) => RC_range (l.rows (q, 96, RC s tv S.h dv) (by simp))
  have iR := info96 s tv dv S.h; have zR := zero96 s tv dv S.h
  have NL := Lib.hid (show ∀ x ∈ L, x.1 < q from fun x hx => by have := (h.rows x hx).lt; omega)
  have RBG := Lib.hid (fun (u : World) (K0 : List (Nat × TypeId × Array Value)) (l : LW n w0 b S0 K0 O u) => rbegin l rb (mvT fr to am) hl rfl)
  have iY := info107y (mvT fr to am) (.slice none 0 0)
  obtain ⟨Y, hY⟩ : ∃ Y, (tcells (mvT fr to am) (.slice none 0 0)).toArray = Y := ⟨_, rfl⟩
  have YEQ := Lib.hid (fun (fi ti : Int) (ra rc : Nat) (h : fi = (fr : Nat) ∧ ti = (to : Nat) ∧ fr % 4 = ra ∧ to % 4 = rc) => (mv_cells fi ti am ra rc h).trans hY)
  rw [hY] at RBG iY
  obtain ⟨r, hr⟩ : ∃ r, S.begin (mvT fr to am) = r := ⟨_, rfl⟩
  rw [hr] at RBG ⊢
  obtain ⟨r0, r1, r2⟩ := r
  generalize RC s tv S.h dv = R at *
  generalize hP : PV s = P at *
  have LW2 := Lib.hid lw2; have RIN := Lib.hid rin; have RNG := Lib.hid rng; skip
  have HQ := Lib.hid hq; have HV1 := Lib.hid hV1; have HV2 := Lib.hid hV2; have HS1 := Lib.hid s1
  have eP : P.toList.toArray = P := Array.toArray_toList
  have rP := RNG.out _ LW2.out
  clear lw1 lw2 hq hV1 hV2 s1 h rb hb rin rng hP hsv hr hl hY
  go_enter Try.func56, Try.ntmps56
  have R1 := Lib.hid (RIN.out V2 (fr : Nat))
  rw [hi1] at R1
  have hb107 := build107s
  go_wp2_with (first | (rw [HQ.out, HV1.out]) | (rw [HS1.out, HV2.out]) | (refine wpList_load_mid (x := .tmp 12) (ty := 50) (b := q) (o := 0) (cs := P.toList) ?_ ?_ ?_ _ rP Try.underlying50 rfl iP ?_; rfl; rfl; rfl) | fail)
  refine (R1.out).mono ?_
  rintro e w3 ⟨rfl, hb3⟩
  have LW3 := Lib.hid (LW2.out.same hb3)
  have R2 := Lib.hid (RIN.out w3 (to : Nat))
  rw [hi2] at R2
  clear hb3 R1 LW2 rP
  have rP := RNG.out _ LW3.out
  go_wp2_with (first | (refine wpList_load_mid_g (x := .tmp 18) (ty := 50) (b := q) (p := 0) (cs := P.toList) ?_ ?_ ?_ _ rP Try.underlying50 rfl iP ?_; rfl; rfl; rfl) | fail)
  refine (R2.out).mono ?_
  rintro e w4 ⟨rfl, hb4⟩
  have LW4 := Lib.hid (LW3.out.same hb4)
  clear hb4 R2 LW3 rP
  have i3 : (0 : Int) ≤ (fr : Nat) := by omega
  have i4 : (0 : Int) ≤ (to : Nat) := by omega
  obtain ⟨ra, hra⟩ : ∃ ra, fr % 4 = ra := ⟨_, rfl⟩
  obtain ⟨rc, hrc⟩ : ∃ rc, to % 4 = rc := ⟨_, rfl⟩
  have hra4 : ra < 4 := by omega
  have hrc4 : rc < 4 := by omega
  have m3 : (((fr : Nat) : Int).tmod 4) = (ra : Int) := by rw [Int.tmod_eq_emod_of_nonneg i3]; omega
  have m4 : (((to : Nat) : Int).tmod 4) = (rc : Int) := by rw [Int.tmod_eq_emod_of_nonneg i4]; omega
  obtain ⟨fi, hfi⟩ : ∃ fi : Int, fi = (fr : Nat) := ⟨_, rfl⟩
  obtain ⟨ti, hti⟩ : ∃ ti : Int, ti = (to : Nat) := ⟨_, rfl⟩
  have HM := Lib.hid (show fi = (fr : Nat) ∧ ti = (to : Nat) ∧ fr % 4 = ra ∧ to % 4 = rc from ⟨hfi, hti, hra, hrc⟩)
  rw [← hfi] at m3 ⊢
  rw [← hti] at m4 ⊢
  rw [← hfi] at hi1; rw [← hti] at hi2
  clear hfi hti
  clear hfr hto hra hrc i3 i4
  have lw5 := LW4.out.new 107 #[.int .i64 fi, .int .i64 ti, .int .u64 am, .bool false, .bool false, .bool false, .bool false, .bool false, .bool false, .bool false, .int .i64 0, .slice none 0 0]
  obtain ⟨g5, hg5⟩ : ∃ g5, w4.heap.size = g5 := ⟨_, rfl⟩
  have hap : ∀ o ∈ O, some g5 ≠ o.v.ownBlock := fun o ho e => by have := ((LW4.out.owns o ho).lt g5 e.symm).2; omega
  have hap2 : ∀ x ∈ (q + 1, 96, Try.zeroCells96) :: (q, 96, R) :: L, x.1 ≠ g5 := fun x hx e => by have := (LW4.out.rows x hx).lt; omega
  obtain ⟨V5, hV5⟩ : ∃ V5, w4.alloc (.cells #[.int .i64 fi, .int .i64 ti, .int .u64 am, .bool false, .bool false, .bool false, .bool false, .bool false, .bool false, .bool false, .int .i64 0, .slice none 0 0] 107) = V5 := ⟨_, rfl⟩
  rw [hg5, hV5] at lw5
  have LW5 := Lib.hid lw5; have HAP := Lib.hid hap; have HAP2 := Lib.hid hap2; have HG5 := Lib.hid hg5; have HV5 := Lib.hid hV5
  clear lw5 hap hap2 hg5 hV5
  have cellOf : ∀ (W : World) (cs : Array Value) (r : Nat), cs.size = 12 → M.RowAt W g5 107 cs → r < 4 → ∃ y, W.cell? ⟨g5, 3 + r, none⟩ = some y := fun W cs r hs hr h4 => ⟨cs[3 + r]'(by omega), (hr.cell _).trans (Array.getElem?_eq_getElem (by omega))⟩
  have rG5 := LW5.out.rows (g5, 107, #[.int .i64 fi, .int .i64 ti, .int .u64 am, .bool false, .bool false, .bool false, .bool false, .bool false, .bool false, .bool false, .int .i64 0, .slice none 0 0]) (by simp)
  obtain ⟨y5, c5⟩ := cellOf _ _ ra rfl rG5 hra4
  have f5 : V5.frozen? ⟨g5, 3 + ra, none⟩ = false := rG5.frozen _
  have lw6 := LW5.out.setCellA (3 + ra) (.bool true) HAP2.out HAP.out
  obtain ⟨V6, hV6⟩ : ∃ V6, V5.setCell ⟨g5, 3 + ra, none⟩ (.bool true) = V6 := ⟨_, rfl⟩
  rw [hV6] at lw6
  have rG6 := lw6.rows _ List.mem_cons_self
  obtain ⟨y6, c6⟩ := cellOf _ _ rc (by simp) rG6 hrc4
  have f6 : V6.frozen? ⟨g5, 3 + rc, none⟩ = false := rG6.frozen _
  have lw7 := lw6.setCellA (3 + rc) (.bool true) HAP2.out HAP.out
  obtain ⟨V7, hV7⟩ : ∃ V7, V6.setCell ⟨g5, 3 + rc, none⟩ (.bool true) = V7 := ⟨_, rfl⟩
  rw [hV7, YEQ.out fi ti ra rc HM.out] at lw7
  have lw8 := lw7.sub (L' := [(g5, 107, Y), (q, 96, R)] ++ (q + 1, 96, Try.zeroCells96) :: L) (fun x hx => by simp only [List.cons_append, List.nil_append, List.mem_cons] at hx ⊢; rcases hx with e | e | e | e; exact .inl e; exact .inr (.inr (.inl e)); exact .inr (.inl e); exact .inr (.inr (.inr e))) (fun o ho => ho)
  have BG := Lib.hid (RBG.out _ _ lw8)
  have rY : M.RowAt V7 g5 107 Y := lw8.rows (g5, 107, Y) (by simp)
  have rR7 : M.RowAt V7 q 96 R := lw8.rows (q, 96, R) (by simp)
  have FQ := Lib.hid (fun e w' hr => rbeg_fin (q := q + 1) (K0 := [(g5, 107, Y), (q, 96, R)]) (L := L) (b := b) (n := n) (w0 := w0) (S0 := S0) (s := s) (dv := dv) (r := (r0, r1, r2)) (e := e) (w' := w') hr (fun x hx => by have := NL.out x hx; omega))
  have HV6 := Lib.hid hV6; have HV7 := Lib.hid hV7
  clear lw6 lw7 lw8 hV6 hV7 rG5 rG6 cellOf LW5
  have wra : IntKind.i64.wrap (ra : Int) = (ra : Int) := IntWalk.i64_in _ (by omega)
  have wrc : IntKind.i64.wrap (rc : Int) = (rc : Int) := IntWalk.i64_in _ (by omega)
  have i5 : (ra : Int) < 4 := by omega
  have i6 : (rc : Int) < 4 := by omega
  go_wp2_with (first | (rw [HG5.out, HV5.out]) | (rw [HV6.out]) | (rw [HV7.out]) | (refine wpList_load_row (x := .tmp 4) (ty := 96) (g := q) (cs := R) (t := 96) (fr := (0, 0)) ?_ ?_ ?_ _ rR7 Try.underlying96 rfl iR ?_; rfl; rfl; rfl) | (refine wpList_load_row (x := .tmp 11) (ty := 107) (g := g5) (cs := Y) (t := 107) (fr := (0, 0)) ?_ ?_ ?_ _ rY Try.underlying107 rfl iY ?_; rfl; rfl; rfl) | fail)
  refine (BG.out).mono ?_
  rintro e w3 hrb
  obtain ⟨R', rfl, iR', zR', oR', rZ, fin⟩ := FQ.out _ _ hrb
  have hload := run_loadVar_row (P := Try.prog) _ (q + 1) 96 96 R' (0, 0) _ (rZ.setRow R') Try.underlying96 rfl iR'
  have FIN := Lib.hid fin; have HLD := Lib.hid hload
  clear BG FQ hrb fin hload
  go_wp2_with (first | (refine wpList_store_row (x := .tmp 8) (y := .tmp 40) (cells := R') (old := Try.zeroCells96) (t := 96) (ty := 96) (g := q + 1) ?_ ?_ ?_ ?_ rZ iR' zR' oR' ?_; rfl; rfl; rfl; rfl) | fail)
  have hload := HLD.out
  exact bodyPost_ret (v := .tuple #[.agg R', .int .i64 r1, .int .i64 r2]) (by simp [results, Try.results56, asAddr, hload]) rfl FIN.out
end
end Go.Proofs.Ytnnnbgndbmcffaa
namespace Go.Proofs.Ytnnnbgndbmcffaa
open Go.RowKit
set_option linter.unusedVariables false

/-- what the reference leaves where a step is done -/
def RStp (n : Nat) (w0 : World) (b : Nat) (S0 : BS) (L : List (Nat × TypeId × Array Value)) (r : BS × Int) (e : Ending) (w' : World) : Prop :=
  ∃ s' tv' dv' O', e = .returned (.tuple #[.agg (RC s' tv' r.1.h dv'), .int .i64 r.2]) ∧ LW n w0 b S0 L O' w' ∧ RBO O' r.1 s' tv' dv'
section
variable {n : Nat} {w0 v : World} {b : Nat} {S0 S : BS} {L : List (Nat × TypeId × Array Value)} {O : List Ow} {s tv dv : Value}
theorem RStp.fin {q : Nat} {S' : BS} {x : Int} (lw : LW n w0 b S0 ((q, 96, RC s tv S'.h dv) :: (q + 1, 96, Try.zeroCells96) :: L) O v) (rb : RBO O S' s tv dv) (hq : ∀ y ∈ L, y.1 < q) :
    RStp n w0 b S0 L (S', x) (.returned (.tuple #[.agg (RC s tv S'.h dv), .int .i64 x])) (v.setRow (q + 1) (RC s tv S'.h dv)) := by
  have l1 := lw.sub (L' := (q + 1, 96, Try.zeroCells96) :: (q, 96, RC s tv S'.h dv) :: L) (fun x hx => by simp only [List.mem_cons] at hx ⊢; rcases hx with e | e | e; exact .inr (.inl e); exact .inl e; exact .inr (.inr e)) (fun o ho => ho)
  have l2 := l1.setRow (RC s tv S'.h dv) (fun y hy => by
    rcases List.mem_cons.1 hy with rfl | hy
    · show q ≠ q + 1; omega
    · have := hq y hy; omega) rb.no96
  exact ⟨s, tv, dv, O, rfl, l2.sub (fun x hx => by simp [hx]) (fun o ho => ho), rb⟩
/-- a task's cells -/
theorem LW.tc {tl : List Tsk} {us : List Value} (h : LW n w0 b S0 L O v) (ho : OwT tv tl us ∈ O) (hl : us.length = tl.length) {i : Nat} {T : Tsk} (hT : tl[i]? = some T) :
    ∃ tg tc u, tv = .slice (some ⟨tg, 0, none⟩) tl.length tc ∧ us[i]? = some u ∧ ∀ j x, (tcells T u)[j]? = some x → v.cell? ⟨tg, i * 12 + j, none⟩ = some x := by
  have hi := (List.getElem?_eq_some_iff.1 hT).1
  have own := h.owns _ ho
  rcases own.2 with ⟨_, h0⟩ | ⟨g, cap, cur, hv, _⟩
  · have h0 : tl.length = 0 := h0
    omega
  · have hv : tv = .slice (some ⟨g, 0, none⟩) tl.length cap := hv
    refine ⟨g, cap, us[i]'(by omega), hv, List.getElem?_eq_getElem (by omega), fun j x hx => ?_⟩
    have hj : j < 12 := (List.getElem?_eq_some_iff.1 hx).1
    have := own.cells (g := g) (by show tv.ownBlock = _; rw [hv]; rfl) (i * 12 + j) x (by
      show (flatT tl us)[i * 12 + j]? = _
      rw [flatT_at tl us i T _ hT (List.getElem?_eq_getElem (by omega)) j hj]; exact hx)
    rw [Addr.add_mid, Nat.zero_add] at this
    exact this
set_option maxRecDepth 100000 in
set_option maxHeartbeats 8000000 in
theorem rstep_no (h : LW n w0 b S0 L O v) (rb : RBO O S s tv dv) (id : Int) (hc : id < 0 ∨ (S.tl.length : Int) ≤ id ∨ ∃ (i : Nat) (T : Tsk), id = (i : Nat) ∧ S.tl[i]? = some T ∧ T.m + 2 ≤ T.k) (h32 : S.tl.length ≤ 32) : Calls Try.prog 58 #[.agg (RC s tv S.h dv), .int .i64 id] v (RStp n w0 b S0 L (S.step id)) := by
  have hb : S.step id = (S, 3) := by
    rcases hc with hc | hc | ⟨i, T, rfl, hT, hk⟩
    · exact rstep_neg S hc
    · obtain ⟨i, rfl⟩ : ∃ i : Nat, id = (i : Nat) := ⟨id.toNat, by omega⟩
      exact rstep_out S (by omega)
    · exact rstep_over hT hk
  rw [hb]
  have ones := rb.ones
  obtain ⟨q, hq⟩ : ∃ q, v.heap.size = q := ⟨_, rfl⟩
  have NL := Lib.hid (show ∀ y ∈ L, y.1 < q from fun y hy => by have := (h.rows y hy).lt; omega)
  have lw1 := h.new 96 (RC s tv S.h dv)
  obtain ⟨V1, hV1⟩ : ∃ V1, v.alloc (.cells (RC s tv S.h dv) 96) = V1 := ⟨_, rfl⟩
  have s1 : V1.heap.size = q + 1 := by rw [← hV1, ← hq]; simp
  rw [hV1, hq] at lw1
  have lw2 := lw1.new 96 Try.zeroCells96
  obtain ⟨V2, hV2⟩ : ∃ V2, V1.alloc (.cells Try.zeroCells96 96) = V2 := ⟨_, rfl⟩
  rw [hV2, s1] at lw2
  have lw3 := lw2.sub (L' := (q, 96, RC s tv S.h dv) :: (q + 1, 96, Try.zeroCells96) :: L) (fun x hx => by simp only [List.mem_cons] at hx ⊢; rcases hx with e | e | e; exact .inr (.inl e); exact .inl e; exact .inr (.inr e)) (fun o ho => ho)
  have rR := lw3.rows (q, 96, RC s tv S.h dv) (by simp)
  have rZ := lw3.rows (q + 1, 96, Try.zeroCells96) (by simp)
  have iR := info96 s tv dv S.h; have zR := zero96 s tv dv S.h
  have HQ := Lib.hid hq; have HV1 := Lib.hid hV1; have HV2 := Lib.hid hV2; have HS1 := Lib.hid s1
  have FIN := Lib.hid (RStp.fin (x := 3) lw3 rb NL.out)
  have hload := run_loadVar_row (P := Try.prog) _ (q + 1) 96 96 (RC s tv S.h dv) (0, 0) _ (rZ.setRow (RC s tv S.h dv)) Try.underlying96 rfl iR
  have HLD := Lib.hid hload
  obtain ⟨us, hus, hOT, _⟩ := rb.ts
  have TCH := Lib.hid (fun (i : Nat) (T : Tsk) (hT : S.tl[i]? = some T) => lw3.tc hOT hus hT)
  obtain ⟨m, hm⟩ : ∃ m, S.tl.length = m := ⟨_, rfl⟩
  obtain ⟨ta, tc, htv⟩ := rb.tf
  have c65 : V2.cell? ⟨q, 65, none⟩ = some tv := (rR.cell 65).trans (RC_T _ _ _ _)
  rw [htv, hm] at c65
  have HTV := Lib.hid htv; have HM := Lib.hid hm
  generalize RC s tv S.h dv = R at *
  have HC := Lib.hid hc
  clear lw1 lw2 lw3 hq hV1 hV2 s1 h rb hb hus hOT hload htv hm hc
  go_enter Try.func58, Try.ntmps58
  by_cases hneg : id < 0
  · have d1 : decide (id < 0) = true := by simpa using hneg
    clear HC hneg
    go_wp2_with (first | (rw [HQ.out, HV1.out]) | (rw [HS1.out, HV2.out]) | (refine wpList_load_row (x := .tmp 2) (ty := 96) (g := q) (cs := R) (t := 96) (fr := (0, 0)) ?_ ?_ ?_ _ rR Try.underlying96 rfl iR ?_; rfl; rfl; rfl) | (refine wpList_store_row (x := .tmp 4) (y := .tmp 27) (cells := R) (old := Try.zeroCells96) (t := 96) (ty := 96) (g := q + 1) ?_ ?_ ?_ ?_ rZ iR zR ones ?_; rfl; rfl; rfl; rfl))
    have hload := HLD.out
    exact bodyPost_ret (v := .tuple #[.agg R, .int .i64 (3)]) (by simp [results, Try.results58, asAddr, hload]) rfl FIN.out
  · have d1 : decide (id < 0) = false := by simpa using hneg
    by_cases hge : (m : Int) ≤ id
    · have d2 : decide ((m : Int) ≤ id) = true := by simpa using hge
      clear HC hneg hge
      go_wp2_with (first | (rw [HQ.out, HV1.out]) | (rw [HS1.out, HV2.out]) | (refine wpList_load_row (x := .tmp 2) (ty := 96) (g := q) (cs := R) (t := 96) (fr := (0, 0)) ?_ ?_ ?_ _ rR Try.underlying96 rfl iR ?_; rfl; rfl; rfl) | (refine wpList_store_row (x := .tmp 4) (y := .tmp 27) (cells := R) (old := Try.zeroCells96) (t := 96) (ty := 96) (g := q + 1) ?_ ?_ ?_ ?_ rZ iR zR ones ?_; rfl; rfl; rfl; rfl))
      have hload := HLD.out
      exact bodyPost_ret (v := .tuple #[.agg R, .int .i64 (3)]) (by simp [results, Try.results58, asAddr, hload]) rfl FIN.out
    · have d2 : decide ((m : Int) ≤ id) = false := by simpa using hge
      obtain ⟨i, T, rfl, hT, hk⟩ : ∃ (i : Nat) (T : Tsk), id = (i : Nat) ∧ S.tl[i]? = some T ∧ T.m + 2 ≤ T.k := by
        rcases HC.out with h1 | h1 | h1
        · exact absurd h1 hneg
        · rw [HM.out] at h1; exact absurd h1 hge
        · exact h1
      obtain ⟨tg, tc', u, htv, hu, tcl⟩ := TCH.out i T hT
      rw [HTV.out] at htv
      have hta : ta = some ⟨tg, 0, none⟩ := by cases htv; rfl
      subst hta
      have cov := tcl 9 (.bool (decide (T.m + 2 ≤ T.k))) rfl
      rw [decide_eq_true hk] at cov
      have i1 : ((i : Nat) : Int) < (m : Nat) := by omega
      have i0 : (0 : Int) ≤ (i : Nat) := by omega
      clear HC hneg hge TCH tcl htv hk hT hu HTV
      go_wp2_with (first | (rw [HQ.out, HV1.out]) | (rw [HS1.out, HV2.out]) | (refine wpList_load_row (x := .tmp 2) (ty := 96) (g := q) (cs := R) (t := 96) (fr := (0, 0)) ?_ ?_ ?_ _ rR Try.underlying96 rfl iR ?_; rfl; rfl; rfl) | (refine wpList_store_row (x := .tmp 4) (y := .tmp 27) (cells := R) (old := Try.zeroCells96) (t := 96) (ty := 96) (g := q + 1) ?_ ?_ ?_ ?_ rZ iR zR ones ?_; rfl; rfl; rfl; rfl))
      have hload := HLD.out
      exact bodyPost_ret (v := .tuple #[.agg R, .int .i64 (3)]) (by simp [results, Try.results58, asAddr, hload]) rfl FIN.out
/-- a task took a lock, or goes on so that the reference cannot see it -/
theorem RBO.nexts {i s0 : Nat} {T : Tsk} (rb : RBO O S s tv dv) (hT : S.tl[i]? = some T) (hnx : T.needs[T.k]? = some s0) {h' : Nat → Int} : RBO O { S with h := h', tl := S.tl.set i T.next } s tv dv := by
  have hlt : T.k < T.m := (List.getElem?_eq_some_iff.1 hnx).1
  obtain ⟨us, hus, hOT, htold⟩ := rb.ts
  have sl : (S.tl.set i T.next).length = S.tl.length := List.length_set
  have eq : ∀ us, flatT (S.tl.set i T.next) us = flatT S.tl us := fun us => flatT_same S.tl us i T T.next hT (fun u => by
    unfold tcells Tsk.next
    have h1 : decide (T.m < T.k + 1) = decide (T.m < T.k) := by apply decide_eq_decide.2; omega
    have h2 : decide (T.m + 2 ≤ T.k + 1) = decide (T.m + 2 ≤ T.k) := by apply decide_eq_decide.2; omega
    show [_, _, _, _, _, _, _, _, Value.bool (decide (T.m < T.k + 1)), Value.bool (decide (T.m + 2 ≤ T.k + 1)), _, _] = _
    rw [h1, h2]; rfl)
  refine ⟨rb.sf, ?_, rb.df, rb.bal, rb.dn, ⟨us, by show us.length = (S.tl.set i T.next).length; rw [sl]; exact hus, ?_, fun j X u hX hu => ?_⟩, rb.ty⟩
  · show ∃ a c, tv = .slice a (S.tl.set i T.next).length c
    rw [sl]; exact rb.tf
  · show (⟨107, 12, tv, (S.tl.set i T.next).length, flatT (S.tl.set i T.next) us⟩ : Ow) ∈ O
    rw [sl, eq]; exact hOT
  · have hX2 : (S.tl.set i T.next)[j]? = some X := hX
    rw [set_get hT] at hX2
    split at hX2
    · rename_i e; subst e
      obtain rfl := Option.some.inj hX2
      obtain ⟨a, c, e1, e2⟩ := htold _ T u hT hu
      exact ⟨a, c, e1, e2⟩
    · exact htold j X u hX2 hu
set_option maxRecDepth 100000 in
set_option maxHeartbeats 8000000 in
theorem rstep_need (h : LW n w0 b S0 L O v) (rb : RBO O S s tv dv) (ok : S.Ok) (i : Nat) (T : Tsk) (hT : S.tl[i]? = some T) (hk : T.k < T.m + 2) (s0 : Nat) (hs : s0 < 4) (hbf : ∀ s', s' < s0 → T.need s' = true → S.h s' = (i : Int)) (hn : T.need s0 = true) (hh : S.h s0 ≠ (i : Int)) :
    Calls Try.prog 58 #[.agg (RC s tv S.h dv), .int .i64 (i : Nat)] v (RStp n w0 b S0 L (S.step (i : Nat))) := by
  have hnx := first_need ok hT hk hs hbf hn hh
  have ones := rb.ones
  obtain ⟨q, hq⟩ : ∃ q, v.heap.size = q := ⟨_, rfl⟩
  have NL := Lib.hid (show ∀ y ∈ L, y.1 < q from fun y hy => by have := (h.rows y hy).lt; omega)
  have lw1 := h.new 96 (RC s tv S.h dv)
  obtain ⟨V1, hV1⟩ : ∃ V1, v.alloc (.cells (RC s tv S.h dv) 96) = V1 := ⟨_, rfl⟩
  have s1 : V1.heap.size = q + 1 := by rw [← hV1, ← hq]; simp
  rw [hV1, hq] at lw1
  have lw2 := lw1.new 96 Try.zeroCells96
  obtain ⟨V2, hV2⟩ : ∃ V2, V1.alloc (.cells Try.zeroCells96 96) = V2 := ⟨_, rfl⟩
  rw [hV2, s1] at lw2
  have lw3 := lw2.sub (L' := (q, 96, RC s tv S.h dv) :: (q + 1, 96, Try.zeroCells96) :: L) (fun x hx => by simp only [List.mem_cons] at hx ⊢; rcases hx with e | e | e; exact .inr (.inl e); exact .inl e; exact .inr (.inr e)) (fun o ho => ho)
  have rR := lw3.rows (q, 96, RC s tv S.h dv) (by simp)
  have rZ := lw3.rows (q + 1, 96, Try.zeroCells96) (by simp)
  have iR := info96 s tv dv S.h; have zR := zero96 s tv dv S.h
  have HQ := Lib.hid hq; have HV1 := Lib.hid hV1; have HV2 := Lib.hid hV2; have HS1 := Lib.hid s1
  have NQ := Lib.hid (show ∀ x ∈ (q + 1, 96, Try.zeroCells96) :: L, x.1 ≠ q from fun x hx => by
    rcases List.mem_cons.1 hx with rfl | hx
    · show q + 1 ≠ q; omega
    · have := NL.out x hx; omega)
  have lw4 := lw3.setCell (66 + s0) (.int .i64 (i : Nat)) NQ.out rb.no96
  rw [RC_seth _ _ _ _ hs] at lw4
  have FINW := Lib.hid (fun (e : S.step (i : Nat) = (S, 100)) => (show RStp n w0 b S0 L (S.step (i : Nat)) _ _ from by rw [e]; exact RStp.fin (x := 100) lw3 rb NL.out))
  have FINL := Lib.hid (fun (e : S.step (i : Nat) = ({ S with h := upF S.h s0 i, tl := S.tl.set i T.next }, 0)) => (show RStp n w0 b S0 L (S.step (i : Nat)) (.returned (.tuple #[.agg (RC s tv (upF S.h s0 i) dv), .int .i64 0])) ((V2.setCell ⟨q, 66 + s0, none⟩ (.int .i64 (i : Nat))).setRow (q + 1) (RC s tv (upF S.h s0 i) dv)) from by
    rw [e]; exact RStp.fin (S' := { S with h := upF S.h s0 i, tl := S.tl.set i T.next }) (x := 0) lw4 (rb.nexts hT hnx) NL.out))
  have STW := Lib.hid (fun (e : S.h s0 ≠ -1) => rstep_wait hT hnx e)
  have STL := Lib.hid (fun (e : S.h s0 = -1) => rstep_lock hT hnx e)
  have hload := run_loadVar_row (P := Try.prog) _ (q + 1) 96 96 (RC s tv S.h dv) (0, 0) _ (rZ.setRow (RC s tv S.h dv)) Try.underlying96 rfl iR
  have HLD := Lib.hid hload
  have iR4 := info96 s tv dv (upF S.h s0 i); have zR4 := zero96 s tv dv (upF S.h s0 i)
  have rZ4 := lw4.rows (q + 1, 96, Try.zeroCells96) (by simp)
  have rR4 := lw4.rows (q, 96, RC s tv (upF S.h s0 i) dv) (by simp)
  have hload4 := run_loadVar_row (P := Try.prog) _ (q + 1) 96 96 (RC s tv (upF S.h s0 i) dv) (0, 0) _ (rZ4.setRow (RC s tv (upF S.h s0 i) dv)) Try.underlying96 rfl iR4
  have HLD4 := Lib.hid hload4
  have ones4 : (RC s tv (upF S.h s0 i) dv).all (·.oneCell') = true := (rb.nexts (h' := upF S.h s0 i) hT hnx).ones
  obtain ⟨us, hus, hOT, _⟩ := rb.ts
  obtain ⟨tg, tc, u, htv, hu, tcl⟩ := lw3.tc hOT hus hT
  obtain ⟨m, hm⟩ : ∃ m, S.tl.length = m := ⟨_, rfl⟩
  have him : i < m := by rw [← hm]; exact (List.getElem?_eq_some_iff.1 hT).1
  have c65 : V2.cell? ⟨q, 65, none⟩ = some tv := (rR.cell 65).trans (RC_T _ _ _ _)
  rw [htv, hm] at c65
  have ch : ∀ k, k < 4 → V2.cell? ⟨q, 66 + k, none⟩ = some (.int .i64 (S.h k)) := fun k hk => (rR.cell (66 + k)).trans (RC_h _ _ _ _ hk)
  have cov := tcl 9 (.bool (decide (T.m + 2 ≤ T.k))) rfl
  rw [decide_eq_false (by omega)] at cov
  have cn : ∀ k, k < 4 → V2.cell? ⟨tg, i * 12 + 3 + k, none⟩ = some (.bool (T.need k)) := fun k hk => by
    obtain rfl | rfl | rfl | rfl : k = 0 ∨ k = 1 ∨ k = 2 ∨ k = 3 := by omega
    · exact tcl 3 _ rfl
    · exact tcl 4 _ rfl
    · exact tcl 5 _ rfl
    · exact tcl 6 _ rfl
  have hfz : V2.frozen? ⟨q, 66 + s0, none⟩ = false := rR.frozen _
  have CH := Lib.hid ch; have CN := Lib.hid cn; have OKR := Lib.hid (ok.hr s0 hs); have HBF := Lib.hid hbf
  have HN := Lib.hid hn; have HH := Lib.hid hh; have HS := Lib.hid hs
  obtain ⟨V4, hV4⟩ : ∃ V4, V2.setCell ⟨q, 66 + s0, none⟩ (.int .i64 (i : Nat)) = V4 := ⟨_, rfl⟩
  rw [hV4] at FINL rZ4 rR4 HLD4
  have HV4 := Lib.hid hV4
  have i1 : ((i : Nat) : Int) < (m : Nat) := by omega
  have i0 : (0 : Int) ≤ (i : Nat) := by omega
  have di : decide (((i : Nat) : Int) < 0) = false := by simp
  have dm : decide (((m : Nat) : Int) ≤ (i : Nat)) = false := by simp; omega
  obtain ⟨r, hr⟩ : ∃ r, S.step (i : Nat) = r := ⟨_, rfl⟩
  rw [hr] at FINW FINL STW STL ⊢
  generalize RC s tv S.h dv = R at *
  generalize RC s tv (upF S.h s0 i) dv = R4 at *
  clear lw1 lw2 lw3 lw4 hq hV1 hV2 s1 h rb hus hOT hload hload4 htv hm hT hk hbf hn hh hnx tcl ch cn hu ok hs hr hV4 him
  go_enter Try.func58, Try.ntmps58
  go_wp2_with (first | (rw [HQ.out, HV1.out]) | (rw [HS1.out, HV2.out]))
  go_loopg [6] 4 (fun m' j v' => ∃ k : Nat, m' + k = 4 ∧ k ≤ s0 ∧ j = .int .i64 k ∧ v' = V2)
  case atStart => exact ⟨0, rfl, Nat.zero_le _, rfl, rfl⟩
  case round =>
    obtain ⟨k, hp, hks, rfl, rfl⟩ := hrel
    have hk4 : k < 4 := by have := HS.out; omega
    have c66 := CH.out k hk4
    have cnk := CN.out k hk4
    have i4 : ((k : Nat) : Int) < 4 := by omega
    have i5 : (0 : Int) ≤ (k : Nat) := by omega
    have wk : IntKind.i64.wrap ((k : Int) + 1) = (k : Int) + 1 := IntWalk.i64_in _ (by omega)
    have HP := Lib.hid hp; have HKS := Lib.hid hks
    by_cases hlt : k < s0
    · have HLT := Lib.hid hlt
      cases hnk : T.need k
      · rw [hnk] at cnk
        clear hp hks hlt hnk
        go_wp2
        go_roundg (4 - (k + 1))
        case measure => have := HP.out; omega
        case rel => exact ⟨k + 1, by omega, by have := HLT.out; omega, by go_num, rfl⟩
      · rw [hnk] at cnk
        rw [HBF.out k hlt hnk] at c66
        clear hp hks hlt hnk
        go_wp2
        go_roundg (4 - (k + 1))
        case measure => have := HP.out; omega
        case rel => exact ⟨k + 1, by omega, by have := HLT.out; omega, by go_num, rfl⟩
    · obtain rfl : k = s0 := by omega
      rw [HN.out] at cnk
      have dh : (S.h k != ((i : Nat) : Int)) = true := by simpa using HH.out
      rcases OKR.out with h1 | ⟨j, h1⟩
      · rw [h1] at c66 dh
        have FIN := Lib.hid (FINL.out (STL.out h1))
        have hr := STL.out h1
        clear hp hks hlt h1 FINL FINW STL STW
        have HLD := HLD4
        go_wp2_with (first | (rw [HV4.out]) | (refine wpList_load_row (x := .tmp 2) (ty := 96) (g := q) (cs := R4) (t := 96) (fr := (0, 0)) ?_ ?_ ?_ _ rR4 Try.underlying96 rfl iR4 ?_; rfl; rfl; rfl) | (refine wpList_store_row (x := .tmp 4) (y := .tmp 58) (cells := R4) (old := Try.zeroCells96) (t := 96) (ty := 96) (g := q + 1) ?_ ?_ ?_ ?_ rZ4 iR4 zR4 ones4 ?_; rfl; rfl; rfl; rfl))
        have hload := HLD.out
        exact bodyPost_ret (v := .tuple #[.agg R4, .int .i64 (0)]) (by simp [results, Try.results58, asAddr, hload]) rfl FIN.out
      · have FIN := Lib.hid (FINW.out (STW.out (by rw [h1]; omega)))
        have hneq : S.h k ≠ -1 := by rw [h1]; omega
        rw [h1] at c66 dh
        have j0 : (0 : Int) ≤ (j : Nat) := by omega
        clear hp hks hlt h1 FINL FINW STL STW hneq
        go_wp2_with (first | (refine wpList_load_row (x := .tmp 2) (ty := 96) (g := q) (cs := R) (t := 96) (fr := (0, 0)) ?_ ?_ ?_ _ rR Try.underlying96 rfl iR ?_; rfl; rfl; rfl) | (refine wpList_store_row (x := .tmp 4) (y := .tmp 53) (cells := R) (old := Try.zeroCells96) (t := 96) (ty := 96) (g := q + 1) ?_ ?_ ?_ ?_ rZ iR zR ones ?_; rfl; rfl; rfl; rfl))
        have hload := HLD.out
        exact bodyPost_ret (v := .tuple #[.agg R, .int .i64 (100)]) (by simp [results, Try.results58, asAddr, hload]) rfl FIN.out
end
end Go.Proofs.Ytnnnbgndbmcffaa
namespace Go.Proofs.Ytnnnbgndbmcffaa
open Go.RowKit
set_option linter.unusedVariables false

theorem RC_congr {s tv dv : Value} {h h' : Nat → Int} (e : ∀ k, k < 4 → h k = h' k) : RC s tv h dv = RC s tv h' dv := by
  unfold RC; rw [e 0 (by decide), e 1 (by decide), e 2 (by decide), e 3 (by decide)]
theorem ToldO.noT {O : List Ow} {o : Ow} {X X' : Tsk} {u : Value} (h : ToldO O X u) (e : X'.told = X.told) : ToldO (o :: noT O) X' u := by
  obtain ⟨a, c, e1, e2⟩ := h
  refine ⟨a, c, by rw [e]; exact e1, ?_⟩
  rw [e]; exact List.mem_cons_of_mem _ (noT_in e2 (by show (23 : Nat) ≠ 107; decide))
/-- locks given back, up to the shard k -/
def hfr (h : Nat → Int) (i : Int) (k : Nat) : Nat → Int := fun s => if s < k ∧ h s = i then -1 else h s
theorem hfr_zero (h : Nat → Int) (i : Int) (j : Nat) : hfr h i 0 j = h j := if_neg (by omega)
theorem hfr_at (h : Nat → Int) (i : Int) (k : Nat) : hfr h i k k = h k := if_neg (by omega)
theorem hfr_set {h : Nat → Int} {i : Int} {k : Nat} (he : h k = i) (j : Nat) : upF (hfr h i k) k (-1) j = hfr h i (k + 1) j := by
  unfold upF hfr
  by_cases hjk : j = k
  · subst hjk; rw [if_pos rfl, if_pos ⟨by omega, he⟩]
  · rw [if_neg hjk]
    by_cases hjl : j < k ∧ h j = i
    · rw [if_pos hjl, if_pos ⟨by omega, hjl.2⟩]
    · rw [if_neg hjl, if_neg (fun hh => hjl ⟨by omega, hh.2⟩)]
theorem hfr_keep {h : Nat → Int} {i : Int} {k : Nat} (he : h k ≠ i) (j : Nat) : hfr h i k j = hfr h i (k + 1) j := by
  unfold hfr
  by_cases hjl : j < k ∧ h j = i
  · rw [if_pos hjl, if_pos ⟨by omega, hjl.2⟩]
  · rw [if_neg hjl, if_neg (fun hh => hjl ⟨by
      have hne : j ≠ k := fun e => he (e ▸ hh.2)
      omega, hh.2⟩)]
theorem hfr_all {h : Nat → Int} {i : Int} {j : Nat} (hj : j < 4) : hfr h i 4 j = (fun s => if h s = i then -1 else h s) j := by
  show (if j < 4 ∧ h j = i then -1 else h j) = if h j = i then -1 else h j
  by_cases hjl : h j = i
  · rw [if_pos hjl, if_pos ⟨hj, hjl⟩]
  · rw [if_neg hjl, if_neg (fun hh => hjl hh.2)]
section
variable {n : Nat} {w0 v : World} {b : Nat} {S0 S : BS} {L : List (Nat × TypeId × Array Value)} {O : List Ow} {s tv dv : Value}
/-- one task is another one -/
theorem RBO.put {us us' : List Value} {s' tv' dv' : Value} {O' : List Ow} {S' : BS} {i : Nat} {T T' : Tsk} (rb : RBO O S s tv dv) (htold : ∀ (i : Nat) (T : Tsk) (u : Value), S.tl[i]? = some T → us[i]? = some u → ToldO O T u) (hT : S.tl[i]? = some T)
    (e1 : S'.n = S.n) (e2 : S'.tl = S.tl.set i T') (hsf : ∃ a c, s' = .slice a S.n c) (htf : ∃ a c, tv' = .slice a S.tl.length c) (hdf : ∃ a c, dv' = .slice a S'.dn.length c) (hbal : OwP s' S'.n S'.f ∈ O') (hdn : OwV dv' S'.dn ∈ O')
    (hul : us'.length = S.tl.length) (hot : OwT tv' (S.tl.set i T') us' ∈ O') (hold : ∀ j u, us'[j]? = some u → j ≠ i → us[j]? = some u) (hnew : ∀ u, us'[i]? = some u → ToldO O' T' u)
    (hty : ∀ o ∈ O', o.t = 23 ∨ o.t = 3 ∨ o.t = 107)
    (hsub2 : ∀ (j : Nat) (X : Tsk) (u : Value), S.tl[j]? = some X → us[j]? = some u → j ≠ i → ToldO O X u → ToldO O' X u) : RBO O' S' s' tv' dv' := by
  have sl : (S.tl.set i T').length = S.tl.length := List.length_set
  refine ⟨by rw [e1]; exact hsf, by rw [e2, sl]; exact htf, hdf, hbal, hdn, ⟨us', by rw [e2, sl]; exact hul, by rw [e2]; exact hot, fun j X u hX hu => ?_⟩, hty⟩
  rw [e2, set_get hT] at hX
  split at hX
  · rename_i e; subst e
    obtain rfl := Option.some.inj hX
    exact hnew u hu
  · rename_i e
    exact hsub2 j X u hX (hold j u hu (fun e' => e e'.symm)) (fun e' => e e'.symm) (htold j X u hX (hold j u hu (fun e' => e e'.symm)))
set_option maxRecDepth 100000 in
set_option maxHeartbeats 16000000 in
theorem rstepf_any (h : LW n w0 b S0 L O v) (rb : RBO O S s tv dv) (ok : S.Ok) (hL7 : ∀ x ∈ L, x.2.1 ≠ 107) (i : Nat) (T : Tsk) (hT : S.tl[i]? = some T) (hk : T.k < T.m + 2) (hall : ∀ s', s' < 4 → T.need s' = true → S.h s' = (i : Int)) (hkm : T.k = T.m + 1) :
    Calls Try.prog 58 #[.agg (RC s tv S.h dv), .int .i64 (i : Nat)] v (RStp n w0 b S0 L (S.step (i : Nat))) := by
  rw [rstep_free hT hkm]
  have ones := rb.ones
  obtain ⟨q, hq⟩ : ∃ q, v.heap.size = q := ⟨_, rfl⟩
  have NL := Lib.hid (show ∀ y ∈ L, y.1 < q from fun y hy => by have := (h.rows y hy).lt; omega)
  have lw1 := h.new 96 (RC s tv S.h dv)
  obtain ⟨V1, hV1⟩ : ∃ V1, v.alloc (.cells (RC s tv S.h dv) 96) = V1 := ⟨_, rfl⟩
  have s1 : V1.heap.size = q + 1 := by rw [← hV1, ← hq]; simp
  rw [hV1, hq] at lw1
  have lw2 := lw1.new 96 Try.zeroCells96
  obtain ⟨V2, hV2⟩ : ∃ V2, V1.alloc (.cells Try.zeroCells96 96) = V2 := ⟨_, rfl⟩
  rw [hV2, s1] at lw2
  have lw3 := lw2.sub (L' := (q, 96, RC s tv S.h dv) :: (q + 1, 96, Try.zeroCells96) :: L) (fun x hx => by simp only [List.mem_cons] at hx ⊢; rcases hx with e | e | e; exact .inr (.inl e); exact .inl e; exact .inr (.inr e)) (fun o ho => ho)
  have rR := lw3.rows (q, 96, RC s tv S.h dv) (by simp)
  have rZ := lw3.rows (q + 1, 96, Try.zeroCells96) (by simp)
  have iR := info96 s tv dv S.h; have zR := zero96 s tv dv S.h
  have HQ := Lib.hid hq; have HV1 := Lib.hid hV1; have HV2 := Lib.hid hV2; have HS1 := Lib.hid s1
  have NQ := Lib.hid (show ∀ x ∈ (q + 1, 96, Try.zeroCells96) :: L, x.1 ≠ q from fun x hx => by
    rcases List.mem_cons.1 hx with rfl | hx
    · show q + 1 ≠ q; omega
    · have := NL.out x hx; omega)
  obtain ⟨us, hus, hOT, htold⟩ := rb.ts
  obtain ⟨tg, tc, u, htv, hu, tcl⟩ := lw3.tc hOT hus hT
  obtain ⟨m, hm⟩ : ∃ m, S.tl.length = m := ⟨_, rfl⟩
  have him : i < m := by rw [← hm]; exact (List.getElem?_eq_some_iff.1 hT).1
  have hm32 : m ≤ 32 := by rw [← hm]; exact ok.t32
  have c65 : V2.cell? ⟨q, 65, none⟩ = some tv := (rR.cell 65).trans (RC_T _ _ _ _)
  rw [htv, hm] at c65
  have ch : ∀ k, k < 4 → V2.cell? ⟨q, 66 + k, none⟩ = some (.int .i64 (S.h k)) := fun k hk => (rR.cell (66 + k)).trans (RC_h _ _ _ _ hk)
  have cov := tcl 9 (.bool (decide (T.m + 2 ≤ T.k))) rfl
  rw [decide_eq_false (by omega)] at cov
  have cn : ∀ k, k < 4 → V2.cell? ⟨tg, i * 12 + 3 + k, none⟩ = some (.bool (T.need k)) := fun k hk => by
    obtain rfl | rfl | rfl | rfl : k = 0 ∨ k = 1 ∨ k = 2 ∨ k = 3 := by omega
    · exact tcl 3 _ rfl
    · exact tcl 4 _ rfl
    · exact tcl 5 _ rfl
    · exact tcl 6 _ rfl
  obtain ⟨i0, hi, hz0, hz1, hz2⟩ := info_parts info107
  have FONE := Lib.hid (show ∀ u ∈ flatT S.tl us, u.oneCell' = true from flatT_one _ _ (fun u hu => by
    obtain ⟨i, hi⟩ := List.getElem?_of_mem hu
    obtain ⟨_, _, e, _⟩ := htold i _ u (List.getElem?_eq_getElem (by have := (List.getElem?_eq_some_iff.1 hi).1; omega)) hi
    rw [e]; rfl))
  have lwU := lw3.alloc (.cells #[] 107)
  have own0 := World.ownsRow_lit (base := V2.heap.size) (e := 107) (size := 12) V2 #[] 0 (Nat.le_refl _) (by unfold maxLen; omega) rfl
  have bel1 : Below V2.heap.size V2 (V2.alloc (.cells #[] 107)) := (Below.refl _ V2).alloc (Nat.le_refl _) _
  have own1 := lwU.owns _ hOT
  have cU := ((lwU.rows (q, 96, RC s tv S.h dv) (by simp)).cell 65).trans (RC_T _ _ _ _)
  rw [htv, hm] at cU
  obtain ⟨g0, hg0⟩ : ∃ g0, V2.heap.size = g0 := ⟨_, rfl⟩
  obtain ⟨U1, hU1⟩ : ∃ U1, V2.alloc (.cells #[] 107) = U1 := ⟨_, rfl⟩
  rw [hg0, hU1] at bel1
  rw [hU1] at own0 own1 cU lwU
  rw [hg0] at own0
  have hU1s : g0 ≤ U1.heap.size := by rw [← hU1, ← hg0]; simp
  have CPY := Lib.hid (fun (u2 : World) (a' c' : Nat) (ho : u2.ownsRow g0 107 12 (.slice (some ⟨a', 0, none⟩) m c') m (flatT S.tl us)) (hg : U1.grownBy u2 (some g0)) =>
    lw3.copied (v' := u2) (by rw [hg0]; exact ho) (by rw [hg0]; exact bel1.grown hg hU1s (fun k hk => by cases hk; exact Nat.le_refl _)))
  have OWN0 := Lib.hid own0; have OWN1 := Lib.hid (show U1.ownsRow n 107 12 (.slice (some ⟨tg, 0, none⟩) m tc) m (flatT S.tl us) from by have := own1; rw [htv] at this; show U1.ownsRow n 107 12 _ m _; rw [← hm]; exact this)
  have HG0 := Lib.hid hg0; have HU1 := Lib.hid hU1; have HU1S := Lib.hid hU1s
  have CH := Lib.hid ch; have CN := Lib.hid cn; have HALL := Lib.hid hall; have HM := Lib.hid hm; have HM32 := Lib.hid hm32
  have HT := Lib.hid hT; have HK := Lib.hid hk; have OK := Lib.hid ok; have RB := Lib.hid rb; have HUS := Lib.hid hus; have HTO := Lib.hid htold; have HU := Lib.hid hu; have HL7 := Lib.hid hL7
  have MK := Lib.hid (all_held ok hT hk hall)
  have i1 : ((i : Nat) : Int) < (m : Nat) := by omega
  have i0' : (0 : Int) ≤ (i : Nat) := by omega
  have di : decide (((i : Nat) : Int) < 0) = false := by simp
  have dm : decide (((m : Nat) : Int) ≤ (i : Nat)) = false := by simp; omega
  obtain ⟨R, hR⟩ : ∃ R, RC s tv S.h dv = R := ⟨_, rfl⟩
  have HR := Lib.hid hR
  rw [hR] at rR iR zR ones HV1 ⊢
  clear lw1 lw2 hq hV1 hV2 s1 h rb hOT htold hus hT hk hall hu tcl ch cn him hm32 htv hm hL7 hg0 hU1 hU1s own0 own1 bel1 lwU ok hR lw3
  go_enter Try.func58, Try.ntmps58
  go_wp2_with (first | (rw [HQ.out, HV1.out]) | (rw [HS1.out, HV2.out]))
  go_loopg [6] 4 (fun m' j v' => ∃ k : Nat, m' + k = 4 ∧ j = .int .i64 k ∧ v' = V2)
  case atStart => exact ⟨0, rfl, rfl, rfl⟩
  case round =>
    obtain ⟨k, hp, rfl, rfl⟩ := hrel
    by_cases hk4 : k < 4
    · have c66 := CH.out k hk4
      have cnk := CN.out k hk4
      have i4 : ((k : Nat) : Int) < 4 := by omega
      have i5 : (0 : Int) ≤ (k : Nat) := by omega
      have wk : IntKind.i64.wrap ((k : Int) + 1) = (k : Int) + 1 := IntWalk.i64_in _ (by omega)
      have HP := Lib.hid hp; have HK4 := Lib.hid hk4
      cases hnk : T.need k
      · rw [hnk] at cnk
        clear hp hk4 hnk
        go_wp2
        go_roundg (4 - (k + 1))
        case measure => have := HP.out; have := HK4.out; omega
        case rel => exact ⟨k + 1, by have := HK4.out; omega, by go_num, rfl⟩
      · rw [hnk] at cnk
        rw [HALL.out k hk4 hnk] at c66
        clear hp hk4 hnk
        go_wp2
        go_roundg (4 - (k + 1))
        case measure => have := HP.out; have := HK4.out; omega
        case rel => exact ⟨k + 1, by have := HK4.out; omega, by go_num, rfl⟩
    · have hk4 : k = 4 := by omega
      subst hk4
      clear hp
      have i4 : ¬ (((4 : Nat) : Int) < 4) := by decide
      go_wp2_with (first | (rw [HG0.out, HU1.out]) | (at_builtin; refine wpList_append_copy _ rfl (.tmp 59) (.tmp 61) 93 rfl g0 107 i0 _ 12 64 Try.underlying93 hi hz0 hz1 hz2 rfl (by decide) g0 ?a1 OWN0.out n (.slice (some ⟨tg, 0, none⟩) m tc) m (flatT S.tl us) ?a2 OWN1.out FONE.out ?a4 ?a5 HU1S.out ?_))
      case a4 => have := HM32.out; unfold maxLen; omega
      case a5 => have := HM32.out; omega
      intro a' c' u2 ho hg hs
      have lw4 := (CPY.out u2 a' c' ho hg).sub (L' := (q, 96, RC s tv S.h dv) :: (q + 1, 96, Try.zeroCells96) :: L) (O' := ⟨107, 12, .slice (some ⟨a', 0, none⟩) m c', m, flatT S.tl us⟩ :: noT O) (fun x hx => hx) (fun o ho => by
        rcases List.mem_cons.1 ho with rfl | ho
        · exact List.mem_cons_self
        · exact List.mem_cons_of_mem _ (noT_sub o ho))
      have tyC : ∀ o ∈ (⟨107, 12, .slice (some ⟨a', 0, none⟩) m c', m, flatT S.tl us⟩ : Ow) :: noT O, o.t ≠ 96 := fun o ho => by
        rcases List.mem_cons.1 ho with rfl | ho
        · show (107 : Nat) ≠ 96; decide
        · exact RB.out.no96 o (noT_sub o ho)
      have rR4 := lw4.rows (q, 96, RC s tv S.h dv) (by simp)
      have c4 : u2.cell? ⟨q, 65, none⟩ = some tv := (rR4.cell 65).trans (RC_T _ _ _ _)
      have f4 : u2.frozen? ⟨q, 65, none⟩ = false := rR4.frozen _
      have lw5 := lw4.setCell 65 (.slice (some ⟨a', 0, none⟩) m c') NQ.out tyC
      rw [RC_setT] at lw5
      obtain ⟨U3, hU3⟩ : ∃ U3, u2.setCell ⟨q, 65, none⟩ (.slice (some ⟨a', 0, none⟩) m c') = U3 := ⟨_, rfl⟩
      rw [hU3] at lw5
      have rR5 := lw5.rows (q, 96, RC s (.slice (some ⟨a', 0, none⟩) m c') S.h dv) (by simp)
      have c65 : U3.cell? ⟨q, 65, none⟩ = some (.slice (some ⟨a', 0, none⟩) m c') := (rR5.cell 65).trans (RC_T _ _ _ _)
      obtain ⟨tg', tc', u', e1, hu', tcl⟩ := lw5.tc (tv := .slice (some ⟨a', 0, none⟩) m c') (tl := S.tl) (us := us) (by unfold OwT; rw [HM.out]; simp) HUS.out HT.out
      obtain rfl : u' = u := Option.some.inj (hu'.symm.trans HU.out)
      have e2 : tg' = a' := by have h := congrArg Value.ownBlock e1; simpa [Value.ownBlock] using h.symm
      clear e1
      subst e2
      have c8 := tcl 8 (.bool (decide (T.m < T.k))) rfl
      have TYC := Lib.hid tyC; have HU3 := Lib.hid hU3; have TCL := Lib.hid tcl; have LWC := Lib.hid lw5
      clear hU3 tcl lw4 lw5 tyC rR4 ho hg hs rR5 hu' cov cU OWN0 OWN1 CPY HG0 HU1 HU1S CH CN HALL
      rw [decide_eq_true (show T.m < T.k by omega)] at c8
      go_wp2_with (first | (rw [HU3.out]))
      go_loopg [7] 4 (fun m' j v' => ∃ k : Nat, m' + k = 4 ∧ j = .int .i64 k ∧ LW n w0 b S0 ((q, 96, RC s (.slice (some ⟨tg', 0, none⟩) m c') (hfr S.h (i : Int) k) dv) :: (q + 1, 96, Try.zeroCells96) :: L) (⟨107, 12, .slice (some ⟨tg', 0, none⟩) m c', m, flatT S.tl us⟩ :: noT O) v')
      case atStart =>
        refine ⟨0, rfl, rfl, ?_⟩
        rw [RC_congr (h' := S.h) (fun k _ => hfr_zero _ _ _)]
        exact LWC.out
      case round =>
        clear LWC c65 c8
        clear c4 f4
        obtain ⟨k, hp, rfl, lw⟩ := hrel
        have HP := Lib.hid hp
        clear hp
        by_cases hk4 : k < 4
        · have HK4 := Lib.hid hk4
          have rq := lw.rows (q, 96, RC s (.slice (some ⟨tg', 0, none⟩) m c') (hfr S.h (i : Int) k) dv) (by simp)
          have c66 : wr.cell? ⟨q, 66 + k, none⟩ = some (.int .i64 (S.h k)) := (rq.cell (66 + k)).trans ((RC_h _ _ _ _ hk4).trans (by rw [hfr_at]))
          have f66 : wr.frozen? ⟨q, 66 + k, none⟩ = false := rq.frozen _
          have i4 : ((k : Nat) : Int) < 4 := by omega
          have i5 : (0 : Int) ≤ (k : Nat) := by omega
          have wk : IntKind.i64.wrap ((k : Int) + 1) = (k : Int) + 1 := IntWalk.i64_in _ (by omega)
          by_cases he : S.h k = (i : Int)
          · have lw' := lw.setCell (66 + k) (.int .i64 (-1)) NQ.out TYC.out
            rw [RC_seth _ _ _ _ hk4, RC_congr (h' := hfr S.h (i : Int) (k + 1)) (fun j hj => hfr_set he j)] at lw'
            rw [he] at c66
            have LWN := Lib.hid lw'
            clear lw lw' rq he hk4
            go_wp2
            go_roundg (4 - (k + 1))
            case measure => have := HP.out; have := HK4.out; omega
            case rel => exact ⟨k + 1, by have := HP.out; have := HK4.out; omega, by go_num, LWN.out⟩
          · have dh : (S.h k == ((i : Nat) : Int)) = false := by simpa using he
            have dh2 : decide (S.h k = ((i : Nat) : Int)) = false := by simpa using he
            rw [RC_congr (h' := hfr S.h (i : Int) (k + 1)) (fun j hj => hfr_keep he j)] at lw
            have LWN := Lib.hid lw
            clear lw rq he hk4 f66
            go_wp2
            go_roundg (4 - (k + 1))
            case measure => have := HP.out; have := HK4.out; omega
            case rel => exact ⟨k + 1, by have := HP.out; have := HK4.out; omega, by go_num, LWN.out⟩
        · obtain rfl : k = 4 := by have := HP.out; omega
          have i4 : ¬ (((4 : Nat) : Int) < 4) := by decide
          rw [RC_congr (h' := fun s => if S.h s = (i : Int) then -1 else S.h s) (fun j hj => hfr_all hj)] at lw
          have lwp := lw.poke (i * 12 + 9) (.bool true) (fun x hx => by
            rcases List.mem_cons.1 hx with rfl | hx
            · show (96 : Nat) ≠ 107; decide
            · rcases List.mem_cons.1 hx with rfl | hx
              · show (96 : Nat) ≠ 107; decide
              · exact HL7.out x hx) noT_ne
          have fset := flatT_set S.tl us i T u' T.next u' (.bool true) 9 HT.out HU.out (by decide) (by
            have h1 : decide (T.next.m < T.next.k) = decide (T.m < T.k) := decide_eq_decide.2 (by show T.m < T.k + 1 ↔ T.m < T.k; omega)
            have h2 : decide (T.next.m + 2 ≤ T.next.k) = true := decide_eq_true (by show T.m + 2 ≤ T.k + 1; omega)
            unfold tcells; rw [h1, h2]; rfl)
          rw [fset] at lwp
          have hOT : (⟨107, 12, (.slice (some ⟨tg', 0, none⟩) m c'), m, flatT (S.tl.set i T.next) (us.set i u')⟩ : Ow) = OwT (.slice (some ⟨tg', 0, none⟩) m c') (S.tl.set i T.next) (us.set i u') := by unfold OwT; rw [List.length_set, HM.out]
          have rb' : RBO (⟨107, 12, (.slice (some ⟨tg', 0, none⟩) m c'), m, flatT (S.tl.set i T.next) (us.set i u')⟩ :: noT O) { S with h := (fun s => if S.h s = (i : Int) then -1 else S.h s), tl := S.tl.set i T.next } s (.slice (some ⟨tg', 0, none⟩) m c') dv :=
            RB.out.put HTO.out HT.out (us' := us.set i u') (T' := T.next) rfl rfl RB.out.sf ⟨_, _, by rw [HM.out]⟩ RB.out.df (List.mem_cons_of_mem _ (noT_in RB.out.bal (by show (23 : Nat) ≠ 107; decide))) (List.mem_cons_of_mem _ (noT_in RB.out.dn (by show (3 : Nat) ≠ 107; decide))) (by rw [List.length_set]; exact HUS.out) (by rw [hOT]; exact List.mem_cons_self)
              (fun j u hu hj => by rwa [List.getElem?_set_ne (fun e => hj e.symm)] at hu) (fun u hu => by
                rw [List.getElem?_set_self (by have := HUS.out; have := (List.getElem?_eq_some_iff.1 HT.out).1; omega)] at hu
                obtain rfl := Option.some.inj hu
                exact (HTO.out i T _ HT.out HU.out).noT (X' := T.next) rfl) (fun o ho => by
                rcases List.mem_cons.1 ho with rfl | ho
                · exact .inr (.inr rfl)
                · exact RB.out.ty o (noT_sub o ho)) (fun j X u _ _ _ ht => ht.noT rfl)
          have FIN := Lib.hid (RStp.fin (x := 0) lwp rb' NL.out)
          have onesF := rb'.ones
          obtain ⟨tgx, tcx, ux, e1, hux, tcx⟩ := lw.tc (tv := (.slice (some ⟨tg', 0, none⟩) m c')) (tl := S.tl) (us := us) (by unfold OwT; rw [HM.out]; simp) HUS.out HT.out
          have e2 : tgx = tg' := by have h := congrArg Value.ownBlock e1; simpa [Value.ownBlock] using h.symm
          clear e1
          subst e2
          have c9 := tcx 9 (.bool (decide (T.m + 2 ≤ T.k))) rfl
          have rq := lw.rows (q, 96, RC s (.slice (some ⟨tgx, 0, none⟩) m c') (fun s => if S.h s = (i : Int) then -1 else S.h s) dv) (by simp)
          have c65 : wr.cell? ⟨q, 65, none⟩ = some (.slice (some ⟨tgx, 0, none⟩) m c') := (rq.cell 65).trans (RC_T _ _ _ _)
          obtain ⟨cur9, r9⟩ := owns_row (lw.owns _ List.mem_cons_self) (g := tgx) rfl
          have f9 : wr.frozen? ⟨tgx, i * 12 + 9, none⟩ = false := r9.frozen _
          obtain ⟨U5, hU5⟩ : ∃ U5, wr.setCell ⟨tgx, i * 12 + 9, none⟩ (.bool true) = U5 := ⟨_, rfl⟩
          rw [hU5] at lwp FIN
          have rR5 := lwp.rows (q, 96, RC s (.slice (some ⟨tgx, 0, none⟩) m c') (fun s => if S.h s = (i : Int) then -1 else S.h s) dv) (by simp)
          have rZ5 := lwp.rows (q + 1, 96, Try.zeroCells96) (by simp)
          have iR5 := info96 s (.slice (some ⟨tgx, 0, none⟩) m c') dv (fun s => if S.h s = (i : Int) then -1 else S.h s); have zR5 := zero96 s (.slice (some ⟨tgx, 0, none⟩) m c') dv (fun s => if S.h s = (i : Int) then -1 else S.h s)
          have hload := run_loadVar_row (P := Try.prog) _ (q + 1) 96 96 (RC s (.slice (some ⟨tgx, 0, none⟩) m c') (fun s => if S.h s = (i : Int) then -1 else S.h s) dv) (0, 0) _ (rZ5.setRow (RC s (.slice (some ⟨tgx, 0, none⟩) m c') (fun s => if S.h s = (i : Int) then -1 else S.h s) dv)) Try.underlying96 rfl iR5
          have HLD := Lib.hid hload
          have HU5 := Lib.hid hU5
          generalize RC s (.slice (some ⟨tgx, 0, none⟩) m c') (fun s => if S.h s = (i : Int) then -1 else S.h s) dv = RF at *
          clear lw lwp fset hOT rb' tcx rq r9 hU5 hload hux
          go_wp2_with (first | (rw [HU5.out]) | (refine wpList_load_row (x := .tmp 2) (ty := 96) (g := q) (cs := RF) (t := 96) (fr := (0, 0)) ?_ ?_ ?_ _ rR5 Try.underlying96 rfl iR5 ?_; rfl; rfl; rfl) | (refine wpList_store_row (x := .tmp 4) (y := .tmp 88) (cells := RF) (old := Try.zeroCells96) (t := 96) (ty := 96) (g := q + 1) ?_ ?_ ?_ ?_ rZ5 iR5 zR5 onesF ?_; rfl; rfl; rfl; rfl))
          have hload := HLD.out
          exact bodyPost_ret (v := .tuple #[.agg RF, .int .i64 (0)]) (by simp [results, Try.results58, asAddr, hload]) rfl FIN.out
end
end Go.Proofs.Ytnnnbgndbmcffaa
namespace Go.Proofs.Ytnnnbgndbmcffaa
open Go.RowKit
set_option linter.unusedVariables false

theorem info3c : (Try.prog.info? 3).map (fun i => (i.zero, i.size, i.bytes)) = some (some (.int .i64 0), 1, 8) := by kernel_rfl
theorem info23c : (Try.prog.info? 23).map (fun i => (i.zero, i.size, i.bytes)) = some (some (.int .u64 0), 1, 8) := by kernel_rfl
section
variable {n : Nat} {w0 v : World} {b : Nat} {S0 S : BS} {L : List (Nat × TypeId × Array Value)} {O : List Ow} {s tv dv : Value}
set_option maxRecDepth 100000 in
set_option maxHeartbeats 16000000 in
theorem rstepl_any (h : LW n w0 b S0 L O v) (rb : RBO O S s tv dv) (ok : S.Ok) (hL7 : ∀ x ∈ L, x.2.1 ≠ 107) (i : Nat) (T : Tsk) (hT : S.tl[i]? = some T) (hk : T.k < T.m + 2) (hall : ∀ s', s' < 4 → T.need s' = true → S.h s' = (i : Int)) (hkm : T.k = T.m) (hli : T.lists = true) :
    Calls Try.prog 58 #[.agg (RC s tv S.h dv), .int .i64 (i : Nat)] v (RStp n w0 b S0 L (S.step (i : Nat))) := by
  have hact : S.act i T = { S with tl := S.tl.set i { T with k := T.k + 1, told := S.bals }, dn := S.dn ++ [i] } := by unfold BS.act; rw [if_pos hli]
  rw [rstep_act hT hkm, hact]
  clear hact
  have N32 := Lib.hid ok.n32
  have ones := rb.ones
  obtain ⟨q, hq⟩ : ∃ q, v.heap.size = q := ⟨_, rfl⟩
  have NL := Lib.hid (show ∀ y ∈ L, y.1 < q from fun y hy => by have := (h.rows y hy).lt; omega)
  have lw1 := h.new 96 (RC s tv S.h dv)
  obtain ⟨V1, hV1⟩ : ∃ V1, v.alloc (.cells (RC s tv S.h dv) 96) = V1 := ⟨_, rfl⟩
  have s1 : V1.heap.size = q + 1 := by rw [← hV1, ← hq]; simp
  rw [hV1, hq] at lw1
  have lw2 := lw1.new 96 Try.zeroCells96
  obtain ⟨V2, hV2⟩ : ∃ V2, V1.alloc (.cells Try.zeroCells96 96) = V2 := ⟨_, rfl⟩
  rw [hV2, s1] at lw2
  have lw3 := lw2.sub (L' := (q, 96, RC s tv S.h dv) :: (q + 1, 96, Try.zeroCells96) :: L) (fun x hx => by simp only [List.mem_cons] at hx ⊢; rcases hx with e | e | e; exact .inr (.inl e); exact .inl e; exact .inr (.inr e)) (fun o ho => ho)
  have rR := lw3.rows (q, 96, RC s tv S.h dv) (by simp)
  have rZ := lw3.rows (q + 1, 96, Try.zeroCells96) (by simp)
  have iR := info96 s tv dv S.h; have zR := zero96 s tv dv S.h
  have HQ := Lib.hid hq; have HV1 := Lib.hid hV1; have HV2 := Lib.hid hV2; have HS1 := Lib.hid s1
  have NQ := Lib.hid (show ∀ x ∈ (q + 1, 96, Try.zeroCells96) :: L, x.1 ≠ q from fun x hx => by
    rcases List.mem_cons.1 hx with rfl | hx
    · show q + 1 ≠ q; omega
    · have := NL.out x hx; omega)
  obtain ⟨us, hus, hOT, htold⟩ := rb.ts
  obtain ⟨tg, tc, u, htv, hu, tcl⟩ := lw3.tc hOT hus hT
  obtain ⟨m, hm⟩ : ∃ m, S.tl.length = m := ⟨_, rfl⟩
  have him : i < m := by rw [← hm]; exact (List.getElem?_eq_some_iff.1 hT).1
  have hm32 : m ≤ 32 := by rw [← hm]; exact ok.t32
  have c65 : V2.cell? ⟨q, 65, none⟩ = some tv := (rR.cell 65).trans (RC_T _ _ _ _)
  rw [htv, hm] at c65
  have ch : ∀ k, k < 4 → V2.cell? ⟨q, 66 + k, none⟩ = some (.int .i64 (S.h k)) := fun k hk => (rR.cell (66 + k)).trans (RC_h _ _ _ _ hk)
  have cov := tcl 9 (.bool (decide (T.m + 2 ≤ T.k))) rfl
  rw [decide_eq_false (by omega)] at cov
  have cn : ∀ k, k < 4 → V2.cell? ⟨tg, i * 12 + 3 + k, none⟩ = some (.bool (T.need k)) := fun k hk => by
    obtain rfl | rfl | rfl | rfl : k = 0 ∨ k = 1 ∨ k = 2 ∨ k = 3 := by omega
    · exact tcl 3 _ rfl
    · exact tcl 4 _ rfl
    · exact tcl 5 _ rfl
    · exact tcl 6 _ rfl
  obtain ⟨i0, hi, hz0, hz1, hz2⟩ := info_parts info107
  have FONE := Lib.hid (show ∀ u ∈ flatT S.tl us, u.oneCell' = true from flatT_one _ _ (fun u hu => by
    obtain ⟨i, hi⟩ := List.getElem?_of_mem hu
    obtain ⟨_, _, e, _⟩ := htold i _ u (List.getElem?_eq_getElem (by have := (List.getElem?_eq_some_iff.1 hi).1; omega)) hi
    rw [e]; rfl))
  have lwU := lw3.alloc (.cells #[] 107)
  have own0 := World.ownsRow_lit (base := V2.heap.size) (e := 107) (size := 12) V2 #[] 0 (Nat.le_refl _) (by unfold maxLen; omega) rfl
  have bel1 : Below V2.heap.size V2 (V2.alloc (.cells #[] 107)) := (Below.refl _ V2).alloc (Nat.le_refl _) _
  have own1 := lwU.owns _ hOT
  have cU := ((lwU.rows (q, 96, RC s tv S.h dv) (by simp)).cell 65).trans (RC_T _ _ _ _)
  rw [htv, hm] at cU
  obtain ⟨g0, hg0⟩ : ∃ g0, V2.heap.size = g0 := ⟨_, rfl⟩
  obtain ⟨U1, hU1⟩ : ∃ U1, V2.alloc (.cells #[] 107) = U1 := ⟨_, rfl⟩
  rw [hg0, hU1] at bel1
  rw [hU1] at own0 own1 cU lwU
  rw [hg0] at own0
  have hU1s : g0 ≤ U1.heap.size := by rw [← hU1, ← hg0]; simp
  have CPY := Lib.hid (fun (u2 : World) (a' c' : Nat) (ho : u2.ownsRow g0 107 12 (.slice (some ⟨a', 0, none⟩) m c') m (flatT S.tl us)) (hg : U1.grownBy u2 (some g0)) =>
    lw3.copied (v' := u2) (by rw [hg0]; exact ho) (by rw [hg0]; exact bel1.grown hg hU1s (fun k hk => by cases hk; exact Nat.le_refl _)))
  have OWN0 := Lib.hid own0; have OWN1 := Lib.hid (show U1.ownsRow n 107 12 (.slice (some ⟨tg, 0, none⟩) m tc) m (flatT S.tl us) from by have := own1; rw [htv] at this; show U1.ownsRow n 107 12 _ m _; rw [← hm]; exact this)
  have HG0 := Lib.hid hg0; have HU1 := Lib.hid hU1; have HU1S := Lib.hid hU1s
  have CH := Lib.hid ch; have CN := Lib.hid cn; have HALL := Lib.hid hall; have HM := Lib.hid hm; have HM32 := Lib.hid hm32
  have HT := Lib.hid hT; have HK := Lib.hid hk; have OK := Lib.hid ok; have RB := Lib.hid rb; have HUS := Lib.hid hus; have HTO := Lib.hid htold; have HU := Lib.hid hu; have HL7 := Lib.hid hL7
  have MK := Lib.hid (all_held ok hT hk hall)
  have i1 : ((i : Nat) : Int) < (m : Nat) := by omega
  have i0' : (0 : Int) ≤ (i : Nat) := by omega
  have di : decide (((i : Nat) : Int) < 0) = false := by simp
  have dm : decide (((m : Nat) : Int) ≤ (i : Nat)) = false := by simp; omega
  obtain ⟨R, hR⟩ : ∃ R, RC s tv S.h dv = R := ⟨_, rfl⟩
  have HR := Lib.hid hR
  rw [hR] at rR iR zR ones HV1 ⊢
  clear lw1 lw2 hq hV1 hV2 s1 h rb hOT htold hus hT hk hall hu tcl ch cn him hm32 htv hm hL7 hg0 hU1 hU1s own0 own1 bel1 lwU ok hR lw3
  go_enter Try.func58, Try.ntmps58
  go_wp2_with (first | (rw [HQ.out, HV1.out]) | (rw [HS1.out, HV2.out]))
  go_loopg [6] 4 (fun m' j v' => ∃ k : Nat, m' + k = 4 ∧ j = .int .i64 k ∧ v' = V2)
  case atStart => exact ⟨0, rfl, rfl, rfl⟩
  case round =>
    obtain ⟨k, hp, rfl, rfl⟩ := hrel
    by_cases hk4 : k < 4
    · have c66 := CH.out k hk4
      have cnk := CN.out k hk4
      have i4 : ((k : Nat) : Int) < 4 := by omega
      have i5 : (0 : Int) ≤ (k : Nat) := by omega
      have wk : IntKind.i64.wrap ((k : Int) + 1) = (k : Int) + 1 := IntWalk.i64_in _ (by omega)
      have HP := Lib.hid hp; have HK4 := Lib.hid hk4
      cases hnk : T.need k
      · rw [hnk] at cnk
        clear hp hk4 hnk
        go_wp2
        go_roundg (4 - (k + 1))
        case measure => have := HP.out; have := HK4.out; omega
        case rel => exact ⟨k + 1, by have := HK4.out; omega, by go_num, rfl⟩
      · rw [hnk] at cnk
        rw [HALL.out k hk4 hnk] at c66
        clear hp hk4 hnk
        go_wp2
        go_roundg (4 - (k + 1))
        case measure => have := HP.out; have := HK4.out; omega
        case rel => exact ⟨k + 1, by have := HK4.out; omega, by go_num, rfl⟩
    · have hk4 : k = 4 := by omega
      subst hk4
      clear hp
      have i4 : ¬ (((4 : Nat) : Int) < 4) := by decide
      go_wp2_with (first | (rw [HG0.out, HU1.out]) | (at_builtin; refine wpList_append_copy _ rfl (.tmp 59) (.tmp 61) 93 rfl g0 107 i0 _ 12 64 Try.underlying93 hi hz0 hz1 hz2 rfl (by decide) g0 ?a1 OWN0.out n (.slice (some ⟨tg, 0, none⟩) m tc) m (flatT S.tl us) ?a2 OWN1.out FONE.out ?a4 ?a5 HU1S.out ?_))
      case a4 => have := HM32.out; unfold maxLen; omega
      case a5 => have := HM32.out; omega
      intro a' c' u2 ho hg hs
      have lw4 := (CPY.out u2 a' c' ho hg).sub (L' := (q, 96, RC s tv S.h dv) :: (q + 1, 96, Try.zeroCells96) :: L) (O' := ⟨107, 12, .slice (some ⟨a', 0, none⟩) m c', m, flatT S.tl us⟩ :: noT O) (fun x hx => hx) (fun o ho => by
        rcases List.mem_cons.1 ho with rfl | ho
        · exact List.mem_cons_self
        · exact List.mem_cons_of_mem _ (noT_sub o ho))
      have tyC : ∀ o ∈ (⟨107, 12, .slice (some ⟨a', 0, none⟩) m c', m, flatT S.tl us⟩ : Ow) :: noT O, o.t ≠ 96 := fun o ho => by
        rcases List.mem_cons.1 ho with rfl | ho
        · show (107 : Nat) ≠ 96; decide
        · exact RB.out.no96 o (noT_sub o ho)
      have rR4 := lw4.rows (q, 96, RC s tv S.h dv) (by simp)
      have c4 : u2.cell? ⟨q, 65, none⟩ = some tv := (rR4.cell 65).trans (RC_T _ _ _ _)
      have f4 : u2.frozen? ⟨q, 65, none⟩ = false := rR4.frozen _
      have lw5 := lw4.setCell 65 (.slice (some ⟨a', 0, none⟩) m c') NQ.out tyC
      rw [RC_setT] at lw5
      obtain ⟨U3, hU3⟩ : ∃ U3, u2.setCell ⟨q, 65, none⟩ (.slice (some ⟨a', 0, none⟩) m c') = U3 := ⟨_, rfl⟩
      rw [hU3] at lw5
      have rR5 := lw5.rows (q, 96, RC s (.slice (some ⟨a', 0, none⟩) m c') S.h dv) (by simp)
      have c65 : U3.cell? ⟨q, 65, none⟩ = some (.slice (some ⟨a', 0, none⟩) m c') := (rR5.cell 65).trans (RC_T _ _ _ _)
      obtain ⟨tg', tc', u', e1, hu', tcl⟩ := lw5.tc (tv := .slice (some ⟨a', 0, none⟩) m c') (tl := S.tl) (us := us) (by unfold OwT; rw [HM.out]; simp) HUS.out HT.out
      obtain rfl : u' = u := Option.some.inj (hu'.symm.trans HU.out)
      have e2 : tg' = a' := by have h := congrArg Value.ownBlock e1; simpa [Value.ownBlock] using h.symm
      clear e1
      subst e2
      have c8 := tcl 8 (.bool (decide (T.m < T.k))) rfl
      have TYC := Lib.hid tyC; have HU3 := Lib.hid hU3; have TCL := Lib.hid tcl; have LWC := Lib.hid lw5
      clear hU3 tcl lw4 lw5 tyC rR4 ho hg hs rR5 hu' cov cU OWN0 OWN1 CPY HG0 HU1 HU1S CH CN HALL
      rw [decide_eq_false (show ¬ T.m < T.k by omega)] at c8
      have R107 := Lib.hid (show ∀ x ∈ ((q, 96, RC s (.slice (some ⟨tg', 0, none⟩) m c') S.h dv) :: (q + 1, 96, Try.zeroCells96) :: L), x.2.1 ≠ 107 from fun x hx => by
        rcases List.mem_cons.1 hx with rfl | hx
        · show (96 : Nat) ≠ 107; decide
        · rcases List.mem_cons.1 hx with rfl | hx
          · show (96 : Nat) ≠ 107; decide
          · exact HL7.out x hx)
      have lwp := LWC.out.poke (i * 12 + 8) (.bool true) R107.out noT_ne
      have fset := flatT_set S.tl us i T u' T.next u' (.bool true) 8 HT.out HU.out (by decide) (by
        have h1 : decide (T.next.m < T.next.k) = true := decide_eq_true (by show T.m < T.k + 1; omega)
        have h2 : decide (T.next.m + 2 ≤ T.next.k) = decide (T.m + 2 ≤ T.k) := decide_eq_decide.2 (by show T.m + 2 ≤ T.k + 1 ↔ T.m + 2 ≤ T.k; omega)
        unfold tcells; rw [h1, h2]; rfl)
      rw [fset] at lwp
      obtain ⟨cur8, r8⟩ := owns_row (LWC.out.owns _ List.mem_cons_self) (g := tg') rfl
      have f8 : U3.frozen? ⟨tg', i * 12 + 8, none⟩ = false := r8.frozen _
      obtain ⟨U5, hU5⟩ : ∃ U5, U3.setCell ⟨tg', i * 12 + 8, none⟩ (.bool true) = U5 := ⟨_, rfl⟩
      rw [hU5] at lwp
      obtain ⟨j0, hj, hy0, hy1, hy2⟩ := info_parts info3c
      obtain ⟨da, dc, hdv⟩ := RB.out.df
      obtain ⟨d, hd⟩ : ∃ d, S.dn.length = d := ⟨_, rfl⟩
      have hd32 : d ≤ 32 := by have := OK.out.dnlen; have := HM32.out; have := HM.out; omega
      have own60 := World.ownsRow_lit (base := U5.heap.size) (e := 3) (size := 1) U5 #[] 0 (Nat.le_refl _) (by unfold maxLen; omega) rfl
      have bel6 : Below U5.heap.size U5 (U5.alloc (.cells #[] 3)) := (Below.refl _ U5).alloc (Nat.le_refl _) _
      have lw6 := lwp.alloc (.cells #[] 3)
      have own61 := lw6.owns (OwV dv S.dn) (List.mem_cons_of_mem _ (noT_in RB.out.dn (by show (3 : Nat) ≠ 107; decide)))
      have c70 := ((lw6.rows (q, 96, RC s (.slice (some ⟨tg', 0, none⟩) m c') S.h dv) (by simp)).cell 70).trans (RC_D _ _ _ _)
      have c65b := ((lwp.rows (q, 96, RC s (.slice (some ⟨tg', 0, none⟩) m c') S.h dv) (by simp)).cell 65).trans (RC_T _ _ _ _)
      have s6 : U5.heap.size ≤ (U5.alloc (.cells #[] 3)).heap.size := bel6.size
      obtain ⟨g5, hg5⟩ : ∃ g5, U5.heap.size = g5 := ⟨_, rfl⟩
      obtain ⟨U6, hU6⟩ : ∃ U6, U5.alloc (.cells #[] 3) = U6 := ⟨_, rfl⟩
      rw [hU6] at own60 bel6 own61 c70 s6
      rw [hg5] at own60 bel6 s6
      have own61 : U6.ownsRow n 3 1 (.slice da d dc) d (S.dn.map fun i : Nat => Value.int .i64 i) := by
        have h := own61; unfold OwV at h; simp only at h; rw [hdv, hd] at h; exact h
      rw [hdv, hd] at c70
      obtain ⟨xs, hxs⟩ : ∃ xs, (S.dn.map fun i : Nat => Value.int .i64 i) = xs := ⟨_, rfl⟩
      have xone : ∀ u ∈ xs, u.oneCell' = true := fun u hu => by
        rw [← hxs] at hu
        obtain ⟨y, _, rfl⟩ := List.mem_map.1 hu; rfl
      rw [hxs] at own61
      have CP2 := Lib.hid (fun (u9 : World) (uv : Value) (ho : u9.ownsRow g5 3 1 uv (d + 1) (xs ++ [.int .i64 (i : Nat)])) (hb : Below g5 U5 u9) => lwp.copied (v' := u9) (by rw [hg5]; exact ho) (by rw [hg5]; exact hb))
      have OWN60 := Lib.hid own60; have OWN61 := Lib.hid own61; have XONE := Lib.hid xone; have BEL6 := Lib.hid bel6; have S6 := Lib.hid s6; have HD := Lib.hid hd; have HD32 := Lib.hid hd32; have HXS := Lib.hid hxs; have HDV := Lib.hid hdv
      have HU5 := Lib.hid hU5; have HG5 := Lib.hid hg5; have HU6 := Lib.hid hU6
      clear lwp fset r8 hU5 own60 bel6 lw6 own61 s6 hg5 hU6 hxs xone hd hd32 hdv LWC
      go_wp2_with (first | (rw [HU3.out]) | (rw [HU5.out]) | (rw [HG5.out, HU6.out]) | (at_builtin; refine wpList_append_copy _ rfl (.tmp 94) (.tmp 96) 78 rfl g5 3 j0 (.int .i64 0) 1 8 ?c1 ?c2 ?c3 ?c4 ?c5 ?c6 ?c7 g5 ?c8 ?c9 n (.slice da d dc) d xs ?c10 ?c11 ?c12 ?a4 ?a5 ?c15 ?_; (case c1 => exact Try.underlying78); (case c2 => exact hj); (case c3 => exact hy0); (case c4 => exact hy1); (case c5 => exact hy2); (case c6 => rfl); (case c7 => decide); (case c8 => rfl); (case c9 => exact OWN60.out); (case c10 => rfl); (case c11 => exact OWN61.out); (case c12 => exact XONE.out); (case c15 => exact S6.out)))
      case a4 => have := HD32.out; unfold maxLen; omega
      case a5 => have := HD32.out; omega
      intro a2 c2 u7 ho7 hg7 hs7
      have hb7 := BEL6.out.grown hg7 S6.out (fun k hk => by cases hk; exact Nat.le_refl _)
      have a2lt := ho7.lt a2 rfl
      have own8 := ho7.alloc (.cells #[.int .i64 (i : Nat)] 3)
      have r8 := M.RowAt.new u7 3 #[.int .i64 (i : Nat)]
      have hb8 := hb7.alloc (by have := hb7.size; have := HG5.out; omega) (.cells #[.int .i64 (i : Nat)] 3)
      obtain ⟨g7, hg7'⟩ : ∃ g7, u7.heap.size = g7 := ⟨_, rfl⟩
      obtain ⟨U8, hU8⟩ : ∃ U8, u7.alloc (.cells #[.int .i64 (i : Nat)] 3) = U8 := ⟨_, rfl⟩
      rw [hU8] at own8 hb8 r8
      rw [hg7'] at r8
      have s8 : g5 ≤ U8.heap.size := by have := hb8.size; have := HG5.out; omega
      have OWN8 := Lib.hid own8; have HB8 := Lib.hid hb8; have R8 := Lib.hid r8; have S8 := Lib.hid s8; have HG7 := Lib.hid hg7'; have HU8 := Lib.hid hU8; have A2 := Lib.hid a2lt
      clear ho7 hg7 hs7 hb7 a2lt own8 r8 hb8 hg7' hU8 s8 c70 OWN60 OWN61 BEL6 HU6 c4 f4
      go_wp2_with (first | (rw [HG7.out, HU8.out]) | (at_builtin; refine wpList_append_sep2 _ rfl (.tmp 97) (.tmp 99) 78 rfl g5 3 j0 _ 1 8 Try.underlying78 hj hy0 hy1 hy2 rfl (by decide) (.slice (some ⟨a2, 0, none⟩) d c2) d xs ?b1 OWN8.out ⟨g7, 0, none⟩ 1 1 [.int .i64 (i : Nat)] ?b2 rfl ?b3 ?b4 (by decide) ?b5 ?b6 S8.out ?_))
      case b1 => rfl
      case b2 => rfl
      case b3 =>
        intro j x hx
        first | rw [Addr.add_mid, R8.out.cell, Nat.zero_add] | rw [R8.out.cell]
        simpa using hx
      case b4 => intro x hx; simp at hx; subst hx; rfl
      case b5 => have := HD32.out; unfold maxLen; omega
      case b6 => have := HD32.out; omega
      intro uv u9 ho9 hg9 hs9
      have hb9 := HB8.out.grown hg9 S8.out (fun k hk => by cases hk; exact A2.out.1)
      have lw9 := CP2.out u9 uv ho9 hb9
      obtain ⟨uva, uvc, huv⟩ := own_form ho9 (Nat.succ_le_succ (Nat.zero_le d))
      have huv : uv = .slice (some ⟨uva, 0, none⟩) (d + 1) uvc := huv
      subst huv
      have ty9 : ∀ o ∈ (⟨3, 1, .slice (some ⟨uva, 0, none⟩) (d + 1) uvc, d + 1, xs ++ [.int .i64 (i : Nat)]⟩ : Ow) :: (⟨107, 12, (.slice (some ⟨tg', 0, none⟩) m c'), m, flatT (S.tl.set i T.next) (us.set i u')⟩ : Ow) :: noT O, o.t ≠ 96 := fun o ho => by
        rcases List.mem_cons.1 ho with rfl | ho
        · show (3 : Nat) ≠ 96; decide
        · rcases List.mem_cons.1 ho with rfl | ho
          · show (107 : Nat) ≠ 96; decide
          · exact RB.out.no96 o (noT_sub o ho)
      have c70 := ((lw9.rows (q, 96, RC s (.slice (some ⟨tg', 0, none⟩) m c') S.h dv) (by simp)).cell 70).trans (RC_D _ _ _ _)
      have f70 : u9.frozen? ⟨q, 70, none⟩ = false := (lw9.rows (q, 96, RC s (.slice (some ⟨tg', 0, none⟩) m c') S.h dv) (by simp)).frozen _
      have lw10 := lw9.setCell 70 (.slice (some ⟨uva, 0, none⟩) (d + 1) uvc) NQ.out ty9
      rw [RC_setD] at lw10
      obtain ⟨U10, hU10⟩ : ∃ U10, u9.setCell ⟨q, 70, none⟩ (.slice (some ⟨uva, 0, none⟩) (d + 1) uvc) = U10 := ⟨_, rfl⟩
      rw [hU10] at lw10
      have eV : (⟨3, 1, .slice (some ⟨uva, 0, none⟩) (d + 1) uvc, d + 1, xs ++ [.int .i64 (i : Nat)]⟩ : Ow) = OwV (.slice (some ⟨uva, 0, none⟩) (d + 1) uvc) (S.dn ++ [i]) := by
        unfold OwV; rw [List.length_append, HD.out, List.map_append, HXS.out]; rfl
      rw [eV] at lw10
      obtain ⟨dv', hdv'⟩ : ∃ dv' : Value, .slice (some ⟨uva, 0, none⟩) (d + 1) uvc = dv' := ⟨_, rfl⟩
      rw [hdv'] at lw10
      have hdf : ∃ a c, dv' = .slice a (S.dn ++ [i]).length c := ⟨_, _, by rw [← hdv', List.length_append, HD.out]; rfl⟩
      have lwX := lw10.sub (L' := ((q, 96, RC s (.slice (some ⟨tg', 0, none⟩) m c') S.h dv') :: (q + 1, 96, Try.zeroCells96) :: L)) (O' := (⟨107, 12, (.slice (some ⟨tg', 0, none⟩) m c'), m, flatT (S.tl.set i T.next) (us.set i u')⟩ : Ow) :: OwV dv' (S.dn ++ [i]) :: noT O) (fun x hx => hx) (fun o ho => by
        simp only [List.mem_cons] at ho ⊢
        rcases ho with e | e | e
        · exact .inr (.inl e)
        · exact .inl e
        · exact .inr (.inr e))
      have c65 := ((lwX.rows (q, 96, RC s (.slice (some ⟨tg', 0, none⟩) m c') S.h dv') (by simp)).cell 65).trans (RC_T _ _ _ _)
      have hC1 : (⟨107, 12, (.slice (some ⟨tg', 0, none⟩) m c'), m, flatT (S.tl.set i T.next) (us.set i u')⟩ : Ow) = OwT (.slice (some ⟨tg', 0, none⟩) m c') (S.tl.set i T.next) (us.set i u') := by unfold OwT; rw [List.length_set, HM.out]
      have hus1 : (us.set i u').length = (S.tl.set i T.next).length := by rw [List.length_set, List.length_set]; exact HUS.out
      have hT1 : (S.tl.set i T.next)[i]? = some T.next := List.getElem?_set_self (List.getElem?_eq_some_iff.1 HT.out).1
      have hu1 : (us.set i u')[i]? = some u' := List.getElem?_set_self (List.getElem?_eq_some_iff.1 HU.out).1
      have tcX : ∀ (W : World) (O2 : List Ow) (K2 : List (Nat × TypeId × Array Value)), LW n w0 b S0 K2 ((⟨107, 12, (.slice (some ⟨tg', 0, none⟩) m c'), m, flatT (S.tl.set i T.next) (us.set i u')⟩ : Ow) :: O2) W → ∀ j x, (tcells T.next u')[j]? = some x → W.cell? ⟨tg', i * 12 + j, none⟩ = some x := fun W O2 K2 lw => by
        obtain ⟨tgx, _, ux, e1, hux, tcx⟩ := lw.tc (tv := (.slice (some ⟨tg', 0, none⟩) m c')) (by rw [← hC1]; exact List.mem_cons_self) hus1 hT1
        have e2 : tgx = tg' := by have h := congrArg Value.ownBlock e1; simpa [Value.ownBlock] using h.symm
        subst e2
        have e3 : ux = u' := Option.some.inj (hux.symm.trans hu1)
        subst e3
        exact tcx
      have c7 := tcX _ _ _ lwX 7 (.bool T.lists) rfl
      have LWX := Lib.hid lwX; have TCX := Lib.hid tcX; have HDF := Lib.hid hdf; have HU10 := Lib.hid hU10; have HDV' := Lib.hid hdv'; have HT1 := Lib.hid hT1; have HU1' := Lib.hid hu1
      clear lwX tcX hdf hU10 lw9 lw10 ho9 hg9 hs9 hb9 ty9 eV hC1 hus1 OWN8 HB8 R8 S8 A2 CP2 c65b hT1 hu1 c8 f8 hdv'
      rw [hli] at c7
      go_wp2_with (first | (rw [HU10.out]))
      clear c65 c7 c70 f70
      refine QC.wp_region_d [3, 7, 10] [0, 1, 2, 4, 5, 6, 3, 7, 8, 9, 10] (by kernel_rfl) (by kernel_rfl) (fun z dz => ?_)
      have lwz := LWX.out.dr dz
      obtain ⟨sa, sc, hsv⟩ := RB.out.sf
      have c65 := ((lwz.rows (q, 96, RC s (.slice (some ⟨tg', 0, none⟩) m c') S.h dv') (by simp)).cell 65).trans (RC_T _ _ _ _)
      have c0 := ((lwz.rows (q, 96, RC s (.slice (some ⟨tg', 0, none⟩) m c') S.h dv') (by simp)).cell 0).trans (RC_0 _ _ _ _)
      rw [hsv] at c0
      obtain ⟨k0, hk0, hx0, hx1, hx2⟩ := info_parts info23c
      have own80 := World.ownsRow_lit (base := z.heap.size) (e := 23) (size := 1) z #[] 0 (Nat.le_refl _) (by unfold maxLen; omega) rfl
      have bel8 : Below z.heap.size z (z.alloc (.cells #[] 23)) := (Below.refl _ z).alloc (Nat.le_refl _) _
      have lw8 := lwz.alloc (.cells #[] 23)
      have own81 := lw8.owns (OwP s S.n S.f) (List.mem_cons_of_mem _ (List.mem_cons_of_mem _ (noT_in RB.out.bal (by show (23 : Nat) ≠ 107; decide))))
      have c65b := ((lw8.rows (q, 96, RC s (.slice (some ⟨tg', 0, none⟩) m c') S.h dv') (by simp)).cell 65).trans (RC_T _ _ _ _)
      have c0b := ((lw8.rows (q, 96, RC s (.slice (some ⟨tg', 0, none⟩) m c') S.h dv') (by simp)).cell 0).trans (RC_0 _ _ _ _)
      rw [hsv] at c0b
      have s8 := bel8.size
      obtain ⟨g8, hg8⟩ : ∃ g8, z.heap.size = g8 := ⟨_, rfl⟩
      obtain ⟨Z1, hZ1⟩ : ∃ Z1, z.alloc (.cells #[] 23) = Z1 := ⟨_, rfl⟩
      rw [hZ1] at own80 bel8 own81 c65b c0b s8
      rw [hg8] at own80 bel8 s8
      have own81 : Z1.ownsRow n 23 1 (.slice sa S.n sc) S.n (vals S.n S.f) := by rw [← hsv]; exact own81
      have CP3 := Lib.hid (fun (u9 : World) (uv : Value) (ho : u9.ownsRow g8 23 1 uv S.n (vals S.n S.f)) (hb : Below g8 z u9) => lwz.copied (v' := u9) (by rw [hg8]; exact ho) (by rw [hg8]; exact hb))
      have OWN80 := Lib.hid own80; have OWN81 := Lib.hid own81; have BEL8 := Lib.hid bel8; have S8 := Lib.hid s8; have HG8 := Lib.hid hg8; have HZ1 := Lib.hid hZ1
      have HSV := Lib.hid hsv
      have XONE := Lib.hid (vals_one S.n S.f)
      clear dz lwz own80 bel8 lw8 own81 s8 hg8 hZ1 hsv
      iterate 6
        (first
         | (apply QC.wpC_load
            (focus rfl)
            (focus decide)
            (focus rfl)
            (focus rfl)
            (focus rfl)
            (focus (assumption))
            (focus (intro u hu; go_simp))
            intro K hK
            go_simp
            refine hK _ ?_
            clear hK K)
         | (apply QC.wpC_pure
            (focus rfl)
            (focus decide)
            intro K hK
            go_simp
            first
             | (refine hK _ ?_; clear hK K)
             | (apply Exists.intro
                refine ⟨fun u => ?_, hK _ ?_⟩
                (focus (unfold QP.oat; go_simp; first | done | exact ⟨rfl, rfl⟩ | exact rfl))
                clear hK K)))
      apply QC.wpC_eff
      (focus rfl)
      (focus decide)
      go_wp2_with (first | (rw [HG8.out, HZ1.out]) | fail)
      clear c65 c0
      refine QC.eff_ok rfl ?_ ?_
      · (repeat (first | exact QC.obl_nil | refine QC.obl_is (by assumption) ?_ | (apply QC.obl_dep; (focus decide))))
      apply QC.wpC_eff
      (focus rfl)
      (focus decide)
      go_wp2_with (first | (at_builtin; refine wpList_append_copy _ rfl (.tmp 111) (.tmp 114) 33 rfl g8 23 k0 (.int .u64 0) 1 8 ?c1 ?c2 ?c3 ?c4 ?c5 ?c6 ?c7 g8 ?c8 ?c9 n (.slice sa S.n sc) S.n (vals S.n S.f) ?c10 ?c11 ?c12 ?a4 ?a5 ?c15 ?_; (case c1 => exact Try.underlying33); (case c2 => exact hk0); (case c3 => exact hx0); (case c4 => exact hx1); (case c5 => exact hx2); (case c6 => rfl); (case c7 => decide); (case c8 => rfl); (case c9 => exact OWN80.out); (case c10 => rfl); (case c11 => exact OWN81.out); (case c12 => exact XONE.out); (case c15 => exact S8.out)) | fail)
      case a4 => have := N32.out; unfold maxLen; omega
      case a5 => have := N32.out; omega
      intro a3 c3 u11 ho11 hg11 hs11
      have lw11 := CP3.out u11 _ ho11 (BEL8.out.grown hg11 S8.out (fun k hk => by cases hk; exact Nat.le_refl _))
      have lw11 := lw11.sub (L' := ((q, 96, RC s (.slice (some ⟨tg', 0, none⟩) m c') S.h dv') :: (q + 1, 96, Try.zeroCells96) :: L)) (O' := (⟨107, 12, (.slice (some ⟨tg', 0, none⟩) m c'), m, flatT (S.tl.set i T.next) (us.set i u')⟩ : Ow) :: ⟨23, 1, (.slice (some ⟨a3, 0, none⟩) S.n c3), S.n, vals S.n S.f⟩ :: OwV dv' (S.dn ++ [i]) :: noT O) (fun x hx => hx) (fun o ho => by
        simp only [List.mem_cons] at ho ⊢
        rcases ho with e | e | e | e
        · exact .inr (.inl e)
        · exact .inl e
        · exact .inr (.inr (.inl e))
        · exact .inr (.inr (.inr e)))
      have c11 := TCX.out _ _ _ lw11 11 u' rfl
      have c65 := ((lw11.rows (q, 96, RC s (.slice (some ⟨tg', 0, none⟩) m c') S.h dv') (by simp)).cell 65).trans (RC_T _ _ _ _)
      have c0 := ((lw11.rows (q, 96, RC s (.slice (some ⟨tg', 0, none⟩) m c') S.h dv') (by simp)).cell 0).trans (RC_0 _ _ _ _)
      rw [HSV.out] at c0
      obtain ⟨cur11, r11⟩ := owns_row (lw11.owns _ List.mem_cons_self) (g := tg') rfl
      have f11 : u11.frozen? ⟨tg', i * 12 + 11, none⟩ = false := r11.frozen _
      have lwp := lw11.poke (i * 12 + 11) (.slice (some ⟨a3, 0, none⟩) S.n c3) (fun x hx => by
        rcases List.mem_cons.1 hx with rfl | hx
        · show (96 : Nat) ≠ 107; decide
        · rcases List.mem_cons.1 hx with rfl | hx
          · show (96 : Nat) ≠ 107; decide
          · exact HL7.out x hx) (fun o ho => by
        rcases List.mem_cons.1 ho with rfl | ho
        · show (23 : Nat) ≠ 107; decide
        · rcases List.mem_cons.1 ho with rfl | ho
          · show (3 : Nat) ≠ 107; decide
          · exact noT_ne o ho)
      have fset := flatT_set (S.tl.set i T.next) (us.set i u') i T.next u' { T with k := T.k + 1, told := S.bals } (.slice (some ⟨a3, 0, none⟩) S.n c3) (.slice (some ⟨a3, 0, none⟩) S.n c3) 11 HT1.out HU1'.out (by decide) rfl
      rw [fset, List.set_set, List.set_set] at lwp
      obtain ⟨U12, hU12⟩ : ∃ U12, u11.setCell ⟨tg', i * 12 + 11, none⟩ (.slice (some ⟨a3, 0, none⟩) S.n c3) = U12 := ⟨_, rfl⟩
      rw [hU12] at lwp
      have hOT : (⟨107, 12, (.slice (some ⟨tg', 0, none⟩) m c'), m, flatT (S.tl.set i { T with k := T.k + 1, told := S.bals }) (us.set i (.slice (some ⟨a3, 0, none⟩) S.n c3))⟩ : Ow) = OwT (.slice (some ⟨tg', 0, none⟩) m c') (S.tl.set i { T with k := T.k + 1, told := S.bals }) (us.set i (.slice (some ⟨a3, 0, none⟩) S.n c3)) := by unfold OwT; rw [List.length_set, HM.out]
      have rb' : RBO ((⟨107, 12, (.slice (some ⟨tg', 0, none⟩) m c'), m, flatT (S.tl.set i { T with k := T.k + 1, told := S.bals }) (us.set i (.slice (some ⟨a3, 0, none⟩) S.n c3))⟩ : Ow) :: ⟨23, 1, (.slice (some ⟨a3, 0, none⟩) S.n c3), S.n, vals S.n S.f⟩ :: OwV dv' (S.dn ++ [i]) :: noT O) { S with tl := S.tl.set i { T with k := T.k + 1, told := S.bals }, dn := S.dn ++ [i] } s (.slice (some ⟨tg', 0, none⟩) m c') dv' :=
        RB.out.put HTO.out HT.out (us' := us.set i (.slice (some ⟨a3, 0, none⟩) S.n c3)) (T' := { T with k := T.k + 1, told := S.bals }) rfl rfl RB.out.sf ⟨_, _, by rw [HM.out]⟩ HDF.out
          (List.mem_cons_of_mem _ (List.mem_cons_of_mem _ (List.mem_cons_of_mem _ (noT_in RB.out.bal (by show (23 : Nat) ≠ 107; decide))))) (List.mem_cons_of_mem _ (List.mem_cons_of_mem _ List.mem_cons_self)) (by rw [List.length_set]; exact HUS.out) (by rw [hOT]; exact List.mem_cons_self)
          (fun j u hu hj => by rwa [List.getElem?_set_ne (fun e => hj e.symm)] at hu) (fun u hu => by
            rw [List.getElem?_set_self (by have := HUS.out; have := (List.getElem?_eq_some_iff.1 HT.out).1; omega)] at hu
            obtain rfl := Option.some.inj hu
            refine ⟨some ⟨a3, 0, none⟩, c3, by show _ = Value.slice _ S.bals.length _; rw [bals_len], ?_⟩
            show (⟨23, 1, (.slice (some ⟨a3, 0, none⟩) S.n c3), S.bals.length, S.bals.map (Value.int .u64)⟩ : Ow) ∈ _
            rw [bals_len]
            exact List.mem_cons_of_mem _ List.mem_cons_self) (fun o ho => by
            rcases List.mem_cons.1 ho with rfl | ho
            · exact .inr (.inr rfl)
            · rcases List.mem_cons.1 ho with rfl | ho
              · exact .inl rfl
              · rcases List.mem_cons.1 ho with rfl | ho
                · exact .inr (.inl rfl)
                · exact RB.out.ty o (noT_sub o ho)) (fun j X u _ _ _ ht => by
            obtain ⟨a, c, e1, e2⟩ := ht
            exact ⟨a, c, e1, List.mem_cons_of_mem _ (List.mem_cons_of_mem _ (List.mem_cons_of_mem _ (noT_in e2 (by show (23 : Nat) ≠ 107; decide))))⟩)
      have FIN := Lib.hid (RStp.fin (S' := { S with tl := S.tl.set i { T with k := T.k + 1, told := S.bals }, dn := S.dn ++ [i] }) (x := 0) lwp rb' NL.out)
      have onesF := rb'.ones
      have rRF := lwp.rows (q, 96, RC s (.slice (some ⟨tg', 0, none⟩) m c') S.h dv') (by simp)
      have rZF := lwp.rows (q + 1, 96, Try.zeroCells96) (by simp)
      have c65c := (rRF.cell 65).trans (RC_T _ _ _ _)
      have c0c := (rRF.cell 0).trans (RC_0 _ _ _ _)
      rw [HSV.out] at c0c
      have iRF := info96 s (.slice (some ⟨tg', 0, none⟩) m c') dv' S.h; have zRF := zero96 s (.slice (some ⟨tg', 0, none⟩) m c') dv' S.h
      have hload := run_loadVar_row (P := Try.prog) _ (q + 1) 96 96 (RC s (.slice (some ⟨tg', 0, none⟩) m c') S.h dv') (0, 0) _ (rZF.setRow (RC s (.slice (some ⟨tg', 0, none⟩) m c') S.h dv')) Try.underlying96 rfl iRF
      have HLD := Lib.hid hload
      have HU12 := Lib.hid hU12
      clear lw11 lwp fset hOT rb' r11 ho11 hg11 hs11 hU12 hload c65b c0b
      go_wp2
      refine QC.eff_ok rfl ?_ ?_
      · (repeat (first | exact QC.obl_nil | refine QC.obl_is (by assumption) ?_ | (apply QC.obl_dep; (focus decide))))
      iterate 2
        (first
         | (apply QC.wpC_load
            (focus rfl)
            (focus decide)
            (focus rfl)
            (focus rfl)
            (focus rfl)
            (focus (assumption))
            (focus (intro u hu; go_simp))
            intro K hK
            go_simp
            refine hK _ ?_
            clear hK K)
         | (apply QC.wpC_pure
            (focus rfl)
            (focus decide)
            intro K hK
            go_simp
            first
             | (refine hK _ ?_; clear hK K)
             | (apply Exists.intro
                refine ⟨fun u => ?_, hK _ ?_⟩
                (focus (unfold QP.oat; go_simp; first | done | exact ⟨rfl, rfl⟩ | exact rfl))
                clear hK K)))
      apply QC.wpC_eff
      (focus rfl)
      (focus decide)
      go_wp2_with (first | (rw [HU12.out]) | fail)
      clear c65 c0 c11 f11
      refine QC.eff_ok rfl ?_ ?_
      · (repeat (first | exact QC.obl_nil | refine QC.obl_is (by assumption) ?_ | (apply QC.obl_dep; (focus decide))))
      refine QC.wpC_nil ?_
      generalize RC s (.slice (some ⟨tg', 0, none⟩) m c') S.h dv' = RF at *
      go_wp2_with (first | (refine wpList_load_row (x := .tmp 2) (ty := 96) (g := q) (cs := RF) (t := 96) (fr := (0, 0)) ?_ ?_ ?_ _ rRF Try.underlying96 rfl iRF ?_; rfl; rfl; rfl) | (refine wpList_store_row (x := .tmp 4) (y := .tmp 118) (cells := RF) (old := Try.zeroCells96) (t := 96) (ty := 96) (g := q + 1) ?_ ?_ ?_ ?_ rZF iRF zRF onesF ?_; rfl; rfl; rfl; rfl))
      have hload := HLD.out
      exact bodyPost_ret (v := .tuple #[.agg RF, .int .i64 (0)]) (by simp [results, Try.results58, asAddr, hload]) rfl FIN.out
end
end Go.Proofs.Ytnnnbgndbmcffaa
namespace Go.Proofs.Ytnnnbgndbmcffaa
open Go.RowKit
set_option linter.unusedVariables false

theorem spl_RC (s s1 tv dv : Value) (h : Nat → Int) : spl (RC s tv h dv) 0 (PV s1).toList = RC s1 tv h dv := by
  apply Array.ext_getElem?
  intro i
  have hl : (PV s1).toList.length = 65 := by rw [Array.length_toList, PV_size]
  rw [spl_get _ _ _ _ (by rw [hl, RC_size]; decide), hl]
  split
  · rename_i hi
    have e := RC_P s1 tv dv h
    rw [Nat.sub_zero, ← e]
    rw [Array.getElem?_toList, Array.getElem?_extract, RC_size, if_pos (by omega), Nat.zero_add]
  · rename_i hi
    have h65 : 65 ≤ i := by omega
    obtain ⟨k, rfl⟩ : ∃ k, i = k + 1 := ⟨i - 1, by omega⟩
    unfold RC
    simp
theorem seqStep_mv {n : Nat} {f : Nat → Int} {fr to am : Int} (h : 0 ≤ fr) : seqStep n f ⟨0, fr, to, am⟩ = if movE n f fr to am = 0 then movF f fr.toNat to.toNat am else f := by
  unfold seqStep; rw [if_neg (by show ¬ fr < 0; omega)]
section
variable {n : Nat} {w0 v : World} {b : Nat} {S0 S : BS} {L : List (Nat × TypeId × Array Value)} {O : List Ow} {s tv dv : Value}
set_option maxRecDepth 100000 in
set_option maxHeartbeats 16000000 in
theorem rstepm_any (h : LW n w0 b S0 L O v) (rb : RBO O S s tv dv) (ok : S.Ok) (hL7 : ∀ x ∈ L, x.2.1 ≠ 107) (i : Nat) (T : Tsk) (hT : S.tl[i]? = some T) (hk : T.k < T.m + 2) (hall : ∀ s', s' < 4 → T.need s' = true → S.h s' = (i : Int)) (hkm : T.k = T.m) (hli : T.lists = false) {tot : Int} (hwh : Whole S.n S.f tot) (htot : tot ≤ 1125899906842624) :
    Calls Try.prog 58 #[.agg (RC s tv S.h dv), .int .i64 (i : Nat)] v (RStp n w0 b S0 L (S.step (i : Nat))) := by
  have hact : S.act i T = { S with f := (if (movE S.n S.f T.fr T.to T.am) = 0 then movF S.f T.fr.toNat T.to.toNat T.am else S.f), tl := S.tl.set i { T with k := T.k + 1, er := (movE S.n S.f T.fr T.to T.am) }, dn := S.dn ++ [i] } := by unfold BS.act; rw [if_neg (by rw [hli]; decide)]
  rw [rstep_act hT hkm, hact]
  obtain ⟨rr, hrr⟩ : ∃ rr : BS × Int, (({ S with f := (if (movE S.n S.f T.fr T.to T.am) = 0 then movF S.f T.fr.toNat T.to.toNat T.am else S.f), tl := S.tl.set i { T with k := T.k + 1, er := (movE S.n S.f T.fr T.to T.am) }, dn := S.dn ++ [i] }, 0) : BS × Int) = rr := ⟨_, rfl⟩
  rw [hrr]
  have HRR := Lib.hid hrr
  clear hact hrr
  obtain ⟨⟨fr0, frn⟩, _, am0, _⟩ := ok.ra i T hT hli
  have N1 := Lib.hid (show 1 ≤ S.n by omega)
  have RMQ := Lib.hid (fun (u : World) (K2 : List (Nat × TypeId × Array Value)) (O2 : List Ow) (l : LW n w0 b S0 K2 (OwP s S.n S.f :: O2) u) => lw_rmove l hwh htot ok.n32 (by omega) ⟨0, T.fr, T.to, T.am⟩ fr0 am0)
  have SQ := Lib.hid (seqStep_mv (n := S.n) (f := S.f) (fr := T.fr) (to := T.to) (am := T.am) fr0)
  have n32 := ok.n32
  clear hwh htot fr0 frn am0
  have ones := rb.ones
  obtain ⟨q, hq⟩ : ∃ q, v.heap.size = q := ⟨_, rfl⟩
  have NL := Lib.hid (show ∀ y ∈ L, y.1 < q from fun y hy => by have := (h.rows y hy).lt; omega)
  have lw1 := h.new 96 (RC s tv S.h dv)
  obtain ⟨V1, hV1⟩ : ∃ V1, v.alloc (.cells (RC s tv S.h dv) 96) = V1 := ⟨_, rfl⟩
  have s1 : V1.heap.size = q + 1 := by rw [← hV1, ← hq]; simp
  rw [hV1, hq] at lw1
  have lw2 := lw1.new 96 Try.zeroCells96
  obtain ⟨V2, hV2⟩ : ∃ V2, V1.alloc (.cells Try.zeroCells96 96) = V2 := ⟨_, rfl⟩
  rw [hV2, s1] at lw2
  have lw3 := lw2.sub (L' := (q, 96, RC s tv S.h dv) :: (q + 1, 96, Try.zeroCells96) :: L) (fun x hx => by simp only [List.mem_cons] at hx ⊢; rcases hx with e | e | e; exact .inr (.inl e); exact .inl e; exact .inr (.inr e)) (fun o ho => ho)
  have rR := lw3.rows (q, 96, RC s tv S.h dv) (by simp)
  have rZ := lw3.rows (q + 1, 96, Try.zeroCells96) (by simp)
  have iR := info96 s tv dv S.h; have zR := zero96 s tv dv S.h
  have HQ := Lib.hid hq; have HV1 := Lib.hid hV1; have HV2 := Lib.hid hV2; have HS1 := Lib.hid s1
  have NQ := Lib.hid (show ∀ x ∈ (q + 1, 96, Try.zeroCells96) :: L, x.1 ≠ q from fun x hx => by
    rcases List.mem_cons.1 hx with rfl | hx
    · show q + 1 ≠ q; omega
    · have := NL.out x hx; omega)
  obtain ⟨us, hus, hOT, htold⟩ := rb.ts
  obtain ⟨tg, tc, u, htv, hu, tcl⟩ := lw3.tc hOT hus hT
  obtain ⟨m, hm⟩ : ∃ m, S.tl.length = m := ⟨_, rfl⟩
  have him : i < m := by rw [← hm]; exact (List.getElem?_eq_some_iff.1 hT).1
  have hm32 : m ≤ 32 := by rw [← hm]; exact ok.t32
  have c65 : V2.cell? ⟨q, 65, none⟩ = some tv := (rR.cell 65).trans (RC_T _ _ _ _)
  rw [htv, hm] at c65
  have ch : ∀ k, k < 4 → V2.cell? ⟨q, 66 + k, none⟩ = some (.int .i64 (S.h k)) := fun k hk => (rR.cell (66 + k)).trans (RC_h _ _ _ _ hk)
  have cov := tcl 9 (.bool (decide (T.m + 2 ≤ T.k))) rfl
  rw [decide_eq_false (by omega)] at cov
  have cn : ∀ k, k < 4 → V2.cell? ⟨tg, i * 12 + 3 + k, none⟩ = some (.bool (T.need k)) := fun k hk => by
    obtain rfl | rfl | rfl | rfl : k = 0 ∨ k = 1 ∨ k = 2 ∨ k = 3 := by omega
    · exact tcl 3 _ rfl
    · exact tcl 4 _ rfl
    · exact tcl 5 _ rfl
    · exact tcl 6 _ rfl
  obtain ⟨i0, hi, hz0, hz1, hz2⟩ := info_parts info107
  have FONE := Lib.hid (show ∀ u ∈ flatT S.tl us, u.oneCell' = true from flatT_one _ _ (fun u hu => by
    obtain ⟨i, hi⟩ := List.getElem?_of_mem hu
    obtain ⟨_, _, e, _⟩ := htold i _ u (List.getElem?_eq_getElem (by have := (List.getElem?_eq_some_iff.1 hi).1; omega)) hi
    rw [e]; rfl))
  have lwU := lw3.alloc (.cells #[] 107)
  have own0 := World.ownsRow_lit (base := V2.heap.size) (e := 107) (size := 12) V2 #[] 0 (Nat.le_refl _) (by unfold maxLen; omega) rfl
  have bel1 : Below V2.heap.size V2 (V2.alloc (.cells #[] 107)) := (Below.refl _ V2).alloc (Nat.le_refl _) _
  have own1 := lwU.owns _ hOT
  have cU := ((lwU.rows (q, 96, RC s tv S.h dv) (by simp)).cell 65).trans (RC_T _ _ _ _)
  rw [htv, hm] at cU
  obtain ⟨g0, hg0⟩ : ∃ g0, V2.heap.size = g0 := ⟨_, rfl⟩
  obtain ⟨U1, hU1⟩ : ∃ U1, V2.alloc (.cells #[] 107) = U1 := ⟨_, rfl⟩
  rw [hg0, hU1] at bel1
  rw [hU1] at own0 own1 cU lwU
  rw [hg0] at own0
  have hU1s : g0 ≤ U1.heap.size := by rw [← hU1, ← hg0]; simp
  have CPY := Lib.hid (fun (u2 : World) (a' c' : Nat) (ho : u2.ownsRow g0 107 12 (.slice (some ⟨a', 0, none⟩) m c') m (flatT S.tl us)) (hg : U1.grownBy u2 (some g0)) =>
    lw3.copied (v' := u2) (by rw [hg0]; exact ho) (by rw [hg0]; exact bel1.grown hg hU1s (fun k hk => by cases hk; exact Nat.le_refl _)))
  have OWN0 := Lib.hid own0; have OWN1 := Lib.hid (show U1.ownsRow n 107 12 (.slice (some ⟨tg, 0, none⟩) m tc) m (flatT S.tl us) from by have := own1; rw [htv] at this; show U1.ownsRow n 107 12 _ m _; rw [← hm]; exact this)
  have HG0 := Lib.hid hg0; have HU1 := Lib.hid hU1; have HU1S := Lib.hid hU1s
  have CH := Lib.hid ch; have CN := Lib.hid cn; have HALL := Lib.hid hall; have HM := Lib.hid hm; have HM32 := Lib.hid hm32
  have HT := Lib.hid hT; have HK := Lib.hid hk; have OK := Lib.hid ok; have RB := Lib.hid rb; have HUS := Lib.hid hus; have HTO := Lib.hid htold; have HU := Lib.hid hu; have HL7 := Lib.hid hL7
  have MK := Lib.hid (all_held ok hT hk hall)
  have i1 : ((i : Nat) : Int) < (m : Nat) := by omega
  have i0' : (0 : Int) ≤ (i : Nat) := by omega
  have di : decide (((i : Nat) : Int) < 0) = false := by simp
  have dm : decide (((m : Nat) : Int) ≤ (i : Nat)) = false := by simp; omega
  obtain ⟨R, hR⟩ : ∃ R, RC s tv S.h dv = R := ⟨_, rfl⟩
  have HR := Lib.hid hR
  rw [hR] at rR iR zR ones HV1 ⊢
  clear lw1 lw2 hq hV1 hV2 s1 h rb hOT htold hus hT hk hall hu tcl ch cn him hm32 htv hm hL7 hg0 hU1 hU1s own0 own1 bel1 lwU ok hR lw3
  go_enter Try.func58, Try.ntmps58
  go_wp2_with (first | (rw [HQ.out, HV1.out]) | (rw [HS1.out, HV2.out]))
  go_loopg [6] 4 (fun m' j v' => ∃ k : Nat, m' + k = 4 ∧ j = .int .i64 k ∧ v' = V2)
  case atStart => exact ⟨0, rfl, rfl, rfl⟩
  case round =>
    obtain ⟨k, hp, rfl, rfl⟩ := hrel
    by_cases hk4 : k < 4
    · have c66 := CH.out k hk4
      have cnk := CN.out k hk4
      have i4 : ((k : Nat) : Int) < 4 := by omega
      have i5 : (0 : Int) ≤ (k : Nat) := by omega
      have wk : IntKind.i64.wrap ((k : Int) + 1) = (k : Int) + 1 := IntWalk.i64_in _ (by omega)
      have HP := Lib.hid hp; have HK4 := Lib.hid hk4
      cases hnk : T.need k
      · rw [hnk] at cnk
        clear hp hk4 hnk
        go_wp2
        go_roundg (4 - (k + 1))
        case measure => have := HP.out; have := HK4.out; omega
        case rel => exact ⟨k + 1, by have := HK4.out; omega, by go_num, rfl⟩
      · rw [hnk] at cnk
        rw [HALL.out k hk4 hnk] at c66
        clear hp hk4 hnk
        go_wp2
        go_roundg (4 - (k + 1))
        case measure => have := HP.out; have := HK4.out; omega
        case rel => exact ⟨k + 1, by have := HK4.out; omega, by go_num, rfl⟩
    · have hk4 : k = 4 := by omega
      subst hk4
      clear hp
      have i4 : ¬ (((4 : Nat) : Int) < 4) := by decide
      go_wp2_with (first | (rw [HG0.out, HU1.out]) | (at_builtin; refine wpList_append_copy _ rfl (.tmp 59) (.tmp 61) 93 rfl g0 107 i0 _ 12 64 Try.underlying93 hi hz0 hz1 hz2 rfl (by decide) g0 ?a1 OWN0.out n (.slice (some ⟨tg, 0, none⟩) m tc) m (flatT S.tl us) ?a2 OWN1.out FONE.out ?a4 ?a5 HU1S.out ?_))
      case a4 => have := HM32.out; unfold maxLen; omega
      case a5 => have := HM32.out; omega
      intro a' c' u2 ho hg hs
      have lw4 := (CPY.out u2 a' c' ho hg).sub (L' := (q, 96, RC s tv S.h dv) :: (q + 1, 96, Try.zeroCells96) :: L) (O' := ⟨107, 12, .slice (some ⟨a', 0, none⟩) m c', m, flatT S.tl us⟩ :: noT O) (fun x hx => hx) (fun o ho => by
        rcases List.mem_cons.1 ho with rfl | ho
        · exact List.mem_cons_self
        · exact List.mem_cons_of_mem _ (noT_sub o ho))
      have tyC : ∀ o ∈ (⟨107, 12, .slice (some ⟨a', 0, none⟩) m c', m, flatT S.tl us⟩ : Ow) :: noT O, o.t ≠ 96 := fun o ho => by
        rcases List.mem_cons.1 ho with rfl | ho
        · show (107 : Nat) ≠ 96; decide
        · exact RB.out.no96 o (noT_sub o ho)
      have rR4 := lw4.rows (q, 96, RC s tv S.h dv) (by simp)
      have c4 : u2.cell? ⟨q, 65, none⟩ = some tv := (rR4.cell 65).trans (RC_T _ _ _ _)
      have f4 : u2.frozen? ⟨q, 65, none⟩ = false := rR4.frozen _
      have lw5 := lw4.setCell 65 (.slice (some ⟨a', 0, none⟩) m c') NQ.out tyC
      rw [RC_setT] at lw5
      obtain ⟨U3, hU3⟩ : ∃ U3, u2.setCell ⟨q, 65, none⟩ (.slice (some ⟨a', 0, none⟩) m c') = U3 := ⟨_, rfl⟩
      rw [hU3] at lw5
      have rR5 := lw5.rows (q, 96, RC s (.slice (some ⟨a', 0, none⟩) m c') S.h dv) (by simp)
      have c65 : U3.cell? ⟨q, 65, none⟩ = some (.slice (some ⟨a', 0, none⟩) m c') := (rR5.cell 65).trans (RC_T _ _ _ _)
      obtain ⟨tg', tc', u', e1, hu', tcl⟩ := lw5.tc (tv := .slice (some ⟨a', 0, none⟩) m c') (tl := S.tl) (us := us) (by unfold OwT; rw [HM.out]; simp) HUS.out HT.out
      obtain rfl : u' = u := Option.some.inj (hu'.symm.trans HU.out)
      have e2 : tg' = a' := by have h := congrArg Value.ownBlock e1; simpa [Value.ownBlock] using h.symm
      clear e1
      subst e2
      have c8 := tcl 8 (.bool (decide (T.m < T.k))) rfl
      have TYC := Lib.hid tyC; have HU3 := Lib.hid hU3; have TCL := Lib.hid tcl; have LWC := Lib.hid lw5
      clear hU3 tcl lw4 lw5 tyC rR4 ho hg hs rR5 hu' cov cU OWN0 OWN1 CPY HG0 HU1 HU1S CH CN HALL
      rw [decide_eq_false (show ¬ T.m < T.k by omega)] at c8
      have R107 := Lib.hid (show ∀ x ∈ ((q, 96, RC s (.slice (some ⟨tg', 0, none⟩) m c') S.h dv) :: (q + 1, 96, Try.zeroCells96) :: L), x.2.1 ≠ 107 from fun x hx => by
        rcases List.mem_cons.1 hx with rfl | hx
        · show (96 : Nat) ≠ 107; decide
        · rcases List.mem_cons.1 hx with rfl | hx
          · show (96 : Nat) ≠ 107; decide
          · exact HL7.out x hx)
      have lwp := LWC.out.poke (i * 12 + 8) (.bool true) R107.out noT_ne
      have fset := flatT_set S.tl us i T u' T.next u' (.bool true) 8 HT.out HU.out (by decide) (by
        have h1 : decide (T.next.m < T.next.k) = true := decide_eq_true (by show T.m < T.k + 1; omega)
        have h2 : decide (T.next.m + 2 ≤ T.next.k) = decide (T.m + 2 ≤ T.k) := decide_eq_decide.2 (by show T.m + 2 ≤ T.k + 1 ↔ T.m + 2 ≤ T.k; omega)
        unfold tcells; rw [h1, h2]; rfl)
      rw [fset] at lwp
      obtain ⟨cur8, r8⟩ := owns_row (LWC.out.owns _ List.mem_cons_self) (g := tg') rfl
      have f8 : U3.frozen? ⟨tg', i * 12 + 8, none⟩ = false := r8.frozen _
      obtain ⟨U5, hU5⟩ : ∃ U5, U3.setCell ⟨tg', i * 12 + 8, none⟩ (.bool true) = U5 := ⟨_, rfl⟩
      rw [hU5] at lwp
      obtain ⟨j0, hj, hy0, hy1, hy2⟩ := info_parts info3c
      obtain ⟨da, dc, hdv⟩ := RB.out.df
      obtain ⟨d, hd⟩ : ∃ d, S.dn.length = d := ⟨_, rfl⟩
      have hd32 : d ≤ 32 := by have := OK.out.dnlen; have := HM32.out; have := HM.out; omega
      have own60 := World.ownsRow_lit (base := U5.heap.size) (e := 3) (size := 1) U5 #[] 0 (Nat.le_refl _) (by unfold maxLen; omega) rfl
      have bel6 : Below U5.heap.size U5 (U5.alloc (.cells #[] 3)) := (Below.refl _ U5).alloc (Nat.le_refl _) _
      have lw6 := lwp.alloc (.cells #[] 3)
      have own61 := lw6.owns (OwV dv S.dn) (List.mem_cons_of_mem _ (noT_in RB.out.dn (by show (3 : Nat) ≠ 107; decide)))
      have c70 := ((lw6.rows (q, 96, RC s (.slice (some ⟨tg', 0, none⟩) m c') S.h dv) (by simp)).cell 70).trans (RC_D _ _ _ _)
      have c65b := ((lwp.rows (q, 96, RC s (.slice (some ⟨tg', 0, none⟩) m c') S.h dv) (by simp)).cell 65).trans (RC_T _ _ _ _)
      have s6 : U5.heap.size ≤ (U5.alloc (.cells #[] 3)).heap.size := bel6.size
      obtain ⟨g5, hg5⟩ : ∃ g5, U5.heap.size = g5 := ⟨_, rfl⟩
      obtain ⟨U6, hU6⟩ : ∃ U6, U5.alloc (.cells #[] 3) = U6 := ⟨_, rfl⟩
      rw [hU6] at own60 bel6 own61 c70 s6
      rw [hg5] at own60 bel6 s6
      have own61 : U6.ownsRow n 3 1 (.slice da d dc) d (S.dn.map fun i : Nat => Value.int .i64 i) := by
        have h := own61; unfold OwV at h; simp only at h; rw [hdv, hd] at h; exact h
      rw [hdv, hd] at c70
      obtain ⟨xs, hxs⟩ : ∃ xs, (S.dn.map fun i : Nat => Value.int .i64 i) = xs := ⟨_, rfl⟩
      have xone : ∀ u ∈ xs, u.oneCell' = true := fun u hu => by
        rw [← hxs] at hu
        obtain ⟨y, _, rfl⟩ := List.mem_map.1 hu; rfl
      rw [hxs] at own61
      have CP2 := Lib.hid (fun (u9 : World) (uv : Value) (ho : u9.ownsRow g5 3 1 uv (d + 1) (xs ++ [.int .i64 (i : Nat)])) (hb : Below g5 U5 u9) => lwp.copied (v' := u9) (by rw [hg5]; exact ho) (by rw [hg5]; exact hb))
      have OWN60 := Lib.hid own60; have OWN61 := Lib.hid own61; have XONE := Lib.hid xone; have BEL6 := Lib.hid bel6; have S6 := Lib.hid s6; have HD := Lib.hid hd; have HD32 := Lib.hid hd32; have HXS := Lib.hid hxs; have HDV := Lib.hid hdv
      have HU5 := Lib.hid hU5; have HG5 := Lib.hid hg5; have HU6 := Lib.hid hU6
      clear lwp fset r8 hU5 own60 bel6 lw6 own61 s6 hg5 hU6 hxs xone hd hd32 hdv LWC
      go_wp2_with (first | (rw [HU3.out]) | (rw [HU5.out]) | (rw [HG5.out, HU6.out]) | (at_builtin; refine wpList_append_copy _ rfl (.tmp 94) (.tmp 96) 78 rfl g5 3 j0 (.int .i64 0) 1 8 ?c1 ?c2 ?c3 ?c4 ?c5 ?c6 ?c7 g5 ?c8 ?c9 n (.slice da d dc) d xs ?c10 ?c11 ?c12 ?a4 ?a5 ?c15 ?_; (case c1 => exact Try.underlying78); (case c2 => exact hj); (case c3 => exact hy0); (case c4 => exact hy1); (case c5 => exact hy2); (case c6 => rfl); (case c7 => decide); (case c8 => rfl); (case c9 => exact OWN60.out); (case c10 => rfl); (case c11 => exact OWN61.out); (case c12 => exact XONE.out); (case c15 => exact S6.out)))
      case a4 => have := HD32.out; unfold maxLen; omega
      case a5 => have := HD32.out; omega
      intro a2 c2 u7 ho7 hg7 hs7
      have hb7 := BEL6.out.grown hg7 S6.out (fun k hk => by cases hk; exact Nat.le_refl _)
      have a2lt := ho7.lt a2 rfl
      have own8 := ho7.alloc (.cells #[.int .i64 (i : Nat)] 3)
      have r8 := M.RowAt.new u7 3 #[.int .i64 (i : Nat)]
      have hb8 := hb7.alloc (by have := hb7.size; have := HG5.out; omega) (.cells #[.int .i64 (i : Nat)] 3)
      obtain ⟨g7, hg7'⟩ : ∃ g7, u7.heap.size = g7 := ⟨_, rfl⟩
      obtain ⟨U8, hU8⟩ : ∃ U8, u7.alloc (.cells #[.int .i64 (i : Nat)] 3) = U8 := ⟨_, rfl⟩
      rw [hU8] at own8 hb8 r8
      rw [hg7'] at r8
      have s8 : g5 ≤ U8.heap.size := by have := hb8.size; have := HG5.out; omega
      have OWN8 := Lib.hid own8; have HB8 := Lib.hid hb8; have R8 := Lib.hid r8; have S8 := Lib.hid s8; have HG7 := Lib.hid hg7'; have HU8 := Lib.hid hU8; have A2 := Lib.hid a2lt
      clear ho7 hg7 hs7 hb7 a2lt own8 r8 hb8 hg7' hU8 s8 c70 OWN60 OWN61 BEL6 HU6 c4 f4
      go_wp2_with (first | (rw [HG7.out, HU8.out]) | (at_builtin; refine wpList_append_sep2 _ rfl (.tmp 97) (.tmp 99) 78 rfl g5 3 j0 _ 1 8 Try.underlying78 hj hy0 hy1 hy2 rfl (by decide) (.slice (some ⟨a2, 0, none⟩) d c2) d xs ?b1 OWN8.out ⟨g7, 0, none⟩ 1 1 [.int .i64 (i : Nat)] ?b2 rfl ?b3 ?b4 (by decide) ?b5 ?b6 S8.out ?_))
      case b1 => rfl
      case b2 => rfl
      case b3 =>
        intro j x hx
        first | rw [Addr.add_mid, R8.out.cell, Nat.zero_add] | rw [R8.out.cell]
        simpa using hx
      case b4 => intro x hx; simp at hx; subst hx; rfl
      case b5 => have := HD32.out; unfold maxLen; omega
      case b6 => have := HD32.out; omega
      intro uv u9 ho9 hg9 hs9
      have hb9 := HB8.out.grown hg9 S8.out (fun k hk => by cases hk; exact A2.out.1)
      have lw9 := CP2.out u9 uv ho9 hb9
      obtain ⟨uva, uvc, huv⟩ := own_form ho9 (Nat.succ_le_succ (Nat.zero_le d))
      have huv : uv = .slice (some ⟨uva, 0, none⟩) (d + 1) uvc := huv
      subst huv
      have ty9 : ∀ o ∈ (⟨3, 1, .slice (some ⟨uva, 0, none⟩) (d + 1) uvc, d + 1, xs ++ [.int .i64 (i : Nat)]⟩ : Ow) :: (⟨107, 12, (.slice (some ⟨tg', 0, none⟩) m c'), m, flatT (S.tl.set i T.next) (us.set i u')⟩ : Ow) :: noT O, o.t ≠ 96 := fun o ho => by
        rcases List.mem_cons.1 ho with rfl | ho
        · show (3 : Nat) ≠ 96; decide
        · rcases List.mem_cons.1 ho with rfl | ho
          · show (107 : Nat) ≠ 96; decide
          · exact RB.out.no96 o (noT_sub o ho)
      have c70 := ((lw9.rows (q, 96, RC s (.slice (some ⟨tg', 0, none⟩) m c') S.h dv) (by simp)).cell 70).trans (RC_D _ _ _ _)
      have f70 : u9.frozen? ⟨q, 70, none⟩ = false := (lw9.rows (q, 96, RC s (.slice (some ⟨tg', 0, none⟩) m c') S.h dv) (by simp)).frozen _
      have lw10 := lw9.setCell 70 (.slice (some ⟨uva, 0, none⟩) (d + 1) uvc) NQ.out ty9
      rw [RC_setD] at lw10
      obtain ⟨U10, hU10⟩ : ∃ U10, u9.setCell ⟨q, 70, none⟩ (.slice (some ⟨uva, 0, none⟩) (d + 1) uvc) = U10 := ⟨_, rfl⟩
      rw [hU10] at lw10
      have eV : (⟨3, 1, .slice (some ⟨uva, 0, none⟩) (d + 1) uvc, d + 1, xs ++ [.int .i64 (i : Nat)]⟩ : Ow) = OwV (.slice (some ⟨uva, 0, none⟩) (d + 1) uvc) (S.dn ++ [i]) := by
        unfold OwV; rw [List.length_append, HD.out, List.map_append, HXS.out]; rfl
      rw [eV] at lw10
      obtain ⟨dv', hdv'⟩ : ∃ dv' : Value, .slice (some ⟨uva, 0, none⟩) (d + 1) uvc = dv' := ⟨_, rfl⟩
      rw [hdv'] at lw10
      have hdf : ∃ a c, dv' = .slice a (S.dn ++ [i]).length c := ⟨_, _, by rw [← hdv', List.length_append, HD.out]; rfl⟩
      have lwX := lw10.sub (L' := ((q, 96, RC s (.slice (some ⟨tg', 0, none⟩) m c') S.h dv') :: (q + 1, 96, Try.zeroCells96) :: L)) (O' := (⟨107, 12, (.slice (some ⟨tg', 0, none⟩) m c'), m, flatT (S.tl.set i T.next) (us.set i u')⟩ : Ow) :: OwV dv' (S.dn ++ [i]) :: noT O) (fun x hx => hx) (fun o ho => by
        simp only [List.mem_cons] at ho ⊢
        rcases ho with e | e | e
        · exact .inr (.inl e)
        · exact .inl e
        · exact .inr (.inr e))
      have c65 := ((lwX.rows (q, 96, RC s (.slice (some ⟨tg', 0, none⟩) m c') S.h dv') (by simp)).cell 65).trans (RC_T _ _ _ _)
      have hC1 : (⟨107, 12, (.slice (some ⟨tg', 0, none⟩) m c'), m, flatT (S.tl.set i T.next) (us.set i u')⟩ : Ow) = OwT (.slice (some ⟨tg', 0, none⟩) m c') (S.tl.set i T.next) (us.set i u') := by unfold OwT; rw [List.length_set, HM.out]
      have hus1 : (us.set i u').length = (S.tl.set i T.next).length := by rw [List.length_set, List.length_set]; exact HUS.out
      have hT1 : (S.tl.set i T.next)[i]? = some T.next := List.getElem?_set_self (List.getElem?_eq_some_iff.1 HT.out).1
      have hu1 : (us.set i u')[i]? = some u' := List.getElem?_set_self (List.getElem?_eq_some_iff.1 HU.out).1
      have tcX : ∀ (W : World) (O2 : List Ow) (K2 : List (Nat × TypeId × Array Value)), LW n w0 b S0 K2 ((⟨107, 12, (.slice (some ⟨tg', 0, none⟩) m c'), m, flatT (S.tl.set i T.next) (us.set i u')⟩ : Ow) :: O2) W → ∀ j x, (tcells T.next u')[j]? = some x → W.cell? ⟨tg', i * 12 + j, none⟩ = some x := fun W O2 K2 lw => by
        obtain ⟨tgx, _, ux, e1, hux, tcx⟩ := lw.tc (tv := (.slice (some ⟨tg', 0, none⟩) m c')) (by rw [← hC1]; exact List.mem_cons_self) hus1 hT1
        have e2 : tgx = tg' := by have h := congrArg Value.ownBlock e1; simpa [Value.ownBlock] using h.symm
        subst e2
        have e3 : ux = u' := Option.some.inj (hux.symm.trans hu1)
        subst e3
        exact tcx
      have c7 := tcX _ _ _ lwX 7 (.bool T.lists) rfl
      have LWX := Lib.hid lwX; have TCX := Lib.hid tcX; have HDF := Lib.hid hdf; have HU10 := Lib.hid hU10; have HDV' := Lib.hid hdv'; have HT1 := Lib.hid hT1; have HU1' := Lib.hid hu1
      clear lwX tcX hdf hU10 lw9 lw10 ho9 hg9 hs9 hb9 ty9 eV hC1 hus1 OWN8 HB8 R8 S8 A2 CP2 c65b hT1 hu1 c8 f8 hdv'
      rw [hli] at c7
      go_wp2_with (first | (rw [HU10.out]))
      clear c65 c7 c70 f70
      have TY9 := Lib.hid (show ∀ s1, ∀ o ∈ OwP s1 S.n (if (movE S.n S.f T.fr T.to T.am) = 0 then movF S.f T.fr.toNat T.to.toNat T.am else S.f) :: (⟨107, 12, (.slice (some ⟨tg', 0, none⟩) m c'), m, flatT (S.tl.set i T.next) (us.set i u')⟩ : Ow) :: OwV dv' (S.dn ++ [i]) :: noT O, o.t ≠ 96 from fun s1 o ho => by
        rcases List.mem_cons.1 ho with rfl | ho
        · show (23 : Nat) ≠ 96; decide
        · rcases List.mem_cons.1 ho with rfl | ho
          · show (107 : Nat) ≠ 96; decide
          · rcases List.mem_cons.1 ho with rfl | ho
            · show (3 : Nat) ≠ 96; decide
            · exact RB.out.no96 o (noT_sub o ho))
      refine QF.wp_region_f [20, 24, 25] (.q 0 <| .q 1 <| .q 2 <| .q 3 <| .q 4 <| .q 5 <| .q 6 <| .q 7 <| .q 8 <| .q 9 <| .q 10 <| .q 11 <| .q 12 <| .q 13 <| .q 14 <| .q 15 <| .q 16 <| .q 17 <| .q 18 <| .q 19 <| .two 20 (.q 21 <| .q 22 <| .q 23 <| .one 24 <| .one 25 <| .q 26 <| .nil) 24 (.one 20 <| .q 21 <| .q 22 <| .q 23 <| .one 25 <| .q 26 <| .nil)) (by kernel_rfl) (by kernel_rfl) (fun z dz => ?_)
      have lwz := LWX.out.dr dz
      have MEM := Lib.hid (show OwP s S.n S.f ∈ (⟨107, 12, (.slice (some ⟨tg', 0, none⟩) m c'), m, flatT (S.tl.set i T.next) (us.set i u')⟩ : Ow) :: OwV dv' (S.dn ++ [i]) :: noT O from List.mem_cons_of_mem _ (List.mem_cons_of_mem _ (noT_in RB.out.bal (by show (23 : Nat) ≠ 107; decide))))
      have lwz2 := lwz.sub (L' := ((q, 96, RC s (.slice (some ⟨tg', 0, none⟩) m c') S.h dv') :: (q + 1, 96, Try.zeroCells96) :: L)) (O' := OwP s S.n S.f :: (⟨107, 12, (.slice (some ⟨tg', 0, none⟩) m c'), m, flatT (S.tl.set i T.next) (us.set i u')⟩ : Ow) :: OwV dv' (S.dn ++ [i]) :: noT O) (fun x hx => hx) (fun o ho => by
        rcases List.mem_cons.1 ho with rfl | ho
        · exact MEM.out
        · exact ho)
      have c65 := ((lwz.rows (q, 96, RC s (.slice (some ⟨tg', 0, none⟩) m c') S.h dv') (by simp)).cell 65).trans (RC_T _ _ _ _)
      have rP := RC_range (lwz.rows (q, 96, RC s (.slice (some ⟨tg', 0, none⟩) m c') S.h dv') (by simp))
      have cfr := TCX.out _ _ _ lwz 0 (.int .i64 T.fr) rfl
      have cto := TCX.out _ _ _ lwz 1 (.int .i64 T.to) rfl
      have cam := TCX.out _ _ _ lwz 2 (.int .u64 T.am) rfl
      rw [Nat.add_zero] at cfr
      have iP : (Try.prog.info? 50).map (·.size) = some (PV s).toList.length := by rw [Array.length_toList]; exact info50s s
      have ePP : (PV s).toList.toArray = PV s := Array.toArray_toList
      -- alloc first
      have lwa := lwz2.new 50 Try.zeroCells50
      obtain ⟨ga, hga⟩ : ∃ ga, z.heap.size = ga := ⟨_, rfl⟩
      obtain ⟨Za, hZa⟩ : ∃ Za, z.alloc (.cells Try.zeroCells50 50) = Za := ⟨_, rfl⟩
      rw [hga, hZa] at lwa
      have lwa0 := lwa.sub (L' := ((q, 96, RC s (.slice (some ⟨tg', 0, none⟩) m c') S.h dv') :: (q + 1, 96, Try.zeroCells96) :: L)) (O' := (⟨107, 12, (.slice (some ⟨tg', 0, none⟩) m c'), m, flatT (S.tl.set i T.next) (us.set i u')⟩ : Ow) :: OwV dv' (S.dn ++ [i]) :: noT O) (fun x hx => List.mem_cons_of_mem _ hx) (fun o ho => List.mem_cons_of_mem _ ho)
      have c65a := ((lwa0.rows (q, 96, RC s (.slice (some ⟨tg', 0, none⟩) m c') S.h dv') (by simp)).cell 65).trans (RC_T _ _ _ _)
      have rPa := RC_range (lwa0.rows (q, 96, RC s (.slice (some ⟨tg', 0, none⟩) m c') S.h dv') (by simp))
      have cfra := TCX.out _ _ _ lwa0 0 (.int .i64 T.fr) rfl
      have ctoa := TCX.out _ _ _ lwa0 1 (.int .i64 T.to) rfl
      have cama := TCX.out _ _ _ lwa0 2 (.int .u64 T.am) rfl
      rw [Nat.add_zero] at cfra
      have RM1 := Lib.hid (RMQ.out _ _ _ lwz2)
      have RM2 := Lib.hid (RMQ.out _ _ _ lwa)
      have HGA := Lib.hid hga; have HZA := Lib.hid hZa
      have NGA := Lib.hid (show ∀ x ∈ ((q, 96, RC s (.slice (some ⟨tg', 0, none⟩) m c') S.h dv') :: (q + 1, 96, Try.zeroCells96) :: L), x.1 ≠ ga from fun x hx e => by have := (lwz.rows x hx).lt; omega)
      obtain ⟨X0, hX0⟩ : ∃ X0, PV s = X0 := ⟨_, rfl⟩
      have HX0 := Lib.hid hX0
      rw [hX0] at rP rPa iP ePP RM1 RM2
      clear dz lwz lwz2 lwa lwa0 hga hZa hX0 LWX
      iterate 1
        (first
         | (apply QF.wpF_load
            (focus rfl)
            (focus rfl)
            (focus rfl)
            (focus rfl)
            (focus (assumption))
            (focus (intro u hu; go_simp))
            intro K hK
            go_simp
            refine hK _ ?_
            clear hK K)
         | (apply QF.wpF_pure
            (focus rfl)
            intro K hK
            go_simp
            first
             | (refine hK _ ?_; clear hK K)
             | (apply Exists.intro
                refine ⟨fun u => ?_, hK _ ?_⟩
                (focus (unfold QP.oat; go_simp; first | done | exact ⟨rfl, rfl⟩ | exact rfl))
                clear hK K)))
      refine QF.wpF_rest (fun u => u.rangeAt q 0 X0.toList) (.agg X0.toList.toArray) rfl rfl rP ?_ ?_
      · intro u hu; exact QP.oat_load_mid (ty := 50) (x := .tmp 120) rfl q 0 rfl X0.toList _ hu Try.underlying50 rfl iP rfl
      rw [ePP]
      try go_simp
      iterate 18
        (first
         | (apply QF.wpF_load
            (focus rfl)
            (focus rfl)
            (focus rfl)
            (focus rfl)
            (focus (assumption))
            (focus (intro u hu; go_simp))
            intro K hK
            go_simp
            refine hK _ ?_
            clear hK K)
         | (apply QF.wpF_pure
            (focus rfl)
            intro K hK
            go_simp
            first
             | (refine hK _ ?_; clear hK K)
             | (apply Exists.intro
                refine ⟨fun u => ?_, hK _ ?_⟩
                (focus (unfold QP.oat; go_simp; first | done | exact ⟨rfl, rfl⟩ | exact rfl))
                clear hK K)))
      have TY50 := Lib.hid (show ∀ s1, ∀ o ∈ OwP s1 S.n (if (movE S.n S.f T.fr T.to T.am) = 0 then movF S.f T.fr.toNat T.to.toNat T.am else S.f) :: (⟨107, 12, (.slice (some ⟨tg', 0, none⟩) m c'), m, flatT (S.tl.set i T.next) (us.set i u')⟩ : Ow) :: OwV dv' (S.dn ++ [i]) :: noT O, o.t ≠ 50 from fun s1 o ho => by
        rcases List.mem_cons.1 ho with rfl | ho
        · show (23 : Nat) ≠ 50; decide
        · rcases List.mem_cons.1 ho with rfl | ho
          · show (107 : Nat) ≠ 50; decide
          · rcases List.mem_cons.1 ho with rfl | ho
            · show (3 : Nat) ≠ 50; decide
            · rcases RB.out.ty o (noT_sub o ho) with e | e | e <;> rw [e] <;> decide)
      refine QF.wpF_two ?_ ?_
      · skip
        apply QF.wpF_one
        (focus rfl)
        clear RM2 HGA HZA c65a rPa cfra ctoa cama
        go_wp2_with fail
        refine (RM1.out).mono ?_
        rintro e u1 ⟨s1, rfl, lw1⟩
        rw [SQ.out] at lw1
        have lwq := lw1.sub (L' := ((q, 96, RC s (.slice (some ⟨tg', 0, none⟩) m c') S.h dv') :: (q + 1, 96, Try.zeroCells96) :: L)) (O' := (⟨107, 12, (.slice (some ⟨tg', 0, none⟩) m c'), m, flatT (S.tl.set i T.next) (us.set i u')⟩ : Ow) :: OwV dv' (S.dn ++ [i]) :: noT O) (fun x hx => hx) (fun o ho => List.mem_cons_of_mem _ ho)
        have c65b := ((lwq.rows (q, 96, RC s (.slice (some ⟨tg', 0, none⟩) m c') S.h dv') (by simp)).cell 65).trans (RC_T _ _ _ _)
        have rPb := RC_range (lwq.rows (q, 96, RC s (.slice (some ⟨tg', 0, none⟩) m c') S.h dv') (by simp))
        rw [HX0.out] at rPb
        have cfrb := TCX.out _ _ _ lwq 0 (.int .i64 T.fr) rfl
        have ctob := TCX.out _ _ _ lwq 1 (.int .i64 T.to) rfl
        have camb := TCX.out _ _ _ lwq 2 (.int .u64 T.am) rfl
        rw [Nat.add_zero] at cfrb
        clear lwq
        have lwn := lw1.new 50 Try.zeroCells50
        obtain ⟨gb, hgb⟩ : ∃ gb, u1.heap.size = gb := ⟨_, rfl⟩
        obtain ⟨Zb, hZb⟩ : ∃ Zb, u1.alloc (.cells Try.zeroCells50 50) = Zb := ⟨_, rfl⟩
        rw [hgb, hZb] at lwn
        have lwn0 := lwn.sub (L' := ((q, 96, RC s (.slice (some ⟨tg', 0, none⟩) m c') S.h dv') :: (q + 1, 96, Try.zeroCells96) :: L)) (O' := (⟨107, 12, (.slice (some ⟨tg', 0, none⟩) m c'), m, flatT (S.tl.set i T.next) (us.set i u')⟩ : Ow) :: OwV dv' (S.dn ++ [i]) :: noT O) (fun x hx => List.mem_cons_of_mem _ hx) (fun o ho => List.mem_cons_of_mem _ ho)
        have c65c := ((lwn0.rows (q, 96, RC s (.slice (some ⟨tg', 0, none⟩) m c') S.h dv') (by simp)).cell 65).trans (RC_T _ _ _ _)
        have rPc := RC_range (lwn0.rows (q, 96, RC s (.slice (some ⟨tg', 0, none⟩) m c') S.h dv') (by simp))
        rw [HX0.out] at rPc
        have cfrc := TCX.out _ _ _ lwn0 0 (.int .i64 T.fr) rfl
        have ctoc := TCX.out _ _ _ lwn0 1 (.int .i64 T.to) rfl
        have camc := TCX.out _ _ _ lwn0 2 (.int .u64 T.am) rfl
        rw [Nat.add_zero] at cfrc
        have NB := Lib.hid (show ∀ x ∈ ((q, 96, RC s (.slice (some ⟨tg', 0, none⟩) m c') S.h dv') :: (q + 1, 96, Try.zeroCells96) :: L), x.1 ≠ gb from fun x hx e => by have := (lw1.rows x hx).lt; omega)
        have LWN := Lib.hid lwn; have HGB := Lib.hid hgb; have HZB := Lib.hid hZb
        clear RM1 lw1 lwn lwn0 hgb hZb
        go_wp2
        refine QF.eff_ok rfl ?_ ?_
        · (repeat (first | exact QC.obl_nil | refine QC.obl_is (by assumption) ?_ | (apply QC.obl_dep; (focus decide))))
        iterate 3
          (first
           | (apply QF.wpF_load
              (focus rfl)
              (focus rfl)
              (focus rfl)
              (focus rfl)
              (focus (assumption))
              (focus (intro u hu; go_simp))
              intro K hK
              go_simp
              refine hK _ ?_
              clear hK K)
           | (apply QF.wpF_pure
              (focus rfl)
              intro K hK
              go_simp
              first
               | (refine hK _ ?_; clear hK K)
               | (apply Exists.intro
                  refine ⟨fun u => ?_, hK _ ?_⟩
                  (focus (unfold QP.oat; go_simp; first | done | exact ⟨rfl, rfl⟩ | exact rfl))
                  clear hK K)))
        apply QF.wpF_one
        (focus rfl)
        go_wp2_with (first | (rw [HGB.out, HZB.out]) | fail)
        clear c65 rP cfr cto cam
        refine QF.eff_ok rfl ?_ ?_
        · (repeat (first | exact QC.obl_nil | refine QC.obl_is (by assumption) ?_ | (apply QC.obl_dep; (focus decide))))
        obtain ⟨X1, hX1⟩ : ∃ X1, PV s1 = X1 := ⟨_, rfl⟩
        have rZb := LWN.out.rows (gb, 50, Try.zeroCells50) (by simp)
        have oX : X1.all (·.oneCell') = true := by
          rw [← hX1]
          obtain ⟨sg1, sc1, hs1⟩ := own_form (LWN.out.owns _ List.mem_cons_self) N1.out
          have hs1 : s1 = .slice (some ⟨sg1, 0, none⟩) S.n sc1 := hs1
          exact PV_one (by rw [hs1]; rfl)
        have iX : (Try.prog.info? 50).map (·.size) = some X1.size := by rw [← hX1]; exact info50s s1
        have zX : Try.zeroCells50.size = X1.size := by rw [← hX1]; exact zero50s s1
        have lw8 := LWN.out.setRow X1 NB.out (TY50.out s1)
        obtain ⟨u8, hu8⟩ : ∃ u8, Zb.setRow gb X1 = u8 := ⟨_, rfl⟩
        rw [hu8, ← hX1] at lw8
        have LW8 := Lib.hid lw8; have HU8 := Lib.hid hu8; have HX1 := Lib.hid hX1
        rw [hX1]
        clear lw8 hu8 hX1
        apply QF.wpF_one
        (focus rfl)
        go_wp2_with (first | (refine wpList_store_row (x := .tmp 8) (y := .tmp 141) (cells := X1) (old := Try.zeroCells50) (t := 50) (ty := 50) (g := gb) ?_ ?_ ?_ ?_ rZb iX zX oX ?_; rfl; rfl; rfl; rfl) | (rw [HU8.out]) | fail)
        refine QF.eff_ok rfl ?_ ?_
        · (repeat (first | exact QC.obl_nil | refine QC.obl_is (by assumption) ?_ | (apply QC.obl_dep; (focus decide))))
        iterate 1
          (first
           | (apply QF.wpF_load
              (focus rfl)
              (focus rfl)
              (focus rfl)
              (focus rfl)
              (focus (assumption))
              (focus (intro u hu; go_simp))
              intro K hK
              go_simp
              refine hK _ ?_
              clear hK K)
           | (apply QF.wpF_pure
              (focus rfl)
              intro K hK
              go_simp
              first
               | (refine hK _ ?_; clear hK K)
               | (apply Exists.intro
                  refine ⟨fun u => ?_, hK _ ?_⟩
                  (focus (unfold QP.oat; go_simp; first | done | exact ⟨rfl, rfl⟩ | exact rfl))
                  clear hK K)))
        refine QF.wpF_nil ?_
        clear LWN rZb oX iX zX HU8
        obtain ⟨sg1, sc1, hs1⟩ := own_form (LW8.out.owns _ List.mem_cons_self) N1.out
        have hs1 : s1 = .slice (some ⟨sg1, 0, none⟩) S.n sc1 := hs1
        have r8 := LW8.out.rows (gb, 50, PV s1) (by simp)
        have rq := LW8.out.rows (q, 96, RC s (.slice (some ⟨tg', 0, none⟩) m c') S.h dv') (by simp)
        have oP : (PV s1).all (·.oneCell') = true := PV_one (by rw [hs1]; rfl)
        have iP1 := info50s s1
        have th : u8.there q 0 (PV s1).size := fun j hj => ⟨by
          rw [PV_size] at hj
          rw [Nat.zero_add, rq.cell, Array.getElem?_eq_getElem (by rw [RC_size]; omega)]; rfl, rq.frozen _⟩
        have lw9 := (LW8.out.sub (L' := ((q, 96, RC s (.slice (some ⟨tg', 0, none⟩) m c') S.h dv') :: (q + 1, 96, Try.zeroCells96) :: L)) (fun x hx => List.mem_cons_of_mem _ hx) (fun o ho => ho)).but (but_setCells (PV s1).toList 0 u8 (M.But.refl q u8)) (row_setCells (PV s1).toList _ 0 u8 rq) NQ.out (TY9.out s1)
        rw [spl_RC] at lw9
        obtain ⟨U9, hU9⟩ : ∃ U9, u8.setCells q 0 (PV s1).toList = U9 := ⟨_, rfl⟩
        rw [hU9] at lw9
        have lw10 := lw9.sub (L' := ((q, 96, RC s1 (.slice (some ⟨tg', 0, none⟩) m c') S.h dv') :: (q + 1, 96, Try.zeroCells96) :: L)) (O' := (⟨107, 12, (.slice (some ⟨tg', 0, none⟩) m c'), m, flatT (S.tl.set i T.next) (us.set i u')⟩ : Ow) :: OwP s1 S.n (if (movE S.n S.f T.fr T.to T.am) = 0 then movF S.f T.fr.toNat T.to.toNat T.am else S.f) :: OwV dv' (S.dn ++ [i]) :: noT O) (fun x hx => hx) (fun o ho => by
          simp only [List.mem_cons] at ho ⊢
          rcases ho with e | e | e | e
          · exact .inr (.inl e)
          · exact .inl e
          · exact .inr (.inr (.inl e))
          · exact .inr (.inr (.inr e)))
        have c65 := ((lw10.rows (q, 96, RC s1 (.slice (some ⟨tg', 0, none⟩) m c') S.h dv') (by simp)).cell 65).trans (RC_T _ _ _ _)
        have c10 := TCX.out _ _ _ lw10 10 (.int .i64 T.er) rfl
        obtain ⟨cur10, r10⟩ := owns_row (lw10.owns _ List.mem_cons_self) (g := tg') rfl
        have f10 : U9.frozen? ⟨tg', i * 12 + 10, none⟩ = false := r10.frozen _
        have lwp := lw10.poke (i * 12 + 10) (.int .i64 (movE S.n S.f T.fr T.to T.am)) (fun x hx => by
          rcases List.mem_cons.1 hx with rfl | hx
          · show (96 : Nat) ≠ 107; decide
          · rcases List.mem_cons.1 hx with rfl | hx
            · show (96 : Nat) ≠ 107; decide
            · exact HL7.out x hx) (fun o ho => by
          rcases List.mem_cons.1 ho with rfl | ho
          · show (23 : Nat) ≠ 107; decide
          · rcases List.mem_cons.1 ho with rfl | ho
            · show (3 : Nat) ≠ 107; decide
            · exact noT_ne o ho)
        have fset := flatT_set (S.tl.set i T.next) (us.set i u') i T.next u' { T with k := T.k + 1, er := (movE S.n S.f T.fr T.to T.am) } u' (.int .i64 (movE S.n S.f T.fr T.to T.am)) 10 HT1.out HU1'.out (by decide) rfl
        rw [fset, List.set_set, List.set_set] at lwp
        obtain ⟨U12, hU12⟩ : ∃ U12, U9.setCell ⟨tg', i * 12 + 10, none⟩ (.int .i64 (movE S.n S.f T.fr T.to T.am)) = U12 := ⟨_, rfl⟩
        rw [hU12] at lwp
        have hOT : (⟨107, 12, (.slice (some ⟨tg', 0, none⟩) m c'), m, flatT (S.tl.set i { T with k := T.k + 1, er := (movE S.n S.f T.fr T.to T.am) }) (us.set i u')⟩ : Ow) = OwT (.slice (some ⟨tg', 0, none⟩) m c') (S.tl.set i { T with k := T.k + 1, er := (movE S.n S.f T.fr T.to T.am) }) (us.set i u') := by unfold OwT; rw [List.length_set, HM.out]
        have rb' : RBO ((⟨107, 12, (.slice (some ⟨tg', 0, none⟩) m c'), m, flatT (S.tl.set i { T with k := T.k + 1, er := (movE S.n S.f T.fr T.to T.am) }) (us.set i u')⟩ : Ow) :: OwP s1 S.n (if (movE S.n S.f T.fr T.to T.am) = 0 then movF S.f T.fr.toNat T.to.toNat T.am else S.f) :: OwV dv' (S.dn ++ [i]) :: noT O) { S with f := (if (movE S.n S.f T.fr T.to T.am) = 0 then movF S.f T.fr.toNat T.to.toNat T.am else S.f), tl := S.tl.set i { T with k := T.k + 1, er := (movE S.n S.f T.fr T.to T.am) }, dn := S.dn ++ [i] } s1 (.slice (some ⟨tg', 0, none⟩) m c') dv' :=
          RB.out.put HTO.out HT.out (us' := us.set i u') (T' := { T with k := T.k + 1, er := (movE S.n S.f T.fr T.to T.am) }) rfl rfl ⟨_, _, hs1⟩ ⟨_, _, by rw [HM.out]⟩ HDF.out
            (List.mem_cons_of_mem _ List.mem_cons_self) (List.mem_cons_of_mem _ (List.mem_cons_of_mem _ List.mem_cons_self)) (by rw [List.length_set]; exact HUS.out) (by rw [hOT]; exact List.mem_cons_self)
            (fun j u hu hj => by rwa [List.getElem?_set_ne (fun e => hj e.symm)] at hu) (fun u hu => by
              rw [List.getElem?_set_self (by have := HUS.out; have := (List.getElem?_eq_some_iff.1 HT.out).1; omega)] at hu
              obtain rfl := Option.some.inj hu
              obtain ⟨a, c, e1, e2⟩ := HTO.out i T _ HT.out HU.out
              exact ⟨a, c, e1, List.mem_cons_of_mem _ (List.mem_cons_of_mem _ (List.mem_cons_of_mem _ (noT_in e2 (by show (23 : Nat) ≠ 107; decide))))⟩) (fun o ho => by
              rcases List.mem_cons.1 ho with rfl | ho
              · exact .inr (.inr rfl)
              · rcases List.mem_cons.1 ho with rfl | ho
                · exact .inl rfl
                · rcases List.mem_cons.1 ho with rfl | ho
                  · exact .inr (.inl rfl)
                  · exact RB.out.ty o (noT_sub o ho)) (fun j X u _ _ _ ht => by
              obtain ⟨a, c, e1, e2⟩ := ht
              exact ⟨a, c, e1, List.mem_cons_of_mem _ (List.mem_cons_of_mem _ (List.mem_cons_of_mem _ (noT_in e2 (by show (23 : Nat) ≠ 107; decide))))⟩)
        have fin := RStp.fin (S' := { S with f := (if (movE S.n S.f T.fr T.to T.am) = 0 then movF S.f T.fr.toNat T.to.toNat T.am else S.f), tl := S.tl.set i { T with k := T.k + 1, er := (movE S.n S.f T.fr T.to T.am) }, dn := S.dn ++ [i] }) (x := 0) lwp rb' NL.out
        rw [HRR.out] at fin
        have FIN := Lib.hid fin
        clear fin
        have onesF := rb'.ones
        have rRF := lwp.rows (q, 96, RC s1 (.slice (some ⟨tg', 0, none⟩) m c') S.h dv') (by simp)
        have rZF := lwp.rows (q + 1, 96, Try.zeroCells96) (by simp)
        have iRF := info96 s1 (.slice (some ⟨tg', 0, none⟩) m c') dv' S.h; have zRF := zero96 s1 (.slice (some ⟨tg', 0, none⟩) m c') dv' S.h
        have hload := run_loadVar_row (P := Try.prog) _ (q + 1) 96 96 (RC s1 (.slice (some ⟨tg', 0, none⟩) m c') S.h dv') (0, 0) _ (rZF.setRow (RC s1 (.slice (some ⟨tg', 0, none⟩) m c') S.h dv')) Try.underlying96 rfl iRF
        have HLD := Lib.hid hload
        have HU12 := Lib.hid hU12; have HU9 := Lib.hid hU9
        have hX1 := HX1.out
        rw [hX1] at r8 oP iP1 th HU9
        clear lw9 lw10 lwp fset hOT rb' r10 hU12 hU9 hload hs1 rq hX1 HX1
        generalize RC s1 (.slice (some ⟨tg', 0, none⟩) m c') S.h dv' = RF at *
        generalize (movE S.n S.f T.fr T.to T.am) = ee at *
        go_wp2_with (first | (refine wpList_load_row (x := .tmp 8) (ty := 50) (g := gb) (cs := X1) (t := 50) (fr := (0, 0)) ?_ ?_ ?_ _ r8 Try.underlying50 rfl iP1 ?_; rfl; rfl; rfl) | (refine wpList_store_mid rfl 50 (.tmp 144) (.tmp 143) rfl q 0 X1 ?_ ?_ th iP1 oP ?_; rfl; rfl) | (rw [HU9.out]) | (rw [HU12.out]) | (refine wpList_load_row (x := .tmp 2) (ty := 96) (g := q) (cs := RF) (t := 96) (fr := (0, 0)) ?_ ?_ ?_ _ rRF Try.underlying96 rfl iRF ?_; rfl; rfl; rfl) | (refine wpList_store_row (x := .tmp 4) (y := .tmp 151) (cells := RF) (old := Try.zeroCells96) (t := 96) (ty := 96) (g := q + 1) ?_ ?_ ?_ ?_ rZF iRF zRF onesF ?_; rfl; rfl; rfl; rfl))
        have hload := HLD.out
        exact bodyPost_ret (v := .tuple #[.agg RF, .int .i64 (0)]) (by simp [results, Try.results58, asAddr, hload]) rfl FIN.out
      · skip
        apply QF.wpF_one
        (focus rfl)
        clear RM1
        go_wp2_with (first | (rw [HGA.out, HZA.out]) | fail)
        clear c65 rP cfr cto cam
        refine QF.eff_ok rfl ?_ ?_
        · (repeat (first | exact QC.obl_nil | refine QC.obl_is (by assumption) ?_ | (apply QC.obl_dep; (focus decide))))
        apply QF.wpF_one
        (focus rfl)
        go_wp2_with fail
        refine (RM2.out).mono ?_
        rintro e u1 ⟨s1, rfl, lw1⟩
        rw [SQ.out] at lw1
        have NB := Lib.hid (show ∀ x ∈ ((q, 96, RC s (.slice (some ⟨tg', 0, none⟩) m c') S.h dv') :: (q + 1, 96, Try.zeroCells96) :: L), x.1 ≠ ga from NGA.out)
        have LWN := Lib.hid lw1
        clear RM2 lw1
        go_wp2
        refine QF.eff_ok rfl ?_ ?_
        · (repeat (first | exact QC.obl_nil | refine QC.obl_is (by assumption) ?_ | (apply QC.obl_dep; (focus decide))))
        iterate 3
          (first
           | (apply QF.wpF_load
              (focus rfl)
              (focus rfl)
              (focus rfl)
              (focus rfl)
              (focus (assumption))
              (focus (intro u hu; go_simp))
              intro K hK
              go_simp
              refine hK _ ?_
              clear hK K)
           | (apply QF.wpF_pure
              (focus rfl)
              intro K hK
              go_simp
              first
               | (refine hK _ ?_; clear hK K)
               | (apply Exists.intro
                  refine ⟨fun u => ?_, hK _ ?_⟩
                  (focus (unfold QP.oat; go_simp; first | done | exact ⟨rfl, rfl⟩ | exact rfl))
                  clear hK K)))
        obtain ⟨X1, hX1⟩ : ∃ X1, PV s1 = X1 := ⟨_, rfl⟩
        have rZb := LWN.out.rows (ga, 50, Try.zeroCells50) (by simp)
        have oX : X1.all (·.oneCell') = true := by
          rw [← hX1]
          obtain ⟨sg1, sc1, hs1⟩ := own_form (LWN.out.owns _ List.mem_cons_self) N1.out
          have hs1 : s1 = .slice (some ⟨sg1, 0, none⟩) S.n sc1 := hs1
          exact PV_one (by rw [hs1]; rfl)
        have iX : (Try.prog.info? 50).map (·.size) = some X1.size := by rw [← hX1]; exact info50s s1
        have zX : Try.zeroCells50.size = X1.size := by rw [← hX1]; exact zero50s s1
        have lw8 := LWN.out.setRow X1 NB.out (TY50.out s1)
        obtain ⟨u8, hu8⟩ : ∃ u8, u1.setRow ga X1 = u8 := ⟨_, rfl⟩
        rw [hu8, ← hX1] at lw8
        have LW8 := Lib.hid lw8; have HU8 := Lib.hid hu8; have HX1 := Lib.hid hX1
        rw [hX1]
        clear lw8 hu8 hX1
        apply QF.wpF_one
        (focus rfl)
        go_wp2_with (first | (refine wpList_store_row (x := .tmp 8) (y := .tmp 141) (cells := X1) (old := Try.zeroCells50) (t := 50) (ty := 50) (g := ga) ?_ ?_ ?_ ?_ rZb iX zX oX ?_; rfl; rfl; rfl; rfl) | (rw [HU8.out]) | fail)
        refine QF.eff_ok rfl ?_ ?_
        · (repeat (first | exact QC.obl_nil | refine QC.obl_is (by assumption) ?_ | (apply QC.obl_dep; (focus decide))))
        iterate 1
          (first
           | (apply QF.wpF_load
              (focus rfl)
              (focus rfl)
              (focus rfl)
              (focus rfl)
              (focus (assumption))
              (focus (intro u hu; go_simp))
              intro K hK
              go_simp
              refine hK _ ?_
              clear hK K)
           | (apply QF.wpF_pure
              (focus rfl)
              intro K hK
              go_simp
              first
               | (refine hK _ ?_; clear hK K)
               | (apply Exists.intro
                  refine ⟨fun u => ?_, hK _ ?_⟩
                  (focus (unfold QP.oat; go_simp; first | done | exact ⟨rfl, rfl⟩ | exact rfl))
                  clear hK K)))
        refine QF.wpF_nil ?_
        clear LWN rZb oX iX zX HU8
        obtain ⟨sg1, sc1, hs1⟩ := own_form (LW8.out.owns _ List.mem_cons_self) N1.out
        have hs1 : s1 = .slice (some ⟨sg1, 0, none⟩) S.n sc1 := hs1
        have r8 := LW8.out.rows (ga, 50, PV s1) (by simp)
        have rq := LW8.out.rows (q, 96, RC s (.slice (some ⟨tg', 0, none⟩) m c') S.h dv') (by simp)
        have oP : (PV s1).all (·.oneCell') = true := PV_one (by rw [hs1]; rfl)
        have iP1 := info50s s1
        have th : u8.there q 0 (PV s1).size := fun j hj => ⟨by
          rw [PV_size] at hj
          rw [Nat.zero_add, rq.cell, Array.getElem?_eq_getElem (by rw [RC_size]; omega)]; rfl, rq.frozen _⟩
        have lw9 := (LW8.out.sub (L' := ((q, 96, RC s (.slice (some ⟨tg', 0, none⟩) m c') S.h dv') :: (q + 1, 96, Try.zeroCells96) :: L)) (fun x hx => List.mem_cons_of_mem _ hx) (fun o ho => ho)).but (but_setCells (PV s1).toList 0 u8 (M.But.refl q u8)) (row_setCells (PV s1).toList _ 0 u8 rq) NQ.out (TY9.out s1)
        rw [spl_RC] at lw9
        obtain ⟨U9, hU9⟩ : ∃ U9, u8.setCells q 0 (PV s1).toList = U9 := ⟨_, rfl⟩
        rw [hU9] at lw9
        have lw10 := lw9.sub (L' := ((q, 96, RC s1 (.slice (some ⟨tg', 0, none⟩) m c') S.h dv') :: (q + 1, 96, Try.zeroCells96) :: L)) (O' := (⟨107, 12, (.slice (some ⟨tg', 0, none⟩) m c'), m, flatT (S.tl.set i T.next) (us.set i u')⟩ : Ow) :: OwP s1 S.n (if (movE S.n S.f T.fr T.to T.am) = 0 then movF S.f T.fr.toNat T.to.toNat T.am else S.f) :: OwV dv' (S.dn ++ [i]) :: noT O) (fun x hx => hx) (fun o ho => by
          simp only [List.mem_cons] at ho ⊢
          rcases ho with e | e | e | e
          · exact .inr (.inl e)
          · exact .inl e
          · exact .inr (.inr (.inl e))
          · exact .inr (.inr (.inr e)))
        have c65 := ((lw10.rows (q, 96, RC s1 (.slice (some ⟨tg', 0, none⟩) m c') S.h dv') (by simp)).cell 65).trans (RC_T _ _ _ _)
        have c10 := TCX.out _ _ _ lw10 10 (.int .i64 T.er) rfl
        obtain ⟨cur10, r10⟩ := owns_row (lw10.owns _ List.mem_cons_self) (g := tg') rfl
        have f10 : U9.frozen? ⟨tg', i * 12 + 10, none⟩ = false := r10.frozen _
        have lwp := lw10.poke (i * 12 + 10) (.int .i64 (movE S.n S.f T.fr T.to T.am)) (fun x hx => by
          rcases List.mem_cons.1 hx with rfl | hx
          · show (96 : Nat) ≠ 107; decide
          · rcases List.mem_cons.1 hx with rfl | hx
            · show (96 : Nat) ≠ 107; decide
            · exact HL7.out x hx) (fun o ho => by
          rcases List.mem_cons.1 ho with rfl | ho
          · show (23 : Nat) ≠ 107; decide
          · rcases List.mem_cons.1 ho with rfl | ho
            · show (3 : Nat) ≠ 107; decide
            · exact noT_ne o ho)
        have fset := flatT_set (S.tl.set i T.next) (us.set i u') i T.next u' { T with k := T.k + 1, er := (movE S.n S.f T.fr T.to T.am) } u' (.int .i64 (movE S.n S.f T.fr T.to T.am)) 10 HT1.out HU1'.out (by decide) rfl
        rw [fset, List.set_set, List.set_set] at lwp
        obtain ⟨U12, hU12⟩ : ∃ U12, U9.setCell ⟨tg', i * 12 + 10, none⟩ (.int .i64 (movE S.n S.f T.fr T.to T.am)) = U12 := ⟨_, rfl⟩
        rw [hU12] at lwp
        have hOT : (⟨107, 12, (.slice (some ⟨tg', 0, none⟩) m c'), m, flatT (S.tl.set i { T with k := T.k + 1, er := (movE S.n S.f T.fr T.to T.am) }) (us.set i u')⟩ : Ow) = OwT (.slice (some ⟨tg', 0, none⟩) m c') (S.tl.set i { T with k := T.k + 1, er := (movE S.n S.f T.fr T.to T.am) }) (us.set i u') := by unfold OwT; rw [List.length_set, HM.out]
        have rb' : RBO ((⟨107, 12, (.slice (some ⟨tg', 0, none⟩) m c'), m, flatT (S.tl.set i { T with k := T.k + 1, er := (movE S.n S.f T.fr T.to T.am) }) (us.set i u')⟩ : Ow) :: OwP s1 S.n (if (movE S.n S.f T.fr T.to T.am) = 0 then movF S.f T.fr.toNat T.to.toNat T.am else S.f) :: OwV dv' (S.dn ++ [i]) :: noT O) { S with f := (if (movE S.n S.f T.fr T.to T.am) = 0 then movF S.f T.fr.toNat T.to.toNat T.am else S.f), tl := S.tl.set i { T with k := T.k + 1, er := (movE S.n S.f T.fr T.to T.am) }, dn := S.dn ++ [i] } s1 (.slice (some ⟨tg', 0, none⟩) m c') dv' :=
          RB.out.put HTO.out HT.out (us' := us.set i u') (T' := { T with k := T.k + 1, er := (movE S.n S.f T.fr T.to T.am) }) rfl rfl ⟨_, _, hs1⟩ ⟨_, _, by rw [HM.out]⟩ HDF.out
            (List.mem_cons_of_mem _ List.mem_cons_self) (List.mem_cons_of_mem _ (List.mem_cons_of_mem _ List.mem_cons_self)) (by rw [List.length_set]; exact HUS.out) (by rw [hOT]; exact List.mem_cons_self)
            (fun j u hu hj => by rwa [List.getElem?_set_ne (fun e => hj e.symm)] at hu) (fun u hu => by
              rw [List.getElem?_set_self (by have := HUS.out; have := (List.getElem?_eq_some_iff.1 HT.out).1; omega)] at hu
              obtain rfl := Option.some.inj hu
              obtain ⟨a, c, e1, e2⟩ := HTO.out i T _ HT.out HU.out
              exact ⟨a, c, e1, List.mem_cons_of_mem _ (List.mem_cons_of_mem _ (List.mem_cons_of_mem _ (noT_in e2 (by show (23 : Nat) ≠ 107; decide))))⟩) (fun o ho => by
              rcases List.mem_cons.1 ho with rfl | ho
              · exact .inr (.inr rfl)
              · rcases List.mem_cons.1 ho with rfl | ho
                · exact .inl rfl
                · rcases List.mem_cons.1 ho with rfl | ho
                  · exact .inr (.inl rfl)
                  · exact RB.out.ty o (noT_sub o ho)) (fun j X u _ _ _ ht => by
              obtain ⟨a, c, e1, e2⟩ := ht
              exact ⟨a, c, e1, List.mem_cons_of_mem _ (List.mem_cons_of_mem _ (List.mem_cons_of_mem _ (noT_in e2 (by show (23 : Nat) ≠ 107; decide))))⟩)
        have fin := RStp.fin (S' := { S with f := (if (movE S.n S.f T.fr T.to T.am) = 0 then movF S.f T.fr.toNat T.to.toNat T.am else S.f), tl := S.tl.set i { T with k := T.k + 1, er := (movE S.n S.f T.fr T.to T.am) }, dn := S.dn ++ [i] }) (x := 0) lwp rb' NL.out
        rw [HRR.out] at fin
        have FIN := Lib.hid fin
        clear fin
        have onesF := rb'.ones
        have rRF := lwp.rows (q, 96, RC s1 (.slice (some ⟨tg', 0, none⟩) m c') S.h dv') (by simp)
        have rZF := lwp.rows (q + 1, 96, Try.zeroCells96) (by simp)
        have iRF := info96 s1 (.slice (some ⟨tg', 0, none⟩) m c') dv' S.h; have zRF := zero96 s1 (.slice (some ⟨tg', 0, none⟩) m c') dv' S.h
        have hload := run_loadVar_row (P := Try.prog) _ (q + 1) 96 96 (RC s1 (.slice (some ⟨tg', 0, none⟩) m c') S.h dv') (0, 0) _ (rZF.setRow (RC s1 (.slice (some ⟨tg', 0, none⟩) m c') S.h dv')) Try.underlying96 rfl iRF
        have HLD := Lib.hid hload
        have HU12 := Lib.hid hU12; have HU9 := Lib.hid hU9
        have hX1 := HX1.out
        rw [hX1] at r8 oP iP1 th HU9
        clear lw9 lw10 lwp fset hOT rb' r10 hU12 hU9 hload hs1 rq hX1 HX1
        generalize RC s1 (.slice (some ⟨tg', 0, none⟩) m c') S.h dv' = RF at *
        generalize (movE S.n S.f T.fr T.to T.am) = ee at *
        go_wp2_with (first | (refine wpList_load_row (x := .tmp 8) (ty := 50) (g := ga) (cs := X1) (t := 50) (fr := (0, 0)) ?_ ?_ ?_ _ r8 Try.underlying50 rfl iP1 ?_; rfl; rfl; rfl) | (refine wpList_store_mid rfl 50 (.tmp 144) (.tmp 143) rfl q 0 X1 ?_ ?_ th iP1 oP ?_; rfl; rfl) | (rw [HU9.out]) | (rw [HU12.out]) | (refine wpList_load_row (x := .tmp 2) (ty := 96) (g := q) (cs := RF) (t := 96) (fr := (0, 0)) ?_ ?_ ?_ _ rRF Try.underlying96 rfl iRF ?_; rfl; rfl; rfl) | (refine wpList_store_row (x := .tmp 4) (y := .tmp 151) (cells := RF) (old := Try.zeroCells96) (t := 96) (ty := 96) (g := q + 1) ?_ ?_ ?_ ?_ rZF iRF zRF onesF ?_; rfl; rfl; rfl; rfl))
        have hload := HLD.out
        exact bodyPost_ret (v := .tuple #[.agg RF, .int .i64 (0)]) (by simp [results, Try.results58, asAddr, hload]) rfl FIN.out
end
end Go.Proofs.Ytnnnbgndbmcffaa
namespace Go.Proofs.Ytnnnbgndbmcffaa
open Go.RowKit
set_option linter.unusedVariables false

theorem wpList_build2 {P : Program} {ops : Array Oper} {rest : List Oper} {o : Oper} {a : Act} {w : World} {Q : Exit → Act → World → Prop} (hgd : o.guard = none) (t : TypeId) (i j : Nat) (x y : Operand) (ho : o.op = .build t #[(i, x), (j, y)]) (Z : Array Value) (vx vy : Value) (hx : a.eval x = vx) (hy : a.eval y = vy)
    (hz : ∀ W, (Instr.build t #[(i, vx), (j, vy)]).run P W = .ok (.agg Z) W) (h : wpList P ops Q rest (a.put o.dst (.agg Z)) w) : wpList P ops Q (o :: rest) a w :=
  wpList_plain hgd fun _ hK => by
    unfold Oper.wp execOp
    simp only [ho, List.map_toArray, List.map_cons, List.map_nil, hx, hy, Sem.run_bind, Sem.run_pure, Result.andThen_ok, hz]
    exact hK _ _ h
section
variable {n : Nat} {w0 v : World} {b : Nat} {S0 S : BS} {L : List (Nat × TypeId × Array Value)} {O : List Ow} {s tv dv : Value}
theorem rstep_any (h : LW n w0 b S0 L O v) (rb : RBO O S s tv dv) (ok : S.Ok) (hL7 : ∀ x ∈ L, x.2.1 ≠ 107) {tot : Int} (hwh : Whole S.n S.f tot) (htot : tot ≤ 1125899906842624) (id : Int) :
    Calls Try.prog 58 #[.agg (RC s tv S.h dv), .int .i64 id] v (RStp n w0 b S0 L (S.step id)) := by
  by_cases h0 : id < 0
  · exact rstep_no h rb id (.inl h0) ok.t32
  · obtain ⟨i, rfl⟩ : ∃ i : Nat, id = (i : Nat) := ⟨id.toNat, by omega⟩
    cases hT : S.tl[i]? with
    | none => exact rstep_no h rb _ (.inr (.inl (by have := List.getElem?_eq_none_iff.1 hT; omega))) ok.t32
    | some T =>
      by_cases hk : T.m + 2 ≤ T.k
      · exact rstep_no h rb _ (.inr (.inr ⟨i, T, rfl, hT, hk⟩)) ok.t32
      · have hk : T.k < T.m + 2 := by omega
        by_cases a0 : T.need 0 = true ∧ S.h 0 ≠ (i : Int)
        · exact rstep_need h rb ok i T hT hk 0 (by decide) (fun s' hs => by omega) a0.1 a0.2
        · have b0 : T.need 0 = true → S.h 0 = (i : Int) := fun hn => Decidable.not_not.1 fun hh => a0 ⟨hn, hh⟩
          by_cases a1 : T.need 1 = true ∧ S.h 1 ≠ (i : Int)
          · exact rstep_need h rb ok i T hT hk 1 (by decide) (fun s' hs hn => by
              obtain rfl : s' = 0 := by omega
              exact b0 hn) a1.1 a1.2
          · have b1 : T.need 1 = true → S.h 1 = (i : Int) := fun hn => Decidable.not_not.1 fun hh => a1 ⟨hn, hh⟩
            by_cases a2 : T.need 2 = true ∧ S.h 2 ≠ (i : Int)
            · exact rstep_need h rb ok i T hT hk 2 (by decide) (fun s' hs hn => by
                obtain rfl | rfl : s' = 0 ∨ s' = 1 := by omega
                · exact b0 hn
                · exact b1 hn) a2.1 a2.2
            · have b2 : T.need 2 = true → S.h 2 = (i : Int) := fun hn => Decidable.not_not.1 fun hh => a2 ⟨hn, hh⟩
              by_cases a3 : T.need 3 = true ∧ S.h 3 ≠ (i : Int)
              · exact rstep_need h rb ok i T hT hk 3 (by decide) (fun s' hs hn => by
                  obtain rfl | rfl | rfl : s' = 0 ∨ s' = 1 ∨ s' = 2 := by omega
                  · exact b0 hn
                  · exact b1 hn
                  · exact b2 hn) a3.1 a3.2
              · have b3 : T.need 3 = true → S.h 3 = (i : Int) := fun hn => Decidable.not_not.1 fun hh => a3 ⟨hn, hh⟩
                have hall : ∀ s', s' < 4 → T.need s' = true → S.h s' = (i : Int) := fun s' hs hn => by
                  obtain rfl | rfl | rfl | rfl : s' = 0 ∨ s' = 1 ∨ s' = 2 ∨ s' = 3 := by omega
                  · exact b0 hn
                  · exact b1 hn
                  · exact b2 hn
                  · exact b3 hn
                have hm := all_held ok hT hk hall
                by_cases hkm : T.k = T.m
                · cases hli : T.lists
                  · exact rstepm_any h rb ok hL7 i T hT hk hall hkm hli hwh htot
                  · exact rstepl_any h rb ok hL7 i T hT hk hall hkm hli
                · exact rstepf_any h rb ok hL7 i T hT hk hall (by omega)
/-- Start, whatever comes -/
theorem rstart_any (h : LW n w0 b S0 L O v) (rb : RBO O S s tv dv) (ok : S.Ok) (fr to am : Int) : Calls Try.prog 56 #[.agg (RC s tv S.h dv), .int .i64 fr, .int .i64 to, .int .u64 am] v (RBeg n w0 b S0 L s dv (S.start fr to am)) := by
  cases hin : (inP S.n fr && inP S.n to)
  · exact rstart_no h rb fr to am hin
  · obtain ⟨a, c, ha, hc, rfl, rfl⟩ := start_in hin
    exact rstart_yes h rb a c am ha hc ok.t32 ok.n32
/-- a new bank of the reference's -/
theorem RBO.init {len : Nat} {f : Nat → Int} (hs : ∃ a c, s = .slice a len c) : RBO (OwP s len f :: OwV (.slice none 0 0) [] :: OwT (.slice none 0 0) [] [] :: O.filter fun o => decide (o.t = 23)) (BS.new len f) s (.slice none 0 0) (.slice none 0 0) :=
  ⟨hs, ⟨none, 0, rfl⟩, ⟨none, 0, rfl⟩, List.mem_cons_self, by simp [BS.new], ⟨[], rfl, by simp [BS.new], fun i T u h => by simp [BS.new] at h⟩, fun o ho => by
    simp only [List.mem_cons] at ho
    rcases ho with rfl | rfl | rfl | ho
    · exact .inl rfl
    · exact .inr (.inl rfl)
    · exact .inr (.inr rfl)
    · exact .inl (by simpa using (List.mem_filter.1 ho).2)⟩
theorem LW.nilOf (h : LW n w0 b S L O v) (t sz : Nat) : LW n w0 b S L (⟨t, sz, .slice none 0 0, 0, []⟩ :: O) v := by
  obtain ⟨⟨rk, a, c, d, e⟩, r, rg, ow, bl, ge⟩ := h
  refine ⟨⟨rk, a, c, d, fun o ho g hg => ?_⟩, r, rg, fun o ho => ?_, bl, ge⟩
  · rcases List.mem_cons.1 ho with e1 | e1
    · subst e1; cases hg
    · exact e o e1 g hg
  · rcases List.mem_cons.1 ho with e1 | e1
    · subst e1; exact ⟨(by simp), .inl ⟨rfl, rfl⟩⟩
    · exact ow o e1
theorem build94c (w : World) : (Instr.build 94 #[(0, .int .i64 (-1)), (1, .int .i64 (-1)), (2, .int .i64 (-1)), (3, .int .i64 (-1))]).run Try.prog w = .ok (.agg #[.int .i64 (-1), .int .i64 (-1), .int .i64 (-1), .int .i64 (-1)]) w := by kernel_rfl
theorem build96 (s : Value) (w : World) : (Instr.build 96 #[(0, .agg (PV s)), (2, .agg #[.int .i64 (-1), .int .i64 (-1), .int .i64 (-1), .int .i64 (-1)])]).run Try.prog w = .ok (.agg (RC s (.slice none 0 0) (fun _ => -1) (.slice none 0 0))) w := by kernel_rfl
set_option maxRecDepth 100000 in
set_option maxHeartbeats 8000000 in
theorem rnew96_yes (h : LW n w0 b S L O v) (pa : Option Addr) (len cap : Nat) (zs : List Int) (hu : URow w0 pa len zs) (hn0 : w0.heap.size = n) (h1 : 1 ≤ len) (h2 : len ≤ 32) (h3 : zs.sum ≤ Am.mx) (hty : ∀ o ∈ O, o.t = 23) :
    Calls Try.prog 55 #[.slice pa len cap] v (fun e w' => ∃ s', e = .returned (.tuple #[.agg (RC s' (.slice none 0 0) (fun _ => -1) (.slice none 0 0)), .bool true]) ∧ (∃ a c, s' = .slice a len c) ∧ LW n w0 b S L (OwP s' len (fun i => zs.getD i 0) :: O) w') := by
  have ZE := Lib.hid (show ∀ s, RC s (.slice none 0 0) (BS.new len fun i => zs.getD i 0).h (.slice none 0 0) = RC s (.slice none 0 0) (fun _ => -1) (.slice none 0 0) from fun s => RC_congr (fun k _ => rfl))
  have lw1 := h.new 96 Try.zeroCells96
  obtain ⟨q, hq⟩ : ∃ q, v.heap.size = q := ⟨_, rfl⟩
  obtain ⟨V1, hV1⟩ : ∃ V1, v.alloc (.cells Try.zeroCells96 96) = V1 := ⟨_, rfl⟩
  have s1 : V1.heap.size = q + 1 := by rw [← hV1, ← hq]; simp
  rw [hq, hV1] at lw1
  have C35 := Lib.hid (rnew_yes pa len cap zs V1 (hu.below (by rw [hn0]; exact lw1.bel)) h1 h2 h3)
  have HQ := Lib.hid hq; have HV1 := Lib.hid hV1; have HS1 := Lib.hid s1
  have NLX := Lib.hid (show ∀ x ∈ L, x.1 ≠ q from fun x hx => by have := (h.rows x hx).lt; omega)
  have LW1 := Lib.hid lw1
  clear lw1 h hu h1 h2 h3
  have NL := Lib.hid hq
  clear hq hV1 s1
  have hb94 := build94c
  go_enter Try.func55, Try.ntmps55
  go_wp2_with (first | (rw [HQ.out, HV1.out]) | fail)
  refine (C35.out).mono ?_
  rintro e w1 ⟨s', rfl, rs, hb1⟩
  have lw2 := LW1.out.copied rs.2 hb1
  obtain ⟨sg, sc, hs'⟩ := rs.1
  have one : s'.oneCell' = true := by rw [hs']; rfl
  have lw3 := lw2.new 50 Try.zeroCells50
  have hb96 := Lib.hid (build96 s')
  obtain ⟨g5, hg5⟩ : ∃ g5, w1.heap.size = g5 := ⟨_, rfl⟩
  obtain ⟨V3, hV3⟩ : ∃ V3, w1.alloc (.cells Try.zeroCells50 50) = V3 := ⟨_, rfl⟩
  rw [hg5, hV3] at lw3
  have rz5 : M.RowAt V3 g5 50 Try.zeroCells50 := lw3.rows (g5, 50, Try.zeroCells50) (by simp)
  have hqg : q < g5 := by rw [← hg5]; exact (lw2.rows (q, 96, Try.zeroCells96) (by simp)).lt
  have lw4 := lw3.setRow (PV s') (fun x hx => by rw [← hg5]; exact Nat.ne_of_lt (lw2.rows x hx).lt) (fun o ho => by
    rcases List.mem_cons.1 ho with rfl | ho
    · show (23 : Nat) ≠ 50; decide
    · rw [hty o ho]; decide)
  obtain ⟨V4, hV4⟩ : ∃ V4, V3.setRow g5 (PV s') = V4 := ⟨_, rfl⟩
  rw [hV4] at lw4
  have rp5 : M.RowAt V4 g5 50 (PV s') := lw4.rows (g5, 50, PV s') (by simp)
  have rz0 : M.RowAt V4 q 96 Try.zeroCells96 := lw4.rows (q, 96, Try.zeroCells96) (by simp)
  have lw5 := (lw4.sub (L' := (q, 96, Try.zeroCells96) :: L) (fun x hx => List.mem_cons_of_mem _ hx) (fun o ho => ho)).setRow (RC s' (.slice none 0 0) (fun _ => -1) (.slice none 0 0)) (fun x hx => by have := (LW1.out.rows x (List.mem_cons_of_mem _ hx)); exact NLX.out x hx) (fun o ho => by
    rcases List.mem_cons.1 ho with rfl | ho
    · show (23 : Nat) ≠ 96; decide
    · rw [hty o ho]; decide)
  have fin : ∃ s'', Ending.returned (.tuple #[.agg (RC s' (.slice none 0 0) (fun _ => -1) (.slice none 0 0)), .bool true]) = .returned (.tuple #[.agg (RC s'' (.slice none 0 0) (fun _ => -1) (.slice none 0 0)), .bool true]) ∧ (∃ a c, s'' = .slice a len c) ∧ LW n w0 b S L (OwP s'' len (fun i => zs.getD i 0) :: O) (V4.setRow q (RC s' (.slice none 0 0) (fun _ => -1) (.slice none 0 0))) :=
    ⟨s', rfl, ⟨_, _, hs'⟩, lw5.sub (fun x hx => List.mem_cons_of_mem _ hx) (fun o ho => ho)⟩
  have iY := info50s s'; have zY := zero50s s'; have oY := PV_one one
  have iR := info96 s' (.slice none 0 0) (.slice none 0 0) (fun _ => -1); have zR := zero96 s' (.slice none 0 0) (.slice none 0 0) (fun _ => -1)
  have ones : (RC s' (.slice none 0 0) (fun _ => -1) (.slice none 0 0)).all (·.oneCell') = true := RC_one _ _ _ _ one rfl rfl
  have hload := run_loadVar_row (P := Try.prog) _ q 96 96 (RC s' (.slice none 0 0) (fun _ => -1) (.slice none 0 0)) (0, 0) _ (rz0.setRow (RC s' (.slice none 0 0) (fun _ => -1) (.slice none 0 0))) Try.underlying96 rfl iR
  have HLD := Lib.hid hload; have FIN := Lib.hid fin
  have HG5 := Lib.hid hg5; have HV3 := Lib.hid hV3; have HV4 := Lib.hid hV4
  obtain ⟨Y, hY⟩ : ∃ Y, PV s' = Y := ⟨_, rfl⟩
  obtain ⟨R, hR⟩ : ∃ R, RC s' (.slice none 0 0) (fun _ => -1) (.slice none 0 0) = R := ⟨_, rfl⟩
  rw [hY] at iY zY oY rp5 HV4 hb96 ⊢
  rw [hR] at iR zR ones HLD FIN hb96
  have hb := hb96.out
  clear hb96 hload fin hg5 hV3 hV4 hY hR hb1 lw2 lw3 lw4 lw5 rs hs' C35 LW1
  go_wp2_with (first | (refine wpList_build2 rfl 96 0 2 (.tmp 11) (.tmp 12) rfl R (.agg Y) (.agg #[.int .i64 (-1), .int .i64 (-1), .int .i64 (-1), .int .i64 (-1)]) ?_ ?_ hb ?_; rfl; rfl) | (rw [HG5.out, HV3.out]) | (rw [HV4.out]) | (refine wpList_store_row (x := .tmp 4) (y := .tmp 9) (cells := Y) (old := Try.zeroCells50) (t := 50) (ty := 50) (g := g5) ?_ ?_ ?_ ?_ rz5 iY zY oY ?_; rfl; rfl; rfl; rfl) | (refine wpList_load_row (x := .tmp 4) (ty := 50) (g := g5) (cs := Y) (t := 50) (fr := (0, 0)) ?_ ?_ ?_ _ rp5 Try.underlying50 rfl iY ?_; rfl; rfl; rfl) | (refine wpList_store_row (x := .tmp 2) (y := .tmp 13) (cells := R) (old := Try.zeroCells96) (t := 96) (ty := 96) (g := q) ?_ ?_ ?_ ?_ rz0 iR zR ones ?_; rfl; rfl; rfl; rfl) | fail)
  have hload := HLD.out
  exact bodyPost_ret (v := .tuple #[.agg R, .bool true]) (by simp [results, Try.results55, asAddr, hload]) rfl FIN.out
end
set_option maxRecDepth 100000 in
set_option maxHeartbeats 8000000 in
theorem rnew96_no (pa : Option Addr) (len cap : Nat) (zs : List Int) (w0 v : World) (hu : URow w0 pa len zs) (hbv : Below w0.heap.size w0 v) (hl : len ≤ 1000) (hn : len < 1 ∨ 32 < len ∨ ¬ zs.sum ≤ Am.mx) :
    Calls Try.prog 55 #[.slice pa len cap] v (fun e w' => ∃ s', e = .returned (.tuple #[.agg (RC s' (.slice none 0 0) (fun _ => -1) (.slice none 0 0)), .bool false]) ∧ s'.oneCell' = true ∧ Below w0.heap.size w0 w') := by
  obtain ⟨q, hq⟩ : ∃ q, v.heap.size = q := ⟨_, rfl⟩
  obtain ⟨V1, hV1⟩ : ∃ V1, v.alloc (.cells Try.zeroCells96 96) = V1 := ⟨_, rfl⟩
  have s1 : V1.heap.size = q + 1 := by rw [← hV1, ← hq]; simp
  have hle := hbv.size
  have bv1 : Below w0.heap.size w0 V1 := by rw [← hV1]; exact hbv.alloc hbv.size _
  have rq1 := M.RowAt.new v 96 Try.zeroCells96
  rw [hq, hV1] at rq1
  have C35 := Lib.hid (rnew_no pa len cap zs V1 (hu.below bv1) hl hn)
  have HQ := Lib.hid hq; have HV1 := Lib.hid hV1; have HS1 := Lib.hid s1
  have BV1 := Lib.hid bv1; have RQ1 := Lib.hid rq1; have HLE := Lib.hid hle
  clear bv1 rq1 hu hbv hl hn hle
  have NL := Lib.hid hq
  clear hq hV1 s1
  have hb94 := build94c
  go_enter Try.func55, Try.ntmps55
  go_wp2_with (first | (rw [HQ.out, HV1.out]) | fail)
  refine (C35.out).mono ?_
  rintro e w1 ⟨rfl, hb1⟩
  obtain ⟨s', hs'⟩ : ∃ s' : Value, s' = .slice none 0 0 := ⟨_, rfl⟩
  have one : s'.oneCell' = true := by rw [hs']; rfl
  have hZP : ZP = PV s' := by rw [hs']; rfl
  rw [hZP]
  have bw1 := BV1.out.trans (hb1.mono (by have := HS1.out; have := HLE.out; have := HQ.out; omega))
  have rq2 := RQ1.out.call hb1
  have hb96 := Lib.hid (build96 s')
  obtain ⟨g5, hg5⟩ : ∃ g5, w1.heap.size = g5 := ⟨_, rfl⟩
  obtain ⟨V3, hV3⟩ : ∃ V3, w1.alloc (.cells Try.zeroCells50 50) = V3 := ⟨_, rfl⟩
  have hqg : q < g5 := by rw [← hg5]; exact rq2.lt
  have rz5 := M.RowAt.new w1 50 Try.zeroCells50
  have rq3 := rq2.alloc (.cells Try.zeroCells50 50)
  rw [hV3] at rz5 rq3
  rw [hg5] at rz5
  obtain ⟨V4, hV4⟩ : ∃ V4, V3.setRow g5 (PV s') = V4 := ⟨_, rfl⟩
  have rp5 := rz5.setRow (PV s')
  have rz0 := rq3.farRow (show g5 ≠ q by omega) (PV s')
  have b3 : Below w0.heap.size w0 V3 := by rw [← hV3]; exact bw1.alloc bw1.size _
  have b4 := M.below_setRow (cs := PV s') b3 (show w0.heap.size ≤ g5 by have := bw1.size; omega)
  rw [hV4] at rp5 rz0 b4
  have b5 := M.below_setRow (cs := RC s' (.slice none 0 0) (fun _ => -1) (.slice none 0 0)) b4 (show w0.heap.size ≤ q by have := HLE.out; have := HQ.out; omega)
  have fin : ∃ s'', Ending.returned (.tuple #[.agg (RC s' (.slice none 0 0) (fun _ => -1) (.slice none 0 0)), .bool false]) = .returned (.tuple #[.agg (RC s'' (.slice none 0 0) (fun _ => -1) (.slice none 0 0)), .bool false]) ∧ s''.oneCell' = true ∧ Below w0.heap.size w0 (V4.setRow q (RC s' (.slice none 0 0) (fun _ => -1) (.slice none 0 0))) := ⟨s', rfl, one, b5⟩
  have iY := info50s s'; have zY := zero50s s'; have oY := PV_one one
  have iR := info96 s' (.slice none 0 0) (.slice none 0 0) (fun _ => -1); have zR := zero96 s' (.slice none 0 0) (.slice none 0 0) (fun _ => -1)
  have ones : (RC s' (.slice none 0 0) (fun _ => -1) (.slice none 0 0)).all (·.oneCell') = true := RC_one _ _ _ _ one rfl rfl
  have hload := run_loadVar_row (P := Try.prog) _ q 96 96 (RC s' (.slice none 0 0) (fun _ => -1) (.slice none 0 0)) (0, 0) _ (rz0.setRow (RC s' (.slice none 0 0) (fun _ => -1) (.slice none 0 0))) Try.underlying96 rfl iR
  have HLD := Lib.hid hload; have FIN := Lib.hid fin
  have HG5 := Lib.hid hg5; have HV3 := Lib.hid hV3; have HV4 := Lib.hid hV4
  obtain ⟨Y, hY⟩ : ∃ Y, PV s' = Y := ⟨_, rfl⟩
  obtain ⟨R, hR⟩ : ∃ R, RC s' (.slice none 0 0) (fun _ => -1) (.slice none 0 0) = R := ⟨_, rfl⟩
  rw [hY] at iY zY oY rp5 HV4 hb96 ⊢
  rw [hR] at iR zR ones HLD FIN hb96
  have hb := hb96.out
  clear hb96 hload fin hg5 hV3 hV4 hY hR hb1 bw1 rq2 rq3 b3 b4 b5 hZP hs' C35 BV1 RQ1
  go_wp2_with (first | (refine wpList_build2 rfl 96 0 2 (.tmp 11) (.tmp 12) rfl R (.agg Y) (.agg #[.int .i64 (-1), .int .i64 (-1), .int .i64 (-1), .int .i64 (-1)]) ?_ ?_ hb ?_; rfl; rfl) | (rw [HG5.out, HV3.out]) | (rw [HV4.out]) | (refine wpList_store_row (x := .tmp 4) (y := .tmp 9) (cells := Y) (old := Try.zeroCells50) (t := 50) (ty := 50) (g := g5) ?_ ?_ ?_ ?_ rz5 iY zY oY ?_; rfl; rfl; rfl; rfl) | (refine wpList_load_row (x := .tmp 4) (ty := 50) (g := g5) (cs := Y) (t := 50) (fr := (0, 0)) ?_ ?_ ?_ _ rp5 Try.underlying50 rfl iY ?_; rfl; rfl; rfl) | (refine wpList_store_row (x := .tmp 2) (y := .tmp 13) (cells := R) (old := Try.zeroCells96) (t := 96) (ty := 96) (g := q) ?_ ?_ ?_ ?_ rz0 iR zR ones ?_; rfl; rfl; rfl; rfl) | fail)
  have hload := HLD.out
  exact bodyPost_ret (v := .tuple #[.agg R, .bool false]) (by simp [results, Try.results55, asAddr, hload]) rfl FIN.out
end Go.Proofs.Ytnnnbgndbmcffaa
namespace Go.Proofs.Ytnnnbgndbmcffaa
open Go.RowKit
set_option linter.unusedVariables false

section
variable {n : Nat} {w0 v : World} {b : Nat} {S0 S : BS} {L : List (Nat × TypeId × Array Value)} {O : List Ow} {s tv dv : Value}
theorem lw_samei {a1 a2 : Option Addr} {c1 c2 : Nat} {l : List Nat} (h : LW n w0 b S L O v) (h1 : (⟨3, 1, .slice a1 l.length c1, l.length, l.map fun i : Nat => Value.int .i64 i⟩ : Ow) ∈ O) (h2 : OwV (.slice a2 l.length c2) l ∈ O) (hm : l.length ≤ 1000) :
    Calls Try.prog 59 #[.slice a1 l.length c1, .slice a2 l.length c2] v fun e v' => e = .returned (.bool true) ∧ LW n w0 b S L O v' := by
  refine (rsamei_any a1 a2 c1 c2 l.length (fun j => ((l.getD j 0 : Nat) : Int)) v hm (fun u hu j hj => ?_)).mono ?_
  · have hl := h.dr hu
    have hx : (l.map fun i : Nat => Value.int .i64 i)[j]? = some (.int .i64 ((l.getD j 0 : Nat) : Int)) := by
      rw [List.getElem?_map, List.getElem?_eq_getElem hj, List.getD_eq_getElem?_getD, List.getElem?_eq_getElem hj]; rfl
    obtain ⟨g1, e1, x1⟩ := hl.elem h1 rfl hx
    obtain ⟨g2, e2, x2⟩ := hl.elem h2 rfl hx
    exact ⟨g1, 0, g2, 0, e1, e2, by rw [Nat.zero_add]; exact x1, by rw [Nat.zero_add]; exact x2⟩
  · rintro e v' ⟨rfl, hb⟩
    exact ⟨rfl, h.same hb⟩
theorem doA_n (S : BS) (x : Ac) : (S.doA x).n = S.n := by have := play_n S [x]; exact this
theorem res_eq (ok : S.Ok) {j : Nat} {T : Tsk} (hT : S.tl[j]? = some T) : S.res (j : Int) = (T.er, decide (T.m < T.k)) := by
  rw [res_at hT]
  by_cases hk : T.m < T.k
  · rw [if_pos hk, decide_eq_true hk]
  · rw [if_neg hk, decide_eq_false hk, (ok.un j T hT (by omega)).1]
theorem res_none {id : Int} (h : (S.tl.length : Int) ≤ id) : S.res id = (0, false) := by
  unfold BS.res
  rw [if_pos (by omega), List.getElem?_eq_none (by omega)]
end
set_option maxRecDepth 100000 in
set_option maxHeartbeats 32000000 in
theorem acts_walk (pa : Option Addr) (len cap : Nat) (zs : List Int) (A : Option Addr) (cap2 : Nat) (l : List Ac) (w : World) (hu : URow w pa len zs) (h1 : 1 ≤ len) (h2 : len ≤ 32) (h3 : zs.sum ≤ Am.mx) (hsl : RowK.SlAt w 4 Ac.cells A l) (hok : ∀ x ∈ l, x.ok) (hl : l.length ≤ 200) :
    Calls Try.prog 18 #[.slice pa len cap, .slice A l.length cap2] w (Fine w) := by
  obtain ⟨n, hn⟩ : ∃ n, w.heap.size = n := ⟨_, rfl⟩
  have HN := Lib.hid hn
  have SH := Lib.hid (fun v => bshown_any v)
  have nw := fun v (hv : Below n w v) => bnew_yes pa len cap zs v (hu.below (hn.symm ▸ hv : Below w.heap.size w v)) h1 h2 h3
  have rnew := fun (v : World) (b : Nat) (S : BS) (lw : LW n w b S [] [] v) => rnew96_yes lw pa len cap zs hu hn h1 h2 h3 (fun o ho => by cases ho)
  have acts : ∀ k x, l[k]? = some x → ∃ b off, A = some ⟨b, off, none⟩ ∧ b < n ∧ ∀ v, Below n w v → v.rangeAt b (off + k * 4) x.cells := fun k x hx => act_at hsl hx hn
  have oks : ∀ k (h : k < l.length), ∃ x, l[k]? = some x ∧ x.ok := fun k h => ⟨l[k], List.getElem?_eq_getElem h, hok _ (List.getElem_mem h)⟩
  have htot : sumB (fun i => zs.getD i 0) len = zs.sum := by have := sumB_list zs; rwa [hu.lens] at this
  have hpos : ∀ i, 0 ≤ zs.getD i 0 := fun i => by
    rw [List.getD_eq_getElem?_getD]
    cases hz : zs[i]? with
    | none => exact Int.le_refl _
    | some z => exact (hu.fits z (List.mem_of_getElem? hz)).1
  have GD0 := Lib.hid (show Good (BS.new len fun i => zs.getD i 0) zs.sum from ⟨⟨hpos, htot⟩, fun i T h => by simp [BS.new] at h⟩)
  have MX := Lib.hid (show zs.sum ≤ 1125899906842624 from h3)
  obtain ⟨m, hm⟩ : ∃ m, l.length = m := ⟨_, rfl⟩
  rw [hm] at oks hl ⊢
  have d1 : decide ((40 : Int) < (len : Int)) = false := by simp; omega
  have d2 : decide ((200 : Int) < (m : Int)) = false := by simp; omega
  have NW := Lib.hid nw; have RNEW := Lib.hid rnew; have ACTS := Lib.hid acts; have OKS := Lib.hid oks; have HL1 := Lib.hid h1; have M200 := Lib.hid hl
  clear nw rnew acts oks hu h1 h2 h3 hsl hok hl hm htot hpos
  go_enter Try.func18, Try.ntmps18
  go_wp2_with fail
  refine (SH.out _).mono ?_
  rintro e w1 ⟨rfl, g1⟩
  rw [hn] at g1
  have G1 := Lib.hid g1
  clear g1 hn SH
  go_wp2_with fail
  refine (NW.out _ G1.out).mono ?_
  rintro e w2 hnew
  obtain ⟨b, rfl, lw2⟩ := lw_new G1.out (by have := G1.out.size; have := HN.out; omega) hnew
  have RN := Lib.hid (RNEW.out _ _ _ lw2)
  clear hnew lw2 NW RNEW
  go_wp2_with fail
  refine (RN.out).mono ?_
  rintro e w3 ⟨s0, rfl, hs0, lw3⟩
  have one0 : s0.oneCell' = true := by obtain ⟨a, c, e⟩ := hs0; rw [e]; rfl
  have lw4 := lw3.new 96 Try.zeroCells96
  obtain ⟨g6, hg6⟩ : ∃ g6, w3.heap.size = g6 := ⟨_, rfl⟩
  obtain ⟨V4, hV4⟩ : ∃ V4, w3.alloc (.cells Try.zeroCells96 96) = V4 := ⟨_, rfl⟩
  rw [hg6, hV4] at lw4
  have rZ := lw4.rows (g6, 96, Try.zeroCells96) (by simp)
  obtain ⟨R0, hR0⟩ : ∃ R0, RC s0 (.slice none 0 0) (fun _ => -1) (.slice none 0 0) = R0 := ⟨_, rfl⟩
  have iR0 : (Try.prog.info? 96).map (·.size) = some R0.size := by rw [← hR0]; exact info96 _ _ _ _
  have zR0 : Try.zeroCells96.size = R0.size := by rw [← hR0]; exact zero96 _ _ _ _
  have oR0 : R0.all (·.oneCell') = true := by rw [← hR0]; exact RC_one _ _ _ _ one0 rfl rfl
  have lw5 := lw4.setRow R0 (fun x hx => by cases hx) (fun o ho => by
    simp only [List.mem_cons, List.not_mem_nil, or_false] at ho
    rw [ho]; show (23 : Nat) ≠ 96; decide)
  obtain ⟨V5, hV5⟩ : ∃ V5, V4.setRow g6 R0 = V5 := ⟨_, rfl⟩
  rw [hV5] at lw5
  have lw6 := ((lw5.nilOf 107 12).nilOf 3 1).sub (L' := [(g6, 96, R0)]) (O' := OwP s0 len (fun i => zs.getD i 0) :: OwV (.slice none 0 0) [] :: OwT (.slice none 0 0) [] [] :: ([] : List Ow).filter fun o => decide (o.t = 23)) (fun x hx => hx) (fun o ho => by
    simp only [List.filter_nil, List.mem_cons, List.not_mem_nil, or_false] at ho ⊢
    rcases ho with e | e | e
    · exact .inr (.inr e)
    · exact .inl e
    · exact .inr (.inl e))
  have RB0 := Lib.hid (RBO.init (O := []) (f := fun i => zs.getD i 0) hs0)
  have lw6 : LW n w b (BS.new len fun i => zs.getD i 0) [(g6, 96, RC s0 (.slice none 0 0) (BS.new len fun i => zs.getD i 0).h (.slice none 0 0))] (OwP s0 len (fun i => zs.getD i 0) :: OwV (.slice none 0 0) [] :: OwT (.slice none 0 0) [] [] :: ([] : List Ow).filter fun o => decide (o.t = 23)) V5 := by
    rw [RC_congr (h := (BS.new len fun i => zs.getD i 0).h) (h' := fun _ => -1) (fun k _ => rfl), hR0]; exact lw6
  have LW6 := Lib.hid lw6
  have HG6 := Lib.hid hg6; have HV4 := Lib.hid hV4; have HV5 := Lib.hid hV5
  rw [hR0]
  clear lw3 lw4 lw5 lw6 hg6 hV4 hV5 hR0 hs0 RN one0
  go_wp2_with (first | (rw [HG6.out, HV4.out]) | (rw [HV5.out]) | (refine wpList_store_row (x := .tmp 6) (y := .tmp 38) (cells := R0) (old := Try.zeroCells96) (t := 96) (ty := 96) (g := g6) ?_ ?_ ?_ ?_ rZ iR0 zR0 oR0 ?_; rfl; rfl; rfl; rfl))
  go_loopg [8] m (fun mm i v => ∃ (k : Nat) (S : BS) (s tv dv : Value) (O : List Ow), mm + k = m ∧ i = .int .i64 k ∧ LW n w b S [(g6, 96, RC s tv S.h dv)] O v ∧ RBO O S s tv dv ∧ Good S zs.sum ∧ S.n = len)
  case atStart => exact ⟨0, _, _, _, _, _, by omega, rfl, LW6.out, RB0.out, GD0.out, rfl⟩
  case round =>
    clear LW6 RB0 GD0 rZ iR0 zR0 oR0 HG6 HV4 HV5
    obtain ⟨k, S, s, tv, dv, O, hk, rfl, lw, rb, gd, hSn⟩ := hrel
    have HK := Lib.hid hk; have RB := Lib.hid rb; have GD := Lib.hid gd; have SN := Lib.hid hSn
    clear hk rb gd hSn
    by_cases hlt : k < m
    · obtain ⟨x, hx, xok⟩ := OKS.out k hlt
      obtain ⟨ab, ao, rfl, hab, hr⟩ := ACTS.out k x hx
      have rg := hr _ lw.bel
      have DOK := Lib.hid (do_ok lw.ok xok)
      have DGD := Lib.hid (good_do lw.ok GD.out x)
      obtain ⟨K, xa, xb, y⟩ := x
      have g2 := xok.n0
      simp only at g2
      have c0 := rg 0 _ rfl; have c1 := rg 1 _ rfl; have c2 := rg 2 _ rfl; have c3 := rg 3 _ rfl
      rw [Nat.add_zero] at c0
      simp only at c0 c1 c2 c3
      have lwn := lw.new 84 #[.int .i64 K, .int .i64 xa, .int .i64 xb, .int .u64 y]
      obtain ⟨gx, hgx⟩ : ∃ gx, wr.heap.size = gx := ⟨_, rfl⟩
      rw [hgx] at lwn
      have LWN := Lib.hid lwn; have HGX := Lib.hid hgx; have HLT := Lib.hid hlt; have OKk := Lib.hid lw.ok
      have NEX := Lib.hid (show gx ≠ g6 from by have := (lw.rows (g6, 96, RC s tv S.h dv) (by simp)).lt; omega)
      have iR := info96 s tv dv S.h
      have i1 : ((k : Nat) : Int) < (m : Nat) := by omega
      have i0 : (0 : Int) ≤ (k : Nat) := by omega
      have wk : IntKind.i64.wrap ((k : Int) + 1) = (k : Int) + 1 := IntWalk.i64_in _ (by have := M200.out; omega)
      clear hr xok hx rg lw lwn hgx hlt
      by_cases q0 : K = 0
      · subst q0
        have ST := Lib.hid (lw_start (fr := xa) (to := xb) (am := y) LWN.out g2)
        go_wp2_with fail
        rw [HGX.out]
        refine (ST.out).mono ?_
        rintro e w4 ⟨rfl, lw4⟩
        have DO4 := Lib.hid (show S.doA ⟨0, xa, xb, y⟩ = (S.start xa xb y).1 from rfl)
        have NN := Lib.hid (show (S.start xa xb y).1.n = S.n from by rw [← DO4.out]; exact doA_n _ _)
        have RS := Lib.hid (rstart_any lw4 RB.out OKk.out xa xb y)
        generalize hS' : S.start xa xb y = r at *
        obtain ⟨S', r1, r2⟩ := r
        simp only at lw4 DO4 NN
        rw [DO4.out] at DOK DGD
        have rR4 := lw4.rows (g6, 96, RC s tv S.h dv) (by simp)
        have rX4 := lw4.rows (gx, 84, _) List.mem_cons_self
        have x0 := (rX4.cell 0).trans rfl; have x1 := (rX4.cell 1).trans rfl; have x2 := (rX4.cell 2).trans rfl; have x3 := (rX4.cell 3).trans rfl
        obtain ⟨R, hR⟩ : ∃ R, RC s tv S.h dv = R := ⟨_, rfl⟩
        rw [hR] at RS rR4 iR
        have RSZ := Lib.hid (show R.size = 71 from by rw [← hR]; exact RC_size _ _ _ _)
        have HR := Lib.hid hR
        clear c0 c1 c2 c3 hS' ST LWN lw4 rX4 hR HGX
        go_wp2_with (first | (refine wpList_load_row (x := .tmp 6) (ty := 96) (g := g6) (cs := R) (t := 96) (fr := (0, 0)) ?_ ?_ ?_ _ rR4 Try.underlying96 rfl iR ?_; rfl; rfl; rfl) | fail)
        refine (RS.out).mono ?_
        rintro e w5 ⟨tv', O', rfl, lw5, rb5⟩
        have lw5 := lw5.sub (L' := [(g6, 96, R)]) (fun x hx => List.mem_cons_of_mem _ hx) (fun o ho => ho)
        have rR5 := lw5.rows (g6, 96, R) (by simp)
        obtain ⟨s1, hs1⟩ : ∃ s1, s1 = s := ⟨_, rfl⟩
        rw [← hs1] at rb5
        obtain ⟨dv1, hdv1⟩ : ∃ dv1, dv1 = dv := ⟨_, rfl⟩
        rw [← hdv1] at rb5
        have lw6 := lw5.setRow (RC s1 tv' S'.h dv1) (fun x hx => by cases hx) rb5.no96
        have oR' := rb5.ones
        have iR' := info96 s1 tv' dv1 S'.h
        have zR' : R.size = (RC s1 tv' S'.h dv1).size := by rw [RSZ.out, RC_size]
        obtain ⟨w6, hw6⟩ : ∃ w6, w5.setRow g6 (RC s1 tv' S'.h dv1) = w6 := ⟨_, rfl⟩
        rw [hw6] at lw6
        have LW6 := Lib.hid lw6; have RB6 := Lib.hid rb5; have HW6 := Lib.hid hw6
        have GD6 := Lib.hid DGD.out; have SN6 := Lib.hid (NN.out.trans SN.out)
        rw [← hs1, ← hdv1]
        obtain ⟨R', hR'⟩ : ∃ R', RC s1 tv' S'.h dv1 = R' := ⟨_, rfl⟩
        have HW6 : Hid (w5.setRow g6 R' = w6) := Lib.hid (by rw [← hR']; exact HW6.out)
        rw [hR'] at oR' iR' zR'
        simp only [hR']
        clear RS lw5 lw6 rb5 hw6 hs1 hdv1 x0 x1 x2 x3 rR4 RSZ HR hR'
        go_wp2_with (first | (refine wpList_store_row (x := .tmp 6) (y := .tmp 91) (cells := R') (old := R) (t := 96) (ty := 96) (g := g6) ?_ ?_ ?_ ?_ rR5 iR' zR' oR' ?_; rfl; rfl; rfl; rfl) | (rw [HW6.out]))
        clear rR5 iR' zR' oR' HW6 iR
        go_wp2
        refine QC.wp_region_d [10, 13] [0, 1, 2, 3, 4, 5, 6, 7, 8, 9, 11, 12, 10, 13, 14, 15] (by kernel_rfl) (by kernel_rfl) (fun u d => ?_)
        have lwu := LW6.out.dr d
        obtain ⟨da2, dc2, hdv⟩ := RB6.out.df
        have c70 := ((lwu.rows (g6, 96, RC s1 tv' S'.h dv1) (by simp)).cell 70).trans (RC_D _ _ _ _)
        rw [hdv] at c70
        have DN := Lib.hid (lw_done lwu)
        have D32 := Lib.hid (show S'.dn.length ≤ 1000 by have := lwu.ok.dnlen; have := lwu.ok.t32; omega)
        have DVM := Lib.hid (show OwV (.slice da2 S'.dn.length dc2) S'.dn ∈ O' from hdv ▸ RB6.out.dn)
        have HDQ := Lib.hid hdv
        clear d lwu hdv
        iterate 12
          (first
           | (apply QC.wpC_load
              (focus rfl)
              (focus decide)
              (focus rfl)
              (focus rfl)
              (focus rfl)
              (focus (assumption))
              (focus (intro u hu; go_simp))
              intro K hK
              go_simp
              refine hK _ ?_
              clear hK K)
           | (apply QC.wpC_pure
              (focus rfl)
              (focus decide)
              intro K hK
              go_simp
              first
               | (refine hK _ ?_; clear hK K)
               | (apply Exists.intro
                  refine ⟨fun u => ?_, hK _ ?_⟩
                  (focus (unfold QP.oat; go_simp; first | done | exact ⟨rfl, rfl⟩ | exact rfl))
                  clear hK K)))
        apply QC.wpC_eff
        (focus rfl)
        (focus decide)
        go_wp2_with fail
        refine (DN.out).mono ?_
        rintro e u2 ⟨da, dc, rfl, lw8⟩
        obtain ⟨da3, dc3, hdv⟩ := RB6.out.df
        have c70b := ((lw8.rows (g6, 96, RC s1 tv' S'.h dv1) (by simp)).cell 70).trans (RC_D _ _ _ _)
        rw [hdv] at c70b
        have hdd : da3 = da2 ∧ dc3 = dc2 := by have e := HDQ.out.symm.trans hdv; injection e with e1 e2 e3; exact ⟨e1.symm, e3.symm⟩
        obtain ⟨rfl, rfl⟩ := hdd
        have SM := Lib.hid (lw_samei lw8 (a1 := da) (c1 := dc) (a2 := da3) (c2 := dc3) (l := S'.dn) List.mem_cons_self (List.mem_cons_of_mem _ DVM.out) D32.out)
        clear DN lw8 hdv c70 HDQ
        go_wp2
        refine QC.eff_ok rfl ?_ ?_
        · (repeat (first | exact QC.obl_nil | refine QC.obl_is (by assumption) ?_ | (apply QC.obl_dep; (focus decide))))
        apply QC.wpC_eff
        (focus rfl)
        (focus decide)
        go_wp2_with fail
        refine (SM.out).mono ?_
        rintro e u3 ⟨rfl, lw9⟩
        have LW9 := Lib.hid (lw9.sub (L' := [(g6, 96, RC s1 tv' S'.h dv1)]) (O' := O') (fun x hx => hx) (fun o ho => List.mem_cons_of_mem _ ho))
        clear SM lw9 c70b D32 DVM LW6
        go_wp2
        refine QC.eff_ok rfl ?_ ?_
        · (repeat (first | exact QC.obl_nil | refine QC.obl_is (by assumption) ?_ | (apply QC.obl_dep; (focus decide))))
        iterate 2
          (first
           | (apply QC.wpC_load
              (focus rfl)
              (focus decide)
              (focus rfl)
              (focus rfl)
              (focus rfl)
              (focus (assumption))
              (focus (intro u hu; go_simp))
              intro K hK
              go_simp
              refine hK _ ?_
              clear hK K)
           | (apply QC.wpC_pure
              (focus rfl)
              (focus decide)
              intro K hK
              go_simp
              first
               | (refine hK _ ?_; clear hK K)
               | (apply Exists.intro
                  refine ⟨fun u => ?_, hK _ ?_⟩
                  (focus (unfold QP.oat; go_simp; first | done | exact ⟨rfl, rfl⟩ | exact rfl))
                  clear hK K)))
        refine QC.wpC_nil ?_
        go_wp2
        go_loopg [14] 4 (fun m2 j v => ∃ k2 : Nat, m2 + k2 = 4 ∧ j = .int .i64 k2 ∧ LW n w b S' [(g6, 96, RC s1 tv' S'.h dv1)] O' v)
        case atStart => exact ⟨0, rfl, rfl, LW9.out⟩
        case round =>
          clear LW9
          obtain ⟨k2, hk2, rfl, lwr⟩ := hrel
          have HK2 := Lib.hid hk2
          clear hk2
          by_cases hlt2 : k2 < 4
          · have HLT2 := Lib.hid hlt2
            have LWR := Lib.hid lwr
            have i2 : ((k2 : Nat) : Int) < 4 := by omega
            have i3 : (0 : Int) ≤ (k2 : Nat) := by omega
            have wk2 : IntKind.i64.wrap ((k2 : Int) + 1) = (k2 : Int) + 1 := IntWalk.i64_in _ (by omega)
            clear lwr hlt2
            go_wp2
            refine QC.wp_region_d [2] [0, 1, 3, 4, 5, 6, 2, 7] (by kernel_rfl) (by kernel_rfl) (fun u d => ?_)
            have lwu := LWR.out.dr d
            have c66 := ((lwu.rows (g6, 96, RC s1 tv' S'.h dv1) (by simp)).cell (66 + k2)).trans (RC_h _ _ _ _ HLT2.out)
            have HOL := Lib.hid (lw_holder lwu (k2 : Nat))
            rw [show hold S'.h ((k2 : Nat) : Int) = S'.h k2 from by unfold hold; rw [if_pos ⟨by omega, i2⟩, Int.toNat_natCast]] at HOL
            have LWU := Lib.hid lwu
            clear d lwu LWR
            iterate 6
              (first
               | (apply QC.wpC_load
                  (focus rfl)
                  (focus decide)
                  (focus rfl)
                  (focus rfl)
                  (focus rfl)
                  (focus (assumption))
                  (focus (intro u hu; go_simp))
                  intro K hK
                  go_simp
                  refine hK _ ?_
                  clear hK K)
               | (apply QC.wpC_pure
                  (focus rfl)
                  (focus decide)
                  intro K hK
                  go_simp
                  first
                   | (refine hK _ ?_; clear hK K)
                   | (apply Exists.intro
                      refine ⟨fun u => ?_, hK _ ?_⟩
                      (focus (unfold QP.oat; go_simp; first | done | exact ⟨rfl, rfl⟩ | exact rfl))
                      clear hK K)))
            apply QC.wpC_eff
            (focus rfl)
            (focus decide)
            go_wp2_with fail
            refine (HOL.out).mono ?_
            rintro e u2 ⟨rfl, rfl⟩
            clear HOL
            go_wp2
            refine QC.eff_ok rfl ?_ ?_
            · (repeat (first | exact QC.obl_nil | refine QC.obl_is (by assumption) ?_ | (apply QC.obl_dep; (focus decide))))
            iterate 1
              (first
               | (apply QC.wpC_load
                  (focus rfl)
                  (focus decide)
                  (focus rfl)
                  (focus rfl)
                  (focus rfl)
                  (focus (assumption))
                  (focus (intro u hu; go_simp))
                  intro K hK
                  go_simp
                  refine hK _ ?_
                  clear hK K)
               | (apply QC.wpC_pure
                  (focus rfl)
                  (focus decide)
                  intro K hK
                  go_simp
                  first
                   | (refine hK _ ?_; clear hK K)
                   | (apply Exists.intro
                      refine ⟨fun u => ?_, hK _ ?_⟩
                      (focus (unfold QP.oat; go_simp; first | done | exact ⟨rfl, rfl⟩ | exact rfl))
                      clear hK K)))
            refine QC.wpC_nil ?_
            go_wp2
            go_roundg (4 - (k2 + 1))
            case measure => have := HK2.out; have := HLT2.out; omega
            case rel => exact ⟨k2 + 1, by have := HK2.out; have := HLT2.out; omega, by go_num, LWU.out⟩
          · obtain rfl : k2 = 4 := by have := HK2.out; omega
            have i2 : ¬ (((4 : Nat) : Int) < 4) := by decide
            have LWR := Lib.hid lwr
            clear lwr hlt2
            go_wp2
            go_roundg (m - (k + 1))
            case measure => have := HK.out; have := HLT.out; omega
            case rel => exact ⟨k + 1, S', s1, tv', dv1, O', by have := HK.out; have := HLT.out; omega, by go_num, LWR.out, RB6.out, GD6.out, SN6.out⟩
      · have e0 : (K == 0) = false := by simpa using q0
        by_cases q1 : K = 1
        · subst q1
          have ST := Lib.hid (lw_list LWN.out)
          go_wp2_with fail
          rw [HGX.out]
          refine (ST.out).mono ?_
          rintro e w4 ⟨rfl, lw4⟩
          have DO4 := Lib.hid (show S.doA ⟨1, xa, xb, y⟩ = S.list.1 from rfl)
          have NN := Lib.hid (show S.list.1.n = S.n from by rw [← DO4.out]; exact doA_n _ _)
          have RS := Lib.hid (rlist_any lw4 RB.out OKk.out.t32)
          generalize hS' : S.list = r at *
          obtain ⟨S', r1, r2⟩ := r
          simp only at lw4 DO4 NN
          rw [DO4.out] at DOK DGD
          have rR4 := lw4.rows (g6, 96, RC s tv S.h dv) (by simp)
          have rX4 := lw4.rows (gx, 84, _) List.mem_cons_self
          have x0 := (rX4.cell 0).trans rfl; have x1 := (rX4.cell 1).trans rfl; have x2 := (rX4.cell 2).trans rfl; have x3 := (rX4.cell 3).trans rfl
          obtain ⟨R, hR⟩ : ∃ R, RC s tv S.h dv = R := ⟨_, rfl⟩
          rw [hR] at RS rR4 iR
          have RSZ := Lib.hid (show R.size = 71 from by rw [← hR]; exact RC_size _ _ _ _)
          have HR := Lib.hid hR
          clear c0 c1 c2 c3 hS' ST LWN lw4 rX4 hR HGX
          go_wp2_with (first | (refine wpList_load_row (x := .tmp 6) (ty := 96) (g := g6) (cs := R) (t := 96) (fr := (0, 0)) ?_ ?_ ?_ _ rR4 Try.underlying96 rfl iR ?_; rfl; rfl; rfl) | fail)
          refine (RS.out).mono ?_
          rintro e w5 ⟨tv', O', rfl, lw5, rb5⟩
          have lw5 := lw5.sub (L' := [(g6, 96, R)]) (fun x hx => List.mem_cons_of_mem _ hx) (fun o ho => ho)
          have rR5 := lw5.rows (g6, 96, R) (by simp)
          obtain ⟨s1, hs1⟩ : ∃ s1, s1 = s := ⟨_, rfl⟩
          rw [← hs1] at rb5
          obtain ⟨dv1, hdv1⟩ : ∃ dv1, dv1 = dv := ⟨_, rfl⟩
          rw [← hdv1] at rb5
          have lw6 := lw5.setRow (RC s1 tv' S'.h dv1) (fun x hx => by cases hx) rb5.no96
          have oR' := rb5.ones
          have iR' := info96 s1 tv' dv1 S'.h
          have zR' : R.size = (RC s1 tv' S'.h dv1).size := by rw [RSZ.out, RC_size]
          obtain ⟨w6, hw6⟩ : ∃ w6, w5.setRow g6 (RC s1 tv' S'.h dv1) = w6 := ⟨_, rfl⟩
          rw [hw6] at lw6
          have LW6 := Lib.hid lw6; have RB6 := Lib.hid rb5; have HW6 := Lib.hid hw6
          have GD6 := Lib.hid DGD.out; have SN6 := Lib.hid (NN.out.trans SN.out)
          rw [← hs1, ← hdv1]
          obtain ⟨R', hR'⟩ : ∃ R', RC s1 tv' S'.h dv1 = R' := ⟨_, rfl⟩
          have HW6 : Hid (w5.setRow g6 R' = w6) := Lib.hid (by rw [← hR']; exact HW6.out)
          rw [hR'] at oR' iR' zR'
          simp only [hR']
          clear RS lw5 lw6 rb5 hw6 hs1 hdv1 x0 x1 x2 x3 rR4 RSZ HR hR'
          go_wp2_with (first | (refine wpList_store_row (x := .tmp 6) (y := .tmp 104) (cells := R') (old := R) (t := 96) (ty := 96) (g := g6) ?_ ?_ ?_ ?_ rR5 iR' zR' oR' ?_; rfl; rfl; rfl; rfl) | (rw [HW6.out]))
          clear rR5 iR' zR' oR' HW6 iR
          go_wp2
          refine QC.wp_region_d [10, 13] [0, 1, 2, 3, 4, 5, 6, 7, 8, 9, 11, 12, 10, 13, 14, 15] (by kernel_rfl) (by kernel_rfl) (fun u d => ?_)
          have lwu := LW6.out.dr d
          obtain ⟨da2, dc2, hdv⟩ := RB6.out.df
          have c70 := ((lwu.rows (g6, 96, RC s1 tv' S'.h dv1) (by simp)).cell 70).trans (RC_D _ _ _ _)
          rw [hdv] at c70
          have DN := Lib.hid (lw_done lwu)
          have D32 := Lib.hid (show S'.dn.length ≤ 1000 by have := lwu.ok.dnlen; have := lwu.ok.t32; omega)
          have DVM := Lib.hid (show OwV (.slice da2 S'.dn.length dc2) S'.dn ∈ O' from hdv ▸ RB6.out.dn)
          have HDQ := Lib.hid hdv
          clear d lwu hdv
          iterate 12
            (first
             | (apply QC.wpC_load
                (focus rfl)
                (focus decide)
                (focus rfl)
                (focus rfl)
                (focus rfl)
                (focus (assumption))
                (focus (intro u hu; go_simp))
                intro K hK
                go_simp
                refine hK _ ?_
                clear hK K)
             | (apply QC.wpC_pure
                (focus rfl)
                (focus decide)
                intro K hK
                go_simp
                first
                 | (refine hK _ ?_; clear hK K)
                 | (apply Exists.intro
                    refine ⟨fun u => ?_, hK _ ?_⟩
                    (focus (unfold QP.oat; go_simp; first | done | exact ⟨rfl, rfl⟩ | exact rfl))
                    clear hK K)))
          apply QC.wpC_eff
          (focus rfl)
          (focus decide)
          go_wp2_with fail
          refine (DN.out).mono ?_
          rintro e u2 ⟨da, dc, rfl, lw8⟩
          obtain ⟨da3, dc3, hdv⟩ := RB6.out.df
          have c70b := ((lw8.rows (g6, 96, RC s1 tv' S'.h dv1) (by simp)).cell 70).trans (RC_D _ _ _ _)
          rw [hdv] at c70b
          have hdd : da3 = da2 ∧ dc3 = dc2 := by have e := HDQ.out.symm.trans hdv; injection e with e1 e2 e3; exact ⟨e1.symm, e3.symm⟩
          obtain ⟨rfl, rfl⟩ := hdd
          have SM := Lib.hid (lw_samei lw8 (a1 := da) (c1 := dc) (a2 := da3) (c2 := dc3) (l := S'.dn) List.mem_cons_self (List.mem_cons_of_mem _ DVM.out) D32.out)
          clear DN lw8 hdv c70 HDQ
          go_wp2
          refine QC.eff_ok rfl ?_ ?_
          · (repeat (first | exact QC.obl_nil | refine QC.obl_is (by assumption) ?_ | (apply QC.obl_dep; (focus decide))))
          apply QC.wpC_eff
          (focus rfl)
          (focus decide)
          go_wp2_with fail
          refine (SM.out).mono ?_
          rintro e u3 ⟨rfl, lw9⟩
          have LW9 := Lib.hid (lw9.sub (L' := [(g6, 96, RC s1 tv' S'.h dv1)]) (O' := O') (fun x hx => hx) (fun o ho => List.mem_cons_of_mem _ ho))
          clear SM lw9 c70b D32 DVM LW6
          go_wp2
          refine QC.eff_ok rfl ?_ ?_
          · (repeat (first | exact QC.obl_nil | refine QC.obl_is (by assumption) ?_ | (apply QC.obl_dep; (focus decide))))
          iterate 2
            (first
             | (apply QC.wpC_load
                (focus rfl)
                (focus decide)
                (focus rfl)
                (focus rfl)
                (focus rfl)
                (focus (assumption))
                (focus (intro u hu; go_simp))
                intro K hK
                go_simp
                refine hK _ ?_
                clear hK K)
             | (apply QC.wpC_pure
                (focus rfl)
                (focus decide)
                intro K hK
                go_simp
                first
                 | (refine hK _ ?_; clear hK K)
                 | (apply Exists.intro
                    refine ⟨fun u => ?_, hK _ ?_⟩
                    (focus (unfold QP.oat; go_simp; first | done | exact ⟨rfl, rfl⟩ | exact rfl))
                    clear hK K)))
          refine QC.wpC_nil ?_
          go_wp2
          go_loopg [14] 4 (fun m2 j v => ∃ k2 : Nat, m2 + k2 = 4 ∧ j = .int .i64 k2 ∧ LW n w b S' [(g6, 96, RC s1 tv' S'.h dv1)] O' v)
          case atStart => exact ⟨0, rfl, rfl, LW9.out⟩
          case round =>
            clear LW9
            obtain ⟨k2, hk2, rfl, lwr⟩ := hrel
            have HK2 := Lib.hid hk2
            clear hk2
            by_cases hlt2 : k2 < 4
            · have HLT2 := Lib.hid hlt2
              have LWR := Lib.hid lwr
              have i2 : ((k2 : Nat) : Int) < 4 := by omega
              have i3 : (0 : Int) ≤ (k2 : Nat) := by omega
              have wk2 : IntKind.i64.wrap ((k2 : Int) + 1) = (k2 : Int) + 1 := IntWalk.i64_in _ (by omega)
              clear lwr hlt2
              go_wp2
              refine QC.wp_region_d [2] [0, 1, 3, 4, 5, 6, 2, 7] (by kernel_rfl) (by kernel_rfl) (fun u d => ?_)
              have lwu := LWR.out.dr d
              have c66 := ((lwu.rows (g6, 96, RC s1 tv' S'.h dv1) (by simp)).cell (66 + k2)).trans (RC_h _ _ _ _ HLT2.out)
              have HOL := Lib.hid (lw_holder lwu (k2 : Nat))
              rw [show hold S'.h ((k2 : Nat) : Int) = S'.h k2 from by unfold hold; rw [if_pos ⟨by omega, i2⟩, Int.toNat_natCast]] at HOL
              have LWU := Lib.hid lwu
              clear d lwu LWR
              iterate 6
                (first
                 | (apply QC.wpC_load
                    (focus rfl)
                    (focus decide)
                    (focus rfl)
                    (focus rfl)
                    (focus rfl)
                    (focus (assumption))
                    (focus (intro u hu; go_simp))
                    intro K hK
                    go_simp
                    refine hK _ ?_
                    clear hK K)
                 | (apply QC.wpC_pure
                    (focus rfl)
                    (focus decide)
                    intro K hK
                    go_simp
                    first
                     | (refine hK _ ?_; clear hK K)
                     | (apply Exists.intro
                        refine ⟨fun u => ?_, hK _ ?_⟩
                        (focus (unfold QP.oat; go_simp; first | done | exact ⟨rfl, rfl⟩ | exact rfl))
                        clear hK K)))
              apply QC.wpC_eff
              (focus rfl)
              (focus decide)
              go_wp2_with fail
              refine (HOL.out).mono ?_
              rintro e u2 ⟨rfl, rfl⟩
              clear HOL
              go_wp2
              refine QC.eff_ok rfl ?_ ?_
              · (repeat (first | exact QC.obl_nil | refine QC.obl_is (by assumption) ?_ | (apply QC.obl_dep; (focus decide))))
              iterate 1
                (first
                 | (apply QC.wpC_load
                    (focus rfl)
                    (focus decide)
                    (focus rfl)
                    (focus rfl)
                    (focus rfl)
                    (focus (assumption))
                    (focus (intro u hu; go_simp))
                    intro K hK
                    go_simp
                    refine hK _ ?_
                    clear hK K)
                 | (apply QC.wpC_pure
                    (focus rfl)
                    (focus decide)
                    intro K hK
                    go_simp
                    first
                     | (refine hK _ ?_; clear hK K)
                     | (apply Exists.intro
                        refine ⟨fun u => ?_, hK _ ?_⟩
                        (focus (unfold QP.oat; go_simp; first | done | exact ⟨rfl, rfl⟩ | exact rfl))
                        clear hK K)))
              refine QC.wpC_nil ?_
              go_wp2
              go_roundg (4 - (k2 + 1))
              case measure => have := HK2.out; have := HLT2.out; omega
              case rel => exact ⟨k2 + 1, by have := HK2.out; have := HLT2.out; omega, by go_num, LWU.out⟩
            · obtain rfl : k2 = 4 := by have := HK2.out; omega
              have i2 : ¬ (((4 : Nat) : Int) < 4) := by decide
              have LWR := Lib.hid lwr
              clear lwr hlt2
              go_wp2
              go_roundg (m - (k + 1))
              case measure => have := HK.out; have := HLT.out; omega
              case rel => exact ⟨k + 1, S', s1, tv', dv1, O', by have := HK.out; have := HLT.out; omega, by go_num, LWR.out, RB6.out, GD6.out, SN6.out⟩
        · have e1 : (K == 1) = false := by simpa using q1
          have ST := Lib.hid (lw_step LWN.out xa)
          go_wp2_with fail
          rw [HGX.out]
          refine (ST.out).mono ?_
          rintro e w4 ⟨rfl, lw4⟩
          have DO4 := Lib.hid (show S.doA ⟨K, xa, xb, y⟩ = (S.step xa).1 from by unfold BS.doA; simp only; rw [if_neg q0, if_neg q1])
          have NN := Lib.hid (show (S.step xa).1.n = S.n from by rw [← DO4.out]; exact doA_n _ _)
          have RS := Lib.hid (rstep_any lw4 RB.out OKk.out (fun x hx => by
            simp only [List.mem_cons, List.not_mem_nil, or_false] at hx
            rcases hx with rfl | rfl
            · show (84 : Nat) ≠ 107; decide
            · show (96 : Nat) ≠ 107; decide) GD.out.wh MX.out xa)
          generalize hS' : S.step xa = r at *
          obtain ⟨S', r2⟩ := r
          simp only at lw4 DO4 NN
          rw [DO4.out] at DOK DGD
          have rR4 := lw4.rows (g6, 96, RC s tv S.h dv) (by simp)
          have rX4 := lw4.rows (gx, 84, _) List.mem_cons_self
          have x0 := (rX4.cell 0).trans rfl; have x1 := (rX4.cell 1).trans rfl; have x2 := (rX4.cell 2).trans rfl; have x3 := (rX4.cell 3).trans rfl
          obtain ⟨R, hR⟩ : ∃ R, RC s tv S.h dv = R := ⟨_, rfl⟩
          rw [hR] at RS rR4 iR
          have RSZ := Lib.hid (show R.size = 71 from by rw [← hR]; exact RC_size _ _ _ _)
          have HR := Lib.hid hR
          clear c0 c1 c2 c3 hS' ST LWN lw4 rX4 hR HGX
          go_wp2_with (first | (refine wpList_load_row (x := .tmp 6) (ty := 96) (g := g6) (cs := R) (t := 96) (fr := (0, 0)) ?_ ?_ ?_ _ rR4 Try.underlying96 rfl iR ?_; rfl; rfl; rfl) | fail)
          refine (RS.out).mono ?_
          rintro e w5 ⟨s', tv', dv', O', rfl, lw5, rb5⟩
          have lw5 := lw5.sub (L' := [(g6, 96, R)]) (fun x hx => List.mem_cons_of_mem _ hx) (fun o ho => ho)
          have rR5 := lw5.rows (g6, 96, R) (by simp)
          obtain ⟨s1, hs1⟩ : ∃ s1, s1 = s' := ⟨_, rfl⟩
          rw [← hs1] at rb5
          obtain ⟨dv1, hdv1⟩ : ∃ dv1, dv1 = dv' := ⟨_, rfl⟩
          rw [← hdv1] at rb5
          have lw6 := lw5.setRow (RC s1 tv' S'.h dv1) (fun x hx => by cases hx) rb5.no96
          have oR' := rb5.ones
          have iR' := info96 s1 tv' dv1 S'.h
          have zR' : R.size = (RC s1 tv' S'.h dv1).size := by rw [RSZ.out, RC_size]
          obtain ⟨w6, hw6⟩ : ∃ w6, w5.setRow g6 (RC s1 tv' S'.h dv1) = w6 := ⟨_, rfl⟩
          rw [hw6] at lw6
          have LW6 := Lib.hid lw6; have RB6 := Lib.hid rb5; have HW6 := Lib.hid hw6
          have GD6 := Lib.hid DGD.out; have SN6 := Lib.hid (NN.out.trans SN.out)
          rw [← hs1, ← hdv1]
          obtain ⟨R', hR'⟩ : ∃ R', RC s1 tv' S'.h dv1 = R' := ⟨_, rfl⟩
          have HW6 : Hid (w5.setRow g6 R' = w6) := Lib.hid (by rw [← hR']; exact HW6.out)
          rw [hR'] at oR' iR' zR'
          simp only [hR']
          clear RS lw5 lw6 rb5 hw6 hs1 hdv1 x0 x1 x2 x3 rR4 RSZ HR hR'
          go_wp2_with (first | (refine wpList_store_row (x := .tmp 6) (y := .tmp 67) (cells := R') (old := R) (t := 96) (ty := 96) (g := g6) ?_ ?_ ?_ ?_ rR5 iR' zR' oR' ?_; rfl; rfl; rfl; rfl) | (rw [HW6.out]))
          clear rR5 iR' zR' oR' HW6 iR
          go_wp2
          refine QC.wp_region_d [10, 13] [0, 1, 2, 3, 4, 5, 6, 7, 8, 9, 11, 12, 10, 13, 14, 15] (by kernel_rfl) (by kernel_rfl) (fun u d => ?_)
          have lwu := LW6.out.dr d
          obtain ⟨da2, dc2, hdv⟩ := RB6.out.df
          have c70 := ((lwu.rows (g6, 96, RC s1 tv' S'.h dv1) (by simp)).cell 70).trans (RC_D _ _ _ _)
          rw [hdv] at c70
          have DN := Lib.hid (lw_done lwu)
          have D32 := Lib.hid (show S'.dn.length ≤ 1000 by have := lwu.ok.dnlen; have := lwu.ok.t32; omega)
          have DVM := Lib.hid (show OwV (.slice da2 S'.dn.length dc2) S'.dn ∈ O' from hdv ▸ RB6.out.dn)
          have HDQ := Lib.hid hdv
          clear d lwu hdv
          iterate 12
            (first
             | (apply QC.wpC_load
                (focus rfl)
                (focus decide)
                (focus rfl)
                (focus rfl)
                (focus rfl)
                (focus (assumption))
                (focus (intro u hu; go_simp))
                intro K hK
                go_simp
                refine hK _ ?_
                clear hK K)
             | (apply QC.wpC_pure
                (focus rfl)
                (focus decide)
                intro K hK
                go_simp
                first
                 | (refine hK _ ?_; clear hK K)
                 | (apply Exists.intro
                    refine ⟨fun u => ?_, hK _ ?_⟩
                    (focus (unfold QP.oat; go_simp; first | done | exact ⟨rfl, rfl⟩ | exact rfl))
                    clear hK K)))
          apply QC.wpC_eff
          (focus rfl)
          (focus decide)
          go_wp2_with fail
          refine (DN.out).mono ?_
          rintro e u2 ⟨da, dc, rfl, lw8⟩
          obtain ⟨da3, dc3, hdv⟩ := RB6.out.df
          have c70b := ((lw8.rows (g6, 96, RC s1 tv' S'.h dv1) (by simp)).cell 70).trans (RC_D _ _ _ _)
          rw [hdv] at c70b
          have hdd : da3 = da2 ∧ dc3 = dc2 := by have e := HDQ.out.symm.trans hdv; injection e with e1 e2 e3; exact ⟨e1.symm, e3.symm⟩
          obtain ⟨rfl, rfl⟩ := hdd
          have SM := Lib.hid (lw_samei lw8 (a1 := da) (c1 := dc) (a2 := da3) (c2 := dc3) (l := S'.dn) List.mem_cons_self (List.mem_cons_of_mem _ DVM.out) D32.out)
          clear DN lw8 hdv c70 HDQ
          go_wp2
          refine QC.eff_ok rfl ?_ ?_
          · (repeat (first | exact QC.obl_nil | refine QC.obl_is (by assumption) ?_ | (apply QC.obl_dep; (focus decide))))
          apply QC.wpC_eff
          (focus rfl)
          (focus decide)
          go_wp2_with fail
          refine (SM.out).mono ?_
          rintro e u3 ⟨rfl, lw9⟩
          have LW9 := Lib.hid (lw9.sub (L' := [(g6, 96, RC s1 tv' S'.h dv1)]) (O' := O') (fun x hx => hx) (fun o ho => List.mem_cons_of_mem _ ho))
          clear SM lw9 c70b D32 DVM LW6
          go_wp2
          refine QC.eff_ok rfl ?_ ?_
          · (repeat (first | exact QC.obl_nil | refine QC.obl_is (by assumption) ?_ | (apply QC.obl_dep; (focus decide))))
          iterate 2
            (first
             | (apply QC.wpC_load
                (focus rfl)
                (focus decide)
                (focus rfl)
                (focus rfl)
                (focus rfl)
                (focus (assumption))
                (focus (intro u hu; go_simp))
                intro K hK
                go_simp
                refine hK _ ?_
                clear hK K)
             | (apply QC.wpC_pure
                (focus rfl)
                (focus decide)
                intro K hK
                go_simp
                first
                 | (refine hK _ ?_; clear hK K)
                 | (apply Exists.intro
                    refine ⟨fun u => ?_, hK _ ?_⟩
                    (focus (unfold QP.oat; go_simp; first | done | exact ⟨rfl, rfl⟩ | exact rfl))
                    clear hK K)))
          refine QC.wpC_nil ?_
          go_wp2
          go_loopg [14] 4 (fun m2 j v => ∃ k2 : Nat, m2 + k2 = 4 ∧ j = .int .i64 k2 ∧ LW n w b S' [(g6, 96, RC s1 tv' S'.h dv1)] O' v)
          case atStart => exact ⟨0, rfl, rfl, LW9.out⟩
          case round =>
            clear LW9
            obtain ⟨k2, hk2, rfl, lwr⟩ := hrel
            have HK2 := Lib.hid hk2
            clear hk2
            by_cases hlt2 : k2 < 4
            · have HLT2 := Lib.hid hlt2
              have LWR := Lib.hid lwr
              have i2 : ((k2 : Nat) : Int) < 4 := by omega
              have i3 : (0 : Int) ≤ (k2 : Nat) := by omega
              have wk2 : IntKind.i64.wrap ((k2 : Int) + 1) = (k2 : Int) + 1 := IntWalk.i64_in _ (by omega)
              clear lwr hlt2
              go_wp2
              refine QC.wp_region_d [2] [0, 1, 3, 4, 5, 6, 2, 7] (by kernel_rfl) (by kernel_rfl) (fun u d => ?_)
              have lwu := LWR.out.dr d
              have c66 := ((lwu.rows (g6, 96, RC s1 tv' S'.h dv1) (by simp)).cell (66 + k2)).trans (RC_h _ _ _ _ HLT2.out)
              have HOL := Lib.hid (lw_holder lwu (k2 : Nat))
              rw [show hold S'.h ((k2 : Nat) : Int) = S'.h k2 from by unfold hold; rw [if_pos ⟨by omega, i2⟩, Int.toNat_natCast]] at HOL
              have LWU := Lib.hid lwu
              clear d lwu LWR
              iterate 6
                (first
                 | (apply QC.wpC_load
                    (focus rfl)
                    (focus decide)
                    (focus rfl)
                    (focus rfl)
                    (focus rfl)
                    (focus (assumption))
                    (focus (intro u hu; go_simp))
                    intro K hK
                    go_simp
                    refine hK _ ?_
                    clear hK K)
                 | (apply QC.wpC_pure
                    (focus rfl)
                    (focus decide)
                    intro K hK
                    go_simp
                    first
                     | (refine hK _ ?_; clear hK K)
                     | (apply Exists.intro
                        refine ⟨fun u => ?_, hK _ ?_⟩
                        (focus (unfold QP.oat; go_simp; first | done | exact ⟨rfl, rfl⟩ | exact rfl))
                        clear hK K)))
              apply QC.wpC_eff
              (focus rfl)
              (focus decide)
              go_wp2_with fail
              refine (HOL.out).mono ?_
              rintro e u2 ⟨rfl, rfl⟩
              clear HOL
              go_wp2
              refine QC.eff_ok rfl ?_ ?_
              · (repeat (first | exact QC.obl_nil | refine QC.obl_is (by assumption) ?_ | (apply QC.obl_dep; (focus decide))))
              iterate 1
                (first
                 | (apply QC.wpC_load
                    (focus rfl)
                    (focus decide)
                    (focus rfl)
                    (focus rfl)
                    (focus rfl)
                    (focus (assumption))
                    (focus (intro u hu; go_simp))
                    intro K hK
                    go_simp
                    refine hK _ ?_
                    clear hK K)
                 | (apply QC.wpC_pure
                    (focus rfl)
                    (focus decide)
                    intro K hK
                    go_simp
                    first
                     | (refine hK _ ?_; clear hK K)
                     | (apply Exists.intro
                        refine ⟨fun u => ?_, hK _ ?_⟩
                        (focus (unfold QP.oat; go_simp; first | done | exact ⟨rfl, rfl⟩ | exact rfl))
                        clear hK K)))
              refine QC.wpC_nil ?_
              go_wp2
              go_roundg (4 - (k2 + 1))
              case measure => have := HK2.out; have := HLT2.out; omega
              case rel => exact ⟨k2 + 1, by have := HK2.out; have := HLT2.out; omega, by go_num, LWU.out⟩
            · obtain rfl : k2 = 4 := by have := HK2.out; omega
              have i2 : ¬ (((4 : Nat) : Int) < 4) := by decide
              have LWR := Lib.hid lwr
              clear lwr hlt2
              go_wp2
              go_roundg (m - (k + 1))
              case measure => have := HK.out; have := HLT.out; omega
              case rel => exact ⟨k + 1, S', s1, tv', dv1, O', by have := HK.out; have := HLT.out; omega, by go_num, LWR.out, RB6.out, GD6.out, SN6.out⟩
    · obtain rfl : k = m := by have := HK.out; omega
      have LWF := Lib.hid lw
      have OKk := Lib.hid lw.ok
      obtain ⟨us, hus, hOT, htold⟩ := RB.out.ts
      obtain ⟨ta, tc, htv⟩ := RB.out.tf
      obtain ⟨sa, sc, hsv⟩ := RB.out.sf
      obtain ⟨TL, hTL⟩ : ∃ TL, S.tl.length = TL := ⟨_, rfl⟩
      have HTL := Lib.hid hTL
      have T32 := Lib.hid (show TL ≤ 32 from by rw [← hTL]; exact lw.ok.t32)
      have c65q : ∀ (O2 : List Ow) (u : World), LW n w b S [(g6, 96, RC s tv S.h dv)] O2 u → u.cell? ⟨g6, 65, none⟩ = some (.slice ta TL tc) := fun O2 u lw => by
        have h := ((lw.rows (g6, 96, RC s tv S.h dv) (by simp)).cell 65).trans (RC_T _ _ _ _)
        rw [htv, hTL] at h; exact h
      have c0q : ∀ (O2 : List Ow) (u : World), LW n w b S [(g6, 96, RC s tv S.h dv)] O2 u → u.cell? ⟨g6, 0, none⟩ = some (.slice sa S.n sc) := fun O2 u lw => by
        have h := ((lw.rows (g6, 96, RC s tv S.h dv) (by simp)).cell 0).trans (RC_0 _ _ _ _)
        rw [hsv] at h; exact h
      have TCQ := Lib.hid (fun (j : Nat) (T : Tsk) (hT : S.tl[j]? = some T) => show ∃ tg a c, ta = some ⟨tg, 0, none⟩ ∧ (⟨23, 1, .slice a T.told.length c, T.told.length, T.told.map (Value.int .u64)⟩ : Ow) ∈ O ∧ ∀ (O2 : List Ow) (u : World), (∀ o ∈ O, o ∈ O2) → LW n w b S [(g6, 96, RC s tv S.h dv)] O2 u → u.cell? ⟨tg, j * 12 + 8, none⟩ = some (.bool (decide (T.m < T.k))) ∧ u.cell? ⟨tg, j * 12 + 10, none⟩ = some (.int .i64 T.er) ∧ u.cell? ⟨tg, j * 12 + 11, none⟩ = some (.slice a T.told.length c) from by
        obtain ⟨tg, tc2, u0, e1, hu0, tcl⟩ := LWF.out.tc hOT hus hT
        obtain ⟨a, c, e2, e3⟩ := htold j T u0 hT hu0
        refine ⟨tg, a, c, by rw [htv] at e1; injection e1, by rw [← e2]; exact e3, fun O2 u hO lw2 => ?_⟩
        obtain ⟨tg', tc3, u1, e4, hu1, tcl2⟩ := lw2.tc (hO _ hOT) hus hT
        have e5 : tg' = tg := by have h := congrArg Value.ownBlock (e4.symm.trans e1); simpa [Value.ownBlock] using h
        have e6 : u1 = u0 := Option.some.inj (hu1.symm.trans hu0)
        subst e5; subst e6
        exact ⟨tcl2 8 _ rfl, tcl2 10 _ rfl, by rw [← e2]; exact tcl2 11 _ rfl⟩)
      have C65Q := Lib.hid c65q; have C0Q := Lib.hid c0q
      have BAL := Lib.hid (show OwP (.slice sa S.n sc) S.n S.f ∈ O from hsv ▸ RB.out.bal)
      have i1 : ¬ ((k : Nat) : Int) < (k : Nat) := by omega
      clear hlt lw hus hOT htold htv hsv hTL c65q c0q
      go_wp2
      go_loopg [15] TL (fun mm i v => ∃ j : Nat, mm + j = TL ∧ i = .int .i64 j ∧ LW n w b S [(g6, 96, RC s tv S.h dv)] O v)
      case atStart => exact ⟨0, by omega, rfl, LWF.out⟩
      case round =>
        clear LWF
        obtain ⟨j, hj, rfl, lwr⟩ := hrel
        have HJ := Lib.hid hj
        have LWR := Lib.hid lwr
        have c65 := C65Q.out _ _ lwr
        clear hj lwr
        by_cases hlt : j < TL
        · have HLT := Lib.hid hlt
          obtain ⟨T, hT⟩ : ∃ T, S.tl[j]? = some T := ⟨_, List.getElem?_eq_getElem (by have := HTL.out; omega)⟩
          have HT := Lib.hid hT
          have RES := Lib.hid (lw_result LWR.out (j : Nat))
          rw [res_eq OKk.out hT] at RES
          have i2 : ((j : Nat) : Int) < (TL : Nat) := by omega
          have i3 : (0 : Int) ≤ (j : Nat) := by omega
          have dj : decide (((TL : Nat) : Int) ≤ (j : Nat)) = false := by simp; omega
          have wj : IntKind.i64.wrap ((j : Int) + 1) = (j : Int) + 1 := IntWalk.i64_in _ (by have := T32.out; omega)
          obtain ⟨tg, a2, c2, hta, hmem, hq⟩ := TCQ.out j T hT
          subst hta
          have HQ := Lib.hid hq; have MEM := Lib.hid hmem
          clear hlt hT hq hmem
          go_wp2_with fail
          refine (RES.out).mono ?_
          rintro e w7 ⟨rfl, rfl⟩
          clear RES
          obtain ⟨ac, hac⟩ : ∃ ac, decide (T.m < T.k) = ac := ⟨_, rfl⟩
          rw [hac] at HQ ⊢
          clear hac
          go_wp2
          refine QC.wp_region_d [21, 28] [0, 1, 2, 3, 4, 5, 6, 7, 8, 9, 10, 11, 12, 13, 14, 15, 16, 17, 18, 19, 20, 22, 23, 24, 25, 26, 27, 21, 28, 29, 30] (by kernel_rfl) (by kernel_rfl) (fun u d => ?_)
          clear c65
          have lwu := LWR.out.dr d
          have c65 := C65Q.out _ _ lwu
          obtain ⟨c8, c10, c11⟩ := HQ.out O u (fun o ho => ho) lwu
          have TO := Lib.hid (lw_told lwu (j : Nat))
          rw [show S.toldOf (j : Int) = T.told from toldOf_at HT.out] at TO
          clear d lwu LWR
          iterate 27
            (first
             | (apply QC.wpC_load
                (focus rfl)
                (focus decide)
                (focus rfl)
                (focus rfl)
                (focus rfl)
                (focus (assumption))
                (focus (intro u hu; go_simp))
                intro K hK
                go_simp
                refine hK _ ?_
                clear hK K)
             | (apply QC.wpC_pure
                (focus rfl)
                (focus decide)
                intro K hK
                go_simp
                first
                 | (refine hK _ ?_; clear hK K)
                 | (apply Exists.intro
                    refine ⟨fun u => ?_, hK _ ?_⟩
                    (focus (unfold QP.oat; go_simp; first | done | exact ⟨rfl, rfl⟩ | exact rfl))
                    clear hK K)))
          apply QC.wpC_eff
          (focus rfl)
          (focus decide)
          go_wp2_with fail
          refine (TO.out).mono ?_
          rintro e u2 ⟨ta2, tc2, rfl, lw8⟩
          have c65b := C65Q.out _ _ lw8
          obtain ⟨c8b, c10b, c11b⟩ := HQ.out _ u2 (fun o ho => List.mem_cons_of_mem _ ho) lw8
          have t32 := OKk.out.tn j T HT.out
          have SM := Lib.hid (lw_same (m := T.told.length) (f := fun i => T.told.getD i 0) (a1 := ta2) (c1 := tc2) (a2 := a2) (c2 := c2) lw8 (by rw [← vals_zs rfl]; exact List.mem_cons_self) (by rw [← vals_zs rfl]; exact List.mem_cons_of_mem _ MEM.out) (by omega))
          clear TO lw8 c65 c8 c10 c11 t32
          go_wp2
          refine QC.eff_ok rfl ?_ ?_
          · (repeat (first | exact QC.obl_nil | refine QC.obl_is (by assumption) ?_ | (apply QC.obl_dep; (focus decide))))
          apply QC.wpC_eff
          (focus rfl)
          (focus decide)
          go_wp2_with fail
          refine (SM.out).mono ?_
          rintro e u3 ⟨rfl, lw9⟩
          have LW9 := Lib.hid (lw9.sub (L' := [(g6, 96, RC s tv S.h dv)]) (O' := O) (fun x hx => hx) (fun o ho => List.mem_cons_of_mem _ ho))
          clear SM lw9 c65b c8b c10b c11b
          go_wp2
          refine QC.eff_ok rfl ?_ ?_
          · (repeat (first | exact QC.obl_nil | refine QC.obl_is (by assumption) ?_ | (apply QC.obl_dep; (focus decide))))
          iterate 2
            (first
             | (apply QC.wpC_load
                (focus rfl)
                (focus decide)
                (focus rfl)
                (focus rfl)
                (focus rfl)
                (focus (assumption))
                (focus (intro u hu; go_simp))
                intro K hK
                go_simp
                refine hK _ ?_
                clear hK K)
             | (apply QC.wpC_pure
                (focus rfl)
                (focus decide)
                intro K hK
                go_simp
                first
                 | (refine hK _ ?_; clear hK K)
                 | (apply Exists.intro
                    refine ⟨fun u => ?_, hK _ ?_⟩
                    (focus (unfold QP.oat; go_simp; first | done | exact ⟨rfl, rfl⟩ | exact rfl))
                    clear hK K)))
          refine QC.wpC_nil ?_
          go_wp2
          go_roundg (TL - (j + 1))
          case measure => have := HJ.out; have := HLT.out; omega
          case rel => exact ⟨j + 1, by have := HJ.out; have := HLT.out; omega, by go_num, LW9.out⟩
        · obtain rfl : j = TL := by have := HJ.out; omega
          have RES := Lib.hid (lw_result LWR.out (j : Nat))
          rw [res_none (by have := HTL.out; omega)] at RES
          have i2 : ¬ ((j : Nat) : Int) < (j : Nat) := by omega
          clear hlt
          go_wp2_with fail
          refine (RES.out).mono ?_
          rintro e w7 ⟨rfl, rfl⟩
          clear RES
          go_wp2
          refine QC.wp_region_d [1, 5, 12, 17, 22] [0, 2, 3, 4, 1, 5, 6, 7, 8, 9, 10, 11, 12, 13, 14, 15, 16, 17, 18, 19, 20, 21, 22, 23, 24, 25, 26] (by kernel_rfl) (by kernel_rfl) (fun u d => ?_)
          clear c65
          have lwu := LWR.out.dr d
          have c0 := C0Q.out _ _ lwu
          have BA := Lib.hid (lw_bals lwu)
          have BV := Lib.hid (show S.bals.map (Value.int .u64) = vals S.n S.f from rfl)
          rw [BV.out] at BA
          clear d lwu LWR
          iterate 4
            (first
             | (apply QC.wpC_load
                (focus rfl)
                (focus decide)
                (focus rfl)
                (focus rfl)
                (focus rfl)
                (focus (assumption))
                (focus (intro u hu; go_simp))
                intro K hK
                go_simp
                refine hK _ ?_
                clear hK K)
             | (apply QC.wpC_pure
                (focus rfl)
                (focus decide)
                intro K hK
                go_simp
                first
                 | (refine hK _ ?_; clear hK K)
                 | (apply Exists.intro
                    refine ⟨fun u => ?_, hK _ ?_⟩
                    (focus (unfold QP.oat; go_simp; first | done | exact ⟨rfl, rfl⟩ | exact rfl))
                    clear hK K)))
          apply QC.wpC_eff
          (focus rfl)
          (focus decide)
          go_wp2_with fail
          refine (BA.out).mono ?_
          rintro e u2 ⟨g3, rfl, lw8⟩
          have c0b := C0Q.out _ _ lw8
          have SM := Lib.hid (lw_same (m := S.n) (f := S.f) (a1 := some ⟨g3, 0, none⟩) (c1 := S.n) (a2 := sa) (c2 := sc) lw8 List.mem_cons_self (List.mem_cons_of_mem _ BAL.out) (by have := OKk.out.n32; omega))
          clear c0 BA lw8
          go_wp2
          refine QC.eff_ok rfl ?_ ?_
          · (repeat (first | exact QC.obl_nil | refine QC.obl_is (by assumption) ?_ | (apply QC.obl_dep; (focus decide))))
          clear c0b
          apply QC.wpC_eff
          (focus rfl)
          (focus decide)
          go_wp2_with fail
          refine (SM.out).mono ?_
          rintro e u3 ⟨rfl, lw9⟩
          have H4 := Lib.hid (lw_holder lw9 4)
          rw [show hold S.h 4 = -1 from rfl] at H4
          have H5 := Lib.hid (lw_holder lw9 (-1))
          rw [show hold S.h (-1) = -1 from rfl] at H5
          have TO := Lib.hid (lw_told lw9 (-1))
          rw [show S.toldOf (-1) = [] from rfl] at TO
          clear SM lw9
          go_wp2
          refine QC.eff_ok rfl ?_ ?_
          · (repeat (first | exact QC.obl_nil | refine QC.obl_is (by assumption) ?_ | (apply QC.obl_dep; (focus decide))))
          iterate 6
            (first
             | (apply QC.wpC_load
                (focus rfl)
                (focus decide)
                (focus rfl)
                (focus rfl)
                (focus rfl)
                (focus (assumption))
                (focus (intro u hu; go_simp))
                intro K hK
                go_simp
                refine hK _ ?_
                clear hK K)
             | (apply QC.wpC_pure
                (focus rfl)
                (focus decide)
                intro K hK
                go_simp
                first
                 | (refine hK _ ?_; clear hK K)
                 | (apply Exists.intro
                    refine ⟨fun u => ?_, hK _ ?_⟩
                    (focus (unfold QP.oat; go_simp; first | done | exact ⟨rfl, rfl⟩ | exact rfl))
                    clear hK K)))
          apply QC.wpC_eff
          (focus rfl)
          (focus decide)
          go_wp2_with fail
          refine (H4.out).mono ?_
          rintro e u4 ⟨rfl, rfl⟩
          clear H4
          go_wp2
          refine QC.eff_ok rfl ?_ ?_
          · (repeat (first | exact QC.obl_nil | refine QC.obl_is (by assumption) ?_ | (apply QC.obl_dep; (focus decide))))
          iterate 4
            (first
             | (apply QC.wpC_load
                (focus rfl)
                (focus decide)
                (focus rfl)
                (focus rfl)
                (focus rfl)
                (focus (assumption))
                (focus (intro u hu; go_simp))
                intro K hK
                go_simp
                refine hK _ ?_
                clear hK K)
             | (apply QC.wpC_pure
                (focus rfl)
                (focus decide)
                intro K hK
                go_simp
                first
                 | (refine hK _ ?_; clear hK K)
                 | (apply Exists.intro
                    refine ⟨fun u => ?_, hK _ ?_⟩
                    (focus (unfold QP.oat; go_simp; first | done | exact ⟨rfl, rfl⟩ | exact rfl))
                    clear hK K)))
          apply QC.wpC_eff
          (focus rfl)
          (focus decide)
          go_wp2_with fail
          refine (H5.out).mono ?_
          rintro e u4 ⟨rfl, rfl⟩
          clear H5
          go_wp2
          refine QC.eff_ok rfl ?_ ?_
          · (repeat (first | exact QC.obl_nil | refine QC.obl_is (by assumption) ?_ | (apply QC.obl_dep; (focus decide))))
          iterate 4
            (first
             | (apply QC.wpC_load
                (focus rfl)
                (focus decide)
                (focus rfl)
                (focus rfl)
                (focus rfl)
                (focus (assumption))
                (focus (intro u hu; go_simp))
                intro K hK
                go_simp
                refine hK _ ?_
                clear hK K)
             | (apply QC.wpC_pure
                (focus rfl)
                (focus decide)
                intro K hK
                go_simp
                first
                 | (refine hK _ ?_; clear hK K)
                 | (apply Exists.intro
                    refine ⟨fun u => ?_, hK _ ?_⟩
                    (focus (unfold QP.oat; go_simp; first | done | exact ⟨rfl, rfl⟩ | exact rfl))
                    clear hK K)))
          apply QC.wpC_eff
          (focus rfl)
          (focus decide)
          go_wp2_with fail
          refine (TO.out).mono ?_
          rintro e u5 ⟨a5, c5, rfl, lw10⟩
          have FIN := Lib.hid (fine_of lw10 HN.out)
          clear TO lw10
          go_wp2
          refine QC.eff_ok rfl ?_ ?_
          · (repeat (first | exact QC.obl_nil | refine QC.obl_is (by assumption) ?_ | (apply QC.obl_dep; (focus decide))))
          iterate 4
            (first
             | (apply QC.wpC_load
                (focus rfl)
                (focus decide)
                (focus rfl)
                (focus rfl)
                (focus rfl)
                (focus (assumption))
                (focus (intro u hu; go_simp))
                intro K hK
                go_simp
                refine hK _ ?_
                clear hK K)
             | (apply QC.wpC_pure
                (focus rfl)
                (focus decide)
                intro K hK
                go_simp
                first
                 | (refine hK _ ?_; clear hK K)
                 | (apply Exists.intro
                    refine ⟨fun u => ?_, hK _ ?_⟩
                    (focus (unfold QP.oat; go_simp; first | done | exact ⟨rfl, rfl⟩ | exact rfl))
                    clear hK K)))
          refine QC.wpC_nil ?_
          go_wp2
          go_ret
          exact FIN.out
end Go.Proofs.Ytnnnbgndbmcffaa
namespace Go.Proofs.Ytnnnbgndbmcffaa
open Go.RowKit
set_option linter.unusedVariables false

set_option maxRecDepth 100000 in
set_option maxHeartbeats 4000000 in
theorem acts_none (pa : Option Addr) (len cap : Nat) (zs : List Int) (A : Option Addr) (m cap2 : Nat) (w : World) (hu : URow w pa len zs) (hl : len ≤ 40) (hm0 : m ≤ 200) (hn : len < 1 ∨ 32 < len ∨ ¬ zs.sum ≤ Am.mx) :
    Calls Try.prog 18 #[.slice pa len cap, .slice A m cap2] w (Fine w) := by
  obtain ⟨n, hn'⟩ : ∃ n, w.heap.size = n := ⟨_, rfl⟩
  have HN := Lib.hid hn'
  have hub := fun v (hv : Below n w v) => hu.below (hn'.symm ▸ hv : Below w.heap.size w v)
  have nw := fun v (hv : Below n w v) => bnew_none pa len cap zs v (hub v hv) hn
  have rn := fun v (hv : Below n w v) => rnew96_no pa len cap zs w v hu (hn'.symm ▸ hv : Below w.heap.size w v) (by omega) hn
  have NW := Lib.hid nw; have RN := Lib.hid rn; have SH := Lib.hid (fun v => bshown_any v)
  have dl : decide ((40 : Int) < (len : Int)) = false := by simp; omega
  have d0 : decide ((200 : Int) < (m : Int)) = false := by simp; omega
  clear nw rn hub hu hl hn hm0
  go_enter Try.func18, Try.ntmps18
  go_wp2_with fail
  refine (SH.out _).mono ?_
  rintro e w1 ⟨rfl, g1⟩
  rw [hn'] at g1
  have B1 := Lib.hid g1
  clear g1
  go_wp2_with fail
  refine (NW.out _ B1.out).mono ?_
  rintro e w2 ⟨rfl, rfl⟩
  go_wp2_with fail
  refine (RN.out _ B1.out).mono ?_
  rintro e w2 ⟨s', rfl, one, g2⟩
  rw [hn'] at g2
  obtain ⟨R, hR⟩ : ∃ R, RC s' (.slice none 0 0) (fun _ => -1) (.slice none 0 0) = R := ⟨_, rfl⟩
  have iR : (Try.prog.info? 96).map (·.size) = some R.size := by rw [← hR]; exact info96 _ _ _ _
  have zR : Try.zeroCells96.size = R.size := by rw [← hR]; exact zero96 _ _ _ _
  have oR : R.all (·.oneCell') = true := by rw [← hR]; exact RC_one _ _ _ _ one rfl rfl
  rw [hR]
  have hs2 : n ≤ w2.heap.size := by have := g2.size; omega
  obtain ⟨g, hg⟩ : ∃ g, w2.heap.size = g := ⟨_, rfl⟩
  have r1 : M.RowAt (w2.alloc (.cells Try.zeroCells96 96)) g 96 Try.zeroCells96 := hg ▸ M.RowAt.new w2 96 Try.zeroCells96
  have b3 := Lib.hid (M.below_setRow (cs := R) (g2.alloc hs2 (.cells Try.zeroCells96 96)) (show n ≤ g by omega))
  clear g2 hs2 hn' hR one
  go_wp2_with (refine wpList_store_row (x := .tmp 6) (y := .tmp 38) (cells := R) (old := Try.zeroCells96) (t := 96) (ty := 96) (g := g) ?_ ?_ ?_ ?_ r1 iR zR oR ?_; rfl; rfl; rfl; rfl)
  go_ret
  exact ⟨rfl, by rw [HN.out]; exact b3.out⟩
set_option maxRecDepth 100000 in
theorem acts_many (pa : Option Addr) (len cap : Nat) (A : Option Addr) (m cap2 : Nat) (w : World) (hb : 40 < len ∨ 200 < m) :
    Calls Try.prog 18 #[.slice pa len cap, .slice A m cap2] w (Fine w) := by
  have SH := Lib.hid (fun v => bshown_any v)
  by_cases h0 : 40 < len
  · have dt0 : decide ((40 : Int) < (len : Int)) = true := by simp; omega
    clear hb
    go_enter Try.func18, Try.ntmps18
    go_wp2_with fail
    refine (SH.out _).mono ?_
    rintro e w1 ⟨rfl, g1⟩
    have G1 := Lib.hid g1
    clear g1
    go_wp2
    go_ret
    exact ⟨rfl, G1.out⟩
  · have df0 : decide ((40 : Int) < (len : Int)) = false := by simp; omega
    have dt1 : decide ((200 : Int) < (m : Int)) = true := by simp; omega
    clear hb
    go_enter Try.func18, Try.ntmps18
    go_wp2_with fail
    refine (SH.out _).mono ?_
    rintro e w1 ⟨rfl, g1⟩
    have G1 := Lib.hid g1
    clear g1
    go_wp2
    go_ret
    exact ⟨rfl, G1.out⟩
open Go.ChangeShapes Go.WideShapes in
set_option maxRecDepth 100000 in
theorem walk_ShardActs {H : Type} {enc : TypeId × Value → H} {W : World} {base : Nat} (b0 : Option Addr) (len0 cap0 : Nat) (z0 : List Int) (w0 : RowK.IsRow .u64 W b0 len0 cap0 z0) (v : Value) (d : DataW H) (p : List MemPlace) (hval : Value.okWide Try.prog W .any base 74 v)
    (h : DataW.Trod enc Try.prog W 0 (fun _ => true) true 74 v d p) : Calls Try.prog 18 #[.slice b0 len0 cap0, v] W (Fine W) := by
  obtain ⟨A, cap, l, rfl, h1, h2, h3, h4⟩ := RowK.sl_of_trod Ac.cells Ac.ok Try.underlying74 (size := 4) (by kernel_rfl) (by decide) act_of_trod84 hval h
  have hu := urow_of w0
  by_cases hm : 40 < len0 ∨ 200 < l.length
  · exact acts_many b0 len0 cap0 A l.length cap W hm
  · by_cases hb : len0 < 1 ∨ 32 < len0 ∨ ¬ (z0.take len0).sum ≤ Am.mx
    · exact acts_none b0 len0 cap0 _ A l.length cap W hu (by omega) (by omega) hb
    · exact acts_walk b0 len0 cap0 _ A cap l W hu (by omega) (by omega) (Decidable.not_not.1 fun h => hb (.inr (.inr h))) h4 h3 (by omega)
end Go.Proofs.Ytnnnbgndbmcffaa
