/- Maps that a call made, known by the list of their entries in order: look-up, store, delete, length, ranging; no conditions. -/
import Derived.Test.YtnnnbgndbmcffaaMem
import Derived.Maps.RangeWalk
namespace Go.Proofs.Ytnnnbgndbmcffaa
open Go.RowKit Go.Maps Go.MapKept
open Go.ChangeMaps (setBlock)
set_option linter.unusedVariables false

/-- a type of keys -/
structure KT (P : Program) (k : TypeId) (κ : Type) where
  kv : κ → Value
  ok : κ → Prop
  law : Keyed P k
  rd : ∀ i, ok i → ∃ l, keyOf P k (kv i) = some l
  inj : ∀ i j, kv i = kv j → i = j
def intKT {P : Program} {k : TypeId} {q : IntKind} (hk : P.underlying k = some (.int q)) : KT P k Int :=
  ⟨fun i => .int q i, fun i => (Lit.int q i).wf = true, int_keyed hk, fun i h => ⟨_, keyOf_int_mk hk h⟩, fun i j h => by injection h⟩

section
variable {κ α : Type} [DecidableEq κ]
def getM : List (κ × α) → κ → Option α
  | [], _ => none
  | p :: r, i => if p.1 = i then some p.2 else getM r i
def putM : List (κ × α) → κ → α → List (κ × α)
  | [], i, x => [(i, x)]
  | p :: r, i, x => if p.1 = i then (i, x) :: r else p :: putM r i x
def delM : List (κ × α) → κ → List (κ × α)
  | [], _ => []
  | p :: r, i => if p.1 = i then r else p :: delM r i
theorem none_M {i : κ} {x : α} : ∀ {l : List (κ × α)}, (∀ p ∈ l, p.1 ≠ i) → getM l i = none ∧ putM l i x = l ++ [(i, x)] ∧ delM l i = l
  | [], _ => ⟨rfl, rfl, rfl⟩
  | p :: r, h => by
    obtain ⟨h1, h2, h3⟩ := none_M (x := x) (fun q hq => h q (List.mem_cons_of_mem _ hq))
    have hp := h p List.mem_cons_self
    unfold getM putM delM
    rw [if_neg hp, if_neg hp, if_neg hp, h1, h2, h3]
    exact ⟨rfl, rfl, rfl⟩
theorem some_M {i : κ} {x : α} : ∀ {l : List (κ × α)} {j : Nat} {p : κ × α}, l.Pairwise (fun a b => a.1 ≠ b.1) → l[j]? = some p → p.1 = i → getM l i = some p.2 ∧ putM l i x = l.set j (i, x) ∧ delM l i = l.eraseIdx j
  | [], j, p, _, h, _ => by simp at h
  | q :: r, 0, p, _, h, e => by
    obtain rfl : q = p := by simpa using h
    unfold getM putM delM
    rw [if_pos e, if_pos e, if_pos e]
    exact ⟨rfl, rfl, rfl⟩
  | q :: r, j + 1, p, hd, h, e => by
    obtain ⟨h1, h2⟩ := List.pairwise_cons.1 hd
    have hj : r[j]? = some p := by simpa using h
    have hq : ¬ q.1 = i := fun e2 => h1 p (List.mem_of_getElem? hj) (e2.trans e.symm)
    obtain ⟨a1, a2, a3⟩ := some_M (x := x) h2 hj e
    unfold getM putM delM
    rw [if_neg hq, if_neg hq, if_neg hq, a1, a2, a3]
    exact ⟨rfl, rfl, rfl⟩
theorem getM_put (l : List (κ × α)) (i j : κ) (x : α) : getM (putM l i x) j = if i = j then some x else getM l j := by
  induction l with
  | nil => unfold putM; unfold getM; rfl
  | cons p r ih =>
    unfold putM
    by_cases h : p.1 = i
    · rw [if_pos h]
      unfold getM
      by_cases e : i = j
      · rw [if_pos e, if_pos e]
      · rw [if_neg e, if_neg e, if_neg (fun e2 => e (h.symm.trans e2))]
    · rw [if_neg h]
      unfold getM
      rw [ih]
      by_cases e : p.1 = j
      · rw [if_pos e, if_pos e, if_neg (fun e2 => h (e.trans e2.symm))]
      · rw [if_neg e, if_neg e]
theorem delM_sub (i : κ) : ∀ (l : List (κ × α)) (p : κ × α), p ∈ delM l i → p ∈ l
  | [], _, h => by cases h
  | q :: r, p, h => by
    unfold delM at h
    split at h
    · exact List.mem_cons_of_mem _ h
    · rcases List.mem_cons.1 h with e | e
      · exact e ▸ List.mem_cons_self
      · exact List.mem_cons_of_mem _ (delM_sub i r p e)
theorem getM_mem {l : List (κ × α)} {i : κ} {x : α} (h : getM l i = some x) : (i, x) ∈ l := by
  induction l with
  | nil => cases h
  | cons p r ih =>
    unfold getM at h
    split at h
    · rename_i e
      obtain rfl : p.2 = x := Option.some.inj h
      rw [← e]; exact List.mem_cons_self
    · exact List.mem_cons_of_mem _ (ih h)
theorem getM_none {l : List (κ × α)} {i : κ} (h : getM l i = none) : ∀ p ∈ l, p.1 ≠ i := by
  induction l with
  | nil => intro p hp; cases hp
  | cons q r ih =>
    unfold getM at h
    split at h
    · cases h
    · rename_i e
      intro p hp
      rcases List.mem_cons.1 hp with rfl | hp
      · exact e
      · exact ih h p hp
theorem getM_of_mem {l : List (κ × α)} (hd : l.Pairwise (fun a b => a.1 ≠ b.1)) {p : κ × α} (h : p ∈ l) : getM l p.1 = some p.2 := by
  obtain ⟨j, hj⟩ := List.mem_iff_getElem?.1 h
  exact (some_M (x := p.2) hd hj rfl).1
theorem getM_del {l : List (κ × α)} (hd : l.Pairwise (fun a b => a.1 ≠ b.1)) (i j : κ) : getM (delM l i) j = if i = j then none else getM l j := by
  induction l with
  | nil => unfold delM getM; split <;> rfl
  | cons p r ih =>
    obtain ⟨h1, h2⟩ := List.pairwise_cons.1 hd
    unfold delM
    by_cases h : p.1 = i
    · rw [if_pos h]
      by_cases e : i = j
      · rw [if_pos e]
        exact (none_M (x := p.2) (fun q hq e2 => h1 q hq (h.trans (e.trans e2.symm)))).1
      · rw [if_neg e]
        show _ = getM (p :: r) j
        unfold getM
        rw [if_neg (fun e2 => e (h.symm.trans e2))]
        cases r <;> rfl
    · rw [if_neg h]
      unfold getM
      rw [ih h2]
      by_cases e : p.1 = j
      · rw [if_pos e, if_neg (fun e2 => h (e.trans e2.symm)), if_pos e]
      · rw [if_neg e, if_neg e]
end

section
variable {P : Program} {k : TypeId} {κ α : Type}
/-- block b is a map of just these entries, in their order -/
def IM (K : KT P k κ) (mk : α → Value) (w : World) (b : Nat) (l : List (κ × α)) : Prop :=
  ∃ es clock, w.heap[b]? = some (.map es clock) ∧ Stamped es clock ∧ es.toList.map (fun e => (e.key, e.val)) = l.map (fun p => (K.kv p.1, mk p.2)) ∧ ∀ p ∈ l, K.ok p.1
variable {K : KT P k κ} {mk : α → Value} {w w' : World} {b : Nat} {l : List (κ × α)}

theorem IM.lt (h : IM K mk w b l) : b < w.heap.size := by
  obtain ⟨es, clock, hb, _⟩ := h
  exact (Array.getElem?_eq_some_iff.1 hb).1
theorem IM.of (h : IM K mk w b l) (e : w'.heap[b]? = w.heap[b]?) : IM K mk w' b l := by
  obtain ⟨es, clock, hb, r⟩ := h
  exact ⟨es, clock, e.trans hb, r⟩
theorem IM.below {B : Nat} (h : IM K mk w b l) (hb : Below B w w') (hg : b < B) : IM K mk w' b l := h.of (hb.block b hg)
theorem IM.call (h : IM K mk w b l) (hb : Below w.heap.size w w') : IM K mk w' b l := h.below hb h.lt
theorem IM.but {g : Nat} (h : IM K mk w b l) (hb : M.But g w w') (hg : b ≠ g) : IM K mk w' b l := h.of (hb.block b h.lt hg)
theorem IM.drew (h : IM K mk w b l) : IM K mk w.drew b l := h
theorem IM.alloc (h : IM K mk w b l) (o : Obj) : IM K mk (w.alloc o) b l := h.call ((Below.refl _ _).alloc (Nat.le_refl _) o)
theorem IM.far (h : IM K mk w b l) {p : Addr} (hp : p.block ≠ b) (v : Value) : IM K mk (w.setCell p v) b l := h.of (by
  simp only [World.setCell, Array.getElem?_modify, if_neg hp])
theorem IM.farRow (h : IM K mk w b l) {g : Nat} (hg : g ≠ b) (cs : Array Value) : IM K mk (w.setRow g cs) b l := h.of (by
  simp only [World.setRow, Array.getElem?_modify, if_neg hg])
theorem IM.new (K : KT P k κ) (mk : α → Value) (w : World) : IM K mk (w.alloc (.map #[] 0)) w.heap.size [] :=
  ⟨#[], 0, heap_alloc_new w _, stamped_empty 0, rfl, fun p h => by cases h⟩
theorem IM.dist (h : IM K mk w b l) : l.Pairwise (fun a b => a.1 ≠ b.1) := by
  obtain ⟨es, clock, hb, hs, he, _⟩ := h
  have h1 := ((stamped_iff es clock).1 hs).2.2
  have h2 : (es.toList.map (fun e => (e.key, e.val))).Pairwise (fun x y => x.1 ≠ y.1) := by rw [List.pairwise_map]; exact h1
  rw [he, List.pairwise_map] at h2
  exact h2.imp (fun h3 e => h3 (by rw [e]))
theorem IM.keys {es : Array MapEntry} (he : es.toList.map (fun e => (e.key, e.val)) = l.map (fun p => (K.kv p.1, mk p.2))) (ho : ∀ p ∈ l, K.ok p.1) : ∀ e ∈ es.toList, ∃ q, keyOf P k e.key = some q := by
  intro e h
  have : (e.key, e.val) ∈ l.map (fun p => (K.kv p.1, mk p.2)) := he ▸ List.mem_map.2 ⟨e, h, rfl⟩
  obtain ⟨p, hp, e1⟩ := List.mem_map.1 this
  obtain ⟨q, hq⟩ := K.rd p.1 (ho p hp)
  exact ⟨q, by have := congrArg Prod.fst e1; simp at this; rw [← this]; exact hq⟩
theorem IM.not_in {es : Array MapEntry} (he : es.toList.map (fun e => (e.key, e.val)) = l.map (fun p => (K.kv p.1, mk p.2))) {i : κ} (h : ∀ e ∈ es.toList, e.key ≠ K.kv i) : ∀ p ∈ l, p.1 ≠ i := by
  intro p hp e
  have : (K.kv p.1, mk p.2) ∈ es.toList.map (fun e => (e.key, e.val)) := he ▸ List.mem_map.2 ⟨p, hp, rfl⟩
  obtain ⟨y, hy, e1⟩ := List.mem_map.1 this
  exact h y hy (by have := congrArg Prod.fst e1; simp at this; rw [this, e])
theorem IM.at {es : Array MapEntry} (he : es.toList.map (fun e => (e.key, e.val)) = l.map (fun p => (K.kv p.1, mk p.2))) {i : κ} {j : Nat} {e0 : MapEntry} (h : es.toList[j]? = some e0) (hk : e0.key = K.kv i) : ∃ p, l[j]? = some p ∧ p.1 = i ∧ e0.val = mk p.2 := by
  have h1 : (es.toList.map (fun e => (e.key, e.val)))[j]? = some (e0.key, e0.val) := by rw [List.getElem?_map, h]; rfl
  rw [he, List.getElem?_map] at h1
  cases hl : l[j]? with
  | none => rw [hl] at h1; cases h1
  | some p =>
    rw [hl] at h1
    simp at h1
    exact ⟨p, rfl, K.inj _ _ (h1.1.trans hk), h1.2.symm⟩
theorem but_setBlock (w : World) (b : Nat) (o : Obj) : M.But b w (setBlock w b o) :=
  ⟨rfl, rfl, rfl, by simp [setBlock], fun j hj hne => by simp only [setBlock]; exact Array.getElem?_setIfInBounds_ne (Ne.symm hne)⟩

/-- m[i], with ok -/
theorem IM.look [DecidableEq κ] (h : IM K mk w b l) {t e : TypeId} (ht : P.underlying t = some (.map k e)) {z : Value} (hz : (zeroValue e).run P w = .ok z w) {i : κ} (hi : K.ok i) :
    (Instr.lookup t (.map (some b)) (K.kv i) true).run P w = .ok (.tuple #[match getM l i with | some x => mk x | none => z, .bool (getM l i).isSome]) w := by
  have hd := h.dist
  obtain ⟨es, clock, hb, hs, he, ho⟩ := h
  obtain ⟨q, hq⟩ := K.rd i hi
  rcases K.law.find w hq es.toList (IM.keys he ho) with ⟨h1, h2⟩ | ⟨j, e0, h1, h2, h3⟩
  · have hg : getM l i = none := by
      cases hl : l with
      | nil => rfl
      | cons p r => exact (none_M (x := p.2) (hl ▸ IM.not_in he h2)).1
    rw [hg]
    simp [Instr.lookup, run_underlying ht, MapKept.run_getObj_map hb, K.law.check w _ hq, h1, hz, Result.andThen]
  · obtain ⟨p, hp, e1, e2⟩ := IM.at he h2 h3
    rw [(some_M (x := p.2) hd hp e1).1]
    simp [Instr.lookup, run_underlying ht, MapKept.run_getObj_map hb, K.law.check w _ hq, h1, e2, Result.andThen]
/-- m[i], without ok -/
theorem IM.look1 [DecidableEq κ] (h : IM K mk w b l) {t e : TypeId} (ht : P.underlying t = some (.map k e)) {z : Value} (hz : (zeroValue e).run P w = .ok z w) {i : κ} (hi : K.ok i) :
    (Instr.lookup t (.map (some b)) (K.kv i) false).run P w = .ok (match getM l i with | some x => mk x | none => z) w := by
  have hd := h.dist
  obtain ⟨es, clock, hb, hs, he, ho⟩ := h
  obtain ⟨q, hq⟩ := K.rd i hi
  rcases K.law.find w hq es.toList (IM.keys he ho) with ⟨h1, h2⟩ | ⟨j, e0, h1, h2, h3⟩
  · have hg : getM l i = none := by
      cases hl : l with
      | nil => rfl
      | cons p r => exact (none_M (x := p.2) (hl ▸ IM.not_in he h2)).1
    rw [hg]
    simp [Instr.lookup, run_underlying ht, MapKept.run_getObj_map hb, K.law.check w _ hq, h1, hz, Result.andThen]
  · obtain ⟨p, hp, e1, e2⟩ := IM.at he h2 h3
    rw [(some_M (x := p.2) hd hp e1).1]
    simp [Instr.lookup, run_underlying ht, MapKept.run_getObj_map hb, K.law.check w _ hq, h1, e2, Result.andThen]
theorem modify_set {α : Type} (f : α → α) : ∀ (l : List α) (j : Nat) (a : α), l[j]? = some a → l.modify j f = l.set j (f a)
  | [], _, _, h => by simp at h
  | x :: r, 0, a, h => by
    obtain rfl : x = a := by simpa using h
    rfl
  | x :: r, j + 1, a, h => by
    have hj : r[j]? = some a := by simpa using h
    simp [modify_set f r j a hj]
/-- m[i] = x -/
theorem IM.put [DecidableEq κ] (h : IM K mk w b l) {t e : TypeId} (ht : P.underlying t = some (.map k e)) {i : κ} (hi : K.ok i) (x : α) :
    ∃ w', (Instr.mapUpdate t (.map (some b)) (K.kv i) (mk x)).run P w = .ok () w' ∧ IM K mk w' b (putM l i x) ∧ M.But b w w' := by
  have hd := h.dist
  obtain ⟨es, clock, hb, hs, he, ho⟩ := h
  obtain ⟨q, hq⟩ := K.rd i hi
  rcases K.law.find w hq es.toList (IM.keys he ho) with ⟨h1, h2⟩ | ⟨j, e0, h1, h2, h3⟩
  · refine ⟨setBlock w b (.map (es.push ⟨K.kv i, mk x, clock⟩) (clock + 1)), ?_, ⟨_, _, (heap_set hb).1, stamped_push hs h2, ?_, ?_⟩, but_setBlock _ _ _⟩
    · simp [Instr.mapUpdate, run_underlying ht, MapKept.run_getObj_map hb, K.law.check w false hq, h1, MapKept.run_setObj_map _ hb, Result.andThen, setBlock]
    · rw [(none_M (x := x) (IM.not_in he h2)).2.1, Array.toList_push, List.map_append, List.map_append, he]; rfl
    · rw [(none_M (x := x) (IM.not_in he h2)).2.1]
      intro p hp
      rcases List.mem_append.1 hp with hp | hp
      · exact ho p hp
      · obtain rfl : p = (i, x) := by simpa using hp
        exact hi
  · have hj : es[j]? = some e0 := by simpa using h2
    obtain ⟨p, hp, e1, e2⟩ := IM.at he h2 h3
    have hp2 := (some_M (x := x) hd hp e1).2.1
    refine ⟨setBlock w b (.map (es.modify j (fun e' => { e' with key := K.kv i, val := mk x })) clock), ?_, ⟨_, _, (heap_set hb).1, stamped_modify hs _ _ (fun _ _ => rfl) (fun e' _ he' => by rw [hj] at he'; cases he'; exact h3.symm), ?_, ?_⟩, but_setBlock _ _ _⟩
    · simp [Instr.mapUpdate, run_underlying ht, MapKept.run_getObj_map hb, K.law.check w false hq, h1, hj, h3, K.law.stays w hq, MapKept.run_setObj_map _ hb, Result.andThen, setBlock]
    · rw [hp2, Array.toList_modify, modify_set _ _ _ _ h2, List.map_set, he, List.map_set]
    · rw [hp2]
      intro p' hp'
      rcases List.mem_or_eq_of_mem_set hp' with h | rfl
      · exact ho p' h
      · exact hi
/-- delete(m, i) -/
theorem IM.del [DecidableEq κ] (h : IM K mk w b l) {t e : TypeId} (ty : TypeId) (ht : P.underlying t = some (.map k e)) {i : κ} (hi : K.ok i) :
    ∃ w', (Builtin.delete_ #[t, k] ty #[.map (some b), K.kv i]).run P w = .ok (.tuple #[]) w' ∧ IM K mk w' b (delM l i) ∧ M.But b w w' := by
  have hd := h.dist
  obtain ⟨es, clock, hb, hs, he, ho⟩ := h
  obtain ⟨q, hq⟩ := K.rd i hi
  rcases K.law.find w hq es.toList (IM.keys he ho) with ⟨h1, h2⟩ | ⟨j, e0, h1, h2, h3⟩
  · have hl : delM l i = l := by
      cases hl : l with
      | nil => rfl
      | cons p r => exact (none_M (x := p.2) (hl ▸ IM.not_in he h2)).2.2
    rw [hl]
    refine ⟨setBlock w b (.map es clock), ?_, ⟨_, _, (heap_set hb).1, hs, he, ho⟩, but_setBlock _ _ _⟩
    simp [Builtin.delete_, run_underlying ht, MapKept.run_getObj_map hb, K.law.check w _ hq, h1, MapKept.run_setObj_map _ hb, Result.andThen, setBlock]
  · have hjl : j < es.toList.length := (List.getElem?_eq_some_iff.1 h2).1
    have hjs : j < es.size := by simpa using hjl
    have hsub : (es.eraseIdxIfInBounds j).toList = es.toList.eraseIdx j := by
      unfold Array.eraseIdxIfInBounds
      rw [dif_pos hjs]
      simp
    obtain ⟨p, hp, e1, e2⟩ := IM.at he h2 h3
    have hp2 := (some_M (x := p.2) hd hp e1).2.2
    refine ⟨setBlock w b (.map (es.eraseIdxIfInBounds j) clock), ?_, ⟨_, _, (heap_set hb).1, stamped_erase hs j, ?_, ?_⟩, but_setBlock _ _ _⟩
    · simp [Builtin.delete_, run_underlying ht, MapKept.run_getObj_map hb, K.law.check w _ hq, h1, MapKept.run_setObj_map _ hb, Result.andThen, setBlock]
    · rw [hp2, hsub, ChangeMaps.map_eraseIdx, he, ChangeMaps.map_eraseIdx]
    · exact fun p' hp' => ho p' (delM_sub i l p' hp')
theorem IM.len (h : IM K mk w b l) {t e : TypeId} (ht : P.underlying t = some (.map k e)) (es : Array MapEntry) (clock : Nat) (hb : w.heap[b]? = some (.map es clock)) : es.size = l.length := by
  obtain ⟨es', clock', hb', hs, he, ho⟩ := h
  rw [hb] at hb'
  cases hb'
  have := congrArg List.length he
  simpa using this

/-- a range over it under way: what is still to come -/
def IR (K : KT P k κ) (mk : α → Value) (w : World) (b r : Nat) (l left : List (κ × α)) : Prop :=
  ∃ es clock since seen c0, w.heap[b]? = some (.map es clock) ∧ Stamped es clock ∧ es.toList.map (fun e => (e.key, e.val)) = l.map (fun p => (K.kv p.1, mk p.2)) ∧ (∀ p ∈ l, K.ok p.1) ∧
    w.heap[r]? = some (.mapIter (some b) since seen c0) ∧ (∀ x ∈ es.toList, x.born < since) ∧ since ≤ c0 ∧ since ≤ clock ∧ (leftOf es seen).toList.map (fun e => (e.key, e.val)) = left.map (fun p => (K.kv p.1, mk p.2))
theorem IR.im {r : Nat} {left : List (κ × α)} (h : IR K mk w b r l left) : IM K mk w b l := by
  obtain ⟨es, clock, since, seen, c0, hb, hs, he, ho, _⟩ := h
  exact ⟨es, clock, hb, hs, he, ho⟩
theorem IR.of {r : Nat} {left : List (κ × α)} (h : IR K mk w b r l left) (e : w'.heap[b]? = w.heap[b]?) (e2 : w'.heap[r]? = w.heap[r]?) : IR K mk w' b r l left := by
  obtain ⟨es, clock, since, seen, c0, hb, hs, he, ho, hr, rest⟩ := h
  exact ⟨es, clock, since, seen, c0, e.trans hb, hs, he, ho, e2.trans hr, rest⟩
theorem IR.ne {r : Nat} {left : List (κ × α)} (h : IR K mk w b r l left) : r ≠ b := by
  obtain ⟨es, clock, since, seen, c0, hb, hs, he, ho, hr, rest⟩ := h
  intro e
  rw [e, hb] at hr
  cases hr
theorem IR.lt {r : Nat} {left : List (κ × α)} (h : IR K mk w b r l left) : r < w.heap.size := by
  obtain ⟨es, clock, since, seen, c0, hb, hs, he, ho, hr, rest⟩ := h
  exact (Array.getElem?_eq_some_iff.1 hr).1
theorem IR.call {r : Nat} {left : List (κ × α)} (h : IR K mk w b r l left) (hb : Below w.heap.size w w') : IR K mk w' b r l left := h.of (hb.block b h.im.lt) (hb.block r h.lt)
theorem IM.range (h : IM K mk w b l) {t e : TypeId} (ht : P.underlying t = some (.map k e)) :
    ∃ w', (Instr.range t (.map (some b))).run P w = .ok (.pointer (some ⟨w.heap.size, 0, none⟩)) w' ∧ IR K mk w' b w.heap.size l l ∧ Below w.heap.size w w' ∧ w'.heap.size = w.heap.size + 1 := by
  have hlt := h.lt
  obtain ⟨es, clock, hb, hs, he, ho⟩ := h
  refine ⟨_, run_range_map w t k e b es clock ht hb, ⟨es, clock, clock, #[], clock, ((MapKept.heap_alloc w _).2 b hlt).trans hb, hs, he, ho, (MapKept.heap_alloc w _).1, hs.1, Nat.le_refl _, Nat.le_refl _, ?_⟩, (Below.refl _ _).alloc (Nat.le_refl _) _, by simp⟩
  have : leftOf es #[] = es := by unfold leftOf; simp
  rw [this]; exact he
theorem filter_one {β γ : Type} [DecidableEq γ] (f : β → γ) : ∀ {L : List β} {e : β}, e ∈ L → (L.map f).Nodup → ∃ L1 L2, L = L1 ++ e :: L2 ∧ L.filter (fun x => decide (f x ≠ f e)) = L1 ++ L2
  | x :: r, e, he, hn => by
    rw [List.map_cons, List.nodup_cons] at hn
    rcases List.mem_cons.1 he with rfl | he
    · refine ⟨[], r, rfl, ?_⟩
      rw [List.filter_cons_of_neg (by simp), List.nil_append, List.filter_eq_self]
      intro y hy
      simp
      exact fun e2 => hn.1 (e2 ▸ List.mem_map.2 ⟨y, hy, rfl⟩)
    · obtain ⟨L1, L2, h1, h2⟩ := filter_one f he hn.2
      refine ⟨x :: L1, L2, by rw [h1]; rfl, ?_⟩
      rw [List.filter_cons_of_pos (by simp; exact fun e2 => hn.1 (e2 ▸ List.mem_map.2 ⟨e, he, rfl⟩)), h2]; rfl
/-- one step: nothing is left, or one of those that are left comes -/
theorem IR.next {r : Nat} {left : List (κ × α)} (h : IR K mk w b r l left) (ty : TypeId) :
    (left = [] ∧ (Instr.next (.pointer (some ⟨r, 0, none⟩)) false ty).run P w = .ok (.tuple #[.bool false]) w) ∨
    ∃ L1 p L2 w', left = L1 ++ p :: L2 ∧ (Instr.next (.pointer (some ⟨r, 0, none⟩)) false ty).run P w = .ok (.tuple #[.bool true, K.kv p.1, mk p.2]) w' ∧ IR K mk w' b r l (L1 ++ L2) ∧ M.But r w w' ∧ w'.heap.size = w.heap.size ∧ (Instr.entry (.pointer (some ⟨r, 0, none⟩))).run P w' = .ok (.tuple #[K.kv p.1, mk p.2]) w' := by
  have hne := h.ne
  obtain ⟨es, clock, since, seen, c0, hb, hs, he, ho, hr, hold, hsc, hsk, hl⟩ := h
  rcases run_next_at (P := P) w ty r b since c0 seen es clock hr hb hold hsc with ⟨h0, hrun⟩ | ⟨e, hem, w1, hal, hrun⟩
  · refine .inl ⟨?_, hrun⟩
    have : (leftOf es seen).toList = [] := by simpa using h0
    rw [this] at hl
    simpa using hl.symm
  · obtain ⟨hme, hes⟩ := mem_left hem
    have hst := (stamped_iff es clock).1 hs
    have hnd : ((leftOf es seen).toList.map (·.born)).Nodup := by
      unfold leftOf
      rw [Array.toList_filter]
      exact (List.Sublist.map _ List.filter_sublist).nodup hst.2.1
    obtain ⟨E1, E2, hE, hF⟩ := filter_one (fun x : MapEntry => x.born) hem hnd
    rw [hE, List.map_append, List.map_cons] at hl
    obtain ⟨L1, R, e1, e2, e3⟩ := List.map_eq_append_iff.1 hl.symm
    obtain ⟨p, L2, e4, e5, e6⟩ := List.map_eq_cons_iff.1 e3
    have hkey : e.key = K.kv p.1 := (congrArg Prod.fst e5).symm
    have hval : e.val = mk p.2 := (congrArg Prod.snd e5).symm
    have hr1 : w1.heap[r]? = some (.mapIter (some b) since seen c0) := by rcases hal with rfl | rfl <;> exact hr
    have hb1 : w1.heap[b]? = some (.map es clock) := by rcases hal with rfl | rfl <;> exact hb
    have hset := heap_set (o' := .mapIter (some b) since (seen.push e.born) clock) hr1
    have hb' : (setBlock w1 r (.mapIter (some b) since (seen.push e.born) clock)).heap[b]? = some (.map es clock) := (hset.2 b (fun e1 => hne e1.symm)).trans hb1
    refine .inr ⟨L1, p, L2, _, by rw [e1, e4], by rw [← hkey, ← hval]; exact hrun, ⟨es, clock, since, seen.push e.born, clock, hb', hs, he, ho, hset.1, hold, hsk, hsk, ?_⟩, ?_, ?_, ?_⟩
    · have hpush : (leftOf es (seen.push e.born)).toList = (leftOf es seen).toList.filter (fun x => decide (x.born ≠ e.born)) := by
        unfold leftOf
        rw [Array.toList_filter, Array.toList_filter, List.filter_filter]
        apply List.filter_congr
        intro x _
        simp [Bool.and_comm]
      rw [hpush, hF, List.map_append, List.map_append, ← e2, ← e6]
    · have hb2 := but_setBlock w1 r (.mapIter (some b) since (seen.push e.born) clock)
      rcases hal with rfl | rfl
      · exact hb2
      · exact ⟨hb2.os, hb2.tape, hb2.output, hb2.size, hb2.block⟩
    · rcases hal with rfl | rfl <;> exact Array.size_setIfInBounds
    · rw [← hkey, ← hval]
      exact run_entry_at _ r b since seen es clock e hset.1 hb' hme hst.2.1
end

section
variable {P : Program} {k : TypeId} {κ α : Type} {K : KT P k κ} {mk : α → Value} {w : World} {ops : Array Oper} {rest : List Oper} {o : Oper} {a : Act} {Q : Exit → Act → World → Prop} {b : Nat} {l : List (κ × α)}
theorem wpList_lookup_im [DecidableEq κ] (hg : o.guard = none) (m x : Operand) (t e : TypeId) (hop : o.op = Op.lookup t m x true) (ht : P.underlying t = some (.map k e)) (z : Value) (hz : ∀ w, (zeroValue e).run P w = .ok z w)
    (h : IM K mk w b l) (hm : a.eval m = .map (some b)) (i : κ) (hi : K.ok i) (hx : a.eval x = K.kv i)
    (hK : wpList P ops Q rest (a.put o.dst (.tuple #[match getM l i with | some x => mk x | none => z, .bool (getM l i).isSome])) w) :
    wpList P ops Q (o :: rest) a w := by
  refine wpList_plain hg fun K' hK' => ?_
  have hrun := h.look ht (hz w) hi
  unfold Oper.wp
  simp [execOp, hop, hm, hx, hrun, Result.andThen]
  exact hK' _ _ hK
theorem wpList_lookup_im_some [DecidableEq κ] (hg : o.guard = none) (m x : Operand) (t e : TypeId) (hop : o.op = Op.lookup t m x true) (ht : P.underlying t = some (.map k e)) (z : Value) (hz : ∀ w, (zeroValue e).run P w = .ok z w)
    (h : IM K mk w b l) (hm : a.eval m = .map (some b)) (i : κ) (hi : K.ok i) (hx : a.eval x = K.kv i) (y : α) (hy : getM l i = some y) (v : Value) (hv : mk y = v)
    (hK : wpList P ops Q rest (a.put o.dst (.tuple #[v, .bool true])) w) : wpList P ops Q (o :: rest) a w :=
  wpList_lookup_im hg m x t e hop ht z hz h hm i hi hx (by rw [hy]; show wpList P ops Q rest (a.put o.dst (.tuple #[mk y, .bool true])) w; rw [hv]; exact hK)
theorem wpList_lookup_im_none [DecidableEq κ] (hg : o.guard = none) (m x : Operand) (t e : TypeId) (hop : o.op = Op.lookup t m x true) (ht : P.underlying t = some (.map k e)) (z : Value) (hz : ∀ w, (zeroValue e).run P w = .ok z w)
    (h : IM K mk w b l) (hm : a.eval m = .map (some b)) (i : κ) (hi : K.ok i) (hx : a.eval x = K.kv i) (hy : getM l i = none)
    (hK : wpList P ops Q rest (a.put o.dst (.tuple #[z, .bool false])) w) : wpList P ops Q (o :: rest) a w :=
  wpList_lookup_im hg m x t e hop ht z hz h hm i hi hx (by rw [hy]; exact hK)
theorem wpList_mapUpdate_im [DecidableEq κ] (hg : o.guard = none) (m x v : Operand) (t e : TypeId) (hop : o.op = Op.mapUpdate t m x v) (ht : P.underlying t = some (.map k e))
    (h : IM K mk w b l) (hm : a.eval m = .map (some b)) (i : κ) (hi : K.ok i) (y : α) (hx : a.eval x = K.kv i) (hv : a.eval v = mk y)
    (hK : ∀ w', IM K mk w' b (putM l i y) → M.But b w w' → wpList P ops Q rest (a.put o.dst undef) w') :
    wpList P ops Q (o :: rest) a w := by
  refine wpList_plain hg fun K' hK' => ?_
  obtain ⟨w', hrun, r1, r2⟩ := h.put ht hi y
  unfold Oper.wp
  simp [execOp, hop, hm, hx, hv, hrun, Result.andThen]
  exact hK' _ _ (hK w' r1 r2)
theorem wpList_delete_im [DecidableEq κ] (hg : o.guard = none) (m x : Operand) (t e : TypeId) (hop : o.op = Op.call { callee := Callee.builtin Builtin.delete, args := #[m, x], argTypes := #[t, k] }) (ht : P.underlying t = some (.map k e))
    (h : IM K mk w b l) (hm : a.eval m = .map (some b)) (i : κ) (hi : K.ok i) (hx : a.eval x = K.kv i)
    (hK : ∀ w', IM K mk w' b (delM l i) → M.But b w w' → wpList P ops Q rest (a.put o.dst (.tuple #[])) w') :
    wpList P ops Q (o :: rest) a w := by
  refine wpList_plain hg fun K' hK' => ?_
  obtain ⟨w', hrun, r1, r2⟩ := h.del o.type ht hi
  unfold Oper.wp
  simp [execOp, hop, resolve, invoke, builtin, hm, hx, hrun, Result.andThen]
  exact hK' _ _ (hK w' r1 r2)
theorem IM.run_len (h : IM K mk w b l) {t e : TypeId} (ty : TypeId) (ht : P.underlying t = some (.map k e)) : (Builtin.len_ #[t] ty #[.map (some b)]).run P w = .ok (.int .i64 (l.length : Nat)) w := by
  obtain ⟨es, clock, hb, hs, he, ho⟩ := h
  have hl : es.size = l.length := by have := congrArg List.length he; simpa using this
  simp [Builtin.len_, run_underlying ht, MapKept.run_getObj_map hb, Result.andThen, goInt, hl]
theorem wpList_len_im (hg : o.guard = none) (m : Operand) (t e : TypeId) (hop : o.op = Op.call { callee := Callee.builtin Builtin.len, args := #[m], argTypes := #[t] }) (ht : P.underlying t = some (.map k e))
    (h : IM K mk w b l) (hm : a.eval m = .map (some b)) (hK : wpList P ops Q rest (a.put o.dst (.int .i64 (l.length : Nat))) w) : wpList P ops Q (o :: rest) a w := by
  refine wpList_plain hg fun K' hK' => ?_
  unfold Oper.wp
  simp [execOp, hop, resolve, invoke, builtin, hm, h.run_len o.type ht, Result.andThen]
  exact hK' _ _ hK
theorem wpList_range_im (hg : o.guard = none) (m : Operand) (t e : TypeId) (hop : o.op = Op.range t m) (ht : P.underlying t = some (.map k e))
    (h : IM K mk w b l) (hm : a.eval m = .map (some b))
    (hK : ∀ w', IR K mk w' b w.heap.size l l → Below w.heap.size w w' → w'.heap.size = w.heap.size + 1 → wpList P ops Q rest (a.put o.dst (.pointer (some ⟨w.heap.size, 0, none⟩))) w') :
    wpList P ops Q (o :: rest) a w := by
  refine wpList_plain hg fun K' hK' => ?_
  obtain ⟨w', hrun, r1, r2, r3⟩ := h.range ht
  unfold Oper.wp
  simp [execOp, hop, hm, hrun, Result.andThen]
  exact hK' _ _ (hK w' r1 r2 r3)
theorem wpList_next_im (hg : o.guard = none) (it : Operand) (hop : o.op = Op.next it false) (r : Nat) (left : List (κ × α)) (hit : a.eval it = .pointer (some ⟨r, 0, none⟩)) (h : IR K mk w b r l left)
    (hDone : left = [] → wpList P ops Q rest (a.put o.dst (.tuple #[.bool false])) w)
    (hMore : ∀ (L1 : List (κ × α)) (p : κ × α) (L2 : List (κ × α)) (w' : World), left = L1 ++ p :: L2 → IR K mk w' b r l (L1 ++ L2) → M.But r w w' → w'.heap.size = w.heap.size → (Instr.entry (.pointer (some ⟨r, 0, none⟩))).run P w' = .ok (.tuple #[K.kv p.1, mk p.2]) w' →
      wpList P ops Q rest (a.put o.dst (.tuple #[.bool true, K.kv p.1, mk p.2])) w') :
    wpList P ops Q (o :: rest) a w := by
  refine wpList_plain hg fun K' hK' => ?_
  unfold Oper.wp
  rcases h.next o.type with ⟨h0, hrun⟩ | ⟨L1, p, L2, w', h0, hrun, r1, r2, r3, r4⟩
  · simp [execOp, hop, hit, hrun, Result.andThen]
    exact hK' _ _ (hDone h0)
  · simp [execOp, hop, hit, hrun, Result.andThen]
    exact hK' _ _ (hMore L1 p L2 w' h0 r1 r2 r3 r4)
end
end Go.Proofs.Ytnnnbgndbmcffaa
