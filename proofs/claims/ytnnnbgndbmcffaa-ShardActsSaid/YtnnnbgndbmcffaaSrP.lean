/- What always holds of a bank is kept by each step and each beginning; plain words, no conditions. -/
import Derived.Test.YtnnnbgndbmcffaaSrF
namespace Go.Proofs.Ytnnnbgndbmcffaa
set_option linter.unusedVariables false

def Tsk.holds (T : Tsk) (s : Nat) : Prop := T.k ≤ T.m + 1 ∧ s ∈ T.needs.take T.k
theorem set_get {l : List Tsk} {i : Nat} {T : Tsk} (hT : l[i]? = some T) (X : Tsk) (j : Nat) : (l.set i X)[j]? = if i = j then some X else l[j]? := by
  rw [List.getElem?_set]
  have := (List.getElem?_eq_some_iff.1 hT).1
  split <;> simp_all
section
variable {S : BS} {i : Nat} {T : Tsk}
theorem BS.Ok.idx (h : S.Ok) (hT : S.tl[i]? = some T) : i < S.tl.length := (List.getElem?_eq_some_iff.1 hT).1
/-- a task put for another one that is alike but in how far it is -/
theorem BS.Ok.put (h : S.Ok) (hT : S.tl[i]? = some T) (X : Tsk) (f' : Nat → Int) (h' : Nat → Int) (dn' : List Nat) (hk : X.k ≤ X.m + 2)
    (hra : X.lists = false → (0 ≤ X.fr ∧ X.fr < (S.n : Int)) ∧ (0 ≤ X.to ∧ X.to < (S.n : Int)) ∧ 0 ≤ X.am ∧ X.told = []) (hrl : X.lists = true → X.fr = 0 ∧ X.to = 0 ∧ X.am = 0 ∧ X.er = 0)
    (hun : X.k ≤ X.m → X.er = 0 ∧ X.told = []) (htn : X.told.length ≤ 32) (hhd : ∀ s, s < 4 → ∀ j : Nat, h' s = (j : Int) ↔ ∃ T', (S.tl.set i X)[j]? = some T' ∧ T'.holds s) (hhr : ∀ s, s < 4 → h' s = -1 ∨ ∃ j : Nat, h' s = (j : Int))
    (hdd : dn'.Nodup) (hdm : ∀ j, j ∈ dn' ↔ ∃ T', (S.tl.set i X)[j]? = some T' ∧ T'.m < T'.k) : ({ S with f := f', h := h', tl := S.tl.set i X, dn := dn' } : BS).Ok := by
  have all : ∀ (p : Tsk → Prop), p X → (∀ (j : Nat) (T' : Tsk), S.tl[j]? = some T' → p T') → ∀ (j : Nat) (T' : Tsk), (S.tl.set i X)[j]? = some T' → p T' := fun p hX ho j T' hj => by
    rw [set_get hT] at hj
    split at hj
    · cases hj; exact hX
    · exact ho j T' hj
  exact ⟨h.n32, by simpa using h.t32, all _ hk h.km, all _ hra h.ra, all _ hrl h.rl, all _ hun h.un, all _ htn h.tn, hhd, hhr, hdd, hdm⟩
theorem needs_take {k : Nat} (h : T.m ≤ k) : T.needs.take k = T.needs := List.take_of_length_le h
theorem BS.Ok.lock (h : S.Ok) (hT : S.tl[i]? = some T) {s : Nat} (hs : T.needs[T.k]? = some s) (hh : S.h s = -1) : ({ S with h := upF S.h s i, tl := S.tl.set i T.next } : BS).Ok := by
  have hkm : T.k < T.m := (List.getElem?_eq_some_iff.1 hs).1
  have s4 : s < 4 := Tsk.lt4 (List.mem_of_getElem? hs)
  refine h.put hT T.next S.f (upF S.h s i) S.dn (by show T.k + 1 ≤ T.m + 2; omega) (h.ra i T hT) (h.rl i T hT) (fun hk => h.un i T hT (by have : T.k + 1 ≤ T.m := hk; omega)) (h.tn i T hT) (fun s' hs' j => ?_) (fun s' hs' => ?_) h.dd (fun j => ?_)
  · rw [set_get hT]
    by_cases e : s' = s
    · subst e
      rw [upF_same]
      by_cases ej : i = j
      · subst ej
        rw [if_pos rfl]
        refine ⟨fun _ => ⟨_, rfl, by show T.k + 1 ≤ T.m + 1; omega, ?_⟩, fun _ => rfl⟩
        show s' ∈ T.needs.take (T.k + 1)
        rw [List.take_add_one, hs]; simp
      · rw [if_neg ej]
        refine ⟨fun e => absurd (by exact_mod_cast e) ej, fun ⟨T', hT', hh'⟩ => ?_⟩
        have := (h.hd s' hs' j).2 ⟨T', hT', hh'⟩
        omega
    · rw [upF_ne S.h e, h.hd s' hs' j]
      by_cases ej : i = j
      · subst ej
        rw [if_pos rfl]
        constructor
        · rintro ⟨T', hT', h1, h2⟩
          obtain rfl : T = T' := Option.some.inj (hT.symm.trans hT')
          refine ⟨_, rfl, by show T.k + 1 ≤ T.m + 1; omega, ?_⟩
          show s' ∈ T.needs.take (T.k + 1)
          rw [List.take_add_one, hs]; simp [h2]
        · rintro ⟨T', hT', h1, h2⟩
          cases hT'
          have h2 : s' ∈ T.needs.take (T.k + 1) := h2
          rw [List.take_add_one, hs] at h2
          simp [e] at h2
          exact ⟨T, hT, by omega, h2⟩
      · rw [if_neg ej]; rfl
  · by_cases e : s' = s
    · subst e; rw [upF_same]; exact .inr ⟨i, rfl⟩
    · rw [upF_ne S.h e]; exact h.hr s' hs'
  · rw [h.dm j, set_get hT]
    by_cases ej : i = j
    · subst ej
      rw [if_pos rfl]
      constructor
      · rintro ⟨T', hT', h1⟩
        obtain rfl : T = T' := Option.some.inj (hT.symm.trans hT')
        omega
      · rintro ⟨T', hT', h1⟩
        cases hT'
        have : T.m < T.k + 1 := h1
        omega
    · rw [if_neg ej]
theorem BS.Ok.acted (h : S.Ok) (hT : S.tl[i]? = some T) (hk : T.k = T.m) (f' : Nat → Int) (er' : Int) (told' : List Int) (h1 : T.lists = false → told' = []) (h2 : T.lists = true → er' = 0) (h3 : told'.length ≤ 32) :
    ({ S with f := f', tl := S.tl.set i { T with k := T.k + 1, er := er', told := told' }, dn := S.dn ++ [i] } : BS).Ok := by
  have hni : i ∉ S.dn := fun hi => by
    obtain ⟨T', hT', h'⟩ := (h.dm i).1 hi
    obtain rfl : T = T' := Option.some.inj (hT.symm.trans hT')
    omega
  refine h.put hT { T with k := T.k + 1, er := er', told := told' } f' S.h (S.dn ++ [i]) (by show T.k + 1 ≤ T.m + 2; omega) (fun hl => ?_) (fun hl => ?_) (fun hk' => ?_) h3 (fun s' hs' j => ?_) h.hr ?_ (fun j => ?_)
  · obtain ⟨a, b, c, _⟩ := h.ra i T hT hl
    exact ⟨a, b, c, h1 hl⟩
  · obtain ⟨a, b, c, _⟩ := h.rl i T hT hl
    exact ⟨a, b, c, h2 hl⟩
  · have : T.k + 1 ≤ T.m := hk'
    omega
  · rw [h.hd s' hs' j, set_get hT]
    by_cases ej : i = j
    · subst ej
      rw [if_pos rfl]
      constructor
      · rintro ⟨T', hT', h1, h2⟩
        obtain rfl : T = T' := Option.some.inj (hT.symm.trans hT')
        refine ⟨_, rfl, by show T.k + 1 ≤ T.m + 1; omega, ?_⟩
        show s' ∈ T.needs.take (T.k + 1)
        rw [needs_take (by omega)]
        rwa [needs_take (by omega)] at h2
      · rintro ⟨T', hT', h1, h2⟩
        cases hT'
        have h2 : s' ∈ T.needs.take (T.k + 1) := h2
        rw [needs_take (by omega)] at h2
        exact ⟨T, hT, by omega, by rw [needs_take (by omega)]; exact h2⟩
    · rw [if_neg ej]; rfl
  · exact List.nodup_append.2 ⟨h.dd, by simp, fun a ha b hb e => hni (by simp at hb; rw [← hb, ← e]; exact ha)⟩
  · rw [List.mem_append, h.dm j, set_get hT]
    by_cases ej : i = j
    · subst ej
      rw [if_pos rfl]
      exact ⟨fun _ => ⟨_, rfl, by show T.m < T.k + 1; omega⟩, fun _ => .inr (by simp)⟩
    · rw [if_neg ej]
      constructor
      · rintro (h' | h')
        · exact h'
        · simp at h'; exact absurd h'.symm ej
      · exact .inl
theorem BS.Ok.free (h : S.Ok) (hT : S.tl[i]? = some T) (hk : T.k = T.m + 1) : ({ S with h := fun s => if S.h s = (i : Int) then -1 else S.h s, tl := S.tl.set i T.next } : BS).Ok := by
  refine h.put hT T.next S.f _ S.dn (by show T.k + 1 ≤ T.m + 2; omega) (h.ra i T hT) (h.rl i T hT) (fun hk' => by have : T.k + 1 ≤ T.m := hk'; omega) (h.tn i T hT) (fun s' hs' j => ?_) (fun s' hs' => ?_) h.dd (fun j => ?_)
  · rw [set_get hT]
    by_cases ej : i = j
    · subst ej
      rw [if_pos rfl]
      constructor
      · intro e
        split at e
        · omega
        · rename_i hne; exact absurd e hne
      · rintro ⟨T', hT', h1, _⟩
        cases hT'
        have : T.k + 1 ≤ T.m + 1 := h1
        omega
    · rw [if_neg ej]
      constructor
      · intro e
        split at e
        · omega
        · exact (h.hd s' hs' j).1 e
      · intro e
        have := (h.hd s' hs' j).2 e
        rw [if_neg (by rw [this]; omega)]; exact this
  · by_cases e : S.h s' = (i : Int)
    · rw [if_pos e]; exact .inl rfl
    · rw [if_neg e]; exact h.hr s' hs'
  · rw [h.dm j, set_get hT]
    by_cases ej : i = j
    · subst ej
      rw [if_pos rfl]
      constructor
      · rintro ⟨T', hT', h1⟩
        exact ⟨_, rfl, by show T.m < T.k + 1; omega⟩
      · rintro ⟨T', hT', h1⟩
        exact ⟨T, hT, by omega⟩
    · rw [if_neg ej]
theorem bals_len (S : BS) : S.bals.length = S.n := by simp [BS.bals]
theorem BS.Ok.act (h : S.Ok) (hT : S.tl[i]? = some T) (hk : T.k = T.m) : (S.act i T).Ok := by
  unfold BS.act
  have hu := h.un i T hT (by omega)
  split
  · rename_i hl
    have := h.acted hT hk S.f T.er S.bals (fun e => by rw [hl] at e; cases e) (fun _ => hu.1) (by rw [bals_len]; exact h.n32)
    exact this
  · rename_i hl
    have hl : T.lists = false := by simpa using hl
    have := h.acted hT hk (if movE S.n S.f T.fr T.to T.am = 0 then movF S.f T.fr.toNat T.to.toNat T.am else S.f) (movE S.n S.f T.fr T.to T.am) T.told (fun _ => hu.2) (fun e => by rw [hl] at e; cases e) (h.tn i T hT)
    exact this
theorem BS.Ok.stepT (h : S.Ok) (hT : S.tl[i]? = some T) : (S.stepT i T).1.Ok := by
  unfold BS.stepT
  split
  · rename_i s hs
    split
    · rename_i hh; exact h.lock hT hs hh
    · exact h
  · split
    · rename_i hk; exact h.act hT hk
    · split
      · rename_i hk; exact h.free hT hk
      · exact h
theorem BS.Ok.step (h : S.Ok) (id : Int) : (S.step id).1.Ok := by
  unfold BS.step
  split
  · split
    · rename_i T hT; exact h.stepT hT
    · exact h
  · exact h
theorem BS.Ok.begin (h : S.Ok) (X : Tsk) (h0 : X.k = 0) (hra : X.lists = false → (0 ≤ X.fr ∧ X.fr < (S.n : Int)) ∧ (0 ≤ X.to ∧ X.to < (S.n : Int)) ∧ 0 ≤ X.am ∧ X.told = []) (hrl : X.lists = true → X.fr = 0 ∧ X.to = 0 ∧ X.am = 0 ∧ X.er = 0)
    (hun : X.er = 0 ∧ X.told = []) : (S.begin X).1.Ok := by
  unfold BS.begin
  split
  · exact h
  · rename_i hlen
    have get : ∀ j, (S.tl ++ [X])[j]? = if j = S.tl.length then some X else S.tl[j]? := fun j => by
      rw [List.getElem?_append]
      by_cases e : j = S.tl.length
      · subst e; simp
      · rw [if_neg e]
        split
        · rfl
        · rw [List.getElem?_eq_none (by simp; omega), List.getElem?_eq_none (by omega)]
    have all : ∀ (p : Tsk → Prop), p X → (∀ (j : Nat) (T' : Tsk), S.tl[j]? = some T' → p T') → ∀ (j : Nat) (T' : Tsk), (S.tl ++ [X])[j]? = some T' → p T' := fun p hX ho j T' hj => by
      rw [get] at hj
      split at hj
      · cases hj; exact hX
      · exact ho j T' hj
    have none : ∀ j T', S.tl[j]? = some T' → j ≠ S.tl.length := fun j T' hj => by have := (List.getElem?_eq_some_iff.1 hj).1; omega
    refine ⟨h.n32, by simp; omega, all _ (by omega) h.km, all _ hra h.ra, all _ hrl h.rl, all _ (fun _ => hun) h.un, all _ (by rw [hun.2]; decide) h.tn, fun s hs j => ?_, h.hr, h.dd, fun j => ?_⟩
    · rw [show ({ S with tl := S.tl ++ [X] } : BS).h s = S.h s from rfl, h.hd s hs j]
      show _ ↔ ∃ T', (S.tl ++ [X])[j]? = some T' ∧ _
      rw [get]
      constructor
      · rintro ⟨T', hT', h1⟩
        exact ⟨T', by rw [if_neg (none j T' hT')]; exact hT', h1⟩
      · rintro ⟨T', hT', h1, h2⟩
        split at hT'
        · cases hT'; rw [h0] at h2; simp at h2
        · exact ⟨T', hT', h1, h2⟩
    · show j ∈ S.dn ↔ ∃ T', (S.tl ++ [X])[j]? = some T' ∧ _
      rw [h.dm j, get]
      constructor
      · rintro ⟨T', hT', h1⟩
        exact ⟨T', by rw [if_neg (none j T' hT')]; exact hT', h1⟩
      · rintro ⟨T', hT', h1⟩
        split at hT'
        · cases hT'; rw [h0] at h1; omega
        · exact ⟨T', hT', h1⟩
theorem BS.Ok.start (h : S.Ok) (fr to am : Int) (ha : 0 ≤ am) : (S.start fr to am).1.Ok := by
  unfold BS.start
  split
  · rename_i hin
    simp only [Bool.and_eq_true, inP, decide_eq_true_eq] at hin
    exact h.begin (mvT fr to am) rfl (fun _ => ⟨hin.1, hin.2, ha, rfl⟩) (fun e => by cases e) ⟨rfl, rfl⟩
  · exact h
theorem BS.Ok.list (h : S.Ok) : S.list.1.Ok := h.begin liT rfl (fun e => by cases e) (fun _ => ⟨rfl, rfl, rfl, rfl⟩) ⟨rfl, rfl⟩
/-- who is in a row of tasks, each once, is no more than they -/
theorem nodup_len : ∀ (n : Nat) (l : List Nat), l.Nodup → (∀ x ∈ l, x < n) → l.length ≤ n
  | 0, l, _, h => by
    cases l with
    | nil => exact Nat.le_refl _
    | cons x r => exact absurd (h x List.mem_cons_self) (by omega)
  | n + 1, l, hd, h => by
    have h1 := nodup_len n (l.filter (fun x => decide (x ≠ n))) (hd.filter _) (fun x hx => by
      obtain ⟨h1, h2⟩ := List.mem_filter.1 hx
      have := h x h1
      simp at h2; omega)
    by_cases hn : n ∈ l
    · have h2 : (l.filter (fun x => decide (x ≠ n))).length + 1 = l.length := by
        have e : l.filter (fun x => decide (x ≠ n)) = l.erase n := by
          rw [hd.erase_eq_filter]
          apply List.filter_congr
          intro x _
          by_cases hx : x = n <;> simp [hx]
        rw [e, List.length_erase_of_mem hn]
        have := List.length_pos_of_mem hn
        omega
      omega
    · have e : l.filter (fun x => decide (x ≠ n)) = l := List.filter_eq_self.2 fun x hx => by
        have : x ≠ n := fun e => hn (e ▸ hx)
        simp [this]
      rw [e] at h1; omega
theorem BS.Ok.dnlen (h : S.Ok) : S.dn.length ≤ S.tl.length := nodup_len _ _ h.dd fun x hx => by
  obtain ⟨T, hT, _⟩ := (h.dm x).1 hx
  exact (List.getElem?_eq_some_iff.1 hT).1
end
end Go.Proofs.Ytnnnbgndbmcffaa
