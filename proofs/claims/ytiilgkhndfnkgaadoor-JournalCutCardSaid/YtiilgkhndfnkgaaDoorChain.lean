/- Regions that draw their order, where the operations that make or write memory wait for one another in a row: ONE walk, with the world itself in hand, serves every order; no conditions of its own. -/
import Derived.Test.YtiilgkhndfnkgaaDoorRely
import Derived.Test.YtiilgkhndfnkgaaDoorQuietT
import Derived.Test.YtiilgkhndfnkgaaDoorMem
namespace Go.Proofs.YtiilgkhndfnkgaaDoor
namespace QC
open Go.RowKit
open QP (upon oat wp_of_oat)
open QT (dep)
open QR (upd updV putAll apartB putAll_congr putAll_step lf lf_set cnt cnt_set size_put)
set_option linter.unusedVariables false
variable {P : Program}

/-- o yields v in the world w, and leaves it -/
def Y (P : Program) (ops : Array Oper) (o : Oper) (a : Act) (v : Value) (w : World) : Prop :=
  (Region.wanted o (yielded ops a.tmps) = true ∧ oat P o a (fun u => u = w) w v) ∨ (Region.wanted o (yielded ops a.tmps) = false ∧ v = undef)
abbrev Fl := List (Nat × (World → Prop))
/-- the walk: quiet operations as soon as they can, each with what it rests on; an effect must leave what the floating ones rest on -/
def wpC (P : Program) (ops : Array Oper) (E : List Nat) (Q : Exit → Act → World → Prop) : List Nat → Fl → Act → World → Prop
  | [], _, a, w => Q .normal a w
  | i :: r, F, a, w => ∃ o, ops[i]? = some o ∧
    if E.contains i then
      wpList P ops (fun e a' w' => e = .normal ∧ a'.defers = a.defers ∧ (∀ x ∈ F, dep .any ops x.1 30 o = true ∨ x.2 w') ∧ wpC P ops E Q r F a' w') [o] a w
    else ∃ v, ((∀ u, Y P ops o a v u) ∧ wpC P ops E Q r F (a.put o.dst v) w) ∨ (∃ R : World → Prop, R w ∧ (∀ u, R u → Y P ops o a v u) ∧ wpC P ops E Q r ((i, R) :: F) (a.put o.dst v) w)

/-- operation o waits for number j by itself -/
def aft (o : Oper) (j : Nat) : Bool := o.after.toList.any fun e => Region.binds .any e && e.on == j
def lexB (l : List Oper) : Bool := (List.range l.length).all fun i => match l[i]? with | some o => o.after.toList.all fun e => !Region.binds .any e || decide (e.on < i) | none => true
/-- who writes what an operation looks at, it waits for -/
def readB (l : List Oper) : Bool := l.all fun o => (List.range l.length).all fun j => match l[j]? with | some x => (match x.dst with | some d => !(o.looksAt l.toArray).contains d || aft o j | none => true) | none => true
def ordB (l : List Oper) (E : List Nat) : List Nat → List Nat → Bool
  | [], done => (List.range l.length).all fun i => done.contains i
  | i :: r, done => !done.contains i && (match l[i]? with | some o => o.after.toList.all fun e => !Region.binds .any e || done.contains e.on | none => false) &&
    (!E.contains i || r.all fun k => match l[k]? with | some o => dep .any l.toArray i 30 o | none => false) && ordB l E r (i :: done)
def okC (l : List Oper) (E : List Nat) (ord : List Nat) : Bool := apartB l && lexB l && readB l && Region.noSelect l.toArray && ordB l E ord []

theorem tmps_congr {L L' : Nat → Bool} {V V' : Nat → Value} {t : Tmp} : ∀ (l : List Oper) (k : Nat) (a a' : Act), a.tmps[t]? = a'.tmps[t]? → a.tmps.size = a'.tmps.size → (∀ j o, l[j]? = some o → o.dst = some t → L (k + j) = L' (k + j) ∧ V (k + j) = V' (k + j)) →
    (putAll L V l k a).tmps[t]? = (putAll L' V' l k a').tmps[t]?
  | [], _, _, _, h, _, _ => h
  | o :: r, k, a, a', h, hs, hl => by
    unfold putAll
    refine tmps_congr r (k + 1) _ _ ?_ ?_ (fun j o' ho' hd => by have := hl (j + 1) o' (by simpa using ho') hd; simpa [Nat.add_assoc, Nat.add_comm 1 j] using this)
    · by_cases hd : o.dst = some t
      · obtain ⟨e1, e2⟩ := hl 0 o rfl hd
        simp only [Nat.add_zero] at e1 e2
        rw [e1, e2]
        split
        · rw [hd]; unfold Act.put; simp [Array.getElem?_setIfInBounds, hs]
        · exact h
      · have keep : ∀ (b : Bool) (x : Value) (c : Act), (if b = true then c.put o.dst x else c).tmps[t]? = c.tmps[t]? := fun b x c => by
          split
          · cases hx : o.dst with
            | none => rfl
            | some d =>
              have hne : d ≠ t := fun e => hd (by rw [hx, e])
              unfold Act.put; simp [Array.getElem?_setIfInBounds_ne hne]
          · rfl
        rw [keep, keep]; exact h
    · have keep : ∀ (b : Bool) (x : Value) (c : Act), (if b = true then c.put o.dst x else c).tmps.size = c.tmps.size := fun b x c => by
        split
        · exact size_put _ _ _
        · rfl
      rw [keep, keep]; exact hs
theorem exec_congr {ops : Array Oper} {a a' : Act} (o : Oper) (hs : ∀ cs b, o.op ≠ .select cs b) (h : ∀ t ∈ o.looksAt ops, a.tmps[t]? = a'.tmps[t]?) : execOp a.eval o = execOp a'.eval o := by
  refine execOp_congr o hs fun x hx => ?_
  cases x with
  | tmp t =>
    have := h t (List.mem_append_left _ (List.mem_filterMap.2 ⟨.tmp t, by simpa using hx, rfl⟩))
    show a.tmps.getD t undef = a'.tmps.getD t undef
    rw [Array.getD_eq_getD_getElem?, Array.getD_eq_getD_getElem?, this]
  | _ => rfl
theorem wanted_congr {ops : Array Oper} {a a' : Act} (o : Oper) (h : ∀ t ∈ o.looksAt ops, a.tmps[t]? = a'.tmps[t]?) : Region.wanted o (yielded ops a.tmps) = Region.wanted o (yielded ops a'.tmps) := by
  unfold Region.wanted
  cases hg : o.guard with
  | none => rfl
  | some gw =>
    obtain ⟨g, want⟩ := gw
    have hy : yielded ops a.tmps g = yielded ops a'.tmps g := by
      unfold yielded
      cases ht : (ops[g]?).bind (·.dst) with
      | none => rfl
      | some t => rw [Option.bind_some, Option.bind_some, h t (by simp [Oper.looksAt, hg, ht])]
    simp only [hy]
theorem Y_congr {ops : Array Oper} {a a' : Act} {o : Oper} {v : Value} {w : World} (hs : ∀ cs b, o.op ≠ .select cs b) (h : ∀ t ∈ o.looksAt ops, a.tmps[t]? = a'.tmps[t]?) (hy : Y P ops o a v w) : Y P ops o a' v w := by
  unfold Y oat at *
  rw [← exec_congr o hs h, ← wanted_congr o h]; exact hy

/-- a region that draws its order: the invariant I by what is listed and which values came, one step for each operation -/
theorem wp_region_g {id : Nat} {Q : Exit → Act → World → Prop} {a0 : Act} {w0 : World} {l : List Oper} (I : (Nat → Bool) → (Nat → Value) → World → Prop) (hm : P.follows .mixedOrders = true) (hap : apartB l = true)
    (hlex : ∀ i o, l[i]? = some o → ∀ e ∈ o.after.toList, Region.binds .any e = true → e.on < i)
    (h0 : ∀ V, I (fun _ => false) V w0.drew)
    (hstep : ∀ i o, l[i]? = some o → ∀ L V w, I L V w → L i = false → (∀ j o', l[j]? = some o' → L j = true → ∀ e ∈ o'.after.toList, Region.binds .any e = true → L e.on = true) →
      (∀ e ∈ o.after.toList, Region.binds .any e = true → L e.on = true) → ∀ a, a = putAll L V l 0 a0 → ∀ K : Act → World → Prop, (∀ v w', I (upd L i) (updV V i v) w' → K (a.put o.dst v) w') → if Region.wanted o (yielded l.toArray a.tmps) then o.wp P a w K Q else K (a.put o.dst undef) w)
    (hend : ∀ L V w, (∀ i, i < l.length → L i = true) → I L V w → Q .normal (putAll L V l 0 a0) w) : (Code.region id l.toArray true).wp P Q a0 w0 := by
  have key : ∀ (fuel : Nat) (listed : Array Bool) (V : Nat → Value) (w : World), listed.size = l.length → cnt l.length listed ≤ fuel → I (lf listed) V w →
      (∀ j o', l[j]? = some o' → lf listed j = true → ∀ e ∈ o'.after.toList, Region.binds .any e = true → lf listed e.on = true) →
      wpAny P .any l.toArray Q fuel listed (putAll (lf listed) V l 0 a0) w := by
    have full : ∀ (listed : Array Bool), listed.size = l.length → Region.ready .any l.toArray listed = [] → ∀ i, i < l.length → lf listed i = true := by
      intro listed hs hr i
      induction i using Nat.strongRecOn with
      | _ i ih =>
        intro hi
        rcases hb : lf listed i with _ | _
        · exfalso
          have ho : l[i]? = some (l[i]) := List.getElem?_eq_getElem hi
          have hmem : i ∈ Region.ready .any l.toArray listed := by
            refine mem_ready.2 ⟨?_, l[i], by simp, fun e he hbd => ?_⟩
            · unfold lf at hb
              rw [Array.getD_eq_getD_getElem?, Array.getElem?_eq_getElem (by omega)] at hb ⊢
              exact hb
            · have hlt := hlex i _ ho e (by simpa using he) hbd
              exact ih e.on (by omega) (by omega)
          rw [hr] at hmem; cases hmem
        · rfl
    intro fuel
    induction fuel with
    | zero =>
      intro listed V w hs hc hI hd
      have hall : ∀ i, i < l.length → lf listed i = true := fun i hi => by
        rcases hb : lf listed i with _ | _
        · exfalso
          have : 0 < cnt l.length listed := List.length_pos_iff.2 (List.ne_nil_of_mem (List.mem_filter.2 ⟨List.mem_range.2 hi, by simp [hb]⟩))
          omega
        · rfl
      refine ⟨?_, hend _ V w hall hI⟩
      rcases hr : Region.ready .any l.toArray listed with _ | ⟨i, r⟩
      · rfl
      · exfalso
        have hmem : i ∈ Region.ready .any l.toArray listed := by rw [hr]; exact List.mem_cons_self
        obtain ⟨h1, o, ho, _⟩ := mem_ready.1 hmem
        have hi : i < l.length := by have := (Array.getElem?_eq_some_iff.1 ho).1; simpa using this
        have := hall i hi
        unfold lf at this
        rw [Array.getD_eq_getD_getElem?, Array.getElem?_eq_getElem (by omega)] at this h1
        simp at this h1
        rw [this] at h1; cases h1
    | succ fuel ih =>
      intro listed V w hs hc hI hd
      refine ⟨fun hr => hend _ V w (full listed hs hr) hI, fun i hi => ?_⟩
      obtain ⟨h1, o, ho, hdep⟩ := mem_ready.1 hi
      have hol : l[i]? = some o := by simpa using ho
      have hil : i < l.length := (List.getElem?_eq_some_iff.1 hol).1
      have hLi : lf listed i = false := by
        unfold lf
        rw [Array.getD_eq_getD_getElem?, Array.getElem?_eq_getElem (by omega)] at h1 ⊢
        exact h1
      have nxt : ∀ v w', I (upd (lf listed) i) (updV V i v) w' → wpAny P .any l.toArray Q fuel (listed.setIfInBounds i true) ((putAll (lf listed) V l 0 a0).put o.dst v) w' := fun v w' hI' => by
        rw [putAll_step l 0 a0 hap (Nat.zero_le _) (by simpa using hol) hLi, ← lf_set (by omega)]
        rw [← lf_set (by omega)] at hI'
        refine ih _ _ w' (by simpa using hs) (by have := cnt_set (n := l.length) (listed := listed) (i := i) (by omega) hil hLi; omega) hI' (fun j o' hj hl e he hb => ?_)
        rw [lf_set (by omega)] at hl ⊢
        unfold upd at hl ⊢
        by_cases hji : j = i
        · subst hji
          obtain rfl : o' = o := Option.some.inj (hj.symm.trans hol)
          split
          · rfl
          · exact hdep e (by simpa using he) hb
        · rw [if_neg hji] at hl
          split
          · rfl
          · exact hd j o' hj hl e he hb
      have := hstep i o hol (lf listed) V w hI hLi hd (fun e he hb => hdep e (by simpa using he) hb) _ rfl _ nxt
      unfold wpOp
      simp only [ho]
      split
      · rename_i hw; rw [if_pos hw] at this; exact .inl this
      · rename_i hw; rw [if_neg hw] at this; exact this
  refine wp_region_any hm ?_
  have e0 : lf (Array.replicate l.length false) = fun _ => false := by
    funext j; unfold lf; rw [Array.getD_eq_getD_getElem?, Array.getElem?_replicate]; split <;> rfl
  have h1 := key l.toArray.size (Array.replicate l.length false) (fun _ => undef) w0.drew (by simp) (by unfold cnt; have := List.length_filter_le (fun i => !(lf (Array.replicate l.length false) i)) (List.range l.length); simpa using this) (by rw [e0]; exact h0 _) (fun j o' _ hl => by rw [e0] at hl; cases hl)
  have e1 : putAll (lf (Array.replicate l.length false)) (fun _ => undef) l 0 a0 = a0 := by
    rw [e0]
    have : ∀ (r : List Oper) (k : Nat) (a : Act), putAll (fun _ => false) (fun _ => undef) r k a = a := fun r => by
      induction r with
      | nil => intros; rfl
      | cons o r ih => intro k a; unfold putAll; rw [if_neg (by decide)]; exact ih _ _
    exact this l 0 a0
  rw [e1] at h1
  simpa using h1

/-- an unlisted operation that the walk has behind it -/
def Rob (P : Program) (l : List Oper) (E : List Nat) (F : Fl) (aW : Act) (w : World) (k : Nat) (v : Value) : Prop :=
  E.contains k = false ∧ ∃ o, l[k]? = some o ∧ ((∀ u, Y P l.toArray o aW v u) ∨ ∃ R, (k, R) ∈ F ∧ R w ∧ ∀ u, R u → Y P l.toArray o aW v u)
def dn (done : List Nat) : Nat → Bool := fun k => done.contains k
structure St (P : Program) (l : List Oper) (E : List Nat) (Q : Exit → Act → World → Prop) (a0 : Act) (L : Nat → Bool) (V : Nat → Value) (w : World) (W : Nat → Value) (ord done : List Nat) (F : Fl) : Prop where
  ag : ∀ k, L k = true → W k = V k
  od : ordB l E ord done = true
  sub : ∀ k, L k = true → dn done k = true
  eff : ∀ k, dn done k = true → E.contains k = true → L k = true
  dep : ∀ k o, dn done k = true → l[k]? = some o → ∀ e ∈ o.after.toList, Region.binds .any e = true → dn done e.on = true
  rob : ∀ k, dn done k = true → L k = false → Rob P l E F (putAll (dn done) W l 0 a0) w k (W k)
  wp : wpC P l.toArray E Q ord F (putAll (dn done) W l 0 a0) w
theorem dn_cons {i : Nat} {done : List Nat} (h : dn done i = false) : dn (i :: done) = upd (dn done) i := by
  funext j; unfold dn upd
  by_cases hj : j = i
  · subst hj; simp
  · rw [if_neg hj]; simp [hj]
theorem aft_of {l : List Oper} (hr : readB l = true) {o : Oper} {k : Nat} (ho : l[k]? = some o) {t : Tmp} (ht : t ∈ o.looksAt l.toArray) {j : Nat} {x : Oper} (hx : l[j]? = some x) (hd : x.dst = some t) : ∃ e ∈ o.after.toList, Region.binds .any e = true ∧ e.on = j := by
  unfold readB at hr
  have h1 := List.all_eq_true.1 hr o (List.mem_of_getElem? ho)
  have h2 := List.all_eq_true.1 h1 j (List.mem_range.2 (List.getElem?_eq_some_iff.1 hx).1)
  simp only [hx, hd, Bool.or_eq_true, Bool.not_eq_true'] at h2
  rcases h2 with h2 | h2
  · simp [ht] at h2
  · unfold aft at h2
    obtain ⟨e, he, hb⟩ := List.any_eq_true.1 h2
    simp only [Bool.and_eq_true, beq_iff_eq] at hb
    exact ⟨e, he, hb.1, hb.2⟩
theorem dep_all {l : List Oper} {L : Nat → Bool} (hD : ∀ j o', l[j]? = some o' → L j = true → ∀ e ∈ o'.after.toList, Region.binds .any e = true → L e.on = true) {t : Nat} : ∀ (f : Nat) (o : Oper), (∀ e ∈ o.after.toList, Region.binds .any e = true → L e.on = true) → dep .any l.toArray t f o = true → L t = true
  | 0, _, _, h => by simp [dep] at h
  | f + 1, o, hall, h => by
    unfold dep at h
    obtain ⟨e, he, hb⟩ := List.any_eq_true.1 h
    simp only [Bool.and_eq_true, Bool.or_eq_true, beq_iff_eq] at hb
    obtain ⟨h1, h2⟩ := hb
    rcases h2 with h2 | h2
    · rw [← h2]; exact hall e he h1
    · cases ho : l.toArray[e.on]? with
      | none => simp [ho] at h2
      | some o' =>
        simp only [ho] at h2
        have ho' : l[e.on]? = some o' := by simpa using ho
        exact dep_all hD f o' (hD e.on o' ho' (hall e he h1)) h2
section
variable {l : List Oper} {E : List Nat} {Q : Exit → Act → World → Prop} {a0 : Act} {L : Nat → Bool} {V W : Nat → Value} {w : World} {ord done : List Nat} {F : Fl}
theorem ordB_cons {i : Nat} {r : List Nat} (h : ordB l E (i :: r) done = true) : dn done i = false ∧ (∀ o, l[i]? = some o → ∀ e ∈ o.after.toList, Region.binds .any e = true → dn done e.on = true) ∧ (∃ o, l[i]? = some o) ∧
    (E.contains i = true → ∀ k ∈ r, ∃ o, l[k]? = some o ∧ dep .any l.toArray i 30 o = true) ∧ ordB l E r (i :: done) = true := by
  unfold ordB at h
  simp only [Bool.and_eq_true, Bool.not_eq_true', Bool.or_eq_true] at h
  obtain ⟨⟨⟨h1, h2⟩, h3⟩, h4⟩ := h
  refine ⟨h1, fun o ho e he hb => ?_, ?_, fun hE k hk => ?_, h4⟩
  · simp only [ho] at h2
    have := List.all_eq_true.1 h2 e he
    simpa [hb, dn] using this
  · cases ho : l[i]? with
    | none => simp [ho] at h2
    | some o => exact ⟨o, rfl⟩
  · rcases h3 with h3 | h3
    · rw [hE] at h3; cases h3
    · have := List.all_eq_true.1 h3 k hk
      cases hk : l[k]? with
      | none => simp [hk] at this
      | some o => exact ⟨o, rfl, by simpa [hk] using this⟩
theorem ordB_mem {i : Nat} (hi : i < l.length) : ∀ (ord done : List Nat), ordB l E ord done = true → dn done i = false → i ∈ ord
  | [], done, h, hd => by
    unfold ordB at h
    have := List.all_eq_true.1 h i (List.mem_range.2 hi)
    unfold dn at hd; rw [hd] at this; cases this
  | j :: r, done, h, hd => by
    obtain ⟨h1, _, _, _, h5⟩ := ordB_cons h
    by_cases hij : i = j
    · subst hij; exact List.mem_cons_self
    · refine List.mem_cons_of_mem _ (ordB_mem hi r _ h5 ?_)
      rw [dn_cons h1]; unfold upd; rw [if_neg hij]; exact hd
theorem agree (hr : readB l = true) {k : Nat} {o : Oper} (ho : l[k]? = some o) {L' : Nat → Bool} {V' : Nat → Value} (h : ∀ e ∈ o.after.toList, Region.binds .any e = true → L e.on = L' e.on ∧ V e.on = V' e.on) : ∀ t ∈ o.looksAt l.toArray, (putAll L V l 0 a0).tmps[t]? = (putAll L' V' l 0 a0).tmps[t]? := fun t ht =>
  tmps_congr l 0 _ _ rfl rfl fun j x hx hd => by
    obtain ⟨e, he, hb, hj⟩ := aft_of hr ho ht hx hd
    have := h e he hb
    rw [hj] at this; simpa using this
theorem St.quiet {i : Nat} {r : List Nat} (hap : apartB l = true) (hr : readB l = true) (hsel : ∀ o ∈ l, ∀ cs b, o.op ≠ .select cs b) (s : St P l E Q a0 L V w W (i :: r) done F) (hE : E.contains i = false) : ∃ W' F', St P l E Q a0 L V w W' r (i :: done) F' := by
  obtain ⟨h1, h2, ⟨o, ho⟩, _, h5⟩ := ordB_cons s.od
  have hLi : L i = false := by
    cases hb : L i
    · rfl
    · have := s.sub i hb; rw [h1] at this; cases this
  have hwp := s.wp
  obtain ⟨o', ho', hwp⟩ := hwp
  obtain rfl : o' = o := Option.some.inj (by rw [← ho, ← ho']; simp)
  rw [hE, if_neg (by decide)] at hwp
  obtain ⟨v, hwp⟩ := hwp
  have eput : (putAll (dn done) W l 0 a0).put o'.dst v = putAll (dn (i :: done)) (updV W i v) l 0 a0 := by
    rw [putAll_step l 0 a0 hap (Nat.zero_le _) (by simpa using ho) h1, dn_cons h1]
  have Ymv : ∀ k x v' u, l[k]? = some x → (∀ e ∈ x.after.toList, Region.binds .any e = true → dn done e.on = true) → Y P l.toArray x (putAll (dn done) W l 0 a0) v' u → Y P l.toArray x (putAll (dn (i :: done)) (updV W i v) l 0 a0) v' u := fun k x v' u hx hdep hy =>
    Y_congr (hsel x (List.mem_of_getElem? hx)) (agree hr hx (fun e he hb => by
      have hd := hdep e he hb
      have hne : e.on ≠ i := fun he => by rw [he, h1] at hd; cases hd
      rw [dn_cons h1]
      exact ⟨(if_neg hne).symm, (if_neg hne).symm⟩)) hy
  have mk : ∀ F' : Fl, (∀ x ∈ F, x ∈ F') → Rob P l E F' (putAll (dn (i :: done)) (updV W i v) l 0 a0) w i v → wpC P l.toArray E Q r F' ((putAll (dn done) W l 0 a0).put o'.dst v) w → ∃ W' F', St P l E Q a0 L V w W' r (i :: done) F' := fun F' hF hrob hw => by
    refine ⟨updV W i v, F', ⟨fun k hk => ?_, h5, fun k hk => ?_, fun k hk hEk => ?_, fun k x hk hx e he hb => ?_, fun k hk hLk => ?_, by rw [← eput]; exact hw⟩⟩
    · have hne : k ≠ i := fun e => by rw [e, hLi] at hk; cases hk
      show (if k = i then v else W k) = V k
      rw [if_neg hne]; exact s.ag k hk
    · rw [dn_cons h1]; unfold upd
      split
      · rfl
      · exact s.sub k hk
    · rw [dn_cons h1] at hk; unfold upd at hk
      by_cases hki : k = i
      · subst hki; rw [hE] at hEk; cases hEk
      · rw [if_neg hki] at hk; exact s.eff k hk hEk
    · rw [dn_cons h1] at hk ⊢; unfold upd at hk ⊢
      split
      · rfl
      · by_cases hki : k = i
        · subst hki
          obtain rfl : x = o' := Option.some.inj (hx.symm.trans ho)
          exact h2 x ho e he hb
        · rw [if_neg hki] at hk; exact s.dep k x hk hx e he hb
    · by_cases hki : k = i
      · subst hki
        show Rob P l E F' _ w k (if k = k then v else W k)
        rw [if_pos rfl]; exact hrob
      · rw [dn_cons h1] at hk; unfold upd at hk; rw [if_neg hki] at hk
        obtain ⟨g1, x, hx, g2⟩ := s.rob k hk hLk
        show Rob P l E F' _ w k (if k = i then v else W k)
        rw [if_neg hki]
        refine ⟨g1, x, hx, ?_⟩
        rcases g2 with g2 | ⟨R, g2, g3, g4⟩
        · exact .inl fun u => Ymv k x _ u hx (fun e he hb => s.dep k x hk hx e he hb) (g2 u)
        · exact .inr ⟨R, hF _ g2, g3, fun u hu => Ymv k x _ u hx (fun e he hb => s.dep k x hk hx e he hb) (g4 u hu)⟩
  rcases hwp with ⟨hy, hw⟩ | ⟨R, hR, hy, hw⟩
  · exact mk F (fun x hx => hx) ⟨hE, o', ho, .inl fun u => Ymv i o' v u ho (fun e he hb => h2 o' ho e he hb) (hy u)⟩ hw
  · exact mk ((i, R) :: F) (fun x hx => List.mem_cons_of_mem _ hx) ⟨hE, o', ho, .inr ⟨R, List.mem_cons_self, hR, fun u hu => Ymv i o' v u ho (fun e he hb => h2 o' ho e he hb) (hy u hu)⟩⟩ hw
/-- the walk goes on to an effect, or until i is behind it -/
theorem St.adv (hap : apartB l = true) (hr : readB l = true) (hsel : ∀ o ∈ l, ∀ cs b, o.op ≠ .select cs b) {i : Nat} (hi : i < l.length) : ∀ (ord done : List Nat) (W : Nat → Value) (F : Fl), St P l E Q a0 L V w W ord done F →
    ∃ W' ord' done' F', St P l E Q a0 L V w W' ord' done' F' ∧ (dn done' i = true ∨ ∃ p r, ord' = p :: r ∧ E.contains p = true)
  | [], done, W, F, s => by
    cases hd : dn done i
    · have := ordB_mem hi [] done s.od hd; cases this
    · exact ⟨W, [], done, F, s, .inl hd⟩
  | p :: r, done, W, F, s => by
    cases hE : E.contains p
    · obtain ⟨W', F', s'⟩ := s.quiet hap hr hsel hE
      exact St.adv hap hr hsel hi r (p :: done) W' F' s'
    · exact ⟨W, p :: r, done, F, s, .inr ⟨p, r, rfl, hE⟩⟩
theorem St.finish (hap : apartB l = true) (hr : readB l = true) (hsel : ∀ o ∈ l, ∀ cs b, o.op ≠ .select cs b) (hL : ∀ i, i < l.length → L i = true) : ∀ (ord done : List Nat) (W : Nat → Value) (F : Fl), St P l E Q a0 L V w W ord done F → Q .normal (putAll L V l 0 a0) w
  | [], done, W, F, s => by
    have h := s.wp
    have e : putAll (dn done) W l 0 a0 = putAll L V l 0 a0 := putAll_congr l 0 a0 fun j _ hj => by
      have hLj := hL j (by omega)
      exact ⟨by rw [s.sub j hLj, hLj], s.ag j hLj⟩
    rw [← e]; exact h
  | p :: r, done, W, F, s => by
    obtain ⟨h1, _, ⟨o, ho⟩, _, _⟩ := ordB_cons s.od
    have := s.sub p (hL p (List.getElem?_eq_some_iff.1 ho).1)
    rw [h1] at this; cases this
end
theorem wp_region_c {id : Nat} {Q : Exit → Act → World → Prop} {a : Act} {w : World} {l : List Oper} (E ord : List Nat) (hm : P.follows .mixedOrders = true) (hB : okC l E ord = true)
    (h : wpC P l.toArray E Q ord [] a w.drew) : (Code.region id l.toArray true).wp P Q a w := by
  unfold okC at hB
  simp only [Bool.and_eq_true] at hB
  obtain ⟨⟨⟨⟨hap, hlx⟩, hr⟩, hns⟩, hord⟩ := hB
  have hsel : ∀ o ∈ l, ∀ cs b, o.op ≠ .select cs b := fun o ho cs b => by
    obtain ⟨j, hj⟩ := List.getElem?_of_mem ho
    exact Region.noSelect_spec hns j o cs b (by simpa using hj)
  have hlex : ∀ i o, l[i]? = some o → ∀ e ∈ o.after.toList, Region.binds .any e = true → e.on < i := fun i o ho e he hb => by
    have h1 := List.all_eq_true.1 hlx i (List.mem_range.2 (List.getElem?_eq_some_iff.1 ho).1)
    simp only [ho] at h1
    have := List.all_eq_true.1 h1 e he
    simpa [hb] using this
  have p0 : ∀ V : Nat → Value, putAll (dn []) V l 0 a = a := fun V => by
    have : ∀ (r : List Oper) (k : Nat) (a : Act), putAll (dn []) V r k a = a := fun r => by
      induction r with
      | nil => intros; rfl
      | cons o r ih => intro k a; unfold putAll; rw [if_neg (by unfold dn; simp)]; exact ih _ _
    exact this l 0 a
  refine wp_region_g (fun L V w => ∃ W ord done F, St P l E Q a L V w W ord done F) hm hap hlex (fun V => ⟨V, ord, [], [], ⟨fun k hk => (by cases hk), hord, fun k hk => (by cases hk), fun k hk => (by simp [dn] at hk), fun k o hk => (by simp [dn] at hk), fun k hk => (by simp [dn] at hk), by rw [p0]; exact h⟩⟩) ?_ (fun L V w hL ⟨W, ord, done, F, s⟩ => s.finish hap hr hsel hL _ _ _ _)
  intro i o ho L V u ⟨W, ord, done, F, s⟩ hLi hD hdp aA haA K hK
  have hi : i < l.length := (List.getElem?_eq_some_iff.1 ho).1
  obtain ⟨W, ord, done, F, s, hcase⟩ := s.adv hap hr hsel hi
  have hso := hsel o (List.mem_of_getElem? ho)
  have cong : ∀ t ∈ o.looksAt l.toArray, (putAll (dn done) W l 0 a).tmps[t]? = aA.tmps[t]? := by
    rw [haA]
    exact agree hr ho fun e he hb => by
      have := hdp e he hb
      exact ⟨by rw [s.sub _ this, this], s.ag _ this⟩
  cases hdi : dn done i
  · -- the next effect
    rcases hcase with hc | ⟨p, r, rfl, hE⟩
    · rw [hdi] at hc; cases hc
    obtain ⟨h1, h2, ⟨op, hop⟩, h4, h5⟩ := ordB_cons s.od
    have hmem := ordB_mem hi _ _ s.od hdi
    have hip : i = p := by
      rcases List.mem_cons.1 hmem with e | hmem
      · exact e
      · obtain ⟨x, hx, hdx⟩ := h4 hE i hmem
        obtain rfl : x = o := Option.some.inj (hx.symm.trans ho)
        have := s.sub p (dep_all hD 30 x hdp hdx)
        rw [h1] at this; cases this
    subst hip
    obtain ⟨o', ho', hwp⟩ := s.wp
    obtain rfl : o' = o := Option.some.inj (by rw [← ho, ← ho']; simp)
    rw [hE, if_pos rfl] at hwp
    have nxt : ∀ v w', (∀ x ∈ F, dep .any l.toArray x.1 30 o' = true ∨ x.2 w') → wpC P l.toArray E Q r F ((putAll (dn done) W l 0 a).put o'.dst v) w' → K (aA.put o'.dst v) w' := fun v w' hF hw => by
      have eput : (putAll (dn done) W l 0 a).put o'.dst v = putAll (dn (i :: done)) (updV W i v) l 0 a := by
        rw [putAll_step l 0 a hap (Nat.zero_le _) (by simpa using ho) h1, dn_cons h1]
      refine hK v w' ⟨updV W i v, r, i :: done, F, ⟨fun k hk => ?_, h5, fun k hk => ?_, fun k hk hEk => ?_, fun k x hk hx e he hb => ?_, fun k hk hLk => ?_, by rw [← eput]; exact hw⟩⟩
      · unfold upd at hk; unfold updV
        split
        · rfl
        · rename_i hne; rw [if_neg hne] at hk; exact s.ag k hk
      · rw [dn_cons h1]; unfold upd at hk ⊢
        split
        · rfl
        · rename_i hne; rw [if_neg hne] at hk; exact s.sub k hk
      · rw [dn_cons h1] at hk; unfold upd at hk ⊢
        split
        · rfl
        · rename_i hne; rw [if_neg hne] at hk; exact s.eff k hk hEk
      · rw [dn_cons h1] at hk ⊢; unfold upd at hk ⊢
        split
        · rfl
        · by_cases hki : k = i
          · subst hki
            obtain rfl : x = o' := Option.some.inj (hx.symm.trans ho)
            exact h2 x ho e he hb
          · rw [if_neg hki] at hk; exact s.dep k x hk hx e he hb
      · unfold upd at hLk
        have hki : k ≠ i := fun e => by rw [if_pos e] at hLk; cases hLk
        rw [if_neg hki] at hLk
        rw [dn_cons h1] at hk; unfold upd at hk; rw [if_neg hki] at hk
        obtain ⟨g1, x, hx, g2⟩ := s.rob k hk hLk
        show Rob P l E F _ w' k (if k = i then v else W k)
        rw [if_neg hki]
        have Ymv : ∀ u, Y P l.toArray x (putAll (dn done) W l 0 a) (W k) u → Y P l.toArray x (putAll (dn (i :: done)) (updV W i v) l 0 a) (W k) u := fun u hy =>
          Y_congr (hsel x (List.mem_of_getElem? hx)) (agree hr hx (fun e he hb => by
            have hd := s.dep k x hk hx e he hb
            have hne : e.on ≠ i := fun he => by rw [he, h1] at hd; cases hd
            rw [dn_cons h1]
            exact ⟨(if_neg hne).symm, (if_neg hne).symm⟩)) hy
        refine ⟨g1, x, hx, ?_⟩
        rcases g2 with g2 | ⟨R, g2, g3, g4⟩
        · exact .inl fun u => Ymv u (g2 u)
        · refine .inr ⟨R, g2, ?_, fun u hu => Ymv u (g4 u hu)⟩
          rcases hF _ g2 with hh | hh
          · have := dep_all hD 30 o' hdp hh
            rw [hLk] at this; cases this
          · exact hh
    unfold wpList at hwp
    rw [wanted_congr o' cong] at hwp
    split
    · rename_i hwt
      rw [if_pos hwt] at hwp
      rcases hwp with hwp | ⟨_, _, _, hout, _⟩
      · unfold Oper.wp at hwp ⊢
        rw [exec_congr o' hso cong] at hwp
        generalize (execOp aA.eval o').run P u = res at *
        cases res with
        | ok n w' =>
          cases n <;> simp only [Oper.upon] at hwp ⊢
          case value v => exact nxt v w' hwp.2.2.1 hwp.2.2.2
          case skip => exact nxt undef w' hwp.2.2.1 hwp.2.2.2
          case defer d =>
            have he := hwp.2.1
            have hp : ∀ (b : Act) (t : Option Tmp) (v : Value), (b.put t v).defers = b.defers := fun b t v => by cases t <;> rfl
            rw [hp] at he
            have := congrArg List.length he
            simp at this
          case enter f args =>
            refine Calls.mono hwp fun e w'' he => ?_
            cases e with
            | returned v => exact nxt v w'' he.2.2.1 he.2.2.2
            | panicked c => cases he.1
            | outgrown => obtain ⟨_, _, h, _⟩ := he; cases h
          case row row args => exact Rows.mono hwp fun v w'' he => nxt v w'' he.2.2.1 he.2.2.2
        | halt x w' =>
          cases x <;> simp only [Oper.upon] at hwp
          case panic v => cases hwp.1
      · cases hout
    · rename_i hwt
      rw [if_neg hwt] at hwp
      exact nxt undef u hwp.2.2.1 hwp.2.2.2
  · -- a quiet one that the walk has behind it
    obtain ⟨g1, x, hx, g2⟩ := s.rob i hdi hLi
    obtain rfl : x = o := Option.some.inj (hx.symm.trans ho)
    have hy : Y P l.toArray x (putAll (dn done) W l 0 a) (W i) u := by
      rcases g2 with g2 | ⟨R, _, g3, g4⟩
      · exact g2 u
      · exact g4 u g3
    have hy := Y_congr hso cong hy
    have nxt : K (aA.put x.dst (W i)) u := hK (W i) u ⟨W, ord, done, F, ⟨fun k hk => by
        unfold upd at hk; unfold updV
        by_cases hki : k = i
        · rw [if_pos hki, hki]
        · rw [if_neg hki] at hk; rw [if_neg hki]; exact s.ag k hk, s.od, fun k hk => by
        unfold upd at hk
        by_cases hki : k = i
        · rw [hki]; exact hdi
        · rw [if_neg hki] at hk; exact s.sub k hk, fun k hk hEk => by
        unfold upd
        split
        · rfl
        · exact s.eff k hk hEk, s.dep, fun k hk hLk => by
        unfold upd at hLk
        by_cases hki : k = i
        · rw [if_pos hki] at hLk; cases hLk
        · rw [if_neg hki] at hLk; exact s.rob k hk hLk, s.wp⟩⟩
    rcases hy with ⟨hw, hy⟩ | ⟨hw, hv⟩
    · rw [if_pos hw]
      refine wp_of_oat (C' := fun u' => u' = u) (K := fun a' => a' = aA.put x.dst (W i)) (fun a' w' e1 e2 => ?_) hy rfl
      rw [e1, e2]; exact nxt
    · rw [if_neg (by rw [hw]; decide)]
      rw [← hv]; exact nxt
section
variable {ops : Array Oper} {E : List Nat} {Q : Exit → Act → World → Prop} {i : Nat} {r : List Nat} {F : Fl} {a : Act} {w : World} {o : Oper}
theorem wpC_nil (h : Q .normal a w) : wpC P ops E Q [] F a w := h
/-- an operation that looks at no memory -/
theorem wpC_pure (ho : ops.toList[i]? = some o) (hE : E.contains i = false)
    (h : ∀ K : Act → Prop, (∀ a, wpC P ops E Q r F a w → K a) → if Region.wanted o (yielded ops a.tmps) then ∃ v, (∀ u, oat P o a (fun x => x = u) u v) ∧ K (a.put o.dst v) else K (a.put o.dst undef)) : wpC P ops E Q (i :: r) F a w := by
  have := h _ (fun _ h => h)
  refine ⟨o, by rw [← Array.getElem?_toList]; exact ho, ?_⟩
  rw [hE, if_neg (by decide)]
  split at this
  · rename_i hw
    obtain ⟨v, h1, h2⟩ := this
    exact ⟨v, .inl ⟨fun u => .inl ⟨hw, h1 u⟩, h2⟩⟩
  · rename_i hw
    exact ⟨undef, .inl ⟨fun u => .inr ⟨by simpa using hw, rfl⟩, this⟩⟩
/-- an operation that rests on R -/
theorem wpC_rest (R : World → Prop) (v : Value) (ho : ops.toList[i]? = some o) (hE : E.contains i = false) (hw : Region.wanted o (yielded ops a.tmps) = true) (hR : R w) (hy : ∀ u, R u → oat P o a (fun x => x = u) u v)
    (h : wpC P ops E Q r ((i, R) :: F) (a.put o.dst v) w) : wpC P ops E Q (i :: r) F a w := by
  refine ⟨o, by rw [← Array.getElem?_toList]; exact ho, ?_⟩
  rw [hE, if_neg (by decide)]
  exact ⟨v, .inr ⟨R, hR, fun u hu => .inl ⟨hw, hy u hu⟩, h⟩⟩
theorem wpC_load {ty : TypeId} {x : Operand} {p : Addr} {v : Value} (ho : ops.toList[i]? = some o) (hE : E.contains i = false) (hop : o.op = .load ty x) (hw : Region.wanted o (yielded ops a.tmps) = true) (hx : a.eval x = .pointer (some p)) (hc : w.cell? p = some v)
    (hl : ∀ u : World, u.cell? p = some v → (Instr.loadAt ty (.pointer (some p))).run P u = .ok v u)
    (h : ∀ K : Act → Prop, (∀ a, wpC P ops E Q r ((i, fun u => u.cell? p = some v) :: F) a w → K a) → K (a.put o.dst v)) : wpC P ops E Q (i :: r) F a w := by
  refine wpC_rest (fun u => u.cell? p = some v) v ho hE hw hc (fun u hu => ?_) (h _ fun _ h => h)
  unfold oat execOp
  simp only [hop, hx, Sem.run_bind, Sem.run_pure, Result.andThen_ok, hl u hu]
  exact ⟨rfl, rfl⟩
/-- what an effect must leave -/
def effQ (P : Program) (ops : Array Oper) (E : List Nat) (Q : Exit → Act → World → Prop) (r : List Nat) (F : Fl) (o : Oper) (a : Act) (e : Exit) (a' : Act) (w' : World) : Prop :=
  e = .normal ∧ a'.defers = a.defers ∧ (∀ x ∈ F, dep .any ops x.1 30 o = true ∨ x.2 w') ∧ wpC P ops E Q r F a' w'
theorem eff_ok {a' : Act} {w' : World} (hd : a'.defers = a.defers) (hF : ∀ x ∈ F, dep .any ops x.1 30 o = true ∨ x.2 w') (h : wpC P ops E Q r F a' w') : effQ P ops E Q r F o a .normal a' w' := ⟨rfl, hd, hF, h⟩
/-- an operation that makes or writes memory -/
theorem wpC_eff (ho : ops.toList[i]? = some o) (hE : E.contains i = true)
    (h : wpList P ops (effQ P ops E Q r F o a) [o] a w) : wpC P ops E Q (i :: r) F a w := by
  refine ⟨o, by rw [← Array.getElem?_toList]; exact ho, ?_⟩
  rw [hE, if_pos rfl]; exact h
theorem obl_nil {w' : World} : ∀ x ∈ ([] : Fl), dep .any ops x.1 30 o = true ∨ x.2 w' := fun x hx => by cases hx
theorem obl_dep {w' : World} {j : Nat} {R : World → Prop} (h : dep .any ops j 30 o = true) (hF : ∀ x ∈ F, dep .any ops x.1 30 o = true ∨ x.2 w') : ∀ x ∈ ((j, R) :: F : Fl), dep .any ops x.1 30 o = true ∨ x.2 w' := fun x hx => by
  rcases List.mem_cons.1 hx with e | e
  · subst e; exact .inl h
  · exact hF x e
theorem obl_is {w' : World} {j : Nat} {R : World → Prop} (h : R w') (hF : ∀ x ∈ F, dep .any ops x.1 30 o = true ∨ x.2 w') : ∀ x ∈ ((j, R) :: F : Fl), dep .any ops x.1 30 o = true ∨ x.2 w' := fun x hx => by
  rcases List.mem_cons.1 hx with e | e
  · subst e; exact .inr h
  · exact hF x e
end
/-- but for what was drawn, the same world -/
structure Dr (w u : World) : Prop where
  heap : u.heap = w.heap
  os : u.os = w.os
  tape : u.tape = w.tape
  output : u.output = w.output
section
variable {w u v : World}
theorem Dr.refl (w : World) : Dr w w := ⟨rfl, rfl, rfl, rfl⟩
theorem Dr.drew (w : World) : Dr w w.drew := ⟨rfl, rfl, rfl, rfl⟩
theorem Dr.trans (h : Dr w u) (h' : Dr u v) : Dr w v := ⟨h'.heap.trans h.heap, h'.os.trans h.os, h'.tape.trans h.tape, h'.output.trans h.output⟩
theorem Dr.cell (h : Dr w u) (p : Addr) : u.cell? p = w.cell? p := by unfold World.cell?; rw [h.heap]
theorem Dr.frozen (h : Dr w u) (p : Addr) : u.frozen? p = w.frozen? p := by unfold World.frozen?; rw [h.heap]
theorem Dr.row (h : Dr w u) {g : Nat} {t : TypeId} {cs : Array Value} (hr : M.RowAt w g t cs) : M.RowAt u g t cs := by unfold M.RowAt at *; rw [h.heap]; exact hr
theorem Dr.below {n : Nat} (h : Dr w u) : Below n w u := ⟨h.os, h.tape, h.output, by rw [h.heap]; exact Nat.le_refl _, fun k _ => by rw [h.heap]⟩
theorem Dr.size (h : Dr w u) : u.heap.size = w.heap.size := by rw [h.heap]
end
theorem wp_region_d {id : Nat} {Q : Exit → Act → World → Prop} {a : Act} {w : World} {l : List Oper} (E ord : List Nat) (hm : P.follows .mixedOrders = true) (hB : okC l E ord = true)
    (h : ∀ u, Dr w u → wpC P l.toArray E Q ord [] a u) : (Code.region id l.toArray true).wp P Q a w := wp_region_c E ord hm hB (h _ (Dr.drew w))
end QC
end Go.Proofs.YtiilgkhndfnkgaaDoor
