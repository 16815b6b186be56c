/- Regions that draw their order, with any many operations that make or write memory: one invariant by what is listed, one step for each operation; no conditions of its own. -/
import Derived.Orders
import Derived.Calls
import Derived.WalkKit
namespace Go.Proofs.YtiilgkhndfnkgaaDoor
namespace QR
set_option linter.unusedVariables false
variable {P : Program}

def upd (L : Nat → Bool) (i : Nat) : Nat → Bool := fun j => if j = i then true else L j
def updV (V : Nat → Value) (i : Nat) (v : Value) : Nat → Value := fun j => if j = i then v else V j
/-- the act once these are listed, with these values -/
def putAll (L : Nat → Bool) (V : Nat → Value) : List Oper → Nat → Act → Act
  | [], _, a => a
  | o :: r, k, a => putAll L V r (k + 1) (if L k then a.put o.dst (V k) else a)
def apartB : List Oper → Bool
  | [] => true
  | o :: r => (r.all fun x => match o.dst with | some d => x.dst != some d | none => true) && apartB r
def okFrom : List Oper → Nat → Bool
  | [], _ => true
  | o :: r, k => o.guard.isNone && (o.after.toList.all fun e => !Region.binds .any e || decide (e.on < k)) && okFrom r (k + 1)
def okB (ops : Array Oper) : Bool := apartB ops.toList && okFrom ops.toList 0

theorem putAll_comm {L : Nat → Bool} {V : Nat → Value} {x : Option Tmp} {v : Value} : ∀ (l : List Oper) (k : Nat) (a : Act), (∀ o ∈ l, ∀ d, x = some d → o.dst ≠ some d) → (putAll L V l k a).put x v = putAll L V l k (a.put x v)
  | [], _, _, _ => rfl
  | o :: r, k, a, h => by
    unfold putAll
    rw [putAll_comm r (k + 1) _ (fun o' ho' => h o' (List.mem_cons_of_mem _ ho'))]
    split
    · rw [Act.put_comm a v (V k) (h o List.mem_cons_self)]
    · rfl
theorem putAll_congr {L L' : Nat → Bool} {V V' : Nat → Value} : ∀ (l : List Oper) (k : Nat) (a : Act), (∀ j, k ≤ j → j < k + l.length → L j = L' j ∧ V j = V' j) → putAll L V l k a = putAll L' V' l k a
  | [], _, _, _ => rfl
  | o :: r, k, a, h => by
    unfold putAll
    obtain ⟨h1, h2⟩ := h k (Nat.le_refl _) (by simp)
    rw [h1, h2]
    exact putAll_congr r (k + 1) _ (fun j hj hj2 => h j (by omega) (by simp at hj2 ⊢; omega))
theorem putAll_step {L : Nat → Bool} {V : Nat → Value} {v : Value} {i : Nat} {o : Oper} : ∀ (l : List Oper) (k : Nat) (a : Act), apartB l = true → k ≤ i → l[i - k]? = some o → L i = false → (putAll L V l k a).put o.dst v = putAll (upd L i) (updV V i v) l k a
  | [], _, _, _, _, h, _ => by simp at h
  | x :: r, k, a, hap, hk, ho, hL => by
    unfold apartB at hap
    rw [Bool.and_eq_true] at hap
    unfold putAll
    by_cases hki : k = i
    · subst hki
      rw [Nat.sub_self] at ho
      obtain rfl : x = o := by simpa using ho
      rw [hL, if_neg (by decide), putAll_comm r (k + 1) a (fun o' ho' d hd => ?_)]
      · have e1 : upd L k k = true := if_pos rfl
        have e2 : updV V k v k = v := if_pos rfl
        rw [e1, e2, if_pos rfl]
        exact putAll_congr r (k + 1) _ (fun j hj _ => ⟨(if_neg (by omega)).symm, (if_neg (by omega)).symm⟩)
      · have := List.all_eq_true.1 hap.1 o' ho'
        rw [hd] at this
        simpa using this
    · have hk' : k < i := by omega
      have e1 : upd L i k = L k := if_neg hki
      have e2 : updV V i v k = V k := if_neg hki
      rw [e1, e2]
      have ho' : r[i - (k + 1)]? = some o := by rw [show i - k = (i - (k + 1)) + 1 by omega] at ho; simpa using ho
      exact putAll_step r (k + 1) _ hap.2 hk' ho' hL
theorem eval_put_ne {a : Act} {x : Option Tmp} {v : Value} {d : Tmp} (h : x ≠ some d) : (a.put x v).eval (.tmp d) = a.eval (.tmp d) := by
  cases x with
  | none => rfl
  | some e =>
    have hne : e ≠ d := fun h' => h (by rw [h'])
    unfold Act.put Act.eval
    simp [Array.getElem?_setIfInBounds_ne hne]
theorem eval_base {L : Nat → Bool} {V : Nat → Value} {d : Tmp} : ∀ (l : List Oper) (k : Nat) (a : Act), (l.all fun o => o.dst != some d) = true → (putAll L V l k a).eval (.tmp d) = a.eval (.tmp d)
  | [], _, _, _ => rfl
  | o :: r, k, a, h => by
    rw [List.all_cons, Bool.and_eq_true] at h
    unfold putAll
    rw [eval_base r (k + 1) _ h.2]
    split
    · exact eval_put_ne (by simpa using h.1)
    · rfl
theorem size_put (a : Act) (x : Option Tmp) (v : Value) : (a.put x v).tmps.size = a.tmps.size := by
  cases x <;> simp [Act.put]
theorem size_putAll {L : Nat → Bool} {V : Nat → Value} : ∀ (l : List Oper) (k : Nat) (a : Act), (putAll L V l k a).tmps.size = a.tmps.size
  | [], _, _ => rfl
  | o :: r, k, a => by
    unfold putAll
    rw [size_putAll r]
    split
    · exact size_put _ _ _
    · rfl
theorem eval_put_eq {a : Act} {v : Value} {d : Tmp} (h : d < a.tmps.size) : (a.put (some d) v).eval (.tmp d) = v := by
  unfold Act.put Act.eval
  simp [Array.getD_eq_getD_getElem?, Array.getElem?_setIfInBounds_self_of_lt h]
theorem eval_at {L : Nat → Bool} {V : Nat → Value} {d : Tmp} {o : Oper} {i : Nat} : ∀ (l : List Oper) (k : Nat) (a : Act), apartB l = true → d < a.tmps.size → k ≤ i → l[i - k]? = some o → o.dst = some d → L i = true → (putAll L V l k a).eval (.tmp d) = V i
  | [], _, _, _, _, _, h, _, _ => by simp at h
  | x :: r, k, a, hap, hd, hk, ho, hdst, hL => by
    unfold apartB at hap
    rw [Bool.and_eq_true] at hap
    unfold putAll
    by_cases hki : k = i
    · subst hki
      rw [Nat.sub_self] at ho
      obtain rfl : x = o := by simpa using ho
      rw [hL, if_pos rfl, eval_base r (k + 1) _ (List.all_eq_true.2 fun o' ho' => by
        have := List.all_eq_true.1 hap.1 o' ho'
        rw [hdst] at this
        exact this), hdst]
      exact eval_put_eq hd
    · have ho' : r[i - (k + 1)]? = some o := by rw [show i - k = (i - (k + 1)) + 1 by omega] at ho; simpa using ho
      refine eval_at r (k + 1) _ hap.2 ?_ (by omega) ho' hdst hL
      split
      · rw [size_put]; exact hd
      · exact hd
theorem okFrom_spec : ∀ (l : List Oper) (k : Nat), okFrom l k = true → ∀ i o, l[i]? = some o → o.guard = none ∧ ∀ e ∈ o.after.toList, Region.binds .any e = true → e.on < k + i
  | [], _, _, _, _, h => by simp at h
  | x :: r, k, h, i, o, ho => by
    unfold okFrom at h
    simp only [Bool.and_eq_true] at h
    cases i with
    | zero =>
      obtain rfl : x = o := by simpa using ho
      exact ⟨by simpa using h.1.1, fun e he hb => by have := List.all_eq_true.1 h.1.2 e he; rw [hb] at this; simpa using this⟩
    | succ i =>
      have := okFrom_spec r (k + 1) h.2 i o (by simpa using ho)
      exact ⟨this.1, fun e he hb => by have := this.2 e he hb; omega⟩
def lf (listed : Array Bool) : Nat → Bool := fun j => listed.getD j false
theorem lf_set {listed : Array Bool} {i : Nat} (h : i < listed.size) : lf (listed.setIfInBounds i true) = upd (lf listed) i := by
  funext j
  unfold lf upd
  simp only [Array.getD_eq_getD_getElem?, Array.getElem?_setIfInBounds]
  by_cases hij : i = j
  · subst hij; simp [h]
  · rw [if_neg hij, if_neg (fun e => hij e.symm)]
def cnt (n : Nat) (listed : Array Bool) : Nat := ((List.range n).filter fun i => !(lf listed i)).length
theorem cnt_set {n : Nat} {listed : Array Bool} {i : Nat} (h : i < listed.size) (hn : i < n) (hf : lf listed i = false) : cnt n (listed.setIfInBounds i true) < cnt n listed := by
  unfold cnt
  rw [lf_set h]
  have e : (List.range n).filter (fun j => !(upd (lf listed) i j)) = ((List.range n).filter fun j => !(lf listed j)).filter (fun j => decide (j ≠ i)) := by
    rw [List.filter_filter]
    apply List.filter_congr
    intro j _
    unfold upd
    by_cases hj : j = i
    · simp [hj]
    · simp [hj]
  rw [e]
  refine List.length_filter_lt_length_iff_exists.2 ⟨i, List.mem_filter.2 ⟨List.mem_range.2 hn, by simp [hf]⟩, by simp⟩
/-- a region that draws its order: the invariant I by what is listed and which values came, one step for each operation -/
theorem wp_region_r {id : Nat} {Q : Exit → Act → World → Prop} {a0 : Act} {w0 : World} {l : List Oper} (I : (Nat → Bool) → (Nat → Value) → World → Prop) (hm : P.follows .mixedOrders = true) (hB : okB l.toArray = true)
    (h0 : ∀ V, I (fun _ => false) V w0.drew)
    (hstep : ∀ i o, l[i]? = some o → ∀ L V w, I L V w → L i = false → (∀ j o', l[j]? = some o' → L j = true → ∀ e ∈ o'.after.toList, Region.binds .any e = true → L e.on = true) →
      (∀ e ∈ o.after.toList, Region.binds .any e = true → L e.on = true) → ∀ a, a = putAll L V l 0 a0 → ∀ K : Act → World → Prop, (∀ v w', I (upd L i) (updV V i v) w' → K (a.put o.dst v) w') → o.wp P a w K Q)
    (hend : ∀ L V w, (∀ i, i < l.length → L i = true) → I L V w → Q .normal (putAll (fun _ => true) V l 0 a0) w) : (Code.region id l.toArray true).wp P Q a0 w0 := by
  unfold okB at hB
  rw [Bool.and_eq_true] at hB
  have hap : apartB l = true := by simpa using hB.1
  have hok := okFrom_spec l 0 (by simpa using hB.2)
  have key : ∀ (fuel : Nat) (listed : Array Bool) (V : Nat → Value) (w : World), listed.size = l.length → cnt l.length listed ≤ fuel → I (lf listed) V w →
      (∀ j o', l[j]? = some o' → lf listed j = true → ∀ e ∈ o'.after.toList, Region.binds .any e = true → lf listed e.on = true) →
      wpAny P .any l.toArray Q fuel listed (putAll (lf listed) V l 0 a0) w := by
    have full : ∀ (listed : Array Bool), listed.size = l.length → Region.ready .any l.toArray listed = [] → ∀ i, i < l.length → lf listed i = true := by
      intro listed hs hr i
      induction i using Nat.strongRecOn with
      | _ i ih =>
        intro hi
        rcases hb : lf listed i with _ | _
        · exfalso
          have ho : l[i]? = some (l[i]) := List.getElem?_eq_getElem hi
          have hmem : i ∈ Region.ready .any l.toArray listed := by
            refine mem_ready.2 ⟨?_, l[i], by simp, fun e he hbd => ?_⟩
            · unfold lf at hb
              rw [Array.getD_eq_getD_getElem?, Array.getElem?_eq_getElem (by omega)] at hb ⊢
              exact hb
            · have hlt := (hok i _ ho).2 e (by simpa using he) hbd
              exact ih e.on (by omega) (by omega)
          rw [hr] at hmem; cases hmem
        · rfl
    have fin : ∀ (listed : Array Bool) (V : Nat → Value) (w : World), (∀ i, i < l.length → lf listed i = true) → I (lf listed) V w → Q .normal (putAll (lf listed) V l 0 a0) w := fun listed V w hall hI => by
      rw [putAll_congr (L' := fun _ => true) (V' := V) l 0 a0 (fun j _ hj => ⟨hall j (by omega), rfl⟩)]
      exact hend _ V w hall hI
    intro fuel
    induction fuel with
    | zero =>
      intro listed V w hs hc hI hd
      have hall : ∀ i, i < l.length → lf listed i = true := fun i hi => by
        rcases hb : lf listed i with _ | _
        · exfalso
          have : 0 < cnt l.length listed := List.length_pos_iff.2 (List.ne_nil_of_mem (List.mem_filter.2 ⟨List.mem_range.2 hi, by simp [hb]⟩))
          omega
        · rfl
      refine ⟨?_, fin listed V w hall hI⟩
      rcases hr : Region.ready .any l.toArray listed with _ | ⟨i, r⟩
      · rfl
      · exfalso
        have hmem : i ∈ Region.ready .any l.toArray listed := by rw [hr]; exact List.mem_cons_self
        obtain ⟨h1, o, ho, _⟩ := mem_ready.1 hmem
        have hi : i < l.length := by have := (Array.getElem?_eq_some_iff.1 ho).1; simpa using this
        have := hall i hi
        unfold lf at this
        rw [Array.getD_eq_getD_getElem?, Array.getElem?_eq_getElem (by omega)] at this h1
        simp at this h1
        rw [this] at h1; cases h1
    | succ fuel ih =>
      intro listed V w hs hc hI hd
      refine ⟨fun hr => fin listed V w (full listed hs hr) hI, fun i hi => ?_⟩
      obtain ⟨h1, o, ho, hdep⟩ := mem_ready.1 hi
      have hol : l[i]? = some o := by simpa using ho
      have hil : i < l.length := (List.getElem?_eq_some_iff.1 hol).1
      have hLi : lf listed i = false := by
        unfold lf
        rw [Array.getD_eq_getD_getElem?, Array.getElem?_eq_getElem (by omega)] at h1 ⊢
        exact h1
      obtain ⟨hg, _⟩ := hok i o hol
      have hw : Region.wanted o (yielded l.toArray (putAll (lf listed) V l 0 a0).tmps) = true := by unfold Region.wanted; rw [hg]
      unfold wpOp
      simp only [ho, hw, if_true]
      refine .inl (hstep i o hol (lf listed) V w hI hLi hd (fun e he hb => hdep e (by simpa using he) hb) _ rfl _ (fun v w' hI' => ?_))
      rw [putAll_step l 0 a0 hap (Nat.zero_le _) (by simpa using hol) hLi, ← lf_set (by omega)]
      rw [← lf_set (by omega)] at hI'
      refine ih _ _ w' (by simpa using hs) (by have := cnt_set (n := l.length) (listed := listed) (i := i) (by omega) hil hLi; omega) hI' (fun j o' hj hl e he hb => ?_)
      rw [lf_set (by omega)] at hl ⊢
      unfold upd at hl ⊢
      by_cases hji : j = i
      · subst hji
        obtain rfl : o' = o := Option.some.inj (hj.symm.trans hol)
        split
        · rfl
        · exact hdep e (by simpa using he) hb
      · rw [if_neg hji] at hl
        split
        · rfl
        · exact hd j o' hj hl e he hb
  refine wp_region_any hm ?_
  have e0 : lf (Array.replicate l.length false) = fun _ => false := by
    funext j; unfold lf; rw [Array.getD_eq_getD_getElem?, Array.getElem?_replicate]; split <;> rfl
  have h1 := key l.toArray.size (Array.replicate l.length false) (fun _ => undef) w0.drew (by simp) (by unfold cnt; have := List.length_filter_le (fun i => !(lf (Array.replicate l.length false) i)) (List.range l.length); simpa using this) (by rw [e0]; exact h0 _) (fun j o' _ hl => by rw [e0] at hl; cases hl)
  have e1 : putAll (lf (Array.replicate l.length false)) (fun _ => undef) l 0 a0 = a0 := by
    rw [e0]
    have : ∀ (r : List Oper) (k : Nat) (a : Act), putAll (fun _ => false) (fun _ => undef) r k a = a := fun r => by
      induction r with
      | nil => intros; rfl
      | cons o r ih => intro k a; unfold putAll; rw [if_neg (by decide)]; exact ih _ _
    exact this l 0 a0
  rw [e1] at h1
  simpa using h1
theorem get_of {a : Act} {d : Tmp} {v : Value} (h : a.eval (.tmp d) = v) : a.tmps[d]?.getD undef = v := by
  rw [← h]; unfold Act.eval; simp
theorem wp_append {o : Oper} {a : Act} {w w' : World} {K : Act → World → Prop} {Q : Exit → Act → World → Prop} (v' : Value) (s x : Operand) (t : TypeId)
    (ho : o.op = .call { callee := .builtin .append, args := #[s, x], argTypes := #[t, t] }) {v u : Value} (hs : a.eval s = v) (hx : a.eval x = u)
    (hr : (Builtin.append_ #[t, t] o.type #[v, u]).run P w = .ok v' w') (h : K (a.put o.dst v') w') : o.wp P a w K Q := by
  unfold Oper.wp execOp
  simp only [ho, resolve, invoke, builtin, Sem.run_bind, Sem.run_pure, Result.andThen_ok, List.map_toArray, List.map_cons, List.map_nil, hs, hx, hr]
  exact h
end QR
end Go.Proofs.YtiilgkhndfnkgaaDoor
