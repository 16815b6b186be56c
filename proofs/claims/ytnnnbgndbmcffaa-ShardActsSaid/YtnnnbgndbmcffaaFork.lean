/- As Chain, for regions whose effects may stand in several orders: the walk forks where two effects are free of one another; no conditions of its own. -/
import Derived.Test.YtnnnbgndbmcffaaChain
namespace Go.Proofs.Ytnnnbgndbmcffaa
namespace QF
open Go.RowKit
open QP (upon oat wp_of_oat)
open QT (dep)
open QR (upd updV putAll apartB putAll_congr putAll_step lf lf_set cnt cnt_set size_put)
open QC (Y Fl aft lexB readB dn Rob tmps_congr exec_congr wanted_congr Y_congr wp_region_g dn_cons aft_of dep_all agree)
set_option linter.unusedVariables false
variable {P : Program}

/-- quiet operations, an effect, or two effects of which either may come first -/
inductive Tr where
  | nil
  | q (i : Nat) (t : Tr)
  | one (i : Nat) (t : Tr)
  | two (i : Nat) (t : Tr) (j : Nat) (u : Tr)
def Tr.rem : Tr → List Nat
  | .nil => []
  | .q i t => i :: t.rem
  | .one i t => i :: t.rem
  | .two i t j u => i :: t.rem
def effF (P : Program) (ops : Array Oper) (K : Fl → Act → World → Prop) (F : Fl) (i : Nat) (a : Act) (w : World) : Prop := ∃ o, ops[i]? = some o ∧
  wpList P ops (fun e a' w' => e = .normal ∧ a'.defers = a.defers ∧ (∀ x ∈ F, dep .any ops x.1 30 o = true ∨ x.2 w') ∧ K F a' w') [o] a w
def wpF (P : Program) (ops : Array Oper) (Q : Exit → Act → World → Prop) : Tr → Fl → Act → World → Prop
  | .nil, _, a, w => Q .normal a w
  | .q i r, F, a, w => ∃ o, ops[i]? = some o ∧ ∃ v, ((∀ u, Y P ops o a v u) ∧ wpF P ops Q r F (a.put o.dst v) w) ∨ (∃ R : World → Prop, R w ∧ (∀ u, R u → Y P ops o a v u) ∧ wpF P ops Q r ((i, R) :: F) (a.put o.dst v) w)
  | .one i r, F, a, w => effF P ops (wpF P ops Q r) F i a w
  | .two i r j s, F, a, w => effF P ops (wpF P ops Q r) F i a w ∧ effF P ops (wpF P ops Q s) F j a w
def headB (l : List Oper) (E done : List Nat) (i : Nat) (e : Bool) : Bool := !done.contains i && (E.contains i == e) && (match l[i]? with | some o => o.after.toList.all fun x => !Region.binds .any x || done.contains x.on | none => false)
def depB (l : List Oper) (i k : Nat) : Bool := match l[k]? with | some o => dep .any l.toArray i 30 o | none => false
def trB (l : List Oper) (E : List Nat) : Tr → List Nat → Bool
  | .nil, done => (List.range l.length).all fun i => done.contains i
  | .q i r, done => headB l E done i false && trB l E r (i :: done)
  | .one i r, done => headB l E done i true && (r.rem.all fun k => depB l i k) && trB l E r (i :: done)
  | .two i r j s, done => headB l E done i true && headB l E done j true && !(i == j) && (r.rem.all fun k => k == j || depB l i k || depB l j k) && trB l E r (i :: done) && trB l E s (j :: done)
def okF (l : List Oper) (E : List Nat) (t : Tr) : Bool := apartB l && lexB l && readB l && Region.noSelect l.toArray && trB l E t []

structure St (P : Program) (l : List Oper) (E : List Nat) (Q : Exit → Act → World → Prop) (a0 : Act) (L : Nat → Bool) (V : Nat → Value) (w : World) (W : Nat → Value) (ord : Tr) (done : List Nat) (F : Fl) : Prop where
  ag : ∀ k, L k = true → W k = V k
  od : trB l E ord done = true
  sub : ∀ k, L k = true → dn done k = true
  eff : ∀ k, dn done k = true → E.contains k = true → L k = true
  dep : ∀ k o, dn done k = true → l[k]? = some o → ∀ e ∈ o.after.toList, Region.binds .any e = true → dn done e.on = true
  rob : ∀ k, dn done k = true → L k = false → Rob P l E F (putAll (dn done) W l 0 a0) w k (W k)
  wp : wpF P l.toArray Q ord F (putAll (dn done) W l 0 a0) w
section
variable {l : List Oper} {E : List Nat} {Q : Exit → Act → World → Prop} {a0 : Act} {L : Nat → Bool} {V W : Nat → Value} {w : World} {done : List Nat} {F : Fl}
theorem headB_spec {i : Nat} {e : Bool} (h : headB l E done i e = true) : dn done i = false ∧ E.contains i = e ∧ (∀ o, l[i]? = some o → ∀ x ∈ o.after.toList, Region.binds .any x = true → dn done x.on = true) ∧ ∃ o, l[i]? = some o := by
  unfold headB at h
  simp only [Bool.and_eq_true, Bool.not_eq_true', beq_iff_eq] at h
  obtain ⟨⟨h1, h2⟩, h3⟩ := h
  refine ⟨h1, h2, fun o ho x hx hb => ?_, ?_⟩
  · simp only [ho] at h3
    have := List.all_eq_true.1 h3 x hx
    simpa [hb, dn] using this
  · cases ho : l[i]? with
    | none => simp [ho] at h3
    | some o => exact ⟨o, rfl⟩
theorem depB_spec {i k : Nat} {o : Oper} (h : depB l i k = true) (ho : l[k]? = some o) : dep .any l.toArray i 30 o = true := by
  unfold depB at h; simpa only [ho] using h
theorem trB_mem {i : Nat} (hi : i < l.length) : ∀ (t : Tr) (done : List Nat), trB l E t done = true → dn done i = false → i ∈ t.rem
  | .nil, done, h, hd => by
    unfold trB at h
    have := List.all_eq_true.1 h i (List.mem_range.2 hi)
    unfold dn at hd; rw [hd] at this; cases this
  | .q j r, done, h, hd => by
    unfold trB at h
    simp only [Bool.and_eq_true] at h
    by_cases hij : i = j
    · subst hij; exact List.mem_cons_self
    · refine List.mem_cons_of_mem _ (trB_mem hi r _ h.2 ?_)
      rw [dn_cons (headB_spec h.1).1]; unfold upd; rw [if_neg hij]; exact hd
  | .one j r, done, h, hd => by
    unfold trB at h
    simp only [Bool.and_eq_true] at h
    by_cases hij : i = j
    · subst hij; exact List.mem_cons_self
    · refine List.mem_cons_of_mem _ (trB_mem hi r _ h.2 ?_)
      rw [dn_cons (headB_spec h.1.1).1]; unfold upd; rw [if_neg hij]; exact hd
  | .two j r k s, done, h, hd => by
    unfold trB at h
    simp only [Bool.and_eq_true] at h
    by_cases hij : i = j
    · subst hij; exact List.mem_cons_self
    · refine List.mem_cons_of_mem _ (trB_mem hi r _ h.1.2 ?_)
      rw [dn_cons (headB_spec h.1.1.1.1.1).1]; unfold upd; rw [if_neg hij]; exact hd
theorem St.quiet {i : Nat} (hap : apartB l = true) (hr : readB l = true) (hsel : ∀ o ∈ l, ∀ cs b, o.op ≠ .select cs b) {r : Tr} (s : St P l E Q a0 L V w W (.q i r) done F) : ∃ W' F', St P l E Q a0 L V w W' r (i :: done) F' := by
  have od := s.od
  unfold trB at od
  simp only [Bool.and_eq_true] at od
  obtain ⟨h1, hE, h2, ⟨o, ho⟩⟩ := headB_spec od.1
  have h5 := od.2
  have hLi : L i = false := by
    cases hb : L i
    · rfl
    · have := s.sub i hb; rw [h1] at this; cases this
  have hwp := s.wp
  obtain ⟨o', ho', hwp⟩ := hwp
  obtain rfl : o' = o := Option.some.inj (by rw [← ho, ← ho']; simp)
  obtain ⟨v, hwp⟩ := hwp
  have eput : (putAll (dn done) W l 0 a0).put o'.dst v = putAll (dn (i :: done)) (updV W i v) l 0 a0 := by
    rw [putAll_step l 0 a0 hap (Nat.zero_le _) (by simpa using ho) h1, dn_cons h1]
  have Ymv : ∀ k x v' u, l[k]? = some x → (∀ e ∈ x.after.toList, Region.binds .any e = true → dn done e.on = true) → Y P l.toArray x (putAll (dn done) W l 0 a0) v' u → Y P l.toArray x (putAll (dn (i :: done)) (updV W i v) l 0 a0) v' u := fun k x v' u hx hdep hy =>
    Y_congr (hsel x (List.mem_of_getElem? hx)) (agree hr hx (fun e he hb => by
      have hd := hdep e he hb
      have hne : e.on ≠ i := fun he => by rw [he, h1] at hd; cases hd
      rw [dn_cons h1]
      exact ⟨(if_neg hne).symm, (if_neg hne).symm⟩)) hy
  have mk : ∀ F' : Fl, (∀ x ∈ F, x ∈ F') → Rob P l E F' (putAll (dn (i :: done)) (updV W i v) l 0 a0) w i v → wpF P l.toArray Q r F' ((putAll (dn done) W l 0 a0).put o'.dst v) w → ∃ W' F', St P l E Q a0 L V w W' r (i :: done) F' := fun F' hF hrob hw => by
    refine ⟨updV W i v, F', ⟨fun k hk => ?_, h5, fun k hk => ?_, fun k hk hEk => ?_, fun k x hk hx e he hb => ?_, fun k hk hLk => ?_, by rw [← eput]; exact hw⟩⟩
    · have hne : k ≠ i := fun e => by rw [e, hLi] at hk; cases hk
      show (if k = i then v else W k) = V k
      rw [if_neg hne]; exact s.ag k hk
    · rw [dn_cons h1]; unfold upd
      split
      · rfl
      · exact s.sub k hk
    · rw [dn_cons h1] at hk; unfold upd at hk
      by_cases hki : k = i
      · subst hki; rw [hE] at hEk; cases hEk
      · rw [if_neg hki] at hk; exact s.eff k hk hEk
    · rw [dn_cons h1] at hk ⊢; unfold upd at hk ⊢
      split
      · rfl
      · by_cases hki : k = i
        · subst hki
          obtain rfl : x = o' := Option.some.inj (hx.symm.trans ho)
          exact h2 x ho e he hb
        · rw [if_neg hki] at hk; exact s.dep k x hk hx e he hb
    · by_cases hki : k = i
      · subst hki
        show Rob P l E F' _ w k (if k = k then v else W k)
        rw [if_pos rfl]; exact hrob
      · rw [dn_cons h1] at hk; unfold upd at hk; rw [if_neg hki] at hk
        obtain ⟨g1, x, hx, g2⟩ := s.rob k hk hLk
        show Rob P l E F' _ w k (if k = i then v else W k)
        rw [if_neg hki]
        refine ⟨g1, x, hx, ?_⟩
        rcases g2 with g2 | ⟨R, g2, g3, g4⟩
        · exact .inl fun u => Ymv k x _ u hx (fun e he hb => s.dep k x hk hx e he hb) (g2 u)
        · exact .inr ⟨R, hF _ g2, g3, fun u hu => Ymv k x _ u hx (fun e he hb => s.dep k x hk hx e he hb) (g4 u hu)⟩
  rcases hwp with ⟨hy, hw⟩ | ⟨R, hR, hy, hw⟩
  · exact mk F (fun x hx => hx) ⟨hE, o', ho, .inl fun u => Ymv i o' v u ho (fun e he hb => h2 o' ho e he hb) (hy u)⟩ hw
  · exact mk ((i, R) :: F) (fun x hx => List.mem_cons_of_mem _ hx) ⟨hE, o', ho, .inr ⟨R, List.mem_cons_self, hR, fun u hu => Ymv i o' v u ho (fun e he hb => h2 o' ho e he hb) (hy u hu)⟩⟩ hw
/-- the walk goes on to an effect, or until i is behind it -/
theorem St.adv (hap : apartB l = true) (hr : readB l = true) (hsel : ∀ o ∈ l, ∀ cs b, o.op ≠ .select cs b) {i : Nat} (hi : i < l.length) : ∀ (t : Tr) (done : List Nat) (W : Nat → Value) (F : Fl), St P l E Q a0 L V w W t done F →
    ∃ W' t' done' F', St P l E Q a0 L V w W' t' done' F' ∧ (dn done' i = true ∨ (∃ p r, t' = .one p r) ∨ ∃ p r p' r', t' = .two p r p' r')
  | .nil, done, W, F, s => by
    cases hd : dn done i
    · have := trB_mem hi .nil done s.od hd; cases this
    · exact ⟨W, .nil, done, F, s, .inl hd⟩
  | .q p r, done, W, F, s => by
    obtain ⟨W', F', s'⟩ := s.quiet hap hr hsel
    exact St.adv hap hr hsel hi r (p :: done) W' F' s'
  | .one p r, done, W, F, s => ⟨W, .one p r, done, F, s, .inr (.inl ⟨p, r, rfl⟩)⟩
  | .two p r p' r', done, W, F, s => ⟨W, .two p r p' r', done, F, s, .inr (.inr ⟨p, r, p', r', rfl⟩)⟩
theorem head_not {i : Nat} {e : Bool} {ord : Tr} (s : St P l E Q a0 L V w W ord done F) (hL : ∀ i, i < l.length → L i = true) (h : headB l E done i e = true) : False := by
  obtain ⟨h1, _, _, o, ho⟩ := headB_spec h
  have := s.sub i (hL i (List.getElem?_eq_some_iff.1 ho).1)
  rw [h1] at this; cases this
theorem St.finish (hL : ∀ i, i < l.length → L i = true) : ∀ (t : Tr) (done : List Nat) (W : Nat → Value) (F : Fl), St P l E Q a0 L V w W t done F → Q .normal (putAll L V l 0 a0) w
  | .nil, done, W, F, s => by
    have h := s.wp
    have e : putAll (dn done) W l 0 a0 = putAll L V l 0 a0 := putAll_congr l 0 a0 fun j _ hj => by
      have hLj := hL j (by omega)
      exact ⟨by rw [s.sub j hLj, hLj], s.ag j hLj⟩
    rw [← e]; exact h
  | .q p r, done, W, F, s => by
    have od := s.od
    unfold trB at od
    simp only [Bool.and_eq_true] at od
    exact (head_not s hL od.1).elim
  | .one p r, done, W, F, s => by
    have od := s.od
    unfold trB at od
    simp only [Bool.and_eq_true] at od
    exact (head_not s hL od.1.1).elim
  | .two p r p' r', done, W, F, s => by
    have od := s.od
    unfold trB at od
    simp only [Bool.and_eq_true] at od
    exact (head_not s hL od.1.1.1.1.1).elim
/-- an effect that comes next -/
theorem stNext (hap : apartB l = true) (hr : readB l = true) (hsel : ∀ o ∈ l, ∀ cs b, o.op ≠ .select cs b) {ord r : Tr} (s : St P l E Q a0 L V w W ord done F) {i : Nat} {o' : Oper} (ho : l[i]? = some o') (hh : headB l E done i true = true) (h5 : trB l E r (i :: done) = true)
    (hwp : effF P l.toArray (wpF P l.toArray Q r) F i (putAll (dn done) W l 0 a0) w) (hLi : L i = false) (hD : ∀ j o', l[j]? = some o' → L j = true → ∀ e ∈ o'.after.toList, Region.binds .any e = true → L e.on = true)
    (hdp : ∀ e ∈ o'.after.toList, Region.binds .any e = true → L e.on = true) {aA : Act} (haA : aA = putAll L V l 0 a0) {K : Act → World → Prop} (hK : ∀ v w', (∃ W t d F, St P l E Q a0 (upd L i) (updV V i v) w' W t d F) → K (aA.put o'.dst v) w') :
    if Region.wanted o' (yielded l.toArray aA.tmps) then o'.wp P aA w K Q else K (aA.put o'.dst undef) w := by
  obtain ⟨h1, hE, h2, _⟩ := headB_spec hh
  have hso := hsel o' (List.mem_of_getElem? ho)
  have cong : ∀ t ∈ o'.looksAt l.toArray, (putAll (dn done) W l 0 a0).tmps[t]? = aA.tmps[t]? := by
    rw [haA]
    exact agree hr ho fun e he hb => by
      have := hdp e he hb
      exact ⟨by rw [s.sub _ this, this], s.ag _ this⟩
  obtain ⟨o2, ho2, hwp⟩ := hwp
  obtain rfl : o2 = o' := Option.some.inj (by rw [← ho, ← ho2]; simp)
  have nxt : ∀ v w', (∀ x ∈ F, dep .any l.toArray x.1 30 o2 = true ∨ x.2 w') → wpF P l.toArray Q r F ((putAll (dn done) W l 0 a0).put o2.dst v) w' → K (aA.put o2.dst v) w' := fun v w' hF hw => by
    have eput : (putAll (dn done) W l 0 a0).put o2.dst v = putAll (dn (i :: done)) (updV W i v) l 0 a0 := by
      rw [putAll_step l 0 a0 hap (Nat.zero_le _) (by simpa using ho) h1, dn_cons h1]
    refine hK v w' ⟨updV W i v, r, i :: done, F, ⟨fun k hk => ?_, h5, fun k hk => ?_, fun k hk hEk => ?_, fun k x hk hx e he hb => ?_, fun k hk hLk => ?_, by rw [← eput]; exact hw⟩⟩
    · unfold upd at hk; unfold updV
      split
      · rfl
      · rename_i hne; rw [if_neg hne] at hk; exact s.ag k hk
    · rw [dn_cons h1]; unfold upd at hk ⊢
      split
      · rfl
      · rename_i hne; rw [if_neg hne] at hk; exact s.sub k hk
    · rw [dn_cons h1] at hk; unfold upd at hk ⊢
      split
      · rfl
      · rename_i hne; rw [if_neg hne] at hk; exact s.eff k hk hEk
    · rw [dn_cons h1] at hk ⊢; unfold upd at hk ⊢
      split
      · rfl
      · by_cases hki : k = i
        · subst hki
          obtain rfl : x = o2 := Option.some.inj (hx.symm.trans ho)
          exact h2 x ho e he hb
        · rw [if_neg hki] at hk; exact s.dep k x hk hx e he hb
    · unfold upd at hLk
      have hki : k ≠ i := fun e => by rw [if_pos e] at hLk; cases hLk
      rw [if_neg hki] at hLk
      rw [dn_cons h1] at hk; unfold upd at hk; rw [if_neg hki] at hk
      obtain ⟨g1, x, hx, g2⟩ := s.rob k hk hLk
      show Rob P l E F _ w' k (if k = i then v else W k)
      rw [if_neg hki]
      have Ymv : ∀ u, Y P l.toArray x (putAll (dn done) W l 0 a0) (W k) u → Y P l.toArray x (putAll (dn (i :: done)) (updV W i v) l 0 a0) (W k) u := fun u hy =>
        Y_congr (hsel x (List.mem_of_getElem? hx)) (agree hr hx (fun e he hb => by
          have hd := s.dep k x hk hx e he hb
          have hne : e.on ≠ i := fun he => by rw [he, h1] at hd; cases hd
          rw [dn_cons h1]
          exact ⟨(if_neg hne).symm, (if_neg hne).symm⟩)) hy
      refine ⟨g1, x, hx, ?_⟩
      rcases g2 with g2 | ⟨R, g2, g3, g4⟩
      · exact .inl fun u => Ymv u (g2 u)
      · refine .inr ⟨R, g2, ?_, fun u hu => Ymv u (g4 u hu)⟩
        rcases hF _ g2 with hh | hh
        · have := dep_all hD 30 o2 hdp hh
          rw [hLk] at this; cases this
        · exact hh
  unfold wpList at hwp
  rw [wanted_congr o2 cong] at hwp
  split
  · rename_i hwt
    rw [if_pos hwt] at hwp
    rcases hwp with hwp | ⟨_, _, _, hout, _⟩
    · unfold Oper.wp at hwp ⊢
      rw [exec_congr o2 hso cong] at hwp
      generalize (execOp aA.eval o2).run P w = res at *
      cases res with
      | ok n w' =>
        cases n <;> simp only [Oper.upon] at hwp ⊢
        case value v => exact nxt v w' hwp.2.2.1 hwp.2.2.2
        case skip => exact nxt undef w' hwp.2.2.1 hwp.2.2.2
        case defer d =>
          have he := hwp.2.1
          have hp : ∀ (b : Act) (t : Option Tmp) (v : Value), (b.put t v).defers = b.defers := fun b t v => by cases t <;> rfl
          rw [hp] at he
          have := congrArg List.length he
          simp at this
        case enter f args =>
          refine Calls.mono hwp fun e w'' he => ?_
          cases e with
          | returned v => exact nxt v w'' he.2.2.1 he.2.2.2
          | panicked c => cases he.1
          | outgrown => obtain ⟨_, _, h, _⟩ := he; cases h
        case row row args => exact Rows.mono hwp fun v w'' he => nxt v w'' he.2.2.1 he.2.2.2
      | halt x w' =>
        cases x <;> simp only [Oper.upon] at hwp
        case panic v => cases hwp.1
    · cases hout
  · rename_i hwt
    rw [if_neg hwt] at hwp
    exact nxt undef w hwp.2.2.1 hwp.2.2.2
end
theorem wp_region_f {id : Nat} {Q : Exit → Act → World → Prop} {a : Act} {w : World} {l : List Oper} (E : List Nat) (t : Tr) (hm : P.follows .mixedOrders = true) (hB : okF l E t = true)
    (h : ∀ u, QC.Dr w u → wpF P l.toArray Q t [] a u) : (Code.region id l.toArray true).wp P Q a w := by
  have h := h _ (QC.Dr.drew w)
  unfold okF at hB
  simp only [Bool.and_eq_true] at hB
  obtain ⟨⟨⟨⟨hap, hlx⟩, hr⟩, hns⟩, hord⟩ := hB
  have hsel : ∀ o ∈ l, ∀ cs b, o.op ≠ .select cs b := fun o ho cs b => by
    obtain ⟨j, hj⟩ := List.getElem?_of_mem ho
    exact Region.noSelect_spec hns j o cs b (by simpa using hj)
  have hlex : ∀ i o, l[i]? = some o → ∀ e ∈ o.after.toList, Region.binds .any e = true → e.on < i := fun i o ho e he hb => by
    have h1 := List.all_eq_true.1 hlx i (List.mem_range.2 (List.getElem?_eq_some_iff.1 ho).1)
    simp only [ho] at h1
    have := List.all_eq_true.1 h1 e he
    simpa [hb] using this
  have p0 : ∀ V : Nat → Value, putAll (dn []) V l 0 a = a := fun V => by
    have : ∀ (r : List Oper) (k : Nat) (a : Act), putAll (dn []) V r k a = a := fun r => by
      induction r with
      | nil => intros; rfl
      | cons o r ih => intro k a; unfold putAll; rw [if_neg (by unfold dn; simp)]; exact ih _ _
    exact this l 0 a
  refine wp_region_g (fun L V w => ∃ W ord done F, St P l E Q a L V w W ord done F) hm hap hlex (fun V => ⟨V, t, [], [], ⟨fun k hk => (by cases hk), hord, fun k hk => (by cases hk), fun k hk => (by simp [dn] at hk), fun k o hk => (by simp [dn] at hk), fun k hk => (by simp [dn] at hk), by rw [p0]; exact h⟩⟩) ?_ (fun L V w hL ⟨W, ord, done, F, s⟩ => s.finish hL _ _ _ _)
  intro i o ho L V u ⟨W, ord, done, F, s⟩ hLi hD hdp aA haA K hK
  have hi : i < l.length := (List.getElem?_eq_some_iff.1 ho).1
  obtain ⟨W, ord, done, F, s, hcase⟩ := s.adv hap hr hsel hi
  have hso := hsel o (List.mem_of_getElem? ho)
  have cong : ∀ t ∈ o.looksAt l.toArray, (putAll (dn done) W l 0 a).tmps[t]? = aA.tmps[t]? := by
    rw [haA]
    exact agree hr ho fun e he hb => by
      have := hdp e he hb
      exact ⟨by rw [s.sub _ this, this], s.ag _ this⟩
  cases hdi : dn done i
  · have no : ∀ p, dn done p = false → depB l p i = true → False := fun p hp hx => by
      have := s.sub p (dep_all hD 30 o hdp (depB_spec hx ho))
      rw [hp] at this; cases this
    rcases hcase with hc | ⟨p, r, rfl⟩ | ⟨p, r, p', r', rfl⟩
    · rw [hdi] at hc; cases hc
    · have od := s.od
      unfold trB at od
      simp only [Bool.and_eq_true] at od
      obtain ⟨⟨hh, hal⟩, h5⟩ := od
      have hip : i = p := by
        rcases List.mem_cons.1 (trB_mem hi _ _ s.od hdi) with e | hm
        · exact e
        · exact (no p (headB_spec hh).1 (List.all_eq_true.1 hal i hm)).elim
      subst hip
      exact stNext hap hr hsel s ho hh h5 s.wp hLi hD hdp haA hK
    · have od := s.od
      unfold trB at od
      simp only [Bool.and_eq_true] at od
      obtain ⟨⟨⟨⟨⟨hh, hh'⟩, _⟩, hal⟩, h5⟩, h5'⟩ := od
      have hip : i = p ∨ i = p' := by
        rcases List.mem_cons.1 (trB_mem hi _ _ s.od hdi) with e | hm
        · exact .inl e
        · have := List.all_eq_true.1 hal i hm
          simp only [Bool.or_eq_true, beq_iff_eq] at this
          rcases this with (h1 | h1) | h1
          · exact .inr h1
          · exact (no p (headB_spec hh).1 h1).elim
          · exact (no p' (headB_spec hh').1 h1).elim
      have hwp := s.wp
      unfold wpF at hwp
      rcases hip with rfl | rfl
      · exact stNext hap hr hsel s ho hh h5 hwp.1 hLi hD hdp haA hK
      · exact stNext hap hr hsel s ho hh' h5' hwp.2 hLi hD hdp haA hK
  · -- a quiet one that the walk has behind it
    obtain ⟨g1, x, hx, g2⟩ := s.rob i hdi hLi
    obtain rfl : x = o := Option.some.inj (hx.symm.trans ho)
    have hy : Y P l.toArray x (putAll (dn done) W l 0 a) (W i) u := by
      rcases g2 with g2 | ⟨R, _, g3, g4⟩
      · exact g2 u
      · exact g4 u g3
    have hy := Y_congr hso cong hy
    have nxt : K (aA.put x.dst (W i)) u := hK (W i) u ⟨W, ord, done, F, ⟨fun k hk => by
        unfold upd at hk; unfold updV
        by_cases hki : k = i
        · rw [if_pos hki, hki]
        · rw [if_neg hki] at hk; rw [if_neg hki]; exact s.ag k hk, s.od, fun k hk => by
        unfold upd at hk
        by_cases hki : k = i
        · rw [hki]; exact hdi
        · rw [if_neg hki] at hk; exact s.sub k hk, fun k hk hEk => by
        unfold upd
        split
        · rfl
        · exact s.eff k hk hEk, s.dep, fun k hk hLk => by
        unfold upd at hLk
        by_cases hki : k = i
        · rw [if_pos hki] at hLk; cases hLk
        · rw [if_neg hki] at hLk; exact s.rob k hk hLk, s.wp⟩⟩
    rcases hy with ⟨hw, hy⟩ | ⟨hw, hv⟩
    · rw [if_pos hw]
      refine wp_of_oat (C' := fun u' => u' = u) (K := fun a' => a' = aA.put x.dst (W i)) (fun a' w' e1 e2 => ?_) hy rfl
      rw [e1, e2]; exact nxt
    · rw [if_neg (by rw [hw]; decide)]
      rw [← hv]; exact nxt
section
variable {ops : Array Oper} {Q : Exit → Act → World → Prop} {i j : Nat} {r s : Tr} {F : Fl} {a : Act} {w : World} {o : Oper}
theorem wpF_nil (h : Q .normal a w) : wpF P ops Q .nil F a w := h
/-- an operation that looks at no memory -/
theorem wpF_pure (ho : ops.toList[i]? = some o)
    (h : ∀ K : Act → Prop, (∀ a, wpF P ops Q r F a w → K a) → if Region.wanted o (yielded ops a.tmps) then ∃ v, (∀ u, oat P o a (fun x => x = u) u v) ∧ K (a.put o.dst v) else K (a.put o.dst undef)) : wpF P ops Q (.q i r) F a w := by
  have := h _ (fun _ h => h)
  refine ⟨o, by rw [← Array.getElem?_toList]; exact ho, ?_⟩
  split at this
  · rename_i hw
    obtain ⟨v, h1, h2⟩ := this
    exact ⟨v, .inl ⟨fun u => .inl ⟨hw, h1 u⟩, h2⟩⟩
  · rename_i hw
    exact ⟨undef, .inl ⟨fun u => .inr ⟨by simpa using hw, rfl⟩, this⟩⟩
/-- an operation that rests on R -/
theorem wpF_rest (R : World → Prop) (v : Value) (ho : ops.toList[i]? = some o) (hw : Region.wanted o (yielded ops a.tmps) = true) (hR : R w) (hy : ∀ u, R u → oat P o a (fun x => x = u) u v)
    (h : wpF P ops Q r ((i, R) :: F) (a.put o.dst v) w) : wpF P ops Q (.q i r) F a w :=
  ⟨o, by rw [← Array.getElem?_toList]; exact ho, v, .inr ⟨R, hR, fun u hu => .inl ⟨hw, hy u hu⟩, h⟩⟩
theorem wpF_load {ty : TypeId} {x : Operand} {p : Addr} {v : Value} (ho : ops.toList[i]? = some o) (hop : o.op = .load ty x) (hw : Region.wanted o (yielded ops a.tmps) = true) (hx : a.eval x = .pointer (some p)) (hc : w.cell? p = some v)
    (hl : ∀ u : World, u.cell? p = some v → (Instr.loadAt ty (.pointer (some p))).run P u = .ok v u)
    (h : ∀ K : Act → Prop, (∀ a, wpF P ops Q r ((i, fun u => u.cell? p = some v) :: F) a w → K a) → K (a.put o.dst v)) : wpF P ops Q (.q i r) F a w := by
  refine wpF_rest (fun u => u.cell? p = some v) v ho hw hc (fun u hu => ?_) (h _ fun _ h => h)
  unfold oat execOp
  simp only [hop, hx, Sem.run_bind, Sem.run_pure, Result.andThen_ok, hl u hu]
  exact ⟨rfl, rfl⟩
/-- what an effect must leave -/
def effQ (P : Program) (ops : Array Oper) (Q : Exit → Act → World → Prop) (r : Tr) (F : Fl) (o : Oper) (a : Act) (e : Exit) (a' : Act) (w' : World) : Prop :=
  e = .normal ∧ a'.defers = a.defers ∧ (∀ x ∈ F, dep .any ops x.1 30 o = true ∨ x.2 w') ∧ wpF P ops Q r F a' w'
theorem eff_ok {a' : Act} {w' : World} (hd : a'.defers = a.defers) (hF : ∀ x ∈ F, dep .any ops x.1 30 o = true ∨ x.2 w') (h : wpF P ops Q r F a' w') : effQ P ops Q r F o a .normal a' w' := ⟨rfl, hd, hF, h⟩
/-- an operation that makes or writes memory -/
theorem wpF_one (ho : ops.toList[i]? = some o) (h : wpList P ops (effQ P ops Q r F o a) [o] a w) : wpF P ops Q (.one i r) F a w :=
  ⟨o, by rw [← Array.getElem?_toList]; exact ho, h⟩
/-- two, of which either may come first -/
theorem wpF_two (h1 : wpF P ops Q (.one i r) F a w) (h2 : wpF P ops Q (.one j s) F a w) : wpF P ops Q (.two i r j s) F a w := ⟨h1, h2⟩
end
end QF
end Go.Proofs.Ytnnnbgndbmcffaa
