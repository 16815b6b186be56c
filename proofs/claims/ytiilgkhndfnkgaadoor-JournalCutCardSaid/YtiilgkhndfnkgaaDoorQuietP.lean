/- Regions that draw their order, where ONE operation (number p) makes or writes memory and the others are quiet in both classes of worlds: one walk of the lexical order serves every order. -/
import Derived.Deep.QuietTactic
import Derived.Deep.RegionWith
import Derived.Laws.Tables
import Derived.Deep.MidRow
namespace Go.Proofs.YtiilgkhndfnkgaaDoor
namespace QP
set_option linter.unusedVariables false
variable {P : Program} {ops : Array Oper} {md : Region.Mode} {Cf Ct : World → Prop} {p : Nat}

def upon (P : Program) (C' : World → Prop) (v : Value) : Result Next → Prop
  | .ok (.value u) w' => C' w' ∧ u = v
  | .ok .skip w' => C' w' ∧ v = undef
  | .ok (.enter f args) w' => Calls P f args w' (fun e w'' => e = .returned v ∧ C' w'')
  | _ => False
def oat (P : Program) (o : Oper) (a : Act) (C' : World → Prop) (w : World) (v : Value) : Prop := upon P C' v ((execOp a.eval o).run P w)
def waits (md : Region.Mode) (p : Nat) (o : Oper) : Bool := o.after.toList.any fun e => Region.binds md e && e.on == p

/-- operation p waits for operation j -/
def fst (md : Region.Mode) (ops : Array Oper) (p j : Nat) : Bool := match ops[p]? with | some o => waits md j o | none => false
def allowed (P : Program) (md : Region.Mode) (ops : Array Oper) (Cf Ct : World → Prop) (p i : Nat) (o : Oper) (a : Act) (v : Value) : Prop :=
  if i = p then ∀ w, Cf w → oat P o a Ct w v
  else (waits md p o = true ∨ ∀ w, Cf w → oat P o a Cf w v) ∧ (fst md ops p i = true ∨ ∀ w, Ct w → oat P o a Ct w v)

def qOp (P : Program) (md : Region.Mode) (ops : Array Oper) (Cf Ct : World → Prop) (p i : Nat) (K : Act → Prop) (a : Act) : Prop :=
  match ops[i]? with
  | none => K a
  | some o => if Region.wanted o (yielded ops a.tmps) then ∃ v, allowed P md ops Cf Ct p i o a v ∧ K (a.put o.dst v) else i ≠ p ∧ K (a.put o.dst undef)

def wpQ (P : Program) (md : Region.Mode) (ops : Array Oper) (Cf Ct : World → Prop) (p : Nat) (Q : Act → Prop) : List Oper → Nat → Act → Prop
  | [], _, a => Q a
  | o :: rest, i, a => if Region.wanted o (yielded ops a.tmps) then ∃ v, allowed P md ops Cf Ct p i o a v ∧ wpQ P md ops Cf Ct p Q rest (i + 1) (a.put o.dst v) else i ≠ p ∧ wpQ P md ops Cf Ct p Q rest (i + 1) (a.put o.dst undef)

theorem wpQ_nil {Q : Act → Prop} {i : Nat} {a : Act} (h : Q a) : wpQ P md ops Cf Ct p Q [] i a := h
theorem wpQ_step {Q : Act → Prop} {a : Act} {o : Oper} {rest : List Oper} {i : Nat}
    (h : ∀ K : Act → Prop, (∀ a, wpQ P md ops Cf Ct p Q rest (i + 1) a → K a) → if Region.wanted o (yielded ops a.tmps) then ∃ v, allowed P md ops Cf Ct p i o a v ∧ K (a.put o.dst v) else i ≠ p ∧ K (a.put o.dst undef)) :
    wpQ P md ops Cf Ct p Q (o :: rest) i a := h _ (fun _ h => h)

theorem qOp_mono {i : Nat} {a : Act} {K K' : Act → Prop} (h : ∀ a, K a → K' a) (hh : qOp P md ops Cf Ct p i K a) : qOp P md ops Cf Ct p i K' a := by
  unfold qOp at *
  split
  · exact h _ (by simpa [*] using hh)
  · rename_i o ho
    simp only [ho] at hh
    split
    · rename_i hw; simp only [hw, if_true] at hh; exact let ⟨v, h1, h2⟩ := hh; ⟨v, h1, h _ h2⟩
    · rename_i hw; simp only [hw] at hh; exact ⟨hh.1, h _ hh.2⟩

def wpAnyQ (P : Program) (md : Region.Mode) (ops : Array Oper) (Cf Ct : World → Prop) (p : Nat) (Q : Act → Prop) : Nat → Array Bool → Act → Prop
  | 0, listed, a => Region.ready md ops listed = [] ∧ listed.getD p false = true ∧ Q a
  | fuel + 1, listed, a =>
    (Region.ready md ops listed = [] → listed.getD p false = true ∧ Q a) ∧
    ∀ i ∈ Region.ready md ops listed, qOp P md ops Cf Ct p i (wpAnyQ P md ops Cf Ct p Q fuel (listed.setIfInBounds i true)) a

theorem wp_of_oat {o : Oper} {a : Act} {C' : World → Prop} {v : Value} {K : Act → Prop} {K' : Act → World → Prop} {Q' : Exit → Act → World → Prop} {w : World} (h : ∀ a w', C' w' → K a → K' a w')
    (h3 : oat P o a C' w v) (h2 : K (a.put o.dst v)) : o.wp P a w K' Q' := by
  unfold oat at h3
  unfold Oper.wp
  generalize (execOp a.eval o).run P w = r at *
  cases r with
  | ok n w' =>
    cases n <;> simp only [upon] at h3 <;> simp only [Oper.upon]
    case value u =>
      obtain ⟨e1, e2⟩ := h3
      rw [e2]
      exact h _ _ e1 h2
    case skip =>
      obtain ⟨e1, e2⟩ := h3
      rw [← e2]
      exact h _ _ e1 h2
    case enter f args =>
      exact h3.mono fun e w'' ⟨he, hw''⟩ => by subst he; exact h _ _ hw'' h2
  | halt x w' => simp only [upon] at h3

/-- the class of worlds once these are listed -/
def cls (Cf Ct : World → Prop) (p : Nat) (listed : Array Bool) (w : World) : Prop := if listed.getD p false = true then Ct w else Cf w

def Kept (md : Region.Mode) (ops : Array Oper) (p : Nat) (listed : Array Bool) : Prop := ∀ j, fst md ops p j = true → listed.getD p false = true → listed.getD j false = true
theorem getD_mono {listed : Array Bool} {i j : Nat} (h : listed.getD j false = true) : (listed.setIfInBounds i true).getD j false = true := by
  rw [Array.getD_eq_getD_getElem?] at *
  rw [Array.getElem?_setIfInBounds]
  split
  · rename_i hij
    subst hij
    split
    · rfl
    · rename_i hlt; rw [Array.getElem?_eq_none (by omega)] at h; cases h
  · exact h
theorem Kept.set {i : Nat} {listed : Array Bool} (h : Kept md ops p listed) (hi : i ∈ Region.ready md ops listed) : Kept md ops p (listed.setIfInBounds i true) := by
  intro j hj hp
  obtain ⟨_, o, ho, hall⟩ := mem_ready.1 hi
  by_cases hip : i = p
  · subst hip
    apply getD_mono
    unfold fst at hj
    simp only [ho] at hj
    unfold waits at hj
    obtain ⟨e, he, hbe⟩ := List.any_eq_true.1 hj
    simp only [Bool.and_eq_true, beq_iff_eq] at hbe
    rw [← hbe.2]
    exact hall e (by simpa using he) hbe.1
  · have e : (listed.setIfInBounds i true).getD p false = listed.getD p false := by
      rw [Array.getD_eq_getD_getElem?, Array.getD_eq_getD_getElem?, Array.getElem?_setIfInBounds_ne hip]
    exact getD_mono (h j hj (by rw [← e]; exact hp))

theorem wpOp_of_qOp {i : Nat} {a : Act} {K : Act → Prop} {K' : Act → World → Prop} {Q' : Exit → Act → World → Prop} {w : World} {listed : Array Bool} (hC : cls Cf Ct p listed w) (hkept : Kept md ops p listed)
    (hi : i ∈ Region.ready md ops listed) (h : ∀ a w', cls Cf Ct p (listed.setIfInBounds i true) w' → K a → K' a w') (hh : qOp P md ops Cf Ct p i K a) : wpOp P ops Q' i K' a w := by
  obtain ⟨hun, o, ho, hall⟩ := mem_ready.1 hi
  have hlt : i < listed.size := by
    rcases Nat.lt_or_ge i listed.size with h' | h'
    · exact h'
    · rw [Array.getD_eq_getD_getElem?, Array.getElem?_eq_none h'] at hun; cases hun
  have hset : i ≠ p → (listed.setIfInBounds i true).getD p false = listed.getD p false := fun hne => by
    rw [Array.getD_eq_getD_getElem?, Array.getD_eq_getD_getElem?, Array.getElem?_setIfInBounds_ne hne]
  have hsetp : (listed.setIfInBounds i true).getD i false = true := by
    rw [Array.getD_eq_getD_getElem?, Array.getElem?_setIfInBounds_self_of_lt hlt]; rfl
  have hunf : listed.getD i false = false := by
    rw [Array.getD_eq_getD_getElem?, Array.getElem?_eq_getElem hlt] at hun ⊢; exact hun
  unfold qOp at hh
  unfold wpOp
  simp only [ho] at hh ⊢
  split
  · rename_i hw
    simp only [hw, if_true] at hh
    obtain ⟨v, hv, hK⟩ := hh
    unfold allowed at hv
    split at hv
    · rename_i hip
      subst hip
      have hCf : Cf w := by unfold cls at hC; rw [hunf] at hC; simpa using hC
      exact .inl (wp_of_oat (C' := Ct) (fun a' w' hw' hk => h a' w' (by unfold cls; rw [hsetp]; simpa using hw') hk) (hv w hCf) hK)
    · rename_i hne
      by_cases hb : listed.getD p false = true
      · have hCt : Ct w := by unfold cls at hC; rw [hb] at hC; simpa using hC
        rcases hv.2 with hft | hv2
        · exfalso
          have := hkept i hft hb
          rw [hunf] at this; cases this
        · exact .inl (wp_of_oat (C' := Ct) (fun a' w' hw' hk => h a' w' (by unfold cls; rw [hset hne, hb]; simpa using hw') hk) (hv2 w hCt) hK)
      · have hCf : Cf w := by unfold cls at hC; simpa [hb] using hC
        rcases hv.1 with hwt | hf
        · exfalso
          unfold waits at hwt
          obtain ⟨e, he, hbe⟩ := List.any_eq_true.1 hwt
          simp only [Bool.and_eq_true, beq_iff_eq] at hbe
          have := hall e (by simpa using he) hbe.1
          rw [hbe.2] at this
          exact hb this
        · exact .inl (wp_of_oat (C' := Cf) (fun a' w' hw' hk => h a' w' (by unfold cls; rw [hset hne]; simpa [hb] using hw') hk) (hf w hCf) hK)
  · rename_i hw
    simp only [hw] at hh
    exact h _ _ (by unfold cls at hC ⊢; rw [hset hh.1]; exact hC) hh.2

theorem wpAny_of_quiet {Q : Act → Prop} {Q' : Exit → Act → World → Prop} (hQ : ∀ a w, Ct w → Q a → Q' .normal a w) : ∀ (fuel : Nat) (listed : Array Bool) (a : Act) (w : World), cls Cf Ct p listed w → Kept md ops p listed →
    wpAnyQ P md ops Cf Ct p Q fuel listed a → wpAny P md ops Q' fuel listed a w
  | 0, l, _, _, hw, _, h => ⟨h.1, hQ _ _ (by unfold cls at hw; rw [h.2.1] at hw; simpa using hw) h.2.2⟩
  | fuel + 1, l, _, _, hw, hk0, h => ⟨fun h0 => hQ _ _ (by unfold cls at hw; rw [(h.1 h0).1] at hw; simpa using hw) (h.1 h0).2, fun i hi => wpOp_of_qOp hw hk0 hi (fun a' w' hw' hk => wpAny_of_quiet hQ fuel _ a' w' hw' (hk0.set hi) hk) (h.2 i hi)⟩

def YieldsIn (P : Program) (md : Region.Mode) (ops : Array Oper) (Cf Ct : World → Prop) (p i : Nat) (o : Oper) (v : Value) (a : Act) : Prop :=
  (Region.wanted o (yielded ops a.tmps) = true ∧ allowed P md ops Cf Ct p i o a v) ∨
  (Region.wanted o (yielded ops a.tmps) = false ∧ i ≠ p ∧ v = undef)

theorem YieldsIn.qOp {i : Nat} {o : Oper} {v : Value} {a : Act} (hi : ops[i]? = some o) (hy : YieldsIn P md ops Cf Ct p i o v a) {K : Act → Prop} (h : K (a.put o.dst v)) : qOp P md ops Cf Ct p i K a := by
  unfold QP.qOp
  simp only [hi]
  rcases hy with ⟨hw, hv⟩ | ⟨hw, hne, rfl⟩
  · simp only [hw, if_true]; exact ⟨v, hv, h⟩
  · simp only [hw, Bool.false_eq_true, if_false]; exact ⟨hne, h⟩

theorem YieldsIn.of_same {i : Nat} {o : Oper} {v : Value} {a a' : Act} (hy : YieldsIn P md ops Cf Ct p i o v a) (he : execOp a'.eval o = execOp a.eval o)
    (hw : Region.wanted o (yielded ops a'.tmps) = Region.wanted o (yielded ops a.tmps)) : YieldsIn P md ops Cf Ct p i o v a' := by
  unfold YieldsIn allowed oat at *
  rw [he, hw]
  exact hy

theorem yieldsIn_of_qOp {i : Nat} {o : Oper} {a : Act} {K : Act → Prop} (hi : ops[i]? = some o) (h : qOp P md ops Cf Ct p i K a) : ∃ v, YieldsIn P md ops Cf Ct p i o v a ∧ K (a.put o.dst v) := by
  unfold qOp at h
  simp only [hi] at h
  by_cases hw : Region.wanted o (yielded ops a.tmps) = true
  · simp only [hw, if_true] at h
    obtain ⟨v, h1, h2⟩ := h
    exact ⟨v, .inl ⟨hw, h1⟩, h2⟩
  · simp only [hw] at h
    exact ⟨undef, .inr ⟨by simpa using hw, h.1, rfl⟩, h.2⟩

theorem qOp_put {i j : Nat} {oi oj : Oper} {v : Value} (hj : ops[j]? = some oj) (hap : oi.apart ops oj = true)
    (hsi : ∀ cs b, oi.op ≠ .select cs b) (hsj : ∀ cs b, oj.op ≠ .select cs b) {K : Act → Prop} {a : Act}
    (hy : YieldsIn P md ops Cf Ct p i oi v a) (h : qOp P md ops Cf Ct p j K (a.put oi.dst v)) :
    qOp P md ops Cf Ct p j (fun a' => YieldsIn P md ops Cf Ct p i oi v a' ∧ K (a'.put oi.dst v)) a := by
  obtain ⟨h1, h2, h3⟩ := Oper.apart_spec hap
  have keep : ∀ (a : Act), YieldsIn P md ops Cf Ct p i oi v a → ∀ u, YieldsIn P md ops Cf Ct p i oi v (a.put oj.dst u) := fun a hy u =>
    hy.of_same (execOp_put oi hsi a oj.dst u h3) (wanted_put oi a oj.dst u h3)
  unfold qOp at *
  simp only [hj] at *
  rw [wanted_put oj a oi.dst v h1] at h
  split
  · rename_i hw
    simp only [hw, if_true] at h
    obtain ⟨u, hu, hn⟩ := h
    refine ⟨u, ?_, keep a hy u, by rw [← Act.put_comm a v u h2]; exact hn⟩
    unfold allowed oat at *
    rwa [execOp_put oj hsj a oi.dst v h1] at hu
  · rename_i hw
    simp only [hw] at h
    exact ⟨h.1, keep a hy _, by rw [← Act.put_comm a v undef h2]; exact h.2⟩

theorem wpAnyQ_first {Q : Act → Prop} {i : Nat} {oi : Oper} {v : Value} (hi : ops[i]? = some oi) (hsel : ∀ (j : Nat) (o : Oper) cs b, ops[j]? = some o → o.op ≠ .select cs b) :
    ∀ (fuel : Nat) (listed : Array Bool) (a : Act),
      (∀ j oj, ops[j]? = some oj → j ≠ i → listed.getD j true = false → (∀ e ∈ oj.after, Region.binds md e = true → e.on ≠ i) → oi.apart ops oj = true) →
      i ∈ Region.ready md ops listed → YieldsIn P md ops Cf Ct p i oi v a →
      wpAnyQ P md ops Cf Ct p Q fuel (listed.setIfInBounds i true) (a.put oi.dst v) → wpAnyQ P md ops Cf Ct p Q (fuel + 1) listed a := by
  intro fuel
  induction fuel with
  | zero =>
    intro listed a _ hr hy H
    refine ⟨fun h => (by rw [h] at hr; cases hr), fun j hj => ?_⟩
    by_cases hji : j = i
    · subst hji; exact hy.qOp hi H
    · have := ready_mono hj hji
      rw [H.1] at this
      cases this
  | succ fuel ih =>
    intro listed a hfree hr hy H
    refine ⟨fun h => (by rw [h] at hr; cases hr), fun j hj => ?_⟩
    by_cases hji : j = i
    · subst hji; exact hy.qOp hi H
    · have h1 := H.2 j (ready_mono hj hji)
      obtain ⟨hjun, oj, hoj, hall⟩ := mem_ready.1 hj
      have hnot : ∀ e ∈ oj.after, Region.binds md e = true → e.on ≠ i := fun e he hb heq => by
        have h1 := hall e he hb
        have h0 := (mem_ready.1 hr).1
        rw [heq] at h1
        rcases Nat.lt_or_ge i listed.size with h' | h'
        · simp [h'] at h0 h1; rw [h0] at h1; cases h1
        · simp [Array.getElem?_eq_none h'] at h1
      have h2 := qOp_put hoj (hfree j oj hoj hji hjun hnot) (fun cs b => hsel i oi cs b hi) (fun cs b => hsel j oj cs b hoj) hy h1
      have hfree' : ∀ k ok, ops[k]? = some ok → k ≠ i → (listed.setIfInBounds j true).getD k true = false →
          (∀ e ∈ ok.after, Region.binds md e = true → e.on ≠ i) → oi.apart ops ok = true := fun k ok hk hki hun hno => by
        refine hfree k ok hk hki ?_ hno
        by_cases hjk : j = k
        · subst hjk; exact hjun
        · rw [getD_set_ne true hjk] at hun; exact hun
      refine qOp_mono (fun a' h3 => ih (listed.setIfInBounds j true) a' hfree' (ready_mono hr (Ne.symm hji)) h3.1 ?_) h2
      rw [Array.setIfInBounds_comm _ _ hji]
      exact h3.2

def lexFromP (md : Region.Mode) (ops : Array Oper) (p : Nat) : Nat → Nat → Array Bool → Bool
  | 0, _, listed => (Region.ready md ops listed).isEmpty && listed.getD p false
  | fuel + 1, k, listed => (Region.ready md ops listed).contains k && Region.free md ops listed k && lexFromP md ops p fuel (k + 1) (listed.setIfInBounds k true)
def lexBP (md : Region.Mode) (ops : Array Oper) (p : Nat) : Bool := Region.noSelect ops && lexFromP md ops p ops.size 0 (Array.replicate ops.size false)

theorem wpAnyQ_lex {Q : Act → Prop} (hs : Region.noSelect ops = true) : ∀ (l : List Oper) (k : Nat) (listed : Array Bool) (a : Act), (∀ j, l[j]? = ops[k + j]?) →
    lexFromP md ops p l.length k listed = true → wpQ P md ops Cf Ct p Q l k a → wpAnyQ P md ops Cf Ct p Q l.length listed a
  | [], _, _, _, _, hB, h => by
    simp only [List.length_nil, lexFromP, Bool.and_eq_true] at hB
    exact ⟨by simpa using hB.1, hB.2, h⟩
  | o :: l, k, listed, a, hl, hB, h => by
    have h0 : ops[k]? = some o := by simpa using (hl 0).symm
    simp only [List.length_cons, lexFromP, Bool.and_eq_true] at hB
    obtain ⟨⟨hr, hf⟩, hB'⟩ := hB
    have hst : qOp P md ops Cf Ct p k (wpQ P md ops Cf Ct p Q l (k + 1)) a := by unfold qOp; simp only [h0]; exact h
    obtain ⟨v, hy, hK⟩ := yieldsIn_of_qOp h0 hst
    exact wpAnyQ_first h0 (Region.noSelect_spec hs) l.length listed a (Region.free_spec h0 hf) (by simpa using hr) hy
      (wpAnyQ_lex hs l (k + 1) _ _ (fun j => by have := hl (j + 1); simpa [Nat.add_assoc, Nat.add_comm 1 j] using this) hB' hK)

theorem wp_region_p (p : Nat) (Cf Ct : World → Prop) {id : Nat} {Q : Exit → Act → World → Prop} {a : Act} {w : World} {l : List Oper} (hm : P.follows .mixedOrders = true) (hB : lexBP .any l.toArray p = true)
    (hC : Cf w.drew) (h : wpQ P .any l.toArray Cf Ct p (fun a' => ∀ w', Ct w' → Q .normal a' w') l 0 a) : (Code.region id l.toArray true).wp P Q a w := by
  simp only [lexBP, Bool.and_eq_true] at hB
  refine wp_region_any hm (wpAny_of_quiet (Cf := Cf) (Ct := Ct) (p := p) (Q := fun a' => ∀ w', Ct w' → Q .normal a' w') (fun _ w' hw' h => h w' hw') _ _ _ _ ?_ ?_ ?_)
  · have e : (Array.replicate l.toArray.size false).getD p false = false := by
      rw [Array.getD_eq_getD_getElem?, Array.getElem?_replicate]; split <;> rfl
    unfold cls; rw [e]; simpa using hC
  · intro j _ hp
    have e : (Array.replicate l.toArray.size false).getD p false = false := by
      rw [Array.getD_eq_getD_getElem?, Array.getElem?_replicate]; split <;> rfl
    rw [e] at hp; cases hp
  · have := wpAnyQ_lex (Cf := Cf) (Ct := Ct) (p := p) (md := .any) hB.1 l 0 (Array.replicate l.toArray.size false) a (by simp) (by simpa using hB.2) h
    simpa using this

theorem al_ok {i : Nat} {o : Oper} {a : Act} {v : Value} (hne : (i == p) = false) (hf : ∀ w, Cf w → oat P o a Cf w v) (ht : ∀ w, Ct w → oat P o a Ct w v) : allowed P md ops Cf Ct p i o a v := by
  unfold allowed
  rw [if_neg (by simpa using hne)]
  exact ⟨.inr hf, .inr ht⟩
theorem al_dep {i : Nat} {o : Oper} {a : Act} {v : Value} (hne : (i == p) = false) (hd : waits md p o = true) (ht : ∀ w, Ct w → oat P o a Ct w v) : allowed P md ops Cf Ct p i o a v := by
  unfold allowed
  rw [if_neg (by simpa using hne)]
  exact ⟨.inl hd, .inr ht⟩
theorem al_bef {i : Nat} {o : Oper} {a : Act} {v : Value} (hne : (i == p) = false) (hd : fst md ops p i = true) (hf : ∀ w, Cf w → oat P o a Cf w v) : allowed P md ops Cf Ct p i o a v := by
  unfold allowed
  rw [if_neg (by simpa using hne)]
  exact ⟨.inr hf, .inl hd⟩
theorem al_p {i : Nat} {o : Oper} {a : Act} {v : Value} (he : (i == p) = true) (hp : ∀ w, Cf w → oat P o a Ct w v) : allowed P md ops Cf Ct p i o a v := by
  unfold allowed
  rw [if_pos (by simpa using he)]
  exact hp
attribute [go_sem] upon
theorem oat_load_row {o : Oper} {a : Act} {w : World} {C' : World → Prop} (ty : TypeId) (x : Operand) (ho : o.op = .load ty x) (g : Nat) (hx : a.eval x = .pointer (some ⟨g, 0, none⟩)) (t : TypeId) (cs : Array Value) (fr : Nat × Nat) (d : TypeDesc) (hg : w.heap[g]? = some (.cells cs t fr))
    (hu : P.underlying ty = some d) (hd : (match d with | .struct _ | .array _ _ => true | _ => false) = true) (hi : (P.info? ty).map (·.size) = some cs.size) (hC : C' w) : oat P o a C' w (.agg cs) := by
  unfold oat execOp
  simp only [ho, hx, Instr.loadAt, Instr.sureAddr, Sem.run_bind, Sem.run_pure, Result.andThen_ok, run_loadVar_row w g t ty cs fr d hg hu hd hi]
  exact ⟨hC, rfl⟩
theorem oat_load_mid {o : Oper} {a : Act} {w : World} {C' : World → Prop} (ty : TypeId) (x : Operand) (ho : o.op = .load ty x) (b off : Nat) (hx : a.eval x = .pointer (some ⟨b, off, none⟩)) (cs : List Value) (d : TypeDesc) (hc : w.rangeAt b off cs)
    (hu : P.underlying ty = some d) (hd : d.isRow = true) (hi : (P.info? ty).map (·.size) = some cs.length) (hC : C' w) : oat P o a C' w (.agg cs.toArray) := by
  unfold oat execOp
  simp only [ho, hx, Instr.loadAt, Instr.sureAddr, Sem.run_bind, Sem.run_pure, Result.andThen_ok, run_loadVar_mid w b off ty cs d hc hu hd hi]
  exact ⟨hC, rfl⟩
theorem oat_store_row {o : Oper} {a : Act} {w : World} {C' : World → Prop} (ty : TypeId) (x y : Operand) (ho : o.op = .store ty x y) (g : Nat) (cells : Array Value) (hx : a.eval x = .pointer (some ⟨g, 0, none⟩)) (hy : a.eval y = .agg cells)
    (t : TypeId) (old : Array Value) (hg : w.heap[g]? = some (.cells old t (0, 0))) (hi : (P.info? ty).map (·.size) = some cells.size) (hold : old.size = cells.size) (h1 : cells.all (·.oneCell') = true) (hC : C' (w.setRow g cells)) : oat P o a C' w undef := by
  unfold oat execOp
  simp only [ho, hx, hy, Instr.storeAt, Instr.sureAddr, Sem.run_bind, Sem.run_pure, Result.andThen_ok, run_storeVar_row w g t ty old cells hg hi hold h1]
  exact ⟨hC, rfl⟩

end QP
end Go.Proofs.YtiilgkhndfnkgaaDoor
