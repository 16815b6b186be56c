/- Regions that draw their order, where ONE operation (number q) makes a new block, another one (number p), that waits for it, writes, and all else is quiet: whichever comes first, one walk serves every order. What waits for number q comes behind it in the text. -/
import Derived.Test.YtblbhnlmbmffkaaQuietT
namespace Go.Proofs.Ytblbhnlmbmffkaa
namespace QA
open QP (upon oat wp_of_oat getD_mono)
open QT (waits fst dep_listed)
set_option linter.unusedVariables false
variable {P : Program} {ops : Array Oper} {md : Region.Mode} {A : World → Prop} {B D : Nat → World → Prop} {q p : Nat} {S S' : Nat → Prop} {Qf : Nat → Act → Prop}

abbrev ptr (g : Nat) : Value := .pointer (some ⟨g, 0, none⟩)

def allowed (P : Program) (md : Region.Mode) (ops : Array Oper) (A : World → Prop) (B D : Nat → World → Prop) (q p : Nat) (S : Nat → Prop) (i : Nat) (o : Oper) (a : Act) (v : Value) : Prop :=
  if i = p then ∀ g w, S g → B g w → oat P o a (D g) w v
  else (waits md ops q o = true ∨ ∀ w, A w → oat P o a A w v) ∧
    (waits md ops p o = true ∨ fst md ops q i = true ∨ ∀ g w, S g → B g w → oat P o a (B g) w v) ∧
    (fst md ops p i = true ∨ fst md ops q i = true ∨ ∀ g w, S g → D g w → oat P o a (D g) w v)
def made (P : Program) (A : World → Prop) (B : Nat → World → Prop) (o : Oper) (a : Act) (g : Nat) : Prop := ∀ w, A w → w.heap.size = g → oat P o a (B g) w (ptr g)

def qOp (P : Program) (md : Region.Mode) (ops : Array Oper) (A : World → Prop) (B D : Nat → World → Prop) (q p : Nat) (S : Nat → Prop) (i : Nat) (K : (Nat → Prop) → Act → Prop) (a : Act) : Prop :=
  match ops[i]? with
  | none => K S a
  | some o =>
    if i = q then Region.wanted o (yielded ops a.tmps) = true ∧ ∀ g, S g → made P A B o a g ∧ K (fun x => x = g) (a.put o.dst (ptr g))
    else if Region.wanted o (yielded ops a.tmps) then ∃ v, allowed P md ops A B D q p S i o a v ∧ K S (a.put o.dst v) else i ≠ p ∧ K S (a.put o.dst undef)

def wpA (P : Program) (md : Region.Mode) (ops : Array Oper) (A : World → Prop) (B D : Nat → World → Prop) (q p : Nat) (Qf : Nat → Act → Prop) : List Oper → Nat → (Nat → Prop) → Act → Prop
  | [], _, S, a => ∀ g, S g → Qf g a
  | o :: rest, i, S, a =>
    if i = q then Region.wanted o (yielded ops a.tmps) = true ∧ ∀ g, S g → made P A B o a g ∧ wpA P md ops A B D q p Qf rest (i + 1) (fun x => x = g) (a.put o.dst (ptr g))
    else if Region.wanted o (yielded ops a.tmps) then ∃ v, allowed P md ops A B D q p S i o a v ∧ wpA P md ops A B D q p Qf rest (i + 1) S (a.put o.dst v) else i ≠ p ∧ wpA P md ops A B D q p Qf rest (i + 1) S (a.put o.dst undef)

theorem wpA_nil {i : Nat} {a : Act} (h : ∀ g, S g → Qf g a) : wpA P md ops A B D q p Qf [] i S a := h
theorem wpA_step {a : Act} {o : Oper} {rest : List Oper} {i : Nat} (hi : (i == q) = false)
    (h : ∀ K : Act → Prop, (∀ a, wpA P md ops A B D q p Qf rest (i + 1) S a → K a) → if Region.wanted o (yielded ops a.tmps) then ∃ v, allowed P md ops A B D q p S i o a v ∧ K (a.put o.dst v) else i ≠ p ∧ K (a.put o.dst undef)) :
    wpA P md ops A B D q p Qf (o :: rest) i S a := by
  unfold wpA
  rw [if_neg (by simpa using hi)]
  exact h _ (fun _ h => h)
theorem wpA_alloc {a : Act} {o : Oper} {rest : List Oper} {i : Nat} (hi : (i == q) = true) (hw : Region.wanted o (yielded ops a.tmps) = true)
    (h1 : ∀ g, S g → made P A B o a g) (h2 : ∀ g, S g → wpA P md ops A B D q p Qf rest (i + 1) (fun x => x = g) (a.put o.dst (ptr g))) :
    wpA P md ops A B D q p Qf (o :: rest) i S a := by
  unfold wpA
  rw [if_pos (by simpa using hi)]
  exact ⟨hw, fun g hg => ⟨h1 g hg, h2 g hg⟩⟩

theorem allowed.mono {i : Nat} {o : Oper} {a : Act} {v : Value} (h : allowed P md ops A B D q p S i o a v) (hs : ∀ g, S' g → S g) : allowed P md ops A B D q p S' i o a v := by
  unfold allowed at *
  split
  · rename_i hip
    rw [if_pos hip] at h
    exact fun g w hg => h g w (hs g hg)
  · rename_i hip
    rw [if_neg hip] at h
    exact ⟨h.1, h.2.1.imp_right (fun h => h.imp_right fun h g w hg => h g w (hs g hg)), h.2.2.imp_right (fun h => h.imp_right fun h g w hg => h g w (hs g hg))⟩

theorem qOp_mono {i : Nat} {a : Act} {K K' : (Nat → Prop) → Act → Prop} (h : ∀ S a, K S a → K' S a) (hh : qOp P md ops A B D q p S i K a) : qOp P md ops A B D q p S i K' a := by
  unfold qOp at *
  split
  · rename_i ho; simp only [ho] at hh; exact h _ _ hh
  · rename_i o ho
    simp only [ho] at hh
    split
    · rename_i hq
      rw [if_pos hq] at hh
      exact ⟨hh.1, fun g hg => ⟨(hh.2 g hg).1, h _ _ (hh.2 g hg).2⟩⟩
    · rename_i hq
      rw [if_neg hq] at hh
      split
      · rename_i hw; simp only [hw, if_true] at hh; exact let ⟨v, h1, h2⟩ := hh; ⟨v, h1, h _ _ h2⟩
      · rename_i hw; simp only [hw] at hh; exact ⟨hh.1, h _ _ hh.2⟩

def anyA (P : Program) (md : Region.Mode) (ops : Array Oper) (A : World → Prop) (B D : Nat → World → Prop) (q p : Nat) (Qf : Nat → Act → Prop) : Nat → Array Bool → (Nat → Prop) → Act → Prop
  | 0, listed, S, a => Region.ready md ops listed = [] ∧ listed.getD q false = true ∧ listed.getD p false = true ∧ ∀ g, S g → Qf g a
  | fuel + 1, listed, S, a =>
    (Region.ready md ops listed = [] → listed.getD q false = true ∧ listed.getD p false = true ∧ ∀ g, S g → Qf g a) ∧
    ∀ i ∈ Region.ready md ops listed, qOp P md ops A B D q p S i (fun S' a' => anyA P md ops A B D q p Qf fuel (listed.setIfInBounds i true) S' a') a

/-- the class of worlds once these are listed -/
def cls (A : World → Prop) (B D : Nat → World → Prop) (q p : Nat) (S : Nat → Prop) (listed : Array Bool) (w : World) : Prop :=
  if listed.getD q false = true then ∃ g, S g ∧ (if listed.getD p false = true then D g w else B g w) else A w ∧ ∀ g, S g

theorem set_other {listed : Array Bool} {i j : Nat} (h : i ≠ j) : (listed.setIfInBounds i true).getD j false = listed.getD j false := by
  rw [Array.getD_eq_getD_getElem?, Array.getD_eq_getD_getElem?, Array.getElem?_setIfInBounds_ne h]
theorem set_same {listed : Array Bool} {i : Nat} (h : i < listed.size) : (listed.setIfInBounds i true).getD i false = true := by
  rw [Array.getD_eq_getD_getElem?, Array.getElem?_setIfInBounds_self_of_lt h]; rfl

theorem wpOp_of_qOp {i : Nat} {a : Act} {K : (Nat → Prop) → Act → Prop} {K' : Act → World → Prop} {Q' : Exit → Act → World → Prop} {w : World} {listed : Array Bool} (hpq : fst md ops p q = true) (hne : p ≠ q) (hC : cls A B D q p S listed w) (hD : QT.Down md ops listed)
    (hi : i ∈ Region.ready md ops listed) (h : ∀ S' a w', cls A B D q p S' (listed.setIfInBounds i true) w' → K S' a → K' a w') (hh : qOp P md ops A B D q p S i K a) : wpOp P ops Q' i K' a w := by
  obtain ⟨hun, o, ho, hall⟩ := mem_ready.1 hi
  have hlt : i < listed.size := by
    rcases Nat.lt_or_ge i listed.size with h' | h'
    · exact h'
    · rw [Array.getD_eq_getD_getElem?, Array.getElem?_eq_none h'] at hun; cases hun
  have hunf : listed.getD i false = false := by
    rw [Array.getD_eq_getD_getElem?, Array.getElem?_eq_getElem hlt] at hun ⊢; exact hun
  have hpl : listed.getD p false = true → listed.getD q false = true := fun hp => by
    unfold QT.fst at hpq
    split at hpq
    · rename_i op hop
      exact dep_listed hD 4 op (hD p op hp hop) hpq
    · cases hpq
  have hfst : ∀ t, fst md ops t i = true → listed.getD t false = true → False := fun t hf ht => by
    have : listed.getD i false = true := by
      unfold QT.fst at hf
      split at hf
      · rename_i op hop
        exact dep_listed hD 4 op (hD t op ht hop) hf
      · cases hf
    rw [hunf] at this; cases this
  have hwait : ∀ t, waits md ops t o = true → listed.getD t false = true := fun t hw => dep_listed hD 4 o (fun e he h => hall e (by simpa using he) h) hw
  unfold qOp at hh
  unfold wpOp
  simp only [ho] at hh ⊢
  by_cases hiq : i = q
  · subst hiq
    rw [if_pos rfl] at hh
    have hA : A w ∧ ∀ g, S g := by unfold cls at hC; rw [hunf] at hC; simpa using hC
    obtain ⟨hw, hg⟩ := hh
    have hg' := hg w.heap.size (hA.2 _)
    simp only [hw, if_true]
    refine .inl (wp_of_oat (C' := B w.heap.size) (K := fun a => K (fun x => x = w.heap.size) a) (fun a' w' hw' hk => h _ a' w' ?_ hk) (hg'.1 w hA.1 rfl) hg'.2)
    unfold cls
    rw [set_same hlt, if_pos rfl]
    refine ⟨w.heap.size, rfl, ?_⟩
    rw [set_other hne.symm]
    have : listed.getD p false = false := by
      cases hp : listed.getD p false with
      | false => rfl
      | true => have := hpl hp; rw [hunf] at this; cases this
    rw [this]; exact hw'
  · rw [if_neg hiq] at hh
    have hq2 := set_other (listed := listed) hiq
    split
    · rename_i hw
      simp only [hw, if_true] at hh
      obtain ⟨v, hv, hK⟩ := hh
      unfold allowed at hv
      by_cases hip : i = p
      · subst hip
        rw [if_pos rfl] at hv
        have hql : listed.getD q false = true := by
          unfold QT.fst at hpq
          simp only [ho] at hpq
          exact hwait q hpq
        unfold cls at hC
        rw [hql, if_pos rfl, hunf] at hC
        obtain ⟨g, hSg, hBg⟩ := hC
        refine .inl (wp_of_oat (C' := D g) (K := fun a => K S a) (fun a' w' hw' hk => h _ a' w' ?_ hk) (hv g w hSg (by simpa using hBg)) hK)
        unfold cls
        rw [hq2, hql, if_pos rfl]
        exact ⟨g, hSg, by rw [set_same hlt, if_pos rfl]; exact hw'⟩
      · rw [if_neg hip] at hv
        have hp2 := set_other (listed := listed) hip
        by_cases hql : listed.getD q false = true
        · have hC0 := hC
          unfold cls at hC
          rw [hql, if_pos rfl] at hC
          obtain ⟨g, hSg, hg⟩ := hC
          by_cases hpl' : listed.getD p false = true
          · rw [hpl', if_pos rfl] at hg
            rcases hv.2.2 with hx | hx | hx
            · exact (hfst p hx hpl').elim
            · exact (hfst q hx hql).elim
            · refine .inl (wp_of_oat (C' := D g) (K := fun a => K S a) (fun a' w' hw' hk => h _ a' w' ?_ hk) (hx g w hSg hg) hK)
              unfold cls
              rw [hq2, hp2, hql, hpl', if_pos rfl]
              exact ⟨g, hSg, by rw [if_pos rfl]; exact hw'⟩
          · rw [if_neg hpl'] at hg
            rcases hv.2.1 with hx | hx | hx
            · exact (hpl' (hwait p hx)).elim
            · exact (hfst q hx hql).elim
            · refine .inl (wp_of_oat (C' := B g) (K := fun a => K S a) (fun a' w' hw' hk => h _ a' w' ?_ hk) (hx g w hSg hg) hK)
              unfold cls
              rw [hq2, hp2, hql, if_pos rfl]
              exact ⟨g, hSg, by rw [if_neg hpl']; exact hw'⟩
        · unfold cls at hC
          rw [if_neg hql] at hC
          rcases hv.1 with hx | hx
          · exact (hql (hwait q hx)).elim
          · refine .inl (wp_of_oat (C' := A) (K := fun a => K S a) (fun a' w' hw' hk => h _ a' w' ?_ hk) (hx w hC.1) hK)
            unfold cls
            rw [hq2, if_neg hql]
            exact ⟨hw', hC.2⟩
    · rename_i hw
      simp only [hw] at hh
      refine h _ _ _ ?_ hh.2
      unfold cls at hC ⊢
      rw [hq2, set_other hh.1]
      exact hC

theorem wpAny_of_any {Q' : Exit → Act → World → Prop} (hpq : fst md ops p q = true) (hne : p ≠ q) (hQ : ∀ g a w, D g w → Qf g a → Q' .normal a w) : ∀ (fuel : Nat) (listed : Array Bool) (S : Nat → Prop) (a : Act) (w : World), cls A B D q p S listed w → QT.Down md ops listed →
    anyA P md ops A B D q p Qf fuel listed S a → wpAny P md ops Q' fuel listed a w
  | 0, l, S, _, _, hw, _, h => ⟨h.1, by
    unfold cls at hw
    rw [h.2.1, if_pos rfl] at hw
    obtain ⟨g, hg, hd⟩ := hw
    rw [h.2.2.1, if_pos rfl] at hd
    exact hQ g _ _ hd (h.2.2.2 g hg)⟩
  | fuel + 1, l, S, _, _, hw, hd0, h => ⟨fun h0 => by
    obtain ⟨h1, h2, h3⟩ := h.1 h0
    unfold cls at hw
    rw [h1, if_pos rfl] at hw
    obtain ⟨g, hg, hd⟩ := hw
    rw [h2, if_pos rfl] at hd
    exact hQ g _ _ hd (h3 g hg), fun i hi => wpOp_of_qOp hpq hne hw hd0 hi (fun S' a' w' hw' hk => wpAny_of_any hpq hne hQ fuel _ S' a' w' hw' (hd0.set hi) hk) (h.2 i hi)⟩

def YieldsIn (P : Program) (md : Region.Mode) (ops : Array Oper) (A : World → Prop) (B D : Nat → World → Prop) (q p : Nat) (S : Nat → Prop) (i : Nat) (o : Oper) (v : Value) (a : Act) : Prop :=
  (Region.wanted o (yielded ops a.tmps) = true ∧ allowed P md ops A B D q p S i o a v) ∨
  (Region.wanted o (yielded ops a.tmps) = false ∧ i ≠ p ∧ v = undef)
theorem YieldsIn.mono {i : Nat} {o : Oper} {v : Value} {a : Act} (hy : YieldsIn P md ops A B D q p S i o v a) (hs : ∀ g, S' g → S g) : YieldsIn P md ops A B D q p S' i o v a :=
  hy.imp (fun h => ⟨h.1, h.2.mono hs⟩) id
theorem YieldsIn.qOp {i : Nat} {o : Oper} {v : Value} {a : Act} (hiq : i ≠ q) (hi : ops[i]? = some o) (hy : YieldsIn P md ops A B D q p S i o v a) {K : (Nat → Prop) → Act → Prop} (h : K S (a.put o.dst v)) : qOp P md ops A B D q p S i K a := by
  unfold QA.qOp
  simp only [hi]
  rw [if_neg hiq]
  rcases hy with ⟨hw, hv⟩ | ⟨hw, hne, rfl⟩
  · simp only [hw, if_true]; exact ⟨v, hv, h⟩
  · simp only [hw, Bool.false_eq_true, if_false]; exact ⟨hne, h⟩
theorem YieldsIn.of_same {i : Nat} {o : Oper} {v : Value} {a a' : Act} (hy : YieldsIn P md ops A B D q p S i o v a) (he : execOp a'.eval o = execOp a.eval o)
    (hw : Region.wanted o (yielded ops a'.tmps) = Region.wanted o (yielded ops a.tmps)) : YieldsIn P md ops A B D q p S i o v a' := by
  unfold YieldsIn allowed oat at *
  rw [he, hw]
  exact hy
theorem yieldsIn_of_qOp {i : Nat} {o : Oper} {a : Act} {K : (Nat → Prop) → Act → Prop} (hiq : i ≠ q) (hi : ops[i]? = some o) (h : qOp P md ops A B D q p S i K a) : ∃ v, YieldsIn P md ops A B D q p S i o v a ∧ K S (a.put o.dst v) := by
  unfold qOp at h
  simp only [hi] at h
  rw [if_neg hiq] at h
  by_cases hw : Region.wanted o (yielded ops a.tmps) = true
  · simp only [hw, if_true] at h
    obtain ⟨v, h1, h2⟩ := h
    exact ⟨v, .inl ⟨hw, h1⟩, h2⟩
  · simp only [hw] at h
    exact ⟨undef, .inr ⟨by simpa using hw, h.1, rfl⟩, h.2⟩

theorem qOp_put {i j : Nat} {oi oj : Oper} {v : Value} (hj : ops[j]? = some oj) (hap : oi.apart ops oj = true)
    (hsi : ∀ cs b, oi.op ≠ .select cs b) (hsj : ∀ cs b, oj.op ≠ .select cs b) {K : (Nat → Prop) → Act → Prop} {a : Act}
    (hy : YieldsIn P md ops A B D q p S i oi v a) (h : qOp P md ops A B D q p S j K (a.put oi.dst v)) :
    qOp P md ops A B D q p S j (fun S' a' => YieldsIn P md ops A B D q p S' i oi v a' ∧ K S' (a'.put oi.dst v)) a := by
  obtain ⟨h1, h2, h3⟩ := Oper.apart_spec hap
  have keep : ∀ (S' : Nat → Prop) (a : Act), YieldsIn P md ops A B D q p S' i oi v a → ∀ u, YieldsIn P md ops A B D q p S' i oi v (a.put oj.dst u) := fun S' a hy u =>
    hy.of_same (execOp_put oi hsi a oj.dst u h3) (wanted_put oi a oj.dst u h3)
  unfold qOp at *
  simp only [hj] at *
  rw [wanted_put oj a oi.dst v h1] at h
  by_cases hjq : j = q
  · rw [if_pos hjq] at h ⊢
    refine ⟨h.1, fun g hg => ⟨?_, keep _ a (hy.mono (fun x hx => by rw [hx]; exact hg)) _, by rw [← Act.put_comm a v _ h2]; exact (h.2 g hg).2⟩⟩
    have hm := (h.2 g hg).1
    unfold made oat at *
    rwa [execOp_put oj hsj a oi.dst v h1] at hm
  · rw [if_neg hjq] at h ⊢
    split
    · rename_i hw
      simp only [hw, if_true] at h
      obtain ⟨u, hu, hn⟩ := h
      refine ⟨u, ?_, keep _ a hy u, by rw [← Act.put_comm a v u h2]; exact hn⟩
      unfold allowed oat at *
      rwa [execOp_put oj hsj a oi.dst v h1] at hu
    · rename_i hw
      simp only [hw] at h
      exact ⟨h.1, keep _ a hy _, by rw [← Act.put_comm a v undef h2]; exact h.2⟩

theorem anyA_first {i : Nat} {oi : Oper} {v : Value} (hiq : i ≠ q) (hi : ops[i]? = some oi) (hsel : ∀ (j : Nat) (o : Oper) cs b, ops[j]? = some o → o.op ≠ .select cs b) :
    ∀ (fuel : Nat) (listed : Array Bool) (S : Nat → Prop) (a : Act),
      (∀ j oj, ops[j]? = some oj → j ≠ i → listed.getD j true = false → (∀ e ∈ oj.after, Region.binds md e = true → e.on ≠ i) → oi.apart ops oj = true) →
      i ∈ Region.ready md ops listed → YieldsIn P md ops A B D q p S i oi v a →
      anyA P md ops A B D q p Qf fuel (listed.setIfInBounds i true) S (a.put oi.dst v) → anyA P md ops A B D q p Qf (fuel + 1) listed S a := by
  intro fuel
  induction fuel with
  | zero =>
    intro listed S a _ hr hy H
    refine ⟨fun h => (by rw [h] at hr; cases hr), fun j hj => ?_⟩
    by_cases hji : j = i
    · subst hji; exact hy.qOp hiq hi H
    · have := ready_mono hj hji
      rw [H.1] at this
      cases this
  | succ fuel ih =>
    intro listed S a hfree hr hy H
    refine ⟨fun h => (by rw [h] at hr; cases hr), fun j hj => ?_⟩
    by_cases hji : j = i
    · subst hji; exact hy.qOp hiq hi H
    · have h1 := H.2 j (ready_mono hj hji)
      obtain ⟨hjun, oj, hoj, hall⟩ := mem_ready.1 hj
      have hnot : ∀ e ∈ oj.after, Region.binds md e = true → e.on ≠ i := fun e he hb heq => by
        have h1 := hall e he hb
        have h0 := (mem_ready.1 hr).1
        rw [heq] at h1
        rcases Nat.lt_or_ge i listed.size with h' | h'
        · simp [h'] at h0 h1; rw [h0] at h1; cases h1
        · simp [Array.getElem?_eq_none h'] at h1
      have h2 := qOp_put hoj (hfree j oj hoj hji hjun hnot) (fun cs b => hsel i oi cs b hi) (fun cs b => hsel j oj cs b hoj) hy h1
      have hfree' : ∀ k ok, ops[k]? = some ok → k ≠ i → (listed.setIfInBounds j true).getD k true = false →
          (∀ e ∈ ok.after, Region.binds md e = true → e.on ≠ i) → oi.apart ops ok = true := fun k ok hk hki hun hno => by
        refine hfree k ok hk hki ?_ hno
        by_cases hjk : j = k
        · subst hjk; exact hjun
        · rw [getD_set_ne true hjk] at hun; exact hun
      refine qOp_mono (fun S' a' h3 => ih (listed.setIfInBounds j true) S' a' hfree' (ready_mono hr (Ne.symm hji)) h3.1 ?_) h2
      rw [Array.setIfInBounds_comm _ _ hji]
      exact h3.2

def lexFrom (md : Region.Mode) (ops : Array Oper) (q p : Nat) : Nat → Nat → Array Bool → Bool
  | 0, _, listed => (Region.ready md ops listed).isEmpty && (listed.getD q false && listed.getD p false)
  | fuel + 1, k, listed => (Region.ready md ops listed).contains k && (if k = q then Region.ready md ops listed == [q] else Region.free md ops listed k) && lexFrom md ops q p fuel (k + 1) (listed.setIfInBounds k true)
def lexB (md : Region.Mode) (ops : Array Oper) (q p : Nat) : Bool := Region.noSelect ops && fst md ops p q && !(p == q) && lexFrom md ops q p ops.size 0 (Array.replicate ops.size false)

theorem anyA_lex (hs : Region.noSelect ops = true) : ∀ (l : List Oper) (k : Nat) (listed : Array Bool) (S : Nat → Prop) (a : Act), (∀ j, l[j]? = ops[k + j]?) →
    lexFrom md ops q p l.length k listed = true → wpA P md ops A B D q p Qf l k S a → anyA P md ops A B D q p Qf l.length listed S a
  | [], _, _, _, _, _, hB, h => by
    simp only [List.length_nil, lexFrom, Bool.and_eq_true] at hB
    exact ⟨by simpa using hB.1, hB.2.1, hB.2.2, h⟩
  | o :: l, k, listed, S, a, hl, hB, h => by
    have h0 : ops[k]? = some o := by simpa using (hl 0).symm
    simp only [List.length_cons, lexFrom, Bool.and_eq_true] at hB
    obtain ⟨⟨hr, hf⟩, hB'⟩ := hB
    have hst : qOp P md ops A B D q p S k (fun S a => wpA P md ops A B D q p Qf l (k + 1) S a) a := by unfold qOp; simp only [h0]; exact h
    have hl' : ∀ j, l[j]? = ops[k + 1 + j]? := fun j => by have := hl (j + 1); simpa [Nat.add_assoc, Nat.add_comm 1 j] using this
    by_cases hkq : k = q
    · rw [if_pos hkq] at hf
      have hrd : Region.ready md ops listed = [q] := by simpa using hf
      refine ⟨fun h => (by rw [hrd] at h; cases h), fun i hi => ?_⟩
      rw [hrd] at hi
      obtain rfl : i = k := by rw [hkq]; simpa using hi
      exact qOp_mono (fun S' a' h3 => anyA_lex hs l (i + 1) _ S' a' hl' hB' h3) hst
    · rw [if_neg hkq] at hf
      obtain ⟨v, hy, hK⟩ := yieldsIn_of_qOp hkq h0 hst
      exact anyA_first hkq h0 (Region.noSelect_spec hs) l.length listed S a (Region.free_spec h0 hf) (by simpa using hr) hy
        (anyA_lex hs l (k + 1) _ S _ hl' hB' hK)

theorem wp_region_a (q p : Nat) (A : World → Prop) (B D : Nat → World → Prop) {id : Nat} {Q : Exit → Act → World → Prop} {a : Act} {w : World} {l : List Oper} (hm : P.follows .mixedOrders = true) (hB : lexB .any l.toArray q p = true)
    (hC : A w.drew) (h : wpA P .any l.toArray A B D q p (fun g a' => ∀ w', D g w' → Q .normal a' w') l 0 (fun _ => True) a) : (Code.region id l.toArray true).wp P Q a w := by
  simp only [lexB, Bool.and_eq_true] at hB
  obtain ⟨⟨⟨hs, hpq⟩, hne⟩, hlex⟩ := hB
  have hrep : ∀ j, (Array.replicate l.toArray.size false).getD j false = false := fun j => by
    rw [Array.getD_eq_getD_getElem?, Array.getElem?_replicate]; split <;> rfl
  refine wp_region_any hm (wpAny_of_any (A := A) (B := B) (D := D) (q := q) (p := p) (Qf := fun g a' => ∀ w', D g w' → Q .normal a' w') hpq (by simpa using hne) (fun g a w' hd hq => hq w' hd) _ _ (fun _ => True) _ _ ?_ ?_ ?_)
  · unfold cls; rw [hrep, if_neg (by decide)]; exact ⟨hC, fun _ => trivial⟩
  · intro j o hj _
    rw [hrep] at hj; cases hj
  · have := anyA_lex (P := P) (A := A) (B := B) (D := D) (q := q) (p := p) (Qf := fun g a' => ∀ w', D g w' → Q .normal a' w') (md := .any) hs l 0 (Array.replicate l.toArray.size false) (fun _ => True) a (by simp) (by simpa using hlex) h
    simpa using this

theorem al_p {i : Nat} {o : Oper} {a : Act} {v : Value} (he : (i == p) = true) (hp : ∀ g w, S g → B g w → oat P o a (D g) w v) : allowed P md ops A B D q p S i o a v := by
  unfold allowed
  rw [if_pos (by simpa using he)]
  exact hp
theorem al_o {i : Nat} {o : Oper} {a : Act} {v : Value} (hne : (i == p) = false) (h1 : waits md ops q o = true ∨ ∀ w, A w → oat P o a A w v)
    (h2 : waits md ops p o = true ∨ fst md ops q i = true ∨ ∀ g w, S g → B g w → oat P o a (B g) w v) (h3 : fst md ops p i = true ∨ fst md ops q i = true ∨ ∀ g w, S g → D g w → oat P o a (D g) w v) : allowed P md ops A B D q p S i o a v := by
  unfold allowed
  rw [if_neg (by simpa using hne)]
  exact ⟨h1, h2, h3⟩
theorem oat_alloc {o : Oper} {a : Act} {w w' : World} {C' : World → Prop} {g : Nat} (ho : (execOp a.eval o).run P w = .ok (.value (ptr g)) w') (hC : C' w') : oat P o a C' w (ptr g) := by
  unfold QP.oat; rw [ho]; exact ⟨hC, rfl⟩
end QA
end Go.Proofs.Ytblbhnlmbmffkaa
