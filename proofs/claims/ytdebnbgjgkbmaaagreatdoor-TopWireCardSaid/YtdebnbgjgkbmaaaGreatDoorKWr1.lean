/- What the claim rests on, part 1 of KWr: only what is used, joined; the conditions are those of each theorem. -/
import Derived.ArgAppend
import Derived.Below
import Derived.BigQuiet
import Derived.Calls
import Derived.ChangeKeysEq
import Derived.ChangeOld
import Derived.Deep.AppendLies
import Derived.Deep.AppendSrc
import Derived.Deep.DeepHandedRow
import Derived.Deep.LoopGhost
import Derived.Deep.MidRow
import Derived.Deep.Onto
import Derived.Deep.QuietTactic
import Derived.Deep.RegionHeld3
import Derived.Deep.RegionWith
import Derived.Deep.Slices
import Derived.Deep.WholeRow
import Derived.DeepKeys
import Derived.DeepKeys3
import Derived.DeepKeys4
import Derived.Defers
import Derived.Great.BuildSlice
import Derived.Great.Walk
import Derived.KernelRfl
import Derived.Laws.AppendOwn
import Derived.Laws.Bits64b
import Derived.Laws.BitsAllLaws
import Derived.Laws.BytesArg
import Derived.Laws.BytesString
import Derived.Laws.EntriesVeiled
import Derived.Laws.MakeOwn
import Derived.Laws.OwnMore
import Derived.Laws.Rows
import Derived.Laws.Tables
import Derived.Lib.BufferWrite
import Derived.Lib.Builder
import Derived.Lib.ConvBytes
import Derived.Lib.FrozenHead2
import Derived.Lib.Hide
import Derived.Lib.LaidTab
import Derived.Lib.SlFresh
import Derived.Lib.Strings
import Derived.Lib.TrailingZeros
import Derived.Lib.UnsafeStr
import Derived.LoopIn
import Derived.LoopNIn
import Derived.Maps.AppendAt
import Derived.Maps.Keyed
import Derived.OpenShut
import Derived.Orders
import Derived.Outline
import Derived.OwnWalk
import Derived.OwnWalkIn
import Derived.ProofKit
import Derived.RangeFuncBound
import Derived.RangeFuncCalls
import Derived.RangeFuncFrom
import Derived.RangeFuncLeaves
import Derived.RangeFuncNested
import Derived.Recover
import Derived.Shelf.Abstract
import Derived.Shelf.RegionOpen
import Derived.Shelf.RegionOpenPlain
import Derived.Shelf.Spec.SlicesInsert
import Derived.Shelf.Strings.OnBuilder
import Derived.ShutString
import Derived.StillTailTactics
import Derived.TacticsInMore
import Derived.Test.YtdebnbgjgkbmaaaGreatDoorProg
import Derived.Test.YtdebnbgjgkbmaaaGreatDoorRows
import Derived.WalkKit
import Derived.WalkLawsBesides
import Derived.WalkSpells
import Derived.Test.YtdebnbgjgkbmaaaGreatDoorK4
namespace Go.Proofs.YtdebnbgjgkbmaaaGreatDoor.Oc
open Go.RowKit
set_option linter.unusedVariables false
theorem At.written {w w' : World} {p : Addr} {s t : ByteArray} {n : Nat} (h : At w p s) (hb : Below n (w.setCell p (.string t)) w') (hp : p.block < n) : At w' p t :=
  ⟨by rw [hb.cell hp]; exact cell_set h.cell, by rw [hb.frozen hp]; exact frozen_set h.open'⟩
end Go.Proofs.YtdebnbgjgkbmaaaGreatDoor.Oc
namespace Go.Proofs.YtdebnbgjgkbmaaaGreatDoor
namespace QR
set_option linter.unusedVariables false
variable {P : Program}
def upd (L : Nat → Bool) (i : Nat) : Nat → Bool := fun j => if j = i then true else L j
def updV (V : Nat → Value) (i : Nat) (v : Value) : Nat → Value := fun j => if j = i then v else V j
/-- the act once these are listed, with these values -/
def putAll (L : Nat → Bool) (V : Nat → Value) : List Oper → Nat → Act → Act
  | [], _, a => a
  | o :: r, k, a => putAll L V r (k + 1) (if L k then a.put o.dst (V k) else a)
def apartB : List Oper → Bool
  | [] => true
  | o :: r => (r.all fun x => match o.dst with | some d => x.dst != some d | none => true) && apartB r
theorem putAll_comm {L : Nat → Bool} {V : Nat → Value} {x : Option Tmp} {v : Value} : ∀ (l : List Oper) (k : Nat) (a : Act), (∀ o ∈ l, ∀ d, x = some d → o.dst ≠ some d) → (putAll L V l k a).put x v = putAll L V l k (a.put x v)
  | [], _, _, _ => rfl
  | o :: r, k, a, h => by
    unfold putAll
    rw [putAll_comm r (k + 1) _ (fun o' ho' => h o' (List.mem_cons_of_mem _ ho'))]
    split
    · rw [Act.put_comm a v (V k) (h o List.mem_cons_self)]
    · rfl
theorem putAll_congr {L L' : Nat → Bool} {V V' : Nat → Value} : ∀ (l : List Oper) (k : Nat) (a : Act), (∀ j, k ≤ j → j < k + l.length → L j = L' j ∧ V j = V' j) → putAll L V l k a = putAll L' V' l k a
  | [], _, _, _ => rfl
  | o :: r, k, a, h => by
    unfold putAll
    obtain ⟨h1, h2⟩ := h k (Nat.le_refl _) (by simp)
    rw [h1, h2]
    exact putAll_congr r (k + 1) _ (fun j hj hj2 => h j (by omega) (by simp at hj2 ⊢; omega))
theorem putAll_step {L : Nat → Bool} {V : Nat → Value} {v : Value} {i : Nat} {o : Oper} : ∀ (l : List Oper) (k : Nat) (a : Act), apartB l = true → k ≤ i → l[i - k]? = some o → L i = false → (putAll L V l k a).put o.dst v = putAll (upd L i) (updV V i v) l k a
  | [], _, _, _, _, h, _ => by simp at h
  | x :: r, k, a, hap, hk, ho, hL => by
    unfold apartB at hap
    rw [Bool.and_eq_true] at hap
    unfold putAll
    by_cases hki : k = i
    · subst hki
      rw [Nat.sub_self] at ho
      obtain rfl : x = o := by simpa using ho
      rw [hL, if_neg (by decide), putAll_comm r (k + 1) a (fun o' ho' d hd => ?_)]
      · have e1 : upd L k k = true := if_pos rfl
        have e2 : updV V k v k = v := if_pos rfl
        rw [e1, e2, if_pos rfl]
        exact putAll_congr r (k + 1) _ (fun j hj _ => ⟨(if_neg (by omega)).symm, (if_neg (by omega)).symm⟩)
      · have := List.all_eq_true.1 hap.1 o' ho'
        rw [hd] at this
        simpa using this
    · have hk' : k < i := by omega
      have e1 : upd L i k = L k := if_neg hki
      have e2 : updV V i v k = V k := if_neg hki
      rw [e1, e2]
      have ho' : r[i - (k + 1)]? = some o := by rw [show i - k = (i - (k + 1)) + 1 by omega] at ho; simpa using ho
      exact putAll_step r (k + 1) _ hap.2 hk' ho' hL
theorem eval_put_ne {a : Act} {x : Option Tmp} {v : Value} {d : Tmp} (h : x ≠ some d) : (a.put x v).eval (.tmp d) = a.eval (.tmp d) := by
  cases x with
  | none => rfl
  | some e =>
    have hne : e ≠ d := fun h' => h (by rw [h'])
    unfold Act.put Act.eval
    simp [Array.getElem?_setIfInBounds_ne hne]
theorem eval_base {L : Nat → Bool} {V : Nat → Value} {d : Tmp} : ∀ (l : List Oper) (k : Nat) (a : Act), (l.all fun o => o.dst != some d) = true → (putAll L V l k a).eval (.tmp d) = a.eval (.tmp d)
  | [], _, _, _ => rfl
  | o :: r, k, a, h => by
    rw [List.all_cons, Bool.and_eq_true] at h
    unfold putAll
    rw [eval_base r (k + 1) _ h.2]
    split
    · exact eval_put_ne (by simpa using h.1)
    · rfl
theorem size_put (a : Act) (x : Option Tmp) (v : Value) : (a.put x v).tmps.size = a.tmps.size := by
  cases x <;> simp [Act.put]
theorem size_putAll {L : Nat → Bool} {V : Nat → Value} : ∀ (l : List Oper) (k : Nat) (a : Act), (putAll L V l k a).tmps.size = a.tmps.size
  | [], _, _ => rfl
  | o :: r, k, a => by
    unfold putAll
    rw [size_putAll r]
    split
    · exact size_put _ _ _
    · rfl
theorem eval_put_eq {a : Act} {v : Value} {d : Tmp} (h : d < a.tmps.size) : (a.put (some d) v).eval (.tmp d) = v := by
  unfold Act.put Act.eval
  simp [Array.getD_eq_getD_getElem?, Array.getElem?_setIfInBounds_self_of_lt h]
theorem eval_at {L : Nat → Bool} {V : Nat → Value} {d : Tmp} {o : Oper} {i : Nat} : ∀ (l : List Oper) (k : Nat) (a : Act), apartB l = true → d < a.tmps.size → k ≤ i → l[i - k]? = some o → o.dst = some d → L i = true → (putAll L V l k a).eval (.tmp d) = V i
  | [], _, _, _, _, _, h, _, _ => by simp at h
  | x :: r, k, a, hap, hd, hk, ho, hdst, hL => by
    unfold apartB at hap
    rw [Bool.and_eq_true] at hap
    unfold putAll
    by_cases hki : k = i
    · subst hki
      rw [Nat.sub_self] at ho
      obtain rfl : x = o := by simpa using ho
      rw [hL, if_pos rfl, eval_base r (k + 1) _ (List.all_eq_true.2 fun o' ho' => by
        have := List.all_eq_true.1 hap.1 o' ho'
        rw [hdst] at this
        exact this), hdst]
      exact eval_put_eq hd
    · have ho' : r[i - (k + 1)]? = some o := by rw [show i - k = (i - (k + 1)) + 1 by omega] at ho; simpa using ho
      refine eval_at r (k + 1) _ hap.2 ?_ (by omega) ho' hdst hL
      split
      · rw [size_put]; exact hd
      · exact hd
def lf (listed : Array Bool) : Nat → Bool := fun j => listed.getD j false
theorem lf_set {listed : Array Bool} {i : Nat} (h : i < listed.size) : lf (listed.setIfInBounds i true) = upd (lf listed) i := by
  funext j
  unfold lf upd
  simp only [Array.getD_eq_getD_getElem?, Array.getElem?_setIfInBounds]
  by_cases hij : i = j
  · subst hij; simp [h]
  · rw [if_neg hij, if_neg (fun e => hij e.symm)]
def cnt (n : Nat) (listed : Array Bool) : Nat := ((List.range n).filter fun i => !(lf listed i)).length
theorem cnt_set {n : Nat} {listed : Array Bool} {i : Nat} (h : i < listed.size) (hn : i < n) (hf : lf listed i = false) : cnt n (listed.setIfInBounds i true) < cnt n listed := by
  unfold cnt
  rw [lf_set h]
  have e : (List.range n).filter (fun j => !(upd (lf listed) i j)) = ((List.range n).filter fun j => !(lf listed j)).filter (fun j => decide (j ≠ i)) := by
    rw [List.filter_filter]
    apply List.filter_congr
    intro j _
    unfold upd
    by_cases hj : j = i
    · simp [hj]
    · simp [hj]
  rw [e]
  refine List.length_filter_lt_length_iff_exists.2 ⟨i, List.mem_filter.2 ⟨List.mem_range.2 hn, by simp [hf]⟩, by simp⟩
end QR
end Go.Proofs.YtdebnbgjgkbmaaaGreatDoor
namespace Go.Proofs.YtdebnbgjgkbmaaaGreatDoor
namespace QC
open Go.RowKit
open QP (upon oat wp_of_oat)
open QT (dep)
open QR (upd updV putAll apartB putAll_congr putAll_step lf lf_set cnt cnt_set size_put)
set_option linter.unusedVariables false
variable {P : Program}
/-- o yields v in the world w, and leaves it -/
def Y (P : Program) (ops : Array Oper) (o : Oper) (a : Act) (v : Value) (w : World) : Prop :=
  (Region.wanted o (yielded ops a.tmps) = true ∧ oat P o a (fun u => u = w) w v) ∨ (Region.wanted o (yielded ops a.tmps) = false ∧ v = undef)
abbrev Fl := List (Nat × (World → Prop))
/-- the walk: quiet operations as soon as they can, each with what it rests on; an effect must leave what the floating ones rest on -/
def wpC (P : Program) (ops : Array Oper) (E : List Nat) (Q : Exit → Act → World → Prop) : List Nat → Fl → Act → World → Prop
  | [], _, a, w => Q .normal a w
  | i :: r, F, a, w => ∃ o, ops[i]? = some o ∧
    if E.contains i then
      wpList P ops (fun e a' w' => e = .normal ∧ a'.defers = a.defers ∧ (∀ x ∈ F, dep .any ops x.1 30 o = true ∨ x.2 w') ∧ wpC P ops E Q r F a' w') [o] a w
    else ∃ v, ((∀ u, Y P ops o a v u) ∧ wpC P ops E Q r F (a.put o.dst v) w) ∨ (∃ R : World → Prop, R w ∧ (∀ u, R u → Y P ops o a v u) ∧ wpC P ops E Q r ((i, R) :: F) (a.put o.dst v) w)
/-- operation o waits for number j by itself -/
def aft (o : Oper) (j : Nat) : Bool := o.after.toList.any fun e => Region.binds .any e && e.on == j
def lexB (l : List Oper) : Bool := (List.range l.length).all fun i => match l[i]? with | some o => o.after.toList.all fun e => !Region.binds .any e || decide (e.on < i) | none => true
/-- who writes what an operation looks at, it waits for -/
def readB (l : List Oper) : Bool := l.all fun o => (List.range l.length).all fun j => match l[j]? with | some x => (match x.dst with | some d => !(o.looksAt l.toArray).contains d || aft o j | none => true) | none => true
def ordB (l : List Oper) (E : List Nat) : List Nat → List Nat → Bool
  | [], done => (List.range l.length).all fun i => done.contains i
  | i :: r, done => !done.contains i && (match l[i]? with | some o => o.after.toList.all fun e => !Region.binds .any e || done.contains e.on | none => false) &&
    (!E.contains i || r.all fun k => match l[k]? with | some o => dep .any l.toArray i 30 o | none => false) && ordB l E r (i :: done)
def okC (l : List Oper) (E : List Nat) (ord : List Nat) : Bool := apartB l && lexB l && readB l && Region.noSelect l.toArray && ordB l E ord []
theorem tmps_congr {L L' : Nat → Bool} {V V' : Nat → Value} {t : Tmp} : ∀ (l : List Oper) (k : Nat) (a a' : Act), a.tmps[t]? = a'.tmps[t]? → a.tmps.size = a'.tmps.size → (∀ j o, l[j]? = some o → o.dst = some t → L (k + j) = L' (k + j) ∧ V (k + j) = V' (k + j)) →
    (putAll L V l k a).tmps[t]? = (putAll L' V' l k a').tmps[t]?
  | [], _, _, _, h, _, _ => h
  | o :: r, k, a, a', h, hs, hl => by
    unfold putAll
    refine tmps_congr r (k + 1) _ _ ?_ ?_ (fun j o' ho' hd => by have := hl (j + 1) o' (by simpa using ho') hd; simpa [Nat.add_assoc, Nat.add_comm 1 j] using this)
    · by_cases hd : o.dst = some t
      · obtain ⟨e1, e2⟩ := hl 0 o rfl hd
        simp only [Nat.add_zero] at e1 e2
        rw [e1, e2]
        split
        · rw [hd]; unfold Act.put; simp [Array.getElem?_setIfInBounds, hs]
        · exact h
      · have keep : ∀ (b : Bool) (x : Value) (c : Act), (if b = true then c.put o.dst x else c).tmps[t]? = c.tmps[t]? := fun b x c => by
          split
          · cases hx : o.dst with
            | none => rfl
            | some d =>
              have hne : d ≠ t := fun e => hd (by rw [hx, e])
              unfold Act.put; simp [Array.getElem?_setIfInBounds_ne hne]
          · rfl
        rw [keep, keep]; exact h
    · have keep : ∀ (b : Bool) (x : Value) (c : Act), (if b = true then c.put o.dst x else c).tmps.size = c.tmps.size := fun b x c => by
        split
        · exact size_put _ _ _
        · rfl
      rw [keep, keep]; exact hs
theorem exec_congr {ops : Array Oper} {a a' : Act} (o : Oper) (hs : ∀ cs b, o.op ≠ .select cs b) (h : ∀ t ∈ o.looksAt ops, a.tmps[t]? = a'.tmps[t]?) : execOp a.eval o = execOp a'.eval o := by
  refine execOp_congr o hs fun x hx => ?_
  cases x with
  | tmp t =>
    have := h t (List.mem_append_left _ (List.mem_filterMap.2 ⟨.tmp t, by simpa using hx, rfl⟩))
    show a.tmps.getD t undef = a'.tmps.getD t undef
    rw [Array.getD_eq_getD_getElem?, Array.getD_eq_getD_getElem?, this]
  | _ => rfl
theorem wanted_congr {ops : Array Oper} {a a' : Act} (o : Oper) (h : ∀ t ∈ o.looksAt ops, a.tmps[t]? = a'.tmps[t]?) : Region.wanted o (yielded ops a.tmps) = Region.wanted o (yielded ops a'.tmps) := by
  unfold Region.wanted
  cases hg : o.guard with
  | none => rfl
  | some gw =>
    obtain ⟨g, want⟩ := gw
    have hy : yielded ops a.tmps g = yielded ops a'.tmps g := by
      unfold yielded
      cases ht : (ops[g]?).bind (·.dst) with
      | none => rfl
      | some t => rw [Option.bind_some, Option.bind_some, h t (by simp [Oper.looksAt, hg, ht])]
    simp only [hy]
theorem Y_congr {ops : Array Oper} {a a' : Act} {o : Oper} {v : Value} {w : World} (hs : ∀ cs b, o.op ≠ .select cs b) (h : ∀ t ∈ o.looksAt ops, a.tmps[t]? = a'.tmps[t]?) (hy : Y P ops o a v w) : Y P ops o a' v w := by
  unfold Y oat at *
  rw [← exec_congr o hs h, ← wanted_congr o h]; exact hy
/-- a region that draws its order: the invariant I by what is listed and which values came, one step for each operation -/
theorem wp_region_g {id : Nat} {Q : Exit → Act → World → Prop} {a0 : Act} {w0 : World} {l : List Oper} (I : (Nat → Bool) → (Nat → Value) → World → Prop) (hm : P.follows .mixedOrders = true) (hap : apartB l = true)
    (hlex : ∀ i o, l[i]? = some o → ∀ e ∈ o.after.toList, Region.binds .any e = true → e.on < i)
    (h0 : ∀ V, I (fun _ => false) V w0.drew)
    (hstep : ∀ i o, l[i]? = some o → ∀ L V w, I L V w → L i = false → (∀ j o', l[j]? = some o' → L j = true → ∀ e ∈ o'.after.toList, Region.binds .any e = true → L e.on = true) →
      (∀ e ∈ o.after.toList, Region.binds .any e = true → L e.on = true) → ∀ a, a = putAll L V l 0 a0 → ∀ K : Act → World → Prop, (∀ v w', I (upd L i) (updV V i v) w' → K (a.put o.dst v) w') → if Region.wanted o (yielded l.toArray a.tmps) then o.wp P a w K Q else K (a.put o.dst undef) w)
    (hend : ∀ L V w, (∀ i, i < l.length → L i = true) → I L V w → Q .normal (putAll L V l 0 a0) w) : (Code.region id l.toArray true).wp P Q a0 w0 := by
  have key : ∀ (fuel : Nat) (listed : Array Bool) (V : Nat → Value) (w : World), listed.size = l.length → cnt l.length listed ≤ fuel → I (lf listed) V w →
      (∀ j o', l[j]? = some o' → lf listed j = true → ∀ e ∈ o'.after.toList, Region.binds .any e = true → lf listed e.on = true) →
      wpAny P .any l.toArray Q fuel listed (putAll (lf listed) V l 0 a0) w := by
    have full : ∀ (listed : Array Bool), listed.size = l.length → Region.ready .any l.toArray listed = [] → ∀ i, i < l.length → lf listed i = true := by
      intro listed hs hr i
      induction i using Nat.strongRecOn with
      | _ i ih =>
        intro hi
        rcases hb : lf listed i with _ | _
        · exfalso
          have ho : l[i]? = some (l[i]) := List.getElem?_eq_getElem hi
          have hmem : i ∈ Region.ready .any l.toArray listed := by
            refine mem_ready.2 ⟨?_, l[i], by simp, fun e he hbd => ?_⟩
            · unfold lf at hb
              rw [Array.getD_eq_getD_getElem?, Array.getElem?_eq_getElem (by omega)] at hb ⊢
              exact hb
            · have hlt := hlex i _ ho e (by simpa using he) hbd
              exact ih e.on (by omega) (by omega)
          rw [hr] at hmem; cases hmem
        · rfl
    intro fuel
    induction fuel with
    | zero =>
      intro listed V w hs hc hI hd
      have hall : ∀ i, i < l.length → lf listed i = true := fun i hi => by
        rcases hb : lf listed i with _ | _
        · exfalso
          have : 0 < cnt l.length listed := List.length_pos_iff.2 (List.ne_nil_of_mem (List.mem_filter.2 ⟨List.mem_range.2 hi, by simp [hb]⟩))
          omega
        · rfl
      refine ⟨?_, hend _ V w hall hI⟩
      rcases hr : Region.ready .any l.toArray listed with _ | ⟨i, r⟩
      · rfl
      · exfalso
        have hmem : i ∈ Region.ready .any l.toArray listed := by rw [hr]; exact List.mem_cons_self
        obtain ⟨h1, o, ho, _⟩ := mem_ready.1 hmem
        have hi : i < l.length := by have := (Array.getElem?_eq_some_iff.1 ho).1; simpa using this
        have := hall i hi
        unfold lf at this
        rw [Array.getD_eq_getD_getElem?, Array.getElem?_eq_getElem (by omega)] at this h1
        simp at this h1
        rw [this] at h1; cases h1
    | succ fuel ih =>
      intro listed V w hs hc hI hd
      refine ⟨fun hr => hend _ V w (full listed hs hr) hI, fun i hi => ?_⟩
      obtain ⟨h1, o, ho, hdep⟩ := mem_ready.1 hi
      have hol : l[i]? = some o := by simpa using ho
      have hil : i < l.length := (List.getElem?_eq_some_iff.1 hol).1
      have hLi : lf listed i = false := by
        unfold lf
        rw [Array.getD_eq_getD_getElem?, Array.getElem?_eq_getElem (by omega)] at h1 ⊢
        exact h1
      have nxt : ∀ v w', I (upd (lf listed) i) (updV V i v) w' → wpAny P .any l.toArray Q fuel (listed.setIfInBounds i true) ((putAll (lf listed) V l 0 a0).put o.dst v) w' := fun v w' hI' => by
        rw [putAll_step l 0 a0 hap (Nat.zero_le _) (by simpa using hol) hLi, ← lf_set (by omega)]
        rw [← lf_set (by omega)] at hI'
        refine ih _ _ w' (by simpa using hs) (by have := cnt_set (n := l.length) (listed := listed) (i := i) (by omega) hil hLi; omega) hI' (fun j o' hj hl e he hb => ?_)
        rw [lf_set (by omega)] at hl ⊢
        unfold upd at hl ⊢
        by_cases hji : j = i
        · subst hji
          obtain rfl : o' = o := Option.some.inj (hj.symm.trans hol)
          split
          · rfl
          · exact hdep e (by simpa using he) hb
        · rw [if_neg hji] at hl
          split
          · rfl
          · exact hd j o' hj hl e he hb
      have := hstep i o hol (lf listed) V w hI hLi hd (fun e he hb => hdep e (by simpa using he) hb) _ rfl _ nxt
      unfold wpOp
      simp only [ho]
      split
      · rename_i hw; rw [if_pos hw] at this; exact .inl this
      · rename_i hw; rw [if_neg hw] at this; exact this
  refine wp_region_any hm ?_
  have e0 : lf (Array.replicate l.length false) = fun _ => false := by
    funext j; unfold lf; rw [Array.getD_eq_getD_getElem?, Array.getElem?_replicate]; split <;> rfl
  have h1 := key l.toArray.size (Array.replicate l.length false) (fun _ => undef) w0.drew (by simp) (by unfold cnt; have := List.length_filter_le (fun i => !(lf (Array.replicate l.length false) i)) (List.range l.length); simpa using this) (by rw [e0]; exact h0 _) (fun j o' _ hl => by rw [e0] at hl; cases hl)
  have e1 : putAll (lf (Array.replicate l.length false)) (fun _ => undef) l 0 a0 = a0 := by
    rw [e0]
    have : ∀ (r : List Oper) (k : Nat) (a : Act), putAll (fun _ => false) (fun _ => undef) r k a = a := fun r => by
      induction r with
      | nil => intros; rfl
      | cons o r ih => intro k a; unfold putAll; rw [if_neg (by decide)]; exact ih _ _
    exact this l 0 a0
  rw [e1] at h1
  simpa using h1
/-- an unlisted operation that the walk has behind it -/
def Rob (P : Program) (l : List Oper) (E : List Nat) (F : Fl) (aW : Act) (w : World) (k : Nat) (v : Value) : Prop :=
  E.contains k = false ∧ ∃ o, l[k]? = some o ∧ ((∀ u, Y P l.toArray o aW v u) ∨ ∃ R, (k, R) ∈ F ∧ R w ∧ ∀ u, R u → Y P l.toArray o aW v u)
def dn (done : List Nat) : Nat → Bool := fun k => done.contains k
structure St (P : Program) (l : List Oper) (E : List Nat) (Q : Exit → Act → World → Prop) (a0 : Act) (L : Nat → Bool) (V : Nat → Value) (w : World) (W : Nat → Value) (ord done : List Nat) (F : Fl) : Prop where
  ag : ∀ k, L k = true → W k = V k
  od : ordB l E ord done = true
  sub : ∀ k, L k = true → dn done k = true
  eff : ∀ k, dn done k = true → E.contains k = true → L k = true
  dep : ∀ k o, dn done k = true → l[k]? = some o → ∀ e ∈ o.after.toList, Region.binds .any e = true → dn done e.on = true
  rob : ∀ k, dn done k = true → L k = false → Rob P l E F (putAll (dn done) W l 0 a0) w k (W k)
  wp : wpC P l.toArray E Q ord F (putAll (dn done) W l 0 a0) w
theorem dn_cons {i : Nat} {done : List Nat} (h : dn done i = false) : dn (i :: done) = upd (dn done) i := by
  funext j; unfold dn upd
  by_cases hj : j = i
  · subst hj; simp
  · rw [if_neg hj]; simp [hj]
theorem aft_of {l : List Oper} (hr : readB l = true) {o : Oper} {k : Nat} (ho : l[k]? = some o) {t : Tmp} (ht : t ∈ o.looksAt l.toArray) {j : Nat} {x : Oper} (hx : l[j]? = some x) (hd : x.dst = some t) : ∃ e ∈ o.after.toList, Region.binds .any e = true ∧ e.on = j := by
  unfold readB at hr
  have h1 := List.all_eq_true.1 hr o (List.mem_of_getElem? ho)
  have h2 := List.all_eq_true.1 h1 j (List.mem_range.2 (List.getElem?_eq_some_iff.1 hx).1)
  simp only [hx, hd, Bool.or_eq_true, Bool.not_eq_true'] at h2
  rcases h2 with h2 | h2
  · simp [ht] at h2
  · unfold aft at h2
    obtain ⟨e, he, hb⟩ := List.any_eq_true.1 h2
    simp only [Bool.and_eq_true, beq_iff_eq] at hb
    exact ⟨e, he, hb.1, hb.2⟩
theorem dep_all {l : List Oper} {L : Nat → Bool} (hD : ∀ j o', l[j]? = some o' → L j = true → ∀ e ∈ o'.after.toList, Region.binds .any e = true → L e.on = true) {t : Nat} : ∀ (f : Nat) (o : Oper), (∀ e ∈ o.after.toList, Region.binds .any e = true → L e.on = true) → dep .any l.toArray t f o = true → L t = true
  | 0, _, _, h => by simp [dep] at h
  | f + 1, o, hall, h => by
    unfold dep at h
    obtain ⟨e, he, hb⟩ := List.any_eq_true.1 h
    simp only [Bool.and_eq_true, Bool.or_eq_true, beq_iff_eq] at hb
    obtain ⟨h1, h2⟩ := hb
    rcases h2 with h2 | h2
    · rw [← h2]; exact hall e he h1
    · cases ho : l.toArray[e.on]? with
      | none => simp [ho] at h2
      | some o' =>
        simp only [ho] at h2
        have ho' : l[e.on]? = some o' := by simpa using ho
        exact dep_all hD f o' (hD e.on o' ho' (hall e he h1)) h2
section
variable {l : List Oper} {E : List Nat} {Q : Exit → Act → World → Prop} {a0 : Act} {L : Nat → Bool} {V W : Nat → Value} {w : World} {ord done : List Nat} {F : Fl}
theorem ordB_cons {i : Nat} {r : List Nat} (h : ordB l E (i :: r) done = true) : dn done i = false ∧ (∀ o, l[i]? = some o → ∀ e ∈ o.after.toList, Region.binds .any e = true → dn done e.on = true) ∧ (∃ o, l[i]? = some o) ∧
    (E.contains i = true → ∀ k ∈ r, ∃ o, l[k]? = some o ∧ dep .any l.toArray i 30 o = true) ∧ ordB l E r (i :: done) = true := by
  unfold ordB at h
  simp only [Bool.and_eq_true, Bool.not_eq_true', Bool.or_eq_true] at h
  obtain ⟨⟨⟨h1, h2⟩, h3⟩, h4⟩ := h
  refine ⟨h1, fun o ho e he hb => ?_, ?_, fun hE k hk => ?_, h4⟩
  · simp only [ho] at h2
    have := List.all_eq_true.1 h2 e he
    simpa [hb, dn] using this
  · cases ho : l[i]? with
    | none => simp [ho] at h2
    | some o => exact ⟨o, rfl⟩
  · rcases h3 with h3 | h3
    · rw [hE] at h3; cases h3
    · have := List.all_eq_true.1 h3 k hk
      cases hk : l[k]? with
      | none => simp [hk] at this
      | some o => exact ⟨o, rfl, by simpa [hk] using this⟩
theorem ordB_mem {i : Nat} (hi : i < l.length) : ∀ (ord done : List Nat), ordB l E ord done = true → dn done i = false → i ∈ ord
  | [], done, h, hd => by
    unfold ordB at h
    have := List.all_eq_true.1 h i (List.mem_range.2 hi)
    unfold dn at hd; rw [hd] at this; cases this
  | j :: r, done, h, hd => by
    obtain ⟨h1, _, _, _, h5⟩ := ordB_cons h
    by_cases hij : i = j
    · subst hij; exact List.mem_cons_self
    · refine List.mem_cons_of_mem _ (ordB_mem hi r _ h5 ?_)
      rw [dn_cons h1]; unfold upd; rw [if_neg hij]; exact hd
theorem agree (hr : readB l = true) {k : Nat} {o : Oper} (ho : l[k]? = some o) {L' : Nat → Bool} {V' : Nat → Value} (h : ∀ e ∈ o.after.toList, Region.binds .any e = true → L e.on = L' e.on ∧ V e.on = V' e.on) : ∀ t ∈ o.looksAt l.toArray, (putAll L V l 0 a0).tmps[t]? = (putAll L' V' l 0 a0).tmps[t]? := fun t ht =>
  tmps_congr l 0 _ _ rfl rfl fun j x hx hd => by
    obtain ⟨e, he, hb, hj⟩ := aft_of hr ho ht hx hd
    have := h e he hb
    rw [hj] at this; simpa using this
theorem St.quiet {i : Nat} {r : List Nat} (hap : apartB l = true) (hr : readB l = true) (hsel : ∀ o ∈ l, ∀ cs b, o.op ≠ .select cs b) (s : St P l E Q a0 L V w W (i :: r) done F) (hE : E.contains i = false) : ∃ W' F', St P l E Q a0 L V w W' r (i :: done) F' := by
  obtain ⟨h1, h2, ⟨o, ho⟩, _, h5⟩ := ordB_cons s.od
  have hLi : L i = false := by
    cases hb : L i
    · rfl
    · have := s.sub i hb; rw [h1] at this; cases this
  have hwp := s.wp
  obtain ⟨o', ho', hwp⟩ := hwp
  obtain rfl : o' = o := Option.some.inj (by rw [← ho, ← ho']; simp)
  rw [hE, if_neg (by decide)] at hwp
  obtain ⟨v, hwp⟩ := hwp
  have eput : (putAll (dn done) W l 0 a0).put o'.dst v = putAll (dn (i :: done)) (updV W i v) l 0 a0 := by
    rw [putAll_step l 0 a0 hap (Nat.zero_le _) (by simpa using ho) h1, dn_cons h1]
  have Ymv : ∀ k x v' u, l[k]? = some x → (∀ e ∈ x.after.toList, Region.binds .any e = true → dn done e.on = true) → Y P l.toArray x (putAll (dn done) W l 0 a0) v' u → Y P l.toArray x (putAll (dn (i :: done)) (updV W i v) l 0 a0) v' u := fun k x v' u hx hdep hy =>
    Y_congr (hsel x (List.mem_of_getElem? hx)) (agree hr hx (fun e he hb => by
      have hd := hdep e he hb
      have hne : e.on ≠ i := fun he => by rw [he, h1] at hd; cases hd
      rw [dn_cons h1]
      exact ⟨(if_neg hne).symm, (if_neg hne).symm⟩)) hy
  have mk : ∀ F' : Fl, (∀ x ∈ F, x ∈ F') → Rob P l E F' (putAll (dn (i :: done)) (updV W i v) l 0 a0) w i v → wpC P l.toArray E Q r F' ((putAll (dn done) W l 0 a0).put o'.dst v) w → ∃ W' F', St P l E Q a0 L V w W' r (i :: done) F' := fun F' hF hrob hw => by
    refine ⟨updV W i v, F', ⟨fun k hk => ?_, h5, fun k hk => ?_, fun k hk hEk => ?_, fun k x hk hx e he hb => ?_, fun k hk hLk => ?_, by rw [← eput]; exact hw⟩⟩
    · have hne : k ≠ i := fun e => by rw [e, hLi] at hk; cases hk
      show (if k = i then v else W k) = V k
      rw [if_neg hne]; exact s.ag k hk
    · rw [dn_cons h1]; unfold upd
      split
      · rfl
      · exact s.sub k hk
    · rw [dn_cons h1] at hk; unfold upd at hk
      by_cases hki : k = i
      · subst hki; rw [hE] at hEk; cases hEk
      · rw [if_neg hki] at hk; exact s.eff k hk hEk
    · rw [dn_cons h1] at hk ⊢; unfold upd at hk ⊢
      split
      · rfl
      · by_cases hki : k = i
        · subst hki
          obtain rfl : x = o' := Option.some.inj (hx.symm.trans ho)
          exact h2 x ho e he hb
        · rw [if_neg hki] at hk; exact s.dep k x hk hx e he hb
    · by_cases hki : k = i
      · subst hki
        show Rob P l E F' _ w k (if k = k then v else W k)
        rw [if_pos rfl]; exact hrob
      · rw [dn_cons h1] at hk; unfold upd at hk; rw [if_neg hki] at hk
        obtain ⟨g1, x, hx, g2⟩ := s.rob k hk hLk
        show Rob P l E F' _ w k (if k = i then v else W k)
        rw [if_neg hki]
        refine ⟨g1, x, hx, ?_⟩
        rcases g2 with g2 | ⟨R, g2, g3, g4⟩
        · exact .inl fun u => Ymv k x _ u hx (fun e he hb => s.dep k x hk hx e he hb) (g2 u)
        · exact .inr ⟨R, hF _ g2, g3, fun u hu => Ymv k x _ u hx (fun e he hb => s.dep k x hk hx e he hb) (g4 u hu)⟩
  rcases hwp with ⟨hy, hw⟩ | ⟨R, hR, hy, hw⟩
  · exact mk F (fun x hx => hx) ⟨hE, o', ho, .inl fun u => Ymv i o' v u ho (fun e he hb => h2 o' ho e he hb) (hy u)⟩ hw
  · exact mk ((i, R) :: F) (fun x hx => List.mem_cons_of_mem _ hx) ⟨hE, o', ho, .inr ⟨R, List.mem_cons_self, hR, fun u hu => Ymv i o' v u ho (fun e he hb => h2 o' ho e he hb) (hy u hu)⟩⟩ hw
/-- the walk goes on to an effect, or until i is behind it -/
theorem St.adv (hap : apartB l = true) (hr : readB l = true) (hsel : ∀ o ∈ l, ∀ cs b, o.op ≠ .select cs b) {i : Nat} (hi : i < l.length) : ∀ (ord done : List Nat) (W : Nat → Value) (F : Fl), St P l E Q a0 L V w W ord done F →
    ∃ W' ord' done' F', St P l E Q a0 L V w W' ord' done' F' ∧ (dn done' i = true ∨ ∃ p r, ord' = p :: r ∧ E.contains p = true)
  | [], done, W, F, s => by
    cases hd : dn done i
    · have := ordB_mem hi [] done s.od hd; cases this
    · exact ⟨W, [], done, F, s, .inl hd⟩
  | p :: r, done, W, F, s => by
    cases hE : E.contains p
    · obtain ⟨W', F', s'⟩ := s.quiet hap hr hsel hE
      exact St.adv hap hr hsel hi r (p :: done) W' F' s'
    · exact ⟨W, p :: r, done, F, s, .inr ⟨p, r, rfl, hE⟩⟩
theorem St.finish (hap : apartB l = true) (hr : readB l = true) (hsel : ∀ o ∈ l, ∀ cs b, o.op ≠ .select cs b) (hL : ∀ i, i < l.length → L i = true) : ∀ (ord done : List Nat) (W : Nat → Value) (F : Fl), St P l E Q a0 L V w W ord done F → Q .normal (putAll L V l 0 a0) w
  | [], done, W, F, s => by
    have h := s.wp
    have e : putAll (dn done) W l 0 a0 = putAll L V l 0 a0 := putAll_congr l 0 a0 fun j _ hj => by
      have hLj := hL j (by omega)
      exact ⟨by rw [s.sub j hLj, hLj], s.ag j hLj⟩
    rw [← e]; exact h
  | p :: r, done, W, F, s => by
    obtain ⟨h1, _, ⟨o, ho⟩, _, _⟩ := ordB_cons s.od
    have := s.sub p (hL p (List.getElem?_eq_some_iff.1 ho).1)
    rw [h1] at this; cases this
end
theorem wp_region_c {id : Nat} {Q : Exit → Act → World → Prop} {a : Act} {w : World} {l : List Oper} (E ord : List Nat) (hm : P.follows .mixedOrders = true) (hB : okC l E ord = true)
    (h : wpC P l.toArray E Q ord [] a w.drew) : (Code.region id l.toArray true).wp P Q a w := by
  unfold okC at hB
  simp only [Bool.and_eq_true] at hB
  obtain ⟨⟨⟨⟨hap, hlx⟩, hr⟩, hns⟩, hord⟩ := hB
  have hsel : ∀ o ∈ l, ∀ cs b, o.op ≠ .select cs b := fun o ho cs b => by
    obtain ⟨j, hj⟩ := List.getElem?_of_mem ho
    exact Region.noSelect_spec hns j o cs b (by simpa using hj)
  have hlex : ∀ i o, l[i]? = some o → ∀ e ∈ o.after.toList, Region.binds .any e = true → e.on < i := fun i o ho e he hb => by
    have h1 := List.all_eq_true.1 hlx i (List.mem_range.2 (List.getElem?_eq_some_iff.1 ho).1)
    simp only [ho] at h1
    have := List.all_eq_true.1 h1 e he
    simpa [hb] using this
  have p0 : ∀ V : Nat → Value, putAll (dn []) V l 0 a = a := fun V => by
    have : ∀ (r : List Oper) (k : Nat) (a : Act), putAll (dn []) V r k a = a := fun r => by
      induction r with
      | nil => intros; rfl
      | cons o r ih => intro k a; unfold putAll; rw [if_neg (by unfold dn; simp)]; exact ih _ _
    exact this l 0 a
  refine wp_region_g (fun L V w => ∃ W ord done F, St P l E Q a L V w W ord done F) hm hap hlex (fun V => ⟨V, ord, [], [], ⟨fun k hk => (by cases hk), hord, fun k hk => (by cases hk), fun k hk => (by simp [dn] at hk), fun k o hk => (by simp [dn] at hk), fun k hk => (by simp [dn] at hk), by rw [p0]; exact h⟩⟩) ?_ (fun L V w hL ⟨W, ord, done, F, s⟩ => s.finish hap hr hsel hL _ _ _ _)
  intro i o ho L V u ⟨W, ord, done, F, s⟩ hLi hD hdp aA haA K hK
  have hi : i < l.length := (List.getElem?_eq_some_iff.1 ho).1
  obtain ⟨W, ord, done, F, s, hcase⟩ := s.adv hap hr hsel hi
  have hso := hsel o (List.mem_of_getElem? ho)
  have cong : ∀ t ∈ o.looksAt l.toArray, (putAll (dn done) W l 0 a).tmps[t]? = aA.tmps[t]? := by
    rw [haA]
    exact agree hr ho fun e he hb => by
      have := hdp e he hb
      exact ⟨by rw [s.sub _ this, this], s.ag _ this⟩
  cases hdi : dn done i
  · -- the next effect
    rcases hcase with hc | ⟨p, r, rfl, hE⟩
    · rw [hdi] at hc; cases hc
    obtain ⟨h1, h2, ⟨op, hop⟩, h4, h5⟩ := ordB_cons s.od
    have hmem := ordB_mem hi _ _ s.od hdi
    have hip : i = p := by
      rcases List.mem_cons.1 hmem with e | hmem
      · exact e
      · obtain ⟨x, hx, hdx⟩ := h4 hE i hmem
        obtain rfl : x = o := Option.some.inj (hx.symm.trans ho)
        have := s.sub p (dep_all hD 30 x hdp hdx)
        rw [h1] at this; cases this
    subst hip
    obtain ⟨o', ho', hwp⟩ := s.wp
    obtain rfl : o' = o := Option.some.inj (by rw [← ho, ← ho']; simp)
    rw [hE, if_pos rfl] at hwp
    have nxt : ∀ v w', (∀ x ∈ F, dep .any l.toArray x.1 30 o' = true ∨ x.2 w') → wpC P l.toArray E Q r F ((putAll (dn done) W l 0 a).put o'.dst v) w' → K (aA.put o'.dst v) w' := fun v w' hF hw => by
      have eput : (putAll (dn done) W l 0 a).put o'.dst v = putAll (dn (i :: done)) (updV W i v) l 0 a := by
        rw [putAll_step l 0 a hap (Nat.zero_le _) (by simpa using ho) h1, dn_cons h1]
      refine hK v w' ⟨updV W i v, r, i :: done, F, ⟨fun k hk => ?_, h5, fun k hk => ?_, fun k hk hEk => ?_, fun k x hk hx e he hb => ?_, fun k hk hLk => ?_, by rw [← eput]; exact hw⟩⟩
      · unfold upd at hk; unfold updV
        split
        · rfl
        · rename_i hne; rw [if_neg hne] at hk; exact s.ag k hk
      · rw [dn_cons h1]; unfold upd at hk ⊢
        split
        · rfl
        · rename_i hne; rw [if_neg hne] at hk; exact s.sub k hk
      · rw [dn_cons h1] at hk; unfold upd at hk ⊢
        split
        · rfl
        · rename_i hne; rw [if_neg hne] at hk; exact s.eff k hk hEk
      · rw [dn_cons h1] at hk ⊢; unfold upd at hk ⊢
        split
        · rfl
        · by_cases hki : k = i
          · subst hki
            obtain rfl : x = o' := Option.some.inj (hx.symm.trans ho)
            exact h2 x ho e he hb
          · rw [if_neg hki] at hk; exact s.dep k x hk hx e he hb
      · unfold upd at hLk
        have hki : k ≠ i := fun e => by rw [if_pos e] at hLk; cases hLk
        rw [if_neg hki] at hLk
        rw [dn_cons h1] at hk; unfold upd at hk; rw [if_neg hki] at hk
        obtain ⟨g1, x, hx, g2⟩ := s.rob k hk hLk
        show Rob P l E F _ w' k (if k = i then v else W k)
        rw [if_neg hki]
        have Ymv : ∀ u, Y P l.toArray x (putAll (dn done) W l 0 a) (W k) u → Y P l.toArray x (putAll (dn (i :: done)) (updV W i v) l 0 a) (W k) u := fun u hy =>
          Y_congr (hsel x (List.mem_of_getElem? hx)) (agree hr hx (fun e he hb => by
            have hd := s.dep k x hk hx e he hb
            have hne : e.on ≠ i := fun he => by rw [he, h1] at hd; cases hd
            rw [dn_cons h1]
            exact ⟨(if_neg hne).symm, (if_neg hne).symm⟩)) hy
        refine ⟨g1, x, hx, ?_⟩
        rcases g2 with g2 | ⟨R, g2, g3, g4⟩
        · exact .inl fun u => Ymv u (g2 u)
        · refine .inr ⟨R, g2, ?_, fun u hu => Ymv u (g4 u hu)⟩
          rcases hF _ g2 with hh | hh
          · have := dep_all hD 30 o' hdp hh
            rw [hLk] at this; cases this
          · exact hh
    unfold wpList at hwp
    rw [wanted_congr o' cong] at hwp
    split
    · rename_i hwt
      rw [if_pos hwt] at hwp
      rcases hwp with hwp | ⟨_, _, _, hout, _⟩
      · unfold Oper.wp at hwp ⊢
        rw [exec_congr o' hso cong] at hwp
        generalize (execOp aA.eval o').run P u = res at *
        cases res with
        | ok n w' =>
          cases n <;> simp only [Oper.upon] at hwp ⊢
          case value v => exact nxt v w' hwp.2.2.1 hwp.2.2.2
          case skip => exact nxt undef w' hwp.2.2.1 hwp.2.2.2
          case defer d =>
            have he := hwp.2.1
            have hp : ∀ (b : Act) (t : Option Tmp) (v : Value), (b.put t v).defers = b.defers := fun b t v => by cases t <;> rfl
            rw [hp] at he
            have := congrArg List.length he
            simp at this
          case enter f args =>
            refine Calls.mono hwp fun e w'' he => ?_
            cases e with
            | returned v => exact nxt v w'' he.2.2.1 he.2.2.2
            | panicked c => cases he.1
            | outgrown => obtain ⟨_, _, h, _⟩ := he; cases h
          case row row args => exact Rows.mono hwp fun v w'' he => nxt v w'' he.2.2.1 he.2.2.2
        | halt x w' =>
          cases x <;> simp only [Oper.upon] at hwp
          case panic v => cases hwp.1
      · cases hout
    · rename_i hwt
      rw [if_neg hwt] at hwp
      exact nxt undef u hwp.2.2.1 hwp.2.2.2
  · -- a quiet one that the walk has behind it
    obtain ⟨g1, x, hx, g2⟩ := s.rob i hdi hLi
    obtain rfl : x = o := Option.some.inj (hx.symm.trans ho)
    have hy : Y P l.toArray x (putAll (dn done) W l 0 a) (W i) u := by
      rcases g2 with g2 | ⟨R, _, g3, g4⟩
      · exact g2 u
      · exact g4 u g3
    have hy := Y_congr hso cong hy
    have nxt : K (aA.put x.dst (W i)) u := hK (W i) u ⟨W, ord, done, F, ⟨fun k hk => by
        unfold upd at hk; unfold updV
        by_cases hki : k = i
        · rw [if_pos hki, hki]
        · rw [if_neg hki] at hk; rw [if_neg hki]; exact s.ag k hk, s.od, fun k hk => by
        unfold upd at hk
        by_cases hki : k = i
        · rw [hki]; exact hdi
        · rw [if_neg hki] at hk; exact s.sub k hk, fun k hk hEk => by
        unfold upd
        split
        · rfl
        · exact s.eff k hk hEk, s.dep, fun k hk hLk => by
        unfold upd at hLk
        by_cases hki : k = i
        · rw [if_pos hki] at hLk; cases hLk
        · rw [if_neg hki] at hLk; exact s.rob k hk hLk, s.wp⟩⟩
    rcases hy with ⟨hw, hy⟩ | ⟨hw, hv⟩
    · rw [if_pos hw]
      refine wp_of_oat (C' := fun u' => u' = u) (K := fun a' => a' = aA.put x.dst (W i)) (fun a' w' e1 e2 => ?_) hy rfl
      rw [e1, e2]; exact nxt
    · rw [if_neg (by rw [hw]; decide)]
      rw [← hv]; exact nxt
section
variable {ops : Array Oper} {E : List Nat} {Q : Exit → Act → World → Prop} {i : Nat} {r : List Nat} {F : Fl} {a : Act} {w : World} {o : Oper}
theorem wpC_nil (h : Q .normal a w) : wpC P ops E Q [] F a w := h
/-- an operation that looks at no memory -/
theorem wpC_pure (ho : ops.toList[i]? = some o) (hE : E.contains i = false)
    (h : ∀ K : Act → Prop, (∀ a, wpC P ops E Q r F a w → K a) → if Region.wanted o (yielded ops a.tmps) then ∃ v, (∀ u, oat P o a (fun x => x = u) u v) ∧ K (a.put o.dst v) else K (a.put o.dst undef)) : wpC P ops E Q (i :: r) F a w := by
  have := h _ (fun _ h => h)
  refine ⟨o, by rw [← Array.getElem?_toList]; exact ho, ?_⟩
  rw [hE, if_neg (by decide)]
  split at this
  · rename_i hw
    obtain ⟨v, h1, h2⟩ := this
    exact ⟨v, .inl ⟨fun u => .inl ⟨hw, h1 u⟩, h2⟩⟩
  · rename_i hw
    exact ⟨undef, .inl ⟨fun u => .inr ⟨by simpa using hw, rfl⟩, this⟩⟩
/-- an operation that rests on R -/
theorem wpC_rest (R : World → Prop) (v : Value) (ho : ops.toList[i]? = some o) (hE : E.contains i = false) (hw : Region.wanted o (yielded ops a.tmps) = true) (hR : R w) (hy : ∀ u, R u → oat P o a (fun x => x = u) u v)
    (h : wpC P ops E Q r ((i, R) :: F) (a.put o.dst v) w) : wpC P ops E Q (i :: r) F a w := by
  refine ⟨o, by rw [← Array.getElem?_toList]; exact ho, ?_⟩
  rw [hE, if_neg (by decide)]
  exact ⟨v, .inr ⟨R, hR, fun u hu => .inl ⟨hw, hy u hu⟩, h⟩⟩
theorem wpC_load {ty : TypeId} {x : Operand} {p : Addr} {v : Value} (ho : ops.toList[i]? = some o) (hE : E.contains i = false) (hop : o.op = .load ty x) (hw : Region.wanted o (yielded ops a.tmps) = true) (hx : a.eval x = .pointer (some p)) (hc : w.cell? p = some v)
    (hl : ∀ u : World, u.cell? p = some v → (Instr.loadAt ty (.pointer (some p))).run P u = .ok v u)
    (h : ∀ K : Act → Prop, (∀ a, wpC P ops E Q r ((i, fun u => u.cell? p = some v) :: F) a w → K a) → K (a.put o.dst v)) : wpC P ops E Q (i :: r) F a w := by
  refine wpC_rest (fun u => u.cell? p = some v) v ho hE hw hc (fun u hu => ?_) (h _ fun _ h => h)
  unfold oat execOp
  simp only [hop, hx, Sem.run_bind, Sem.run_pure, Result.andThen_ok, hl u hu]
  exact ⟨rfl, rfl⟩
end
/-- but for what was drawn, the same world -/
structure Dr (w u : World) : Prop where
  heap : u.heap = w.heap
  os : u.os = w.os
  tape : u.tape = w.tape
  output : u.output = w.output
section
variable {w u v : World}
theorem Dr.refl (w : World) : Dr w w := ⟨rfl, rfl, rfl, rfl⟩
theorem Dr.drew (w : World) : Dr w w.drew := ⟨rfl, rfl, rfl, rfl⟩
theorem Dr.trans (h : Dr w u) (h' : Dr u v) : Dr w v := ⟨h'.heap.trans h.heap, h'.os.trans h.os, h'.tape.trans h.tape, h'.output.trans h.output⟩
theorem Dr.cell (h : Dr w u) (p : Addr) : u.cell? p = w.cell? p := by unfold World.cell?; rw [h.heap]
theorem Dr.frozen (h : Dr w u) (p : Addr) : u.frozen? p = w.frozen? p := by unfold World.frozen?; rw [h.heap]
theorem Dr.row (h : Dr w u) {g : Nat} {t : TypeId} {cs : Array Value} (hr : M.RowAt w g t cs) : M.RowAt u g t cs := by unfold M.RowAt at *; rw [h.heap]; exact hr
theorem Dr.below {n : Nat} (h : Dr w u) : Below n w u := ⟨h.os, h.tape, h.output, by rw [h.heap]; exact Nat.le_refl _, fun k _ => by rw [h.heap]⟩
theorem Dr.size (h : Dr w u) : u.heap.size = w.heap.size := by rw [h.heap]
end
theorem wp_region_d {id : Nat} {Q : Exit → Act → World → Prop} {a : Act} {w : World} {l : List Oper} (E ord : List Nat) (hm : P.follows .mixedOrders = true) (hB : okC l E ord = true)
    (h : ∀ u, Dr w u → wpC P l.toArray E Q ord [] a u) : (Code.region id l.toArray true).wp P Q a w := wp_region_c E ord hm hB (h _ (Dr.drew w))
end QC
end Go.Proofs.YtdebnbgjgkbmaaaGreatDoor
namespace Go.Proofs.YtdebnbgjgkbmaaaGreatDoor
open Oc
open Go.RowKit
set_option linter.unusedVariables false
/-- the number that the first two bytes tell -/
def frLen (s : ByteArray) : Nat := (s.data.toList.getD 0 0).toNat * 256 + (s.data.toList.getD 1 0).toNat
theorem frLen_lt (s : ByteArray) : frLen s < 65536 := by
  unfold frLen
  have h1 := (s.data.toList.getD 0 0).toNat_lt; have h2 := (s.data.toList.getD 1 0).toNat_lt
  omega
def frBad (s : ByteArray) : Bool := decide (2 ≤ s.size) && (frLen s == 0 || decide (1024 < frLen s))
theorem Oc.At.dr {w u : World} {a : Addr} {s : ByteArray} (h : At w a s) (d : QC.Dr w u) : At u a s := ⟨(d.cell a).trans h.cell, (d.frozen a).trans h.open'⟩
theorem shl_or {x y : Nat} (hx : x < 256) (hy : y < 256) : bits .or .i64 (IntKind.i64.wrap (IntKind.i64.wrap (x : Int) * 256)) (IntKind.i64.wrap (y : Int)) = ((x * 256 + y : Nat) : Int) := by
  have w1 : IntKind.i64.wrap (x : Int) = (x : Nat) := by rw [IntKind.wrap_i64]; omega
  have w2 : IntKind.i64.wrap (y : Int) = (y : Nat) := by rw [IntKind.wrap_i64]; omega
  have w3 : IntKind.i64.wrap ((x : Int) * 256) = ((x * 256 : Nat) : Int) := by rw [IntKind.wrap_i64]; omega
  rw [w1, w2, w3]
  have ho : x * 256 ||| y = x * 256 + y := by
    have := Nat.shiftLeft_add_eq_or_of_lt (i := 8) (b := y) (by omega) x
    rw [Nat.shiftLeft_eq] at this
    exact this.symm
  have key : (BitVec.ofInt 64 ((x * 256 : Nat) : Int) ||| BitVec.ofInt 64 (y : Int)).toNat = x * 256 + y := by
    rw [BitVec.toNat_or, BitVec.toNat_ofInt, BitVec.toNat_ofInt]
    have h1 : (((x * 256 : Nat) : Int) % ((2 ^ 64 : Nat) : Int)).toNat = x * 256 := by omega
    have h2 : ((y : Int) % ((2 ^ 64 : Nat) : Int)).toNat = y := by omega
    rw [h1, h2, ho]
  show IntKind.i64.wrap ((BitVec.ofInt 64 ((x * 256 : Nat) : Int) ||| BitVec.ofInt 64 (y : Int)).toNat : Nat) = _
  rw [key, IntKind.wrap_i64]
  omega
theorem frLen_eq (s : ByteArray) (h : 1 < s.size) : frLen s = (s[0]'(by omega)).toNat * 256 + (s[1]'h).toNat := by
  unfold frLen
  have h0 : s.data.toList.length = s.size := by simp
  rw [List.getD_eq_getElem?_getD, List.getD_eq_getElem?_getD, List.getElem?_eq_getElem (by omega), List.getElem?_eq_getElem (by omega)]
  rfl
set_option maxRecDepth 100000 in
theorem flen_any (a : Addr) (s : ByteArray) (w : World) (h : At w a s) (hs : s.size ≤ 4611686018427387904) :
    Calls Tryz.prog 111 #[.pointer (some a)] w fun e w' => e = .returned (.tuple #[.int .i64 (if 2 ≤ s.size then (frLen s : Nat) else 0), .bool (decide (2 ≤ s.size))]) ∧ QC.Dr w w' := by
  have hc := h.cell
  by_cases h2 : 2 ≤ s.size
  · have hd : decide (2 ≤ s.size) = true := by simpa using h2
    rw [if_pos h2, hd]
    have H := Lib.hid h
    have z0 : 0 < s.size := by omega
    have z1 : 1 < s.size := by omega
    have z2 : (1 : Int) < (s.size : Nat) := by omega
    clear h
    go_enter Tryz.func111, Tryz.ntmps111
    go_wp2
    refine QC.wp_region_d [] [0, 1, 2, 3, 4, 5, 6, 7, 8, 9, 10, 11, 12, 13, 14, 15] (by kernel_rfl) (by kernel_rfl) (fun u d => ?_)
    have hcu := (H.out.dr d).cell
    have D := Lib.hid d
    clear d hc
    iterate 16
      (first
       | (apply QC.wpC_load
          (focus rfl)
          (focus decide)
          (focus rfl)
          (focus rfl)
          (focus rfl)
          (focus (assumption))
          (focus (intro u hu; go_simp))
          intro K hK
          go_simp
          refine hK _ ?_
          clear hK K)
       | (apply QC.wpC_pure
          (focus rfl)
          (focus decide)
          intro K hK
          go_simp
          first
           | (refine hK _ ?_; clear hK K)
           | (apply Exists.intro
              refine ⟨fun u => ?_, hK _ ?_⟩
              (focus (unfold QP.oat; go_simp; first | done | exact ⟨rfl, rfl⟩ | exact rfl))
              clear hK K)))
    refine QC.wpC_nil ?_
    go_wp2
    go_ret2
    refine ⟨?_, D.out⟩
    show Ending.returned (.tuple #[.int .i64 (bits .or .i64 (IntKind.i64.wrap (IntKind.i64.wrap (s[0].toNat : Int) * 256)) (IntKind.i64.wrap (s[1].toNat : Int))), .bool true]) = _
    rw [shl_or s[0].toNat_lt s[1].toNat_lt, ← frLen_eq s z1]
  · have hd : decide (2 ≤ s.size) = false := by simpa using h2
    rw [if_neg h2, hd]
    clear h
    go_enter Tryz.func111, Tryz.ntmps111
    go_wp2
    go_ret2
    exact ⟨rfl, QC.Dr.refl _⟩
theorem fbad_any (a : Addr) (s : ByteArray) (w : World) (h : At w a s) (hs : s.size ≤ 4611686018427387904) :
    Calls Tryz.prog 109 #[.pointer (some a)] w fun e w' => e = .returned (.bool (frBad s)) ∧ QC.Dr w w' := by
  have c := flen_any a s w h hs
  have hl := frLen_lt s
  have hb : frBad s = (decide (2 ≤ s.size) && (frLen s == 0 || decide (1024 < frLen s))) := rfl
  generalize frBad s = R at *
  have C := Lib.hid c; have HB := Lib.hid hb
  clear c h hb
  by_cases h2 : 2 ≤ s.size
  · have hd : decide (2 ≤ s.size) = true := by simpa using h2
    rw [if_pos h2, hd] at C
    rw [hd] at HB
    clear hd h2
    go_enter Tryz.func109, Tryz.ntmps109
    go_wp2_with fail
    refine (C.out).mono ?_
    rintro e w1 ⟨rfl, d1⟩
    have D := Lib.hid d1
    clear C d1
    by_cases h0 : frLen s = 0
    · have e : R = true := by rw [HB.out, h0]; rfl
      subst e
      rw [h0]
      go_wp2
      go_ret
      exact ⟨rfl, D.out⟩
    by_cases h3 : 1024 < frLen s
    · have e : R = true := by rw [HB.out]; simp [h3]
      subst e
      go_wp2
      go_ret
      exact ⟨by show Ending.returned (.bool _) = _; simp [h0]; try omega, D.out⟩
    · have e : R = false := by rw [HB.out]; simp [h0]; omega
      subst e
      go_wp2
      go_ret
      exact ⟨by show Ending.returned (.bool _) = _; simp [h0]; try omega, D.out⟩
  · have hd : decide (2 ≤ s.size) = false := by simpa using h2
    rw [if_neg h2, hd] at C
    rw [hd, Bool.false_and] at HB
    obtain rfl := HB.out
    clear hd h2 HB
    go_enter Tryz.func109, Tryz.ntmps109
    go_wp2_with fail
    refine (C.out).mono ?_
    rintro e w1 ⟨rfl, d1⟩
    have D := Lib.hid d1
    clear C d1
    go_wp2
    go_ret
    exact ⟨rfl, D.out⟩
theorem fput_any (a : Addr) (s t : ByteArray) (w : World) (h : At w a s) (hz : s.size + t.size ≤ 4611686018427387904) :
    Calls Tryz.prog 110 #[.pointer (some a), .string t] w fun e w' => e = .returned (.tuple #[]) ∧ w' = w.setCell a (.string (s ++ t)) := by
  have hc := h.cell
  have hf := h.open'
  have hz2 : s.size + t.size ≤ 9223372036854775807 := by omega
  clear h
  go_enter Tryz.func110, Tryz.ntmps110
  go_wp2
  go_end0
  exact ⟨rfl, rfl⟩
theorem fpush_ok (a : Addr) (s t : ByteArray) (w : World) (h : At w a s) (hb : frBad s = false) (hz : s.size + t.size ≤ 4611686018427387904) :
    Calls Tryz.prog 29 #[.pointer (some a), .string t] w fun e w' => e = .returned (.int .i64 0) ∧ ∃ u, QC.Dr w u ∧ w' = u.setCell a (.string (s ++ t)) := by
  have c := fbad_any a s w h (by omega)
  rw [hb] at c
  have C := Lib.hid c; have H := Lib.hid h
  have P := Lib.hid (fun u (hu : At u a s) => fput_any a s t u hu hz)
  clear c h hb
  go_enter Tryz.func29, Tryz.ntmps29
  go_wp2_with fail
  refine (C.out).mono ?_
  rintro e w1 ⟨rfl, d1⟩
  have D := Lib.hid d1
  clear C d1
  go_wp2_with fail
  refine (P.out _ (H.out.dr D.out)).mono ?_
  rintro e w2 ⟨rfl, rfl⟩
  go_wp2
  go_ret
  exact ⟨rfl, _, D.out, rfl⟩
theorem fsize_any (a : Addr) (s : ByteArray) (w : World) (h : At w a s) : Calls Tryz.prog 112 #[.pointer (some a)] w fun e w' => e = .returned (.int .i64 (s.size : Nat)) ∧ w = w' := by
  have hc := h.cell
  clear h
  go_enter Tryz.func112, Tryz.ntmps112
  go_wp2
  go_ret
  exact ⟨rfl, rfl⟩
theorem fleft_any (a : Addr) (s : ByteArray) (w : World) (h : At w a s) : Calls Tryz.prog 32 #[.pointer (some a)] w fun e w' => e = .returned (.int .i64 (s.size : Nat)) ∧ w = w' := by
  have C := Lib.hid (fsize_any a s w h)
  clear h
  go_enter Tryz.func32, Tryz.ntmps32
  go_wp2_with fail
  refine (C.out).mono ?_
  rintro e w1 ⟨rfl, rfl⟩
  go_wp2
  go_ret
  exact ⟨rfl, rfl⟩
theorem fcut_any (a : Addr) (s : ByteArray) (k : Nat) (w : World) (h : At w a s) (hs : s.size ≤ 4611686018427387904) (hk : k ≤ s.size) :
    Calls Tryz.prog 113 #[.pointer (some a), .int .i64 k] w fun e w' => e = .returned (.string (s.extract 0 k)) ∧ w' = w.setCell a (.string (s.extract k s.size)) := by
  have hc := h.cell
  have hf := h.open'
  clear h
  go_enter Tryz.func113, Tryz.ntmps113
  go_wp2
  go_ret
  exact ⟨rfl, rfl⟩
/-- no frame is there whole -/
def frStop (s : ByteArray) : Prop := s.size < 2 ∨ frBad s = true ∨ s.size < 2 + frLen s
theorem fnext_no (a : Addr) (s : ByteArray) (w : World) (h : At w a s) (hs : s.size ≤ 4611686018427387904) (hn : frStop s) :
    Calls Tryz.prog 30 #[.pointer (some a)] w fun e w' => e = .returned (.tuple #[.string ⟨#[]⟩, .bool false]) ∧ QC.Dr w w' := by
  have C1 := Lib.hid (flen_any a s w h hs)
  have C2 := Lib.hid (fun u (hu : At u a s) => fbad_any a s u hu hs)
  have C3 := Lib.hid (fun u (hu : At u a s) => fsize_any a s u hu)
  have H := Lib.hid h
  have hl := frLen_lt s
  have HN := Lib.hid hn
  clear h hn
  by_cases h2 : 2 ≤ s.size
  · have hd : decide (2 ≤ s.size) = true := by simpa using h2
    rw [if_pos h2, hd] at C1
    have HN2 := Lib.hid (show frBad s = true ∨ s.size < 2 + frLen s by rcases HN.out with h | h | h; omega; exact .inl h; exact .inr h)
    clear hd HN
    generalize frLen s = L at *
    generalize frBad s = R at *
    go_enter Tryz.func30, Tryz.ntmps30
    go_wp2_with fail
    refine (C1.out).mono ?_
    rintro e w1 ⟨rfl, d1⟩
    have D1 := Lib.hid d1
    clear d1 C1
    go_wp2_with fail
    refine (C2.out _ (H.out.dr D1.out)).mono ?_
    rintro e w2 ⟨rfl, d2⟩
    have D2 := Lib.hid (D1.out.trans d2)
    clear d2 C2
    cases R with
    | true =>
      go_wp2
      go_ret2
      exact ⟨rfl, D2.out⟩
    | false =>
      have hlt : s.size < 2 + L := by rcases HN2.out with h | h; cases h; exact h
      have hw : IntKind.i64.wrap (2 + (L : Int)) = ((2 + L : Nat) : Int) := by rw [IntKind.wrap_i64]; omega
      go_wp2_with fail
      refine (C3.out _ (H.out.dr D2.out)).mono ?_
      rintro e w3 ⟨rfl, rfl⟩
      go_wp2
      go_ret2
      exact ⟨rfl, D2.out⟩
  · have hd : decide (2 ≤ s.size) = false := by simpa using h2
    rw [if_neg h2, hd] at C1
    clear hd HN
    go_enter Tryz.func30, Tryz.ntmps30
    go_wp2_with fail
    refine (C1.out).mono ?_
    rintro e w1 ⟨rfl, d1⟩
    have D1 := Lib.hid d1
    clear d1 C1
    go_wp2
    go_ret2
    exact ⟨rfl, D1.out⟩
theorem fnext_ok (a : Addr) (s : ByteArray) (w : World) (h : At w a s) (hs : s.size ≤ 4611686018427387904) (h2 : 2 ≤ s.size) (hb : frBad s = false) (hl : 2 + frLen s ≤ s.size) :
    Calls Tryz.prog 30 #[.pointer (some a)] w fun e w' => e = .returned (.tuple #[.string (s.extract 2 (2 + frLen s)), .bool true]) ∧ ∃ u, QC.Dr w u ∧ w' = u.setCell a (.string (s.extract (2 + frLen s) s.size)) := by
  have C1 := Lib.hid (flen_any a s w h hs)
  have C2 := Lib.hid (fun u (hu : At u a s) => fbad_any a s u hu hs)
  have C3 := Lib.hid (fun u (hu : At u a s) => fsize_any a s u hu)
  have C4 := Lib.hid (fun u (hu : At u a s) => fcut_any a s (2 + frLen s) u hu hs hl)
  have H := Lib.hid h
  have hll := frLen_lt s
  have hd : decide (2 ≤ s.size) = true := by simpa using h2
  have hx : (s.extract 0 (2 + frLen s)).size = 2 + frLen s := by rw [ByteArray.size_extract]; omega
  have he : (s.extract 0 (2 + frLen s)).extract 2 (2 + frLen s) = s.extract 2 (2 + frLen s) := by
    rw [ByteArray.extract_extract]; congr 1 <;> omega
  rw [if_pos h2, hd] at C1
  rw [hb] at C2
  clear hd h hb
  generalize frLen s = L at *
  obtain ⟨E, hE⟩ : ∃ E, s.extract 0 (2 + L) = E := ⟨_, rfl⟩
  rw [hE] at C4 hx he
  have HX := Lib.hid hx
  have hx1 : (2 : Int) ≤ (E.size : Nat) := by omega
  have hx2 : E.size = 2 + L := hx
  clear hE hx
  go_enter Tryz.func30, Tryz.ntmps30
  go_wp2_with fail
  refine (C1.out).mono ?_
  rintro e w1 ⟨rfl, d1⟩
  have D1 := Lib.hid d1
  clear d1 C1
  go_wp2_with fail
  refine (C2.out _ (H.out.dr D1.out)).mono ?_
  rintro e w2 ⟨rfl, d2⟩
  have D2 := Lib.hid (D1.out.trans d2)
  clear d2 C2
  have hw : IntKind.i64.wrap (2 + (L : Int)) = ((2 + L : Nat) : Int) := by rw [IntKind.wrap_i64]; omega
  go_wp2_with fail
  refine (C3.out _ (H.out.dr D2.out)).mono ?_
  rintro e w3 ⟨rfl, rfl⟩
  go_wp2_with fail
  refine (C4.out _ (H.out.dr D2.out)).mono ?_
  rintro e w4 ⟨rfl, rfl⟩
  go_wp2
  go_ret2
  exact ⟨by rw [← he, ← HX.out]; rfl, _, D2.out, rfl⟩
end Go.Proofs.YtdebnbgjgkbmaaaGreatDoor
namespace Go.Proofs.YtdebnbgjgkbmaaaGreatDoor.RowK
open Go.ChangeShapes Go.WideShapes Go.ChangeAt Go.RowKit
open Go.ChangeMaps (open_string shut_string)
/-- A slice of integers that came in: it is nil; or it leads to a row of 'cap' cells, the numbers 'zs' (the first 'len' are its elements, the rest its spare room), each fitting its kind. -/
def IsRow (k : IntKind) (w : World) (a : Option Addr) (len cap : Nat) (zs : List Int) : Prop :=
  (a = none ∧ len = 0 ∧ cap = 0 ∧ zs = []) ∨
  ∃ x : Addr, a = some x ∧ len ≤ cap ∧ cap ≤ maxLen ∧ zs.length = cap ∧ (∀ i, i < zs.length → w.cell? (x.add i) = some (.int k (zs.getD i 0))) ∧ ∀ n ∈ zs, (Lit.int k n).wf = true
section
variable {H : Type} {enc : TypeId × Value → H} {P : Program} {w : World}
theorem isRow_of_trod {t e : TypeId} {k : IntKind} {a : Option Addr} {len cap : Nat} {d : DataW H} {p : List MemPlace}
    (ht : P.underlying t = some (.slice e)) (he : P.underlying e = some (.int k)) (hc : P.cellsOf e = 1)
    (h : DataW.Trod enc P w 0 (fun _ => true) true t (.slice a len cap) d p) : ∃ zs, IsRow k w a len cap zs := by
  obtain ⟨fuel, hf⟩ := h
  rcases open_ints ht he hc hf with ⟨hcs, _⟩ | ⟨x, l, c, zs, hcs, _, hl, hm, hz, _, hcell, hwz⟩
  · simp [Value.cells] at hcs
    obtain ⟨rfl, rfl, rfl⟩ := hcs
    exact ⟨[], .inl ⟨rfl, rfl, rfl, rfl⟩⟩
  · simp [Value.cells] at hcs
    obtain ⟨rfl, rfl, rfl⟩ := hcs
    exact ⟨zs, .inr ⟨_, rfl, hl, hm, by simpa using hz, hcell, hwz⟩⟩
/-- The row of an argument, at a plain address; where there is no element nothing is said of it. -/
theorem IsRow.plain {k : IntKind} {a : Option Addr} {len cap : Nat} {zs : List Int} (h : IsRow k w a len cap zs) :
    ∃ b off, (len = 0 ∨ b < w.heap.size) ∧ (len = 0 ∨ a = some ⟨b, off, none⟩) ∧ len ≤ zs.length ∧ zs.length = cap ∧ cap ≤ maxLen ∧
      (∀ j, j < len → w.cell? ⟨b, off + j, none⟩ = some (.int k (zs.getD j 0))) ∧ ∀ n ∈ zs, (Lit.int k n).wf = true := by
  rcases h with ⟨rfl, rfl, rfl, rfl⟩ | ⟨x, rfl, hl, hm, hz, hc, hw⟩
  · exact ⟨0, 0, .inl rfl, .inl rfl, by simp, by simp, by simp, fun j hj => by omega, fun n hn => by cases hn⟩
  · by_cases h0 : len = 0
    · subst h0; exact ⟨0, 0, .inl rfl, .inl rfl, by omega, hz, hm, fun j hj => by omega, hw⟩
    · obtain ⟨b, off, rfl, hc'⟩ := ints_at hc (by omega)
      exact ⟨b, off, .inr (World.block_lt_of_cell? w _ (hc' 0 (by omega))), .inr rfl, by omega, hz, hm, fun j hj => hc' j (by omega), hw⟩
end
theorem wf_u8 {a : Int} (h : (Lit.int .u8 a).wf = true) : 0 ≤ a ∧ a ≤ 255 := by simpa [Lit.wf, IntKind.min, IntKind.max, IntKind.signed, IntKind.bits] using h
theorem wf_i64 {a : Int} (h : (Lit.int .i64 a).wf = true) : -9223372036854775808 ≤ a ∧ a ≤ 9223372036854775807 := by simpa [Lit.wf, IntKind.min, IntKind.max, IntKind.signed, IntKind.bits] using h
theorem wf_u64 {a : Int} (h : (Lit.int .u64 a).wf = true) : 0 ≤ a ∧ a ≤ 18446744073709551615 := by simpa [Lit.wf, IntKind.min, IntKind.max, IntKind.signed, IntKind.bits] using h
end Go.Proofs.YtdebnbgjgkbmaaaGreatDoor.RowK
namespace Go.Proofs.YtdebnbgjgkbmaaaGreatDoor
open Go.RowKit
set_option linter.unusedVariables false
/-- a text in its frame -/
def hd2 (n : Nat) : Nat → Int := fun j => if j = 0 then (n : Int) / 256 else (n : Int) % 256
def framed (s : ByteArray) : ByteArray := bytesI 2 (hd2 s.size) ++ s
set_option maxRecDepth 100000 in
theorem fput28 (s : ByteArray) (w : World) (h0 : 0 < s.size) (h1 : s.size ≤ 1024) : Calls Tryz.prog 28 #[.string s] w fun e w' => e = .returned (.tuple #[.string (framed s), .int .i64 0]) ∧ Below w.heap.size w w' := by
  have d0 : s.toList.isEmpty = false := by rw [Oc.empty_iff]; exact decide_eq_false (by omega)
  have d1 : decide ((1024 : Int) < (s.size : Int)) = false := by simp; omega
  have hr : M.RowAt (w.alloc (.cells #[.int .u8 ((s.size : Int) / 256), .int .u8 ((s.size : Int) % 256)] 5)) w.heap.size 5 (M.rowF .u8 2 (hd2 s.size)) := M.RowAt.new w 5 _
  have hcv := conv_rowI hr
  have hz : (bytesI 2 (hd2 s.size)).size + s.size ≤ 9223372036854775807 := by rw [bytesI_size]; omega
  clear h0 hr
  go_enter Tryz.func28, Tryz.ntmps28
  go_wp2_with fail
  go_wp2
  go_ret2
  exact ⟨rfl, (Below.refl _ _).alloc (Nat.le_refl _) _⟩
end Go.Proofs.YtdebnbgjgkbmaaaGreatDoor
namespace Go.Proofs.YtdebnbgjgkbmaaaGreatDoor.Wi
open Go.Proofs.YtdebnbgjgkbmaaaGreatDoor.Oc
open Go.RowKit Go.Shelf
set_option linter.unusedVariables false
set_option maxRecDepth 100000 in
set_option maxHeartbeats 4000000 in
theorem enc_no (m : Msg) (ho : m.ok) (hm : ¬ May m) (w : World) :
    Calls Tryz.prog 27 #[.agg m.row] w fun e w' => e = .returned (.tuple #[.string ⟨#[]⟩, .int .i64 1]) ∧ Below w.heap.size w w' := by
  obtain ⟨n, hn⟩ : ∃ n, w.heap.size = n := ⟨_, rfl⟩
  obtain ⟨V, hV⟩ : ∃ V, w.alloc (.cells m.row 59) = V := ⟨_, rfl⟩
  have rV : M.RowAt V n 59 m.row := by rw [← hV, ← hn]; exact M.RowAt.new w 59 _
  have bV : Below n w V := by rw [← hV, ← hn]; exact (Below.refl _ w).alloc (Nat.le_refl _) _
  have sV : V.heap.size = n + 1 := by rw [← hV]; simp [hn]
  have may := may_any m ho false (Iff.intro (fun h => Bool.noConfusion h) (fun h => absurd h hm)) V
  have iX := Msg.info ho.h32
  have HN := Lib.hid hn; have HV := Lib.hid hV; have BV := Lib.hid bV; have SV := Lib.hid sV; have MAY := Lib.hid may
  rw [hn]
  clear may bV sV hV hn hm ho
  generalize m.row = R at *
  go_enter Tryz.func27, Tryz.ntmps27
  go_wp2_with (first | (rw [HN.out, HV.out]) | (refine wpList_load_row (x := .tmp 1) (ty := 59) (g := n) (cs := R) (t := 59) (fr := (0, 0)) ?_ ?_ ?_ _ rV Tryz.underlying59 rfl iX ?_; rfl; rfl; rfl) | fail)
  refine (MAY.out).mono ?_
  rintro e w1 ⟨rfl, b1⟩
  have B1 := Lib.hid (BV.out.trans (b1.mono (by have := SV.out; omega)))
  clear b1 rV
  go_wp2
  go_ret2
  exact ⟨rfl, B1.out⟩
end Go.Proofs.YtdebnbgjgkbmaaaGreatDoor.Wi
namespace Go.Proofs.YtdebnbgjgkbmaaaGreatDoor.Wi
open Go.Proofs.YtdebnbgjgkbmaaaGreatDoor.Oc
open Go.RowKit Go.Shelf
set_option linter.unusedVariables false
open Classical in
/-- a message's bytes, where it may be written -/
noncomputable def encM (m : Msg) : Option ByteArray := (fieldsOf m.kind).bind fun fl => if MayP m fl then some (encB m fl) else none
theorem encM_some {m : Msg} {E : ByteArray} (h : encM m = some E) : ∃ fl, fieldsOf m.kind = some fl ∧ MayP m fl ∧ E = encB m fl := by
  unfold encM at h
  cases hf : fieldsOf m.kind with
  | none => rw [hf] at h; cases h
  | some fl =>
    rw [hf] at h
    simp only [Option.bind_some] at h
    split at h
    · next hm => cases h; exact ⟨fl, rfl, hm, rfl⟩
    · cases h
theorem encM_none {m : Msg} (h : encM m = none) : ¬ May m := by
  rintro ⟨fl, hf, hm⟩
  unfold encM at h
  rw [hf] at h
  simp only [Option.bind_some] at h
  rw [if_pos hm] at h
  cases h
theorem enc27_yes {m : Msg} {E : ByteArray} (ho : m.ok) (h : encM m = some E) (w : World) : Calls Tryz.prog 27 #[.agg m.row] w fun e w' => e = .returned (.tuple #[.string E, .int .i64 0]) ∧ Below w.heap.size w w' := by
  obtain ⟨fl, hf, hm, rfl⟩ := encM_some h
  exact enc_yes m ho fl hf hm w
theorem enc27_no {m : Msg} (ho : m.ok) (h : encM m = none) (w : World) : Calls Tryz.prog 27 #[.agg m.row] w fun e w' => e = .returned (.tuple #[.string ⟨#[]⟩, .int .i64 1]) ∧ Below w.heap.size w w' := enc_no m ho (encM_none h) w
theorem encM_size {m : Msg} {E : ByteArray} (ho : m.ok) (h : encM m = some E) : 0 < E.size ∧ E.size ≤ 1024 := by
  obtain ⟨fl, hf, hm, rfl⟩ := encM_some h
  have h0 := (enc_dec ho hf hm).1
  refine ⟨h0, ?_⟩
  have h1 := cat_le m ho.h32 fl (kindB m)
  have h2 := fields_len hf
  have h3 : (kindB m).size ≤ 8 := by
    unfold kindB; rw [empty_app, str_size]
    exact Nat.le_trans (num_len _ _ (by decide)) (by decide)
  show (cat m (kindB m) fl).size ≤ _
  omega
theorem dec31 {m : Msg} {E : ByteArray} (ho : m.ok) (h : encM m = some E) (w : World) : Calls Tryz.prog 31 #[.string E] w fun e w' => e = .returned (.tuple #[.agg m.row, .int .i64 0]) ∧ Below w.heap.size w w' := by
  have hs := encM_size ho h
  obtain ⟨fl, hf, hm, rfl⟩ := encM_some h
  refine (dec_any _ (by omega) w).mono ?_
  rintro e x' ⟨⟨m', g1, _, rfl⟩ | ⟨ev', _, g1, _⟩, hb⟩
  · rw [dec_one g1 (enc_dec ho hf hm)]; exact ⟨rfl, hb⟩
  · exact (dec_ok_bad (enc_dec ho hf hm) g1).elim
end Go.Proofs.YtdebnbgjgkbmaaaGreatDoor.Wi
namespace Go.Proofs.YtdebnbgjgkbmaaaGreatDoor
open Go.RowKit Go.Shelf
set_option linter.unusedVariables false
theorem framed_list (s : ByteArray) : (framed s).data.toList = UInt8.ofNat (s.size / 256) :: UInt8.ofNat (s.size % 256) :: s.data.toList := by
  unfold framed bytesI strOfNums hd2
  simp [List.range_succ]
  constructor <;> congr 1 <;> omega
def frs : List ByteArray → ByteArray
  | [] => ⟨#[]⟩
  | E :: r => framed E ++ frs r
theorem size_list (s : ByteArray) : s.data.toList.length = s.size := by simp
theorem ext_list {a b : ByteArray} (h : a.data.toList = b.data.toList) : a = b := by
  apply ByteArray.ext; apply Array.ext'; exact h
theorem app_list (a b : ByteArray) : (a ++ b).data.toList = a.data.toList ++ b.data.toList := by simp
/-- a buffer that is a part of frames -/
theorem fr_len {B S E R : ByteArray} (h : B ++ S = framed E ++ R) (h2 : 2 ≤ B.size) (hE : E.size ≤ 1024) : frLen B = E.size := by
  have hl := congrArg (fun x : ByteArray => x.data.toList) h
  simp only [app_list, framed_list] at hl
  rw [← size_list] at h2
  unfold frLen
  match hb : B.data.toList, h2 with
  | x0 :: x1 :: b, _ =>
    rw [hb] at hl
    simp only [List.cons_append, List.cons.injEq] at hl
    obtain ⟨rfl, rfl, _⟩ := hl
    simp
    omega
theorem fr_bad {B S : ByteArray} {l : List ByteArray} (h : B ++ S = frs l) (hl : ∀ E ∈ l, 0 < E.size ∧ E.size ≤ 1024) : frBad B = false := by
  unfold frBad
  by_cases h2 : 2 ≤ B.size
  · cases l with
    | nil =>
      have := congrArg ByteArray.size h
      have h0 : (⟨#[]⟩ : ByteArray).size = 0 := rfl
      simp only [frs, ByteArray.size_append] at this
      omega
    | cons E r =>
      have hE := hl E (by simp)
      rw [fr_len h h2 hE.2, beq_eq_false_iff_ne.2 (show E.size ≠ 0 by omega), decide_eq_false (show ¬ 1024 < E.size by omega)]
      simp
  · simp [h2]
/-- a buffer that has a whole frame -/
theorem fr_next {B S : ByteArray} {l : List ByteArray} (h : B ++ S = frs l) (hl : ∀ E ∈ l, 0 < E.size ∧ E.size ≤ 1024) (h2 : 2 ≤ B.size) (hn : 2 + frLen B ≤ B.size) :
    ∃ E r, l = E :: r ∧ B.extract 2 (2 + frLen B) = E ∧ B.extract (2 + frLen B) B.size ++ S = frs r := by
  cases l with
  | nil =>
    have := congrArg ByteArray.size h
    have h0 : (⟨#[]⟩ : ByteArray).size = 0 := rfl
    simp only [frs, ByteArray.size_append] at this
    omega
  | cons E r =>
    have hE := hl E (by simp)
    rw [fr_len h h2 hE.2] at hn ⊢
    have hL := congrArg (fun x : ByteArray => x.data.toList) h
    simp only [frs, app_list, framed_list] at hL
    rw [← size_list] at h2
    refine ⟨E, r, rfl, ?_, ?_⟩
    · apply ext_list
      match hb : B.data.toList, h2 with
      | x0 :: x1 :: b, _ =>
        rw [hb] at hL
        have hsz : B.size = b.length + 2 := by rw [← size_list, hb]; simp
        simp only [List.cons_append, List.cons.injEq] at hL
        have hq := congrArg (List.take E.size) hL.2.2
        rw [List.take_append_of_le_length (by omega), List.take_append_of_le_length (by simp), List.take_of_length_le (l := E.data.toList) (by simp)] at hq
        simp [hb, hq]
    · apply ext_list
      match hb : B.data.toList, h2 with
      | x0 :: x1 :: b, _ =>
        rw [hb] at hL
        have hsz : B.size = b.length + 2 := by rw [← size_list, hb]; simp
        simp only [List.cons_append, List.cons.injEq] at hL
        have hq := congrArg (List.drop E.size) hL.2.2
        rw [List.drop_append_of_le_length (by omega), List.drop_append_of_le_length (by simp), List.drop_of_length_le (l := E.data.toList) (by simp)] at hq
        simp [hb, hsz]
        rw [show 2 + E.size = E.size + 1 + 1 by omega, List.drop_succ_cons, List.drop_succ_cons, List.take_of_length_le (by simp), hq]
        rfl
theorem fr_stop {B : ByteArray} {l : List ByteArray} (h : B ++ (⟨#[]⟩ : ByteArray) = frs l) (hl : ∀ E ∈ l, 0 < E.size ∧ E.size ≤ 1024) (hs : frStop B) : l = [] ∧ B.size = 0 := by
  have hb := fr_bad h hl
  have hsz := congrArg ByteArray.size h
  cases l with
  | nil => exact ⟨rfl, by have h0 : (⟨#[]⟩ : ByteArray).size = 0 := rfl; simp only [frs, ByteArray.size_append] at hsz; omega⟩
  | cons E r =>
    exfalso
    have hE := hl E (by simp)
    simp only [frs, ByteArray.size_append] at hsz
    have hf : (framed E).size = E.size + 2 := by rw [← size_list, framed_list]; simp
    have h0 : (⟨#[]⟩ : ByteArray).size = 0 := rfl
    rcases hs with h1 | h1 | h1
    · omega
    · rw [hb] at h1; cases h1
    · rw [fr_len h (by omega) hE.2] at h1; omega
end Go.Proofs.YtdebnbgjgkbmaaaGreatDoor
namespace Go.Proofs.YtdebnbgjgkbmaaaGreatDoor.RowK
open Go.ChangeShapes Go.WideShapes Go.ChangeAt Go.RowKit Go.Deep
set_option linter.unusedVariables false
/-- the elements of a slice lie at an address, each as its cells -/
def SlAt {α : Type} (w : World) (size : Nat) (cells : α → List Value) (A : Option Addr) (l : List α) : Prop :=
  l = [] ∨ ∃ b off, A = some ⟨b, off, none⟩ ∧ b < w.heap.size ∧ ∀ i x, l[i]? = some x → w.rangeAt b (off + i * size) (cells x)
section
variable {H : Type} {enc : TypeId × Value → H} {P : Program} {w : World} {base : Nat} {sp : Nat → Bool} {held : Bool}
theorem list_of_fn {α : Type} (p : Nat → α → Prop) : ∀ n : Nat, (∀ i, i < n → ∃ x, p i x) → ∃ l : List α, l.length = n ∧ ∀ i x, l[i]? = some x → p i x := by
  intro n
  induction n with
  | zero => exact fun _ => ⟨[], rfl, by simp⟩
  | succ n ih =>
    intro h
    obtain ⟨l, h1, h2⟩ := ih (fun i hi => h i (by omega))
    obtain ⟨x, hx⟩ := h n (by omega)
    refine ⟨l ++ [x], by simp [h1], fun i y hy => ?_⟩
    rcases Nat.lt_or_ge i n with hlt | hge
    · rw [List.getElem?_append_left (by omega)] at hy; exact h2 i y hy
    · rw [List.getElem?_append_right (by omega)] at hy
      have h0 : i - l.length = 0 := by
        rcases Nat.eq_zero_or_pos (i - l.length) with h0 | h0
        · exact h0
        · rw [List.getElem?_eq_none (by simp; omega)] at hy; cases hy
      rw [h0] at hy
      simp at hy
      subst hy
      have : i = n := by omega
      subst this; exact hx
theorem sl_of_cells {α : Type} {cells : α → List Value} {ok : α → Prop} {t e : TypeId} {fuel : Nat} {A : Option Addr} {len cap size : Nat} {x : DataW H × List MemPlace} (ht : P.underlying t = some (.slice e)) (hsz : P.cellsOf e = size) (hpos : 0 < size)
    (hel : ∀ n cs y, cs.length = size → DataW.trod enc P w base sp held n e cs = some y → ∃ x, cs = cells x ∧ ok x)
    (h : DataW.trod enc P w base sp held fuel t [.slice A len cap] = some x) : ∃ l : List α, l.length = len ∧ len ≤ cap ∧ cap ≤ maxLen ∧ (∀ x ∈ l, ok x) ∧ SlAt w size cells A l := by
  rcases open_slice ht h with ⟨h0, _⟩ | ⟨a, len', cap', m, n, D, Pl, hcs, hb, hl, hm, hmm, hx, hi⟩
  · simp at h0
    obtain ⟨rfl, rfl, rfl⟩ := h0
    exact ⟨[], rfl, Nat.le_refl _, by simp, by simp, .inl rfl⟩
  · simp at hcs
    obtain ⟨rfl, rfl, rfl⟩ := hcs
    rw [hsz] at hi
    have hle : len ≤ m := by rw [hmm]; split <;> omega
    obtain ⟨l, hll, hlp⟩ := list_of_fn (fun i x => ok x ∧ ∃ cs', w.cells? base (a.add (i * size)) size = some cs' ∧ cs' = cells x) len (fun i hilt => by
      obtain ⟨cs', h1, h2⟩ := hi i (by omega)
      obtain ⟨_, h3, _⟩ := World.cells?_some h1
      obtain ⟨x, h4, h5⟩ := hel n cs' _ h3 h2
      exact ⟨x, h5, cs', h1, h4⟩)
    refine ⟨l, hll, hl, hm, fun x hx => ?_, ?_⟩
    · obtain ⟨i, hi', he⟩ := List.mem_iff_getElem.1 hx
      exact (hlp i x (by rw [← he]; exact List.getElem?_eq_getElem hi')).1
    · rcases l with _ | ⟨y, r⟩
      · exact .inl rfl
      · right
        obtain ⟨_, cs0, h1, _⟩ := hlp 0 y rfl
        obtain ⟨_, h3, h4⟩ := World.cells?_some h1
        have hc0 := h4 0 hpos
        have hsp : a.spot = none := by
          obtain ⟨b, off, spot⟩ := a
          have hc1 : cs0[0]? = some (cs0[0]'(by omega)) := List.getElem?_eq_getElem (by omega)
          rw [hc1] at hc0
          simpa [Addr.add] using World.cell?_spot hc0
        obtain ⟨b, off, spot⟩ := a
        subst hsp
        refine ⟨b, off, rfl, ?_, fun i x hx j v hv => ?_⟩
        · have hc1 : cs0[0]? = some (cs0[0]'(by omega)) := List.getElem?_eq_getElem (by omega)
          rw [hc1] at hc0
          have := World.block_lt_of_cell? w _ hc0
          simpa [Addr.add] using this
        · obtain ⟨_, cs', h1, h2⟩ := hlp i x hx
          obtain ⟨_, h3, h4⟩ := World.cells?_some h1
          have hj : j < size := by
            rw [← h2] at hv
            have := (List.getElem?_eq_some_iff.1 hv).1
            omega
          have h5 := h4 j hj
          rw [add_add, Addr.add_mid] at h5
          rw [show off + i * size + j = off + (i * size + j) by omega, h5, h2, hv]
/-- A slice that came in, as a list. -/
theorem sl_of_trod {α : Type} (cells : α → List Value) (ok : α → Prop) {r : Reach} {b0 : Nat} {t e : TypeId} {size : Nat} {v : Value} {d : DataW H} {p : List MemPlace} (ht : P.underlying t = some (.slice e)) (hsz : P.cellsOf e = size) (hpos : 0 < size)
    (hel : ∀ n cs y, cs.length = size → DataW.trod enc P w base sp held n e cs = some y → ∃ x, cs = cells x ∧ ok x)
    (hval : Value.okWide P w r b0 t v) (h : DataW.Trod enc P w base sp held t v d p) :
    ∃ (A : Option Addr) (cap : Nat) (l : List α), v = .slice A l.length cap ∧ l.length ≤ cap ∧ cap ≤ maxLen ∧ (∀ x ∈ l, ok x) ∧ SlAt w size cells A l := by
  obtain ⟨A, len, cap, rfl⟩ := okWide_slice ht hval
  obtain ⟨fuel, hf⟩ := h
  obtain ⟨l, h1, h2, h3, h4, h5⟩ := sl_of_cells (cells := cells) (ok := ok) ht hsz hpos hel (A := A) (len := len) (cap := cap) hf
  subst h1
  exact ⟨A, cap, l, rfl, h2, h3, h4, h5⟩
theorem field_of {e : TypeId} {fs : Array Field} {n : Nat} {cs : List Value} {y : DataW H × List MemPlace} (ht : P.underlying e = some (.struct fs)) (h : DataW.trod enc P w base sp held n e cs = some y) (j : Nat) {f : Field} (hj : fs[j]? = some f) :
    ∃ n' y', DataW.trod enc P w base sp held n' f.type ((cs.drop f.offset).take (P.cellsOf f.type)) = some y' := by
  obtain ⟨xs, n', _, _, _, hl, hf⟩ := DataW.trod_struct ht h
  have hjl : j < fs.size := (Array.getElem?_eq_some_iff.1 hj).1
  exact ⟨n', _, (hf j f hj).trans (List.getElem?_eq_getElem (by omega))⟩
theorem int_of {t : TypeId} {k : IntKind} {n : Nat} {cs : List Value} {y : DataW H × List MemPlace} (ht : P.underlying t = some (.int k)) (h : DataW.trod enc P w base sp held n t cs = some y) : ∃ z, cs = [.int k z] ∧ (Lit.int k z).wf = true := by
  obtain ⟨z, h1, _, h2⟩ := DataW.trod_int ht h
  exact ⟨z, h1, h2⟩
theorem arr_of {t e : TypeId} {k : IntKind} {m n : Nat} {cs : List Value} {y : DataW H × List MemPlace} (ht : P.underlying t = some (.array n e)) (he : P.underlying e = some (.int k)) (hce : P.cellsOf e = 1) (hct : P.cellsOf t = n)
    (h : DataW.trod enc P w base sp held m t cs = some y) : ∃ zs : List Int, zs.length = n ∧ (∀ z ∈ zs, (Lit.int k z).wf = true) ∧ cs = zs.map (Value.int k) := by
  obtain ⟨xs, m', _, _, hcl, hxl, hall⟩ := DataW.trod_array ht h
  have hone : ∀ i, i < n → ∃ z, cs[i]? = some (.int k z) ∧ (Lit.int k z).wf = true := by
    intro i hi
    have h1 := hall i hi
    rw [hce, Nat.mul_one, List.getElem?_eq_getElem (by omega)] at h1
    obtain ⟨z, h2, _, h3⟩ := DataW.trod_int he h1
    refine ⟨z, ?_, h3⟩
    have := congrArg (·[0]?) h2
    simpa [List.getElem?_take, List.getElem?_drop] using this
  obtain ⟨zs, h1, h2⟩ := list_of_fn (fun i z => cs[i]? = some (.int k z) ∧ (Lit.int k z).wf = true) n hone
  refine ⟨zs, h1, fun z hz => ?_, ?_⟩
  · obtain ⟨i, hi, he⟩ := List.mem_iff_getElem.1 hz
    exact (h2 i z (by rw [← he]; exact List.getElem?_eq_getElem hi)).2
  · apply List.ext_getElem?
    intro i
    rcases Nat.lt_or_ge i n with hlt | hge
    · have hz : zs[i]? = some (zs[i]'(by omega)) := List.getElem?_eq_getElem (by omega)
      rw [(h2 i _ hz).1, List.getElem?_map, hz]; rfl
    · rw [List.getElem?_eq_none (by omega), List.getElem?_eq_none (by simp; omega)]
end
section
variable {α : Type} {w w' : World} {size : Nat} {cells : α → List Value} {A : Option Addr} {l : List α}
theorem SlAt.below {B : Nat} (h : SlAt w size cells A l) (hB : w.heap.size ≤ B) (hb : Below B w w') : SlAt w' size cells A l := by
  rcases h with h | ⟨b, off, h1, h2, h3⟩
  · exact .inl h
  · refine .inr ⟨b, off, h1, by have := hb.size; omega, fun i x hx j v hv => ?_⟩
    rw [hb.cell (show b < B by omega)]
    exact h3 i x hx j v hv
/-- at an index -/
theorem SlAt.at_ (h : SlAt w size cells A l) {i : Nat} (hi : i < l.length) : ∃ b off, A = some ⟨b, off, none⟩ ∧ b < w.heap.size ∧ ∀ i x, l[i]? = some x → w.rangeAt b (off + i * size) (cells x) := by
  rcases h with h | h
  · subst h; simp at hi
  · exact h
end
end Go.Proofs.YtdebnbgjgkbmaaaGreatDoor.RowK
namespace Go.Proofs.YtdebnbgjgkbmaaaGreatDoor.Ht.Pl
def ours (own : Bool) (s : Int) : Bool := decide (lo own ≤ s) && decide (s ≤ hi own)
end Go.Proofs.YtdebnbgjgkbmaaaGreatDoor.Ht.Pl
namespace Go.Proofs.YtdebnbgjgkbmaaaGreatDoor
open Oc
open Go.RowKit
set_option linter.unusedVariables false
/-- what is live -/
structure LV where
  id : Nat
  am : Nat
  F : Nat → Nat
  ex : Nat
  own : Bool
  st : Int
  paid : Bool
def LV.h (x : LV) : Array Value := #[.int .u64 x.id, .int .u64 x.am] ++ r8 32 x.F ++ #[.int .i64 x.ex]
def LV.cells (x : LV) : Array Value := x.h ++ #[.bool x.own, .int .i64 x.st, .bool x.paid]
theorem LV.h_size (x : LV) : x.h.size = 35 := by unfold LV.h; simp [M.rowF_size]
theorem LV.size (x : LV) : x.cells.size = 38 := by unfold LV.cells; rw [Array.size_append, LV.h_size]; rfl
def LV.ok (x : LV) : Prop := 0 ≤ x.st ∧ x.st ≤ 9
end Go.Proofs.YtdebnbgjgkbmaaaGreatDoor
namespace Go.Proofs.YtdebnbgjgkbmaaaGreatDoor
open Oc
open Go.RowKit
set_option linter.unusedVariables false
theorem iC (x : LV) : (Tryz.prog.info? 164).map (·.size) = some x.cells.size := by rw [LV.size]; kernel_rfl
theorem iCl (x : LV) : (Tryz.prog.info? 164).map (·.size) = some x.cells.toList.length := by rw [Array.length_toList, LV.size]; kernel_rfl
theorem oC (x : LV) : x.cells.all (·.oneCell') = true := by
  unfold LV.cells LV.h
  simp only [Array.all_append, Bool.and_eq_true]
  exact ⟨⟨⟨by simp [Value.oneCell'], M.rowF_one⟩, by simp [Value.oneCell']⟩, by simp [Value.oneCell']⟩
end Go.Proofs.YtdebnbgjgkbmaaaGreatDoor
namespace Go.Proofs.YtdebnbgjgkbmaaaGreatDoor
open Oc
open Go.RowKit
set_option linter.unusedVariables false
theorem info_parts3 {P : Program} {t : TypeId} {z : Value} {s : Nat} (h : (P.info? t).map (fun i => (i.zero, i.size, decide (i.bytes ≤ 1000))) = some (some z, s, true)) : ∃ i, P.info? t = some i ∧ i.zero = some z ∧ i.size = s ∧ i.bytes ≤ 1000 := by
  cases hi : P.info? t with
  | none => rw [hi] at h; cases h
  | some i =>
    rw [hi] at h
    simp at h
    exact ⟨i, rfl, h.1, h.2.1, h.2.2⟩
def aft (ls : List LV) (ev : Int) : List LV := ls.map fun x => { x with st := Ht.Pl.nxt x.own x.st ev }
theorem own_form {w : World} {b k sz : Nat} {t : TypeId} {u : Value} {xs : List Value} (h : w.ownsRow b t sz u k xs) : ∃ ad c, u = .slice ad k c := by
  rcases h.2 with ⟨e, h0⟩ | ⟨g', cap, cur, e, _⟩
  · exact ⟨none, 0, by rw [e, h0]⟩
  · exact ⟨_, _, e⟩
end Go.Proofs.YtdebnbgjgkbmaaaGreatDoor
namespace Go.Proofs.YtdebnbgjgkbmaaaGreatDoor
open Oc
open Go.RowKit
set_option linter.unusedVariables false
theorem LV.c0 (x : LV) : x.cells[0]? = some (.int .u64 x.id) := by
  unfold LV.cells LV.h
  rw [Array.getElem?_append_left (by simp; omega), Array.getElem?_append_left (by simp; omega), Array.getElem?_append_left (by simp)]; rfl
theorem LV.c1 (x : LV) : x.cells[1]? = some (.int .u64 x.am) := by
  unfold LV.cells LV.h
  rw [Array.getElem?_append_left (by simp; omega), Array.getElem?_append_left (by simp; omega), Array.getElem?_append_left (by simp)]; rfl
end Go.Proofs.YtdebnbgjgkbmaaaGreatDoor
namespace Go.Proofs.YtdebnbgjgkbmaaaGreatDoor
open Oc
open Go.RowKit
set_option linter.unusedVariables false
/-- the cells of a channel: setup, the rest ahead of the shelf, the shelf, messages -/
def chC (hd tl T e : Array Value) : Array Value := hd ++ tl ++ T ++ e
section
variable {hd tl T e : Array Value}
end
/-- what a channel is, but for its shelf and what is live -/
structure Ch where
  chan : Nat
  cap : Nat
  ours : Nat
  seed : Nat → Nat
  key : ByteArray
  pkey : ByteArray
  signed : Nat
  heard : Nat
  awaits : Bool
  nOwn : Nat
  nTheirs : Nat
  shutS : Bool
  shutH : Bool
  revoked : Bool
  loc : Nat
  rem : Nat
def Ch.hd (c : Ch) : Array Value := #[.int .u32 c.chan, .int .u64 c.cap, .int .u64 c.ours] ++ r8 32 c.seed
def Ch.tl (c : Ch) (lv : Value) : Array Value := #[.string c.key, .string c.pkey, .int .i64 c.signed, .int .i64 c.heard, .bool c.awaits, .int .u64 c.nOwn, .int .u64 c.nTheirs, .bool c.shutS, .bool c.shutH, .bool c.revoked, .int .u64 c.loc, .int .u64 c.rem, lv]
def Ch.cells (c : Ch) (lv : Value) (T : Array Value) (nw la : Value) : Array Value := chC c.hd (c.tl lv) T #[nw, la]
section
variable (c : Ch) (lv nw la : Value) (T : Array Value)
end
section
variable {n : Nat} {w0 v v' : World} {a cb kn : Nat} {c : Ch} {ls : List LV} {T : Array Value} {X X' : Ths}
end
end Go.Proofs.YtdebnbgjgkbmaaaGreatDoor
namespace Go.Proofs.YtdebnbgjgkbmaaaGreatDoor
open Oc
open Go.RowKit
set_option linter.unusedVariables false
theorem fold_get : ∀ (l : List Value) (Z : Array Value) (j : Nat), j + l.length ≤ Z.size →
    (List.foldl (fun (cs : Array Value) (x : Value × Nat) => cs.setIfInBounds (0 + x.2) x.1) Z (l.zipIdx j)).size = Z.size ∧
    ∀ i, (List.foldl (fun (cs : Array Value) (x : Value × Nat) => cs.setIfInBounds (0 + x.2) x.1) Z (l.zipIdx j))[i]? = if j ≤ i ∧ i < j + l.length then l[i - j]? else Z[i]?
  | [], Z, j, _ => ⟨rfl, fun i => by rw [if_neg (by simp)]; rfl⟩
  | x :: l, Z, j, h => by
    rw [List.length_cons] at h
    have ih := fold_get l (Z.setIfInBounds (0 + j) x) (j + 1) (by simp; omega)
    rw [List.zipIdx_cons, List.foldl_cons]
    refine ⟨by rw [ih.1]; simp, fun i => ?_⟩
    rw [ih.2 i, List.length_cons]
    by_cases h1 : j + 1 ≤ i ∧ i < j + 1 + l.length
    · rw [if_pos h1, if_pos (by omega)]
      have : i - j = (i - (j + 1)) + 1 := by omega
      rw [this, List.getElem?_cons_succ]
    · rw [if_neg h1]
      by_cases h2 : i = j
      · subst h2
        rw [if_pos (by omega), Nat.sub_self, Nat.zero_add, Array.getElem?_setIfInBounds_self_of_lt (by omega)]; rfl
      · rw [if_neg (by omega), Array.getElem?_setIfInBounds_ne (by omega)]
theorem fold_all (C Z : Array Value) (h : Z.size = C.size) : Array.foldl (fun (cs : Array Value) (x : Value × Nat) => cs.setIfInBounds (0 + x.2) x.1) Z C.zipIdx = C := by
  rw [← Array.foldl_toList, Array.toList_zipIdx]
  have hl : C.toList.length = C.size := Array.length_toList
  have hg := fold_get C.toList Z 0 (by omega)
  apply Array.ext_getElem?
  intro i
  rw [hg.2 i]
  by_cases hi : i < C.size
  · rw [if_pos (by omega), Nat.sub_zero, Array.getElem?_toList]
  · rw [if_neg (by omega), Array.getElem?_eq_none (by omega), Array.getElem?_eq_none (by omega)]
/-- the three facts that wpList_buildSlice asks, of one struct -/
theorem fill_one {i : TypeInfo} {z : Value} {k : Nat} (h3 : i.size = k) (hk : 0 < k) (hk2 : k ≤ 1000) (C : Array Value) (hC : C.size = k) :
    (¬ 1 * i.size > 2 ^ 24) ∧ (¬ 1 * i.size = 0) ∧ Instr.fill (fun j => some (j * i.size, i.size)) ((Array.range (1 * i.size)).map (z.cells[· % z.cells.size]!)) [(0, .agg C)] = some C := by
  rw [h3]
  refine ⟨by omega, by omega, ?_⟩
  unfold Instr.fill
  simp only [Nat.zero_mul]
  have hc : (Value.agg C).cells = C := rfl
  rw [hc]
  rw [if_neg (by simp [hC])]
  unfold Instr.fill
  rw [fold_all C _ (by simp [hC])]
end Go.Proofs.YtdebnbgjgkbmaaaGreatDoor
namespace Go.Proofs.YtdebnbgjgkbmaaaGreatDoor
open Oc
open Go.RowKit
set_option linter.unusedVariables false
section
variable {n : Nat} {w0 v v' : World} {a cb kn : Nat} {c : Ch} {ls : List LV} {T : Array Value} {X X' Y : Ths}
end
def keep (l : List LV) : List LV := l.filter fun x => x.st != 9
end Go.Proofs.YtdebnbgjgkbmaaaGreatDoor
namespace Go.Proofs.YtdebnbgjgkbmaaaGreatDoor
open Oc
open Go.RowKit
set_option linter.unusedVariables false
def Z59 : Array Value := #[.int .i64 0, .int .u32 0, .int .u64 0, .int .u64 0, .int .u8 0, .int .u8 0, .int .u8 0, .int .u8 0, .int .u8 0, .int .u8 0, .int .u8 0, .int .u8 0, .int .u8 0, .int .u8 0, .int .u8 0, .int .u8 0, .int .u8 0, .int .u8 0, .int .u8 0, .int .u8 0, .int .u8 0, .int .u8 0, .int .u8 0, .int .u8 0, .int .u8 0, .int .u8 0, .int .u8 0, .int .u8 0, .int .u8 0, .int .u8 0, .int .u8 0, .int .u8 0, .int .u8 0, .int .u8 0, .int .u8 0, .int .u8 0, .int .i64 0, .int .i64 0]
theorem info59 : (Tryz.prog.info? 59).map (fun i => (i.zero, i.size, decide (i.bytes ≤ 1000))) = some (some (.agg Z59), 38, true) := by kernel_rfl
section
variable {n : Nat} {w0 w v v' : World} {a cb kn : Nat} {c : Ch} {ls : List LV} {T : Array Value} {X X' : Ths}
end
end Go.Proofs.YtdebnbgjgkbmaaaGreatDoor
namespace Go.Proofs.YtdebnbgjgkbmaaaGreatDoor.Wi
open Go.Proofs.YtdebnbgjgkbmaaaGreatDoor.Oc
open Go.RowKit Go.Shelf
set_option linter.unusedVariables false
theorem msg_at {w : World} {A : Option Addr} {l : List Msg} (h : RowK.SlAt w 38 Msg.cells A l) {k : Nat} {x : Msg} (hx : l[k]? = some x) {n : Nat} (hn : w.heap.size = n) :
    ∃ b off, A = some ⟨b, off, none⟩ ∧ b < n ∧ ∀ v, Below n w v → v.rangeAt b (off + k * 38) x.cells := by
  have hk : k < l.length := (List.getElem?_eq_some_iff.1 hx).1
  obtain ⟨b, off, rfl, hb, hr⟩ := h.at_ hk
  exact ⟨b, off, rfl, by omega, fun v hv j u hu => by rw [hv.cell (show b < n by omega)]; exact hr k x hx j u hu⟩
theorem own_same {w w' : World} {b : Nat} {e : TypeId} {sz : Nat} {v : Value} {n : Nat} {xs : List Value} (h : w.ownsRow b e sz v n xs) (g : Below w.heap.size w w') : w'.ownsRow b e sz v n xs :=
  h.kept (row := none) ⟨g.os, g.tape, g.output, g.size, fun k hk _ => g.block k hk⟩ (by cases v.ownBlock with | none => exact .inl rfl | some g => exact .inr (by simp))
theorem own_grow {w w0 w' : World} {b : Nat} {e : TypeId} {sz : Nat} {v : Value} {n : Nat} {xs : List Value} (h : w.ownsRow b e sz v n xs) (g : w.grownBy w' v.ownBlock) (hb : Below b w0 w) (hle : b ≤ w.heap.size) : Below b w0 w' :=
  hb.trans ⟨g.os, g.tape, g.output, g.size, fun j hj => g.block j (by omega) (by intro hq; have := (h.lt j hq.symm).1; omega)⟩
def flatM (l : List Msg) : List Value := l.flatMap Msg.cells
theorem flatM_snoc (l : List Msg) (x : Msg) : flatM (l ++ [x]) = flatM l ++ x.cells := by unfold flatM; rw [List.flatMap_append]; simp
/-- the messages that may be written, and their bytes -/
noncomputable def okM (l : List Msg) : List Msg := l.filter fun m => (encM m).isSome
noncomputable def okE (l : List Msg) : List ByteArray := l.filterMap encM
theorem okM_yes {l : List Msg} {m : Msg} {E : ByteArray} (h : encM m = some E) : okM (l ++ [m]) = okM l ++ [m] := by unfold okM; rw [List.filter_append]; simp [h]
theorem okM_no {l : List Msg} {m : Msg} (h : encM m = none) : okM (l ++ [m]) = okM l := by unfold okM; rw [List.filter_append]; simp [h]
theorem okE_yes {l : List Msg} {m : Msg} {E : ByteArray} (h : encM m = some E) : okE (l ++ [m]) = okE l ++ [E] := by unfold okE; rw [List.filterMap_append]; simp [h]
theorem okE_no {l : List Msg} {m : Msg} (h : encM m = none) : okE (l ++ [m]) = okE l := by unfold okE; rw [List.filterMap_append]; simp [h]
theorem frs_snoc : ∀ (l : List ByteArray) (E : ByteArray), frs (l ++ [E]) = frs l ++ framed E
  | [], E => by show framed E ++ (⟨#[]⟩ : ByteArray) = (⟨#[]⟩ : ByteArray) ++ framed E; rw [app_nil, empty_app]
  | F :: l, E => by show framed F ++ frs (l ++ [E]) = framed F ++ frs l ++ framed E; rw [frs_snoc l E, app_assoc]
theorem framed_size (E : ByteArray) : (framed E).size = E.size + 2 := by rw [← size_list, framed_list]; simp
theorem frs_size : ∀ (l : List ByteArray), (∀ E ∈ l, E.size ≤ 1024) → (frs l).size ≤ 1026 * l.length
  | [], _ => Nat.zero_le _
  | E :: l, h => by
    have h1 := frs_size l fun F hF => h F (List.mem_cons_of_mem _ hF)
    have h2 := h E List.mem_cons_self
    show (framed E ++ frs l).size ≤ _
    rw [ByteArray.size_append, framed_size, List.length_cons]; omega
theorem okE_ok {l : List Msg} (h : ∀ m ∈ l, m.ok) : ∀ E ∈ okE l, 0 < E.size ∧ E.size ≤ 1024 := fun E hE => by
  obtain ⟨m, hm, he⟩ := List.mem_filterMap.1 hE
  exact encM_size (h m hm) he
theorem okE_len (l : List Msg) : (okE l).length ≤ l.length := List.length_filterMap_le _ _
theorem okM_len (l : List Msg) : (okM l).length ≤ l.length := List.length_filter_le _ _
theorem okE_at : ∀ (l : List Msg) (j : Nat) (E : ByteArray), (okE l)[j]? = some E → ∃ m, (okM l)[j]? = some m ∧ encM m = some E ∧ m ∈ l
  | [], j, E, h => by simp [okE] at h
  | m :: l, j, E, h => by
    cases he : encM m with
    | none =>
      have e1 : okE (m :: l) = okE l := by unfold okE; simp [he]
      have e2 : okM (m :: l) = okM l := by unfold okM; simp [he]
      rw [e1] at h
      rw [e2]
      obtain ⟨x, h1, h2, h3⟩ := okE_at l j E h
      exact ⟨x, h1, h2, List.mem_cons_of_mem _ h3⟩
    | some F =>
      have e1 : okE (m :: l) = F :: okE l := by unfold okE; simp [he]
      have e2 : okM (m :: l) = m :: okM l := by unfold okM; simp [he]
      rw [e1] at h
      rw [e2]
      cases j with
      | zero =>
        simp at h; subst h
        exact ⟨m, rfl, he, List.mem_cons_self⟩
      | succ j =>
        obtain ⟨x, h1, h2, h3⟩ := okE_at l j E (by simpa using h)
        exact ⟨x, by simpa using h1, h2, List.mem_cons_of_mem _ h3⟩
theorem okEM_len : ∀ (l : List Msg), (okE l).length = (okM l).length
  | [] => rfl
  | m :: l => by
    have ih := okEM_len l
    unfold okE okM at *
    cases he : encM m with
    | none => simp [he, ih]
    | some F => simp [he, ih]
/-- the reader and the row of what was sent -/
structure WL (n q K : Nat) (L : List Msg) (u : Value) (w : World) (B : ByteArray) (v : World) : Prop where
  own : v.ownsRow n 59 38 u K (flatM L)
  at_ : At v ⟨q, 0, none⟩ B
  bel : Below n w v
  hq : n ≤ q
  nb : u.ownBlock ≠ some q
section
variable {n q K : Nat} {L : List Msg} {u : Value} {w v v' : World} {B B' : ByteArray}
theorem WL.lt (h : WL n q K L u w B v) : q < v.heap.size := World.block_lt_of_cell? v _ h.at_.cell
theorem WL.same (h : WL n q K L u w B v) (g : Below v.heap.size v v') : WL n q K L u w B v' :=
  ⟨own_same h.own g, ⟨by rw [g.cell (p := ⟨q, 0, none⟩) h.lt]; exact h.at_.cell, by rw [World.frozen?_of_block (g.block q h.lt)]; exact h.at_.open'⟩, h.bel.trans (g.mono (by have := h.lt; have := h.hq; omega)), h.hq, h.nb⟩
theorem WL.dr (h : WL n q K L u w B v) (g : QC.Dr v v') : WL n q K L u w B v' := h.same g.below
theorem WL.put (h : WL n q K L u w B v) : WL n q K L u w B' (v.setCell ⟨q, 0, none⟩ (.string B')) := by
  refine ⟨h.own.kept (row := some q) ⟨rfl, rfl, rfl, by simp, fun k hk hne => ?_⟩ (.inr h.nb), h.at_.written (Below.refl v.heap.size _) h.lt, h.bel.setCell h.hq _, h.hq, h.nb⟩
  simp only [World.setCell, Array.getElem?_modify]
  rw [if_neg (by intro e; exact hne (by rw [e]))]
end
theorem cut_two (S : ByteArray) (k : Nat) (h : k ≤ S.size) : S.extract 0 k ++ S.extract k S.size = S := by
  rw [ByteArray.extract_append_extract]
  simp [h]
theorem not_stop {C : ByteArray} (h : ¬ frStop C) : 2 ≤ C.size ∧ frBad C = false ∧ 2 + frLen C ≤ C.size := by
  unfold frStop at h
  refine ⟨by omega, ?_, by omega⟩
  cases hb : frBad C with
  | false => rfl
  | true => exact absurd (.inr (.inl hb)) h
theorem flatM_len : ∀ {l : List Msg}, (∀ m ∈ l, m.ok) → (flatM l).length = l.length * 38
  | [], _ => rfl
  | x :: l, h => by
    have hx := Msg.size (h x List.mem_cons_self).h32
    rw [Msg.row, List.size_toArray] at hx
    rw [show flatM (x :: l) = x.cells ++ flatM l from rfl, List.length_append, flatM_len (fun m hm => h m (List.mem_cons_of_mem _ hm)), hx, List.length_cons]; omega
theorem flatM_at {l : List Msg} (hl : ∀ m ∈ l, m.ok) {i : Nat} {x : Msg} (h : l[i]? = some x) (j : Nat) (hj : j < 38) : (flatM l)[i * 38 + j]? = x.cells[j]? := by
  have hi : i < l.length := (List.getElem?_eq_some_iff.1 h).1
  have hx : l[i] = x := (List.getElem?_eq_some_iff.1 h).2
  have hxs := Msg.size (hl x (hx ▸ List.getElem_mem hi)).h32
  rw [Msg.row, List.size_toArray] at hxs
  have e : l = l.take i ++ x :: l.drop (i + 1) := by
    rw [← hx, List.getElem_cons_drop, List.take_append_drop]
  have hll : (flatM (l.take i)).length = i * 38 := by rw [flatM_len (fun m hm => hl m (List.mem_of_mem_take hm)), List.length_take]; congr 1; omega
  rw [e, show flatM (l.take i ++ x :: l.drop (i + 1)) = flatM (l.take i) ++ (x.cells ++ flatM (l.drop (i + 1))) by unfold flatM; rw [List.flatMap_append, List.flatMap_cons]]
  rw [List.getElem?_append_right (by omega), hll, Nat.add_sub_cancel_left, List.getElem?_append_left (by omega)]
theorem MAt_of {w : World} {b k c : Nat} {ad : Option Addr} {ls : List Msg} (h : w.ownsRow b 59 38 (.slice ad k c) k (flatM ls)) (hl : ∀ m ∈ ls, m.ok) (i : Nat) (x : Msg) (hx : ls[i]? = some x) : ∃ g, ad = some ⟨g, 0, none⟩ ∧ g < w.heap.size ∧ w.rangeAt g (i * 38) x.cells := by
  have hi : i < ls.length := (List.getElem?_eq_some_iff.1 hx).1
  have hxs := Msg.size (hl x (List.mem_of_getElem? hx)).h32
  rw [Msg.row, List.size_toArray] at hxs
  rcases h.2 with ⟨e, h0⟩ | ⟨g, cap, cur, e, hb, hg, _⟩
  · have := h.1
    rw [flatM_len hl] at this
    omega
  · cases e
    refine ⟨g, rfl, (h.lt g rfl).2, fun j y hy => ?_⟩
    have hj : j < 38 := by
      have := (List.getElem?_eq_some_iff.1 hy).1
      omega
    have := h.cells (g := g) rfl (i * 38 + j) y (by rw [flatM_at hl hx j hj]; exact hy)
    rw [Addr.add_mid, Nat.zero_add] at this
    exact this
theorem bytes_nil {s : ByteArray} (h : s.size = 0) : s = ⟨#[]⟩ := by
  apply ByteArray.ext; exact Array.eq_empty_of_size_eq_zero h
theorem guard59 : Tryz.prog.eqGuardType Tryz.prog.depth 59 = false := by kernel_rfl
theorem oat_neq {P : Program} {o : Oper} {a : Act} {w : World} {C' : World → Prop} (ty t : TypeId) (x y : Operand) (ho : o.op = .binOp .neq ty x y t) (A B : Array Value) (hx : a.eval x = .agg A) (hy : a.eval y = .agg B) (b : Bool)
    (hG : P.eqGuardType P.depth ty = false) (he : ∀ W, (Op.equalIn 10000 ty (.agg A) (.agg B)).run P W = .ok b W) (hC : C' w) : QP.oat P o a C' w (.bool (!b)) := by
  unfold QP.oat execOp
  simp only [ho, hx, hy]
  have e1 : (eqGuard .neq ty x y (.agg A) (.agg B)).run P w = .ok () w := by
    unfold eqGuard
    simp [go_sem, hG]
  simp [e1, go_sem, he, hC]
set_option maxRecDepth 100000 in
set_option maxHeartbeats 8000000 in
theorem wire_walk (A : Option Addr) (cap : Nat) (l : List Msg) (pb : Option Addr) (len2 cap2 : Nat) (zs : List Int) (w : World) (hsl : RowK.SlAt w 38 Msg.cells A l) (hok : ∀ m ∈ l, m.ok) (hl : l.length ≤ 20)
    (hrow : RowK.IsRow .u8 w pb len2 cap2 zs) (h2 : len2 ≤ 100) (sh : ∀ v, Below w.heap.size w v → Calls Tryz.prog 17 #[] v fun e w' => e = .returned (.bool true) ∧ Below v.heap.size v w') :
    Calls Tryz.prog 6 #[.slice A l.length cap, .slice pb len2 cap2] w fun e w' => e = .returned (.bool true) ∧ Below w.heap.size w w' := by
  have SH := Lib.hid sh
  have d1 : decide ((20 : Int) < (l.length : Int)) = false := by simp; omega
  have d2 : decide ((100 : Int) < (len2 : Int)) = false := by simp; omega
  obtain ⟨n, hn⟩ : ∃ n, w.heap.size = n := ⟨_, rfl⟩
  clear sh
  go_enter Tryz.func6, Tryz.ntmps6
  go_wp2_with fail
  refine (SH.out _ (Below.refl _ _)).mono ?_
  rintro e w1 ⟨rfl, g1⟩
  have b1 : Below n w (w1.alloc (.cells #[] 59)) := by rw [hn] at g1; exact g1.alloc (by have := g1.size; omega) _
  have own1 : (w1.alloc (.cells #[] 59)).ownsRow n 59 38 (.slice (some ⟨w1.heap.size, 0, none⟩) 0 0) 0 [] := World.ownsRow_lit (base := n) (e := 59) (size := 38) w1 #[] 0 (by have := g1.size; omega) (by decide) rfl
  have at_ : ∀ k m, l[k]? = some m → ∃ b off, A = some ⟨b, off, none⟩ ∧ b < n ∧ ∀ v, Below n w v → v.rangeAt b (off + k * 38) m.cells := fun k m h => msg_at hsl h hn
  have AT := Lib.hid at_
  obtain ⟨i0, hi, hi0, hi1, hi2⟩ := info_parts3 info59
  clear hsl g1 at_
  go_wp2
  go_loopg [5, 6, 7] l.length (fun g s v i W => ∃ (k : Nat), g + k = l.length ∧ i = .int .i64 k ∧ s = .string (frs (okE (l.take k))) ∧ W.ownsRow n 59 38 v (okM (l.take k)).length (flatM (okM (l.take k))) ∧ Below n w W)
  case atStart => exact ⟨0, by omega, rfl, rfl, own1, b1⟩
  case round =>
    clear own1 b1
    obtain ⟨k, hm, rfl, rfl, own, bel⟩ := hrel
    have HM := Lib.hid hm
    by_cases hk : k < l.length
    · have hlk : l[k]? = some l[k] := List.getElem?_eq_getElem hk
      have htk : l.take (k + 1) = l.take k ++ [l[k]] := by rw [List.take_add_one, hlk]; rfl
      obtain ⟨b, off, rfl, hb, hr⟩ := AT.out k _ hlk
      have mok := hok _ (List.getElem_mem hk)
      generalize l[k] = m at *
      have hr1 := hr _ bel
      have iC := Msg.info mok.h32
      have iCl : (Tryz.prog.info? 59).map (·.size) = some m.cells.length := by rw [iC, Msg.row, List.size_toArray]
      have hko : (k : Int) < (l.length : Int) := by omega
      cases he : encM m with
      | none =>
        have en := fun v => enc27_no mok he v
        have EN := Lib.hid en
        clear en
        go_wp2_with (first | (refine wpList_load_mid (x := .tmp 43) (ty := 59) (b := b) (o := off + k * 38) (cs := m.cells) ?_ ?_ ?_ _ hr1 Tryz.underlying59 rfl iCl ?_; rfl; rfl; rfl) | fail)
        refine (EN.out _).mono ?_
        rintro e w3 ⟨rfl, g3⟩
        have own3 := own_same own g3
        have bel3 : Below n w w3 := bel.trans (g3.mono (by have := bel.size; omega))
        go_wp2_with fail
        go_roundg (l.length - (k + 1))
        case measure => have := HM.out; omega
        case rel => exact ⟨k + 1, by have := HM.out; omega, by go_num, by rw [htk, okE_no he], by rw [htk, okM_no he]; exact own3, bel3⟩
      | some E =>
        have en := fun v => enc27_yes mok he v
        have EN := Lib.hid en
        have hE := encM_size mok he
        have pu := fun v => fput28 E v hE.1 hE.2
        have PU := Lib.hid pu
        have hzs : (frs (okE (l.take k))).size + (framed E).size ≤ 9223372036854775807 := by
          have h1 := frs_size (okE (l.take k)) (fun F hF => (okE_ok (fun m hm => hok m (List.mem_of_mem_take hm)) F hF).2)
          have h2 := okE_len (l.take k)
          have h3 := framed_size E
          have h4 : (l.take k).length ≤ l.length := List.length_take_le' ..
          omega
        clear en pu
        go_wp2_with (first | (refine wpList_load_mid (x := .tmp 43) (ty := 59) (b := b) (o := off + k * 38) (cs := m.cells) ?_ ?_ ?_ _ hr1 Tryz.underlying59 rfl iCl ?_; rfl; rfl; rfl) | fail)
        refine (EN.out _).mono ?_
        rintro e w3 ⟨rfl, g3⟩
        go_wp2_with fail
        refine (PU.out _).mono ?_
        rintro e w4 ⟨rfl, g4⟩
        have own4 := own_same (own_same own g3) g4
        have bel3 : Below n w w3 := bel.trans (g3.mono (by have := bel.size; omega))
        have bel4 : Below n w w4 := bel3.trans (g4.mono (by have := bel3.size; omega))
        have hr4 := hr _ bel4
        have BO := Lib.hid (fill_one (z := .agg Z59) hi1 (by decide) (by decide) m.row (Msg.size mok.h32))
        have hge : n ≤ (w4.alloc (.cells m.row 59)).heap.size := by have := bel4.size; simp; omega
        have own5 := own_same own4 ((Below.refl _ w4).alloc (Nat.le_refl _) (.cells m.row 59))
        have bel5 : Below n w (w4.alloc (.cells m.row 59)) := bel4.alloc (by have := bel4.size; omega) _
        have hc : ∀ j u, m.cells[j]? = some u → (w4.alloc (.cells m.row 59)).cell? ((⟨w4.heap.size, 0, none⟩ : Addr).add j) = some u := fun j u hu => by
          rw [Addr.add_mid, Nat.zero_add, M.RowAt.cell (M.RowAt.new w4 59 _), ← Array.getElem?_toList]
          exact hu
        have h1c : ∀ u ∈ m.cells, u.oneCell' = true := fun u hu => by
          have := Msg.one (m := m)
          rw [Array.all_eq_true'] at this
          exact this u (by simpa [Msg.row] using hu)
        have hml : m.cells.length = 1 * 38 := by have := Msg.size mok.h32; rw [Msg.row, List.size_toArray] at this; omega
        have hlen : (okM (l.take k)).length ≤ 20 := by have := okM_len (l.take k); have : (l.take k).length ≤ l.length := List.length_take_le' ..; omega
        have hby : ((okM (l.take k)).length + 1) * i0.bytes ≤ 140737488355328 := by
          have : ((okM (l.take k)).length + 1) * i0.bytes ≤ 21 * 1000 := Nat.mul_le_mul (by omega) hi2
          omega
        have OW5 := Lib.hid own5; have BEL5 := Lib.hid bel5; have HC := Lib.hid hc; have H1C := Lib.hid h1c; have HGE := Lib.hid hge; have HBY := Lib.hid hby; have HLN := Lib.hid hlen; have HML := Lib.hid hml
        clear g3 g4 own4 own5 own bel bel3 bel4 bel5 hc h1c hge hby hlen hr1 hml
        go_wp2_with (first
          | (refine wpList_load_mid (x := .tmp 63) (ty := 59) (b := b) (o := off + k * 38) (cs := m.cells) ?_ ?_ ?_ _ hr4 Tryz.underlying59 rfl iCl ?_; rfl; rfl; rfl)
          | (refine wpList_buildSlice ?_ 54 59 1 #[(0, .tmp 64)] ?_ m.row i0 (.agg Z59) Tryz.underlying54 hi hi0 ?_ ?_ ?_ ?_; rfl; rfl; exact BO.out.1; exact BO.out.2.1; (refine Eq.trans (congrArg (Instr.fill _ _) ?_) BO.out.2.2; rw [Array.toList_map]; rfl))
          | (at_builtin; refine wpList_append_own_at _ rfl (.tmp 60) (.tmp 65) 54 rfl n 59 i0 (.agg Z59) 38 i0.bytes Tryz.underlying54 hi hi0 hi1 rfl rfl (by decide) u6 _ _ rfl OW5.out ⟨w4.heap.size, 0, none⟩ 1 1 m.cells rfl HML.out HC.out H1C.out (by have := HLN.out; unfold maxLen; omega) HBY.out HGE.out ?_; intro v' w6 own6 hgrow _ _)
          | fail)
        have bel6 : Below n w w6 := own_grow OW5.out hgrow BEL5.out HGE.out
        rw [← flatM_snoc, ← okM_yes he, ← htk] at own6
        go_roundg (l.length - (k + 1))
        case measure => have := HM.out; omega
        case rel => exact ⟨k + 1, by have := HM.out; omega, by go_num, by rw [htk, okE_yes he, frs_snoc], by rw [htk, okM_yes he, List.length_append, ← okM_yes he, ← htk]; exact own6, bel6⟩
    · obtain rfl : k = l.length := by have := HM.out; omega
      rw [List.take_length] at own ⊢
      have hES := okE_ok hok
      have hEM := okE_at l
      have hlen := okEM_len l
      have hK20 : (okM l).length ≤ 20 := Nat.le_trans (okM_len l) hl
      have hsz0 : (frs (okE l)).size ≤ 20520 := by
        have h1 := frs_size (okE l) (fun F hF => (hES F hF).2)
        omega
      generalize okE l = ES at *
      generalize hMS : okM l = MS at *
      obtain ⟨q, hq⟩ : ∃ q, wr.heap.size = q := ⟨_, rfl⟩
      have wl0 : WL n q MS.length MS u6 w ⟨#[]⟩ (wr.alloc (.cells #[.string ⟨#[]⟩] 65)) := by
        have hlt := own.lt
        refine ⟨own_same own ((Below.refl _ _).alloc (Nat.le_refl _) _), ⟨?_, ?_⟩, bel.alloc (by have := bel.size; omega) _, by have := bel.size; omega, by intro e; have := (hlt q e).2; omega⟩
        · have := M.RowAt.cell (M.RowAt.new wr 65 #[.string ⟨#[]⟩]) 0
          rw [hq] at this; exact this
        · have := M.RowAt.frozen (M.RowAt.new wr 65 #[.string ⟨#[]⟩]) 0
          rw [hq] at this; exact this
      have hMok : ∀ m ∈ MS, m.ok := fun m hm => hok m (by rw [← hMS] at hm; exact (List.mem_filter.1 hm).1)
      obtain ⟨ad, cp, rfl⟩ := own_form wl0.own
      have WL0 := Lib.hid wl0
      clear own bel wl0
      have cutb : ∀ j, j < len2 → ∃ z : Nat, z < 256 ∧ ∃ b off, pb = some ⟨b, off, none⟩ ∧ ∀ v, Below n w v → v.cell? ⟨b, off + j, none⟩ = some (.int .u8 (z : Nat)) := fun j hj => by
        obtain ⟨b, off, r1, r2, r3, r4, r5, r6, r7⟩ := hrow.plain
        have hz := RowK.wf_u8 (r7 (zs.getD j 0) (by rw [List.getD_eq_getElem?_getD, List.getElem?_eq_getElem (by omega)]; exact List.getElem_mem _))
        obtain ⟨z, hzz⟩ := Int.eq_ofNat_of_zero_le hz.1
        refine ⟨z, by omega, b, off, r2.resolve_left (by omega), fun v hv => ?_⟩
        rw [hv.cell (p := ⟨b, off + j, none⟩) (by show b < n; rw [← hn]; exact r1.resolve_left (by omega)), r6 j hj, hzz]
      have CUT := Lib.hid cutb
      clear cutb hrow
      go_wp2
      have hqW := WL0.out
      go_loopg [5, 13, 14] (len2 + 1) (fun g s c i W => ∃ (iN got : Nat) (S B : ByteArray), iN + g = len2 + 1 ∧ i = .int .i64 iN ∧ c = .int .i64 got ∧ s = .string S ∧ B ++ S = frs (ES.drop got) ∧ got ≤ MS.length ∧ (len2 < iN → S.size = 0) ∧ B.size + S.size ≤ 20520 ∧ frStop B ∧ WL n q MS.length MS (.slice ad MS.length cp) w B W)
      case atStart => exact ⟨0, 0, frs ES, ⟨#[]⟩, by omega, rfl, rfl, rfl, empty_app _, Nat.zero_le _, by omega, by have h0 : (⟨#[]⟩ : ByteArray).size = 0 := rfl; omega, .inl (by decide), hqW⟩
      case round =>
        clear hqW WL0 hsz0
        obtain ⟨iN, got, S, B, hig, rfl, rfl, rfl, hBS, hgot, hlate, hsz, hst, wl⟩ := hrel
        by_cases hS : 0 < S.size
        · have hiN : iN ≤ len2 := by rcases Nat.lt_or_ge len2 iN with h | h; exact absurd (hlate h) (by omega); exact h
          have HIG := Lib.hid hig
          have WLv := Lib.hid wl
          have dS : decide ((0 : Int) < (S.size : Nat)) = true := by simp; omega
          by_cases hi : iN < len2
          · obtain ⟨z, hz, b, off, rfl, cz⟩ := CUT.out iN hi
            have czv := cz _ wl.bel
            by_cases hzs : z ≤ S.size
            · have hle : z ≤ S.size := by omega
              have hmin : min ((S.size : Nat) : Int) ((z : Nat) : Int) = ((z : Nat) : Int) := by omega
              obtain ⟨S1, hS1⟩ : ∃ x, S.extract 0 z = x := ⟨_, rfl⟩
              obtain ⟨S2, hS2⟩ : ∃ x, S.extract z S.size = x := ⟨_, rfl⟩
              have h12 : S1 ++ S2 = S := by rw [← hS1, ← hS2]; exact cut_two S z hle
              have hB12 : B ++ S1 ++ S2 = frs (ES.drop got) := by rw [app_assoc, h12]; exact hBS
              have hz12 : S1.size + S2.size = S.size := by rw [← ByteArray.size_append, h12]
              have hbad : frBad B = false := fr_bad hBS (fun E hE => hES E (List.mem_of_mem_drop hE))
              have PU := Lib.hid (fun u (h : At u ⟨q, 0, none⟩ B) => fpush_ok ⟨q, 0, none⟩ B S1 u h hbad (by omega))
              have HS1 := Lib.hid hS1; have HS2 := Lib.hid hS2; have HB12 := Lib.hid hB12
              clear hB12 h12 hBS
              have HLATE := Lib.hid (show len2 < iN + 1 → S2.size = 0 from fun h => by omega)
              clear wl
              go_wp2_with (first | rw [HS1.out] | fail)
              refine (PU.out _ WLv.out.at_).mono ?_
              rintro e w2 ⟨rfl, u, du, rfl⟩
              have WL2 := Lib.hid ((WLv.out.dr du).put (B' := B ++ S1))
              clear PU du
              go_wp2
              have hgle : MS.length - got + got = MS.length := by omega
              go_loopg [13] (MS.length - got) (fun g c W => ∃ (gt : Nat) (C : ByteArray), g + gt = MS.length ∧ c = .int .i64 gt ∧ C ++ S2 = frs (ES.drop gt) ∧ C.size + S2.size ≤ 20520 ∧ WL n q MS.length MS (.slice ad MS.length cp) w C W)
              case atStart => exact ⟨got, B ++ S1, hgle, rfl, HB12.out, by rw [ByteArray.size_append]; omega, WL2.out⟩
              case round =>
                obtain ⟨gt, C, hgt, rfl, hCS, hCz, wl3⟩ := hrel
                have HGT := Lib.hid hgt
                have WL3 := Lib.hid wl3
                have hCz2 : C.size ≤ 4611686018427387904 := by omega
                by_cases hstop : frStop C
                · have NX := Lib.hid (fun u (h : At u ⟨q, 0, none⟩ C) => fnext_no ⟨q, 0, none⟩ C u h hCz2 hstop)
                  clear wl3
                  go_wp2_with fail
                  refine (NX.out _ WL3.out.at_).mono ?_
                  rintro e w3 ⟨rfl, d3⟩
                  have WL4 := Lib.hid (WL3.out.dr d3)
                  clear d3 NX
                  go_wp2
                  go_roundg (len2 + 1 - (iN + 1))
                  case measure => have := HIG.out; omega
                  case rel => exact ⟨iN + 1, gt, S2, C, by have := HIG.out; omega, by go_num, rfl, by first | rfl | rw [HS2.out], hCS, by have := HGT.out; omega, HLATE.out, hCz, hstop, WL4.out⟩
                · have hn := not_stop hstop
                  obtain ⟨E, r, hdr, hx1, hx2⟩ := fr_next hCS (fun E hE => hES E (List.mem_of_mem_drop hE)) hn.1 hn.2.2
                  have hE : ES[gt]? = some E := by
                    have := congrArg (fun l => l[0]?) hdr
                    simpa using this
                  have hr : r = ES.drop (gt + 1) := by
                    have := congrArg List.tail hdr
                    simpa using this.symm
                  obtain ⟨m, hm1, hm2, hm3⟩ := hEM gt E hE
                  have mok := hok m hm3
                  have hgl : gt < MS.length := (List.getElem?_eq_some_iff.1 hm1).1
                  have NX := Lib.hid (fun u (h : At u ⟨q, 0, none⟩ C) => fnext_ok ⟨q, 0, none⟩ C u h hCz2 hn.1 hn.2.1 hn.2.2)
                  have DE := Lib.hid (fun v => dec31 mok hm2 v)
                  have NX := Lib.hid (fun u (h : At u ⟨q, 0, none⟩ C) => by
                    have := fnext_ok ⟨q, 0, none⟩ C u h hCz2 hn.1 hn.2.1 hn.2.2
                    rw [hx1] at this; exact this)
                  have DE := Lib.hid (fun v => dec31 mok hm2 v)
                  have EQ := Lib.hid (fun W => msg_eql 59 rfl m m mok mok true ⟨fun _ => rfl, fun _ => rfl⟩ W)
                  have hC2 : (C.extract (2 + frLen C) C.size).size ≤ C.size := by rw [ByteArray.size_extract]; omega
                  rw [hr] at hx2
                  generalize C.extract (2 + frLen C) C.size = C2 at *
                  have dn : decide ((MS.length : Int) ≤ (gt : Int)) = false := by simp; omega
                  have dn2 : decide (MS.length ≤ gt) = false := by simp; omega
                  have dn3 : ¬ (MS.length ≤ gt) := by omega
                  have iX := Msg.info mok.h32
                  have oX := Msg.one (m := m)
                  have zsz : Z59.size = m.row.size := by rw [Msg.size mok.h32]; rfl
                  have hgi : (gt : Int) < (MS.length : Int) := by omega
                  have HM1 := Lib.hid hm1; have HX2 := Lib.hid hx2; have HC2 := Lib.hid hC2; have MOK := Lib.hid mok
                  have iXl : (Tryz.prog.info? 59).map (·.size) = some m.cells.length := by rw [iX, Msg.row, List.size_toArray]
                  clear wl3 hm1 hm2 hm3 hE hdr hr hx1 hx2 hn hstop hCS hC2 mok
                  go_wp2_with fail
                  refine (NX.out _ WL3.out.at_).mono ?_
                  rintro e w3 ⟨rfl, u3, d3, rfl⟩
                  have WL4 := Lib.hid ((WL3.out.dr d3).put (B' := C2))
                  clear NX d3
                  go_wp2_with fail
                  refine (DE.out _).mono ?_
                  rintro e w4 ⟨rfl, b4⟩
                  have wl5 := WL4.out.same b4
                  obtain ⟨g, hg⟩ : ∃ g, w4.heap.size = g := ⟨_, rfl⟩
                  obtain ⟨U, hU⟩ : ∃ U, w4.alloc (.cells Z59 59) = U := ⟨_, rfl⟩
                  have hU2 : w4.alloc (.cells #[.int .i64 0, .int .u32 0, .int .u64 0, .int .u64 0, .int .u8 0, .int .u8 0, .int .u8 0, .int .u8 0, .int .u8 0, .int .u8 0, .int .u8 0, .int .u8 0, .int .u8 0, .int .u8 0, .int .u8 0, .int .u8 0, .int .u8 0, .int .u8 0, .int .u8 0, .int .u8 0, .int .u8 0, .int .u8 0, .int .u8 0, .int .u8 0, .int .u8 0, .int .u8 0, .int .u8 0, .int .u8 0, .int .u8 0, .int .u8 0, .int .u8 0, .int .u8 0, .int .u8 0, .int .u8 0, .int .u8 0, .int .u8 0, .int .i64 0, .int .i64 0] 59) = U := hU
                  have rU : M.RowAt U g 59 Z59 := by rw [← hU, ← hg]; exact M.RowAt.new w4 59 _
                  have bU : Below w4.heap.size w4 U := by rw [← hU]; exact (Below.refl _ _).alloc (Nat.le_refl _) _
                  obtain ⟨X, hX⟩ : ∃ X, U.setRow g m.row = X := ⟨_, rfl⟩
                  have rX := rU.setRow m.row
                  have bX : Below w4.heap.size w4 X := by
                    rw [← hX]
                    exact ((M.But.refl g U).setRow (.inl rfl) m.row).below bU (by omega) (by have := rU.lt; omega)
                  rw [hX] at rX
                  have WLX := Lib.hid (wl5.same bX)
                  have RX := Lib.hid rX
                  have HG := Lib.hid hg; have HU := Lib.hid hU2; have HX := Lib.hid hX
                  clear b4 wl5 hg hU hU2 bU bX hX rX
                  go_wp2_with (first | (rw [HG.out, HU.out]) | (refine wpList_store_row (x := .tmp 18) (y := .tmp 106) (cells := m.row) (old := Z59) (t := 59) (ty := 59) (g := g) ?_ ?_ ?_ ?_ rU iX zsz oX ?_; rfl; rfl; rfl; rfl; rw [HX.out]) | fail)
                  clear rU
                  refine QC.wp_region_d [] [0, 1, 2, 3, 4, 5, 6, 7, 8, 9, 10, 11, 12, 13, 14, 15] (by kernel_rfl) (by kernel_rfl) (fun u d => ?_)
                  have wu := WLX.out.dr d
                  have ru := M.RowAt.call RX.out (d.below (n := X.heap.size))
                  obtain ⟨ga, hga, hgl, hrg⟩ := MAt_of wu.own hMok gt m HM1.out
                  have WU := Lib.hid wu
                  subst hga
                  clear d wu hgl
                  iterate 9
                    (first
                     | (apply QC.wpC_load
                        (focus rfl)
                        (focus decide)
                        (focus rfl)
                        (focus rfl)
                        (focus rfl)
                        (focus (assumption))
                        (focus (intro u hu; go_simp))
                        intro K hK
                        go_simp
                        refine hK _ ?_
                        clear hK K)
                     | (apply QC.wpC_pure
                        (focus rfl)
                        (focus decide)
                        intro K hK
                        go_simp
                        first
                         | (refine hK _ ?_; clear hK K)
                         | (apply Exists.intro
                            refine ⟨fun u => ?_, hK _ ?_⟩
                            (focus (unfold QP.oat; go_simp; first | done | exact ⟨rfl, rfl⟩ | exact rfl))
                            clear hK K)))
                  refine QC.wpC_rest (fun u => M.RowAt u g 59 m.row) (.agg m.row) rfl (by decide) (by first | rfl | go_simp) ru ?_ ?_
                  · intro x hx
                    exact QP.oat_load_row (ty := 59) (x := .tmp 18) rfl (g := g) rfl (t := 59) (cs := m.row) (fr := (0, 0)) _ hx Tryz.underlying59 rfl iX rfl
                  iterate 3
                    (first
                     | (apply QC.wpC_load
                        (focus rfl)
                        (focus decide)
                        (focus rfl)
                        (focus rfl)
                        (focus rfl)
                        (focus (assumption))
                        (focus (intro u hu; go_simp))
                        intro K hK
                        go_simp
                        refine hK _ ?_
                        clear hK K)
                     | (apply QC.wpC_pure
                        (focus rfl)
                        (focus decide)
                        intro K hK
                        go_simp
                        first
                         | (refine hK _ ?_; clear hK K)
                         | (apply Exists.intro
                            refine ⟨fun u => ?_, hK _ ?_⟩
                            (focus (unfold QP.oat; go_simp; first | done | exact ⟨rfl, rfl⟩ | exact rfl))
                            clear hK K)))
                  refine QC.wpC_rest (fun u => u.rangeAt ga (gt * 38) m.cells) (.agg m.row) rfl (by decide) (by first | rfl | go_simp) hrg ?_ ?_
                  · intro x hx
                    exact QP.oat_load_mid (ty := 59) (x := .tmp 120) rfl (b := ga) (off := gt * 38) (by go_num) (cs := m.cells) _ hx Tryz.underlying59 rfl iXl rfl
                  refine QC.wpC_rest (fun _ => True) (.bool false) rfl (by decide) (by first | rfl | go_simp) trivial ?_ ?_
                  · intro x hx
                    exact oat_neq 59 59 (.tmp 117) (.tmp 121) rfl m.row m.row (by first | rfl | go_simp) (by first | rfl | go_simp) true guard59 EQ.out rfl
                  iterate 1
                    (first
                     | (apply QC.wpC_load
                        (focus rfl)
                        (focus decide)
                        (focus rfl)
                        (focus rfl)
                        (focus rfl)
                        (focus (assumption))
                        (focus (intro u hu; go_simp))
                        intro K hK
                        go_simp
                        refine hK _ ?_
                        clear hK K)
                     | (apply QC.wpC_pure
                        (focus rfl)
                        (focus decide)
                        intro K hK
                        go_simp
                        first
                         | (refine hK _ ?_; clear hK K)
                         | (apply Exists.intro
                            refine ⟨fun u => ?_, hK _ ?_⟩
                            (focus (unfold QP.oat; go_simp; first | done | exact ⟨rfl, rfl⟩ | exact rfl))
                            clear hK K)))
                  refine QC.wpC_nil ?_
                  go_wp2
                  go_roundg (MS.length - (gt + 1))
                  case measure => have := HGT.out; omega
                  case rel => exact ⟨gt + 1, C2, by have := HGT.out; omega, by go_num, HX2.out, by have := HC2.out; omega, WU.out⟩
            · have hle : S.size ≤ z := by omega
              have hmin : min ((S.size : Nat) : Int) ((z : Nat) : Int) = ((S.size : Nat) : Int) := by omega
              obtain ⟨S2, hS2⟩ : ∃ x, ByteArray.empty = x := ⟨_, rfl⟩
              have hz2 : S2.size = 0 := by rw [← hS2]; rfl
              obtain ⟨S1, hS1⟩ : ∃ x, S = x := ⟨_, rfl⟩
              have h12 : S1 ++ S2 = S := by rw [bytes_nil hz2, app_nil]; exact hS1.symm
              have hB12 : B ++ S1 ++ S2 = frs (ES.drop got) := by rw [app_assoc, h12]; exact hBS
              have hz12 : S1.size + S2.size = S.size := by rw [← ByteArray.size_append, h12]
              have hbad : frBad B = false := fr_bad hBS (fun E hE => hES E (List.mem_of_mem_drop hE))
              have PU := Lib.hid (fun u (h : At u ⟨q, 0, none⟩ B) => fpush_ok ⟨q, 0, none⟩ B S u h hbad (by omega))
              have HS2 := Lib.hid hS2; have HB12 := Lib.hid hB12
              clear hS2 hB12 h12 hBS
              subst hS1
              have HLATE := Lib.hid (show len2 < iN + 1 → S2.size = 0 from fun h => by omega)
              clear wl
              go_wp2_with fail
              refine (PU.out _ WLv.out.at_).mono ?_
              rintro e w2 ⟨rfl, u, du, rfl⟩
              have WL2 := Lib.hid ((WLv.out.dr du).put (B' := B ++ S))
              clear PU du
              go_wp2
              have hgle : MS.length - got + got = MS.length := by omega
              go_loopg [13] (MS.length - got) (fun g c W => ∃ (gt : Nat) (C : ByteArray), g + gt = MS.length ∧ c = .int .i64 gt ∧ C ++ S2 = frs (ES.drop gt) ∧ C.size + S2.size ≤ 20520 ∧ WL n q MS.length MS (.slice ad MS.length cp) w C W)
              case atStart => exact ⟨got, B ++ S, hgle, rfl, HB12.out, by rw [ByteArray.size_append]; omega, WL2.out⟩
              case round =>
                obtain ⟨gt, C, hgt, rfl, hCS, hCz, wl3⟩ := hrel
                have HGT := Lib.hid hgt
                have WL3 := Lib.hid wl3
                have hCz2 : C.size ≤ 4611686018427387904 := by omega
                by_cases hstop : frStop C
                · have NX := Lib.hid (fun u (h : At u ⟨q, 0, none⟩ C) => fnext_no ⟨q, 0, none⟩ C u h hCz2 hstop)
                  clear wl3
                  go_wp2_with fail
                  refine (NX.out _ WL3.out.at_).mono ?_
                  rintro e w3 ⟨rfl, d3⟩
                  have WL4 := Lib.hid (WL3.out.dr d3)
                  clear d3 NX
                  go_wp2
                  go_roundg (len2 + 1 - (iN + 1))
                  case measure => have := HIG.out; omega
                  case rel => exact ⟨iN + 1, gt, S2, C, by have := HIG.out; omega, by go_num, rfl, by first | rfl | rw [HS2.out], hCS, by have := HGT.out; omega, HLATE.out, hCz, hstop, WL4.out⟩
                · have hn := not_stop hstop
                  obtain ⟨E, r, hdr, hx1, hx2⟩ := fr_next hCS (fun E hE => hES E (List.mem_of_mem_drop hE)) hn.1 hn.2.2
                  have hE : ES[gt]? = some E := by
                    have := congrArg (fun l => l[0]?) hdr
                    simpa using this
                  have hr : r = ES.drop (gt + 1) := by
                    have := congrArg List.tail hdr
                    simpa using this.symm
                  obtain ⟨m, hm1, hm2, hm3⟩ := hEM gt E hE
                  have mok := hok m hm3
                  have hgl : gt < MS.length := (List.getElem?_eq_some_iff.1 hm1).1
                  have NX := Lib.hid (fun u (h : At u ⟨q, 0, none⟩ C) => fnext_ok ⟨q, 0, none⟩ C u h hCz2 hn.1 hn.2.1 hn.2.2)
                  have DE := Lib.hid (fun v => dec31 mok hm2 v)
                  have NX := Lib.hid (fun u (h : At u ⟨q, 0, none⟩ C) => by
                    have := fnext_ok ⟨q, 0, none⟩ C u h hCz2 hn.1 hn.2.1 hn.2.2
                    rw [hx1] at this; exact this)
                  have DE := Lib.hid (fun v => dec31 mok hm2 v)
                  have EQ := Lib.hid (fun W => msg_eql 59 rfl m m mok mok true ⟨fun _ => rfl, fun _ => rfl⟩ W)
                  have hC2 : (C.extract (2 + frLen C) C.size).size ≤ C.size := by rw [ByteArray.size_extract]; omega
                  rw [hr] at hx2
                  generalize C.extract (2 + frLen C) C.size = C2 at *
                  have dn : decide ((MS.length : Int) ≤ (gt : Int)) = false := by simp; omega
                  have dn2 : decide (MS.length ≤ gt) = false := by simp; omega
                  have dn3 : ¬ (MS.length ≤ gt) := by omega
                  have iX := Msg.info mok.h32
                  have oX := Msg.one (m := m)
                  have zsz : Z59.size = m.row.size := by rw [Msg.size mok.h32]; rfl
                  have hgi : (gt : Int) < (MS.length : Int) := by omega
                  have HM1 := Lib.hid hm1; have HX2 := Lib.hid hx2; have HC2 := Lib.hid hC2; have MOK := Lib.hid mok
                  have iXl : (Tryz.prog.info? 59).map (·.size) = some m.cells.length := by rw [iX, Msg.row, List.size_toArray]
                  clear wl3 hm1 hm2 hm3 hE hdr hr hx1 hx2 hn hstop hCS hC2 mok
                  go_wp2_with fail
                  refine (NX.out _ WL3.out.at_).mono ?_
                  rintro e w3 ⟨rfl, u3, d3, rfl⟩
                  have WL4 := Lib.hid ((WL3.out.dr d3).put (B' := C2))
                  clear NX d3
                  go_wp2_with fail
                  refine (DE.out _).mono ?_
                  rintro e w4 ⟨rfl, b4⟩
                  have wl5 := WL4.out.same b4
                  obtain ⟨g, hg⟩ : ∃ g, w4.heap.size = g := ⟨_, rfl⟩
                  obtain ⟨U, hU⟩ : ∃ U, w4.alloc (.cells Z59 59) = U := ⟨_, rfl⟩
                  have hU2 : w4.alloc (.cells #[.int .i64 0, .int .u32 0, .int .u64 0, .int .u64 0, .int .u8 0, .int .u8 0, .int .u8 0, .int .u8 0, .int .u8 0, .int .u8 0, .int .u8 0, .int .u8 0, .int .u8 0, .int .u8 0, .int .u8 0, .int .u8 0, .int .u8 0, .int .u8 0, .int .u8 0, .int .u8 0, .int .u8 0, .int .u8 0, .int .u8 0, .int .u8 0, .int .u8 0, .int .u8 0, .int .u8 0, .int .u8 0, .int .u8 0, .int .u8 0, .int .u8 0, .int .u8 0, .int .u8 0, .int .u8 0, .int .u8 0, .int .u8 0, .int .i64 0, .int .i64 0] 59) = U := hU
                  have rU : M.RowAt U g 59 Z59 := by rw [← hU, ← hg]; exact M.RowAt.new w4 59 _
                  have bU : Below w4.heap.size w4 U := by rw [← hU]; exact (Below.refl _ _).alloc (Nat.le_refl _) _
                  obtain ⟨X, hX⟩ : ∃ X, U.setRow g m.row = X := ⟨_, rfl⟩
                  have rX := rU.setRow m.row
                  have bX : Below w4.heap.size w4 X := by
                    rw [← hX]
                    exact ((M.But.refl g U).setRow (.inl rfl) m.row).below bU (by omega) (by have := rU.lt; omega)
                  rw [hX] at rX
                  have WLX := Lib.hid (wl5.same bX)
                  have RX := Lib.hid rX
                  have HG := Lib.hid hg; have HU := Lib.hid hU2; have HX := Lib.hid hX
                  clear b4 wl5 hg hU hU2 bU bX hX rX
                  go_wp2_with (first | (rw [HG.out, HU.out]) | (refine wpList_store_row (x := .tmp 18) (y := .tmp 106) (cells := m.row) (old := Z59) (t := 59) (ty := 59) (g := g) ?_ ?_ ?_ ?_ rU iX zsz oX ?_; rfl; rfl; rfl; rfl; rw [HX.out]) | fail)
                  clear rU
                  refine QC.wp_region_d [] [0, 1, 2, 3, 4, 5, 6, 7, 8, 9, 10, 11, 12, 13, 14, 15] (by kernel_rfl) (by kernel_rfl) (fun u d => ?_)
                  have wu := WLX.out.dr d
                  have ru := M.RowAt.call RX.out (d.below (n := X.heap.size))
                  obtain ⟨ga, hga, hgl, hrg⟩ := MAt_of wu.own hMok gt m HM1.out
                  have WU := Lib.hid wu
                  subst hga
                  clear d wu hgl
                  iterate 9
                    (first
                     | (apply QC.wpC_load
                        (focus rfl)
                        (focus decide)
                        (focus rfl)
                        (focus rfl)
                        (focus rfl)
                        (focus (assumption))
                        (focus (intro u hu; go_simp))
                        intro K hK
                        go_simp
                        refine hK _ ?_
                        clear hK K)
                     | (apply QC.wpC_pure
                        (focus rfl)
                        (focus decide)
                        intro K hK
                        go_simp
                        first
                         | (refine hK _ ?_; clear hK K)
                         | (apply Exists.intro
                            refine ⟨fun u => ?_, hK _ ?_⟩
                            (focus (unfold QP.oat; go_simp; first | done | exact ⟨rfl, rfl⟩ | exact rfl))
                            clear hK K)))
                  refine QC.wpC_rest (fun u => M.RowAt u g 59 m.row) (.agg m.row) rfl (by decide) (by first | rfl | go_simp) ru ?_ ?_
                  · intro x hx
                    exact QP.oat_load_row (ty := 59) (x := .tmp 18) rfl (g := g) rfl (t := 59) (cs := m.row) (fr := (0, 0)) _ hx Tryz.underlying59 rfl iX rfl
                  iterate 3
                    (first
                     | (apply QC.wpC_load
                        (focus rfl)
                        (focus decide)
                        (focus rfl)
                        (focus rfl)
                        (focus rfl)
                        (focus (assumption))
                        (focus (intro u hu; go_simp))
                        intro K hK
                        go_simp
                        refine hK _ ?_
                        clear hK K)
                     | (apply QC.wpC_pure
                        (focus rfl)
                        (focus decide)
                        intro K hK
                        go_simp
                        first
                         | (refine hK _ ?_; clear hK K)
                         | (apply Exists.intro
                            refine ⟨fun u => ?_, hK _ ?_⟩
                            (focus (unfold QP.oat; go_simp; first | done | exact ⟨rfl, rfl⟩ | exact rfl))
                            clear hK K)))
                  refine QC.wpC_rest (fun u => u.rangeAt ga (gt * 38) m.cells) (.agg m.row) rfl (by decide) (by first | rfl | go_simp) hrg ?_ ?_
                  · intro x hx
                    exact QP.oat_load_mid (ty := 59) (x := .tmp 120) rfl (b := ga) (off := gt * 38) (by go_num) (cs := m.cells) _ hx Tryz.underlying59 rfl iXl rfl
                  refine QC.wpC_rest (fun _ => True) (.bool false) rfl (by decide) (by first | rfl | go_simp) trivial ?_ ?_
                  · intro x hx
                    exact oat_neq 59 59 (.tmp 117) (.tmp 121) rfl m.row m.row (by first | rfl | go_simp) (by first | rfl | go_simp) true guard59 EQ.out rfl
                  iterate 1
                    (first
                     | (apply QC.wpC_load
                        (focus rfl)
                        (focus decide)
                        (focus rfl)
                        (focus rfl)
                        (focus rfl)
                        (focus (assumption))
                        (focus (intro u hu; go_simp))
                        intro K hK
                        go_simp
                        refine hK _ ?_
                        clear hK K)
                     | (apply QC.wpC_pure
                        (focus rfl)
                        (focus decide)
                        intro K hK
                        go_simp
                        first
                         | (refine hK _ ?_; clear hK K)
                         | (apply Exists.intro
                            refine ⟨fun u => ?_, hK _ ?_⟩
                            (focus (unfold QP.oat; go_simp; first | done | exact ⟨rfl, rfl⟩ | exact rfl))
                            clear hK K)))
                  refine QC.wpC_nil ?_
                  go_wp2
                  go_roundg (MS.length - (gt + 1))
                  case measure => have := HGT.out; omega
                  case rel => exact ⟨gt + 1, C2, by have := HGT.out; omega, by go_num, HX2.out, by have := HC2.out; omega, WU.out⟩
          · have hinn : iN = len2 := by omega
            obtain ⟨S2, hS2⟩ : ∃ x, ByteArray.empty = x := ⟨_, rfl⟩
            have hz2 : S2.size = 0 := by rw [← hS2]; rfl
            obtain ⟨S1, hS1⟩ : ∃ x, S = x := ⟨_, rfl⟩
            have h12 : S1 ++ S2 = S := by rw [bytes_nil hz2, app_nil]; exact hS1.symm
            have hB12 : B ++ S1 ++ S2 = frs (ES.drop got) := by rw [app_assoc, h12]; exact hBS
            have hz12 : S1.size + S2.size = S.size := by rw [← ByteArray.size_append, h12]
            have hbad : frBad B = false := fr_bad hBS (fun E hE => hES E (List.mem_of_mem_drop hE))
            have PU := Lib.hid (fun u (h : At u ⟨q, 0, none⟩ B) => fpush_ok ⟨q, 0, none⟩ B S u h hbad (by omega))
            have HS2 := Lib.hid hS2; have HB12 := Lib.hid hB12
            clear hS2 hB12 h12 hBS
            subst hS1
            have HLATE := Lib.hid (show len2 < iN + 1 → S2.size = 0 from fun h => by omega)
            clear wl
            go_wp2_with fail
            refine (PU.out _ WLv.out.at_).mono ?_
            rintro e w2 ⟨rfl, u, du, rfl⟩
            have WL2 := Lib.hid ((WLv.out.dr du).put (B' := B ++ S))
            clear PU du
            go_wp2
            have hgle : MS.length - got + got = MS.length := by omega
            go_loopg [13] (MS.length - got) (fun g c W => ∃ (gt : Nat) (C : ByteArray), g + gt = MS.length ∧ c = .int .i64 gt ∧ C ++ S2 = frs (ES.drop gt) ∧ C.size + S2.size ≤ 20520 ∧ WL n q MS.length MS (.slice ad MS.length cp) w C W)
            case atStart => exact ⟨got, B ++ S, hgle, rfl, HB12.out, by rw [ByteArray.size_append]; omega, WL2.out⟩
            case round =>
              obtain ⟨gt, C, hgt, rfl, hCS, hCz, wl3⟩ := hrel
              have HGT := Lib.hid hgt
              have WL3 := Lib.hid wl3
              have hCz2 : C.size ≤ 4611686018427387904 := by omega
              by_cases hstop : frStop C
              · have NX := Lib.hid (fun u (h : At u ⟨q, 0, none⟩ C) => fnext_no ⟨q, 0, none⟩ C u h hCz2 hstop)
                clear wl3
                go_wp2_with fail
                refine (NX.out _ WL3.out.at_).mono ?_
                rintro e w3 ⟨rfl, d3⟩
                have WL4 := Lib.hid (WL3.out.dr d3)
                clear d3 NX
                go_wp2
                go_roundg (len2 + 1 - (iN + 1))
                case measure => have := HIG.out; omega
                case rel => exact ⟨iN + 1, gt, S2, C, by have := HIG.out; omega, by go_num, rfl, by first | rfl | rw [HS2.out], hCS, by have := HGT.out; omega, HLATE.out, hCz, hstop, WL4.out⟩
              · have hn := not_stop hstop
                obtain ⟨E, r, hdr, hx1, hx2⟩ := fr_next hCS (fun E hE => hES E (List.mem_of_mem_drop hE)) hn.1 hn.2.2
                have hE : ES[gt]? = some E := by
                  have := congrArg (fun l => l[0]?) hdr
                  simpa using this
                have hr : r = ES.drop (gt + 1) := by
                  have := congrArg List.tail hdr
                  simpa using this.symm
                obtain ⟨m, hm1, hm2, hm3⟩ := hEM gt E hE
                have mok := hok m hm3
                have hgl : gt < MS.length := (List.getElem?_eq_some_iff.1 hm1).1
                have NX := Lib.hid (fun u (h : At u ⟨q, 0, none⟩ C) => fnext_ok ⟨q, 0, none⟩ C u h hCz2 hn.1 hn.2.1 hn.2.2)
                have DE := Lib.hid (fun v => dec31 mok hm2 v)
                have NX := Lib.hid (fun u (h : At u ⟨q, 0, none⟩ C) => by
                  have := fnext_ok ⟨q, 0, none⟩ C u h hCz2 hn.1 hn.2.1 hn.2.2
                  rw [hx1] at this; exact this)
                have DE := Lib.hid (fun v => dec31 mok hm2 v)
                have EQ := Lib.hid (fun W => msg_eql 59 rfl m m mok mok true ⟨fun _ => rfl, fun _ => rfl⟩ W)
                have hC2 : (C.extract (2 + frLen C) C.size).size ≤ C.size := by rw [ByteArray.size_extract]; omega
                rw [hr] at hx2
                generalize C.extract (2 + frLen C) C.size = C2 at *
                have dn : decide ((MS.length : Int) ≤ (gt : Int)) = false := by simp; omega
                have dn2 : decide (MS.length ≤ gt) = false := by simp; omega
                have dn3 : ¬ (MS.length ≤ gt) := by omega
                have iX := Msg.info mok.h32
                have oX := Msg.one (m := m)
                have zsz : Z59.size = m.row.size := by rw [Msg.size mok.h32]; rfl
                have hgi : (gt : Int) < (MS.length : Int) := by omega
                have HM1 := Lib.hid hm1; have HX2 := Lib.hid hx2; have HC2 := Lib.hid hC2; have MOK := Lib.hid mok
                have iXl : (Tryz.prog.info? 59).map (·.size) = some m.cells.length := by rw [iX, Msg.row, List.size_toArray]
                clear wl3 hm1 hm2 hm3 hE hdr hr hx1 hx2 hn hstop hCS hC2 mok
                go_wp2_with fail
                refine (NX.out _ WL3.out.at_).mono ?_
                rintro e w3 ⟨rfl, u3, d3, rfl⟩
                have WL4 := Lib.hid ((WL3.out.dr d3).put (B' := C2))
                clear NX d3
                go_wp2_with fail
                refine (DE.out _).mono ?_
                rintro e w4 ⟨rfl, b4⟩
                have wl5 := WL4.out.same b4
                obtain ⟨g, hg⟩ : ∃ g, w4.heap.size = g := ⟨_, rfl⟩
                obtain ⟨U, hU⟩ : ∃ U, w4.alloc (.cells Z59 59) = U := ⟨_, rfl⟩
                have hU2 : w4.alloc (.cells #[.int .i64 0, .int .u32 0, .int .u64 0, .int .u64 0, .int .u8 0, .int .u8 0, .int .u8 0, .int .u8 0, .int .u8 0, .int .u8 0, .int .u8 0, .int .u8 0, .int .u8 0, .int .u8 0, .int .u8 0, .int .u8 0, .int .u8 0, .int .u8 0, .int .u8 0, .int .u8 0, .int .u8 0, .int .u8 0, .int .u8 0, .int .u8 0, .int .u8 0, .int .u8 0, .int .u8 0, .int .u8 0, .int .u8 0, .int .u8 0, .int .u8 0, .int .u8 0, .int .u8 0, .int .u8 0, .int .u8 0, .int .u8 0, .int .i64 0, .int .i64 0] 59) = U := hU
                have rU : M.RowAt U g 59 Z59 := by rw [← hU, ← hg]; exact M.RowAt.new w4 59 _
                have bU : Below w4.heap.size w4 U := by rw [← hU]; exact (Below.refl _ _).alloc (Nat.le_refl _) _
                obtain ⟨X, hX⟩ : ∃ X, U.setRow g m.row = X := ⟨_, rfl⟩
                have rX := rU.setRow m.row
                have bX : Below w4.heap.size w4 X := by
                  rw [← hX]
                  exact ((M.But.refl g U).setRow (.inl rfl) m.row).below bU (by omega) (by have := rU.lt; omega)
                rw [hX] at rX
                have WLX := Lib.hid (wl5.same bX)
                have RX := Lib.hid rX
                have HG := Lib.hid hg; have HU := Lib.hid hU2; have HX := Lib.hid hX
                clear b4 wl5 hg hU hU2 bU bX hX rX
                go_wp2_with (first | (rw [HG.out, HU.out]) | (refine wpList_store_row (x := .tmp 18) (y := .tmp 106) (cells := m.row) (old := Z59) (t := 59) (ty := 59) (g := g) ?_ ?_ ?_ ?_ rU iX zsz oX ?_; rfl; rfl; rfl; rfl; rw [HX.out]) | fail)
                clear rU
                refine QC.wp_region_d [] [0, 1, 2, 3, 4, 5, 6, 7, 8, 9, 10, 11, 12, 13, 14, 15] (by kernel_rfl) (by kernel_rfl) (fun u d => ?_)
                have wu := WLX.out.dr d
                have ru := M.RowAt.call RX.out (d.below (n := X.heap.size))
                obtain ⟨ga, hga, hgl, hrg⟩ := MAt_of wu.own hMok gt m HM1.out
                have WU := Lib.hid wu
                subst hga
                clear d wu hgl
                iterate 9
                  (first
                   | (apply QC.wpC_load
                      (focus rfl)
                      (focus decide)
                      (focus rfl)
                      (focus rfl)
                      (focus rfl)
                      (focus (assumption))
                      (focus (intro u hu; go_simp))
                      intro K hK
                      go_simp
                      refine hK _ ?_
                      clear hK K)
                   | (apply QC.wpC_pure
                      (focus rfl)
                      (focus decide)
                      intro K hK
                      go_simp
                      first
                       | (refine hK _ ?_; clear hK K)
                       | (apply Exists.intro
                          refine ⟨fun u => ?_, hK _ ?_⟩
                          (focus (unfold QP.oat; go_simp; first | done | exact ⟨rfl, rfl⟩ | exact rfl))
                          clear hK K)))
                refine QC.wpC_rest (fun u => M.RowAt u g 59 m.row) (.agg m.row) rfl (by decide) (by first | rfl | go_simp) ru ?_ ?_
                · intro x hx
                  exact QP.oat_load_row (ty := 59) (x := .tmp 18) rfl (g := g) rfl (t := 59) (cs := m.row) (fr := (0, 0)) _ hx Tryz.underlying59 rfl iX rfl
                iterate 3
                  (first
                   | (apply QC.wpC_load
                      (focus rfl)
                      (focus decide)
                      (focus rfl)
                      (focus rfl)
                      (focus rfl)
                      (focus (assumption))
                      (focus (intro u hu; go_simp))
                      intro K hK
                      go_simp
                      refine hK _ ?_
                      clear hK K)
                   | (apply QC.wpC_pure
                      (focus rfl)
                      (focus decide)
                      intro K hK
                      go_simp
                      first
                       | (refine hK _ ?_; clear hK K)
                       | (apply Exists.intro
                          refine ⟨fun u => ?_, hK _ ?_⟩
                          (focus (unfold QP.oat; go_simp; first | done | exact ⟨rfl, rfl⟩ | exact rfl))
                          clear hK K)))
                refine QC.wpC_rest (fun u => u.rangeAt ga (gt * 38) m.cells) (.agg m.row) rfl (by decide) (by first | rfl | go_simp) hrg ?_ ?_
                · intro x hx
                  exact QP.oat_load_mid (ty := 59) (x := .tmp 120) rfl (b := ga) (off := gt * 38) (by go_num) (cs := m.cells) _ hx Tryz.underlying59 rfl iXl rfl
                refine QC.wpC_rest (fun _ => True) (.bool false) rfl (by decide) (by first | rfl | go_simp) trivial ?_ ?_
                · intro x hx
                  exact oat_neq 59 59 (.tmp 117) (.tmp 121) rfl m.row m.row (by first | rfl | go_simp) (by first | rfl | go_simp) true guard59 EQ.out rfl
                iterate 1
                  (first
                   | (apply QC.wpC_load
                      (focus rfl)
                      (focus decide)
                      (focus rfl)
                      (focus rfl)
                      (focus rfl)
                      (focus (assumption))
                      (focus (intro u hu; go_simp))
                      intro K hK
                      go_simp
                      refine hK _ ?_
                      clear hK K)
                   | (apply QC.wpC_pure
                      (focus rfl)
                      (focus decide)
                      intro K hK
                      go_simp
                      first
                       | (refine hK _ ?_; clear hK K)
                       | (apply Exists.intro
                          refine ⟨fun u => ?_, hK _ ?_⟩
                          (focus (unfold QP.oat; go_simp; first | done | exact ⟨rfl, rfl⟩ | exact rfl))
                          clear hK K)))
                refine QC.wpC_nil ?_
                go_wp2
                go_roundg (MS.length - (gt + 1))
                case measure => have := HGT.out; omega
                case rel => exact ⟨gt + 1, C2, by have := HGT.out; omega, by go_num, HX2.out, by have := HC2.out; omega, WU.out⟩
        · obtain rfl : S = ⟨#[]⟩ := bytes_nil (by omega)
          obtain ⟨hd, hB0⟩ := fr_stop hBS (fun E hE => hES E (List.mem_of_mem_drop hE)) hst
          have hge := congrArg List.length hd
          rw [List.length_drop, List.length_nil, hlen] at hge
          obtain rfl : got = MS.length := by omega
          have LF := Lib.hid (fun u (h : At u ⟨q, 0, none⟩ B) => fleft_any ⟨q, 0, none⟩ B u h)
          have WLv := Lib.hid wl
          rw [hB0] at LF
          have hS0 : (⟨#[]⟩ : ByteArray).size = 0 := rfl
          clear wl
          go_wp2_with (first | ((with_reducible refine (LF.out _ WLv.out.at_).mono ?_); rintro e w5 ⟨rfl, rfl⟩) | fail)
          go_ret
          exact ⟨by simp, hn ▸ WLv.out.bel⟩
end Go.Proofs.YtdebnbgjgkbmaaaGreatDoor.Wi
namespace Go.Proofs.YtdebnbgjgkbmaaaGreatDoor.Wi
open Go.Proofs.YtdebnbgjgkbmaaaGreatDoor.Oc
open Go.RowKit Go.Shelf
set_option linter.unusedVariables false
section
variable {H : Type} {enc : TypeId × Value → H} {w : World} {base : Nat} {sp : Nat → Bool} {held : Bool}
theorem wfu8 {x : Int} (h : (Lit.int .u8 x).wf = true) : 0 ≤ x ∧ x ≤ 255 := by simpa [Lit.wf, IntKind.min, IntKind.max, IntKind.signed, IntKind.bits] using h
theorem wfu32' {x : Int} (h : (Lit.int .u32 x).wf = true) : 0 ≤ x ∧ x ≤ 4294967295 := by simpa [Lit.wf, IntKind.min, IntKind.max, IntKind.signed, IntKind.bits] using h
set_option maxRecDepth 100000 in
theorem msg_of_cells (n : Nat) (cs : List Value) (y : DataW H × List MemPlace) (hl : cs.length = 38) (h : DataW.trod enc Tryz.prog w base sp held n 59 cs = some y) : ∃ m : Msg, cs = m.cells ∧ m.ok := by
  obtain ⟨n0, y0, h0⟩ := RowK.field_of Tryz.underlying59 h 0 rfl
  obtain ⟨n1, y1, h1⟩ := RowK.field_of Tryz.underlying59 h 1 rfl
  obtain ⟨n2, y2, h2⟩ := RowK.field_of Tryz.underlying59 h 2 rfl
  obtain ⟨n3, y3, h3⟩ := RowK.field_of Tryz.underlying59 h 3 rfl
  obtain ⟨n4, y4, h4⟩ := RowK.field_of Tryz.underlying59 h 4 rfl
  obtain ⟨n5, y5, h5⟩ := RowK.field_of Tryz.underlying59 h 5 rfl
  obtain ⟨n6, y6, h6⟩ := RowK.field_of Tryz.underlying59 h 6 rfl
  have c3 : Tryz.prog.cellsOf 3 = 1 := by kernel_rfl
  have c60 : Tryz.prog.cellsOf 40 = 1 := by kernel_rfl
  have c22 : Tryz.prog.cellsOf 27 = 1 := by kernel_rfl
  have c33 : Tryz.prog.cellsOf 47 = 32 := by kernel_rfl
  obtain ⟨k, e0, g0⟩ := RowK.int_of Tryz.underlying3 h0
  obtain ⟨c, e1, g1⟩ := RowK.int_of Tryz.underlying40 h1
  obtain ⟨i, e2, g2⟩ := RowK.int_of Tryz.underlying27 h2
  obtain ⟨a, e3, g3⟩ := RowK.int_of Tryz.underlying27 h3
  obtain ⟨zs, l4, g4, e4⟩ := RowK.arr_of Tryz.underlying47 Tryz.underlying5 (by kernel_rfl) c33 h4
  obtain ⟨ex, e5, g5⟩ := RowK.int_of Tryz.underlying3 h5
  obtain ⟨nu, e6, g6⟩ := RowK.int_of Tryz.underlying3 h6
  have e0 : (cs.drop 0).take (Tryz.prog.cellsOf 3) = _ := e0
  have e1 : (cs.drop 1).take (Tryz.prog.cellsOf 40) = _ := e1
  have e2 : (cs.drop 2).take (Tryz.prog.cellsOf 27) = _ := e2
  have e3 : (cs.drop 3).take (Tryz.prog.cellsOf 27) = _ := e3
  have e4 : (cs.drop 4).take (Tryz.prog.cellsOf 47) = _ := e4
  have e5 : (cs.drop 36).take (Tryz.prog.cellsOf 3) = _ := e5
  have e6 : (cs.drop 37).take (Tryz.prog.cellsOf 3) = _ := e6
  rw [c3] at e0 e5 e6
  rw [c60] at e1
  rw [c22] at e2 e3
  rw [c33] at e4
  refine ⟨⟨k, c, i, a, zs, ex, nu⟩, ?_, ⟨l4, fun x hx => wfu8 (g4 x hx), (RowK.wf_i64 g0).1, (RowK.wf_i64 g0).2, (wfu32' g1).1, (wfu32' g1).2, (RowK.wf_u64 g2).1, (RowK.wf_u64 g2).2, (RowK.wf_u64 g3).1, (RowK.wf_u64 g3).2, (RowK.wf_i64 g5).1, (RowK.wf_i64 g5).2, (RowK.wf_i64 g6).1, (RowK.wf_i64 g6).2⟩⟩
  have split : ∀ (l : List Value) (a b : Nat), (l.drop a).take b ++ l.drop (a + b) = l.drop a := fun l a b => by
    rw [← List.drop_drop, List.take_append_drop]
  have s0 := split cs 0 1; have s1 := split cs 1 1; have s2 := split cs 2 1; have s3 := split cs 3 1; have s4 := split cs 4 32; have s5 := split cs 36 1; have s6 := split cs 37 1
  rw [e0] at s0
  rw [e1] at s1
  rw [e2] at s2
  rw [e3] at s3
  rw [e4] at s4
  rw [e5] at s5
  rw [e6] at s6
  have s7 : cs.drop 38 = [] := List.drop_eq_nil_of_le (by omega)
  rw [show (37 : Nat) + 1 = 38 from rfl, s7] at s6
  rw [show (36 : Nat) + 1 = 37 from rfl, ← s6] at s5
  rw [show (4 : Nat) + 32 = 36 from rfl, ← s5] at s4
  rw [show (3 : Nat) + 1 = 4 from rfl, ← s4] at s3
  rw [show (2 : Nat) + 1 = 3 from rfl, ← s3] at s2
  rw [show (1 : Nat) + 1 = 2 from rfl, ← s2] at s1
  rw [show (0 : Nat) + 1 = 1 from rfl, ← s1] at s0
  rw [List.drop_zero] at s0
  rw [← s0]
  rfl
end
set_option maxRecDepth 100000 in
set_option maxHeartbeats 4000000 in
theorem wire_long (A : Option Addr) (len cap : Nat) (pb : Option Addr) (len2 cap2 : Nat) (w : World) (h : 20 < len ∨ 100 < len2) (sh : ∀ v, Below w.heap.size w v → Calls Tryz.prog 17 #[] v fun e w' => e = .returned (.bool true) ∧ Below v.heap.size v w') :
    Calls Tryz.prog 6 #[.slice A len cap, .slice pb len2 cap2] w fun e w' => e = .returned (.bool true) ∧ Below w.heap.size w w' := by
  have SH := Lib.hid sh
  clear sh
  by_cases h1 : 20 < len
  · clear h
    go_enter Tryz.func6, Tryz.ntmps6
    go_wp2_with fail
    refine (SH.out _ (Below.refl _ _)).mono ?_
    rintro e w1 ⟨rfl, g1⟩
    go_wp2
    go_ret
    exact ⟨rfl, g1⟩
  · have h2 := h.resolve_left h1
    clear h
    go_enter Tryz.func6, Tryz.ntmps6
    go_wp2_with fail
    refine (SH.out _ (Below.refl _ _)).mono ?_
    rintro e w1 ⟨rfl, g1⟩
    go_wp2
    go_ret
    exact ⟨rfl, g1⟩
set_option maxRecDepth 1000000 in
theorem wire_any {H : Type} {enc : TypeId × Value → H} {W : World} {base : Nat} (v0 : Value) (d0 : DataW H) (p0 : List MemPlace) (hval : Value.okWide Tryz.prog W .any base 54 v0) (h0 : DataW.Trod enc Tryz.prog W 0 (fun _ => true) true 54 v0 d0 p0) (b1 : Option Addr) (len1 cap1 : Nat) (z1 : List Int) (w1 : RowK.IsRow .u8 W b1 len1 cap1 z1)
    (sh : ∀ v, Below W.heap.size W v → Calls Tryz.prog 17 #[] v fun e w' => e = .returned (.bool true) ∧ Below v.heap.size v w') :
    Calls Tryz.prog 6 #[v0, .slice b1 len1 cap1] W fun e W' => e = .returned (.bool true) ∧ Below W.heap.size W W' := by
  obtain ⟨A, cap, l, rfl, h1, h2, hok, hsl⟩ := RowK.sl_of_trod (size := 38) Msg.cells Msg.ok Tryz.underlying54 (by kernel_rfl) (by decide) (fun n cs y hl h => msg_of_cells n cs y hl h) hval h0
  by_cases hl : 20 < l.length ∨ 100 < len1
  · exact wire_long A l.length cap b1 len1 cap1 W hl sh
  · exact wire_walk A cap l b1 len1 cap1 z1 W hsl hok (by omega) w1 (by omega) sh
end Go.Proofs.YtdebnbgjgkbmaaaGreatDoor.Wi
namespace Go.Proofs.YtdebnbgjgkbmaaaGreatDoor
open Go.RowKit
set_option linter.unusedVariables false
set_option maxRecDepth 1000000 in
theorem wire_lst : SX.Lst Rows.topWireRow.laid := by
  refine ⟨?_, ?_, ?_, ?_, ?_⟩ <;> simp [Rows.topWireRow]
set_option maxRecDepth 1000000 in
theorem walk_TopWire {H : Type} {enc : TypeId × Value → H} {W : World} {base : Nat} (v0 : Value) (d0 : DataW H) (p0 : List MemPlace) (hval : Value.okWide Tryz.prog W .any base 54 v0) (h0 : DataW.Trod enc Tryz.prog W 0 (fun _ => true) true 54 v0 d0 p0) (b1 : Option Addr) (len1 cap1 : Nat) (z1 : List Int) (w1 : RowK.IsRow .u8 W b1 len1 cap1 z1)
    (hsh : W.ShapedOpen Tryz.prog) (hL : laidMetH Tryz.prog Rows.topWireRow.laid W) :
    Calls Tryz.prog 6 #[v0, .slice b1 len1 cap1] W fun e W' => e = .returned (.bool true) ∧ Below W.heap.size W W' := by
  have g := SX.glb_of hsh hL wire_lst
  exact Wi.wire_any v0 d0 p0 hval h0 b1 len1 cap1 z1 w1 (fun v hb => SX.shown_any v (g.below hb g.lt))
end Go.Proofs.YtdebnbgjgkbmaaaGreatDoor
namespace Go.Proofs.YtdebnbgjgkbmaaaGreatDoor.Wit9d6a22
set_option maxRecDepth 100000
noncomputable def laidWorld (os : Os) : World :=
  { World.holding Tryz.prog os ⟨#[], #[], []⟩ with heap := (((((((((((((World.holding Tryz.prog os ⟨#[], #[], []⟩).heap).modify 5 fun
    | .cells _ t frozen => .cells #[.int .u8 0, .int .u8 1, .int .u8 28, .int .u8 2, .int .u8 29, .int .u8 14, .int .u8 24, .int .u8 3, .int .u8 30, .int .u8 22, .int .u8 20, .int .u8 15, .int .u8 25, .int .u8 17, .int .u8 4, .int .u8 8, .int .u8 31, .int .u8 27, .int .u8 13, .int .u8 23, .int .u8 21, .int .u8 19, .int .u8 16, .int .u8 7, .int .u8 26, .int .u8 12, .int .u8 18, .int .u8 6, .int .u8 11, .int .u8 5, .int .u8 10, .int .u8 9] t frozen
    | o => o)).modify 6 fun
    | .cells _ t frozen => .cells #[.int .u8 0, .int .u8 1, .int .u8 56, .int .u8 2, .int .u8 57, .int .u8 49, .int .u8 28, .int .u8 3, .int .u8 61, .int .u8 58, .int .u8 42, .int .u8 50, .int .u8 38, .int .u8 29, .int .u8 17, .int .u8 4, .int .u8 62, .int .u8 47, .int .u8 59, .int .u8 36, .int .u8 45, .int .u8 43, .int .u8 51, .int .u8 22, .int .u8 53, .int .u8 39, .int .u8 33, .int .u8 30, .int .u8 24, .int .u8 18, .int .u8 12, .int .u8 5, .int .u8 63, .int .u8 55, .int .u8 48, .int .u8 27, .int .u8 60, .int .u8 41, .int .u8 37, .int .u8 16, .int .u8 46, .int .u8 35, .int .u8 44, .int .u8 21, .int .u8 52, .int .u8 32, .int .u8 23, .int .u8 11, .int .u8 54, .int .u8 26, .int .u8 40, .int .u8 15, .int .u8 34, .int .u8 20, .int .u8 31, .int .u8 10, .int .u8 25, .int .u8 14, .int .u8 19, .int .u8 9, .int .u8 13, .int .u8 8, .int .u8 7, .int .u8 6] t frozen
    | o => o)).modify 0 fun
    | .cells _ t frozen => .cells #[.int .u32 1779033703, .int .u32 3144134277, .int .u32 1013904242, .int .u32 2773480762, .int .u32 1359893119, .int .u32 2600822924, .int .u32 528734635, .int .u32 1541459225] t frozen
    | o => o)).modify 4 fun
    | .cells _ t frozen => .cells #[.int .u32 1116352408, .int .u32 1899447441, .int .u32 3049323471, .int .u32 3921009573, .int .u32 961987163, .int .u32 1508970993, .int .u32 2453635748, .int .u32 2870763221, .int .u32 3624381080, .int .u32 310598401, .int .u32 607225278, .int .u32 1426881987, .int .u32 1925078388, .int .u32 2162078206, .int .u32 2614888103, .int .u32 3248222580, .int .u32 3835390401, .int .u32 4022224774, .int .u32 264347078, .int .u32 604807628, .int .u32 770255983, .int .u32 1249150122, .int .u32 1555081692, .int .u32 1996064986, .int .u32 2554220882, .int .u32 2821834349, .int .u32 2952996808, .int .u32 3210313671, .int .u32 3336571891, .int .u32 3584528711, .int .u32 113926993, .int .u32 338241895, .int .u32 666307205, .int .u32 773529912, .int .u32 1294757372, .int .u32 1396182291, .int .u32 1695183700, .int .u32 1986661051, .int .u32 2177026350, .int .u32 2456956037, .int .u32 2730485921, .int .u32 2820302411, .int .u32 3259730800, .int .u32 3345764771, .int .u32 3516065817, .int .u32 3600352804, .int .u32 4094571909, .int .u32 275423344, .int .u32 430227734, .int .u32 506948616, .int .u32 659060556, .int .u32 883997877, .int .u32 958139571, .int .u32 1322822218, .int .u32 1537002063, .int .u32 1747873779, .int .u32 1955562222, .int .u32 2024104815, .int .u32 2227730452, .int .u32 2361852424, .int .u32 2428436474, .int .u32 2756734187, .int .u32 3204031479, .int .u32 3329325298] t frozen
    | o => o)).modify 7 fun
    | .cells _ t frozen => .cells #[.int .i64 3, .int .i64 4, .int .i64 1, .int .i64 2, .int .i64 0, .int .i64 1, .int .i64 2, .int .i64 3, .int .i64 4, .int .i64 0, .int .i64 1, .int .i64 2, .int .i64 3, .int .i64 4, .int .i64 0, .int .i64 3, .int .i64 4, .int .i64 1, .int .i64 2, .int .i64 0] t frozen
    | o => o)).modify 3 fun
    | .cells _ t frozen => .cells #[.int .i64 1, .int .i64 7, .int .i64 3, .int .i64 5] t frozen
    | o => o) }
theorem vars (os : Os) (args : Array Value) : ((laidWorld os).forCall (fun _ _ => 0) ⟨#[], args, []⟩).variablesB Tryz.checked.prog = true := by kernel_rfl
theorem rest (os : Os) (args : Array Value) : (((laidWorld os).forCall (fun _ _ => 0) ⟨#[], args, []⟩).heap.toList.drop Tryz.checked.prog.globals.size).take ((begin Tryz.checked.prog (fun _ _ => 0) default).world.heap.size - Tryz.checked.prog.globals.size) =
      (begin Tryz.checked.prog (fun _ _ => 0) default).world.heap.toList.drop Tryz.checked.prog.globals.size := by kernel_rfl
def laid : List (String × DataW Unit) := [("math/bits.deBruijn32tab", Rows.laid_math_bits_deBruijn32tab), ("math/bits.deBruijn64tab", Rows.laid_math_bits_deBruijn64tab), ("remitter/digest.begin", Rows.laid_remitter_digest_begin), ("remitter/digest.table", Rows.laid_remitter_digest_table), ("remitter/htlc.events", Rows.laid_remitter_htlc_events), ("remitter/htlc.spans", Rows.laid_remitter_htlc_spans)]
theorem met (os : Os) (args : Array Value) : laidMet Tryz.prog laid ((laidWorld os).forCall (fun _ _ => 0) ⟨#[], args, []⟩).memory :=
  laidMet_of_run' 8 (by kernel_rfl) (by kernel_rfl)
end Go.Proofs.YtdebnbgjgkbmaaaGreatDoor.Wit9d6a22
