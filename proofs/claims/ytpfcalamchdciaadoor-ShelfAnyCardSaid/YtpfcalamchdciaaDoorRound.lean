/- Regions in the round of a range over a function, out of the plain calculus: whatever is no defer statement is carried out there as everywhere; no conditions. -/
import Derived.RangeFuncNested
import Derived.RangeFuncBound
import Derived.RangeFuncCalls
import Derived.RangeFuncLeaves
import Derived.RangeFuncFrom
import Derived.Shelf.Abstract
import Derived.Shelf.RegionOpen
import Derived.WalkKit
import Derived.OwnWalkIn
import Derived.TacticsInMore
import Derived.LoopNIn
import Derived.LoopIn
import Derived.Test.YtpfcalamchdciaaDoorQuietT
namespace Go.Proofs.YtpfcalamchdciaaDoor
namespace Rd
open QP (upon oat cls getD_mono)
open QT (waits fst Down dep_listed lexBP wpAnyQ_lex)
set_option linter.unusedVariables false
variable {P : Program} {l n : Nat} {ops : Array Oper} {md : Region.Mode} {Cf Ct : World → Prop} {p : Nat}

def noDefer (ops : Array Oper) : Bool := ops.toList.all fun o => match o.op with | .defer _ => false | _ => true
theorem noDefer_spec (h : noDefer ops = true) {i : Nat} {o : Oper} (ho : ops[i]? = some o) : ∀ c, o.op ≠ .defer c := by
  intro c hc
  unfold noDefer at h
  rw [List.all_eq_true] at h
  have hm : o ∈ ops.toList := by
    rw [← Array.getElem?_toList] at ho
    exact List.mem_of_getElem? ho
  have := h o hm
  rw [hc] at this; cases this
theorem oper_of_oat {o : Oper} {a : Act} {C' : World → Prop} {v : Value} {K : Act → Prop} {K' : Act → World → Prop} {Q' : Exit → Act → World → Prop} {w : World} (hnd : ∀ c, o.op ≠ .defer c) (h : ∀ a w', C' w' → K a → K' a w')
    (h3 : oat P o a C' w v) (h2 : K (a.put o.dst v)) : o.wpIn (Fence.wide.inRound l) n P a w K' Q' := by
  unfold oat at h3
  unfold Oper.wpIn
  refine ⟨fun _ _ => trivial, ?_⟩
  rw [show (Fence.wide.inRound l).round = some l from rfl, Oper.semAt_eq _ _ _ hnd]
  generalize (execOp a.eval o).run P w = r at *
  cases r with
  | ok x w' =>
    cases x <;> simp only [upon] at h3 <;> simp only [Oper.uponIn]
    case value u =>
      obtain ⟨e1, e2⟩ := h3
      rw [e2]
      exact h _ _ e1 h2
    case skip =>
      obtain ⟨e1, e2⟩ := h3
      rw [← e2]
      exact h _ _ e1 h2
    case enter f args =>
      exact ⟨fun h => absurd h (by simp [Fence.wide]), CallsIn.inRound l ((callsIn_wide.2 h3).mono fun e w'' ⟨he, hw''⟩ => by subst he; exact h _ _ hw'' h2)⟩
  | halt x w' => simp only [upon] at h3
theorem wpOpIn_of_qOp (hnd : ∀ (i : Nat) (o : Oper), ops[i]? = some o → ∀ c, o.op ≠ .defer c) {i : Nat} {a : Act} {K : Act → Prop} {K' : Act → World → Prop} {Q' : Exit → Act → World → Prop} {w : World} {listed : Array Bool} (hC : cls Cf Ct p listed w) (hkept : Down md ops listed)
    (hi : i ∈ Region.ready md ops listed) (h : ∀ a w', cls Cf Ct p (listed.setIfInBounds i true) w' → K a → K' a w') (hh : QT.qOp P md ops Cf Ct p i K a) : wpOpIn (Fence.wide.inRound l) n P ops Q' i K' a w := by
  obtain ⟨hun, o, ho, hall⟩ := mem_ready.1 hi
  have hlt : i < listed.size := by
    rcases Nat.lt_or_ge i listed.size with h' | h'
    · exact h'
    · rw [Array.getD_eq_getD_getElem?, Array.getElem?_eq_none h'] at hun; cases hun
  have hset : i ≠ p → (listed.setIfInBounds i true).getD p false = listed.getD p false := fun hne => by
    rw [Array.getD_eq_getD_getElem?, Array.getD_eq_getD_getElem?, Array.getElem?_setIfInBounds_ne hne]
  have hsetp : (listed.setIfInBounds i true).getD i false = true := by
    rw [Array.getD_eq_getD_getElem?, Array.getElem?_setIfInBounds_self_of_lt hlt]; rfl
  have hunf : listed.getD i false = false := by
    rw [Array.getD_eq_getD_getElem?, Array.getElem?_eq_getElem hlt] at hun ⊢; exact hun
  unfold QT.qOp at hh
  unfold wpOpIn
  simp only [ho] at hh ⊢
  split
  · rename_i hw
    simp only [hw, if_true] at hh
    obtain ⟨v, hv, hK⟩ := hh
    unfold QT.allowed at hv
    split at hv
    · rename_i hip
      subst hip
      have hCf : Cf w := by unfold cls at hC; rw [hunf] at hC; simpa using hC
      exact (oper_of_oat (hnd _ _ ho) (C' := Ct) (fun a' w' hw' hk => h a' w' (by unfold cls; rw [hsetp]; simpa using hw') hk) (hv w hCf) hK)
    · rename_i hne
      by_cases hb : listed.getD p false = true
      · have hCt : Ct w := by unfold cls at hC; rw [hb] at hC; simpa using hC
        rcases hv.2 with hft | hv2
        · exfalso
          have hpi : listed.getD i false = true := by
            unfold fst at hft
            split at hft
            · rename_i op hop
              exact dep_listed hkept 4 op (hkept p op hb hop) hft
            · cases hft
          rw [hunf] at hpi; cases hpi
        · exact (oper_of_oat (hnd _ _ ho) (C' := Ct) (fun a' w' hw' hk => h a' w' (by unfold cls; rw [hset hne, hb]; simpa using hw') hk) (hv2 w hCt) hK)
      · have hCf : Cf w := by unfold cls at hC; simpa [hb] using hC
        rcases hv.1 with hwt | hf
        · exfalso
          exact hb (dep_listed hkept 4 o (fun e he h => hall e (by simpa using he) h) hwt)
        · exact (oper_of_oat (hnd _ _ ho) (C' := Cf) (fun a' w' hw' hk => h a' w' (by unfold cls; rw [hset hne]; simpa [hb] using hw') hk) (hf w hCf) hK)
  · rename_i hw
    simp only [hw] at hh
    exact ⟨fun _ _ => trivial, h _ _ (by unfold cls at hC ⊢; rw [hset hh.1]; exact hC) hh.2⟩

theorem wpAnyIn_of_quiet (hnd : ∀ (i : Nat) (o : Oper), ops[i]? = some o → ∀ c, o.op ≠ .defer c) {Q : Act → Prop} {Q' : Exit → Act → World → Prop} (hQ : ∀ a w, Ct w → Q a → Q' .normal a w) : ∀ (fuel : Nat) (listed : Array Bool) (a : Act) (w : World), cls Cf Ct p listed w → Down md ops listed →
    QT.wpAnyQ P md ops Cf Ct p Q fuel listed a → wpAnyIn (Fence.wide.inRound l) n P md ops Q' fuel listed a w
  | 0, l', _, _, hw, _, h => ⟨h.1, hQ _ _ (by unfold cls at hw; rw [h.2.1] at hw; simpa using hw) h.2.2⟩
  | fuel + 1, l', _, _, hw, hk0, h => ⟨fun h0 => hQ _ _ (by unfold cls at hw; rw [(h.1 h0).1] at hw; simpa using hw) (h.1 h0).2, fun i hi => wpOpIn_of_qOp hnd hw hk0 hi (fun a' w' hw' hk => wpAnyIn_of_quiet hnd hQ fuel _ a' w' hw' (hk0.set hi) hk) (h.2 i hi)⟩

theorem wpIn_region_p (p : Nat) (Cf Ct : World → Prop) {id : Nat} {Q : Exit → Act → World → Prop} {a : Act} {w : World} {L : List Oper} (hnd : noDefer L.toArray = true) (hm : P.follows .mixedOrders = true) (hB : lexBP .any L.toArray p = true)
    (hC : Cf w.drew) (h : QT.wpQ P .any L.toArray Cf Ct p (fun a' => ∀ w', Ct w' → Q .normal a' w') L 0 a) : (Code.region id L.toArray true).wpIn (Fence.wide.inRound l) n P Q a w := by
  simp only [lexBP, Bool.and_eq_true] at hB
  refine wpIn_region_any hm (wpAnyIn_of_quiet (fun i o h => noDefer_spec hnd h) (Cf := Cf) (Ct := Ct) (p := p) (Q := fun a' => ∀ w', Ct w' → Q .normal a' w') (fun _ w' hw' h => h w' hw') _ _ _ _ ?_ ?_ ?_)
  · have e : (Array.replicate L.toArray.size false).getD p false = false := by
      rw [Array.getD_eq_getD_getElem?, Array.getElem?_replicate]; split <;> rfl
    unfold cls; rw [e]; simpa using hC
  · intro j o hj _
    have e : (Array.replicate L.toArray.size false).getD j false = false := by
      rw [Array.getD_eq_getD_getElem?, Array.getElem?_replicate]; split <;> rfl
    rw [e] at hj; cases hj
  · have := QT.wpAnyQ_lex (Cf := Cf) (Ct := Ct) (p := p) (md := .any) hB.1 L 0 (Array.replicate L.toArray.size false) a (by simp) (by simpa using hB.2) h
    simpa using this

theorem oper_value {o : Oper} {a : Act} {w w' : World} {v : Value} {K : Act → World → Prop} {Q : Exit → Act → World → Prop} (hnd : ∀ c, o.op ≠ .defer c) (hr : (execOp a.eval o).run P w = .ok (.value v) w') (h : K (a.put o.dst v) w') : o.wpIn (Fence.wide.inRound l) n P a w K Q := by
  unfold Oper.wpIn
  refine ⟨fun _ _ => trivial, ?_⟩
  rw [show (Fence.wide.inRound l).round = some l from rfl, Oper.semAt_eq _ _ _ hnd, hr]
  exact h
theorem oper_skip {o : Oper} {a : Act} {w w' : World} {K : Act → World → Prop} {Q : Exit → Act → World → Prop} (hnd : ∀ c, o.op ≠ .defer c) (hr : (execOp a.eval o).run P w = .ok .skip w') (h : K (a.put o.dst undef) w') : o.wpIn (Fence.wide.inRound l) n P a w K Q := by
  unfold Oper.wpIn
  refine ⟨fun _ _ => trivial, ?_⟩
  rw [show (Fence.wide.inRound l).round = some l from rfl, Oper.semAt_eq _ _ _ hnd, hr]
  exact h
theorem list_load_row {rest : List Oper} {o : Oper} {a : Act} {w : World} {Q : Exit → Act → World → Prop} (hgd : o.guard = none) (ty : TypeId) (x : Operand) (ho : o.op = .load ty x)
    (g : Nat) (hx : a.eval x = .pointer (some ⟨g, 0, none⟩)) (t : TypeId) (cs : Array Value) (fr : Nat × Nat) (d : TypeDesc) (hg : w.heap[g]? = some (.cells cs t fr))
    (hu : P.underlying ty = some d) (hd : (match d with | .struct _ | .array _ _ => true | _ => false) = true) (hi : (P.info? ty).map (·.size) = some cs.size)
    (h : wpListIn (Fence.wide.inRound l) n P ops Q rest (a.put o.dst (.agg cs)) w) : wpListIn (Fence.wide.inRound l) n P ops Q (o :: rest) a w :=
  wpListIn_plain hgd fun K hK => oper_value (w' := w) (v := .agg cs) (by intro c hc; rw [ho] at hc; cases hc) (by
    unfold execOp
    simp only [ho, hx, Instr.loadAt, Instr.sureAddr, Sem.run_bind, Sem.run_pure, Result.andThen_ok, run_loadVar_row w g t ty cs fr d hg hu hd hi]) (hK _ _ h)
theorem list_store_row {rest : List Oper} {o : Oper} {a : Act} {w : World} {Q : Exit → Act → World → Prop} (hgd : o.guard = none) (ty : TypeId) (x y : Operand) (ho : o.op = .store ty x y)
    (g : Nat) (cells : Array Value) (hx : a.eval x = .pointer (some ⟨g, 0, none⟩)) (hy : a.eval y = .agg cells)
    (t : TypeId) (old : Array Value) (hg : w.heap[g]? = some (.cells old t (0, 0))) (hi : (P.info? ty).map (·.size) = some cells.size) (hold : old.size = cells.size) (h1 : cells.all (·.oneCell') = true)
    (h : wpListIn (Fence.wide.inRound l) n P ops Q rest (a.put o.dst undef) (w.setRow g cells)) : wpListIn (Fence.wide.inRound l) n P ops Q (o :: rest) a w :=
  wpListIn_plain hgd fun K hK => oper_skip (w' := w.setRow g cells) (by intro c hc; rw [ho] at hc; cases hc) (by
    unfold execOp
    simp only [ho, hx, hy, Instr.storeAt, Instr.sureAddr, Sem.run_bind, Sem.run_pure, Result.andThen_ok, run_storeVar_row w g t ty old cells hg hi hold h1]) (hK _ _ h)
theorem wideo_value {o : Oper} {a : Act} {w w' : World} {v : Value} {K : Act → World → Prop} {Q : Exit → Act → World → Prop} (hnd : ∀ c, o.op ≠ .defer c) (hr : (execOp a.eval o).run P w = .ok (.value v) w') (h : K (a.put o.dst v) w') : o.wpIn Fence.wide n P a w K Q := by
  unfold Oper.wpIn
  refine ⟨fun _ _ => trivial, ?_⟩
  rw [Oper.semAt_eq _ _ _ hnd, hr]
  exact h
theorem wideo_skip {o : Oper} {a : Act} {w w' : World} {K : Act → World → Prop} {Q : Exit → Act → World → Prop} (hnd : ∀ c, o.op ≠ .defer c) (hr : (execOp a.eval o).run P w = .ok .skip w') (h : K (a.put o.dst undef) w') : o.wpIn Fence.wide n P a w K Q := by
  unfold Oper.wpIn
  refine ⟨fun _ _ => trivial, ?_⟩
  rw [Oper.semAt_eq _ _ _ hnd, hr]
  exact h
theorem wide_load_row {rest : List Oper} {o : Oper} {a : Act} {w : World} {Q : Exit → Act → World → Prop} (hgd : o.guard = none) (ty : TypeId) (x : Operand) (ho : o.op = .load ty x)
    (g : Nat) (hx : a.eval x = .pointer (some ⟨g, 0, none⟩)) (t : TypeId) (cs : Array Value) (fr : Nat × Nat) (d : TypeDesc) (hg : w.heap[g]? = some (.cells cs t fr))
    (hu : P.underlying ty = some d) (hd : (match d with | .struct _ | .array _ _ => true | _ => false) = true) (hi : (P.info? ty).map (·.size) = some cs.size)
    (h : wpListIn Fence.wide n P ops Q rest (a.put o.dst (.agg cs)) w) : wpListIn Fence.wide n P ops Q (o :: rest) a w :=
  wpListIn_plain hgd fun K hK => wideo_value (w' := w) (v := .agg cs) (by intro c hc; rw [ho] at hc; cases hc) (by
    unfold execOp
    simp only [ho, hx, Instr.loadAt, Instr.sureAddr, Sem.run_bind, Sem.run_pure, Result.andThen_ok, run_loadVar_row w g t ty cs fr d hg hu hd hi]) (hK _ _ h)
theorem wide_store_row {rest : List Oper} {o : Oper} {a : Act} {w : World} {Q : Exit → Act → World → Prop} (hgd : o.guard = none) (ty : TypeId) (x y : Operand) (ho : o.op = .store ty x y)
    (g : Nat) (cells : Array Value) (hx : a.eval x = .pointer (some ⟨g, 0, none⟩)) (hy : a.eval y = .agg cells)
    (t : TypeId) (old : Array Value) (hg : w.heap[g]? = some (.cells old t (0, 0))) (hi : (P.info? ty).map (·.size) = some cells.size) (hold : old.size = cells.size) (h1 : cells.all (·.oneCell') = true)
    (h : wpListIn Fence.wide n P ops Q rest (a.put o.dst undef) (w.setRow g cells)) : wpListIn Fence.wide n P ops Q (o :: rest) a w :=
  wpListIn_plain hgd fun K hK => wideo_skip (w' := w.setRow g cells) (by intro c hc; rw [ho] at hc; cases hc) (by
    unfold execOp
    simp only [ho, hx, hy, Instr.storeAt, Instr.sureAddr, Sem.run_bind, Sem.run_pure, Result.andThen_ok, run_storeVar_row w g t ty old cells hg hi hold h1]) (hK _ _ h)
end Rd
end Go.Proofs.YtpfcalamchdciaaDoor
