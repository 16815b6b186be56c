/- A pass without writer and reader sets all fields of a list to 0; whether a message may be, in the program; the conditions are the types' own. -/
import Derived.Test.YtiilgkhndfnkgaaWiF
namespace Go.Proofs.Ytiilgkhndfnkgaa
open Go.RowKit Go.Shelf
set_option linter.unusedVariables false

section
variable {P : Program} {ops : Array Oper} {rest : List Oper} {o : Oper} {a : Act} {w : World} {Q : Exit → Act → World → Prop}
theorem wpList_eql (hw : Region.wanted o (yielded ops a.tmps) = true) (ty t : TypeId) (x y : Operand) (ho : o.op = .binOp .eql ty x y t) (A B : Array Value) (hx : a.eval x = .agg A) (hy : a.eval y = .agg B) (b : Bool)
    (hG : P.eqGuardType P.depth ty = false) (he : ∀ W, (Op.equalIn 10000 ty (.agg A) (.agg B)).run P W = .ok b W) (h : wpList P ops Q rest (a.put o.dst (.bool b)) w) : wpList P ops Q (o :: rest) a w :=
  wpList_step fun K hK => by
    rw [if_pos hw]
    unfold Oper.wp execOp
    simp only [ho, hx, hy]
    have e1 : (eqGuard .eql ty x y (.agg A) (.agg B)).run P w = .ok () w := by
      unfold eqGuard
      simp [go_sem, hG]
    simp [e1, go_sem, he w]
    exact hK _ _ h
theorem wpList_neq (hw : Region.wanted o (yielded ops a.tmps) = true) (ty t : TypeId) (x y : Operand) (ho : o.op = .binOp .neq ty x y t) (A B : Array Value) (hx : a.eval x = .agg A) (hy : a.eval y = .agg B) (b : Bool)
    (hG : P.eqGuardType P.depth ty = false) (he : ∀ W, (Op.equalIn 10000 ty (.agg A) (.agg B)).run P W = .ok b W) (h : wpList P ops Q rest (a.put o.dst (.bool (!b))) w) : wpList P ops Q (o :: rest) a w :=
  wpList_step fun K hK => by
    rw [if_pos hw]
    unfold Oper.wp execOp
    simp only [ho, hx, hy]
    have e1 : (eqGuard .neq ty x y (.agg A) (.agg B)).run P w = .ok () w := by
      unfold eqGuard
      simp [go_sem, hG]
    simp [e1, go_sem, he w]
    exact hK _ _ h
end

def fnOf : Fld → FuncId
  | .hash => 64
  | .chan => 70
  | .id => 66
  | .amount => 66
  | .expiry => 67
  | .number => 67
theorem enters64 : Enters Try.prog 64 := enters_of Try.func64 (by kernel_rfl) rfl
theorem enters66 : Enters Try.prog 66 := enters_of Try.func66 (by kernel_rfl) rfl
theorem enters67 : Enters Try.prog 67 := enters_of Try.func67 (by kernel_rfl) rfl
theorem enters70 : Enters Try.prog 70 := enters_of Try.func70 (by kernel_rfl) rfl
theorem enters_fn (f : Fld) : Enters Try.prog (fnOf f) := by
  cases f
  · exact enters70
  · exact enters66
  · exact enters66
  · exact enters64
  · exact enters67
  · exact enters67
def capsV : Value → Array Value
  | .func _ _ c => c
  | _ => #[]
theorem FV.shape {lo : Nat} {W : World} {f : Fld} {v : Value} (h : FV lo W f v) : v = .func (.func (fnOf f)) #[] (capsV v) := by
  cases f
  all_goals first
    | (obtain ⟨a, b, rfl, _⟩ := h; rfl)
    | (have h' : v = _ := h; rw [h']; rfl)
/-- a pass through a list of fields, out of what it does at each -/
theorem through_list {b lo : Nat} (p1 p2 : Option Addr) (fl : List Fld) (h8 : fl.length ≤ 8) (v : Value) (W : World) (hFL : FL lo W v fl) (hlo : lo ≤ W.heap.size) (St : Nat → World → Prop) (Bd : Ending → World → Prop) (h0 : St 0 W)
    (hsame : ∀ k X X', St k X → Below X.heap.size X X' → St k X')
    (step : ∀ k f, fl[k]? = some f → ∀ X u, FV lo X f u → St k X → Calls Try.prog (fnOf f) (#[.agg #[.pointer p1, .pointer p2], .pointer (some ⟨b, 0, none⟩)] ++ capsV u) X fun e X' => (e = .returned (.tuple #[]) ∧ St (k + 1) X' ∧ Kp lo X X') ∨ (Bd e X' ∧ ∃ c, e = .panicked c)) :
    Calls Try.prog 48 #[.agg #[.pointer p1, .pointer p2], v, .pointer (some ⟨b, 0, none⟩)] W fun e W' => (e = .returned (.tuple #[]) ∧ St fl.length W') ∨ (Bd e W' ∧ ∃ c, e = .panicked c) := by
  obtain ⟨g, cap, C, rfl, hg, hr, hf⟩ := hFL
  have key := through_any (b := b) (g := g) (n := fl.length) (cap := cap) (lo := lo) p1 p2 (fun k => match fl[k]? with | some f => fnOf f | none => 64) (fun k => match C[k]? with | some u => capsV u | none => #[])
    (fun k X => St k X ∧ M.RowAt X g 94 C ∧ ∀ (i : Nat) (f : Fld), fl[i]? = some f → ∃ u, C[i]? = some u ∧ FV lo X f u) Bd h8
    (fun k hk => by
      rw [List.getElem?_eq_getElem hk]; exact enters_fn _)
    (fun k X hk hst => by
      obtain ⟨u, hu, hv⟩ := hst.2.2 k _ (List.getElem?_eq_getElem hk)
      rw [hst.2.1.cell]
      simp only [hu, List.getElem?_eq_getElem hk]
      exact congrArg some hv.shape)
    (fun k X X' hst hb => ⟨hsame k X X' hst.1 hb, hst.2.1.call hb, fun i f hi => by
      obtain ⟨u, hu, hv⟩ := hst.2.2 i f hi
      exact ⟨u, hu, hv.kept (Kp.of_below hb)⟩⟩)
    (fun k hk X hst => by
      obtain ⟨u, hu, hv⟩ := hst.2.2 k _ (List.getElem?_eq_getElem hk)
      simp only [hu, List.getElem?_eq_getElem hk]
      refine (step k _ (List.getElem?_eq_getElem hk) X u hv hst.1).mono ?_
      rintro e X' (⟨rfl, h1, h2⟩ | h)
      · exact .inl ⟨rfl, ⟨h1, h2 _ _ _ rfl hg hst.2.1, fun i f hi => by
          obtain ⟨u', hu', hv'⟩ := hst.2.2 i f hi
          exact ⟨u', hu', hv'.kept h2⟩⟩, h2⟩
      · exact .inr h)
    W ⟨h0, hr, hf⟩ hlo
  refine key.mono ?_
  rintro e W' (⟨rfl, h1⟩ | h)
  · exact .inl ⟨rfl, h1.1⟩
  · exact .inr h
def zeroAll (m : Msg) (fl : List Fld) : Msg := fl.foldl Msg.zero m
theorem zero_len (m : Msg) (h : m.hash.length = 32) : ∀ fl, (zeroAll m fl).hash.length = 32 := by
  intro fl
  induction fl generalizing m with
  | nil => exact h
  | cons f r ih => exact ih _ (Msg.zero32 h f)
theorem zero_take {fl : List Fld} {k : Nat} {f : Fld} (h : fl[k]? = some f) (m : Msg) : zeroAll m (fl.take (k + 1)) = (zeroAll m (fl.take k)).zero f := by
  rw [List.take_add_one, h]; simp [zeroAll, List.foldl_append]
theorem zero_step {lo b : Nat} {f : Fld} {u : Value} {X : World} (h : FV lo X f u) (m : Msg) (h32 : m.hash.length = 32) (rb : M.RowAt X b 62 m.row) :
    Calls Try.prog (fnOf f) (#[.agg #[.pointer none, .pointer none], .pointer (some ⟨b, 0, none⟩)] ++ capsV u) X (Did b (m.zero f).row X) := by
  cases f
  · obtain ⟨a, c, rfl, _, _, ra, _⟩ := h; exact z_chan m h32 a c b X ra rb
  · obtain ⟨a, c, rfl, _, _, ra, _⟩ := h; exact z_id m h32 a c b X ra rb
  · obtain ⟨a, c, rfl, _, _, ra, _⟩ := h; exact z_amount m h32 a c b X ra rb
  · have h' : u = .func (.func 64) #[] #[] := h
    subst h'
    exact z_hash m h32 b X rb
  · obtain ⟨a, c, rfl, _, _, ra, _⟩ := h; exact z_expiry m h32 a c b X ra rb
  · obtain ⟨a, c, rfl, _, _, ra, _⟩ := h; exact z_number m h32 a c b X ra rb
theorem zero_through {b lo : Nat} (fl : List Fld) (h8 : fl.length ≤ 8) (v : Value) (W : World) (hFL : FL lo W v fl) (hlo : lo ≤ W.heap.size) (hb : b < lo) (m : Msg) (h32 : m.hash.length = 32) (rb : M.RowAt W b 62 m.row) :
    Calls Try.prog 48 #[.agg #[.pointer none, .pointer none], v, .pointer (some ⟨b, 0, none⟩)] W (Did b (zeroAll m fl).row W) := by
  refine (through_list (b := b) none none fl h8 v W hFL hlo (fun k X => M.RowAt X b 62 (zeroAll m (fl.take k)).row ∧ M.But b W X) (fun _ _ => False) ⟨rb, M.But.refl _ _⟩ (fun k X X' hst hbl => ⟨hst.1.call hbl, hst.2.trans (M.But.ofBelow b hbl)⟩) (fun k f hf X u hv hst => ?_)).mono ?_
  · refine (zero_step hv (zeroAll m (fl.take k)) (zero_len m h32 _) hst.1).mono ?_
    rintro e X' ⟨rfl, h1, h2⟩
    exact .inl ⟨rfl, ⟨by rw [zero_take hf]; exact h1, hst.2.trans h2⟩, Kp.of_but h2 hb⟩
  · rintro e W' (⟨rfl, h1, h2⟩ | ⟨h, _⟩)
    · rw [List.take_length] at h1
      exact ⟨rfl, h1, h2⟩
    · exact h.elim

/-- that a message may be -/
structure MayP (m : Msg) (fl : List Fld) : Prop where
  e0 : 0 ≤ m.expiry
  e1 : m.expiry ≤ 1073741824
  n0 : 0 ≤ m.number
  n1 : m.number ≤ 65535
  a1 : m.amount ≤ 1125899906842624
  z : zeroAll m fl = Msg.none m.kind
def May (m : Msg) : Prop := ∃ fl, fieldsOf m.kind = some fl ∧ MayP m fl
theorem fields_len {k : Int} {fl : List Fld} (h : fieldsOf k = some fl) : fl.length ≤ 8 := by
  unfold fieldsOf at h
  repeat' (split at h)
  all_goals first | (cases h; done) | (cases h; decide)
end Go.Proofs.Ytiilgkhndfnkgaa
