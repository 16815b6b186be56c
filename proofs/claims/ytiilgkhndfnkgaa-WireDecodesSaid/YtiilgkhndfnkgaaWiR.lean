/- A pass through a list of fields with a reader, and the steps of Decode; the conditions are that the blocks are known. -/
import Derived.Test.YtiilgkhndfnkgaaWiQ
namespace Go.Proofs.Ytiilgkhndfnkgaa
open Go.RowKit Go.Shelf
set_option linter.unusedVariables false

/-- a field is read -/
def rdF (m : Msg) (s : ByteArray) : Fld → Msg × ByteArray × Int
  | .chan => ({ m with chan := rdN s 4 }, rdS s 4, rdE s 4)
  | .id => ({ m with id := rdN s 8 }, rdS s 8, rdE s 8)
  | .amount => ({ m with amount := rdN s 8 }, rdS s 8, rdE s 8)
  | .hash => ({ m with hash := rhH s }, rhS s, rhE s)
  | .expiry => ({ m with expiry := rdN s 4 }, rdS s 4, rdE s 4)
  | .number => ({ m with number := rdN s 2 }, rdS s 2, rdE s 2)
def rd1 (q : Msg × ByteArray) (f : Fld) : Option (Msg × ByteArray) := if (rdF q.1 q.2 f).2.2 = 0 then some ((rdF q.1 q.2 f).1, (rdF q.1 q.2 f).2.1) else none
def runs : Msg × ByteArray → List Fld → Option (Msg × ByteArray)
  | q, [] => some q
  | q, f :: r => (rd1 q f).bind fun q' => runs q' r
theorem runs_append : ∀ (a b : List Fld) (q : Msg × ByteArray), runs q (a ++ b) = (runs q a).bind fun q' => runs q' b
  | [], b, q => rfl
  | f :: r, b, q => by
    show (rd1 q f).bind (fun q' => runs q' (r ++ b)) = ((rd1 q f).bind fun q' => runs q' r).bind _
    cases rd1 q f with
    | none => rfl
    | some q' => exact runs_append r b q'
theorem runs_take {fl : List Fld} {k : Nat} {f : Fld} (h : fl[k]? = some f) (q : Msg × ByteArray) : runs q (fl.take (k + 1)) = (runs q (fl.take k)).bind fun q' => rd1 q' f := by
  rw [List.take_add_one, h, runs_append]
  show (runs q (fl.take k)).bind (fun q' => (rd1 q' f).bind fun q'' => some q'') = _
  cases runs q (fl.take k) with
  | none => rfl
  | some q' =>
    show (rd1 q' f).bind (fun q'' => some q'') = rd1 q' f
    cases rd1 q' f <;> rfl
theorem runs_stop {fl : List Fld} {k : Nat} {f : Fld} {q q' : Msg × ByteArray} (h : fl[k]? = some f) (h1 : runs q (fl.take k) = some q') (h2 : rd1 q' f = none) : runs q fl = none := by
  rw [← List.take_append_drop (k + 1) fl, runs_append, runs_take h, h1]
  show (rd1 q' f).bind _ = none
  rw [h2]; rfl
theorem rdS_le' (s : ByteArray) (wd : Int) : (rdS s wd).size ≤ s.size := by
  unfold rdS
  split
  · exact Nat.le_refl _
  · rw [ByteArray.size_extract]; omega
theorem rhS_le' (s : ByteArray) : (rhS s).size ≤ s.size := by
  unfold rhS
  split
  · exact Nat.le_refl _
  · rw [ByteArray.size_extract]; omega
theorem rdF_le (m : Msg) (s : ByteArray) (f : Fld) : (rdF m s f).2.1.size ≤ s.size := by
  cases f
  · exact rdS_le' _ _
  · exact rdS_le' _ _
  · exact rdS_le' _ _
  · exact rhS_le' _
  · exact rdS_le' _ _
  · exact rdS_le' _ _
theorem rhH_ok (s : ByteArray) : (rhH s).length = 32 ∧ ∀ x ∈ rhH s, 0 ≤ x ∧ x ≤ 255 := by
  unfold rhH
  by_cases h : s.size < 32
  · rw [if_pos h]; exact ⟨rfl, fun x hx => by have : x = 0 := List.eq_of_mem_replicate hx; omega⟩
  · rw [if_neg h]
    unfold bytesOf
    have h' : ¬ s.data.size < 32 := h
    refine ⟨?_, fun x hx => ?_⟩
    · rw [List.length_map, Array.length_toList, ByteArray.data_extract, Array.size_extract]; omega
    · obtain ⟨u, _, rfl⟩ := List.mem_map.1 hx
      have := u.toNat_lt
      omega
theorem rdF_ok {m : Msg} (h : m.ok) (s : ByteArray) (f : Fld) : (rdF m s f).1.ok := by
  obtain ⟨a0, a1, a2, a3, a4, a5, a6, a7, a8, a9, b0, b1, b2, b3⟩ := h
  have p8 := rdN_nonneg s 8; have p4 := rdN_nonneg s 4; have p2 := rdN_nonneg s 2
  have q8 : rdN s 8 < 18446744073709551616 := rdN_lt s 8
  have q4 : rdN s 4 < 4294967296 := rdN_lt s 4
  have q2 : rdN s 2 < 65536 := rdN_lt s 2
  obtain ⟨t1, t2⟩ := rhH_ok s
  cases f
  · exact ⟨a0, a1, a2, a3, p4, by show rdN s 4 ≤ _; omega, a6, a7, a8, a9, b0, b1, b2, b3⟩
  · exact ⟨a0, a1, a2, a3, a4, a5, p8, by show rdN s 8 ≤ _; omega, a8, a9, b0, b1, b2, b3⟩
  · exact ⟨a0, a1, a2, a3, a4, a5, a6, a7, p8, by show rdN s 8 ≤ _; omega, b0, b1, b2, b3⟩
  · exact ⟨t1, t2, a2, a3, a4, a5, a6, a7, a8, a9, b0, b1, b2, b3⟩
  · exact ⟨a0, a1, a2, a3, a4, a5, a6, a7, a8, a9, by show _ ≤ rdN s 4; omega, by show rdN s 4 ≤ _; omega, b2, b3⟩
  · exact ⟨a0, a1, a2, a3, a4, a5, a6, a7, a8, a9, b0, b1, by show _ ≤ rdN s 2; omega, by show rdN s 2 ≤ _; omega⟩
theorem rdF_err (m : Msg) (s : ByteArray) (f : Fld) : (rdF m s f).2.2 = 0 ∨ (rdF m s f).2.2 = 10 := by
  have two := fun (wd : Int) (h1 : 1 ≤ wd) (h8 : wd ≤ 8) => rdE_two (s := s) h1 h8
  cases f
  · rcases two 4 (by decide) (by decide) with ⟨e, _⟩ | ⟨e, _⟩
    · exact .inl e
    · exact .inr e
  · rcases two 8 (by decide) (by decide) with ⟨e, _⟩ | ⟨e, _⟩
    · exact .inl e
    · exact .inr e
  · rcases two 8 (by decide) (by decide) with ⟨e, _⟩ | ⟨e, _⟩
    · exact .inl e
    · exact .inr e
  · show rhE s = 0 ∨ rhE s = 10
    unfold rhE
    by_cases h : s.size < 32
    · rw [if_pos h]; exact .inr rfl
    · rw [if_neg h]; exact .inl rfl
  · rcases two 4 (by decide) (by decide) with ⟨e, _⟩ | ⟨e, _⟩
    · exact .inl e
    · exact .inr e
  · rcases two 2 (by decide) (by decide) with ⟨e, _⟩ | ⟨e, _⟩
    · exact .inl e
    · exact .inr e
theorem types_ne {X : World} {a p : Nat} {ta tp : TypeId} {A P : Array Value} (h : M.RowAt X a ta A) (h' : M.RowAt X p tp P) (ht : ta ≠ tp) : a ≠ p := fun e => by
  subst e
  have e2 := Option.some.inj (Eq.trans (Eq.symm h) h')
  have e3 : ta = tp := by injection e2
  exact ht e3
theorem r_step {lo b p : Nat} {f : Fld} {u : Value} {X : World} (h : FV lo X f u) (m : Msg) (h32 : m.hash.length = 32) (s : ByteArray) (hs : s.size ≤ 100000) (rb : M.RowAt X b 62 m.row) (rp : M.RowAt X p 77 #[.string s]) (hpb : p ≠ b) :
    Calls Try.prog (fnOf f) (#[.agg #[.pointer none, .pointer (some ⟨p, 0, none⟩)], .pointer (some ⟨b, 0, none⟩)] ++ capsV u) X (DidR b p m.row (rdF m s f).1.row (rdF m s f).2.1 (rdF m s f).2.2 X) := by
  cases f
  · obtain ⟨a, c, rfl, _, _, ra, rc⟩ := h; exact r_chan m h32 a c b p s hs X ra rc rb rp hpb (types_ne rc rp (by decide))
  · obtain ⟨a, c, rfl, _, _, ra, rc⟩ := h; exact r_id m h32 a c b p s hs X ra rc rb rp hpb (types_ne rc rp (by decide))
  · obtain ⟨a, c, rfl, _, _, ra, rc⟩ := h; exact r_amount m h32 a c b p s hs X ra rc rb rp hpb (types_ne rc rp (by decide))
  · have h' : u = .func (.func 64) #[] #[] := h
    subst h'
    exact r_hash m h32 b p s hs X rb rp hpb
  · obtain ⟨a, c, rfl, _, _, ra, rc⟩ := h; exact r_expiry m h32 a c b p s hs X ra rc rb rp hpb (types_ne rc rp (by decide))
  · obtain ⟨a, c, rfl, _, _, ra, rc⟩ := h; exact r_number m h32 a c b p s hs X ra rc rb rp hpb (types_ne rc rp (by decide))
/-- what a pass with a reader leaves -/
def Red (b p : Nat) (q q' : Msg × ByteArray) (W X : World) : Prop := M.RowAt X b 62 q'.1.row ∧ M.RowAt X p 77 #[.string q'.2] ∧ B2 b p W X ∧ q'.1.ok ∧ q'.2.size ≤ q.2.size
theorem r_through {b p lo : Nat} (fl : List Fld) (h8 : fl.length ≤ 8) (v : Value) (W : World) (hFL : FL lo W v fl) (hlo : lo ≤ W.heap.size) (hpb : p ≠ b) (q : Msg × ByteArray) (ho : q.1.ok) (hs : q.2.size ≤ 100000) (rb : M.RowAt W b 62 q.1.row) (rp : M.RowAt W p 77 #[.string q.2]) :
    Calls Try.prog 48 #[.agg #[.pointer none, .pointer (some ⟨p, 0, none⟩)], v, .pointer (some ⟨b, 0, none⟩)] W fun e W' =>
      (e = .returned (.tuple #[]) ∧ ∃ q', runs q fl = some q' ∧ Red b p q q' W W') ∨ (e = .panicked [flt 10] ∧ runs q fl = none ∧ B2 b p W W') := by
  refine (through_list (b := b) none (some ⟨p, 0, none⟩) fl h8 v W hFL hlo (fun k X => ∃ q', runs q (fl.take k) = some q' ∧ Red b p q q' W X) (fun e X => e = .panicked [flt 10] ∧ runs q fl = none ∧ B2 b p W X) ⟨q, rfl, rb, rp, B2.refl _ _ _, ho, Nat.le_refl _⟩
    (fun k X X' hst hbl => ?_) (fun k f hf X u hv hst => ?_)).mono ?_
  · obtain ⟨q', h1, h2, h3, h4, h5, h6⟩ := hst
    exact ⟨q', h1, h2.call hbl, h3.call hbl, h4.trans ⟨hbl.os, hbl.tape, hbl.output, hbl.size, fun k hk _ _ => hbl.block k hk⟩, h5, h6⟩
  · obtain ⟨q', h1, h2, h3, h4, h5, h6⟩ := hst
    refine (r_step hv q'.1 h5.h32 q'.2 (by omega) h2 h3 hpb).mono ?_
    rintro e X' (⟨e0, rfl, g1, g2, g3⟩ | ⟨e0, rfl, g1, g3⟩)
    · refine .inl ⟨rfl, ⟨((rdF q'.1 q'.2 f).1, (rdF q'.1 q'.2 f).2.1), ?_, g1, g2, h4.trans g3, rdF_ok h5 _ _, Nat.le_trans (rdF_le _ _ _) h6⟩, g3.kp h2 h3 rfl rfl⟩
      rw [runs_take hf, h1]
      show rd1 q' f = _
      unfold rd1; rw [if_pos e0]
    · have e10 : (rdF q'.1 q'.2 f).2.2 = 10 := by
        rcases rdF_err q'.1 q'.2 f with h | h
        · rw [h] at e0; cases e0
        · exact h
      refine .inr ⟨⟨by rw [e10], runs_stop hf h1 ?_, h4.trans g3⟩, _, rfl⟩
      unfold rd1; rw [if_neg (by rw [e10]; decide)]
  · rintro e W' (⟨rfl, q', h1, h2⟩ | ⟨h, _⟩)
    · rw [List.take_length] at h1
      exact .inl ⟨rfl, q', h1, h2⟩
    · exact .inr h
end Go.Proofs.Ytiilgkhndfnkgaa
