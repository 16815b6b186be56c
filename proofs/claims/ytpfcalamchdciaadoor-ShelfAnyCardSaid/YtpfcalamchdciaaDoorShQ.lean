/- Plain words for ShelfAll: which number each place has after k numbers down from x; no conditions. -/
import Derived.Test.YtpfcalamchdciaaDoorShO
import Derived.Test.YtpfcalamchdciaaDoorShT
import Derived.Test.YtpfcalamchdciaaDoorShH
namespace Go.Proofs.YtpfcalamchdciaaDoor
open Go.RowKit
set_option linter.unusedVariables false

theorem pl_up {x : Nat} (hx : x < 65536) (hq : Sc.pl x < 16) (h : x + 2 ^ Sc.pl x < 65536) : Sc.pl x < Sc.pl (x + 2 ^ Sc.pl x) := by
  apply Nat.lt_of_not_le
  intro hle
  obtain ⟨k, hk, _⟩ := Sc.pl_spec hx
  have hodd := pl_top hx hq
  have hd : x / 2 ^ Sc.pl x = k := by
    have e : x / 2 ^ Sc.pl x = (2 ^ Sc.pl x * k) / 2 ^ Sc.pl x := by rw [← hk]
    rw [Nat.mul_div_cancel_left _ (Nat.two_pow_pos _)] at e
    exact e
  rw [hd] at hodd
  have ht := pl_top h (by omega)
  have e : x + 2 ^ Sc.pl x = 2 ^ Sc.pl x * (k + 1) := by rw [Nat.mul_add, Nat.mul_one, ← hk]
  obtain ⟨d, hdd⟩ : ∃ d, Sc.pl x = Sc.pl (x + 2 ^ Sc.pl x) + d := ⟨Sc.pl x - Sc.pl (x + 2 ^ Sc.pl x), by omega⟩
  generalize Sc.pl (x + 2 ^ Sc.pl x) = p' at *
  rw [e, hdd, Nat.pow_add, Nat.mul_assoc, Nat.mul_div_cancel_left _ (Nat.two_pow_pos _)] at ht
  rw [Nat.mul_mod] at ht
  have : (k + 1) % 2 = 0 := by omega
  rw [this] at ht
  simp at ht
theorem max_to (P : Nat → Prop) : ∀ N q, q ≤ N → P q → ∃ m, m ≤ N ∧ P m ∧ ∀ m', m' ≤ N → m < m' → ¬ P m'
  | 0, q, hq, h => ⟨0, Nat.le_refl _, by rw [Nat.le_zero.1 hq] at h; exact h, fun m' h1 h2 => by omega⟩
  | N + 1, q, hq, h => by
    by_cases hP : P (N + 1)
    · exact ⟨N + 1, Nat.le_refl _, hP, fun m' h1 h2 => by omega⟩
    · have hq' : q ≤ N := by
        rcases Nat.lt_or_ge q (N + 1) with h1 | h1
        · omega
        · exact absurd ((show q = N + 1 by omega) ▸ h) hP
      obtain ⟨m, h1, h2, h3⟩ := max_to P N q hq' h
      exact ⟨m, by omega, h2, fun m' h4 h5 h6 => by
        by_cases e : m' = N + 1
        · subst e; exact hP h6
        · exact h3 m' (by omega) h5 h6⟩
/-- of the numbers from a to z one has the greatest place, is the least of its place, and can tell z -/
theorem teller {a z : Nat} (h : a ≤ z) (hz : z < 65536) : ∃ u, a ≤ u ∧ u ≤ z ∧ can (u : Int) (z : Int) = true ∧ ∀ v, a ≤ v → v < u → Sc.pl v ≠ Sc.pl u := by
  obtain ⟨q, _, ⟨u, h1, h2, hq⟩, hmax⟩ := max_to (fun q => ∃ u, a ≤ u ∧ u ≤ z ∧ Sc.pl u = q) 16 (Sc.pl z) (Sc.pl_le z) ⟨z, h, Nat.le_refl _, rfl⟩
  have big : ∀ v, a ≤ v → v ≤ z → Sc.pl v = q → v + 2 ^ q ≤ z → False := by
    intro v v1 v2 v3 v4
    by_cases h16 : q < 16
    · have hp := pl_up (x := v) (by omega) (by rw [v3]; exact h16) (by rw [v3]; omega)
      rw [v3] at hp
      exact hmax (Sc.pl (v + 2 ^ q)) (Sc.pl_le _) hp ⟨v + 2 ^ q, Nat.le_trans v1 (Nat.le_add_right _ _), v4, rfl⟩
    · have h17 : q = 16 := by have := Sc.pl_le v; omega
      subst h17
      have : (2 : Nat) ^ 16 = 65536 := by decide
      omega
  obtain ⟨k, hk, _⟩ := Sc.pl_spec (x := u) (by omega)
  rw [hq] at hk
  refine ⟨u, h1, h2, ?_, ?_⟩
  · rw [can_iff (by omega) hz, hq]
    have hlt : z < u + 2 ^ q := Nat.lt_of_not_le fun hle => big u h1 h2 hq hle
    have e1 : u / 2 ^ q = k := by
      have e : u / 2 ^ q = (2 ^ q * k) / 2 ^ q := by rw [← hk]
      rw [Nat.mul_div_cancel_left _ (Nat.two_pow_pos _)] at e
      exact e
    rw [e1]
    symm
    apply Nat.div_eq_of_lt_le
    · rw [Nat.mul_comm, ← hk]; exact h2
    · rw [Nat.mul_comm, Nat.mul_add, ← hk, Nat.mul_one]; exact hlt
  · intro v v1 v2 v3
    rw [hq] at v3
    obtain ⟨j, hj, _⟩ := Sc.pl_spec (x := v) (by omega)
    rw [v3] at hj
    refine big v v1 (by omega) v3 ?_
    have hjk : j < k := by
      apply Nat.lt_of_not_le
      intro hle
      have := Nat.mul_le_mul_left (2 ^ q) hle
      omega
    have := Nat.mul_le_mul_left (2 ^ q) (Nat.succ_le_of_lt hjk)
    rw [Nat.succ_eq_add_one, Nat.mul_add, Nat.mul_one] at this
    omega
/-- the least number of a place that came is what the place has -/
theorem ej_at (F : Nat → Nat) {x y : Nat} : ∀ k, k ≤ x + 1 → x + 1 ≤ y + k → y ≤ x → (∀ v, x + 1 ≤ v + k → v < y → Sc.pl v ≠ Sc.pl y) → Ej F x k (Sc.pl y) = ent F y
  | 0, _, h, h2, _ => by omega
  | k + 1, hk, h, h2, hv => by
    show putE (Ej F x k) (Sc.pl (x - k)) (ent F (x - k)) (Sc.pl y) = ent F y
    unfold putE
    by_cases e : y = x - k
    · rw [e, if_pos rfl]
    · rw [if_neg (fun e2 => hv (x - k) (by omega) (by omega) e2.symm)]
      exact ej_at F k (by omega) (by omega) h2 (fun v h3 h4 => hv v (by omega) h4)
theorem ej_full (F : Nat → Nat) {x b : Nat} : ∀ k, k ≤ x + 1 → (Ej F x k b).full = true → ∃ y, x + 1 ≤ y + k ∧ y ≤ x ∧ Ej F x k b = ent F y
  | 0, _, h => by cases h
  | k + 1, hk, h => by
    have e0 : Ej F x (k + 1) b = if b = Sc.pl (x - k) then ent F (x - k) else Ej F x k b := rfl
    rw [e0] at h ⊢
    by_cases e : b = Sc.pl (x - k)
    · rw [if_pos e]; exact ⟨x - k, by omega, by omega, rfl⟩
    · rw [if_neg e] at h ⊢
      obtain ⟨y, h1, h2, h3⟩ := ej_full F k (by omega) h
      exact ⟨y, by omega, h2, h3⟩

theorem low_ex {E : Nat → Ent} {f : Ent → Bool} {p b : Nat} (hb : b < p) (h : ((E b).full && f (E b)) = true) : ∃ k, low E f p = some k := by
  cases e : low E f p with
  | some k => exact ⟨k, rfl⟩
  | none =>
    unfold low at e
    rw [List.find?_eq_none] at e
    exact absurd h (e b (List.mem_range.2 hb))
theorem lkF_eq (i : Int) (e : Ent) : lkF i e = can e.num i := by unfold lkF; rfl
theorem look_yes {F : Nat → Nat} {E : Nat → Ent} (hg : Good F E) {z b : Nat} (hz : z < 65536) (hb : b < 17) (hf : (E b).full = true) (hc : can (E b).num (z : Int) = true) :
    lkE E (z : Int) = 0 ∧ lkH E (z : Int) = walkH F z 16 := by
  obtain ⟨k, hk⟩ := low_ex (E := E) (f := lkF (z : Int)) (p := 17) hb (by rw [lkF_eq, hf, hc]; rfl)
  obtain ⟨_, h2, h3⟩ := low_lt hk
  obtain ⟨y, hy, e, _⟩ := hg k h2
  rw [lkF_eq, e, ent_num] at h3
  have eB : lkB E (z : Int) = true := by unfold lkB lowB; rw [hk]; rfl
  have eV : lkV E (z : Int) = ent F y := by unfold lkV; rw [lowV_some hk]; exact e
  have e1 : lkE E (z : Int) = drE (y : Int) (z : Int) := by unfold lkE; rw [eB, eV, ent_num]; simp only [if_true]
  have e2 : lkH E (z : Int) = drH (walkH F y 16) (y : Int) (z : Int) := by unfold lkH; rw [eB, eV, ent_num, ent_told]; simp only [if_true]
  refine ⟨?_, ?_⟩
  · rw [e1]; unfold drE; rw [h3]; rfl
  · rw [e2]; exact dr_can hy hz h3 F
theorem look_no {E : Nat → Ent} {i : Int} (h : ∀ b, b < 17 → (E b).full = true → can (E b).num i = false) : lkB E i = false ∧ lkE E i = 3 := by
  have eB : lkB E i = false := by
    unfold lkB lowB
    rw [low_none (fun b hb => by
      cases hf : (E b).full
      · rfl
      · rw [lkF_eq, h b hb hf]; rfl)]
    rfl
  refine ⟨eB, ?_⟩
  unfold lkE; rw [eB]; rfl
/-- of a shelf of one seed: Lookup tells it or says that there is none -/
theorem look_any {F : Nat → Nat} {E : Nat → Ent} (hg : Good F E) {z : Nat} (hz : z < 65536) : (lkE E (z : Int) = 0 ∧ lkH E (z : Int) = walkH F z 16) ∨ (lkB E (z : Int) = false ∧ lkE E (z : Int) = 3) := by
  by_cases h : ∃ b, b < 17 ∧ (E b).full = true ∧ can (E b).num (z : Int) = true
  · obtain ⟨b, h1, h2, h3⟩ := h
    exact .inl (look_yes hg hz h1 h2 h3)
  · refine .inr (look_no fun b h1 h2 => ?_)
    cases hc : can (E b).num (z : Int)
    · rfl
    · exact absurd ⟨b, h1, h2, hc⟩ h
theorem lkH_no {E : Nat → Ent} {i : Int} (h : lkB E i = false) : lkH E i = fun _ => 0 := by unfold lkH; rw [h]; rfl
section
variable (F : Nat → Nat) {x m : Nat}
theorem all_yes (hx : x < 65536) (hm : m ≤ x + 1) {z : Nat} (h1 : x + 1 ≤ z + m) (h2 : z ≤ x) : lkE (Ej F x m) (z : Int) = 0 ∧ lkH (Ej F x m) (z : Int) = walkH F z 16 := by
  obtain ⟨u, u1, u2, hc, hv⟩ := teller (a := x + 1 - m) (z := z) (by omega) (by omega)
  have e := ej_at F (x := x) (y := u) m hm (by omega) (by omega) (fun v h3 h4 => hv v (by omega) h4)
  exact look_yes (ej_good F hx m) (b := Sc.pl u) (by omega) (Nat.lt_succ_of_le (Sc.pl_le u)) (by rw [e]; exact ent_full F u) (by rw [e, ent_num]; exact hc)
theorem can_le {a b : Nat} (ha : a < 65536) (hb : b < 65536) (h : can (a : Int) (b : Int) = true) : a ≤ b := by
  have h1 := (can_iff ha hb).1 h
  obtain ⟨k, hk, _⟩ := Sc.pl_spec ha
  have e : a / 2 ^ Sc.pl a = k := by
    have e : a / 2 ^ Sc.pl a = (2 ^ Sc.pl a * k) / 2 ^ Sc.pl a := by rw [← hk]
    rw [Nat.mul_div_cancel_left _ (Nat.two_pow_pos _)] at e
    exact e
  have h2 := Nat.mul_div_le b (2 ^ Sc.pl a)
  rw [← h1, e, ← hk] at h2
  exact h2
theorem all_no (hx : x < 65536) (hm : m ≤ x + 1) : lkB (Ej F x m) ((x : Int) - (m : Int)) = false ∧ lkE (Ej F x m) ((x : Int) - (m : Int)) = 3 := by
  refine look_no fun b _ hf => ?_
  obtain ⟨y, h1, h2, e⟩ := ej_full F m hm hf
  rw [e, ent_num]
  cases hc : can (y : Int) ((x : Int) - (m : Int))
  · rfl
  · obtain ⟨a, c, ha, hc2, _, hc3⟩ := can_lt hc
    rw [hc2] at hc
    have := can_le (by omega) hc3 hc
    omega
end
theorem lst_succ (E : Nat → Ent) (k : Nat) : lst E (k + 1) = if (E k).full && (!(lst E k).2 || decide ((E k).num < (lst E k).1)) then ((E k).num, true) else lst E k := by rw [lst]
theorem lst_of (E : Nat → Ent) : ∀ k, (lst E k).2 = true → ∃ b, b < k ∧ (E b).full = true ∧ (E b).num = (lst E k).1
  | 0, h => by cases h
  | k + 1, h => by
    rw [lst_succ] at h ⊢
    by_cases hc : ((E k).full && (!(lst E k).2 || decide ((E k).num < (lst E k).1))) = true
    · rw [if_pos hc]
      rw [Bool.and_eq_true] at hc
      exact ⟨k, Nat.lt_succ_self k, hc.1, rfl⟩
    · rw [if_neg hc] at h ⊢
      obtain ⟨b, h1, h2, h3⟩ := lst_of E k h
      exact ⟨b, by omega, h2, h3⟩
theorem lst_le (E : Nat → Ent) : ∀ k b, b < k → (E b).full = true → (lst E k).2 = true ∧ (lst E k).1 ≤ (E b).num
  | 0, _, h, _ => by omega
  | k + 1, b, hb, hf => by
    rw [lst_succ]
    by_cases hc : ((E k).full && (!(lst E k).2 || decide ((E k).num < (lst E k).1))) = true
    · rw [if_pos hc]
      refine ⟨rfl, ?_⟩
      by_cases e : b = k
      · subst e; exact Int.le_refl _
      · obtain ⟨h1, h2⟩ := lst_le E k b (by omega) hf
        rw [h1] at hc
        simp only [Bool.and_eq_true, Bool.not_true, Bool.false_or, decide_eq_true_eq] at hc
        show (E k).num ≤ (E b).num
        omega
    · rw [if_neg hc]
      by_cases e : b = k
      · subst e
        rw [hf] at hc
        simp only [Bool.true_and, Bool.or_eq_true, Bool.not_eq_true', decide_eq_true_eq, not_or] at hc
        exact ⟨by simpa using hc.1, by omega⟩
      · exact lst_le E k b (by omega) hf
theorem all_least (F : Nat → Nat) {x m : Nat} (hx : x < 65536) (hm : m ≤ x + 1) (h1 : 1 ≤ m) : (lst (Ej F x m) 17).2 = true ∧ (lst (Ej F x m) 17).1 = (x : Int) - (m : Int) + 1 := by
  have e := ej_at F (x := x) (y := x + 1 - m) m hm (by omega) (by omega) (fun v h3 h4 => by omega)
  have hl := lst_le (Ej F x m) 17 (Sc.pl (x + 1 - m)) (Nat.lt_succ_of_le (Sc.pl_le _)) (by rw [e]; exact ent_full F _)
  rw [e, ent_num] at hl
  obtain ⟨b, _, hf, hn⟩ := lst_of (Ej F x m) 17 hl.1
  obtain ⟨y, h2, h3, e2⟩ := ej_full F m hm hf
  rw [e2, ent_num] at hn
  refine ⟨hl.1, ?_⟩
  have := hl.2
  omega
end Go.Proofs.YtpfcalamchdciaaDoor
