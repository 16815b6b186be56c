/- What the htlc package and its reference compute, as plain Lean functions on integers, and the facts on them that the six laws need; no conditions. -/
namespace Go.Proofs.YtpgghhdieekncaaDoor.Pl

/-- the event that takes state k on -/
def evt : Bool → Nat → Int
  | true, k => ([1, 2, 3, 4, 0, 3, 4, 1, 2, 0] : List Int).getD k 0
  | false, k => ([3, 4, 1, 2, 0, 1, 2, 3, 4, 0] : List Int).getD k 0

def nxt (own : Bool) (s e : Int) : Int := if (0 ≤ s ∧ s ≤ 9) ∧ e ≠ 0 ∧ evt own s.toNat = e then s + 1 else s

def lo (own : Bool) : Int := if own then 3 else 1
def hi (own : Bool) : Int := if own then 5 else 7
def ours (own : Bool) (s : Int) : Bool := decide (lo own ≤ s) && decide (s ≤ hi own)
def above (own : Bool) (s : Int) : Bool := (decide (0 ≤ s) && decide (s ≤ 9)) && decide (hi own < s)
def may (s : Int) : Bool := decide (0 ≤ s) && decide (s ≤ 9)

theorem nxt_out {own : Bool} {s e : Int} (h : s < 0 ∨ 9 < s) : nxt own s e = s := by
  unfold nxt; rw [if_neg]; omega
theorem nxt_zero {own : Bool} {s : Int} : nxt own s 0 = s := by
  unfold nxt; rw [if_neg]; simp
theorem nxt_stay {own : Bool} {s e : Int} (h : evt own s.toNat ≠ e) : nxt own s e = s := by
  unfold nxt; rw [if_neg]; exact fun h' => h h'.2.2
theorem nxt_go {own : Bool} {s e : Int} (h0 : 0 ≤ s) (h1 : s ≤ 9) (he : e ≠ 0) (h : evt own s.toNat = e) : nxt own s e = s + 1 := by
  unfold nxt; rw [if_pos ⟨⟨h0, h1⟩, he, h⟩]
theorem nxt_cases (own : Bool) (s e : Int) : nxt own s e = s ∨ nxt own s e = s + 1 := by
  unfold nxt; split <;> simp
theorem evt_4 (own : Bool) : evt own 4 = 0 := by cases own <;> rfl
theorem evt_9 (own : Bool) : evt own 9 = 0 := by cases own <;> rfl
theorem nxt_4 (own : Bool) (e : Int) : nxt own 4 e = 4 := by
  unfold nxt; rw [if_neg]; rintro ⟨_, h, h'⟩; exact h (h'.symm.trans (evt_4 own))
theorem nxt_9 (own : Bool) (e : Int) : nxt own 9 e = 9 := by
  unfold nxt; rw [if_neg]; rintro ⟨_, h, h'⟩; exact h (h'.symm.trans (evt_9 own))
theorem nxt_ge (own : Bool) (s e : Int) (h : 0 ≤ s) : 0 ≤ nxt own s e := by
  rcases nxt_cases own s e with h | h <;> omega
theorem nxt_le (own : Bool) (s e : Int) (h : s ≤ 9) : nxt own s e ≤ 9 := by
  by_cases h9 : s = 9
  · subst h9; rw [nxt_9]; omega
  · rcases nxt_cases own s e with h | h <;> omega

/-- the reference's next state -/
theorem states {s : Int} (h0 : 0 ≤ s) (h1 : s ≤ 9) : s = 0 ∨ s = 1 ∨ s = 2 ∨ s = 3 ∨ s = 4 ∨ s = 5 ∨ s = 6 ∨ s = 7 ∨ s = 8 ∨ s = 9 := by omega

/-- where the events 1, 2, 3, 4 in turn have brought it from 0 -/
def pos (own : Bool) : Nat → Int
  | 0 => 0
  | k + 1 => nxt own (pos own k) (1 + ((k % 4 : Nat) : Int))
theorem pos_8 (own : Bool) : pos own 8 = 4 := by cases own <;> decide
theorem pos_in (own : Bool) (k : Nat) : 0 ≤ pos own k ∧ pos own k ≤ 9 := by
  induction k with
  | zero => simp [pos]
  | succ k ih => exact ⟨nxt_ge _ _ _ ih.1, nxt_le _ _ _ ih.2⟩

/-- where the events in turn, from the turn-th on, have brought it from 5 -/
def pos5 (own : Bool) (t : Nat) : Nat → Int
  | 0 => 5
  | k + 1 => nxt own (pos5 own t k) (1 + (((t + k) % 4 : Nat) : Int))
theorem pos5_mod (own : Bool) (t k : Nat) : pos5 own t k = pos5 own (t % 4) k := by
  induction k with
  | zero => rfl
  | succ k ih => simp only [pos5]; rw [ih, show (t + k) % 4 = (t % 4 + k) % 4 by omega]
theorem pos5_16 (own : Bool) (t : Nat) : pos5 own t 16 = 9 := by
  rw [pos5_mod]
  have : t % 4 = 0 ∨ t % 4 = 1 ∨ t % 4 = 2 ∨ t % 4 = 3 := by omega
  rcases this with h | h | h | h <;> rw [h] <;> cases own <;> decide
theorem pos5_in (own : Bool) (t k : Nat) : 0 ≤ pos5 own t k ∧ pos5 own t k ≤ 9 := by
  induction k with
  | zero => simp [pos5]
  | succ k ih => exact ⟨nxt_ge _ _ _ ih.1, nxt_le _ _ _ ih.2⟩

/-- how often a commitment has turned when the state is s -/
def turned (own : Bool) (s : Int) : Int := if s < lo own then 0 else if s ≤ hi own then 1 else 2
theorem turned_0 (own : Bool) : turned own 0 = 0 := by cases own <;> decide
theorem turned_le (own : Bool) (s : Int) : 0 ≤ turned own s ∧ turned own s ≤ 2 := by
  unfold turned; split
  · omega
  · split <;> omega
theorem turned_ge (own : Bool) (s : Int) (h : 4 ≤ s) : 1 ≤ turned own s := by
  cases own <;> (simp only [turned, lo, hi]; simp; split <;> (try split) <;> omega)
theorem ours_45 (own : Bool) : ours own 4 = ours own 5 := by cases own <;> decide
theorem turned_45 (own : Bool) : turned own 4 = turned own 5 := by cases own <;> decide
theorem ours_iff (own : Bool) (s : Int) : ours own s = decide (turned own s = 1) := by
  cases own <;> (rw [Bool.eq_iff_iff]; simp only [ours, turned, lo, hi, Bool.and_eq_true, decide_eq_true_eq]; simp; split <;> (try split) <;> omega)
theorem turned_step (own : Bool) (s : Int) (h : ours own (s + 1) ≠ ours own s) : turned own (s + 1) = turned own s + 1 := by
  rw [ours_iff, ours_iff] at h
  cases own <;> (simp only [turned, lo, hi] at *; revert h; simp; split <;> split <;> (try split) <;> (try split) <;> intros <;> first | omega | simp_all)
theorem turned_same (own : Bool) (s : Int) (h : ours own (s + 1) = ours own s) : turned own (s + 1) = turned own s := by
  rw [ours_iff, ours_iff] at h
  cases own <;> (simp only [turned, lo, hi] at *; revert h; simp; split <;> split <;> (try split) <;> (try split) <;> intros <;> first | omega | simp_all)

end Go.Proofs.YtpgghhdieekncaaDoor.Pl
