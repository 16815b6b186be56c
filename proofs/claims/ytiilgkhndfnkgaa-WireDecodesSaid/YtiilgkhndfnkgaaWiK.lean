/- The program and the reference agree on whether a message may be; the conditions are the types' own. -/
import Derived.Test.YtiilgkhndfnkgaaWiJ
namespace Go.Proofs.Ytiilgkhndfnkgaa
open Go.RowKit Go.Shelf
set_option linter.unusedVariables false

theorem kinds (k : Int) : k = 1 ∨ k = 2 ∨ k = 3 ∨ k = 4 ∨ k = 5 ∨ k = 6 ∨ k = 7 ∨ k = 8 ∨ k = 9 ∨ ¬ (1 ≤ k ∧ k ≤ 9) := by omega
theorem lets_out {k : Int} (h : ¬ (1 ≤ k ∧ k ≤ 9)) : lets k = ⟨#[]⟩ ∧ fieldsOf k = none := by
  unfold lets fieldsOf
  constructor
  · rw [if_neg (by omega), if_neg (by omega), if_neg (by omega), if_neg (by omega), if_neg (by omega), if_neg (by omega), if_neg (by omega)]
  · rw [if_neg (by omega), if_neg (by omega), if_neg (by omega), if_neg (by omega), if_neg (by omega), if_neg (by omega), if_neg (by omega), if_neg (by omega), if_neg (by omega)]
theorem lets_size (k : Int) : (lets k).size ≤ 4 := by
  unfold lets
  repeat' split
  all_goals decide
theorem combo_of (k : Int) : (has (lets k) 105, has (lets k) 97, has (lets k) 104, has (lets k) 101, has (lets k) 110) ∈ combo := by
  rcases kinds k with rfl | rfl | rfl | rfl | rfl | rfl | rfl | rfl | rfl | h
  all_goals first
    | decide
    | (rw [(lets_out h).1]; decide)
/-- what the reference asks -/
def RMay (m : Msg) : Prop := Rng m ∧ (has (lets m.kind) 105 = true ∨ m.id = 0) ∧ (has (lets m.kind) 97 = true ∨ m.amount = 0) ∧ (has (lets m.kind) 104 = true ∨ m.hash = z32) ∧ (has (lets m.kind) 101 = true ∨ m.expiry = 0) ∧ (has (lets m.kind) 110 = true ∨ m.number = 0)
theorem rmay_iff (m : Msg) : RMay m ↔ May m := by
  obtain ⟨k, c, i, a, h, e, n⟩ := m
  rcases kinds k with rfl | rfl | rfl | rfl | rfl | rfl | rfl | rfl | rfl | hk
  case inr.inr.inr.inr.inr.inr.inr.inr.inr =>
    constructor
    · rintro ⟨q, _⟩; exact absurd ⟨q.k0, q.k1⟩ hk
    · rintro ⟨fl, q, _⟩
      rw [(lets_out hk).2] at q; cases q
  all_goals
    constructor
    · rintro ⟨q, h1, h2, h3, h4, h5⟩
      refine ⟨_, rfl, ⟨q.e0, q.e1, q.n0, q.n1, q.a1, ?_⟩⟩
      simp only at h1 h2 h3 h4 h5
      have e1 := fun (b : Bool) (P : Prop) (hb : b = false) (hp : b = true ∨ P) => hp.resolve_left (by rw [hb]; decide)
      simp only [zeroAll, List.foldl, Msg.zero, Msg.none, Msg.mk.injEq, true_and, and_true]
      first
        | trivial
        | exact ⟨e1 _ _ (by decide) h1, e1 _ _ (by decide) h2, e1 _ _ (by decide) h3, e1 _ _ (by decide) h4, e1 _ _ (by decide) h5⟩
        | exact ⟨e1 _ _ (by decide) h1, e1 _ _ (by decide) h3, e1 _ _ (by decide) h4, e1 _ _ (by decide) h5⟩
        | exact e1 _ _ (by decide) h5
        | exact ⟨e1 _ _ (by decide) h2, e1 _ _ (by decide) h4, e1 _ _ (by decide) h5⟩
        | exact ⟨e1 _ _ (by decide) h2, e1 _ _ (by decide) h3, e1 _ _ (by decide) h4⟩
        | exact ⟨e1 _ _ (by decide) h1, e1 _ _ (by decide) h2, e1 _ _ (by decide) h4⟩
    · rintro ⟨fl, q, r⟩
      obtain rfl := Option.some.inj q
      have z := r.z
      simp only [zeroAll, List.foldl, Msg.zero, Msg.none, Msg.mk.injEq, true_and, and_true] at z
      have rg : ∀ k : Int, 1 ≤ k → k ≤ 9 → Rng ⟨k, c, i, a, h, e, n⟩ := fun k h1 h2 => ⟨h1, h2, r.e0, r.e1, r.n0, r.n1, r.a1⟩
      refine ⟨rg _ (by decide) (by decide), ?_⟩
      simp only
      first
        | exact ⟨.inr z.1, .inr z.2.1, .inr z.2.2.1, .inr z.2.2.2.1, .inr z.2.2.2.2⟩
        | exact ⟨.inr z.1, .inl (by decide), .inr z.2.1, .inr z.2.2.1, .inr z.2.2.2⟩
        | exact ⟨.inl (by decide), .inl (by decide), .inl (by decide), .inl (by decide), .inr z⟩
        | exact ⟨.inl (by decide), .inr z.1, .inl (by decide), .inr z.2.1, .inr z.2.2⟩
        | exact ⟨.inl (by decide), .inr z.1, .inr z.2.1, .inr z.2.2, .inl (by decide)⟩
        | exact ⟨.inr z.1, .inr z.2.1, .inl (by decide), .inr z.2.2, .inl (by decide)⟩
theorem rmay_any (m : Msg) (h : m.ok) (b : Bool) (hb : b = true ↔ May m) (w : World) : Calls Try.prog 36 #[.agg m.row] w fun e w' => e = .returned (.bool b) ∧ Below w.heap.size w w' :=
  rmay_core m h (lets m.kind) rfl _ _ _ _ _ (combo_of m.kind) (fun W => in_any _ _ W (Nat.le_trans (lets_size _) (by decide))) (fun W => in_any _ _ W (Nat.le_trans (lets_size _) (by decide))) (fun W => in_any _ _ W (Nat.le_trans (lets_size _) (by decide))) (fun W => in_any _ _ W (Nat.le_trans (lets_size _) (by decide))) (fun W => in_any _ _ W (Nat.le_trans (lets_size _) (by decide)))
    b (by rw [hb, ← rmay_iff]; rfl) w
end Go.Proofs.Ytiilgkhndfnkgaa
