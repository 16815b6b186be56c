/- The reference of layer 16: its boxes in memory, in, put, Len, Room and New; the condition is that the blocks of the boxes are known. -/
import Derived.Test.YtblbhnlmbmffkaaPoF
import Derived.Test.YtblbhnlmbmffkaaAppSep
import Derived.Deep.Onto
import Derived.Lib.SlFresh
import Derived.Laws.OwnMore
namespace Go.Proofs.Ytblbhnlmbmffkaa
open Go.RowKit
set_option linter.unusedVariables false

theorem info62 : (Try.prog.info? 62).map (fun i => (i.zero, i.size, i.bytes)) = some (some (.agg #[.slice none 0 0, .bool false]), 2, 32) := by kernel_rfl
theorem info52 : (Try.prog.info? 52).map (fun i => (i.zero, i.size, i.bytes)) = some (some (.agg #[.int .i64 0, .int .i64 0, .int .i64 0, .string ⟨#[]⟩]), 4, 40) := by kernel_rfl
theorem grown_below {w w' : World} {v : Value} {lo e size n : Nat} {xs : List Value} (h : w.grownBy w' v.ownBlock) (ho : w.ownsRow lo e size v n xs) (hb : lo ≤ w.heap.size) : Below lo w w' :=
  ⟨h.os, h.tape, h.output, h.size, fun k hk => h.block k (by omega) (fun e => by have := (ho.lt k e.symm).1; omega)⟩
theorem below_grown {w w' : World} (h : Below w.heap.size w w') (r : Option Nat) : w.grownBy w' r := ⟨h.os, h.tape, h.output, h.size, fun k hk _ => h.block k hk⟩
/-- the cells of the boxes -/
def bxs (S : List (Value × Bool)) : List Value := S.flatMap fun s => [s.1, .bool s.2]
theorem bxs_len (S : List (Value × Bool)) : (bxs S).length = S.length * 2 := by
  induction S with
  | nil => rfl
  | cons x r ih => show ([x.1, Value.bool x.2] ++ bxs r).length = _; rw [List.length_append, ih]; show 2 + r.length * 2 = (r.length + 1) * 2; omega
theorem bxs_get : ∀ {S : List (Value × Bool)} {k : Nat} {s : Value × Bool}, S[k]? = some s → (bxs S)[k * 2]? = some s.1 ∧ (bxs S)[k * 2 + 1]? = some (.bool s.2)
  | x :: r, 0, s, h => by
    obtain rfl : x = s := by simpa using h
    exact ⟨rfl, rfl⟩
  | x :: r, k + 1, s, h => by
    have h1 : r[k]? = some s := by simpa using h
    have := bxs_get h1
    show ([x.1, Value.bool x.2] ++ bxs r)[(k + 1) * 2]? = _ ∧ ([x.1, Value.bool x.2] ++ bxs r)[(k + 1) * 2 + 1]? = _
    rw [show (k + 1) * 2 = k * 2 + 2 by omega, show k * 2 + 2 + 1 = (k * 2 + 1) + 2 by omega, List.getElem?_append_right (by simp), List.getElem?_append_right (by simp)]
    exact this
theorem bxs_set : ∀ {S : List (Value × Bool)} {k : Nat}, k < S.length → ∀ (u : Value) (c : Bool), ((bxs S).set (k * 2) u).set (k * 2 + 1) (.bool c) = bxs (S.set k (u, c))
  | [], _, h, _, _ => by simp at h
  | x :: r, 0, _, u, c => rfl
  | x :: r, k + 1, h, u, c => by
    have ih := bxs_set (S := r) (k := k) (by simpa using h) u c
    show (([x.1, Value.bool x.2] ++ bxs r).set ((k + 1) * 2) u).set ((k + 1) * 2 + 1) (.bool c) = [x.1, Value.bool x.2] ++ bxs (r.set k (u, c))
    rw [← ih, show (k + 1) * 2 = k * 2 + 2 by omega, show k * 2 + 2 + 1 = (k * 2 + 1) + 2 by omega]
    rfl
abbrev Rf := List (List Lt × Bool)
/-- what the reference has, in memory: all its blocks are at lo or above -/
def RP (lo : Nat) (w : World) (v : Value) (R : Rf) : Prop :=
  ∃ S : List (Value × Bool), S.length = R.length ∧ w.ownsRow lo 62 2 v R.length (bxs S) ∧ ∀ (k : Nat) (s : Value × Bool) (r : List Lt × Bool), S[k]? = some s → R[k]? = some r → s.2 = r.2 ∧ w.ownsRow lo 52 4 s.1 r.1.length (flatL r.1)
section
variable {lo : Nat} {w w' : World} {v : Value} {R : Rf}
theorem RP.kept (h : RP lo w v R) {B : Nat} (hb : M.But B w w') (hB : B < lo) : RP lo w' v R := by
  obtain ⟨S, h1, h2, h3⟩ := h
  have hg := But.grown hb
  have kp : ∀ {e size n : Nat} {v : Value} {xs : List Value}, w.ownsRow lo e size v n xs → w'.ownsRow lo e size v n xs := fun {e size n v xs} ho => ho.kept hg (by
    cases hob : v.ownBlock with
    | none => exact .inl rfl
    | some gb => exact .inr fun e => by have := (ho.lt gb hob).1; cases e; omega)
  exact ⟨S, h1, kp h2, fun k s r hs hr => ⟨(h3 k s r hs hr).1, kp (h3 k s r hs hr).2⟩⟩
theorem RP.same (h : RP lo w v R) (hb : Below w.heap.size w w') : RP lo w' v R := by
  obtain ⟨S, h1, h2, h3⟩ := h
  have kp : ∀ {e size n : Nat} {v : Value} {xs : List Value}, w.ownsRow lo e size v n xs → w'.ownsRow lo e size v n xs := fun {e size n v xs} ho => ho.kept (below_grown hb none) (by
    cases hob : v.ownBlock with
    | none => exact .inl rfl
    | some gb => exact .inr (by simp))
  exact ⟨S, h1, kp h2, fun k s r hs hr => ⟨(h3 k s r hs hr).1, kp (h3 k s r hs hr).2⟩⟩
theorem RP.drew (h : RP lo w v R) : RP lo w.drew v R := h.same (Below.refl _ _).drew
/-- its slice, its cells, and the letters of a box -/
theorem RP.at (h : RP lo w v R) {k : Nat} (hk : k < R.length) : ∃ g cap s r, v = .slice (some ⟨g, 0, none⟩) R.length cap ∧ g < w.heap.size ∧ lo ≤ g ∧ R[k]? = some r ∧ w.cell? ⟨g, k * 2, none⟩ = some s ∧ w.cell? ⟨g, k * 2 + 1, none⟩ = some (.bool r.2) ∧ w.ownsRow lo 52 4 s r.1.length (flatL r.1) := by
  obtain ⟨S, h1, h2, h3⟩ := h
  have hS : S[k]? = some (S[k]'(by omega)) := List.getElem?_eq_getElem (by omega)
  have hR : R[k]? = some (R[k]) := List.getElem?_eq_getElem hk
  obtain ⟨e1, e2⟩ := h3 k _ _ hS hR
  obtain ⟨b1, b2⟩ := bxs_get hS
  have hlt := h2.lt
  rcases h2.2 with ⟨_, h0⟩ | ⟨g, cap, cur, rfl, hlo, _⟩
  · omega
  · refine ⟨g, cap, _, _, rfl, (hlt g rfl).2, hlo, hR, ?_, ?_, e2⟩
    · rw [h2.cellAt _ (by omega), b1]
    · rw [h2.cellAt _ (by omega), b2, e1]
end
/-- a slice that is owned tells its length -/
theorem own_slice {w : World} {lo e size : Nat} {v : Value} {n : Nat} {xs : List Value} (h : w.ownsRow lo e size v n xs) : ∃ A cap, v = .slice A n cap := by
  rcases h.2 with ⟨rfl, rfl⟩ | ⟨g, cap, cur, rfl, _⟩
  · exact ⟨_, _, rfl⟩
  · exact ⟨_, _, rfl⟩
def inR (R : Rf) (x : Int) : Bool := decide (0 ≤ x ∧ x < (R.length : Int))
theorem rp_slice {lo : Nat} {w : World} {v : Value} {R : Rf} (h : RP lo w v R) : ∃ A cap, v = .slice A R.length cap := by
  obtain ⟨S, h1, h2, h3⟩ := h
  exact own_slice h2
set_option maxRecDepth 100000 in
theorem in_any (A : Option Addr) (len cap : Nat) (x : Int) (w : World) : Calls Try.prog 29 #[.slice A len cap, .int .i64 x] w fun e w' => e = .returned (.bool (decide (0 ≤ x ∧ x < (len : Int)))) ∧ w = w' := by
  obtain ⟨b, hb⟩ : ∃ b, decide (0 ≤ x ∧ x < (len : Int)) = b := ⟨_, rfl⟩
  rw [hb]
  by_cases h0 : 0 ≤ x
  · have d0 : decide (0 ≤ x) = true := by simpa using h0
    by_cases h1 : x < (len : Int)
    · have d1 : decide (x < (len : Int)) = true := by simpa using h1
      obtain rfl : true = b := by rw [← hb]; simp [h0, h1]
      clear hb h0 h1
      go_enter Try.func29, Try.ntmps29
      go_wp2
      go_ret
      exact ⟨rfl, rfl⟩
    · have d1 : decide (x < (len : Int)) = false := by simpa using h1
      obtain rfl : false = b := by rw [← hb]; simp [h1]
      clear hb h0 h1
      go_enter Try.func29, Try.ntmps29
      go_wp2
      go_ret
      exact ⟨rfl, rfl⟩
  · have d0 : decide (0 ≤ x) = false := by simpa using h0
    obtain rfl : false = b := by rw [← hb]; simp [h0]
    clear hb h0
    go_enter Try.func29, Try.ntmps29
    go_wp2
    go_ret
    exact ⟨rfl, rfl⟩
set_option maxRecDepth 100000 in
theorem rlen_yes {lo : Nat} {w : World} {v : Value} {R : Rf} (h : RP lo w v R) {k : Nat} {l : List Lt} {c : Bool} (hr : R[k]? = some (l, c)) : Calls Try.prog 21 #[v, .int .i64 (k : Nat)] w fun e w' => e = .returned (.int .i64 (l.length : Nat)) ∧ w = w' := by
  have hk : k < R.length := (List.getElem?_eq_some_iff.1 hr).1
  obtain ⟨g, cap, s, r, rfl, hg, _, h1, h2, h3, h4⟩ := h.at hk
  obtain rfl : r = (l, c) := Option.some.inj (h1.symm.trans hr)
  obtain ⟨A, cap2, rfl⟩ := own_slice h4
  have hin := fun W => in_any (some ⟨g, 0, none⟩) R.length cap (k : Nat) W
  have hd : decide ((0 : Int) ≤ (k : Nat) ∧ ((k : Nat) : Int) < (R.length : Nat)) = true := by simp; omega
  have i1 : (0 : Int) ≤ (k : Nat) := by omega
  have i2 : ((k : Nat) : Int) < (R.length : Nat) := by omega
  rw [hd] at hin
  have IN := Lib.hid hin
  clear hin hd h h1 h4 hr h3
  generalize R.length = n at *
  go_enter Try.func21, Try.ntmps21
  go_wp2_with fail
  refine (IN.out _).mono ?_
  rintro e w1 ⟨rfl, rfl⟩
  go_wp2
  go_ret
  exact ⟨rfl, rfl⟩
set_option maxRecDepth 100000 in
theorem rlen_no {lo : Nat} {w : World} {v : Value} {R : Rf} (h : RP lo w v R) {x : Int} (hx : ¬ (0 ≤ x ∧ x < (R.length : Int))) : Calls Try.prog 21 #[v, .int .i64 x] w fun e w' => e = .returned (.int .i64 0) ∧ w = w' := by
  obtain ⟨A, cap, rfl⟩ := rp_slice h
  have hin := in_any A R.length cap x w
  have hd : decide (0 ≤ x ∧ x < (R.length : Nat)) = false := by simpa using hx
  rw [hd] at hin
  have IN := Lib.hid hin
  clear hin hd h hx
  go_enter Try.func21, Try.ntmps21
  go_wp2_with fail
  refine (IN.out).mono ?_
  rintro e w1 ⟨rfl, rfl⟩
  go_wp2
  go_ret
  exact ⟨rfl, rfl⟩
end Go.Proofs.Ytblbhnlmbmffkaa
