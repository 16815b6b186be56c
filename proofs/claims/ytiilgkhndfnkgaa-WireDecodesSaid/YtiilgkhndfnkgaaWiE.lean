/- What a pass through a list of fields leaves; the conditions are what each field's function does. -/
import Derived.Test.YtiilgkhndfnkgaaWiD
namespace Go.Proofs.Ytiilgkhndfnkgaa
open Go.RowKit Go.Shelf
set_option linter.unusedVariables false

set_option maxRecDepth 100000 in
set_option maxHeartbeats 2000000 in
theorem through_any {b g n cap lo : Nat} (p1 p2 : Option Addr) (fk : Nat → FuncId) (caps : Nat → Array Value) (St : Nat → World → Prop) (Bd : Ending → World → Prop) (hn : n ≤ 8) (en : ∀ k, k < n → Enters Try.prog (fk k))
    (hlist : ∀ k W, k < n → St k W → W.cell? ⟨g, k, none⟩ = some (.func (.func (fk k)) #[] (caps k)))
    (hsame : ∀ k W W', St k W → Below W.heap.size W W' → St k W')
    (step : ∀ k, k < n → ∀ W, St k W → Calls Try.prog (fk k) (#[.agg #[.pointer p1, .pointer p2], .pointer (some ⟨b, 0, none⟩)] ++ caps k) W fun e W' => (e = .returned (.tuple #[]) ∧ St (k + 1) W' ∧ Kp lo W W') ∨ (Bd e W' ∧ ∃ c, e = .panicked c))
    (W : World) (h0 : St 0 W) (hlo : lo ≤ W.heap.size) :
    Calls Try.prog 48 #[.agg #[.pointer p1, .pointer p2], .slice (some ⟨g, 0, none⟩) n cap, .pointer (some ⟨b, 0, none⟩)] W fun e W' => (e = .returned (.tuple #[]) ∧ St n W') ∨ (Bd e W' ∧ ∃ c, e = .panicked c) := by
  obtain ⟨q, hq⟩ : ∃ q, W.heap.size = q := ⟨_, rfl⟩
  obtain ⟨V, hV⟩ : ∃ V, W.alloc (.cells #[.pointer p1, .pointer p2] 88) = V := ⟨_, rfl⟩
  have rn : M.RowAt V q 88 #[.pointer p1, .pointer p2] := by rw [← hV, ← hq]; exact M.RowAt.new W 88 _
  have s0 : St 0 V := hsame 0 W V h0 (by rw [← hV]; exact (Below.refl _ _).alloc (Nat.le_refl _) _)
  have HQ := Lib.hid hq; have HV := Lib.hid hV; have RN := Lib.hid rn; have S0 := Lib.hid s0
  have EN := Lib.hid en; have HL := Lib.hid hlist; have STEP := Lib.hid step; have LQ := Lib.hid (hq ▸ hlo : lo ≤ q)
  clear en hlist step hsame h0 hlo hq hV rn s0
  go_enter Try.func48, Try.ntmps48
  go_wp2_with (rw [HQ.out, HV.out])
  go_loopg [10] n (fun m i X => ∃ (k : Nat), m + k = n ∧ i = .int .i64 k ∧ St k X ∧ M.RowAt X q 88 #[.pointer p1, .pointer p2])
  case atStart => exact ⟨0, by omega, rfl, S0.out, RN.out⟩
  case round =>
    obtain ⟨k, hm, rfl, st, rq⟩ := hrel
    have HM := Lib.hid hm
    clear hm
    by_cases hlt : k < n
    · have c0 := HL.out k _ hlt st
      have q0 := (rq.cell 0).trans rfl; have q1 := (rq.cell 1).trans rfl
      have en := EN.out k hlt
      have SK := Lib.hid (STEP.out k hlt _ st)
      have RQ := Lib.hid rq
      clear st rq
      generalize hfk : fk k = f at *
      generalize hcaps : caps k = cs at *
      go_wp2_with (first | (rw [en, Oper.upon_enter]; refine (SK.out).mono ?_; rintro e w2 (⟨rfl, st2, kp2⟩ | ⟨hb, c, rfl⟩)) | fail)
      · go_roundg (n - (k + 1))
        case measure => have := HM.out; omega
        case rel => exact ⟨k + 1, by have := HM.out; omega, by go_num, st2, kp2 _ _ _ rfl LQ.out RQ.out⟩
      · exact ⟨rfl, .inr ⟨hb, c, rfl⟩⟩
    · obtain rfl : k = n := by have := HM.out; omega
      go_wp2
      go_end0
      exact .inl ⟨rfl, st⟩
end Go.Proofs.Ytiilgkhndfnkgaa
