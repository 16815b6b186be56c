/- What a list of steps leaves, up to the first one that goes wrong; the conditions are what each step does. -/
import Derived.Test.YtiilgkhndfnkgaaWiM
namespace Go.Proofs.Ytiilgkhndfnkgaa
open Go.RowKit Go.Shelf
set_option linter.unusedVariables false

set_option maxRecDepth 100000 in
set_option maxHeartbeats 4000000 in
theorem try_any {g n cap : Nat} (fk : Nat → FuncId) (caps : Nat → Array Value) (W : World) (St : Nat → World → Prop) (Bd : Int → World → Prop) (hn : n ≤ 8) (en : ∀ k, k < n → Enters Try.prog (fk k))
    (hlist : ∀ k X, k < n → St k X → X.cell? ⟨g, k, none⟩ = some (.func (.func (fk k)) #[] (caps k)))
    (hst : ∀ k X X' q, (k = 0 ∨ k = n) → W.heap.size ≤ q → M.But q X X' → St k X → St k X') (hbd : ∀ ev X X' q, W.heap.size ≤ q → M.But q X X' → Bd ev X → Bd ev X')
    (step : ∀ k, k < n → ∀ X, St k X → Calls Try.prog (fk k) (caps k) X fun e X' => (e = .returned (.tuple #[]) ∧ St (k + 1) X' ∧ Kp W.heap.size X X') ∨ (∃ ev, e = .panicked [flt ev] ∧ (ev == 0) = false ∧ Bd ev X' ∧ Kp W.heap.size X X'))
    (h0 : St 0 W) :
    Calls Try.prog 44 #[.slice (some ⟨g, 0, none⟩) n cap] W fun e W' => (e = .returned (.int .i64 0) ∧ St n W') ∨ (∃ ev, e = .returned (.int .i64 ev) ∧ (ev == 0) = false ∧ Bd ev W') := by
  obtain ⟨q, hq⟩ : ∃ q, W.heap.size = q := ⟨_, rfl⟩
  obtain ⟨V, hV⟩ : ∃ V, W.alloc (.cells #[.int .i64 0] 26) = V := ⟨_, rfl⟩
  have rn : M.RowAt V q 26 #[.int .i64 0] := by rw [← hV, ← hq]; exact M.RowAt.new W 26 _
  rw [hq] at hst hbd step
  have s0 : St 0 V := hst 0 W V q (.inl rfl) (Nat.le_refl _) (by rw [← hV]; exact (M.But.refl _ _).alloc _) h0
  have HQ := Lib.hid hq; have HV := Lib.hid hV; have RN := Lib.hid rn; have S0 := Lib.hid s0
  have EN := Lib.hid en; have HL := Lib.hid hlist; have STEP := Lib.hid step; have HST := Lib.hid hst; have HBD := Lib.hid hbd
  have hmf := mkf
  clear en hlist step hst hbd h0 hq hV rn s0
  go_enter_defers Try.func44, Try.ntmps44
  go_wp2_with (rw [HQ.out, HV.out])
  go_loopg [8] n (fun m i X => ∃ (k : Nat), m + k = n ∧ i = .int .i64 k ∧ St k X ∧ M.RowAt X q 26 #[.int .i64 0])
  case atStart => exact ⟨0, by omega, rfl, S0.out, RN.out⟩
  case round =>
    obtain ⟨k, hm, rfl, st, rq⟩ := hrel
    have HM := Lib.hid hm
    clear hm
    by_cases hlt : k < n
    · have c0 := HL.out k _ hlt st
      have en := EN.out k hlt
      have SK := Lib.hid (STEP.out k hlt _ st)
      have RQ := Lib.hid rq
      clear st rq
      generalize hfk : fk k = f at *
      generalize hcaps : caps k = cs at *
      go_wp2_with (first | (rw [en, Oper.upon_enter]; refine (SK.out).mono ?_; rintro e w2 (⟨rfl, st2, kp2⟩ | ⟨ev, rfl, hz, hb, kp2⟩)) | fail)
      · go_roundg (n - (k + 1))
        case measure => have := HM.out; omega
        case rel => exact ⟨k + 1, by have := HM.out; omega, by go_num, st2, kp2 _ _ _ rfl (Nat.le_refl _) RQ.out⟩
      · have rq2 := kp2 _ _ _ rfl (Nat.le_refl _) RQ.out
        refine leaves_cons (f := 65) (args := #[.pointer (some ⟨q, 0, none⟩)]) (by simp) (by simp [go_sem]) ?_
        refine (tr_caught q ev 0 [] w2 ((rq2.cell 0).trans rfl) (rq2.frozen 0)).mono ?_
        rintro e u' w3 ⟨rfl, rfl, rfl⟩
        have r3 := (rq2.alloc (.cells #[.int .i64 ev] 104)).set 0 (.int .i64 ev)
        have c3 := (r3.cell 0).trans rfl
        have hb3 := HBD.out ev w2 _ q (Nat.le_refl _) (((M.But.refl q w2).alloc (.cells #[.int .i64 ev] 104)).set (p := ⟨q, 0, none⟩) (.inl rfl) (.int .i64 ev)) hb
        obtain ⟨w4, hw4⟩ : ∃ w4, (w2.alloc (.cells #[.int .i64 ev] 104)).setCell ⟨q, 0, none⟩ (.int .i64 ev) = w4 := ⟨_, rfl⟩
        rw [hw4] at c3 hb3 ⊢
        have HB3 := Lib.hid hb3; have HZ := Lib.hid hz
        clear r3 rq2 hw4 hb3 hb hz kp2
        simp [Leaves, settle, results, Try.results44, go_sem, c3]
        exact .inr ⟨by simpa using HZ.out, HB3.out⟩
    · obtain rfl : k = n := by have := HM.out; omega
      have f0 := rq.frozen 0
      have c0 := rq.cell 0
      have r2 := rq.set 0 (.int .i64 0)
      have c2 := (r2.cell 0).trans rfl
      have st2 := HST.out _ _ _ q (.inr rfl) (Nat.le_refl _) ((M.But.refl q _).set (p := ⟨q, 0, none⟩) (.inl rfl) (.int .i64 0)) st
      have ST2 := Lib.hid st2; have R2 := Lib.hid r2
      clear rq st st2 r2
      obtain ⟨w2, hw2⟩ : ∃ w2, wr.setCell ⟨q, 0, none⟩ (.int .i64 0) = w2 := ⟨_, rfl⟩
      rw [hw2] at c2 ST2 R2
      have HW2 := Lib.hid hw2
      clear hw2
      go_wp2_with (first | (rw [HW2.out]) | fail)
      refine leaves_cons (f := 65) (args := #[.pointer (some ⟨q, 0, none⟩)]) (by simp) (by simp [go_sem]) ?_
      refine (tr_idle q w2).mono ?_
      rintro e u' w3 ⟨rfl, rfl, b3⟩
      have st3 := HST.out _ _ w3 q (.inr rfl) (Nat.le_refl _) (M.But.ofBelow q b3) ST2.out
      have c3 := ((R2.out.call b3).cell 0).trans rfl
      have ST3 := Lib.hid st3
      clear st3 b3 c2
      simp [Leaves, settle, results, Try.results44, go_sem, c3]
      exact ST3.out
end Go.Proofs.Ytiilgkhndfnkgaa
