/- What the purse's New returns, and the law package's shown; the condition is that the row of balances is known. -/
import Derived.Test.YtnnnbgndbmcffaaPuF
namespace Go.Proofs.Ytnnnbgndbmcffaa
open Go.RowKit
set_option linter.unusedVariables false

theorem own_cur {w : World} {base g n cap : Nat} {zs : List Int} (h : w.ownsRow base 23 1 (.slice (some ⟨g, 0, none⟩) n cap) n (zs.map (Value.int .u64))) (hz : zs.length = n) : base ≤ g ∧ n ≤ cap ∧ ∃ cur, M.RowAt w g 23 cur ∧ ∀ i, i < n → cur[i]? = some (.int .u64 (zs.getD i 0)) := by
  rcases h.2 with ⟨h1, _⟩ | ⟨g', c', cur, h1, h2, h3, h4, _, _, h5⟩
  · cases h1
  · cases h1
    refine ⟨h2, h4, cur, h3, fun i hi => ?_⟩
    have h6 := congrArg (fun l => l[i]?) h5
    simp only [Nat.mul_one, List.getElem?_take, if_pos hi, List.getElem?_map, Array.getElem?_toList] at h6
    rw [h6, List.getD_eq_getElem?_getD, List.getElem?_eq_getElem (by omega)]; rfl
set_option maxRecDepth 100000 in
set_option maxHeartbeats 4000000 in
theorem new_yes (pa : Option Addr) (len cap : Nat) (zs : List Int) (w : World) (h : URow w pa len zs) (h1 : 1 ≤ len) (h2 : len ≤ 32) (h3 : zs.sum ≤ Am.mx) : Calls Try.prog 23 #[.slice pa len cap] w (NewYes w len (fun i => zs.getD i 0)) := by
  obtain ⟨q, hq⟩ : ∃ q, w.heap.size = q := ⟨_, rfl⟩
  have HQ := Lib.hid hq
  have hl := h.lens
  have hf := h.fits
  have add := add_any pa len cap zs w h
  rw [show Am.addF zs = (zs.sum, 0) by unfold Am.addF; rw [if_pos h3]] at add
  have cl := clone_any pa len cap zs w h (by omega) (by omega)
  have inv : Inv len (fun i => zs.getD i 0) [] := by
    refine ⟨h1, h2, fun i => ?_, fun e he => (by cases he), by decide, ?_⟩
    · show 0 ≤ zs.getD i 0
      rw [List.getD_eq_getElem?_getD]
      cases hz : zs[i]? with
      | none => exact Int.le_refl _
      | some z => exact (hf z (List.mem_of_getElem? hz)).1
    · have := sumB_list zs
      rw [hl] at this
      rw [this]; show zs.sum + 0 ≤ _; omega
  have fin : ∀ (g cp : Nat) (w1 : World), w1.ownsRow q 23 1 (.slice (some ⟨g, 0, none⟩) len cp) len (zs.map (Value.int .u64)) → Below q w w1 → q ≤ w1.heap.size → NewYes w len (fun i => zs.getD i 0) (.returned (.pointer (some ⟨w1.heap.size + 1, 0, none⟩))) ((w1.alloc (.map #[] 0)).alloc (.cells #[.slice (some ⟨g, 0, none⟩) len cp, .map (some w1.heap.size)] 118)) := by
    intro g cp w1 ho hb hs
    obtain ⟨e1, e2, cur, hr, hc⟩ := own_cur ho hl
    have hg := hr.lt
    refine ⟨w1.heap.size + 1, g, w1.heap.size, cp, rfl, ⟨?_, ⟨cur, (hr.alloc _).alloc _, hc⟩, (IM.new KR mkR w1).alloc _, ⟨by omega, by omega, by omega⟩, e2, inv⟩, ?_, by rw [hq]; omega, by rw [hq]; omega, by rw [hq]; omega⟩
    · have := M.RowAt.new (w1.alloc (.map #[] 0)) 118 #[.slice (some ⟨g, 0, none⟩) len cp, .map (some w1.heap.size)]
      rwa [World.size_alloc] at this
    · rw [hq]; exact (hb.alloc hs _).alloc (by simp; omega) _
  unfold Cloned at cl
  rw [hl, hq] at cl
  have ADD := Lib.hid add; have CL := Lib.hid cl; have FIN := Lib.hid fin
  have d1 : decide ((len : Int) < 1) = false := by simp; omega
  have d2 : decide ((32 : Int) < (len : Int)) = false := by simp; omega
  have d1' : decide (len < 1) = false := by simp; omega
  have d2' : decide (32 < len) = false := by simp; omega
  have hmm := @run_makeMap Try.prog
  clear add cl fin inv hf h h3
  go_enter Try.func23, Try.ntmps23
  go_wp2_with fail
  refine (ADD.out).mono ?_
  rintro e w1 ⟨rfl, rfl⟩
  go_wp2_with fail
  refine (CL.out).mono ?_
  rintro e w1 ⟨g, cp, rfl, ho, hb⟩
  have f1 := FIN.out g cp w1 ho hb (by rw [← HQ.out]; exact (by have := hb.size; rw [HQ.out] at *; exact this))
  have F1 := Lib.hid f1
  clear ho hb f1
  go_wp2
  go_ret
  exact F1.out
set_option maxRecDepth 100000 in
theorem new_out (pa : Option Addr) (len cap : Nat) (w : World) (h : len < 1 ∨ 32 < len) : Calls Try.prog 23 #[.slice pa len cap] w fun e w' => e = .returned (.pointer none) ∧ w = w' := by
  rcases h with h | h
  · have d1 : decide ((len : Int) < 1) = true := by simp; omega
    have d1' : decide (len < 1) = true := by simp; omega
    obtain rfl : len = 0 := by omega
    go_enter Try.func23, Try.ntmps23
    go_wp2
    go_ret
    exact ⟨rfl, rfl⟩
  · have d1 : decide ((len : Int) < 1) = false := by simp; omega
    have d2 : decide ((32 : Int) < (len : Int)) = true := by simp; omega
    have d1' : decide (len < 1) = false := by simp; omega
    have d2' : decide (32 < len) = true := by simp; omega
    go_enter Try.func23, Try.ntmps23
    go_wp2
    go_ret
    exact ⟨rfl, rfl⟩
set_option maxRecDepth 100000 in
theorem new_sum (pa : Option Addr) (len cap : Nat) (zs : List Int) (w : World) (h : URow w pa len zs) (h1 : 1 ≤ len) (h2 : len ≤ 32) (h3 : ¬ zs.sum ≤ Am.mx) : Calls Try.prog 23 #[.slice pa len cap] w fun e w' => e = .returned (.pointer none) ∧ w = w' := by
  have add := add_any pa len cap zs w h
  rw [show Am.addF zs = (0, 60) by unfold Am.addF; rw [if_neg h3]] at add
  have ADD := Lib.hid add
  have d1 : decide ((len : Int) < 1) = false := by simp; omega
  have d2 : decide ((32 : Int) < (len : Int)) = false := by simp; omega
  have d1' : decide (len < 1) = false := by simp; omega
  have d2' : decide (32 < len) = false := by simp; omega
  clear add h h3
  go_enter Try.func23, Try.ntmps23
  go_wp2_with fail
  refine (ADD.out).mono ?_
  rintro e w1 ⟨rfl, rfl⟩
  go_wp2
  go_ret
  exact ⟨rfl, rfl⟩
end Go.Proofs.Ytnnnbgndbmcffaa
