/- The reference of layer 16: Room, New and put; the condition is that the blocks of the boxes are known. -/
import Derived.Test.YtblbhnlmbmffkaaPoK
namespace Go.Proofs.Ytblbhnlmbmffkaa
open Go.RowKit
set_option linter.unusedVariables false

set_option maxRecDepth 100000 in
theorem rroom_yes {lo : Nat} {w : World} {v : Value} {R : Rf} (h : RP lo w v R) {k : Nat} {l : List Lt} {c : Bool} (hr : R[k]? = some (l, c)) (h8 : l.length ≤ 8) : Calls Try.prog 22 #[v, .int .i64 (k : Nat)] w fun e w' => e = .returned (.int .i64 (if c = true then 0 else 8 - (l.length : Nat))) ∧ w = w' := by
  have hk : k < R.length := (List.getElem?_eq_some_iff.1 hr).1
  obtain ⟨g, cap, s, r, rfl, hg, _, h1, h2, h3, h4⟩ := h.at hk
  obtain rfl : r = (l, c) := Option.some.inj (h1.symm.trans hr)
  obtain ⟨A, cap2, rfl⟩ := own_slice h4
  have hin := fun W => in_any (some ⟨g, 0, none⟩) R.length cap (k : Nat) W
  have hd : decide ((0 : Int) ≤ (k : Nat) ∧ ((k : Nat) : Int) < (R.length : Nat)) = true := by simp; omega
  have i1 : (0 : Int) ≤ (k : Nat) := by omega
  have i2 : ((k : Nat) : Int) < (R.length : Nat) := by omega
  rw [hd] at hin
  have IN := Lib.hid hin
  have hw : IntKind.i64.wrap (8 - (l.length : Nat)) = 8 - (l.length : Nat) := IntWalk.i64_in _ (by omega)
  clear hin hd h h1 h4 hr
  simp only at h3
  generalize R.length = n at *
  cases c
  · go_enter Try.func22, Try.ntmps22
    go_wp2_with fail
    refine (IN.out _).mono ?_
    rintro e w1 ⟨rfl, rfl⟩
    go_wp2
    go_ret
    exact ⟨rfl, rfl⟩
  · go_enter Try.func22, Try.ntmps22
    go_wp2_with fail
    refine (IN.out _).mono ?_
    rintro e w1 ⟨rfl, rfl⟩
    go_wp2
    go_ret
    exact ⟨rfl, rfl⟩
set_option maxRecDepth 100000 in
theorem rroom_no {lo : Nat} {w : World} {v : Value} {R : Rf} (h : RP lo w v R) {x : Int} (hx : ¬ (0 ≤ x ∧ x < (R.length : Int))) : Calls Try.prog 22 #[v, .int .i64 x] w fun e w' => e = .returned (.int .i64 0) ∧ w = w' := by
  obtain ⟨A, cap, rfl⟩ := rp_slice h
  have hin := in_any A R.length cap x w
  have hd : decide (0 ≤ x ∧ x < (R.length : Nat)) = false := by simpa using hx
  rw [hd] at hin
  have IN := Lib.hid hin
  clear hin hd h hx
  go_enter Try.func22, Try.ntmps22
  go_wp2_with fail
  refine (IN.out).mono ?_
  rintro e w1 ⟨rfl, rfl⟩
  go_wp2
  go_ret
  exact ⟨rfl, rfl⟩
theorem made_bxs (n : Nat) : (madeCells (Value.agg #[.slice none 0 0, .bool false]).cells (n * 2)).toList = bxs (List.replicate n (.slice none 0 0, false)) := by
  apply List.ext_getElem?
  intro i
  unfold madeCells
  rw [Array.getElem?_toList, Array.getElem?_map, Array.getElem?_range]
  have hc : (Value.agg #[.slice none 0 0, .bool false]).cells = #[.slice none 0 0, .bool false] := rfl
  rw [hc]
  by_cases hi : i < n * 2
  · rw [if_pos hi]
    have hk : (List.replicate n ((.slice none 0 0 : Value), false))[i / 2]? = some (.slice none 0 0, false) := by rw [List.getElem?_replicate, if_pos (by omega)]
    obtain ⟨b1, b2⟩ := bxs_get hk
    rcases Nat.mod_two_eq_zero_or_one i with h | h
    · rw [show i / 2 * 2 = i by omega] at b1
      rw [b1]
      simp [h]
    · rw [show i / 2 * 2 + 1 = i by omega] at b2
      rw [b2]
      simp [h]
  · rw [if_neg hi, List.getElem?_eq_none (by rw [bxs_len]; simp; omega)]; rfl
set_option maxRecDepth 100000 in
theorem rnew_yes (nb : Nat) (h1 : 1 ≤ nb) (h : nb ≤ 64) (w : World) :
    Calls Try.prog 15 #[.int .i64 (nb : Nat)] w fun e w' => ∃ v, e = .returned (.tuple #[v, .bool true]) ∧ RP w.heap.size w' v (List.replicate nb ([], false)) ∧ Below w.heap.size w w' := by
  obtain ⟨i0, hi, hz, hs, hb⟩ := info_parts info62
  obtain ⟨W, hrun, hown, hgr⟩ := run_makeSlice_full (P := Try.prog) w w.heap.size 45 62 i0 (.agg #[.slice none 0 0, .bool false]) 2 Try.underlying45 hi hz hs .i64 .i64 nb (by omega) (by rw [hb]; omega) (by unfold maxLen; omega) (Nat.le_refl _)
  rw [made_bxs] at hown
  have fin : RP w.heap.size W (.slice (some ⟨w.heap.size, 0, none⟩) nb nb) (List.replicate nb ([], false)) ∧ Below w.heap.size w W := by
    refine ⟨⟨List.replicate nb (.slice none 0 0, false), by simp, by simpa using hown, fun k s r hs hr => ?_⟩, hgr.os, hgr.tape, hgr.output, hgr.size, fun k hk => hgr.block k hk (by simp)⟩
    rw [List.getElem?_replicate] at hs hr
    split at hs
    · rename_i hk
      rw [if_pos hk] at hr
      cases hs; cases hr
      exact ⟨rfl, World.ownsRow_nil _ _ _ _⟩
    · cases hs
  have hd1 : decide ((nb : Int) < 1) = false := by simp; omega
  have hd2 : decide ((64 : Int) < (nb : Int)) = false := by simp; omega
  have FIN := Lib.hid fin
  clear hi hz hs hb hown hgr fin
  go_enter Try.func15, Try.ntmps15
  go_wp2
  go_ret2
  exact ⟨_, rfl, FIN.out⟩
set_option maxRecDepth 100000 in
theorem rnew_no (x : Int) (h : x < 1 ∨ 64 < x) (w : World) : Calls Try.prog 15 #[.int .i64 x] w fun e w' => e = .returned (.tuple #[.slice none 0 0, .bool false]) ∧ w = w' := by
  by_cases h1 : x < 1
  · have d1 : decide (x < 1) = true := by simpa using h1
    go_enter Try.func15, Try.ntmps15
    go_wp2
    go_ret2
    exact ⟨rfl, rfl⟩
  · have d1 : decide (x < 1) = false := by simpa using h1
    have d2 : decide (64 < x) = true := by simp; omega
    go_enter Try.func15, Try.ntmps15
    go_wp2
    go_ret2
    exact ⟨rfl, rfl⟩
set_option maxRecDepth 100000 in
theorem rput_raw {lo : Nat} {w : World} {v : Value} {R : Rf} {S : List (Value × Bool)} (hS : S.length = R.length) (hB : w.ownsRow lo 62 2 v R.length (bxs S)) (hsl : ∀ (k : Nat) (s : Value × Bool), S[k]? = some s → s.1.oneCell' = true) (hlo : lo ≤ w.heap.size) (h64 : R.length ≤ 64) {k : Nat} (hk : k < R.length) (s : Value) (c : Bool) (hs : ∃ A n c, s = .slice A n c) :
    Calls Try.prog 30 #[v, .int .i64 (k : Nat), .agg #[s, .bool c]] w fun e w' => ∃ v', e = .returned v' ∧ w'.ownsRow w.heap.size 62 2 v' R.length (bxs (S.set k (s, c))) ∧ Below w.heap.size w w' := by
  obtain ⟨n, hn⟩ : ∃ n, w.heap.size = n := ⟨_, rfl⟩
  obtain ⟨V, hV⟩ : ∃ V, (w.alloc (.cells #[s, .bool c] 62)).alloc (.cells #[] 62) = V := ⟨_, rfl⟩
  have hVn : V.heap.size = n + 2 := by rw [← hV]; simp [hn]
  have bV : Below n w V := by rw [← hV, ← hn]; exact ((Below.refl _ w).alloc (Nat.le_refl _) _).alloc (by simp) _
  have rb : M.RowAt V n 62 #[s, .bool c] := by rw [← hV, ← hn]; exact (M.RowAt.new w 62 _).alloc _
  have d0 : V.ownsRow n 62 2 (.slice (some ⟨n + 1, 0, none⟩) 0 0) 0 [] := by
    have := World.ownsRow_lit (base := n) (e := 62) (size := 2) (w.alloc (.cells #[s, .bool c] 62)) #[] 0 (by simp [hn]) (by unfold maxLen; omega) rfl
    rw [hV] at this
    rwa [show (w.alloc (.cells #[s, .bool c] 62)).heap.size = n + 1 by simp [hn]] at this
  have kp : ∀ {W : World} {e size n1 : Nat} {u : Value} {xs : List Value}, Below n w W → w.ownsRow lo e size u n1 xs → W.ownsRow lo e size u n1 xs := fun {W e size n1 u xs} hb ho => ho.kept (below_grown (hn ▸ hb) none) (by
    cases hob : u.ownBlock with
    | none => exact .inl rfl
    | some gb => exact .inr (by simp))
  have hBV := kp bV hB
  obtain ⟨i0, hi, hz, hsz, hby⟩ := info_parts info62
  have hone : ∀ u ∈ bxs S, u.oneCell' = true := by
    intro u hu
    obtain ⟨t, ht, hu⟩ := List.mem_flatMap.1 hu
    obtain ⟨j, hj⟩ := List.mem_iff_getElem?.1 ht
    simp at hu
    rcases hu with rfl | rfl
    · exact hsl j t hj
    · rfl
  have hvg : ∃ g cap, v = .slice (some ⟨g, 0, none⟩) R.length cap := by
    rcases hB.2 with ⟨_, h0⟩ | ⟨g, cap, cur, rfl, _⟩
    · omega
    · exact ⟨g, cap, rfl⟩
  obtain ⟨g, cap, rfl⟩ := hvg
  obtain ⟨v', W, hrun, hown, hgr, _⟩ := run_append_own (P := Try.prog) V n 45 45 62 i0 (.agg #[.slice none 0 0, .bool false]) 2 32 Try.underlying45 hi hz hsz hby rfl (by decide) _ 0 [] d0 ⟨g, 0, none⟩ R.length cap (bxs S) (by rw [bxs_len, hS]) (hBV.cells rfl) hone (by unfold maxLen; omega) (by omega) (by omega)
  rw [Nat.zero_add, List.nil_append] at hown
  have bW : Below n w W := bV.trans (grown_below hgr d0 (by omega))
  have rbW : M.RowAt W n 62 #[s, .bool c] := by
    unfold M.RowAt
    rw [hgr.block n (by omega) (by simp [Value.ownBlock])]
    exact rb
  obtain ⟨g', cap', rfl⟩ : ∃ g' cap', v' = .slice (some ⟨g', 0, none⟩) R.length cap' := by
    rcases hown.2 with ⟨_, h0⟩ | ⟨g, cap, cur, rfl, _⟩
    · omega
    · exact ⟨g, cap, rfl⟩
  obtain ⟨gn, gl⟩ := hown.lt g' rfl
  have f0' := hown.cellAt (k * 2) (by omega)
  have f1' := hown.cellAt (k * 2 + 1) (by omega)
  obtain ⟨b0, b1⟩ := bxs_get (S := S) (k := k) (List.getElem?_eq_getElem (by omega))
  rw [b0] at f0'
  rw [b1] at f1'
  obtain ⟨u0, f0⟩ : ∃ u, W.cell? ⟨g', k * 2, none⟩ = some u := ⟨_, f0'⟩
  obtain ⟨u1, f1⟩ : ∃ u, W.cell? ⟨g', k * 2 + 1, none⟩ = some u := ⟨_, f1'⟩
  have f2 := hown.frozenAt (k * 2)
  have f3 := hown.frozenAt (k * 2 + 1)
  obtain ⟨o1, q1⟩ := hown.stored (k * 2) s
  obtain ⟨o2, q2⟩ := o1.stored (k * 2 + 1) (.bool c)
  rw [bxs_set (by omega)] at o2
  obtain ⟨U, hU⟩ : ∃ U, (W.setCell ⟨g', k * 2, none⟩ s).setCell ⟨g', k * 2 + 1, none⟩ (.bool c) = U := ⟨_, rfl⟩
  rw [hU] at o2 q2
  have bU : Below n w U := by rw [← hU]; exact (bW.setCell (p := ⟨g', k * 2, none⟩) gn _).setCell (p := ⟨g', k * 2 + 1, none⟩) gn _
  have fin : U.ownsRow n 62 2 (.slice (some ⟨g', 0, none⟩) R.length cap') R.length (bxs (S.set k (s, c))) ∧ Below n w U := by
    refine ⟨o2, bU⟩
  have z0 := (rbW.cell 0); have z1 := (rbW.cell 1)
  obtain ⟨A2, n2, cap2, rfl⟩ := hs
  have i1 : (0 : Int) ≤ (k : Nat) := by omega
  have i2 : ((k : Nat) : Int) < (R.length : Nat) := by omega
  have HV := Lib.hid hV; have HN := Lib.hid hn; have HU := Lib.hid hU; have FIN := Lib.hid fin; have HR := Lib.hid hrun
  rw [hn]
  clear hV hn hU fin hrun kp hBV hi hz hsz hby hone hB d0 bV rb hown hgr bW rbW o1 q1 o2 q2 bU b0 b1 f0' f1' hS hsl
  generalize R.length = m at *
  go_enter Try.func30, Try.ntmps30
  go_wp2_with (first
    | (at_builtin; rw [HN.out, HV.out]; refine Go.Lib.wpList_append_run_sl _ rfl (.tmp 8) (.tmp 9) 45 rfl _ _ rfl rfl HR.out ?_)
    | (rw [HU.out])
    | fail)
  go_ret
  exact ⟨_, rfl, FIN.out⟩
theorem rput_any {lo : Nat} {w : World} {v : Value} {R : Rf} (h : RP lo w v R) (hlo : lo ≤ w.heap.size) (h64 : R.length ≤ 64) {k : Nat} (hk : k < R.length) (s : Value) (l : List Lt) (c : Bool) (hs : w.ownsRow lo 52 4 s l.length (flatL l)) :
    Calls Try.prog 30 #[v, .int .i64 (k : Nat), .agg #[s, .bool c]] w fun e w' => ∃ v', e = .returned v' ∧ RP lo w' v' (R.set k (l, c)) ∧ Below w.heap.size w w' := by
  obtain ⟨S, hS, hB, hL⟩ := h
  refine (rput_raw hS hB (fun j t ht => ?_) hlo h64 hk s c (by obtain ⟨A, cc, e⟩ := own_slice hs; exact ⟨A, _, cc, e⟩)).mono ?_
  · have hj : j < R.length := by rw [← hS]; exact (List.getElem?_eq_some_iff.1 ht).1
    obtain ⟨A, c, e⟩ := own_slice (hL j t _ ht (List.getElem?_eq_getElem hj)).2
    rw [e]; rfl
  · rintro e w' ⟨v', rfl, ho, hb⟩
    have kp : ∀ {e size n1 : Nat} {u : Value} {xs : List Value}, w.ownsRow lo e size u n1 xs → w'.ownsRow lo e size u n1 xs := fun {e size n1 u xs} ho => ho.kept (below_grown hb none) (by
      cases hob : u.ownBlock with
      | none => exact .inl rfl
      | some gb => exact .inr (by simp))
    refine ⟨v', rfl, ⟨S.set k (s, c), by simp [hS], ?_, fun j t r ht hr => ?_⟩, hb⟩
    · rw [List.length_set]; exact ho.mono hlo
    · rw [List.getElem?_set] at ht hr
      by_cases hj : k = j
      · subst hj
        rw [if_pos rfl, if_pos (by omega)] at ht
        rw [if_pos rfl, if_pos hk] at hr
        cases ht; cases hr
        exact ⟨rfl, kp hs⟩
      · rw [if_neg hj] at ht hr
        exact ⟨(hL j t r ht hr).1, kp (hL j t r ht hr).2⟩
end Go.Proofs.Ytblbhnlmbmffkaa
