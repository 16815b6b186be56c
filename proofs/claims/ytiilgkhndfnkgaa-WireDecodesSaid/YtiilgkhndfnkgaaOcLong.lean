/- The walk of the law OctetLong over the contracts: it returns true; the condition is that the text can be. -/
import Derived.Test.YtiilgkhndfnkgaaOcT
import Derived.Test.YtiilgkhndfnkgaaOcOrd
import Derived.Test.YtiilgkhndfnkgaaQuietP
namespace Go.Proofs.Ytiilgkhndfnkgaa
open Go.RowKit
set_option linter.unusedVariables false

theorem pre_size (n : Int) (s : ByteArray) : (strOfNums [n] ++ s).size = 1 + s.size := by rw [ByteArray.size_append, strOfNums_size]; rfl
theorem pre_txL (n : Int) (s : ByteArray) (n0 : 0 ≤ n) (n1 : n < 256) : txL (strOfNums [n] ++ s) = n.toNat := by
  unfold txL val
  simp [strOfNums]
  omega
theorem pre_rest (n : Int) (s : ByteArray) : (strOfNums [n] ++ s).extract 1 (1 + s.size) = s := by
  apply ByteArray.ext
  apply Array.ext'
  simp [strOfNums]
  exact List.take_of_length_le (by simp)

theorem rtE_pre (s : ByteArray) : rtE (strOfNums [(s.size : Int) % 256] ++ s) = if 64 < s.size % 256 then 12 else 0 := by
  unfold rtE
  rw [pre_size, pre_txL _ _ (by omega) (by omega), if_neg (by omega)]
  have e : ((s.size : Int) % 256).toNat = s.size % 256 := by omega
  rw [e]
  by_cases h : 64 < s.size % 256
  · rw [if_pos h, if_pos h]
  · rw [if_neg h, if_neg h, if_neg (by omega)]
theorem rtT_pre (s : ByteArray) (h : s.size ≤ 64) : rtT (strOfNums [(s.size : Int) % 256] ++ s) = s := by
  have e : ((s.size : Int) % 256).toNat = s.size := by omega
  rw [rtT_good (by rw [pre_size, pre_txL _ _ (by omega) (by omega)]; omega), pre_txL _ _ (by omega) (by omega), e, pre_rest]
theorem rtS_pre (s : ByteArray) (h : 64 < s.size % 256) : rtS (strOfNums [(s.size : Int) % 256] ++ s) = strOfNums [(s.size : Int) % 256] ++ s := by
  rw [rtS_bad (by rw [pre_txL _ _ (by omega) (by omega)]; omega)]

set_option maxRecDepth 100000 in
set_option maxHeartbeats 4000000 in
theorem long_walk (s : ByteArray) (w : World) :
    Calls Try.prog 5 #[.string s] w (Fine w) := by
  by_cases hl : 300 < s.size
  · go_enter Try.func5, Try.ntmps5
    go_wp2_with fail
    refine (shown_any w).mono ?_
    rintro e v1 ⟨rfl, h1⟩
    go_wp2
    go_ret
    exact ⟨rfl, h1⟩
  · have hT := pre_size ((s.size : Int) % 256) s
    have hE := rtE_pre s
    have hTT := rtT_pre s
    have hTS := rtS_pre s
    have hadd : (strOfNums [(s.size : Int) % 256]).size + s.size ≤ 9223372036854775807 := by rw [strOfNums_size]; show 1 + s.size ≤ _; omega
    have hcv := fun w' : World => conv_cells (w := (w'.alloc (.cells #[.int .u8 ((s.size : Int) % 256)] 5))) w'.heap.size 1 1 [(s.size : Int) % 256] rfl (fun i hi => cells_new w' [(s.size : Int) % 256] 5 i (by simpa using hi))
    have hcv2 := fun w' : World => conv_cells (w := (w'.alloc (.cells #[.int .u8 (s.size : Int)] 5)).drew) w'.heap.size 1 1 [(s.size : Int)] rfl (fun i hi => cells_new w' [(s.size : Int)] 5 i (by simpa using hi))
    have hR := fun r w' h => rdtext_any r (strOfNums [(s.size : Int) % 256] ++ s) w' h (by omega)
    rw [hE] at hR
    have m0 : 0 ≤ (s.size : Int) % 256 := by omega
    have m1 : (s.size : Int) % 256 ≤ 255 := by omega
    by_cases hb : 64 < s.size
    · have hW := fun p w' h => wtext_any s p ⟨#[]⟩ w' (by decide) h
      have e1 : txtE s = 12 := if_neg (by omega)
      have e2 : txtB s = ByteArray.empty := if_neg (by omega)
      rw [e1, e2, append_empty] at hW
      have HW := Lib.hid hW
      have hM' : ((s.size : Int) % 256) = ((s.size % 256 : Nat) : Int) := by omega
      by_cases hM : 64 < s.size % 256
      · rw [if_pos hM, hTS hM] at hR
        have g1 : 64 < (s.size : Int) % 256 := by omega
        have HR := Lib.hid hR
        clear hTT hTS hE hW hR e1 e2 hcv2 hM hM'
        generalize strOfNums [(s.size : Int) % 256] = P at *
        generalize rtT (P ++ s) = R at *
        obtain ⟨n, hn⟩ : ∃ n, w.heap.size = n := ⟨_, rfl⟩
        go_enter Try.func5, Try.ntmps5
        go_wp2_with fail
        refine (shown_any w).mono ?_
        rintro e v1 ⟨rfl, h1⟩
        rw [hn] at h1
        have hA := at_new v1 ⟨#[]⟩ 25
        have s1 : n ≤ v1.heap.size := by have := h1.size; omega
        have d1 : Below n w (v1.alloc (.cells #[.string ⟨#[]⟩] 25)) := h1.alloc s1 _
        generalize hm : v1.heap.size = m at *
        go_wp2_with fail
        refine (HW.out _ _ hA).mono ?_
        rintro e v2 ⟨rfl, h2⟩
        have s2 : m + 1 ≤ v2.heap.size := by have := h2.size; simp at this; omega
        have a2 := hA.written h2 (by show m < _; simp; omega)
        have d2 : Below n w v2 := below_own d1 s1 (by simp; omega) h2
        clear h2 hA d1
        have hcv1 := hcv v2
        go_wp2_with fail
        refine (new_any _ _).mono ?_
        rintro e v3 ⟨rfl, rfl⟩
        clear hcv1
        have b3 : Below v2.heap.size v2 (v2.alloc (.cells #[.int .u8 ((s.size : Int) % 256)] 5)) := (Below.refl _ _).alloc (Nat.le_refl _) _
        have d3 : Below n w (v2.alloc (.cells #[.int .u8 ((s.size : Int) % 256)] 5)) := d2.trans (b3.mono (by omega))
        have a3 := a2.below b3 (by show m < _; omega)
        have z3 : (v2.alloc (.cells #[.int .u8 ((s.size : Int) % 256)] 5)).heap.size = v2.heap.size + 1 := by simp
        generalize v2.alloc (.cells #[.int .u8 ((s.size : Int) % 256)] 5) = v3 at *
        have hX := at_new v3 (P ++ s) 77
        have b4 : Below v3.heap.size v3 (v3.alloc (.cells #[.string (P ++ s)] 77)) := (Below.refl _ _).alloc (Nat.le_refl _) _
        have d4 : Below n w (v3.alloc (.cells #[.string (P ++ s)] 77)) := d3.trans (b4.mono (by omega))
        have a4 := a3.below b4 (by show m < _; omega)
        generalize hq : v3.heap.size = q at *
        have z4 : (v3.alloc (.cells #[.string (P ++ s)] 77)).heap.size = q + 1 := by simp; exact hq
        generalize v3.alloc (.cells #[.string (P ++ s)] 77) = v4 at *
        rw [z3] at hX
        go_wp2_with fail
        refine (HR.out _ _ hX).mono ?_
        rintro e v5 ⟨rfl, h5⟩
        have a5 := a4.writer h5 (by show m < _; omega) (by show v2.heap.size + 1 ≠ m; omega)
        have r5 := hX.written h5 (by show v2.heap.size + 1 < _; omega)
        have d5 : Below n w v5 := below_own d4 (by show n ≤ v2.heap.size + 1; omega) (by omega) h5
        go_wp2_with fail
        refine (wbytes_any _ _ v5 a5).mono ?_
        rintro e w' ⟨rfl, rfl⟩
        go_wp2_with fail
        refine (left_any _ _ v5 r5).mono ?_
        rintro e w' ⟨rfl, rfl⟩
        rw [hT]
        go_wp2
        go_ret
        exact ⟨rfl, by rw [hn]; exact d5⟩
      · rw [if_neg hM] at hR
        have g1 : (s.size : Int) % 256 ≤ 64 := by omega
        have HR := Lib.hid hR
        clear hTT hTS hE hW hR e1 e2 hcv2 hM hM'
        generalize strOfNums [(s.size : Int) % 256] = P at *
        generalize rtT (P ++ s) = R at *
        generalize rtS (P ++ s) = R2 at *
        obtain ⟨n, hn⟩ : ∃ n, w.heap.size = n := ⟨_, rfl⟩
        go_enter Try.func5, Try.ntmps5
        go_wp2_with fail
        refine (shown_any w).mono ?_
        rintro e v1 ⟨rfl, h1⟩
        rw [hn] at h1
        have hA := at_new v1 ⟨#[]⟩ 25
        have s1 : n ≤ v1.heap.size := by have := h1.size; omega
        have d1 : Below n w (v1.alloc (.cells #[.string ⟨#[]⟩] 25)) := h1.alloc s1 _
        generalize hm : v1.heap.size = m at *
        go_wp2_with fail
        refine (HW.out _ _ hA).mono ?_
        rintro e v2 ⟨rfl, h2⟩
        have s2 : m + 1 ≤ v2.heap.size := by have := h2.size; simp at this; omega
        have a2 := hA.written h2 (by show m < _; simp; omega)
        have d2 : Below n w v2 := below_own d1 s1 (by simp; omega) h2
        clear h2 hA d1
        have hcv1 := hcv v2
        go_wp2_with fail
        refine (new_any _ _).mono ?_
        rintro e v3 ⟨rfl, rfl⟩
        clear hcv1
        have b3 : Below v2.heap.size v2 (v2.alloc (.cells #[.int .u8 ((s.size : Int) % 256)] 5)) := (Below.refl _ _).alloc (Nat.le_refl _) _
        have d3 : Below n w (v2.alloc (.cells #[.int .u8 ((s.size : Int) % 256)] 5)) := d2.trans (b3.mono (by omega))
        have a3 := a2.below b3 (by show m < _; omega)
        have z3 : (v2.alloc (.cells #[.int .u8 ((s.size : Int) % 256)] 5)).heap.size = v2.heap.size + 1 := by simp
        generalize v2.alloc (.cells #[.int .u8 ((s.size : Int) % 256)] 5) = v3 at *
        have hX := at_new v3 (P ++ s) 77
        have b4 : Below v3.heap.size v3 (v3.alloc (.cells #[.string (P ++ s)] 77)) := (Below.refl _ _).alloc (Nat.le_refl _) _
        have d4 : Below n w (v3.alloc (.cells #[.string (P ++ s)] 77)) := d3.trans (b4.mono (by omega))
        have a4 := a3.below b4 (by show m < _; omega)
        generalize hq : v3.heap.size = q at *
        have z4 : (v3.alloc (.cells #[.string (P ++ s)] 77)).heap.size = q + 1 := by simp; exact hq
        generalize v3.alloc (.cells #[.string (P ++ s)] 77) = v4 at *
        rw [z3] at hX
        go_wp2_with fail
        refine (HR.out _ _ hX).mono ?_
        rintro e v5 ⟨rfl, h5⟩
        have a5 := a4.writer h5 (by show m < _; omega) (by show v2.heap.size + 1 ≠ m; omega)
        have r5 := hX.written h5 (by show v2.heap.size + 1 < _; omega)
        have d5 : Below n w v5 := below_own d4 (by show n ≤ v2.heap.size + 1; omega) (by omega) h5
        go_wp2_with fail
        refine (wbytes_any _ _ v5 a5).mono ?_
        rintro e w' ⟨rfl, rfl⟩
        go_wp2
        go_ret
        exact ⟨rfl, by rw [hn]; exact d5⟩
    · have hW := fun p w' h => wtext_any s p ⟨#[]⟩ w' (by decide) h
      have e1 : txtE s = 0 := if_pos (by omega)
      have e2 : txtB s = strOfNums [(s.size : Int)] ++ s := if_pos (by omega)
      have e3 : (s.size : Int) % 256 = s.size := by omega
      rw [e1, e2, nil_append] at hW
      rw [if_neg (by omega), hTT (by omega)] at hR
      rw [e3] at hR hcv hadd
      have HW := Lib.hid hW; have HR := Lib.hid hR
      clear hTT hTS hE hW hR e1 e2 hT
      generalize strOfNums [(s.size : Int)] = P at *
      generalize rtS (P ++ s) = R at *
      obtain ⟨n, hn⟩ : ∃ n, w.heap.size = n := ⟨_, rfl⟩
      go_enter Try.func5, Try.ntmps5
      go_wp2_with fail
      refine (shown_any w).mono ?_
      rintro e v1 ⟨rfl, h1⟩
      rw [hn] at h1
      have hA := at_new v1 ⟨#[]⟩ 25
      have s1 : n ≤ v1.heap.size := by have := h1.size; omega
      have d1 : Below n w (v1.alloc (.cells #[.string ⟨#[]⟩] 25)) := h1.alloc s1 _
      generalize hm : v1.heap.size = m at *
      go_wp2_with fail
      refine (HW.out _ _ hA).mono ?_
      rintro e v2 ⟨rfl, h2⟩
      have s2 : m + 1 ≤ v2.heap.size := by have := h2.size; simp at this; omega
      have a2 := hA.written h2 (by show m < _; simp; omega)
      have d2 : Below n w v2 := below_own d1 s1 (by simp; omega) h2
      clear h2 hA d1
      have hcv1 := hcv v2
      go_wp2_with fail
      refine (new_any _ _).mono ?_
      rintro e v3 ⟨rfl, rfl⟩
      clear hcv1
      have b3 : Below v2.heap.size v2 (v2.alloc (.cells #[.int .u8 (s.size : Int)] 5)) := (Below.refl _ _).alloc (Nat.le_refl _) _
      have d3 : Below n w (v2.alloc (.cells #[.int .u8 (s.size : Int)] 5)) := d2.trans (b3.mono (by omega))
      have a3 := a2.below b3 (by show m < _; omega)
      have z3 : (v2.alloc (.cells #[.int .u8 (s.size : Int)] 5)).heap.size = v2.heap.size + 1 := by simp
      generalize v2.alloc (.cells #[.int .u8 (s.size : Int)] 5) = v3 at *
      have hX := at_new v3 (P ++ s) 77
      have b4 : Below v3.heap.size v3 (v3.alloc (.cells #[.string (P ++ s)] 77)) := (Below.refl _ _).alloc (Nat.le_refl _) _
      have d4 : Below n w (v3.alloc (.cells #[.string (P ++ s)] 77)) := d3.trans (b4.mono (by omega))
      have a4 := a3.below b4 (by show m < _; omega)
      generalize hq : v3.heap.size = q at *
      have z4 : (v3.alloc (.cells #[.string (P ++ s)] 77)).heap.size = q + 1 := by simp; exact hq
      generalize v3.alloc (.cells #[.string (P ++ s)] 77) = v4 at *
      go_wp2_with fail
      rw [z3] at hX
      refine (HR.out _ _ hX).mono ?_
      rintro e v5 ⟨rfl, h5⟩
      have a5 := a4.writer h5 (by show m < _; omega) (by show v2.heap.size + 1 ≠ m; omega)
      have d5 : Below n w v5 := below_own d4 (by show n ≤ v2.heap.size + 1; omega) (by omega) h5
      have s5 : v4.heap.size ≤ v5.heap.size := by have := h5.size; simpa using this
      have hcvv := hcv2 v5
      have b6 : Below v5.heap.size v5 (v5.alloc (.cells #[.int .u8 (s.size : Int)] 5)) := (Below.refl _ _).alloc (Nat.le_refl _) _
      have a6 := a5.below b6 (by show m < _; omega)
      have a5' : At v5.drew ⟨m, 0, none⟩ (P ++ s) := ⟨a5.cell, a5.open'⟩
      have a6' : At (v5.alloc (.cells #[.int .u8 (s.size : Int)] 5)).drew ⟨m, 0, none⟩ (P ++ s) := ⟨a6.cell, a6.open'⟩
      have d6 : Below n w (v5.alloc (.cells #[.int .u8 (s.size : Int)] 5)).drew := (d5.trans (b6.mono (by omega))).drew
      clear h5 hX d4 a4 b4 a3 b3 d3 d2 a2 hcv hcv2 a5 a6 b6
      have hself : ((P ++ s).toList == (P ++ s).toList) = true := by simp
      have hself2 : (s.toList == s.toList) = true := by simp
      go_wp2_with fail
      have hwr : IntKind.u8.wrap (s.size : Int) = s.size := by rw [IntKind.wrap_u8]; omega
      have hnadd : ¬ 9223372036854775807 < P.size + s.size := by omega
      obtain ⟨Cf, hCf⟩ : ∃ C : World → Prop, C = fun w' => w' = v5.drew := ⟨_, rfl⟩
      obtain ⟨Ct, hCt⟩ : ∃ C : World → Prop, C = fun w' => w' = (v5.alloc (.cells #[.int .u8 (s.size : Int)] 5)).drew := ⟨_, rfl⟩
      refine QP.wp_region_p 8 Cf Ct (by kernel_rfl) (by kernel_rfl) (by rw [hCf]) ?_
      have HCf := Lib.hid hCf; have HCt := Lib.hid hCt
      have cf0 : Cf v5.drew := by rw [hCf]
      have ct0 : Ct (v5.alloc (.cells #[.int .u8 (s.size : Int)] 5)).drew := by rw [hCt]
      clear hCf hCt
      iterate 24
        (refine QP.wpQ_step (fun K hK => ?_)
         go_simp
         first
           | (refine hK _ ?_; clear hK K)
           | (refine ⟨?_, hK _ ?_⟩; decide; clear hK K)
           | (apply Exists.intro
              refine ⟨?_, hK _ ?_⟩
              first
                | (apply QP.al_p; decide; (intro wq hq; (first | (rw [HCf.out] at hq; subst hq) | (rw [HCt.out] at hq; subst hq)); unfold QP.oat; go_simp; first | exact ⟨by assumption, rfl⟩ | assumption | (first | (refine (wbytes_any _ (P ++ s) _ a5').mono ?_; rintro e w' ⟨rfl, rfl⟩; exact ⟨rfl, cf0⟩) | (refine (wbytes_any _ (P ++ s) _ a6').mono ?_; rintro e w' ⟨rfl, rfl⟩; exact ⟨rfl, ct0⟩))))
                | (apply QP.al_dep; decide; decide; (intro wq hq; (first | (rw [HCf.out] at hq; subst hq) | (rw [HCt.out] at hq; subst hq)); unfold QP.oat; go_simp; first | exact ⟨by assumption, rfl⟩ | assumption | (first | (refine (wbytes_any _ (P ++ s) _ a5').mono ?_; rintro e w' ⟨rfl, rfl⟩; exact ⟨rfl, cf0⟩) | (refine (wbytes_any _ (P ++ s) _ a6').mono ?_; rintro e w' ⟨rfl, rfl⟩; exact ⟨rfl, ct0⟩))))
                | (apply QP.al_ok; decide; (intro wq hq; (first | (rw [HCf.out] at hq; subst hq) | (rw [HCt.out] at hq; subst hq)); unfold QP.oat; go_simp; first | exact ⟨by assumption, rfl⟩ | assumption | (first | (refine (wbytes_any _ (P ++ s) _ a5').mono ?_; rintro e w' ⟨rfl, rfl⟩; exact ⟨rfl, cf0⟩) | (refine (wbytes_any _ (P ++ s) _ a6').mono ?_; rintro e w' ⟨rfl, rfl⟩; exact ⟨rfl, ct0⟩))); (intro wq hq; (first | (rw [HCf.out] at hq; subst hq) | (rw [HCt.out] at hq; subst hq)); unfold QP.oat; go_simp; first | exact ⟨by assumption, rfl⟩ | assumption | (first | (refine (wbytes_any _ (P ++ s) _ a5').mono ?_; rintro e w' ⟨rfl, rfl⟩; exact ⟨rfl, cf0⟩) | (refine (wbytes_any _ (P ++ s) _ a6').mono ?_; rintro e w' ⟨rfl, rfl⟩; exact ⟨rfl, ct0⟩))))
              clear hK K))
      refine QP.wpQ_nil ?_
      intro wz hz
      rw [HCt.out] at hz
      subst hz
      go_wp2
      go_ret
      exact ⟨rfl, by rw [hn]; exact d6⟩
end Go.Proofs.Ytiilgkhndfnkgaa
