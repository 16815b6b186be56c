/- What Get tells of any bytes; the conditions are that the tables are laid, and the length. -/
import Derived.Test.YtiilgkhndfnkgaaDoorJoC
import Derived.Test.YtiilgkhndfnkgaaDoorChain
namespace Go.Proofs.YtiilgkhndfnkgaaDoor
open Oc
open Go.RowKit
set_option linter.unusedVariables false
theorem kw_lt (s : ByteArray) : kw s < 65536 ∧ rdN (rdS s 8) 2 = (kw s : Nat) := by
  have h0 : 0 ≤ rdN (rdS s 8) 2 := by unfold rdN; split; exact Int.le_refl _; exact val_nonneg _
  have h1 : rdN (rdS s 8) 2 < 65536 := by
    unfold rdN; split
    · decide
    · have := val_lt ((rdS s 8).data.toList.take (2 : Int).toNat)
      have hl : ((rdS s 8).data.toList.take (2 : Int).toNat).length ≤ 2 := by rw [List.length_take]; exact Nat.min_le_left _ _
      refine Int.lt_of_lt_of_le this ?_
      have h3 : (256 : Int) ^ ((rdS s 8).data.toList.take (2 : Int).toNat).length ≤ 256 ^ 2 := (by decide : ∀ l, l < 3 → (256 : Int) ^ l ≤ 256 ^ 2) _ (by omega)
      exact h3
  unfold kw; omega
theorem rdN_8 (s : ByteArray) : 0 ≤ rdN s 8 ∧ rdN s 8 ≤ 18446744073709551615 := by
  have h0 : 0 ≤ rdN s 8 := by unfold rdN; split; exact Int.le_refl _; exact val_nonneg _
  refine ⟨h0, ?_⟩
  unfold rdN; split
  · decide
  · have := val_lt (s.data.toList.take (8 : Int).toNat)
    have hl : (s.data.toList.take (8 : Int).toNat).length ≤ 8 := by rw [List.length_take]; exact Nat.min_le_left _ _
    have h3 : (256 : Int) ^ (s.data.toList.take (8 : Int).toNat).length ≤ 256 ^ 8 := (by decide : ∀ l, l < 9 → (256 : Int) ^ l ≤ 256 ^ 8) _ (by omega)
    have h4 : (256 : Int) ^ 8 = 18446744073709551616 := by decide
    omega
set_option maxHeartbeats 2000000 in
set_option maxRecDepth 100000 in
theorem get_any (s : ByteArray) (w : World) (ht : Tabs w) (hs : s.size ≤ 1000000000) :
    Calls Tryd.prog 13 #[.string s] w fun e w' => e = .returned (.tuple #[.int .u64 (getR s).n, .string (getR s).t, .int .i64 (getR s).w, .int .i64 (getR s).e]) ∧ Below w.heap.size w w' := by
  have em : s.toList.isEmpty = decide (s.size = 0) := empty_iff s
  by_cases h0 : s.size = 0
  · have e0 : getR s = ⟨0, .empty, 0, 3⟩ := by unfold getR; rw [if_pos h0]
    rw [e0]
    have em : s.toList.isEmpty = true := by rw [em, h0]; rfl
    clear ht e0
    go_enter Tryd.func13, Tryd.ntmps13
    go_wp2
    exact bodyPost_ret (by simp [results, Tryd.results13, asAddr]; rfl) rfl ⟨rfl, Below.refl _ _⟩
  have em : s.toList.isEmpty = false := by rw [em]; simp [h0]
  by_cases h1 : s.size < 10
  · have e0 : getR s = ⟨0, .empty, 0, 10⟩ := by unfold getR; rw [if_neg h0, if_pos h1]
    rw [e0]
    clear ht e0
    go_enter Tryd.func13, Tryd.ntmps13
    go_wp2
    exact bodyPost_ret (by simp [results, Tryd.results13, asAddr]; rfl) rfl ⟨rfl, Below.refl _ _⟩
  obtain ⟨m, hm⟩ : ∃ m, w.heap.size = m := ⟨_, rfl⟩
  have h1m : 1 < m := hm ▸ ht.lt
  obtain ⟨k1, k2⟩ := kw_lt s
  obtain ⟨n1, n2⟩ := rdN_8 s
  have e8 : rdE s 8 = 0 := by unfold rdE; rw [if_neg (by omega), if_neg (by omega)]
  have z8 : (rdS s 8).size = s.size - 8 := by unfold rdS; rw [if_neg (by omega), ByteArray.size_extract]; simp
  have c0 := new_any s w
  have a1 : At (w.alloc (.cells #[.string s] 68)) ⟨m, 0, none⟩ s := hm ▸ at_new w s 68
  have b1 : Below m w (w.alloc (.cells #[.string s] 68)) := (Below.refl _ _).alloc (by omega) _
  have s1 : m < (w.alloc (.cells #[.string s] 68)).heap.size := by simp; omega
  obtain ⟨w1, hw1⟩ : ∃ w1, w.alloc (.cells #[.string s] 68) = w1 := ⟨_, rfl⟩
  rw [hw1] at a1 b1 s1 c0
  rw [hm] at c0
  have c1 := rdnum_any ⟨m, 0, none⟩ s 8 w1 a1 (by omega)
  rw [e8] at c1
  have c2 := fun v h => rdnum_any ⟨m, 0, none⟩ (rdS s 8) 2 v h (by omega)
  have e9 : rdE (rdS s 8) 2 = 0 := by unfold rdE; rw [if_neg (by omega), if_neg (by omega)]
  rw [e9, k2] at c2
  have cs := fun v (hb : Below m w v) => jsum_any (s.extract 0 (10 + kw s)) v (ht.below hb h1m) (by rw [ByteArray.size_extract]; omega)
  have HCS := Lib.hid cs
  have HM := Lib.hid hm; have C0 := Lib.hid c0; have C1 := Lib.hid c1; have C2 := Lib.hid c2; have B1 := Lib.hid b1; have S1 := Lib.hid s1; have A1 := Lib.hid a1
  have DEF : Hid (getR s = if 1024 < kw s then ⟨0, .empty, 0, 12⟩ else if s.size < 14 + kw s then ⟨0, .empty, 0, 10⟩ else
      if s.extract (10 + kw s) (14 + kw s) ≠ sum4 (s.extract 0 (10 + kw s)) then ⟨0, .empty, 0, 170⟩ else ⟨rdN s 8, s.extract 10 (10 + kw s), (14 + kw s : Nat), 0⟩) := Lib.hid (by
    conv => lhs; unfold getR
    rw [if_neg h0, if_neg h1])
  clear ht hm hw1 a1 b1 s1 c0 c1 c2 cs e8 e9 k2 z8
  generalize rdN s 8 = NN at *
  generalize kw s = k at *
  generalize getR s = G at *
  have x0 : (s.extract 0 (10 + k)).size ≤ 9223372036854775807 := by rw [ByteArray.size_extract]; omega
  go_enter Tryd.func13, Tryd.ntmps13
  go_wp2_with fail
  refine (C0.out).mono ?_
  rintro e v1 ⟨rfl, rfl⟩
  go_wp2_with fail
  refine (C1.out).mono ?_
  rintro e v2 ⟨rfl, b2⟩
  have s2 : m < v2.heap.size := by have h1 := b2.size; have h2 := S1.out; simp at h1; omega
  have a2 := A1.out.written b2 S1.out
  have b2' := below_own B1.out (Nat.le_refl _) (Nat.le_of_lt S1.out) b2
  have S2 := Lib.hid s2; have A2 := Lib.hid a2; have B2 := Lib.hid b2'
  clear b2 s2 a2 b2'
  go_wp2_with fail
  refine (C2.out _ A2.out).mono ?_
  rintro e v3 ⟨rfl, b3⟩
  have s3 : m < v3.heap.size := by have h1 := b3.size; have h2 := S2.out; simp at h1; omega
  have B3 := Lib.hid (below_own B2.out (Nat.le_refl _) (Nat.le_of_lt S2.out) b3)
  have S3 := Lib.hid s3
  clear b3 s3 C0 C1 C2 A1 A2 B1 B2
  by_cases g1 : 1024 < k
  · have e0 : G = ⟨0, .empty, 0, 12⟩ := by rw [DEF.out, if_pos g1]
    subst e0
    go_wp2
    exact bodyPost_ret (by simp [results, Tryd.results13, asAddr]; rfl) rfl ⟨rfl, HM.out ▸ B3.out⟩
  by_cases g2 : s.size < 14 + k
  · have e0 : G = ⟨0, .empty, 0, 10⟩ := by rw [DEF.out, if_neg g1, if_pos g2]
    subst e0
    go_wp2
    exact bodyPost_ret (by simp [results, Tryd.results13, asAddr]; rfl) rfl ⟨rfl, HM.out ▸ B3.out⟩
  have x1 : (10 : Int) + (k : Int) ≤ s.size := by omega
  have q3 : IntKind.i64.wrap ((k : Nat) : Int) = (k : Nat) := by rw [IntKind.wrap_i64]; omega
  have G1 := Lib.hid g1; have G2 := Lib.hid g2
  have hx2 : s.extract 10 ((10 : Int) + (k : Nat)).toNat = s.extract 10 (10 + k) := by congr 1
  go_wp2
  obtain ⟨K, hK⟩ : ∃ K : Int, 10 + (k : Int) = K := ⟨_, rfl⟩
  obtain ⟨K4, hK4⟩ : ∃ K4 : Int, 14 + (k : Int) = K4 := ⟨_, rfl⟩
  rw [hK] at hx2
  rw [hK]
  have q2 : IntKind.i64.wrap (K + 4) = K4 := by rw [IntKind.wrap_i64]; omega
  have o1 : K ≤ K4 := by omega
  have o2 : K4 ≤ (s.size : Nat) := by omega
  have o3 : K ≤ (s.size : Nat) := by omega
  have o4 : 10 ≤ K := by omega
  have o5 : 0 ≤ K := by omega
  have o6 : 0 ≤ K4 := by omega
  have t1 : K.toNat = 10 + k := by omega
  have t2 : K4.toNat = 14 + k := by omega
  have T3 := Lib.hid (show ((14 + k : Nat) : Int) = K4 by omega)
  clear hK hK4 g2 g1
  refine QC.wp_region_d [8] [0, 1, 2, 3, 4, 5, 6, 7, 8, 9] (by kernel_rfl) (by kernel_rfl) (fun u d => ?_)
  have BU := Lib.hid (B3.out.trans (d.below (n := m)))
  have CSU := Lib.hid (HCS.out u BU.out)
  have hdu := d.size
  clear d
  have MU := Lib.hid (show m < u.heap.size by rw [hdu]; exact S3.out)
  clear hdu
  by_cases hE : s.extract (10 + k) (14 + k) = sum4 (s.extract 0 (10 + k))
  · have e0 : G = ⟨NN, s.extract 10 (10 + k), K4, 0⟩ := by rw [DEF.out, if_neg G1.out, if_neg G2.out, if_neg (by simpa using hE), T3.out]
    subst e0
    have heq : ((s.extract (10 + k) (14 + k)).toList == (sum4 (s.extract 0 (10 + k))).toList) = true := by rw [hE]; simp
    clear DEF HCS hE
    generalize sum4 (s.extract 0 (10 + k)) = Y at *
    iterate 8
      (first
       | (apply QC.wpC_load
          (focus rfl)
          (focus decide)
          (focus rfl)
          (focus rfl)
          (focus rfl)
          (focus (assumption))
          (focus (intro u hu; go_simp))
          intro K hK
          go_simp
          refine hK _ ?_
          clear hK K)
       | (apply QC.wpC_pure
          (focus rfl)
          (focus decide)
          intro K hK
          go_simp
          first
           | (refine hK _ ?_; clear hK K)
           | (apply Exists.intro
              refine ⟨fun u => ?_, hK _ ?_⟩
              (focus (unfold QP.oat; go_simp; first | done | exact ⟨rfl, rfl⟩ | exact rfl))
              clear hK K)))
    apply QC.wpC_eff
    (focus rfl)
    (focus decide)
    go_wp2_with fail
    refine (CSU.out).mono ?_
    rintro e v4 ⟨rfl, b4⟩
    have B4 := Lib.hid (BU.out.trans (b4.mono (Nat.le_of_lt MU.out)))
    clear b4
    go_wp2
    refine QC.eff_ok rfl ?_ ?_
    · (repeat (first | exact QC.obl_nil | refine QC.obl_is (by assumption) ?_ | (apply QC.obl_dep; (focus decide))))
    iterate 1
      (first
       | (apply QC.wpC_load
          (focus rfl)
          (focus decide)
          (focus rfl)
          (focus rfl)
          (focus rfl)
          (focus (assumption))
          (focus (intro u hu; go_simp))
          intro K hK
          go_simp
          refine hK _ ?_
          clear hK K)
       | (apply QC.wpC_pure
          (focus rfl)
          (focus decide)
          intro K hK
          go_simp
          first
           | (refine hK _ ?_; clear hK K)
           | (apply Exists.intro
              refine ⟨fun u => ?_, hK _ ?_⟩
              (focus (unfold QP.oat; go_simp; first | done | exact ⟨rfl, rfl⟩ | exact rfl))
              clear hK K)))
    refine QC.wpC_nil ?_
    go_wp2
    refine QC.wp_region_d [] [0, 1, 2, 3, 4, 5, 6, 7, 8, 9] (by kernel_rfl) (by kernel_rfl) (fun u2 d2 => ?_)
    have B5 := Lib.hid (B4.out.trans (d2.below (n := m)))
    clear d2
    iterate 10
      (first
       | (apply QC.wpC_load
          (focus rfl)
          (focus decide)
          (focus rfl)
          (focus rfl)
          (focus rfl)
          (focus (assumption))
          (focus (intro u hu; go_simp))
          intro K hK
          go_simp
          refine hK _ ?_
          clear hK K)
       | (apply QC.wpC_pure
          (focus rfl)
          (focus decide)
          intro K hK
          go_simp
          first
           | (refine hK _ ?_; clear hK K)
           | (apply Exists.intro
              refine ⟨fun u => ?_, hK _ ?_⟩
              (focus (unfold QP.oat; go_simp; first | done | exact ⟨rfl, rfl⟩ | exact rfl))
              clear hK K)))
    refine QC.wpC_nil ?_
    go_wp2
    exact bodyPost_ret (by simp [results, Tryd.results13, asAddr]) rfl ⟨rfl, HM.out ▸ B5.out⟩
  · have e0 : G = ⟨0, .empty, 0, 170⟩ := by rw [DEF.out, if_neg G1.out, if_neg G2.out, if_pos (by simpa using hE)]
    subst e0
    have heq : ((s.extract (10 + k) (14 + k)).toList == (sum4 (s.extract 0 (10 + k))).toList) = false := by
      rw [beq_eq_false_iff_ne]; intro h; rw [ByteArray.toList_eq, ByteArray.toList_eq] at h; exact hE (ByteArray.ext (Array.ext' h))
    clear DEF HCS hE
    generalize sum4 (s.extract 0 (10 + k)) = Y at *
    iterate 8
      (first
       | (apply QC.wpC_load
          (focus rfl)
          (focus decide)
          (focus rfl)
          (focus rfl)
          (focus rfl)
          (focus (assumption))
          (focus (intro u hu; go_simp))
          intro K hK
          go_simp
          refine hK _ ?_
          clear hK K)
       | (apply QC.wpC_pure
          (focus rfl)
          (focus decide)
          intro K hK
          go_simp
          first
           | (refine hK _ ?_; clear hK K)
           | (apply Exists.intro
              refine ⟨fun u => ?_, hK _ ?_⟩
              (focus (unfold QP.oat; go_simp; first | done | exact ⟨rfl, rfl⟩ | exact rfl))
              clear hK K)))
    apply QC.wpC_eff
    (focus rfl)
    (focus decide)
    go_wp2_with fail
    refine (CSU.out).mono ?_
    rintro e v4 ⟨rfl, b4⟩
    have B4 := Lib.hid (BU.out.trans (b4.mono (Nat.le_of_lt MU.out)))
    clear b4
    go_wp2
    refine QC.eff_ok rfl ?_ ?_
    · (repeat (first | exact QC.obl_nil | refine QC.obl_is (by assumption) ?_ | (apply QC.obl_dep; (focus decide))))
    iterate 1
      (first
       | (apply QC.wpC_load
          (focus rfl)
          (focus decide)
          (focus rfl)
          (focus rfl)
          (focus rfl)
          (focus (assumption))
          (focus (intro u hu; go_simp))
          intro K hK
          go_simp
          refine hK _ ?_
          clear hK K)
       | (apply QC.wpC_pure
          (focus rfl)
          (focus decide)
          intro K hK
          go_simp
          first
           | (refine hK _ ?_; clear hK K)
           | (apply Exists.intro
              refine ⟨fun u => ?_, hK _ ?_⟩
              (focus (unfold QP.oat; go_simp; first | done | exact ⟨rfl, rfl⟩ | exact rfl))
              clear hK K)))
    refine QC.wpC_nil ?_
    go_wp2
    exact bodyPost_ret (by simp [results, Tryd.results13, asAddr]; rfl) rfl ⟨rfl, HM.out ▸ B4.out⟩
end Go.Proofs.YtiilgkhndfnkgaaDoor
