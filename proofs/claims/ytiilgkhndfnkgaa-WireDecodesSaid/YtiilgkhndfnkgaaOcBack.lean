/- The walk of the law OctetBack over the contracts: it returns true; the conditions are the ranges of the kinds. -/
import Derived.Test.YtiilgkhndfnkgaaOcVal
import Derived.Deep.WholeRow
import Derived.Test.YtiilgkhndfnkgaaOcEq
namespace Go.Proofs.Ytiilgkhndfnkgaa
open Go.RowKit
set_option linter.unusedVariables false

theorem wpList_load_row_g {P : Program} {ops : Array Oper} {rest : List Oper} {o : Oper} {a : Act} {w : World} {Q : Exit → Act → World → Prop} (hw : Region.wanted o (yielded ops a.tmps) = true) (ty : TypeId) (x : Operand) (ho : o.op = .load ty x)
    (g : Nat) (hx : a.eval x = .pointer (some ⟨g, 0, none⟩)) (t : TypeId) (cs : Array Value) (fr : Nat × Nat) (d : TypeDesc) (hg : w.heap[g]? = some (.cells cs t fr))
    (hu : P.underlying ty = some d) (hd : (match d with | .struct _ | .array _ _ => true | _ => false) = true) (hi : (P.info? ty).map (·.size) = some cs.size)
    (h : wpList P ops Q rest (a.put o.dst (.agg cs)) w) : wpList P ops Q (o :: rest) a w :=
  wpList_step fun K hK => by rw [if_pos hw]; exact wp_load_row ty x ho g hx t cs fr d hg hu hd hi (hK _ _ h)

/-- the hash lies in block n, the writer in n + 1 -/
structure BK (n : Nat) (w : World) (C : Array Value) (p : ByteArray) (v : World) : Prop where
  row : v.heap[n]? = some (.cells C 33 (0, 0))
  atw : At v ⟨n + 1, 0, none⟩ p
  below : Below n w v
theorem BK.lt {n : Nat} {w : World} {C : Array Value} {p : ByteArray} {v : World} (h : BK n w C p v) : n + 1 < v.heap.size := World.block_lt_of_cell? v _ h.atw.cell
theorem BK.same {n : Nat} {w : World} {C : Array Value} {p : ByteArray} {v v' : World} (h : BK n w C p v) (hb : Below v.heap.size v v') : BK n w C p v' := by
  have hl := h.lt
  exact ⟨by rw [hb.block _ (by omega)]; exact h.row, h.atw.below hb hl, h.below.trans (hb.mono (by omega))⟩
theorem BK.write {n : Nat} {w : World} {C : Array Value} {p q : ByteArray} {v v' : World} (h : BK n w C p v) (hb : Below v.heap.size (v.setCell ⟨n + 1, 0, none⟩ (.string q)) v') : BK n w C q v' := by
  have hl := h.lt
  exact ⟨by rw [hb.block _ (by omega), Below.heap_setCell _ _ _ _ (by show n ≠ n + 1; omega)]; exact h.row, h.atw.written hb hl, below_own h.below (by show n ≤ n + 1; omega) (by omega) hb⟩
theorem BK.other {n : Nat} {w : World} {C : Array Value} {p q : ByteArray} {v v' : World} {g : Nat} (h : BK n w C p v) (hg : n + 1 < g) (hb : Below v.heap.size (v.setCell ⟨g, 0, none⟩ (.string q)) v') : BK n w C p v' := by
  have hl := h.lt
  exact ⟨by rw [hb.block _ (by omega), Below.heap_setCell _ _ _ _ (by show n ≠ g; omega)]; exact h.row, h.atw.writer hb hl (by show g ≠ n + 1; omega), below_own h.below (by show n ≤ g; omega) (by omega) hb⟩

set_option maxRecDepth 100000 in
set_option maxHeartbeats 4000000 in
/-- behind the number's bound: k the width, N the number -/
theorem back_walk (a wd : Int) (hl : List Int) (s : ByteArray) (w : World) (a0 : 0 ≤ a) (a1 : a ≤ 18446744073709551615) (w0 : 0 ≤ wd) (w1 : wd ≤ 255) (hlen : hl.length = 32) (hin : ∀ n ∈ hl, 0 ≤ n ∧ n ≤ 255) :
    Calls Try.prog 8 #[.int .u64 a, .int .u8 wd, hashV hl, .string s] w (Fine w) := by
  obtain ⟨k, hk⟩ : ∃ k : Nat, 1 + wd % 8 = (k : Int) := ⟨(1 + wd % 8).toNat, by omega⟩
  have k1 : 1 ≤ (k : Int) := by omega
  have k8 : (k : Int) ≤ 8 := by omega
  obtain ⟨C, hC⟩ : ∃ C, (ints hl).toArray = C := ⟨_, rfl⟩
  have hV : hashV hl = .agg C := by rw [← hC]; rfl
  have hrow := heap_alloc_new w (.cells C 33)
  rw [hV]
  obtain ⟨n, hn⟩ : ∃ n, w.heap.size = n := ⟨_, rfl⟩
  have hCs : C.size = 32 := by rw [← hC]; simp [ints, hlen]
  have hCo : C.all (·.oneCell') = true := by rw [← hC, List.all_toArray, List.all_eq_true]; intro x hx; obtain ⟨y, _, rfl⟩ := List.mem_map.1 hx; rfl
  have i33 : (Try.prog.info? 33).map (·.size) = some C.size := by rw [hCs]; kernel_rfl
  have b0 : BK n w C ⟨#[]⟩ ((w.alloc (.cells C 33)).alloc (.cells #[.string ⟨#[]⟩] 25)) := by
    subst hn
    exact ⟨heap_alloc2_old w _ _, ⟨by go_simp, by go_simp⟩, ((Below.refl _ _).alloc (Nat.le_refl _) _).alloc (by simp) _⟩
  by_cases hs : 64 < s.size
  · obtain ⟨P, hP⟩ : ∃ P, (256 : Int) ^ k = P := ⟨_, rfl⟩
    have hsh : (2 : Int) ^ (8 * (k : Int)).toNat = P := by rw [pow8]; exact hP
    have hpos : 0 < P := by rw [← hP]; exact Int.pow_pos (by decide)
    have Pr : (k : Int) < 8 → P ≤ 72057594037927936 := fun h => by
      rw [← hP]
      have : (256 : Nat) ^ k ≤ 256 ^ 7 := Nat.pow_le_pow_right (by decide) (by omega)
      have e : ∀ k : Nat, ((256 : Int) ^ k) = ((256 ^ k : Nat) : Int) := fun k => by simp
      rw [e]; omega
    clear hP hV hC hrow hCo i33
    generalize (k : Int) = K at *
    have g2 : wrap64 (8 * K) = 8 * K := IntWalk.wrap64_in _ ⟨by omega, by omega⟩
    by_cases hk8 : K < 8
    · have PR := Pr hk8
      clear Pr
      go_enter Try.func8, Try.ntmps8
      go_wp2_with fail
      generalize hW0 : (w.alloc (.cells C 33)).alloc (.cells #[.string ⟨#[]⟩] 25) = v0 at *
      refine (shown_any v0).mono ?_
      rintro e v1 ⟨rfl, g1⟩
      have b1 := b0.same g1
      go_wp2
      go_ret
      exact ⟨rfl, by rw [hn]; exact b1.below⟩
    · clear Pr
      go_enter Try.func8, Try.ntmps8
      go_wp2_with fail
      generalize hW0 : (w.alloc (.cells C 33)).alloc (.cells #[.string ⟨#[]⟩] 25) = v0 at *
      refine (shown_any v0).mono ?_
      rintro e v1 ⟨rfl, g1⟩
      have b1 := b0.same g1
      go_wp2
      go_ret
      exact ⟨rfl, by rw [hn]; exact b1.below⟩
  · obtain ⟨P, hP⟩ : ∃ P, (256 : Int) ^ k = P := ⟨_, rfl⟩
    have hsh : (2 : Int) ^ (8 * (k : Int)).toNat = P := by rw [pow8]; exact hP
    obtain ⟨N, hN⟩ : ∃ N, N = (if (k : Int) < 8 then a % P else a) := ⟨_, rfl⟩
    have hpos : 0 < P := by rw [← hP]; exact Int.pow_pos (by decide)
    have N0 : 0 ≤ N := by rw [hN]; split; exact Int.emod_nonneg a (Int.ne_of_gt hpos); exact a0
    have N1 : N < 256 ^ k := by
      rw [hP, hN]; split
      · exact Int.emod_lt_of_pos a hpos
      · have : k = 8 := by omega
        rw [← hP, this]; omega
    have N2 : N ≤ 18446744073709551615 := by
      have h8 : (256 : Nat) ^ k ≤ 256 ^ 8 := Nat.pow_le_pow_right (by decide) (by omega)
      have e : ∀ k : Nat, ((256 : Int) ^ k) = ((256 ^ k : Nat) : Int) := fun k => by simp
      rw [e] at N1; omega
    obtain ⟨eN, eB⟩ := numE_fit N0 N1 (by omega) (by omega)
    have n1 := fun p w' h => number_any N k p ⟨#[]⟩ w' N0 N2 (by decide) h
    rw [eN, eB, nil_append] at n1
    obtain ⟨P1, hP1⟩ : ∃ P1, strOfNums (low N k) = P1 := ⟨_, rfl⟩
    have sP1 : P1.size = k := by rw [← hP1, strOfNums_size, low_len]
    obtain ⟨Q, hQ⟩ : ∃ Q, strOfNums [(s.size : Int)] ++ s = Q := ⟨_, rfl⟩
    have sQ : Q.size = 1 + s.size := by rw [← hQ, pre_size]
    obtain ⟨H, hH⟩ : ∃ H, strOfNums hl = H := ⟨_, rfl⟩
    have sH : H.size = 32 := by rw [← hH, strOfNums_size, hlen]
    have n2 := fun p w' h => wtext_any s p P1 w' (by omega) h
    have eT : txtE s = 0 := if_pos (by omega)
    have eTB : txtB s = strOfNums [(s.size : Int)] ++ s := if_pos (by omega)
    rw [eT, eTB, hQ] at n2
    have n3 := fun p w' h => whash_any hl p (P1 ++ Q) w' hlen (by rw [ByteArray.size_append]; omega) h
    rw [hH, hV] at n3
    rw [hP1] at n1
    obtain ⟨P3, hP3⟩ : ∃ P3, P1 ++ Q ++ H = P3 := ⟨_, rfl⟩
    have sP3 : P3.size = k + 1 + s.size + 32 := by rw [← hP3, ByteArray.size_append, ByteArray.size_append]; omega
    rw [hP3] at n3
    have rd := rdN_low N k (Q ++ H) N0 N1 (by omega) (by omega)
    rw [hP1, ← ByteArray.append_assoc, hP3] at rd
    have rt := rt_text s H (by omega)
    rw [hQ] at rt
    have rh := rh_hash hl hlen hin
    rw [hH] at rh
    have n4 := fun r w' h => rdnum_any r P3 k w' h (by omega)
    rw [rd.1, rd.2.1, rd.2.2] at n4
    have n5 := fun r w' h => rdtext_any r (Q ++ H) w' h (by rw [ByteArray.size_append]; omega)
    rw [rt.1, rt.2.1, rt.2.2] at n5
    have n6 := fun r w' h => rdhash_any r H w' h (by omega)
    rw [rh.1, rh.2.1, rh.2.2, hV] at n6
    have NUM := Lib.hid n1; have TXT := Lib.hid n2; have HSH := Lib.hid n3; have RN := Lib.hid n4; have RT := Lib.hid n5; have RHS := Lib.hid n6
    have Pr : k < 8 → P ≤ 72057594037927936 := fun h => by
      rw [← hP]
      have : (256 : Nat) ^ k ≤ 256 ^ 7 := Nat.pow_le_pow_right (by decide) (by omega)
      have e : ∀ k : Nat, ((256 : Int) ^ k) = ((256 ^ k : Nat) : Int) := fun k => by simp
      rw [e]; omega
    have hSP : (P3.size : Int) = (k : Int) + 1 + s.size + 32 := by omega
    have SP := Lib.hid hSP
    clear hSP
    have heq := fun W => hash_eq hl hlen W
    rw [hC] at heq
    clear n1 n2 n3 n4 n5 n6 rd rt rh eN eB eT eTB hP1 hP3 hQ hH sP1 sQ sH sP3 hP hV hC hrow N1
    have hkk : ¬ (k : Int) < 8 → (k : Int) = 8 := by omega
    have Pr' : (k : Int) < 8 → P ≤ 72057594037927936 := fun h => Pr (by omega)
    have HN := Lib.hid hN
    clear Pr hN
    generalize (k : Int) = K at *
    have g2 : wrap64 (8 * K) = 8 * K := IntWalk.wrap64_in _ ⟨by omega, by omega⟩
    by_cases hk8 : K < 8
    · have hNa : a % P = N := by rw [HN.out, if_pos hk8]
      have PR := Pr' hk8
      clear hkk Pr'
      go_enter Try.func8, Try.ntmps8
      go_wp2_with fail
      generalize hW0 : (w.alloc (.cells C 33)).alloc (.cells #[.string ⟨#[]⟩] 25) = v0 at *
      refine (shown_any v0).mono ?_
      rintro e v1 ⟨rfl, g1⟩
      have b1 := b0.same g1
      clear g1
      go_wp2_with fail
      refine (NUM.out _ _ b1.atw).mono ?_
      rintro e v2 ⟨rfl, g2⟩
      have b2 := b1.write g2
      clear g2
      go_wp2_with fail
      refine (TXT.out _ _ b2.atw).mono ?_
      rintro e v3 ⟨rfl, g3⟩
      have b3 := b2.write g3
      clear g3
      have r3 := b3.row
      go_wp2_with (refine wpList_load_row (x := .tmp 6) (ty := 33) (g := n) (cs := C) (t := 33) (fr := (0, 0)) ?_ ?_ ?_ _ r3 Try.underlying33 rfl i33 ?_; rfl; rfl; rfl)
      refine (HSH.out _ _ b3.atw).mono ?_
      rintro e v4 ⟨rfl, g4⟩
      have b4 := b3.write g4
      clear g4 r3
      go_wp2_with fail
      refine (wbytes_any _ _ v4 b4.atw).mono ?_
      rintro e v5 ⟨rfl, rfl⟩
      go_wp2_with fail
      refine (new_any _ v4).mono ?_
      rintro e v5 ⟨rfl, rfl⟩
      have q5 := at_new v4 P3 77
      have b5 := b4.same ((Below.refl _ v4).alloc (Nat.le_refl _) (.cells #[.string P3] 77))
      have hq : n + 1 < v4.heap.size := b4.lt
      have z5 : v4.heap.size < (v4.alloc (.cells #[.string P3] 77)).heap.size := by simp
      generalize v4.alloc (.cells #[.string P3] 77) = v5 at *
      generalize v4.heap.size = q at *
      go_wp2_with fail
      refine (RN.out _ _ q5).mono ?_
      rintro e v6 ⟨rfl, g6⟩
      have q6 := q5.written g6 z5
      have b6 := b5.other hq g6
      have z6 : q < v6.heap.size := World.block_lt_of_cell? v6 _ q6.cell
      clear g6 q5 b5
      go_wp2_with fail
      refine (RT.out _ _ q6).mono ?_
      rintro e v7 ⟨rfl, g7⟩
      have q7 := q6.written g7 z6
      have b7 := b6.other hq g7
      have z7 : q < v7.heap.size := World.block_lt_of_cell? v7 _ q7.cell
      clear g7 q6 b6
      go_wp2_with fail
      refine (RHS.out _ _ q7).mono ?_
      rintro e v8 ⟨rfl, g8⟩
      have q8 := q7.written g8 z7
      have b8 := b7.other hq g8
      have z8 : q < v8.heap.size := World.block_lt_of_cell? v8 _ q8.cell
      clear g8 q7 b7
      have hm : q < v8.heap.size := z8
      obtain ⟨m, hmm⟩ : ∃ m, v8.heap.size = m := ⟨_, rfl⟩
      have r9 := heap_alloc_new v8 (.cells Z32 33)
      have e9 := World.setRow_alloc_new v8 Z32 C 33
      have b9 := b8.same ((Below.refl _ v8).alloc (Nat.le_refl _) (.cells C 33))
      have q9 := q8.below ((Below.refl _ v8).alloc (Nat.le_refl _) (.cells C 33)) z8
      have r10 := heap_alloc_new v8 (.cells C 33)
      rw [hmm] at r9 e9 r10
      have d9 := b9
      rw [← e9] at b9 q9 r10
      have r11 := b9.row
      go_wp2_with (first
        | (refine wpList_store_row (x := .tmp 16) (y := .tmp 70) (cells := C) (old := Z32) (t := 33) (ty := 33) (g := m) ?_ ?_ ?_ ?_ r9 i33 hCs.symm hCo ?_; rfl; rfl; rfl; rfl)
        | (refine wpList_load_row_g (x := .tmp 16) (ty := 33) (g := m) (cs := C) (t := 33) (fr := (0, 0)) ?_ ?_ ?_ _ r10 Try.underlying33 rfl i33 ?_; rfl; rfl; rfl)
        | (refine wpList_load_row_g (x := .tmp 6) (ty := 33) (g := n) (cs := C) (t := 33) (fr := (0, 0)) ?_ ?_ ?_ _ r11 Try.underlying33 rfl i33 ?_; rfl; rfl; rfl))
      go_wp2_with fail
      refine (end_any _ _ _ q9).mono ?_
      rintro e v10 ⟨rfl, rfl⟩
      go_wp2_with fail
      refine (wbytes_any _ _ _ d9.atw).mono ?_
      rintro e v10 ⟨rfl, rfl⟩
      have hsp := SP.out
      go_wp2
      go_ret
      exact ⟨rfl, by rw [hn]; exact d9.below⟩
    · have hNa : a = N := by rw [HN.out, if_neg hk8]
      clear Pr' hkk
      go_enter Try.func8, Try.ntmps8
      go_wp2_with fail
      generalize hW0 : (w.alloc (.cells C 33)).alloc (.cells #[.string ⟨#[]⟩] 25) = v0 at *
      refine (shown_any v0).mono ?_
      rintro e v1 ⟨rfl, g1⟩
      have b1 := b0.same g1
      clear g1
      go_wp2_with fail
      refine (NUM.out _ _ b1.atw).mono ?_
      rintro e v2 ⟨rfl, g2⟩
      have b2 := b1.write g2
      clear g2
      go_wp2_with fail
      refine (TXT.out _ _ b2.atw).mono ?_
      rintro e v3 ⟨rfl, g3⟩
      have b3 := b2.write g3
      clear g3
      have r3 := b3.row
      go_wp2_with (refine wpList_load_row (x := .tmp 6) (ty := 33) (g := n) (cs := C) (t := 33) (fr := (0, 0)) ?_ ?_ ?_ _ r3 Try.underlying33 rfl i33 ?_; rfl; rfl; rfl)
      refine (HSH.out _ _ b3.atw).mono ?_
      rintro e v4 ⟨rfl, g4⟩
      have b4 := b3.write g4
      clear g4 r3
      go_wp2_with fail
      refine (wbytes_any _ _ v4 b4.atw).mono ?_
      rintro e v5 ⟨rfl, rfl⟩
      go_wp2_with fail
      refine (new_any _ v4).mono ?_
      rintro e v5 ⟨rfl, rfl⟩
      have q5 := at_new v4 P3 77
      have b5 := b4.same ((Below.refl _ v4).alloc (Nat.le_refl _) (.cells #[.string P3] 77))
      have hq : n + 1 < v4.heap.size := b4.lt
      have z5 : v4.heap.size < (v4.alloc (.cells #[.string P3] 77)).heap.size := by simp
      generalize v4.alloc (.cells #[.string P3] 77) = v5 at *
      generalize v4.heap.size = q at *
      go_wp2_with fail
      refine (RN.out _ _ q5).mono ?_
      rintro e v6 ⟨rfl, g6⟩
      have q6 := q5.written g6 z5
      have b6 := b5.other hq g6
      have z6 : q < v6.heap.size := World.block_lt_of_cell? v6 _ q6.cell
      clear g6 q5 b5
      go_wp2_with fail
      refine (RT.out _ _ q6).mono ?_
      rintro e v7 ⟨rfl, g7⟩
      have q7 := q6.written g7 z6
      have b7 := b6.other hq g7
      have z7 : q < v7.heap.size := World.block_lt_of_cell? v7 _ q7.cell
      clear g7 q6 b6
      go_wp2_with fail
      refine (RHS.out _ _ q7).mono ?_
      rintro e v8 ⟨rfl, g8⟩
      have q8 := q7.written g8 z7
      have b8 := b7.other hq g8
      have z8 : q < v8.heap.size := World.block_lt_of_cell? v8 _ q8.cell
      clear g8 q7 b7
      have hm : q < v8.heap.size := z8
      obtain ⟨m, hmm⟩ : ∃ m, v8.heap.size = m := ⟨_, rfl⟩
      have r9 := heap_alloc_new v8 (.cells Z32 33)
      have e9 := World.setRow_alloc_new v8 Z32 C 33
      have b9 := b8.same ((Below.refl _ v8).alloc (Nat.le_refl _) (.cells C 33))
      have q9 := q8.below ((Below.refl _ v8).alloc (Nat.le_refl _) (.cells C 33)) z8
      have r10 := heap_alloc_new v8 (.cells C 33)
      rw [hmm] at r9 e9 r10
      have d9 := b9
      rw [← e9] at b9 q9 r10
      have r11 := b9.row
      go_wp2_with (first
        | (refine wpList_store_row (x := .tmp 16) (y := .tmp 70) (cells := C) (old := Z32) (t := 33) (ty := 33) (g := m) ?_ ?_ ?_ ?_ r9 i33 hCs.symm hCo ?_; rfl; rfl; rfl; rfl)
        | (refine wpList_load_row_g (x := .tmp 16) (ty := 33) (g := m) (cs := C) (t := 33) (fr := (0, 0)) ?_ ?_ ?_ _ r10 Try.underlying33 rfl i33 ?_; rfl; rfl; rfl)
        | (refine wpList_load_row_g (x := .tmp 6) (ty := 33) (g := n) (cs := C) (t := 33) (fr := (0, 0)) ?_ ?_ ?_ _ r11 Try.underlying33 rfl i33 ?_; rfl; rfl; rfl))
      go_wp2_with fail
      refine (end_any _ _ _ q9).mono ?_
      rintro e v10 ⟨rfl, rfl⟩
      go_wp2_with fail
      refine (wbytes_any _ _ _ d9.atw).mono ?_
      rintro e v10 ⟨rfl, rfl⟩
      have hsp := SP.out
      go_wp2
      go_ret
      exact ⟨rfl, by rw [hn]; exact d9.below⟩
end Go.Proofs.Ytiilgkhndfnkgaa
