/- The walk of the law OctetCut over the contracts: it returns true; the conditions are the ranges of the kinds. -/
import Derived.Test.YtiilgkhndfnkgaaOcCutP
namespace Go.Proofs.Ytiilgkhndfnkgaa
open Go.RowKit
set_option linter.unusedVariables false

/-- the hash lies in block n, the writer in g -/
structure CK (n g : Nat) (w : World) (C : Array Value) (p : ByteArray) (v : World) : Prop where
  ng : n < g
  row : v.heap[n]? = some (.cells C 33 (0, 0))
  atw : At v ⟨g, 0, none⟩ p
  below : Below n w v
theorem CK.lt {n g : Nat} {w : World} {C : Array Value} {p : ByteArray} {v : World} (h : CK n g w C p v) : g < v.heap.size := World.block_lt_of_cell? v _ h.atw.cell
theorem CK.same {n g : Nat} {w : World} {C : Array Value} {p : ByteArray} {v v' : World} (h : CK n g w C p v) (hb : Below v.heap.size v v') : CK n g w C p v' := by
  have hl := h.lt; have hg := h.ng
  exact ⟨hg, by rw [hb.block _ (by omega)]; exact h.row, h.atw.below hb hl, h.below.trans (hb.mono (by omega))⟩
theorem CK.write {n g : Nat} {w : World} {C : Array Value} {p q : ByteArray} {v v' : World} (h : CK n g w C p v) (hb : Below v.heap.size (v.setCell ⟨g, 0, none⟩ (.string q)) v') : CK n g w C q v' := by
  have hl := h.lt; have hg := h.ng
  exact ⟨hg, by rw [hb.block _ (by omega), Below.heap_setCell _ _ _ _ (by show n ≠ g; omega)]; exact h.row, h.atw.written hb hl, below_own h.below (by show n ≤ g; omega) (by omega) hb⟩
theorem CK.other {n g : Nat} {w : World} {C : Array Value} {p q : ByteArray} {v v' : World} {m : Nat} (h : CK n g w C p v) (hm : g < m) (hb : Below v.heap.size (v.setCell ⟨m, 0, none⟩ (.string q)) v') : CK n g w C p v' := by
  have hl := h.lt; have hg := h.ng
  exact ⟨hg, by rw [hb.block _ (by omega), Below.heap_setCell _ _ _ _ (by show n ≠ m; omega)]; exact h.row, h.atw.writer hb hl (by show m ≠ g; omega), below_own h.below (by show n ≤ m; omega) (by omega) hb⟩

theorem rdS_le (s : ByteArray) (wd : Int) : (rdS s wd).size ≤ s.size := by
  unfold rdS; split
  · exact Nat.le_refl _
  · simp
theorem rhS_le (s : ByteArray) : (rhS s).size ≤ s.size := by
  unfold rhS; split
  · exact Nat.le_refl _
  · simp

set_option maxRecDepth 100000 in
set_option maxHeartbeats 4000000 in
theorem cut_walk (a ct : Int) (hl : List Int) (s : ByteArray) (w : World) (a0 : 0 ≤ a) (a1 : a ≤ 18446744073709551615) (c0 : 0 ≤ ct) (c1 : ct ≤ 255) (hlen : hl.length = 32) (hin : ∀ n ∈ hl, 0 ≤ n ∧ n ≤ 255) :
    Calls Try.prog 7 #[.int .u64 a, hashV hl, .string s, .int .u8 ct] w (Fine w) := by
  obtain ⟨C, hC⟩ : ∃ C, (ints hl).toArray = C := ⟨_, rfl⟩
  have hV : hashV hl = .agg C := by rw [← hC]; rfl
  obtain ⟨n, hn⟩ : ∃ n, w.heap.size = n := ⟨_, rfl⟩
  have hCs : C.size = 32 := by rw [← hC]; simp [ints, hlen]
  have hCo : C.all (·.oneCell') = true := by rw [← hC, List.all_toArray, List.all_eq_true]; intro x hx; obtain ⟨y, _, rfl⟩ := List.mem_map.1 hx; rfl
  have i33 : (Try.prog.info? 33).map (·.size) = some C.size := by rw [hCs]; kernel_rfl
  have hrow := heap_alloc_new w (.cells C 33)
  have b0 : Below w.heap.size w (w.alloc (.cells C 33)) := (Below.refl _ _).alloc (Nat.le_refl _) _
  rw [hV]
  by_cases hs : 64 < s.size
  · go_enter Try.func7, Try.ntmps7
    go_wp2_with fail
    refine (shown_any _).mono ?_
    rintro e v1 ⟨rfl, g1⟩
    go_wp2
    go_ret
    exact ⟨rfl, b0.trans (g1.mono (by simp))⟩
  · obtain ⟨k, hk⟩ : ∃ k : Nat, ct % (41 + (s.size : Int)) = (k : Int) := ⟨(ct % (41 + (s.size : Int))).toNat, by have := Int.emod_nonneg ct (b := 41 + (s.size : Int)) (by omega); omega⟩
    have kl : (k : Int) < 41 + s.size := by rw [← hk]; exact Int.emod_lt_of_pos _ (by omega)
    have hA : a < 256 ^ 8 := by
      have e : (256 : Int) ^ 8 = 18446744073709551616 := by decide
      omega
    obtain ⟨eN, eB⟩ := numE_fit (A := a) (k := 8) a0 hA (by omega) (by omega)
    have n2 := fun p w' h => number_any a (8 : Nat) p (strOfNums hl) w' a0 a1 (by rw [strOfNums_size]; omega) h
    rw [eN, eB] at n2
    have n1 := fun p w' h => whash_any hl p ⟨#[]⟩ w' hlen (by decide) h
    rw [nil_append, hV] at n1
    have n3 := fun p w' h => wtext_any s p (strOfNums hl ++ strOfNums (low a 8)) w' (by rw [ByteArray.size_append, strOfNums_size, strOfNums_size, low_len]; omega) h
    have eT : txtE s = 0 := if_pos (by omega)
    have eTB : txtB s = strOfNums [(s.size : Int)] ++ s := if_pos (by omega)
    rw [eT, eTB] at n3
    have hcutA := ext_app (strOfNums hl) (strOfNums (low a 8) ++ (strOfNums [(s.size : Int)] ++ s)) k
    have hcutB := ext_app (strOfNums (low a 8)) (strOfNums [(s.size : Int)] ++ s) (k - 32)
    have sH : (strOfNums hl).size = 32 := by rw [strOfNums_size, hlen]
    have sM : (strOfNums (low a 8)).size = 8 := by rw [strOfNums_size, low_len]
    have sQ := pre_size (s.size : Int) s
    rw [sH] at hcutA
    rw [sM] at hcutB
    rw [← ByteArray.append_assoc] at hcutA
    have sP : (strOfNums hl ++ strOfNums (low a 8) ++ (strOfNums [(s.size : Int)] ++ s)).size = 41 + s.size := by rw [ByteArray.size_append, ByteArray.size_append]; omega
    have rt := rt_cut s (k - 40) (by omega)
    have rdl := rdN_low a 8
    have rhm := rh_more hl
    obtain ⟨H, hH⟩ : ∃ H, strOfNums hl = H := ⟨_, rfl⟩
    obtain ⟨M, hM⟩ : ∃ M, strOfNums (low a 8) = M := ⟨_, rfl⟩
    obtain ⟨Q, hQ⟩ : ∃ Q, strOfNums [(s.size : Int)] ++ s = Q := ⟨_, rfl⟩
    rw [hH, hM, hQ] at hcutA sP
    rw [hM, hQ] at hcutB
    rw [hQ] at rt sQ
    rw [hM] at rdl sM
    rw [hH] at rhm n1 n2
    rw [hH, hM, hQ] at n3
    rw [hM] at n2
    obtain ⟨P3, hP3⟩ : ∃ P3, H ++ M ++ Q = P3 := ⟨_, rfl⟩
    rw [hP3] at hcutA sP n3
    obtain ⟨B, hB⟩ : ∃ B, P3.extract 0 k = B := ⟨_, rfl⟩
    have sB : B.size = k := by rw [← hB]; simp; omega
    have n4 := fun r w' h => rdhash_any r B w' h (by omega)
    have n5 := fun r w' h => rdnum_any r (rhS B) 8 w' h (by have := rhS_le B; omega)
    have n6 := fun r w' h => rdtext_any r (rdS (rhS B) 8) w' h (by have := rhS_le B; have := rdS_le (rhS B) 8; omega)
    have three : (k < 32 ∧ hashV (rhH B) = .agg Z32 ∧ rhE B = 10) ∨ (32 ≤ k ∧ k < 40 ∧ hashV (rhH B) = .agg C ∧ rhE B = 0 ∧ rdE (rhS B) 8 = 10) ∨
        (40 ≤ k ∧ hashV (rhH B) = .agg C ∧ rhE B = 0 ∧ rdE (rhS B) 8 = 0 ∧ rdN (rhS B) 8 = a ∧ rtE (rdS (rhS B) 8) = 10) := by
      by_cases k1 : k < 32
      · refine .inl ⟨k1, ?_, if_pos (by omega)⟩
        unfold rhH; rw [if_pos (by omega), z32_eq]
      · have e := hcutA (by omega)
        rw [hB] at e
        have rr := rhm ((M ++ Q).extract 0 (k - 32)) hlen hin
        rw [← e] at rr
        rw [rr.1, rr.2.1, rr.2.2, hV]
        by_cases k2 : k < 40
        · refine .inr (.inl ⟨by omega, k2, rfl, rfl, ?_⟩)
          have : ((M ++ Q).extract 0 (k - 32)).size = k - 32 := by simp [ByteArray.size_append]; omega
          unfold rdE; rw [if_neg (by omega), if_pos (by omega)]
        · have e2 := hcutB (by omega)
          rw [show k - 32 - 8 = k - 40 by omega] at e2
          have r3 := rdl (Q.extract 0 (k - 40)) a0 hA (by omega) (by omega)
          rw [e2]
          exact .inr (.inr ⟨by omega, rfl, rfl, r3.2.1, r3.1, by rw [show (8 : Int) = ((8 : Nat) : Int) from rfl, r3.2.2]; exact rt (by omega)⟩)
    have heq := fun W => hash_eq hl hlen W
    rw [hC] at heq
    have HSH := Lib.hid n1; have NUM := Lib.hid n2; have TXT := Lib.hid n3; have RHS := Lib.hid n4; have RN := Lib.hid n5; have RT := Lib.hid n6
    have hsp : (P3.size : Int) = 41 + s.size := by omega
    have SP := Lib.hid hsp; have HB := Lib.hid hB; have HK := Lib.hid hk
    have TH := Lib.hid three
    clear n1 n2 n3 n4 n5 n6 hsp hB three hcutA hcutB rt rdl rhm sP sQ sM sH eN eB eT eTB hA hH hM hQ hP3 hV hC
    have b0' : Below n w (w.alloc (.cells C 33)) := hn ▸ b0
    rw [hn] at hrow
    go_enter Try.func7, Try.ntmps7
    go_wp2_with fail
    refine (shown_any _).mono ?_
    rintro e v1 ⟨rfl, g1⟩
    have z0 : (w.alloc (.cells C 33)).heap.size = n + 1 := by simp; exact hn
    have y1 : n < v1.heap.size := by have := g1.size; omega
    have r1 : v1.heap[n]? = some (.cells C 33 (0, 0)) := by rw [g1.block _ (by omega)]; exact hrow
    have d1 : Below n w v1 := b0'.trans (g1.mono (by omega))
    have ck : CK n v1.heap.size w C ⟨#[]⟩ (v1.alloc (.cells #[.string ⟨#[]⟩] 25)) :=
      ⟨y1, by rw [Below.heap_alloc v1 _ n y1]; exact r1, at_new v1 ⟨#[]⟩ 25, d1.alloc (by omega) _⟩
    have r2 := ck.row
    go_wp2_with (refine wpList_load_row (x := .tmp 5) (ty := 33) (g := n) (cs := C) (t := 33) (fr := (0, 0)) ?_ ?_ ?_ _ r2 Try.underlying33 rfl i33 ?_; rfl; rfl; rfl)
    refine (HSH.out _ _ ck.atw).mono ?_
    rintro e v2 ⟨rfl, g2⟩
    have c2 := ck.write g2
    clear g2 r2 ck
    generalize v1.heap.size = g at *
    go_wp2_with fail
    refine (NUM.out _ _ c2.atw).mono ?_
    rintro e v3 ⟨rfl, g3⟩
    have c3 := c2.write g3
    clear g3 c2
    go_wp2_with fail
    refine (TXT.out _ _ c3.atw).mono ?_
    rintro e v4 ⟨rfl, g4⟩
    have c4 := c3.write g4
    clear g4 c3
    go_wp2_with fail
    refine (wbytes_any _ _ v4 c4.atw).mono ?_
    rintro e v5 ⟨rfl, rfl⟩
    have hsp := SP.out
    have hkk := HK.out
    go_wp2_with fail
    rw [HB.out]
    try rw [hkk]
    refine (new_any _ v4).mono ?_
    rintro e v5 ⟨rfl, rfl⟩
    have q5 := at_new v4 B 77
    have c5 := c4.same ((Below.refl _ v4).alloc (Nat.le_refl _) (.cells #[.string B] 77))
    have hq : g < v4.heap.size := c4.lt
    have z5 : v4.heap.size < (v4.alloc (.cells #[.string B] 77)).heap.size := by simp
    generalize v4.alloc (.cells #[.string B] 77) = v5 at *
    generalize v4.heap.size = q at *
    rcases TH.out with ⟨k1, E1, E2⟩ | ⟨k1, k2, E1, E2, E3⟩ | ⟨k1, E1, E2, E3, E4, E5⟩
    · have R1 := RHS.out
      rw [E1, E2] at R1
      have iC : (Try.prog.info? 33).map (·.size) = some Z32.size := by kernel_rfl
      have oC : Z32.all (·.oneCell') = true := by kernel_rfl
      go_wp2_with fail
      refine (R1 _ _ q5).mono ?_
      rintro e v6 ⟨rfl, g6⟩
      have q6 := q5.written g6 z5
      have c6 := c5.other hq g6
      have z6 : q < v6.heap.size := World.block_lt_of_cell? v6 _ q6.cell
      clear g6 q5 c5 R1
      obtain ⟨m, hmm⟩ : ∃ m, v6.heap.size = m := ⟨_, rfl⟩
      have r9 := heap_alloc_new v6 (.cells Z32 33)
      have e9 := World.setRow_alloc_new v6 Z32 Z32 33
      have c7 := c6.same ((Below.refl _ v6).alloc (Nat.le_refl _) (.cells Z32 33))
      have q7 := q6.below ((Below.refl _ v6).alloc (Nat.le_refl _) (.cells Z32 33)) z6
      have r10 := heap_alloc_new v6 (.cells Z32 33)
      rw [hmm] at r9 e9 r10
      have d7 := c7
      have p7 := q7
      rw [← e9] at c7 q7 r10
      have r11 := c7.row
      go_wp2_with (first
        | (refine wpList_store_row (x := .tmp 15) (y := .tmp 54) (cells := Z32) (old := Z32) (t := 33) (ty := 33) (g := m) ?_ ?_ ?_ ?_ r9 iC rfl oC ?_; rfl; rfl; rfl; rfl)
        | (refine wpList_load_row_g (x := .tmp 15) (ty := 33) (g := m) (cs := Z32) (t := 33) (fr := (0, 0)) ?_ ?_ ?_ _ r10 Try.underlying33 rfl iC ?_; rfl; rfl; rfl)
        | (refine wpList_load_row_g (x := .tmp 5) (ty := 33) (g := n) (cs := C) (t := 33) (fr := (0, 0)) ?_ ?_ ?_ _ r11 Try.underlying33 rfl i33 ?_; rfl; rfl; rfl))
      refine (RN.out _ _ q7).mono ?_
      rintro e v8 ⟨rfl, g8⟩
      have c8 := c7.other hq g8
      go_wp2
      go_ret
      exact ⟨rfl, by rw [hn]; exact c8.below⟩
    · have R1 := RHS.out
      rw [E1, E2] at R1
      have iC := i33
      have hSz : C.size = Z32.size := hCs
      have oC := hCo
      go_wp2_with fail
      refine (R1 _ _ q5).mono ?_
      rintro e v6 ⟨rfl, g6⟩
      have q6 := q5.written g6 z5
      have c6 := c5.other hq g6
      have z6 : q < v6.heap.size := World.block_lt_of_cell? v6 _ q6.cell
      clear g6 q5 c5 R1
      obtain ⟨m, hmm⟩ : ∃ m, v6.heap.size = m := ⟨_, rfl⟩
      have r9 := heap_alloc_new v6 (.cells Z32 33)
      have e9 := World.setRow_alloc_new v6 Z32 C 33
      have c7 := c6.same ((Below.refl _ v6).alloc (Nat.le_refl _) (.cells C 33))
      have q7 := q6.below ((Below.refl _ v6).alloc (Nat.le_refl _) (.cells C 33)) z6
      have r10 := heap_alloc_new v6 (.cells C 33)
      rw [hmm] at r9 e9 r10
      have d7 := c7
      have p7 := q7
      rw [← e9] at c7 q7 r10
      have r11 := c7.row
      go_wp2_with (first
        | (refine wpList_store_row (x := .tmp 15) (y := .tmp 54) (cells := C) (old := Z32) (t := 33) (ty := 33) (g := m) ?_ ?_ ?_ ?_ r9 iC hSz.symm oC ?_; rfl; rfl; rfl; rfl)
        | (refine wpList_load_row_g (x := .tmp 15) (ty := 33) (g := m) (cs := C) (t := 33) (fr := (0, 0)) ?_ ?_ ?_ _ r10 Try.underlying33 rfl iC ?_; rfl; rfl; rfl)
        | (refine wpList_load_row_g (x := .tmp 5) (ty := 33) (g := n) (cs := C) (t := 33) (fr := (0, 0)) ?_ ?_ ?_ _ r11 Try.underlying33 rfl i33 ?_; rfl; rfl; rfl))
      have N1 := RN.out
      rw [E3] at N1
      have z7 : q < (v6.alloc (Obj.cells C 33)).heap.size := by simp; omega
      have z7' := z7
      rw [← e9] at z7
      refine (N1 _ _ q7).mono ?_
      rintro e v8 ⟨rfl, g8⟩
      have c8 := c7.other hq g8
      have q8 := q7.written g8 z7
      have z8 : q < v8.heap.size := World.block_lt_of_cell? v8 _ q8.cell
      go_wp2_with fail
      refine (RT.out _ _ q8).mono ?_
      rintro e v9 ⟨rfl, g9⟩
      have c9 := c8.other hq g9
      clear g9 g8
      have HSP := SP.out
      go_wp2
      go_ret
      exact ⟨rfl, by rw [hn]; exact c9.below⟩
    · have R1 := RHS.out
      rw [E1, E2] at R1
      have iC := i33
      have hSz : C.size = Z32.size := hCs
      have oC := hCo
      go_wp2_with fail
      refine (R1 _ _ q5).mono ?_
      rintro e v6 ⟨rfl, g6⟩
      have q6 := q5.written g6 z5
      have c6 := c5.other hq g6
      have z6 : q < v6.heap.size := World.block_lt_of_cell? v6 _ q6.cell
      clear g6 q5 c5 R1
      obtain ⟨m, hmm⟩ : ∃ m, v6.heap.size = m := ⟨_, rfl⟩
      have r9 := heap_alloc_new v6 (.cells Z32 33)
      have e9 := World.setRow_alloc_new v6 Z32 C 33
      have c7 := c6.same ((Below.refl _ v6).alloc (Nat.le_refl _) (.cells C 33))
      have q7 := q6.below ((Below.refl _ v6).alloc (Nat.le_refl _) (.cells C 33)) z6
      have r10 := heap_alloc_new v6 (.cells C 33)
      rw [hmm] at r9 e9 r10
      have d7 := c7
      have p7 := q7
      rw [← e9] at c7 q7 r10
      have r11 := c7.row
      go_wp2_with (first
        | (refine wpList_store_row (x := .tmp 15) (y := .tmp 54) (cells := C) (old := Z32) (t := 33) (ty := 33) (g := m) ?_ ?_ ?_ ?_ r9 iC hSz.symm oC ?_; rfl; rfl; rfl; rfl)
        | (refine wpList_load_row_g (x := .tmp 15) (ty := 33) (g := m) (cs := C) (t := 33) (fr := (0, 0)) ?_ ?_ ?_ _ r10 Try.underlying33 rfl iC ?_; rfl; rfl; rfl)
        | (refine wpList_load_row_g (x := .tmp 5) (ty := 33) (g := n) (cs := C) (t := 33) (fr := (0, 0)) ?_ ?_ ?_ _ r11 Try.underlying33 rfl i33 ?_; rfl; rfl; rfl))
      have N1 := RN.out
      rw [E3, E4] at N1
      have T1 := RT.out
      rw [E5] at T1
      have z7 : q < (v6.alloc (Obj.cells C 33)).heap.size := by simp; omega
      have z7' := z7
      rw [← e9] at z7
      refine (N1 _ _ q7).mono ?_
      rintro e v8 ⟨rfl, g8⟩
      have c8 := c7.other hq g8
      have q8 := q7.written g8 z7
      have z8 : q < v8.heap.size := World.block_lt_of_cell? v8 _ q8.cell
      go_wp2_with fail
      refine (T1 _ _ q8).mono ?_
      rintro e v9 ⟨rfl, g9⟩
      have c9 := c8.other hq g9
      clear g9 g8
      have HSP := SP.out
      go_wp2
      go_ret
      exact ⟨rfl, by rw [hn]; exact c9.below⟩
end Go.Proofs.Ytiilgkhndfnkgaa
