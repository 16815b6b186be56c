/- A journal that is recovered has the same bytes and goes on with the next number: the walk of JournalBack; the condition is that the tables are laid. -/
import Derived.Test.YtiilgkhndfnkgaaDoorJoG
namespace Go.Proofs.YtiilgkhndfnkgaaDoor
open Oc
open Go.RowKit
set_option linter.unusedVariables false
section
variable {n : Nat} {w0 v v' : World} {a c jb m : Nat} {B : ByteArray} {X X' : Ths}
theorem Jn2.lit {a' jb' m' : Nat} {B' : ByteArray} (h : Jn2 n w0 a jb m B a' jb' m' B' X v) (hn : New c X) (d1 : c ≠ a) (d2 : c ≠ a + 1) (d3 : c ≠ a') (d4 : c ≠ a' + 1) (t : TypeId) (sz k : Nat) (cs : Array Value) (hm : k ≤ maxLen) (hs : cs.size = k * sz) :
    Jn2 n w0 a jb m B a' jb' m' B' ((c, .own t sz (.slice (some ⟨v.heap.size, 0, none⟩) k k) k cs.toList) :: X) (v.alloc (.cells cs t)) := by
  obtain ⟨p, buf, p', buf', h1, h2, h3, h4, tw⟩ := h.ex
  have t1 := tw.lit (a := c) ((((hn.cons (by omega)).cons (by omega)).cons (by omega)).cons (by omega)) t sz k cs hm hs
  exact ⟨⟨p, buf, p', buf', h1, h2, h3, h4, t1.sub (fun x hx => by simp only [List.mem_cons] at hx ⊢; rcases hx with e | e | e | e | e | e; exact .inr (.inl e); exact .inr (.inr (.inl e)); exact .inr (.inr (.inr (.inl e))); exact .inr (.inr (.inr (.inr (.inl e)))); exact .inl e; exact .inr (.inr (.inr (.inr (.inr e)))))⟩, h.n1.cons (by omega), h.n2.cons (by omega), h.n3.cons (by omega), h.n4.cons (by omega), h.d1, h.d2, h.d3⟩
end
theorem bytes2 {n : Nat} {w0 v : World} {a jb m : Nat} {B : ByteArray} {X : Ths} {a' jb' m' : Nat} {B' : ByteArray} (h : Jn2 n w0 a jb m B a' jb' m' B' X v) (hb : B.size ≤ 1000000000) :
    Calls Tryd.prog 9 #[.pointer (some ⟨jb, 0, none⟩)] v fun e v' => e = .returned (.string B) ∧ Jn2 n w0 a jb m B a' jb' m' B' X v' := h.call (fun X' _ hj => bytes_of_journal hj hb)
theorem bytes2' {n : Nat} {w0 v : World} {a jb m : Nat} {B : ByteArray} {X : Ths} {a' jb' m' : Nat} {B' : ByteArray} (h : Jn2 n w0 a jb m B a' jb' m' B' X v) (hb : B'.size ≤ 1000000000) :
    Calls Tryd.prog 9 #[.pointer (some ⟨jb', 0, none⟩)] v fun e v' => e = .returned (.string B') ∧ Jn2 n w0 a jb m B a' jb' m' B' X v' := by
  refine (bytes2 h.swap hb).mono ?_
  rintro e v' ⟨rfl, hj⟩
  exact ⟨rfl, hj.swap⟩
/-- one text more -/
theorem append_one {n : Nat} {w0 v : World} {a c jb m : Nat} {B : ByteArray} {X : Ths} (ht : Tabs w0) (h1n : 1 < n) (h : Jn n w0 a jb m B X v) {q : Nat} (s : ByteArray) (hm : (c, .own 9 1 (.slice (some ⟨q, 0, none⟩) 1 1) 1 [.string s]) ∈ X) (hs : s.size ≤ 200) (hmk : m ≤ 1000) (hb : B.size ≤ 1000000) :
    Calls Tryd.prog 8 #[.pointer (some ⟨jb, 0, none⟩), .slice (some ⟨q, 0, none⟩) 1 1] v fun e v' => e = .returned (.int .i64 0) ∧ Jn n w0 a jb (m + 1) (B ++ rcd m s) X v' := by
  have := append_any (k := 1) ht h1n h [s] rfl hm (fun t h => by simp at h; subst h; omega) (by omega) (by omega)
  have e : rcds m [s] = rcd m s := by show rcd m s ++ .empty = _; rw [ByteArray.append_empty]
  rw [e] at this
  exact this
theorem append_two {n : Nat} {w0 v : World} {a c jb m : Nat} {B : ByteArray} {X : Ths} {a' jb' m' : Nat} {B' : ByteArray} (ht : Tabs w0) (h1n : 1 < n) (h : Jn2 n w0 a jb m B a' jb' m' B' X v) {q : Nat} (s : ByteArray) (hm : (c, .own 9 1 (.slice (some ⟨q, 0, none⟩) 1 1) 1 [.string s]) ∈ X) (hs : s.size ≤ 200) (hmk : m ≤ 1000) (hb : B.size ≤ 1000000) :
    Calls Tryd.prog 8 #[.pointer (some ⟨jb, 0, none⟩), .slice (some ⟨q, 0, none⟩) 1 1] v fun e v' => e = .returned (.int .i64 0) ∧ Jn2 n w0 a jb (m + 1) (B ++ rcd m s) a' jb' m' B' X v' :=
  h.call (fun X' hX hj => append_one ht h1n hj s (hX _ hm) hs hmk hb)
theorem fl_size (f : Nat → ByteArray) (hf : ∀ i, (f i).size ≤ 200) (i k : Nat) : (rcds i (fl f k)).size ≤ 1038 * k := by
  have := rcds_le (fl f k) i (fun t ht => by unfold fl at ht; obtain ⟨j, _, rfl⟩ := List.mem_map.1 ht; have := hf j; omega)
  rw [fl_len] at this; exact this
set_option maxHeartbeats 4000000 in
set_option maxRecDepth 100000 in
theorem back_walk (A : Option Addr) (cap : Nat) (l : List ByteArray) (A2 : Option Addr) (cap2 : Nat) (l2 : List ByteArray) (w : World) (ht : Tabs w) (hcap : cap ≤ maxLen) (hlc : l.length ≤ cap) (hsl : RowK.SlAt w 1 (fun s => [Value.string s]) A l) (hok : ∀ s ∈ l, s.size ≤ maxLen)
    (hcap2 : cap2 ≤ maxLen) (hlc2 : l2.length ≤ cap2) (hsl2 : RowK.SlAt w 1 (fun s => [Value.string s]) A2 l2) (hok2 : ∀ s ∈ l2, s.size ≤ maxLen) :
    Calls Tryd.prog 4 #[.slice A l.length cap, .slice A2 l2.length cap2] w (Fine w) := by
  unfold Fine
  obtain ⟨n, hn⟩ : ∃ n, w.heap.size = n := ⟨_, rfl⟩
  have h1n : 1 < n := hn ▸ ht.lt
  have SH := Lib.hid (fun v (hb : Below n w v) => shown_any v (ht.below hb h1n))
  have HN := Lib.hid hn
  have NX := Lib.hid (fun v v' (h : Below n w v) (g : Below v.heap.size v v') => h.trans (g.mono (by rw [← hn]; exact h.size)))
  have b0 : Below n w w := Below.refl _ _
  have hlen : l.length ≤ 9223372036854775807 := by unfold maxLen at hcap; omega
  have hlen2 : l2.length ≤ 9223372036854775807 := by unfold maxLen at hcap2; omega
  have HSL := Lib.hid hsl; have HSL2 := Lib.hid hsl2
  obtain ⟨len, hlen'⟩ : ∃ len, l.length = len := ⟨_, rfl⟩
  obtain ⟨lm, hlen2'⟩ : ∃ lm, l2.length = lm := ⟨_, rfl⟩
  rw [hlen'] at hlen ⊢
  rw [hlen2'] at hlen2 ⊢
  have HLEN := Lib.hid hlen'; have HLEN2 := Lib.hid hlen2'
  by_cases g1 : 15 < len
  · skip
    clear ht hn hsl hok hlen' hcap hlc h1n hsl2 hok2 hlen2' hcap2 hlc2
    go_enter Tryd.func4, Tryd.ntmps4
    go_wp2_with fail
    refine (SH.out _ b0).mono ?_
    rintro e w1 ⟨rfl, gq⟩
    have B1 := Lib.hid (NX.out _ _ b0 gq)
    clear gq
    go_wp2
    go_ret
    exact ⟨rfl, HN.out ▸ B1.out⟩
  by_cases g2 : 15 < lm
  · skip
    clear ht hn hsl hok hlen' hcap hlc h1n hsl2 hok2 hlen2' hcap2 hlc2
    go_enter Tryd.func4, Tryd.ntmps4
    go_wp2_with fail
    refine (SH.out _ b0).mono ?_
    rintro e w1 ⟨rfl, gq⟩
    have B1 := Lib.hid (NX.out _ _ b0 gq)
    clear gq
    go_wp2
    go_ret
    exact ⟨rfl, HN.out ▸ B1.out⟩
  have sz : ∀ (l : List ByteArray), (∀ s ∈ l, s.size ≤ maxLen) → ∀ j, (l.getD j .empty).size ≤ 9223372036854775807 := fun l hok j => by
    rw [List.getD_eq_getElem?_getD]
    cases h : l[j]? with
    | none => decide
    | some x => have := hok x (List.mem_of_getElem? h); unfold maxLen at this; exact this
  have CELL := Lib.hid (fun i (hi : i < l.length) => str_at hsl hi hn)
  have CELL2 := Lib.hid (fun i (hi : i < l2.length) => str_at hsl2 hi hn)
  have SZF := Lib.hid (sz l hok); have SZG := Lib.hid (sz l2 hok2)
  obtain ⟨f, hf⟩ : ∃ f : Nat → ByteArray, (fun j => l.getD j .empty) = f := ⟨_, rfl⟩
  obtain ⟨f2, hf2⟩ : ∃ f2 : Nat → ByteArray, (fun j => l2.getD j .empty) = f2 := ⟨_, rfl⟩
  have hfj : ∀ j, l.getD j .empty = f j := fun j => congrFun hf j
  have hfj2 : ∀ j, l2.getD j .empty = f2 j := fun j => congrFun hf2 j
  simp only [hfj, hlen'] at CELL SZF
  simp only [hfj2, hlen2'] at CELL2 SZG
  have TS := Lib.hid (show TW n w [] w from hn ▸ TW.start w)
  have HT := Lib.hid ht; have H1 := Lib.hid h1n
  have NN := Lib.hid (show ∀ a, New a [] from fun a y hy => by cases hy)
  clear ht hn hsl hok hlen' hcap hlc h1n hf hfj hsl2 hok2 hlen2' hcap2 hlc2 hf2 hfj2 sz HSL HSL2 HLEN HLEN2
  have e1 : rcds 0 [] ++ ByteArray.empty = ⟨#[]⟩ := rfl
  have RC0 := Lib.hid (fun v (hb : Below n w v) => recover_any (a := 0) (c := 2) HT.out H1.out (TS.out.same (HN.out ▸ hb)) (NN.out _) (NN.out _) (NN.out _) (by decide) (by decide) [] .empty (by simp) (by simp) (by decide) (Bad.nil _))
  simp only [e1] at RC0
  clear e1
  go_enter Tryd.func4, Tryd.ntmps4
  go_wp2_with fail
  refine (SH.out _ b0).mono ?_
  rintro e w1 ⟨rfl, gq⟩
  have B1 := Lib.hid (NX.out _ _ b0 gq)
  clear gq b0 SH
  go_wp2_with fail
  refine (RC0.out _ B1.out).mono ?_
  rintro e w2 ⟨g, ad, cp, rfl, j1⟩
  have J1 := Lib.hid (show Jn n w 0 g 0 (rcds 0 (fl (fun i => cutT (f i)) 0)) [] w2 from j1.sub (fun x hx => by cases hx))
  clear j1 RC0 B1
  go_wp2
  go_loopg [7] len (fun gk i u => ∃ j : Nat, gk + j = len ∧ i = .int .i64 j ∧ Jn n w 0 g j (rcds 0 (fl (fun i => cutT (f i)) j)) [] u)
  case atStart => exact ⟨0, by omega, rfl, J1.out⟩
  case round =>
    obtain ⟨j, hg, rfl, jj⟩ := hrel
    have JJ := Lib.hid jj
    clear jj J1
    by_cases hlt : j < len
    · have HREL := Lib.hid (show len - (j + 1) + (j + 1) = len by omega)
      have HMEA := Lib.hid (show len - (j + 1) < gk by omega)
      have hj1 : IntKind.i64.wrap ((j : Int) + 1) = ((j + 1 : Nat) : Int) := by rw [IntKind.wrap_i64]; omega
      obtain ⟨b, off, rfl, hcell⟩ := CELL.out j hlt
      have HC := Lib.hid (fun v hv => hcell v hv j hlt)
      clear hg hcell
      skip
      obtain ⟨x, hx⟩ : ∃ x, f j = x := ⟨_, rfl⟩
      have hxs := SZF.out j
      rw [hx] at hxs
      have hmin : (if (200 : Int) < (x.size : Int) then (200 : Int) else (x.size : Int)) = (min x.size 200 : Nat) := by split <;> omega
      have hle1 : ((min x.size 200 : Nat) : Int) ≤ (x.size : Nat) := by omega
      have hcx : x.extract 0 (min x.size 200) = cutT x := rfl
      obtain ⟨mn, hmn⟩ : ∃ mn, min x.size 200 = mn := ⟨_, rfl⟩
      rw [hmn] at hmin hle1 hcx
      have HCX := Lib.hid hcx; have HX := Lib.hid hx
      have hcs := cutT_size x
      have eB : rcds 0 (fl (fun i => cutT (f i)) j) ++ rcd j (cutT x) = rcds 0 (fl (fun i => cutT (f i)) (j + 1)) := by
        rw [fl_succ, rcds_snoc, fl_len, Nat.zero_add, hx]
      have EB := Lib.hid eB
      have hbz := fl_size (fun i => cutT (f i)) (fun i => cutT_size _) 0 j
      have AP := Lib.hid (fun u (q : Nat) (h : Jn n w 0 g j (rcds 0 (fl (fun i => cutT (f i)) j)) [(3, .own 9 1 (.slice (some ⟨q, 0, none⟩) 1 1) 1 [.string (cutT x)])] u) => append_one HT.out H1.out h (cutT x) List.mem_cons_self hcs (by omega) (by omega))
      clear eB hbz hcs hmn hx hcx
      generalize rcds 0 (fl (fun i => cutT (f i)) j) = OB at *
      generalize rcd j (cutT x) = RR at *
      generalize cutT x = CT at *
      go_wp2
      refine QC.wp_region_d [12, 13] [0, 1, 2, 3, 4, 5, 6, 7, 8, 9, 10, 11, 12, 13] (by kernel_rfl) (by kernel_rfl) (fun u d => ?_)
      have ju := JJ.out.same (d.below (n := wr.heap.size))
      have cu := HC.out u ju.bel
      rw [HX.out] at cu
      have J2 := Lib.hid (ju.lit (c := 3) (NN.out 3) (by decide) (by decide) 9 1 1 #[.string CT] (by decide) rfl)
      clear d ju
      iterate 12
        (first
         | (apply QC.wpC_load
            (focus rfl)
            (focus decide)
            (focus rfl)
            (focus rfl)
            (focus rfl)
            (focus (assumption))
            (focus (intro u hu; go_simp))
            intro K hK
            go_simp
            refine hK _ ?_
            clear hK K)
         | (apply QC.wpC_pure
            (focus rfl)
            (focus decide)
            intro K hK
            go_simp
            first
             | (refine hK _ ?_; clear hK K)
             | (apply Exists.intro
                refine ⟨fun u => ?_, hK _ ?_⟩
                (focus (unfold QP.oat; go_simp; first | done | exact ⟨rfl, rfl⟩ | exact rfl))
                clear hK K)))
      apply QC.wpC_eff
      (focus rfl)
      (focus decide)
      go_wp2
      rw [HCX.out]
      refine QC.eff_ok rfl ?_ ?_
      · (repeat (first | exact QC.obl_nil | refine QC.obl_is (by assumption) ?_ | (apply QC.obl_dep; (focus decide))))
      clear cu
      apply QC.wpC_eff
      (focus rfl)
      (focus decide)
      go_wp2_with fail
      refine (AP.out _ _ J2.out).mono ?_
      rintro e u2 ⟨rfl, j3⟩
      rw [EB.out] at j3
      have J3 := Lib.hid (j3.sub (X' := []) (fun x hx => by cases hx))
      clear j3 J2 AP
      go_wp2
      refine QC.eff_ok rfl ?_ ?_
      · (repeat (first | exact QC.obl_nil | refine QC.obl_is (by assumption) ?_ | (apply QC.obl_dep; (focus decide))))
      refine QC.wpC_nil ?_
      go_wp2
      go_roundg (len - (j + 1))
      case rel => exact ⟨j + 1, HREL.out, by first | rfl | go_num, J3.out⟩
      case measure => exact HMEA.out
    · have hj : j = len := by omega
      subst hj
      clear hg hlt
      have hbz := fl_size (fun i => cutT (f i)) (fun i => cutT_size _) 0 j
      have BY := Lib.hid (fun u (h : Jn n w 0 g j (rcds 0 (fl (fun i => cutT (f i)) j)) [] u) => bytes_of_journal h (by omega))
      have RC := Lib.hid (fun u (h : Jn n w 0 g j (rcds 0 (fl (fun i => cutT (f i)) j)) [] u) => recover_beside (a' := 4) (c' := 6) HT.out H1.out h (NN.out _) (NN.out _) (NN.out _) (by decide) (by decide) (by decide) (by decide) (by decide) (by decide) (by decide) (fl (fun i => cutT (f i)) j) .empty
        (fun t ht => by
          unfold fl at ht
          obtain ⟨i, _, rfl⟩ := List.mem_map.1 ht
          have := cutT_size (f i); omega) (by rw [fl_len]; omega) (by rw [ByteArray.append_empty]; omega) (Bad.nil _))
      simp only [fl_len, ByteArray.append_empty] at RC
      have hbz2 := fun k => fl_size (fun i => cutT (f2 i)) (fun i => cutT_size _) j k
      have BZ2 := Lib.hid hbz2
      have SNOC := Lib.hid (fun k => show rcds j (fl (fun i => cutT (f2 i)) (k + 1)) = rcds j (fl (fun i => cutT (f2 i)) k) ++ rcd (j + k) (cutT (f2 k)) by rw [fl_succ, rcds_snoc, fl_len])
      have Z0 := Lib.hid (show rcds j (fl (fun i => cutT (f2 i)) 0) = .empty from rfl)
      generalize rcds 0 (fl (fun i => cutT (f i)) j) = OB at *
      generalize List.map Value.string (fl (fun i => cutT (f i)) j) = TX at *
      clear hbz2
      go_wp2_with fail
      refine (BY.out _ JJ.out).mono ?_
      rintro e u2 ⟨rfl, j2⟩
      have J2 := Lib.hid j2
      clear j2
      go_wp2_with fail
      refine (RC.out _ J2.out).mono ?_
      rintro e u3 ⟨g2, ad2, cp2, rfl, j3⟩
      have J3 := Lib.hid (j3.sub (X' := []) (fun x hx => by cases hx))
      have BB := Lib.hid (bytes2 J3.out (by omega))
      clear j3 J2 BY RC JJ
      go_wp2_with fail
      refine (BB.out).mono ?_
      rintro e u4 ⟨rfl, j4⟩
      have BB2 := Lib.hid (bytes2' j4 (by omega))
      clear j4 BB J3
      go_wp2_with fail
      refine (BB2.out).mono ?_
      rintro e u5 ⟨rfl, j5⟩
      have J5 := Lib.hid (show Jn2 n w 4 g2 (j + 0) (OB ++ rcds j (fl (fun i => cutT (f2 i)) 0)) 0 g (j + 0) (OB ++ rcds j (fl (fun i => cutT (f2 i)) 0)) [] u5 by rw [Z0.out, ByteArray.append_empty]; exact j5)
      clear j5 BB2 Z0
      go_wp2
      go_loopg [10] lm (fun gk i u => ∃ k : Nat, gk + k = lm ∧ i = .int .i64 k ∧ Jn2 n w 4 g2 (j + k) (OB ++ rcds j (fl (fun i => cutT (f2 i)) k)) 0 g (j + k) (OB ++ rcds j (fl (fun i => cutT (f2 i)) k)) [] u)
      case atStart => exact ⟨0, by omega, rfl, J5.out⟩
      case round =>
        obtain ⟨k, hg, rfl, jj⟩ := hrel
        have JJ := Lib.hid jj
        clear jj J5
        have z2 := BZ2.out k
        by_cases hlt : k < lm
        · have HREL := Lib.hid (show lm - (k + 1) + (k + 1) = lm by omega)
          have HMEA := Lib.hid (show lm - (k + 1) < gk by omega)
          have hj1 : IntKind.i64.wrap ((k : Int) + 1) = ((k + 1 : Nat) : Int) := by rw [IntKind.wrap_i64]; omega
          obtain ⟨b, off, rfl, hcell⟩ := CELL2.out k hlt
          have HC := Lib.hid (fun v hv => hcell v hv k hlt)
          clear hg hcell
          skip
          obtain ⟨x, hx⟩ : ∃ x, f2 k = x := ⟨_, rfl⟩
          have hxs := SZG.out k
          rw [hx] at hxs
          have hmin : (if (200 : Int) < (x.size : Int) then (200 : Int) else (x.size : Int)) = (min x.size 200 : Nat) := by split <;> omega
          have hle1 : ((min x.size 200 : Nat) : Int) ≤ (x.size : Nat) := by omega
          have hcx : x.extract 0 (min x.size 200) = cutT x := rfl
          obtain ⟨mn, hmn⟩ : ∃ mn, min x.size 200 = mn := ⟨_, rfl⟩
          rw [hmn] at hmin hle1 hcx
          have HCX := Lib.hid hcx; have HX := Lib.hid hx
          have hcs := cutT_size x
          have EB := Lib.hid (show OB ++ rcds j (fl (fun i => cutT (f2 i)) k) ++ rcd (j + k) (cutT x) = OB ++ rcds j (fl (fun i => cutT (f2 i)) (k + 1)) by rw [ByteArray.append_assoc, SNOC.out, hx])
          have hoz : (OB ++ rcds j (fl (fun i => cutT (f2 i)) k)).size ≤ 1000000 := by rw [ByteArray.size_append]; omega
          have hjk : j + k ≤ 1000 := by omega
          obtain ⟨OO, hOO⟩ : ∃ OO, OB ++ rcds j (fl (fun i => cutT (f2 i)) k) = OO := ⟨_, rfl⟩
          obtain ⟨M, hM⟩ : ∃ M, j + k = M := ⟨_, rfl⟩
          rw [hOO, hM] at JJ
          rw [hOO, hM] at EB
          rw [hOO] at hoz
          rw [hM] at hjk
          have HM := Lib.hid hM
          have AP1 := Lib.hid (fun u (q g' : Nat) (B' : ByteArray) (M' : Nat) (h : Jn2 n w 0 g M OO 4 g' M' B' [(7, .own 9 1 (.slice (some ⟨q, 0, none⟩) 1 1) 1 [.string (cutT x)])] u) => append_two HT.out H1.out h (cutT x) List.mem_cons_self hcs (by omega) (by omega))
          have AP2 := Lib.hid (fun u (q g' : Nat) (B' : ByteArray) (M' : Nat) (h : Jn2 n w 4 g2 M OO 0 g' M' B' [(7, .own 9 1 (.slice (some ⟨q, 0, none⟩) 1 1) 1 [.string (cutT x)])] u) => append_two HT.out H1.out h (cutT x) List.mem_cons_self hcs (by omega) (by omega))
          clear hcs hmn hx hcx hoz hM hOO z2 SNOC BZ2 hbz
          generalize rcd M (cutT x) = RR at *
          generalize cutT x = CT at *
          go_wp2
          refine QC.wp_region_d [] [0, 1, 2, 3, 4, 5, 6, 7, 8, 9, 10, 11] (by kernel_rfl) (by kernel_rfl) (fun u d => ?_)
          have ju := JJ.out.same (d.below (n := wr.heap.size))
          have cu := HC.out u ju.fst.bel
          rw [HX.out] at cu
          have JU := Lib.hid ju
          clear d ju
          iterate 12
            (first
             | (apply QC.wpC_load
                (focus rfl)
                (focus decide)
                (focus rfl)
                (focus rfl)
                (focus rfl)
                (focus (assumption))
                (focus (intro u hu; go_simp))
                intro K hK
                go_simp
                refine hK _ ?_
                clear hK K)
             | (apply QC.wpC_pure
                (focus rfl)
                (focus decide)
                intro K hK
                go_simp
                first
                 | (refine hK _ ?_; clear hK K)
                 | (apply Exists.intro
                    refine ⟨fun u => ?_, hK _ ?_⟩
                    (focus (unfold QP.oat; go_simp; first | done | exact ⟨rfl, rfl⟩ | exact rfl))
                    clear hK K)))
          refine QC.wpC_nil ?_
          have J6 := Lib.hid (JU.out.swap.lit (c := 7) (NN.out 7) (by decide) (by decide) (by decide) (by decide) 9 1 1 #[.string CT] (by decide) rfl)
          clear cu JU JJ
          go_wp2_with fail
          rw [HCX.out]
          refine (AP1.out _ _ _ _ _ J6.out).mono ?_
          rintro e u6 ⟨rfl, j7⟩
          rw [EB.out] at j7
          have J8 := Lib.hid ((j7.sub (X' := []) (fun x hx => by cases hx)).swap.lit (c := 7) (NN.out 7) (by decide) (by decide) (by decide) (by decide) 9 1 1 #[.string CT] (by decide) rfl)
          clear j7 J6 AP1
          go_wp2_with fail
          refine (AP2.out _ _ _ _ _ J8.out).mono ?_
          rintro e u7 ⟨rfl, j9⟩
          rw [EB.out] at j9
          have J9 := Lib.hid (j9.sub (X' := []) (fun x hx => by cases hx))
          clear j9 J8 AP2
          go_wp2
          go_roundg (lm - (k + 1))
          case rel => exact ⟨k + 1, HREL.out, by first | rfl | go_num, by have := HM.out; rw [show j + (k + 1) = M + 1 by omega]; exact J9.out⟩
          case measure => exact HMEA.out
        · have hk : k = lm := by omega
          subst hk
          clear hg hlt
          have hoz : (OB ++ rcds j (fl (fun i => cutT (f2 i)) k)).size ≤ 1000000 := by rw [ByteArray.size_append]; omega
          have hw : IntKind.i64.wrap ((j : Int) + (k : Int)) = ((j + k : Nat) : Int) := by rw [IntKind.wrap_i64]; omega
          generalize OB ++ rcds j (fl (fun i => cutT (f2 i)) k) = OO at *
          generalize j + k = M at *
          have BB := Lib.hid (bytes2' JJ.out (by omega))
          clear JJ SNOC BZ2 z2
          go_wp2_with fail
          refine (BB.out).mono ?_
          rintro e u6 ⟨rfl, j6⟩
          have BB3 := Lib.hid (bytes2 j6 (by omega))
          clear j6 BB
          go_wp2_with fail
          refine (BB3.out).mono ?_
          rintro e u7 ⟨rfl, j7⟩
          have L1 := Lib.hid (len_of_journal j7.swap.fst)
          have L2 := Lib.hid (len_of_journal j7.fst)
          have J7 := Lib.hid j7
          clear j7 BB3
          go_wp2_with fail
          refine (L1.out).mono ?_
          rintro e u8 ⟨rfl, rfl⟩
          go_wp2_with fail
          refine (L2.out).mono ?_
          rintro e u8 ⟨rfl, rfl⟩
          go_wp2_with fail
          refine (L1.out).mono ?_
          rintro e u8 ⟨rfl, rfl⟩
          go_wp2
          go_ret
          exact ⟨rfl, HN.out ▸ J7.out.fst.bel⟩
theorem walk_JournalBack {H : Type} {enc : TypeId × Value → H} {W : World} {base : Nat} (v : Value) (d : DataW H) (p : List MemPlace) (hval : Value.okWide Tryd.prog W .any base 26 v)
    (h : DataW.Trod enc Tryd.prog W 0 (fun _ => true) true 26 v d p) (v1 : Value) (d1 : DataW H) (p1 : List MemPlace) (hval1 : Value.okWide Tryd.prog W .any base 26 v1)
    (h1 : DataW.Trod enc Tryd.prog W 0 (fun _ => true) true 26 v1 d1 p1) (hL : laidMetH Tryd.prog Rows.journalBackRow.laid W) :
    Calls Tryd.prog 4 #[v, v1] W (Fine W) := by
  obtain ⟨A, cap, l, rfl, q1, q2, q3, q4⟩ := strs_of_trod hval h
  obtain ⟨A2, cap2, l2, rfl, q5, q6, q7, q8⟩ := strs_of_trod hval1 h1
  exact back_walk A cap l A2 cap2 l2 W (tabs_of hL (by simp [Rows.journalBackRow]) (by simp [Rows.journalBackRow])) q2 q1 q4 q3 q6 q5 q8 q7
end Go.Proofs.YtiilgkhndfnkgaaDoor
