/- What Recover tells of records and of what stands behind them; the conditions are that the tables are laid, and the lengths. -/
import Derived.Test.YtiilgkhndfnkgaaDoorJoD
import Derived.Test.YtiilgkhndfnkgaaDoorAppSep
namespace Go.Proofs.YtiilgkhndfnkgaaDoor
open Oc
open Go.RowKit
set_option linter.unusedVariables false
section
variable {n : Nat} {w0 v v' : World} {a c jb m : Nat} {B : ByteArray} {X X' : Ths}
theorem Jn.grow {t : TypeId} {sz k k' : Nat} {u u' : Value} {xs xs' : List Value} (h : Jn n w0 a jb m B ((c, .own t sz u k xs) :: X) v) (hn : New c X) (ho : v'.ownsRow n t sz u' k' xs') (hg : v.grownBy v' u.ownBlock)
    (hs : u'.ownBlock = u.ownBlock ∨ ∀ g, u'.ownBlock = some g → v.heap.size ≤ g) : Jn n w0 a jb m B ((c, .own t sz u' k' xs') :: X) v' := by
  obtain ⟨p, buf, hp, hz, tw⟩ := h.ex
  have d1 : c ≠ a := h.n1 _ List.mem_cons_self
  have d2 : c ≠ a + 1 := h.n2 _ List.mem_cons_self
  have m1 : New a X := fun y hy => h.n1 y (List.mem_cons_of_mem _ hy)
  have m2 : New (a + 1) X := fun y hy => h.n2 y (List.mem_cons_of_mem _ hy)
  have t1 := (tw.sub (X' := (c, .own t sz u k xs) :: (a, .row jb 45 #[p, buf, .int .i64 (m : Nat), .bool false, .int .i64 0, .bool false]) :: (a + 1, .ownF 5 buf B.size (Lib.strCells B)) :: X)
    (fun x hx => by simp only [List.mem_cons] at hx ⊢; rcases hx with e | e | e | e; exact .inr (.inr (.inl e)); exact .inl e; exact .inr (.inl e); exact .inr (.inr (.inr e)))).grow
    ((hn.cons (by omega)).cons (by omega)) ho hg hs
  exact ⟨⟨p, buf, hp, hz, t1.sub (fun x hx => by simp only [List.mem_cons] at hx ⊢; rcases hx with e | e | e | e; exact .inr (.inl e); exact .inr (.inr (.inl e)); exact .inl e; exact .inr (.inr (.inr e)))⟩, m1.cons (by omega), m2.cons (by omega)⟩
theorem Jn.start (tw : TW n w0 X v) (n1 : New a X) (n2 : New (a + 1) X) : Jn n w0 a v.heap.size 0 .empty X (v.alloc (.cells #[.pointer none, .slice none 0 0, .int .i64 0, .bool false, .int .i64 0, .bool false] 45)) := by
  have t1 := (tw.nilOwnF n2 5).newRow (a := a) (n1.cons (by omega)) 45 #[.pointer none, .slice none 0 0, .int .i64 0, .bool false, .int .i64 0, .bool false]
  exact ⟨⟨.pointer none, .slice none 0 0, .inl rfl, fun _ => rfl, t1⟩, n1, n2⟩
theorem info9 : (Tryd.prog.info? 9).map (fun i => (i.zero, i.size, i.bytes)) = some (some (.string .empty), 1, 16) := by kernel_rfl
set_option maxHeartbeats 4000000 in
set_option maxRecDepth 100000 in
theorem recover_any (ht : Tabs w0) (h1n : 1 < n) (tw : TW n w0 X v) (n1 : New a X) (n2 : New (a + 1) X) (n3 : New c X) (d1 : c ≠ a) (d2 : c ≠ a + 1) (L : List ByteArray) (tl : ByteArray)
    (hL : ∀ t ∈ L, t.size ≤ 1024) (hl : L.length ≤ 1000) (hz : (rcds 0 L ++ tl).size ≤ 100000000) (hbad : Bad L.length tl) :
    Calls Tryd.prog 7 #[.string (rcds 0 L ++ tl)] v fun e v' => ∃ g ad cp, e = .returned (.tuple #[.pointer (some ⟨g, 0, none⟩), .slice ad L.length cp]) ∧
      Jn n w0 a g L.length (rcds 0 L) ((c, .own 9 1 (.slice ad L.length cp) L.length (L.map .string)) :: X) v' := by
  obtain ⟨i9, hi9, hi9a, hi9b, hi9c⟩ := info_parts info9
  obtain ⟨jb, hjb⟩ : ∃ jb, v.heap.size = jb := ⟨_, rfl⟩
  have j0 : Jn n w0 a jb 0 .empty ((c, .own 9 1 (.slice none 0 0) 0 []) :: X) (v.alloc (.cells #[.pointer none, .slice none 0 0, .int .i64 0, .bool false, .int .i64 0, .bool false] 45)) :=
    hjb ▸ Jn.start (tw.nilOwn n3 9 1) (n1.cons d1) (n2.cons d2)
  have HJ := Lib.hid hjb; have J0 := Lib.hid j0; have HT := Lib.hid ht; have H1 := Lib.hid h1n; have HL := Lib.hid hL; have HLL := Lib.hid hl; have HZ := Lib.hid hz; have HB := Lib.hid hbad; have N3 := Lib.hid n3
  clear hjb j0 tw ht h1n hL hl hz hbad n1 n2 n3 d1 d2
  obtain ⟨S0, hS0⟩ : ∃ S0, rcds 0 L ++ tl = S0 := ⟨_, rfl⟩
  have HS0 := Lib.hid hS0
  obtain ⟨K, hK⟩ : ∃ K, L.length = K := ⟨_, rfl⟩
  have HK := Lib.hid hK
  rw [hS0, hK]
  clear hS0 hK
  go_enter Tryd.func7, Tryd.ntmps7
  go_wp2
  rw [HJ.out]
  go_loopg [0, 5] K (fun gk s l u => ∃ (q : Nat) (ad : Option Addr) (cp : Nat), gk + q = K ∧ s = .string (rcds q (L.drop q) ++ tl) ∧ l = .slice ad q cp ∧
    Jn n w0 a jb q (rcds 0 (L.take q)) ((c, .own 9 1 (.slice ad q cp) q ((L.take q).map .string)) :: X) u)
  case atStart => exact ⟨0, none, 0, by omega, by rw [← HS0.out]; rfl, rfl, J0.out⟩
  case round =>
    obtain ⟨q, ad, cp, hg, rfl, rfl, jq⟩ := hrel
    have hlen : L.length = K := HK.out
    have hsz : (rcds q (L.drop q) ++ tl).size ≤ 100000000 := by
      have h1 := HZ.out
      have h2 := rcds_append (L.take q) (L.drop q) 0
      rw [List.take_append_drop, List.length_take, Nat.min_eq_left (by omega), Nat.zero_add] at h2
      rw [ByteArray.size_append, h2, ByteArray.size_append] at h1
      rw [ByteArray.size_append]; omega
    have GE := Lib.hid (get_any (rcds q (L.drop q) ++ tl) wr (HT.out.below jq.bel H1.out) (by omega))
    by_cases hlt : q < K
    · have hj : q < L.length := by omega
      have hsq : L[q].size ≤ 1024 := HL.out _ (List.getElem_mem hj)
      have e1 : L.drop q = L[q] :: L.drop (q + 1) := List.drop_eq_getElem_cons hj
      have e2 : rcds q (L.drop q) ++ tl = rcd q L[q] ++ (rcds (q + 1) (L.drop (q + 1)) ++ tl) := by
        rw [e1]
        show rcd q L[q] ++ rcds (q + 1) (L.drop (q + 1)) ++ tl = _
        rw [ByteArray.append_assoc]
      have eB : rcds 0 (L.take q) ++ rcd q L[q] = rcds 0 (L.take (q + 1)) := by
        rw [List.take_succ_eq_append_getElem hj, rcds_snoc, List.length_take, Nat.min_eq_left (by omega), Nat.zero_add]
      have eX : (L.take q).map Value.string ++ [.string L[q]] = (L.take (q + 1)).map .string := by
        rw [List.take_succ_eq_append_getElem hj, List.map_append]; rfl
      have hBz : (rcds 0 (L.take q)).size + (rcd q L[q]).size ≤ 1000000000 := by
        have h1 := rcds_le (L.take q) 0 (fun x hx => HL.out x (List.mem_of_mem_take hx))
        rw [List.length_take, Nat.min_eq_left (by omega)] at h1
        have := HLL.out
        rw [rcd_size]; omega
      have hq : q ≤ 1000 := by have := HLL.out; omega
      rw [e2] at GE hsz ⊢
      rw [getR_rcd q L[q] _ (by omega) hsq] at GE
      have hRz : (rcd q L[q]).size = 14 + L[q].size := rcd_size _ _
      generalize hR0 : rcds (q + 1) (L.drop (q + 1)) ++ tl = R at *
      have eT : (rcd q L[q] ++ R).extract 0 (14 + L[q].size) = rcd q L[q] := hRz ▸ ext_pre _ _
      have eD : (rcd q L[q] ++ R).extract (14 + L[q].size) (rcd q L[q] ++ R).size = R := by
        have := back_of (rcd q L[q]) R
        rw [hRz] at this
        rw [ByteArray.size_append, hRz]; exact this
      have hSz : (rcd q L[q] ++ R).size = 14 + L[q].size + R.size := by rw [ByteArray.size_append, hRz]
      have EX := Lib.hid eX; have EB := Lib.hid eB; have ER := Lib.hid hR0
      have HREL := Lib.hid (show K - (q + 1) + (q + 1) = K by omega)
      have HMEA := Lib.hid (show K - (q + 1) < gk by omega)
      have JQ := Lib.hid jq
      have WS := Lib.hid (fun u (h : Jn n w0 a jb q (rcds 0 (L.take q)) ((c, .own 9 1 (.slice ad q cp) q ((L.take q).map .string)) :: X) u) => ws_any h (rcd q L[q]) (by rw [hRz]; omega) hBz)
      have uw : IntKind.u64.wrap (q : Int) = (q : Int) := by rw [IntKind.wrap_u64]; omega
      have iw : IntKind.i64.wrap ((q : Int) + 1) = ((q + 1 : Nat) : Int) := by rw [IntKind.wrap_i64]; omega
      obtain ⟨W, hW⟩ : ∃ W, 14 + L[q].size = W := ⟨_, rfl⟩
      have z1 : ((W : Nat) : Int) ≤ ((rcd q L[q] ++ R).size : Nat) := by omega
      rw [hW] at GE eT eD
      have ET := Lib.hid eT; have ED := Lib.hid eD
      clear e1 e2 eB eX hBz hsz hRz eT eD hSz jq hR0 hW
      generalize rcd q L[q] ++ R = S at *
      generalize rcd q L[q] = RR at *
      generalize L[q] = T at *
      generalize (L.take q).map Value.string = xs at *
      clear hlt hlen hj hg J0
      go_wp2_with fail
      refine (GE.out).mono ?_
      rintro e v1 ⟨rfl, b1⟩
      have j1 := JQ.out.same b1
      have c2 := j1.c2
      have J1 := Lib.hid j1
      clear GE b1 j1 JQ
      go_wp2
      refine QC.wp_region_d [6] [0, 1, 2, 3, 4, 5, 6] (by kernel_rfl) (by kernel_rfl) (fun u d => ?_)
      have ju := J1.out.same (d.below (n := v1.heap.size))
      have WSU := Lib.hid (WS.out u ju)
      clear d ju c2
      iterate 6
        (first
         | (apply QC.wpC_load
            (focus rfl)
            (focus decide)
            (focus rfl)
            (focus rfl)
            (focus rfl)
            (focus (assumption))
            (focus (intro u hu; go_simp))
            intro K hK
            go_simp
            refine hK _ ?_
            clear hK K)
         | (apply QC.wpC_pure
            (focus rfl)
            (focus decide)
            intro K hK
            go_simp
            first
             | (refine hK _ ?_; clear hK K)
             | (apply Exists.intro
                refine ⟨fun u => ?_, hK _ ?_⟩
                (focus (unfold QP.oat; go_simp; first | done | exact ⟨rfl, rfl⟩ | exact rfl))
                clear hK K)))
      apply QC.wpC_eff
      (focus rfl)
      (focus decide)
      go_wp2_with fail
      rw [ET.out]
      refine (WSU.out).mono ?_
      rintro e v2 ⟨⟨uu, rfl⟩, j2⟩
      rw [EB.out] at j2
      have J2 := Lib.hid j2
      have c2 := j2.c2
      have f2 := j2.fr 2
      have j3 := j2.many (q + 1)
      rw [show ((q + 1 : Nat) : Int) = (q : Int) + 1 by omega] at j3
      obtain ⟨v3, hv3⟩ : ∃ v3, v2.setCell ⟨jb, 2, none⟩ (.int .i64 ((q : Int) + 1)) = v3 := ⟨_, rfl⟩
      have hs3 : v3.heap.size = v2.heap.size := by rw [← hv3]; simp
      rw [hv3] at j3
      have HV3 := Lib.hid hv3
      have J4 := Lib.hid (j3.same ((Below.refl _ _).alloc (Nat.le_refl _) (.cells #[.string T] 9)))
      have OWN := Lib.hid (J4.out.rest.own List.mem_cons_self)
      have HC : Hid (∀ j u, [Value.string T][j]? = some u → (v3.alloc (.cells #[.string T] 9)).cell? ((⟨v2.heap.size, 0, none⟩ : Addr).add j) = some u) := Lib.hid (fun j u hu => by
        rw [← hs3]
        match j, hu with
        | 0, hu => cases hu; go_simp)
      clear j2 WSU WS J1 hv3 j3 hs3
      go_wp2
      refine QC.eff_ok rfl ?_ ?_
      · (repeat (first | exact QC.obl_nil | refine QC.obl_is (by assumption) ?_ | (apply QC.obl_dep; (focus decide))))
      refine QC.wpC_nil ?_
      go_wp2_with (first | (at_builtin; rw [HV3.out]; refine wpList_append_sep2 _ rfl (.tmp 46) (.tmp 48) 26 rfl n 9 i9 _ 1 16 Tryd.underlying26 hi9 hi9a hi9b hi9c rfl (by decide) (.slice ad q cp) q xs ?a1 OWN.out ⟨v2.heap.size, 0, none⟩ 1 1 [.string T] ?a2 rfl HC.out ?a4 (by decide) ?a5 ?a6 J4.out.ge ?_) | fail)
      case a1 => rfl
      case a2 => rfl
      case a4 => intro y hy; simp at hy; subst hy; rfl
      case a5 => unfold maxLen; omega
      case a6 => omega
      intro l' v5 ho hg hs5
      have J5 := Lib.hid (J4.out.grow N3.out (by rw [EX.out] at ho; exact ho) hg (hs5.imp id (fun h g e => by have := h g e; simp; omega)))
      obtain ⟨la, ll, lc, hl'⟩ : ∃ la ll lc, l' = .slice la ll lc := by
        rcases ho.2 with ⟨e, _⟩ | ⟨_, _, _, e, _⟩
        · exact ⟨_, _, _, e⟩
        · exact ⟨_, _, _, e⟩
      subst hl'
      have hll : ll = q + 1 := by
        rcases ho.2 with ⟨e, h0⟩ | ⟨_, _, _, e, _⟩
        · omega
        · cases e; rfl
      subst hll
      clear ho hg hs5
      go_wp2
      go_roundg (K - (q + 1))
      case rel => exact ⟨q + 1, la, lc, HREL.out, by rw [ED.out, ← ER.out], rfl, J5.out⟩
      case measure => exact HMEA.out
    · have hqk : q = K := by omega
      subst hqk
      have e1 : L.drop q = [] := List.drop_eq_nil_of_le (by omega)
      have e2 : L.take q = L := List.take_of_length_le (by omega)
      rw [e1] at GE hsz ⊢
      rw [e2] at jq
      have e3 : rcds q [] ++ tl = tl := empty_app tl
      rw [e3] at GE hsz ⊢
      have c2 := jq.c2
      have uw : IntKind.u64.wrap (q : Int) = (q : Int) := by have := HLL.out; rw [IntKind.wrap_u64]; omega
      have JQ := Lib.hid jq
      have BAD := HB.out
      rw [hlen] at BAD
      unfold Bad at BAD
      clear J0 jq hsz HB
      generalize getR tl = G at *
      obtain ⟨gn, gt, gw, ge⟩ := G
      simp only at BAD GE
      clear hg hlt e1 e2 e3 hlen
      go_wp2_with fail
      refine (GE.out).mono ?_
      rintro e v1 ⟨rfl, b1⟩
      have j1 := JQ.out.same b1
      have c2 := j1.c2
      have J1 := Lib.hid j1
      clear GE b1 j1
      by_cases hge : ge = 0
      · have hgn : gn ≠ (q : Nat) := by rcases BAD with h | h; exact absurd hge h; exact h
        subst hge
        clear BAD
        go_wp2
        go_ret2
        exact ⟨_, _, _, rfl, J1.out⟩
      · clear BAD
        go_wp2
        go_ret2
        exact ⟨_, _, _, rfl, J1.out⟩
end
end Go.Proofs.YtiilgkhndfnkgaaDoor
