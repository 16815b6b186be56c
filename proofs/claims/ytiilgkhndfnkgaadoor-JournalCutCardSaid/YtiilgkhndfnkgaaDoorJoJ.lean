/- Of any beginning of a journal's bytes all records are told that were whole: the walk of JournalCut; the condition is that the tables are laid. -/
import Derived.Test.YtiilgkhndfnkgaaDoorJoI
namespace Go.Proofs.YtiilgkhndfnkgaaDoor
open Oc
open Go.RowKit
set_option linter.unusedVariables false
theorem wpList_append_sep4 {P : Program} (w : World) {ops : Array Oper} {rest : List Oper} {o : Oper} {a : Act} {Q : Exit → Act → World → Prop}
    (hg : o.guard = none) (s x : Operand) (t : TypeId) (hop : o.op = Op.call { callee := Callee.builtin Builtin.append, args := #[s, x], argTypes := #[t, t] })
    (base : Nat) (e : TypeId) (i : TypeInfo) (z : Value) (size bytes : Nat) (h1 : P.underlying t = some (.slice e)) (h2 : P.info? e = some i) (h3 : i.zero = some z) (h4 : i.size = size) (h5 : i.bytes = bytes) (h6 : z.cells.size = size) (h7 : 0 < size)
    (g k cap : Nat) (xs : List Value) (hs : a.eval s = .slice (some ⟨g, 0, none⟩) k cap) (hown : w.ownsRow base e size (.slice (some ⟨g, 0, none⟩) k cap) k xs)
    (ad : Addr) (m c : Nat) (news : List Value) (hx : a.eval x = .slice (some ad) m c) (hn : news.length = m * size) (hc : ∀ j u, news[j]? = some u → w.cell? (ad.add j) = some u) (h1c : ∀ u ∈ news, u.oneCell' = true)
    (b1 : k + m ≤ maxLen) (b2 : (k + m) * bytes ≤ 140737488355328) (hbase : base ≤ w.heap.size)
    (hK : ∀ g' cap' w', w'.ownsRow base e size (.slice (some ⟨g', 0, none⟩) (k + m) cap') (k + m) (xs ++ news) → w.grownBy w' (some g) → (g' = g ∨ w.heap.size ≤ g') → wpList P ops Q rest (a.put o.dst (.slice (some ⟨g', 0, none⟩) (k + m) cap')) w') :
    wpList P ops Q (o :: rest) a w := by
  by_cases hr : k + m ≤ cap
  · exact wpList_append_fits w hg s x t hop base e i size h1 h2 h4 g k cap xs hs hown ad m c news hx hn hc h1c hr (fun w' q1 q2 => hK _ _ _ q1 q2 (.inl rfl))
  · exact wpList_append_sep w hg s x t hop base e i z size bytes h1 h2 h3 h4 h5 h6 h7 g k cap xs hs hown ad m c news hx hn hc h1c (by omega) b1 b2 hbase hK
section
variable {n : Nat} {w0 v v' : World} {a c jb m : Nat} {B : ByteArray} {X X' Y : Ths}
/-- a thing beside a journal grows -/
theorem Jn.growAt {t : TypeId} {sz k k' : Nat} {u u' : Value} {xs xs' : List Value} (h : Jn n w0 a jb m B X v) (hX : ∀ x ∈ (c, Th.own t sz u k xs) :: Y, x ∈ X) (hX' : ∀ x ∈ X', x ∈ (c, Th.own t sz u' k' xs') :: Y) (hn : New c Y)
    (ho : v'.ownsRow n t sz u' k' xs') (hg : v.grownBy v' u.ownBlock) (hs : u'.ownBlock = u.ownBlock ∨ ∀ g, u'.ownBlock = some g → v.heap.size ≤ g) : Jn n w0 a jb m B X' v' :=
  ((h.sub hX).grow hn ho hg hs).sub hX'
end
theorem info3 : (Tryd.prog.info? 3).map (fun i => (i.zero, i.size, i.bytes)) = some (some (.int .i64 0), 1, 8) := by kernel_rfl
/-- a text of a list of texts: a slice -/
structure Rw where
  A : Option Addr
  cap : Nat
  l : List ByteArray
def Rw.cells (r : Rw) : List Value := [.slice r.A r.l.length r.cap]
structure Rw.ok (W : World) (r : Rw) : Prop where
  cap : r.cap ≤ maxLen
  le : r.l.length ≤ r.cap
  at_ : RowK.SlAt W 1 (fun s => [Value.string s]) r.A r.l
  sz : ∀ s ∈ r.l, s.size ≤ maxLen
theorem rw_at {w : World} {A : Option Addr} {T : List Rw} (h : RowK.SlAt w 1 Rw.cells A T) {i : Nat} (hi : i < T.length) {n : Nat} (hn : w.heap.size = n) :
    ∃ b off, A = some ⟨b, off, none⟩ ∧ ∀ v, Below n w v → v.cell? ⟨b, off + i, none⟩ = some (.slice (T[i]).A (T[i]).l.length (T[i]).cap) := by
  obtain ⟨b, off, rfl, hb, hr⟩ := h.at_ hi
  refine ⟨b, off, rfl, fun v hv => ?_⟩
  have := hr i (T[i]) (List.getElem?_eq_getElem hi) 0 _ rfl
  rw [hv.cell (by show b < n; omega)]
  simpa using this
set_option maxHeartbeats 8000000 in
set_option maxRecDepth 100000 in
theorem cut_walk (A : Option Addr) (cap : Nat) (T : List Rw) (ct : Nat) (w : World) (ht : Tabs w) (hct : ct < 65536) (hcap : cap ≤ maxLen) (hlc : T.length ≤ cap) (hsl : RowK.SlAt w 1 Rw.cells A T) (hok : ∀ r ∈ T, r.ok w) :
    Calls Tryd.prog 3 #[.slice A T.length cap, .int .u16 ct] w (Fine w) := by
  obtain ⟨i9, hi9, hi9a, hi9b, hi9c⟩ := info_parts info9
  obtain ⟨i3, hi3, hi3a, hi3b, hi3c⟩ := info_parts info3
  unfold Fine
  obtain ⟨n, hn⟩ : ∃ n, w.heap.size = n := ⟨_, rfl⟩
  have h1n : 1 < n := hn ▸ ht.lt
  have SH := Lib.hid (fun v (hb : Below n w v) => shown_any v (ht.below hb h1n))
  have HN := Lib.hid hn
  have NX := Lib.hid (fun v v' (h : Below n w v) (g : Below v.heap.size v v') => h.trans (g.mono (by rw [← hn]; exact h.size)))
  have b0 : Below n w w := Below.refl _ _
  have hlen : T.length ≤ 9223372036854775807 := by unfold maxLen at hcap; omega
  obtain ⟨len, hlen'⟩ : ∃ len, T.length = len := ⟨_, rfl⟩
  rw [hlen'] at hlen ⊢
  by_cases g1 : 20 < len
  · skip
    clear ht hn hsl hok hlen' hcap hlc h1n
    go_enter Tryd.func3, Tryd.ntmps3
    go_wp2_with fail
    refine (SH.out _ b0).mono ?_
    rintro e w1 ⟨rfl, gq⟩
    have B1 := Lib.hid (NX.out _ _ b0 gq)
    clear gq
    go_wp2
    go_ret
    exact ⟨rfl, HN.out ▸ B1.out⟩
  have CELL := Lib.hid (fun i (hi : i < len) => show ∃ (b off : Nat) (r : Rw), r.ok w ∧ A = some ⟨b, off, none⟩ ∧ ∀ v, Below n w v → v.cell? ⟨b, off + i, none⟩ = some (.slice r.A r.l.length r.cap) from by
    obtain ⟨b, off, e, h⟩ := rw_at hsl (show i < T.length by omega) hn
    exact ⟨b, off, T[i], hok _ (List.getElem_mem _), e, h⟩)
  have TS := Lib.hid (show TW n w [] w from hn ▸ TW.start w)
  have HT := Lib.hid ht; have H1 := Lib.hid h1n
  have NN := Lib.hid (show ∀ a, New a [] from fun a y hy => by cases hy)
  have e1 : rcds 0 [] ++ ByteArray.empty = ⟨#[]⟩ := rfl
  have RC0 := Lib.hid (fun v (hb : Below n w v) => recover_any (a := 0) (c := 9) HT.out H1.out (TS.out.same (HN.out ▸ hb)) (NN.out _) (NN.out _) (NN.out _) (by decide) (by decide) [] .empty (by simp) (by simp) (by decide) (Bad.nil _))
  simp only [e1] at RC0
  clear ht hn hsl hok hlen' hcap hlc h1n e1
  go_enter Tryd.func3, Tryd.ntmps3
  go_wp2_with fail
  refine (SH.out _ b0).mono ?_
  rintro e w1 ⟨rfl, gq⟩
  have B1 := Lib.hid (NX.out _ _ b0 gq)
  clear gq b0
  go_wp2_with fail
  refine (RC0.out _ B1.out).mono ?_
  rintro e w2 ⟨g, ad, cp, rfl, j1⟩
  have j2 := (j1.sub (X' := []) (fun x hx => by cases hx)).lit (c := 2) (NN.out 2) (by decide) (by decide) 9 1 0 #[] (by decide) rfl
  have j3 := j2.lit (c := 3) ((NN.out 3).cons (by decide)) (by decide) (by decide) 3 1 1 #[.int .i64 0] (by decide) rfl
  rw [show (w2.alloc (.cells #[] 9)).heap.size = w2.heap.size + 1 by simp] at j3
  have J3 := Lib.hid (j3.sub (X' := [(2, .own 9 1 (.slice (some ⟨w2.heap.size, 0, none⟩) 0 0) 0 []), (3, .own 3 1 (.slice (some ⟨w2.heap.size + 1, 0, none⟩) 1 1) 1 [.int .i64 0])]) (fun x hx => by simp only [List.mem_cons] at hx ⊢; rcases hx with e | e | e; exact .inr (.inl e); exact .inl e; exact .inr (.inr e)))
  clear j1 j2 j3 RC0 B1
  go_wp2
  go_loopg [7, 8, 9, 10] len (fun gk av ev tv iv u => ∃ (j LM Z E : Nat) (M : List ByteArray) (aa ca ae ce : Nat), gk + j = len ∧ M.length = LM ∧ LM ≤ 10 * j ∧ (∀ t ∈ M, t.size ≤ 200) ∧ (rcds 0 M).size = Z ∧ LM + 1 = E ∧ av = .slice (some ⟨aa, 0, none⟩) LM ca ∧ ev = .slice (some ⟨ae, 0, none⟩) E ce ∧
    tv = .int .i64 (Z : Nat) ∧ iv = .int .i64 (j : Nat) ∧ Jn n w 0 g LM (rcds 0 M) [(2, .own 9 1 (.slice (some ⟨aa, 0, none⟩) LM ca) LM (M.map .string)), (3, .own 3 1 (.slice (some ⟨ae, 0, none⟩) E ce) E (endV M))] u)
  case atStart => exact ⟨0, 0, 0, 1, [], _, _, _, _, by omega, rfl, by omega, by simp, rfl, rfl, rfl, rfl, rfl, rfl, J3.out⟩
  case round =>
    obtain ⟨j, LM, Z, E, M, aa, ca, ae, ce, hg, hLM, hL10, hM, hZ, hE, rfl, rfl, rfl, rfl, jj⟩ := hrel
    have JJ := Lib.hid jj
    clear jj J3
    have HLM := Lib.hid hLM; have HM := Lib.hid hM; have HZ := Lib.hid hZ; have HE := Lib.hid hE; have HL10 := Lib.hid hL10
    have hzb : Z ≤ 1000000 := by
      have := rcds_le M 0 (fun t ht => by have := hM t ht; omega)
      omega
    clear hLM hL10 hM hZ hE
    by_cases hlt : j < len
    · have HREL := Lib.hid (show len - (j + 1) + (j + 1) = len by omega)
      have HMEA := Lib.hid (show len - (j + 1) < gk by omega)
      have hj1 : IntKind.i64.wrap ((j : Int) + 1) = ((j + 1 : Nat) : Int) := by rw [IntKind.wrap_i64]; omega
      obtain ⟨b, off, r, rok, rfl, hcell⟩ := CELL.out j hlt
      obtain ⟨Ar, capr, lr⟩ := r
      have HR := Lib.hid rok
      have HC := Lib.hid hcell
      have c1 := hcell wr JJ.out.bel
      have hll : lr.length ≤ 9223372036854775807 := by have h1 := rok.cap; have h2 := rok.le; unfold maxLen at h1; simp only at h1 h2; omega
      obtain ⟨ll, hl0⟩ : ∃ ll, lr.length = ll := ⟨_, rfl⟩
      have HLL := Lib.hid hl0
      simp only [hl0] at c1 HC hll
      clear hg hcell rok hl0
      by_cases g2 : 10 < ll
      · go_wp2_with fail
        refine (SH.out _ JJ.out.bel).mono ?_
        rintro e w4 ⟨rfl, gq⟩
        have B4 := Lib.hid (NX.out _ _ JJ.out.bel gq)
        clear gq
        go_wp2
        go_ret
        exact ⟨rfl, HN.out ▸ B4.out⟩
      have j4 := JJ.out.lit (c := 4) (((NN.out 4).cons (by decide)).cons (by decide)) (by decide) (by decide) 9 1 0 #[] (by decide) rfl
      have J4 := Lib.hid j4
      clear j4 JJ
      go_wp2
      go_loopg [8, 9, 11, 12] ll (fun gk ev tv sv iv u => ∃ (q Z E : Nat) (S : List ByteArray) (ae ce ash cs : Nat), gk + q = ll ∧ S.length = q ∧ (∀ t ∈ S, t.size ≤ 200) ∧ (rcds 0 (M ++ S)).size = Z ∧ LM + q + 1 = E ∧ ev = .slice (some ⟨ae, 0, none⟩) E ce ∧ tv = .int .i64 (Z : Nat) ∧
        sv = .slice (some ⟨ash, 0, none⟩) q cs ∧ iv = .int .i64 (q : Nat) ∧ Jn n w 0 g LM (rcds 0 M) [(4, .own 9 1 (.slice (some ⟨ash, 0, none⟩) q cs) q (S.map .string)), (2, .own 9 1 (.slice (some ⟨aa, 0, none⟩) LM ca) LM (M.map .string)), (3, .own 3 1 (.slice (some ⟨ae, 0, none⟩) E ce) E (endV (M ++ S)))] u)
      case atStart => exact ⟨0, Z, E, [], ae, ce, _, _, by omega, rfl, by simp, by rw [List.append_nil]; exact HZ.out, HE.out, rfl, rfl, rfl, rfl, by rw [List.append_nil]; exact J4.out⟩
      case round =>
        obtain ⟨q, Z, E, S, ae, ce, ash, cs, hg, hS, hSz, hZ, hE, rfl, rfl, rfl, rfl, jj⟩ := hrel
        have JJ := Lib.hid jj
        clear jj J4
        have HS := Lib.hid hS; have HSZ := Lib.hid hSz; have HZ2 := Lib.hid hZ; have HE2 := Lib.hid hE
        have c1 := HC.out wr JJ.out.bel
        have hzb2 : Z ≤ 1000000 := by
          have := rcds_le (M ++ S) 0 (fun t ht => by rcases List.mem_append.1 ht with h | h; have := HM.out t h; omega; have := hSz t h; omega)
          have := HLM.out; have := HL10.out
          rw [List.length_append] at *
          omega
        have heb : E ≤ 1000 := by have := HL10.out; omega
        clear hS hSz hZ hE
        by_cases hlq : q < ll
        · have HREL2 := Lib.hid (show ll - (q + 1) + (q + 1) = ll by omega)
          have HMEA2 := Lib.hid (show ll - (q + 1) < gk by omega)
          have hq1 : IntKind.i64.wrap ((q : Int) + 1) = ((q + 1 : Nat) : Int) := by rw [IntKind.wrap_i64]; omega
          obtain ⟨b2, off2, hA, hcell2⟩ := str_at HR.out.at_ (i := q) (by show q < lr.length; rw [HLL.out]; exact hlq) HN.out
          simp only at hA
          subst hA
          have HC2 := Lib.hid (fun v hv => hcell2 v hv q (by show q < lr.length; rw [HLL.out]; exact hlq))
          obtain ⟨x, hx⟩ : ∃ x, lr.getD q .empty = x := ⟨_, rfl⟩
          have hxs : x.size ≤ 9223372036854775807 := by
            have hq' : q < lr.length := by rw [HLL.out]; exact hlq
            have := HR.out.sz (lr[q]) (List.getElem_mem hq')
            unfold maxLen at this
            rw [← hx, List.getD_eq_getElem?_getD, List.getElem?_eq_getElem hq']; exact this
          have HX := Lib.hid hx
          simp only [hx] at HC2
          clear hg hcell2 hx
          skip
          have hmin : (if (200 : Int) < (x.size : Int) then (200 : Int) else (x.size : Int)) = (min x.size 200 : Nat) := by split <;> omega
          have hle1 : ((min x.size 200 : Nat) : Int) ≤ (x.size : Nat) := by omega
          have hcx : x.extract 0 (min x.size 200) = cutT x := rfl
          obtain ⟨mn, hmn⟩ : ∃ mn, min x.size 200 = mn := ⟨_, rfl⟩
          rw [hmn] at hmin hle1 hcx
          have HCX := Lib.hid hcx
          have hcs := cutT_size x
          clear hmn hcx
          generalize cutT x = CT at *
          go_wp2
          refine QC.wp_region_d [] [0, 1, 2, 3, 4, 5, 6, 7, 8, 9, 10, 11, 12, 13, 14, 15, 16, 17] (by kernel_rfl) (by kernel_rfl) (fun u d => ?_)
          have ju := JJ.out.same (d.below (n := wr.heap.size))
          have cu1 := HC.out u ju.bel
          have cu2 := HC2.out u ju.bel
          have JU := Lib.hid ju
          clear d ju c1
          iterate 18
            (first
             | (apply QC.wpC_load
                (focus rfl)
                (focus decide)
                (focus rfl)
                (focus rfl)
                (focus rfl)
                (focus (assumption))
                (focus (intro u hu; go_simp))
                intro K hK
                go_simp
                refine hK _ ?_
                clear hK K)
             | (apply QC.wpC_pure
                (focus rfl)
                (focus decide)
                intro K hK
                go_simp
                first
                 | (refine hK _ ?_; clear hK K)
                 | (apply Exists.intro
                    refine ⟨fun u => ?_, hK _ ?_⟩
                    (focus (unfold QP.oat; go_simp; first | done | exact ⟨rfl, rfl⟩ | exact rfl))
                    clear hK K)))
          refine QC.wpC_nil ?_
          have J5 := Lib.hid (JU.out.same ((Below.refl _ _).alloc (Nat.le_refl _) (.cells #[.string CT] 9)))
          have OW5 := Lib.hid (J5.out.own List.mem_cons_self)
          have HC5 : Hid (∀ j y, [Value.string CT][j]? = some y → (u.alloc (.cells #[.string CT] 9)).cell? ((⟨u.heap.size, 0, none⟩ : Addr).add j) = some y) := Lib.hid (fun j y hy => by
            match j, hy with
            | 0, hy => cases hy; go_simp)
          obtain ⟨Y, hY⟩ : ∃ Y, 14 + CT.size = Y := ⟨_, rfl⟩
          obtain ⟨Z2, hZ2⟩ : ∃ Z2, Z + Y = Z2 := ⟨_, rfl⟩
          have wy1 : IntKind.i64.wrap (14 + (CT.size : Int)) = (Y : Nat) := by rw [IntKind.wrap_i64]; omega
          have wy2 : IntKind.i64.wrap ((Z : Int) + (Y : Int)) = (Z2 : Nat) := by rw [IntKind.wrap_i64]; omega
          have HY := Lib.hid hY; have HZ3 := Lib.hid hZ2; have HCS := Lib.hid hcs
          clear cu1 cu2 JU JJ hY hZ2 hcs
          go_wp2_with (at_builtin; rw [HCX.out]; refine wpList_append_sep4 _ rfl (.tmp 73) (.tmp 75) 26 rfl n 9 i9 _ 1 16 Tryd.underlying26 hi9 hi9a hi9b hi9c rfl (by decide) ash q cs (S.map .string) ?a1 OW5.out ⟨u.heap.size, 0, none⟩ 1 1 [.string CT] ?a2 rfl HC5.out ?a4 ?a5 ?a6 J5.out.ge ?_)
          case a1 => rfl
          case a2 => rfl
          case a4 => intro y hy; simp at hy; subst hy; rfl
          case a5 => unfold maxLen; omega
          case a6 => omega
          intro ash' cs' w5 ho hg hs5
          have J6 := Lib.hid (J5.out.growAt (c := 4) (X' := [(4, .own 9 1 (.slice (some ⟨ash', 0, none⟩) (q + 1) cs') (q + 1) ((S ++ [CT]).map .string)), (2, .own 9 1 (.slice (some ⟨aa, 0, none⟩) LM ca) LM (M.map .string)), (3, .own 3 1 (.slice (some ⟨ae, 0, none⟩) E ce) E (endV (M ++ S)))])
            (Y := [(2, .own 9 1 (.slice (some ⟨aa, 0, none⟩) LM ca) LM (M.map .string)), (3, .own 3 1 (.slice (some ⟨ae, 0, none⟩) E ce) E (endV (M ++ S)))]) (fun x hx => hx) (fun x hx => hx) (((NN.out 4).cons (by decide)).cons (by decide))
            (by rw [List.map_append]; exact ho) hg (by rcases hs5 with e | e; exact .inl (by rw [e]; rfl); exact .inr (fun g he => by cases he; simpa using e)))
          have J7 := Lib.hid (J6.out.same ((Below.refl _ _).alloc (Nat.le_refl _) (.cells #[.int .i64 (Z2 : Nat)] 3)))
          have OW7 := Lib.hid (J7.out.own (List.mem_cons_of_mem _ (List.mem_cons_of_mem _ List.mem_cons_self)))
          have HC7 : Hid (∀ j y, [Value.int .i64 (Z2 : Nat)][j]? = some y → (w5.alloc (.cells #[.int .i64 (Z2 : Nat)] 3)).cell? ((⟨w5.heap.size, 0, none⟩ : Addr).add j) = some y) := Lib.hid (fun j y hy => by
            match j, hy with
            | 0, hy => cases hy; go_simp)
          clear ho hg hs5 J5 OW5 HC5
          go_wp2_with (at_builtin; refine wpList_append_sep4 _ rfl (.tmp 82) (.tmp 84) 29 rfl n 3 i3 _ 1 8 Tryd.underlying29 hi3 hi3a hi3b hi3c rfl (by decide) ae E ce (endV (M ++ S)) ?b1 OW7.out ⟨w5.heap.size, 0, none⟩ 1 1 [.int .i64 (Z2 : Nat)] ?b2 rfl HC7.out ?b4 ?b5 ?b6 J7.out.ge ?_)
          case b1 => rfl
          case b2 => rfl
          case b4 => intro y hy; simp at hy; subst hy; rfl
          case b5 => unfold maxLen; omega
          case b6 => omega
          intro ae' ce' w7 ho hg hs7
          have hend : endV (M ++ (S ++ [CT])) = endV (M ++ S) ++ [.int .i64 (Z2 : Nat)] := by
            rw [← List.append_assoc, endV_snoc]
            have h1 := rcds_size_snoc (M ++ S) CT
            have h2 := HZ2.out; have h3 := HY.out; have h4 := HZ3.out
            rw [show (rcds 0 (M ++ S ++ [CT])).size = Z2 by omega]
          have J8 := Lib.hid (J7.out.growAt (c := 3) (X' := [(4, .own 9 1 (.slice (some ⟨ash', 0, none⟩) (q + 1) cs') (q + 1) ((S ++ [CT]).map .string)), (2, .own 9 1 (.slice (some ⟨aa, 0, none⟩) LM ca) LM (M.map .string)), (3, .own 3 1 (.slice (some ⟨ae', 0, none⟩) (E + 1) ce') (E + 1) (endV (M ++ (S ++ [CT]))))])
            (Y := [(4, .own 9 1 (.slice (some ⟨ash', 0, none⟩) (q + 1) cs') (q + 1) ((S ++ [CT]).map .string)), (2, .own 9 1 (.slice (some ⟨aa, 0, none⟩) LM ca) LM (M.map .string))])
            (fun x hx => by simp only [List.mem_cons] at hx ⊢; rcases hx with e | e | e | e; exact .inr (.inr (.inl e)); exact .inl e; exact .inr (.inl e); exact .inr (.inr (.inr e)))
            (fun x hx => by simp only [List.mem_cons] at hx ⊢; rcases hx with e | e | e | e; exact .inr (.inl e); exact .inr (.inr (.inl e)); exact .inl e; exact .inr (.inr (.inr e))) (((NN.out 3).cons (by decide)).cons (by decide))
            (by rw [hend]; exact ho) hg (by rcases hs7 with e | e; exact .inl (by rw [e]; rfl); exact .inr (fun g he => by cases he; simpa using e)))
          clear ho hg hs7 hend J7 OW7 HC7 J6
          go_wp2
          go_roundg (ll - (q + 1))
          case rel => exact ⟨q + 1, Z2, E + 1, S ++ [CT], ae', ce', ash', cs', HREL2.out, by rw [List.length_append, HS.out]; rfl, fun t ht => by
            rcases List.mem_append.1 ht with h | h
            · exact HSZ.out t h
            · simp at h; subst h; exact HCS.out, by
            have h1 := rcds_size_snoc (M ++ S) CT
            have h2 := HZ2.out; have h3 := HY.out; have h4 := HZ3.out
            rw [← List.append_assoc]; omega, by have := HE2.out; omega, rfl, rfl, rfl, by first | rfl | go_num, J8.out⟩
          case measure => exact HMEA2.out
        · have hq : q = ll := by omega
          subst hq
          clear hg hlq HLL HR HC
          have hMS : (M ++ S).length = LM + q := by rw [List.length_append, HLM.out, HS.out]
          have AP := Lib.hid (append_any HT.out H1.out JJ.out S HS.out List.mem_cons_self (fun t ht => by have := HSZ.out t ht; omega) (by have := HL10.out; omega) (by have := HZ.out; omega))
          have eR : rcds 0 M ++ rcds LM S = rcds 0 (M ++ S) := by rw [rcds_append, Nat.zero_add, HLM.out]
          rw [eR] at AP
          have HMS := Lib.hid hMS
          have hla : LM + q ≤ 1000 := by have := HL10.out; omega
          clear eR hMS
          go_wp2_with fail
          refine (AP.out).mono ?_
          rintro e w8 ⟨rfl, j8⟩
          clear c1
          have J8 := Lib.hid j8
          have OW8 := Lib.hid (J8.out.own (List.mem_cons_of_mem _ List.mem_cons_self))
          have OS8 := Lib.hid (J8.out.own List.mem_cons_self)
          have HC8 : Hid (∀ j y, (S.map Value.string)[j]? = some y → w8.cell? ((⟨ash, 0, none⟩ : Addr).add j) = some y) := Lib.hid (fun j y hy => OS8.out.cells rfl j y hy)
          clear j8 AP JJ OS8
          go_wp2_with (at_builtin; refine wpList_append_sep4 _ rfl (.tmp 90) (.tmp 91) 26 rfl n 9 i9 _ 1 16 Tryd.underlying26 hi9 hi9a hi9b hi9c rfl (by decide) aa LM ca (M.map .string) ?c1 OW8.out ⟨ash, 0, none⟩ q cs (S.map .string) ?c2 ?c3 HC8.out ?c4 ?c5 ?c6 J8.out.ge ?_)
          case c1 => rfl
          case c2 => rfl
          case c3 => rw [List.length_map, HS.out]; omega
          case c4 => intro y hy; obtain ⟨t, _, rfl⟩ := List.mem_map.1 hy; rfl
          case c5 => unfold maxLen; omega
          case c6 => omega
          intro aa' ca' w9 ho hg hs9
          have J9 := Lib.hid (J8.out.growAt (c := 2) (X' := [(2, .own 9 1 (.slice (some ⟨aa', 0, none⟩) (LM + q) ca') (LM + q) ((M ++ S).map .string)), (3, .own 3 1 (.slice (some ⟨ae, 0, none⟩) E ce) E (endV (M ++ S)))])
            (Y := [(3, .own 3 1 (.slice (some ⟨ae, 0, none⟩) E ce) E (endV (M ++ S)))])
            (fun x hx => by simp only [List.mem_cons] at hx ⊢; rcases hx with e | e | e; exact .inr (.inl e); exact .inr (.inr (.inl e)); exact .inr (.inr (.inr e)))
            (fun x hx => hx) ((NN.out 2).cons (by decide))
            (by rw [List.map_append]; exact ho) hg (by rcases hs9 with e | e; exact .inl (by rw [e]; rfl); exact .inr (fun g he => by cases he; exact e)))
          clear ho hg hs9 J8 OW8 HC8
          go_wp2
          go_roundg (len - (j + 1))
          case rel => exact ⟨j + 1, LM + q, Z, E, M ++ S, aa', ca', ae, ce, HREL.out, HMS.out, by have := HL10.out; omega, fun t ht => by
            rcases List.mem_append.1 ht with h | h
            · exact HM.out t h
            · exact HSZ.out t h, HZ2.out, HE2.out, rfl, rfl, rfl, by first | rfl | go_num, J9.out⟩
          case measure => exact HMEA.out
    · have hj : j = len := by omega
      subst hj
      have hzz := HZ.out
      subst hzz
      obtain ⟨B0, hB0⟩ : ∃ B0, rcds 0 M = B0 := ⟨_, rfl⟩
      rw [hB0] at JJ hzb ⊢
      have HB0 := Lib.hid hB0
      obtain ⟨kk, hk0⟩ : ∃ kk, ct % (B0.size + 1) = kk := ⟨_, rfl⟩
      have hkk : kk ≤ B0.size := by have := Nat.mod_lt ct (show 0 < B0.size + 1 by omega); omega
      have hbw : IntKind.i64.wrap ((B0.size : Int) + 1) = ((B0.size + 1 : Nat) : Int) := by rw [IntKind.wrap_i64]; omega
      have htm : (ct : Int).tmod ((B0.size + 1 : Nat) : Int) = (kk : Nat) := by rw [← Int.ofNat_tmod, hk0]
      have htm2 : (ct : Int).tmod ((B0.size : Int) + 1) = (kk : Nat) := htm
      have hne : ¬ (((B0.size + 1 : Nat) : Int) = 0) := by omega
      have hne2 : ¬ ((B0.size : Int) + 1 = 0) := by omega
      have hEq : E = LM + 1 := HE.out.symm
      have HEE := Lib.hid hEq
      have hL200 : LM ≤ 200 := by have := HL10.out; omega
      have BY := Lib.hid (bytes_of_journal JJ.out (by omega))
      clear hB0 hk0 hg hlt HZ HE HL10 hEq
      go_wp2_with fail
      refine (BY.out).mono ?_
      rintro e w10 ⟨rfl, j10⟩
      have LN := Lib.hid (len_of_journal j10)
      have JW := Lib.hid j10
      clear j10 BY JJ
      go_wp2_with fail
      refine (LN.out).mono ?_
      rintro e w11 ⟨rfl, rfl⟩
      go_wp2
      clear LN
      go_loopg [16] LM (fun gk iv u => ∃ nn : Nat, gk + nn = LM ∧ iv = .int .i64 (nn : Nat) ∧ Hid ((rcds 0 (M.take nn)).size ≤ kk) ∧ u = w10)
      case atStart => exact ⟨0, by omega, rfl, Lib.hid (by show (ByteArray.empty).size ≤ kk; simp), rfl⟩
      case round =>
        obtain ⟨nn, hg, rfl, hlo, rfl⟩ := hrel
        have hnn : nn ≤ LM := by omega
        have HLO := Lib.hid hlo.out
        have hlo := hlo.out
        have hE1 : E = LM + 1 := HEE.out
        have hn2 : IntKind.i64.wrap ((nn : Int) + 1) = ((nn + 1 : Nat) : Int) := by rw [IntKind.wrap_i64]; omega
        have hidx : (nn : Int) < (LM : Int) + 1 := by omega
        by_cases hlt : nn < LM
        · obtain ⟨ge, he, cE⟩ := JW.out.rest.cellOf (List.mem_cons_of_mem _ List.mem_cons_self) rfl (endV_at M (nn + 1) (by rw [HLM.out]; omega))
          cases he
          by_cases hle : (rcds 0 (M.take (nn + 1))).size ≤ kk
          · have HREL := Lib.hid (show LM - (nn + 1) + (nn + 1) = LM by omega)
            have HMEA := Lib.hid (show LM - (nn + 1) < gk by omega)
            have HLE := Lib.hid hle
            clear hg hlo
            generalize hZn : (rcds 0 (M.take (nn + 1))).size = Zn at *
            have HZN := Lib.hid hZn
            clear hZn
            go_wp2
            go_roundg (LM - (nn + 1))
            case rel => exact ⟨nn + 1, HREL.out, by first | rfl | go_num, Lib.hid (by rw [HZN.out]; exact HLE.out), rfl⟩
            case measure => exact HMEA.out
          · have HIH : nn < M.length → kk < (rcds 0 (M.take (nn + 1))).size := fun _ => by omega
            clear hg
            have HIH := Lib.hid HIH
            generalize hZn : (rcds 0 (M.take (nn + 1))).size = Zn at *
            have hfin := cut_at M (fun t ht => by have := HM.out t ht; omega) (by rw [HLM.out]; omega) nn kk (by rw [HB0.out]; exact hkk) (by rw [HLM.out]; exact hnn) hlo (by intro h; have := HIH.out h; omega)
            obtain ⟨tl, htl, hbad⟩ := hfin
            have hnl : (M.take nn).length = nn := by rw [List.length_take, HLM.out]; omega
            have hpz : (rcds 0 (M.take nn)).size ≤ B0.size := by omega
            have hpre := pre_take M nn
            rw [HB0.out] at hpre htl
            have RC := Lib.hid (recover_beside (a' := 5) (c' := 7) HT.out H1.out JW.out (((NN.out _).cons (by decide)).cons (by decide)) (((NN.out _).cons (by decide)).cons (by decide)) (((NN.out _).cons (by decide)).cons (by decide)) (by decide) (by decide) (by decide) (by decide) (by decide) (by decide) (by decide) (M.take nn) tl
              (fun t ht => by have := HM.out t (List.mem_of_mem_take ht); omega) (by rw [hnl]; omega) (by rw [← htl, ByteArray.size_extract]; omega) (by rw [hnl]; exact hbad))
            rw [← htl, hnl] at RC
            have hca : nn ≤ ca := by
              have h := JW.out.own (List.mem_cons_self)
              rcases h.2 with ⟨h, _⟩ | ⟨_, _, _, h, _, _, h2, _⟩
              · cases h
              · cases h; omega
            have CM := Lib.hid (fun (j : Nat) (hj : j < nn) => show ((M.take nn).map Value.string)[j]? = some (.string (M.getD j .empty)) by
              rw [List.getElem?_map, List.getElem?_take, if_pos hj, List.getD_eq_getElem?_getD]
              have : j < M.length := by rw [HLM.out]; omega
              rw [List.getElem?_eq_getElem this]; rfl)
            have CM2 := Lib.hid (fun (j : Nat) (hj : j < nn) => show (M.map Value.string)[j]? = some (.string (M.getD j .empty)) by
              rw [List.getElem?_map, List.getD_eq_getElem?_getD]
              have : j < M.length := by rw [HLM.out]; omega
              rw [List.getElem?_eq_getElem this]; rfl)
            have CE := Lib.hid (endV_at M nn (by rw [HLM.out]; exact hnn))
            have hn1 : IntKind.i64.wrap ((nn : Int) + 1) = ((nn + 1 : Nat) : Int) := by rw [IntKind.wrap_i64]; omega
            have hnk : nn ≤ 200 := by omega
            have hz1 : (⟨#[122]⟩ : ByteArray).size = 1 := rfl
            have HZ1 := Lib.hid hz1
            clear htl hbad hnl hlo hz1 HIH
            generalize rcds 0 (M.take nn) = P0 at *
            have hpn : ((P0.size : Nat) : Int) ≤ (B0.size : Nat) := by omega
            have HPZ := Lib.hid (show P0.size ≤ 1000000 by omega)
            go_wp2_with fail
            refine (RC.out).mono ?_
            rintro e w12 ⟨g2, ad2, cp2, rfl, jx⟩
            have JX2 := Lib.hid jx
            clear jx RC cE
            go_wp2
            refine QC.wp_region_d [7, 11, 22, 23, 28] [0, 1, 2, 3, 4, 5, 6, 7, 8, 9, 10, 12, 13, 14, 15, 16, 17, 11, 18, 19, 20, 21, 22, 23, 24, 25, 26, 27, 29, 30, 28, 31, 32, 33] (by kernel_rfl) (by kernel_rfl) (fun u d => ?_)
            have JU := Lib.hid (JX2.out.same (d.below (n := w12.heap.size)))
            have SM := Lib.hid (same_any u ad2 (some ⟨aa, 0, none⟩) nn cp2 ca (fun j => M.getD j .empty) (by omega) (fun j hj => JU.out.fst.rest.cellOf List.mem_cons_self rfl (CM.out j hj)) (fun j hj => JU.out.fst.rest.cellOf (List.mem_cons_of_mem _ List.mem_cons_self) rfl (CM2.out j hj)))
            clear d JX2 CM CM2
            iterate 7
              (first
               | (apply QC.wpC_load
                  (focus rfl)
                  (focus decide)
                  (focus rfl)
                  (focus rfl)
                  (focus rfl)
                  (focus (assumption))
                  (focus (intro u hu; go_simp))
                  intro K hK
                  go_simp
                  refine hK _ ?_
                  clear hK K)
               | (apply QC.wpC_pure
                  (focus rfl)
                  (focus decide)
                  intro K hK
                  go_simp
                  first
                   | (refine hK _ ?_; clear hK K)
                   | (apply Exists.intro
                      refine ⟨fun u => ?_, hK _ ?_⟩
                      (focus (unfold QP.oat; go_simp; first | done | exact ⟨rfl, rfl⟩ | exact rfl))
                      clear hK K)))
            apply QC.wpC_eff
            (focus rfl)
            (focus decide)
            go_wp2_with fail
            refine (SM.out).mono ?_
            rintro e u2 ⟨rfl, b2⟩
            have J2 := Lib.hid (JU.out.same b2)
            have BY := Lib.hid (bytes2 J2.out (by have := HPZ.out; omega))
            obtain ⟨ge, he, cE2⟩ := J2.out.fst.rest.cellOf (List.mem_cons_of_mem _ (List.mem_cons_of_mem _ List.mem_cons_self)) rfl CE.out
            cases he
            clear b2 SM JU
            go_wp2
            refine QC.eff_ok rfl ?_ ?_
            · (repeat (first | exact QC.obl_nil | refine QC.obl_is (by assumption) ?_ | (apply QC.obl_dep; (focus decide))))
            iterate 9
              (first
               | (apply QC.wpC_load
                  (focus rfl)
                  (focus decide)
                  (focus rfl)
                  (focus rfl)
                  (focus rfl)
                  (focus (assumption))
                  (focus (intro u hu; go_simp))
                  intro K hK
                  go_simp
                  refine hK _ ?_
                  clear hK K)
               | (apply QC.wpC_pure
                  (focus rfl)
                  (focus decide)
                  intro K hK
                  go_simp
                  first
                   | (refine hK _ ?_; clear hK K)
                   | (apply Exists.intro
                      refine ⟨fun u => ?_, hK _ ?_⟩
                      (focus (unfold QP.oat; go_simp; first | done | exact ⟨rfl, rfl⟩ | exact rfl))
                      clear hK K)))
            apply QC.wpC_eff
            (focus rfl)
            (focus decide)
            go_wp2_with fail
            refine (BY.out).mono ?_
            rintro e u3 ⟨rfl, j3⟩
            have J3 := Lib.hid j3
            obtain ⟨ge, he, cE3⟩ := J3.out.fst.rest.cellOf (List.mem_cons_of_mem _ (List.mem_cons_of_mem _ List.mem_cons_self)) rfl CE.out
            cases he
            clear j3 BY J2 cE2
            go_wp2
            refine QC.eff_ok rfl ?_ ?_
            · (repeat (first | exact QC.obl_nil | refine QC.obl_is (by assumption) ?_ | (apply QC.obl_dep; (focus decide))))
            clear cE3
            iterate 4
              (first
               | (apply QC.wpC_load
                  (focus rfl)
                  (focus decide)
                  (focus rfl)
                  (focus rfl)
                  (focus rfl)
                  (focus (assumption))
                  (focus (intro u hu; go_simp))
                  intro K hK
                  go_simp
                  refine hK _ ?_
                  clear hK K)
               | (apply QC.wpC_pure
                  (focus rfl)
                  (focus decide)
                  intro K hK
                  go_simp
                  first
                   | (refine hK _ ?_; clear hK K)
                   | (apply Exists.intro
                      refine ⟨fun u => ?_, hK _ ?_⟩
                      (focus (unfold QP.oat; go_simp; first | done | exact ⟨rfl, rfl⟩ | exact rfl))
                      clear hK K)))
            have J4 := Lib.hid (J3.out.lit (c := 8) ((((NN.out 8).cons (by decide)).cons (by decide)).cons (by decide)) (by decide) (by decide) (by decide) (by decide) 9 1 1 #[.string ⟨#[122]⟩] (by decide) rfl)
            have AP := Lib.hid (append_two HT.out H1.out J4.out ⟨#[122]⟩ List.mem_cons_self (by rw [HZ1.out]; decide) (by omega) (by have := HPZ.out; omega))
            clear J3
            apply QC.wpC_eff
            (focus rfl)
            (focus decide)
            go_wp2
            refine QC.eff_ok rfl ?_ ?_
            · (repeat (first | exact QC.obl_nil | refine QC.obl_is (by assumption) ?_ | (apply QC.obl_dep; (focus decide))))
            apply QC.wpC_eff
            (focus rfl)
            (focus decide)
            go_wp2_with fail
            refine (AP.out).mono ?_
            rintro e u4 ⟨rfl, j5⟩
            have LN := Lib.hid (len_of_journal j5.fst)
            have J5 := Lib.hid j5
            clear j5 AP J4
            go_wp2
            refine QC.eff_ok rfl ?_ ?_
            · (repeat (first | exact QC.obl_nil | refine QC.obl_is (by assumption) ?_ | (apply QC.obl_dep; (focus decide))))
            iterate 6
              (first
               | (apply QC.wpC_load
                  (focus rfl)
                  (focus decide)
                  (focus rfl)
                  (focus rfl)
                  (focus rfl)
                  (focus (assumption))
                  (focus (intro u hu; go_simp))
                  intro K hK
                  go_simp
                  refine hK _ ?_
                  clear hK K)
               | (apply QC.wpC_pure
                  (focus rfl)
                  (focus decide)
                  intro K hK
                  go_simp
                  first
                   | (refine hK _ ?_; clear hK K)
                   | (apply Exists.intro
                      refine ⟨fun u => ?_, hK _ ?_⟩
                      (focus (unfold QP.oat; go_simp; first | done | exact ⟨rfl, rfl⟩ | exact rfl))
                      clear hK K)))
            apply QC.wpC_eff
            (focus rfl)
            (focus decide)
            go_wp2_with fail
            refine (LN.out).mono ?_
            rintro e u5 ⟨rfl, rfl⟩
            go_wp2
            refine QC.eff_ok rfl ?_ ?_
            · (repeat (first | exact QC.obl_nil | refine QC.obl_is (by assumption) ?_ | (apply QC.obl_dep; (focus decide))))
            iterate 3
              (first
               | (apply QC.wpC_load
                  (focus rfl)
                  (focus decide)
                  (focus rfl)
                  (focus rfl)
                  (focus rfl)
                  (focus (assumption))
                  (focus (intro u hu; go_simp))
                  intro K hK
                  go_simp
                  refine hK _ ?_
                  clear hK K)
               | (apply QC.wpC_pure
                  (focus rfl)
                  (focus decide)
                  intro K hK
                  go_simp
                  first
                   | (refine hK _ ?_; clear hK K)
                   | (apply Exists.intro
                      refine ⟨fun u => ?_, hK _ ?_⟩
                      (focus (unfold QP.oat; go_simp; first | done | exact ⟨rfl, rfl⟩ | exact rfl))
                      clear hK K)))
            refine QC.wpC_nil ?_
            go_wp2
            go_ret
            exact ⟨rfl, HN.out ▸ J5.out.fst.bel⟩
        · have hj : nn = LM := by omega
          have HIH : nn < M.length → kk < (rcds 0 (M.take (nn + 1))).size := fun h => by have := HLM.out; omega
          have cE : True := trivial
          subst hj
          have hE2 : E = nn + 1 := HEE.out
          clear hg hlt
          have hfin := cut_at M (fun t ht => by have := HM.out t ht; omega) (by rw [HLM.out]; omega) nn kk (by rw [HB0.out]; exact hkk) (by rw [HLM.out]; exact hnn) hlo HIH
          obtain ⟨tl, htl, hbad⟩ := hfin
          have hnl : (M.take nn).length = nn := by rw [List.length_take, HLM.out]; omega
          have hpz : (rcds 0 (M.take nn)).size ≤ B0.size := by omega
          have hpre := pre_take M nn
          rw [HB0.out] at hpre htl
          have RC := Lib.hid (recover_beside (a' := 5) (c' := 7) HT.out H1.out JW.out (((NN.out _).cons (by decide)).cons (by decide)) (((NN.out _).cons (by decide)).cons (by decide)) (((NN.out _).cons (by decide)).cons (by decide)) (by decide) (by decide) (by decide) (by decide) (by decide) (by decide) (by decide) (M.take nn) tl
            (fun t ht => by have := HM.out t (List.mem_of_mem_take ht); omega) (by rw [hnl]; omega) (by rw [← htl, ByteArray.size_extract]; omega) (by rw [hnl]; exact hbad))
          rw [← htl, hnl] at RC
          have hca : nn ≤ ca := by
            have h := JW.out.own (List.mem_cons_self)
            rcases h.2 with ⟨h, _⟩ | ⟨_, _, _, h, _, _, h2, _⟩
            · cases h
            · cases h; omega
          have CM := Lib.hid (fun (j : Nat) (hj : j < nn) => show ((M.take nn).map Value.string)[j]? = some (.string (M.getD j .empty)) by
            rw [List.getElem?_map, List.getElem?_take, if_pos hj, List.getD_eq_getElem?_getD]
            have : j < M.length := by rw [HLM.out]; omega
            rw [List.getElem?_eq_getElem this]; rfl)
          have CM2 := Lib.hid (fun (j : Nat) (hj : j < nn) => show (M.map Value.string)[j]? = some (.string (M.getD j .empty)) by
            rw [List.getElem?_map, List.getD_eq_getElem?_getD]
            have : j < M.length := by rw [HLM.out]; omega
            rw [List.getElem?_eq_getElem this]; rfl)
          have CE := Lib.hid (endV_at M nn (by rw [HLM.out]; exact hnn))
          have hn1 : IntKind.i64.wrap ((nn : Int) + 1) = ((nn + 1 : Nat) : Int) := by rw [IntKind.wrap_i64]; omega
          have hnk : nn ≤ 200 := by omega
          have hz1 : (⟨#[122]⟩ : ByteArray).size = 1 := rfl
          have HZ1 := Lib.hid hz1
          clear htl hbad hnl hlo hz1 HIH
          generalize rcds 0 (M.take nn) = P0 at *
          have hpn : ((P0.size : Nat) : Int) ≤ (B0.size : Nat) := by omega
          have HPZ := Lib.hid (show P0.size ≤ 1000000 by omega)
          go_wp2_with fail
          refine (RC.out).mono ?_
          rintro e w12 ⟨g2, ad2, cp2, rfl, jx⟩
          have JX2 := Lib.hid jx
          clear jx RC cE
          go_wp2
          refine QC.wp_region_d [7, 11, 22, 23, 28] [0, 1, 2, 3, 4, 5, 6, 7, 8, 9, 10, 12, 13, 14, 15, 16, 17, 11, 18, 19, 20, 21, 22, 23, 24, 25, 26, 27, 29, 30, 28, 31, 32, 33] (by kernel_rfl) (by kernel_rfl) (fun u d => ?_)
          have JU := Lib.hid (JX2.out.same (d.below (n := w12.heap.size)))
          have SM := Lib.hid (same_any u ad2 (some ⟨aa, 0, none⟩) nn cp2 ca (fun j => M.getD j .empty) (by omega) (fun j hj => JU.out.fst.rest.cellOf List.mem_cons_self rfl (CM.out j hj)) (fun j hj => JU.out.fst.rest.cellOf (List.mem_cons_of_mem _ List.mem_cons_self) rfl (CM2.out j hj)))
          clear d JX2 CM CM2
          iterate 7
            (first
             | (apply QC.wpC_load
                (focus rfl)
                (focus decide)
                (focus rfl)
                (focus rfl)
                (focus rfl)
                (focus (assumption))
                (focus (intro u hu; go_simp))
                intro K hK
                go_simp
                refine hK _ ?_
                clear hK K)
             | (apply QC.wpC_pure
                (focus rfl)
                (focus decide)
                intro K hK
                go_simp
                first
                 | (refine hK _ ?_; clear hK K)
                 | (apply Exists.intro
                    refine ⟨fun u => ?_, hK _ ?_⟩
                    (focus (unfold QP.oat; go_simp; first | done | exact ⟨rfl, rfl⟩ | exact rfl))
                    clear hK K)))
          apply QC.wpC_eff
          (focus rfl)
          (focus decide)
          go_wp2_with fail
          refine (SM.out).mono ?_
          rintro e u2 ⟨rfl, b2⟩
          have J2 := Lib.hid (JU.out.same b2)
          have BY := Lib.hid (bytes2 J2.out (by have := HPZ.out; omega))
          obtain ⟨ge, he, cE2⟩ := J2.out.fst.rest.cellOf (List.mem_cons_of_mem _ (List.mem_cons_of_mem _ List.mem_cons_self)) rfl CE.out
          cases he
          clear b2 SM JU
          go_wp2
          refine QC.eff_ok rfl ?_ ?_
          · (repeat (first | exact QC.obl_nil | refine QC.obl_is (by assumption) ?_ | (apply QC.obl_dep; (focus decide))))
          iterate 9
            (first
             | (apply QC.wpC_load
                (focus rfl)
                (focus decide)
                (focus rfl)
                (focus rfl)
                (focus rfl)
                (focus (assumption))
                (focus (intro u hu; go_simp))
                intro K hK
                go_simp
                refine hK _ ?_
                clear hK K)
             | (apply QC.wpC_pure
                (focus rfl)
                (focus decide)
                intro K hK
                go_simp
                first
                 | (refine hK _ ?_; clear hK K)
                 | (apply Exists.intro
                    refine ⟨fun u => ?_, hK _ ?_⟩
                    (focus (unfold QP.oat; go_simp; first | done | exact ⟨rfl, rfl⟩ | exact rfl))
                    clear hK K)))
          apply QC.wpC_eff
          (focus rfl)
          (focus decide)
          go_wp2_with fail
          refine (BY.out).mono ?_
          rintro e u3 ⟨rfl, j3⟩
          have J3 := Lib.hid j3
          obtain ⟨ge, he, cE3⟩ := J3.out.fst.rest.cellOf (List.mem_cons_of_mem _ (List.mem_cons_of_mem _ List.mem_cons_self)) rfl CE.out
          cases he
          clear j3 BY J2 cE2
          go_wp2
          refine QC.eff_ok rfl ?_ ?_
          · (repeat (first | exact QC.obl_nil | refine QC.obl_is (by assumption) ?_ | (apply QC.obl_dep; (focus decide))))
          clear cE3
          iterate 4
            (first
             | (apply QC.wpC_load
                (focus rfl)
                (focus decide)
                (focus rfl)
                (focus rfl)
                (focus rfl)
                (focus (assumption))
                (focus (intro u hu; go_simp))
                intro K hK
                go_simp
                refine hK _ ?_
                clear hK K)
             | (apply QC.wpC_pure
                (focus rfl)
                (focus decide)
                intro K hK
                go_simp
                first
                 | (refine hK _ ?_; clear hK K)
                 | (apply Exists.intro
                    refine ⟨fun u => ?_, hK _ ?_⟩
                    (focus (unfold QP.oat; go_simp; first | done | exact ⟨rfl, rfl⟩ | exact rfl))
                    clear hK K)))
          have J4 := Lib.hid (J3.out.lit (c := 8) ((((NN.out 8).cons (by decide)).cons (by decide)).cons (by decide)) (by decide) (by decide) (by decide) (by decide) 9 1 1 #[.string ⟨#[122]⟩] (by decide) rfl)
          have AP := Lib.hid (append_two HT.out H1.out J4.out ⟨#[122]⟩ List.mem_cons_self (by rw [HZ1.out]; decide) (by omega) (by have := HPZ.out; omega))
          clear J3
          apply QC.wpC_eff
          (focus rfl)
          (focus decide)
          go_wp2
          refine QC.eff_ok rfl ?_ ?_
          · (repeat (first | exact QC.obl_nil | refine QC.obl_is (by assumption) ?_ | (apply QC.obl_dep; (focus decide))))
          apply QC.wpC_eff
          (focus rfl)
          (focus decide)
          go_wp2_with fail
          refine (AP.out).mono ?_
          rintro e u4 ⟨rfl, j5⟩
          have LN := Lib.hid (len_of_journal j5.fst)
          have J5 := Lib.hid j5
          clear j5 AP J4
          go_wp2
          refine QC.eff_ok rfl ?_ ?_
          · (repeat (first | exact QC.obl_nil | refine QC.obl_is (by assumption) ?_ | (apply QC.obl_dep; (focus decide))))
          iterate 6
            (first
             | (apply QC.wpC_load
                (focus rfl)
                (focus decide)
                (focus rfl)
                (focus rfl)
                (focus rfl)
                (focus (assumption))
                (focus (intro u hu; go_simp))
                intro K hK
                go_simp
                refine hK _ ?_
                clear hK K)
             | (apply QC.wpC_pure
                (focus rfl)
                (focus decide)
                intro K hK
                go_simp
                first
                 | (refine hK _ ?_; clear hK K)
                 | (apply Exists.intro
                    refine ⟨fun u => ?_, hK _ ?_⟩
                    (focus (unfold QP.oat; go_simp; first | done | exact ⟨rfl, rfl⟩ | exact rfl))
                    clear hK K)))
          apply QC.wpC_eff
          (focus rfl)
          (focus decide)
          go_wp2_with fail
          refine (LN.out).mono ?_
          rintro e u5 ⟨rfl, rfl⟩
          go_wp2
          refine QC.eff_ok rfl ?_ ?_
          · (repeat (first | exact QC.obl_nil | refine QC.obl_is (by assumption) ?_ | (apply QC.obl_dep; (focus decide))))
          iterate 3
            (first
             | (apply QC.wpC_load
                (focus rfl)
                (focus decide)
                (focus rfl)
                (focus rfl)
                (focus rfl)
                (focus (assumption))
                (focus (intro u hu; go_simp))
                intro K hK
                go_simp
                refine hK _ ?_
                clear hK K)
             | (apply QC.wpC_pure
                (focus rfl)
                (focus decide)
                intro K hK
                go_simp
                first
                 | (refine hK _ ?_; clear hK K)
                 | (apply Exists.intro
                    refine ⟨fun u => ?_, hK _ ?_⟩
                    (focus (unfold QP.oat; go_simp; first | done | exact ⟨rfl, rfl⟩ | exact rfl))
                    clear hK K)))
          refine QC.wpC_nil ?_
          go_wp2
          go_ret
          exact ⟨rfl, HN.out ▸ J5.out.fst.bel⟩
open Go.ChangeShapes Go.WideShapes Go.ChangeAt Go.Deep
theorem rws_of_trod {H : Type} {enc : TypeId × Value → H} {W : World} {base : Nat} {v : Value} {d : DataW H} {p : List MemPlace} (hval : Value.okWide Tryd.prog W .any base 22 v) (h : DataW.Trod enc Tryd.prog W 0 (fun _ => true) true 22 v d p) :
    ∃ (A : Option Addr) (cap : Nat) (T : List Rw), v = .slice A T.length cap ∧ T.length ≤ cap ∧ cap ≤ maxLen ∧ (∀ r ∈ T, r.ok W) ∧ RowK.SlAt W 1 Rw.cells A T :=
  RowK.sl_of_trod Rw.cells (fun r => r.ok W) Tryd.underlying22 (size := 1) (by kernel_rfl) (by decide) (fun m cs y hcl hd => by
    match cs, hcl with
    | [c], _ =>
      have hsh : ∃ A len cap, c = .slice A len cap := by
        rcases open_slice Tryd.underlying26 hd with ⟨h0, _⟩ | ⟨a, len', cap', m, n, D, Pl, hcs, _⟩
        · simp at h0; exact ⟨_, _, _, h0⟩
        · simp at hcs; exact ⟨_, _, _, hcs⟩
      obtain ⟨A, len, cap, rfl⟩ := hsh
      obtain ⟨l, h1, h2, h3, h4, h5⟩ := RowK.sl_of_cells (cells := fun s => [Value.string s]) (ok := fun s => s.size ≤ maxLen) Tryd.underlying26 (size := 1) (by kernel_rfl) (by decide) (fun _ _ _ _ hd => RowK.str_of Tryd.underlying9 hd) hd
      exact ⟨⟨A, cap, l⟩, by unfold Rw.cells; rw [h1], ⟨h3, by rw [h1]; exact h2, h5, h4⟩⟩) hval h
theorem wf_u16 {a : Int} (h : (Lit.int .u16 a).wf = true) : 0 ≤ a ∧ a ≤ 65535 := by simpa [Lit.wf, IntKind.min, IntKind.max, IntKind.signed, IntKind.bits] using h
theorem walk_JournalCut {H : Type} {enc : TypeId × Value → H} {W : World} {base : Nat} (v : Value) (d : DataW H) (p : List MemPlace) (hval : Value.okWide Tryd.prog W .any base 22 v)
    (h : DataW.Trod enc Tryd.prog W 0 (fun _ => true) true 22 v d p) (a1 : Int) (w1 : (Lit.int .u16 a1).wf = true) (hL : laidMetH Tryd.prog Rows.journalCutRow.laid W) :
    Calls Tryd.prog 3 #[v, .int .u16 a1] W (Fine W) := by
  obtain ⟨A, cap, T, rfl, h1, h2, h3, h4⟩ := rws_of_trod hval h
  have hw := wf_u16 w1
  obtain ⟨m, rfl⟩ : ∃ m : Nat, a1 = (m : Nat) := ⟨a1.toNat, by omega⟩
  exact cut_walk A cap T m W (tabs_of hL (by simp [Rows.journalCutRow]) (by simp [Rows.journalCutRow])) (by omega) h2 h1 h4 h3
end Go.Proofs.YtiilgkhndfnkgaaDoor
