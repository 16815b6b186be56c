/- The walk of CircuitTwice; no conditions. -/
import Derived.Test.YtnnnbgndbmcffaaCiE
import Derived.Test.YtnnnbgndbmcffaaRowKit
namespace Go.Proofs.Ytnnnbgndbmcffaa
open Go.RowKit
set_option linter.unusedVariables false

set_option maxRecDepth 100000 in
set_option maxHeartbeats 8000000 in
theorem circ_walk (X Y : Array Value) (a b a' b' : Lg) (hx : Cells X a b) (hy : Cells Y a' b') (ha : a.ok) (hb : b.ok) (ha' : a'.ok) (hb' : b'.ok) (w : World) :
    Calls Try.prog 12 #[.agg X, .agg Y] w fun e w' => e = .returned (.bool true) ∧ Below w.heap.size w w' := by
  obtain ⟨n, hn⟩ : ∃ n, w.heap.size = n := ⟨_, rfl⟩
  obtain ⟨V, hV⟩ : ∃ V, (w.alloc (.cells X 67)).alloc (.cells Y 67) = V := ⟨_, rfl⟩
  have rx0 : M.RowAt V n 67 X := by rw [← hV, ← hn]; exact (M.RowAt.new w 67 X).alloc _
  have ry0 : M.RowAt V (n + 1) 67 Y := by
    have := M.RowAt.new (w.alloc (.cells X 67)) 67 Y
    rw [hV] at this
    rwa [show (w.alloc (.cells X 67)).heap.size = n + 1 by simp [hn]] at this
  have bV : Below n w V := by rw [← hV, ← hn]; exact ((Below.refl _ w).alloc (Nat.le_refl _) _).alloc (by simp) _
  have hs : V.heap.size = n + 2 := by rw [← hV]; simp [hn]
  have start : ∀ m i o w1, Cm m i o 0 0 [] [] w1 → Below V.heap.size V w1 → V.heap.size ≤ m → V.heap.size ≤ i → V.heap.size ≤ o → CW n m i o [] [] X Y w w1 := fun m i o w1 h1 h2 h3 h4 h5 =>
    ⟨h1, rx0.call h2, ry0.call h2, bV.trans (h2.mono (by omega)), by omega, by omega, by omega⟩
  have NW := Lib.hid (cnew_any 0 0 V); have ST := Lib.hid start
  have HN := Lib.hid hn; have HV := Lib.hid hV
  have iX := info67 hx.size
  have HX := Lib.hid hx; have HY := Lib.hid hy; have HA := Lib.hid (And.intro ha (And.intro hb (And.intro ha' hb')))
  clear rx0 ry0 bV hs start hn hV hx hy ha hb ha' hb'
  go_enter Try.func12, Try.ntmps12
  go_wp2_with fail
  simp only [HN.out, HV.out]
  refine (NW.out).mono ?_
  rintro e w1 ⟨m, i, o, rfl, q1, q2, q3, q4, q5⟩
  have cw1 := ST.out m i o w1 q1 q2 q3 q4 q5
  clear q1 q2 q3 q4 q5
  have SH := Lib.hid (cshown_any w1)
  go_wp2_with fail
  refine (SH.out).mono ?_
  rintro e w2 ⟨rfl, q2⟩
  have cw2 := cw1.same q2
  clear cw1 q2
  have r2 := cw2.rx
  have C2 := Lib.hid cw2
  clear cw2
  go_wp2_with (first
    | (refine wpList_load_row (x := .tmp 2) (ty := 67) (g := n) (cs := X) (t := 67) (fr := (0, 0)) ?_ ?_ ?_ _ r2 Try.underlying67 rfl iX ?_; rfl; rfl; rfl)
    | fail)
  clear r2
  by_cases hc : ckE 0 0 a b = 0
  · have OP : Hid (Calls Try.prog 42 #[.pointer (some ⟨m, 0, none⟩), .agg X] w2 (Opn m i o 0 0 [] [] a b X.toList false false w2)) :=
      Lib.hid (open_ok C2.out.cm ⟨by decide, by decide⟩ ⟨by decide, by decide⟩ a b HA.out.1 HA.out.2.1 X.toList (by simpa using HX.out) hc (fun p hp => by cases hp) (by decide) false false rfl rfl)
    refine (OP.out).mono ?_
    rintro e w3 hq
    obtain ⟨rfl, cm3, bt3⟩ := hq.2 rfl rfl
    have cw3 := C2.out.bt cm3 bt3
    have f1 : ∀ p ∈ ([] ++ [(a.k, X.toList)] : List (Ky × List Value)), Wd p.2 := fun p hp => by
      obtain rfl : p = (a.k, X.toList) := by simpa using hp
      have hw : Cells X.toList.toArray a b := by simpa using HX.out
      exact hw.wd
    have f2 : (([] : List (Ky × List Value)) ++ [(a.k, X.toList)]).length = 1 := rfl
    have f3 : (getM ([] ++ [(a.k, X.toList)] : List (Ky × List Value)) a.k).isSome = true := by
      show (if a.k = a.k then some X.toList else none).isSome = true
      rw [if_pos rfl]; rfl
    have f4 : (getM ([] ++ [(b.k, a.k)] : List (Ky × Ky)) b.k).isSome = true := by
      show (if b.k = b.k then some a.k else none).isSome = true
      rw [if_pos rfl]; rfl
    generalize ([] ++ [(a.k, X.toList)] : List (Ky × List Value)) = li at *
    generalize ([] ++ [(b.k, a.k)] : List (Ky × Ky)) = lo at *
    have F := Lib.hid (And.intro f1 (And.intro f2 (And.intro f3 f4)))
    clear f1 f2 f3 f4 hq cm3 bt3 C2 OP
    obtain ⟨z, hz⟩ : ∃ z, IntKind.u64.wrap (a.k.2 + 1) = z := ⟨_, rfl⟩
    have hz2 : (a.k.2 + 1) % 18446744073709551616 = z := by rw [← hz, IntKind.wrap_u64]
    obtain ⟨W4, hW4⟩ : ∃ W4, (w3.setCell ⟨n + 1, 0, none⟩ (.int .u32 a.k.1)).setCell ⟨n + 1, 1, none⟩ (.int .u64 a.k.2) = W4 := ⟨_, rfl⟩
    have cw4 := (cw3.set 0 (.int .u32 a.k.1)).set 1 (.int .u64 a.k.2)
    rw [hW4] at cw4
    have y4 := HY.out.k a.k
    have a4 : (⟨a.k, a'.amt, a'.exp⟩ : Lg).ok := ⟨HA.out.1.k, HA.out.2.2.1.a0, HA.out.2.2.1.a1, HA.out.2.2.1.e0, HA.out.2.2.1.e1⟩
    have OT := Lib.hid (open_twice cw4.cm _ b' a4 HA.out.2.2.2 _ y4 F.out.1 (by rw [F.out.2.1]; decide) (.inl F.out.2.2.1))
    have hG := gR_ne ⟨a.k, a'.amt, a'.exp⟩ b'
    have i4 := info67 y4.size
    generalize gR ⟨a.k, a'.amt, a'.exp⟩ b' = G at *
    have dG : (G == 0) = false := by simpa using hG
    have Y4 := Lib.hid y4
    generalize (Y.setIfInBounds 0 (.int .u32 a.k.1)).setIfInBounds 1 (.int .u64 a.k.2) = YY at *
    obtain ⟨_, _, x0, x1, _⟩ : True ∧ True ∧ w3.cell? ⟨n, 0, none⟩ = some (.int .u32 a.k.1) ∧ w3.cell? ⟨n, 1, none⟩ = some (.int .u64 a.k.2) ∧ True := ⟨trivial, trivial, (cw3.rx.cell 0).trans HX.out.c0, (cw3.rx.cell 1).trans HX.out.c1, trivial⟩
    have p0 := (cw3.ry.cell 0).trans HY.out.c0; have p1 := (cw3.ry.cell 1).trans HY.out.c1
    have p2 := cw3.ry.frozen 0; have p3 := cw3.ry.frozen 1
    have HW4 := Lib.hid hW4; have C4 := Lib.hid cw4
    have r4 := cw4.ry
    have HZ := Lib.hid (And.intro hz hz2)
    have hG0 : (G != 0) = true := by simpa using hG
    clear hz hz2 hW4 cw4 y4 a4 hG cw3 hc
    go_wp2_with (first
      | (refine wpList_load_row (x := .tmp 3) (ty := 67) (g := n + 1) (cs := YY) (t := 67) (fr := (0, 0)) ?_ ?_ ?_ _ r4 Try.underlying67 rfl i4 ?_; rfl; rfl; rfl)
      | (simp only [HW4.out]))
    refine (OT.out).mono ?_
    rintro e w5 ⟨rfl, q5⟩
    have cw5 := C4.out.same q5
    obtain ⟨W6, hW6⟩ : ∃ W6, ((w5.setCell ⟨n + 1, 1, none⟩ (.int .u64 z)).setCell ⟨n + 1, 4, none⟩ (.int .u32 b.k.1)).setCell ⟨n + 1, 5, none⟩ (.int .u64 b.k.2) = W6 := ⟨_, rfl⟩
    have cw6 := ((cw5.set 1 (.int .u64 z)).set 4 (.int .u32 b.k.1)).set 5 (.int .u64 b.k.2)
    rw [hW6] at cw6
    have y6 := (Y4.out.id z).ok b.k
    have zr : 0 ≤ z ∧ z ≤ 18446744073709551615 := by have := HZ.out.2; omega
    have a6 : (⟨(a.k.1, z), a'.amt, a'.exp⟩ : Lg).ok := ⟨⟨HA.out.1.k.1, zr⟩, HA.out.2.2.1.a0, HA.out.2.2.1.a1, HA.out.2.2.1.e0, HA.out.2.2.1.e1⟩
    have b6 : (⟨b.k, b'.amt, b'.exp⟩ : Lg).ok := ⟨HA.out.2.1.k, HA.out.2.2.2.a0, HA.out.2.2.2.a1, HA.out.2.2.2.e0, HA.out.2.2.2.e1⟩
    have O6 := Lib.hid (open_twice cw6.cm _ _ a6 b6 _ y6 F.out.1 (by rw [F.out.2.1]; decide) (.inr F.out.2.2.2))
    have CK := Lib.hid (fun v (hv : CW n m i o li lo X (((YY.setIfInBounds 1 (.int .u64 z)).setIfInBounds 4 (.int .u32 b.k.1)).setIfInBounds 5 (.int .u64 b.k.2)) w v) => check_any hv.cm ⟨by decide, by decide⟩ ⟨by decide, by decide⟩ _ _ a6 b6)
    have hg := gR_ck ⟨(a.k.1, z), a'.amt, a'.exp⟩ ⟨b.k, b'.amt, b'.exp⟩
    have i6 := info67 y6.size
    simp only [Lg.cells] at CK
    generalize gR ⟨(a.k.1, z), a'.amt, a'.exp⟩ ⟨b.k, b'.amt, b'.exp⟩ = G2 at *
    generalize ckE 0 0 ⟨(a.k.1, z), a'.amt, a'.exp⟩ ⟨b.k, b'.amt, b'.exp⟩ = E at *
    have Y6 := Lib.hid y6
    generalize ((YY.setIfInBounds 1 (.int .u64 z)).setIfInBounds 4 (.int .u32 b.k.1)).setIfInBounds 5 (.int .u64 b.k.2) = Z at *
    have x4 := (cw5.rx.cell 4).trans HX.out.c4; have x5 := (cw5.rx.cell 5).trans HX.out.c5
    have p0 := (cw5.ry.cell 1).trans Y4.out.c1; have p1 := (cw5.ry.cell 4).trans Y4.out.c4; have p2 := (cw5.ry.cell 5).trans Y4.out.c5
    have p3 := cw5.ry.frozen 1; have p4 := cw5.ry.frozen 4; have p5 := cw5.ry.frozen 5
    have HW6 := Lib.hid hW6; have C6 := Lib.hid cw6; have HG := Lib.hid hg
    have r6 := cw6.ry
    obtain ⟨z1, z2⟩ := HZ.out
    clear hW6 cw6 y6 a6 b6 hg cw5 q5 zr OT C4 r4 i4 x0 x1
    go_wp2_with (first
      | (refine wpList_load_row (x := .tmp 3) (ty := 67) (g := n + 1) (cs := Z) (t := 67) (fr := (0, 0)) ?_ ?_ ?_ _ r6 Try.underlying67 rfl i6 ?_; rfl; rfl; rfl)
      | (simp only [HW6.out]))
    refine (O6.out).mono ?_
    rintro e w7 ⟨rfl, q7⟩
    have cw7 := C6.out.same q7
    have c0 := (cw7.ry.cell 0).trans Y6.out.c0; have c1 := (cw7.ry.cell 1).trans Y6.out.c1; have c2 := (cw7.ry.cell 2).trans Y6.out.c2; have c3 := (cw7.ry.cell 3).trans Y6.out.c3
    have c4 := (cw7.ry.cell 4).trans Y6.out.c4; have c5 := (cw7.ry.cell 5).trans Y6.out.c5; have c6 := (cw7.ry.cell 6).trans Y6.out.c6; have c7 := (cw7.ry.cell 7).trans Y6.out.c7
    have CK2 := Lib.hid (CK.out _ cw7)
    have C7 := Lib.hid cw7
    clear cw7 q7 C6 r6 i6 x4 x5 p0 p1 p2 p3 p4 p5 z1 z2
    go_wp2_with fail
    refine (CK2.out).mono ?_
    rintro e w8 ⟨rfl, q8⟩
    have cw8 := C7.out.same q8
    have LN := Lib.hid (clen_any cw8.cm)
    rw [F.out.2.1] at LN
    have FIN := Lib.hid cw8.bel
    clear c0 c1 c2 c3 c4 c5 c6 c7 cw8 C7 CK2 q8
    by_cases h0 : E = 0
    · obtain rfl := HG.out.1 h0
      subst h0
      go_wp2_with fail
      refine (LN.out).mono ?_
      rintro e w9 ⟨rfl, rfl⟩
      go_wp2
      go_ret
      exact ⟨rfl, by rw [HN.out]; exact FIN.out⟩
    · obtain ⟨rfl, h4⟩ := HG.out.2 h0
      have d1 : (G2 == 0) = false := by simpa using h0
      have d2 : (G2 == 4) = false := by simpa using h4
      go_wp2_with fail
      refine (LN.out).mono ?_
      rintro e w9 ⟨rfl, rfl⟩
      go_wp2
      go_ret
      exact ⟨rfl, by rw [HN.out]; exact FIN.out⟩
  · have OE := Lib.hid (open_err C2.out.cm ⟨by decide, by decide⟩ ⟨by decide, by decide⟩ a b HA.out.1 HA.out.2.1 X HX.out hc)
    generalize ckE 0 0 a b = E at *
    have d0 : (E == 0) = false := by simpa using hc
    refine (OE.out).mono ?_
    rintro e w3 ⟨rfl, q3⟩
    have cw3 := C2.out.same q3
    have LN := Lib.hid (clen_any cw3.cm)
    have FIN := Lib.hid cw3.bel
    clear C2 q3 cw3 hc OE
    go_wp2_with fail
    refine (LN.out).mono ?_
    rintro e w4 ⟨rfl, rfl⟩
    go_wp2
    go_ret
    exact ⟨rfl, by rw [HN.out]; exact FIN.out⟩
set_option maxRecDepth 100000 in
theorem walk_CircuitTwice {H : Type} {enc : TypeId × Value → H} {w : World} {base : Nat} {sp : Nat → Bool} {held : Bool} {r : Reach} {bo : Nat} (v0 : Value) (d0 : DataW H) (p0 : List MemPlace) (hval0 : Value.okWide Try.prog w r bo 67 v0) (k0 : DataW.Trod enc Try.prog w base sp held 67 v0 d0 p0)
    (v1 : Value) (d1 : DataW H) (p1 : List MemPlace) (hval1 : Value.okWide Try.prog w r bo 67 v1) (k1 : DataW.Trod enc Try.prog w base sp held 67 v1 d1 p1) : Calls Try.prog 12 #[v0, v1] w fun e w' => e = .returned (.bool true) ∧ Below w.heap.size w w' := by
  obtain ⟨a, b, X, rfl, hx, ha, hb⟩ := open67 hval0 k0
  obtain ⟨a', b', Y, rfl, hy, ha', hb'⟩ := open67 hval1 k1
  exact circ_walk X Y a b a' b' hx hy ha hb ha' hb' w
end Go.Proofs.Ytnnnbgndbmcffaa
