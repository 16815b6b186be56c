/- Plain words of the circuit map, its blocks in memory, New, Check and Len; the conditions are the ranges of the kinds. -/
import Derived.Test.YtnnnbgndbmcffaaPuH
import Derived.Test.YtnnnbgndbmcffaaRowSl
namespace Go.Proofs.Ytnnnbgndbmcffaa
open Go.RowKit
set_option linter.unusedVariables false

/-- a key: a channel and a number -/
abbrev Ky := Int × Int
def kv (x : Ky) : Value := .agg #[.int .u32 x.1, .int .u64 x.2]
def Ky.fit (x : Ky) : Prop := (0 ≤ x.1 ∧ x.1 ≤ 4294967295) ∧ 0 ≤ x.2 ∧ x.2 ≤ 18446744073709551615
theorem law61 : Maps.Keyed Try.prog 61 := Maps.Keyed.of_law (deep_law_laid RowK.laidOut (m := 3) (by omega) (of_decide_eq_true (by kernel_rfl)) (by kernel_rfl) (by rw [Try.underlying61]))
theorem keyOf61 (x : Ky) (h : x.fit) : ∃ l, keyOf Try.prog 61 (kv x) = some l := by
  have hkt : Try.prog.keyType 61 = true := by kernel_rfl
  have hsz : ∃ m, Try.prog.types.size = m + 1 := ⟨Try.prog.types.size - 1, by have : 0 < Try.prog.types.size := of_decide_eq_true (by kernel_rfl); omega⟩
  obtain ⟨m, hm⟩ := hsz
  have c61 : Try.prog.cellsOf 61 = 2 := by kernel_rfl
  have c22 : Try.prog.cellsOf 22 = 1 := by kernel_rfl
  have c23 : Try.prog.cellsOf 23 = 1 := by kernel_rfl
  have w1 : (Lit.int .u32 x.1).wf = true := by simp [Lit.wf, IntKind.min, IntKind.max, IntKind.signed, IntKind.bits]; have := h.1; omega
  have w2 : (Lit.int .u64 x.2).wf = true := by simp [Lit.wf, IntKind.min, IntKind.max, IntKind.signed, IntKind.bits]; have := h.2; omega
  refine ⟨.string (Go.keyBytes [.int .u32 x.1, .int .u64 x.2]), ?_⟩
  unfold keyOf kv
  simp only [Try.underlying61]
  rw [if_pos (by simp [hkt, Value.formed, Try.underlying61, c61]), hm]
  unfold Program.keyLits
  simp only [Try.underlying61, Value.cells]
  rw [if_pos ⟨by rw [c61]; rfl, by kernel_rfl⟩]
  simp [Program.keyLits, Try.underlying22, Try.underlying23, c22, c23, w1, w2]
def KK : KT Try.prog 61 Ky := ⟨kv, Ky.fit, law61, keyOf61, fun i j h => by
  unfold kv at h
  injection h with h
  have h0 := congrArg (fun a : Array Value => a[0]?) h
  have h1 := congrArg (fun a : Array Value => a[1]?) h
  simp at h0 h1
  exact Prod.ext h0 h1⟩
/-- one leg -/
structure Lg where
  k : Ky
  amt : Int
  exp : Int
def Lg.cells (x : Lg) : List Value := [.int .u32 x.k.1, .int .u64 x.k.2, .int .u64 x.amt, .int .i64 x.exp]
structure Lg.ok (x : Lg) : Prop where
  k : x.k.fit
  a0 : 0 ≤ x.amt
  a1 : x.amt ≤ 18446744073709551615
  e0 : -9223372036854775808 ≤ x.exp
  e1 : x.exp ≤ 9223372036854775807
/-- what Check answers -/
def ckE (base rate : Int) (a b : Lg) : Int :=
  if a.amt = 0 ∨ b.amt = 0 ∨ a.k.1 = b.k.1 then 1
  else if Am.enough a.amt b.amt base rate = false then 150
  else if b.exp ≤ 0 ∨ a.exp < 6 ∨ IntKind.i64.wrap (a.exp - 6) < b.exp then 151 else 0
theorem ckE_ne (base rate : Int) (a b : Lg) : ckE base rate a b ≠ 4 ∧ ckE base rate a b ≠ 2 := by
  unfold ckE
  split
  · decide
  · split
    · decide
    · split <;> decide
def mkC (x : List Value) : Value := .agg x.toArray
/-- the map: its own block and the two maps in it -/
structure Cm (m i o : Nat) (base rate : Int) (li : List (Ky × List Value)) (lo : List (Ky × Ky)) (w : World) : Prop where
  hp : M.RowAt w m 129 #[.int .u64 base, .int .u64 rate, .map (some i), .map (some o)]
  hi : IM KK mkC w i li
  ho : IM KK kv w o lo
  ne : m ≠ i ∧ m ≠ o ∧ i ≠ o
section
variable {m i o : Nat} {base rate : Int} {li : List (Ky × List Value)} {lo : List (Ky × Ky)} {w w' : World}
theorem Cm.bt {s : List Nat} (h : Cm m i o base rate li lo w) (hb : Bt s w w') (h1 : m ∉ s) (h2 : i ∉ s) (h3 : o ∉ s) : Cm m i o base rate li lo w' :=
  ⟨hb.row h.hp h1, h.hi.of (hb.block i h.hi.lt h2), h.ho.of (hb.block o h.ho.lt h3), h.ne⟩
theorem Cm.same (h : Cm m i o base rate li lo w) (hb : Below w.heap.size w w') : Cm m i o base rate li lo w' := h.bt (s := []) (.ofBelow _ hb) (by simp) (by simp) (by simp)
theorem Cm.drew (h : Cm m i o base rate li lo w) : Cm m i o base rate li lo w.drew := ⟨h.hp, h.hi, h.ho, h.ne⟩
theorem Cm.c (h : Cm m i o base rate li lo w) : w.cell? ⟨m, 0, none⟩ = some (.int .u64 base) ∧ w.cell? ⟨m, 1, none⟩ = some (.int .u64 rate) ∧ w.cell? ⟨m, 2, none⟩ = some (.map (some i)) ∧ w.cell? ⟨m, 3, none⟩ = some (.map (some o)) :=
  ⟨(h.hp.cell 0).trans rfl, (h.hp.cell 1).trans rfl, (h.hp.cell 2).trans rfl, (h.hp.cell 3).trans rfl⟩
end
set_option maxRecDepth 100000 in
theorem cnew_any (base rate : Int) (w : World) : Calls Try.prog 40 #[.int .u64 base, .int .u64 rate] w fun e w' => ∃ m i o, e = .returned (.pointer (some ⟨m, 0, none⟩)) ∧ Cm m i o base rate [] [] w' ∧ Below w.heap.size w w' ∧ w.heap.size ≤ m ∧ w.heap.size ≤ i ∧ w.heap.size ≤ o := by
  have hmm := @run_makeMap Try.prog
  go_enter Try.func40, Try.ntmps40
  go_wp2
  go_ret
  have e1 : (w.alloc (.map #[] 0)).heap.size = w.heap.size + 1 := by simp
  have r := M.RowAt.new ((w.alloc (.map #[] 0)).alloc (.map #[] 0)) 129 #[.int .u64 base, .int .u64 rate, .map (some w.heap.size), .map (some (w.heap.size + 1))]
  have o := IM.new KK kv (w.alloc (.map #[] 0))
  rw [e1] at o
  have e2 : ((w.alloc (.map #[] 0)).alloc (.map #[] 0)).heap.size = w.heap.size + 1 + 1 := by simp
  rw [e2] at r
  exact ⟨w.heap.size + 1 + 1, w.heap.size, w.heap.size + 1, rfl, ⟨r, ((IM.new KK mkC w).alloc _).alloc _, o.alloc _, by omega, by omega, by omega⟩, (((Below.refl _ w).alloc (Nat.le_refl _) _).alloc (by simp) _).alloc (by simp; omega) _, by omega, by omega, by omega⟩
set_option maxRecDepth 100000 in
theorem clen_any {m i o : Nat} {base rate : Int} {li : List (Ky × List Value)} {lo : List (Ky × Ky)} {w : World} (h : Cm m i o base rate li lo w) : Calls Try.prog 43 #[.pointer (some ⟨m, 0, none⟩)] w fun e w' => e = .returned (.int .i64 (li.length : Nat)) ∧ w = w' := by
  obtain ⟨_, _, c2, _⟩ := h.c
  have im := Lib.hid h.hi
  have r := im.out.lt
  clear h
  go_enter Try.func43, Try.ntmps43
  go_wp2_with (at_len; refine wpList_len_im rfl _ 126 67 rfl Try.underlying126 im.out ?a1 ?_)
  case a1 => rfl
  go_wp2
  go_ret
  exact ⟨rfl, rfl⟩
set_option maxRecDepth 100000 in
set_option maxHeartbeats 4000000 in
theorem check_any {m i o : Nat} {base rate : Int} {li : List (Ky × List Value)} {lo : List (Ky × Ky)} {w : World} (h : Cm m i o base rate li lo w) (hb : U64 base) (hr : U64 rate) (a b : Lg) (ha : a.ok) (hbo : b.ok) :
    Calls Try.prog 44 #[.pointer (some ⟨m, 0, none⟩), .agg a.cells.toArray, .agg b.cells.toArray] w fun e w' => e = .returned (.int .i64 (ckE base rate a b)) ∧ Below w.heap.size w w' := by
  obtain ⟨c0, c1, _, _⟩ := h.c
  have mlt := h.hp.lt
  obtain ⟨n, hn⟩ : ∃ n, w.heap.size = n := ⟨_, rfl⟩
  have EN := Lib.hid (fun v => enough_any a.amt b.amt base rate v ⟨ha.a0, ha.a1⟩ ⟨hbo.a0, hbo.a1⟩ hb hr)
  obtain ⟨⟨ka, ki⟩, aa, ae⟩ := a
  obtain ⟨⟨kb, kj⟩, ba, be⟩ := b
  obtain ⟨⟨⟨k0, k1⟩, k2, k3⟩, k4, k5, k6, k7⟩ := ha
  obtain ⟨⟨⟨l0, l1⟩, l2, l3⟩, l4, l5, l6, l7⟩ := hbo
  simp only at *
  unfold ckE
  simp only [Lg.cells]
  clear h k0 k1 k2 k3 l0 l1 l2 l3 hb hr k4 k5 l4 l5
  by_cases q0 : aa = 0
  · rw [if_pos (.inl q0)]
    subst q0
    clear k6 k7 l6 l7
    go_enter Try.func44, Try.ntmps44
    go_wp2
    go_ret
    exact ⟨rfl, ((Below.refl _ w).alloc (Nat.le_refl _) _).alloc (by simp) _⟩
  · have d0 : (aa == 0) = false := by simpa using q0
    by_cases q1 : ba = 0
    · rw [if_pos (.inr (.inl q1))]
      subst q1
      clear k6 k7 l6 l7
      go_enter Try.func44, Try.ntmps44
      go_wp2
      go_ret
      exact ⟨rfl, ((Below.refl _ w).alloc (Nat.le_refl _) _).alloc (by simp) _⟩
    · have d1 : (ba == 0) = false := by simpa using q1
      by_cases q2 : ka = kb
      · rw [if_pos (.inr (.inr q2))]
        subst q2
        clear k6 k7 l6 l7
        go_enter Try.func44, Try.ntmps44
        go_wp2
        go_ret
        exact ⟨rfl, ((Below.refl _ w).alloc (Nat.le_refl _) _).alloc (by simp) _⟩
      · have d2 : (ka == kb) = false := by simpa using q2
        rw [if_neg (by rintro (h | h | h) <;> contradiction)]
        generalize Am.enough aa ba base rate = en at *
        obtain ⟨V, hV⟩ : ∃ V, (w.alloc (.cells #[.int .u32 ka, .int .u64 ki, .int .u64 aa, .int .i64 ae] 63)).alloc (.cells #[.int .u32 kb, .int .u64 kj, .int .u64 ba, .int .i64 be] 63) = V := ⟨_, rfl⟩
        have r1 : M.RowAt V n 63 #[.int .u32 ka, .int .u64 ki, .int .u64 aa, .int .i64 ae] := by rw [← hV, ← hn]; exact (M.RowAt.new w 63 _).alloc _
        have r2 : M.RowAt V (n + 1) 63 #[.int .u32 kb, .int .u64 kj, .int .u64 ba, .int .i64 be] := by
          have := M.RowAt.new (w.alloc (.cells #[.int .u32 ka, .int .u64 ki, .int .u64 aa, .int .i64 ae] 63)) 63 #[.int .u32 kb, .int .u64 kj, .int .u64 ba, .int .i64 be]
          rw [hV] at this
          rwa [show (w.alloc (.cells #[.int .u32 ka, .int .u64 ki, .int .u64 aa, .int .i64 ae] 63)).heap.size = n + 1 by simp [hn]] at this
        have bV : Below n w V := by rw [← hV, ← hn]; exact ((Below.refl _ w).alloc (Nat.le_refl _) _).alloc (by simp) _
        have hN : V.heap.size = n + 2 := by rw [← hV]; simp [hn]
        have z0 : V.cell? ⟨m, 0, none⟩ = some (.int .u64 base) := by rw [bV.cell (p := ⟨m, 0, none⟩) (show m < n by omega), c0]
        have z1 : V.cell? ⟨m, 1, none⟩ = some (.int .u64 rate) := by rw [bV.cell (p := ⟨m, 1, none⟩) (show m < n by omega), c1]
        have fb : ∀ v, Below (n + 2) V v → v.cell? ⟨m, 0, none⟩ = some (.int .u64 base) ∧ v.cell? ⟨m, 1, none⟩ = some (.int .u64 rate) ∧ v.cell? ⟨n, 2, none⟩ = some (.int .u64 aa) ∧ v.cell? ⟨n, 3, none⟩ = some (.int .i64 ae) ∧ v.cell? ⟨n + 1, 2, none⟩ = some (.int .u64 ba) ∧ v.cell? ⟨n + 1, 3, none⟩ = some (.int .i64 be) := fun v hv => by
          refine ⟨?_, ?_, ?_, ?_, ?_, ?_⟩
          · rw [hv.cell (p := ⟨m, 0, none⟩) (show m < n + 2 by omega), z0]
          · rw [hv.cell (p := ⟨m, 1, none⟩) (show m < n + 2 by omega), z1]
          · rw [hv.cell (p := ⟨n, 2, none⟩) (show n < n + 2 by omega)]; exact (r1.cell 2).trans rfl
          · rw [hv.cell (p := ⟨n, 3, none⟩) (show n < n + 2 by omega)]; exact (r1.cell 3).trans rfl
          · rw [hv.cell (p := ⟨n + 1, 2, none⟩) (show n + 1 < n + 2 by omega)]; exact (r2.cell 2).trans rfl
          · rw [hv.cell (p := ⟨n + 1, 3, none⟩) (show n + 1 < n + 2 by omega)]; exact (r2.cell 3).trans rfl
        have fin : ∀ v, Below (n + 2) V v → Below n w v := fun v hv => bV.trans (hv.mono (by omega))
        have b0 : Below (n + 2) V V := Below.refl _ _
        have en' : ∀ v, Below (n + 2) V v → Calls Try.prog 22 #[.int .u64 aa, .int .u64 ba, .int .u64 base, .int .u64 rate] v fun e w' => e = .returned (.bool en) ∧ Below (n + 2) V w' := fun v hv => (EN.out v).mono fun e w' ⟨he, hb⟩ => ⟨he, hv.trans (hb.mono (by have := hv.size; omega))⟩
        have EN' := Lib.hid en'; have FB := Lib.hid fb; have FIN := Lib.hid fin; have B0 := Lib.hid b0; have HV := Lib.hid hV; have HN := Lib.hid hn
        have kn : ∀ (x y : Int), (en = true → ¬ (be ≤ 0 ∨ ae < 6 ∨ IntKind.i64.wrap (ae - 6) < be) → y = 0) → True := fun _ _ _ => trivial
        clear fb fin b0 hV bV r1 r2 z0 z1 en' EN kn
        have w6 : 6 ≤ ae → IntKind.i64.wrap (ae - 6) = ae - 6 := fun h => IntWalk.i64_in _ (by omega)
        obtain ⟨R, hR⟩ : ∃ R, (if en = false then (150 : Int) else if be ≤ 0 ∨ ae < 6 ∨ IntKind.i64.wrap (ae - 6) < be then 151 else 0) = R := ⟨_, rfl⟩
        rw [hR]
        have HR := Lib.hid hR
        clear hR
        go_enter Try.func44, Try.ntmps44
        go_wp2
        clear c0 c1 hn
        simp only [HV.out]
        refine QT.wp_region_p 12 (fun v => Below (n + 2) V v) (fun v => Below (n + 2) V v) (by kernel_rfl) (by kernel_rfl) B0.out.drew ?_
        iterate 15
          (refine QT.wpQ_step (fun K hK => ?_)
           go_simp
           first
             | (refine hK _ ?_; clear hK K)
             | (refine ⟨?_, hK _ ?_⟩; decide; clear hK K)
             | ((first | (apply Exists.intro; refine ⟨?_, hK _ ?_⟩) | refine ⟨⟨undef, ?_⟩, hK _ ?_⟩)
                first
                  | (apply QT.al_p; decide; (focus (intro wq hq; (first | (obtain ⟨x0, x1, x2, x3, x4, x5⟩ := FB.out _ hq) | skip); first | (fail) | (unfold QP.oat; go_simp; first | done | exact ⟨by assumption, rfl⟩ | exact rfl | assumption | (((with_reducible refine (EN'.out _ hq).mono ?_); rintro e w' ⟨rfl, gq⟩; exact ⟨rfl, gq⟩))))))
                  | (apply QT.al_dep; decide; decide; (focus (intro wq hq; (first | (obtain ⟨x0, x1, x2, x3, x4, x5⟩ := FB.out _ hq) | skip); first | (fail) | (unfold QP.oat; go_simp; first | done | exact ⟨by assumption, rfl⟩ | exact rfl | assumption | (((with_reducible refine (EN'.out _ hq).mono ?_); rintro e w' ⟨rfl, gq⟩; exact ⟨rfl, gq⟩))))))
                  | (apply QT.al_bef; decide; decide; (focus (intro wq hq; (first | (obtain ⟨x0, x1, x2, x3, x4, x5⟩ := FB.out _ hq) | skip); first | (fail) | (unfold QP.oat; go_simp; first | done | exact ⟨by assumption, rfl⟩ | exact rfl | assumption | (((with_reducible refine (EN'.out _ hq).mono ?_); rintro e w' ⟨rfl, gq⟩; exact ⟨rfl, gq⟩))))))
                  | (apply QT.al_ok; decide; (focus (intro wq hq; (first | (obtain ⟨x0, x1, x2, x3, x4, x5⟩ := FB.out _ hq) | skip); first | (fail) | (unfold QP.oat; go_simp; first | done | exact ⟨by assumption, rfl⟩ | exact rfl | assumption | (((with_reducible refine (EN'.out _ hq).mono ?_); rintro e w' ⟨rfl, gq⟩; exact ⟨rfl, gq⟩))))); (focus (intro wq hq; (first | (obtain ⟨x0, x1, x2, x3, x4, x5⟩ := FB.out _ hq) | skip); first | (fail) | (unfold QP.oat; go_simp; first | done | exact ⟨by assumption, rfl⟩ | exact rfl | assumption | (((with_reducible refine (EN'.out _ hq).mono ?_); rintro e w' ⟨rfl, gq⟩; exact ⟨rfl, gq⟩))))))
                clear hK K))
        refine QT.wpQ_nil ?_
        intro wz bz
        obtain ⟨x0, x1, x2, x3, x4, x5⟩ := FB.out _ bz
        cases en
        · obtain rfl : (150 : Int) = R := by rw [← HR.out, if_pos rfl]
          go_wp2
          go_ret
          exact ⟨rfl, by rw [HN.out]; exact FIN.out _ bz⟩
        · by_cases s0 : be ≤ 0
          · obtain rfl : (151 : Int) = R := by rw [← HR.out, if_neg (by decide), if_pos (.inl s0)]
            have t0 : decide (be ≤ 0) = true := by simp [s0]
            go_wp2
            go_ret
            exact ⟨rfl, by rw [HN.out]; exact FIN.out _ bz⟩
          · have t0 : decide (be ≤ 0) = false := by simp; omega
            by_cases s1 : ae < 6
            · obtain rfl : (151 : Int) = R := by rw [← HR.out, if_neg (by decide), if_pos (.inr (.inl s1))]
              have t1 : decide (ae < 6) = true := by simp [s1]
              go_wp2
              go_ret
              exact ⟨rfl, by rw [HN.out]; exact FIN.out _ bz⟩
            · have t1 : decide (ae < 6) = false := by simp; omega
              have w7 := w6 (by omega)
              rw [w7] at HR
              clear w6
              by_cases s2 : ae - 6 < be
              · obtain rfl : (151 : Int) = R := by rw [← HR.out, if_neg (by decide), if_pos (.inr (.inr s2))]
                have t2 : decide (ae - 6 < be) = true := by simp; omega
                go_wp2
                go_ret
                exact ⟨rfl, by rw [HN.out]; exact FIN.out _ bz⟩
              · obtain rfl : (0 : Int) = R := by rw [← HR.out, if_neg (by decide), if_neg (by rintro (h | h | h) <;> contradiction)]
                have t2 : decide (ae - 6 < be) = false := by simp; omega
                go_wp2
                go_ret
                exact ⟨rfl, by rw [HN.out]; exact FIN.out _ bz⟩
end Go.Proofs.Ytnnnbgndbmcffaa
