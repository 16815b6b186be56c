/- ShardOver: a task that is over stays so; plain words, and the walk; the condition is that the rows are known. -/
import Derived.Test.YtnnnbgndbmcffaaSrU
namespace Go.Proofs.Ytnnnbgndbmcffaa
open Go.RowKit
set_option linter.unusedVariables false

def heldB (S : BS) (i : Nat) : Nat → Bool
  | 0 => false
  | s + 1 => heldB S i s || (hold S.h (s : Int) == (i : Int))
def ovB (S : BS) (i : Nat) : Bool := (S.res (i : Int)).2 && !heldB S i 4
def OV (S : BS) (j : Nat) : List Nat := (List.range j).filter (ovB S)
theorem OV_yes {S : BS} {j : Nat} (h : ovB S j = true) : OV S (j + 1) = OV S j ++ [j] := by unfold OV; rw [List.range_succ, List.filter_append]; simp [h]
theorem OV_no {S : BS} {j : Nat} (h : ovB S j = false) : OV S (j + 1) = OV S j := by unfold OV; rw [List.range_succ, List.filter_append]; simp [h]
theorem OV_len (S : BS) (j : Nat) : (OV S j).length ≤ j := by
  unfold OV
  have := List.length_filter_le (ovB S) (List.range j)
  simpa using this
theorem held_of {S : BS} {i s : Nat} (h4 : s < 4) (h : S.h s = (i : Int)) : heldB S i 4 = true := by
  have e : ∀ t : Nat, t < 4 → hold S.h (t : Int) = S.h t := fun t ht => by unfold hold; rw [if_pos (by omega), Int.toNat_natCast]
  have h' : hold S.h (s : Int) = (i : Int) := (e s h4).trans h
  show (((((false || (hold S.h ((0 : Nat) : Int) == (i : Int))) || (hold S.h ((1 : Nat) : Int) == (i : Int))) || (hold S.h ((2 : Nat) : Int) == (i : Int))) || (hold S.h ((3 : Nat) : Int) == (i : Int)))) = true
  obtain rfl | rfl | rfl | rfl : s = 0 ∨ s = 1 ∨ s = 2 ∨ s = 3 := by omega
  all_goals rw [h']; simp
/-- a task that has acted, and holds nothing, is over -/
theorem over_k {S : BS} (ok : S.Ok) {i : Nat} (h : ovB S i = true) : ∃ T, S.tl[i]? = some T ∧ T.k = T.m + 2 ∧ (S.res (i : Int)).1 = T.er := by
  unfold ovB at h
  rw [Bool.and_eq_true] at h
  obtain ⟨h1, h2⟩ := h
  cases hT : S.tl[i]? with
  | none =>
    exfalso
    have : S.res (i : Int) = (0, false) := by unfold BS.res; rw [if_pos (by omega), Int.toNat_natCast, hT]
    rw [this] at h1; cases h1
  | some T =>
    rw [res_at hT] at h1 ⊢
    by_cases hk : T.m < T.k
    · refine ⟨T, rfl, ?_, by rw [if_pos hk]⟩
      have hkm := ok.km i T hT
      by_cases h3 : T.k = T.m + 2
      · exact h3
      · exfalso
        have m1 : 0 < T.m := by
          unfold Tsk.m Tsk.needs
          refine List.length_pos_iff.2 (fun e => ?_)
          have hx : (T.fr % 4).toNat ∈ [0, 1, 2, 3].filter T.need := List.mem_filter.2 ⟨by
            have : (T.fr % 4).toNat < 4 := by omega
            simp; omega, by
            unfold Tsk.need
            have : T.fr % 4 = ((T.fr % 4).toNat : Int) := by omega
            simp [← this]⟩
          rw [e] at hx; cases hx
        have hs : T.needs[0]'m1 ∈ T.needs.take T.k := by
          rw [needs_take (by omega)]; exact List.getElem_mem _
        have := (ok.hd _ (Tsk.lt4 (List.getElem_mem m1)) i).2 ⟨T, hT, by omega, hs⟩
        rw [held_of (Tsk.lt4 (List.getElem_mem m1)) this] at h2
        cases h2
    · rw [if_neg hk] at h1; cases h1
theorem over_step {S : BS} {i : Nat} {T : Tsk} (hT : S.tl[i]? = some T) (hk : T.k = T.m + 2) (x : Int) : (S.step x).1.tl[i]? = some T := by
  unfold BS.step
  split
  · cases hX : S.tl[x.toNat]? with
    | none => exact hT
    | some X =>
      show (S.stepT x.toNat X).1.tl[i]? = some T
      have keep : ∀ Y, x.toNat ≠ i → (S.tl.set x.toNat Y)[i]? = some T := fun Y hne => by rw [set_get hX, if_neg hne]; exact hT
      by_cases e : x.toNat = i
      · rw [e] at hX ⊢
        obtain rfl : T = X := Option.some.inj (hT.symm.trans hX)
        rcases stepT_cases S i T with ⟨t, ht, _⟩ | ⟨h1, e⟩ | ⟨h1, e⟩ | ⟨h1, e⟩
        · have : T.k < T.m := (List.getElem?_eq_some_iff.1 ht).1
          omega
        · omega
        · omega
        · rw [e]; exact hT
      · rcases stepT_cases S x.toNat X with ⟨t, ht, ⟨h1, e1⟩ | ⟨h1, e1⟩⟩ | ⟨h1, e1⟩ | ⟨h1, e1⟩ | ⟨h1, e1⟩
        · rw [e1]; exact keep _ e
        · rw [e1]; exact hT
        · rw [e1]
          obtain ⟨Y, hY, _⟩ := act_tl S x.toNat X
          show (S.act x.toNat X).tl[i]? = some T
          rw [hY]; exact keep _ e
        · rw [e1]; exact keep _ e
        · rw [e1]; exact hT
  · exact hT
theorem over_end {S : BS} (ok : S.Ok) {i : Nat} {T : Tsk} (hT : S.tl[i]? = some T) (hk : T.k = T.m + 2) : S.res (i : Int) = (T.er, true) ∧ S.step (i : Int) = (S, 3) ∧ ∀ s : Nat, s < 4 → (hold S.h (s : Int) == (i : Int)) = false := by
  refine ⟨by rw [res_at hT, if_pos (by omega)], ?_, fun s hs => ?_⟩
  · rw [step_at hT]
    rcases stepT_cases S i T with ⟨t, ht, _⟩ | ⟨h1, e⟩ | ⟨h1, e⟩ | ⟨h1, e⟩
    · have : T.k < T.m := (List.getElem?_eq_some_iff.1 ht).1
      omega
    · omega
    · omega
    · exact e
  · have e : hold S.h (s : Int) = S.h s := by unfold hold; rw [if_pos (by omega), Int.toNat_natCast]
    rw [e]
    have hne : S.h s ≠ (i : Int) := fun e => by
      obtain ⟨T', hT', h1, _⟩ := (ok.hd s hs i).1 e
      obtain rfl : T = T' := Option.some.inj (hT.symm.trans hT')
      omega
    simpa using hne
/-- steps of some tasks -/
def BS.steps (S : BS) (l : List Int) : BS := l.foldl (fun S x => (S.step x).1) S
theorem steps_snoc (S : BS) (l : List Int) (x : Int) : S.steps (l ++ [x]) = ((S.steps l).step x).1 := by unfold BS.steps; rw [List.foldl_append]; rfl
theorem steps_ok {S : BS} (ok : S.Ok) (l : List Int) : (S.steps l).Ok := by
  unfold BS.steps
  induction l generalizing S with
  | nil => exact ok
  | cons x r ih => exact ih (ok.step x)
theorem steps_over {S : BS} {i : Nat} {T : Tsk} (hT : S.tl[i]? = some T) (hk : T.k = T.m + 2) (l : List Int) : (S.steps l).tl[i]? = some T := by
  unfold BS.steps
  induction l generalizing S with
  | nil => exact hT
  | cons x r ih => exact ih (over_step hT hk x)
/-- an element of a slice of the law's own -/
theorem LW.elem {n : Nat} {w v : World} {b : Nat} {S : BS} {L : List (Nat × TypeId × Array Value)} {O : List Ow} (h : LW n w b S L O v) {o : Ow} (ho : o ∈ O) {a : Option Addr} {m c : Nat} (hv : o.v = .slice a m c) {j : Nat} {x : Value} (hx : o.xs[j]? = some x) :
    ∃ g, a = some ⟨g, 0, none⟩ ∧ v.cell? ⟨g, j, none⟩ = some x := by
  have hw := h.owns o ho
  rw [hv] at hw
  rcases hw.2 with ⟨e, e2⟩ | ⟨g, c2, cur, e, _⟩
  · have h1 := hw.1
    rw [e2] at h1
    have h2 : o.xs = [] := List.eq_nil_of_length_eq_zero (by rw [h1]; simp)
    rw [h2] at hx
    simp at hx
  · cases e
    refine ⟨g, rfl, ?_⟩
    have := hw.cells rfl j x hx
    rwa [Addr.add_mid, Nat.zero_add] at this
theorem info24 : (Try.prog.info? 24).map (fun i => (i.zero, i.size, i.bytes)) = some (some (.int .i64 0), 1, 8) := by kernel_rfl
/-- the slices of ShardOver -/
def OwV (v : Value) (l : List Nat) : Ow := ⟨3, 1, v, l.length, l.map fun i : Nat => Value.int .i64 i⟩
def OwE (S : BS) (v : Value) (l : List Nat) : Ow := ⟨24, 1, v, l.length, l.map fun i : Nat => Value.int .i64 (S.res (i : Int)).1⟩
set_option maxRecDepth 100000 in
set_option maxHeartbeats 16000000 in
theorem over_walk (pa : Option Addr) (len cap : Nat) (zs : List Int) (A : Option Addr) (cap2 : Nat) (l : List Ac) (A2 : Option Addr) (cap3 : Nat) (l2 : List Ac) (w : World) (hu : URow w pa len zs) (h1 : 1 ≤ len) (h2 : len ≤ 32) (h3 : zs.sum ≤ Am.mx) (hsl : RowK.SlAt w 4 Ac.cells A l) (hok : ∀ x ∈ l, x.ok) (hl : l.length ≤ 150)
    (hsl2 : RowK.SlAt w 4 Ac.cells A2 l2) (hl2 : l2.length ≤ 50) : Calls Try.prog 15 #[.slice pa len cap, .slice A l.length cap2, .slice A2 l2.length cap3] w (Fine w) := by
  have PLAY := Lib.hid (play_lw pa len cap zs A cap2 l w hu h1 h2 h3 hsl hok (by omega))
  obtain ⟨n, hn⟩ : ∃ n, w.heap.size = n := ⟨_, rfl⟩
  have HN := Lib.hid hn
  rw [hn] at PLAY
  have SH := Lib.hid (fun v => bshown_any v)
  obtain ⟨m, hm⟩ : ∃ m, l.length = m := ⟨_, rfl⟩
  rw [hm] at PLAY hl ⊢
  have acts : ∀ k x, l2[k]? = some x → ∃ b off, A2 = some ⟨b, off, none⟩ ∧ b < n ∧ ∀ v, Below n w v → v.rangeAt b (off + k * 4) x.cells := fun k x hx => act_at hsl2 hx hn
  have oks : ∀ k (h : k < l2.length), ∃ x, l2[k]? = some x := fun k h => ⟨l2[k], List.getElem?_eq_getElem h⟩
  obtain ⟨m2, hm2⟩ : ∃ m2, l2.length = m2 := ⟨_, rfl⟩
  rw [hm2] at oks hl2 ⊢
  have ACTS := Lib.hid acts; have OKS := Lib.hid oks; have HL2 := Lib.hid hl2
  obtain ⟨S0, hS⟩ : ∃ S, (BS.new len fun i => zs.getD i 0).play l = S := ⟨_, rfl⟩
  rw [hS] at PLAY
  have d1 : decide ((40 : Int) < (len : Int)) = false := by simp; omega
  have d2 : decide ((150 : Int) < (m : Int)) = false := by simp; omega
  have d3 : decide ((50 : Int) < (m2 : Int)) = false := by simp; omega
  obtain ⟨j0, j0i, j00, j01, j02⟩ := info_parts info3
  obtain ⟨k0, k0i, k00, k01, k02⟩ := info_parts info24
  have steps : ∀ k x, l2[k]? = some x → ((l2.take (k + 1)).map Ac.a) = ((l2.take k).map Ac.a) ++ [x.a] := fun k x hx => by rw [List.take_add_one, hx]; simp
  have STEPS := Lib.hid steps
  clear hu h1 h2 h3 hsl hok hl hm hS acts oks hsl2 hl2 hm2 steps
  go_enter Try.func15, Try.ntmps15
  go_wp2_with fail
  refine (SH.out _).mono ?_
  rintro e w1 ⟨rfl, g1⟩
  rw [hn] at g1
  have PL := Lib.hid (PLAY.out _ g1)
  clear g1 PLAY SH hn
  go_wp2_with fail
  refine (PL.out).mono ?_
  rintro e w2 ⟨b, a, c, rfl, lw2⟩
  clear PL
  have OK0 := Lib.hid lw2.ok
  obtain ⟨K, hK⟩ : ∃ K, S0.acts.length = K := ⟨_, rfl⟩
  have hK32 : K ≤ 32 := by rw [← hK, acts_len]; exact lw2.ok.t32
  obtain ⟨ow, how⟩ : ∃ ow, OwA (.slice a S0.acts.length c) S0 = ow := ⟨_, rfl⟩
  have ht : ow.t = 84 := by rw [← how]; rfl
  have HOT := Lib.hid ht
  rw [how] at lw2
  have lw3 := lw2.copied (t := 3) (sz := 1) (World.ownsRow_lit (base := w2.heap.size) (e := 3) (size := 1) w2 #[] 0 (Nat.le_refl _) (by unfold maxLen; omega) rfl) ((Below.refl _ _).alloc (Nat.le_refl _) _)
  obtain ⟨v2, hv2⟩ : ∃ v2, w2.alloc (.cells #[] 3) = v2 := ⟨_, rfl⟩
  have hv2s : v2.heap.size = w2.heap.size + 1 := by rw [← hv2]; simp
  rw [hv2] at lw3
  have lw4 := lw3.copied (t := 24) (sz := 1) (World.ownsRow_lit (base := v2.heap.size) (e := 24) (size := 1) v2 #[] 0 (Nat.le_refl _) (by unfold maxLen; omega) rfl) ((Below.refl _ _).alloc (Nat.le_refl _) _)
  have LW4 := Lib.hid (lw4.sub (L' := []) (O' := [OwV (.slice (some ⟨w2.heap.size, 0, none⟩) 0 0) [], OwE S0 (.slice (some ⟨v2.heap.size, 0, none⟩) 0 0) [], ow]) (fun x hx => hx) (fun o ho => by
    simp only [List.mem_cons, List.not_mem_nil, or_false] at ho ⊢
    rcases ho with rfl | rfl | rfl
    · exact .inr (.inl rfl)
    · exact .inl rfl
    · exact .inr (.inr rfl)))
  have HV2 := Lib.hid hv2; have HV2S := Lib.hid hv2s
  rw [hK]
  clear lw2 lw3 lw4 hK how hv2 hv2s ht
  go_wp2_with (first | (rw [HV2.out]) | fail)
  go_loopg [11, 12, 13] K (fun mm ov rv i v => ∃ (j : Nat) (a1 a2 : Option Addr) (c1 c2 : Nat), mm + j = K ∧ i = .int .i64 j ∧ ov = .slice a1 (OV S0 j).length c1 ∧ rv = .slice a2 (OV S0 j).length c2 ∧ LW n w b S0 [] [OwV (.slice a1 (OV S0 j).length c1) (OV S0 j), OwE S0 (.slice a2 (OV S0 j).length c2) (OV S0 j), ow] v)
  case atStart => exact ⟨0, _, _, 0, 0, by omega, rfl, rfl, rfl, LW4.out⟩
  case round =>
    clear LW4 HV2 HV2S
    obtain ⟨j, a1, a2, c1, c2, hj, rfl, rfl, rfl, lw⟩ := hrel
    have HJ := Lib.hid hj
    clear hj
    have OVL := Lib.hid (OV_len S0 j)
    by_cases hlt : j < K
    · have RES := Lib.hid (lw_result lw (j : Nat))
      have LWJ := Lib.hid lw
      have i1 : ((j : Nat) : Int) < (K : Nat) := by omega
      have OVB := Lib.hid (show ovB S0 j = ((S0.res (j : Int)).2 && !heldB S0 j 4) from rfl)
      have RE := Lib.hid (show (S0.res (j : Int)).1 = (S0.res (j : Int)).1 from rfl)
      obtain ⟨⟨er, ac⟩, hre⟩ : ∃ r, S0.res (j : Int) = r := ⟨_, rfl⟩
      have HRE := Lib.hid hre
      rw [hre] at RES OVB
      clear lw RE hre
      go_wp2_with fail
      refine (RES.out).mono ?_
      rintro e w3 ⟨rfl, rfl⟩
      clear RES
      obtain ⟨wo, rfl⟩ : ∃ wo : World, wo = wr := ⟨_, rfl⟩
      go_wp2
      go_loopg [16, 17] 4 (fun mm hv si v => ∃ s : Nat, mm + s = 4 ∧ si = .int .i64 s ∧ hv = .bool (heldB S0 j s) ∧ v = wo)
      case atStart => exact ⟨0, rfl, rfl, rfl, rfl⟩
      case round =>
        obtain ⟨s, hs, rfl, rfl, rfl⟩ := hrel
        have HS := Lib.hid hs
        clear hs
        by_cases hs4 : s < 4
        · have HOL := Lib.hid (lw_holder LWJ.out (s : Nat))
          have eH := Lib.hid (show heldB S0 j (s + 1) = (heldB S0 j s || (hold S0.h (s : Int) == (j : Int))) from rfl)
          have i4 : ((s : Nat) : Int) < 4 := by omega
          have nx : ∀ bv, bv = (heldB S0 j s || (hold S0.h (s : Int) == (j : Int))) → Value.bool bv = .bool (heldB S0 j (s + 1)) := fun bv h => by rw [h, eH.out]
          have NX := Lib.hid nx
          have HS4 := Lib.hid hs4
          clear nx eH
          generalize heldB S0 j s = hb at *
          generalize hold S0.h (s : Int) = ho at *
          cases hb
          · go_wp2_with fail
            refine (HOL.out).mono ?_
            rintro e w5 ⟨rfl, rfl⟩
            by_cases q : ho = (j : Int)
            · subst q
              go_wp2
              go_roundg (4 - (s + 1))
              case measure => have := HS.out; omega
              case rel => exact ⟨s + 1, by have := HS4.out; omega, by go_num, NX.out true (by simp), rfl⟩
            · have dq : (ho == (j : Int)) = false := by simpa using q
              go_wp2
              go_roundg (4 - (s + 1))
              case measure => have := HS.out; omega
              case rel => exact ⟨s + 1, by have := HS4.out; omega, by go_num, NX.out false (by simp [dq]), rfl⟩
          · go_wp2
            go_roundg (4 - (s + 1))
            case measure => have := HS.out; omega
            case rel => exact ⟨s + 1, by have := HS4.out; omega, by go_num, NX.out true (by simp), rfl⟩
        · obtain rfl : s = 4 := by have := HS.out; omega
          clear hs4
          have kept : ovB S0 j = false → ∃ (j' : Nat) (b1 b2 : Option Addr) (e1 e2 : Nat), K - (j + 1) + j' = K ∧ Value.int .i64 ((j : Int) + 1) = .int .i64 j' ∧ Value.slice a1 (OV S0 j).length c1 = .slice b1 (OV S0 j').length e1 ∧ Value.slice a2 (OV S0 j).length c2 = .slice b2 (OV S0 j').length e2 ∧ LW n w b S0 [] [OwV (.slice b1 (OV S0 j').length e1) (OV S0 j'), OwE S0 (.slice b2 (OV S0 j').length e2) (OV S0 j'), ow] wr := fun h =>
            ⟨j + 1, a1, a2, c1, c2, by have := HJ.out; omega, by go_num, by rw [OV_no h], by rw [OV_no h], by rw [OV_no h]; exact LWJ.out⟩
          have KEPT := Lib.hid kept
          clear kept
          rw [OVB.out] at KEPT
          cases ac
          · have NX := Lib.hid (KEPT.out rfl)
            go_wp2
            go_roundg (K - (j + 1))
            case measure => have := HJ.out; omega
            case rel => exact NX.out
          · generalize hhb : heldB S0 j 4 = hb at *
            have OVB2 := Lib.hid (show ovB S0 j = !hb from by rw [OVB.out]; rfl)
            clear hhb
            cases hb
            · have OY := Lib.hid (OV_yes (show ovB S0 j = true from OVB2.out))
              clear KEPT OVB OVB2
              obtain ⟨n5, hn5⟩ : ∃ n5, wr.heap.size = n5 := ⟨_, rfl⟩
              obtain ⟨V5, hV5⟩ : ∃ V5, wr.alloc (.cells #[.int .i64 (j : Nat)] 3) = V5 := ⟨_, rfl⟩
              have LW5 := Lib.hid (LWJ.out.alloc (.cells #[.int .i64 (j : Nat)] 3))
              have r5 := M.RowAt.new wr 3 #[.int .i64 (j : Nat)]
              rw [hV5] at LW5 r5
              rw [hn5] at r5
              have R5 := Lib.hid r5; have HN5 := Lib.hid hn5; have HV5 := Lib.hid hV5
              clear r5 hn5 hV5 LWJ
              go_wp2_with (first | (rw [HN5.out, HV5.out]) | (at_builtin; refine wpList_append_sep2 _ rfl (.tmp 87) (.tmp 89) 78 rfl n 3 j0 _ 1 8 Try.underlying78 j0i j00 j01 j02 rfl (by decide) (.slice a1 (OV S0 j).length c1) (OV S0 j).length _ ?p1 (LW5.out.owns _ List.mem_cons_self) ⟨n5, 0, none⟩ 1 1 [.int .i64 (j : Nat)] ?p2 rfl ?p3 ?p4 (by decide) ?p5 ?p6 LW5.out.ge ?_))
              case p1 => rfl
              case p2 => rfl
              case p3 =>
                intro t x hx
                rw [Addr.add_mid, R5.out.cell, Nat.zero_add]
                simpa using hx
              case p4 =>
                intro x hx
                simp at hx
                subst hx; rfl
              case p5 => have := OVL.out; unfold maxLen; omega
              case p6 => have := OVL.out; omega
              intro u u6 ho hg hs
              obtain ⟨ua, uc, rfl⟩ : ∃ ua uc, u = .slice ua ((OV S0 j).length + 1) uc := by
                rcases ho.2 with ⟨_, h2⟩ | ⟨g, cc, cur, h2, _⟩
                · omega
                · exact ⟨_, _, h2⟩
              have lw6 := LW5.out.grow ho hg hs (fun x hx => by cases hx) (fun o2 ho2 => by
                have w1 := LW5.out.owns o2 (List.mem_cons_of_mem _ ho2)
                refine types_apart2 w1 (LW5.out.owns _ List.mem_cons_self) ?_
                simp only [List.mem_cons, List.not_mem_nil, or_false] at ho2
                rcases ho2 with rfl | rfl
                · show (24 : Nat) ≠ 3; decide
                · rw [HOT.out]; show (84 : Nat) ≠ 3; decide)
              have OWU := Lib.hid (show (⟨3, 1, .slice ua ((OV S0 j).length + 1) uc, (OV S0 j).length + 1, ((OV S0 j).map fun i : Nat => Value.int .i64 i) ++ [.int .i64 (j : Nat)]⟩ : Ow) = OwV (.slice ua (OV S0 (j + 1)).length uc) (OV S0 (j + 1)) from by unfold OwV; rw [OY.out]; simp)
              have lw6 := lw6.sub (L' := []) (O' := [OwE S0 (.slice a2 (OV S0 j).length c2) (OV S0 j), OwV (.slice ua (OV S0 (j + 1)).length uc) (OV S0 (j + 1)), ow]) (fun x hx => hx) (fun o ho => by
                simp only [List.mem_cons, List.not_mem_nil, or_false] at ho ⊢
                rcases ho with rfl | rfl | rfl
                · exact .inr (.inl rfl)
                · exact .inl OWU.out.symm
                · exact .inr (.inr rfl))
              have len6 : (OV S0 j).length + 1 = (OV S0 (j + 1)).length := by rw [OY.out, List.length_append]; rfl
              rw [len6]
              have LEN6 := Lib.hid len6
              have LW6 := Lib.hid lw6
              clear ho hg hs lw6 len6 LW5 R5 HN5 HV5 OWU
              obtain ⟨n7, hn7⟩ : ∃ n7, u6.heap.size = n7 := ⟨_, rfl⟩
              obtain ⟨V7, hV7⟩ : ∃ V7, u6.alloc (.cells #[.int .i64 er] 24) = V7 := ⟨_, rfl⟩
              have LW7 := Lib.hid (LW6.out.alloc (.cells #[.int .i64 er] 24))
              have r7 := M.RowAt.new u6 24 #[.int .i64 er]
              rw [hV7] at LW7 r7
              rw [hn7] at r7
              have R7 := Lib.hid r7; have HN7 := Lib.hid hn7; have HV7 := Lib.hid hV7
              clear r7 hn7 hV7 LW6
              go_wp2_with (first | (rw [HN7.out, HV7.out]) | (at_builtin; refine wpList_append_sep2 _ rfl (.tmp 91) (.tmp 93) 86 rfl n 24 k0 _ 1 8 Try.underlying86 k0i k00 k01 k02 rfl (by decide) (.slice a2 (OV S0 j).length c2) (OV S0 j).length _ ?r1 (LW7.out.owns _ List.mem_cons_self) ⟨n7, 0, none⟩ 1 1 [.int .i64 er] ?r2 rfl ?r3 ?r4 (by decide) ?r5 ?r6 LW7.out.ge ?_))
              case r1 => rfl
              case r2 => rfl
              case r3 =>
                intro t x hx
                rw [Addr.add_mid, R7.out.cell, Nat.zero_add]
                simpa using hx
              case r4 =>
                intro x hx
                simp at hx
                subst hx; rfl
              case r5 => have := OVL.out; unfold maxLen; omega
              case r6 => have := OVL.out; omega
              intro u2 u8 ho hg hs
              obtain ⟨ua2, uc2, rfl⟩ : ∃ ua uc, u2 = .slice ua ((OV S0 j).length + 1) uc := by
                rcases ho.2 with ⟨_, h2⟩ | ⟨g, cc, cur, h2, _⟩
                · omega
                · exact ⟨_, _, h2⟩
              have lw8 := LW7.out.grow ho hg hs (fun x hx => by cases hx) (fun o2 ho2 => by
                have w1 := LW7.out.owns o2 (List.mem_cons_of_mem _ ho2)
                refine types_apart2 w1 (LW7.out.owns _ List.mem_cons_self) ?_
                simp only [List.mem_cons, List.not_mem_nil, or_false] at ho2
                rcases ho2 with rfl | rfl
                · show (3 : Nat) ≠ 24; decide
                · rw [HOT.out]; show (84 : Nat) ≠ 24; decide)
              have OWU := Lib.hid (show (⟨24, 1, .slice ua2 ((OV S0 j).length + 1) uc2, (OV S0 j).length + 1, ((OV S0 j).map fun i : Nat => Value.int .i64 (S0.res (i : Int)).1) ++ [.int .i64 er]⟩ : Ow) = OwE S0 (.slice ua2 (OV S0 (j + 1)).length uc2) (OV S0 (j + 1)) from by unfold OwE; rw [OY.out]; simp [HRE.out])
              have LW8 := Lib.hid (lw8.sub (L' := []) (O' := [OwV (.slice ua (OV S0 (j + 1)).length uc) (OV S0 (j + 1)), OwE S0 (.slice ua2 (OV S0 (j + 1)).length uc2) (OV S0 (j + 1)), ow]) (fun x hx => hx) (fun o ho => by
                simp only [List.mem_cons, List.not_mem_nil, or_false] at ho ⊢
                rcases ho with rfl | rfl | rfl
                · exact .inr (.inl rfl)
                · exact .inl OWU.out.symm
                · exact .inr (.inr rfl)))
              rw [LEN6.out]
              clear ho hg hs lw8 LW7 R7 HN7 HV7 OWU
              go_wp2
              go_roundg (K - (j + 1))
              case measure => have := HJ.out; omega
              case rel => exact ⟨j + 1, _, _, _, _, by have := HJ.out; omega, by go_num, rfl, rfl, LW8.out⟩
            · have NX := Lib.hid (KEPT.out rfl)
              go_wp2
              go_roundg (K - (j + 1))
              case measure => have := HJ.out; omega
              case rel => exact NX.out
    · obtain rfl : j = K := by have := HJ.out; omega
      clear hlt
      have LWK := Lib.hid lw
      clear lw
      have OVF := Lib.hid (fun i (hi : i ∈ OV S0 j) => over_k OK0.out (List.mem_filter.1 hi).2)
      obtain ⟨ol, hol⟩ : ∃ ol, OV S0 j = ol := ⟨_, rfl⟩
      rw [hol] at LWK OVF OVL
      rw [hol]
      clear hol
      go_wp2
      go_loopg [18] m2 (fun mm i v => ∃ k : Nat, mm + k = m2 ∧ i = .int .i64 k ∧ LW n w b (S0.steps ((l2.take k).map Ac.a)) [] [OwV (.slice a1 ol.length c1) ol, OwE S0 (.slice a2 ol.length c2) ol, ow] v)
      case atStart => exact ⟨0, by omega, rfl, LWK.out⟩
      case round =>
        clear LWK
        obtain ⟨k, hk, rfl, lwk⟩ := hrel
        have HK := Lib.hid hk
        clear hk
        by_cases hlt : k < m2
        · obtain ⟨x, hx⟩ := OKS.out k hlt
          obtain ⟨ab, ao, rfl, hab, hr⟩ := ACTS.out k x hx
          have rg := hr _ lwk.bel
          have DO := Lib.hid (STEPS.out k x hx)
          have cc := rg 1 _ rfl
          have ST := Lib.hid (lw_step lwk x.a)
          rw [show (S0.steps ((l2.take k).map Ac.a)).step x.a = (S0.steps ((l2.take k).map Ac.a)).step x.a from rfl] at ST
          have SN := Lib.hid (steps_snoc S0 ((l2.take k).map Ac.a) x.a)
          have i1 : ((k : Nat) : Int) < (m2 : Nat) := by omega
          have wk : IntKind.i64.wrap ((k : Int) + 1) = (k : Int) + 1 := IntWalk.i64_in _ (by have := HL2.out; omega)
          have HLT := Lib.hid hlt
          clear lwk hr rg hx
          go_wp2_with fail
          refine (ST.out).mono ?_
          rintro e w4 ⟨rfl, lw4⟩
          have LW4 := Lib.hid (show LW n w b (S0.steps ((l2.take (k + 1)).map Ac.a)) [] [OwV (.slice a1 ol.length c1) ol, OwE S0 (.slice a2 ol.length c2) ol, ow] w4 from by rw [DO.out, SN.out]; exact lw4)
          clear lw4 ST cc
          go_wp2
          go_roundg (m2 - (k + 1))
          case measure => have := HK.out; omega
          case rel => exact ⟨k + 1, by have := HLT.out; omega, by go_num, LW4.out⟩
        · obtain rfl : k = m2 := by have := HK.out; omega
          clear hlt
          obtain ⟨al, hal⟩ : ∃ al, (l2.take k).map Ac.a = al := ⟨_, rfl⟩
          rw [hal] at lwk
          have LWK := Lib.hid lwk
          have SOK := Lib.hid lwk.ok
          have OVE := Lib.hid (show ∀ i ∈ ol, (S0.steps al).res (i : Int) = ((S0.res (i : Int)).1, true) ∧ (S0.steps al).step (i : Int) = (S0.steps al, 3) ∧ ∀ s : Nat, s < 4 → (hold (S0.steps al).h (s : Int) == (i : Int)) = false from fun i hi => by
            obtain ⟨T, hT, hk, he⟩ := OVF.out i hi
            have := over_end SOK.out (steps_over hT hk al) hk
            rw [he]; exact this)
          clear lwk hal OVF
          generalize S0.steps al = SM at *
          go_wp2
          go_loopg [19] ol.length (fun mm i v => ∃ j : Nat, mm + j = ol.length ∧ i = .int .i64 j ∧ LW n w b SM [] [OwV (.slice a1 ol.length c1) ol, OwE S0 (.slice a2 ol.length c2) ol, ow] v)
          case atStart => exact ⟨0, by omega, rfl, LWK.out⟩
          case round =>
            clear LWK
            obtain ⟨q, hq, rfl, lwq⟩ := hrel
            have HQ := Lib.hid hq
            clear hq
            by_cases hlt : q < ol.length
            · obtain ⟨x, hx⟩ : ∃ x, ol[q]? = some x := ⟨_, List.getElem?_eq_getElem hlt⟩
              obtain ⟨e1, e2, e3⟩ := OVE.out x (List.mem_of_getElem? hx)
              obtain ⟨g1, hg1, cx⟩ := lwq.elem (o := OwV (.slice a1 ol.length c1) ol) List.mem_cons_self rfl (j := q) (x := .int .i64 (x : Nat)) (by show (ol.map _)[q]? = _; rw [List.getElem?_map, hx]; rfl)
              obtain ⟨g2, hg2, cy⟩ := lwq.elem (o := OwE S0 (.slice a2 ol.length c2) ol) (List.mem_cons_of_mem _ List.mem_cons_self) rfl (j := q) (x := .int .i64 (S0.res (x : Int)).1) (by show (ol.map _)[q]? = _; rw [List.getElem?_map, hx]; rfl)
              subst hg1; subst hg2
              have RES := Lib.hid (lw_result lwq (x : Nat)); have ST := Lib.hid (lw_step lwq (x : Nat))
              rw [e1] at RES
              rw [e2] at ST
              have E3 := Lib.hid e3
              have CX := Lib.hid (fun v (h : LW n w b SM [] [OwV (.slice (some ⟨g1, 0, none⟩) ol.length c1) ol, OwE S0 (.slice (some ⟨g2, 0, none⟩) ol.length c2) ol, ow] v) => (show v.cell? ⟨g1, q, none⟩ = some (.int .i64 (x : Nat)) from by
                obtain ⟨g, hg, h⟩ := h.elem (o := OwV (.slice (some ⟨g1, 0, none⟩) ol.length c1) ol) List.mem_cons_self rfl (j := q) (x := .int .i64 (x : Nat)) (by show (ol.map _)[q]? = _; rw [List.getElem?_map, hx]; rfl)
                cases hg; exact h))
              have i1 : ((q : Nat) : Int) < (ol.length : Nat) := by omega
              have wk : IntKind.i64.wrap ((q : Int) + 1) = (q : Int) + 1 := IntWalk.i64_in _ (by have := OVL.out; omega)
              have HLT := Lib.hid hlt
              clear e1 e2 e3 hx lwq
              generalize (S0.res (x : Int)).1 = er at *
              go_wp2_with fail
              refine (RES.out).mono ?_
              rintro e w5 ⟨rfl, rfl⟩
              go_wp2_with fail
              refine (ST.out).mono ?_
              rintro e w6 ⟨rfl, lw6⟩
              have LW6 := Lib.hid lw6
              clear RES ST cx cy lw6
              obtain ⟨wo, rfl⟩ : ∃ wo : World, wo = w6 := ⟨_, rfl⟩
              have cx := CX.out _ LW6.out
              go_wp2
              go_loopg [22] 4 (fun mm si v => ∃ s : Nat, mm + s = 4 ∧ si = .int .i64 s ∧ LW n w b SM [] [OwV (.slice (some ⟨g1, 0, none⟩) ol.length c1) ol, OwE S0 (.slice (some ⟨g2, 0, none⟩) ol.length c2) ol, ow] v)
              case atStart => exact ⟨0, rfl, rfl, LW6.out⟩
              case round =>
                clear LW6 cx
                obtain ⟨s, hs, rfl, lws⟩ := hrel
                have HS := Lib.hid hs
                clear hs
                by_cases hs4 : s < 4
                · have i4 : ((s : Nat) : Int) < 4 := by omega
                  have es := E3.out s hs4
                  have fa : ∀ u, QC.Dr wr u → u.cell? ⟨g1, q, none⟩ = some (.int .i64 (x : Nat)) ∧ LW n w b SM [] [OwV (.slice (some ⟨g1, 0, none⟩) ol.length c1) ol, OwE S0 (.slice (some ⟨g2, 0, none⟩) ol.length c2) ol, ow] u := fun u hu => ⟨CX.out _ (lws.dr hu), lws.dr hu⟩
                  have FA := Lib.hid fa
                  clear lws fa
                  go_wp2
                  refine QC.wp_region_d [2] [0, 1, 3, 4, 5, 6, 2, 7] (by kernel_rfl) (by kernel_rfl) (fun u d => ?_)
                  obtain ⟨cx, lwu⟩ := FA.out u d
                  have HOL := Lib.hid (lw_holder lwu (s : Nat))
                  have LWU := Lib.hid lwu
                  clear lwu FA d
                  generalize hold SM.h (s : Int) = ho at *
                  iterate 6
                    (first
                     | (apply QC.wpC_load
                        (focus rfl)
                        (focus decide)
                        (focus rfl)
                        (focus rfl)
                        (focus rfl)
                        (focus (assumption))
                        (focus (intro u hu; go_simp))
                        intro K hK
                        go_simp
                        refine hK _ ?_
                        clear hK K)
                     | (apply QC.wpC_pure
                        (focus rfl)
                        (focus decide)
                        intro K hK
                        go_simp
                        first
                         | (refine hK _ ?_; clear hK K)
                         | (apply Exists.intro
                            refine ⟨fun u => ?_, hK _ ?_⟩
                            (focus (unfold QP.oat; go_simp; first | done | exact ⟨rfl, rfl⟩ | exact rfl))
                            clear hK K)))
                  apply QC.wpC_eff
                  (focus rfl)
                  (focus decide)
                  go_wp2_with fail
                  refine (HOL.out).mono ?_
                  rintro e u2 ⟨rfl, rfl⟩
                  go_wp2
                  refine QC.eff_ok rfl ?_ ?_
                  · (repeat (first | exact QC.obl_nil | refine QC.obl_is (by assumption) ?_ | (apply QC.obl_dep; (focus decide))))
                  clear cx HOL
                  iterate 1
                    (first
                     | (apply QC.wpC_load
                        (focus rfl)
                        (focus decide)
                        (focus rfl)
                        (focus rfl)
                        (focus rfl)
                        (focus (assumption))
                        (focus (intro u hu; go_simp))
                        intro K hK
                        go_simp
                        refine hK _ ?_
                        clear hK K)
                     | (apply QC.wpC_pure
                        (focus rfl)
                        (focus decide)
                        intro K hK
                        go_simp
                        first
                         | (refine hK _ ?_; clear hK K)
                         | (apply Exists.intro
                            refine ⟨fun u => ?_, hK _ ?_⟩
                            (focus (unfold QP.oat; go_simp; first | done | exact ⟨rfl, rfl⟩ | exact rfl))
                            clear hK K)))
                  refine QC.wpC_nil ?_
                  go_wp2
                  go_roundg (4 - (s + 1))
                  case measure => have := HS.out; omega
                  case rel => exact ⟨s + 1, by have := HS.out; omega, by go_num, LWU.out⟩
                · obtain rfl : s = 4 := by have := HS.out; omega
                  have LWS := Lib.hid lws
                  clear lws hs4
                  go_wp2
                  go_roundg (ol.length - (q + 1))
                  case measure => have := HQ.out; omega
                  case rel => exact ⟨q + 1, by have := HLT.out; omega, by go_num, LWS.out⟩
            · obtain rfl : q = ol.length := by have := HQ.out; omega
              have FIN := Lib.hid (fine_of lwq HN.out)
              clear lwq hlt
              go_wp2
              go_ret
              exact FIN.out
open Go.ChangeShapes Go.WideShapes in
set_option maxRecDepth 100000 in
theorem walk_ShardOver {H : Type} {enc : TypeId × Value → H} {W : World} {base : Nat} (b0 : Option Addr) (len0 cap0 : Nat) (z0 : List Int) (w0 : RowK.IsRow .u64 W b0 len0 cap0 z0) (v : Value) (d : DataW H) (p : List MemPlace) (hval : Value.okWide Try.prog W .any base 74 v)
    (h : DataW.Trod enc Try.prog W 0 (fun _ => true) true 74 v d p) (v' : Value) (d' : DataW H) (p' : List MemPlace) (hval' : Value.okWide Try.prog W .any base 74 v') (h' : DataW.Trod enc Try.prog W 0 (fun _ => true) true 74 v' d' p') : Calls Try.prog 15 #[.slice b0 len0 cap0, v, v'] W (Fine W) := by
  obtain ⟨A, cap, l, rfl, h1, h2, h3, h4⟩ := RowK.sl_of_trod Ac.cells Ac.ok Try.underlying74 (size := 4) (by kernel_rfl) (by decide) act_of_trod84 hval h
  obtain ⟨A', cap', l', rfl, h1', h2', h3', h4'⟩ := RowK.sl_of_trod Ac.cells Ac.ok Try.underlying74 (size := 4) (by kernel_rfl) (by decide) act_of_trod84 hval' h'
  have hu := urow_of w0
  by_cases hm : 40 < len0 ∨ 150 < l.length ∨ 50 < l'.length
  · exact over_many b0 len0 cap0 A l.length cap A' l'.length cap' W hm
  · by_cases hb : len0 < 1 ∨ 32 < len0 ∨ ¬ (z0.take len0).sum ≤ Am.mx
    · exact over_none b0 len0 cap0 _ A l.length cap A' l'.length cap' W hu (by omega) (by omega) (by omega) hb
    · exact over_walk b0 len0 cap0 _ A cap l A' cap' l' W hu (by omega) (by omega) (Decidable.not_not.1 fun h => hb (.inr (.inr h))) h4 h3 (by omega) h4' (by omega)
end Go.Proofs.Ytnnnbgndbmcffaa
