/- ShardLocks: what a step of a task means for its locks, in plain words, and the walk; the condition is that the rows are known. -/
import Derived.Test.YtnnnbgndbmcffaaSrS
namespace Go.Proofs.Ytnnnbgndbmcffaa
open Go.RowKit
set_option linter.unusedVariables false

theorem step_at {S : BS} {k : Nat} {T : Tsk} (hT : S.tl[k]? = some T) : S.step (k : Int) = S.stepT k T := by unfold BS.step; rw [if_pos (by omega), Int.toNat_natCast, hT]
theorem res_at {S : BS} {k : Nat} {T : Tsk} (hT : S.tl[k]? = some T) : S.res (k : Int) = if T.m < T.k then (T.er, true) else (0, false) := by unfold BS.res; rw [if_pos (by omega), Int.toNat_natCast, hT]
theorem step_out {S : BS} {k : Nat} (hk : S.tl.length ≤ k) : S.step (k : Int) = (S, 3) := by unfold BS.step; rw [if_pos (by omega), Int.toNat_natCast, List.getElem?_eq_none hk]
/-- the four ways of a step -/
theorem stepT_cases (S : BS) (k : Nat) (T : Tsk) : (∃ s, T.needs[T.k]? = some s ∧ ((S.h s = -1 ∧ S.stepT k T = ({ S with h := upF S.h s k, tl := S.tl.set k T.next }, 0)) ∨ (S.h s ≠ -1 ∧ S.stepT k T = (S, 100)))) ∨
    (T.k = T.m ∧ S.stepT k T = (S.act k T, 0)) ∨ (T.k = T.m + 1 ∧ S.stepT k T = ({ S with h := fun s => if S.h s = (k : Int) then -1 else S.h s, tl := S.tl.set k T.next }, 0)) ∨ (T.m + 1 < T.k ∧ S.stepT k T = (S, 3)) := by
  unfold BS.stepT
  cases hs : T.needs[T.k]? with
  | some s =>
    refine .inl ⟨s, rfl, ?_⟩
    by_cases hh : S.h s = -1
    · exact .inl ⟨hh, if_pos hh⟩
    · exact .inr ⟨hh, if_neg hh⟩
  | none =>
    have hm : T.m ≤ T.k := List.getElem?_eq_none_iff.1 hs
    refine .inr ?_
    simp only
    by_cases h1 : T.k = T.m
    · exact .inl ⟨h1, if_pos h1⟩
    · rw [if_neg h1]
      by_cases h2 : T.k = T.m + 1
      · exact .inr (.inl ⟨h2, if_pos h2⟩)
      · exact .inr (.inr ⟨by omega, if_neg h2⟩)
theorem act_h (S : BS) (k : Nat) (T : Tsk) : (S.act k T).h = S.h := by unfold BS.act; split <;> rfl
theorem act_tl (S : BS) (k : Nat) (T : Tsk) : ∃ X, (S.act k T).tl = S.tl.set k X ∧ X.k = T.k + 1 ∧ X.m = T.m ∧ X.needs = T.needs := by unfold BS.act; split <;> exact ⟨_, rfl, rfl, rfl, rfl⟩
/-- who is going to act holds all that it needs -/
theorem lock_law {S : BS} (ok : S.Ok) {k : Nat} {T : Tsk} (hT : S.tl[k]? = some T) :
    ((S.step k).2 = 0 ∨ (S.step k).2 = 100 ∨ ((S.step k).2 = 3 ∧ (S.res k).2 = true)) ∧ ((S.res k).2 = false → ((S.step k).1.res k).2 = true → (S.step k).2 = 0 ∧ ∀ s ∈ T.needs, (S.step k).1.h s = (k : Int)) := by
  rw [step_at hT, res_at hT]
  have get : ∀ (X : Tsk) (S' : BS), S'.tl = S.tl.set k X → S'.tl[k]? = some X := fun X S' e => by rw [e, set_get hT, if_pos rfl]
  rcases stepT_cases S k T with ⟨s, hs, ⟨hh, e⟩ | ⟨hh, e⟩⟩ | ⟨hk, e⟩ | ⟨hk, e⟩ | ⟨hk, e⟩
  · have hkm : T.k < T.m := (List.getElem?_eq_some_iff.1 hs).1
    refine ⟨.inl (by rw [e]), fun h1 h2 => ?_⟩
    rw [e, res_at (get _ _ rfl)] at h2
    rw [if_neg (by show ¬ T.m < T.k + 1; omega)] at h2; cases h2
  · have hkm : T.k < T.m := (List.getElem?_eq_some_iff.1 hs).1
    refine ⟨.inr (.inl (by rw [e])), fun h1 h2 => ?_⟩
    rw [e, res_at hT, if_neg (by omega)] at h2; cases h2
  · refine ⟨.inl (by rw [e]), fun h1 h2 => ⟨by rw [e], fun s hs => ?_⟩⟩
    rw [e, act_h]
    exact (ok.hd s (Tsk.lt4 hs) k).2 ⟨T, hT, by omega, by rw [needs_take (by omega)]; exact hs⟩
  · refine ⟨.inl (by rw [e]), fun h1 h2 => ?_⟩
    rw [if_pos (by omega)] at h1; cases h1
  · refine ⟨.inr (.inr ⟨by rw [e], by rw [if_pos (by omega)]⟩), fun h1 h2 => ?_⟩
    rw [if_pos (by omega)] at h1; cases h1
theorem flatA_get : ∀ (l : List Ac) (k : Nat) (x : Ac), l[k]? = some x → ∀ j, j < 4 → (flatA l)[k * 4 + j]? = x.cells[j]?
  | [], k, x, h, _, _ => by simp at h
  | y :: r, 0, x, h, j, hj => by
    simp at h; subst h
    show (y.cells ++ flatA r)[0 * 4 + j]? = _
    rw [List.getElem?_append_left (by simp [Ac.cells]; omega)]; simp
  | y :: r, k + 1, x, h, j, hj => by
    simp at h
    show (y.cells ++ flatA r)[(k + 1) * 4 + j]? = _
    rw [List.getElem?_append_right (by simp [Ac.cells]; omega)]
    have := flatA_get r k x h j hj
    rw [show (k + 1) * 4 + j - y.cells.length = k * 4 + j by simp [Ac.cells]; omega]; exact this
/-- the acts' cells in memory -/
theorem LW.act {n : Nat} {w v : World} {b : Nat} {S S' : BS} {L : List (Nat × TypeId × Array Value)} {O : List Ow} {a : Option Addr} {c : Nat} (h : LW n w b S L O v) (hO : OwA (.slice a S'.acts.length c) S' ∈ O) {k : Nat} {x : Ac} (hx : S'.acts[k]? = some x) :
    ∃ g, a = some ⟨g, 0, none⟩ ∧ ∀ j, j < 4 → v.cell? ⟨g, k * 4 + j, none⟩ = x.cells[j]? := by
  have ho := h.owns _ hO
  have hk := (List.getElem?_eq_some_iff.1 hx).1
  rcases ho.2 with ⟨e, e2⟩ | ⟨g, c2, cur, e, _⟩
  · have : S'.acts.length = 0 := e2
    omega
  · simp only [OwA] at e
    cases e
    refine ⟨g, rfl, fun j hj => ?_⟩
    have hf := flatA_get S'.acts k x hx j hj
    have hxj : x.cells[j]? = some (x.cells[j]'(by simp [Ac.cells]; omega)) := List.getElem?_eq_getElem _
    rw [hxj] at hf ⊢
    have := ho.cells rfl (k * 4 + j) _ hf
    rwa [Addr.add_mid, Nat.zero_add] at this
theorem LW.rebase {m n : Nat} {w v u : World} {b : Nat} {S : BS} {L : List (Nat × TypeId × Array Value)} {O : List Ow} (h : LW m v b S L O u) (hb : Below n w v) (hm : v.heap.size = m) (hn : n ≤ m) : LW n w b S L O u := by
  obtain ⟨⟨rk, a, c, d, e⟩, r, rg, ow, bl, ge⟩ := h
  exact ⟨⟨rk, a, fun k hk => c k (by omega), d, e⟩, r, fun x hx => Nat.le_trans hn (rg x hx), fun o ho => (ow o ho).mono hn, hb.trans (bl.mono hn), Nat.le_trans hn ge⟩
/-- a law's answer -/
theorem fine_of {n : Nat} {w v : World} {b : Nat} {S : BS} {L : List (Nat × TypeId × Array Value)} {O : List Ow} (h : LW n w b S L O v) (hn : w.heap.size = n) : Fine w (.returned (.bool true)) v := ⟨rfl, by rw [hn]; exact h.bel⟩
/-- played, beyond what was there -/
theorem play_lw (pa : Option Addr) (len cap : Nat) (zs : List Int) (A : Option Addr) (cap2 : Nat) (l : List Ac) (w : World) (hu : URow w pa len zs) (h1 : 1 ≤ len) (h2 : len ≤ 32) (h3 : zs.sum ≤ Am.mx) (hsl : RowK.SlAt w 4 Ac.cells A l) (hok : ∀ x ∈ l, x.ok) (hl : l.length ≤ 200) :
    ∀ v, Below w.heap.size w v → Calls Try.prog 46 #[.slice pa len cap, .slice A l.length cap2] v (Played w.heap.size w ((BS.new len fun i => zs.getD i 0).play l)) := fun v hv => by
  refine (played_yes pa len cap zs A cap2 l v (hu.below hv) h1 h2 h3 (hsl.below (Nat.le_refl _) hv) hok hl).mono ?_
  rintro e w' ⟨b, a, c, rfl, lw⟩
  exact ⟨b, a, c, rfl, lw.rebase hv rfl hv.size⟩
set_option maxRecDepth 100000 in
set_option maxHeartbeats 8000000 in
theorem locks_walk (pa : Option Addr) (len cap : Nat) (zs : List Int) (A : Option Addr) (cap2 : Nat) (l : List Ac) (d : Nat) (w : World) (hu : URow w pa len zs) (h1 : 1 ≤ len) (h2 : len ≤ 32) (h3 : zs.sum ≤ Am.mx) (hsl : RowK.SlAt w 4 Ac.cells A l) (hok : ∀ x ∈ l, x.ok) (hl : l.length ≤ 200) (hd : d ≤ 255) :
    Calls Try.prog 14 #[.slice pa len cap, .slice A l.length cap2, .int .u8 d] w (Fine w) := by
  have PLAY := Lib.hid (play_lw pa len cap zs A cap2 l w hu h1 h2 h3 hsl hok hl)
  obtain ⟨n, hn⟩ : ∃ n, w.heap.size = n := ⟨_, rfl⟩
  have HN := Lib.hid hn
  rw [hn] at PLAY
  have SH := Lib.hid (fun v => bshown_any v)
  obtain ⟨m, hm⟩ : ∃ m, l.length = m := ⟨_, rfl⟩
  rw [hm] at PLAY hl ⊢
  obtain ⟨S, hS⟩ : ∃ S, (BS.new len fun i => zs.getD i 0).play l = S := ⟨_, rfl⟩
  rw [hS] at PLAY
  have d1 : decide ((40 : Int) < (len : Int)) = false := by simp; omega
  have d2 : decide ((200 : Int) < (m : Int)) = false := by simp; omega
  have e1 : IntKind.i64.wrap ((d : Nat) : Int) = (d : Nat) := IntWalk.i64_in _ (by omega)
  obtain ⟨k, hk⟩ : ∃ k, d % 32 = k := ⟨_, rfl⟩
  have e2 : ((d : Nat) : Int).tmod 32 = (k : Nat) := by rw [Int.tmod_eq_emod_of_nonneg (by omega)]; omega
  have e3 : IntKind.i64.wrap (((d : Nat) : Int).tmod 32) = (k : Nat) := by rw [e2]; exact IntWalk.i64_in _ (by omega)
  have e4 : IntKind.i64.wrap ((k : Nat) : Int) = (k : Nat) := IntWalk.i64_in _ (by omega)
  have e5 : (0 : Int) ≤ (k : Nat) := by omega
  clear hu h1 h2 h3 hsl hok hl hm hS hd hk
  go_enter Try.func14, Try.ntmps14
  go_wp2_with fail
  refine (SH.out _).mono ?_
  rintro e w1 ⟨rfl, g1⟩
  rw [hn] at g1
  have PL := Lib.hid (PLAY.out _ g1)
  clear g1 PLAY SH
  go_wp2_with fail
  refine (PL.out).mono ?_
  rintro e w2 ⟨b, a, c, rfl, lw2⟩
  clear PL
  have LW2 := Lib.hid lw2
  have SAL := Lib.hid (acts_len S)
  by_cases hk : k < S.acts.length
  · have c1 : ((k : Nat) : Int) < (S.acts.length : Nat) := by omega
    have c2 : decide (((S.acts.length : Nat) : Int) ≤ (k : Nat)) = false := by simp; omega
    obtain ⟨T, hT⟩ : ∃ T, S.tl[k]? = some T := ⟨_, List.getElem?_eq_getElem (by rw [← acts_len]; exact hk)⟩
    have hx : S.acts[k]? = some (actOf T) := by unfold BS.acts; rw [List.getElem?_map, hT]; rfl
    obtain ⟨g, rfl, hc⟩ := lw2.act (L := []) (List.mem_cons_self) hx
    obtain ⟨law1, law2⟩ := lock_law lw2.ok hT
    have R1 := Lib.hid (lw_result lw2 (k : Nat)); have ST := Lib.hid (lw_step lw2 (k : Nat))
    have HT := Lib.hid hT
    have ra := lw2.ok.ra k T hT
    have rl := lw2.ok.rl k T hT
    have n32 := lw2.ok.n32
    clear lw2 hx hT hc
    go_wp2_with fail
    refine (R1.out).mono ?_
    rintro e w3 ⟨rfl, rfl⟩
    clear R1
    obtain ⟨⟨r0, b0⟩, hr0⟩ : ∃ r, S.res (k : Int) = r := ⟨_, rfl⟩
    rw [hr0] at law1 law2 ⊢
    go_wp2_with fail
    refine (ST.out).mono ?_
    rintro e w3 ⟨rfl, lw3⟩
    clear ST
    obtain ⟨⟨S', es⟩, hst⟩ : ∃ r, S.step (k : Int) = r := ⟨_, rfl⟩
    rw [hst] at law1 law2 lw3 ⊢
    have R2 := Lib.hid (lw_result lw3 (k : Nat))
    have LW3 := Lib.hid lw3
    have hx : S.acts[k]? = some (actOf T) := by unfold BS.acts; rw [List.getElem?_map, HT.out]; rfl
    obtain ⟨g', hg', hc⟩ := lw3.act (L := []) (List.mem_cons_self) hx
    cases hg'
    clear lw3 hx
    go_wp2_with fail
    refine (R2.out).mono ?_
    rintro e w4 ⟨rfl, rfl⟩
    clear R2 LW2
    try simp only at law1 law2
    obtain ⟨⟨r1, b1⟩, hr1⟩ : ∃ r, S'.res (k : Int) = r := ⟨_, rfl⟩
    rw [hr1] at law2 ⊢
    try simp only at law2
    have LAW2 := Lib.hid law2; have HC := Lib.hid hc; have RA := Lib.hid ra; have RL := Lib.hid rl; have N32 := Lib.hid n32
    have FINE := Lib.hid (fine_of LW3.out HN.out)
    clear law2 hc ra rl hr0 hst hr1 n32
    have done : ∀ b0', b0 = b0' → True := fun _ _ => trivial
    clear done
    by_cases hcase : b0 = false ∧ b1 = true
    · obtain ⟨rfl, rfl⟩ := hcase
      obtain ⟨rfl, hh⟩ := LAW2.out rfl rfl
      have HH := Lib.hid hh
      clear hh law1 LAW2 FINE
      cases hl : T.lists
      · obtain ⟨⟨a0, a1⟩, ⟨t0, t1⟩, _⟩ := RA.out hl
        have hcs : (actOf T).cells = [.int .i64 0, .int .i64 T.fr, .int .i64 T.to, .int .u64 T.am] := by unfold actOf; rw [hl]; rfl
        have n32 := N32.out
        have hfr := fun (s : Nat) (hs : s < 4) (e : T.fr % 4 = (s : Int)) => HH.out s (List.mem_filter.2 ⟨by simp; omega, by unfold Tsk.need; simp [hl, e]⟩)
        have hto := fun (s : Nat) (hs : s < 4) (e : T.to % 4 = (s : Int)) => HH.out s (List.mem_filter.2 ⟨by simp; omega, by unfold Tsk.need; simp [hl, e]⟩)
        have h1 := hfr (T.fr % 4).toNat (by omega) (by omega)
        have h2 := hto (T.to % 4).toNat (by omega) (by omega)
        have g1 : hold S'.h (T.fr % 4) = (k : Int) := by unfold hold; rw [if_pos (by omega)]; exact h1
        have g2 : hold S'.h (T.to % 4) = (k : Int) := by unfold hold; rw [if_pos (by omega)]; exact h2
        rw [hcs] at HC
        have fa : ∀ u, QC.Dr w3 u → u.cell? ⟨g, k * 4 + 1, none⟩ = some (.int .i64 T.fr) ∧ u.cell? ⟨g, k * 4 + 2, none⟩ = some (.int .i64 T.to) := fun u hu => ⟨(hu.cell _).trans (HC.out 1 (by decide)), (hu.cell _).trans (HC.out 2 (by decide))⟩
        have lwd : ∀ u, QC.Dr w3 u → LW n w b S' [] [OwA (.slice (some ⟨g, 0, none⟩) S.acts.length c) S] u := fun u hu => LW3.out.dr hu
        have m1 : T.fr.tmod 4 = T.fr % 4 := Int.tmod_eq_emod_of_nonneg a0
        have m2 : T.to.tmod 4 = T.to % 4 := Int.tmod_eq_emod_of_nonneg t0
        have f0 : (0 : Int) ≤ T.fr % 4 := by omega
        have f1 : T.fr % 4 < 4 := by omega
        have f2 : (0 : Int) ≤ T.to % 4 := by omega
        have f3 : T.to % 4 < 4 := by omega
        obtain ⟨fr, hfre⟩ : ∃ fr, T.fr = fr := ⟨_, rfl⟩
        obtain ⟨to, htoe⟩ : ∃ to, T.to = to := ⟨_, rfl⟩
        rw [hfre] at m1 f0 f1 g1 fa a0
        rw [htoe] at m2 f2 f3 g2 fa
        obtain ⟨p, hp⟩ : ∃ p, fr % 4 = p := ⟨_, rfl⟩
        obtain ⟨q, hq⟩ : ∃ q, to % 4 = q := ⟨_, rfl⟩
        rw [hp] at m1 f0 f1 g1
        rw [hq] at m2 f2 f3 g2
        have m3 : IntKind.i64.wrap (fr.tmod 4) = p := by rw [m1]; exact IntWalk.i64_in _ (by omega)
        have m4 : IntKind.i64.wrap (to.tmod 4) = q := by rw [m2]; exact IntWalk.i64_in _ (by omega)
        have w1 : IntKind.i64.wrap p = p := IntWalk.i64_in _ (by omega)
        have w2 : IntKind.i64.wrap q = q := IntWalk.i64_in _ (by omega)
        have LW4 := Lib.hid (LW3.out.alloc (.cells #[.int .i64 0, .int .i64 1, .int .i64 2, .int .i64 3] 3))
        have fa4 : ∀ u, QC.Dr (w3.alloc (.cells #[.int .i64 0, .int .i64 1, .int .i64 2, .int .i64 3] 3)) u → u.cell? ⟨g, k * 4 + 1, none⟩ = some (.int .i64 fr) ∧ u.cell? ⟨g, k * 4 + 2, none⟩ = some (.int .i64 to) := fun u hu => by
          have hgl : g < w3.heap.size := World.block_lt_of_cell? w3 _ (HC.out 1 (by decide))
          have bel : Below w3.heap.size w3 (w3.alloc (.cells #[.int .i64 0, .int .i64 1, .int .i64 2, .int .i64 3] 3)) := (Below.refl _ _).alloc (Nat.le_refl _) _
          have k0 := fa w3 (QC.Dr.refl _)
          exact ⟨(hu.cell _).trans ((bel.cell (p := ⟨g, k * 4 + 1, none⟩) hgl).trans k0.1), (hu.cell _).trans ((bel.cell (p := ⟨g, k * 4 + 2, none⟩) hgl).trans k0.2)⟩
        obtain ⟨y1, y2⟩ := fa4 _ (QC.Dr.refl _)
        have FA4 := Lib.hid fa4; have G1 := Lib.hid g1; have G2 := Lib.hid g2
        obtain ⟨w5, hw5⟩ : ∃ w5, w3.alloc (.cells #[.int .i64 0, .int .i64 1, .int .i64 2, .int .i64 3] 3) = w5 := ⟨_, rfl⟩
        rw [hw5] at LW4 FA4 y1 y2
        have HW5 := Lib.hid hw5
        have c3 : decide (0 ≤ fr) = true := by simpa using a0
        clear hfr hto h1 h2 g1 g2 fa lwd fa4 hcs HC HH LW3 RA RL N32 a1 t0 t1 hw5 hfre htoe hp hq n32 hl
        go_wp2_with (first | (rw [HW5.out]) | fail)
        refine QC.wp_region_d [12] [0, 1, 2, 3, 4, 5, 6, 7, 8, 9, 10, 11, 12, 13] (by kernel_rfl) (by kernel_rfl) (fun u d => ?_)
        clear y1 y2 HW5
        obtain ⟨y1, y2⟩ := FA4.out u d
        have LWu := Lib.hid (LW4.out.dr d)
        clear LW4 FA4 d
        iterate 12
          (first
           | (apply QC.wpC_load
              (focus rfl)
              (focus decide)
              (focus rfl)
              (focus rfl)
              (focus rfl)
              (focus (assumption))
              (focus (intro u hu; go_simp))
              intro K hK
              go_simp
              refine hK _ ?_
              clear hK K)
           | (apply QC.wpC_pure
              (focus rfl)
              (focus decide)
              intro K hK
              go_simp
              first
               | (refine hK _ ?_; clear hK K)
               | (apply Exists.intro
                  refine ⟨fun u => ?_, hK _ ?_⟩
                  (focus (unfold QP.oat; go_simp; first | done | exact ⟨rfl, rfl⟩ | exact rfl))
                  clear hK K)))
        apply QC.wpC_eff
        (focus rfl)
        (focus decide)
        go_wp2
        have r6 := M.RowAt.new u 3 #[.int .i64 p, .int .i64 q]
        have LW5 := Lib.hid (LWu.out.alloc (.cells #[.int .i64 p, .int .i64 q] 3))
        obtain ⟨n6, hn6⟩ : ∃ n6, u.heap.size = n6 := ⟨_, rfl⟩
        rw [hn6] at r6 ⊢
        have RN := Lib.hid r6
        have nds : ∀ j, j < 2 → ∃ x : Int, (#[Value.int .i64 p, Value.int .i64 q] : Array Value)[j]? = some (.int .i64 x) ∧ hold S'.h x = (k : Int) := fun j hj => by
          match j, hj with
          | 0, _ => exact ⟨p, rfl, G1.out⟩
          | 1, _ => exact ⟨q, rfl, G2.out⟩
        have NDS := Lib.hid nds
        clear r6 hn6 LWu nds G1 G2 y1 y2
        generalize u.alloc (.cells #[.int .i64 p, .int .i64 q] 3) = wo at *
        refine QC.eff_ok rfl ?_ ?_
        · (repeat (first | exact QC.obl_nil | refine QC.obl_is (by assumption) ?_ | (apply QC.obl_dep; (focus decide))))
        iterate 1
          (first
           | (apply QC.wpC_load
              (focus rfl)
              (focus decide)
              (focus rfl)
              (focus rfl)
              (focus rfl)
              (focus (assumption))
              (focus (intro u hu; go_simp))
              intro K hK
              go_simp
              refine hK _ ?_
              clear hK K)
           | (apply QC.wpC_pure
              (focus rfl)
              (focus decide)
              intro K hK
              go_simp
              first
               | (refine hK _ ?_; clear hK K)
               | (apply Exists.intro
                  refine ⟨fun u => ?_, hK _ ?_⟩
                  (focus (unfold QP.oat; go_simp; first | done | exact ⟨rfl, rfl⟩ | exact rfl))
                  clear hK K)))
        refine QC.wpC_nil ?_
        go_wp2
        go_loopg [18] 2 (fun mm i v => ∃ j : Nat, mm + j = 2 ∧ i = .int .i64 j ∧ v = wo)
        case atStart => exact ⟨0, rfl, rfl, rfl⟩
        case round =>
          obtain ⟨j, hj, rfl, rfl⟩ := hrel
          have HJ := Lib.hid hj
          by_cases hjl : j < 2
          · obtain ⟨x, hxj, hxh⟩ := NDS.out j hjl
            have HOL := Lib.hid (lw_holder LW5.out x)
            rw [hxh] at HOL
            have cj := (RN.out.cell j).trans hxj
            have i1 : ((j : Nat) : Int) < 2 := by omega
            have i0 : (0 : Int) ≤ (j : Nat) := by omega
            clear hj hxj hxh
            go_wp2_with fail
            refine (HOL.out).mono ?_
            rintro e w9 ⟨rfl, rfl⟩
            go_wp2
            go_roundg (2 - (j + 1))
            case measure => have := HJ.out; omega
            case rel => exact ⟨j + 1, by omega, by go_num, rfl⟩
          · obtain rfl : j = 2 := by omega
            have FIN := Lib.hid (fine_of LW5.out HN.out)
            clear hj hjl
            go_wp2
            go_ret
            exact FIN.out
      · have hcs : (actOf T).cells = [.int .i64 0, .int .i64 (-1), .int .i64 0, .int .u64 0] := by unfold actOf; rw [hl]; rfl
        rw [hcs] at HC
        have hall : ∀ j : Nat, j < 4 → hold S'.h (j : Int) = (k : Int) := fun j hj => by
          unfold hold
          rw [if_pos (by omega), Int.toNat_natCast]
          exact HH.out j (List.mem_filter.2 ⟨by simp; omega, by unfold Tsk.need; simp [hl]⟩)
        have hgl : g < w3.heap.size := World.block_lt_of_cell? w3 _ (HC.out 1 (by decide))
        have y1 : (w3.alloc (.cells #[.int .i64 0, .int .i64 1, .int .i64 2, .int .i64 3] 3)).cell? ⟨g, k * 4 + 1, none⟩ = some (.int .i64 (-1)) :=
          (((Below.refl _ w3).alloc (Nat.le_refl _) (.cells #[.int .i64 0, .int .i64 1, .int .i64 2, .int .i64 3] 3)).cell (p := ⟨g, k * 4 + 1, none⟩) hgl).trans (HC.out 1 (by decide))
        have r6 := M.RowAt.new w3 3 #[.int .i64 0, .int .i64 1, .int .i64 2, .int .i64 3]
        have LW5 := Lib.hid (LW3.out.alloc (.cells #[.int .i64 0, .int .i64 1, .int .i64 2, .int .i64 3] 3))
        obtain ⟨n6, hn6⟩ : ∃ n6, w3.heap.size = n6 := ⟨_, rfl⟩
        obtain ⟨wo, hwo⟩ : ∃ wo, w3.alloc (.cells #[.int .i64 0, .int .i64 1, .int .i64 2, .int .i64 3] 3) = wo := ⟨_, rfl⟩
        rw [hwo] at y1 r6 LW5
        rw [hn6] at r6
        have RN := Lib.hid r6; have HWO := Lib.hid hwo; have HN6 := Lib.hid hn6
        have nds : ∀ j, j < 4 → ∃ x : Int, (#[Value.int .i64 0, Value.int .i64 1, Value.int .i64 2, Value.int .i64 3] : Array Value)[j]? = some (.int .i64 x) ∧ hold S'.h x = (k : Int) := fun j hj => by
          match j, hj with
          | 0, _ => exact ⟨0, rfl, hall 0 (by decide)⟩
          | 1, _ => exact ⟨1, rfl, hall 1 (by decide)⟩
          | 2, _ => exact ⟨2, rfl, hall 2 (by decide)⟩
          | 3, _ => exact ⟨3, rfl, hall 3 (by decide)⟩
        have NDS := Lib.hid nds
        clear hcs HC hall hgl r6 hn6 hwo nds HH LW3 RA RL N32 hl
        go_wp2_with (first | (rw [HN6.out, HWO.out]) | fail)
        go_loopg [18] 4 (fun mm i v => ∃ j : Nat, mm + j = 4 ∧ i = .int .i64 j ∧ v = wo)
        case atStart => exact ⟨0, rfl, rfl, rfl⟩
        case round =>
          obtain ⟨j, hj, rfl, rfl⟩ := hrel
          have HJ := Lib.hid hj
          by_cases hjl : j < 4
          · obtain ⟨x, hxj, hxh⟩ := NDS.out j hjl
            have HOL := Lib.hid (lw_holder LW5.out x)
            rw [hxh] at HOL
            have cj := (RN.out.cell j).trans hxj
            have i1 : ((j : Nat) : Int) < 4 := by omega
            have i0 : (0 : Int) ≤ (j : Nat) := by omega
            clear hj hxj hxh
            go_wp2_with fail
            refine (HOL.out).mono ?_
            rintro e w9 ⟨rfl, rfl⟩
            go_wp2
            go_roundg (4 - (j + 1))
            case measure => have := HJ.out; omega
            case rel => exact ⟨j + 1, by omega, by go_num, rfl⟩
          · obtain rfl : j = 4 := by omega
            have FIN := Lib.hid (fine_of LW5.out HN.out)
            clear hj hjl
            go_wp2
            go_ret
            exact FIN.out
    · have hcase : b0 = true ∨ b1 = false := by cases b0 <;> cases b1 <;> simp at hcase ⊢
      clear LAW2 HC RA RL N32 LW3
      rcases hcase with rfl | rfl
      · rcases law1 with rfl | rfl | ⟨rfl, _⟩
        all_goals
          go_wp2
          go_ret
          exact FINE.out
      · rcases law1 with rfl | rfl | ⟨rfl, rfl⟩
        · cases b0
          all_goals
            go_wp2
            go_ret
            exact FINE.out
        · cases b0
          all_goals
            go_wp2
            go_ret
            exact FINE.out
        · go_wp2
          go_ret
          exact FINE.out
  · have c2 : ((S.acts.length : Nat) : Int) ≤ (k : Nat) := by omega
    have c3 : decide (((S.acts.length : Nat) : Int) ≤ (k : Nat)) = true := by simp; omega
    have ST := Lib.hid (lw_step lw2 (k : Nat))
    rw [step_out (by have := SAL.out; omega)] at ST
    clear lw2
    go_wp2_with fail
    refine (ST.out).mono ?_
    rintro e w3 ⟨rfl, lw3⟩
    have FIN := Lib.hid (fine_of lw3 HN.out)
    clear lw3
    go_wp2
    go_ret
    exact FIN.out
end Go.Proofs.Ytnnnbgndbmcffaa
