/- ShardGoesOn: as long as some task is not over, one can go on; plain words, and the walk; the condition is that the rows are known. -/
import Derived.Test.YtnnnbgndbmcffaaSrU
namespace Go.Proofs.Ytnnnbgndbmcffaa
open Go.RowKit
set_option linter.unusedVariables false

/-- a round: the bank behind the first j tasks' steps; whether one went; whether one waits -/
def rdS (S : BS) : Nat → BS
  | 0 => S
  | j + 1 => ((rdS S j).step (j : Int)).1
def rdW (S : BS) : Nat → Bool
  | 0 => false
  | j + 1 => rdW S j || (((rdS S j).step (j : Int)).2 == 0)
def rdX (S : BS) : Nat → Bool
  | 0 => false
  | j + 1 => rdX S j || !(((rdS S j).step (j : Int)).2 == 3)
def left (T : Tsk) : Nat := T.m + 2 - T.k
def mu (S : BS) : Nat := (S.tl.map left).sum
theorem sum_set : ∀ (l : List Nat) (i x y : Nat), l[i]? = some y → (l.set i x).sum + y = l.sum + x
  | [], i, x, y, h => by simp at h
  | a :: r, 0, x, y, h => by simp at h; subst h; simp; omega
  | a :: r, i + 1, x, y, h => by
    have := sum_set r i x y (by simpa using h)
    simp; omega
theorem mu_set {S : BS} {i : Nat} {T X : Tsk} (hT : S.tl[i]? = some T) (hX : left X + 1 = left T) : ((S.tl.set i X).map left).sum + 1 = mu S := by
  have := sum_set (S.tl.map left) i (left X) (left T) (by rw [List.getElem?_map, hT]; rfl)
  rw [List.map_set]
  unfold mu; omega
/-- a step that goes brings all nearer; another one changes nothing -/
theorem step_mu {S : BS} (ok : S.Ok) (i : Int) : ((S.step i).2 = 0 ∧ mu (S.step i).1 + 1 = mu S) ∨ ((S.step i).2 ≠ 0 ∧ (S.step i).1 = S) := by
  by_cases h0 : 0 ≤ i
  · obtain ⟨k, rfl⟩ := Int.eq_ofNat_of_zero_le h0
    cases hT : S.tl[k]? with
    | none =>
      right
      rw [step_out (List.getElem?_eq_none_iff.1 hT)]
      exact ⟨(by show (_ : Int) ≠ 0; simp), rfl⟩
    | some T =>
      rw [step_at hT]
      rcases stepT_cases S k T with ⟨s, hs, ⟨hh, e⟩ | ⟨hh, e⟩⟩ | ⟨hk, e⟩ | ⟨hk, e⟩ | ⟨hk, e⟩
      · have hkm : T.k < T.m := (List.getElem?_eq_some_iff.1 hs).1
        left; rw [e]
        exact ⟨rfl, mu_set hT (by show T.m + 2 - (T.k + 1) + 1 = T.m + 2 - T.k; omega)⟩
      · right; rw [e]; exact ⟨(by show (_ : Int) ≠ 0; simp), rfl⟩
      · left; rw [e]
        obtain ⟨X, hX, x1, x2, _⟩ := act_tl S k T
        refine ⟨rfl, ?_⟩
        show ((S.act k T).tl.map left).sum + 1 = _
        rw [hX]; exact mu_set hT (by unfold left; rw [x1, x2]; omega)
      · left; rw [e]
        exact ⟨rfl, mu_set hT (by show T.m + 2 - (T.k + 1) + 1 = T.m + 2 - T.k; omega)⟩
      · right; rw [e]; exact ⟨(by show (_ : Int) ≠ 0; simp), rfl⟩
  · right
    have : S.step i = (S, 3) := by unfold BS.step; rw [if_neg h0]
    rw [this]; exact ⟨(by show (_ : Int) ≠ 0; simp), rfl⟩
theorem rd_ok {S : BS} (ok : S.Ok) : ∀ j, (rdS S j).Ok
  | 0 => ok
  | j + 1 => (rd_ok ok j).step _
theorem acts_tl {S S' : BS} (h : S'.acts = S.acts) : S'.tl.length = S.tl.length := by rw [← acts_len, ← acts_len, h]
theorem rd_len (S : BS) : ∀ j, (rdS S j).tl.length = S.tl.length
  | 0 => rfl
  | j + 1 => (acts_tl (acts_step _ _)).trans (rd_len S j)
theorem rd_none {S : BS} (ok : S.Ok) : ∀ j, rdW S j = false → rdS S j = S ∧ ∀ i, i < j → (S.step (i : Int)).2 ≠ 0
  | 0, _ => ⟨rfl, fun i hi => absurd hi (by omega)⟩
  | j + 1, h => by
    unfold rdW at h
    rw [Bool.or_eq_false_iff] at h
    obtain ⟨h1, h2⟩ := rd_none ok j h.1
    have hne : ((rdS S j).step (j : Int)).2 ≠ 0 := by simpa using h.2
    rcases step_mu (rd_ok ok j) (j : Int) with ⟨e, _⟩ | ⟨_, e⟩
    · exact absurd e hne
    · refine ⟨by show ((rdS S j).step (j : Int)).1 = S; rw [e, h1], fun i hi => ?_⟩
      by_cases hij : i = j
      · subst hij; rw [h1] at hne; exact hne
      · exact h2 i (by omega)
theorem rd_all {S : BS} (ok : S.Ok) : ∀ j, rdX S j = false → rdW S j = false ∧ ∀ i, i < j → (S.step (i : Int)).2 = 3
  | 0, _ => ⟨rfl, fun i hi => absurd hi (by omega)⟩
  | j + 1, h => by
    unfold rdX at h
    rw [Bool.or_eq_false_iff] at h
    obtain ⟨h1, h2⟩ := rd_all ok j h.1
    have h3 : ((rdS S j).step (j : Int)).2 = 3 := by simpa using h.2
    refine ⟨by unfold rdW; rw [h1, h3]; rfl, fun i hi => ?_⟩
    by_cases hij : i = j
    · subst hij; rw [(rd_none ok i h1).1] at h3; exact h3
    · exact h2 i (by omega)
theorem rd_mu {S : BS} (ok : S.Ok) : ∀ j, mu (rdS S j) + (if rdW S j then 1 else 0) ≤ mu S
  | 0 => by show mu S + 0 ≤ _; omega
  | j + 1 => by
    have ih := rd_mu ok j
    rcases step_mu (rd_ok ok j) (j : Int) with ⟨e, h⟩ | ⟨e, h⟩
    · show mu ((rdS S j).step (j : Int)).1 + _ ≤ _
      have : (if rdW S (j + 1) then 1 else 0) ≤ 1 := by split <;> omega
      omega
    · show mu ((rdS S j).step (j : Int)).1 + _ ≤ _
      rw [h]
      have : rdW S (j + 1) = rdW S j := by
        show (rdW S j || (((rdS S j).step (j : Int)).2 == 0)) = _
        rw [show ((((rdS S j).step (j : Int)).2 == 0) = false) by simpa using e]; simp
      rw [this]; exact ih
theorem needs_lt {T : Tsk} {a c s t : Nat} (ha : T.needs[a]? = some s) (hc : T.needs[c]? = some t) (h : a < c) : s < t := by
  have hp : T.needs.Pairwise (· < ·) := List.Pairwise.filter _ (by decide)
  obtain ⟨h1, rfl⟩ := List.getElem?_eq_some_iff.1 ha
  obtain ⟨h2, rfl⟩ := List.getElem?_eq_some_iff.1 hc
  exact List.pairwise_iff_getElem.1 hp a c h1 h2 h
/-- locks are taken in one order: not all can wait -/
theorem no_dead {S : BS} (ok : S.Ok) (h : ∀ i, i < S.tl.length → (S.step (i : Int)).2 ≠ 0) : ∀ (f s : Nat), s + f = 3 → S.h s ≠ -1 → False := by
  intro f
  induction f using Nat.strongRecOn with
  | _ f ih =>
    intro s hs hh
    rcases ok.hr s (by omega) with e | ⟨i, e⟩
    · exact hh e
    · obtain ⟨T, hT, hk, hm⟩ := (ok.hd s (by omega) i).1 e
      have hi := (List.getElem?_eq_some_iff.1 hT).1
      have hne := h i hi
      rw [step_at hT] at hne
      rcases stepT_cases S i T with ⟨t, ht, ⟨h1, e⟩ | ⟨h1, e⟩⟩ | ⟨h1, e⟩ | ⟨h1, e⟩ | ⟨h1, e⟩
      · exact hne (by rw [e])
      · obtain ⟨a, ha⟩ := List.getElem?_of_mem hm
        rw [List.getElem?_take] at ha
        split at ha
        · rename_i hlt
          have lt := needs_lt ha ht hlt
          have t4 := Tsk.lt4 (List.mem_of_getElem? ht)
          exact ih (3 - t) (by omega) t (by omega) h1
        · cases ha
      · exact hne (by rw [e])
      · exact hne (by rw [e])
      · omega
theorem goes_on {S : BS} (ok : S.Ok) (h : rdX S S.tl.length = true) : rdW S S.tl.length = true := by
  cases hw : rdW S S.tl.length
  · exfalso
    obtain ⟨_, h0⟩ := rd_none ok _ hw
    have key : ∀ j, j ≤ S.tl.length → rdW S j = false → rdX S j = true → False := by
      intro j
      induction j with
      | zero => intro _ _ hx; cases hx
      | succ j ih =>
        intro hj hw hx
        have hw' : (rdW S j || (((rdS S j).step (j : Int)).2 == 0)) = false := hw
        rw [Bool.or_eq_false_iff] at hw'
        have hx' : (rdX S j || !(((rdS S j).step (j : Int)).2 == 3)) = true := hx
        rcases Bool.or_eq_true_iff.1 hx' with hx' | hx'
        · exact ih (by omega) hw'.1 hx'
        · obtain ⟨e1, _⟩ := rd_none ok j hw'.1
          rw [e1] at hx'
          have hne := h0 j (by omega)
          obtain ⟨T, hT⟩ : ∃ T, S.tl[j]? = some T := ⟨_, List.getElem?_eq_getElem (by omega)⟩
          rw [step_at hT] at hx' hne
          rcases stepT_cases S j T with ⟨t, ht, ⟨h1, e⟩ | ⟨h1, e⟩⟩ | ⟨h1, e⟩ | ⟨h1, e⟩ | ⟨h1, e⟩
          · exact hne (by rw [e])
          · have t4 := Tsk.lt4 (List.mem_of_getElem? ht)
            exact no_dead ok h0 (3 - t) t (by omega) h1
          · exact hne (by rw [e])
          · exact hne (by rw [e])
          · rw [e] at hx'; simp at hx'
    exact key _ (Nat.le_refl _) hw h
  · rfl
theorem sub_len : ∀ (l l' : List Nat), l.Nodup → (∀ x ∈ l, x ∈ l') → l.length ≤ l'.length
  | [], _, _, _ => Nat.zero_le _
  | a :: r, l', hd, h => by
    obtain ⟨h1, h2⟩ := List.nodup_cons.1 hd
    have := sub_len r (l'.erase a) h2 (fun x hx => (List.mem_erase_of_ne (fun e => h1 (by rw [← e]; exact hx))).2 (h x (List.mem_cons_of_mem _ hx)))
    rw [List.length_erase_of_mem (h a List.mem_cons_self)] at this
    have := List.length_pos_of_mem (h a List.mem_cons_self)
    simp; omega
/-- when none waits all are over -/
theorem all_over {S : BS} (ok : S.Ok) (h : rdX S S.tl.length = false) : rdS S S.tl.length = S ∧ S.dn.length = S.tl.length ∧ ∀ s, s < 4 → S.h s = -1 := by
  obtain ⟨hw, h3⟩ := rd_all ok _ h
  have hk : ∀ (i : Nat) (T : Tsk), S.tl[i]? = some T → T.m + 1 < T.k := fun i T hT => by
    have e3 := h3 i (List.getElem?_eq_some_iff.1 hT).1
    rw [step_at hT] at e3
    rcases stepT_cases S i T with ⟨t, ht, ⟨h1, e⟩ | ⟨h1, e⟩⟩ | ⟨h1, e⟩ | ⟨h1, e⟩ | ⟨h1, e⟩
    · rw [e] at e3; simp at e3
    · rw [e] at e3; simp at e3
    · rw [e] at e3; simp at e3
    · rw [e] at e3; simp at e3
    · exact h1
  refine ⟨(rd_none ok _ hw).1, Nat.le_antisymm ok.dnlen ?_, fun s hs => ?_⟩
  · have := sub_len (List.range S.tl.length) S.dn List.nodup_range (fun x hx => (ok.dm x).2 ⟨S.tl[x]'(List.mem_range.1 hx), List.getElem?_eq_getElem _, by have := hk x _ (List.getElem?_eq_getElem (List.mem_range.1 hx)); omega⟩)
    simpa using this
  · rcases ok.hr s hs with e | ⟨i, e⟩
    · exact e
    · obtain ⟨T, hT, h1, _⟩ := (ok.hd s hs i).1 e
      have := hk i T hT
      omega
theorem mu_le {S : BS} (ok : S.Ok) : mu S ≤ 192 := by
  have key : ∀ l : List Tsk, (l.map left).sum ≤ 6 * l.length := fun l => by
    induction l with
    | nil => exact Nat.le_refl _
    | cons T r ih =>
      have : left T ≤ 6 := by unfold left; have := T.m4; omega
      simp; omega
  have := key S.tl
  have := ok.t32
  unfold mu; omega
theorem goes_facts {S : BS} (ok : S.Ok) : rdX S S.tl.length = true → rdW S S.tl.length = true ∧ mu (rdS S S.tl.length) + 1 ≤ mu S := fun h => by
  have h1 := goes_on ok h
  have h2 := rd_mu ok S.tl.length
  rw [h1, if_pos rfl] at h2
  exact ⟨h1, h2⟩
set_option maxRecDepth 100000 in
set_option maxHeartbeats 8000000 in
theorem goesOn_walk (pa : Option Addr) (len cap : Nat) (zs : List Int) (A : Option Addr) (cap2 : Nat) (l : List Ac) (w : World) (hu : URow w pa len zs) (h1 : 1 ≤ len) (h2 : len ≤ 32) (h3 : zs.sum ≤ Am.mx) (hsl : RowK.SlAt w 4 Ac.cells A l) (hok : ∀ x ∈ l, x.ok) (hl : l.length ≤ 200) :
    Calls Try.prog 13 #[.slice pa len cap, .slice A l.length cap2] w (Fine w) := by
  have PLAY := Lib.hid (play_lw pa len cap zs A cap2 l w hu h1 h2 h3 hsl hok hl)
  obtain ⟨n, hn⟩ : ∃ n, w.heap.size = n := ⟨_, rfl⟩
  have HN := Lib.hid hn
  rw [hn] at PLAY
  have SH := Lib.hid (fun v => bshown_any v)
  obtain ⟨m, hm⟩ : ∃ m, l.length = m := ⟨_, rfl⟩
  rw [hm] at PLAY hl ⊢
  obtain ⟨S0, hS⟩ : ∃ S, (BS.new len fun i => zs.getD i 0).play l = S := ⟨_, rfl⟩
  rw [hS] at PLAY
  have d1 : decide ((40 : Int) < (len : Int)) = false := by simp; omega
  have d2 : decide ((200 : Int) < (m : Int)) = false := by simp; omega
  clear hu h1 h2 h3 hsl hok hl hm hS
  go_enter Try.func13, Try.ntmps13
  go_wp2_with fail
  refine (SH.out _).mono ?_
  rintro e w1 ⟨rfl, g1⟩
  rw [hn] at g1
  have PL := Lib.hid (PLAY.out _ g1)
  clear g1 PLAY SH hn
  go_wp2_with fail
  refine (PL.out).mono ?_
  rintro e w2 ⟨b, a, c, rfl, lw2⟩
  clear PL
  have LW2 := Lib.hid lw2
  have MU0 := Lib.hid (mu_le lw2.ok)
  obtain ⟨K, hK⟩ : ∃ K, S0.acts.length = K := ⟨_, rfl⟩
  have hK32 : K ≤ 32 := by rw [← hK, acts_len]; exact lw2.ok.t32
  obtain ⟨ow, how⟩ : ∃ ow, OwA (.slice a S0.acts.length c) S0 = ow := ⟨_, rfl⟩
  rw [how] at LW2
  have SK := Lib.hid (show S0.tl.length = K by rw [← hK, acts_len])
  rw [hK]
  clear lw2 hK how
  go_wp2
  go_loopg [9] 300 (fun mm i v => ∃ (r : Nat) (S : BS), mm + r = 300 ∧ i = .int .i64 r ∧ r + mu S ≤ 192 ∧ S.tl.length = K ∧ LW n w b S [] [ow] v)
  case atStart => exact ⟨0, S0, rfl, rfl, by have := MU0.out; omega, SK.out, LW2.out⟩
  case round =>
    clear LW2 MU0 SK
    obtain ⟨r, S, hr, rfl, hmu, hSK, lw⟩ := hrel
    have HR := Lib.hid hr; have HMU := Lib.hid hmu; have HSK := Lib.hid hSK; have LWS := Lib.hid lw
    have OKS := Lib.hid lw.ok
    have c0 : ((r : Nat) : Int) < 300 := by omega
    clear hr hmu hSK lw
    go_wp2
    go_loopg [10, 11, 12] K (fun mm wt xt i v => ∃ j : Nat, mm + j = K ∧ i = .int .i64 j ∧ wt = .bool (rdW S j) ∧ xt = .bool (rdX S j) ∧ LW n w b (rdS S j) [] [ow] v)
    case atStart => exact ⟨0, by omega, rfl, rfl, rfl, LWS.out⟩
    case round =>
      obtain ⟨j, hj, rfl, rfl, rfl, lwj⟩ := hrel
      have HJ := Lib.hid hj
      clear hj
      by_cases hlt : j < K
      · have ST := Lib.hid (lw_step lwj (j : Nat))
        have i1 : ((j : Nat) : Int) < (K : Nat) := by omega
        have eW := Lib.hid (show rdW S (j + 1) = (rdW S j || (((rdS S j).step (j : Int)).2 == 0)) from rfl)
        have eX := Lib.hid (show rdX S (j + 1) = (rdX S j || !(((rdS S j).step (j : Int)).2 == 3)) from rfl)
        have eS := Lib.hid (show rdS S (j + 1) = ((rdS S j).step (j : Int)).1 from rfl)
        clear lwj
        generalize (rdS S j).step (j : Int) = st at *
        obtain ⟨S', es⟩ := st
        have nx : ∀ v (bw bx : Bool), LW n w b S' [] [ow] v → bw = (rdW S j || es == 0) → bx = (rdX S j || !(es == 3)) → ∃ j' : Nat, K - (j + 1) + j' = K ∧ Value.int .i64 ((j : Int) + 1) = .int .i64 j' ∧ Value.bool bw = .bool (rdW S j') ∧ Value.bool bx = .bool (rdX S j') ∧ LW n w b (rdS S j') [] [ow] v := fun v bw bx h1 h2 h3 =>
          ⟨j + 1, by have := HJ.out; omega, by go_num, by rw [eW.out, h2], by rw [eX.out, h3], by rw [eS.out]; exact h1⟩
        have NX := Lib.hid nx
        clear nx eW eX eS
        generalize rdW S j = bw at *
        generalize rdX S j = bx at *
        go_wp2_with fail
        refine (ST.out).mono ?_
        rintro e w3 ⟨rfl, lw3⟩
        have LW3 := Lib.hid lw3
        clear lw3 ST
        simp only
        cases bw <;> cases bx
        all_goals
          by_cases q0 : es = 0
          · subst q0
            go_wp2
            go_roundg (K - (j + 1))
            case measure => have := HJ.out; omega
            case rel => exact NX.out _ _ _ LW3.out rfl rfl
          · have dq0 : (es == 0) = false := by simpa using q0
            by_cases q3 : es = 3
            · subst q3
              go_wp2
              go_roundg (K - (j + 1))
              case measure => have := HJ.out; omega
              case rel => exact NX.out _ _ _ LW3.out rfl rfl
            · have dq3 : (es == 3) = false := by simpa using q3
              go_wp2
              go_roundg (K - (j + 1))
              case measure => have := HJ.out; omega
              case rel => exact NX.out _ _ _ LW3.out (by simp [dq0]) (by simp [bne, dq3])
      · obtain rfl : j = K := by have := HJ.out; omega
        clear hlt LWS
        have GF := Lib.hid (goes_facts OKS.out)
        have AO := Lib.hid (all_over OKS.out)
        rw [HSK.out] at GF AO
        cases hx : rdX S j
        · obtain ⟨e1, e2, e3⟩ := AO.out hx
          rw [e1] at lwj
          have DN := Lib.hid (lw_done lwj)
          have E2 := Lib.hid e2
          have h0 := e3 0 (by decide); have h1 := e3 1 (by decide); have h2 := e3 2 (by decide); have h3 := e3 3 (by decide)
          have g0 : hold S.h 0 = -1 := h0
          have g1 : hold S.h 1 = -1 := h1
          have g2 : hold S.h 2 = -1 := h2
          have g3 : hold S.h 3 = -1 := h3
          have G := Lib.hid (And.intro g0 (And.intro g1 (And.intro g2 g3)))
          clear lwj e1 e2 e3 h0 h1 h2 h3 g0 g1 g2 g3 hx GF AO
          cases hw : rdW S j
          all_goals
            clear hw
            go_wp2_with fail
            refine (DN.out).mono ?_
            rintro e w4 ⟨a4, c4, rfl, lw4⟩
            have H0 := Lib.hid (lw_holder lw4 0); have H1 := Lib.hid (lw_holder lw4 1); have H2 := Lib.hid (lw_holder lw4 2); have H3 := Lib.hid (lw_holder lw4 3)
            rw [G.out.1] at H0
            rw [G.out.2.1] at H1
            rw [G.out.2.2.1] at H2
            rw [G.out.2.2.2] at H3
            have FIN := Lib.hid (fine_of lw4 HN.out)
            rw [E2.out]
            clear lw4
            go_wp2_with fail
            refine (H0.out).mono ?_
            rintro e w5 ⟨rfl, rfl⟩
            go_wp2_with fail
            refine (H1.out).mono ?_
            rintro e w5 ⟨rfl, rfl⟩
            go_wp2_with fail
            refine (H2.out).mono ?_
            rintro e w5 ⟨rfl, rfl⟩
            go_wp2_with fail
            refine (H3.out).mono ?_
            rintro e w5 ⟨rfl, rfl⟩
            go_wp2
            go_ret
            exact FIN.out
        · obtain ⟨e1, e2⟩ := GF.out hx
          rw [e1]
          have E2 := Lib.hid e2; have LWJ := Lib.hid lwj
          have RL := Lib.hid (rd_len S j)
          clear lwj e1 e2 hx GF AO
          go_wp2
          go_roundg (300 - (r + 1))
          case measure => have := HR.out; omega
          case rel => exact ⟨r + 1, rdS S j, by have := HR.out; have := HMU.out; omega, by go_num, by have := HMU.out; have := E2.out; omega, by rw [RL.out]; exact HSK.out, LWJ.out⟩
open Go.ChangeShapes Go.WideShapes in
set_option maxRecDepth 100000 in
theorem walk_ShardGoesOn {H : Type} {enc : TypeId × Value → H} {W : World} {base : Nat} (b0 : Option Addr) (len0 cap0 : Nat) (z0 : List Int) (w0 : RowK.IsRow .u64 W b0 len0 cap0 z0) (v : Value) (d : DataW H) (p : List MemPlace) (hval : Value.okWide Try.prog W .any base 74 v)
    (h : DataW.Trod enc Try.prog W 0 (fun _ => true) true 74 v d p) : Calls Try.prog 13 #[.slice b0 len0 cap0, v] W (Fine W) := by
  obtain ⟨A, cap, l, rfl, h1, h2, h3, h4⟩ := RowK.sl_of_trod Ac.cells Ac.ok Try.underlying74 (size := 4) (by kernel_rfl) (by decide) act_of_trod84 hval h
  have hu := urow_of w0
  by_cases hm : 40 < len0 ∨ 200 < l.length
  · exact goesOn_many b0 len0 cap0 A l.length cap W hm
  · by_cases hb : len0 < 1 ∨ 32 < len0 ∨ ¬ (z0.take len0).sum ≤ Am.mx
    · exact goesOn_none b0 len0 cap0 _ A l.length cap W hu (by omega) (by omega) hb
    · exact goesOn_walk b0 len0 cap0 _ A cap l W hu (by omega) (by omega) (Decidable.not_not.1 fun h => hb (.inr (.inr h))) h4 h3 (by omega)
end Go.Proofs.Ytnnnbgndbmcffaa
