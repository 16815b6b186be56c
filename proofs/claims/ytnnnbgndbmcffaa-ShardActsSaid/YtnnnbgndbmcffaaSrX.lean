/- ShardLists: each list comes to the same; plain words, and the walk; the condition is that the rows are known. -/
import Derived.Test.YtnnnbgndbmcffaaSrW
namespace Go.Proofs.Ytnnnbgndbmcffaa
open Go.RowKit
set_option linter.unusedVariables false

/-- balances that come to a total -/
def Whole (n : Nat) (f : Nat → Int) (tot : Int) : Prop := (∀ i, 0 ≤ f i) ∧ sumB f n = tot
/-- so do a bank's, and each list that was told -/
structure Good (S : BS) (tot : Int) : Prop where
  wh : Whole S.n S.f tot
  li : ∀ (i : Nat) (T : Tsk), S.tl[i]? = some T → T.lists = true → T.m < T.k → ∃ g, Whole S.n g tot ∧ T.told = (List.range S.n).map g
theorem mov_whole {n : Nat} {f : Nat → Int} {tot : Int} (h : Whole n f tot) {a b x : Int} (hx : 0 ≤ x) (hE : movE n f a b x = 0) : Whole n (movF f a.toNat b.toNat x) tot := by
  unfold movE at hE
  cases ha : inP n a
  · rw [ha] at hE; cases hE
  · cases hb : inP n b
    · rw [ha, hb] at hE; cases hE
    · rw [ha, hb, if_pos (by rfl)] at hE
      obtain ⟨i, hi, rfl⟩ := in_of ha
      obtain ⟨j, hj, rfl⟩ := in_of hb
      rw [Int.toNat_natCast] at hE
      by_cases e0 : x = 0
      · rw [if_pos e0] at hE; cases hE
      · rw [if_neg e0] at hE
        by_cases e2 : f i < x
        · rw [if_pos e2] at hE; cases hE
        · rw [Int.toNat_natCast, Int.toNat_natCast]
          refine ⟨fun k => ?_, ?_⟩
          · unfold movF
            by_cases k2 : k = j
            · subst k2
              rw [upF_same]
              by_cases k1 : k = i
              · subst k1; rw [upF_same]; have := h.1 k; omega
              · rw [upF_ne _ k1]; have := h.1 k; omega
            · rw [upF_ne _ k2]
              by_cases k1 : k = i
              · subst k1; rw [upF_same]; omega
              · rw [upF_ne _ k1]; exact h.1 k
          · unfold movF
            rw [sumB_up, if_pos hj, sumB_up, if_pos hi]
            have := h.2
            omega
theorem good_act {S : BS} {tot : Int} (ok : S.Ok) (h : Good S tot) {i : Nat} {T : Tsk} (hT : S.tl[i]? = some T) (hk : T.k = T.m) : Good (S.act i T) tot := by
  unfold BS.act
  split
  · rename_i hl
    refine ⟨h.wh, fun j X hX hXl hXk => ?_⟩
    have hX : (S.tl.set i _)[j]? = some X := hX
    rw [set_get hT] at hX
    split at hX
    · cases hX; exact ⟨S.f, h.wh, rfl⟩
    · exact h.li j X hX hXl hXk
  · rename_i hl
    have hl : T.lists = false := by simpa using hl
    obtain ⟨_, _, ham, _⟩ := ok.ra i T hT hl
    refine ⟨?_, fun j X hX hXl hXk => ?_⟩
    · by_cases hE : movE S.n S.f T.fr T.to T.am = 0
      · show Whole S.n (if movE S.n S.f T.fr T.to T.am = 0 then _ else S.f) tot
        rw [if_pos hE]; exact mov_whole h.wh ham hE
      · show Whole S.n (if movE S.n S.f T.fr T.to T.am = 0 then _ else S.f) tot
        rw [if_neg hE]; exact h.wh
    · have hX : (S.tl.set i _)[j]? = some X := hX
      rw [set_get hT] at hX
      split at hX
      · cases hX
        have : T.lists = true := hXl
        rw [hl] at this; cases this
      · exact h.li j X hX hXl hXk
theorem good_put {S : BS} {tot : Int} (h : Good S tot) {i : Nat} {T : Tsk} (hT : S.tl[i]? = some T) (h' : Nat → Int) (hk : T.m < T.k ∨ T.k + 1 ≤ T.m) : Good { S with h := h', tl := S.tl.set i T.next } tot := by
  refine ⟨h.wh, fun j X hX hXl hXk => ?_⟩
  have hX : (S.tl.set i _)[j]? = some X := hX
  rw [set_get hT] at hX
  split at hX
  · cases hX
    have h1 : T.m < T.k + 1 := hXk
    rcases hk with h2 | h2
    · exact h.li i T hT hXl h2
    · omega
  · exact h.li j X hX hXl hXk
theorem good_step {S : BS} {tot : Int} (ok : S.Ok) (h : Good S tot) (x : Int) : Good (S.step x).1 tot := by
  unfold BS.step
  split
  · cases hX : S.tl[x.toNat]? with
    | none => exact h
    | some X =>
      show Good (S.stepT x.toNat X).1 tot
      rcases stepT_cases S x.toNat X with ⟨t, ht, ⟨h1, e1⟩ | ⟨h1, e1⟩⟩ | ⟨h1, e1⟩ | ⟨h1, e1⟩ | ⟨h1, e1⟩
      · rw [e1]
        have : X.k < X.m := (List.getElem?_eq_some_iff.1 ht).1
        exact good_put h hX _ (.inr (by omega))
      · rw [e1]; exact h
      · rw [e1]; exact good_act ok h hX h1
      · rw [e1]; exact good_put h hX _ (.inl (by omega))
      · rw [e1]; exact h
  · exact h
theorem good_begin {S : BS} {tot : Int} (h : Good S tot) (X : Tsk) (h0 : X.k = 0) : Good (S.begin X).1 tot := by
  unfold BS.begin
  split
  · exact h
  · refine ⟨h.wh, fun j T hT hl hk => ?_⟩
    have hT : (S.tl ++ [X])[j]? = some T := hT
    rw [List.getElem?_append] at hT
    split at hT
    · exact h.li j T hT hl hk
    · have : T = X := by
        have := List.mem_of_getElem? hT
        simpa using this
      subst this
      omega
theorem good_do {S : BS} {tot : Int} (ok : S.Ok) (h : Good S tot) (x : Ac) : Good (S.doA x) tot := by
  unfold BS.doA
  split
  · unfold BS.start
    split
    · exact good_begin h _ rfl
    · exact h
  · split
    · exact good_begin h _ rfl
    · exact good_step ok h _
theorem do_ok {S : BS} (ok : S.Ok) {x : Ac} (hx : x.ok) : (S.doA x).Ok := by
  unfold BS.doA
  split
  · exact ok.start _ _ _ hx.n0
  · split
    · exact ok.list
    · exact ok.step _
theorem play_ok {S : BS} (ok : S.Ok) : ∀ (l : List Ac), (∀ x ∈ l, x.ok) → (S.play l).Ok := fun l => by
  unfold BS.play
  induction l generalizing S with
  | nil => exact fun _ => ok
  | cons x r ih => exact fun h => ih (do_ok ok (h x List.mem_cons_self)) (fun y hy => h y (List.mem_cons_of_mem _ hy))
theorem play_good {S : BS} {tot : Int} (ok : S.Ok) (h : Good S tot) : ∀ (l : List Ac), (∀ x ∈ l, x.ok) → Good (S.play l) tot := fun l => by
  unfold BS.play
  induction l generalizing S with
  | nil => exact fun _ => h
  | cons x r ih => exact fun hh => ih (do_ok ok (hh x List.mem_cons_self)) (good_do ok h x) (fun y hy => hh y (List.mem_cons_of_mem _ hy))
theorem play_n (S : BS) : ∀ (l : List Ac), (S.play l).n = S.n := fun l => by
  have st : ∀ (S : BS) (x : Ac), (S.doA x).n = S.n := fun S x => by
    unfold BS.doA BS.start BS.list BS.begin BS.step BS.stepT BS.act
    repeat' split
    all_goals rfl
  unfold BS.play
  induction l generalizing S with
  | nil => rfl
  | cons x r ih => exact (ih _).trans (st S x)
theorem toldOf_at {S : BS} {k : Nat} {T : Tsk} (hT : S.tl[k]? = some T) : S.toldOf (k : Int) = T.told := by unfold BS.toldOf; rw [if_pos (by omega), Int.toNat_natCast, hT]
set_option maxRecDepth 100000 in
set_option maxHeartbeats 16000000 in
theorem lists_walk (pa : Option Addr) (len cap : Nat) (zs : List Int) (A : Option Addr) (cap2 : Nat) (l : List Ac) (w : World) (hu : URow w pa len zs) (h1 : 1 ≤ len) (h2 : len ≤ 32) (h3 : zs.sum ≤ Am.mx) (hsl : RowK.SlAt w 4 Ac.cells A l) (hok : ∀ x ∈ l, x.ok) (hl : l.length ≤ 200) :
    Calls Try.prog 17 #[.slice pa len cap, .slice A l.length cap2] w (Fine w) := by
  have PLAY := Lib.hid (play_lw pa len cap zs A cap2 l w hu h1 h2 h3 hsl hok hl)
  obtain ⟨n, hn⟩ : ∃ n, w.heap.size = n := ⟨_, rfl⟩
  have HN := Lib.hid hn
  rw [hn] at PLAY
  have SH := Lib.hid (fun v => bshown_any v)
  have cell : ∃ bb off, pa = some ⟨bb, off, none⟩ ∧ ∀ v, Below n w v → ∀ j, j < len → v.cell? ⟨bb, off + j, none⟩ = some (.int .u64 (zs.getD j 0)) := by
    obtain ⟨bb, off, hp, hc⟩ := hu.cells
    refine ⟨bb, off, hp.resolve_left (by omega), fun v hv j hj => ?_⟩
    rw [hv.cell (p := ⟨bb, off + j, none⟩) (by rw [← hn]; exact World.block_lt_of_cell? w _ (hc j hj)), hc j hj]
  obtain ⟨bb, off, rfl, cell⟩ := cell
  obtain ⟨m, hm⟩ : ∃ m, l.length = m := ⟨_, rfl⟩
  rw [hm] at PLAY hl ⊢
  have htot : sumB (fun i => zs.getD i 0) len = zs.sum := by have := sumB_list zs; rwa [hu.lens] at this
  have hpos : ∀ i, 0 ≤ zs.getD i 0 := fun i => by
    rw [List.getD_eq_getElem?_getD]
    cases hz : zs[i]? with
    | none => exact Int.le_refl _
    | some z => exact (hu.fits z (List.mem_of_getElem? hz)).1
  obtain ⟨f, hf⟩ : ∃ f : Nat → Int, (fun i => zs.getD i 0) = f := ⟨_, rfl⟩
  have hfz : ∀ j, zs.getD j 0 = f j := fun j => congrFun hf j
  simp only [hfz] at cell hpos
  rw [hf] at PLAY htot
  obtain ⟨S, hS⟩ : ∃ S, (BS.new len f).play l = S := ⟨_, rfl⟩
  have hgood : Good S (sumB f len) := by
    rw [← hS]
    exact play_good (BS.Ok.new h2) ⟨⟨hpos, rfl⟩, fun i T hT => by simp [BS.new] at hT⟩ l hok
  have hSn : S.n = len := by rw [← hS]; exact play_n _ _
  rw [hS] at PLAY
  have hmx : sumB f len ≤ 1125899906842624 := by rw [htot]; exact h3
  have bb2 : ∀ g : Nat → Int, Whole len g (sumB f len) → ∀ k, k ≤ len → 0 ≤ sumB g k ∧ sumB g k ≤ 1125899906842624 := fun g hg k hk => ⟨sumB_nonneg hg.1 k, Int.le_trans (sumB_mono hg.1 len k hk) (by rw [hg.2]; exact hmx)⟩
  have st : ∀ (g : Nat → Int) k, sumB g (k + 1) = sumB g k + g k := fun g k => rfl
  have WF := Lib.hid (show Whole len f (sumB f len) from ⟨hpos, rfl⟩)
  have d1 : decide ((40 : Int) < (len : Int)) = false := by simp; omega
  have d2 : decide ((200 : Int) < (m : Int)) = false := by simp; omega
  have CELL := Lib.hid cell; have BB := Lib.hid bb2; have ST := Lib.hid st; have GOOD := Lib.hid hgood; have HSN := Lib.hid hSn
  obtain ⟨tot, htt⟩ : ∃ tot, sumB f len = tot := ⟨_, rfl⟩
  rw [htt] at BB GOOD WF
  have HTT := Lib.hid htt
  have len40 : len ≤ 32 := h2
  clear hu h1 h2 h3 hsl hok hl hm hS cell hf hfz htot hpos hmx bb2 st hgood hSn htt
  go_enter Try.func17, Try.ntmps17
  go_wp2_with fail
  refine (SH.out _).mono ?_
  rintro e w1 ⟨rfl, g1⟩
  rw [hn] at g1
  have PL := Lib.hid (PLAY.out _ g1)
  clear g1 PLAY SH hn
  go_wp2_with fail
  refine (PL.out).mono ?_
  rintro e w2 ⟨b, a, c, rfl, lw2⟩
  clear PL
  have LW2 := Lib.hid lw2
  have AL := Lib.hid (acts_len S)
  obtain ⟨K, hK⟩ : ∃ K, S.acts.length = K := ⟨_, rfl⟩
  have hK32 : K ≤ 32 := by rw [← hK, acts_len]; exact lw2.ok.t32
  have HK := Lib.hid hK
  rw [hK]
  clear lw2 hK
  obtain ⟨wo, rfl⟩ : ∃ wo : World, wo = w2 := ⟨_, rfl⟩
  go_wp2
  go_loopg [9, 10] len (fun mm s i v => ∃ j : Nat, mm + j = len ∧ i = .int .i64 j ∧ s = .int .u64 (sumB f j) ∧ v = wo)
  case atStart => exact ⟨0, by omega, rfl, rfl, rfl⟩
  case round =>
    obtain ⟨j, hj, rfl, rfl, rfl⟩ := hrel
    have HJ := Lib.hid hj
    clear hj
    by_cases hjl : j < len
    · have cb := CELL.out _ LW2.out.bel j hjl
      have b1 := BB.out f WF.out j (by omega)
      have b2 := BB.out f WF.out (j + 1) hjl
      rw [ST.out] at b2
      have S1 := Lib.hid (ST.out f j)
      generalize sumB f j = sj at *
      generalize f j = y at *
      have qw : IntKind.u64.wrap (sj + y) = sj + y := u64_in _ (by omega)
      have i1 : ((j : Nat) : Int) < (len : Nat) := by omega
      go_wp2
      go_roundg (len - (j + 1))
      case measure => have := HJ.out; omega
      case rel => exact ⟨j + 1, by have := HJ.out; omega, by go_num, by rw [S1.out], rfl⟩
    · obtain rfl : len = j := by have := HJ.out; omega
      rw [HTT.out]
      clear hjl
      have LWK := Lib.hid (show LW n w b S [] [OwA (.slice a K c) S] wr from by have := LW2.out; rw [HK.out] at this; exact this)
      clear LW2
      go_wp2
      go_loopg [11] K (fun mm i v => ∃ k : Nat, mm + k = K ∧ i = .int .i64 k ∧ LW n w b S [] [OwA (.slice a K c) S] v)
      case atStart => exact ⟨0, by omega, rfl, LWK.out⟩
      case round =>
        clear LWK
        obtain ⟨k, hk, rfl, lw⟩ := hrel
        have HKK := Lib.hid hk
        clear hk
        by_cases hlt : k < K
        · obtain ⟨T, hT⟩ : ∃ T, S.tl[k]? = some T := ⟨_, List.getElem?_eq_getElem (by have := AL.out; have := HK.out; omega)⟩
          have hx : S.acts[k]? = some (actOf T) := by unfold BS.acts; rw [List.getElem?_map, hT]; rfl
          have ok := lw.ok
          have hra := ok.ra k T hT
          have hgl := GOOD.out.li k T hT
          rw [HSN.out] at hgl
          have hown : OwA (.slice a S.acts.length c) S ∈ [OwA (.slice a K c) S] := by rw [HK.out]; exact List.mem_cons_self
          obtain ⟨g, rfl, hc⟩ := lw.act hown hx
          have RES := Lib.hid (lw_result lw (k : Nat))
          have TOL := Lib.hid (lw_told lw (k : Nat))
          rw [res_at hT] at RES
          rw [toldOf_at hT] at TOL
          have c1 := hc 1 (by decide)
          have LWK := Lib.hid lw
          have i1 : ((k : Nat) : Int) < (K : Nat) := by omega
          have i0 : (0 : Int) ≤ (k : Nat) := by omega
          have HLT := Lib.hid hlt
          clear hT hx ok lw hc hown
          cases hl : T.lists
          · have hA : (actOf T).cells[1]? = some (.int .i64 T.fr) := by unfold actOf; rw [hl]; rfl
            rw [hA] at c1
            have f0 := (hra hl).1.1
            have d0 : decide (0 ≤ T.fr) = true := by simpa using f0
            generalize T.fr = fr at *
            generalize (if T.m < T.k then (T.er, true) else (0, false)) = r at *
            obtain ⟨r1, r2⟩ := r
            clear hA hgl hra hl TOL
            go_wp2_with fail
            refine (RES.out).mono ?_
            rintro e w3 ⟨rfl, rfl⟩
            clear RES
            simp only
            go_wp2
            go_roundg (K - (k + 1))
            case measure => have := HKK.out; omega
            case rel => exact ⟨k + 1, by have := HLT.out; omega, by go_num, LWK.out⟩
          · have hA : (actOf T).cells[1]? = some (.int .i64 (-1)) := by unfold actOf; rw [hl]; rfl
            rw [hA] at c1
            clear hA hra
            by_cases hac : T.m < T.k
            · obtain ⟨gg, hw, ht⟩ := hgl hl hac
              rw [if_pos hac] at RES
              rw [ht] at TOL
              have LEN := Lib.hid (show ((List.range len).map gg).length = len by simp)
              have GET := Lib.hid (fun j (hj : j < len) => (show (((List.range len).map gg).map (Value.int .u64))[j]? = some (.int .u64 (gg j)) by simp [hj]))
              rw [LEN.out] at TOL
              have HW := Lib.hid hw
              generalize T.er = er at *
              generalize ((List.range len).map gg).map (Value.int .u64) = xs at *
              clear hgl hac hl ht hw
              go_wp2_with fail
              refine (RES.out).mono ?_
              rintro e w3 ⟨rfl, rfl⟩
              clear RES
              go_wp2_with fail
              refine (TOL.out).mono ?_
              rintro e w4 ⟨ta, tc, rfl, lw4⟩
              have LW4 := Lib.hid lw4
              clear TOL LWK lw4 c1
              obtain ⟨wq, rfl⟩ : ∃ wq : World, wq = w4 := ⟨_, rfl⟩
              go_wp2
              go_loopg [15, 16] len (fun mm s i v => ∃ j : Nat, mm + j = len ∧ i = .int .i64 j ∧ s = .int .u64 (sumB gg j) ∧ v = wq)
              case atStart => exact ⟨0, by omega, rfl, rfl, rfl⟩
              case round =>
                obtain ⟨j, hj, rfl, rfl, rfl⟩ := hrel
                have HJ := Lib.hid hj
                clear hj
                by_cases hjl : j < len
                · obtain ⟨g2, hg2, cy⟩ := LW4.out.elem List.mem_cons_self rfl (GET.out j hjl)
                  subst hg2
                  have b1 := BB.out gg HW.out j (by omega)
                  have b2 := BB.out gg HW.out (j + 1) hjl
                  rw [ST.out] at b2
                  have S1 := Lib.hid (ST.out gg j)
                  generalize sumB gg j = sj at *
                  generalize gg j = y at *
                  have qw : IntKind.u64.wrap (sj + y) = sj + y := u64_in _ (by omega)
                  have i1 : ((j : Nat) : Int) < (len : Nat) := by omega
                  go_wp2
                  go_roundg (len - (j + 1))
                  case measure => have := HJ.out; omega
                  case rel => exact ⟨j + 1, by have := HJ.out; omega, by go_num, by rw [S1.out], rfl⟩
                · obtain rfl : j = len := by have := HJ.out; omega
                  rw [HW.out.2]
                  have LW5 := Lib.hid (LW4.out.sub (L' := []) (O' := [OwA (.slice (some ⟨g, 0, none⟩) K c) S]) (fun x hx => hx) (fun o ho => List.mem_cons_of_mem _ ho))
                  clear hjl LW4
                  go_wp2
                  go_roundg (K - (k + 1))
                  case measure => have := HKK.out; omega
                  case rel => exact ⟨k + 1, by have := HLT.out; omega, by go_num, LW5.out⟩
            · rw [if_neg hac] at RES
              clear hgl hac hl TOL
              go_wp2_with fail
              refine (RES.out).mono ?_
              rintro e w3 ⟨rfl, rfl⟩
              clear RES
              go_wp2
              go_roundg (K - (k + 1))
              case measure => have := HKK.out; omega
              case rel => exact ⟨k + 1, by have := HLT.out; omega, by go_num, LWK.out⟩
        · obtain rfl : k = K := by have := HKK.out; omega
          have FIN := Lib.hid (fine_of lw HN.out)
          clear lw hlt
          go_wp2
          go_ret
          exact FIN.out
open Go.ChangeShapes Go.WideShapes in
set_option maxRecDepth 100000 in
theorem walk_ShardLists {H : Type} {enc : TypeId × Value → H} {W : World} {base : Nat} (b0 : Option Addr) (len0 cap0 : Nat) (z0 : List Int) (w0 : RowK.IsRow .u64 W b0 len0 cap0 z0) (v : Value) (d : DataW H) (p : List MemPlace) (hval : Value.okWide Try.prog W .any base 74 v)
    (h : DataW.Trod enc Try.prog W 0 (fun _ => true) true 74 v d p) : Calls Try.prog 17 #[.slice b0 len0 cap0, v] W (Fine W) := by
  obtain ⟨A, cap, l, rfl, h1, h2, h3, h4⟩ := RowK.sl_of_trod Ac.cells Ac.ok Try.underlying74 (size := 4) (by kernel_rfl) (by decide) act_of_trod84 hval h
  have hu := urow_of w0
  by_cases hm : 40 < len0 ∨ 200 < l.length
  · exact lists_many b0 len0 cap0 A l.length cap W hm
  · by_cases hb : len0 < 1 ∨ 32 < len0 ∨ ¬ (z0.take len0).sum ≤ Am.mx
    · exact lists_none b0 len0 cap0 _ A l.length cap W hu (by omega) (by omega) hb
    · exact lists_walk b0 len0 cap0 _ A cap l W hu (by omega) (by omega) (Decidable.not_not.1 fun h => hb (.inr (.inr h))) h4 h3 (by omega)
end Go.Proofs.Ytnnnbgndbmcffaa
