/- The walk of WireLengths; no conditions. -/
import Derived.Test.YtiilgkhndfnkgaaWiW
namespace Go.Proofs.Ytiilgkhndfnkgaa
open Go.RowKit Go.Shelf
set_option linter.unusedVariables false

def wid : Fld → Nat
  | .chan => 4
  | .id => 8
  | .amount => 8
  | .hash => 32
  | .expiry => 4
  | .number => 2
theorem numB_len {n : Int} {wd : Nat} (h1 : 1 ≤ wd) (h8 : wd ≤ 8) (h0 : 0 ≤ n) (h : n < 2 ^ (8 * (wd : Int)).toNat) : (numB n (wd : Int)).length = wd := by
  unfold numB
  rw [if_neg]
  · simp [top]
  · rintro (q | q | q)
    · omega
    · omega
    · exact q (Int.ediv_eq_zero_of_lt h0 h)
theorem fb_size (m : Msg) (ho : m.ok) (ft : Fits m) (f : Fld) : (fbytes m f).size = wid f := by
  have e0 := ft.e0; have e1 := ft.e1; have n0 := ft.n0; have n1 := ft.n1
  cases f
  all_goals (simp only [fbytes]; rw [str_size])
  · exact numB_len (wd := 4) (by decide) (by decide) ho.c0 (by have := ho.c1; show m.chan < 4294967296; omega)
  · exact numB_len (wd := 8) (by decide) (by decide) ho.i0 (by have := ho.i1; show m.id < 18446744073709551616; omega)
  · exact numB_len (wd := 8) (by decide) (by decide) ho.a0 (by have := ho.a1; show m.amount < 18446744073709551616; omega)
  · exact ho.h32
  · exact numB_len (wd := 4) (by decide) (by decide) e0 (by show m.expiry < 4294967296; omega)
  · exact numB_len (wd := 2) (by decide) (by decide) n0 (by show m.number < 65536; omega)
theorem cat_size (m : Msg) (ho : m.ok) (ft : Fits m) : ∀ (fl : List Fld) (s : ByteArray), (cat m s fl).size = s.size + (fl.map wid).sum
  | [], s => rfl
  | f :: r, s => by
    show (cat m (s ++ fbytes m f) r).size = _
    rw [cat_size m ho ft r, ByteArray.size_append, fb_size m ho ft]
    simp; omega
theorem cat_pre (m : Msg) : ∀ (fl : List Fld) (s : ByteArray), ∃ t, (cat m s fl).data.toList = s.data.toList ++ t
  | [], s => ⟨[], by simp [cat]⟩
  | f :: r, s => by
    obtain ⟨t, ht⟩ := cat_pre m r (s ++ fbytes m f)
    exact ⟨(fbytes m f).data.toList ++ t, by show (cat m (s ++ fbytes m f) r).data.toList = _; rw [ht]; simp [ByteArray.data_append]⟩
theorem kind_cases {m : Msg} {fl : List Fld} (h : fieldsOf m.kind = some fl) : ∃ k : Nat, m.kind = (k : Int) ∧ 1 ≤ k ∧ k ≤ 9 := by
  have := may_kind h
  obtain ⟨k, hk⟩ := Int.eq_ofNat_of_zero_le (show 0 ≤ m.kind by omega)
  exact ⟨k, hk, by omega, by omega⟩
theorem kindB_list {m : Msg} {k : Nat} (h : m.kind = (k : Int)) (h9 : k ≤ 9) : (kindB m).data.toList = [UInt8.ofNat k] := by
  unfold kindB
  rw [h]
  match k, h9 with
  | 0, _ => rfl
  | 1, _ => rfl
  | 2, _ => rfl
  | 3, _ => rfl
  | 4, _ => rfl
  | 5, _ => rfl
  | 6, _ => rfl
  | 7, _ => rfl
  | 8, _ => rfl
  | 9, _ => rfl
def lenT : Array Value := #[.int .i64 0, .int .i64 13, .int .i64 5, .int .i64 57, .int .i64 45, .int .i64 15, .int .i64 39, .int .i64 39, .int .i64 5, .int .i64 15]
theorem enc_len {m : Msg} {fl : List Fld} {k : Nat} (ho : m.ok) (hf : fieldsOf m.kind = some fl) (hm : MayP m fl) (hk : m.kind = (k : Int)) (h1 : 1 ≤ k) (h9 : k ≤ 9) : lenT[k]? = some (.int .i64 ((encB m fl).size : Nat)) := by
  have ks : (kindB m).size = 1 := by
    have := kindB_list hk h9
    have h2 : (kindB m).data.toList.length = 1 := by rw [this]; rfl
    rwa [Array.length_toList] at h2
  have hs := cat_size m ho ⟨hm.e0, hm.e1, hm.n0, hm.n1⟩ fl (kindB m)
  rw [ks] at hs
  unfold encB
  rw [hs]
  rw [hk] at hf
  match k, h1, h9 with
  | 1, _, _ => obtain rfl := Option.some.inj hf; rfl
  | 2, _, _ => obtain rfl := Option.some.inj hf; rfl
  | 3, _, _ => obtain rfl := Option.some.inj hf; rfl
  | 4, _, _ => obtain rfl := Option.some.inj hf; rfl
  | 5, _, _ => obtain rfl := Option.some.inj hf; rfl
  | 6, _, _ => obtain rfl := Option.some.inj hf; rfl
  | 7, _, _ => obtain rfl := Option.some.inj hf; rfl
  | 8, _, _ => obtain rfl := Option.some.inj hf; rfl
  | 9, _, _ => obtain rfl := Option.some.inj hf; rfl
theorem enc_first {m : Msg} {fl : List Fld} {k : Nat} (hk : m.kind = (k : Int)) (h9 : k ≤ 9) : ∃ h : 0 < (encB m fl).size, (((encB m fl)[0]'h).toNat : Int) = (k : Int) := by
  obtain ⟨t, ht⟩ := cat_pre m fl (kindB m)
  rw [kindB_list hk h9] at ht
  have h : 0 < (encB m fl).size := by
    have : (encB m fl).data.toList.length = _ := congrArg List.length ht
    rw [Array.length_toList] at this
    show 0 < (encB m fl).data.size
    rw [this]; simp
  refine ⟨h, ?_⟩
  have h2 := index_byte (encB m fl) 0 h
  have h3 : (encB m fl).data.toList[0]? = some (UInt8.ofNat k) := by show (cat m (kindB m) fl).data.toList[0]? = _; rw [ht]; rfl
  rw [h3] at h2
  rw [← Option.some.inj h2]
  have : (UInt8.ofNat k).toNat = k := by rw [UInt8.toNat_ofNat']; omega
  rw [this]
set_option maxRecDepth 100000 in
set_option maxHeartbeats 4000000 in
theorem lengths_no (m : Msg) (ho : m.ok) (hm : ¬ May m) (w : World) : Calls Try.prog 12 #[.agg m.row] w (WFine w) := by
  obtain ⟨n, hn⟩ : ∃ n, w.heap.size = n := ⟨_, rfl⟩
  obtain ⟨V, hV⟩ : ∃ V, w.alloc (.cells m.row 62) = V := ⟨_, rfl⟩
  have rV : M.RowAt V n 62 m.row := by rw [← hV, ← hn]; exact M.RowAt.new w 62 _
  have bV : Below n w V := by rw [← hV, ← hn]; exact (Below.refl _ w).alloc (Nat.le_refl _) _
  have sV : V.heap.size = n + 1 := by rw [← hV]; simp [hn]
  have en := enc_no m ho hm V
  have iX := Msg.info ho.h32
  have HN := Lib.hid hn; have HV := Lib.hid hV; have BV := Lib.hid bV; have SV := Lib.hid sV; have EN := Lib.hid en
  have SH := Lib.hid (fun x => wshown_any x)
  unfold WFine
  rw [hn]
  clear en bV sV hV hn hm ho
  generalize m.row = R at *
  go_enter Try.func12, Try.ntmps12
  go_wp2_with (first | (rw [HN.out, HV.out]) | (refine wpList_load_row (x := .tmp 1) (ty := 62) (g := n) (cs := R) (t := 62) (fr := (0, 0)) ?_ ?_ ?_ _ rV Try.underlying62 rfl iX ?_; rfl; rfl; rfl) | fail)
  refine (EN.out).mono ?_
  rintro e w1 ⟨rfl, b1⟩
  have BB1 := Lib.hid (BV.out.trans (b1.mono (by have := SV.out; omega)))
  have ZZ1 := Lib.hid (show n ≤ w1.heap.size by have := SV.out; have := b1.size; omega)
  clear b1 rV
  go_wp2_with fail
  refine (SH.out _).mono ?_
  rintro e w2 ⟨rfl, b2⟩
  have BB2 := Lib.hid (BB1.out.trans (b2.mono ZZ1.out))
  clear b2
  go_wp2
  go_ret
  exact ⟨rfl, BB2.out⟩
structure LC (n g : Nat) (w : World) (R : Array Value) (x : World) : Prop where
  r : M.RowAt x n 62 R
  t : M.RowAt x g 73 lenT
  b : Below n w x
theorem LC.same {n g : Nat} {w x x' : World} {R : Array Value} (h : LC n g w R x) (hb : Below x.heap.size x x') : LC n g w R x' := ⟨h.r.call hb, h.t.call hb, h.b.trans (hb.mono (Nat.le_of_lt h.r.lt))⟩
set_option maxRecDepth 100000 in
set_option maxHeartbeats 4000000 in
theorem lengths_yes (m : Msg) (ho : m.ok) (fl : List Fld) (hf : fieldsOf m.kind = some fl) (hm : MayP m fl) (w : World) : Calls Try.prog 12 #[.agg m.row] w (WFine w) := by
  obtain ⟨n, hn⟩ : ∃ n, w.heap.size = n := ⟨_, rfl⟩
  obtain ⟨V, hV⟩ : ∃ V, w.alloc (.cells m.row 62) = V := ⟨_, rfl⟩
  have rV : M.RowAt V n 62 m.row := by rw [← hV, ← hn]; exact M.RowAt.new w 62 _
  have bV : Below n w V := by rw [← hV, ← hn]; exact (Below.refl _ w).alloc (Nat.le_refl _) _
  have sV : V.heap.size = n + 1 := by rw [← hV]; simp [hn]
  have en := enc_yes m ho fl hf hm V
  have iX := Msg.info ho.h32
  obtain ⟨k, hk, k1, k9⟩ := kind_cases hf
  have el := enc_len ho hf hm hk k1 k9
  obtain ⟨hp, ef⟩ := enc_first (fl := fl) hk k9
  have ck := fun (x : World) (h : M.RowAt x n 62 m.row) => ((h.cell 0).trans Msg.g0).trans (by rw [hk] : some (Value.int .i64 m.kind) = some (.int .i64 (k : Nat)))
  obtain ⟨E, hE⟩ : ∃ E, encB m fl = E := ⟨_, rfl⟩
  rw [hE] at en el
  have hp' : 0 < E.size := hE ▸ hp
  obtain ⟨u, hu⟩ : ∃ u, E[0]'hp' = u := ⟨_, rfl⟩
  have hu2 : (u.toNat : Int) = (k : Int) := by rw [← hu, ← ef]; congr 2; subst hE; rfl
  have ct := fun (x : World) (g : Nat) (h : M.RowAt x g 73 lenT) => (h.cell k).trans el
  have i1 : (0 : Int) ≤ (k : Nat) := by omega
  have i2 : ((k : Nat) : Int) < 10 := by omega
  have i3 : (0 : Int) < (E.size : Nat) := by omega
  have cw : IntKind.u8.wrap ((k : Nat) : Int) = ((k : Nat) : Int) := by rw [IntKind.wrap_u8]; omega
  have cmp : (((u.toNat : Nat) : Int) == ((k : Nat) : Int)) = true := by simpa using hu2
  have HN := Lib.hid hn; have HV := Lib.hid hV; have BV := Lib.hid bV; have SV := Lib.hid sV; have EN := Lib.hid en; have RV := Lib.hid rV
  have SH := Lib.hid (fun x => wshown_any x); have CK := Lib.hid ck; have CT := Lib.hid ct
  unfold WFine
  rw [hn]
  clear en bV sV hV hn hm ho hf el ef hp ck ct hE hk k1 k9 hu2
  generalize m.row = R at *
  go_enter Try.func12, Try.ntmps12
  go_wp2_with (first | (rw [HN.out, HV.out]) | (refine wpList_load_row (x := .tmp 1) (ty := 62) (g := n) (cs := R) (t := 62) (fr := (0, 0)) ?_ ?_ ?_ _ rV Try.underlying62 rfl iX ?_; rfl; rfl; rfl) | fail)
  refine (EN.out).mono ?_
  rintro e w1 ⟨rfl, b1⟩
  obtain ⟨g, hg⟩ : ∃ g, w1.heap.size = g := ⟨_, rfl⟩
  obtain ⟨X, hX⟩ : ∃ X, w1.alloc (.cells lenT 73) = X := ⟨_, rfl⟩
  have B1 := BV.out.trans (b1.mono (by have := SV.out; omega))
  have lc : LC n g w R X := ⟨by rw [← hX]; exact (RV.out.call b1).alloc _, by rw [← hX, ← hg]; exact M.RowAt.new w1 73 _, by rw [← hX]; exact B1.alloc (by have := SV.out; have := b1.size; omega) _⟩
  unfold lenT at hX
  have HG := Lib.hid hg; have HX := Lib.hid hX; have LX := Lib.hid lc
  clear b1 rV hg hX B1 lc
  go_wp2_with (first | (rw [HG.out, HX.out]) | fail)
  refine QP.wp_region_p 16 (LC n g w R) (LC n g w R) (by kernel_rfl) (by kernel_rfl) (LX.out.same (Below.refl _ _).drew) ?_
  iterate 19
    (refine QP.wpQ_step (fun K hK => ?_)
     go_simp
     first
       | (refine hK _ ?_; clear hK K)
       | (refine ⟨?_, hK _ ?_⟩; decide; clear hK K)
       | ((first | (apply Exists.intro; refine ⟨?_, hK _ ?_⟩) | refine ⟨⟨undef, ?_⟩, hK _ ?_⟩)
          first
            | (apply QP.al_p; decide; (focus (intro wq hq; (first | (have y0 := CK.out _ hq.r; have y1 := CT.out _ _ hq.t) | skip); first | (fail) | (unfold QP.oat; go_simp; first | done | exact ⟨by assumption, rfl⟩ | exact rfl | assumption | (((with_reducible refine (SH.out _).mono ?_); rintro e w' ⟨rfl, h'⟩; exact ⟨rfl, hq.same h'⟩))))))
            | (apply QP.al_dep; decide; decide; (focus (intro wq hq; (first | (have y0 := CK.out _ hq.r; have y1 := CT.out _ _ hq.t) | skip); first | (fail) | (unfold QP.oat; go_simp; first | done | exact ⟨by assumption, rfl⟩ | exact rfl | assumption | (((with_reducible refine (SH.out _).mono ?_); rintro e w' ⟨rfl, h'⟩; exact ⟨rfl, hq.same h'⟩))))))
            | (apply QP.al_bef; decide; decide; (focus (intro wq hq; (first | (have y0 := CK.out _ hq.r; have y1 := CT.out _ _ hq.t) | skip); first | (fail) | (unfold QP.oat; go_simp; first | done | exact ⟨by assumption, rfl⟩ | exact rfl | assumption | (((with_reducible refine (SH.out _).mono ?_); rintro e w' ⟨rfl, h'⟩; exact ⟨rfl, hq.same h'⟩))))))
            | (apply QP.al_ok; decide; (focus (intro wq hq; (first | (have y0 := CK.out _ hq.r; have y1 := CT.out _ _ hq.t) | skip); first | (fail) | (unfold QP.oat; go_simp; first | done | exact ⟨by assumption, rfl⟩ | exact rfl | assumption | (((with_reducible refine (SH.out _).mono ?_); rintro e w' ⟨rfl, h'⟩; exact ⟨rfl, hq.same h'⟩))))); (focus (intro wq hq; (first | (have y0 := CK.out _ hq.r; have y1 := CT.out _ _ hq.t) | skip); first | (fail) | (unfold QP.oat; go_simp; first | done | exact ⟨by assumption, rfl⟩ | exact rfl | assumption | (((with_reducible refine (SH.out _).mono ?_); rintro e w' ⟨rfl, h'⟩; exact ⟨rfl, hq.same h'⟩))))))
          clear hK K))
  refine QP.wpQ_nil ?_
  intro wz bz
  have BZ := Lib.hid bz.b
  clear bz
  go_wp2
  go_ret
  exact ⟨rfl, BZ.out⟩
set_option maxRecDepth 100000 in
theorem walk_WireLengths {H : Type} {enc : TypeId × Value → H} {W : World} {base : Nat} (v : Value) (d : DataW H) (p : List MemPlace) (hval : Value.okWide Try.prog W .any base 62 v) (h : DataW.Trod enc Try.prog W 0 (fun _ => true) true 62 v d p) :
    Calls Try.prog 12 #[v] W (WFine W) := by
  obtain ⟨m, rfl, ho⟩ := msg_of_trod hval h
  by_cases hm : May m
  · obtain ⟨fl, hf, hp⟩ := hm
    exact lengths_yes m ho fl hf hp W
  · exact lengths_no m ho hm W
end Go.Proofs.Ytiilgkhndfnkgaa
