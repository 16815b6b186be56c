/- The reference of layer 16: Close; the condition is that the blocks of the boxes are known. -/
import Derived.Test.YtblbhnlmbmffkaaPoN
namespace Go.Proofs.Ytblbhnlmbmffkaa
open Go.RowKit
set_option linter.unusedVariables false

/-- Close's last region: what is listed, what it left -/
structure CI (w0 : World) (lo : Nat) (R : Rf) (KN : Nat → Option Value) (L : Nat → Bool) (V : Nat → Value) (w : World) : Prop where
  bel : Below w0.heap.size w0 w
  u : L 3 = false → w = w0.drew
  kv : ∀ i u, KN i = some u → L i = true → V i = u
  o3 : L 3 = true → RP lo w (V 3) R
  e9 : L 9 = true → V 9 = V 3
open QR in
section
variable {w0 w w' : World} {lo : Nat} {R : Rf} {KN : Nat → Option Value} {L : Nat → Bool} {V : Nat → Value}
theorem CI.set (h : CI w0 lo R KN L V w) (i : Nat) {u : Value} (hi : KN i = some u) (h3 : i ≠ 3) (h9 : i ≠ 9) : CI w0 lo R KN (upd L i) (updV V i u) w := by
  obtain ⟨a, b, c, d, e⟩ := h
  refine ⟨a, ?_, fun j v hj hL => ?_, ?_, ?_⟩
  · unfold upd; rw [if_neg (fun e => h3 e.symm)]; exact b
  · unfold upd at hL; unfold updV
    by_cases hji : j = i
    · subst hji; rw [if_pos rfl]; exact Option.some.inj (hi.symm.trans hj)
    · rw [if_neg hji] at hL ⊢; exact c j v hj hL
  · unfold upd updV; rw [if_neg (fun e => h3 e.symm), if_neg (fun e => h3 e.symm)]; exact d
  · unfold upd updV; rw [if_neg (fun e => h9 e.symm), if_neg (fun e => h9 e.symm), if_neg (fun e => h3 e.symm)]; exact e
theorem CI.s9 (h : CI w0 lo R KN L V w) (hK : KN 9 = none) : CI w0 lo R KN (upd L 9) (updV V 9 (V 3)) w := by
  obtain ⟨a, b, c, d, e⟩ := h
  refine ⟨a, by simpa [upd] using b, fun j v hj hL => ?_, by simpa [upd, updV] using d, by simp [updV]⟩
  unfold upd at hL; unfold updV
  by_cases hji : j = 9
  · subst hji; rw [hK] at hj; cases hj
  · rw [if_neg hji] at hL ⊢; exact c j v hj hL
theorem CI.s3 (h : CI w0 lo R KN L V w) (hK : KN 3 = none) (h9 : L 9 = false) {v' : Value} (ho : RP lo w' v' R) (hb : Below w.heap.size w w') : CI w0 lo R KN (upd L 3) (updV V 3 v') w' := by
  obtain ⟨a, b, c, d, e⟩ := h
  refine ⟨a.trans (hb.mono a.size), by simp [upd], fun j v hj hL => ?_, by simpa [upd, updV] using ho, by simp [upd, h9]⟩
  unfold upd at hL; unfold updV
  by_cases hji : j = 3
  · subst hji; rw [hK] at hj; cases hj
  · rw [if_neg hji] at hL ⊢; exact c j v hj hL
end
def kn (v s : Value) (k g : Nat) : Nat → Option Value
  | 0 => some v
  | 1 => some (.int .i64 (k : Nat))
  | 2 => some (.agg #[.slice none 0 0, .bool true])
  | 4 => some v
  | 5 => some (.int .i64 (k : Nat))
  | 6 => some (.pointer (some ⟨g, k * 2, none⟩))
  | 7 => some (.pointer (some ⟨g, k * 2, none⟩))
  | 8 => some s
  | 10 => some s
  | 11 => some (.int .i64 0)
  | _ => none
set_option maxRecDepth 100000 in
set_option maxHeartbeats 4000000 in
theorem rclose_yes {lo : Nat} {w : World} {v : Value} {R : Rf} (h : RP lo w v R) (hlo : lo ≤ w.heap.size) (h64 : R.length ≤ 64) {k : Nat} {l : List Lt} (hr : R[k]? = some (l, false)) :
    Calls Try.prog 18 #[v, .int .i64 (k : Nat)] w fun e w' => ∃ v' s, e = .returned (.tuple #[v', s, .int .i64 0]) ∧ RP lo w' v' (R.set k ([], true)) ∧ w'.ownsRow lo 52 4 s l.length (flatL l) ∧ Below w.heap.size w w' := by
  have hk : k < R.length := (List.getElem?_eq_some_iff.1 hr).1
  obtain ⟨g, cap, s, r, rfl, hg, _, h1, h2, h3, h4⟩ := h.at hk
  obtain rfl : r = (l, false) := Option.some.inj (h1.symm.trans hr)
  simp only at h2 h3 h4
  obtain ⟨A, cs, rfl⟩ := own_slice h4
  have hin := fun W => in_any (some ⟨g, 0, none⟩) R.length cap (k : Nat) W
  have hd : decide ((0 : Int) ≤ (k : Nat) ∧ ((k : Nat) : Int) < (R.length : Nat)) = true := by simp; omega
  have i1 : (0 : Int) ≤ (k : Nat) := by omega
  have i2 : ((k : Nat) : Int) < (R.length : Nat) := by omega
  rw [hd] at hin
  have IN := Lib.hid hin
  have H := Lib.hid h
  have H2 := Lib.hid h2
  have H4 := Lib.hid h4
  have hD := h.drew
  have PUT := Lib.hid (rput_any (k := k) hD hlo h64 hk (.slice none 0 0) [] true (World.ownsRow_nil _ _ _ _))
  obtain ⟨X, hX⟩ : ∃ X, R.set k ([], true) = X := ⟨_, rfl⟩
  rw [hX] at PUT ⊢
  have GG := Lib.hid hg
  clear hin hd h h1 hr h4 hD hX hg
  generalize R.length = m at *
  go_enter Try.func18, Try.ntmps18
  go_wp2_with fail
  refine (IN.out _).mono ?_
  rintro e w1 ⟨rfl, rfl⟩
  go_wp2
  have st : ∀ V', CI w lo X (kn (.slice (some ⟨g, 0, none⟩) m cap) (.slice A l.length cs) k g) (fun _ => false) V' w.drew := fun V' => ⟨(Below.refl _ w).drew, fun _ => rfl, nofun, nofun, nofun⟩
  refine QR.wp_region_r (CI w lo X (kn (.slice (some ⟨g, 0, none⟩) m cap) (.slice A l.length cs) k g)) (by kernel_rfl) (by kernel_rfl) st ?step ?fin
  case step =>
    intro i o ho L' V' w' hI hL' hdn hdp a ha K hK
    have at_ := fun {d : Tmp} {o : Oper} (j : Nat) => QR.eval_at (L := L') (V := V') (d := d) (o := o) (i := j)
    match i, ho with
    | 0, ho =>
      obtain rfl := Option.some.inj ho
      have e6 : a.eval (.tmp 0) = .slice (some ⟨g, 0, none⟩) m cap := by rw [ha, QR.eval_base _ 0 _ (by rfl)]; rfl
      have g6 := QR.get_of e6
      clear ha
      unfold Oper.wp
      go_simp
      exact hK _ _ (hI.set 0 rfl (by decide) (by decide))
    | 1, ho =>
      obtain rfl := Option.some.inj ho
      have e6 : a.eval (.tmp 1) = .int .i64 (k : Nat) := by rw [ha, QR.eval_base _ 0 _ (by rfl)]; rfl
      have g6 := QR.get_of e6
      clear ha
      unfold Oper.wp
      go_simp
      exact hK _ _ (hI.set 1 rfl (by decide) (by decide))
    | 2, ho =>
      obtain rfl := Option.some.inj ho
      clear ha
      unfold Oper.wp
      go_simp
      exact hK _ _ (hI.set 2 rfl (by decide) (by decide))
    | 3, ho =>
      obtain rfl := Option.some.inj ho
      have d0 := hdp ⟨0, .data⟩ (by simp) rfl
      have d1 := hdp ⟨1, .data⟩ (by simp) rfl
      have d2 := hdp ⟨2, .data⟩ (by simp) rfl
      have e38 : a.eval (.tmp 18) = V' 0 := by rw [ha]; exact QR.eval_at _ 0 _ (by kernel_rfl) (by simp) (Nat.zero_le _) (o := _) rfl rfl d0
      have e39 : a.eval (.tmp 19) = V' 1 := by rw [ha]; exact QR.eval_at _ 0 _ (by kernel_rfl) (by simp) (Nat.zero_le _) (o := _) rfl rfl d1
      have e40 : a.eval (.tmp 20) = V' 2 := by rw [ha]; exact QR.eval_at _ 0 _ (by kernel_rfl) (by simp) (Nat.zero_le _) (o := _) rfl rfl d2
      rw [hI.kv 0 _ rfl d0] at e38
      rw [hI.kv 1 _ rfl d1] at e39
      rw [hI.kv 2 _ rfl d2] at e40
      have g38 := QR.get_of e38; have g39 := QR.get_of e39; have g40 := QR.get_of e40
      have l9 : L' 9 = false := by
        cases hq : L' 9 with
        | false => rfl
        | true => have := hdn 9 _ rfl hq ⟨3, .data⟩ (by simp) rfl; rw [hL'] at this; cases this
      obtain rfl := hI.u hL'
      have HI := Lib.hid hI; have HK := Lib.hid hK
      clear ha hI hK
      unfold Oper.wp
      go_simp
      refine (PUT.out).mono ?_
      rintro e w2 ⟨v', rfl, q1, q2⟩
      go_simp
      exact HK.out _ _ (HI.out.s3 rfl l9 q1 q2)
    | 4, ho =>
      obtain rfl := Option.some.inj ho
      have e6 : a.eval (.tmp 0) = .slice (some ⟨g, 0, none⟩) m cap := by rw [ha, QR.eval_base _ 0 _ (by rfl)]; rfl
      have g6 := QR.get_of e6
      clear ha
      unfold Oper.wp
      go_simp
      exact hK _ _ (hI.set 4 rfl (by decide) (by decide))
    | 5, ho =>
      obtain rfl := Option.some.inj ho
      have e6 : a.eval (.tmp 1) = .int .i64 (k : Nat) := by rw [ha, QR.eval_base _ 0 _ (by rfl)]; rfl
      have g6 := QR.get_of e6
      clear ha
      unfold Oper.wp
      go_simp
      exact hK _ _ (hI.set 5 rfl (by decide) (by decide))
    | 6, ho =>
      obtain rfl := Option.some.inj ho
      have d4 := hdp ⟨4, .data⟩ (by simp) rfl
      have d5 := hdp ⟨5, .data⟩ (by simp) rfl
      have e38 : a.eval (.tmp 22) = V' 4 := by rw [ha]; exact QR.eval_at _ 0 _ (by kernel_rfl) (by simp) (Nat.zero_le _) (o := _) rfl rfl d4
      have e39 : a.eval (.tmp 23) = V' 5 := by rw [ha]; exact QR.eval_at _ 0 _ (by kernel_rfl) (by simp) (Nat.zero_le _) (o := _) rfl rfl d5
      rw [hI.kv 4 _ rfl d4] at e38
      rw [hI.kv 5 _ rfl d5] at e39
      have g38 := QR.get_of e38; have g39 := QR.get_of e39
      clear ha
      unfold Oper.wp
      go_simp
      exact hK _ _ (hI.set 6 rfl (by decide) (by decide))
    | 7, ho =>
      obtain rfl := Option.some.inj ho
      have d6 := hdp ⟨6, .data⟩ (by simp) rfl
      have e38 : a.eval (.tmp 24) = V' 6 := by rw [ha]; exact QR.eval_at _ 0 _ (by kernel_rfl) (by simp) (Nat.zero_le _) (o := _) rfl rfl d6
      rw [hI.kv 6 _ rfl d6] at e38
      have g38 := QR.get_of e38
      clear ha
      unfold Oper.wp
      go_simp
      exact hK _ _ (hI.set 7 rfl (by decide) (by decide))
    | 8, ho =>
      obtain rfl := Option.some.inj ho
      have d6 := hdp ⟨7, .data⟩ (by simp) rfl
      have e38 : a.eval (.tmp 25) = V' 7 := by rw [ha]; exact QR.eval_at _ 0 _ (by kernel_rfl) (by simp) (Nat.zero_le _) (o := _) rfl rfl d6
      rw [hI.kv 7 _ rfl d6] at e38
      have g38 := QR.get_of e38
      have c0 := H2.out
      rw [← hI.bel.cell (p := ⟨g, k * 2, none⟩) GG.out] at c0
      clear ha h2 h3
      unfold Oper.wp
      go_simp
      exact hK _ _ (hI.set 8 rfl (by decide) (by decide))
    | 9, ho =>
      obtain rfl := Option.some.inj ho
      have d3 := hdp ⟨3, .data⟩ (by simp) rfl
      have e41 : a.eval (.tmp 21) = V' 3 := by rw [ha]; exact QR.eval_at _ 0 _ (by kernel_rfl) (by simp) (Nat.zero_le _) (o := _) rfl rfl d3
      have g41 := QR.get_of e41
      clear ha
      unfold Oper.wp
      go_simp
      exact hK _ _ (hI.s9 rfl)
    | 10, ho =>
      obtain rfl := Option.some.inj ho
      have d8 := hdp ⟨8, .data⟩ (by simp) rfl
      have e41 : a.eval (.tmp 26) = V' 8 := by rw [ha]; exact QR.eval_at _ 0 _ (by kernel_rfl) (by simp) (Nat.zero_le _) (o := _) rfl rfl d8
      rw [hI.kv 8 _ rfl d8] at e41
      have g41 := QR.get_of e41
      clear ha
      unfold Oper.wp
      go_simp
      exact hK _ _ (hI.set 10 rfl (by decide) (by decide))
    | 11, ho =>
      obtain rfl := Option.some.inj ho
      clear ha
      unfold Oper.wp
      go_simp
      exact hK _ _ (hI.set 11 rfl (by decide) (by decide))
    | j + 12, ho => simp at ho
  case fin =>
    intro L' V' wz hall hI
    have FIN : RP lo wz (V' 3) X ∧ wz.ownsRow lo 52 4 (.slice A l.length cs) l.length (flatL l) ∧ Below w.heap.size w wz := ⟨hI.o3 (hall 3 (by decide)), H4.out.kept (below_grown hI.bel none) (by
        cases hob : (Value.slice A l.length cs).ownBlock with
        | none => exact .inl rfl
        | some gb => exact .inr (by simp)), hI.bel⟩
    have FIN2 := Lib.hid FIN
    have E9 := hI.e9 (hall 9 (by decide))
    have E10 := hI.kv 10 _ rfl (hall 10 (by decide))
    have E11 := hI.kv 11 _ rfl (hall 11 (by decide))
    simp only [QR.putAll, if_true, Act.put, List.setIfInBounds_toArray, List.set_cons_zero, List.set_cons_succ]
    rw [E9, E10, E11]
    generalize V' 0 = v0; generalize V' 1 = v1; generalize V' 2 = v2; generalize V' 3 = v3 at *; generalize V' 4 = v4; generalize V' 5 = v5; generalize V' 6 = v6; generalize V' 7 = v7; generalize V' 8 = v8
    clear hI hall E9 E10 E11 FIN
    go_wp2
    go_ret3
    exact ⟨_, _, rfl, FIN2.out⟩
set_option maxRecDepth 100000 in
theorem rclose_no {lo : Nat} {w : World} {v : Value} {R : Rf} (h : RP lo w v R) {x : Int} (er : Int) (hx : (¬ (0 ≤ x ∧ x < (R.length : Int)) ∧ er = 3) ∨ ∃ l, R[x.toNat]? = some (l, true) ∧ 0 ≤ x ∧ er = 135) :
    Calls Try.prog 18 #[v, .int .i64 x] w fun e w' => e = .returned (.tuple #[v, .slice none 0 0, .int .i64 er]) ∧ w = w' := by
  rcases hx with ⟨hin, rfl⟩ | ⟨l, hr, h0, rfl⟩
  · obtain ⟨A, cap, rfl⟩ := rp_slice h
    have IN0 := fun W => in_any A R.length cap x W
    have hd : decide (0 ≤ x ∧ x < (R.length : Nat)) = false := by simpa using hin
    rw [hd] at IN0
    have IN := Lib.hid IN0
    clear IN0 hd h hin
    go_enter Try.func18, Try.ntmps18
    go_wp2_with fail
    refine (IN.out _).mono ?_
    rintro e w1 ⟨rfl, rfl⟩
    go_wp2
    go_ret3
    exact ⟨rfl, rfl⟩
  · obtain ⟨k, rfl⟩ := Int.eq_ofNat_of_zero_le h0
    rw [Int.toNat_natCast] at hr
    have hk : k < R.length := (List.getElem?_eq_some_iff.1 hr).1
    obtain ⟨g, cap, s, r, rfl, hg, _, h1, h2, h3, h4⟩ := h.at hk
    obtain rfl : r = (l, true) := Option.some.inj (h1.symm.trans hr)
    simp only at h2 h3 h4
    have IN0 := fun W => in_any (some ⟨g, 0, none⟩) R.length cap (k : Nat) W
    have hd : decide ((0 : Int) ≤ (k : Nat) ∧ ((k : Nat) : Int) < (R.length : Nat)) = true := by simp; omega
    have i1 : (0 : Int) ≤ (k : Nat) := by omega
    have i2 : ((k : Nat) : Int) < (R.length : Nat) := by omega
    rw [hd] at IN0
    have IN := Lib.hid IN0
    clear IN0 hd h h1 hr h4 hk hg h0
    generalize R.length = m at *
    go_enter Try.func18, Try.ntmps18
    go_wp2_with fail
    refine (IN.out _).mono ?_
    rintro e w1 ⟨rfl, rfl⟩
    go_wp2
    go_ret3
    exact ⟨rfl, rfl⟩
end Go.Proofs.Ytblbhnlmbmffkaa
