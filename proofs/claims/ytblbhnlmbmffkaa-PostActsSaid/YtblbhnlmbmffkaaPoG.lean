/- The walk of PostCloses; no conditions. -/
import Derived.Test.YtblbhnlmbmffkaaPoF
import Derived.Deep.Onto
import Derived.Test.YtblbhnlmbmffkaaRowKit
namespace Go.Proofs.Ytblbhnlmbmffkaa
open Go.RowKit
set_option linter.unusedVariables false

def Fine (w : World) (e : Ending) (w' : World) : Prop := e = .returned (.bool true) ∧ Below w.heap.size w w'
theorem snd_at {nb t : Nat} {E : Nat → Bx} {f : Nat → Lt} (hf : ∀ i, (f i).to = (t : Nat)) (ht : t < nb) (hok : ∀ k, BxOk (E k)) (h0 : (E t).shut = false) (hm : (E t).many = 0) :
    ∀ i, i ≤ 8 → (snd nb E f i t).many = i ∧ (snd nb E f i t).shut = false ∧ bl (snd nb E f i t) = (List.range i).map f ∧ ∀ k, k ≠ t → snd nb E f i k = E k
  | 0, _ => ⟨hm, h0, by show bl (E t) = _; unfold bl; rw [hm]; rfl, fun _ _ => rfl⟩
  | i + 1, hi => by
    obtain ⟨h1, h2, h3, h4⟩ := snd_at hf ht hok h0 hm i (by omega)
    have hok' := snd_ok (nb := nb) (f := f) hok i
    have hr : sendR nb (snd nb E f i) (f i).to = 0 := by
      unfold sendR
      rw [hf, Int.toNat_natCast, if_pos ⟨by omega, by omega⟩, h2, if_neg (by decide), h1, if_neg (by omega)]
    have hs : snd nb E f (i + 1) = upB (snd nb E f i) t (putB (snd nb E f i t) (f i)) := by
      show sendB nb (snd nb E f i) (f i) = _
      unfold sendB; rw [if_pos hr, hf, Int.toNat_natCast]
    rw [hs]
    refine ⟨by rw [upB_same]; show _ + 1 = _; rw [h1], by rw [upB_same]; exact h2, ?_, fun k hk => by unfold upB; rw [if_neg hk]; exact h4 k hk⟩
    rw [upB_same, put_bl (hok' t) (by rw [h1]; omega), h3, List.range_succ, List.map_append]; rfl
theorem snd_send {nb t : Nat} {E : Nat → Bx} {f : Nat → Lt} (hf : ∀ i, (f i).to = (t : Nat)) (ht : t < nb) (hok : ∀ k, BxOk (E k)) (h0 : (E t).shut = false) (hm : (E t).many = 0) {i : Nat} (hi : i < 8) : sendR nb (snd nb E f i) (f i).to = 0 := by
  obtain ⟨h1, h2, h3, h4⟩ := snd_at hf ht hok h0 hm i (by omega)
  unfold sendR
  rw [hf, Int.toNat_natCast, if_pos ⟨by omega, by omega⟩, h2, if_neg (by decide), h1, if_neg (by omega)]

def fC (s : ByteArray) : Nat → Lt := fun i => ⟨1, 0, (i : Nat), s⟩
/-- the post behind the closing -/
def EC (s : ByteArray) (m : Nat) : Nat → Bx := closeE 2 (snd 2 E0 (fC s) m) 1
theorem c_closeR (s : ByteArray) {m : Nat} (hm : m ≤ 8) : closeR 2 (snd 2 E0 (fC s) m) 1 = 0 := by
  obtain ⟨h1, h2, h3, h4⟩ := snd_at (nb := 2) (t := 1) (E := E0) (f := fC s) (fun _ => rfl) (by decide) (fun _ => ok0) rfl rfl m hm
  unfold closeR
  rw [if_pos (by decide), show (1 : Int).toNat = 1 from rfl, h2]; rfl
theorem c_closeL (s : ByteArray) {m : Nat} (hm : m ≤ 8) : closeL 2 (snd 2 E0 (fC s) m) 1 = (List.range m).map (fC s) := by
  obtain ⟨h1, h2, h3, h4⟩ := snd_at (nb := 2) (t := 1) (E := E0) (f := fC s) (fun _ => rfl) (by decide) (fun _ => ok0) rfl rfl m hm
  unfold closeL
  rw [if_pos (c_closeR s hm), show (1 : Int).toNat = 1 from rfl, h3]
theorem ec_one (s : ByteArray) {m : Nat} (hm : m ≤ 8) : (EC s m 1).many = 0 ∧ (EC s m 1).shut = true := by
  unfold EC closeE
  rw [if_pos (c_closeR s hm), show (1 : Int).toNat = 1 from rfl, upB_same]
  refine ⟨?_, rfl⟩
  show (tk _ _).many = 0
  rw [tk_many]; omega
theorem ec_zero (s : ByteArray) {m : Nat} (hm : m ≤ 8) : EC s m 0 = bx0 := by
  obtain ⟨h1, h2, h3, h4⟩ := snd_at (nb := 2) (t := 1) (E := E0) (f := fC s) (fun _ => rfl) (by decide) (fun _ => ok0) rfl rfl m hm
  unfold EC closeE
  rw [if_pos (c_closeR s hm), show (1 : Int).toNat = 1 from rfl]
  unfold upB
  rw [if_neg (by decide), h4 0 (by decide)]; rfl
section
variable (s : ByteArray) {m : Nat}
theorem ec_close (hm : m ≤ 8) : closeR 2 (EC s m) 1 = 135 ∧ closeE 2 (EC s m) 1 = EC s m := by
  obtain ⟨h1, h2⟩ := ec_one s hm
  have hr : closeR 2 (EC s m) 1 = 135 := by
    unfold closeR
    rw [if_pos (by decide), show (1 : Int).toNat = 1 from rfl, h2]; rfl
  refine ⟨hr, ?_⟩
  unfold closeE; rw [hr, if_neg (by decide)]
theorem ec_take (hm : m ≤ 8) : takeR 2 (EC s m) 1 = 3 ∧ takeE 2 (EC s m) 1 = EC s m ∧ takeV 2 (EC s m) 1 = lt0 := by
  obtain ⟨h1, h2⟩ := ec_one s hm
  have hr : takeR 2 (EC s m) 1 = 3 := by
    unfold takeR
    rw [show (1 : Int).toNat = 1 from rfl, h1, if_neg (by rintro ⟨_, _, h⟩; exact h rfl)]
  refine ⟨hr, ?_, ?_⟩
  · unfold takeE; rw [hr, if_neg (by decide)]
  · unfold takeV; rw [hr, if_neg (by decide)]
theorem ec_send1 (hm : m ≤ 8) (x : Lt) (hx : x.to = 1) : sendR 2 (EC s m) x.to = 135 ∧ sendB 2 (EC s m) x = EC s m := by
  obtain ⟨h1, h2⟩ := ec_one s hm
  have hr : sendR 2 (EC s m) x.to = 135 := by
    unfold sendR
    rw [hx, if_pos (by decide), show (1 : Int).toNat = 1 from rfl, h2]; rfl
  refine ⟨hr, ?_⟩
  unfold sendB; rw [hr, if_neg (by decide)]
theorem ec_send0 (hm : m ≤ 8) : sendR 2 (EC s m) lt0.to = 0 := by
  have h0 := ec_zero s hm
  unfold sendR
  rw [show lt0.to = 0 from rfl, if_pos (by decide), show (0 : Int).toNat = 0 from rfl, h0]; rfl
theorem ef_at (hm : m ≤ 8) : sendB 2 (EC s m) lt0 = upB (EC s m) 0 (putB bx0 lt0) := by
  unfold sendB; rw [if_pos (ec_send0 s hm), show lt0.to = 0 from rfl, show (0 : Int).toNat = 0 from rfl, ec_zero s hm]
theorem ef_room1 (hm : m ≤ 8) : roomR 2 (sendB 2 (EC s m) lt0) 1 = 0 := by
  obtain ⟨h1, h2⟩ := ec_one s hm
  rw [ef_at s hm]
  unfold roomR upB
  rw [show (1 : Int).toNat = 1 from rfl, if_neg (by decide : ¬ 1 = 0), h2]; rfl
theorem ef_room0 (hm : m ≤ 8) : roomR 2 (sendB 2 (EC s m) lt0) 0 = 7 := by
  rw [ef_at s hm]; rfl
theorem ef_all (hm : m ≤ 8) : sumM (sendB 2 (EC s m) lt0) 2 = 1 := by
  obtain ⟨h1, h2⟩ := ec_one s hm
  rw [ef_at s hm]
  show (0 + (upB (EC s m) 0 (putB bx0 lt0) 0).many) + (upB (EC s m) 0 (putB bx0 lt0) 1).many = 1
  rw [upB_same]
  unfold upB
  rw [if_neg (by decide : ¬ 1 = 0), h1]; rfl
end
theorem fC_get (s : ByteArray) {m i : Nat} (hi : i < m) : ∀ j, j < 4 → (flatL ((List.range m).map (fC s)))[i * 4 + j]? = (fC s i).cells[j]? := by
  induction m with
  | zero => omega
  | succ m ih =>
    intro j hj
    rw [List.range_succ, List.map_append, List.map_singleton, flatL_snoc]
    have hl : (flatL ((List.range m).map (fC s))).length = m * 4 := by rw [flatL_len]; simp
    by_cases h : i < m
    · rw [List.getElem?_append_left (by rw [hl]; omega)]; exact ih h j hj
    · obtain rfl : i = m := by omega
      rw [List.getElem?_append_right (by rw [hl]; omega), hl, show i * 4 + j - i * 4 = j by omega]

set_option maxRecDepth 100000 in
set_option maxHeartbeats 4000000 in
theorem closes_walk (z : Nat) (s : ByteArray) (w : World) (hz : z < 256) (hs : s.size ≤ maxLen) :
    Calls Try.prog 6 #[.int .u8 (z : Nat), .string s] w (Fine w) := by
  unfold maxLen at hs
  obtain ⟨n, hn⟩ : ∃ n, w.heap.size = n := ⟨_, rfl⟩
  have nw := new_yes 2 (by decide) (by decide) w
  have HN := Lib.hid hn
  rw [hn] at nw
  have NW := Lib.hid nw
  have sh := fun v => shown_any v
  have SH := Lib.hid sh
  clear nw sh
  by_cases h300 : s.size ≤ 300
  · have h3 : decide ((300 : Int) < (s.size : Int)) = false := by simp; omega
    have h3' : decide (300 < s.size) = false := by simp; omega
    obtain ⟨m, hm⟩ : ∃ m, z % 9 = m := ⟨_, rfl⟩
    have hm8 : m ≤ 8 := by omega
    have hzm : (z : Int) % 9 = (m : Int) := by omega
    have ok := fun i => snd_ok (nb := 2) (E := E0) (f := fC s) (fun k => ok0) i
    have send : ∀ i, i < m → ∀ v, Pt (n + 1) n 2 (snd 2 E0 (fC s) i) v → Calls Try.prog 9 #[.pointer (some ⟨n + 1, 0, none⟩), .agg #[.int .i64 1, .int .i64 0, .int .i64 (i : Nat), .string s]] v fun e v' => e = .returned (.int .i64 0) ∧ Pt (n + 1) n 2 (snd 2 E0 (fC s) (i + 1)) v' ∧ M.But n v v' := fun i hi v c => by
      refine (send_any c (fC s i)).mono ?_
      rintro e v' ⟨rfl, hr, hb⟩
      have h0 : sendR 2 (snd 2 E0 (fC s) i) (fC s i).to = 0 := snd_send (t := 1) (fun _ => rfl) (by decide) (fun _ => ok0) rfl rfl (by omega)
      exact ⟨by rw [h0], c.call hb hr (send_ok (ok i)), hb⟩
    have okc : ∀ k, BxOk (EC s m k) := close_ok (ok m)
    have cl1 := fun v (c : Pt (n + 1) n 2 (snd 2 E0 (fC s) m) v) => close_any c 1
    have cl1' : ∀ v, Pt (n + 1) n 2 (snd 2 E0 (fC s) m) v → Calls Try.prog 14 #[.pointer (some ⟨n + 1, 0, none⟩), .int .i64 1] v fun e v' => ∃ l, e = .returned (.tuple #[l, .int .i64 0]) ∧ v'.ownsRow v.heap.size 33 4 l m (flatL ((List.range m).map (fC s))) ∧ Pt (n + 1) n 2 (EC s m) v' ∧ M.But n v v' := fun v c => by
      refine (close_any c 1).mono ?_
      rintro e v' ⟨l, rfl, ho, hr, hb⟩
      rw [c_closeL s hm8] at ho
      refine ⟨l, by rw [c_closeR s hm8], by simpa using ho, c.call hb hr okc, hb⟩
    have cl2 : ∀ v, Pt (n + 1) n 2 (EC s m) v → Calls Try.prog 14 #[.pointer (some ⟨n + 1, 0, none⟩), .int .i64 1] v fun e v' => ∃ l, e = .returned (.tuple #[l, .int .i64 135]) ∧ Pt (n + 1) n 2 (EC s m) v' ∧ M.But n v v' := fun v c => by
      refine (close_any c 1).mono ?_
      rintro e v' ⟨l, rfl, ho, hr, hb⟩
      rw [(ec_close s hm8).2] at hr
      exact ⟨l, by rw [(ec_close s hm8).1], c.call hb hr okc, hb⟩
    have tk1 : ∀ v, Pt (n + 1) n 2 (EC s m) v → Calls Try.prog 10 #[.pointer (some ⟨n + 1, 0, none⟩), .int .i64 1] v fun e v' => e = .returned (.tuple #[.agg #[.int .i64 0, .int .i64 0, .int .i64 0, .string ⟨#[]⟩], .int .i64 3]) ∧ Pt (n + 1) n 2 (EC s m) v' ∧ M.But n v v' := fun v c => by
      refine (takep_any c 1).mono ?_
      rintro e v' ⟨rfl, hr, hb⟩
      obtain ⟨t1, t2, t3⟩ := ec_take s hm8
      rw [t2] at hr
      exact ⟨by rw [t1, t3]; rfl, c.call hb hr okc, hb⟩
    have sd1 : ∀ v, Pt (n + 1) n 2 (EC s m) v → Calls Try.prog 9 #[.pointer (some ⟨n + 1, 0, none⟩), .agg #[.int .i64 1, .int .i64 0, .int .i64 0, .string ⟨#[]⟩]] v fun e v' => e = .returned (.int .i64 135) ∧ Pt (n + 1) n 2 (EC s m) v' ∧ M.But n v v' := fun v c => by
      refine (send_any c ⟨1, 0, 0, ⟨#[]⟩⟩).mono ?_
      rintro e v' ⟨rfl, hr, hb⟩
      obtain ⟨t1, t2⟩ := ec_send1 s hm8 ⟨1, 0, 0, ⟨#[]⟩⟩ rfl
      rw [t2] at hr
      exact ⟨by rw [t1], c.call hb hr okc, hb⟩
    have sd0 : ∀ v, Pt (n + 1) n 2 (EC s m) v → Calls Try.prog 9 #[.pointer (some ⟨n + 1, 0, none⟩), .agg #[.int .i64 0, .int .i64 0, .int .i64 0, .string ⟨#[]⟩]] v fun e v' => e = .returned (.int .i64 0) ∧ Pt (n + 1) n 2 (sendB 2 (EC s m) lt0) v' ∧ M.But n v v' := fun v c => by
      refine (send_any c lt0).mono ?_
      rintro e v' ⟨rfl, hr, hb⟩
      exact ⟨by rw [ec_send0 s hm8], c.call hb hr (send_ok okc), hb⟩
    have rm1 := fun v (c : Pt (n + 1) n 2 (sendB 2 (EC s m) lt0) v) => room_any c 1
    have rm0 := fun v (c : Pt (n + 1) n 2 (sendB 2 (EC s m) lt0) v) => room_any c 0
    have al := fun v (c : Pt (n + 1) n 2 (sendB 2 (EC s m) lt0) v) => all_any c
    rw [ef_room1 s hm8] at rm1
    rw [ef_room0 s hm8] at rm0
    rw [ef_all s hm8] at al
    have hget := fun i (hi : i < m) => fC_get s hi
    generalize sendB 2 (EC s m) lt0 = EF at *
    generalize EC s m = EE at *
    generalize flatL ((List.range m).map (fC s)) = XL at *
    have e00 : snd 2 E0 (fC s) 0 = fun _ => bx0 := rfl
    have SEND := Lib.hid send; have CL1 := Lib.hid cl1'; have CL2 := Lib.hid cl2; have TK := Lib.hid tk1; have SD1 := Lib.hid sd1; have SD0 := Lib.hid sd0; have RM1 := Lib.hid rm1; have RM0 := Lib.hid rm0; have AL := Lib.hid al; have GET := Lib.hid hget
    have q2 : IntKind.i64.wrap (z : Int) = z := IntWalk.i64_in _ (by omega)
    clear hn send cl1 cl1' cl2 tk1 sd1 sd0 rm1 rm0 al okc ok hget hm
    go_enter Try.func6, Try.ntmps6
    go_wp2_with fail
    refine (NW.out).mono ?_
    rintro e w1 ⟨rfl, pt, hb⟩
    go_wp2_with fail
    refine (SH.out _).mono ?_
    rintro e w2 ⟨rfl, gq⟩
    have hsz := pt.ltB
    have b2 := hb.trans (gq.mono (by omega))
    have p2 := pt.same gq
    rw [← e00] at p2
    clear gq hb pt e00 hsz
    go_wp2
    rw [hzm]
    clear hzm
    go_loopg [7] m (fun g i v => ∃ k : Nat, g + k = m ∧ i = .int .i64 k ∧ Pt (n + 1) n 2 (snd 2 E0 (fC s) k) v ∧ Below n w v)
    case atStart => exact ⟨0, by omega, rfl, p2, b2⟩
    case round =>
      clear p2 b2
      obtain ⟨k, hm, rfl, pt, hb⟩ := hrel
      by_cases hlt : k < m
      · have send := SEND.out k hlt _ pt
        have S1 := Lib.hid send
        have HM := Lib.hid hm
        have hsz := pt.ltB
        clear send hm
        go_wp2_with fail
        refine (S1.out).mono ?_
        rintro e w2 ⟨rfl, pt2, hb2⟩
        have b2 := hb2.below hb (Nat.le_refl _) (by omega)
        clear hb2 hb pt
        go_wp2
        go_roundg (m - (k + 1))
        case measure => have := HM.out; omega
        case rel => exact ⟨k + 1, by omega, by go_num, pt2, b2⟩
      · obtain rfl : k = m := by omega
        have hsz := pt.ltB
        clear hm
        go_wp2_with fail
        refine (CL1.out _ pt).mono ?_
        rintro e w2 ⟨l, rfl, own, pt2, hb2⟩
        have b2 := hb2.below hb (Nat.le_refl _) (by omega)
        have own := own.mono (base' := n + 1) (by omega)
        have own2 := own.mono (base' := n + 1) (by omega)
        have cells : ∀ i, i < k → ∀ g c, l = .slice (some ⟨g, 0, none⟩) k c → True := fun _ _ _ _ _ => trivial
        have hbs := hb2.size
        have hsz2 := pt2.ltB
        clear cells own hb2 hb pt
        go_wp2_with fail
        refine (CL2.out _ pt2).mono ?_
        rintro e w3 ⟨l2, rfl, pt3, hb3⟩
        have b3 := hb3.below b2 (Nat.le_refl _) (by omega)
        have own3 := own2.kept (But.grown hb3) (by
          cases hob : l.ownBlock with
          | none => exact .inl rfl
          | some gb => exact .inr fun e => by have := (own2.lt gb hob).1; cases e; omega)
        have hsz3 := pt3.ltB
        clear own2 hb3 b2 pt2
        go_wp2_with fail
        refine (TK.out _ pt3).mono ?_
        rintro e w4 ⟨rfl, pt4, hb4⟩
        have b4 := hb4.below b3 (Nat.le_refl _) (by omega)
        have own4 := own3.kept (But.grown hb4) (by
          cases hob : l.ownBlock with
          | none => exact .inl rfl
          | some gb => exact .inr fun e => by have := (own3.lt gb hob).1; cases e; omega)
        have hsz4 := pt4.ltB
        have pt5 := pt4.alloc (.cells #[.int .i64 0, .int .i64 0, .int .i64 0, .string ⟨#[]⟩] 33)
        have own5 := own4.alloc (.cells #[.int .i64 0, .int .i64 0, .int .i64 0, .string ⟨#[]⟩] 33)
        have b5 := b4.alloc (by omega) (.cells #[.int .i64 0, .int .i64 0, .int .i64 0, .string ⟨#[]⟩] 33)
        obtain ⟨V, hV⟩ : ∃ V, w4.alloc (.cells #[.int .i64 0, .int .i64 0, .int .i64 0, .string ⟨#[]⟩] 33) = V := ⟨_, rfl⟩
        rw [hV] at pt5 own5 b5
        have HV := Lib.hid hV
        clear own3 hb4 b3 pt3 own4 b4 pt4 hV
        obtain ⟨a, cp, rfl, hcel⟩ : ∃ a c, l = .slice a k c ∧ ∀ i, i < k → ∃ g, a = some ⟨g, 0, none⟩ ∧ V.cell? ⟨g, i * 4, none⟩ = some (.int .i64 1) ∧ V.cell? ⟨g, i * 4 + 1, none⟩ = some (.int .i64 0) ∧ V.cell? ⟨g, i * 4 + 2, none⟩ = some (.int .i64 (i : Nat)) ∧ V.cell? ⟨g, i * 4 + 3, none⟩ = some (.string s) := by
          rcases own5.2 with ⟨e1, e2⟩ | ⟨g, c, cur, e1, _⟩
          · subst e2; exact ⟨none, 0, e1, fun i hi => absurd hi (by omega)⟩
          · refine ⟨some ⟨g, 0, none⟩, c, e1, fun i hi => ⟨g, rfl, ?_⟩⟩
            have cl := own5.cells (g := g) (by rw [e1]; rfl)
            have cc : ∀ j u, j < 4 → (fC s i).cells[j]? = some u → V.cell? ⟨g, i * 4 + j, none⟩ = some u := fun j u hj hu => by
              have := cl (i * 4 + j) u (by rw [GET.out i hi j hj]; exact hu)
              rwa [Addr.add_mid, Nat.zero_add] at this
            exact ⟨cc 0 _ (by decide) rfl, cc 1 _ (by decide) rfl, cc 2 _ (by decide) rfl, cc 3 _ (by decide) rfl⟩
        have HCEL := Lib.hid hcel
        clear hcel own5
        go_wp2
        rw [HV.out]
        clear HV
        go_loopg [14] k (fun g i v => ∃ j : Nat, g + j = k ∧ i = .int .i64 j ∧ v = V)
        case atStart => exact ⟨0, by omega, rfl, rfl⟩
        case round =>
          obtain ⟨j, hm, rfl, rfl⟩ := hrel
          have HM := Lib.hid hm
          by_cases hlt2 : j < k
          · obtain ⟨g, rfl, x0, x1, x2, x3⟩ := HCEL.out j hlt2
            clear hm
            go_wp2
            go_roundg (k - (j + 1))
            case measure => have := HM.out; omega
            case rel => exact ⟨j + 1, by omega, by go_num, by first | rfl | trivial⟩
          · obtain rfl : j = k := by omega
            have hszV := pt5.ltB
            clear hm HM HCEL
            go_wp2_with fail
            refine (SD1.out _ pt5).mono ?_
            rintro e w5 ⟨rfl, pt6, hb6⟩
            have b6 := hb6.below b5 (Nat.le_refl _) (by omega)
            have hsz6 := pt6.ltB
            clear hb6 b5 pt5
            go_wp2_with fail
            refine (SD0.out _ pt6).mono ?_
            rintro e w6 ⟨rfl, pt7, hb7⟩
            have b7 := hb7.below b6 (Nat.le_refl _) (by omega)
            have hsz7 := pt7.ltB
            clear hb7 b6 pt6
            go_wp2_with fail
            refine (RM1.out _ pt7).mono ?_
            rintro e w7 ⟨rfl, g7⟩
            have pt8 := pt7.same g7
            have b8 := b7.trans (g7.mono (by omega))
            have hsz8 := pt8.ltB
            clear g7 pt7 b7
            go_wp2_with fail
            refine (RM0.out _ pt8).mono ?_
            rintro e w8 ⟨rfl, g8⟩
            have pt9 := pt8.same g8
            have b9 := b8.trans (g8.mono (by omega))
            clear g8 pt8 b8
            go_wp2_with fail
            refine (AL.out _ pt9).mono ?_
            rintro e w9 ⟨rfl, rfl⟩
            go_wp2
            go_ret
            exact ⟨rfl, by rw [HN.out]; exact b9⟩
  · have h3 : decide ((300 : Int) < (s.size : Int)) = true := by simp; omega
    clear hn
    go_enter Try.func6, Try.ntmps6
    go_wp2_with fail
    refine (NW.out).mono ?_
    rintro e w1 ⟨rfl, pt, hb⟩
    go_wp2_with fail
    refine (SH.out _).mono ?_
    rintro e w2 ⟨rfl, gq⟩
    have hsz := pt.ltB
    go_wp2
    go_ret
    exact ⟨rfl, by rw [HN.out]; exact hb.trans (gq.mono (by omega))⟩

theorem walk_PostCloses (a0 : Int) (w0 : (Lit.int .u8 a0).wf = true) (a1 : ByteArray) (w1 : a1.size ≤ maxLen) {W : World} :
    Calls Try.prog 6 #[.int .u8 a0, .string a1] W (Fine W) := by
  have h1 := RowK.wf_u8 w0
  obtain ⟨z, rfl⟩ := Int.eq_ofNat_of_zero_le h1.1
  exact closes_walk z a1 W (by omega) w1
end Go.Proofs.Ytblbhnlmbmffkaa
