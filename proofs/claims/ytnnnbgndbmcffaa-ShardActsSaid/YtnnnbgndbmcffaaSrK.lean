/- Step of a bank answers, and leaves, what the plain words say; the condition is that the bank lies in memory. -/
import Derived.Test.YtnnnbgndbmcffaaSrJ
import Derived.Test.YtnnnbgndbmcffaaSrP
namespace Go.Proofs.Ytnnnbgndbmcffaa
open Go.RowKit
set_option linter.unusedVariables false

theorem Chg.set {rk : Nat → Nat} {R : Nat → Prop} {w v : World} (h : Chg rk R w v) {p : Addr} (hp : p.block < w.heap.size → R (rk p.block)) (x : Value) : Chg rk R w (v.setCell p x) :=
  ⟨h.os, h.tape, h.output, by simpa [World.setCell] using h.size, fun k hk hn => by
    rw [← h.block k hk hn]
    by_cases e : p.block = k
    · exact absurd (hp (by omega)) (by rw [e]; exact hn)
    · simp only [World.setCell, Array.getElem?_modify, if_neg e]⟩
theorem owns_set {base : Nat} {e : TypeId} {size : Nat} {v : Value} {n : Nat} {xs : List Value} {w : World} (ho : w.ownsRow base e size v n xs) {p : Addr} (hp : ∀ g, v.ownBlock = some g → p.block ≠ g) (x : Value) : (w.setCell p x).ownsRow base e size v n xs := by
  refine ⟨ho.1, ?_⟩
  rcases ho.2 with hn | ⟨g, cap, cur, rfl, hb, hgg, rest⟩
  · exact .inl hn
  · exact .inr ⟨g, cap, cur, rfl, hb, M.RowAt.far hgg (hp g rfl) x, rest⟩
theorem owns_row {base : Nat} {e : TypeId} {size : Nat} {v : Value} {n : Nat} {xs : List Value} {w : World} (ho : w.ownsRow base e size v n xs) {g : Nat} (hg : v.ownBlock = some g) : ∃ cur, M.RowAt w g e cur := by
  rcases ho.2 with ⟨rfl, _⟩ | ⟨g', cap, cur, rfl, hb, hgg, _⟩
  · cases hg
  · simp [Value.ownBlock] at hg; subst hg; exact ⟨cur, hgg⟩
/-- the slice of the tasks -/
theorem ts_of {w : World} {ts : Value} {n : Nat} {tks : List Nat} (h : w.ownsRow 0 132 1 ts n (tks.map ptrV)) : TS w ts tks ∧ tks.length = n := by
  have hl : tks.length = n := by have := h.1; simpa using this
  refine ⟨?_, hl⟩
  rcases h.2 with ⟨rfl, h2⟩ | ⟨g, cap, cur, rfl, _, hgg, _, _, _, ht⟩
  · left; exact ⟨rfl, List.eq_nil_of_length_eq_zero (by omega)⟩
  · right
    refine ⟨g, cap, 132, cur, by rw [hl], hgg, fun k hk => ?_⟩
    have := congrArg (fun l => l[k]?) ht
    simp only [Nat.mul_one, List.getElem?_take, if_pos (show k < n by omega), List.getElem?_map, Array.getElem?_toList, List.getElem?_eq_getElem hk] at this
    exact this
/-- a task has gone a step: the bank is known again -/
theorem BkG.stepped {rk : Nat → Nat} {b pu B mb cap : Nat} {ts ds : Value} {tks : List Nat} {S : BS} {w : World} (g : BkG rk b pu B mb cap ts ds tks S w) {i p : Nat} {T : Tsk} (hT : S.tl[i]? = some T) (hp : tks[i]? = some p)
    (w' : World) (T' : Tsk) (S' : BS) (hn : S'.n = S.n) (ht : S'.tl = S.tl.set i T') (ds' : Value) (chg : Chg rk (fun x => x = 1 ∨ x = 2 ∨ x = 4 ∨ x = 6 + i) w w') (hpu : Pu pu B mb S.n cap S'.f [] w') (hb : M.RowAt w' b 141 (bankR pu S.n S'.h ts ds'))
    (hds : w'.ownsRow 0 3 1 ds' S'.dn.length (S'.dn.map fun i : Nat => Value.int .i64 i)) (hdo : ds'.ownBlock = ds.ownBlock ∨ ∀ g, ds'.ownBlock = some g → w.heap.size ≤ g)
    (htk : ∃ sb a c cs tov, M.RowAt w' p 136 (taskR b i T'.fr T'.to T'.am (.slice (some a) (T'.m + 2 - T'.k) c) (decide (T'.m < T'.k)) T'.er tov) ∧ (T'.k < T'.m + 2 → a = ⟨sb, T'.k, none⟩) ∧ T'.m + 2 - T'.k ≤ c ∧ c ≤ maxLen ∧ StepsAt rk w p T' sb cs ∧ (ToldV rk w tov T'.told ∨ NewTold w.heap.size T'.told w' tov))
    (ok : S'.Ok) : ∃ rk', BkG rk' b pu B mb cap ts ds' tks S' w' ∧ Fr rk rk' w w' := by
  obtain ⟨own, opu, rpu, rB, rmb, rb, ob, hts, rts, ods, rds, otk, ook⟩ := g
  have hBl : B < w.heap.size := by obtain ⟨cur, hr, _⟩ := opu.hB; exact hr.lt
  obtain ⟨rk', hrk⟩ : ∃ rk' : Nat → Nat, rk' = fun k => if k < w.heap.size then rk k else if k < w'.heap.size then (if ds'.ownBlock = some k then 4 else 5) else 0 := ⟨_, rfl⟩
  have keep : ∀ k, k < w.heap.size → rk' k = rk k := fun k hk => by rw [hrk]; exact if_pos hk
  have n5 : ¬ ((5 : Nat) = 1 ∨ 5 = 2 ∨ 5 = 4 ∨ 5 = 6 + i) := by omega
  refine ⟨rk', ⟨fun k hk => ?_, by rw [hn]; exact hpu, (keep _ opu.hp.lt).trans rpu, (keep _ hBl).trans rB, (keep _ opu.hm.lt).trans rmb, (keep _ ob.lt).trans rb, by rw [hn]; exact hb, ?_, fun k hk => (keep k (hts.lt k hk).2).trans (rts k hk), hds, fun k hk => ?_, fun j X hX => ?_, ok⟩, ⟨chg.mono (by rintro x (h | h | h | h) <;> omega), keep⟩⟩
  · have := chg.size
    rw [hrk]
    show (if k < w.heap.size then _ else if k < w'.heap.size then _ else 0) = 0
    rw [if_neg (by omega), if_neg (by omega)]
  · have := chg.owns hts (fun k hk => by rw [rts k hk]; omega)
    rw [ht, List.length_set]; exact this
  · rcases hdo with e | e
    · have hk' : ds.ownBlock = some k := by rw [← e]; exact hk
      exact (keep k (ods.lt k hk').2).trans (rds k hk')
    · have h1 := e k hk
      have h2 := (hds.lt k hk).2
      rw [hrk]
      show (if k < w.heap.size then _ else if k < w'.heap.size then (if ds'.ownBlock = some k then 4 else 5) else 0) = 4
      rw [if_neg (by omega), if_pos h2, if_pos hk]
  · rw [ht, set_get hT] at hX
    by_cases e : i = j
    · subst e
      rw [if_pos rfl] at hX
      cases hX
      obtain ⟨q, hq, t⟩ := otk i T hT
      obtain rfl : p = q := Option.some.inj (hp.symm.trans hq)
      obtain ⟨sb, a, c, cs, tov, r, h1, h2, h3, hs, htold⟩ := htk
      have pl : p < w.heap.size := by obtain ⟨_, _, _, _, _, r, _⟩ := t.ex; exact r.lt
      refine ⟨p, hp, (keep p pl).trans t.rt, sb, a, c, cs, tov, r, h1, h2, h3, hs.chg chg n5 keep, ?_⟩
      rcases htold with ht | ⟨k, c', hv, hk, ho⟩
      · exact ht.chg chg n5 keep
      · refine ⟨ho, fun k' hk' => ?_⟩
        have h4 := (ho.lt k' hk').2
        have h5 : ds'.ownBlock ≠ some k' := fun e => by
          obtain ⟨c1, r1⟩ := owns_row ho hk'
          obtain ⟨c2, r2⟩ := owns_row hds e
          unfold M.RowAt at r1 r2
          rw [r1] at r2; cases r2
        subst hv
        simp [Value.ownBlock] at hk'
        subst hk'
        rw [hrk]
        show (if k < w.heap.size then _ else if k < w'.heap.size then (if ds'.ownBlock = some k then 4 else 5) else 0) = 5
        rw [if_neg (by omega), if_pos h4, if_neg h5]
    · rw [if_neg e] at hX
      obtain ⟨q, hq, t⟩ := otk j X hX
      exact ⟨q, hq, t.chg chg n5 (by omega) keep⟩
theorem task_known {rk : Nat → Nat} {b pu B mb cap : Nat} {ts ds : Value} {tks : List Nat} {S : BS} {w : World} (g : BkG rk b pu B mb cap ts ds tks S w) {i p : Nat} (hp : tks[i]? = some p) :
    Calls Try.prog 70 #[.pointer (some ⟨b, 0, none⟩), .int .i64 i] w fun e w' => e = .returned (.pointer (some ⟨p, 0, none⟩)) ∧ w = w' := by
  obtain ⟨hi, rfl⟩ := List.getElem?_eq_some_iff.1 hp
  obtain ⟨h1, h2⟩ := ts_of g.hts
  exact task_in b pu S.n S.h ts ds tks i hi w g.hb h1 (by have := g.ok.t32; omega)
theorem task_unknown {rk : Nat → Nat} {b pu B mb cap : Nat} {ts ds : Value} {tks : List Nat} {S : BS} {w : World} (g : BkG rk b pu B mb cap ts ds tks S w) {id : Int} (hp : id < 0 ∨ (0 ≤ id ∧ (S.tl.length : Int) ≤ id)) :
    Calls Try.prog 70 #[.pointer (some ⟨b, 0, none⟩), .int .i64 id] w fun e w' => e = .returned (.pointer none) ∧ w = w' := by
  obtain ⟨h1, h2⟩ := ts_of g.hts
  exact task_out b pu S.n S.h ts ds tks id (by rw [h2]; exact hp) w g.hb h1 (by have := g.ok.t32; omega)
/-- what Step answers and leaves -/
def StepP (rk : Nat → Nat) (b : Nat) (S : BS) (id : Int) (w : World) (e : Ending) (w' : World) : Prop := e = .returned (.int .i64 (S.step id).2) ∧ ∃ rk', Bk rk' b (S.step id).1 w' ∧ Fr rk rk' w w'
theorem task_set5 {b : Nat} {id fr to am er : Int} {st told x : Value} {acted : Bool} {w : World} {p : Nat} (r : M.RowAt w p 136 (taskR b id fr to am st acted er told)) : M.RowAt (w.setCell ⟨p, 5, none⟩ x) p 136 (taskR b id fr to am x acted er told) := by
  have := r.set 5 x; exact this
section
variable {rk : Nat → Nat} {b pu B mb cap : Nat} {ts ds : Value} {tks : List Nat} {S : BS} {w : World}
theorem BkG.ne (g : BkG rk b pu B mb cap ts ds tks S w) {i p : Nat} {T : Tsk} (t : Tk rk b i p T w) : (p ≠ b ∧ p ≠ B ∧ p ≠ mb ∧ p ≠ pu) ∧ (b ≠ B ∧ b ≠ mb ∧ b ≠ pu) ∧ ∀ k, ds.ownBlock = some k → k ≠ p ∧ k ≠ b ∧ k ≠ B ∧ k ≠ mb ∧ k ≠ pu := by
  have h1 := t.rt; have h2 := g.rb; have h3 := g.rB; have h4 := g.rmb; have h5 := g.rpu
  refine ⟨⟨?_, ?_, ?_, ?_⟩, ⟨?_, ?_, ?_⟩, fun k hk => ?_⟩
  any_goals (intro e; subst e; omega)
  have h6 := g.rds k hk
  refine ⟨?_, ?_, ?_, ?_, ?_⟩ <;> (intro e; subst e; omega)
theorem BkG.tb (g : BkG rk b pu B mb cap ts ds tks S w) {i p : Nat} {T : Tsk} (t : Tk rk b i p T w) : ∃ sb a c cs tov, TB b p pu S.n S.h ts ds i T.fr T.to T.am T.er (.slice (some a) (T.m + 2 - T.k) c) tov (decide (T.m < T.k)) S.dn w ∧ (T.k < T.m + 2 → a = ⟨sb, T.k, none⟩) ∧ T.m + 2 - T.k ≤ c ∧ c ≤ maxLen ∧ StepsAt rk w p T sb cs ∧ ToldV rk w tov T.told := by
  obtain ⟨sb, a, c, cs, tov, r, h1, h2, h3, hs, ht⟩ := t.ex
  obtain ⟨⟨n1, _⟩, _, n3⟩ := g.ne t
  exact ⟨sb, a, c, cs, tov, ⟨r, g.hb, g.hds, n1, fun k hk => ⟨(n3 k hk).1, (n3 k hk).2.1⟩⟩, h1, h2, h3, hs, ht⟩
set_option maxHeartbeats 4000000 in
theorem step_lock (g : BkG rk b pu B mb cap ts ds tks S w) {i : Nat} {T : Tsk} (hT : S.tl[i]? = some T) (hk : T.k < T.m) : Calls Try.prog 47 #[.pointer (some ⟨b, 0, none⟩), .int .i64 i] w (StepP rk b S i w) := by
  obtain ⟨p, hp, t⟩ := g.tk i T hT
  obtain ⟨⟨n1, n2, n3, n4⟩, _, n5⟩ := g.ne t
  obtain ⟨sb, a, c, cs, tov, tb, h1, h2, h3, hs, ht⟩ := g.tb t
  obtain rfl := h1 (by omega)
  obtain ⟨v, hv, q0, q1, rfl, r0, r1, k0, k1⟩ := hs.lk T.k hk
  obtain ⟨s, hsd⟩ : ∃ s, T.needs[T.k]'hk = s := ⟨_, rfl⟩
  have hs' : T.needs[T.k]? = some s := by rw [← hsd]; exact List.getElem?_eq_getElem hk
  rw [hsd] at r1
  have s4 : s < 4 := Tsk.lt4 (List.mem_of_getElem? hs')
  have e86 : Enters Try.prog 86 := enters_of Try.func86 rfl rfl
  have est : S.step (i : Int) = S.stepT i T := by unfold BS.step; rw [if_pos (by omega), Int.toNat_natCast, hT]
  by_cases hh : S.h s = -1
  · have eS : S.stepT i T = ({ S with h := upF S.h s i, tl := S.tl.set i T.next }, 0) := by unfold BS.stepT; rw [hs']; exact if_pos hh
    refine (step_gen b p sb T.k (T.m + 2 - T.k) c i 86 #[] #[ptrV q0, ptrV q1] 0 (fun v => M.RowAt v b 141 (bankR pu S.n (upF S.h s i) ts ds) ∧ M.But b w v) w (by omega) h2 h3 (task_known g hp) ((tb.rt.cell 5).trans rfl) ((hs.hs.cell T.k).trans hv) e86
      (lock_free q0 q1 132 3 b p pu S.n s s4 S.h ts ds i T.fr T.to T.am T.er _ tov _ w r0 r1 tb.rt tb.rb hh) (fun v hv => ⟨((hv.2.row tb.rt n1).cell 5).trans rfl, (hv.2.row tb.rt n1).frozen 5⟩)).mono ?_
    rintro e w' ⟨_, hw⟩
    obtain ⟨rfl, v, a, ⟨hb, hbut⟩, ha, rfl⟩ := hw rfl
    rw [StepP, est, eS]
    have rp : M.RowAt v p 136 _ := hbut.row tb.rt n1
    have chg : Chg rk (fun x => x = 1 ∨ x = 2 ∨ x = 4 ∨ x = 6 + i) w (v.setCell ⟨p, 5, none⟩ (.slice (some a) (T.m + 2 - T.k - 1) (c - 1))) := (Chg.ofBut hbut (.inl g.rb)).set (p := ⟨p, 5, none⟩) (fun _ => .inr (.inr (.inr t.rt))) _
    obtain ⟨rk', g', fr'⟩ := g.stepped hT hp _ T.next { S with h := upF S.h s i, tl := S.tl.set i T.next } rfl rfl ds chg
      (g.hpu.bt ((Bt.ofBut hbut (s := [b, p]) (by simp)).set (p := ⟨p, 5, none⟩) (by simp) _) (by have := g.rpu; have := g.rb; have := t.rt; simp; constructor <;> (intro e; subst e; omega)) (by have := g.rB; have := g.rb; have := t.rt; simp; constructor <;> (intro e; subst e; omega)) (by have := g.rmb; have := g.rb; have := t.rt; simp; constructor <;> (intro e; subst e; omega)))
      (hb.far (p := ⟨p, 5, none⟩) n1 _) (owns_set (owns_bt (Bt.ofBut hbut (s := [b]) (by simp)) g.hds (fun k hk => by simp [(n5 k hk).2.1])) (p := ⟨p, 5, none⟩) (fun k hk e => (n5 k hk).1 e.symm) _) (.inl rfl)
      ⟨sb, a, c - 1, cs, tov, by
        have := task_set5 (x := .slice (some a) (T.m + 2 - T.k - 1) (c - 1)) rp
        have e1 : T.next.m + 2 - T.next.k = T.m + 2 - T.k - 1 := by show T.m + 2 - (T.k + 1) = _; omega
        have e2 : decide (T.next.m < T.next.k) = decide (T.m < T.k) := by show decide (T.m < T.k + 1) = _; simp; omega
        rw [e1, e2]; exact this, fun h => ha (by have : T.k + 1 < T.m + 2 := h; omega), by show T.m + 2 - (T.k + 1) ≤ _; omega, by omega, ⟨hs.rs, hs.hs, hs.lk, hs.ac, hs.fe⟩, .inl ht⟩ (g.ok.lock hT hs' hh)
    exact ⟨rfl, rk', ⟨pu, B, mb, cap, ts, ds, tks, g'⟩, fr'⟩
  · have eS : S.stepT i T = (S, 100) := by unfold BS.stepT; rw [hs']; exact if_neg hh
    refine (step_gen b p sb T.k (T.m + 2 - T.k) c i 86 #[] #[ptrV q0, ptrV q1] 100 (fun v => Below w.heap.size w v) w (by omega) h2 h3 (task_known g hp) ((tb.rt.cell 5).trans rfl) ((hs.hs.cell T.k).trans hv) e86
      (lock_held q0 q1 132 3 b p pu S.n s s4 S.h ts ds i T.fr T.to T.am T.er _ tov _ w r0 r1 tb.rt tb.rb hh) (fun v hv => ⟨((tb.rt.call hv).cell 5).trans rfl, (tb.rt.call hv).frozen 5⟩)).mono ?_
    rintro e w' ⟨hw, _⟩
    obtain ⟨rfl, hb⟩ := hw (by decide)
    rw [StepP, est, eS]
    exact ⟨rfl, rk, Bk.same ⟨pu, B, mb, cap, ts, ds, tks, g⟩ hb, Fr.ofBelow rk hb⟩
set_option maxHeartbeats 4000000 in
theorem step_free (g : BkG rk b pu B mb cap ts ds tks S w) {i : Nat} {T : Tsk} (hT : S.tl[i]? = some T) (hk : T.k = T.m + 1) : Calls Try.prog 47 #[.pointer (some ⟨b, 0, none⟩), .int .i64 i] w (StepP rk b S i w) := by
  obtain ⟨p, hp, t⟩ := g.tk i T hT
  obtain ⟨⟨n1, n2, n3, n4⟩, _, n5⟩ := g.ne t
  obtain ⟨sb, a, c, cs, tov, tb, h1, h2, h3, hs, ht⟩ := g.tb t
  obtain rfl := h1 (by omega)
  have hv : cs[T.k]? = some (freeV p) := by rw [hk]; exact hs.fe
  have e82 : Enters Try.prog 82 := enters_of Try.func82 rfl rfl
  have est : S.step (i : Int) = S.stepT i T := by unfold BS.step; rw [if_pos (by omega), Int.toNat_natCast, hT]
  have hno : T.needs[T.k]? = none := List.getElem?_eq_none (by show T.m ≤ T.k; omega)
  have eS : S.stepT i T = ({ S with h := fun s => if S.h s = (i : Int) then -1 else S.h s, tl := S.tl.set i T.next }, 0) := by unfold BS.stepT; rw [hno]; simp only; rw [if_neg (by omega), if_pos hk]
  refine (step_gen b p sb T.k (T.m + 2 - T.k) c i 82 #[ptrV p] #[] 0 (fun v => M.RowAt v b 141 (bankR pu S.n (fun s => if S.h s = (i : Int) then -1 else S.h s) ts ds) ∧ M.But b w v) w (by omega) h2 h3 (task_known g hp) ((tb.rt.cell 5).trans rfl) ((hs.hs.cell T.k).trans hv) e82
    (tfree_any b p pu S.n S.h ts ds i T.fr T.to T.am T.er _ tov _ w tb.rt tb.rb n1) (fun v hv => ⟨((hv.2.row tb.rt n1).cell 5).trans rfl, (hv.2.row tb.rt n1).frozen 5⟩)).mono ?_
  rintro e w' ⟨_, hw⟩
  obtain ⟨rfl, v, a, ⟨hb, hbut⟩, ha, rfl⟩ := hw rfl
  rw [StepP, est, eS]
  have rp : M.RowAt v p 136 _ := hbut.row tb.rt n1
  have chg : Chg rk (fun x => x = 1 ∨ x = 2 ∨ x = 4 ∨ x = 6 + i) w (v.setCell ⟨p, 5, none⟩ (.slice (some a) (T.m + 2 - T.k - 1) (c - 1))) := (Chg.ofBut hbut (.inl g.rb)).set (p := ⟨p, 5, none⟩) (fun _ => .inr (.inr (.inr t.rt))) _
  obtain ⟨rk', g', fr'⟩ := g.stepped hT hp _ T.next { S with h := fun s => if S.h s = (i : Int) then -1 else S.h s, tl := S.tl.set i T.next } rfl rfl ds chg
    (g.hpu.bt ((Bt.ofBut hbut (s := [b, p]) (by simp)).set (p := ⟨p, 5, none⟩) (by simp) _) (by have := g.rpu; have := g.rb; have := t.rt; simp; constructor <;> (intro e; subst e; omega)) (by have := g.rB; have := g.rb; have := t.rt; simp; constructor <;> (intro e; subst e; omega)) (by have := g.rmb; have := g.rb; have := t.rt; simp; constructor <;> (intro e; subst e; omega)))
    (hb.far (p := ⟨p, 5, none⟩) n1 _) (owns_set (owns_bt (Bt.ofBut hbut (s := [b]) (by simp)) g.hds (fun k hk => by simp [(n5 k hk).2.1])) (p := ⟨p, 5, none⟩) (fun k hk e => (n5 k hk).1 e.symm) _) (.inl rfl)
    ⟨sb, a, c - 1, cs, tov, by
      have := task_set5 (x := .slice (some a) (T.m + 2 - T.k - 1) (c - 1)) rp
      have e1 : T.next.m + 2 - T.next.k = T.m + 2 - T.k - 1 := by show T.m + 2 - (T.k + 1) = _; omega
      have e2 : decide (T.next.m < T.next.k) = decide (T.m < T.k) := by show decide (T.m < T.k + 1) = _; simp; omega
      rw [e1, e2]; exact this, fun h => absurd h (by show ¬ T.k + 1 < T.m + 2; omega), by show T.m + 2 - (T.k + 1) ≤ _; omega, by omega, ⟨hs.rs, hs.hs, hs.lk, hs.ac, hs.fe⟩, .inl ht⟩ (g.ok.free hT hk)
  exact ⟨rfl, rk', ⟨pu, B, mb, cap, ts, ds, tks, g'⟩, fr'⟩
set_option maxHeartbeats 4000000 in
theorem step_act (g : BkG rk b pu B mb cap ts ds tks S w) {i : Nat} {T : Tsk} (hT : S.tl[i]? = some T) (hk : T.k = T.m) : Calls Try.prog 47 #[.pointer (some ⟨b, 0, none⟩), .int .i64 i] w (StepP rk b S i w) := by
  obtain ⟨p, hp, t⟩ := g.tk i T hT
  obtain ⟨⟨n1, n2, n3, n4⟩, m0, n5⟩ := g.ne t
  obtain ⟨sb, a, c, cs, tov, tb, h1, h2, h3, hs, ht⟩ := g.tb t
  obtain rfl := h1 (by omega)
  have hv : cs[T.k]? = some (actV T p) := by rw [hk]; exact hs.ac
  have est : S.step (i : Int) = S.stepT i T := by unfold BS.step; rw [if_pos (by omega), Int.toNat_natCast, hT]
  have hno : T.needs[T.k]? = none := List.getElem?_eq_none (by show T.m ≤ T.k; omega)
  have eS : S.stepT i T = (S.act i T, 0) := by unfold BS.stepT; rw [hno]; simp only; rw [if_pos hk]
  have hdl : S.dn.length ≤ 100 := by have := g.ok.dnlen; have := g.ok.t32; omega
  have key : ∀ (f' : Nat → Int) (er' : Int) (told' : List Int) (TT : World → Value → Prop) (fk : Nat) (S' : BS), S' = { S with f := f', tl := S.tl.set i { T with k := T.k + 1, er := er', told := told' }, dn := S.dn ++ [i] } → S'.Ok → actV T p = .func (Fn.func fk) #[ptrV p] #[] → Enters Try.prog fk →
      (∀ v tv x, TT v tv → (ToldV rk w tv told' ∨ NewTold w.heap.size told' (v.setCell ⟨p, 5, none⟩ x) tv)) →
      Calls Try.prog fk #[ptrV p] w (ActP b p pu B mb cap S.n S.h ts ds i T.fr T.to T.am (.slice (some ⟨sb, T.k, none⟩) (T.m + 2 - T.k) c) S.dn f' er' TT w) →
      Calls Try.prog 47 #[.pointer (some ⟨b, 0, none⟩), .int .i64 i] w fun e w' => e = .returned (.int .i64 0) ∧ ∃ rk', Bk rk' b S' w' ∧ Fr rk rk' w w' := by
    intro f' er' told' TT fk S' hS' ok' ha en htt hc
    refine (step_gen b p sb T.k (T.m + 2 - T.k) c i fk #[ptrV p] #[] 0 (fun v => ∃ ds' tov', TB b p pu S.n S.h ts ds' i T.fr T.to T.am er' (.slice (some ⟨sb, T.k, none⟩) (T.m + 2 - T.k) c) tov' true (S.dn ++ [i]) v ∧ Pu pu B mb S.n cap f' [] v ∧ TT v tov' ∧ Bt (B :: mb :: p :: b :: ds.ownBlock.toList) w v ∧ (ds'.ownBlock = ds.ownBlock ∨ ∀ g, ds'.ownBlock = some g → w.heap.size ≤ g)) w
      (by omega) h2 h3 (task_known g hp) ((tb.rt.cell 5).trans rfl) ((hs.hs.cell T.k).trans (hv.trans (congrArg some ha))) en hc (fun v ⟨ds', tov', t', _⟩ => ⟨(t'.rt.cell 5).trans rfl, t'.rt.frozen 5⟩)).mono ?_
    rintro e w' ⟨_, hw⟩
    obtain ⟨rfl, v, a, ⟨ds', tov', t', hpv, hTT, hbt, hd⟩, ha, rfl⟩ := hw rfl
    refine ⟨rfl, ?_⟩
    have chg : Chg rk (fun x => x = 1 ∨ x = 2 ∨ x = 4 ∨ x = 6 + i) w (v.setCell ⟨p, 5, none⟩ (.slice (some a) (T.m + 2 - T.k - 1) (c - 1))) := (Chg.ofBt hbt (fun k hk => by
      simp only [List.mem_cons, Option.mem_toList] at hk
      rcases hk with e | e | e | e | e
      · rw [e]; exact .inr (.inl g.rB)
      · rw [e]; exact .inr (.inl g.rmb)
      · rw [e]; exact .inr (.inr (.inr t.rt))
      · rw [e]; exact .inl g.rb
      · exact .inr (.inr (.inl (g.rds k e))))).set (p := ⟨p, 5, none⟩) (fun _ => .inr (.inr (.inr t.rt))) _
    have hds' : (v.setCell ⟨p, 5, none⟩ (.slice (some a) (T.m + 2 - T.k - 1) (c - 1))).ownsRow 0 3 1 ds' (S.dn ++ [i]).length ((S.dn ++ [i]).map fun i : Nat => Value.int .i64 i) := owns_set t'.hd (p := ⟨p, 5, none⟩) (fun k hk e => (t'.n2 k hk).1 e.symm) _
    obtain ⟨rk', g', fr'⟩ := g.stepped hT hp _ { T with k := T.k + 1, er := er', told := told' } S' (by rw [hS']) (by rw [hS']) ds' chg
      (by rw [hS']; exact hpv.bt ((Bt.refl [p] v).set (p := ⟨p, 5, none⟩) (by simp) _) (by simp; exact fun e => n4 e.symm) (by simp; exact fun e => n2 e.symm) (by simp; exact fun e => n3 e.symm))
      (by rw [hS']; exact t'.rb.far (p := ⟨p, 5, none⟩) n1 _) (by rw [hS']; exact hds') hd
      ⟨sb, a, c - 1, cs, tov', by
        have := task_set5 (x := .slice (some a) (T.m + 2 - T.k - 1) (c - 1)) t'.rt
        have e1 : Tsk.m { T with k := T.k + 1, er := er', told := told' } + 2 - (T.k + 1) = T.m + 2 - T.k - 1 := by show T.m + 2 - (T.k + 1) = _; omega
        have e2 : decide (Tsk.m { T with k := T.k + 1, er := er', told := told' } < T.k + 1) = true := by show decide (T.m < T.k + 1) = _; simp; omega
        show M.RowAt _ p 136 (taskR b i T.fr T.to T.am (.slice (some a) (Tsk.m { T with k := T.k + 1, er := er', told := told' } + 2 - (T.k + 1)) (c - 1)) (decide (Tsk.m { T with k := T.k + 1, er := er', told := told' } < T.k + 1)) er' tov')
        rw [e1, e2]; exact this, fun h => ha (by have : T.k + 1 < T.m + 2 := h; omega), by show T.m + 2 - (T.k + 1) ≤ _; omega, by omega, ⟨hs.rs, hs.hs, hs.lk, hs.ac, hs.fe⟩, htt v tov' _ hTT⟩ ok'
    exact ⟨rk', ⟨pu, B, mb, cap, ts, ds', tks, g'⟩, fr'⟩
  have okA := g.ok.act hT hk
  have hu := g.ok.un i T hT (by omega)
  unfold StepP
  rw [est, eS]
  cases hl : T.lists
  · obtain ⟨_, _, ham, _⟩ := g.ok.ra i T hT hl
    have eA : S.act i T = { S with f := if movE S.n S.f T.fr T.to T.am = 0 then movF S.f T.fr.toNat T.to.toNat T.am else S.f, tl := S.tl.set i { T with k := T.k + 1, er := movE S.n S.f T.fr T.to T.am, told := T.told }, dn := S.dn ++ [i] } := by unfold BS.act; rw [hl]; rfl
    refine key _ _ T.told (fun _ v => v = tov) 73 _ eA okA (by unfold actV; rw [hl]; rfl) (enters_of Try.func73 rfl rfl) (fun v tv x e => .inl (e ▸ ht)) (tmove_any i tb g.hpu hdl ham ⟨n2, n3, n4⟩ m0 (fun k hk => (n5 k hk).2.2))
  · have eA : S.act i T = { S with f := S.f, tl := S.tl.set i { T with k := T.k + 1, er := T.er, told := S.bals }, dn := S.dn ++ [i] } := by unfold BS.act; rw [hl]; rfl
    refine key _ _ S.bals (NewTold w.heap.size S.bals) 74 _ eA okA (by unfold actV; rw [hl]; rfl) (enters_of Try.func74 rfl rfl) (fun v tv x ⟨k, c', e1, e2, e3⟩ => .inr ⟨k, c', e1, e2, owns_set e3 (p := ⟨p, 5, none⟩) (fun k' hk' e => by
      subst e1
      simp [Value.ownBlock] at hk'
      have : p < w.heap.size := tb.rt.lt
      have e : p = k' := e
      omega) x⟩) (tlist_any i tb g.hpu hdl ⟨n2, n3, n4⟩ m0 (fun k hk => (n5 k hk).2.2))
theorem step_any (h : Bk rk b S w) (id : Int) : Calls Try.prog 47 #[.pointer (some ⟨b, 0, none⟩), .int .i64 id] w (StepP rk b S id w) := by
  obtain ⟨pu, B, mb, cap, ts, ds, tks, g⟩ := h
  have same : ∀ w', w = w' → S.step id = (S, 3) → StepP rk b S id w (.returned (.int .i64 3)) w' := fun w' e e2 => by
    subst e
    unfold StepP
    rw [e2]
    exact ⟨rfl, rk, ⟨pu, B, mb, cap, ts, ds, tks, g⟩, Fr.refl _ _⟩
  by_cases h0 : 0 ≤ id
  · obtain ⟨i, rfl⟩ := Int.eq_ofNat_of_zero_le h0
    cases hT : S.tl[i]? with
    | none =>
      have hlen := List.getElem?_eq_none_iff.1 hT
      refine (step_none b i w (task_unknown g (.inr ⟨by omega, by omega⟩))).mono ?_
      rintro e w' ⟨rfl, e⟩
      exact same w' e (by unfold BS.step; rw [if_pos (by omega), Int.toNat_natCast, hT])
    | some T =>
      have hkm := g.ok.km i T hT
      by_cases k1 : T.k < T.m
      · exact step_lock g hT k1
      · by_cases k2 : T.k = T.m
        · exact step_act g hT k2
        · by_cases k3 : T.k = T.m + 1
          · exact step_free g hT k3
          · obtain ⟨p, hp, t⟩ := g.tk i T hT
            obtain ⟨sb, a, c, cs, tov, tb, _⟩ := g.tb t
            have e0 : T.m + 2 - T.k = 0 := by omega
            rw [e0] at tb
            refine (step_over b p c a i w (task_known g hp) ((tb.rt.cell 5).trans rfl)).mono ?_
            rintro e w' ⟨rfl, e⟩
            refine same w' e ?_
            unfold BS.step
            rw [if_pos (by omega), Int.toNat_natCast, hT]
            show S.stepT i T = _
            unfold BS.stepT
            rw [List.getElem?_eq_none (by show T.m ≤ T.k; omega)]
            simp only
            rw [if_neg k2, if_neg k3]
  · refine (step_none b id w (task_unknown g (.inl (by omega)))).mono ?_
    rintro e w' ⟨rfl, e⟩
    exact same w' e (by unfold BS.step; rw [if_neg h0])
end
end Go.Proofs.Ytnnnbgndbmcffaa
