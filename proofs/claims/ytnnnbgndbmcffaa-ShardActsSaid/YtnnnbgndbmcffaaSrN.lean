/- Start and List of a bank answer, and leave, what the plain words say; the condition is that the bank lies in memory. -/
import Derived.Test.YtnnnbgndbmcffaaSrM
namespace Go.Proofs.Ytnnnbgndbmcffaa
open Go.RowKit
set_option linter.unusedVariables false

/-- a new block is the next task's -/
theorem BkG.grow {rk : Nat → Nat} {b pu B mb cap : Nat} {ts ds : Value} {tks : List Nat} {S : BS} {w : World} (g : BkG rk b pu B mb cap ts ds tks S w) (o : Obj) (r : Nat) : BkG (upF rk w.heap.size r) b pu B mb cap ts ds tks S (w.alloc o) ∧ Fr rk (upF rk w.heap.size r) w (w.alloc o) := by
  have keep : ∀ k, k < w.heap.size → upF rk w.heap.size r k = rk k := fun k hk => upF_ne _ (by omega) _
  have bel : Below w.heap.size w (w.alloc o) := (Below.refl _ _).alloc (Nat.le_refl _) o
  exact ⟨g.chg (Chg.ofBelow rk (fun _ => False) bel) (fun _ h => h.elim) keep (fun k hk => by rw [upF_ne _ (by simp at hk; omega)]; exact g.own k (by simp at hk; omega)), ⟨Chg.ofBelow _ _ bel, keep⟩⟩
theorem BeginP.via {rk rk1 : Nat → Nat} {b : Nat} {r : BS × Int × Int} {w v : World} {e : Ending} {w' : World} (h : BeginP rk1 b r v e w') (fr : Fr rk rk1 w v) : BeginP rk b r w e w' := by
  obtain ⟨he, rk', hb, h'⟩ := h
  exact ⟨he, rk', hb, fr.trans h'⟩
theorem begin_any {rk : Nat → Nat} {b : Nat} {S : BS} {w : World} (h : Bk rk b S w) (T : Tsk) (l : List Int) (hz : T.k = 0 ∧ T.er = 0 ∧ T.told = []) (hneed : ∀ s, s < 4 → (T.need s = true ↔ (s : Int) ∈ l)) (hl : l.length ≤ 100) (hok : (S.begin T).1.Ok) :
    Calls Try.prog 72 #[.pointer (some ⟨b, 0, none⟩), ptrV w.heap.size, actV T w.heap.size, .slice (some ⟨w.heap.size + 1, 0, none⟩) l.length l.length] ((w.alloc (.cells (taskZ T.fr T.to T.am) 136)).alloc (.cells (i64s l) 3)) (BeginP rk b (S.begin T) w) := by
  obtain ⟨pu, B, mb, cap, ts, ds, tks, g⟩ := h
  obtain ⟨g1, f1⟩ := g.grow (.cells (taskZ T.fr T.to T.am) 136) (6 + S.tl.length)
  have r1 := M.RowAt.new w 136 (taskZ T.fr T.to T.am)
  generalize hV : w.alloc (.cells (taskZ T.fr T.to T.am) 136) = V at *
  have hVs : V.heap.size = w.heap.size + 1 := by rw [← hV]; simp
  obtain ⟨g2, f2⟩ := g1.grow (.cells (i64s l) 3) 0
  have r2 := M.RowAt.new V 3 (i64s l)
  rw [hVs] at r2 g2 f2
  have f12 := f1.trans f2
  have r1' := r1.alloc (.cells (i64s l) 3)
  unfold BS.begin at hok ⊢
  by_cases h32 : 32 ≤ S.tl.length
  · rw [if_pos h32] at hok ⊢
    exact (begin_full g2 _ _ _ h32).mono fun e w' hb => hb.via f12
  · rw [if_neg h32] at hok ⊢
    refine (begin_ok g2 w.heap.size (w.heap.size + 1) l T ?_ r1' r2 ?_ hz hneed hl (by omega) hok).mono fun e w' hb => hb.via f12
    · rw [upF_ne _ (by omega), upF_same]
    · rw [upF_same]
theorem build136_0 (w : World) : (Instr.build 136 #[]).run Try.prog w = .ok (.agg (taskZ 0 0 0)) w := by kernel_rfl
theorem build136_3 (w : World) (fr to am : Int) : (Instr.build 136 #[(2, .int .i64 fr), (3, .int .i64 to), (4, .int .u64 am)]).run Try.prog w = .ok (.agg (taskZ fr to am)) w := by kernel_rfl
set_option maxRecDepth 100000 in
theorem list_any {rk : Nat → Nat} {b : Nat} {S : BS} {w : World} (h : Bk rk b S w) : Calls Try.prog 53 #[.pointer (some ⟨b, 0, none⟩)] w (BeginP rk b S.list w) := by
  have bg := begin_any h liT [0, 1, 2, 3] ⟨rfl, rfl, rfl⟩ (fun s hs => by
    obtain rfl | rfl | rfl | rfl : s = 0 ∨ s = 1 ∨ s = 2 ∨ s = 3 := by omega
    all_goals decide) (by decide) h.ok.list
  have BGH := Lib.hid (show Calls Try.prog 72 _ _ (BeginP rk b S.list w) from bg)
  have hmf := mkf
  have hb0 := build136_0
  obtain ⟨n, hn⟩ : ∃ n, w.heap.size = n := ⟨_, rfl⟩
  obtain ⟨V, hV⟩ : ∃ V, w.alloc (.cells (taskZ 0 0 0) 136) = V := ⟨_, rfl⟩
  have hVn : V.heap.size = n + 1 := by rw [← hV, ← hn]; simp
  have HN := Lib.hid hn; have HV := Lib.hid hV; have HVN := Lib.hid hVn
  rw [hn, show liT.fr = 0 from rfl, show liT.to = 0 from rfl, show liT.am = 0 from rfl, hV] at BGH
  clear bg h hn hV hVn
  go_enter Try.func53, Try.ntmps53
  go_wp2_with (first | (rw [HN.out]; simp only [taskZ] at HV; rw [HV.out]) | (rw [HVN.out]))
  refine (BGH.out).mono ?_
  rintro e w' hP
  have HE := hP.1
  subst HE
  have HP := Lib.hid hP
  clear hP
  generalize (S.list).2.1 = r1 at *
  generalize (S.list).2.2 = r2 at *
  go_wp2
  go_ret2
  exact HP.out
/-- the four tests of Start -/
theorem start_in {n : Nat} {fr to : Int} (h : (inP n fr && inP n to) = true) : ∃ a c : Nat, a < n ∧ c < n ∧ fr = (a : Int) ∧ to = (c : Int) := by
  rw [Bool.and_eq_true] at h
  obtain ⟨a, ha, rfl⟩ := in_of h.1
  obtain ⟨c, hc, rfl⟩ := in_of h.2
  exact ⟨a, c, ha, hc, rfl, rfl⟩
set_option maxRecDepth 100000 in
theorem start_yes {rk : Nat → Nat} {b : Nat} {S : BS} {w : World} (h : Bk rk b S w) (a c : Nat) (am : Int) (ha : a < S.n) (hc : c < S.n) (h0 : 0 ≤ am) : Calls Try.prog 52 #[.pointer (some ⟨b, 0, none⟩), .int .i64 (a : Nat), .int .i64 (c : Nat), .int .u64 am] w (BeginP rk b (S.start a c am) w) := by
  have hin : (inP S.n (a : Nat) && inP S.n (c : Nat)) = true := by unfold inP; simp; omega
  have eS : S.start a c am = S.begin (mvT a c am) := by unfold BS.start; rw [if_pos hin]
  have bg := begin_any h (mvT a c am) [((a % 4 : Nat) : Int), ((c % 4 : Nat) : Int)] ⟨rfl, rfl, rfl⟩ (fun s hs => by
    unfold Tsk.need mvT
    simp
    omega) (by simp) (by rw [← eS]; exact h.ok.start _ _ _ h0)
  rw [← eS] at bg
  have hc1 : w.cell? ⟨b, 1, none⟩ = some (.int .i64 S.n) := by obtain ⟨pu, B, mb, cap, ts, ds, tks, g⟩ := h; exact (g.hb.cell 1).trans rfl
  have BGH := Lib.hid bg
  have hmf := mkf
  have hb3 := build136_3
  obtain ⟨n, hn⟩ : ∃ n, w.heap.size = n := ⟨_, rfl⟩
  obtain ⟨V, hV⟩ : ∃ V, w.alloc (.cells (taskZ a c am) 136) = V := ⟨_, rfl⟩
  have hVn : V.heap.size = n + 1 := by rw [← hV, ← hn]; simp
  have HN := Lib.hid hn; have HV := Lib.hid hV; have HVN := Lib.hid hVn
  rw [hn, show (mvT a c am).fr = a from rfl, show (mvT a c am).to = c from rfl, show (mvT a c am).am = am from rfl, hV] at BGH
  have i1 : ((a : Nat) : Int) < (S.n : Nat) := by omega
  have i2 : ((c : Nat) : Int) < (S.n : Nat) := by omega
  have i3 : (0 : Int) ≤ (a : Nat) := by omega
  have i4 : (0 : Int) ≤ (c : Nat) := by omega
  have n32 := h.ok.n32
  have m1 : IntKind.i64.wrap (((a : Nat) : Int).tmod 4) = ((a % 4 : Nat) : Int) := by rw [Int.tmod_eq_emod_of_nonneg i3]; exact IntWalk.i64_in _ (by omega)
  have m2 : IntKind.i64.wrap (((c : Nat) : Int).tmod 4) = ((c % 4 : Nat) : Int) := by rw [Int.tmod_eq_emod_of_nonneg i4]; exact IntWalk.i64_in _ (by omega)
  have m3 : (((a : Nat) : Int).tmod 4) = ((a % 4 : Nat) : Int) := by rw [Int.tmod_eq_emod_of_nonneg i3]; omega
  have m4 : (((c : Nat) : Int).tmod 4) = ((c % 4 : Nat) : Int) := by rw [Int.tmod_eq_emod_of_nonneg i4]; omega
  obtain ⟨ra, hra⟩ : ∃ ra : Int, ((a % 4 : Nat) : Int) = ra := ⟨_, rfl⟩
  obtain ⟨rc, hrc⟩ : ∃ rc : Int, ((c % 4 : Nat) : Int) = rc := ⟨_, rfl⟩
  have w1 : IntKind.i64.wrap ra = ra := by rw [← hra]; exact IntWalk.i64_in _ (by omega)
  have w2 : IntKind.i64.wrap rc = rc := by rw [← hrc]; exact IntWalk.i64_in _ (by omega)
  rw [hra] at m1 m3 BGH
  rw [hrc] at m2 m4 BGH
  clear bg h hn hV hVn eS hin ha hc h0 hra hrc n32
  go_enter Try.func52, Try.ntmps52
  go_wp2_with (first | (rw [HN.out]; simp only [taskZ] at HV; rw [HV.out]) | (rw [HVN.out]))
  refine (BGH.out).mono ?_
  rintro e w' hP
  have HE := hP.1
  subst HE
  have HP := Lib.hid hP
  clear hP
  generalize (S.start (a : Int) (c : Int) am).2.1 = r1 at *
  generalize (S.start (a : Int) (c : Int) am).2.2 = r2 at *
  go_wp2
  go_ret2
  exact HP.out
set_option maxRecDepth 100000 in
theorem start_no {b : Nat} {n : Nat} {w : World} (hc1 : w.cell? ⟨b, 1, none⟩ = some (.int .i64 n)) (fr to am : Int) (h : (inP n fr && inP n to) = false) : Calls Try.prog 52 #[.pointer (some ⟨b, 0, none⟩), .int .i64 fr, .int .i64 to, .int .u64 am] w fun e w' => e = .returned (.tuple #[.int .i64 0, .int .i64 3]) ∧ w = w' := by
  by_cases h1 : fr < 0
  · have d1 : decide (fr < 0) = true := by simpa using h1
    clear h
    go_enter Try.func52, Try.ntmps52
    go_wp2
    go_ret2
    exact ⟨rfl, rfl⟩
  · have d1 : decide (fr < 0) = false := by simpa using h1
    by_cases h2 : (n : Int) ≤ fr
    · have d2 : decide ((n : Int) ≤ fr) = true := by simpa using h2
      clear h
      go_enter Try.func52, Try.ntmps52
      go_wp2
      go_ret2
      exact ⟨rfl, rfl⟩
    · have d2 : decide ((n : Int) ≤ fr) = false := by simp; omega
      by_cases h3 : to < 0
      · have d3 : decide (to < 0) = true := by simpa using h3
        clear h
        go_enter Try.func52, Try.ntmps52
        go_wp2
        go_ret2
        exact ⟨rfl, rfl⟩
      · have d3 : decide (to < 0) = false := by simpa using h3
        have h4 : (n : Int) ≤ to := by
          unfold inP at h
          simp at h
          omega
        have d4 : decide ((n : Int) ≤ to) = true := by simpa using h4
        clear h
        go_enter Try.func52, Try.ntmps52
        go_wp2
        go_ret2
        exact ⟨rfl, rfl⟩
theorem start_any {rk : Nat → Nat} {b : Nat} {S : BS} {w : World} (h : Bk rk b S w) (fr to am : Int) (h0 : 0 ≤ am) : Calls Try.prog 52 #[.pointer (some ⟨b, 0, none⟩), .int .i64 fr, .int .i64 to, .int .u64 am] w (BeginP rk b (S.start fr to am) w) := by
  cases hin : (inP S.n fr && inP S.n to)
  · have hc1 : w.cell? ⟨b, 1, none⟩ = some (.int .i64 S.n) := by obtain ⟨pu, B, mb, cap, ts, ds, tks, g⟩ := h; exact (g.hb.cell 1).trans rfl
    refine (start_no hc1 fr to am hin).mono ?_
    rintro e w' ⟨rfl, rfl⟩
    have eS : S.start fr to am = (S, 0, 3) := by unfold BS.start; rw [hin]; rfl
    rw [eS]
    exact ⟨rfl, rk, h, Fr.refl _ _⟩
  · obtain ⟨a, c, ha, hc, rfl, rfl⟩ := start_in hin
    exact start_yes h a c am ha hc h0
end Go.Proofs.Ytnnnbgndbmcffaa
