/- Start and List of a bank answer, and leave, what the plain words say; the condition is that the bank lies in memory. -/
import Derived.Test.YtnnnbgndbmcffaaSrL
namespace Go.Proofs.Ytnnnbgndbmcffaa
open Go.RowKit
set_option linter.unusedVariables false

/-- what a beginning answers and leaves -/
def BeginP (rk : Nat → Nat) (b : Nat) (r : BS × Int × Int) (w : World) (e : Ending) (w' : World) : Prop := e = .returned (.tuple #[.int .i64 r.2.1, .int .i64 r.2.2]) ∧ ∃ rk', Bk rk' b r.1 w' ∧ Fr rk rk' w w'
theorem begin_ok {rk : Nat → Nat} {b pu B mb cap : Nat} {ts ds : Value} {tks : List Nat} {S : BS} {w : World} (g : BkG rk b pu B mb cap ts ds tks S w) (tk nb : Nat) (l : List Int) (T : Tsk) (rt : rk tk = 6 + S.tl.length) (row : M.RowAt w tk 136 (taskZ T.fr T.to T.am)) (rn : M.RowAt w nb 3 (i64s l)) (rb0 : rk nb = 0)
    (hz : T.k = 0 ∧ T.er = 0 ∧ T.told = []) (hneed : ∀ s, s < 4 → (T.need s = true ↔ (s : Int) ∈ l)) (hl : l.length ≤ 100) (h32 : S.tl.length < 32) (hok : ({ S with tl := S.tl ++ [T] } : BS).Ok) :
    Calls Try.prog 72 #[.pointer (some ⟨b, 0, none⟩), ptrV tk, actV T tk, .slice (some ⟨nb, 0, none⟩) l.length l.length] w (BeginP rk b ({ S with tl := S.tl ++ [T] }, S.tl.length, 0) w) := by
  obtain ⟨h1, h2⟩ := ts_of g.hts
  have tb : tk ≠ b := fun e => by have := g.rb; rw [← e, rt] at this; omega
  have tn : tk ≠ nb := fun e => by rw [← e, rt] at rb0; omega
  have tsf : ∃ g0 c0, ts = .slice g0 tks.length c0 := by
    rcases g.hts.2 with ⟨rfl, h3⟩ | ⟨gg, cap, cur, rfl, _⟩
    · exact ⟨none, 0, by rw [h2, h3]⟩
    · exact ⟨_, _, by rw [h2]⟩
  obtain ⟨g0, c0, rfl⟩ := tsf
  have hts := g.hts
  rw [← h2] at hts
  have tsn : ∀ k, (Value.slice g0 tks.length c0).ownBlock = some k → k ≠ tk ∧ k ≠ b := fun k hk => by
    have h4 := g.rts k hk; have h5 := g.rb
    constructor <;> (intro e; subst e; omega)
  refine (begin_walk tk nb l T row rn g.hb hts tb tn tsn hneed hl (by omega)).mono ?_
  rintro e w' ⟨rfl, ⟨sb, c, xs, ts', rt', ho, lx, hlk, hb', hts', htb⟩, bt⟩
  unfold BeginP
  rw [h2] at *
  have HLEN := Lib.hid (ts_of g.hts).2
  refine ⟨rfl, ?_⟩
  obtain ⟨z1, z2, z3⟩ := hz
  have hsz := bt.size
  have hBl : B < w.heap.size := by obtain ⟨cur, hr, _⟩ := g.hpu.hB; exact hr.lt
  obtain ⟨rk', hrk⟩ : ∃ rk' : Nat → Nat, rk' = fun k => if k < w.heap.size then rk k else if k < w'.heap.size then (if ts'.ownBlock = some k then 3 else 5) else 0 := ⟨_, rfl⟩
  have keep : ∀ k, k < w.heap.size → rk' k = rk k := fun k hk => by rw [hrk]; exact if_pos hk
  have mem : ∀ k, rk k ≠ 1 → rk k ≠ 3 → rk k ≠ 6 + S.tl.length → k ∉ tk :: b :: (Value.slice g0 S.tl.length c0).ownBlock.toList := fun k a1 a2 a3 hk => by
    simp only [List.mem_cons, Option.mem_toList] at hk
    rcases hk with e | e | e
    · subst e; exact a3 rt
    · subst e; exact a1 g.rb
    · exact a2 (g.rts k e)
  have chg : Chg rk (fun x => x = 1 ∨ x = 3 ∨ x = 6 + S.tl.length) w w' := ⟨bt.os, bt.tape, bt.output, bt.size, fun k hk hn => bt.block k hk (mem k (by omega) (by omega) (by omega))⟩
  have new5 : ∀ k, w.heap.size ≤ k → k < w'.heap.size → ts'.ownBlock ≠ some k → rk' k = 5 := fun k a1 a2 a3 => by
    rw [hrk]
    show (if k < w.heap.size then _ else if k < w'.heap.size then (if ts'.ownBlock = some k then 3 else 5) else 0) = 5
    rw [if_neg (by omega), if_pos a2, if_neg a3]
  have r2 : rk B = 2 := g.rB
  have r3 : rk mb = 2 := g.rmb
  have r4 : rk pu = 5 := g.rpu
  refine ⟨rk', ⟨pu, B, mb, cap, ts', ds, tks ++ [tk], ⟨fun k hk => ?_, g.hpu.bt bt (mem pu (by omega) (by omega) (by omega)) (mem B (by omega) (by omega) (by omega)) (mem mb (by omega) (by omega) (by omega)), (keep _ g.hpu.hp.lt).trans g.rpu, (keep _ hBl).trans g.rB, (keep _ g.hpu.hm.lt).trans g.rmb, (keep _ g.hb.lt).trans g.rb, hb', ?_, fun k hk => ?_, ?_, fun k hk => (keep k (g.hds.lt k hk).2).trans (g.rds k hk), fun j X hX => ?_, hok⟩⟩, chg.mono (by rintro x (h | h | h) <;> omega), keep⟩
  · rw [hrk]
    show (if k < w.heap.size then _ else if k < w'.heap.size then _ else 0) = 0
    rw [if_neg (by omega), if_neg (by omega)]
  · simpa using hts'
  · rcases htb with e | e
    · have hk' : (Value.slice g0 S.tl.length c0).ownBlock = some k := by rw [← e]; exact hk
      exact (keep k (g.hts.lt k hk').2).trans (g.rts k hk')
    · have a1 := e k hk
      have a2 := (hts'.lt k hk).2
      rw [hrk]
      show (if k < w.heap.size then _ else if k < w'.heap.size then (if ts'.ownBlock = some k then 3 else 5) else 0) = 3
      rw [if_neg (by omega), if_pos a2, if_pos hk]
  · exact chg.owns g.hds (fun k hk => by have := g.rds k hk; omega)
  · have hX : (S.tl ++ [T])[j]? = some X := hX
    by_cases hj : j < S.tl.length
    · rw [List.getElem?_append_left hj] at hX
      obtain ⟨p, hp, t⟩ := g.tk j X hX
      exact ⟨p, by rw [List.getElem?_append_left (by rw [HLEN.out]; exact hj)]; exact hp, t.chg chg (by omega) (by omega) keep⟩
    · have hj2 : j = S.tl.length := by
        have := (List.getElem?_eq_some_iff.1 hX).1
        simp at this; omega
      subst hj2
      rw [List.getElem?_append_right (Nat.le_refl _)] at hX
      simp at hX
      subst hX
      refine ⟨tk, by rw [List.getElem?_append_right (by rw [HLEN.out]; exact Nat.le_refl _)]; simp [HLEN.out], (keep tk row.lt).trans rt, ?_⟩
      rcases ho.2 with ⟨a1, _⟩ | ⟨sb', c', cs, a1, a2, a3, a4, a5, _, a7⟩
      · cases a1
      cases a1
      have tsb : ts'.ownBlock ≠ some sb := fun e => by
        obtain ⟨c2, rr2⟩ := owns_row hts' e
        unfold M.RowAt at rr2
        rw [a3] at rr2; cases rr2
      have csj : ∀ j, j < T.m + 2 → cs[j]? = (xs ++ [actV T tk, freeV tk])[j]? := fun j hj => by
        have := congrArg (fun l => l[j]?) a7
        simp only [Nat.mul_one, List.getElem?_take, if_pos hj, Array.getElem?_toList] at this
        exact this
      refine ⟨sb, ⟨sb, 0, none⟩, c, cs, .slice none 0 0, ?_, fun _ => by rw [z1], by omega, a5, ⟨new5 sb a2 (M.RowAt.lt a3) tsb, a3, fun j hj => ?_, ?_, ?_⟩, ?_⟩
      · rw [z1, z2]
        have e0 : decide (T.m < 0) = false := by simp
        rw [e0]; exact rt'
      · have hxj : xs[j]? = some (xs[j]'(by omega)) := List.getElem?_eq_getElem (by omega)
        obtain ⟨q0, q1, e, b0, b1, b2, b3, b4, b5⟩ := hlk j _ _ (List.getElem?_eq_getElem hj) hxj
        refine ⟨xs[j]'(by omega), ?_, q0, q1, e, b0, b1, new5 q0 b2 b0.lt b4, new5 q1 b3 b1.lt b5⟩
        rw [csj j (by omega), List.getElem?_append_left (by omega), hxj]
      · rw [csj _ (by omega), List.getElem?_append_right (by omega)]; simp [lx]
      · rw [csj _ (by omega), List.getElem?_append_right (by omega)]; simp [lx]
      · rw [z3]
        exact ⟨World.ownsRow_nil _ _ _ _, fun k hk => by cases hk⟩
set_option maxRecDepth 100000 in
theorem begin_full {rk : Nat → Nat} {b pu B mb cap : Nat} {ts ds : Value} {tks : List Nat} {S : BS} {w : World} (g : BkG rk b pu B mb cap ts ds tks S w) (v1 v2 v3 : Value) (h32 : 32 ≤ S.tl.length) :
    Calls Try.prog 72 #[.pointer (some ⟨b, 0, none⟩), v1, v2, v3] w (BeginP rk b (S, 0, 2) w) := by
  have z6 : w.cell? ⟨b, 6, none⟩ = some ts := (g.hb.cell 6).trans rfl
  have tsf : ∃ g0 c0, ts = .slice g0 S.tl.length c0 := by
    rcases g.hts.2 with ⟨rfl, h2⟩ | ⟨gg, cap, cur, rfl, _⟩
    · exact ⟨none, 0, by rw [h2]⟩
    · exact ⟨_, _, rfl⟩
  obtain ⟨g0, c0, rfl⟩ := tsf
  have fin : BeginP rk b (S, 0, 2) w (.returned (.tuple #[.int .i64 0, .int .i64 2])) w := ⟨rfl, rk, ⟨pu, B, mb, cap, _, ds, tks, g⟩, Fr.refl _ _⟩
  have FIN := Lib.hid fin
  have d32 : (32 : Int) ≤ (S.tl.length : Nat) := by omega
  clear g fin h32
  go_enter Try.func72, Try.ntmps72
  go_wp2
  go_ret2
  exact FIN.out
end Go.Proofs.Ytnnnbgndbmcffaa
