/- A post and its reference side by side: what both answer, and have, to each act; the condition is that their blocks are known. -/
import Derived.Test.YtblbhnlmbmffkaaPoP
import Derived.Test.YtblbhnlmbmffkaaRowSl
namespace Go.Proofs.Ytblbhnlmbmffkaa
open Go.RowKit
set_option linter.unusedVariables false

/-- what the reference has, if the post has E -/
def RR (nb : Nat) (E : Nat → Bx) : Rf := (List.range nb).map fun k => (bl (E k), (E k).shut)
theorem RR_len (nb : Nat) (E : Nat → Bx) : (RR nb E).length = nb := by simp [RR]
theorem RR_get {nb k : Nat} (E : Nat → Bx) (h : k < nb) : (RR nb E)[k]? = some (bl (E k), (E k).shut) := by simp [RR, h]
theorem RR_set {nb k : Nat} (E : Nat → Bx) (h : k < nb) (b : Bx) : (RR nb E).set k (bl b, b.shut) = RR nb (upB E k b) := by
  apply List.ext_getElem?
  intro i
  rw [List.getElem?_set, RR_len]
  by_cases hi : k = i
  · subst hi
    rw [if_pos rfl, if_pos h, RR_get _ h, upB_same]
  · rw [if_neg hi]
    by_cases hn : i < nb
    · rw [RR_get _ hn, RR_get _ hn]; unfold upB; rw [if_neg (fun e => hi e.symm)]
    · rw [List.getElem?_eq_none (by rw [RR_len]; omega), List.getElem?_eq_none (by rw [RR_len]; omega)]
theorem RR_zero (nb : Nat) : RR nb (fun _ => bx0) = List.replicate nb ([], false) := by
  apply List.ext_getElem?
  intro i
  by_cases hn : i < nb
  · rw [RR_get _ hn, List.getElem?_replicate, if_pos hn]; rfl
  · rw [List.getElem?_eq_none (by rw [RR_len]; omega), List.getElem?_eq_none (by simp; omega)]
theorem shut_bl {b : Bx} (h : BxOk b) : bl (shutB (tk b b.many)) = [] := by
  show bl (tk b b.many) = []
  rw [tk_bl h _ (Nat.le_refl _), ← bl_len b, List.drop_length]

section
variable {lo nb : Nat} {w : World} {v : Value} {E : Nat → Bx}
theorem rsend_any (h : RP lo w v (RR nb E)) (hlo : lo ≤ w.heap.size) (h64 : nb ≤ 64) (ok : ∀ k, BxOk (E k)) (x : Lt) :
    Calls Try.prog 16 #[v, .agg x.row] w fun e w' => ∃ v', e = .returned (.tuple #[v', .int .i64 (sendR nb E x.to)]) ∧ RP lo w' v' (RR nb (sendB nb E x)) ∧ Below w.heap.size w w' := by
  by_cases hin : 0 ≤ x.to ∧ x.to < (nb : Int)
  · obtain ⟨k, hk⟩ := Int.eq_ofNat_of_zero_le hin.1
    have hkn : k < nb := by omega
    have hg := RR_get E hkn
    have hR : sendR nb E x.to = if (E k).shut then 135 else if (E k).many = 8 then 160 else 0 := by unfold sendR; rw [if_pos hin, hk, Int.toNat_natCast]
    by_cases hz : sendR nb E x.to = 0
    · have hsh : (E k).shut = false := by
        cases hs : (E k).shut with
        | false => rfl
        | true => rw [hR, hs, if_pos rfl] at hz; cases hz
      have hm : (E k).many ≠ 8 := fun hm => by rw [hR, hsh, if_neg (by decide), if_pos hm] at hz; cases hz
      have hle := (ok k).many
      rw [hsh] at hg
      refine (rsend_yes h hlo (by rw [RR_len]; exact h64) hg (by rw [bl_len]; omega) x hk).mono ?_
      rintro e w' ⟨v', rfl, q1, q2⟩
      refine ⟨v', by rw [hz], ?_, q2⟩
      have : (RR nb E).set k (bl (E k) ++ [x], false) = RR nb (sendB nb E x) := by
        unfold sendB
        rw [if_pos hz, hk, Int.toNat_natCast, ← RR_set E hkn, put_bl (ok k) hm]
        show _ = (RR nb E).set k (_, (E k).shut)
        rw [hsh]
      rw [← this]; exact q1
    · have h8 : (E k).shut = true ∨ 8 ≤ (bl (E k)).length := by
        cases hs : (E k).shut with
        | true => exact .inl rfl
        | false =>
          rw [hR, hs, if_neg (by decide)] at hz
          by_cases hm : (E k).many = 8
          · rw [bl_len, hm]; exact .inr (Nat.le_refl _)
          · rw [if_neg hm] at hz; exact absurd rfl hz
      refine (rsend_no h hg h8 x hk).mono ?_
      rintro e w' ⟨rfl, q⟩
      refine ⟨v, ?_, ?_, q⟩
      · have : (if (E k).shut = true then (135 : Int) else 160) = sendR nb E x.to := by
          rw [hR]
          cases hs : (E k).shut with
          | true => rfl
          | false =>
            rw [hs, bl_len] at h8
            have hm : (E k).many = 8 := by have := (ok k).many; rcases h8 with h8 | h8; cases h8; omega
            simp [hm]
        rw [this]
      · unfold sendB; rw [if_neg hz]; exact h.same q
  · refine (rsend_out h x (by rw [RR_len]; exact hin)).mono ?_
    rintro e w' ⟨rfl, q⟩
    have hR : sendR nb E x.to = 3 := by unfold sendR; rw [if_neg hin]
    refine ⟨v, by rw [hR], ?_, q⟩
    unfold sendB; rw [hR, if_neg (by decide)]; exact h.same q
theorem rtake_any (h : RP lo w v (RR nb E)) (hlo : lo ≤ w.heap.size) (h64 : nb ≤ 64) (ok : ∀ k, BxOk (E k)) (x : Int) :
    Calls Try.prog 17 #[v, .int .i64 x] w fun e w' => ∃ v', e = .returned (.tuple #[v', .agg (takeV nb E x).row, .int .i64 (takeR nb E x)]) ∧ RP lo w' v' (RR nb (takeE nb E x)) ∧ Below w.heap.size w w' := by
  by_cases hz : takeR nb E x = 0
  · obtain ⟨h0, h1, h2⟩ := takeR_zero hz
    obtain ⟨k, rfl⟩ := Int.eq_ofNat_of_zero_le h0
    rw [Int.toNat_natCast] at h2
    have hkn : k < nb := by omega
    have hg := RR_get E hkn
    have hb := take_bl (ok k) h2
    rw [hb] at hg
    have hle := (ok k).many
    have hlen : (bl (takeB (E k))).length < 8 := by rw [bl_len]; show (E k).many - 1 < 8; omega
    refine (rtake_yes h hlo (by rw [RR_len]; exact h64) hg hlen).mono ?_
    rintro e w' ⟨v', rfl, q1, q2⟩
    have e1 : takeV nb E (k : Nat) = (E k).ring (E k).first := by unfold takeV; rw [if_pos hz, Int.toNat_natCast]
    have e2 : takeE nb E (k : Nat) = upB E k (takeB (E k)) := by unfold takeE; rw [if_pos hz, Int.toNat_natCast]
    have e3 : (RR nb E).set k (bl (takeB (E k)), (E k).shut) = RR nb (takeE nb E (k : Nat)) := by rw [e2, ← RR_set E hkn]; rfl
    exact ⟨v', by rw [e1, hz], by rw [← e3]; exact q1, q2⟩
  · have e1 : takeV nb E x = lt0 := by unfold takeV; rw [if_neg hz]
    have e2 : takeE nb E x = E := by unfold takeE; rw [if_neg hz]
    have e3 : takeR nb E x = 3 := by unfold takeR at hz ⊢; split at hz; exact absurd rfl hz; rename_i hh; rw [if_neg hh]
    refine (rtake_no h (x := x) ?_).mono ?_
    · by_cases hin : 0 ≤ x ∧ x < ((RR nb E).length : Int)
      · right
        rw [RR_len] at hin
        obtain ⟨k, rfl⟩ := Int.eq_ofNat_of_zero_le hin.1
        have hm : (E k).many = 0 := by
          unfold takeR at hz
          rw [Int.toNat_natCast] at hz
          by_cases hm : (E k).many = 0
          · exact hm
          · rw [if_pos ⟨hin.1, hin.2, hm⟩] at hz; exact absurd rfl hz
        refine ⟨(E k).shut, ?_, hin.1⟩
        rw [Int.toNat_natCast, RR_get E (by omega)]
        have : bl (E k) = [] := List.length_eq_zero_iff.1 (by rw [bl_len, hm])
        rw [this]
      · exact .inl hin
    · rintro e w' ⟨rfl, q⟩
      exact ⟨v, by rw [e1, e3], by rw [e2]; exact h.same q, q⟩
theorem rclose_any (h : RP lo w v (RR nb E)) (hlo : lo ≤ w.heap.size) (h64 : nb ≤ 64) (ok : ∀ k, BxOk (E k)) (x : Int) :
    Calls Try.prog 18 #[v, .int .i64 x] w fun e w' => ∃ v' s, e = .returned (.tuple #[v', s, .int .i64 (closeR nb E x)]) ∧ RP lo w' v' (RR nb (closeE nb E x)) ∧ w'.ownsRow lo 52 4 s (closeL nb E x).length (flatL (closeL nb E x)) ∧ Below w.heap.size w w' := by
  by_cases hz : closeR nb E x = 0
  · obtain ⟨h0, h1, h2⟩ := closeR_zero hz
    obtain ⟨k, rfl⟩ := Int.eq_ofNat_of_zero_le h0
    rw [Int.toNat_natCast] at h2
    have hkn : k < nb := by omega
    have hg := RR_get E hkn
    rw [h2] at hg
    refine (rclose_yes h hlo (by rw [RR_len]; exact h64) hg).mono ?_
    rintro e w' ⟨v', s, rfl, q1, q2, q3⟩
    have e1 : closeL nb E (k : Nat) = bl (E k) := by unfold closeL; rw [if_pos hz, Int.toNat_natCast]
    have e2 : closeE nb E (k : Nat) = upB E k (shutB (tk (E k) (E k).many)) := by unfold closeE; rw [if_pos hz, Int.toNat_natCast]
    have e3 : (RR nb E).set k ([], true) = RR nb (closeE nb E (k : Nat)) := by rw [e2, ← RR_set E hkn, shut_bl (ok k)]; rfl
    exact ⟨v', s, by rw [hz], by rw [← e3]; exact q1, by rw [e1]; exact q2, q3⟩
  · have e1 : closeL nb E x = [] := by unfold closeL; rw [if_neg hz]
    have e2 : closeE nb E x = E := by unfold closeE; rw [if_neg hz]
    refine (rclose_no h (x := x) (closeR nb E x) ?_).mono ?_
    · by_cases hin : 0 ≤ x ∧ x < (nb : Int)
      · right
        obtain ⟨k, rfl⟩ := Int.eq_ofNat_of_zero_le hin.1
        unfold closeR at hz ⊢
        rw [if_pos hin, Int.toNat_natCast] at hz ⊢
        cases hs : (E k).shut with
        | false => rw [hs] at hz; exact absurd rfl hz
        | true => exact ⟨bl (E k), by rw [RR_get E (by omega), hs], hin.1, rfl⟩
      · left
        refine ⟨by rw [RR_len]; exact hin, ?_⟩
        unfold closeR; rw [if_neg hin]
    · rintro e w' ⟨rfl, rfl⟩
      exact ⟨v, _, rfl, by rw [e2]; exact h, by rw [e1]; exact World.ownsRow_nil _ _ _ _, Below.refl _ _⟩
theorem rlen_any (h : RP lo w v (RR nb E)) (x : Int) : Calls Try.prog 21 #[v, .int .i64 x] w fun e w' => e = .returned (.int .i64 (lenR nb E x)) ∧ w = w' := by
  by_cases hin : 0 ≤ x ∧ x < (nb : Int)
  · obtain ⟨k, rfl⟩ := Int.eq_ofNat_of_zero_le hin.1
    have := rlen_yes h (RR_get E (show k < nb by omega))
    rw [bl_len] at this
    unfold lenR; rw [if_pos hin, Int.toNat_natCast]; exact this
  · unfold lenR; rw [if_neg hin]; exact rlen_no h (by rw [RR_len]; exact hin)
theorem rroom_any (h : RP lo w v (RR nb E)) (ok : ∀ k, BxOk (E k)) (x : Int) : Calls Try.prog 22 #[v, .int .i64 x] w fun e w' => e = .returned (.int .i64 (roomR nb E x)) ∧ w = w' := by
  by_cases hin : 0 ≤ x ∧ x < (nb : Int)
  · obtain ⟨k, rfl⟩ := Int.eq_ofNat_of_zero_le hin.1
    have := rroom_yes h (RR_get E (show k < nb by omega)) (by rw [bl_len]; exact (ok k).many)
    rw [bl_len] at this
    have e : roomR nb E (k : Nat) = if (E k).shut = true then (0 : Int) else 8 - (((E k).many : Nat) : Int) := by
      unfold roomR
      rw [Int.toNat_natCast]
      cases hs : (E k).shut with
      | true => rw [if_neg (by rintro ⟨_, _, h⟩; cases h)]; rfl
      | false => rw [if_pos ⟨hin.1, hin.2, rfl⟩]; rfl
    rw [e]; exact this
  · have e : roomR nb E x = 0 := by unfold roomR; rw [if_neg (fun hh => hin ⟨hh.1, hh.2.1⟩)]
    rw [e]; exact rroom_no h (by rw [RR_len]; exact hin)
end

/-- a post that has E, and a reference that has F, beside one another -/
structure PS (n : Nat) (w : World) (p B nb lo : Nat) (Rs : List (Nat × TypeId × Array Value)) (E F : Nat → Bx) (v : Value) (W : World) : Prop where
  pt : Pt p B nb E W
  rp : RP lo W v (RR nb F)
  fok : ∀ k, BxOk (F k)
  bel : Below n w W
  hB : B < lo
  nB : n ≤ B
  le : lo ≤ W.heap.size
  rows : ∀ r ∈ Rs, r.1 ≠ B ∧ M.RowAt W r.1 r.2.1 r.2.2
section
variable {n p B nb lo : Nat} {w W W' : World} {Rs : List (Nat × TypeId × Array Value)} {E F : Nat → Bx} {v : Value}
theorem PS.same (c : PS n w p B nb lo Rs E F v W) (hb : Below W.heap.size W W') : PS n w p B nb lo Rs E F v W' :=
  ⟨c.pt.same hb, c.rp.same hb, c.fok, c.bel.trans (hb.mono (by have := c.nB; have := c.hB; have := c.le; omega)), c.hB, c.nB, Nat.le_trans c.le hb.size, fun r hr => ⟨(c.rows r hr).1, (c.rows r hr).2.call hb⟩⟩
theorem PS.alloc (c : PS n w p B nb lo Rs E F v W) (o : Obj) : PS n w p B nb lo Rs E F v (W.alloc o) := c.same ((Below.refl _ _).alloc (Nat.le_refl _) o)
theorem PS.drew (c : PS n w p B nb lo Rs E F v W) : PS n w p B nb lo Rs E F v W.drew := c.same (Below.refl _ _).drew
theorem PS.drewN (c : PS n w p B nb lo Rs E F v W) (k : Nat) : PS n w p B nb lo Rs E F v (W.drewN k) := c.same (M.below_drewN (Below.refl _ _) k)
theorem PS.ge (c : PS n w p B nb lo Rs E F v W) : n ≤ W.heap.size := by have := c.nB; have := c.hB; have := c.le; omega
theorem PS.sl (c : PS n w p B nb lo Rs E F v W) : ∃ A cap, v = .slice A nb cap := by
  obtain ⟨A, cap, h⟩ := rp_slice c.rp
  rw [RR_len] at h; exact ⟨A, cap, h⟩
theorem PS.call {E' : Nat → Bx} (c : PS n w p B nb lo Rs E F v W) (hr : M.RowAt W' B 76 (boC E' nb)) (hb : M.But B W W') (ok : ∀ k, BxOk (E' k)) : PS n w p B nb lo Rs E' F v W' :=
  ⟨c.pt.call hb hr ok, c.rp.kept hb c.hB, c.fok, hb.below c.bel c.nB (by have := c.hB; have := c.le; have := c.nB; omega), c.hB, c.nB, Nat.le_trans c.le hb.size, fun r hr' => ⟨(c.rows r hr').1, hb.row (c.rows r hr').2 (c.rows r hr').1⟩⟩
theorem PS.new (c : PS n w p B nb lo Rs E F v W) (t : TypeId) (X : Array Value) : PS n w p B nb lo ((W.heap.size, t, X) :: Rs) E F v (W.alloc (.cells X t)) := by
  have c2 := c.alloc (.cells X t)
  exact ⟨c2.pt, c2.rp, c2.fok, c2.bel, c2.hB, c2.nB, c2.le, fun r hr => by
    rcases List.mem_cons.1 hr with rfl | hr
    · exact ⟨fun e => by have := c.hB; have := c.le; simp at e; omega, M.RowAt.new W t X⟩
    · exact c2.rows r hr⟩
theorem PS.sub {Rs' : List (Nat × TypeId × Array Value)} (c : PS n w p B nb lo Rs E F v W) (h : ∀ r ∈ Rs', r ∈ Rs) : PS n w p B nb lo Rs' E F v W := ⟨c.pt, c.rp, c.fok, c.bel, c.hB, c.nB, c.le, fun r hr => c.rows r (h r hr)⟩
theorem PS.at (c : PS n w p B nb lo Rs E F v W) {r : Nat × TypeId × Array Value} (h : r ∈ Rs) : M.RowAt W r.1 r.2.1 r.2.2 := (c.rows r h).2
theorem ps_rsend (c : PS n w p B nb lo Rs E F v W) (x : Lt) : Calls Try.prog 16 #[v, .agg x.row] W fun e W' => ∃ v', e = .returned (.tuple #[v', .int .i64 (sendR nb F x.to)]) ∧ PS n w p B nb lo Rs E (sendB nb F x) v' W' := by
  refine (rsend_any c.rp c.le c.pt.nb64 c.fok x).mono ?_
  rintro e W' ⟨v', rfl, q1, q2⟩
  have c2 := c.same q2
  exact ⟨v', rfl, c2.pt, q1, send_ok c.fok, c2.bel, c2.hB, c2.nB, c2.le, c2.rows⟩
theorem ps_rtake (c : PS n w p B nb lo Rs E F v W) (x : Int) : Calls Try.prog 17 #[v, .int .i64 x] W fun e W' => ∃ v', e = .returned (.tuple #[v', .agg (takeV nb F x).row, .int .i64 (takeR nb F x)]) ∧ PS n w p B nb lo Rs E (takeE nb F x) v' W' := by
  refine (rtake_any c.rp c.le c.pt.nb64 c.fok x).mono ?_
  rintro e W' ⟨v', rfl, q1, q2⟩
  have c2 := c.same q2
  exact ⟨v', rfl, c2.pt, q1, take_okE c.fok, c2.bel, c2.hB, c2.nB, c2.le, c2.rows⟩
theorem ps_rclose (c : PS n w p B nb lo Rs E F v W) (x : Int) : Calls Try.prog 18 #[v, .int .i64 x] W fun e W' => ∃ v' s, e = .returned (.tuple #[v', s, .int .i64 (closeR nb F x)]) ∧ PS n w p B nb lo Rs E (closeE nb F x) v' W' ∧ W'.ownsRow lo 52 4 s (closeL nb F x).length (flatL (closeL nb F x)) := by
  refine (rclose_any c.rp c.le c.pt.nb64 c.fok x).mono ?_
  rintro e W' ⟨v', s, rfl, q1, q3, q2⟩
  have c2 := c.same q2
  exact ⟨v', s, rfl, ⟨c2.pt, q1, close_ok c.fok, c2.bel, c2.hB, c2.nB, c2.le, c2.rows⟩, q3⟩
theorem ps_send (c : PS n w p B nb lo Rs E F v W) (x : Lt) : Calls Try.prog 9 #[.pointer (some ⟨p, 0, none⟩), .agg x.row] W fun e W' => e = .returned (.int .i64 (sendR nb E x.to)) ∧ PS n w p B nb lo Rs (sendB nb E x) F v W' := by
  refine (send_any c.pt x).mono ?_
  rintro e W' ⟨rfl, hr, hb⟩
  exact ⟨rfl, c.call hr hb (send_ok c.pt.ok)⟩
theorem ps_take (c : PS n w p B nb lo Rs E F v W) (x : Int) : Calls Try.prog 10 #[.pointer (some ⟨p, 0, none⟩), .int .i64 x] W fun e W' => e = .returned (.tuple #[.agg (takeV nb E x).row, .int .i64 (takeR nb E x)]) ∧ PS n w p B nb lo Rs (takeE nb E x) F v W' := by
  refine (takep_any c.pt x).mono ?_
  rintro e W' ⟨rfl, hr, hb⟩
  exact ⟨rfl, c.call hr hb (take_okE c.pt.ok)⟩
theorem ps_close (c : PS n w p B nb lo Rs E F v W) (x : Int) {s : Value} {l : List Lt} (hs : W.ownsRow lo 52 4 s l.length (flatL l)) : Calls Try.prog 14 #[.pointer (some ⟨p, 0, none⟩), .int .i64 x] W fun e W' => ∃ u, e = .returned (.tuple #[u, .int .i64 (closeR nb E x)]) ∧ PS n w p B nb lo Rs (closeE nb E x) F v W' ∧ W'.ownsRow lo 33 4 u (closeL nb E x).length (flatL (closeL nb E x)) ∧ W'.ownsRow lo 52 4 s l.length (flatL l) := by
  refine (close_any c.pt x).mono ?_
  rintro e W' ⟨u, rfl, ho, hr, hb⟩
  exact ⟨u, rfl, c.call hr hb (close_ok c.pt.ok), ho.mono c.le, hs.kept (But.grown hb) (by
    cases hob : s.ownBlock with
    | none => exact .inl rfl
    | some gb => exact .inr fun e => by have := (hs.lt gb hob).1; have := c.hB; simp at e; omega)⟩
theorem ps_rlen (c : PS n w p B nb lo Rs E F v W) (x : Int) : Calls Try.prog 21 #[v, .int .i64 x] W fun e W' => e = .returned (.int .i64 (lenR nb F x)) ∧ W = W' := rlen_any c.rp x
theorem ps_rroom (c : PS n w p B nb lo Rs E F v W) (x : Int) : Calls Try.prog 22 #[v, .int .i64 x] W fun e W' => e = .returned (.int .i64 (roomR nb F x)) ∧ W = W' := rroom_any c.rp c.fok x
theorem ps_len (c : PS n w p B nb lo Rs E F v W) (x : Int) : Calls Try.prog 13 #[.pointer (some ⟨p, 0, none⟩), .int .i64 x] W fun e W' => e = .returned (.int .i64 (lenR nb E x)) ∧ W = W' := len_any c.pt x
theorem ps_room (c : PS n w p B nb lo Rs E F v W) (x : Int) : Calls Try.prog 12 #[.pointer (some ⟨p, 0, none⟩), .int .i64 x] W fun e W' => e = .returned (.int .i64 (roomR nb E x)) ∧ PS n w p B nb lo Rs E F v W' := by
  refine (room_any c.pt x).mono ?_
  rintro e W' ⟨rfl, hb⟩
  exact ⟨rfl, c.same hb⟩
theorem ps_all (c : PS n w p B nb lo Rs E F v W) : Calls Try.prog 11 #[.pointer (some ⟨p, 0, none⟩)] W fun e W' => e = .returned (.int .i64 (sumM E nb : Nat)) ∧ W = W' := all_any c.pt
/-- the letters of a box of the reference -/
theorem PS.box (c : PS n w p B nb lo Rs E F v W) {k : Nat} (hk : k < nb) : ∃ g cap A c2, v = .slice (some ⟨g, 0, none⟩) nb cap ∧ W.cell? ⟨g, k * 2, none⟩ = some (.slice A (F k).many c2) := by
  obtain ⟨g, cap, s, r, hv, _, _, h1, h2, h3, h4⟩ := c.rp.at (k := k) (by rw [RR_len]; exact hk)
  rw [RR_len] at hv
  rw [RR_get F hk] at h1
  obtain rfl := Option.some.inj h1
  obtain ⟨A, c2, rfl⟩ := own_slice h4
  simp only [bl_len] at h2
  exact ⟨g, cap, A, c2, hv, h2⟩
end

/-- one act -/
structure Ac where
  kind : Int
  x : Lt
structure Ac.ok (x : Ac) : Prop where
  k0 : -9223372036854775808 ≤ x.kind
  k1 : x.kind ≤ 9223372036854775807
  t0 : -9223372036854775808 ≤ x.x.to
  t1 : x.x.to ≤ 9223372036854775807
  s1 : x.x.text.size ≤ maxLen
def Ac.cells (x : Ac) : List Value := .int .i64 x.kind :: x.x.cells
section
variable {H : Type} {enc : TypeId × Value → H} {w : World} {base : Nat} {sp : Nat → Bool} {held : Bool}
set_option maxRecDepth 100000 in
theorem act_of_trod (n : Nat) (cs : List Value) (y : DataW H × List MemPlace) (hl : cs.length = 5) (h : DataW.trod enc Try.prog w base sp held n 49 cs = some y) : ∃ x : Ac, cs = x.cells ∧ x.ok := by
  obtain ⟨n0, y0, h0⟩ := RowK.field_of Try.underlying49 h 0 rfl
  obtain ⟨n1, y1, h1⟩ := RowK.field_of Try.underlying49 h 1 rfl
  have c3 : Try.prog.cellsOf 3 = 1 := by kernel_rfl
  have c9 : Try.prog.cellsOf 9 = 1 := by kernel_rfl
  have c33 : Try.prog.cellsOf 33 = 4 := by kernel_rfl
  obtain ⟨k, e0, g0⟩ := RowK.int_of Try.underlying3 h0
  have e0 : (cs.drop 0).take (Try.prog.cellsOf 3) = _ := e0
  have h1 : DataW.trod enc Try.prog w base sp held n1 33 ((cs.drop 1).take (Try.prog.cellsOf 33)) = some y1 := h1
  rw [c3] at e0
  rw [c33] at h1
  obtain ⟨m0, z0, i0⟩ := RowK.field_of Try.underlying33 h1 0 rfl
  obtain ⟨m1, z1, i1⟩ := RowK.field_of Try.underlying33 h1 1 rfl
  obtain ⟨m2, z2, i2⟩ := RowK.field_of Try.underlying33 h1 2 rfl
  obtain ⟨m3, z3, i3⟩ := RowK.field_of Try.underlying33 h1 3 rfl
  obtain ⟨t, j0, w0⟩ := RowK.int_of Try.underlying3 i0
  obtain ⟨f, j1, w1⟩ := RowK.int_of Try.underlying3 i1
  obtain ⟨q, j2, w2⟩ := RowK.int_of Try.underlying3 i2
  obtain ⟨s, j3, w3⟩ := RowK.str_of Try.underlying9 i3
  have j0 : ((((cs.drop 1).take 4)).drop 0).take (Try.prog.cellsOf 3) = _ := j0
  have j1 : ((((cs.drop 1).take 4)).drop 1).take (Try.prog.cellsOf 3) = _ := j1
  have j2 : ((((cs.drop 1).take 4)).drop 2).take (Try.prog.cellsOf 3) = _ := j2
  have j3 : ((((cs.drop 1).take 4)).drop 3).take (Try.prog.cellsOf 9) = _ := j3
  rw [c3] at j0 j1 j2
  rw [c9] at j3
  refine ⟨⟨k, t, f, q, s⟩, ?_, ⟨(RowK.wf_i64 g0).1, (RowK.wf_i64 g0).2, (RowK.wf_i64 w0).1, (RowK.wf_i64 w0).2, w3⟩⟩
  match cs, hl with
  | [u0, u1, u2, u3, u4], _ =>
    simp at e0 j0 j1 j2 j3
    subst e0 j0 j1 j2 j3
    rfl
end
theorem act_at {w : World} {A : Option Addr} {l : List Ac} (h : RowK.SlAt w 5 Ac.cells A l) {k : Nat} {x : Ac} (hx : l[k]? = some x) {n : Nat} (hn : w.heap.size = n) :
    ∃ b off, A = some ⟨b, off, none⟩ ∧ b < n ∧ ∀ v, Below n w v → v.rangeAt b (off + k * 5) x.cells := by
  have hk : k < l.length := (List.getElem?_eq_some_iff.1 hx).1
  obtain ⟨b, off, rfl, hb, hr⟩ := h.at_ hk
  exact ⟨b, off, rfl, by omega, fun v hv j u hu => by rw [hv.cell (show b < n by omega)]; exact hr k x hx j u hu⟩
end Go.Proofs.Ytblbhnlmbmffkaa
