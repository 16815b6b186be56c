/- Whether a message may be, by the reference; the conditions are the types' own. -/
import Derived.Test.YtiilgkhndfnkgaaWiI
namespace Go.Proofs.Ytiilgkhndfnkgaa
open Go.RowKit Go.Shelf
set_option linter.unusedVariables false

theorem hash_eql (l l' : List Int) (h : l.length = 32) (h' : l'.length = 32) (hb : ∀ x ∈ l, 0 ≤ x ∧ x ≤ 255) (hb' : ∀ x ∈ l', 0 ≤ x ∧ x ≤ 255) (b : Bool) (hbb : b = true ↔ l = l') (W : World) :
    (Op.equalIn 10000 33 (.agg (ints l).toArray) (.agg (ints l').toArray)).run Try.prog W = .ok b W := by
  have hk : Try.prog.keyTypeAt 9 33 = true := by kernel_rfl
  have c33 : Try.prog.cellsOf 33 = 32 := by kernel_rfl
  have fm : ∀ l : List Int, l.length = 32 → (Value.agg (ints l).toArray).formed Try.prog 33 = true := fun l hl => by
    simp [Value.formed, Try.underlying33, c33, ints_len', hl]
  obtain ⟨r, hr, hiff⟩ := run_equalIn_deep (P := Try.prog) 9991 9 33 hk W 9 9 (.agg (ints l).toArray) (.agg (ints l').toArray) (hlits l) (hlits l') (fm l h) (fm l' h') (hash_lits 7 l h hb) (hash_lits 7 l' h' hb')
  rw [hr]
  have : r = b := by
    rw [Bool.eq_iff_iff, hiff, hbb]
    exact ⟨hlits_inj, fun e => by rw [e]⟩
  rw [this]
/-- the ranges -/
structure Rng (m : Msg) : Prop where
  k0 : 1 ≤ m.kind
  k1 : m.kind ≤ 9
  e0 : 0 ≤ m.expiry
  e1 : m.expiry ≤ 1073741824
  n0 : 0 ≤ m.number
  n1 : m.number ≤ 65535
  a1 : m.amount ≤ 1125899906842624
def InC (S : ByteArray) (c : Int) (b : Bool) : Prop := ∀ W, Calls Try.prog 49 #[.string S, .int .u8 c] W fun e w' => e = .returned (.bool b) ∧ W = w'
def combo : List (Bool × Bool × Bool × Bool × Bool) := [(false, false, false, false, false), (false, true, false, false, false), (true, true, true, true, false), (true, false, true, false, false), (true, false, false, false, true), (false, false, true, false, true)]
set_option maxRecDepth 100000 in
set_option maxHeartbeats 16000000 in
theorem rmay_core (m : Msg) (h : m.ok) (S : ByteArray) (hS : lets m.kind = S) (bi ba bh be bn : Bool) (hc : (bi, ba, bh, be, bn) ∈ combo) (Ii : InC S 105 bi) (Ia : InC S 97 ba) (Ih : InC S 104 bh) (Ie : InC S 101 be) (In : InC S 110 bn)
    (b : Bool) (hb : b = true ↔ (Rng m ∧ (bi = true ∨ m.id = 0) ∧ (ba = true ∨ m.amount = 0) ∧ (bh = true ∨ m.hash = z32) ∧ (be = true ∨ m.expiry = 0) ∧ (bn = true ∨ m.number = 0))) (w : World) :
    Calls Try.prog 36 #[.agg m.row] w fun e w' => e = .returned (.bool b) ∧ Below w.heap.size w w' := by
  obtain ⟨n, hn⟩ : ∃ n, w.heap.size = n := ⟨_, rfl⟩
  obtain ⟨V, hV⟩ : ∃ V, w.alloc (.cells m.row 65) = V := ⟨_, rfl⟩
  have rV : M.RowAt V n 65 m.row := by rw [← hV, ← hn]; exact M.RowAt.new w 65 _
  have bV : Below n w V := by rw [← hV, ← hn]; exact (Below.refl _ w).alloc (Nat.le_refl _) _
  have fa := rfields_any m.kind V
  rw [hS] at fa
  rw [hn]
  have c0 := (rV.cell 0).trans Msg.g0
  have c2 := (rV.cell 2).trans Msg.g2
  have c3 := (rV.cell 3).trans Msg.g3
  have c36 := (rV.cell 36).trans (Msg.g36 h.h32)
  have c37 := (rV.cell 37).trans (Msg.g37 h.h32)
  have rh := Msg.range rV h.h32
  have FA := Lib.hid fa; have HN := Lib.hid hn; have HV := Lib.hid hV; have BV := Lib.hid bV; have HB := Lib.hid hb; have HO := Lib.hid h
  have RH := Lib.hid rh
  unfold InC at Ii Ia Ih Ie In
  have IHI := Lib.hid Ii; have IHA := Lib.hid Ia; have IHH := Lib.hid Ih; have IHE := Lib.hid Ie; have IHN := Lib.hid In
  have iH : (Try.prog.info? 33).map (·.size) = some (ints m.hash).length := by rw [ints_len', h.h32]; kernel_rfl
  have hno : ∀ Q : Prop, (Rng m → Q) → ¬ Q → b = false := fun Q hp hq => by
    cases hbb : b with
    | false => rfl
    | true => exact absurd (hp (hb.1 hbb).1) hq
  have HNO := Lib.hid hno
  have HC := Lib.hid hc
  have heqz := fun (bz : Bool) (hz : bz = true ↔ m.hash = z32) => hash_eql m.hash z32 h.h32 rfl h.hb (fun x hx => z_in hx) bz hz
  rw [zz32] at heqz
  have HEQ := Lib.hid heqz
  clear fa rV bV hV hn h hb hS Ii Ia Ih Ie In rh hno hc heqz
  by_cases p0 : m.kind < 1
  · obtain rfl := HNO.out (1 ≤ m.kind) (fun q => q.k0) (by omega)
    have d0 : decide (m.kind < 1) = true := by simpa using p0
    clear p0
    clear HB HNO HC HO
    generalize m.row = X at *
    generalize m.kind = kd at *
    generalize m.expiry = ex at *
    generalize m.number = nu at *
    generalize m.amount = am at *
    generalize m.id = idd at *
    generalize m.hash = hh at *
    go_enter Try.func36, Try.ntmps36
    go_wp2_with (first | (rw [HN.out, HV.out]) | ((with_reducible refine (FA.out).mono ?_); rintro e w1 ⟨rfl, rfl⟩) | ((with_reducible refine (IHI.out _).mono ?_); rintro e w1 ⟨rfl, rfl⟩) | ((with_reducible refine (IHA.out _).mono ?_); rintro e w1 ⟨rfl, rfl⟩) | ((with_reducible refine (IHH.out _).mono ?_); rintro e w1 ⟨rfl, rfl⟩) | ((with_reducible refine (IHE.out _).mono ?_); rintro e w1 ⟨rfl, rfl⟩) | ((with_reducible refine (IHN.out _).mono ?_); rintro e w1 ⟨rfl, rfl⟩) | fail)
    go_ret
    exact ⟨rfl, BV.out⟩
  have d0 : decide (m.kind < 1) = false := by simpa using p0
  by_cases p1 : 9 < m.kind
  · obtain rfl := HNO.out (m.kind ≤ 9) (fun q => q.k1) (by omega)
    have d1 : decide ((9 : Int) < m.kind) = true := by simpa using p1
    clear p0 p1
    clear HB HNO HC HO
    generalize m.row = X at *
    generalize m.kind = kd at *
    generalize m.expiry = ex at *
    generalize m.number = nu at *
    generalize m.amount = am at *
    generalize m.id = idd at *
    generalize m.hash = hh at *
    go_enter Try.func36, Try.ntmps36
    go_wp2_with (first | (rw [HN.out, HV.out]) | ((with_reducible refine (FA.out).mono ?_); rintro e w1 ⟨rfl, rfl⟩) | ((with_reducible refine (IHI.out _).mono ?_); rintro e w1 ⟨rfl, rfl⟩) | ((with_reducible refine (IHA.out _).mono ?_); rintro e w1 ⟨rfl, rfl⟩) | ((with_reducible refine (IHH.out _).mono ?_); rintro e w1 ⟨rfl, rfl⟩) | ((with_reducible refine (IHE.out _).mono ?_); rintro e w1 ⟨rfl, rfl⟩) | ((with_reducible refine (IHN.out _).mono ?_); rintro e w1 ⟨rfl, rfl⟩) | fail)
    go_ret
    exact ⟨rfl, BV.out⟩
  have d1 : decide ((9 : Int) < m.kind) = false := by simpa using p1
  by_cases p2 : m.expiry < 0
  · obtain rfl := HNO.out (0 ≤ m.expiry) (fun q => q.e0) (by omega)
    have d2 : decide (m.expiry < 0) = true := by simpa using p2
    clear p0 p1 p2
    clear HB HNO HC HO
    generalize m.row = X at *
    generalize m.kind = kd at *
    generalize m.expiry = ex at *
    generalize m.number = nu at *
    generalize m.amount = am at *
    generalize m.id = idd at *
    generalize m.hash = hh at *
    go_enter Try.func36, Try.ntmps36
    go_wp2_with (first | (rw [HN.out, HV.out]) | ((with_reducible refine (FA.out).mono ?_); rintro e w1 ⟨rfl, rfl⟩) | ((with_reducible refine (IHI.out _).mono ?_); rintro e w1 ⟨rfl, rfl⟩) | ((with_reducible refine (IHA.out _).mono ?_); rintro e w1 ⟨rfl, rfl⟩) | ((with_reducible refine (IHH.out _).mono ?_); rintro e w1 ⟨rfl, rfl⟩) | ((with_reducible refine (IHE.out _).mono ?_); rintro e w1 ⟨rfl, rfl⟩) | ((with_reducible refine (IHN.out _).mono ?_); rintro e w1 ⟨rfl, rfl⟩) | fail)
    go_ret
    exact ⟨rfl, BV.out⟩
  have d2 : decide (m.expiry < 0) = false := by simpa using p2
  by_cases p3 : 1073741824 < m.expiry
  · obtain rfl := HNO.out (m.expiry ≤ 1073741824) (fun q => q.e1) (by omega)
    have d3 : decide ((1073741824 : Int) < m.expiry) = true := by simpa using p3
    clear p0 p1 p2 p3
    clear HB HNO HC HO
    generalize m.row = X at *
    generalize m.kind = kd at *
    generalize m.expiry = ex at *
    generalize m.number = nu at *
    generalize m.amount = am at *
    generalize m.id = idd at *
    generalize m.hash = hh at *
    go_enter Try.func36, Try.ntmps36
    go_wp2_with (first | (rw [HN.out, HV.out]) | ((with_reducible refine (FA.out).mono ?_); rintro e w1 ⟨rfl, rfl⟩) | ((with_reducible refine (IHI.out _).mono ?_); rintro e w1 ⟨rfl, rfl⟩) | ((with_reducible refine (IHA.out _).mono ?_); rintro e w1 ⟨rfl, rfl⟩) | ((with_reducible refine (IHH.out _).mono ?_); rintro e w1 ⟨rfl, rfl⟩) | ((with_reducible refine (IHE.out _).mono ?_); rintro e w1 ⟨rfl, rfl⟩) | ((with_reducible refine (IHN.out _).mono ?_); rintro e w1 ⟨rfl, rfl⟩) | fail)
    go_ret
    exact ⟨rfl, BV.out⟩
  have d3 : decide ((1073741824 : Int) < m.expiry) = false := by simpa using p3
  by_cases p4 : m.number < 0
  · obtain rfl := HNO.out (0 ≤ m.number) (fun q => q.n0) (by omega)
    have d4 : decide (m.number < 0) = true := by simpa using p4
    clear p0 p1 p2 p3 p4
    clear HB HNO HC HO
    generalize m.row = X at *
    generalize m.kind = kd at *
    generalize m.expiry = ex at *
    generalize m.number = nu at *
    generalize m.amount = am at *
    generalize m.id = idd at *
    generalize m.hash = hh at *
    go_enter Try.func36, Try.ntmps36
    go_wp2_with (first | (rw [HN.out, HV.out]) | ((with_reducible refine (FA.out).mono ?_); rintro e w1 ⟨rfl, rfl⟩) | ((with_reducible refine (IHI.out _).mono ?_); rintro e w1 ⟨rfl, rfl⟩) | ((with_reducible refine (IHA.out _).mono ?_); rintro e w1 ⟨rfl, rfl⟩) | ((with_reducible refine (IHH.out _).mono ?_); rintro e w1 ⟨rfl, rfl⟩) | ((with_reducible refine (IHE.out _).mono ?_); rintro e w1 ⟨rfl, rfl⟩) | ((with_reducible refine (IHN.out _).mono ?_); rintro e w1 ⟨rfl, rfl⟩) | fail)
    go_ret
    exact ⟨rfl, BV.out⟩
  have d4 : decide (m.number < 0) = false := by simpa using p4
  by_cases p5 : 65535 < m.number
  · obtain rfl := HNO.out (m.number ≤ 65535) (fun q => q.n1) (by omega)
    have d5 : decide ((65535 : Int) < m.number) = true := by simpa using p5
    clear p0 p1 p2 p3 p4 p5
    clear HB HNO HC HO
    generalize m.row = X at *
    generalize m.kind = kd at *
    generalize m.expiry = ex at *
    generalize m.number = nu at *
    generalize m.amount = am at *
    generalize m.id = idd at *
    generalize m.hash = hh at *
    go_enter Try.func36, Try.ntmps36
    go_wp2_with (first | (rw [HN.out, HV.out]) | ((with_reducible refine (FA.out).mono ?_); rintro e w1 ⟨rfl, rfl⟩) | ((with_reducible refine (IHI.out _).mono ?_); rintro e w1 ⟨rfl, rfl⟩) | ((with_reducible refine (IHA.out _).mono ?_); rintro e w1 ⟨rfl, rfl⟩) | ((with_reducible refine (IHH.out _).mono ?_); rintro e w1 ⟨rfl, rfl⟩) | ((with_reducible refine (IHE.out _).mono ?_); rintro e w1 ⟨rfl, rfl⟩) | ((with_reducible refine (IHN.out _).mono ?_); rintro e w1 ⟨rfl, rfl⟩) | fail)
    go_ret
    exact ⟨rfl, BV.out⟩
  have d5 : decide ((65535 : Int) < m.number) = false := by simpa using p5
  by_cases p6 : 1125899906842624 < m.amount
  · obtain rfl := HNO.out (m.amount ≤ 1125899906842624) (fun q => q.a1) (by omega)
    have d6 : decide ((1125899906842624 : Int) < m.amount) = true := by simpa using p6
    clear p0 p1 p2 p3 p4 p5 p6
    clear HB HNO HC HO
    generalize m.row = X at *
    generalize m.kind = kd at *
    generalize m.expiry = ex at *
    generalize m.number = nu at *
    generalize m.amount = am at *
    generalize m.id = idd at *
    generalize m.hash = hh at *
    go_enter Try.func36, Try.ntmps36
    go_wp2_with (first | (rw [HN.out, HV.out]) | ((with_reducible refine (FA.out).mono ?_); rintro e w1 ⟨rfl, rfl⟩) | ((with_reducible refine (IHI.out _).mono ?_); rintro e w1 ⟨rfl, rfl⟩) | ((with_reducible refine (IHA.out _).mono ?_); rintro e w1 ⟨rfl, rfl⟩) | ((with_reducible refine (IHH.out _).mono ?_); rintro e w1 ⟨rfl, rfl⟩) | ((with_reducible refine (IHE.out _).mono ?_); rintro e w1 ⟨rfl, rfl⟩) | ((with_reducible refine (IHN.out _).mono ?_); rintro e w1 ⟨rfl, rfl⟩) | fail)
    go_ret
    exact ⟨rfl, BV.out⟩
  have d6 : decide ((1125899906842624 : Int) < m.amount) = false := by simpa using p6
  have rg : Rng m := ⟨by omega, by omega, by omega, by omega, by omega, by omega, by omega⟩
  have RG := Lib.hid rg
  clear rg p0 p1 p2 p3 p4 p5 p6
  have hc := HC.out
  simp only [combo, List.mem_cons, Prod.mk.injEq, List.not_mem_nil, or_false] at hc
  rcases hc with ⟨rfl, rfl, rfl, rfl, rfl⟩ | ⟨rfl, rfl, rfl, rfl, rfl⟩ | ⟨rfl, rfl, rfl, rfl, rfl⟩ | ⟨rfl, rfl, rfl, rfl, rfl⟩ | ⟨rfl, rfl, rfl, rfl, rfl⟩ | ⟨rfl, rfl, rfl, rfl, rfl⟩
  · skip
    by_cases z0 : m.id = 0
    · have g0 : (m.id == 0) = true := by simpa using z0
      by_cases z1 : m.amount = 0
      · have g1 : (m.amount == 0) = true := by simpa using z1
        by_cases z2 : m.hash = z32
        · skip
          by_cases z3 : m.expiry = 0
          · have g3 : (m.expiry == 0) = true := by simpa using z3
            by_cases z4 : m.number = 0
            · have g4 : (m.number == 0) = true := by simpa using z4
              obtain rfl : b = true := HB.out.2 ⟨RG.out, .inr z0, .inr z1, .inr z2, .inr z3, .inr z4⟩
              have EQ := Lib.hid (HEQ.out true (by simp [z2]))
              clear z0 z1 z2 z3 z4 RG HEQ
              clear HB HNO HC HO
              generalize m.row = X at *
              generalize m.kind = kd at *
              generalize m.expiry = ex at *
              generalize m.number = nu at *
              generalize m.amount = am at *
              generalize m.id = idd at *
              generalize m.hash = hh at *
              go_enter Try.func36, Try.ntmps36
              go_wp2_with (first | (rw [HN.out, HV.out]) | ((with_reducible refine (FA.out).mono ?_); rintro e w1 ⟨rfl, rfl⟩) | ((with_reducible refine (IHI.out _).mono ?_); rintro e w1 ⟨rfl, rfl⟩) | ((with_reducible refine (IHA.out _).mono ?_); rintro e w1 ⟨rfl, rfl⟩) | ((with_reducible refine (IHH.out _).mono ?_); rintro e w1 ⟨rfl, rfl⟩) | ((with_reducible refine (IHE.out _).mono ?_); rintro e w1 ⟨rfl, rfl⟩) | ((with_reducible refine (IHN.out _).mono ?_); rintro e w1 ⟨rfl, rfl⟩) | (refine wpList_load_mid_g (x := .tmp 60) (ty := 33) (b := n) (p := 4) (cs := ints hh) ?_ ?_ ?_ _ RH.out Try.underlying33 rfl iH ?_; rfl; rfl; rfl) | (refine wpList_eql (x := .tmp 61) (y := .tmp 62) (ty := 33) (t := 33) (A := (ints hh).toArray) ?_ ?_ Z32 ?_ ?_ true guard33 EQ.out ?_; rfl; rfl; rfl; rfl) | fail)
              go_ret
              exact ⟨rfl, BV.out⟩
            · obtain rfl : b = false := by
                cases hbb : b with
                | false => rfl
                | true => have q := (HB.out.1 hbb).2; exact absurd (q.2.2.2.2.resolve_left (by decide)) z4
              have g4 : (m.number == 0) = false := by simpa using z4
              have EQ := Lib.hid (HEQ.out true (by simp [z2]))
              clear z0 z1 z2 z3 z4 RG HEQ
              clear HB HNO HC HO
              generalize m.row = X at *
              generalize m.kind = kd at *
              generalize m.expiry = ex at *
              generalize m.number = nu at *
              generalize m.amount = am at *
              generalize m.id = idd at *
              generalize m.hash = hh at *
              go_enter Try.func36, Try.ntmps36
              go_wp2_with (first | (rw [HN.out, HV.out]) | ((with_reducible refine (FA.out).mono ?_); rintro e w1 ⟨rfl, rfl⟩) | ((with_reducible refine (IHI.out _).mono ?_); rintro e w1 ⟨rfl, rfl⟩) | ((with_reducible refine (IHA.out _).mono ?_); rintro e w1 ⟨rfl, rfl⟩) | ((with_reducible refine (IHH.out _).mono ?_); rintro e w1 ⟨rfl, rfl⟩) | ((with_reducible refine (IHE.out _).mono ?_); rintro e w1 ⟨rfl, rfl⟩) | ((with_reducible refine (IHN.out _).mono ?_); rintro e w1 ⟨rfl, rfl⟩) | (refine wpList_load_mid_g (x := .tmp 60) (ty := 33) (b := n) (p := 4) (cs := ints hh) ?_ ?_ ?_ _ RH.out Try.underlying33 rfl iH ?_; rfl; rfl; rfl) | (refine wpList_eql (x := .tmp 61) (y := .tmp 62) (ty := 33) (t := 33) (A := (ints hh).toArray) ?_ ?_ Z32 ?_ ?_ true guard33 EQ.out ?_; rfl; rfl; rfl; rfl) | fail)
              go_ret
              exact ⟨rfl, BV.out⟩
          · obtain rfl : b = false := by
              cases hbb : b with
              | false => rfl
              | true => have q := (HB.out.1 hbb).2; exact absurd (q.2.2.2.1.resolve_left (by decide)) z3
            have g3 : (m.expiry == 0) = false := by simpa using z3
            have EQ := Lib.hid (HEQ.out true (by simp [z2]))
            clear z0 z1 z2 z3 RG HEQ
            clear HB HNO HC HO
            generalize m.row = X at *
            generalize m.kind = kd at *
            generalize m.expiry = ex at *
            generalize m.number = nu at *
            generalize m.amount = am at *
            generalize m.id = idd at *
            generalize m.hash = hh at *
            go_enter Try.func36, Try.ntmps36
            go_wp2_with (first | (rw [HN.out, HV.out]) | ((with_reducible refine (FA.out).mono ?_); rintro e w1 ⟨rfl, rfl⟩) | ((with_reducible refine (IHI.out _).mono ?_); rintro e w1 ⟨rfl, rfl⟩) | ((with_reducible refine (IHA.out _).mono ?_); rintro e w1 ⟨rfl, rfl⟩) | ((with_reducible refine (IHH.out _).mono ?_); rintro e w1 ⟨rfl, rfl⟩) | ((with_reducible refine (IHE.out _).mono ?_); rintro e w1 ⟨rfl, rfl⟩) | ((with_reducible refine (IHN.out _).mono ?_); rintro e w1 ⟨rfl, rfl⟩) | (refine wpList_load_mid_g (x := .tmp 60) (ty := 33) (b := n) (p := 4) (cs := ints hh) ?_ ?_ ?_ _ RH.out Try.underlying33 rfl iH ?_; rfl; rfl; rfl) | (refine wpList_eql (x := .tmp 61) (y := .tmp 62) (ty := 33) (t := 33) (A := (ints hh).toArray) ?_ ?_ Z32 ?_ ?_ true guard33 EQ.out ?_; rfl; rfl; rfl; rfl) | fail)
            go_ret
            exact ⟨rfl, BV.out⟩
        · obtain rfl : b = false := by
            cases hbb : b with
            | false => rfl
            | true => have q := (HB.out.1 hbb).2; exact absurd (q.2.2.1.resolve_left (by decide)) z2
          have EQ := Lib.hid (HEQ.out false (by simp [z2]))
          clear z0 z1 z2 RG HEQ
          clear HB HNO HC HO
          generalize m.row = X at *
          generalize m.kind = kd at *
          generalize m.expiry = ex at *
          generalize m.number = nu at *
          generalize m.amount = am at *
          generalize m.id = idd at *
          generalize m.hash = hh at *
          go_enter Try.func36, Try.ntmps36
          go_wp2_with (first | (rw [HN.out, HV.out]) | ((with_reducible refine (FA.out).mono ?_); rintro e w1 ⟨rfl, rfl⟩) | ((with_reducible refine (IHI.out _).mono ?_); rintro e w1 ⟨rfl, rfl⟩) | ((with_reducible refine (IHA.out _).mono ?_); rintro e w1 ⟨rfl, rfl⟩) | ((with_reducible refine (IHH.out _).mono ?_); rintro e w1 ⟨rfl, rfl⟩) | ((with_reducible refine (IHE.out _).mono ?_); rintro e w1 ⟨rfl, rfl⟩) | ((with_reducible refine (IHN.out _).mono ?_); rintro e w1 ⟨rfl, rfl⟩) | (refine wpList_load_mid_g (x := .tmp 60) (ty := 33) (b := n) (p := 4) (cs := ints hh) ?_ ?_ ?_ _ RH.out Try.underlying33 rfl iH ?_; rfl; rfl; rfl) | (refine wpList_eql (x := .tmp 61) (y := .tmp 62) (ty := 33) (t := 33) (A := (ints hh).toArray) ?_ ?_ Z32 ?_ ?_ false guard33 EQ.out ?_; rfl; rfl; rfl; rfl) | fail)
          go_ret
          exact ⟨rfl, BV.out⟩
      · obtain rfl : b = false := by
          cases hbb : b with
          | false => rfl
          | true => have q := (HB.out.1 hbb).2; exact absurd (q.2.1.resolve_left (by decide)) z1
        have g1 : (m.amount == 0) = false := by simpa using z1
        clear z0 z1 RG HEQ
        clear HB HNO HC HO
        generalize m.row = X at *
        generalize m.kind = kd at *
        generalize m.expiry = ex at *
        generalize m.number = nu at *
        generalize m.amount = am at *
        generalize m.id = idd at *
        generalize m.hash = hh at *
        go_enter Try.func36, Try.ntmps36
        go_wp2_with (first | (rw [HN.out, HV.out]) | ((with_reducible refine (FA.out).mono ?_); rintro e w1 ⟨rfl, rfl⟩) | ((with_reducible refine (IHI.out _).mono ?_); rintro e w1 ⟨rfl, rfl⟩) | ((with_reducible refine (IHA.out _).mono ?_); rintro e w1 ⟨rfl, rfl⟩) | ((with_reducible refine (IHH.out _).mono ?_); rintro e w1 ⟨rfl, rfl⟩) | ((with_reducible refine (IHE.out _).mono ?_); rintro e w1 ⟨rfl, rfl⟩) | ((with_reducible refine (IHN.out _).mono ?_); rintro e w1 ⟨rfl, rfl⟩) | fail)
        go_ret
        exact ⟨rfl, BV.out⟩
    · obtain rfl : b = false := by
        cases hbb : b with
        | false => rfl
        | true => have q := (HB.out.1 hbb).2; exact absurd (q.1.resolve_left (by decide)) z0
      have g0 : (m.id == 0) = false := by simpa using z0
      clear z0 RG HEQ
      clear HB HNO HC HO
      generalize m.row = X at *
      generalize m.kind = kd at *
      generalize m.expiry = ex at *
      generalize m.number = nu at *
      generalize m.amount = am at *
      generalize m.id = idd at *
      generalize m.hash = hh at *
      go_enter Try.func36, Try.ntmps36
      go_wp2_with (first | (rw [HN.out, HV.out]) | ((with_reducible refine (FA.out).mono ?_); rintro e w1 ⟨rfl, rfl⟩) | ((with_reducible refine (IHI.out _).mono ?_); rintro e w1 ⟨rfl, rfl⟩) | ((with_reducible refine (IHA.out _).mono ?_); rintro e w1 ⟨rfl, rfl⟩) | ((with_reducible refine (IHH.out _).mono ?_); rintro e w1 ⟨rfl, rfl⟩) | ((with_reducible refine (IHE.out _).mono ?_); rintro e w1 ⟨rfl, rfl⟩) | ((with_reducible refine (IHN.out _).mono ?_); rintro e w1 ⟨rfl, rfl⟩) | fail)
      go_ret
      exact ⟨rfl, BV.out⟩
  · skip
    by_cases z0 : m.id = 0
    · have g0 : (m.id == 0) = true := by simpa using z0
      by_cases z2 : m.hash = z32
      · skip
        by_cases z3 : m.expiry = 0
        · have g3 : (m.expiry == 0) = true := by simpa using z3
          by_cases z4 : m.number = 0
          · have g4 : (m.number == 0) = true := by simpa using z4
            obtain rfl : b = true := HB.out.2 ⟨RG.out, .inr z0, .inl rfl, .inr z2, .inr z3, .inr z4⟩
            have EQ := Lib.hid (HEQ.out true (by simp [z2]))
            clear z0 z2 z3 z4 RG HEQ
            clear HB HNO HC HO
            generalize m.row = X at *
            generalize m.kind = kd at *
            generalize m.expiry = ex at *
            generalize m.number = nu at *
            generalize m.amount = am at *
            generalize m.id = idd at *
            generalize m.hash = hh at *
            go_enter Try.func36, Try.ntmps36
            go_wp2_with (first | (rw [HN.out, HV.out]) | ((with_reducible refine (FA.out).mono ?_); rintro e w1 ⟨rfl, rfl⟩) | ((with_reducible refine (IHI.out _).mono ?_); rintro e w1 ⟨rfl, rfl⟩) | ((with_reducible refine (IHA.out _).mono ?_); rintro e w1 ⟨rfl, rfl⟩) | ((with_reducible refine (IHH.out _).mono ?_); rintro e w1 ⟨rfl, rfl⟩) | ((with_reducible refine (IHE.out _).mono ?_); rintro e w1 ⟨rfl, rfl⟩) | ((with_reducible refine (IHN.out _).mono ?_); rintro e w1 ⟨rfl, rfl⟩) | (refine wpList_load_mid_g (x := .tmp 60) (ty := 33) (b := n) (p := 4) (cs := ints hh) ?_ ?_ ?_ _ RH.out Try.underlying33 rfl iH ?_; rfl; rfl; rfl) | (refine wpList_eql (x := .tmp 61) (y := .tmp 62) (ty := 33) (t := 33) (A := (ints hh).toArray) ?_ ?_ Z32 ?_ ?_ true guard33 EQ.out ?_; rfl; rfl; rfl; rfl) | fail)
            go_ret
            exact ⟨rfl, BV.out⟩
          · obtain rfl : b = false := by
              cases hbb : b with
              | false => rfl
              | true => have q := (HB.out.1 hbb).2; exact absurd (q.2.2.2.2.resolve_left (by decide)) z4
            have g4 : (m.number == 0) = false := by simpa using z4
            have EQ := Lib.hid (HEQ.out true (by simp [z2]))
            clear z0 z2 z3 z4 RG HEQ
            clear HB HNO HC HO
            generalize m.row = X at *
            generalize m.kind = kd at *
            generalize m.expiry = ex at *
            generalize m.number = nu at *
            generalize m.amount = am at *
            generalize m.id = idd at *
            generalize m.hash = hh at *
            go_enter Try.func36, Try.ntmps36
            go_wp2_with (first | (rw [HN.out, HV.out]) | ((with_reducible refine (FA.out).mono ?_); rintro e w1 ⟨rfl, rfl⟩) | ((with_reducible refine (IHI.out _).mono ?_); rintro e w1 ⟨rfl, rfl⟩) | ((with_reducible refine (IHA.out _).mono ?_); rintro e w1 ⟨rfl, rfl⟩) | ((with_reducible refine (IHH.out _).mono ?_); rintro e w1 ⟨rfl, rfl⟩) | ((with_reducible refine (IHE.out _).mono ?_); rintro e w1 ⟨rfl, rfl⟩) | ((with_reducible refine (IHN.out _).mono ?_); rintro e w1 ⟨rfl, rfl⟩) | (refine wpList_load_mid_g (x := .tmp 60) (ty := 33) (b := n) (p := 4) (cs := ints hh) ?_ ?_ ?_ _ RH.out Try.underlying33 rfl iH ?_; rfl; rfl; rfl) | (refine wpList_eql (x := .tmp 61) (y := .tmp 62) (ty := 33) (t := 33) (A := (ints hh).toArray) ?_ ?_ Z32 ?_ ?_ true guard33 EQ.out ?_; rfl; rfl; rfl; rfl) | fail)
            go_ret
            exact ⟨rfl, BV.out⟩
        · obtain rfl : b = false := by
            cases hbb : b with
            | false => rfl
            | true => have q := (HB.out.1 hbb).2; exact absurd (q.2.2.2.1.resolve_left (by decide)) z3
          have g3 : (m.expiry == 0) = false := by simpa using z3
          have EQ := Lib.hid (HEQ.out true (by simp [z2]))
          clear z0 z2 z3 RG HEQ
          clear HB HNO HC HO
          generalize m.row = X at *
          generalize m.kind = kd at *
          generalize m.expiry = ex at *
          generalize m.number = nu at *
          generalize m.amount = am at *
          generalize m.id = idd at *
          generalize m.hash = hh at *
          go_enter Try.func36, Try.ntmps36
          go_wp2_with (first | (rw [HN.out, HV.out]) | ((with_reducible refine (FA.out).mono ?_); rintro e w1 ⟨rfl, rfl⟩) | ((with_reducible refine (IHI.out _).mono ?_); rintro e w1 ⟨rfl, rfl⟩) | ((with_reducible refine (IHA.out _).mono ?_); rintro e w1 ⟨rfl, rfl⟩) | ((with_reducible refine (IHH.out _).mono ?_); rintro e w1 ⟨rfl, rfl⟩) | ((with_reducible refine (IHE.out _).mono ?_); rintro e w1 ⟨rfl, rfl⟩) | ((with_reducible refine (IHN.out _).mono ?_); rintro e w1 ⟨rfl, rfl⟩) | (refine wpList_load_mid_g (x := .tmp 60) (ty := 33) (b := n) (p := 4) (cs := ints hh) ?_ ?_ ?_ _ RH.out Try.underlying33 rfl iH ?_; rfl; rfl; rfl) | (refine wpList_eql (x := .tmp 61) (y := .tmp 62) (ty := 33) (t := 33) (A := (ints hh).toArray) ?_ ?_ Z32 ?_ ?_ true guard33 EQ.out ?_; rfl; rfl; rfl; rfl) | fail)
          go_ret
          exact ⟨rfl, BV.out⟩
      · obtain rfl : b = false := by
          cases hbb : b with
          | false => rfl
          | true => have q := (HB.out.1 hbb).2; exact absurd (q.2.2.1.resolve_left (by decide)) z2
        have EQ := Lib.hid (HEQ.out false (by simp [z2]))
        clear z0 z2 RG HEQ
        clear HB HNO HC HO
        generalize m.row = X at *
        generalize m.kind = kd at *
        generalize m.expiry = ex at *
        generalize m.number = nu at *
        generalize m.amount = am at *
        generalize m.id = idd at *
        generalize m.hash = hh at *
        go_enter Try.func36, Try.ntmps36
        go_wp2_with (first | (rw [HN.out, HV.out]) | ((with_reducible refine (FA.out).mono ?_); rintro e w1 ⟨rfl, rfl⟩) | ((with_reducible refine (IHI.out _).mono ?_); rintro e w1 ⟨rfl, rfl⟩) | ((with_reducible refine (IHA.out _).mono ?_); rintro e w1 ⟨rfl, rfl⟩) | ((with_reducible refine (IHH.out _).mono ?_); rintro e w1 ⟨rfl, rfl⟩) | ((with_reducible refine (IHE.out _).mono ?_); rintro e w1 ⟨rfl, rfl⟩) | ((with_reducible refine (IHN.out _).mono ?_); rintro e w1 ⟨rfl, rfl⟩) | (refine wpList_load_mid_g (x := .tmp 60) (ty := 33) (b := n) (p := 4) (cs := ints hh) ?_ ?_ ?_ _ RH.out Try.underlying33 rfl iH ?_; rfl; rfl; rfl) | (refine wpList_eql (x := .tmp 61) (y := .tmp 62) (ty := 33) (t := 33) (A := (ints hh).toArray) ?_ ?_ Z32 ?_ ?_ false guard33 EQ.out ?_; rfl; rfl; rfl; rfl) | fail)
        go_ret
        exact ⟨rfl, BV.out⟩
    · obtain rfl : b = false := by
        cases hbb : b with
        | false => rfl
        | true => have q := (HB.out.1 hbb).2; exact absurd (q.1.resolve_left (by decide)) z0
      have g0 : (m.id == 0) = false := by simpa using z0
      clear z0 RG HEQ
      clear HB HNO HC HO
      generalize m.row = X at *
      generalize m.kind = kd at *
      generalize m.expiry = ex at *
      generalize m.number = nu at *
      generalize m.amount = am at *
      generalize m.id = idd at *
      generalize m.hash = hh at *
      go_enter Try.func36, Try.ntmps36
      go_wp2_with (first | (rw [HN.out, HV.out]) | ((with_reducible refine (FA.out).mono ?_); rintro e w1 ⟨rfl, rfl⟩) | ((with_reducible refine (IHI.out _).mono ?_); rintro e w1 ⟨rfl, rfl⟩) | ((with_reducible refine (IHA.out _).mono ?_); rintro e w1 ⟨rfl, rfl⟩) | ((with_reducible refine (IHH.out _).mono ?_); rintro e w1 ⟨rfl, rfl⟩) | ((with_reducible refine (IHE.out _).mono ?_); rintro e w1 ⟨rfl, rfl⟩) | ((with_reducible refine (IHN.out _).mono ?_); rintro e w1 ⟨rfl, rfl⟩) | fail)
      go_ret
      exact ⟨rfl, BV.out⟩
  · skip
    by_cases z4 : m.number = 0
    · have g4 : (m.number == 0) = true := by simpa using z4
      obtain rfl : b = true := HB.out.2 ⟨RG.out, .inl rfl, .inl rfl, .inl rfl, .inl rfl, .inr z4⟩
      clear z4 RG HEQ
      clear HB HNO HC HO
      generalize m.row = X at *
      generalize m.kind = kd at *
      generalize m.expiry = ex at *
      generalize m.number = nu at *
      generalize m.amount = am at *
      generalize m.id = idd at *
      generalize m.hash = hh at *
      go_enter Try.func36, Try.ntmps36
      go_wp2_with (first | (rw [HN.out, HV.out]) | ((with_reducible refine (FA.out).mono ?_); rintro e w1 ⟨rfl, rfl⟩) | ((with_reducible refine (IHI.out _).mono ?_); rintro e w1 ⟨rfl, rfl⟩) | ((with_reducible refine (IHA.out _).mono ?_); rintro e w1 ⟨rfl, rfl⟩) | ((with_reducible refine (IHH.out _).mono ?_); rintro e w1 ⟨rfl, rfl⟩) | ((with_reducible refine (IHE.out _).mono ?_); rintro e w1 ⟨rfl, rfl⟩) | ((with_reducible refine (IHN.out _).mono ?_); rintro e w1 ⟨rfl, rfl⟩) | fail)
      go_ret
      exact ⟨rfl, BV.out⟩
    · obtain rfl : b = false := by
        cases hbb : b with
        | false => rfl
        | true => have q := (HB.out.1 hbb).2; exact absurd (q.2.2.2.2.resolve_left (by decide)) z4
      have g4 : (m.number == 0) = false := by simpa using z4
      clear z4 RG HEQ
      clear HB HNO HC HO
      generalize m.row = X at *
      generalize m.kind = kd at *
      generalize m.expiry = ex at *
      generalize m.number = nu at *
      generalize m.amount = am at *
      generalize m.id = idd at *
      generalize m.hash = hh at *
      go_enter Try.func36, Try.ntmps36
      go_wp2_with (first | (rw [HN.out, HV.out]) | ((with_reducible refine (FA.out).mono ?_); rintro e w1 ⟨rfl, rfl⟩) | ((with_reducible refine (IHI.out _).mono ?_); rintro e w1 ⟨rfl, rfl⟩) | ((with_reducible refine (IHA.out _).mono ?_); rintro e w1 ⟨rfl, rfl⟩) | ((with_reducible refine (IHH.out _).mono ?_); rintro e w1 ⟨rfl, rfl⟩) | ((with_reducible refine (IHE.out _).mono ?_); rintro e w1 ⟨rfl, rfl⟩) | ((with_reducible refine (IHN.out _).mono ?_); rintro e w1 ⟨rfl, rfl⟩) | fail)
      go_ret
      exact ⟨rfl, BV.out⟩
  · skip
    by_cases z1 : m.amount = 0
    · have g1 : (m.amount == 0) = true := by simpa using z1
      by_cases z3 : m.expiry = 0
      · have g3 : (m.expiry == 0) = true := by simpa using z3
        by_cases z4 : m.number = 0
        · have g4 : (m.number == 0) = true := by simpa using z4
          obtain rfl : b = true := HB.out.2 ⟨RG.out, .inl rfl, .inr z1, .inl rfl, .inr z3, .inr z4⟩
          clear z1 z3 z4 RG HEQ
          clear HB HNO HC HO
          generalize m.row = X at *
          generalize m.kind = kd at *
          generalize m.expiry = ex at *
          generalize m.number = nu at *
          generalize m.amount = am at *
          generalize m.id = idd at *
          generalize m.hash = hh at *
          go_enter Try.func36, Try.ntmps36
          go_wp2_with (first | (rw [HN.out, HV.out]) | ((with_reducible refine (FA.out).mono ?_); rintro e w1 ⟨rfl, rfl⟩) | ((with_reducible refine (IHI.out _).mono ?_); rintro e w1 ⟨rfl, rfl⟩) | ((with_reducible refine (IHA.out _).mono ?_); rintro e w1 ⟨rfl, rfl⟩) | ((with_reducible refine (IHH.out _).mono ?_); rintro e w1 ⟨rfl, rfl⟩) | ((with_reducible refine (IHE.out _).mono ?_); rintro e w1 ⟨rfl, rfl⟩) | ((with_reducible refine (IHN.out _).mono ?_); rintro e w1 ⟨rfl, rfl⟩) | fail)
          go_ret
          exact ⟨rfl, BV.out⟩
        · obtain rfl : b = false := by
            cases hbb : b with
            | false => rfl
            | true => have q := (HB.out.1 hbb).2; exact absurd (q.2.2.2.2.resolve_left (by decide)) z4
          have g4 : (m.number == 0) = false := by simpa using z4
          clear z1 z3 z4 RG HEQ
          clear HB HNO HC HO
          generalize m.row = X at *
          generalize m.kind = kd at *
          generalize m.expiry = ex at *
          generalize m.number = nu at *
          generalize m.amount = am at *
          generalize m.id = idd at *
          generalize m.hash = hh at *
          go_enter Try.func36, Try.ntmps36
          go_wp2_with (first | (rw [HN.out, HV.out]) | ((with_reducible refine (FA.out).mono ?_); rintro e w1 ⟨rfl, rfl⟩) | ((with_reducible refine (IHI.out _).mono ?_); rintro e w1 ⟨rfl, rfl⟩) | ((with_reducible refine (IHA.out _).mono ?_); rintro e w1 ⟨rfl, rfl⟩) | ((with_reducible refine (IHH.out _).mono ?_); rintro e w1 ⟨rfl, rfl⟩) | ((with_reducible refine (IHE.out _).mono ?_); rintro e w1 ⟨rfl, rfl⟩) | ((with_reducible refine (IHN.out _).mono ?_); rintro e w1 ⟨rfl, rfl⟩) | fail)
          go_ret
          exact ⟨rfl, BV.out⟩
      · obtain rfl : b = false := by
          cases hbb : b with
          | false => rfl
          | true => have q := (HB.out.1 hbb).2; exact absurd (q.2.2.2.1.resolve_left (by decide)) z3
        have g3 : (m.expiry == 0) = false := by simpa using z3
        clear z1 z3 RG HEQ
        clear HB HNO HC HO
        generalize m.row = X at *
        generalize m.kind = kd at *
        generalize m.expiry = ex at *
        generalize m.number = nu at *
        generalize m.amount = am at *
        generalize m.id = idd at *
        generalize m.hash = hh at *
        go_enter Try.func36, Try.ntmps36
        go_wp2_with (first | (rw [HN.out, HV.out]) | ((with_reducible refine (FA.out).mono ?_); rintro e w1 ⟨rfl, rfl⟩) | ((with_reducible refine (IHI.out _).mono ?_); rintro e w1 ⟨rfl, rfl⟩) | ((with_reducible refine (IHA.out _).mono ?_); rintro e w1 ⟨rfl, rfl⟩) | ((with_reducible refine (IHH.out _).mono ?_); rintro e w1 ⟨rfl, rfl⟩) | ((with_reducible refine (IHE.out _).mono ?_); rintro e w1 ⟨rfl, rfl⟩) | ((with_reducible refine (IHN.out _).mono ?_); rintro e w1 ⟨rfl, rfl⟩) | fail)
        go_ret
        exact ⟨rfl, BV.out⟩
    · obtain rfl : b = false := by
        cases hbb : b with
        | false => rfl
        | true => have q := (HB.out.1 hbb).2; exact absurd (q.2.1.resolve_left (by decide)) z1
      have g1 : (m.amount == 0) = false := by simpa using z1
      clear z1 RG HEQ
      clear HB HNO HC HO
      generalize m.row = X at *
      generalize m.kind = kd at *
      generalize m.expiry = ex at *
      generalize m.number = nu at *
      generalize m.amount = am at *
      generalize m.id = idd at *
      generalize m.hash = hh at *
      go_enter Try.func36, Try.ntmps36
      go_wp2_with (first | (rw [HN.out, HV.out]) | ((with_reducible refine (FA.out).mono ?_); rintro e w1 ⟨rfl, rfl⟩) | ((with_reducible refine (IHI.out _).mono ?_); rintro e w1 ⟨rfl, rfl⟩) | ((with_reducible refine (IHA.out _).mono ?_); rintro e w1 ⟨rfl, rfl⟩) | ((with_reducible refine (IHH.out _).mono ?_); rintro e w1 ⟨rfl, rfl⟩) | ((with_reducible refine (IHE.out _).mono ?_); rintro e w1 ⟨rfl, rfl⟩) | ((with_reducible refine (IHN.out _).mono ?_); rintro e w1 ⟨rfl, rfl⟩) | fail)
      go_ret
      exact ⟨rfl, BV.out⟩
  · skip
    by_cases z1 : m.amount = 0
    · have g1 : (m.amount == 0) = true := by simpa using z1
      by_cases z2 : m.hash = z32
      · skip
        by_cases z3 : m.expiry = 0
        · have g3 : (m.expiry == 0) = true := by simpa using z3
          obtain rfl : b = true := HB.out.2 ⟨RG.out, .inl rfl, .inr z1, .inr z2, .inr z3, .inl rfl⟩
          have EQ := Lib.hid (HEQ.out true (by simp [z2]))
          clear z1 z2 z3 RG HEQ
          clear HB HNO HC HO
          generalize m.row = X at *
          generalize m.kind = kd at *
          generalize m.expiry = ex at *
          generalize m.number = nu at *
          generalize m.amount = am at *
          generalize m.id = idd at *
          generalize m.hash = hh at *
          go_enter Try.func36, Try.ntmps36
          go_wp2_with (first | (rw [HN.out, HV.out]) | ((with_reducible refine (FA.out).mono ?_); rintro e w1 ⟨rfl, rfl⟩) | ((with_reducible refine (IHI.out _).mono ?_); rintro e w1 ⟨rfl, rfl⟩) | ((with_reducible refine (IHA.out _).mono ?_); rintro e w1 ⟨rfl, rfl⟩) | ((with_reducible refine (IHH.out _).mono ?_); rintro e w1 ⟨rfl, rfl⟩) | ((with_reducible refine (IHE.out _).mono ?_); rintro e w1 ⟨rfl, rfl⟩) | ((with_reducible refine (IHN.out _).mono ?_); rintro e w1 ⟨rfl, rfl⟩) | (refine wpList_load_mid_g (x := .tmp 60) (ty := 33) (b := n) (p := 4) (cs := ints hh) ?_ ?_ ?_ _ RH.out Try.underlying33 rfl iH ?_; rfl; rfl; rfl) | (refine wpList_eql (x := .tmp 61) (y := .tmp 62) (ty := 33) (t := 33) (A := (ints hh).toArray) ?_ ?_ Z32 ?_ ?_ true guard33 EQ.out ?_; rfl; rfl; rfl; rfl) | fail)
          go_ret
          exact ⟨rfl, BV.out⟩
        · obtain rfl : b = false := by
            cases hbb : b with
            | false => rfl
            | true => have q := (HB.out.1 hbb).2; exact absurd (q.2.2.2.1.resolve_left (by decide)) z3
          have g3 : (m.expiry == 0) = false := by simpa using z3
          have EQ := Lib.hid (HEQ.out true (by simp [z2]))
          clear z1 z2 z3 RG HEQ
          clear HB HNO HC HO
          generalize m.row = X at *
          generalize m.kind = kd at *
          generalize m.expiry = ex at *
          generalize m.number = nu at *
          generalize m.amount = am at *
          generalize m.id = idd at *
          generalize m.hash = hh at *
          go_enter Try.func36, Try.ntmps36
          go_wp2_with (first | (rw [HN.out, HV.out]) | ((with_reducible refine (FA.out).mono ?_); rintro e w1 ⟨rfl, rfl⟩) | ((with_reducible refine (IHI.out _).mono ?_); rintro e w1 ⟨rfl, rfl⟩) | ((with_reducible refine (IHA.out _).mono ?_); rintro e w1 ⟨rfl, rfl⟩) | ((with_reducible refine (IHH.out _).mono ?_); rintro e w1 ⟨rfl, rfl⟩) | ((with_reducible refine (IHE.out _).mono ?_); rintro e w1 ⟨rfl, rfl⟩) | ((with_reducible refine (IHN.out _).mono ?_); rintro e w1 ⟨rfl, rfl⟩) | (refine wpList_load_mid_g (x := .tmp 60) (ty := 33) (b := n) (p := 4) (cs := ints hh) ?_ ?_ ?_ _ RH.out Try.underlying33 rfl iH ?_; rfl; rfl; rfl) | (refine wpList_eql (x := .tmp 61) (y := .tmp 62) (ty := 33) (t := 33) (A := (ints hh).toArray) ?_ ?_ Z32 ?_ ?_ true guard33 EQ.out ?_; rfl; rfl; rfl; rfl) | fail)
          go_ret
          exact ⟨rfl, BV.out⟩
      · obtain rfl : b = false := by
          cases hbb : b with
          | false => rfl
          | true => have q := (HB.out.1 hbb).2; exact absurd (q.2.2.1.resolve_left (by decide)) z2
        have EQ := Lib.hid (HEQ.out false (by simp [z2]))
        clear z1 z2 RG HEQ
        clear HB HNO HC HO
        generalize m.row = X at *
        generalize m.kind = kd at *
        generalize m.expiry = ex at *
        generalize m.number = nu at *
        generalize m.amount = am at *
        generalize m.id = idd at *
        generalize m.hash = hh at *
        go_enter Try.func36, Try.ntmps36
        go_wp2_with (first | (rw [HN.out, HV.out]) | ((with_reducible refine (FA.out).mono ?_); rintro e w1 ⟨rfl, rfl⟩) | ((with_reducible refine (IHI.out _).mono ?_); rintro e w1 ⟨rfl, rfl⟩) | ((with_reducible refine (IHA.out _).mono ?_); rintro e w1 ⟨rfl, rfl⟩) | ((with_reducible refine (IHH.out _).mono ?_); rintro e w1 ⟨rfl, rfl⟩) | ((with_reducible refine (IHE.out _).mono ?_); rintro e w1 ⟨rfl, rfl⟩) | ((with_reducible refine (IHN.out _).mono ?_); rintro e w1 ⟨rfl, rfl⟩) | (refine wpList_load_mid_g (x := .tmp 60) (ty := 33) (b := n) (p := 4) (cs := ints hh) ?_ ?_ ?_ _ RH.out Try.underlying33 rfl iH ?_; rfl; rfl; rfl) | (refine wpList_eql (x := .tmp 61) (y := .tmp 62) (ty := 33) (t := 33) (A := (ints hh).toArray) ?_ ?_ Z32 ?_ ?_ false guard33 EQ.out ?_; rfl; rfl; rfl; rfl) | fail)
        go_ret
        exact ⟨rfl, BV.out⟩
    · obtain rfl : b = false := by
        cases hbb : b with
        | false => rfl
        | true => have q := (HB.out.1 hbb).2; exact absurd (q.2.1.resolve_left (by decide)) z1
      have g1 : (m.amount == 0) = false := by simpa using z1
      clear z1 RG HEQ
      clear HB HNO HC HO
      generalize m.row = X at *
      generalize m.kind = kd at *
      generalize m.expiry = ex at *
      generalize m.number = nu at *
      generalize m.amount = am at *
      generalize m.id = idd at *
      generalize m.hash = hh at *
      go_enter Try.func36, Try.ntmps36
      go_wp2_with (first | (rw [HN.out, HV.out]) | ((with_reducible refine (FA.out).mono ?_); rintro e w1 ⟨rfl, rfl⟩) | ((with_reducible refine (IHI.out _).mono ?_); rintro e w1 ⟨rfl, rfl⟩) | ((with_reducible refine (IHA.out _).mono ?_); rintro e w1 ⟨rfl, rfl⟩) | ((with_reducible refine (IHH.out _).mono ?_); rintro e w1 ⟨rfl, rfl⟩) | ((with_reducible refine (IHE.out _).mono ?_); rintro e w1 ⟨rfl, rfl⟩) | ((with_reducible refine (IHN.out _).mono ?_); rintro e w1 ⟨rfl, rfl⟩) | fail)
      go_ret
      exact ⟨rfl, BV.out⟩
  · skip
    by_cases z0 : m.id = 0
    · have g0 : (m.id == 0) = true := by simpa using z0
      by_cases z1 : m.amount = 0
      · have g1 : (m.amount == 0) = true := by simpa using z1
        by_cases z3 : m.expiry = 0
        · have g3 : (m.expiry == 0) = true := by simpa using z3
          obtain rfl : b = true := HB.out.2 ⟨RG.out, .inr z0, .inr z1, .inl rfl, .inr z3, .inl rfl⟩
          clear z0 z1 z3 RG HEQ
          clear HB HNO HC HO
          generalize m.row = X at *
          generalize m.kind = kd at *
          generalize m.expiry = ex at *
          generalize m.number = nu at *
          generalize m.amount = am at *
          generalize m.id = idd at *
          generalize m.hash = hh at *
          go_enter Try.func36, Try.ntmps36
          go_wp2_with (first | (rw [HN.out, HV.out]) | ((with_reducible refine (FA.out).mono ?_); rintro e w1 ⟨rfl, rfl⟩) | ((with_reducible refine (IHI.out _).mono ?_); rintro e w1 ⟨rfl, rfl⟩) | ((with_reducible refine (IHA.out _).mono ?_); rintro e w1 ⟨rfl, rfl⟩) | ((with_reducible refine (IHH.out _).mono ?_); rintro e w1 ⟨rfl, rfl⟩) | ((with_reducible refine (IHE.out _).mono ?_); rintro e w1 ⟨rfl, rfl⟩) | ((with_reducible refine (IHN.out _).mono ?_); rintro e w1 ⟨rfl, rfl⟩) | fail)
          go_ret
          exact ⟨rfl, BV.out⟩
        · obtain rfl : b = false := by
            cases hbb : b with
            | false => rfl
            | true => have q := (HB.out.1 hbb).2; exact absurd (q.2.2.2.1.resolve_left (by decide)) z3
          have g3 : (m.expiry == 0) = false := by simpa using z3
          clear z0 z1 z3 RG HEQ
          clear HB HNO HC HO
          generalize m.row = X at *
          generalize m.kind = kd at *
          generalize m.expiry = ex at *
          generalize m.number = nu at *
          generalize m.amount = am at *
          generalize m.id = idd at *
          generalize m.hash = hh at *
          go_enter Try.func36, Try.ntmps36
          go_wp2_with (first | (rw [HN.out, HV.out]) | ((with_reducible refine (FA.out).mono ?_); rintro e w1 ⟨rfl, rfl⟩) | ((with_reducible refine (IHI.out _).mono ?_); rintro e w1 ⟨rfl, rfl⟩) | ((with_reducible refine (IHA.out _).mono ?_); rintro e w1 ⟨rfl, rfl⟩) | ((with_reducible refine (IHH.out _).mono ?_); rintro e w1 ⟨rfl, rfl⟩) | ((with_reducible refine (IHE.out _).mono ?_); rintro e w1 ⟨rfl, rfl⟩) | ((with_reducible refine (IHN.out _).mono ?_); rintro e w1 ⟨rfl, rfl⟩) | fail)
          go_ret
          exact ⟨rfl, BV.out⟩
      · obtain rfl : b = false := by
          cases hbb : b with
          | false => rfl
          | true => have q := (HB.out.1 hbb).2; exact absurd (q.2.1.resolve_left (by decide)) z1
        have g1 : (m.amount == 0) = false := by simpa using z1
        clear z0 z1 RG HEQ
        clear HB HNO HC HO
        generalize m.row = X at *
        generalize m.kind = kd at *
        generalize m.expiry = ex at *
        generalize m.number = nu at *
        generalize m.amount = am at *
        generalize m.id = idd at *
        generalize m.hash = hh at *
        go_enter Try.func36, Try.ntmps36
        go_wp2_with (first | (rw [HN.out, HV.out]) | ((with_reducible refine (FA.out).mono ?_); rintro e w1 ⟨rfl, rfl⟩) | ((with_reducible refine (IHI.out _).mono ?_); rintro e w1 ⟨rfl, rfl⟩) | ((with_reducible refine (IHA.out _).mono ?_); rintro e w1 ⟨rfl, rfl⟩) | ((with_reducible refine (IHH.out _).mono ?_); rintro e w1 ⟨rfl, rfl⟩) | ((with_reducible refine (IHE.out _).mono ?_); rintro e w1 ⟨rfl, rfl⟩) | ((with_reducible refine (IHN.out _).mono ?_); rintro e w1 ⟨rfl, rfl⟩) | fail)
        go_ret
        exact ⟨rfl, BV.out⟩
    · obtain rfl : b = false := by
        cases hbb : b with
        | false => rfl
        | true => have q := (HB.out.1 hbb).2; exact absurd (q.1.resolve_left (by decide)) z0
      have g0 : (m.id == 0) = false := by simpa using z0
      clear z0 RG HEQ
      clear HB HNO HC HO
      generalize m.row = X at *
      generalize m.kind = kd at *
      generalize m.expiry = ex at *
      generalize m.number = nu at *
      generalize m.amount = am at *
      generalize m.id = idd at *
      generalize m.hash = hh at *
      go_enter Try.func36, Try.ntmps36
      go_wp2_with (first | (rw [HN.out, HV.out]) | ((with_reducible refine (FA.out).mono ?_); rintro e w1 ⟨rfl, rfl⟩) | ((with_reducible refine (IHI.out _).mono ?_); rintro e w1 ⟨rfl, rfl⟩) | ((with_reducible refine (IHA.out _).mono ?_); rintro e w1 ⟨rfl, rfl⟩) | ((with_reducible refine (IHH.out _).mono ?_); rintro e w1 ⟨rfl, rfl⟩) | ((with_reducible refine (IHE.out _).mono ?_); rintro e w1 ⟨rfl, rfl⟩) | ((with_reducible refine (IHN.out _).mono ?_); rintro e w1 ⟨rfl, rfl⟩) | fail)
      go_ret
      exact ⟨rfl, BV.out⟩
end Go.Proofs.Ytiilgkhndfnkgaa
