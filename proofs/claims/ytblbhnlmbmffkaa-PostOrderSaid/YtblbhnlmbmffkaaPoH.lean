/- The walk of PostRoom; the condition is that the row of bytes is known. -/
import Derived.Test.YtblbhnlmbmffkaaPoG
namespace Go.Proofs.Ytblbhnlmbmffkaa
open Go.RowKit
set_option linter.unusedVariables false

theorem room_open {nb : Nat} {E : Nat → Bx} (h : (E 0).shut = false) (hn : 0 < nb) : roomR nb E 0 = 8 - ((E 0).many : Nat) := by
  unfold roomR; rw [show (0 : Int).toNat = 0 from rfl, if_pos ⟨by decide, by omega, h⟩]
theorem len_open {nb : Nat} {E : Nat → Bx} (hn : 0 < nb) : lenR nb E 0 = ((E 0).many : Nat) := by
  unfold lenR; rw [show (0 : Int).toNat = 0 from rfl, if_pos ⟨by decide, by omega⟩]
theorem take_shut {nb : Nat} {E : Nat → Bx} (x : Int) (h : ∀ k, (E k).shut = false) : ∀ k, (takeE nb E x k).shut = false := by
  unfold takeE; split
  · intro k; unfold upB; split
    · exact h _
    · exact h k
  · exact h
theorem send_shut {nb : Nat} {E : Nat → Bx} (x : Lt) (h : ∀ k, (E k).shut = false) : ∀ k, (sendB nb E x k).shut = false := by
  unfold sendB; split
  · intro k; unfold upB; split
    · exact h _
    · exact h k
  · exact h
theorem take_bool {E : Nat → Bx} : ((takeR 2 E 0) == 0) = decide ((E 0).many ≠ 0) := by
  unfold takeR; rw [show (0 : Int).toNat = 0 from rfl]
  by_cases h : (E 0).many = 0
  · rw [if_neg (by rintro ⟨_, _, h2⟩; exact h2 h), h]; rfl
  · rw [if_pos ⟨by decide, by decide, h⟩]; simp [h]
theorem send_bool {E : Nat → Bx} (h : (E 0).shut = false) (hok : BxOk (E 0)) : ((sendR 2 E 0) == 0) = decide ((E 0).many < 8) := by
  unfold sendR; rw [show (0 : Int).toNat = 0 from rfl, if_pos ⟨by decide, by decide⟩, h, if_neg (by decide)]
  have := hok.many
  by_cases h : (E 0).many = 8
  · rw [if_pos h, h]; rfl
  · rw [if_neg h]; simp; omega
theorem close_bool {E : Nat → Bx} (h : ∀ k, (E k).shut = false) (x : Int) : ((closeR 2 E x) == 0) = (decide (0 ≤ x) && decide (x < 2)) := by
  unfold closeR
  by_cases h0 : 0 ≤ x
  · by_cases h1 : x < 2
    · rw [if_pos ⟨h0, by omega⟩, h, if_neg (by decide)]; simp [h0, h1]
    · rw [if_neg (by omega)]; simp [h0, h1]
  · rw [if_neg (by omega)]; simp [h0]
theorem close_at {E : Nat → Bx} (h : ∀ k, (E k).shut = false) (x : Int) : roomR 2 (closeE 2 E x) x = 0 ∧ lenR 2 (closeE 2 E x) x = 0 := by
  by_cases hx : 0 ≤ x ∧ x < 2
  · have hr : closeR 2 E x = 0 := by
      unfold closeR; rw [if_pos ⟨hx.1, by omega⟩, h, if_neg (by decide)]
    have he : closeE 2 E x x.toNat = shutB (tk (E x.toNat) (E x.toNat).many) := by unfold closeE; rw [if_pos hr, upB_same]
    constructor
    · unfold roomR; rw [he, if_neg (by rintro ⟨_, _, h3⟩; cases h3)]
    · unfold lenR; rw [he, if_pos ⟨hx.1, by omega⟩]
      show (((tk _ _).many : Nat) : Int) = 0
      rw [tk_many]; omega
  · constructor
    · unfold roomR; rw [if_neg (by rintro ⟨h1, h2, _⟩; exact hx ⟨h1, by omega⟩)]
    · unfold lenR; rw [if_neg (by rintro ⟨h1, h2⟩; exact hx ⟨h1, by omega⟩)]

set_option maxRecDepth 100000 in
set_option maxHeartbeats 4000000 in
theorem room_walk (pa : Option Addr) (len cap : Nat) (zs : List Int) (x : Int) (w : World) (hrow : RowK.IsRow .u8 w pa len cap zs) (hl : len ≤ 100) :
    Calls Try.prog 4 #[.slice pa len cap, .int .i64 x] w (Fine w) := by
  obtain ⟨b, off, r1, r2, r3, r4, r5, r6, r7⟩ := hrow.plain
  obtain ⟨n, hn⟩ : ∃ n, w.heap.size = n := ⟨_, rfl⟩
  have HN := Lib.hid hn
  have sh := fun v => shown_any v
  have nw := fun v => new_yes 2 (by decide) (by decide) v
  have cell : ∀ j, j < len → ∃ z : Nat, z < 256 ∧ pa = some ⟨b, off, none⟩ ∧ ∀ v, Below n w v → v.cell? ⟨b, off + j, none⟩ = some (.int .u8 (z : Nat)) := fun j hj => by
    have hz := RowK.wf_u8 (r7 (zs.getD j 0) (by rw [List.getD_eq_getElem?_getD, List.getElem?_eq_getElem (by omega)]; exact List.getElem_mem _))
    obtain ⟨z, hzz⟩ := Int.eq_ofNat_of_zero_le hz.1
    refine ⟨z, by omega, r2.resolve_left (by omega), fun v hv => ?_⟩
    rw [hv.cell (p := ⟨b, off + j, none⟩) (by show b < n; rw [← hn]; exact r1.resolve_left (by omega)), r6 j hj, hzz]
  have SH := Lib.hid sh; have NW := Lib.hid nw; have CELL := Lib.hid cell
  have d1 : decide ((100 : Int) < (len : Int)) = false := by simp; omega
  have d1' : decide (100 < len) = false := by simp; omega
  clear sh nw cell r1 r2 r3 r4 r5 r6 r7 hrow
  go_enter Try.func4, Try.ntmps4
  go_wp2_with fail
  refine (SH.out _).mono ?_
  rintro e w1 ⟨rfl, g1⟩
  go_wp2_with fail
  refine (NW.out _).mono ?_
  rintro e w2 ⟨rfl, pt, g2⟩
  obtain ⟨q, hq⟩ : ∃ q, w1.heap.size = q := ⟨_, rfl⟩
  have hnq : n ≤ q := by rw [← hq, ← hn]; exact g1.size
  rw [hq] at pt g2
  have hb : Below n w w2 := by
    have := g1
    rw [hn] at this
    exact this.trans (g2.mono hnq)
  rw [hq]
  clear g1 g2 hq hn
  go_wp2
  go_loopg [6] len (fun m i v => ∃ (k : Nat) (E : Nat → Bx), m + k = len ∧ i = .int .i64 k ∧ Pt (q + 1) q 2 E v ∧ Hid (∀ k, (E k).shut = false) ∧ Below n w v)
  case atStart => exact ⟨0, _, by omega, rfl, pt, Lib.hid (fun _ => rfl), hb⟩
  case round =>
    clear pt hb
    obtain ⟨k, E, hm, rfl, pt, hsh, hb⟩ := hrel
    have HM := Lib.hid hm
    have hsz := pt.ltB
    by_cases hlt : k < len
    · obtain ⟨z, hz, rfl, cz⟩ := CELL.out k hlt
      have CZ := Lib.hid cz
      have rm := room_any pt 0
      rw [room_open (hsh.out 0) (by decide)] at rm
      have h8 := (pt.ok 0).many
      have RM := Lib.hid rm
      obtain ⟨r, hr⟩ : ∃ r, z % 3 = r := ⟨_, rfl⟩
      have e1 : (z : Int) % 3 = (r : Int) := by omega
      have e2 : Int.tmod (z : Int) 3 = (r : Int) := by rw [← hr]; rfl
      by_cases h3 : r = 0
      · skip
        have d3 : ((r : Int) == 0) = true := by subst h3; rfl
        have tb := take_bool (E := E)
        have dB : decide (8 - ((E 0).many : Int) < 8) = decide ((E 0).many ≠ 0) := by
          by_cases h : (E 0).many = 0 <;> simp [h]
          omega
        have opc := fun v (c : Pt (q + 1) q 2 E v) => takep_any c 0
        have sh2 := take_shut (nb := 2) 0 hsh.out
        have ok2 := take_okE (nb := 2) (x := 0) pt.ok
        have rm2 := fun v (c : Pt (q + 1) q 2 (takeE 2 E 0) v) => room_any c 0
        have ln2 := fun v (c : Pt (q + 1) q 2 (takeE 2 E 0) v) => len_any c 0
        simp only [room_open (sh2 0) (show 0 < 2 by decide)] at rm2
        simp only [len_open (show 0 < 2 by decide)] at ln2
        have h82 := (ok2 0).many
        generalize takeV 2 E 0 = X at *
        generalize takeR 2 E 0 = R at *
        generalize takeE 2 E 0 = E2 at *
        generalize decide ((E 0).many ≠ 0) = bb at *
        have w8 : IntKind.i64.wrap (8 - ((E2 0).many : Int) + ((E2 0).many : Int)) = 8 := by rw [show 8 - ((E2 0).many : Int) + ((E2 0).many : Int) = 8 by omega]; exact IntWalk.i64_in _ (by omega)
        have OP := Lib.hid opc; have RM2 := Lib.hid rm2; have LN2 := Lib.hid ln2; have OK2 := Lib.hid ok2; have SH2 := Lib.hid sh2
        generalize (E2 0).many = m2 at *
        generalize (E 0).many = m at *
        clear rm opc rm2 ln2 ok2 sh2 hm hr cz h3
        go_wp2_with fail
        refine (RM.out).mono ?_
        rintro e w3 ⟨rfl, g3⟩
        have pt3 := pt.same g3
        have b3 := hb.trans (g3.mono (by omega))
        have hsz3 := pt3.ltB
        have cz3 := CZ.out _ b3
        clear g3 pt hb
        go_wp2_with fail
        refine (OP.out _ pt3).mono ?_
        rintro e w4 ⟨rfl, hr4, hb4⟩
        have pt4 := pt3.call hb4 hr4 OK2.out
        have b4 := hb4.below b3 hnq (by omega)
        have hsz4 := pt4.ltB
        clear hb4 hr4 pt3 b3 cz3
        go_wp2_with fail
        refine (RM2.out _ pt4).mono ?_
        rintro e w5 ⟨rfl, g5⟩
        have pt5 := pt4.same g5
        have b5 := b4.trans (g5.mono (by omega))
        have hsz5 := pt5.ltB
        clear g5 pt4 b4
        go_wp2_with fail
        refine (LN2.out _ pt5).mono ?_
        rintro e w6 ⟨rfl, rfl⟩
        go_wp2
        go_roundg (len - (k + 1))
        case measure => have := HM.out; omega
        case rel => exact ⟨k + 1, E2, by have := HM.out; omega, by go_num, pt5, SH2, b5⟩
      · skip
        have d3 : ((r : Int) == 0) = false := by simp; exact h3
        have tb := send_bool (E := E) (hsh.out 0) (pt.ok 0)
        have dB : decide ((0 : Int) < 8 - ((E 0).many : Int)) = decide ((E 0).many < 8) := by
          by_cases h : (E 0).many < 8 <;> simp [h] <;> omega
        have dBi : decide (((E 0).many : Int) < 8) = decide ((E 0).many < 8) := by
          by_cases h : (E 0).many < 8 <;> simp [h] <;> omega
        have opc : ∀ v, Pt (q + 1) q 2 E v → Calls Try.prog 9 #[.pointer (some ⟨q + 1, 0, none⟩), .agg #[.int .i64 0, .int .i64 0, .int .i64 0, .string ⟨#[]⟩]] v fun e v' => e = .returned (.int .i64 (sendR 2 E 0)) ∧ M.RowAt v' q 76 (boC (sendB 2 E lt0) 2) ∧ M.But q v v' := fun v c => send_any c lt0
        have sh2 := send_shut (nb := 2) lt0 hsh.out
        have ok2 := send_ok (nb := 2) (x := lt0) pt.ok
        have rm2 := fun v (c : Pt (q + 1) q 2 (sendB 2 E lt0) v) => room_any c 0
        have ln2 := fun v (c : Pt (q + 1) q 2 (sendB 2 E lt0) v) => len_any c 0
        simp only [room_open (sh2 0) (show 0 < 2 by decide)] at rm2
        simp only [len_open (show 0 < 2 by decide)] at ln2
        have h82 := (ok2 0).many
        generalize sendR 2 E 0 = R at *
        generalize sendB 2 E lt0 = E2 at *
        generalize hbb : decide ((E 0).many < 8) = bb at *
        have w8 : IntKind.i64.wrap (8 - ((E2 0).many : Int) + ((E2 0).many : Int)) = 8 := by rw [show 8 - ((E2 0).many : Int) + ((E2 0).many : Int) = 8 by omega]; exact IntWalk.i64_in _ (by omega)
        have OP := Lib.hid opc; have RM2 := Lib.hid rm2; have LN2 := Lib.hid ln2; have OK2 := Lib.hid ok2; have SH2 := Lib.hid sh2
        generalize (E2 0).many = m2 at *
        generalize (E 0).many = m at *
        clear rm opc rm2 ln2 ok2 sh2 hm hr cz h3
        go_wp2_with fail
        refine (RM.out).mono ?_
        rintro e w3 ⟨rfl, g3⟩
        have pt3 := pt.same g3
        have b3 := hb.trans (g3.mono (by omega))
        have hsz3 := pt3.ltB
        have cz3 := CZ.out _ b3
        clear g3 pt hb
        go_wp2_with fail
        refine (OP.out _ pt3).mono ?_
        rintro e w4 ⟨rfl, hr4, hb4⟩
        have pt4 := pt3.call hb4 hr4 OK2.out
        have b4 := hb4.below b3 hnq (by omega)
        have hsz4 := pt4.ltB
        clear hb4 hr4 pt3 b3 cz3
        go_wp2_with fail
        refine (RM2.out _ pt4).mono ?_
        rintro e w5 ⟨rfl, g5⟩
        have pt5 := pt4.same g5
        have b5 := b4.trans (g5.mono (by omega))
        have hsz5 := pt5.ltB
        clear g5 pt4 b4
        go_wp2_with fail
        refine (LN2.out _ pt5).mono ?_
        rintro e w6 ⟨rfl, rfl⟩
        go_wp2
        go_roundg (len - (k + 1))
        case measure => have := HM.out; omega
        case rel => exact ⟨k + 1, E2, by have := HM.out; omega, by go_num, pt5, SH2, b5⟩
    · obtain rfl : k = len := by omega
      by_cases hx0 : 0 ≤ x
      · by_cases hx1 : x < 2
        · skip
          have dx0 : decide (0 ≤ x) = true := by simp [hx0]
          have dx1 : decide (x < 2) = true := by simp [hx1]
          have cb := close_bool hsh.out x
          have ca := close_at hsh.out x
          have okc := close_ok (nb := 2) (x := x) pt.ok
          have clc := fun v (c : Pt (q + 1) q 2 E v) => close_any c x
          unfold Closed at clc
          have rm2 := fun v (c : Pt (q + 1) q 2 (closeE 2 E x) v) => room_any c x
          have ln2 := fun v (c : Pt (q + 1) q 2 (closeE 2 E x) v) => len_any c x
          rw [ca.1] at rm2
          rw [ca.2] at ln2
          generalize closeR 2 E x = R at *
          generalize closeL 2 E x = LL at *
          generalize closeE 2 E x = E2 at *
          have CL := Lib.hid clc; have RM2 := Lib.hid rm2; have LN2 := Lib.hid ln2; have OKC := Lib.hid okc
          clear clc rm2 ln2 okc ca hm HM hsh
          go_wp2_with fail
          refine (CL.out _ pt).mono ?_
          rintro e w3 ⟨l, rfl, _, hr3, hb3⟩
          have pt3 := pt.call hb3 hr3 OKC.out
          have b3 := hb3.below hb hnq (by omega)
          have hsz3 := pt3.ltB
          clear hb3 hr3 pt hb
          go_wp2_with fail
          refine (RM2.out _ pt3).mono ?_
          rintro e w4 ⟨rfl, g4⟩
          have pt4 := pt3.same g4
          have b4 := b3.trans (g4.mono (by omega))
          clear g4 pt3 b3
          go_wp2_with fail
          refine (LN2.out _ pt4).mono ?_
          rintro e w5 ⟨rfl, rfl⟩
          go_wp2
          go_ret
          exact ⟨rfl, by rw [HN.out]; exact b4⟩

        · skip
          have dx0 : decide (0 ≤ x) = true := by simp [hx0]
          have dx1 : decide (x < 2) = false := by simp; omega
          have cb := close_bool hsh.out x
          have ca := close_at hsh.out x
          have okc := close_ok (nb := 2) (x := x) pt.ok
          have clc := fun v (c : Pt (q + 1) q 2 E v) => close_any c x
          unfold Closed at clc
          have rm2 := fun v (c : Pt (q + 1) q 2 (closeE 2 E x) v) => room_any c x
          have ln2 := fun v (c : Pt (q + 1) q 2 (closeE 2 E x) v) => len_any c x
          rw [ca.1] at rm2
          rw [ca.2] at ln2
          generalize closeR 2 E x = R at *
          generalize closeL 2 E x = LL at *
          generalize closeE 2 E x = E2 at *
          have CL := Lib.hid clc; have RM2 := Lib.hid rm2; have LN2 := Lib.hid ln2; have OKC := Lib.hid okc
          clear clc rm2 ln2 okc ca hm HM hsh
          go_wp2_with fail
          refine (CL.out _ pt).mono ?_
          rintro e w3 ⟨l, rfl, _, hr3, hb3⟩
          have pt3 := pt.call hb3 hr3 OKC.out
          have b3 := hb3.below hb hnq (by omega)
          have hsz3 := pt3.ltB
          clear hb3 hr3 pt hb
          go_wp2_with fail
          refine (RM2.out _ pt3).mono ?_
          rintro e w4 ⟨rfl, g4⟩
          have pt4 := pt3.same g4
          have b4 := b3.trans (g4.mono (by omega))
          clear g4 pt3 b3
          go_wp2_with fail
          refine (LN2.out _ pt4).mono ?_
          rintro e w5 ⟨rfl, rfl⟩
          go_wp2
          go_ret
          exact ⟨rfl, by rw [HN.out]; exact b4⟩

      · skip
        have dx0 : decide (0 ≤ x) = false := by simp; omega
        have cb := close_bool hsh.out x
        have ca := close_at hsh.out x
        have okc := close_ok (nb := 2) (x := x) pt.ok
        have clc := fun v (c : Pt (q + 1) q 2 E v) => close_any c x
        unfold Closed at clc
        have rm2 := fun v (c : Pt (q + 1) q 2 (closeE 2 E x) v) => room_any c x
        have ln2 := fun v (c : Pt (q + 1) q 2 (closeE 2 E x) v) => len_any c x
        rw [ca.1] at rm2
        rw [ca.2] at ln2
        generalize closeR 2 E x = R at *
        generalize closeL 2 E x = LL at *
        generalize closeE 2 E x = E2 at *
        have CL := Lib.hid clc; have RM2 := Lib.hid rm2; have LN2 := Lib.hid ln2; have OKC := Lib.hid okc
        clear clc rm2 ln2 okc ca hm HM hsh
        go_wp2_with fail
        refine (CL.out _ pt).mono ?_
        rintro e w3 ⟨l, rfl, _, hr3, hb3⟩
        have pt3 := pt.call hb3 hr3 OKC.out
        have b3 := hb3.below hb hnq (by omega)
        have hsz3 := pt3.ltB
        clear hb3 hr3 pt hb
        go_wp2_with fail
        refine (RM2.out _ pt3).mono ?_
        rintro e w4 ⟨rfl, g4⟩
        have pt4 := pt3.same g4
        have b4 := b3.trans (g4.mono (by omega))
        clear g4 pt3 b3
        go_wp2_with fail
        refine (LN2.out _ pt4).mono ?_
        rintro e w5 ⟨rfl, rfl⟩
        go_wp2
        go_ret
        exact ⟨rfl, by rw [HN.out]; exact b4⟩

theorem room_long (pa : Option Addr) (len cap : Nat) (x : Int) (w : World) (hl : ¬ len ≤ 100) : Calls Try.prog 4 #[.slice pa len cap, .int .i64 x] w (Fine w) := by
  have sh := fun v => shown_any v
  have SH := Lib.hid sh
  have d1 : decide ((100 : Int) < (len : Int)) = true := by simp; omega
  have d1' : decide (100 < len) = true := by simp; omega
  clear sh
  go_enter Try.func4, Try.ntmps4
  go_wp2_with fail
  refine (SH.out _).mono ?_
  rintro e w1 ⟨rfl, g1⟩
  go_wp2
  go_ret
  exact ⟨rfl, g1⟩
theorem walk_PostRoom (b0 : Option Addr) (len0 cap0 : Nat) (z0 : List Int) {W : World} (w0 : RowK.IsRow .u8 W b0 len0 cap0 z0) (a1 : Int) (w1 : (Lit.int .i64 a1).wf = true) :
    Calls Try.prog 4 #[.slice b0 len0 cap0, .int .i64 a1] W (Fine W) := by
  by_cases h : len0 ≤ 100
  · exact room_walk b0 len0 cap0 z0 a1 W w0 h
  · exact room_long b0 len0 cap0 a1 W h
end Go.Proofs.Ytblbhnlmbmffkaa
