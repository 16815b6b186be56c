/- The law package's shown of layer 15; no conditions. -/
import Derived.Test.YtnnnbgndbmcffaaCiC
namespace Go.Proofs.Ytnnnbgndbmcffaa
open Go.RowKit
set_option linter.unusedVariables false
def sA : Lg := ⟨(1, 0), 10, 20⟩
def sB (x : Int) : Lg := ⟨(2, 0), x, 14⟩
theorem sA_ok : sA.ok := ⟨⟨⟨by decide, by decide⟩, by decide, by decide⟩, by decide, by decide, by decide, by decide⟩
theorem sB_ok {x : Int} (h : 0 ≤ x ∧ x ≤ 18446744073709551615) : (sB x).ok := ⟨⟨⟨show (0 : Int) ≤ 2 by decide, show (2 : Int) ≤ 4294967295 by decide⟩, show (0 : Int) ≤ 0 by decide, show (0 : Int) ≤ 18446744073709551615 by decide⟩, h.1, h.2, show (-9223372036854775808 : Int) ≤ 14 by decide, show (14 : Int) ≤ 9223372036854775807 by decide⟩
theorem s_ck1 : ckE 1 0 sA (sB 10) = 150 := by decide
theorem s_ck2 : ckE 1 0 sA (sB 9) = 0 := by decide
def sC : List Value := [.int .u32 1, .int .u64 0, .int .u64 10, .int .i64 20, .int .u32 2, .int .u64 0, .int .u64 9, .int .i64 14, .int .u8 0, .int .u8 0, .int .u8 0, .int .u8 0, .int .u8 0, .int .u8 0, .int .u8 0, .int .u8 0, .int .u8 0, .int .u8 0, .int .u8 0, .int .u8 0, .int .u8 0, .int .u8 0, .int .u8 0, .int .u8 0, .int .u8 0, .int .u8 0, .int .u8 0, .int .u8 0, .int .u8 0, .int .u8 0, .int .u8 0, .int .u8 0, .int .u8 0, .int .u8 0, .int .u8 0, .int .u8 0, .int .u8 0, .int .u8 0, .int .u8 0, .int .u8 0]
theorem sC_cells : Cells sC.toArray sA (sB 9) := ⟨rfl, by kernel_rfl, rfl, rfl, rfl, rfl, rfl, rfl, rfl, rfl⟩
set_option maxRecDepth 100000 in
set_option maxHeartbeats 4000000 in
theorem cshown_any (w : World) : Calls Try.prog 41 #[] w fun e w' => e = .returned (.bool true) ∧ Below w.heap.size w w' := by
  have NW := Lib.hid (cnew_any 1 0 w)
  go_enter Try.func41, Try.ntmps41
  go_wp2_with fail
  refine (NW.out).mono ?_
  rintro e w1 ⟨m, i, o, rfl, cm, b1, g1, g2, g3⟩
  have lts := And.intro cm.hp.lt (And.intro cm.hi.lt cm.ho.lt)
  obtain ⟨n, hn⟩ : ∃ n, w1.heap.size = n := ⟨_, rfl⟩
  have r1 := (M.RowAt.new w1 63 #[.int .u32 1, .int .u64 0, .int .u64 10, .int .i64 20]).alloc (.cells #[.int .u32 2, .int .u64 0, .int .u64 10, .int .i64 14] 63)
  have r2 := M.RowAt.new (w1.alloc (.cells #[.int .u32 1, .int .u64 0, .int .u64 10, .int .i64 20] 63)) 63 #[.int .u32 2, .int .u64 0, .int .u64 10, .int .i64 14]
  have b2 : Below w1.heap.size w1 ((w1.alloc (.cells #[.int .u32 1, .int .u64 0, .int .u64 10, .int .i64 20] 63)).alloc (.cells #[.int .u32 2, .int .u64 0, .int .u64 10, .int .i64 14] 63)) := ((Below.refl _ w1).alloc (Nat.le_refl _) _).alloc (by simp) _
  have e1 : (w1.alloc (.cells #[.int .u32 1, .int .u64 0, .int .u64 10, .int .i64 20] 63)).heap.size = n + 1 := by simp [hn]
  rw [e1] at r2
  have cm2 := cm.same b2
  rw [hn] at r1
  rw [hn] at lts
  have LTS := Lib.hid lts; clear lts
  have BW := Lib.hid (And.intro b1 b2)
  have CK := Lib.hid (check_any cm2 ⟨by decide, by decide⟩ ⟨by decide, by decide⟩ sA (sB 10) sA_ok (sB_ok (by decide)))
  rw [s_ck1] at CK
  have hsz : ((w1.alloc (.cells #[.int .u32 1, .int .u64 0, .int .u64 10, .int .i64 20] 63)).alloc (.cells #[.int .u32 2, .int .u64 0, .int .u64 10, .int .i64 14] 63)).heap.size = n + 2 := by simp [hn]
  have HN := Lib.hid hn; have HSZ := Lib.hid hsz; have C2 := Lib.hid cm2; have R1 := Lib.hid r1; have R2 := Lib.hid r2
  clear hn b1 b2 e1 cm cm2 hsz r1 r2
  go_wp2_with fail
  simp only [HN.out]
  refine (CK.out).mono ?_
  rintro e w2 ⟨rfl, q2⟩
  have q2' := q2
  rw [HSZ.out] at q2'
  have x1 := R1.out.call q2
  have x2 := R2.out.call q2
  have y0 := (x1.cell 0); have y1 := (x1.cell 1); have y2 := (x1.cell 2); have y3 := (x1.cell 3)
  have z0 := (x2.cell 0); have z1 := (x2.cell 1); have z2 := (x2.cell 2); have z3 := (x2.cell 3)
  have zf := x2.frozen 2
  have cm3 := C2.out.same q2
  have q3 := BW.out.2.trans (q2.mono (by rw [HSZ.out, HN.out]; omega))
  have q4 : Below w1.heap.size w1 (w2.setCell ⟨n + 1, 2, none⟩ (.int .u64 9)) := q3.setCell (p := ⟨n + 1, 2, none⟩) (by rw [HN.out]; show n ≤ n + 1; omega) _
  have ns : n + 2 ≤ w2.heap.size := by have := q2.size; rwa [HSZ.out] at this
  obtain ⟨l1, l2, l3⟩ := LTS.out
  obtain ⟨W3, hW⟩ : ∃ W3, w2.setCell ⟨n + 1, 2, none⟩ (.int .u64 9) = W3 := ⟨_, rfl⟩
  have cm4 : Cm m i o 1 0 [] [] W3 := by
    rw [← hW]
    exact ⟨cm3.hp.far (p := ⟨n + 1, 2, none⟩) (show n + 1 ≠ m by omega) _, cm3.hi.far (p := ⟨n + 1, 2, none⟩) (show n + 1 ≠ i by omega) _, cm3.ho.far (p := ⟨n + 1, 2, none⟩) (show n + 1 ≠ o by omega) _, cm3.ne⟩
  have u1 : M.RowAt W3 n 63 #[.int .u32 1, .int .u64 0, .int .u64 10, .int .i64 20] := by rw [← hW]; exact x1.far (p := ⟨n + 1, 2, none⟩) (show n + 1 ≠ n by omega) _
  have u2 : M.RowAt W3 (n + 1) 63 #[.int .u32 2, .int .u64 0, .int .u64 9, .int .i64 14] := by rw [← hW]; exact x2.set 2 _
  have v0 := (u1.cell 0); have v1 := (u1.cell 1); have v2 := (u1.cell 2); have v3 := (u1.cell 3)
  have t0 := (u2.cell 0); have t1 := (u2.cell 1); have t2 := (u2.cell 2); have t3 := (u2.cell 3)
  rw [hW] at q4
  have OP := Lib.hid (open_ok cm4 ⟨by decide, by decide⟩ ⟨by decide, by decide⟩ sA (sB 9) sA_ok (sB_ok ⟨by decide, by decide⟩) sC sC_cells s_ck2 (fun p hp => by cases hp) (by decide) false false rfl rfl)
  have Q4 := Lib.hid (BW.out.1.trans (q4.mono BW.out.1.size)); have HW := Lib.hid hW
  clear q2 q2' x1 x2 u1 u2 cm3 cm4 q3 q4 l1 l2 l3 hW
  go_wp2_with (simp only [HW.out])
  refine (OP.out).mono ?_
  rintro e w5 hq
  obtain ⟨rfl, cm5, bt5⟩ := hq.2 rfl rfl
  have LN := Lib.hid (clen_any cm5)
  have fin : Below w.heap.size w w5 := bt5.below Q4.out (fun g hg => by simp at hg; rcases hg with rfl | rfl <;> assumption) Q4.out.size
  have FIN := Lib.hid fin
  clear hq cm5 bt5 fin
  go_wp2_with fail
  refine (LN.out).mono ?_
  rintro e w6 ⟨rfl, rfl⟩
  go_wp2
  go_ret
  exact ⟨rfl, FIN.out⟩
end Go.Proofs.Ytnnnbgndbmcffaa
