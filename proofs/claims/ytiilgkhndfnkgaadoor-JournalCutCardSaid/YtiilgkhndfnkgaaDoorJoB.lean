/- What a record's sum and bytes are, as the code and as the reference write them; the conditions are that the tables are laid, and the lengths. -/
import Derived.Test.YtiilgkhndfnkgaaDoorJoP
import Derived.Test.YtiilgkhndfnkgaaDoorJoA
namespace Go.Proofs.YtiilgkhndfnkgaaDoor
open Oc
open Go.RowKit
set_option linter.unusedVariables false

set_option maxHeartbeats 2000000 in
set_option maxRecDepth 100000 in
theorem jsum_any (t : ByteArray) (w : World) (ht : Tabs w) (hts : t.size ≤ 100000000000) :
    Calls Tryd.prog 22 #[.string t] w fun e w' => e = .returned (.string (sum4 t)) ∧ Below w.heap.size w w' := by
  obtain ⟨n, hn⟩ : ∃ n, w.heap.size = n := ⟨_, rfl⟩
  have HN := Lib.hid hn
  have cx := sum_any t w ht hts
  obtain ⟨F, hF⟩ : ∃ F, Sha.sum t = F := ⟨_, rfl⟩
  have hS : sum4 t = strOfNums [(F 0 : Nat), (F 1 : Nat), (F 2 : Nat), (F 3 : Nat)] := by unfold sum4; rw [hF]
  rw [hF] at cx
  obtain ⟨D, hD⟩ : ∃ D, r8 32 F = D := ⟨_, rfl⟩
  have zD : Z32.size = D.size := by rw [← hD]; exact r8_zero F
  have oD : D.all (·.oneCell') = true := by rw [← hD]; exact M.rowF_one
  have iD : (Tryd.prog.info? 65).map (·.size) = some D.size := by rw [← hD]; exact r8_info F
  have dc : ∀ v g, M.RowAt v g 65 D → (convert 41 9 (.slice (some ⟨g, 0, none⟩) 4 32)).run Tryd.prog v = .ok (.string (sum4 t)) v := fun v g h => by
    rw [hS]
    refine conv_cells g 4 32 [(F 0 : Nat), (F 1 : Nat), (F 2 : Nat), (F 3 : Nat)] rfl (fun i hi => ?_)
    rw [Nat.zero_add, h.cell i, ← hD, M.rowF_get (by omega)]
    match i, hi with
    | 0, _ => rfl
    | 1, _ => rfl
    | 2, _ => rfl
    | 3, _ => rfl
  rw [hD] at cx
  have CX := Lib.hid cx; have DC := Lib.hid dc
  clear cx dc hD hF hS ht hts
  generalize sum4 t = S at *
  go_enter Tryd.func22, Tryd.ntmps22
  go_wp2_with fail
  refine (CX.out).mono ?_
  rintro e w' ⟨rfl, gq⟩
  have gq' := gq
  rw [HN.out] at gq'
  have hge : n ≤ w'.heap.size := by have := gq.size; have := HN.out; omega
  have rV := M.RowAt.new w' 65 Z32
  have bV := gq'.alloc hge (.cells Z32 65)
  obtain ⟨g, hg⟩ : ∃ g, w'.heap.size = g := ⟨_, rfl⟩
  rw [hg] at rV hge
  have HG := Lib.hid hg
  obtain ⟨V, hV⟩ : ∃ V, w'.alloc (.cells #[.int .u8 0, .int .u8 0, .int .u8 0, .int .u8 0, .int .u8 0, .int .u8 0, .int .u8 0, .int .u8 0, .int .u8 0, .int .u8 0, .int .u8 0, .int .u8 0, .int .u8 0, .int .u8 0, .int .u8 0, .int .u8 0, .int .u8 0, .int .u8 0, .int .u8 0, .int .u8 0, .int .u8 0, .int .u8 0, .int .u8 0, .int .u8 0, .int .u8 0, .int .u8 0, .int .u8 0, .int .u8 0, .int .u8 0, .int .u8 0, .int .u8 0, .int .u8 0] 65) = V := ⟨_, rfl⟩
  have e : w'.alloc (.cells Z32 65) = V := hV
  have HV := Lib.hid hV
  rw [e] at rV bV
  have rW := M.RowAt.setRow rV D
  have bW := M.below_setRow (g := g) (cs := D) bV hge
  obtain ⟨U, hU⟩ : ∃ U, V.setRow g D = U := ⟨_, rfl⟩
  rw [hU] at rW bW
  have HU := Lib.hid hU
  have q0 := DC.out _ _ rW
  unfold M.RowAt at rV
  clear hg hV e gq gq' rW hU
  go_wp2_with (first
    | (rw [HG.out, HV.out]; refine wpList_store_row (x := .tmp 3) (y := .tmp 5) (cells := D) (old := Z32) (t := 65) (ty := 65) (g := g) ?_ ?_ ?_ ?_ rV iD zD oD ?_; rfl; rfl; rfl; rfl; rw [HU.out]))
  go_ret
  refine ⟨rfl, ?_⟩
  rw [HN.out]
  exact bW

set_option maxHeartbeats 2000000 in
set_option maxRecDepth 100000 in
theorem rjsum_any (t : ByteArray) (w : World) (hts : t.size ≤ 100000000000) :
    Calls Tryd.prog 19 #[.string t] w fun e w' => e = .returned (.string (sum4 t)) ∧ Below w.heap.size w w' := by
  obtain ⟨n, hn⟩ : ∃ n, w.heap.size = n := ⟨_, rfl⟩
  have HN := Lib.hid hn
  have cx := rsum_any t w hts
  obtain ⟨F, hF⟩ : ∃ F, Sha.sum t = F := ⟨_, rfl⟩
  have hS : sum4 t = strOfNums [(F 0 : Nat), (F 1 : Nat), (F 2 : Nat), (F 3 : Nat)] := by unfold sum4; rw [hF]
  rw [hF] at cx
  obtain ⟨D, hD⟩ : ∃ D, r8 32 F = D := ⟨_, rfl⟩
  have zD : Z32.size = D.size := by rw [← hD]; exact r8_zero F
  have oD : D.all (·.oneCell') = true := by rw [← hD]; exact M.rowF_one
  have iD : (Tryd.prog.info? 65).map (·.size) = some D.size := by rw [← hD]; exact r8_info F
  have dc : ∀ v g, M.RowAt v g 65 D → (convert 41 9 (.slice (some ⟨g, 0, none⟩) 4 32)).run Tryd.prog v = .ok (.string (sum4 t)) v := fun v g h => by
    rw [hS]
    refine conv_cells g 4 32 [(F 0 : Nat), (F 1 : Nat), (F 2 : Nat), (F 3 : Nat)] rfl (fun i hi => ?_)
    rw [Nat.zero_add, h.cell i, ← hD, M.rowF_get (by omega)]
    match i, hi with
    | 0, _ => rfl
    | 1, _ => rfl
    | 2, _ => rfl
    | 3, _ => rfl
  rw [hD] at cx
  have CX := Lib.hid cx; have DC := Lib.hid dc
  clear cx dc hD hF hS hts
  generalize sum4 t = S at *
  go_enter Tryd.func19, Tryd.ntmps19
  go_wp2_with fail
  refine (CX.out).mono ?_
  rintro e w' ⟨rfl, gq⟩
  have gq' := gq
  rw [HN.out] at gq'
  have hge : n ≤ w'.heap.size := by have := gq.size; have := HN.out; omega
  have rV := M.RowAt.new w' 65 Z32
  have bV := gq'.alloc hge (.cells Z32 65)
  obtain ⟨g, hg⟩ : ∃ g, w'.heap.size = g := ⟨_, rfl⟩
  rw [hg] at rV hge
  have HG := Lib.hid hg
  obtain ⟨V, hV⟩ : ∃ V, w'.alloc (.cells #[.int .u8 0, .int .u8 0, .int .u8 0, .int .u8 0, .int .u8 0, .int .u8 0, .int .u8 0, .int .u8 0, .int .u8 0, .int .u8 0, .int .u8 0, .int .u8 0, .int .u8 0, .int .u8 0, .int .u8 0, .int .u8 0, .int .u8 0, .int .u8 0, .int .u8 0, .int .u8 0, .int .u8 0, .int .u8 0, .int .u8 0, .int .u8 0, .int .u8 0, .int .u8 0, .int .u8 0, .int .u8 0, .int .u8 0, .int .u8 0, .int .u8 0, .int .u8 0] 65) = V := ⟨_, rfl⟩
  have e : w'.alloc (.cells Z32 65) = V := hV
  have HV := Lib.hid hV
  rw [e] at rV bV
  have rW := M.RowAt.setRow rV D
  have bW := M.below_setRow (g := g) (cs := D) bV hge
  obtain ⟨U, hU⟩ : ∃ U, V.setRow g D = U := ⟨_, rfl⟩
  rw [hU] at rW bW
  have HU := Lib.hid hU
  have q0 := DC.out _ _ rW
  unfold M.RowAt at rV
  clear hg hV e gq gq' rW hU
  go_wp2_with (first
    | (rw [HG.out, HV.out]; refine wpList_store_row (x := .tmp 3) (y := .tmp 5) (cells := D) (old := Z32) (t := 65) (ty := 65) (g := g) ?_ ?_ ?_ ?_ rV iD zD oD ?_; rfl; rfl; rfl; rfl; rw [HU.out]))
  go_ret
  refine ⟨rfl, ?_⟩
  rw [HN.out]
  exact bW

theorem wnum (n k : Nat) (a : Addr) (s : ByteArray) (w : World) (hn : ((n : Nat) : Int) < 256 ^ k) (h64 : n < 18446744073709551616) (h1 : 1 ≤ k) (h8 : k ≤ 8) (hs : s.size ≤ 4611686018427387904) (h : At w a s) :
    Calls Tryd.prog 24 #[.pointer (some a), .int .u64 n, .int .i64 k] w fun e w' => e = .returned (.int .i64 0) ∧ Below w.heap.size (w.setCell a (.string (s ++ strOfNums (low n k)))) w' := by
  have hz : (n : Int) / 2 ^ (8 * (k : Int)).toNat = 0 := by rw [pow8]; exact Int.ediv_eq_zero_of_lt (by omega) hn
  have hc : ¬ ((k : Int) < 1 ∨ 8 < (k : Int) ∨ (n : Int) / 2 ^ (8 * (k : Int)).toNat ≠ 0) := by rw [hz]; omega
  have r := number_any n k a s w (by omega) (by omega) hs h
  have e1 : numE n k = 0 := by unfold numE; rw [if_neg hc]
  have e2 : numB n k = low n k := by unfold numB; rw [if_neg hc, Int.toNat_natCast, top_low]
  rw [e1, e2] at r
  exact r
set_option maxRecDepth 100000 in
theorem put_any (n : Nat) (s : ByteArray) (w : World) (ht : Tabs w) (hn : n < 18446744073709551616) (hs : s.size ≤ 1024) :
    Calls Tryd.prog 15 #[.int .u64 n, .string s] w fun e w' => e = .returned (.tuple #[.string (rcd n s), .int .i64 0]) ∧ Below w.heap.size w w' := by
  obtain ⟨m, hm⟩ : ∃ m, w.heap.size = m := ⟨_, rfl⟩
  have h1n : 1 < m := hm ▸ ht.lt
  have b0 : Below m w (w.alloc (.cells #[.string .empty] 61)) := (Below.refl _ _).alloc (by omega) _
  have a0 : At (w.alloc (.cells #[.string .empty] 61)) ⟨m, 0, none⟩ .empty := hm ▸ at_new w .empty 61
  obtain ⟨b1, b2⟩ := low_bound n hn
  have c1 := wnum n 8 ⟨m, 0, none⟩ .empty _ b2 hn (by decide) (by decide) (by decide) a0
  have e256 : (256 : Int) ^ 2 = 65536 := by decide
  have c2 := fun v h => wnum s.size 2 ⟨m, 0, none⟩ (.empty ++ strOfNums (low n 8)) v (by rw [e256]; omega) (by omega) (by decide) (by decide) (by rw [empty_app, strOfNums_size, low_len]; decide) h
  have hz : (.empty ++ strOfNums (low n 8) ++ strOfNums (low s.size 2)) = hdB n s.size := by rw [empty_app]; rfl
  have c3 := fun v (h : At v ⟨m, 0, none⟩ (hdB n s.size)) => wbytes_any ⟨m, 0, none⟩ (hdB n s.size) v h
  have c4 := fun v (hb : Below m w v) => jsum_any (rcdT n s) v (ht.below hb h1n) (by rw [rcdT_size]; omega)
  have z1 : (hdB n s.size).size + s.size ≤ 9223372036854775807 := by rw [hdB_size]; omega
  have z2 : (rcdT n s).size + (sum4 (rcdT n s)).size ≤ 9223372036854775807 := by rw [rcdT_size, sum4_size]; omega
  have eT : hdB n s.size ++ s = rcdT n s := rfl
  have eR : rcdT n s ++ sum4 (rcdT n s) = rcd n s := rfl
  rw [hz] at c2
  obtain ⟨w1, hw1⟩ : ∃ w1, w.alloc (.cells #[.string ⟨#[]⟩] 61) = w1 := ⟨_, rfl⟩
  have b0 : Below m w w1 := hw1 ▸ b0
  have c1 : Calls Tryd.prog 24 #[.pointer (some ⟨m, 0, none⟩), .int .u64 (n : Nat), .int .i64 8] w1 _ := hw1 ▸ c1
  have m1 : m < w1.heap.size := hm ▸ (hw1 ▸ (by simp))
  have C1 := Lib.hid c1; have C2 := Lib.hid c2; have C3 := Lib.hid c3; have C4 := Lib.hid c4
  have HM := Lib.hid hm; have HV := Lib.hid hw1; have B0 := Lib.hid b0; have ET := Lib.hid eT; have ER := Lib.hid eR; have A0 := Lib.hid (show At w1 ⟨m, 0, none⟩ .empty from hw1 ▸ a0)
  have M1 := Lib.hid m1
  clear c1 c2 c3 c4 hm hw1 b0 a0 eT eR hz ht hn b1 b2 e256 m1
  generalize hdB n s.size = H at *
  generalize rcdT n s = T at *
  generalize rcd n s = R at *
  go_enter Tryd.func15, Tryd.ntmps15
  go_wp2_with fail
  rw [HM.out, HV.out]
  refine (C1.out).mono ?_
  rintro e w2 ⟨rfl, b2⟩
  have hm2 : m < w2.heap.size := by have h1 := b2.size; have h2 := M1.out; simp at h1; omega
  have a2 := A0.out.written b2 M1.out
  have B2 := Lib.hid (below_own B0.out (Nat.le_refl _) (Nat.le_of_lt M1.out) b2)
  have M2 := Lib.hid hm2
  clear b2 hm2
  go_wp2_with fail
  refine (C2.out w2 a2).mono ?_
  rintro e w3 ⟨rfl, b3⟩
  have a3 := a2.written b3 M2.out
  have hm3 : m < w3.heap.size := by have h1 := b3.size; have h2 := M2.out; simp at h1; omega
  have M3 := Lib.hid hm3
  have B3 := Lib.hid (below_own B2.out (Nat.le_refl _) (Nat.le_of_lt M2.out) b3)
  clear b3 hm3
  go_wp2_with fail
  refine (C3.out w3 a3).mono ?_
  rintro e w4 ⟨rfl, rfl⟩
  go_wp2_with (first | (rw [ET.out]) | fail)
  refine (C4.out w3 B3.out).mono ?_
  rintro e w5 ⟨rfl, b5⟩
  have B5 := Lib.hid (B3.out.trans (b5.mono (Nat.le_of_lt M3.out)))
  clear b5
  go_wp2_with (first | (rw [ER.out]) | fail)
  go_ret2
  exact ⟨rfl, HM.out ▸ B5.out⟩
theorem rnum_ok (n k : Nat) (w : World) (hn : ((n : Nat) : Int) < 256 ^ k) (h64 : n < 18446744073709551616) (h1 : 1 ≤ k) (h8 : k ≤ 8) :
    Calls Tryd.prog 18 #[.int .u64 n, .int .i64 k] w fun e w' => e = .returned (.tuple #[.string (strOfNums (low n k)), .int .i64 0]) ∧ Below w.heap.size w w' := by
  refine rnum_core n k w (by omega) (by omega) (by omega) (by omega) 0 _ ⟨fun _ => ⟨rfl, by rw [Int.toNat_natCast]⟩, fun h => absurd (Int.ediv_eq_zero_of_lt (by omega) hn) (by rwa [Int.toNat_natCast] at h)⟩
set_option maxRecDepth 100000 in
theorem rput_any (n : Nat) (s : ByteArray) (w : World) (hn : n < 18446744073709551616) (hs : s.size ≤ 1024) :
    Calls Tryd.prog 12 #[.int .u64 n, .string s] w fun e w' => e = .returned (.tuple #[.string (rcd n s), .int .i64 0]) ∧ Below w.heap.size w w' := by
  obtain ⟨b1, b2⟩ := low_bound n hn
  have e256 : (256 : Int) ^ 2 = 65536 := by decide
  have c1 := fun v => rnum_ok n 8 v b2 hn (by decide) (by decide)
  have c2 := fun v => rnum_ok s.size 2 v (by rw [e256]; omega) (by omega) (by decide) (by decide)
  have c3 := fun v => rjsum_any (rcdT n s) v (by rw [rcdT_size]; omega)
  have z0 : (strOfNums (low n 8)).size + (strOfNums (low s.size 2)).size ≤ 9223372036854775807 := by rw [strOfNums_size, strOfNums_size, low_len, low_len]; decide
  have z1 : (hdB n s.size).size + s.size ≤ 9223372036854775807 := by rw [hdB_size]; omega
  have z2 : (rcdT n s).size + (sum4 (rcdT n s)).size ≤ 9223372036854775807 := by rw [rcdT_size, sum4_size]; omega
  have eH : strOfNums (low n 8) ++ strOfNums (low s.size 2) = hdB n s.size := rfl
  have eT : hdB n s.size ++ s = rcdT n s := rfl
  have eR : rcdT n s ++ sum4 (rcdT n s) = rcd n s := rfl
  have C1 := Lib.hid c1; have C2 := Lib.hid c2; have C3 := Lib.hid c3; have EH := Lib.hid eH; have ET := Lib.hid eT; have ER := Lib.hid eR
  clear c1 c2 c3 eT eR eH hn b1 b2 e256
  generalize hdB n s.size = H at *
  generalize rcdT n s = T at *
  generalize rcd n s = R at *
  generalize strOfNums (low n 8) = A at *
  generalize strOfNums (low s.size 2) = B at *
  go_enter Tryd.func12, Tryd.ntmps12
  go_wp2_with fail
  refine (C1.out _).mono ?_
  rintro e w2 ⟨rfl, b2⟩
  go_wp2_with fail
  refine (C2.out w2).mono ?_
  rintro e w3 ⟨rfl, b3⟩
  have B3 := Lib.hid (b2.trans (b3.mono b2.size))
  clear b2 b3
  go_wp2_with (first | (rw [EH.out]) | (rw [ET.out]) | fail)
  refine (C3.out w3).mono ?_
  rintro e w5 ⟨rfl, b5⟩
  have B5 := Lib.hid (B3.out.trans (b5.mono B3.out.size))
  clear b5
  go_wp2_with (first | (rw [ER.out]) | fail)
  go_ret2
  exact ⟨rfl, B5.out⟩
end Go.Proofs.YtiilgkhndfnkgaaDoor
