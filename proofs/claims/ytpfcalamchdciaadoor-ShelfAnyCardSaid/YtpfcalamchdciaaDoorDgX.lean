/- The walk of DigestSums; the condition is that the tables are laid. -/
import Derived.Test.YtpfcalamchdciaaDoorDgS
import Derived.Test.YtpfcalamchdciaaDoorDgW
import Derived.Test.YtpfcalamchdciaaDoorRowKit
namespace Go.Proofs.YtpfcalamchdciaaDoor
open Go.RowKit
set_option linter.unusedVariables false
def Fine (w : World) (e : Ending) (w' : World) : Prop := e = .returned (.bool true) ∧ Below w.heap.size w w'

theorem tabs_of {w : World} {laid : List (String × DataW Unit)} (h : laidMet Tryd.prog laid w) (hb : ("remitter/digest.begin", Rows.laid_remitter_digest_begin) ∈ laid) (hk : ("remitter/digest.table", Rows.laid_remitter_digest_table) ∈ laid) : Tabs w := by
  have e1 : (Rows.laid_remitter_digest_begin : DataW Unit) = Lib.tabData .u32 ((List.range 8).map fun i => (Sha.begin0.get i : Int)) := by kernel_rfl
  have e2 : (Rows.laid_remitter_digest_table : DataW Unit) = Lib.tabData .u32 ((List.range 64).map fun i => (Sha.k i : Int)) := by kernel_rfl
  rw [e1] at hb
  rw [e2] at hk
  have g1 : Tryd.prog.globalNamed "remitter/digest.begin" = some 0 := by kernel_rfl
  have g2 : Tryd.prog.globalNamed "remitter/digest.table" = some 1 := by kernel_rfl
  have t1 := RowK.tab_get (t := 33) (e := 32) (len := 8) h hb g1 (by kernel_rfl) (by kernel_rfl) (by kernel_rfl) (by kernel_rfl) (by kernel_rfl)
  have t2 := RowK.tab_get (t := 89) (e := 32) (len := 64) h hk g2 (by kernel_rfl) (by kernel_rfl) (by kernel_rfl) (by kernel_rfl) (by kernel_rfl)
  refine ⟨fun j hj => ?_, fun j hj => ?_⟩
  · rw [t1.cell g1 j (by simpa using hj)]
    simp [List.getD_eq_getElem?_getD, hj]
  · rw [t2.cell g2 j (by simpa using hj)]
    simp [List.getD_eq_getElem?_getD, hj]

set_option maxRecDepth 100000 in
set_option maxHeartbeats 2000000 in
theorem sums_walk (s : ByteArray) (w : World) (ht : Tabs w) :
    Calls Tryd.prog 4 #[.string s] w (Fine w) := by
  obtain ⟨n, hn⟩ : ∃ n, w.heap.size = n := ⟨_, rfl⟩
  have HN := Lib.hid hn
  have h1n : 1 < n := hn ▸ ht.lt
  have tb := fun v (hb : Below n w v) => ht.below hb h1n
  have sh := fun v (hb : Below n w v) => shown_any v (tb v hb)
  have b0 : Below n w w := Below.refl _ _
  have nx : ∀ v v', Below n w v → Below v.heap.size v v' → Below n w v' := fun v v' h g => h.trans (g.mono (by rw [← hn]; exact h.size))
  have NX := Lib.hid nx
  have SH := Lib.hid sh
  by_cases hlong : 600 < s.size
  · have hd : decide ((600 : Int) < s.size) = true := by simp; omega
    have hd' : (600 : Int) < s.size := by omega
    clear tb sh ht hlong h1n hn nx
    go_enter Tryd.func4, Tryd.ntmps4
    go_wp2_with fail
    refine (SH.out _ b0).mono ?_
    rintro e w' ⟨rfl, gq⟩
    have b1 := NX.out _ _ b0 gq
    go_wp2
    go_ret
    exact ⟨rfl, by rw [HN.out]; exact b1⟩
  · have hd : decide ((600 : Int) < s.size) = false := by simp; omega
    have hd' : ¬ (600 : Int) < s.size := by omega
    have c1 := fun v hb => sum_any s v (tb v hb) (by omega)
    have c2 := fun v => rsum_any s v (by omega)
    have c3 := fun v => pad_any s v (by omega)
    have c4 := fun v => rpad_any s v (by omega)
    have heq := fun W => r8_eq (Sha.sum s) W
    generalize r8 32 (Sha.sum s) = D at *
    generalize Sha.pad s = X at *
    have C1 := Lib.hid c1; have C2 := Lib.hid c2; have C3 := Lib.hid c3; have C4 := Lib.hid c4
    clear tb sh ht hlong h1n hn nx c1 c2 c3 c4
    go_enter Tryd.func4, Tryd.ntmps4
    go_wp2_with fail
    refine (SH.out _ b0).mono ?_
    rintro e w1 ⟨rfl, gq⟩
    have b1 := NX.out _ _ b0 gq
    clear gq b0
    go_wp2_with fail
    refine (C1.out _ b1).mono ?_
    rintro e w2 ⟨rfl, gq⟩
    have b2 := NX.out _ _ b1 gq
    clear gq b1
    go_wp2_with fail
    refine (C2.out _).mono ?_
    rintro e w3 ⟨rfl, gq⟩
    have b3 := NX.out _ _ b2 gq
    clear gq b2
    go_wp2_with fail
    refine (C3.out _).mono ?_
    rintro e w4 ⟨rfl, gq⟩
    have b4 := NX.out _ _ b3 gq
    clear gq b3
    go_wp2_with fail
    refine (C4.out _).mono ?_
    rintro e w5 ⟨rfl, gq⟩
    have b5 := NX.out _ _ b4 gq
    clear gq b4
    go_wp2
    go_ret
    exact ⟨rfl, by rw [HN.out]; exact b5⟩

theorem walk_DigestSums (a0 : ByteArray) (_w0 : a0.size ≤ maxLen) {W : World} (hL : laidMetH Tryd.prog Rows.digestSumsRow.laid W) :
    Calls Tryd.prog 4 #[.string a0] W (Fine W) :=
  sums_walk a0 W (tabs_of hL (by simp [Rows.digestSumsRow]) (by simp [Rows.digestSumsRow]))
end Go.Proofs.YtpfcalamchdciaaDoor
