/- What the purse's free, Reserve, Release, Commit and Move answer and leave; the condition is that the purse's blocks are known. -/
import Derived.Test.YtnnnbgndbmcffaaPuA
namespace Go.Proofs.Ytnnnbgndbmcffaa
open Go.RowKit
set_option linter.unusedVariables false
section
variable {p B mb n cap : Nat} {f : Nat → Int} {l : Res} {w : World}
set_option maxRecDepth 100000 in
set_option maxHeartbeats 2000000 in
theorem free_any (h : Pu p B mb n cap f l w) : Calls Try.prog 67 #[.pointer (some ⟨p, 0, none⟩)] w fun e w' => e = .returned (.int .i64 (freeM l : Nat)) ∧ Below w.heap.size w w' := by
  obtain ⟨q, hq⟩ : ∃ q, w.heap.size = q := ⟨_, rfl⟩
  have HQ := Lib.hid hq
  obtain ⟨s1, s2, s3⟩ := freeM_spec h.hm.dist
  have h32 := h.inv.len
  obtain ⟨F, hF⟩ : ∃ F, freeM l = F := ⟨_, rfl⟩
  rw [hF] at s1 s2 s3 ⊢
  have pu := fun v (hb : Below q w v) => h.same (hq.symm ▸ hb : Below w.heap.size w v)
  have PU := Lib.hid pu; have S1 := Lib.hid s1; have S2 := Lib.hid s2
  have c00 := h.c1
  clear pu s1 s2 h hF hq
  go_enter Try.func67, Try.ntmps67
  go_wp2
  go_loopg [3] F (fun g i v => ∃ k : Nat, g + k = F ∧ i = .int .i64 k ∧ Below q w v)
  case atStart => exact ⟨0, by omega, rfl, by rw [← HQ.out]; exact Below.refl _ _⟩
  case round =>
    obtain ⟨k, hg, rfl, hb⟩ := hrel
    have pv := PU.out _ hb
    have c1 := pv.c1
    have im := pv.hm
    have hok : KR.ok (k : Int) := ok_small (by omega) (by omega)
    have hqs := hb.size
    rw [HQ.out] at hqs
    have HG := Lib.hid hg; have IMH := Lib.hid im; have HOK := Lib.hid hok
    by_cases hlt : k < F
    · obtain ⟨x, hx⟩ := Option.isSome_iff_exists.1 (S1.out k hlt)
      have HX := Lib.hid hx
      clear hx im hok pv hg c00
      go_wp2_with (at_lookup; refine wpList_lookup_im_some rfl _ _ 116 121 rfl Try.underlying116 (.agg #[.int .i64 0, .int .u64 0]) zero121 IMH.out ?a1 (k : Int) HOK.out ?a2 x HX.out (.agg #[.int .i64 x.1, .int .u64 x.2]) rfl ?_)
      case a1 => rfl
      case a2 => rfl
      go_wp2
      go_roundg (F - (k + 1))
      case measure => have := HG.out; omega
      case rel => exact ⟨k + 1, by have := HG.out; omega, by go_num, hb.alloc hqs _⟩
    · obtain rfl : k = F := by omega
      have hx := S2.out
      have HX := Lib.hid hx
      clear hx im hok pv hg c00
      go_wp2_with (at_lookup; refine wpList_lookup_im_none rfl _ _ 116 121 rfl Try.underlying116 (.agg #[.int .i64 0, .int .u64 0]) zero121 IMH.out ?a1 (k : Int) HOK.out ?a2 HX.out ?_)
      case a1 => rfl
      case a2 => rfl
      go_wp2
      go_ret
      exact ⟨rfl, by rw [HQ.out]; exact hb.alloc hqs _⟩
end
end Go.Proofs.Ytnnnbgndbmcffaa
