/- What the shelf's Least returns; the condition is that the shelf's block is known. -/
import Derived.Test.YtpfcalamchdciaaDoorShF
namespace Go.Proofs.YtpfcalamchdciaaDoor
open Go.RowKit
set_option linter.unusedVariables false

/-- the least number among the first k places, and whether there is one -/
def lst (E : Nat → Ent) : Nat → Int × Bool
  | 0 => (0, false)
  | k + 1 => if (E k).full && (!(lst E k).2 || decide ((E k).num < (lst E k).1)) then ((E k).num, true) else lst E k

set_option maxRecDepth 100000 in
set_option maxHeartbeats 4000000 in
theorem least_any (s : Nat) (E : Nat → Ent) (w : World) (hs : M.RowAt w s 71 (shC E)) :
    Calls Tryd.prog 52 #[.pointer (some ⟨s, 0, none⟩)] w fun e w' => e = .returned (.tuple #[.int .i64 (lst E 17).1, .bool (lst E 17).2]) ∧ Below w.heap.size w w' := by
  obtain ⟨n, hn⟩ : ∃ n, w.heap.size = n := ⟨_, rfl⟩
  have HN := Lib.hid hn
  have kb := KB.start w
  rw [hn] at kb
  have iS : (Tryd.prog.info? 69).map (·.size) = some (shC E).size := by rw [shC_size]; kernel_rfl
  have hidx := run_index_shelf E
  have HX := Lib.hid hidx
  obtain ⟨S, hS⟩ : ∃ S, shC E = S := ⟨_, rfl⟩
  rw [hS] at iS hs HX
  have rs : w.heap[s]? = some (.cells S 71 (0, 0)) := hs
  clear hidx hS hs hn
  go_enter Tryd.func52, Tryd.ntmps52
  go_wp2_with (refine wpList_load_row (x := .tmp 10) (ty := 69) (g := s) (cs := S) (t := 71) (fr := (0, 0)) ?_ ?_ ?_ _ rs und69 rfl iS ?_; rfl; rfl; rfl)
  go_loopg [4, 5, 12] 17 (fun m c d i v => ∃ k : Nat, m + k = 17 ∧ c = .int .i64 (lst E k).1 ∧ d = .bool (lst E k).2 ∧ i = .int .i64 k ∧ KB n w [] v)
  case atStart => exact ⟨0, by omega, rfl, rfl, rfl, kb⟩
  case round =>
    clear kb rs
    obtain ⟨k, hm, rfl, rfl, rfl, kb⟩ := hrel
    by_cases hlt : k < 17
    · have hx := fun W' => HX.out k hlt W'
      have iR := ent_info (E k)
      have oR := (E k).row_one
      have zR : Z68.size = (E k).row.size := by unfold Z68; rw [Ent.row_size, Ent.row_size]
      have c0 : (E k).row[0]? = some (.bool (E k).full) := (E k).c0
      have c1 : (E k).row[1]? = some (.int .i64 (E k).num) := (E k).c1
      have hk3 : (k : Int) < 17 := by omega
      obtain ⟨g, VG, UG, hg, hVG, rVG, hUG, kg, geg, ltg⟩ := kb.box 68 (#[.bool false, .int .i64 0, .int .u8 0, .int .u8 0, .int .u8 0, .int .u8 0, .int .u8 0, .int .u8 0, .int .u8 0, .int .u8 0, .int .u8 0, .int .u8 0, .int .u8 0, .int .u8 0, .int .u8 0, .int .u8 0, .int .u8 0, .int .u8 0, .int .u8 0, .int .u8 0, .int .u8 0, .int .u8 0, .int .u8 0, .int .u8 0, .int .u8 0, .int .u8 0, .int .u8 0, .int .u8 0, .int .u8 0, .int .u8 0, .int .u8 0, .int .u8 0, .int .u8 0, .int .u8 0]) (E k).row
      have Hg := Lib.hid hg; have HVG := Lib.hid hVG; have HUG := Lib.hid hUG
      have cG := (M.RowAt.cell (kg.row g 68 (E k).row (by simp)) 0).trans c0
      have cH := (M.RowAt.cell (kg.row g 68 (E k).row (by simp)) 1).trans c1
      have hc : lst E (k + 1) = if (E k).full && (!(lst E k).2 || decide ((E k).num < (lst E k).1)) then ((E k).num, true) else lst E k := rfl
      obtain ⟨a, b, hab⟩ : ∃ a b, lst E k = (a, b) := ⟨_, _, rfl⟩
      rw [hab] at hc
      rw [hab]
      obtain ⟨fl, hfl⟩ : ∃ fl, (E k).full = fl := ⟨_, rfl⟩
      obtain ⟨nu, hnu⟩ : ∃ nu, (E k).num = nu := ⟨_, rfl⟩
      rw [hfl] at cG hc
      rw [hnu] at cH hc
      have HC := Lib.hid hc
      clear hg hVG hUG kb ltg hc c0 c1 hfl hnu hab
      generalize (E k).row = D at *
      cases fl
      · go_wp2_with (first
          | (rw [Hg.out, HVG.out]; refine wpList_store_row (x := .tmp 7) (y := .tmp 14) (cells := D) (old := #[.bool false, .int .i64 0, .int .u8 0, .int .u8 0, .int .u8 0, .int .u8 0, .int .u8 0, .int .u8 0, .int .u8 0, .int .u8 0, .int .u8 0, .int .u8 0, .int .u8 0, .int .u8 0, .int .u8 0, .int .u8 0, .int .u8 0, .int .u8 0, .int .u8 0, .int .u8 0, .int .u8 0, .int .u8 0, .int .u8 0, .int .u8 0, .int .u8 0, .int .u8 0, .int .u8 0, .int .u8 0, .int .u8 0, .int .u8 0, .int .u8 0, .int .u8 0, .int .u8 0, .int .u8 0]) (t := 68) (ty := 68) (g := g) ?_ ?_ ?_ ?_ rVG iR zR oR ?_; rfl; rfl; rfl; rfl; rw [HUG.out])
          | fail)
        go_roundg (17 - (k + 1))
        case measure => omega
        case rel => exact ⟨k + 1, by omega, by rw [HC.out]; rfl, by rw [HC.out]; rfl, by go_num, kg.sub (by simp)⟩
      · cases b
        · go_wp2_with (first
            | (rw [Hg.out, HVG.out]; refine wpList_store_row (x := .tmp 7) (y := .tmp 14) (cells := D) (old := #[.bool false, .int .i64 0, .int .u8 0, .int .u8 0, .int .u8 0, .int .u8 0, .int .u8 0, .int .u8 0, .int .u8 0, .int .u8 0, .int .u8 0, .int .u8 0, .int .u8 0, .int .u8 0, .int .u8 0, .int .u8 0, .int .u8 0, .int .u8 0, .int .u8 0, .int .u8 0, .int .u8 0, .int .u8 0, .int .u8 0, .int .u8 0, .int .u8 0, .int .u8 0, .int .u8 0, .int .u8 0, .int .u8 0, .int .u8 0, .int .u8 0, .int .u8 0, .int .u8 0, .int .u8 0]) (t := 68) (ty := 68) (g := g) ?_ ?_ ?_ ?_ rVG iR zR oR ?_; rfl; rfl; rfl; rfl; rw [HUG.out])
            | fail)
          go_roundg (17 - (k + 1))
          case measure => omega
          case rel => exact ⟨k + 1, by omega, by rw [HC.out]; rfl, by rw [HC.out]; rfl, by go_num, kg.sub (by simp)⟩
        · by_cases hna : nu < a
          · go_wp2_with (first
              | (rw [Hg.out, HVG.out]; refine wpList_store_row (x := .tmp 7) (y := .tmp 14) (cells := D) (old := #[.bool false, .int .i64 0, .int .u8 0, .int .u8 0, .int .u8 0, .int .u8 0, .int .u8 0, .int .u8 0, .int .u8 0, .int .u8 0, .int .u8 0, .int .u8 0, .int .u8 0, .int .u8 0, .int .u8 0, .int .u8 0, .int .u8 0, .int .u8 0, .int .u8 0, .int .u8 0, .int .u8 0, .int .u8 0, .int .u8 0, .int .u8 0, .int .u8 0, .int .u8 0, .int .u8 0, .int .u8 0, .int .u8 0, .int .u8 0, .int .u8 0, .int .u8 0, .int .u8 0, .int .u8 0]) (t := 68) (ty := 68) (g := g) ?_ ?_ ?_ ?_ rVG iR zR oR ?_; rfl; rfl; rfl; rfl; rw [HUG.out])
              | fail)
            go_roundg (17 - (k + 1))
            case measure => omega
            case rel => exact ⟨k + 1, by omega, by rw [HC.out]; simp [hna], by rw [HC.out]; simp [hna], by go_num, kg.sub (by simp)⟩
          · go_wp2_with (first
              | (rw [Hg.out, HVG.out]; refine wpList_store_row (x := .tmp 7) (y := .tmp 14) (cells := D) (old := #[.bool false, .int .i64 0, .int .u8 0, .int .u8 0, .int .u8 0, .int .u8 0, .int .u8 0, .int .u8 0, .int .u8 0, .int .u8 0, .int .u8 0, .int .u8 0, .int .u8 0, .int .u8 0, .int .u8 0, .int .u8 0, .int .u8 0, .int .u8 0, .int .u8 0, .int .u8 0, .int .u8 0, .int .u8 0, .int .u8 0, .int .u8 0, .int .u8 0, .int .u8 0, .int .u8 0, .int .u8 0, .int .u8 0, .int .u8 0, .int .u8 0, .int .u8 0, .int .u8 0, .int .u8 0]) (t := 68) (ty := 68) (g := g) ?_ ?_ ?_ ?_ rVG iR zR oR ?_; rfl; rfl; rfl; rfl; rw [HUG.out])
              | fail)
            go_roundg (17 - (k + 1))
            case measure => omega
            case rel => exact ⟨k + 1, by omega, by rw [HC.out]; simp [show ¬ nu < a by omega], by rw [HC.out]; simp [show ¬ nu < a by omega], by go_num, kg.sub (by simp)⟩
    · obtain rfl : k = 17 := by omega
      go_wp2
      refine bodyPost_ret (v := .tuple #[.int .i64 (lst E 17).1, .bool (lst E 17).2]) (by simp [results, Tryd.results52, asAddr]) rfl ⟨rfl, ?_⟩
      rw [HN.out]; exact kb.below
end Go.Proofs.YtpfcalamchdciaaDoor
