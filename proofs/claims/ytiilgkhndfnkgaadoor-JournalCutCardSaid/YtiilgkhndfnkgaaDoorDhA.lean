/- The sums of the reference's rounds, as it writes them, and its table; the conditions are the ranges of the words. -/
import Derived.Test.YtiilgkhndfnkgaaDoorDgF
namespace Go.Proofs.YtiilgkhndfnkgaaDoor
open Go.RowKit
set_option linter.unusedVariables false

abbrev r64 (n : Nat) (f : Nat → Nat) : Array Value := M.rowF .u64 n fun i => (f i : Nat)
abbrev stX (s : Sha.St) : Array Value := r64 8 s.get
def Y8 : Array Value := #[.int .u64 0, .int .u64 0, .int .u64 0, .int .u64 0, .int .u64 0, .int .u64 0, .int .u64 0, .int .u64 0]
def Y64 : Array Value := #[.int .u64 0, .int .u64 0, .int .u64 0, .int .u64 0, .int .u64 0, .int .u64 0, .int .u64 0, .int .u64 0, .int .u64 0, .int .u64 0, .int .u64 0, .int .u64 0, .int .u64 0, .int .u64 0, .int .u64 0, .int .u64 0, .int .u64 0, .int .u64 0, .int .u64 0, .int .u64 0, .int .u64 0, .int .u64 0, .int .u64 0, .int .u64 0, .int .u64 0, .int .u64 0, .int .u64 0, .int .u64 0, .int .u64 0, .int .u64 0, .int .u64 0, .int .u64 0, .int .u64 0, .int .u64 0, .int .u64 0, .int .u64 0, .int .u64 0, .int .u64 0, .int .u64 0, .int .u64 0, .int .u64 0, .int .u64 0, .int .u64 0, .int .u64 0, .int .u64 0, .int .u64 0, .int .u64 0, .int .u64 0, .int .u64 0, .int .u64 0, .int .u64 0, .int .u64 0, .int .u64 0, .int .u64 0, .int .u64 0, .int .u64 0, .int .u64 0, .int .u64 0, .int .u64 0, .int .u64 0, .int .u64 0, .int .u64 0, .int .u64 0, .int .u64 0]
theorem y64_r : Y64 = r64 64 (fun _ => 0) := by rfl
theorem stX_cell {u : World} {m : Nat} {t : TypeId} {s : Sha.St} (h : M.RowAt u m t (stX s)) (j : Nat) (hj : j < 8) : u.cell? ⟨m, j, none⟩ = some (.int .u64 (s.get j : Nat)) := (h.cell j).trans (M.rowF_get hj)

theorem big {a : Nat} (h : a < 4294967296) : a < 18446744073709551616 := by omega
theorem sig0_64 {x : Nat} (hx : x < 4294967296) : bits .xor .u64 (bits .xor .u64 ((Sha.rot x 7 : Nat) : Int) ((Sha.rot x 18 : Nat) : Int)) ((x / 2 ^ 3 : Nat) : Int) = ((Sha.sig0 x : Nat) : Int) := by
  have a := Sha.rot_lt hx (show 7 ≤ 32 by omega)
  have b := Sha.rot_lt hx (show 18 ≤ 32 by omega)
  rw [u64_xor_nat _ _ (big a) (big b), u64_xor_nat _ _ (big (Sha.xor_lt a b)) (big (Nat.lt_of_le_of_lt (Nat.div_le_self _ _) hx))]; rfl
theorem sig1_64 {x : Nat} (hx : x < 4294967296) : bits .xor .u64 (bits .xor .u64 ((Sha.rot x 17 : Nat) : Int) ((Sha.rot x 19 : Nat) : Int)) ((x / 2 ^ 10 : Nat) : Int) = ((Sha.sig1 x : Nat) : Int) := by
  have a := Sha.rot_lt hx (show 17 ≤ 32 by omega)
  have b := Sha.rot_lt hx (show 19 ≤ 32 by omega)
  rw [u64_xor_nat _ _ (big a) (big b), u64_xor_nat _ _ (big (Sha.xor_lt a b)) (big (Nat.lt_of_le_of_lt (Nat.div_le_self _ _) hx))]; rfl
theorem big1_64 {x : Nat} (hx : x < 4294967296) : bits .xor .u64 (bits .xor .u64 ((Sha.rot x 6 : Nat) : Int) ((Sha.rot x 11 : Nat) : Int)) ((Sha.rot x 25 : Nat) : Int) = ((Sha.big1 x : Nat) : Int) := by
  have a := Sha.rot_lt hx (show 6 ≤ 32 by omega)
  have b := Sha.rot_lt hx (show 11 ≤ 32 by omega)
  have c := Sha.rot_lt hx (show 25 ≤ 32 by omega)
  rw [u64_xor_nat _ _ (big a) (big b), u64_xor_nat _ _ (big (Sha.xor_lt a b)) (big c)]; rfl
theorem big0_64 {x : Nat} (hx : x < 4294967296) : bits .xor .u64 (bits .xor .u64 ((Sha.rot x 2 : Nat) : Int) ((Sha.rot x 13 : Nat) : Int)) ((Sha.rot x 22 : Nat) : Int) = ((Sha.big0 x : Nat) : Int) := by
  have a := Sha.rot_lt hx (show 2 ≤ 32 by omega)
  have b := Sha.rot_lt hx (show 13 ≤ 32 by omega)
  have c := Sha.rot_lt hx (show 22 ≤ 32 by omega)
  rw [u64_xor_nat _ _ (big a) (big b), u64_xor_nat _ _ (big (Sha.xor_lt a b)) (big c)]; rfl
theorem ch_64 {e f g : Nat} (he : e < 4294967296) (hf : f < 4294967296) (hg : g < 4294967296) :
    bits .xor .u64 (bits .and .u64 (e : Int) (f : Int)) (bits .and .u64 (4294967295 - (e : Int)) (g : Int)) = ((Sha.ch e f g : Nat) : Int) := by
  have e1 : (4294967295 - (e : Int)) = ((4294967295 - e : Nat) : Int) := by omega
  rw [e1, u64_and_nat e f (big he) (big hf), u64_and_nat _ g (by omega) (big hg), u64_xor_nat _ _ (big (Sha.and_lt he)) (big (Sha.and_lt (by omega)))]; rfl
theorem maj_64 {a b c : Nat} (ha : a < 4294967296) (hb : b < 4294967296) (hc : c < 4294967296) :
    bits .xor .u64 (bits .xor .u64 (bits .and .u64 (a : Int) (b : Int)) (bits .and .u64 (a : Int) (c : Int))) (bits .and .u64 (b : Int) (c : Int)) = ((Sha.maj a b c : Nat) : Int) := by
  rw [u64_and_nat a b (big ha) (big hb), u64_and_nat a c (big ha) (big hc), u64_and_nat b c (big hb) (big hc), u64_xor_nat _ _ (big (Sha.and_lt ha)) (big (Sha.and_lt ha)), u64_xor_nat _ _ (big (Sha.xor_lt (Sha.and_lt ha) (Sha.and_lt ha))) (big (Sha.and_lt hb))]; rfl

def KV : Array Value := #[.int .u64 1116352408, .int .u64 1899447441, .int .u64 3049323471, .int .u64 3921009573, .int .u64 961987163, .int .u64 1508970993, .int .u64 2453635748, .int .u64 2870763221, .int .u64 3624381080, .int .u64 310598401, .int .u64 607225278, .int .u64 1426881987, .int .u64 1925078388, .int .u64 2162078206, .int .u64 2614888103, .int .u64 3248222580, .int .u64 3835390401, .int .u64 4022224774, .int .u64 264347078, .int .u64 604807628, .int .u64 770255983, .int .u64 1249150122, .int .u64 1555081692, .int .u64 1996064986, .int .u64 2554220882, .int .u64 2821834349, .int .u64 2952996808, .int .u64 3210313671, .int .u64 3336571891, .int .u64 3584528711, .int .u64 113926993, .int .u64 338241895, .int .u64 666307205, .int .u64 773529912, .int .u64 1294757372, .int .u64 1396182291, .int .u64 1695183700, .int .u64 1986661051, .int .u64 2177026350, .int .u64 2456956037, .int .u64 2730485921, .int .u64 2820302411, .int .u64 3259730800, .int .u64 3345764771, .int .u64 3516065817, .int .u64 3600352804, .int .u64 4094571909, .int .u64 275423344, .int .u64 430227734, .int .u64 506948616, .int .u64 659060556, .int .u64 883997877, .int .u64 958139571, .int .u64 1322822218, .int .u64 1537002063, .int .u64 1747873779, .int .u64 1955562222, .int .u64 2024104815, .int .u64 2227730452, .int .u64 2361852424, .int .u64 2428436474, .int .u64 2756734187, .int .u64 3204031479, .int .u64 3329325298]
theorem kv_r : KV = r64 64 Sha.k := by kernel_rfl

set_option maxRecDepth 100000 in
set_option maxHeartbeats 1000000 in
theorem K_any (w : World) : Calls Tryd.prog 39 #[] w fun e w' => e = .returned (.agg (r64 64 Sha.k)) ∧ Below w.heap.size w w' := by
  rw [← kv_r]
  obtain ⟨n, hn⟩ : ∃ n, w.heap.size = n := ⟨_, rfl⟩
  have HN := Lib.hid hn
  have r0 := heap_alloc_new w (.cells Y64 83)
  have iK : (Tryd.prog.info? 83).map (·.size) = some KV.size := by kernel_rfl
  have zK : Y64.size = KV.size := rfl
  have oK : KV.all (·.oneCell') = true := by kernel_rfl
  rw [hn] at r0
  have q6 := M.RowAt.setRow r0 KV
  have b6 : Below n w ((w.alloc (.cells Y64 83)).setRow n KV) := M.below_setRow (hn ▸ (Below.refl _ _).alloc (Nat.le_refl _) _) (Nat.le_refl _)
  obtain ⟨v1, hv1⟩ : ∃ v1, (w.alloc (.cells #[.int .u64 0, .int .u64 0, .int .u64 0, .int .u64 0, .int .u64 0, .int .u64 0, .int .u64 0, .int .u64 0, .int .u64 0, .int .u64 0, .int .u64 0, .int .u64 0, .int .u64 0, .int .u64 0, .int .u64 0, .int .u64 0, .int .u64 0, .int .u64 0, .int .u64 0, .int .u64 0, .int .u64 0, .int .u64 0, .int .u64 0, .int .u64 0, .int .u64 0, .int .u64 0, .int .u64 0, .int .u64 0, .int .u64 0, .int .u64 0, .int .u64 0, .int .u64 0, .int .u64 0, .int .u64 0, .int .u64 0, .int .u64 0, .int .u64 0, .int .u64 0, .int .u64 0, .int .u64 0, .int .u64 0, .int .u64 0, .int .u64 0, .int .u64 0, .int .u64 0, .int .u64 0, .int .u64 0, .int .u64 0, .int .u64 0, .int .u64 0, .int .u64 0, .int .u64 0, .int .u64 0, .int .u64 0, .int .u64 0, .int .u64 0, .int .u64 0, .int .u64 0, .int .u64 0, .int .u64 0, .int .u64 0, .int .u64 0, .int .u64 0, .int .u64 0] 83)).setRow n KV = v1 := ⟨_, rfl⟩
  have q6 : M.RowAt v1 n 83 KV := hv1 ▸ q6
  have b6 : Below n w v1 := hv1 ▸ b6
  have HV := Lib.hid hv1
  clear hv1
  go_enter Tryd.func39, Tryd.ntmps39
  go_wp2_with (refine wpList_store_row (x := .tmp 0) (y := .tmp 1) (cells := KV) (old := Y64) (t := 83) (ty := 83) (g := n) ?_ ?_ ?_ ?_ r0 iK zK oK ?_; rfl; rfl; rfl; rfl)
  rw [HV.out]
  have u91 : Tryd.prog.underlying 83 = some (.array 64 38) := by kernel_rfl
  have hload := run_loadVar_row (P := Tryd.prog) _ n 83 83 KV (0, 0) _ q6 u91 rfl iK
  refine bodyPost_ret (v := .agg KV) (by simp [results, Tryd.results39, asAddr, hload]) rfl ⟨rfl, ?_⟩
  exact b6
end Go.Proofs.YtiilgkhndfnkgaaDoor
