/- Plain laws of what was written and is read: a number's bytes, a text's, a hash's; no conditions of their own. -/
import Derived.Test.YtiilgkhndfnkgaaOcH
import Derived.Test.YtiilgkhndfnkgaaOcLong
namespace Go.Proofs.Ytiilgkhndfnkgaa
set_option linter.unusedVariables false

theorem mod_split (N : Int) (k : Nat) : N % 256 ^ (k + 1) = N / 256 ^ k % 256 * 256 ^ k + N % 256 ^ k := by
  have hp : (0 : Int) < 256 ^ k := Int.pow_pos (by decide)
  have h1 : N % (256 ^ k * 256) / 256 ^ k = N / 256 ^ k % 256 := mod_mul_div hp
  have h2 : N % (256 ^ k * 256) % 256 ^ k = N % 256 ^ k := Int.emod_emod_of_dvd N ⟨256, rfl⟩
  have h3 := Int.mul_ediv_add_emod (N % (256 ^ k * 256)) (256 ^ k)
  rw [Int.pow_succ]
  rw [h1, h2] at h3
  rw [← h3, Int.mul_comm (256 ^ k)]
theorem val_low_acc (N : Int) : ∀ (k : Nat) (a : Int), (u8s (low N k)).foldl (fun a b => a * 256 + (b.toNat : Int)) a = a * 256 ^ k + N % 256 ^ k
  | 0, a => by simp [low, u8s]
  | k + 1, a => by
    have h0 := Int.emod_nonneg (N / 256 ^ k) (b := 256) (by decide)
    have h1 := Int.emod_lt_of_pos (N / 256 ^ k) (b := 256) (by decide)
    have hx : ((UInt8.ofNat (N / 256 ^ k % 256).toNat).toNat : Int) = N / 256 ^ k % 256 := by rw [UInt8.toNat_ofNat']; omega
    show (u8s (low N k)).foldl (fun a b => a * 256 + (b.toNat : Int)) (a * 256 + ((UInt8.ofNat (N / 256 ^ k % 256).toNat).toNat : Int)) = _
    rw [val_low_acc N k, hx, mod_split, Int.add_mul, Int.pow_succ, Int.mul_comm (256 ^ k) 256, ← Int.mul_assoc, Int.add_assoc]
theorem val_low (N : Int) (k : Nat) (h0 : 0 ≤ N) (h1 : N < 256 ^ k) : val (u8s (low N k)) = N := by
  unfold val; rw [val_low_acc, Int.emod_eq_of_lt h0 h1]; omega
theorem str_list (l : List Int) : (strOfNums l).data.toList = u8s l := by simp [strOfNums, u8s]
theorem back_of (A R : ByteArray) : (A ++ R).extract A.size (A.size + R.size) = R := by
  apply ByteArray.ext; apply Array.ext'
  simp
  rw [List.drop_eq_nil_of_le (by simp), List.take_nil, List.nil_append]
  exact List.take_of_length_le (by simp)
theorem rdN_low (N : Int) (k : Nat) (R : ByteArray) (h0 : 0 ≤ N) (h1 : N < 256 ^ k) (k1 : 1 ≤ k) (k8 : k ≤ 8) :
    rdN (strOfNums (low N k) ++ R) k = N ∧ rdE (strOfNums (low N k) ++ R) k = 0 ∧ rdS (strOfNums (low N k) ++ R) k = R := by
  have hs : (strOfNums (low N k)).size = k := by rw [strOfNums_size, low_len]
  have hsz : (strOfNums (low N k) ++ R).size = k + R.size := by rw [ByteArray.size_append, hs]
  refine ⟨?_, ?_, ?_⟩
  · unfold rdN
    rw [if_neg (by omega), Int.toNat_natCast]
    have e : (strOfNums (low N k) ++ R).data.toList.take k = u8s (low N k) := by
      rw [ByteArray.data_append, Array.toList_append, str_list, List.take_append_of_le_length (by simp [u8s, low_len])]
      exact List.take_of_length_le (by simp [u8s, low_len])
    rw [e, val_low N k h0 h1]
  · unfold rdE
    rw [if_neg (by omega), if_neg (by omega)]
  · unfold rdS
    rw [if_neg (by omega), Int.toNat_natCast, hsz]
    have e := back_of (strOfNums (low N k)) R
    rw [hs] at e
    exact e

theorem rt_text (s R : ByteArray) (h : s.size ≤ 64) :
    rtT (strOfNums [(s.size : Int)] ++ s ++ R) = s ∧ rtE (strOfNums [(s.size : Int)] ++ s ++ R) = 0 ∧ rtS (strOfNums [(s.size : Int)] ++ s ++ R) = R := by
  have e1 : (strOfNums [(s.size : Int)] ++ s ++ R).size = 1 + s.size + R.size := by rw [ByteArray.size_append, pre_size]
  have e2 : txL (strOfNums [(s.size : Int)] ++ s ++ R) = s.size := by
    unfold txL val; simp [strOfNums]; omega
  refine ⟨?_, ?_, ?_⟩
  · rw [rtT_good (by omega), e2]
    apply ByteArray.ext; apply Array.ext'
    simp [strOfNums]
    exact List.take_of_length_le (by simp)
  · unfold rtE; rw [if_neg (by omega), e2, if_neg (by omega), if_neg (by omega)]
  · rw [rtS_good (by omega), e2, e1]
    have e := back_of (strOfNums [(s.size : Int)] ++ s) R
    rw [pre_size] at e
    exact e

theorem rh_hash (hl : List Int) (h : hl.length = 32) (hin : ∀ n ∈ hl, 0 ≤ n ∧ n ≤ 255) :
    rhH (strOfNums hl) = hl ∧ rhE (strOfNums hl) = 0 ∧ rhS (strOfNums hl) = ⟨#[]⟩ := by
  have e : (strOfNums hl).size = 32 := by rw [strOfNums_size, h]
  refine ⟨?_, ?_, ?_⟩
  · unfold rhH; rw [if_neg (by omega)]
    have : (strOfNums hl).extract 0 32 = strOfNums hl := by
      have := extract_all (strOfNums hl); rwa [e] at this
    rw [this]
    unfold bytesOf
    rw [str_list, u8s, List.map_map]
    conv => rhs; rw [← List.map_id hl]
    apply List.map_congr_left
    intro n hn
    have := hin n hn
    simp [UInt8.toNat_ofNat']
    omega
  · unfold rhE; rw [if_neg (by omega)]
  · unfold rhS; rw [if_neg (by omega), e]; apply ByteArray.ext; simp
end Go.Proofs.Ytiilgkhndfnkgaa
