/- Plain laws of bytes that are cut off; no conditions of their own. -/
import Derived.Test.YtiilgkhndfnkgaaOcBack
namespace Go.Proofs.Ytiilgkhndfnkgaa
set_option linter.unusedVariables false

theorem ext_app (A X : ByteArray) (k : Nat) (h : A.size ≤ k) : (A ++ X).extract 0 k = A ++ X.extract 0 (k - A.size) := by
  apply ByteArray.ext; apply Array.ext'
  have hl : A.data.toList.length = A.size := by simp
  simp
  exact List.take_of_length_le (by simp; omega)
theorem front_of (A R : ByteArray) : (A ++ R).extract 0 A.size = A := by
  apply ByteArray.ext; apply Array.ext'
  simp
  exact List.take_of_length_le (by simp)
theorem rh_more (hl : List Int) (R : ByteArray) (h : hl.length = 32) (hin : ∀ n ∈ hl, 0 ≤ n ∧ n ≤ 255) :
    rhH (strOfNums hl ++ R) = hl ∧ rhE (strOfNums hl ++ R) = 0 ∧ rhS (strOfNums hl ++ R) = R := by
  have e : (strOfNums hl).size = 32 := by rw [strOfNums_size, h]
  have e2 : (strOfNums hl ++ R).size = 32 + R.size := by rw [ByteArray.size_append, e]
  have e3 := front_of (strOfNums hl) R
  have e4 := back_of (strOfNums hl) R
  rw [e] at e3 e4
  refine ⟨?_, ?_, ?_⟩
  · have h0 := (rh_hash hl h hin).1
    unfold rhH at h0 ⊢
    rw [if_neg (by omega)] at h0 ⊢
    have e5 := extract_all (strOfNums hl)
    rw [e] at e5
    rw [e5] at h0
    rw [e3, h0]
  · unfold rhE; rw [if_neg (by omega)]
  · unfold rhS; rw [if_neg (by omega), e2, e4]
theorem rt_cut (s : ByteArray) (j : Nat) (hs : s.size ≤ 64) (hj : j < 1 + s.size) : rtE ((strOfNums [(s.size : Int)] ++ s).extract 0 j) = 10 := by
  have e : ((strOfNums [(s.size : Int)] ++ s).extract 0 j).size = j := by rw [ByteArray.size_extract, pre_size]; omega
  unfold rtE
  rw [e]
  by_cases hz : j = 0
  · rw [if_pos hz]
  · have e2 : txL ((strOfNums [(s.size : Int)] ++ s).extract 0 j) = s.size := by
      obtain ⟨i, rfl⟩ : ∃ i, j = i + 1 := ⟨j - 1, by omega⟩
      unfold txL val; simp [strOfNums]; omega
    rw [if_neg hz, e2, if_neg (by omega), if_pos hj]
end Go.Proofs.Ytiilgkhndfnkgaa
