/- Blocks of a text that comes in parts; plain Lean, no conditions. -/
import Derived.Test.YtpfcalamchdciaaDoorSha
namespace Go.Proofs.YtpfcalamchdciaaDoor
namespace Sha
set_option linter.unusedVariables false

theorem blk_congr (s : St) (X Y : ByteArray) : ∀ n, (∀ k, k < n → X.extract (64 * k) (64 * k + 64) = Y.extract (64 * k) (64 * k + 64)) → blk s X n = blk s Y n
  | 0, _ => rfl
  | n + 1, h => by
    show compress (blk s X n) _ = compress (blk s Y n) _
    rw [blk_congr s X Y n (fun k hk => h k (by omega)), h n (by omega)]
theorem blk_add (s : St) (X T : ByteArray) (n : Nat) : ∀ m, (∀ k, k < m → X.extract (64 * (n + k)) (64 * (n + k) + 64) = T.extract (64 * k) (64 * k + 64)) → blk s X (n + m) = blk (blk s X n) T m
  | 0, _ => rfl
  | m + 1, h => by
    show compress (blk s X (n + m)) (X.extract (64 * (n + m)) (64 * (n + m) + 64)) = compress (blk (blk s X n) T m) (T.extract (64 * m) (64 * m + 64))
    rw [blk_add s X T n m (fun k hk => h k (by omega)), h m (by omega)]
theorem ext_left (a t : ByteArray) (i j : Nat) (h : j ≤ a.size) : (a ++ t).extract i j = a.extract i j := by
  apply ByteArray.ext
  have : a.data.size = a.size := rfl
  rw [ByteArray.data_extract, ByteArray.data_append, ByteArray.data_extract, Array.extract_append]
  simp
  omega
theorem ext_right (a t : ByteArray) (i j : Nat) (h : a.size ≤ i) : (a ++ t).extract i j = t.extract (i - a.size) (j - a.size) := by
  apply ByteArray.ext
  have : a.data.size = a.size := rfl
  rw [ByteArray.data_extract, ByteArray.data_append, ByteArray.data_extract, Array.extract_append]
  simp
  omega
/-- the whole blocks of a, then what is left of a, and t behind it -/
theorem cut_join (a t : ByteArray) (k : Nat) (h : k ≤ a.size) : a ++ t = a.extract 0 k ++ (a.extract k a.size ++ t) := by
  apply ByteArray.ext
  have : a.data.size = a.size := rfl
  simp only [ByteArray.data_append, ByteArray.data_extract]
  rw [← Array.append_assoc]
  congr 1
  have e : a.data.extract 0 k ++ a.data.extract k a.size = a.data.extract 0 a.size := by
    rw [Array.extract_append_extract]; congr 1 <;> omega
  rw [e, ← this, Array.extract_size]
theorem blk_parts (s : St) (a t : ByteArray) (m : Nat) :
    blk (blk s a (a.size / 64)) (a.extract (64 * (a.size / 64)) a.size ++ t) m = blk s (a ++ t) (a.size / 64 + m) := by
  have hle : 64 * (a.size / 64) ≤ a.size := by omega
  rw [blk_add s (a ++ t) (a.extract (64 * (a.size / 64)) a.size ++ t) (a.size / 64) m, blk_congr s (a ++ t) a]
  · intro k hk
    exact ext_left a t _ _ (by omega)
  · intro k hk
    rw [cut_join a t (64 * (a.size / 64)) hle]
    have hs : (a.extract 0 (64 * (a.size / 64))).size = 64 * (a.size / 64) := by simp; omega
    rw [ext_right _ _ _ _ (by rw [hs]; omega), hs]
    congr 1 <;> omega
theorem rest_size (a t : ByteArray) : (a.extract (64 * (a.size / 64)) a.size ++ t).size = a.size % 64 + t.size := by simp; omega
/-- what is left behind the whole blocks of both -/
theorem rest_join (a t : ByteArray) (m : Nat) (hm : 64 * m ≤ a.size % 64 + t.size) :
    (a.extract (64 * (a.size / 64)) a.size ++ t).extract (64 * m) (a.extract (64 * (a.size / 64)) a.size ++ t).size = (a ++ t).extract (64 * (a.size / 64 + m)) (a ++ t).size := by
  have hle : 64 * (a.size / 64) ≤ a.size := by omega
  have hz := rest_size a t
  have hz2 : (a ++ t).size = a.size + t.size := ByteArray.size_append
  have hs : (a.extract 0 (64 * (a.size / 64))).size = 64 * (a.size / 64) := by simp; omega
  have e := ext_right (a.extract 0 (64 * (a.size / 64))) (a.extract (64 * (a.size / 64)) a.size ++ t) (64 * (a.size / 64 + m)) (a ++ t).size (by rw [hs]; omega)
  rw [← cut_join a t (64 * (a.size / 64)) hle] at e
  rw [e, hs, hz2, hz]
  congr 1 <;> omega
/-- blocks of what is cut to whole blocks -/
theorem blk_cut (s : St) (X : ByteArray) (m : Nat) (h : 64 * m ≤ X.size) : blk s (X.extract 0 (64 * m)) m = blk s X m := by
  apply blk_congr
  intro k hk
  apply ByteArray.ext
  rw [ByteArray.data_extract, ByteArray.data_extract, ByteArray.data_extract, Array.extract_extract]
  congr 1 <;> omega
/-- the sum of all, of the words that the whole blocks came to and the rest -/
theorem sum_parts (a : ByteArray) : blk (blk begin0 a (a.size / 64)) (a.extract (64 * (a.size / 64)) a.size ++ tail a.size) ((a.extract (64 * (a.size / 64)) a.size ++ tail a.size).size / 64) = words a := by
  rw [blk_parts]
  unfold words pad
  congr 1
  rw [rest_size, ByteArray.size_append]
  have := tail_size a.size
  omega
end Sha
end Go.Proofs.YtpfcalamchdciaaDoor
