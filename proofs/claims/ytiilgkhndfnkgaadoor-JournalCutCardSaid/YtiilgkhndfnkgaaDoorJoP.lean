/- Plain words of records: the bytes of a record, of many, what any bytes begin by; a beginning of records is some whole ones and the beginning of one. No conditions of their own. -/
import Derived.Test.YtiilgkhndfnkgaaDoorOcS
import Derived.Test.YtiilgkhndfnkgaaDoorSha
namespace Go.Proofs.YtiilgkhndfnkgaaDoor
open Oc
set_option linter.unusedVariables false

theorem mod_mul_div {n P Q : Int} (hp : 0 < P) : n % (P * Q) / P = n / P % Q := by
  have h1 : n % (P * Q) = n + P * (-(Q * (n / P / Q))) := by
    rw [Int.emod_def, Int.ediv_ediv_of_nonneg (Int.le_of_lt hp), Int.mul_neg, ← Int.mul_assoc]; omega
  rw [h1, Int.add_mul_ediv_left _ _ (Int.ne_of_gt hp), Int.emod_def]; omega
def u8s (l : List Int) : List UInt8 := l.map fun n => UInt8.ofNat n.toNat
theorem mod_split (N : Int) (k : Nat) : N % 256 ^ (k + 1) = N / 256 ^ k % 256 * 256 ^ k + N % 256 ^ k := by
  have hp : (0 : Int) < 256 ^ k := Int.pow_pos (by decide)
  have h1 : N % (256 ^ k * 256) / 256 ^ k = N / 256 ^ k % 256 := mod_mul_div hp
  have h2 : N % (256 ^ k * 256) % 256 ^ k = N % 256 ^ k := Int.emod_emod_of_dvd N ⟨256, rfl⟩
  have h3 := Int.mul_ediv_add_emod (N % (256 ^ k * 256)) (256 ^ k)
  rw [Int.pow_succ]
  rw [h1, h2] at h3
  rw [← h3, Int.mul_comm (256 ^ k)]
theorem val_low_acc (N : Int) : ∀ (k : Nat) (a : Int), (u8s (low N k)).foldl (fun a b => a * 256 + (b.toNat : Int)) a = a * 256 ^ k + N % 256 ^ k
  | 0, a => by simp [low, u8s]
  | k + 1, a => by
    have h0 := Int.emod_nonneg (N / 256 ^ k) (b := 256) (by decide)
    have h1 := Int.emod_lt_of_pos (N / 256 ^ k) (b := 256) (by decide)
    have hx : ((UInt8.ofNat (N / 256 ^ k % 256).toNat).toNat : Int) = N / 256 ^ k % 256 := by rw [UInt8.toNat_ofNat']; omega
    show (u8s (low N k)).foldl (fun a b => a * 256 + (b.toNat : Int)) (a * 256 + ((UInt8.ofNat (N / 256 ^ k % 256).toNat).toNat : Int)) = _
    rw [val_low_acc N k, hx, mod_split, Int.add_mul, Int.pow_succ, Int.mul_comm (256 ^ k) 256, ← Int.mul_assoc, Int.add_assoc]
theorem val_low (N : Int) (k : Nat) (h0 : 0 ≤ N) (h1 : N < 256 ^ k) : val (u8s (low N k)) = N := by
  unfold val; rw [val_low_acc, Int.emod_eq_of_lt h0 h1]; omega
theorem str_list (l : List Int) : (strOfNums l).data.toList = u8s l := by simp [strOfNums, u8s]
theorem back_of (A R : ByteArray) : (A ++ R).extract A.size (A.size + R.size) = R := by
  apply ByteArray.ext; apply Array.ext'
  simp
  rw [List.drop_eq_nil_of_le (by simp), List.take_nil, List.nil_append]
  exact List.take_of_length_le (by simp)
theorem rdN_low (N : Int) (k : Nat) (R : ByteArray) (h0 : 0 ≤ N) (h1 : N < 256 ^ k) (k1 : 1 ≤ k) (k8 : k ≤ 8) :
    rdN (strOfNums (low N k) ++ R) k = N ∧ rdE (strOfNums (low N k) ++ R) k = 0 ∧ rdS (strOfNums (low N k) ++ R) k = R := by
  have hs : (strOfNums (low N k)).size = k := by rw [strOfNums_size, low_len]
  have hsz : (strOfNums (low N k) ++ R).size = k + R.size := by rw [ByteArray.size_append, hs]
  refine ⟨?_, ?_, ?_⟩
  · unfold rdN
    rw [if_neg (by omega), Int.toNat_natCast]
    have e : (strOfNums (low N k) ++ R).data.toList.take k = u8s (low N k) := by
      rw [ByteArray.data_append, Array.toList_append, str_list, List.take_append_of_le_length (by simp [u8s, low_len])]
      exact List.take_of_length_le (by simp [u8s, low_len])
    rw [e, val_low N k h0 h1]
  · unfold rdE
    rw [if_neg (by omega), if_neg (by omega)]
  · unfold rdS
    rw [if_neg (by omega), Int.toNat_natCast, hsz]
    have e := back_of (strOfNums (low N k)) R
    rw [hs] at e
    exact e

/-- the first four bytes of a text's sum -/
def sum4 (t : ByteArray) : ByteArray := strOfNums [(Sha.sum t 0 : Nat), (Sha.sum t 1 : Nat), (Sha.sum t 2 : Nat), (Sha.sum t 3 : Nat)]
theorem sum4_size (t : ByteArray) : (sum4 t).size = 4 := by unfold sum4; rw [strOfNums_size]; rfl
def hdB (n k : Nat) : ByteArray := strOfNums (low (n : Nat) 8) ++ strOfNums (low (k : Nat) 2)
theorem hdB_size (n k : Nat) : (hdB n k).size = 10 := by unfold hdB; rw [ByteArray.size_append, strOfNums_size, strOfNums_size, low_len, low_len]
def rcdT (n : Nat) (s : ByteArray) : ByteArray := hdB n s.size ++ s
/-- the bytes of a record -/
def rcd (n : Nat) (s : ByteArray) : ByteArray := rcdT n s ++ sum4 (rcdT n s)
theorem rcdT_size (n : Nat) (s : ByteArray) : (rcdT n s).size = 10 + s.size := by unfold rcdT; rw [ByteArray.size_append, hdB_size]
theorem rcd_size (n : Nat) (s : ByteArray) : (rcd n s).size = 14 + s.size := by unfold rcd; rw [ByteArray.size_append, rcdT_size, sum4_size]; omega
theorem rcd_eq (n : Nat) (s R : ByteArray) : rcd n s ++ R = strOfNums (low (n : Nat) 8) ++ (strOfNums (low (s.size : Nat) 2) ++ (s ++ (sum4 (rcdT n s) ++ R))) := by
  unfold rcd; conv => lhs; arg 1; arg 1; unfold rcdT hdB
  simp only [ByteArray.append_assoc]
structure Got where
  n : Int
  t : ByteArray
  w : Int
  e : Int
/-- how long the text is, as the bytes say -/
def kw (s : ByteArray) : Nat := (rdN (rdS s 8) 2).toNat
def getR (s : ByteArray) : Got :=
  if s.size = 0 then ⟨0, .empty, 0, 3⟩ else if s.size < 10 then ⟨0, .empty, 0, 10⟩ else
  if 1024 < kw s then ⟨0, .empty, 0, 12⟩ else if s.size < 14 + kw s then ⟨0, .empty, 0, 10⟩ else
  if s.extract (10 + kw s) (14 + kw s) ≠ sum4 (s.extract 0 (10 + kw s)) then ⟨0, .empty, 0, 170⟩ else ⟨rdN s 8, s.extract 10 (10 + kw s), (14 + kw s : Nat), 0⟩
theorem low_bound (n : Nat) (h : n < 18446744073709551616) : (0 : Int) ≤ (n : Nat) ∧ ((n : Nat) : Int) < 256 ^ 8 := by
  have e : (256 : Int) ^ 8 = 18446744073709551616 := by decide
  rw [e]; omega
theorem kw_of (n k : Nat) (R : ByteArray) (hn : n < 18446744073709551616) (hk : k ≤ 1024) : kw (hdB n k ++ R) = k ∧ rdN (hdB n k ++ R) 8 = (n : Nat) := by
  obtain ⟨b1, b2⟩ := low_bound n hn
  have e1 := rdN_low (n : Nat) 8 (strOfNums (low (k : Nat) 2) ++ R) b1 b2 (by decide) (by decide)
  have e256 : (256 : Int) ^ 2 = 65536 := by decide
  have e2 := rdN_low (k : Nat) 2 R (by omega) (by rw [e256]; omega) (by decide) (by decide)
  have e : hdB n k ++ R = strOfNums (low (n : Nat) 8) ++ (strOfNums (low (k : Nat) 2) ++ R) := by unfold hdB; rw [ByteArray.append_assoc]
  unfold kw
  rw [e]
  refine ⟨?_, e1.1⟩
  have h3 : rdS (strOfNums (low (n : Nat) 8) ++ (strOfNums (low (k : Nat) 2) ++ R)) 8 = strOfNums (low (k : Nat) 2) ++ R := e1.2.2
  rw [h3]
  have h4 : rdN (strOfNums (low (k : Nat) 2) ++ R) 2 = (k : Nat) := e2.1
  rw [h4]; omega
theorem ext_pre (A B : ByteArray) : (A ++ B).extract 0 A.size = A := ByteArray.extract_append_eq_left rfl
theorem ext_mid (A B C : ByteArray) : (A ++ (B ++ C)).extract A.size (A.size + B.size) = B := by
  rw [ByteArray.extract_append, ByteArray.extract_append]
  apply ByteArray.ext; apply Array.ext'
  simp
theorem ext_over (A B : ByteArray) (k : Nat) (h : A.size ≤ k) : (A ++ B).extract 0 k = A ++ B.extract 0 (k - A.size) := by
  have h' : A.data.toList.length ≤ k := h
  apply ByteArray.ext; apply Array.ext'
  simp only [ByteArray.data_extract, ByteArray.data_append, Array.toList_extract, Array.toList_append, List.extract_eq_take_drop, List.drop_zero, Nat.sub_zero]
  rw [List.take_append, List.take_of_length_le h']
  rfl
theorem ext_under (A B : ByteArray) (k : Nat) (h : k ≤ A.size) : (A ++ B).extract 0 k = A.extract 0 k := by
  have h' : k ≤ A.data.toList.length := h
  apply ByteArray.ext; apply Array.ext'
  simp only [ByteArray.data_extract, ByteArray.data_append, Array.toList_extract, Array.toList_append, List.extract_eq_take_drop, List.drop_zero, Nat.sub_zero]
  rw [List.take_append_of_le_length h']
theorem empty_app (A : ByteArray) : ByteArray.empty ++ A = A := by simp
theorem getR_rcd (n : Nat) (s R : ByteArray) (hn : n < 18446744073709551616) (hs : s.size ≤ 1024) : getR (rcd n s ++ R) = ⟨(n : Nat), s, (14 + s.size : Nat), 0⟩ := by
  have e : rcd n s ++ R = hdB n s.size ++ (s ++ (sum4 (rcdT n s) ++ R)) := by
    show hdB n s.size ++ s ++ sum4 (rcdT n s) ++ R = _
    simp only [ByteArray.append_assoc]
  have hz : (rcd n s ++ R).size = 14 + s.size + R.size := by rw [ByteArray.size_append, rcd_size]
  have hk : kw (rcd n s ++ R) = s.size := by rw [e]; exact (kw_of n s.size _ hn hs).1
  have hN : rdN (rcd n s ++ R) 8 = (n : Nat) := by rw [e]; exact (kw_of n s.size _ hn hs).2
  have x1 : (rcd n s ++ R).extract (10 + s.size) (14 + s.size) = sum4 (rcdT n s) := by
    have e2 : rcd n s ++ R = rcdT n s ++ (sum4 (rcdT n s) ++ R) := by unfold rcd; rw [ByteArray.append_assoc]
    have := ext_mid (rcdT n s) (sum4 (rcdT n s)) R
    rw [rcdT_size, sum4_size] at this
    rw [e2, show 14 + s.size = 10 + s.size + 4 by omega]; exact this
  have x2 : (rcd n s ++ R).extract 0 (10 + s.size) = rcdT n s := by
    have e2 : rcd n s ++ R = rcdT n s ++ (sum4 (rcdT n s) ++ R) := by unfold rcd; rw [ByteArray.append_assoc]
    have := ext_pre (rcdT n s) (sum4 (rcdT n s) ++ R)
    rw [rcdT_size] at this
    rw [e2]; exact this
  have x3 : (rcd n s ++ R).extract 10 (10 + s.size) = s := by
    have := ext_mid (hdB n s.size) s (sum4 (rcdT n s) ++ R)
    rw [hdB_size] at this
    rw [e]; exact this
  unfold getR
  rw [hk, hz, if_neg (by omega), if_neg (by omega), if_neg (by omega), if_neg (by omega), x1, x2, x3, hN, if_neg (by simp)]
theorem getR_cut (n : Nat) (s : ByteArray) (k : Nat) (hn : n < 18446744073709551616) (hs : s.size ≤ 1024) (hk : k < 14 + s.size) : (getR ((rcd n s).extract 0 k)).e ≠ 0 := by
  have hz : ((rcd n s).extract 0 k).size = k := by rw [ByteArray.size_extract, rcd_size]; omega
  unfold getR
  by_cases h0 : k = 0
  · rw [hz, if_pos h0]; decide
  by_cases h1 : k < 10
  · rw [hz, if_neg h0, if_pos h1]; decide
  have e : (rcd n s).extract 0 k = hdB n s.size ++ (s ++ sum4 (rcdT n s)).extract 0 (k - 10) := by
    have e1 : rcd n s = hdB n s.size ++ (s ++ sum4 (rcdT n s)) := by
      show hdB n s.size ++ s ++ sum4 (rcdT n s) = _
      rw [ByteArray.append_assoc]
    rw [e1, ext_over _ _ _ (by rw [hdB_size]; omega), hdB_size]
  have hkw : kw ((rcd n s).extract 0 k) = s.size := by rw [e]; exact (kw_of n s.size _ hn hs).1
  rw [hz, hkw, if_neg h0, if_neg h1, if_neg (by omega), if_pos hk]; decide
theorem getR_nil : (getR .empty).e ≠ 0 := by unfold getR; rw [if_pos ByteArray.size_empty]; decide
/-- many records, from a number on -/
def rcds (i : Nat) : List ByteArray → ByteArray
  | [] => .empty
  | t :: l => rcd i t ++ rcds (i + 1) l
theorem rcds_append : ∀ (l m : List ByteArray) (i : Nat), rcds i (l ++ m) = rcds i l ++ rcds (i + l.length) m
  | [], m, i => by simp [rcds]
  | t :: l, m, i => by
    show rcd i t ++ rcds (i + 1) (l ++ m) = rcd i t ++ rcds (i + 1) l ++ _
    rw [rcds_append l m (i + 1), ByteArray.append_assoc]
    congr 3; simp only [List.length_cons]; omega
theorem rcds_snoc (l : List ByteArray) (t : ByteArray) (i : Nat) : rcds i (l ++ [t]) = rcds i l ++ rcd (i + l.length) t := by
  rw [rcds_append]; simp [rcds]
theorem rcds_le : ∀ (l : List ByteArray) (i : Nat), (∀ t ∈ l, t.size ≤ 1024) → (rcds i l).size ≤ 1038 * l.length
  | [], i, _ => by simp [rcds]
  | t :: l, i, h => by
    have h1 := rcds_le l (i + 1) (fun x hx => h x (List.mem_cons_of_mem _ hx))
    have h2 := h t List.mem_cons_self
    show (rcd i t ++ rcds (i + 1) l).size ≤ _
    rw [ByteArray.size_append, rcd_size, List.length_cons]; omega
/-- nothing that goes on by number i -/
def Bad (i : Nat) (t : ByteArray) : Prop := (getR t).e ≠ 0 ∨ (getR t).n ≠ (i : Nat)
theorem Bad.nil (i : Nat) : Bad i .empty := .inl getR_nil
theorem rcds_cut : ∀ (l : List ByteArray) (i k : Nat), (∀ t ∈ l, t.size ≤ 1024) → i + l.length ≤ 18446744073709551616 → k ≤ (rcds i l).size →
    ∃ n tl, n ≤ l.length ∧ (rcds i l).extract 0 k = rcds i (l.take n) ++ tl ∧ Bad (i + n) tl ∧ (rcds i (l.take n)).size ≤ k ∧ (n < l.length → k < (rcds i (l.take (n + 1))).size)
  | [], i, k, _, _, hk => ⟨0, .empty, Nat.le_refl _, by simp [rcds], Bad.nil _, by simp [rcds], fun h => absurd h (by simp)⟩
  | t :: l, i, k, h, hi, hk => by
    have ht := h t List.mem_cons_self
    rw [List.length_cons] at hi
    have hz : (rcd i t).size = 14 + t.size := rcd_size i t
    have hr : rcds i (t :: l) = rcd i t ++ rcds (i + 1) l := rfl
    by_cases hc : k < 14 + t.size
    · refine ⟨0, (rcd i t).extract 0 k, Nat.zero_le _, ?_, .inl (getR_cut i t k (by omega) ht hc), by simp [rcds], fun _ => ?_⟩
      · show _ = ByteArray.empty ++ _
        rw [hr, ext_under _ _ _ (by rw [hz]; omega), empty_app]
      · show k < (rcd i t ++ rcds (i + 1) []).size
        rw [ByteArray.size_append, hz]; omega
    · have hk2 : k - (14 + t.size) ≤ (rcds (i + 1) l).size := by rw [hr, ByteArray.size_append, hz] at hk; omega
      obtain ⟨n, tl, hn, e, hb, h1, h2⟩ := rcds_cut l (i + 1) (k - (14 + t.size)) (fun x hx => h x (List.mem_cons_of_mem _ hx)) (by omega) hk2
      refine ⟨n + 1, tl, by rw [List.length_cons]; omega, ?_, by rw [show i + (n + 1) = i + 1 + n by omega]; exact hb, ?_, fun hlt => ?_⟩
      · rw [hr, ext_over _ _ _ (by rw [hz]; omega), hz, e, ← ByteArray.append_assoc]; rfl
      · show (rcd i t ++ rcds (i + 1) (l.take n)).size ≤ k
        rw [ByteArray.size_append, hz]; omega
      · rw [List.length_cons] at hlt
        have := h2 (by omega)
        show k < (rcd i t ++ rcds (i + 1) (l.take (n + 1))).size
        rw [ByteArray.size_append, hz]; omega
end Go.Proofs.YtiilgkhndfnkgaaDoor
