/- SHA-256 as plain Lean functions on natural numbers, and what is needed of them; no program, no conditions. -/
import Derived.WalkKit
import Derived.Laws.BitsAllLaws
namespace Go.Proofs.YtiilgkhndfnkgaaDoor
namespace Sha
set_option linter.unusedVariables false

def rot (x n : Nat) : Nat := x / 2 ^ n + x % 2 ^ n * 2 ^ (32 - n)
theorem rot_lt {x n : Nat} (hx : x < 4294967296) (hn : n ≤ 32) : rot x n < 4294967296 := by
  unfold rot
  have h1 : x / 2 ^ n < 2 ^ (32 - n) := by
    rw [Nat.div_lt_iff_lt_mul (Nat.two_pow_pos n), ← Nat.pow_add, Nat.sub_add_cancel hn]; exact hx
  have h2 : x % 2 ^ n + 1 ≤ 2 ^ n := Nat.mod_lt _ (Nat.two_pow_pos n)
  have h3 : (x % 2 ^ n + 1) * 2 ^ (32 - n) ≤ 2 ^ n * 2 ^ (32 - n) := Nat.mul_le_mul_right _ h2
  rw [← Nat.pow_add, show n + (32 - n) = 32 by omega, Nat.add_mul, Nat.one_mul] at h3
  omega
def sig0 (x : Nat) : Nat := rot x 7 ^^^ rot x 18 ^^^ x / 8
def sig1 (x : Nat) : Nat := rot x 17 ^^^ rot x 19 ^^^ x / 1024
def big0 (a : Nat) : Nat := rot a 2 ^^^ rot a 13 ^^^ rot a 22
def big1 (e : Nat) : Nat := rot e 6 ^^^ rot e 11 ^^^ rot e 25
def ch (e f g : Nat) : Nat := (e &&& f) ^^^ ((4294967295 - e) &&& g)
def maj (a b c : Nat) : Nat := (a &&& b) ^^^ (a &&& c) ^^^ (b &&& c)
theorem xor_lt {a b : Nat} (ha : a < 4294967296) (hb : b < 4294967296) : a ^^^ b < 4294967296 := Nat.xor_lt_two_pow (n := 32) ha hb
theorem and_lt {a b : Nat} (ha : a < 4294967296) : a &&& b < 4294967296 := Nat.lt_of_le_of_lt Nat.and_le_left ha
theorem sig0_lt {x : Nat} (h : x < 4294967296) : sig0 x < 4294967296 := xor_lt (xor_lt (rot_lt h (by omega)) (rot_lt h (by omega))) (by omega)
theorem sig1_lt {x : Nat} (h : x < 4294967296) : sig1 x < 4294967296 := xor_lt (xor_lt (rot_lt h (by omega)) (rot_lt h (by omega))) (by omega)
theorem big0_lt {x : Nat} (h : x < 4294967296) : big0 x < 4294967296 := xor_lt (xor_lt (rot_lt h (by omega)) (rot_lt h (by omega))) (rot_lt h (by omega))
theorem big1_lt {x : Nat} (h : x < 4294967296) : big1 x < 4294967296 := xor_lt (xor_lt (rot_lt h (by omega)) (rot_lt h (by omega))) (rot_lt h (by omega))
theorem ch_lt {e f g : Nat} (h : e < 4294967296) : ch e f g < 4294967296 := xor_lt (and_lt h) (and_lt (by omega))
theorem maj_lt {a b c : Nat} (h : a < 4294967296) (hb : b < 4294967296) : maj a b c < 4294967296 := xor_lt (xor_lt (and_lt h) (and_lt h)) (and_lt hb)

/-- the table of the rounds -/
def K : List Nat := [
  0x428a2f98, 0x71374491, 0xb5c0fbcf, 0xe9b5dba5, 0x3956c25b, 0x59f111f1, 0x923f82a4, 0xab1c5ed5,
  0xd807aa98, 0x12835b01, 0x243185be, 0x550c7dc3, 0x72be5d74, 0x80deb1fe, 0x9bdc06a7, 0xc19bf174,
  0xe49b69c1, 0xefbe4786, 0x0fc19dc6, 0x240ca1cc, 0x2de92c6f, 0x4a7484aa, 0x5cb0a9dc, 0x76f988da,
  0x983e5152, 0xa831c66d, 0xb00327c8, 0xbf597fc7, 0xc6e00bf3, 0xd5a79147, 0x06ca6351, 0x14292967,
  0x27b70a85, 0x2e1b2138, 0x4d2c6dfc, 0x53380d13, 0x650a7354, 0x766a0abb, 0x81c2c92e, 0x92722c85,
  0xa2bfe8a1, 0xa81a664b, 0xc24b8b70, 0xc76c51a3, 0xd192e819, 0xd6990624, 0xf40e3585, 0x106aa070,
  0x19a4c116, 0x1e376c08, 0x2748774c, 0x34b0bcb5, 0x391c0cb3, 0x4ed8aa4a, 0x5b9cca4f, 0x682e6ff3,
  0x748f82ee, 0x78a5636f, 0x84c87814, 0x8cc70208, 0x90befffa, 0xa4506ceb, 0xbef9a3f7, 0xc67178f2]
def k (i : Nat) : Nat := K.getD i 0
theorem k_lt (i : Nat) : k i < 4294967296 := by
  unfold k
  by_cases h : i < 64
  · have : ∀ j : Fin 64, K.getD j.1 0 < 4294967296 := by decide
    exact this ⟨i, h⟩
  · rw [List.getD, List.getElem?_eq_none (by simp [K]; omega)]; decide

/-- eight words -/
structure St where
  a : Nat
  b : Nat
  c : Nat
  d : Nat
  e : Nat
  f : Nat
  g : Nat
  h : Nat
  deriving DecidableEq
structure St.ok (s : St) : Prop where
  a : s.a < 4294967296
  b : s.b < 4294967296
  c : s.c < 4294967296
  d : s.d < 4294967296
  e : s.e < 4294967296
  f : s.f < 4294967296
  g : s.g < 4294967296
  h : s.h < 4294967296
def St.list (s : St) : List Nat := [s.a, s.b, s.c, s.d, s.e, s.f, s.g, s.h]
def St.get (s : St) (i : Nat) : Nat := s.list.getD i 0
theorem St.get_lt {s : St} (h : s.ok) (i : Nat) : s.get i < 4294967296 := by
  match i with
  | 0 => exact h.a
  | 1 => exact h.b
  | 2 => exact h.c
  | 3 => exact h.d
  | 4 => exact h.e
  | 5 => exact h.f
  | 6 => exact h.g
  | 7 => exact h.h
  | n + 8 => show 0 < 4294967296; decide
def begin0 : St := ⟨0x6a09e667, 0xbb67ae85, 0x3c6ef372, 0xa54ff53a, 0x510e527f, 0x9b05688c, 0x1f83d9ab, 0x5be0cd19⟩
theorem begin0_ok : begin0.ok := by constructor <;> decide

def t1 (s : St) (k w : Nat) : Nat := (s.h + big1 s.e + ch s.e s.f s.g + k + w) % 4294967296
def t2 (s : St) : Nat := (big0 s.a + maj s.a s.b s.c) % 4294967296
def step (s : St) (k w : Nat) : St := ⟨(t1 s k w + t2 s) % 4294967296, s.a, s.b, s.c, (s.d + t1 s k w) % 4294967296, s.e, s.f, s.g⟩
theorem step_ok {s : St} (h : s.ok) (k w : Nat) : (step s k w).ok := ⟨Nat.mod_lt _ (by decide), h.a, h.b, h.c, Nat.mod_lt _ (by decide), h.e, h.f, h.g⟩
def run (W : Nat → Nat) (s : St) : Nat → St
  | 0 => s
  | i + 1 => step (run W s i) (k i) (W i)
theorem run_ok {W : Nat → Nat} {s : St} (h : s.ok) (i : Nat) : (run W s i).ok := by
  induction i with
  | zero => exact h
  | succ i ih => exact step_ok ih _ _
def add (s t : St) : St := ⟨(s.a + t.a) % 4294967296, (s.b + t.b) % 4294967296, (s.c + t.c) % 4294967296, (s.d + t.d) % 4294967296, (s.e + t.e) % 4294967296, (s.f + t.f) % 4294967296, (s.g + t.g) % 4294967296, (s.h + t.h) % 4294967296⟩
theorem add_ok (s t : St) : (add s t).ok := by constructor <;> exact Nat.mod_lt _ (by decide)
theorem add_get (s t : St) (i : Nat) (h : i < 8) : (add s t).get i = (s.get i + t.get i) % 4294967296 := by
  match i, h with
  | 0, _ => rfl
  | 1, _ => rfl
  | 2, _ => rfl
  | 3, _ => rfl
  | 4, _ => rfl
  | 5, _ => rfl
  | 6, _ => rfl
  | 7, _ => rfl

/-- the byte at an index, 0 behind the end -/
def byte (b : ByteArray) (i : Nat) : Nat := (b.data.toList.getD i 0).toNat
theorem byte_lt (b : ByteArray) (i : Nat) : byte b i < 256 := (b.data.toList.getD i 0).toNat_lt
theorem byte_at (b : ByteArray) (i : Nat) (h : i < b.size) : byte b i = b[i].toNat := by
  unfold byte
  rw [List.getD, List.getElem?_eq_getElem (by simpa using h)]
  rfl
/-- word j, as far as the first i bytes say -/
def pw (b : ByteArray) (i j : Nat) : Nat := (List.range (min 4 (i - 4 * j))).foldl (fun x t => x * 256 + byte b (4 * j + t)) 0
theorem pw_zero (b : ByteArray) (i j : Nat) (h : i ≤ 4 * j) : pw b i j = 0 := by
  unfold pw; rw [show min 4 (i - 4 * j) = 0 by omega]; rfl
theorem pw_same (b : ByteArray) (i j : Nat) (h : j ≠ i / 4) : pw b (i + 1) j = pw b i j := by
  unfold pw; rw [show min 4 (i + 1 - 4 * j) = min 4 (i - 4 * j) by omega]
theorem pw_next (b : ByteArray) (i : Nat) : pw b (i + 1) (i / 4) = pw b i (i / 4) * 256 + byte b i := by
  unfold pw
  rw [show min 4 (i + 1 - 4 * (i / 4)) = min 4 (i - 4 * (i / 4)) + 1 by omega, List.range_succ, List.foldl_append]
  simp only [List.foldl_cons, List.foldl_nil]
  rw [show 4 * (i / 4) + min 4 (i - 4 * (i / 4)) = i by omega]
theorem fold_lt (g : Nat → Nat) (hg : ∀ t, g t < 256) (n : Nat) : (List.range n).foldl (fun x t => x * 256 + g t) 0 < 256 ^ n := by
  induction n with
  | zero => simp
  | succ n ih =>
    rw [List.range_succ, List.foldl_append]
    simp only [List.foldl_cons, List.foldl_nil]
    have := hg n
    rw [Nat.pow_succ]; omega
theorem pw_lt (b : ByteArray) (i j : Nat) : pw b i j < 4294967296 := by
  have h := fold_lt (fun t => byte b (4 * j + t)) (fun t => byte_lt _ _) (min 4 (i - 4 * j))
  have h2 : 256 ^ (min 4 (i - 4 * j)) ≤ 256 ^ 4 := Nat.pow_le_pow_right (by decide) (by omega)
  exact Nat.lt_of_lt_of_le h h2
theorem pw_lt3 (b : ByteArray) (i : Nat) : pw b i (i / 4) < 16777216 := by
  have h := fold_lt (fun t => byte b (4 * (i / 4) + t)) (fun t => byte_lt _ _) (min 4 (i - 4 * (i / 4)))
  have h2 : 256 ^ (min 4 (i - 4 * (i / 4))) ≤ 256 ^ 3 := Nat.pow_le_pow_right (by decide) (by omega)
  exact Nat.lt_of_lt_of_le h h2

/-- the words of a block: the first 16 + n of them -/
def next (W : List Nat) : Nat := (W.getD (W.length - 16) 0 + sig0 (W.getD (W.length - 15) 0) + W.getD (W.length - 7) 0 + sig1 (W.getD (W.length - 2) 0)) % 4294967296
def grow (b : ByteArray) : Nat → List Nat
  | 0 => (List.range 16).map (pw b 64)
  | n + 1 => grow b n ++ [next (grow b n)]
theorem grow_len (b : ByteArray) (n : Nat) : (grow b n).length = 16 + n := by
  induction n with
  | zero => simp [grow]
  | succ n ih => simp [grow, ih]; omega
def W (b : ByteArray) (n i : Nat) : Nat := (grow b n).getD i 0
theorem W_zero (b : ByteArray) (j : Nat) : W b 0 j = pw b 64 j := by
  unfold W grow
  by_cases h : j < 16
  · simp [List.getD, h]
  · rw [List.getD, List.getElem?_eq_none (by simp; omega), pw_zero b 64 j (by omega)]; rfl
theorem grow_succ (b : ByteArray) (n : Nat) : grow b (n + 1) = grow b n ++ [next (grow b n)] := rfl
theorem W_next (b : ByteArray) (n : Nat) : W b (n + 1) (16 + n) = (W b n n + sig0 (W b n (n + 1)) + W b n (n + 9) + sig1 (W b n (n + 14))) % 4294967296 := by
  have h := grow_len b n
  unfold W
  rw [grow_succ]
  generalize grow b n = G at *
  rw [List.getD, List.getElem?_append_right (by omega), h, Nat.sub_self, List.getElem?_cons_zero, Option.getD_some, next, h,
    show 16 + n - 16 = n by omega, show 16 + n - 15 = n + 1 by omega, show 16 + n - 7 = n + 9 by omega, show 16 + n - 2 = n + 14 by omega]
theorem W_same (b : ByteArray) (n j : Nat) (hj : j ≠ 16 + n) : W b (n + 1) j = W b n j := by
  have h := grow_len b n
  unfold W
  rw [grow_succ]
  generalize grow b n = G at *
  by_cases hl : j < 16 + n
  · rw [List.getD, List.getD, List.getElem?_append_left (by omega)]
  · rw [List.getD, List.getD, List.getElem?_eq_none (by simp; omega), List.getElem?_eq_none (by omega)]
theorem W_lt (b : ByteArray) (n j : Nat) : W b n j < 4294967296 := by
  induction n generalizing j with
  | zero => rw [W_zero]; exact pw_lt b 64 j
  | succ n ih =>
    by_cases h : j = 16 + n
    · subst h; rw [W_next]; exact Nat.mod_lt _ (by decide)
    · rw [W_same b n j h]; exact ih j

/-- what eight words and a block come to -/
def compress (s : St) (b : ByteArray) : St := add s (run (W b 48) s 64)
theorem compress_ok (s : St) (b : ByteArray) : (compress s b).ok := add_ok _ _
/-- .. and the first n blocks of a text -/
def blk (s : St) (b : ByteArray) : Nat → St
  | 0 => s
  | n + 1 => compress (blk s b n) (b.extract (64 * n) (64 * n + 64))
theorem blk_ok {s : St} (h : s.ok) (b : ByteArray) (n : Nat) : (blk s b n).ok := by
  cases n with
  | zero => exact h
  | succ n => exact compress_ok _ _
/-- byte i of eight words -/
def out (s : St) (i : Nat) : Nat := s.get (i / 4) / 2 ^ (24 - 8 * (i % 4)) % 256
/-- the bytes 0 that a padding of a text of n bytes has -/
def zeros (n : Nat) : Nat := (64 - (n + 9) % 64) % 64
/-- what stands behind a text of n bytes -/
def tailL (n : Nat) : List Nat := 128 :: (List.replicate (zeros n) 0 ++ (List.range 8).map fun i => 8 * n / 2 ^ (56 - 8 * i) % 256)
def bytesOfL (l : List Nat) : ByteArray := ⟨(l.map fun n => UInt8.ofNat n).toArray⟩
def tail (n : Nat) : ByteArray := bytesOfL (tailL n)
def pad (b : ByteArray) : ByteArray := b ++ tail b.size
theorem tailL_len (n : Nat) : (tailL n).length = 9 + zeros n := by simp [tailL]; omega
theorem tail_size (n : Nat) : (tail n).size = 9 + zeros n := by
  show (bytesOfL (tailL n)).data.size = _
  simp [bytesOfL, tailL_len]
theorem pad_size (b : ByteArray) : (pad b).size = b.size + 9 + zeros b.size := by rw [pad, ByteArray.size_append, tail_size]; omega
theorem pad_whole (b : ByteArray) : (pad b).size % 64 = 0 := by rw [pad_size]; unfold zeros; omega
/-- the words of a sum -/
def words (b : ByteArray) : St := blk begin0 (pad b) ((pad b).size / 64)
theorem words_ok (b : ByteArray) : (words b).ok := blk_ok begin0_ok _ _
/-- byte i of the sum of a text -/
def sum (b : ByteArray) (i : Nat) : Nat := out (words b) i
end Sha
end Go.Proofs.YtiilgkhndfnkgaaDoor
