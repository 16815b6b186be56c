/- Plain words for seal: bytes, mixed keys, tags; rows of bytes as texts; equality of two hashes; no conditions. -/
import Derived.Test.YtpfcalamchdciaaDoorDgX
import Derived.Lib.BufferWrite
import Derived.Shelf.Spec.SlicesInsert
namespace Go.Proofs.YtpfcalamchdciaaDoor
open Go.RowKit
set_option linter.unusedVariables false

/-- a text of n bytes -/
def bytesI (n : Nat) (f : Nat → Int) : ByteArray := strOfNums ((List.range n).map f)
theorem bytesI_size (n : Nat) (f : Nat → Int) : (bytesI n f).size = n := by unfold bytesI; rw [strOfNums_size]; simp
theorem bytesI_congr {n : Nat} {f g : Nat → Int} (h : ∀ i, i < n → f i = g i) : bytesI n f = bytesI n g := by
  unfold bytesI; congr 1; exact List.map_congr_left (fun i hi => h i (List.mem_range.1 hi))
theorem bytesI_byte {n : Nat} {f : Nat → Int} (h : ∀ i, i < n → 0 ≤ f i ∧ f i ≤ 255) (i : Nat) (hi : i < n) : ((Sha.byte (bytesI n f) i : Nat) : Int) = f i := by
  have hb := h i hi
  unfold Sha.byte bytesI
  rw [strOfNums_data]
  simp [List.getD_eq_getElem?_getD, hi]
  omega
/-- byte i of a key, 0 behind its end -/
def bk (k : ByteArray) (i : Nat) : Int := (Sha.byte k i : Nat)
theorem bk_lt (k : ByteArray) (i : Nat) : 0 ≤ bk k i ∧ bk k i ≤ 255 := by have := Sha.byte_lt k i; unfold bk; omega
theorem bk_out (k : ByteArray) (i : Nat) (h : k.size ≤ i) : bk k i = 0 := by
  unfold bk Sha.byte
  rw [List.getD_eq_getElem?_getD, List.getElem?_eq_none (by simpa using h)]; rfl
def mixF (k : ByteArray) (x : Int) (i : Nat) : Int := bits .xor .u8 (bk k i) x
def mixS (k : ByteArray) (x : Int) : ByteArray := bytesI 64 (mixF k x)
theorem mixS_size (k : ByteArray) (x : Int) : (mixS k x).size = 64 := bytesI_size _ _
/-- a hash as a text -/
def hstr (F : Nat → Nat) : ByteArray := bytesI 32 fun i => (F i : Nat)
theorem hstr_size (F : Nat → Nat) : (hstr F).size = 32 := bytesI_size _ _
def keyOf (k : ByteArray) : ByteArray := if 64 < k.size then hstr (Sha.sum k) else k
theorem keyOf_size (k : ByteArray) : (keyOf k).size ≤ 64 := by unfold keyOf; split; rw [hstr_size]; decide; omega
def macIn (k s : ByteArray) : Nat → Nat := Sha.sum (mixS k 54 ++ s)
def mac (k s : ByteArray) : Nat → Nat := Sha.sum (mixS (keyOf k) 92 ++ hstr (macIn (keyOf k) s))
theorem sum_lt (t : ByteArray) (i : Nat) : Sha.sum t i < 256 := Nat.mod_lt _ (by decide)
theorem mac_lt (k s : ByteArray) (i : Nat) : mac k s i < 256 := sum_lt _ i
def ofH (F : Nat → Nat) : Nat → Nat := Sha.sum (hstr F)
theorem ofH_lt (F : Nat → Nat) (i : Nat) : ofH F i < 256 := sum_lt _ i

/-- a row of bytes, as a text -/
theorem conv_rowI {w : World} {g n : Nat} {t : TypeId} {f : Nat → Int} (h : M.RowAt w g t (M.rowF .u8 n f)) : (convert 51 9 (.slice (some ⟨g, 0, none⟩) n n)).run Tryd.prog w = .ok (.string (bytesI n f)) w :=
  run_convert_bytes_arg (P := Tryd.prog) w 51 5 Tryd.underlying51 Tryd.underlying5 g 0 n n ((List.range n).map f) (by simp) (fun i hi => by
    have e : ((List.range n).map f).getD i 0 = f i := by rw [List.getD_eq_getElem?_getD, List.getElem?_map, List.getElem?_range hi]; rfl
    rw [Nat.zero_add, h.cell i, M.rowF_get hi, e]) 9 Tryd.underlying9
theorem conv_row8 {w : World} {g : Nat} {t : TypeId} {F : Nat → Nat} (h : M.RowAt w g t (r8 32 F)) : (convert 51 9 (.slice (some ⟨g, 0, none⟩) 32 32)).run Tryd.prog w = .ok (.string (hstr F)) w := conv_rowI h

/-- are two hashes one? -/
def eqH (F G : Nat → Nat) : Bool := (List.range 32).all fun i => F i == G i
theorem eqH_self (F : Nat → Nat) : eqH F F = true := by unfold eqH; simp
theorem eqH_true {F G : Nat → Nat} (h : eqH F G = true) : r8 32 F = r8 32 G := by
  unfold eqH at h
  rw [List.all_eq_true] at h
  exact M.rowF_congr (fun i hi => by have := h i (List.mem_range.2 hi); simp at this; simp [this])
theorem eqH_comm (F G : Nat → Nat) : eqH F G = eqH G F := by
  unfold eqH
  congr 1; funext i
  exact Bool.beq_comm ..
theorem eqH_false {F G : Nat → Nat} {i : Nat} (hi : i < 32) (h : F i ≠ G i) : eqH F G = false := by
  unfold eqH
  rw [List.all_eq_false]
  exact ⟨i, List.mem_range.2 hi, by simpa using h⟩
theorem eqItems_r8c (F G : Nat → Nat) (W : World) : ∀ (is : List Nat), (∀ i ∈ is, i < 32) → (Op.eqItems 9999 5 1 (r8 32 F) (r8 32 G) is).run Tryd.prog W = .ok (is.all fun i => F i == G i) W
  | [], _ => rfl
  | i :: is, h => by
    have hi := h i (by simp)
    have ih := eqItems_r8c F G W is (fun j hj => h j (by simp [hj]))
    have hf : (r8 32 F)[i]? = some (.int .u8 (F i : Nat)) := M.rowF_get hi
    have hg : (r8 32 G)[i]? = some (.int .u8 (G i : Nat)) := M.rowF_get hi
    by_cases he : F i = G i
    · simp [Op.eqItems, part, ih, hf, hg, go_sem, he]
    · have he' : ¬ ((F i : Nat) : Int) = ((G i : Nat) : Int) := by omega
      simp [Op.eqItems, part, hf, hg, go_sem, he, he']
set_option maxRecDepth 100000 in
theorem r8_cmp (F G : Nat → Nat) (W : World) : (Op.equalIn 10000 28 (.agg (r8 32 F)) (.agg (r8 32 G))).run Tryd.prog W = .ok (eqH F G) W := by
  have hi : ∃ i, Tryd.prog.info? 5 = some i := ⟨_, rfl⟩
  obtain ⟨i, hi⟩ := hi
  have hc : Tryd.prog.cellsOf 5 = 1 := by kernel_rfl
  have h := run_equalIn_array (P := Tryd.prog) (w := W) 9999 (r8 32 F) (r8 32 G) und28 hi
  rw [hc] at h
  exact h.trans (eqItems_r8c F G W _ (fun j hj => List.mem_range.1 hj))

/-- an array of bytes that came in, as a function -/
theorem r8_of (z : List Int) (hl : z.length = 32) (hw : ∀ a ∈ z, (Lit.int .u8 a).wf = true) : ∃ F : Nat → Nat, (∀ i, F i < 256) ∧ (z.map (Value.int .u8)).toArray = r8 32 F := by
  refine ⟨fun i => (z.getD i 0).toNat, fun i => ?_, ?_⟩
  · by_cases hi : i < z.length
    · have := RowK.wf_u8 (hw (z[i]) (List.getElem_mem hi))
      simp [List.getD_eq_getElem?_getD, List.getElem?_eq_getElem hi]; omega
    · simp [List.getD_eq_getElem?_getD, List.getElem?_eq_none (show z.length ≤ i by omega)]
  · rw [M.rowF_list hl]
    apply M.rowF_congr
    intro i hi
    have := RowK.wf_u8 (hw (z[i]'(by omega)) (List.getElem_mem _))
    simp [List.getD_eq_getElem?_getD, List.getElem?_eq_getElem (show i < z.length by omega)]; omega
end Go.Proofs.YtpfcalamchdciaaDoor
