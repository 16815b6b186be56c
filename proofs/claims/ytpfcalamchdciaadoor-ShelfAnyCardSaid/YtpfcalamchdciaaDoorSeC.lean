/- What seal's Tag and its reference return: the tag; the conditions are that the tables are laid and that the texts are not too long. -/
import Derived.Test.YtpfcalamchdciaaDoorSeB
namespace Go.Proofs.YtpfcalamchdciaaDoor
open Go.RowKit
set_option linter.unusedVariables false

theorem key_row (K : ByteArray) (h : K.size ≤ 64) : (Z64.toList.take 0 ++ Lib.byteCells K.data.toList ++ Z64.toList.drop (0 + K.size)).toArray = b8 64 (bk K) := by
  have hz : Z64 = ((List.replicate 64 (Value.int .u8 0))).toArray := by rfl
  have hk : K.data.toList.length = K.size := by simp
  apply Array.ext_getElem?
  intro i
  rw [hz]
  simp only [List.take_zero, List.nil_append, Nat.zero_add, List.getElem?_toArray]
  by_cases hi : i < 64
  · rw [M.rowF_get hi]
    by_cases hik : i < K.size
    · rw [List.getElem?_append_left (by rw [Lib.byteCells_length]; omega)]
      have e : bk K i = (K[i].toNat : Int) := by unfold bk; rw [Sha.byte_at K i hik]
      rw [e]
      simp [Lib.byteCells, List.getElem?_eq_getElem (show i < K.data.toList.length by omega)]
      rfl
    · rw [List.getElem?_append_right (by rw [Lib.byteCells_length]; omega), bk_out K i (by omega)]
      rw [Lib.byteCells_length, hk, List.getElem?_drop, show K.size + (i - K.size) = i by omega]
      rw [List.getElem?_replicate, if_pos hi]
  · rw [M.rowF_out (by omega)]
    rw [List.getElem?_eq_none]
    simp [Lib.byteCells_length]; omega

/-- the result lies in block n, the key in kb, the inner sum in i -/
structure TC (n kb i : Nat) (w : World) (R : Array Value) (K : ByteArray) (I : Nat → Nat) (v : World) : Prop where
  rn : v.heap[n]? = some (.cells R 28 (0, 0))
  rk : M.RowAt v kb 94 (b8 64 (bk K))
  ri : M.RowAt v i 28 (r8 32 I)
  below : Below n w v
section
variable {n kb i : Nat} {w v v' : World} {R R' : Array Value} {K : ByteArray} {I : Nat → Nat}
theorem TC.drew (c : TC n kb i w R K I v) : TC n kb i w R K I v.drew := ⟨c.rn, c.rk.drew, c.ri.drew, c.below.drew⟩
theorem TC.same (c : TC n kb i w R K I v) (hb : Below v.heap.size v v') : TC n kb i w R K I v' :=
  ⟨M.RowAt.call c.rn hb, c.rk.call hb, c.ri.call hb, c.below.trans (hb.mono (by have := M.RowAt.lt c.rn; omega))⟩
theorem TC.set (h1 : n ≠ kb) (h2 : n ≠ i) (c : TC n kb i w R K I v) : TC n kb i w R' K I (v.setRow n R') :=
  ⟨M.RowAt.setRow c.rn _, c.rk.farRow h1 _, c.ri.farRow h2 _, M.below_setRow c.below (Nat.le_refl _)⟩
end
/-- the result lies in block n, the inner sum in i -/
structure TD (n i : Nat) (w : World) (R : Array Value) (I : Nat → Nat) (v : World) : Prop where
  rn : v.heap[n]? = some (.cells R 28 (0, 0))
  ri : M.RowAt v i 28 (r8 32 I)
  below : Below n w v
section
variable {n i : Nat} {w v v' : World} {R R' : Array Value} {I : Nat → Nat}
theorem TD.drew (c : TD n i w R I v) : TD n i w R I v.drew := ⟨c.rn, c.ri.drew, c.below.drew⟩
theorem TD.same (c : TD n i w R I v) (hb : Below v.heap.size v v') : TD n i w R I v' :=
  ⟨M.RowAt.call c.rn hb, c.ri.call hb, c.below.trans (hb.mono (by have := M.RowAt.lt c.rn; omega))⟩
theorem TD.set (h2 : n ≠ i) (c : TD n i w R I v) : TD n i w R' I (v.setRow n R') :=
  ⟨M.RowAt.setRow c.rn _, c.ri.farRow h2 _, M.below_setRow c.below (Nat.le_refl _)⟩
end
theorem new_row {n : Nat} {w v : World} (hb : Below n w v) (hn : n ≤ v.heap.size) (t : TypeId) (Z : Array Value) : M.RowAt (v.alloc (.cells Z t)) v.heap.size t Z ∧ Below n w (v.alloc (.cells Z t)) :=
  ⟨M.RowAt.new v t Z, hb.alloc hn _⟩

set_option maxRecDepth 100000 in
set_option maxHeartbeats 4000000 in
theorem tag_short (k s : ByteArray) (w : World) (ht : Tabs w) (hk : k.size ≤ 64) (hkz : k.size ≤ 1000000) (hs : s.size ≤ 1000000) :
    Calls Tryd.prog 36 #[.string k, .string s] w fun e w' => e = .returned (.agg (r8 32 (mac k s))) ∧ Below w.heap.size w w' := by
  obtain ⟨n, hn⟩ : ∃ n, w.heap.size = n := ⟨_, rfl⟩
  have HN := Lib.hid hn
  have h1n : 1 < n := hn ▸ ht.lt
  have T1 : ∀ v, Below n w v → Tabs v := fun v hv => ht.below hv h1n
  have hK : keyOf k = k := by unfold keyOf; rw [if_neg (by omega)]
  have hKs : (k).size ≤ 64 := by rw [← hK]; exact keyOf_size k
  have hmac : mac k s = Sha.sum (mixS (keyOf k) 92 ++ hstr (macIn (keyOf k) s)) := rfl
  rw [hK] at hmac
  have hm1 : (mixS k 54).size = 64 := mixS_size _ _
  have hm2 : (mixS k 92).size = 64 := mixS_size _ _
  have hsz1 : (mixS k 54 ++ s).size = (mixS k 54).size + s.size := ByteArray.size_append
  have hi1 : macIn k s = Sha.sum (mixS k 54 ++ s) := rfl
  have hsz2 : (mixS k 92 ++ hstr (macIn k s)).size = (mixS k 92).size + (hstr (macIn k s)).size := ByteArray.size_append
  have hh : (hstr (macIn k s)).size = 32 := hstr_size _
  have c1 := fun kb v (h : M.RowAt v kb 94 (b8 64 (bk k))) => mix_any kb k 54 v h (by decide) (by decide)
  have c2 := fun kb v (h : M.RowAt v kb 94 (b8 64 (bk k))) => mix_any kb k 92 v h (by decide) (by decide)
  have d1 := fun v (hb : Below n w v) => sum_any (mixS k 54 ++ s) v (T1 v hb) (by omega)
  have d2 := fun v (hb : Below n w v) => sum_any (mixS k 92 ++ hstr (macIn k s)) v (T1 v hb) (by omega)
  have kr := key_row k (by omega)
  have cr := fun v kb (h : M.RowAt v kb 94 Z64) ty => Lib.run_copy_row_string (P := Tryd.prog) v 51 9 ty 5 kb 0 64 64 k Z64 94 Tryd.underlying51 (by kernel_rfl) h (by omega) (by show 0 + k.size ≤ 64; omega)
  rw [kr] at cr
  have hmf : ∀ (fn : Fn) (first cap : Array Value) (w : World), (Instr.makeFunc fn first cap).run Tryd.prog w = .ok (.func fn first cap) w := fun _ _ _ _ => rfl
  rw [← hmac] at d2
  rw [← hi1] at d1
  have hcv : ∀ v g, M.RowAt v g 28 (r8 32 (macIn k s)) → (convert 51 9 (.slice (some ⟨g, 0, none⟩) 32 32)).run Tryd.prog v = .ok (.string (hstr (macIn k s))) v := fun v g h => conv_row8 h
  have hl1 : (mixS k 54).size + s.size ≤ 10000000 := by omega
  have hl2 : ¬ (9223372036854775807 < (mixS k 92).size + (hstr (macIn k s)).size) := by omega
  generalize mixS k 92 = X2 at *
  generalize mixS k 54 = X1 at *
  generalize hstr (macIn k s) = Y at *
  obtain ⟨I, hI⟩ : ∃ I, macIn k s = I := ⟨_, rfl⟩
  rw [hI] at d1 hcv
  obtain ⟨F, hF⟩ : ∃ F, mac k s = F := ⟨_, rfl⟩
  rw [hF] at d2 ⊢
  have iI := r8_info I; have zI := r8_zero I; have oI := r8_one I
  have iF := r8_info F; have zF := r8_zero F; have oF := r8_one F
  have C1 := Lib.hid c1; have C2 := Lib.hid c2; have D1 := Lib.hid d1; have D2 := Lib.hid d2; have HCV := Lib.hid hcv
  have CR := Lib.hid cr
  obtain ⟨v0, hv0⟩ : ∃ v0, w.alloc (.cells #[.int .u8 0, .int .u8 0, .int .u8 0, .int .u8 0, .int .u8 0, .int .u8 0, .int .u8 0, .int .u8 0, .int .u8 0, .int .u8 0, .int .u8 0, .int .u8 0, .int .u8 0, .int .u8 0, .int .u8 0, .int .u8 0, .int .u8 0, .int .u8 0, .int .u8 0, .int .u8 0, .int .u8 0, .int .u8 0, .int .u8 0, .int .u8 0, .int .u8 0, .int .u8 0, .int .u8 0, .int .u8 0, .int .u8 0, .int .u8 0, .int .u8 0, .int .u8 0] 28) = v0 := ⟨_, rfl⟩
  have r0 := M.RowAt.new w 28 #[.int .u8 0, .int .u8 0, .int .u8 0, .int .u8 0, .int .u8 0, .int .u8 0, .int .u8 0, .int .u8 0, .int .u8 0, .int .u8 0, .int .u8 0, .int .u8 0, .int .u8 0, .int .u8 0, .int .u8 0, .int .u8 0, .int .u8 0, .int .u8 0, .int .u8 0, .int .u8 0, .int .u8 0, .int .u8 0, .int .u8 0, .int .u8 0, .int .u8 0, .int .u8 0, .int .u8 0, .int .u8 0, .int .u8 0, .int .u8 0, .int .u8 0, .int .u8 0]
  have b0 := (Below.refl w.heap.size w).alloc (Nat.le_refl _) (.cells #[.int .u8 0, .int .u8 0, .int .u8 0, .int .u8 0, .int .u8 0, .int .u8 0, .int .u8 0, .int .u8 0, .int .u8 0, .int .u8 0, .int .u8 0, .int .u8 0, .int .u8 0, .int .u8 0, .int .u8 0, .int .u8 0, .int .u8 0, .int .u8 0, .int .u8 0, .int .u8 0, .int .u8 0, .int .u8 0, .int .u8 0, .int .u8 0, .int .u8 0, .int .u8 0, .int .u8 0, .int .u8 0, .int .u8 0, .int .u8 0, .int .u8 0, .int .u8 0] 28)
  rw [hv0] at r0 b0
  rw [hn] at r0 b0
  have HV0 := Lib.hid hv0
  clear c1 c2 d1 d2 hcv cr kr T1 h1n ht hmac hi1 hm1 hm2 hsz1 hsz2 hh hI hF hv0 hK hKs 
  have hk2 : ¬ (64 : Int) < k.size := by omega
  go_enter Tryd.func36, Tryd.ntmps36
  have hUs := r0.lt
  have hkb : v0.heap.size = n + 1 := by rw [← HV0.out, World.size_alloc, HN.out]
  have rk := M.RowAt.new v0 94 #[.int .u8 0, .int .u8 0, .int .u8 0, .int .u8 0, .int .u8 0, .int .u8 0, .int .u8 0, .int .u8 0, .int .u8 0, .int .u8 0, .int .u8 0, .int .u8 0, .int .u8 0, .int .u8 0, .int .u8 0, .int .u8 0, .int .u8 0, .int .u8 0, .int .u8 0, .int .u8 0, .int .u8 0, .int .u8 0, .int .u8 0, .int .u8 0, .int .u8 0, .int .u8 0, .int .u8 0, .int .u8 0, .int .u8 0, .int .u8 0, .int .u8 0, .int .u8 0, .int .u8 0, .int .u8 0, .int .u8 0, .int .u8 0, .int .u8 0, .int .u8 0, .int .u8 0, .int .u8 0, .int .u8 0, .int .u8 0, .int .u8 0, .int .u8 0, .int .u8 0, .int .u8 0, .int .u8 0, .int .u8 0, .int .u8 0, .int .u8 0, .int .u8 0, .int .u8 0, .int .u8 0, .int .u8 0, .int .u8 0, .int .u8 0, .int .u8 0, .int .u8 0, .int .u8 0, .int .u8 0, .int .u8 0, .int .u8 0, .int .u8 0, .int .u8 0]
  have bk1 := b0.alloc (by omega) (.cells #[.int .u8 0, .int .u8 0, .int .u8 0, .int .u8 0, .int .u8 0, .int .u8 0, .int .u8 0, .int .u8 0, .int .u8 0, .int .u8 0, .int .u8 0, .int .u8 0, .int .u8 0, .int .u8 0, .int .u8 0, .int .u8 0, .int .u8 0, .int .u8 0, .int .u8 0, .int .u8 0, .int .u8 0, .int .u8 0, .int .u8 0, .int .u8 0, .int .u8 0, .int .u8 0, .int .u8 0, .int .u8 0, .int .u8 0, .int .u8 0, .int .u8 0, .int .u8 0, .int .u8 0, .int .u8 0, .int .u8 0, .int .u8 0, .int .u8 0, .int .u8 0, .int .u8 0, .int .u8 0, .int .u8 0, .int .u8 0, .int .u8 0, .int .u8 0, .int .u8 0, .int .u8 0, .int .u8 0, .int .u8 0, .int .u8 0, .int .u8 0, .int .u8 0, .int .u8 0, .int .u8 0, .int .u8 0, .int .u8 0, .int .u8 0, .int .u8 0, .int .u8 0, .int .u8 0, .int .u8 0, .int .u8 0, .int .u8 0, .int .u8 0, .int .u8 0] 94)
  have rn3 := r0.alloc (.cells #[.int .u8 0, .int .u8 0, .int .u8 0, .int .u8 0, .int .u8 0, .int .u8 0, .int .u8 0, .int .u8 0, .int .u8 0, .int .u8 0, .int .u8 0, .int .u8 0, .int .u8 0, .int .u8 0, .int .u8 0, .int .u8 0, .int .u8 0, .int .u8 0, .int .u8 0, .int .u8 0, .int .u8 0, .int .u8 0, .int .u8 0, .int .u8 0, .int .u8 0, .int .u8 0, .int .u8 0, .int .u8 0, .int .u8 0, .int .u8 0, .int .u8 0, .int .u8 0, .int .u8 0, .int .u8 0, .int .u8 0, .int .u8 0, .int .u8 0, .int .u8 0, .int .u8 0, .int .u8 0, .int .u8 0, .int .u8 0, .int .u8 0, .int .u8 0, .int .u8 0, .int .u8 0, .int .u8 0, .int .u8 0, .int .u8 0, .int .u8 0, .int .u8 0, .int .u8 0, .int .u8 0, .int .u8 0, .int .u8 0, .int .u8 0, .int .u8 0, .int .u8 0, .int .u8 0, .int .u8 0, .int .u8 0, .int .u8 0, .int .u8 0, .int .u8 0] 94)
  obtain ⟨VK, hVK⟩ : ∃ VK, v0.alloc (.cells #[.int .u8 0, .int .u8 0, .int .u8 0, .int .u8 0, .int .u8 0, .int .u8 0, .int .u8 0, .int .u8 0, .int .u8 0, .int .u8 0, .int .u8 0, .int .u8 0, .int .u8 0, .int .u8 0, .int .u8 0, .int .u8 0, .int .u8 0, .int .u8 0, .int .u8 0, .int .u8 0, .int .u8 0, .int .u8 0, .int .u8 0, .int .u8 0, .int .u8 0, .int .u8 0, .int .u8 0, .int .u8 0, .int .u8 0, .int .u8 0, .int .u8 0, .int .u8 0, .int .u8 0, .int .u8 0, .int .u8 0, .int .u8 0, .int .u8 0, .int .u8 0, .int .u8 0, .int .u8 0, .int .u8 0, .int .u8 0, .int .u8 0, .int .u8 0, .int .u8 0, .int .u8 0, .int .u8 0, .int .u8 0, .int .u8 0, .int .u8 0, .int .u8 0, .int .u8 0, .int .u8 0, .int .u8 0, .int .u8 0, .int .u8 0, .int .u8 0, .int .u8 0, .int .u8 0, .int .u8 0, .int .u8 0, .int .u8 0, .int .u8 0, .int .u8 0] 94) = VK := ⟨_, rfl⟩
  rw [hVK] at rk bk1 rn3
  rw [hkb] at rk hUs
  have crk := fun ty => CR.out _ _ rk ty
  have rk2 := rk.setRow (b8 64 (bk k))
  have rn4 := rn3.farRow (b := n + 1) (by omega) (b8 64 (bk k))
  have bk2 := M.below_setRow (g := n + 1) (cs := b8 64 (bk k)) bk1 (by omega)
  obtain ⟨UK, hUK⟩ : ∃ UK, VK.setRow (n + 1) (b8 64 (bk k)) = UK := ⟨_, rfl⟩
  rw [hUK] at crk rk2 rn4 bk2
  have HKB := Lib.hid hkb; have HVK := Lib.hid hVK; have CRK := Lib.hid crk
  clear hkb hVK hUK crk rk bk1 rn3 
  go_wp2_with (first
    | (rw [HV0.out, HVK.out]; (refine Go.Proofs.wpList_copy_runI _ ?_ (.tmp 16) (.tmp 17) 51 9 ?_ (.slice (some ⟨n + 1, 0, none⟩) 64 64) (.string k) ?_ ?_ (CRK.out _) ?_; rfl; rfl; rfl; rfl)))
  refine (C1.out _ _ rk2).mono ?_
  rintro e w2 ⟨rfl, gq⟩
  have rn5 := rn4.call gq
  have rk3 := rk2.call gq
  have b5 := bk2.trans (gq.mono (by have := rn4.lt; omega))
  clear gq rn4 bk2 rk2
  go_wp2_with fail
  refine (D1.out _ b5).mono ?_
  rintro e w3 ⟨rfl, gq⟩
  have rn6 := rn5.call gq
  have rk4 := rk3.call gq
  have b6 := b5.trans (gq.mono (by have := rn5.lt; omega))
  clear gq rn5 b5 rk3
  have hn6 := rn6.lt
  have hk6 := rk4.lt
  obtain ⟨i, hi⟩ : ∃ i, w3.heap.size = i := ⟨_, rfl⟩
  have ri := M.RowAt.new w3 28 #[.int .u8 0, .int .u8 0, .int .u8 0, .int .u8 0, .int .u8 0, .int .u8 0, .int .u8 0, .int .u8 0, .int .u8 0, .int .u8 0, .int .u8 0, .int .u8 0, .int .u8 0, .int .u8 0, .int .u8 0, .int .u8 0, .int .u8 0, .int .u8 0, .int .u8 0, .int .u8 0, .int .u8 0, .int .u8 0, .int .u8 0, .int .u8 0, .int .u8 0, .int .u8 0, .int .u8 0, .int .u8 0, .int .u8 0, .int .u8 0, .int .u8 0, .int .u8 0]
  have b7 := b6.alloc (by omega) (.cells #[.int .u8 0, .int .u8 0, .int .u8 0, .int .u8 0, .int .u8 0, .int .u8 0, .int .u8 0, .int .u8 0, .int .u8 0, .int .u8 0, .int .u8 0, .int .u8 0, .int .u8 0, .int .u8 0, .int .u8 0, .int .u8 0, .int .u8 0, .int .u8 0, .int .u8 0, .int .u8 0, .int .u8 0, .int .u8 0, .int .u8 0, .int .u8 0, .int .u8 0, .int .u8 0, .int .u8 0, .int .u8 0, .int .u8 0, .int .u8 0, .int .u8 0, .int .u8 0] 28)
  have rn7 := rn6.alloc (.cells #[.int .u8 0, .int .u8 0, .int .u8 0, .int .u8 0, .int .u8 0, .int .u8 0, .int .u8 0, .int .u8 0, .int .u8 0, .int .u8 0, .int .u8 0, .int .u8 0, .int .u8 0, .int .u8 0, .int .u8 0, .int .u8 0, .int .u8 0, .int .u8 0, .int .u8 0, .int .u8 0, .int .u8 0, .int .u8 0, .int .u8 0, .int .u8 0, .int .u8 0, .int .u8 0, .int .u8 0, .int .u8 0, .int .u8 0, .int .u8 0, .int .u8 0, .int .u8 0] 28)
  have rk7 := rk4.alloc (.cells #[.int .u8 0, .int .u8 0, .int .u8 0, .int .u8 0, .int .u8 0, .int .u8 0, .int .u8 0, .int .u8 0, .int .u8 0, .int .u8 0, .int .u8 0, .int .u8 0, .int .u8 0, .int .u8 0, .int .u8 0, .int .u8 0, .int .u8 0, .int .u8 0, .int .u8 0, .int .u8 0, .int .u8 0, .int .u8 0, .int .u8 0, .int .u8 0, .int .u8 0, .int .u8 0, .int .u8 0, .int .u8 0, .int .u8 0, .int .u8 0, .int .u8 0, .int .u8 0] 28)
  obtain ⟨VI, hVI⟩ : ∃ VI, w3.alloc (.cells #[.int .u8 0, .int .u8 0, .int .u8 0, .int .u8 0, .int .u8 0, .int .u8 0, .int .u8 0, .int .u8 0, .int .u8 0, .int .u8 0, .int .u8 0, .int .u8 0, .int .u8 0, .int .u8 0, .int .u8 0, .int .u8 0, .int .u8 0, .int .u8 0, .int .u8 0, .int .u8 0, .int .u8 0, .int .u8 0, .int .u8 0, .int .u8 0, .int .u8 0, .int .u8 0, .int .u8 0, .int .u8 0, .int .u8 0, .int .u8 0, .int .u8 0, .int .u8 0] 28) = VI := ⟨_, rfl⟩
  rw [hVI] at ri b7 rn7 rk7
  rw [hi] at ri hn6 hk6
  have ri2 := ri.setRow (r8 32 I)
  have rn8 := rn7.farRow (b := i) (by omega) (r8 32 I)
  have rk8 := rk7.farRow (b := i) (by omega) (r8 32 I)
  have b8 := M.below_setRow (g := i) (cs := r8 32 I) b7 (by omega)
  obtain ⟨UI, hUI⟩ : ∃ UI, VI.setRow i (r8 32 I) = UI := ⟨_, rfl⟩
  rw [hUI] at ri2 rn8 b8 rk8
  have tc : TC n (n + 1) i w Z32 k I UI := ⟨rn8, rk8, ri2, b8⟩
  have HI := Lib.hid hi; have HVI := Lib.hid hVI; have HUI := Lib.hid hUI
  unfold M.RowAt at ri
  clear hi hVI hUI rn6 b6 b7 rn7 ri2 rn8 b8 rk4 rk7 rk8
  go_wp2_with (rw [HI.out, HVI.out]; refine wpList_store_row (x := .tmp 8) (y := .tmp 24) (cells := r8 32 I) (old := Z32) (t := 28) (ty := 28) (g := i) ?_ ?_ ?_ ?_ ri iI zI oI ?_; rfl; rfl; rfl; rfl; rw [HUI.out])
  refine QP.wp_region_p 6 (TC n (n + 1) i w Z32 k I) (TC n (n + 1) i w (r8 32 F) k I) (by kernel_rfl) (by kernel_rfl) tc.drew ?_
  iterate 7
    (refine QP.wpQ_step (fun K hK => ?_)
     go_simp
     first
       | (refine hK _ ?_; clear hK K)
       | (refine ⟨?_, hK _ ?_⟩; decide; clear hK K)
       | ((first | (apply Exists.intro; refine ⟨?_, hK _ ?_⟩) | refine ⟨⟨undef, ?_⟩, hK _ ?_⟩)
          first
            | (apply QP.al_p; decide; (focus (intro wq hq; (first | (have hcv := HCV.out _ _ hq.ri) | skip); first | ((refine QP.oat_store_row (ty := 28) (x := .tmp 4) (y := .tmp 30) (g := n) (cells := r8 32 F) (t := 28) (old := Z32) ?_ ?_ ?_ hq.rn iF zF oF (hq.set (by omega) (by omega)); rfl; rfl; rfl)) | (unfold QP.oat; go_simp; first | done | exact ⟨by assumption, rfl⟩ | exact rfl | assumption | (first | ((with_reducible refine (C2.out _ _ hq.rk).mono ?_); rintro e w' ⟨rfl, gq⟩; exact ⟨rfl, hq.same gq⟩) | ((with_reducible refine (D2.out _ hq.below).mono ?_); rintro e w' ⟨rfl, gq⟩; exact ⟨rfl, hq.same gq⟩))))))
            | (apply QP.al_dep; decide; decide; (focus (intro wq hq; (first | (have hcv := HCV.out _ _ hq.ri) | skip); first | ((refine QP.oat_store_row (ty := 28) (x := .tmp 4) (y := .tmp 30) (g := n) (cells := r8 32 F) (t := 28) (old := Z32) ?_ ?_ ?_ hq.rn iF zF oF (hq.set (by omega) (by omega)); rfl; rfl; rfl)) | (unfold QP.oat; go_simp; first | done | exact ⟨by assumption, rfl⟩ | exact rfl | assumption | (first | ((with_reducible refine (C2.out _ _ hq.rk).mono ?_); rintro e w' ⟨rfl, gq⟩; exact ⟨rfl, hq.same gq⟩) | ((with_reducible refine (D2.out _ hq.below).mono ?_); rintro e w' ⟨rfl, gq⟩; exact ⟨rfl, hq.same gq⟩))))))
            | (apply QP.al_bef; decide; decide; (focus (intro wq hq; (first | (have hcv := HCV.out _ _ hq.ri) | skip); first | ((refine QP.oat_store_row (ty := 28) (x := .tmp 4) (y := .tmp 30) (g := n) (cells := r8 32 F) (t := 28) (old := Z32) ?_ ?_ ?_ hq.rn iF zF oF (hq.set (by omega) (by omega)); rfl; rfl; rfl)) | (unfold QP.oat; go_simp; first | done | exact ⟨by assumption, rfl⟩ | exact rfl | assumption | (first | ((with_reducible refine (C2.out _ _ hq.rk).mono ?_); rintro e w' ⟨rfl, gq⟩; exact ⟨rfl, hq.same gq⟩) | ((with_reducible refine (D2.out _ hq.below).mono ?_); rintro e w' ⟨rfl, gq⟩; exact ⟨rfl, hq.same gq⟩))))))
            | (apply QP.al_ok; decide; (focus (intro wq hq; (first | (have hcv := HCV.out _ _ hq.ri) | skip); first | ((refine QP.oat_store_row (ty := 28) (x := .tmp 4) (y := .tmp 30) (g := n) (cells := r8 32 F) (t := 28) (old := Z32) ?_ ?_ ?_ hq.rn iF zF oF (hq.set (by omega) (by omega)); rfl; rfl; rfl)) | (unfold QP.oat; go_simp; first | done | exact ⟨by assumption, rfl⟩ | exact rfl | assumption | (first | ((with_reducible refine (C2.out _ _ hq.rk).mono ?_); rintro e w' ⟨rfl, gq⟩; exact ⟨rfl, hq.same gq⟩) | ((with_reducible refine (D2.out _ hq.below).mono ?_); rintro e w' ⟨rfl, gq⟩; exact ⟨rfl, hq.same gq⟩))))); (focus (intro wq hq; (first | (have hcv := HCV.out _ _ hq.ri) | skip); first | ((refine QP.oat_store_row (ty := 28) (x := .tmp 4) (y := .tmp 30) (g := n) (cells := r8 32 F) (t := 28) (old := Z32) ?_ ?_ ?_ hq.rn iF zF oF (hq.set (by omega) (by omega)); rfl; rfl; rfl)) | (unfold QP.oat; go_simp; first | done | exact ⟨by assumption, rfl⟩ | exact rfl | assumption | (first | ((with_reducible refine (C2.out _ _ hq.rk).mono ?_); rintro e w' ⟨rfl, gq⟩; exact ⟨rfl, hq.same gq⟩) | ((with_reducible refine (D2.out _ hq.below).mono ?_); rintro e w' ⟨rfl, gq⟩; exact ⟨rfl, hq.same gq⟩))))))
          clear hK K))
  refine QP.wpQ_nil ?_
  intro wz bz
  go_wp2
  have hload := run_loadVar_row (P := Tryd.prog) _ n 28 28 (r8 32 F) (0, 0) _ bz.rn u28 rfl iF
  refine bodyPost_ret (v := .agg (r8 32 F)) (by simp [results, Tryd.results36, asAddr, hload]) rfl ⟨rfl, ?_⟩
  rw [HN.out]
  exact bz.below

set_option maxRecDepth 100000 in
set_option maxHeartbeats 4000000 in
theorem tag_long (k s : ByteArray) (w : World) (ht : Tabs w) (hk : 64 < k.size) (hkz : k.size ≤ 1000000) (hs : s.size ≤ 1000000) :
    Calls Tryd.prog 36 #[.string k, .string s] w fun e w' => e = .returned (.agg (r8 32 (mac k s))) ∧ Below w.heap.size w w' := by
  obtain ⟨n, hn⟩ : ∃ n, w.heap.size = n := ⟨_, rfl⟩
  have HN := Lib.hid hn
  have h1n : 1 < n := hn ▸ ht.lt
  have T1 : ∀ v, Below n w v → Tabs v := fun v hv => ht.below hv h1n
  have hK : keyOf k = hstr (Sha.sum k) := by unfold keyOf; rw [if_pos hk]
  have hKs : (hstr (Sha.sum k)).size ≤ 64 := by rw [← hK]; exact keyOf_size k
  have hmac : mac k s = Sha.sum (mixS (keyOf k) 92 ++ hstr (macIn (keyOf k) s)) := rfl
  rw [hK] at hmac
  have ck := fun v (hb : Below n w v) => sum_any k v (T1 v hb) (by omega)
  have iS := r8_info (Sha.sum k)
  have zS := r8_zero (Sha.sum k)
  have oS := r8_one (Sha.sum k)
  have hcv0 : ∀ v g, M.RowAt v g 28 (r8 32 (Sha.sum k)) → (convert 51 9 (.slice (some ⟨g, 0, none⟩) 32 32)).run Tryd.prog v = .ok (.string (hstr (Sha.sum k))) v := fun v g h => conv_row8 h
  generalize hstr (Sha.sum k) = K at *
  generalize r8 32 (Sha.sum k) = S0 at *
  have CK := Lib.hid ck; have HCV0 := Lib.hid hcv0
  clear ck hcv0
  have hm1 : (mixS K 54).size = 64 := mixS_size _ _
  have hm2 : (mixS K 92).size = 64 := mixS_size _ _
  have hsz1 : (mixS K 54 ++ s).size = (mixS K 54).size + s.size := ByteArray.size_append
  have hi1 : macIn K s = Sha.sum (mixS K 54 ++ s) := rfl
  have hsz2 : (mixS K 92 ++ hstr (macIn K s)).size = (mixS K 92).size + (hstr (macIn K s)).size := ByteArray.size_append
  have hh : (hstr (macIn K s)).size = 32 := hstr_size _
  have c1 := fun kb v (h : M.RowAt v kb 94 (b8 64 (bk K))) => mix_any kb K 54 v h (by decide) (by decide)
  have c2 := fun kb v (h : M.RowAt v kb 94 (b8 64 (bk K))) => mix_any kb K 92 v h (by decide) (by decide)
  have d1 := fun v (hb : Below n w v) => sum_any (mixS K 54 ++ s) v (T1 v hb) (by omega)
  have d2 := fun v (hb : Below n w v) => sum_any (mixS K 92 ++ hstr (macIn K s)) v (T1 v hb) (by omega)
  have kr := key_row K (by omega)
  have cr := fun v kb (h : M.RowAt v kb 94 Z64) ty => Lib.run_copy_row_string (P := Tryd.prog) v 51 9 ty 5 kb 0 64 64 K Z64 94 Tryd.underlying51 (by kernel_rfl) h (by omega) (by show 0 + K.size ≤ 64; omega)
  rw [kr] at cr
  have hmf : ∀ (fn : Fn) (first cap : Array Value) (w : World), (Instr.makeFunc fn first cap).run Tryd.prog w = .ok (.func fn first cap) w := fun _ _ _ _ => rfl
  rw [← hmac] at d2
  rw [← hi1] at d1
  have hcv : ∀ v g, M.RowAt v g 28 (r8 32 (macIn K s)) → (convert 51 9 (.slice (some ⟨g, 0, none⟩) 32 32)).run Tryd.prog v = .ok (.string (hstr (macIn K s))) v := fun v g h => conv_row8 h
  have hl1 : (mixS K 54).size + s.size ≤ 10000000 := by omega
  have hl2 : ¬ (9223372036854775807 < (mixS K 92).size + (hstr (macIn K s)).size) := by omega
  generalize mixS K 92 = X2 at *
  generalize mixS K 54 = X1 at *
  generalize hstr (macIn K s) = Y at *
  obtain ⟨I, hI⟩ : ∃ I, macIn K s = I := ⟨_, rfl⟩
  rw [hI] at d1 hcv
  obtain ⟨F, hF⟩ : ∃ F, mac k s = F := ⟨_, rfl⟩
  rw [hF] at d2 ⊢
  have iI := r8_info I; have zI := r8_zero I; have oI := r8_one I
  have iF := r8_info F; have zF := r8_zero F; have oF := r8_one F
  have C1 := Lib.hid c1; have C2 := Lib.hid c2; have D1 := Lib.hid d1; have D2 := Lib.hid d2; have HCV := Lib.hid hcv
  have CR := Lib.hid cr
  obtain ⟨v0, hv0⟩ : ∃ v0, w.alloc (.cells #[.int .u8 0, .int .u8 0, .int .u8 0, .int .u8 0, .int .u8 0, .int .u8 0, .int .u8 0, .int .u8 0, .int .u8 0, .int .u8 0, .int .u8 0, .int .u8 0, .int .u8 0, .int .u8 0, .int .u8 0, .int .u8 0, .int .u8 0, .int .u8 0, .int .u8 0, .int .u8 0, .int .u8 0, .int .u8 0, .int .u8 0, .int .u8 0, .int .u8 0, .int .u8 0, .int .u8 0, .int .u8 0, .int .u8 0, .int .u8 0, .int .u8 0, .int .u8 0] 28) = v0 := ⟨_, rfl⟩
  have r0 := M.RowAt.new w 28 #[.int .u8 0, .int .u8 0, .int .u8 0, .int .u8 0, .int .u8 0, .int .u8 0, .int .u8 0, .int .u8 0, .int .u8 0, .int .u8 0, .int .u8 0, .int .u8 0, .int .u8 0, .int .u8 0, .int .u8 0, .int .u8 0, .int .u8 0, .int .u8 0, .int .u8 0, .int .u8 0, .int .u8 0, .int .u8 0, .int .u8 0, .int .u8 0, .int .u8 0, .int .u8 0, .int .u8 0, .int .u8 0, .int .u8 0, .int .u8 0, .int .u8 0, .int .u8 0]
  have b0 := (Below.refl w.heap.size w).alloc (Nat.le_refl _) (.cells #[.int .u8 0, .int .u8 0, .int .u8 0, .int .u8 0, .int .u8 0, .int .u8 0, .int .u8 0, .int .u8 0, .int .u8 0, .int .u8 0, .int .u8 0, .int .u8 0, .int .u8 0, .int .u8 0, .int .u8 0, .int .u8 0, .int .u8 0, .int .u8 0, .int .u8 0, .int .u8 0, .int .u8 0, .int .u8 0, .int .u8 0, .int .u8 0, .int .u8 0, .int .u8 0, .int .u8 0, .int .u8 0, .int .u8 0, .int .u8 0, .int .u8 0, .int .u8 0] 28)
  rw [hv0] at r0 b0
  rw [hn] at r0 b0
  have HV0 := Lib.hid hv0
  clear c1 c2 d1 d2 hcv cr kr T1 h1n ht hmac hi1 hm1 hm2 hsz1 hsz2 hh hI hF hv0 hK hKs 
  have hk2 : (64 : Int) < k.size := by omega
  go_enter Tryd.func36, Tryd.ntmps36
  go_wp2_with fail
  rw [HV0.out]
  refine (CK.out _ b0).mono ?_
  rintro e w1 ⟨rfl, gq⟩
  have r1 := r0.call gq
  have b1 := b0.trans (gq.mono (by have := r0.lt; omega))
  clear r0 b0 gq
  have hge := r1.lt
  obtain ⟨g, hg⟩ : ∃ g, w1.heap.size = g := ⟨_, rfl⟩
  have rg := M.RowAt.new w1 28 #[.int .u8 0, .int .u8 0, .int .u8 0, .int .u8 0, .int .u8 0, .int .u8 0, .int .u8 0, .int .u8 0, .int .u8 0, .int .u8 0, .int .u8 0, .int .u8 0, .int .u8 0, .int .u8 0, .int .u8 0, .int .u8 0, .int .u8 0, .int .u8 0, .int .u8 0, .int .u8 0, .int .u8 0, .int .u8 0, .int .u8 0, .int .u8 0, .int .u8 0, .int .u8 0, .int .u8 0, .int .u8 0, .int .u8 0, .int .u8 0, .int .u8 0, .int .u8 0]
  have bg := b1.alloc (by omega) (.cells #[.int .u8 0, .int .u8 0, .int .u8 0, .int .u8 0, .int .u8 0, .int .u8 0, .int .u8 0, .int .u8 0, .int .u8 0, .int .u8 0, .int .u8 0, .int .u8 0, .int .u8 0, .int .u8 0, .int .u8 0, .int .u8 0, .int .u8 0, .int .u8 0, .int .u8 0, .int .u8 0, .int .u8 0, .int .u8 0, .int .u8 0, .int .u8 0, .int .u8 0, .int .u8 0, .int .u8 0, .int .u8 0, .int .u8 0, .int .u8 0, .int .u8 0, .int .u8 0] 28)
  have rn := r1.alloc (.cells #[.int .u8 0, .int .u8 0, .int .u8 0, .int .u8 0, .int .u8 0, .int .u8 0, .int .u8 0, .int .u8 0, .int .u8 0, .int .u8 0, .int .u8 0, .int .u8 0, .int .u8 0, .int .u8 0, .int .u8 0, .int .u8 0, .int .u8 0, .int .u8 0, .int .u8 0, .int .u8 0, .int .u8 0, .int .u8 0, .int .u8 0, .int .u8 0, .int .u8 0, .int .u8 0, .int .u8 0, .int .u8 0, .int .u8 0, .int .u8 0, .int .u8 0, .int .u8 0] 28)
  obtain ⟨V, hV⟩ : ∃ V, w1.alloc (.cells #[.int .u8 0, .int .u8 0, .int .u8 0, .int .u8 0, .int .u8 0, .int .u8 0, .int .u8 0, .int .u8 0, .int .u8 0, .int .u8 0, .int .u8 0, .int .u8 0, .int .u8 0, .int .u8 0, .int .u8 0, .int .u8 0, .int .u8 0, .int .u8 0, .int .u8 0, .int .u8 0, .int .u8 0, .int .u8 0, .int .u8 0, .int .u8 0, .int .u8 0, .int .u8 0, .int .u8 0, .int .u8 0, .int .u8 0, .int .u8 0, .int .u8 0, .int .u8 0] 28) = V := ⟨_, rfl⟩
  rw [hV] at rg bg rn
  rw [hg] at rg hge
  have rW := rg.setRow S0
  have rn2 := rn.farRow (b := g) (by omega) S0
  have bW := M.below_setRow (g := g) (cs := S0) bg (by omega)
  obtain ⟨U, hU⟩ : ∃ U, V.setRow g S0 = U := ⟨_, rfl⟩
  rw [hU] at rW rn2 bW
  have hc0 := HCV0.out _ _ rW
  have HG := Lib.hid hg; have HV := Lib.hid hV; have HU := Lib.hid hU
  unfold M.RowAt at rg
  clear hg hV hU r1 b1 rn bg rW
  have hUs := rn2.lt
  obtain ⟨kb, hkb⟩ : ∃ kb, U.heap.size = kb := ⟨_, rfl⟩
  have rk := M.RowAt.new U 94 #[.int .u8 0, .int .u8 0, .int .u8 0, .int .u8 0, .int .u8 0, .int .u8 0, .int .u8 0, .int .u8 0, .int .u8 0, .int .u8 0, .int .u8 0, .int .u8 0, .int .u8 0, .int .u8 0, .int .u8 0, .int .u8 0, .int .u8 0, .int .u8 0, .int .u8 0, .int .u8 0, .int .u8 0, .int .u8 0, .int .u8 0, .int .u8 0, .int .u8 0, .int .u8 0, .int .u8 0, .int .u8 0, .int .u8 0, .int .u8 0, .int .u8 0, .int .u8 0, .int .u8 0, .int .u8 0, .int .u8 0, .int .u8 0, .int .u8 0, .int .u8 0, .int .u8 0, .int .u8 0, .int .u8 0, .int .u8 0, .int .u8 0, .int .u8 0, .int .u8 0, .int .u8 0, .int .u8 0, .int .u8 0, .int .u8 0, .int .u8 0, .int .u8 0, .int .u8 0, .int .u8 0, .int .u8 0, .int .u8 0, .int .u8 0, .int .u8 0, .int .u8 0, .int .u8 0, .int .u8 0, .int .u8 0, .int .u8 0, .int .u8 0, .int .u8 0]
  have bk1 := bW.alloc (by omega) (.cells #[.int .u8 0, .int .u8 0, .int .u8 0, .int .u8 0, .int .u8 0, .int .u8 0, .int .u8 0, .int .u8 0, .int .u8 0, .int .u8 0, .int .u8 0, .int .u8 0, .int .u8 0, .int .u8 0, .int .u8 0, .int .u8 0, .int .u8 0, .int .u8 0, .int .u8 0, .int .u8 0, .int .u8 0, .int .u8 0, .int .u8 0, .int .u8 0, .int .u8 0, .int .u8 0, .int .u8 0, .int .u8 0, .int .u8 0, .int .u8 0, .int .u8 0, .int .u8 0, .int .u8 0, .int .u8 0, .int .u8 0, .int .u8 0, .int .u8 0, .int .u8 0, .int .u8 0, .int .u8 0, .int .u8 0, .int .u8 0, .int .u8 0, .int .u8 0, .int .u8 0, .int .u8 0, .int .u8 0, .int .u8 0, .int .u8 0, .int .u8 0, .int .u8 0, .int .u8 0, .int .u8 0, .int .u8 0, .int .u8 0, .int .u8 0, .int .u8 0, .int .u8 0, .int .u8 0, .int .u8 0, .int .u8 0, .int .u8 0, .int .u8 0, .int .u8 0] 94)
  have rn3 := rn2.alloc (.cells #[.int .u8 0, .int .u8 0, .int .u8 0, .int .u8 0, .int .u8 0, .int .u8 0, .int .u8 0, .int .u8 0, .int .u8 0, .int .u8 0, .int .u8 0, .int .u8 0, .int .u8 0, .int .u8 0, .int .u8 0, .int .u8 0, .int .u8 0, .int .u8 0, .int .u8 0, .int .u8 0, .int .u8 0, .int .u8 0, .int .u8 0, .int .u8 0, .int .u8 0, .int .u8 0, .int .u8 0, .int .u8 0, .int .u8 0, .int .u8 0, .int .u8 0, .int .u8 0, .int .u8 0, .int .u8 0, .int .u8 0, .int .u8 0, .int .u8 0, .int .u8 0, .int .u8 0, .int .u8 0, .int .u8 0, .int .u8 0, .int .u8 0, .int .u8 0, .int .u8 0, .int .u8 0, .int .u8 0, .int .u8 0, .int .u8 0, .int .u8 0, .int .u8 0, .int .u8 0, .int .u8 0, .int .u8 0, .int .u8 0, .int .u8 0, .int .u8 0, .int .u8 0, .int .u8 0, .int .u8 0, .int .u8 0, .int .u8 0, .int .u8 0, .int .u8 0] 94)
  obtain ⟨VK, hVK⟩ : ∃ VK, U.alloc (.cells #[.int .u8 0, .int .u8 0, .int .u8 0, .int .u8 0, .int .u8 0, .int .u8 0, .int .u8 0, .int .u8 0, .int .u8 0, .int .u8 0, .int .u8 0, .int .u8 0, .int .u8 0, .int .u8 0, .int .u8 0, .int .u8 0, .int .u8 0, .int .u8 0, .int .u8 0, .int .u8 0, .int .u8 0, .int .u8 0, .int .u8 0, .int .u8 0, .int .u8 0, .int .u8 0, .int .u8 0, .int .u8 0, .int .u8 0, .int .u8 0, .int .u8 0, .int .u8 0, .int .u8 0, .int .u8 0, .int .u8 0, .int .u8 0, .int .u8 0, .int .u8 0, .int .u8 0, .int .u8 0, .int .u8 0, .int .u8 0, .int .u8 0, .int .u8 0, .int .u8 0, .int .u8 0, .int .u8 0, .int .u8 0, .int .u8 0, .int .u8 0, .int .u8 0, .int .u8 0, .int .u8 0, .int .u8 0, .int .u8 0, .int .u8 0, .int .u8 0, .int .u8 0, .int .u8 0, .int .u8 0, .int .u8 0, .int .u8 0, .int .u8 0, .int .u8 0] 94) = VK := ⟨_, rfl⟩
  rw [hVK] at rk bk1 rn3
  rw [hkb] at rk hUs
  have crk := fun ty => CR.out _ _ rk ty
  have rk2 := rk.setRow (b8 64 (bk K))
  have rn4 := rn3.farRow (b := kb) (by omega) (b8 64 (bk K))
  have bk2 := M.below_setRow (g := kb) (cs := b8 64 (bk K)) bk1 (by omega)
  obtain ⟨UK, hUK⟩ : ∃ UK, VK.setRow kb (b8 64 (bk K)) = UK := ⟨_, rfl⟩
  rw [hUK] at crk rk2 rn4 bk2
  have HKB := Lib.hid hkb; have HVK := Lib.hid hVK; have CRK := Lib.hid crk
  clear hkb hVK hUK crk rk bk1 rn3 rn2 bW
  go_wp2_with (first
    | (rw [HG.out, HV.out]; refine wpList_store_row (x := .tmp 5) (y := .tmp 13) (cells := S0) (old := Z32) (t := 28) (ty := 28) (g := g) ?_ ?_ ?_ ?_ rg iS zS oS ?_; rfl; rfl; rfl; rfl; rw [HU.out])
    | (rw [HKB.out, HVK.out]; (refine Go.Proofs.wpList_copy_runI _ ?_ (.tmp 16) (.tmp 17) 51 9 ?_ (.slice (some ⟨kb, 0, none⟩) 64 64) (.string K) ?_ ?_ (CRK.out _) ?_; rfl; rfl; rfl; rfl)))
  refine (C1.out _ _ rk2).mono ?_
  rintro e w2 ⟨rfl, gq⟩
  have rn5 := rn4.call gq
  have rk3 := rk2.call gq
  have b5 := bk2.trans (gq.mono (by have := rn4.lt; omega))
  clear gq rn4 bk2 rk2
  go_wp2_with fail
  refine (D1.out _ b5).mono ?_
  rintro e w3 ⟨rfl, gq⟩
  have rn6 := rn5.call gq
  have rk4 := rk3.call gq
  have b6 := b5.trans (gq.mono (by have := rn5.lt; omega))
  clear gq rn5 b5 rk3
  have hn6 := rn6.lt
  have hk6 := rk4.lt
  obtain ⟨i, hi⟩ : ∃ i, w3.heap.size = i := ⟨_, rfl⟩
  have ri := M.RowAt.new w3 28 #[.int .u8 0, .int .u8 0, .int .u8 0, .int .u8 0, .int .u8 0, .int .u8 0, .int .u8 0, .int .u8 0, .int .u8 0, .int .u8 0, .int .u8 0, .int .u8 0, .int .u8 0, .int .u8 0, .int .u8 0, .int .u8 0, .int .u8 0, .int .u8 0, .int .u8 0, .int .u8 0, .int .u8 0, .int .u8 0, .int .u8 0, .int .u8 0, .int .u8 0, .int .u8 0, .int .u8 0, .int .u8 0, .int .u8 0, .int .u8 0, .int .u8 0, .int .u8 0]
  have b7 := b6.alloc (by omega) (.cells #[.int .u8 0, .int .u8 0, .int .u8 0, .int .u8 0, .int .u8 0, .int .u8 0, .int .u8 0, .int .u8 0, .int .u8 0, .int .u8 0, .int .u8 0, .int .u8 0, .int .u8 0, .int .u8 0, .int .u8 0, .int .u8 0, .int .u8 0, .int .u8 0, .int .u8 0, .int .u8 0, .int .u8 0, .int .u8 0, .int .u8 0, .int .u8 0, .int .u8 0, .int .u8 0, .int .u8 0, .int .u8 0, .int .u8 0, .int .u8 0, .int .u8 0, .int .u8 0] 28)
  have rn7 := rn6.alloc (.cells #[.int .u8 0, .int .u8 0, .int .u8 0, .int .u8 0, .int .u8 0, .int .u8 0, .int .u8 0, .int .u8 0, .int .u8 0, .int .u8 0, .int .u8 0, .int .u8 0, .int .u8 0, .int .u8 0, .int .u8 0, .int .u8 0, .int .u8 0, .int .u8 0, .int .u8 0, .int .u8 0, .int .u8 0, .int .u8 0, .int .u8 0, .int .u8 0, .int .u8 0, .int .u8 0, .int .u8 0, .int .u8 0, .int .u8 0, .int .u8 0, .int .u8 0, .int .u8 0] 28)
  have rk7 := rk4.alloc (.cells #[.int .u8 0, .int .u8 0, .int .u8 0, .int .u8 0, .int .u8 0, .int .u8 0, .int .u8 0, .int .u8 0, .int .u8 0, .int .u8 0, .int .u8 0, .int .u8 0, .int .u8 0, .int .u8 0, .int .u8 0, .int .u8 0, .int .u8 0, .int .u8 0, .int .u8 0, .int .u8 0, .int .u8 0, .int .u8 0, .int .u8 0, .int .u8 0, .int .u8 0, .int .u8 0, .int .u8 0, .int .u8 0, .int .u8 0, .int .u8 0, .int .u8 0, .int .u8 0] 28)
  obtain ⟨VI, hVI⟩ : ∃ VI, w3.alloc (.cells #[.int .u8 0, .int .u8 0, .int .u8 0, .int .u8 0, .int .u8 0, .int .u8 0, .int .u8 0, .int .u8 0, .int .u8 0, .int .u8 0, .int .u8 0, .int .u8 0, .int .u8 0, .int .u8 0, .int .u8 0, .int .u8 0, .int .u8 0, .int .u8 0, .int .u8 0, .int .u8 0, .int .u8 0, .int .u8 0, .int .u8 0, .int .u8 0, .int .u8 0, .int .u8 0, .int .u8 0, .int .u8 0, .int .u8 0, .int .u8 0, .int .u8 0, .int .u8 0] 28) = VI := ⟨_, rfl⟩
  rw [hVI] at ri b7 rn7 rk7
  rw [hi] at ri hn6 hk6
  have ri2 := ri.setRow (r8 32 I)
  have rn8 := rn7.farRow (b := i) (by omega) (r8 32 I)
  have rk8 := rk7.farRow (b := i) (by omega) (r8 32 I)
  have b8 := M.below_setRow (g := i) (cs := r8 32 I) b7 (by omega)
  obtain ⟨UI, hUI⟩ : ∃ UI, VI.setRow i (r8 32 I) = UI := ⟨_, rfl⟩
  rw [hUI] at ri2 rn8 b8 rk8
  have tc : TC n kb i w Z32 K I UI := ⟨rn8, rk8, ri2, b8⟩
  have HI := Lib.hid hi; have HVI := Lib.hid hVI; have HUI := Lib.hid hUI
  unfold M.RowAt at ri
  clear hi hVI hUI rn6 b6 b7 rn7 ri2 rn8 b8 rk4 rk7 rk8
  go_wp2_with (rw [HI.out, HVI.out]; refine wpList_store_row (x := .tmp 8) (y := .tmp 24) (cells := r8 32 I) (old := Z32) (t := 28) (ty := 28) (g := i) ?_ ?_ ?_ ?_ ri iI zI oI ?_; rfl; rfl; rfl; rfl; rw [HUI.out])
  refine QP.wp_region_p 6 (TC n kb i w Z32 K I) (TC n kb i w (r8 32 F) K I) (by kernel_rfl) (by kernel_rfl) tc.drew ?_
  iterate 7
    (refine QP.wpQ_step (fun K hK => ?_)
     go_simp
     first
       | (refine hK _ ?_; clear hK K)
       | (refine ⟨?_, hK _ ?_⟩; decide; clear hK K)
       | ((first | (apply Exists.intro; refine ⟨?_, hK _ ?_⟩) | refine ⟨⟨undef, ?_⟩, hK _ ?_⟩)
          first
            | (apply QP.al_p; decide; (focus (intro wq hq; (first | (have hcv := HCV.out _ _ hq.ri) | skip); first | ((refine QP.oat_store_row (ty := 28) (x := .tmp 4) (y := .tmp 30) (g := n) (cells := r8 32 F) (t := 28) (old := Z32) ?_ ?_ ?_ hq.rn iF zF oF (hq.set (by omega) (by omega)); rfl; rfl; rfl)) | (unfold QP.oat; go_simp; first | done | exact ⟨by assumption, rfl⟩ | exact rfl | assumption | (first | ((with_reducible refine (C2.out _ _ hq.rk).mono ?_); rintro e w' ⟨rfl, gq⟩; exact ⟨rfl, hq.same gq⟩) | ((with_reducible refine (D2.out _ hq.below).mono ?_); rintro e w' ⟨rfl, gq⟩; exact ⟨rfl, hq.same gq⟩))))))
            | (apply QP.al_dep; decide; decide; (focus (intro wq hq; (first | (have hcv := HCV.out _ _ hq.ri) | skip); first | ((refine QP.oat_store_row (ty := 28) (x := .tmp 4) (y := .tmp 30) (g := n) (cells := r8 32 F) (t := 28) (old := Z32) ?_ ?_ ?_ hq.rn iF zF oF (hq.set (by omega) (by omega)); rfl; rfl; rfl)) | (unfold QP.oat; go_simp; first | done | exact ⟨by assumption, rfl⟩ | exact rfl | assumption | (first | ((with_reducible refine (C2.out _ _ hq.rk).mono ?_); rintro e w' ⟨rfl, gq⟩; exact ⟨rfl, hq.same gq⟩) | ((with_reducible refine (D2.out _ hq.below).mono ?_); rintro e w' ⟨rfl, gq⟩; exact ⟨rfl, hq.same gq⟩))))))
            | (apply QP.al_bef; decide; decide; (focus (intro wq hq; (first | (have hcv := HCV.out _ _ hq.ri) | skip); first | ((refine QP.oat_store_row (ty := 28) (x := .tmp 4) (y := .tmp 30) (g := n) (cells := r8 32 F) (t := 28) (old := Z32) ?_ ?_ ?_ hq.rn iF zF oF (hq.set (by omega) (by omega)); rfl; rfl; rfl)) | (unfold QP.oat; go_simp; first | done | exact ⟨by assumption, rfl⟩ | exact rfl | assumption | (first | ((with_reducible refine (C2.out _ _ hq.rk).mono ?_); rintro e w' ⟨rfl, gq⟩; exact ⟨rfl, hq.same gq⟩) | ((with_reducible refine (D2.out _ hq.below).mono ?_); rintro e w' ⟨rfl, gq⟩; exact ⟨rfl, hq.same gq⟩))))))
            | (apply QP.al_ok; decide; (focus (intro wq hq; (first | (have hcv := HCV.out _ _ hq.ri) | skip); first | ((refine QP.oat_store_row (ty := 28) (x := .tmp 4) (y := .tmp 30) (g := n) (cells := r8 32 F) (t := 28) (old := Z32) ?_ ?_ ?_ hq.rn iF zF oF (hq.set (by omega) (by omega)); rfl; rfl; rfl)) | (unfold QP.oat; go_simp; first | done | exact ⟨by assumption, rfl⟩ | exact rfl | assumption | (first | ((with_reducible refine (C2.out _ _ hq.rk).mono ?_); rintro e w' ⟨rfl, gq⟩; exact ⟨rfl, hq.same gq⟩) | ((with_reducible refine (D2.out _ hq.below).mono ?_); rintro e w' ⟨rfl, gq⟩; exact ⟨rfl, hq.same gq⟩))))); (focus (intro wq hq; (first | (have hcv := HCV.out _ _ hq.ri) | skip); first | ((refine QP.oat_store_row (ty := 28) (x := .tmp 4) (y := .tmp 30) (g := n) (cells := r8 32 F) (t := 28) (old := Z32) ?_ ?_ ?_ hq.rn iF zF oF (hq.set (by omega) (by omega)); rfl; rfl; rfl)) | (unfold QP.oat; go_simp; first | done | exact ⟨by assumption, rfl⟩ | exact rfl | assumption | (first | ((with_reducible refine (C2.out _ _ hq.rk).mono ?_); rintro e w' ⟨rfl, gq⟩; exact ⟨rfl, hq.same gq⟩) | ((with_reducible refine (D2.out _ hq.below).mono ?_); rintro e w' ⟨rfl, gq⟩; exact ⟨rfl, hq.same gq⟩))))))
          clear hK K))
  refine QP.wpQ_nil ?_
  intro wz bz
  go_wp2
  have hload := run_loadVar_row (P := Tryd.prog) _ n 28 28 (r8 32 F) (0, 0) _ bz.rn u28 rfl iF
  refine bodyPost_ret (v := .agg (r8 32 F)) (by simp [results, Tryd.results36, asAddr, hload]) rfl ⟨rfl, ?_⟩
  rw [HN.out]
  exact bz.below

set_option maxRecDepth 100000 in
set_option maxHeartbeats 4000000 in
theorem rtag_short (k s : ByteArray) (w : World) (hk : k.size ≤ 64) (hkz : k.size ≤ 1000000) (hs : s.size ≤ 1000000) :
    Calls Tryd.prog 38 #[.string k, .string s] w fun e w' => e = .returned (.agg (r8 32 (mac k s))) ∧ Below w.heap.size w w' := by
  obtain ⟨n, hn⟩ : ∃ n, w.heap.size = n := ⟨_, rfl⟩
  have HN := Lib.hid hn
  have hK : keyOf k = k := by unfold keyOf; rw [if_neg (by omega)]
  have hKs : (k).size ≤ 64 := by rw [← hK]; exact keyOf_size k
  have hmac : mac k s = Sha.sum (mixS (keyOf k) 92 ++ hstr (macIn (keyOf k) s)) := rfl
  rw [hK] at hmac
  have hm1 : (mixS k 54).size = 64 := mixS_size _ _
  have hm2 : (mixS k 92).size = 64 := mixS_size _ _
  have hsz1 : (mixS k 54 ++ s).size = (mixS k 54).size + s.size := ByteArray.size_append
  have hi1 : macIn k s = Sha.sum (mixS k 54 ++ s) := rfl
  have hsz2 : (mixS k 92 ++ hstr (macIn k s)).size = (mixS k 92).size + (hstr (macIn k s)).size := ByteArray.size_append
  have hh : (hstr (macIn k s)).size = 32 := hstr_size _
  have c1 := fun v => rmix_any k 54 v (by omega) (by decide) (by decide)
  have c2 := fun v => rmix_any k 92 v (by omega) (by decide) (by decide)
  have d1 := fun v => rsum_any (mixS k 54 ++ s) v (by omega)
  have d2 := fun v => rsum_any (mixS k 92 ++ hstr (macIn k s)) v (by omega)
  rw [← hmac] at d2
  rw [← hi1] at d1
  have hcv : ∀ v g, M.RowAt v g 28 (r8 32 (macIn k s)) → (convert 51 9 (.slice (some ⟨g, 0, none⟩) 32 32)).run Tryd.prog v = .ok (.string (hstr (macIn k s))) v := fun v g h => conv_row8 h
  have hl1 : (mixS k 54).size + s.size ≤ 10000000 := by omega
  have hl2 : ¬ (9223372036854775807 < (mixS k 92).size + (hstr (macIn k s)).size) := by omega
  generalize mixS k 92 = X2 at *
  generalize mixS k 54 = X1 at *
  generalize hstr (macIn k s) = Y at *
  obtain ⟨I, hI⟩ : ∃ I, macIn k s = I := ⟨_, rfl⟩
  rw [hI] at d1 hcv
  obtain ⟨F, hF⟩ : ∃ F, mac k s = F := ⟨_, rfl⟩
  rw [hF] at d2 ⊢
  have iI := r8_info I; have zI := r8_zero I; have oI := r8_one I
  have iF := r8_info F; have zF := r8_zero F; have oF := r8_one F
  have C1 := Lib.hid c1; have C2 := Lib.hid c2; have D1 := Lib.hid d1; have D2 := Lib.hid d2; have HCV := Lib.hid hcv
  obtain ⟨v0, hv0⟩ : ∃ v0, w.alloc (.cells #[.int .u8 0, .int .u8 0, .int .u8 0, .int .u8 0, .int .u8 0, .int .u8 0, .int .u8 0, .int .u8 0, .int .u8 0, .int .u8 0, .int .u8 0, .int .u8 0, .int .u8 0, .int .u8 0, .int .u8 0, .int .u8 0, .int .u8 0, .int .u8 0, .int .u8 0, .int .u8 0, .int .u8 0, .int .u8 0, .int .u8 0, .int .u8 0, .int .u8 0, .int .u8 0, .int .u8 0, .int .u8 0, .int .u8 0, .int .u8 0, .int .u8 0, .int .u8 0] 28) = v0 := ⟨_, rfl⟩
  have r0 := M.RowAt.new w 28 #[.int .u8 0, .int .u8 0, .int .u8 0, .int .u8 0, .int .u8 0, .int .u8 0, .int .u8 0, .int .u8 0, .int .u8 0, .int .u8 0, .int .u8 0, .int .u8 0, .int .u8 0, .int .u8 0, .int .u8 0, .int .u8 0, .int .u8 0, .int .u8 0, .int .u8 0, .int .u8 0, .int .u8 0, .int .u8 0, .int .u8 0, .int .u8 0, .int .u8 0, .int .u8 0, .int .u8 0, .int .u8 0, .int .u8 0, .int .u8 0, .int .u8 0, .int .u8 0]
  have b0 := (Below.refl w.heap.size w).alloc (Nat.le_refl _) (.cells #[.int .u8 0, .int .u8 0, .int .u8 0, .int .u8 0, .int .u8 0, .int .u8 0, .int .u8 0, .int .u8 0, .int .u8 0, .int .u8 0, .int .u8 0, .int .u8 0, .int .u8 0, .int .u8 0, .int .u8 0, .int .u8 0, .int .u8 0, .int .u8 0, .int .u8 0, .int .u8 0, .int .u8 0, .int .u8 0, .int .u8 0, .int .u8 0, .int .u8 0, .int .u8 0, .int .u8 0, .int .u8 0, .int .u8 0, .int .u8 0, .int .u8 0, .int .u8 0] 28)
  rw [hv0] at r0 b0
  rw [hn] at r0 b0
  have HV0 := Lib.hid hv0
  clear c1 c2 d1 d2 hcv hmac hi1 hm1 hm2 hsz1 hsz2 hh hI hF hv0 hK hKs 
  have hk2 : ¬ (64 : Int) < k.size := by omega
  go_enter Tryd.func38, Tryd.ntmps38
  have hUs := r0.lt
  obtain ⟨kb, hkb⟩ : ∃ kb, v0.heap.size = kb := ⟨_, rfl⟩
  clear hkb
  go_wp2_with fail
  rw [HV0.out]
  refine (C1.out _).mono ?_
  have rn4 := r0
  have bk2 := b0
  rintro e w2 ⟨rfl, gq⟩
  have rn5 := rn4.call gq
  have b5 := bk2.trans (gq.mono (by have := rn4.lt; omega))
  clear gq rn4 bk2 
  go_wp2_with fail
  refine (D1.out _).mono ?_
  rintro e w3 ⟨rfl, gq⟩
  have rn6 := rn5.call gq
  have b6 := b5.trans (gq.mono (by have := rn5.lt; omega))
  clear gq rn5 b5 
  have hn6 := rn6.lt
  obtain ⟨i, hi⟩ : ∃ i, w3.heap.size = i := ⟨_, rfl⟩
  have ri := M.RowAt.new w3 28 #[.int .u8 0, .int .u8 0, .int .u8 0, .int .u8 0, .int .u8 0, .int .u8 0, .int .u8 0, .int .u8 0, .int .u8 0, .int .u8 0, .int .u8 0, .int .u8 0, .int .u8 0, .int .u8 0, .int .u8 0, .int .u8 0, .int .u8 0, .int .u8 0, .int .u8 0, .int .u8 0, .int .u8 0, .int .u8 0, .int .u8 0, .int .u8 0, .int .u8 0, .int .u8 0, .int .u8 0, .int .u8 0, .int .u8 0, .int .u8 0, .int .u8 0, .int .u8 0]
  have b7 := b6.alloc (by omega) (.cells #[.int .u8 0, .int .u8 0, .int .u8 0, .int .u8 0, .int .u8 0, .int .u8 0, .int .u8 0, .int .u8 0, .int .u8 0, .int .u8 0, .int .u8 0, .int .u8 0, .int .u8 0, .int .u8 0, .int .u8 0, .int .u8 0, .int .u8 0, .int .u8 0, .int .u8 0, .int .u8 0, .int .u8 0, .int .u8 0, .int .u8 0, .int .u8 0, .int .u8 0, .int .u8 0, .int .u8 0, .int .u8 0, .int .u8 0, .int .u8 0, .int .u8 0, .int .u8 0] 28)
  have rn7 := rn6.alloc (.cells #[.int .u8 0, .int .u8 0, .int .u8 0, .int .u8 0, .int .u8 0, .int .u8 0, .int .u8 0, .int .u8 0, .int .u8 0, .int .u8 0, .int .u8 0, .int .u8 0, .int .u8 0, .int .u8 0, .int .u8 0, .int .u8 0, .int .u8 0, .int .u8 0, .int .u8 0, .int .u8 0, .int .u8 0, .int .u8 0, .int .u8 0, .int .u8 0, .int .u8 0, .int .u8 0, .int .u8 0, .int .u8 0, .int .u8 0, .int .u8 0, .int .u8 0, .int .u8 0] 28)
  obtain ⟨VI, hVI⟩ : ∃ VI, w3.alloc (.cells #[.int .u8 0, .int .u8 0, .int .u8 0, .int .u8 0, .int .u8 0, .int .u8 0, .int .u8 0, .int .u8 0, .int .u8 0, .int .u8 0, .int .u8 0, .int .u8 0, .int .u8 0, .int .u8 0, .int .u8 0, .int .u8 0, .int .u8 0, .int .u8 0, .int .u8 0, .int .u8 0, .int .u8 0, .int .u8 0, .int .u8 0, .int .u8 0, .int .u8 0, .int .u8 0, .int .u8 0, .int .u8 0, .int .u8 0, .int .u8 0, .int .u8 0, .int .u8 0] 28) = VI := ⟨_, rfl⟩
  rw [hVI] at ri b7 rn7
  rw [hi] at ri hn6
  have ri2 := ri.setRow (r8 32 I)
  have rn8 := rn7.farRow (b := i) (by omega) (r8 32 I)
  have b8 := M.below_setRow (g := i) (cs := r8 32 I) b7 (by omega)
  obtain ⟨UI, hUI⟩ : ∃ UI, VI.setRow i (r8 32 I) = UI := ⟨_, rfl⟩
  rw [hUI] at ri2 rn8 b8
  have tc : TD n i w Z32 I UI := ⟨rn8, ri2, b8⟩
  have HI := Lib.hid hi; have HVI := Lib.hid hVI; have HUI := Lib.hid hUI
  unfold M.RowAt at ri
  clear hi hVI hUI rn6 b6 b7 rn7 ri2 rn8 b8 
  go_wp2_with (rw [HI.out, HVI.out]; refine wpList_store_row (x := .tmp 7) (y := .tmp 20) (cells := r8 32 I) (old := Z32) (t := 28) (ty := 28) (g := i) ?_ ?_ ?_ ?_ ri iI zI oI ?_; rfl; rfl; rfl; rfl; rw [HUI.out])
  refine QP.wp_region_p 6 (TD n i w Z32 I) (TD n i w (r8 32 F) I) (by kernel_rfl) (by kernel_rfl) tc.drew ?_
  iterate 7
    (refine QP.wpQ_step (fun K hK => ?_)
     go_simp
     first
       | (refine hK _ ?_; clear hK K)
       | (refine ⟨?_, hK _ ?_⟩; decide; clear hK K)
       | ((first | (apply Exists.intro; refine ⟨?_, hK _ ?_⟩) | refine ⟨⟨undef, ?_⟩, hK _ ?_⟩)
          first
            | (apply QP.al_p; decide; (focus (intro wq hq; (first | (have hcv := HCV.out _ _ hq.ri) | skip); first | ((refine QP.oat_store_row (ty := 28) (x := .tmp 4) (y := .tmp 26) (g := n) (cells := r8 32 F) (t := 28) (old := Z32) ?_ ?_ ?_ hq.rn iF zF oF (hq.set (by omega)); rfl; rfl; rfl)) | (unfold QP.oat; go_simp; first | done | exact ⟨by assumption, rfl⟩ | exact rfl | assumption | (first | ((with_reducible refine (C2.out _).mono ?_); rintro e w' ⟨rfl, gq⟩; exact ⟨rfl, hq.same gq⟩) | ((with_reducible refine (D2.out _).mono ?_); rintro e w' ⟨rfl, gq⟩; exact ⟨rfl, hq.same gq⟩))))))
            | (apply QP.al_dep; decide; decide; (focus (intro wq hq; (first | (have hcv := HCV.out _ _ hq.ri) | skip); first | ((refine QP.oat_store_row (ty := 28) (x := .tmp 4) (y := .tmp 26) (g := n) (cells := r8 32 F) (t := 28) (old := Z32) ?_ ?_ ?_ hq.rn iF zF oF (hq.set (by omega)); rfl; rfl; rfl)) | (unfold QP.oat; go_simp; first | done | exact ⟨by assumption, rfl⟩ | exact rfl | assumption | (first | ((with_reducible refine (C2.out _).mono ?_); rintro e w' ⟨rfl, gq⟩; exact ⟨rfl, hq.same gq⟩) | ((with_reducible refine (D2.out _).mono ?_); rintro e w' ⟨rfl, gq⟩; exact ⟨rfl, hq.same gq⟩))))))
            | (apply QP.al_bef; decide; decide; (focus (intro wq hq; (first | (have hcv := HCV.out _ _ hq.ri) | skip); first | ((refine QP.oat_store_row (ty := 28) (x := .tmp 4) (y := .tmp 26) (g := n) (cells := r8 32 F) (t := 28) (old := Z32) ?_ ?_ ?_ hq.rn iF zF oF (hq.set (by omega)); rfl; rfl; rfl)) | (unfold QP.oat; go_simp; first | done | exact ⟨by assumption, rfl⟩ | exact rfl | assumption | (first | ((with_reducible refine (C2.out _).mono ?_); rintro e w' ⟨rfl, gq⟩; exact ⟨rfl, hq.same gq⟩) | ((with_reducible refine (D2.out _).mono ?_); rintro e w' ⟨rfl, gq⟩; exact ⟨rfl, hq.same gq⟩))))))
            | (apply QP.al_ok; decide; (focus (intro wq hq; (first | (have hcv := HCV.out _ _ hq.ri) | skip); first | ((refine QP.oat_store_row (ty := 28) (x := .tmp 4) (y := .tmp 26) (g := n) (cells := r8 32 F) (t := 28) (old := Z32) ?_ ?_ ?_ hq.rn iF zF oF (hq.set (by omega)); rfl; rfl; rfl)) | (unfold QP.oat; go_simp; first | done | exact ⟨by assumption, rfl⟩ | exact rfl | assumption | (first | ((with_reducible refine (C2.out _).mono ?_); rintro e w' ⟨rfl, gq⟩; exact ⟨rfl, hq.same gq⟩) | ((with_reducible refine (D2.out _).mono ?_); rintro e w' ⟨rfl, gq⟩; exact ⟨rfl, hq.same gq⟩))))); (focus (intro wq hq; (first | (have hcv := HCV.out _ _ hq.ri) | skip); first | ((refine QP.oat_store_row (ty := 28) (x := .tmp 4) (y := .tmp 26) (g := n) (cells := r8 32 F) (t := 28) (old := Z32) ?_ ?_ ?_ hq.rn iF zF oF (hq.set (by omega)); rfl; rfl; rfl)) | (unfold QP.oat; go_simp; first | done | exact ⟨by assumption, rfl⟩ | exact rfl | assumption | (first | ((with_reducible refine (C2.out _).mono ?_); rintro e w' ⟨rfl, gq⟩; exact ⟨rfl, hq.same gq⟩) | ((with_reducible refine (D2.out _).mono ?_); rintro e w' ⟨rfl, gq⟩; exact ⟨rfl, hq.same gq⟩))))))
          clear hK K))
  refine QP.wpQ_nil ?_
  intro wz bz
  go_wp2
  have hload := run_loadVar_row (P := Tryd.prog) _ n 28 28 (r8 32 F) (0, 0) _ bz.rn u28 rfl iF
  refine bodyPost_ret (v := .agg (r8 32 F)) (by simp [results, Tryd.results38, asAddr, hload]) rfl ⟨rfl, ?_⟩
  rw [HN.out]
  exact bz.below

set_option maxRecDepth 100000 in
set_option maxHeartbeats 4000000 in
theorem rtag_long (k s : ByteArray) (w : World) (hk : 64 < k.size) (hkz : k.size ≤ 1000000) (hs : s.size ≤ 1000000) :
    Calls Tryd.prog 38 #[.string k, .string s] w fun e w' => e = .returned (.agg (r8 32 (mac k s))) ∧ Below w.heap.size w w' := by
  obtain ⟨n, hn⟩ : ∃ n, w.heap.size = n := ⟨_, rfl⟩
  have HN := Lib.hid hn
  have hK : keyOf k = hstr (Sha.sum k) := by unfold keyOf; rw [if_pos hk]
  have hKs : (hstr (Sha.sum k)).size ≤ 64 := by rw [← hK]; exact keyOf_size k
  have hmac : mac k s = Sha.sum (mixS (keyOf k) 92 ++ hstr (macIn (keyOf k) s)) := rfl
  rw [hK] at hmac
  have ck := fun v => rsum_any k v (by omega)
  have iS := r8_info (Sha.sum k)
  have zS := r8_zero (Sha.sum k)
  have oS := r8_one (Sha.sum k)
  have hcv0 : ∀ v g, M.RowAt v g 28 (r8 32 (Sha.sum k)) → (convert 51 9 (.slice (some ⟨g, 0, none⟩) 32 32)).run Tryd.prog v = .ok (.string (hstr (Sha.sum k))) v := fun v g h => conv_row8 h
  generalize hstr (Sha.sum k) = K at *
  generalize r8 32 (Sha.sum k) = S0 at *
  have CK := Lib.hid ck; have HCV0 := Lib.hid hcv0
  clear ck hcv0
  have hm1 : (mixS K 54).size = 64 := mixS_size _ _
  have hm2 : (mixS K 92).size = 64 := mixS_size _ _
  have hsz1 : (mixS K 54 ++ s).size = (mixS K 54).size + s.size := ByteArray.size_append
  have hi1 : macIn K s = Sha.sum (mixS K 54 ++ s) := rfl
  have hsz2 : (mixS K 92 ++ hstr (macIn K s)).size = (mixS K 92).size + (hstr (macIn K s)).size := ByteArray.size_append
  have hh : (hstr (macIn K s)).size = 32 := hstr_size _
  have c1 := fun v => rmix_any K 54 v (by omega) (by decide) (by decide)
  have c2 := fun v => rmix_any K 92 v (by omega) (by decide) (by decide)
  have d1 := fun v => rsum_any (mixS K 54 ++ s) v (by omega)
  have d2 := fun v => rsum_any (mixS K 92 ++ hstr (macIn K s)) v (by omega)
  rw [← hmac] at d2
  rw [← hi1] at d1
  have hcv : ∀ v g, M.RowAt v g 28 (r8 32 (macIn K s)) → (convert 51 9 (.slice (some ⟨g, 0, none⟩) 32 32)).run Tryd.prog v = .ok (.string (hstr (macIn K s))) v := fun v g h => conv_row8 h
  have hl1 : (mixS K 54).size + s.size ≤ 10000000 := by omega
  have hl2 : ¬ (9223372036854775807 < (mixS K 92).size + (hstr (macIn K s)).size) := by omega
  generalize mixS K 92 = X2 at *
  generalize mixS K 54 = X1 at *
  generalize hstr (macIn K s) = Y at *
  obtain ⟨I, hI⟩ : ∃ I, macIn K s = I := ⟨_, rfl⟩
  rw [hI] at d1 hcv
  obtain ⟨F, hF⟩ : ∃ F, mac k s = F := ⟨_, rfl⟩
  rw [hF] at d2 ⊢
  have iI := r8_info I; have zI := r8_zero I; have oI := r8_one I
  have iF := r8_info F; have zF := r8_zero F; have oF := r8_one F
  have C1 := Lib.hid c1; have C2 := Lib.hid c2; have D1 := Lib.hid d1; have D2 := Lib.hid d2; have HCV := Lib.hid hcv
  obtain ⟨v0, hv0⟩ : ∃ v0, w.alloc (.cells #[.int .u8 0, .int .u8 0, .int .u8 0, .int .u8 0, .int .u8 0, .int .u8 0, .int .u8 0, .int .u8 0, .int .u8 0, .int .u8 0, .int .u8 0, .int .u8 0, .int .u8 0, .int .u8 0, .int .u8 0, .int .u8 0, .int .u8 0, .int .u8 0, .int .u8 0, .int .u8 0, .int .u8 0, .int .u8 0, .int .u8 0, .int .u8 0, .int .u8 0, .int .u8 0, .int .u8 0, .int .u8 0, .int .u8 0, .int .u8 0, .int .u8 0, .int .u8 0] 28) = v0 := ⟨_, rfl⟩
  have r0 := M.RowAt.new w 28 #[.int .u8 0, .int .u8 0, .int .u8 0, .int .u8 0, .int .u8 0, .int .u8 0, .int .u8 0, .int .u8 0, .int .u8 0, .int .u8 0, .int .u8 0, .int .u8 0, .int .u8 0, .int .u8 0, .int .u8 0, .int .u8 0, .int .u8 0, .int .u8 0, .int .u8 0, .int .u8 0, .int .u8 0, .int .u8 0, .int .u8 0, .int .u8 0, .int .u8 0, .int .u8 0, .int .u8 0, .int .u8 0, .int .u8 0, .int .u8 0, .int .u8 0, .int .u8 0]
  have b0 := (Below.refl w.heap.size w).alloc (Nat.le_refl _) (.cells #[.int .u8 0, .int .u8 0, .int .u8 0, .int .u8 0, .int .u8 0, .int .u8 0, .int .u8 0, .int .u8 0, .int .u8 0, .int .u8 0, .int .u8 0, .int .u8 0, .int .u8 0, .int .u8 0, .int .u8 0, .int .u8 0, .int .u8 0, .int .u8 0, .int .u8 0, .int .u8 0, .int .u8 0, .int .u8 0, .int .u8 0, .int .u8 0, .int .u8 0, .int .u8 0, .int .u8 0, .int .u8 0, .int .u8 0, .int .u8 0, .int .u8 0, .int .u8 0] 28)
  rw [hv0] at r0 b0
  rw [hn] at r0 b0
  have HV0 := Lib.hid hv0
  clear c1 c2 d1 d2 hcv hmac hi1 hm1 hm2 hsz1 hsz2 hh hI hF hv0 hK hKs 
  have hk2 : (64 : Int) < k.size := by omega
  go_enter Tryd.func38, Tryd.ntmps38
  go_wp2_with fail
  rw [HV0.out]
  refine (CK.out _).mono ?_
  rintro e w1 ⟨rfl, gq⟩
  have r1 := r0.call gq
  have b1 := b0.trans (gq.mono (by have := r0.lt; omega))
  clear r0 b0 gq
  have hge := r1.lt
  obtain ⟨g, hg⟩ : ∃ g, w1.heap.size = g := ⟨_, rfl⟩
  have rg := M.RowAt.new w1 28 #[.int .u8 0, .int .u8 0, .int .u8 0, .int .u8 0, .int .u8 0, .int .u8 0, .int .u8 0, .int .u8 0, .int .u8 0, .int .u8 0, .int .u8 0, .int .u8 0, .int .u8 0, .int .u8 0, .int .u8 0, .int .u8 0, .int .u8 0, .int .u8 0, .int .u8 0, .int .u8 0, .int .u8 0, .int .u8 0, .int .u8 0, .int .u8 0, .int .u8 0, .int .u8 0, .int .u8 0, .int .u8 0, .int .u8 0, .int .u8 0, .int .u8 0, .int .u8 0]
  have bg := b1.alloc (by omega) (.cells #[.int .u8 0, .int .u8 0, .int .u8 0, .int .u8 0, .int .u8 0, .int .u8 0, .int .u8 0, .int .u8 0, .int .u8 0, .int .u8 0, .int .u8 0, .int .u8 0, .int .u8 0, .int .u8 0, .int .u8 0, .int .u8 0, .int .u8 0, .int .u8 0, .int .u8 0, .int .u8 0, .int .u8 0, .int .u8 0, .int .u8 0, .int .u8 0, .int .u8 0, .int .u8 0, .int .u8 0, .int .u8 0, .int .u8 0, .int .u8 0, .int .u8 0, .int .u8 0] 28)
  have rn := r1.alloc (.cells #[.int .u8 0, .int .u8 0, .int .u8 0, .int .u8 0, .int .u8 0, .int .u8 0, .int .u8 0, .int .u8 0, .int .u8 0, .int .u8 0, .int .u8 0, .int .u8 0, .int .u8 0, .int .u8 0, .int .u8 0, .int .u8 0, .int .u8 0, .int .u8 0, .int .u8 0, .int .u8 0, .int .u8 0, .int .u8 0, .int .u8 0, .int .u8 0, .int .u8 0, .int .u8 0, .int .u8 0, .int .u8 0, .int .u8 0, .int .u8 0, .int .u8 0, .int .u8 0] 28)
  obtain ⟨V, hV⟩ : ∃ V, w1.alloc (.cells #[.int .u8 0, .int .u8 0, .int .u8 0, .int .u8 0, .int .u8 0, .int .u8 0, .int .u8 0, .int .u8 0, .int .u8 0, .int .u8 0, .int .u8 0, .int .u8 0, .int .u8 0, .int .u8 0, .int .u8 0, .int .u8 0, .int .u8 0, .int .u8 0, .int .u8 0, .int .u8 0, .int .u8 0, .int .u8 0, .int .u8 0, .int .u8 0, .int .u8 0, .int .u8 0, .int .u8 0, .int .u8 0, .int .u8 0, .int .u8 0, .int .u8 0, .int .u8 0] 28) = V := ⟨_, rfl⟩
  rw [hV] at rg bg rn
  rw [hg] at rg hge
  have rW := rg.setRow S0
  have rn2 := rn.farRow (b := g) (by omega) S0
  have bW := M.below_setRow (g := g) (cs := S0) bg (by omega)
  obtain ⟨U, hU⟩ : ∃ U, V.setRow g S0 = U := ⟨_, rfl⟩
  rw [hU] at rW rn2 bW
  have hc0 := HCV0.out _ _ rW
  have HG := Lib.hid hg; have HV := Lib.hid hV; have HU := Lib.hid hU
  unfold M.RowAt at rg
  clear hg hV hU r1 b1 rn bg rW
  have hUs := rn2.lt
  obtain ⟨kb, hkb⟩ : ∃ kb, U.heap.size = kb := ⟨_, rfl⟩
  clear hkb
  go_wp2_with (first
    | (rw [HG.out, HV.out]; refine wpList_store_row (x := .tmp 6) (y := .tmp 13) (cells := S0) (old := Z32) (t := 28) (ty := 28) (g := g) ?_ ?_ ?_ ?_ rg iS zS oS ?_; rfl; rfl; rfl; rfl; rw [HU.out]))
  refine (C1.out _).mono ?_
  have rn4 := rn2
  have bk2 := bW
  rintro e w2 ⟨rfl, gq⟩
  have rn5 := rn4.call gq
  have b5 := bk2.trans (gq.mono (by have := rn4.lt; omega))
  clear gq rn4 bk2 
  go_wp2_with fail
  refine (D1.out _).mono ?_
  rintro e w3 ⟨rfl, gq⟩
  have rn6 := rn5.call gq
  have b6 := b5.trans (gq.mono (by have := rn5.lt; omega))
  clear gq rn5 b5 
  have hn6 := rn6.lt
  obtain ⟨i, hi⟩ : ∃ i, w3.heap.size = i := ⟨_, rfl⟩
  have ri := M.RowAt.new w3 28 #[.int .u8 0, .int .u8 0, .int .u8 0, .int .u8 0, .int .u8 0, .int .u8 0, .int .u8 0, .int .u8 0, .int .u8 0, .int .u8 0, .int .u8 0, .int .u8 0, .int .u8 0, .int .u8 0, .int .u8 0, .int .u8 0, .int .u8 0, .int .u8 0, .int .u8 0, .int .u8 0, .int .u8 0, .int .u8 0, .int .u8 0, .int .u8 0, .int .u8 0, .int .u8 0, .int .u8 0, .int .u8 0, .int .u8 0, .int .u8 0, .int .u8 0, .int .u8 0]
  have b7 := b6.alloc (by omega) (.cells #[.int .u8 0, .int .u8 0, .int .u8 0, .int .u8 0, .int .u8 0, .int .u8 0, .int .u8 0, .int .u8 0, .int .u8 0, .int .u8 0, .int .u8 0, .int .u8 0, .int .u8 0, .int .u8 0, .int .u8 0, .int .u8 0, .int .u8 0, .int .u8 0, .int .u8 0, .int .u8 0, .int .u8 0, .int .u8 0, .int .u8 0, .int .u8 0, .int .u8 0, .int .u8 0, .int .u8 0, .int .u8 0, .int .u8 0, .int .u8 0, .int .u8 0, .int .u8 0] 28)
  have rn7 := rn6.alloc (.cells #[.int .u8 0, .int .u8 0, .int .u8 0, .int .u8 0, .int .u8 0, .int .u8 0, .int .u8 0, .int .u8 0, .int .u8 0, .int .u8 0, .int .u8 0, .int .u8 0, .int .u8 0, .int .u8 0, .int .u8 0, .int .u8 0, .int .u8 0, .int .u8 0, .int .u8 0, .int .u8 0, .int .u8 0, .int .u8 0, .int .u8 0, .int .u8 0, .int .u8 0, .int .u8 0, .int .u8 0, .int .u8 0, .int .u8 0, .int .u8 0, .int .u8 0, .int .u8 0] 28)
  obtain ⟨VI, hVI⟩ : ∃ VI, w3.alloc (.cells #[.int .u8 0, .int .u8 0, .int .u8 0, .int .u8 0, .int .u8 0, .int .u8 0, .int .u8 0, .int .u8 0, .int .u8 0, .int .u8 0, .int .u8 0, .int .u8 0, .int .u8 0, .int .u8 0, .int .u8 0, .int .u8 0, .int .u8 0, .int .u8 0, .int .u8 0, .int .u8 0, .int .u8 0, .int .u8 0, .int .u8 0, .int .u8 0, .int .u8 0, .int .u8 0, .int .u8 0, .int .u8 0, .int .u8 0, .int .u8 0, .int .u8 0, .int .u8 0] 28) = VI := ⟨_, rfl⟩
  rw [hVI] at ri b7 rn7
  rw [hi] at ri hn6
  have ri2 := ri.setRow (r8 32 I)
  have rn8 := rn7.farRow (b := i) (by omega) (r8 32 I)
  have b8 := M.below_setRow (g := i) (cs := r8 32 I) b7 (by omega)
  obtain ⟨UI, hUI⟩ : ∃ UI, VI.setRow i (r8 32 I) = UI := ⟨_, rfl⟩
  rw [hUI] at ri2 rn8 b8
  have tc : TD n i w Z32 I UI := ⟨rn8, ri2, b8⟩
  have HI := Lib.hid hi; have HVI := Lib.hid hVI; have HUI := Lib.hid hUI
  unfold M.RowAt at ri
  clear hi hVI hUI rn6 b6 b7 rn7 ri2 rn8 b8 
  go_wp2_with (rw [HI.out, HVI.out]; refine wpList_store_row (x := .tmp 7) (y := .tmp 20) (cells := r8 32 I) (old := Z32) (t := 28) (ty := 28) (g := i) ?_ ?_ ?_ ?_ ri iI zI oI ?_; rfl; rfl; rfl; rfl; rw [HUI.out])
  refine QP.wp_region_p 6 (TD n i w Z32 I) (TD n i w (r8 32 F) I) (by kernel_rfl) (by kernel_rfl) tc.drew ?_
  iterate 7
    (refine QP.wpQ_step (fun K hK => ?_)
     go_simp
     first
       | (refine hK _ ?_; clear hK K)
       | (refine ⟨?_, hK _ ?_⟩; decide; clear hK K)
       | ((first | (apply Exists.intro; refine ⟨?_, hK _ ?_⟩) | refine ⟨⟨undef, ?_⟩, hK _ ?_⟩)
          first
            | (apply QP.al_p; decide; (focus (intro wq hq; (first | (have hcv := HCV.out _ _ hq.ri) | skip); first | ((refine QP.oat_store_row (ty := 28) (x := .tmp 4) (y := .tmp 26) (g := n) (cells := r8 32 F) (t := 28) (old := Z32) ?_ ?_ ?_ hq.rn iF zF oF (hq.set (by omega)); rfl; rfl; rfl)) | (unfold QP.oat; go_simp; first | done | exact ⟨by assumption, rfl⟩ | exact rfl | assumption | (first | ((with_reducible refine (C2.out _).mono ?_); rintro e w' ⟨rfl, gq⟩; exact ⟨rfl, hq.same gq⟩) | ((with_reducible refine (D2.out _).mono ?_); rintro e w' ⟨rfl, gq⟩; exact ⟨rfl, hq.same gq⟩))))))
            | (apply QP.al_dep; decide; decide; (focus (intro wq hq; (first | (have hcv := HCV.out _ _ hq.ri) | skip); first | ((refine QP.oat_store_row (ty := 28) (x := .tmp 4) (y := .tmp 26) (g := n) (cells := r8 32 F) (t := 28) (old := Z32) ?_ ?_ ?_ hq.rn iF zF oF (hq.set (by omega)); rfl; rfl; rfl)) | (unfold QP.oat; go_simp; first | done | exact ⟨by assumption, rfl⟩ | exact rfl | assumption | (first | ((with_reducible refine (C2.out _).mono ?_); rintro e w' ⟨rfl, gq⟩; exact ⟨rfl, hq.same gq⟩) | ((with_reducible refine (D2.out _).mono ?_); rintro e w' ⟨rfl, gq⟩; exact ⟨rfl, hq.same gq⟩))))))
            | (apply QP.al_bef; decide; decide; (focus (intro wq hq; (first | (have hcv := HCV.out _ _ hq.ri) | skip); first | ((refine QP.oat_store_row (ty := 28) (x := .tmp 4) (y := .tmp 26) (g := n) (cells := r8 32 F) (t := 28) (old := Z32) ?_ ?_ ?_ hq.rn iF zF oF (hq.set (by omega)); rfl; rfl; rfl)) | (unfold QP.oat; go_simp; first | done | exact ⟨by assumption, rfl⟩ | exact rfl | assumption | (first | ((with_reducible refine (C2.out _).mono ?_); rintro e w' ⟨rfl, gq⟩; exact ⟨rfl, hq.same gq⟩) | ((with_reducible refine (D2.out _).mono ?_); rintro e w' ⟨rfl, gq⟩; exact ⟨rfl, hq.same gq⟩))))))
            | (apply QP.al_ok; decide; (focus (intro wq hq; (first | (have hcv := HCV.out _ _ hq.ri) | skip); first | ((refine QP.oat_store_row (ty := 28) (x := .tmp 4) (y := .tmp 26) (g := n) (cells := r8 32 F) (t := 28) (old := Z32) ?_ ?_ ?_ hq.rn iF zF oF (hq.set (by omega)); rfl; rfl; rfl)) | (unfold QP.oat; go_simp; first | done | exact ⟨by assumption, rfl⟩ | exact rfl | assumption | (first | ((with_reducible refine (C2.out _).mono ?_); rintro e w' ⟨rfl, gq⟩; exact ⟨rfl, hq.same gq⟩) | ((with_reducible refine (D2.out _).mono ?_); rintro e w' ⟨rfl, gq⟩; exact ⟨rfl, hq.same gq⟩))))); (focus (intro wq hq; (first | (have hcv := HCV.out _ _ hq.ri) | skip); first | ((refine QP.oat_store_row (ty := 28) (x := .tmp 4) (y := .tmp 26) (g := n) (cells := r8 32 F) (t := 28) (old := Z32) ?_ ?_ ?_ hq.rn iF zF oF (hq.set (by omega)); rfl; rfl; rfl)) | (unfold QP.oat; go_simp; first | done | exact ⟨by assumption, rfl⟩ | exact rfl | assumption | (first | ((with_reducible refine (C2.out _).mono ?_); rintro e w' ⟨rfl, gq⟩; exact ⟨rfl, hq.same gq⟩) | ((with_reducible refine (D2.out _).mono ?_); rintro e w' ⟨rfl, gq⟩; exact ⟨rfl, hq.same gq⟩))))))
          clear hK K))
  refine QP.wpQ_nil ?_
  intro wz bz
  go_wp2
  have hload := run_loadVar_row (P := Tryd.prog) _ n 28 28 (r8 32 F) (0, 0) _ bz.rn u28 rfl iF
  refine bodyPost_ret (v := .agg (r8 32 F)) (by simp [results, Tryd.results38, asAddr, hload]) rfl ⟨rfl, ?_⟩
  rw [HN.out]
  exact bz.below

theorem tag_any (k s : ByteArray) (w : World) (ht : Tabs w) (hkz : k.size ≤ 1000000) (hs : s.size ≤ 1000000) :
    Calls Tryd.prog 36 #[.string k, .string s] w fun e w' => e = .returned (.agg (r8 32 (mac k s))) ∧ Below w.heap.size w w' := by
  by_cases h : 64 < k.size
  · exact tag_long k s w ht h hkz hs
  · exact tag_short k s w ht (by omega) hkz hs
theorem rtag_any (k s : ByteArray) (w : World) (hkz : k.size ≤ 1000000) (hs : s.size ≤ 1000000) :
    Calls Tryd.prog 38 #[.string k, .string s] w fun e w' => e = .returned (.agg (r8 32 (mac k s))) ∧ Below w.heap.size w w' := by
  by_cases h : 64 < k.size
  · exact rtag_long k s w h hkz hs
  · exact rtag_short k s w (by omega) hkz hs
end Go.Proofs.YtpfcalamchdciaaDoor
