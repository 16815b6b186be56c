/- Encode: the bytes of a message, or its error; the conditions are the types' own. -/
import Derived.Test.YtiilgkhndfnkgaaWiO
namespace Go.Proofs.Ytiilgkhndfnkgaa
open Go.RowKit Go.Shelf
set_option linter.unusedVariables false

theorem may_kind {m : Msg} {fl : List Fld} (h : fieldsOf m.kind = some fl) : 1 ≤ m.kind ∧ m.kind ≤ 9 := by
  by_cases hk : 1 ≤ m.kind ∧ m.kind ≤ 9
  · exact hk
  · unfold fieldsOf at h
    rw [if_neg (by omega), if_neg (by omega), if_neg (by omega), if_neg (by omega), if_neg (by omega), if_neg (by omega), if_neg (by omega), if_neg (by omega), if_neg (by omega)] at h
    cases h
/-- the bytes of a message -/
def encB (m : Msg) (fl : List Fld) : ByteArray := cat m (kindB m) fl
set_option maxRecDepth 100000 in
set_option maxHeartbeats 4000000 in
theorem enc_yes (m : Msg) (ho : m.ok) (fl : List Fld) (hf : fieldsOf m.kind = some fl) (hm : MayP m fl) (w : World) :
    Calls Try.prog 33 #[.agg m.row] w fun e w' => e = .returned (.tuple #[.string (encB m fl), .int .i64 0]) ∧ Below w.heap.size w w' := by
  obtain ⟨n, hn⟩ : ∃ n, w.heap.size = n := ⟨_, rfl⟩
  obtain ⟨V, hV⟩ : ∃ V, w.alloc (.cells m.row 62) = V := ⟨_, rfl⟩
  have rV : M.RowAt V n 62 m.row := by rw [← hV, ← hn]; exact M.RowAt.new w 62 _
  have bV : Below n w V := by rw [← hV, ← hn]; exact (Below.refl _ w).alloc (Nat.le_refl _) _
  have sV : V.heap.size = n + 1 := by rw [← hV]; simp [hn]
  have may := may_any m ho true ⟨fun _ => ⟨fl, hf, hm⟩, fun _ => rfl⟩ V
  have fa := fun x => fields_any m.kind x
  rw [hf] at fa
  simp only at fa
  have cell := fun (W : World) (hr : M.RowAt W n 62 m.row) => (hr.cell 0).trans Msg.g0
  have iX := Msg.info ho.h32
  have et := fun (w2 W : World) (l lo : Nat) (v : Value) => enc_try (w := w) (w2 := w2) (W := W) (n := n) (l := l) (lo := lo) (v := v) ho ⟨hm.e0, hm.e1, hm.n0, hm.n1⟩ (may_kind hf) fl (fields_len hf)
  have HN := Lib.hid hn; have HV := Lib.hid hV; have CELL := Lib.hid cell; have RV := Lib.hid rV; have BV := Lib.hid bV
  have SV := Lib.hid sV; have MAY := Lib.hid may; have FA := Lib.hid fa; have ET := Lib.hid et
  rw [hn]
  clear may fa cell bV sV hV hn hm hf ho et
  have hmf := mkf
  generalize m.row = R at *
  generalize m.kind = kd at *
  go_enter Try.func33, Try.ntmps33
  go_wp2_with (first | (rw [HN.out, HV.out]) | (refine wpList_load_row (x := .tmp 1) (ty := 62) (g := n) (cs := R) (t := 62) (fr := (0, 0)) ?_ ?_ ?_ _ rV Try.underlying62 rfl iX ?_; rfl; rfl; rfl) | fail)
  refine (MAY.out).mono ?_
  rintro e w1 ⟨rfl, b1⟩
  have r1 := RV.out.call b1
  have c1 := CELL.out w1 r1
  have B1 := Lib.hid (BV.out.trans (b1.mono (by have := SV.out; omega)))
  have Z1 := Lib.hid (show n + 1 ≤ w1.heap.size by have := SV.out; have := b1.size; omega)
  have R1 := Lib.hid r1
  clear b1 r1 rV
  go_wp2_with fail
  refine (FA.out w1).mono ?_
  rintro e w2 ⟨v, rfl, fl2, b2⟩
  obtain ⟨l, hl⟩ : ∃ l, w2.heap.size = l := ⟨_, rfl⟩
  have hnl : n < l := by have := Z1.out; have := b2.size; omega
  have r2 := R1.out.call b2
  have B2 := B1.out.trans (b2.mono (by have := Z1.out; omega))
  have hlo2 := b2.size
  obtain ⟨A1, L1, C1, rfl⟩ : ∃ A L C, v = .slice A L C := by obtain ⟨g, cap, C, hv, _⟩ := fl2; exact ⟨_, _, _, hv⟩
  obtain ⟨w3, hw3⟩ : ∃ w3, w2.alloc (.cells #[.slice A1 L1 C1] 82) = w3 := ⟨_, rfl⟩
  have s3 : w3.heap.size = l + 1 := by rw [← hw3]; simp [hl]
  obtain ⟨w4, hw4⟩ : ∃ w4, w3.alloc (.cells #[.string ⟨#[]⟩] 25) = w4 := ⟨_, rfl⟩
  have s4 : w4.heap.size = l + 2 := by rw [← hw4]; simp [s3]
  obtain ⟨w5, hw5⟩ : ∃ w5, w4.alloc (.cells #[.pointer (some ⟨l + 1, 0, none⟩)] 23) = w5 := ⟨_, rfl⟩
  have s5 : w5.heap.size = l + 3 := by rw [← hw5]; simp [s4]
  obtain ⟨w6, hw6⟩ : ∃ w6, w5.alloc (.cells #[.func (.func 45) #[] #[.pointer (some ⟨l + 2, 0, none⟩), .pointer (some ⟨n, 0, none⟩)], .func (.func 47) #[] #[.pointer (some ⟨l + 2, 0, none⟩), .pointer (some ⟨l, 0, none⟩), .pointer (some ⟨n, 0, none⟩)]] 1) = w6 := ⟨_, rfl⟩
  have b6 : Below w2.heap.size w2 w6 := by
    rw [← hw6, ← hw5, ← hw4, ← hw3]
    exact ((((Below.refl _ w2).alloc (Nat.le_refl _) _).alloc (by simp) _).alloc (by simp; omega) _).alloc (by simp; omega) _
  have rl6 : M.RowAt w6 l 82 #[.slice A1 L1 C1] := by
    rw [← hw6, ← hw5, ← hw4]
    exact ((by rw [← hw3, ← hl]; exact M.RowAt.new w2 82 _ : M.RowAt w3 l 82 _).alloc _ |>.alloc _).alloc _
  have rp6 : M.RowAt w6 (l + 1) 25 #[.string ⟨#[]⟩] := by
    rw [← hw6, ← hw5]
    exact ((by rw [← hw4, ← s3]; exact M.RowAt.new w3 25 _ : M.RowAt w4 (l + 1) 25 _).alloc _).alloc _
  have rw6 : M.RowAt w6 (l + 2) 23 #[.pointer (some ⟨l + 1, 0, none⟩)] := by
    rw [← hw6]
    exact (by rw [← hw5, ← s4]; exact M.RowAt.new w4 23 _ : M.RowAt w5 (l + 2) 23 _).alloc _
  have rg6 : M.RowAt w6 (l + 3) 1 #[.func (.func 45) #[] #[.pointer (some ⟨l + 2, 0, none⟩), .pointer (some ⟨n, 0, none⟩)], .func (.func 47) #[] #[.pointer (some ⟨l + 2, 0, none⟩), .pointer (some ⟨l, 0, none⟩), .pointer (some ⟨n, 0, none⟩)]] := by
    rw [← hw6, ← s5]; exact M.RowAt.new w5 1 _
  have eb : EB w w2 n l R (.slice A1 L1 C1) ⟨#[]⟩ w6 := ⟨r2.call b6, rl6, rp6, rw6, rg6, fun g t C _ hr => hr.call b6, B2.trans (b6.mono (by omega)), hnl, hl⟩
  have T6 := Lib.hid (ET.out w2 w6 l w1.heap.size _ fl2 hlo2 eb)
  have HL := Lib.hid hl; have HW3 := Lib.hid hw3; have HW4 := Lib.hid hw4; have HW5 := Lib.hid hw5; have HW6 := Lib.hid hw6
  have S3 := Lib.hid s3; have S4 := Lib.hid s4; have S5 := Lib.hid s5
  clear hl hw3 hw4 hw5 hw6 s3 s4 s5 eb rl6 rp6 rw6 rg6 b6 B2 r2 b2 fl2 hlo2 hnl
  go_wp2_with (first | (rw [HL.out, HW3.out]) | (rw [S3.out, HW4.out]) | (rw [S4.out, HW5.out]) | (rw [S5.out, HW6.out]) | fail)
  refine (T6.out).mono ?_
  rintro e w7 ⟨rfl, eb7⟩
  have c7 := (eb7.rw.cell 0).trans rfl
  have BY := Lib.hid (wbytes_any _ _ w7 (row_at eb7.rp))
  have B7 := Lib.hid eb7.bel
  clear eb7
  go_wp2_with fail
  refine (BY.out).mono ?_
  rintro e w8 ⟨rfl, rfl⟩
  go_wp2
  go_ret2
  exact ⟨rfl, B7.out⟩
set_option maxRecDepth 100000 in
set_option maxHeartbeats 4000000 in
theorem enc_no (m : Msg) (ho : m.ok) (hm : ¬ May m) (w : World) :
    Calls Try.prog 33 #[.agg m.row] w fun e w' => e = .returned (.tuple #[.string ⟨#[]⟩, .int .i64 1]) ∧ Below w.heap.size w w' := by
  obtain ⟨n, hn⟩ : ∃ n, w.heap.size = n := ⟨_, rfl⟩
  obtain ⟨V, hV⟩ : ∃ V, w.alloc (.cells m.row 62) = V := ⟨_, rfl⟩
  have rV : M.RowAt V n 62 m.row := by rw [← hV, ← hn]; exact M.RowAt.new w 62 _
  have bV : Below n w V := by rw [← hV, ← hn]; exact (Below.refl _ w).alloc (Nat.le_refl _) _
  have sV : V.heap.size = n + 1 := by rw [← hV]; simp [hn]
  have may := may_any m ho false (Iff.intro (fun h => Bool.noConfusion h) (fun h => absurd h hm)) V
  have iX := Msg.info ho.h32
  have HN := Lib.hid hn; have HV := Lib.hid hV; have BV := Lib.hid bV; have SV := Lib.hid sV; have MAY := Lib.hid may
  rw [hn]
  clear may bV sV hV hn hm ho
  generalize m.row = R at *
  go_enter Try.func33, Try.ntmps33
  go_wp2_with (first | (rw [HN.out, HV.out]) | (refine wpList_load_row (x := .tmp 1) (ty := 62) (g := n) (cs := R) (t := 62) (fr := (0, 0)) ?_ ?_ ?_ _ rV Try.underlying62 rfl iX ?_; rfl; rfl; rfl) | fail)
  refine (MAY.out).mono ?_
  rintro e w1 ⟨rfl, b1⟩
  have B1 := Lib.hid (BV.out.trans (b1.mono (by have := SV.out; omega)))
  clear b1 rV
  go_wp2
  go_ret2
  exact ⟨rfl, B1.out⟩
end Go.Proofs.Ytiilgkhndfnkgaa
