/- Decode, whole; the condition is the bound of the document. -/
import Derived.Test.YtiilgkhndfnkgaaWiT
namespace Go.Proofs.Ytiilgkhndfnkgaa
open Go.RowKit Go.Shelf
set_option linter.unusedVariables false

/-- what Decode leaves -/
def Deced (s : ByteArray) (w : World) (e : Ending) (w' : World) : Prop :=
  ((∃ m, DecOk s m ∧ m.ok ∧ e = .returned (.tuple #[.agg m.row, .int .i64 0])) ∨ (∃ ev, (ev == 0) = false ∧ DecBad s ev ∧ e = .returned (.tuple #[.agg (Msg.none 0).row, .int .i64 ev]))) ∧ Below w.heap.size w w'
set_option maxRecDepth 100000 in
set_option maxHeartbeats 4000000 in
theorem dec_any (s : ByteArray) (hs : s.size ≤ 100000) (w : World) : Calls Try.prog 38 #[.string s] w (Deced s w) := by
  obtain ⟨n, hn⟩ : ∃ n, w.heap.size = n := ⟨_, rfl⟩
  obtain ⟨w1, hw1⟩ : ∃ w1, w.alloc (.cells (Msg.none 0).row 62) = w1 := ⟨_, rfl⟩
  have s1 : w1.heap.size = n + 1 := by rw [← hw1]; simp [hn]
  obtain ⟨w2, hw2⟩ : ∃ w2, w1.alloc (.cells (Msg.none 0).row 62) = w2 := ⟨_, rfl⟩
  have s2 : w2.heap.size = n + 2 := by rw [← hw2]; simp [s1]
  obtain ⟨w3, hw3⟩ : ∃ w3, w2.alloc (.cells #[.slice none 0 0] 82) = w3 := ⟨_, rfl⟩
  have s3 : w3.heap.size = n + 3 := by rw [← hw3]; simp [s2]
  obtain ⟨w4, hw4⟩ : ∃ w4, w3.alloc (.cells #[.string s] 77) = w4 := ⟨_, rfl⟩
  have s4 : w4.heap.size = n + 4 := by rw [← hw4]; simp [s3]
  obtain ⟨w5, hw5⟩ : ∃ w5, w4.alloc (.cells #[.pointer (some ⟨n + 3, 0, none⟩)] 43) = w5 := ⟨_, rfl⟩
  have s5 : w5.heap.size = n + 5 := by rw [← hw5]; simp [s4]
  obtain ⟨w6, hw6⟩ : ∃ w6, w5.alloc (.cells #[.func (.func 50) #[] #[.pointer (some ⟨n + 4, 0, none⟩), .pointer (some ⟨n + 1, 0, none⟩)], .func (.func 51) #[] #[.pointer (some ⟨n + 1, 0, none⟩), .pointer (some ⟨n + 2, 0, none⟩)], .func (.func 52) #[] #[.pointer (some ⟨n + 4, 0, none⟩), .pointer (some ⟨n + 2, 0, none⟩), .pointer (some ⟨n + 1, 0, none⟩)], .func (.func 53) #[] #[.pointer (some ⟨n + 4, 0, none⟩)], .func (.func 54) #[] #[.pointer (some ⟨n + 1, 0, none⟩)]] 1) = w6 := ⟨_, rfl⟩
  have b6 : Below n w w6 := by
    rw [← hw6, ← hw5, ← hw4, ← hw3, ← hw2, ← hw1, ← hn]
    exact ((((((Below.refl _ w).alloc (Nat.le_refl _) _).alloc (by simp) _).alloc (by simp; omega) _).alloc (by simp; omega) _).alloc (by simp; omega) _).alloc (by simp; omega) _
  have q1 : M.RowAt w1 n 62 (Msg.none 0).row := by rw [← hw1, ← hn]; exact M.RowAt.new w 62 _
  have q2 : M.RowAt w2 (n + 1) 62 (Msg.none 0).row := by rw [← hw2, ← s1]; exact M.RowAt.new w1 62 _
  have q3 : M.RowAt w3 (n + 2) 82 #[.slice none 0 0] := by rw [← hw3, ← s2]; exact M.RowAt.new w2 82 _
  have q4 : M.RowAt w4 (n + 3) 77 #[.string s] := by rw [← hw4, ← s3]; exact M.RowAt.new w3 77 _
  have q5 : M.RowAt w5 (n + 4) 43 #[.pointer (some ⟨n + 3, 0, none⟩)] := by rw [← hw5, ← s4]; exact M.RowAt.new w4 43 _
  have t2 : ∀ {k : Nat} {t : TypeId} {C : Array Value}, M.RowAt w1 k t C → M.RowAt w2 k t C := fun h => by rw [← hw2]; exact h.alloc _
  have t3 : ∀ {k : Nat} {t : TypeId} {C : Array Value}, M.RowAt w2 k t C → M.RowAt w3 k t C := fun h => by rw [← hw3]; exact h.alloc _
  have t4 : ∀ {k : Nat} {t : TypeId} {C : Array Value}, M.RowAt w3 k t C → M.RowAt w4 k t C := fun h => by rw [← hw4]; exact h.alloc _
  have t5 : ∀ {k : Nat} {t : TypeId} {C : Array Value}, M.RowAt w4 k t C → M.RowAt w5 k t C := fun h => by rw [← hw5]; exact h.alloc _
  have t6 : ∀ {k : Nat} {t : TypeId} {C : Array Value}, M.RowAt w5 k t C → M.RowAt w6 k t C := fun h => by rw [← hw6]; exact h.alloc _
  have db : DB w n (Msg.none 0).row (.slice none 0 0) s w6 := ⟨t6 (t5 (t4 (t3 (t2 q1)))), t6 (t5 (t4 (t3 q2))), t6 (t5 (t4 q3)), t6 (t5 q4), t6 q5, by rw [← hw6, ← s5]; exact M.RowAt.new w5 1 _, b6⟩
  have T := Lib.hid (dec_try hs db)
  have nw := new_any s w3
  rw [s3, hw4] at nw
  have NW := Lib.hid nw
  have iZ := Msg.info (m := Msg.none 0) rfl
  have oZ := Msg.one (m := Msg.none 0)
  have zrow := none_row 0
  rw [zrow] at hw1 hw2
  have HN := Lib.hid hn; have HW1 := Lib.hid hw1; have HW2 := Lib.hid hw2; have HW3 := Lib.hid hw3; have HW5 := Lib.hid hw5; have HW6 := Lib.hid hw6
  have S1 := Lib.hid s1; have S2 := Lib.hid s2; have S4 := Lib.hid s4; have S5 := Lib.hid s5
  have hmf := mkf
  unfold Deced
  rw [hn]
  clear nw t2 t3 t4 t5 t6 q1 q2 q3 q4 q5 db b6 hn hw1 hw2 hw3 hw4 hw5 hw6 s1 s2 s3 s4 s5 hs
  have ZR := Lib.hid zrow
  clear zrow
  obtain ⟨Z, hZ⟩ : ∃ Z, (Msg.none 0).row = Z := ⟨_, rfl⟩
  rw [hZ] at iZ oZ ZR ⊢
  have HZZ := Lib.hid hZ
  clear hZ
  go_enter Try.func38, Try.ntmps38
  go_wp2_with (first | (rw [HN.out, HW1.out]) | (rw [S1.out, HW2.out]) | (rw [S2.out, HW3.out]) | ((with_reducible refine (NW.out).mono ?_); rintro e x ⟨rfl, rfl⟩) | (rw [S4.out, HW5.out]) | (rw [S5.out, HW6.out]) | fail)
  refine (T.out).mono ?_
  rintro e w7 (⟨rfl, m, v, r, h1, h2, h3⟩ | ⟨ev, rfl, hz, h1, h2⟩)
  · have r0 := h3.r0
    rw [HZZ.out] at r0
    have rb := h3.rb
    have iX := Msg.info h2.h32
    have oX := Msg.one (m := m)
    have zX : Z.size = m.row.size := by rw [Msg.size h2.h32, ZR.out]; rfl
    have H1 := Lib.hid h1; have H2 := Lib.hid h2; have H3 := Lib.hid h3
    have r1 := r0.setRow m.row
    have b1 : Below n w (w7.setRow n m.row) := (M.But.refl n w7).setRow (.inl rfl) m.row |>.below h3.bel (Nat.le_refl _) (by have := h3.rg.lt; omega)
    clear h1 h2 h3
    obtain ⟨R, hR⟩ : ∃ R, m.row = R := ⟨_, rfl⟩
    rw [hR] at rb iX oX zX r1 b1
    have HR := Lib.hid hR
    clear hR
    go_wp2_with (first | (refine wpList_load_row (x := .tmp 4) (ty := 62) (g := n + 1) (cs := R) (t := 62) (fr := (0, 0)) ?_ ?_ ?_ _ rb Try.underlying62 rfl iX ?_; rfl; rfl; rfl) | (refine wpList_store_row (x := .tmp 2) (y := .tmp 21) (cells := R) (old := Z) (t := 62) (ty := 62) (g := n) ?_ ?_ ?_ ?_ r0 iX zX oX ?_; rfl; rfl; rfl; rfl) | fail)
    have hload := run_loadVar_row (P := Try.prog) _ n 62 62 R (0, 0) _ r1 Try.underlying62 rfl iX
    exact bodyPost_ret (v := .tuple #[.agg R, .int .i64 0]) (by simp [results, Try.results38, asAddr, hload]) rfl ⟨.inl ⟨m, H1.out, H2.out, by rw [HR.out]⟩, b1⟩
  · have r0 := h2.1
    rw [HZZ.out] at r0
    have r1 := r0.setRow Z
    have b1 : Below n w (w7.setRow n Z) := (M.But.refl n w7).setRow (.inl rfl) Z |>.below h2.2 (Nat.le_refl _) (by have := r0.lt; omega)
    have H1 := Lib.hid h1; have HZ := Lib.hid hz
    have hz' : (ev != 0) = true := by simpa using hz
    clear h1 h2
    go_wp2_with (first | (refine wpList_store_row (x := .tmp 2) (y := .tmp 19) (cells := Z) (old := Z) (t := 62) (ty := 62) (g := n) ?_ ?_ ?_ ?_ r0 iZ rfl oZ ?_; rfl; rfl; rfl; (rw [ZR.out]; rfl)) | fail)
    have hload := run_loadVar_row (P := Try.prog) _ n 62 62 Z (0, 0) _ r1 Try.underlying62 rfl iZ
    exact bodyPost_ret (v := .tuple #[.agg Z, .int .i64 ev]) (by simp [results, Try.results38, asAddr, hload]) rfl ⟨.inr ⟨ev, HZ.out, H1.out, rfl⟩, b1⟩
end Go.Proofs.Ytiilgkhndfnkgaa
