/- What a field's function does without a writer and a reader: it sets its field to 0; what a pass through a list of fields does; the conditions are that the blocks are known. -/
import Derived.Test.YtiilgkhndfnkgaaWiC
import Derived.Deep.LoopGhost
namespace Go.Proofs.Ytiilgkhndfnkgaa
open Go.RowKit
set_option linter.unusedVariables false

/-- what a field's function leaves -/
def Did (b : Nat) (R : Array Value) (W : World) (e : Ending) (W' : World) : Prop := e = .returned (.tuple #[]) ∧ M.RowAt W' b 62 R ∧ M.But b W W'
set_option maxRecDepth 100000 in
theorem z_id (m : Msg) (h32 : m.hash.length = 32) (a c b : Nat) (W : World) (ra : M.RowAt W a 97 #[.func (.func 58) #[] #[]]) (rb : M.RowAt W b 62 m.row) :
    Calls Try.prog 66 #[.agg #[.pointer none, .pointer none], .pointer (some ⟨b, 0, none⟩), .pointer (some ⟨a, 0, none⟩), .pointer (some ⟨c, 0, none⟩)] W (Did b (m.zero .id).row W) := by
  obtain ⟨q, hq⟩ : ∃ q, W.heap.size = q := ⟨_, rfl⟩
  obtain ⟨V, hV⟩ : ∃ V, W.alloc (.cells #[.pointer none, .pointer none] 88) = V := ⟨_, rfl⟩
  have rn : M.RowAt V q 88 #[.pointer none, .pointer none] := by rw [← hV, ← hq]; exact M.RowAt.new W 88 _
  have ra' : M.RowAt V a 97 #[.func (.func 58) #[] #[]] := by rw [← hV]; exact ra.alloc _
  have rb' : M.RowAt V b 62 m.row := by rw [← hV]; exact rb.alloc _
  have bV : M.But b W V := by rw [← hV]; exact (M.But.refl _ _).alloc _
  have c0 := (ra'.cell 0).trans rfl
  have n0 := (rn.cell 0).trans rfl; have n1 := (rn.cell 1).trans rfl
  have m0 := (rb'.cell 2).trans (Msg.g2)
  have f0 := rb'.frozen 2
  have fin : Did b (m.zero .id).row W (.returned (.tuple #[])) (V.setCell ⟨b, 2, none⟩ (.int .u64 0)) := ⟨rfl, by
    have := rb'.set 2 (.int .u64 0)
    rw [Msg.s2 0] at this; exact this, bV.set (p := ⟨b, 2, none⟩) (.inl rfl) _⟩
  have FIN := Lib.hid fin; have HQ := Lib.hid hq; have HV := Lib.hid hV
  clear fin hq hV rn ra' rb' bV ra rb
  go_enter Try.func66, Try.ntmps66
  go_wp2_with (first | (rw [HQ.out, HV.out]) | go_in)
  go_end0
  exact FIN.out
set_option maxRecDepth 100000 in
theorem z_amount (m : Msg) (h32 : m.hash.length = 32) (a c b : Nat) (W : World) (ra : M.RowAt W a 97 #[.func (.func 59) #[] #[]]) (rb : M.RowAt W b 62 m.row) :
    Calls Try.prog 66 #[.agg #[.pointer none, .pointer none], .pointer (some ⟨b, 0, none⟩), .pointer (some ⟨a, 0, none⟩), .pointer (some ⟨c, 0, none⟩)] W (Did b (m.zero .amount).row W) := by
  obtain ⟨q, hq⟩ : ∃ q, W.heap.size = q := ⟨_, rfl⟩
  obtain ⟨V, hV⟩ : ∃ V, W.alloc (.cells #[.pointer none, .pointer none] 88) = V := ⟨_, rfl⟩
  have rn : M.RowAt V q 88 #[.pointer none, .pointer none] := by rw [← hV, ← hq]; exact M.RowAt.new W 88 _
  have ra' : M.RowAt V a 97 #[.func (.func 59) #[] #[]] := by rw [← hV]; exact ra.alloc _
  have rb' : M.RowAt V b 62 m.row := by rw [← hV]; exact rb.alloc _
  have bV : M.But b W V := by rw [← hV]; exact (M.But.refl _ _).alloc _
  have c0 := (ra'.cell 0).trans rfl
  have n0 := (rn.cell 0).trans rfl; have n1 := (rn.cell 1).trans rfl
  have m0 := (rb'.cell 3).trans (Msg.g3)
  have f0 := rb'.frozen 3
  have fin : Did b (m.zero .amount).row W (.returned (.tuple #[])) (V.setCell ⟨b, 3, none⟩ (.int .u64 0)) := ⟨rfl, by
    have := rb'.set 3 (.int .u64 0)
    rw [Msg.s3 0] at this; exact this, bV.set (p := ⟨b, 3, none⟩) (.inl rfl) _⟩
  have FIN := Lib.hid fin; have HQ := Lib.hid hq; have HV := Lib.hid hV
  clear fin hq hV rn ra' rb' bV ra rb
  go_enter Try.func66, Try.ntmps66
  go_wp2_with (first | (rw [HQ.out, HV.out]) | go_in)
  go_end0
  exact FIN.out
set_option maxRecDepth 100000 in
theorem z_expiry (m : Msg) (h32 : m.hash.length = 32) (a c b : Nat) (W : World) (ra : M.RowAt W a 100 #[.func (.func 61) #[] #[]]) (rb : M.RowAt W b 62 m.row) :
    Calls Try.prog 67 #[.agg #[.pointer none, .pointer none], .pointer (some ⟨b, 0, none⟩), .pointer (some ⟨a, 0, none⟩), .pointer (some ⟨c, 0, none⟩)] W (Did b (m.zero .expiry).row W) := by
  obtain ⟨q, hq⟩ : ∃ q, W.heap.size = q := ⟨_, rfl⟩
  obtain ⟨V, hV⟩ : ∃ V, W.alloc (.cells #[.pointer none, .pointer none] 88) = V := ⟨_, rfl⟩
  have rn : M.RowAt V q 88 #[.pointer none, .pointer none] := by rw [← hV, ← hq]; exact M.RowAt.new W 88 _
  have ra' : M.RowAt V a 100 #[.func (.func 61) #[] #[]] := by rw [← hV]; exact ra.alloc _
  have rb' : M.RowAt V b 62 m.row := by rw [← hV]; exact rb.alloc _
  have bV : M.But b W V := by rw [← hV]; exact (M.But.refl _ _).alloc _
  have c0 := (ra'.cell 0).trans rfl
  have n0 := (rn.cell 0).trans rfl; have n1 := (rn.cell 1).trans rfl
  have m0 := (rb'.cell 36).trans (Msg.g36 h32)
  have f0 := rb'.frozen 36
  have fin : Did b (m.zero .expiry).row W (.returned (.tuple #[])) (V.setCell ⟨b, 36, none⟩ (.int .i64 0)) := ⟨rfl, by
    have := rb'.set 36 (.int .i64 0)
    rw [Msg.s36 h32 0] at this; exact this, bV.set (p := ⟨b, 36, none⟩) (.inl rfl) _⟩
  have FIN := Lib.hid fin; have HQ := Lib.hid hq; have HV := Lib.hid hV
  clear fin hq hV rn ra' rb' bV ra rb
  go_enter Try.func67, Try.ntmps67
  go_wp2_with (first | (rw [HQ.out, HV.out]) | go_in)
  go_end0
  exact FIN.out
set_option maxRecDepth 100000 in
theorem z_number (m : Msg) (h32 : m.hash.length = 32) (a c b : Nat) (W : World) (ra : M.RowAt W a 100 #[.func (.func 62) #[] #[]]) (rb : M.RowAt W b 62 m.row) :
    Calls Try.prog 67 #[.agg #[.pointer none, .pointer none], .pointer (some ⟨b, 0, none⟩), .pointer (some ⟨a, 0, none⟩), .pointer (some ⟨c, 0, none⟩)] W (Did b (m.zero .number).row W) := by
  obtain ⟨q, hq⟩ : ∃ q, W.heap.size = q := ⟨_, rfl⟩
  obtain ⟨V, hV⟩ : ∃ V, W.alloc (.cells #[.pointer none, .pointer none] 88) = V := ⟨_, rfl⟩
  have rn : M.RowAt V q 88 #[.pointer none, .pointer none] := by rw [← hV, ← hq]; exact M.RowAt.new W 88 _
  have ra' : M.RowAt V a 100 #[.func (.func 62) #[] #[]] := by rw [← hV]; exact ra.alloc _
  have rb' : M.RowAt V b 62 m.row := by rw [← hV]; exact rb.alloc _
  have bV : M.But b W V := by rw [← hV]; exact (M.But.refl _ _).alloc _
  have c0 := (ra'.cell 0).trans rfl
  have n0 := (rn.cell 0).trans rfl; have n1 := (rn.cell 1).trans rfl
  have m0 := (rb'.cell 37).trans (Msg.g37 h32)
  have f0 := rb'.frozen 37
  have fin : Did b (m.zero .number).row W (.returned (.tuple #[])) (V.setCell ⟨b, 37, none⟩ (.int .i64 0)) := ⟨rfl, by
    have := rb'.set 37 (.int .i64 0)
    rw [Msg.s37 h32 0] at this; exact this, bV.set (p := ⟨b, 37, none⟩) (.inl rfl) _⟩
  have FIN := Lib.hid fin; have HQ := Lib.hid hq; have HV := Lib.hid hV
  clear fin hq hV rn ra' rb' bV ra rb
  go_enter Try.func67, Try.ntmps67
  go_wp2_with (first | (rw [HQ.out, HV.out]) | go_in)
  go_end0
  exact FIN.out
set_option maxRecDepth 100000 in
theorem z_chan (m : Msg) (h32 : m.hash.length = 32) (a c b : Nat) (W : World) (ra : M.RowAt W a 108 #[.func (.func 69) #[] #[]]) (rb : M.RowAt W b 62 m.row) :
    Calls Try.prog 70 #[.agg #[.pointer none, .pointer none], .pointer (some ⟨b, 0, none⟩), .pointer (some ⟨a, 0, none⟩), .pointer (some ⟨c, 0, none⟩)] W (Did b (m.zero .chan).row W) := by
  obtain ⟨q, hq⟩ : ∃ q, W.heap.size = q := ⟨_, rfl⟩
  obtain ⟨V, hV⟩ : ∃ V, W.alloc (.cells #[.pointer none, .pointer none] 88) = V := ⟨_, rfl⟩
  have rn : M.RowAt V q 88 #[.pointer none, .pointer none] := by rw [← hV, ← hq]; exact M.RowAt.new W 88 _
  have ra' : M.RowAt V a 108 #[.func (.func 69) #[] #[]] := by rw [← hV]; exact ra.alloc _
  have rb' : M.RowAt V b 62 m.row := by rw [← hV]; exact rb.alloc _
  have bV : M.But b W V := by rw [← hV]; exact (M.But.refl _ _).alloc _
  have c0 := (ra'.cell 0).trans rfl
  have n0 := (rn.cell 0).trans rfl; have n1 := (rn.cell 1).trans rfl
  have m0 := (rb'.cell 1).trans (Msg.g1)
  have f0 := rb'.frozen 1
  have fin : Did b (m.zero .chan).row W (.returned (.tuple #[])) (V.setCell ⟨b, 1, none⟩ (.int .u32 0)) := ⟨rfl, by
    have := rb'.set 1 (.int .u32 0)
    rw [Msg.s1 0] at this; exact this, bV.set (p := ⟨b, 1, none⟩) (.inl rfl) _⟩
  have FIN := Lib.hid fin; have HQ := Lib.hid hq; have HV := Lib.hid hV
  clear fin hq hV rn ra' rb' bV ra rb
  go_enter Try.func70, Try.ntmps70
  go_wp2_with (first | (rw [HQ.out, HV.out]) | go_in)
  go_end0
  exact FIN.out
theorem zz32 : (ints z32).toArray = Z32 := by rfl
theorem z32_info : (Try.prog.info? 33).map (·.size) = some Z32.size := by kernel_rfl
theorem z32_one : Z32.all (·.oneCell') = true := by kernel_rfl
set_option maxRecDepth 100000 in
theorem z_hash (m : Msg) (h32 : m.hash.length = 32) (b : Nat) (W : World) (rb : M.RowAt W b 62 m.row) :
    Calls Try.prog 64 #[.agg #[.pointer none, .pointer none], .pointer (some ⟨b, 0, none⟩)] W (Did b (m.zero .hash).row W) := by
  obtain ⟨q, hq⟩ : ∃ q, W.heap.size = q := ⟨_, rfl⟩
  obtain ⟨V, hV⟩ : ∃ V, W.alloc (.cells #[.pointer none, .pointer none] 88) = V := ⟨_, rfl⟩
  have rn : M.RowAt V q 88 #[.pointer none, .pointer none] := by rw [← hV, ← hq]; exact M.RowAt.new W 88 _
  have rb' : M.RowAt V b 62 m.row := by rw [← hV]; exact rb.alloc _
  have bV : M.But b W V := by rw [← hV]; exact (M.But.refl _ _).alloc _
  have n0 := (rn.cell 0).trans rfl; have n1 := (rn.cell 1).trans rfl
  have th : V.there b 4 Z32.size := Msg.there rb' h32
  have fin : Did b (m.zero .hash).row W (.returned (.tuple #[])) (V.setCells b 4 Z32.toList) := ⟨rfl, by
    have := row_setCells Z32.toList m.row 4 V rb'
    rw [← zz32] at this ⊢
    simp only at this ⊢
    rw [Msg.sh h32 (l := z32) rfl] at this; exact this, but_setCells _ _ _ bV⟩
  have FIN := Lib.hid fin; have HQ := Lib.hid hq; have HV := Lib.hid hV; have TH := Lib.hid th
  have zi := z32_info; have zo := z32_one
  clear fin hq hV rn rb' bV rb th
  go_enter Try.func64, Try.ntmps64
  go_wp2_with (first | (rw [HQ.out, HV.out]) | (refine wpList_store_mid (x := .tmp 9) (y := .tmp 7) (b := b) (o := 4) (cells := Z32) (ty := 33) ?_ ?_ ?_ ?_ TH.out zi zo ?_; rfl; rfl; rfl; rfl) | fail)
  go_end0
  exact FIN.out
end Go.Proofs.Ytiilgkhndfnkgaa
