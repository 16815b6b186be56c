/- Two messages are equal in the program if they are the same; no conditions but the types' own. -/
import Derived.Test.YtiilgkhndfnkgaaWiE
import Derived.DeepKeys
namespace Go.Proofs.Ytiilgkhndfnkgaa
open Go.RowKit
set_option linter.unusedVariables false

theorem mapM_some' {α β : Type} {f : α → Option β} {g : α → β} : ∀ {l : List α}, (∀ x ∈ l, f x = some (g x)) → l.mapM f = some (l.map g)
  | [], _ => rfl
  | x :: r, h => by
    rw [List.mapM_cons, h x (by simp), mapM_some' (fun y hy => h y (by simp [hy]))]
    rfl
theorem flat_single {α β : Type} (f : α → β) : ∀ l : List α, (l.map fun i => [f i]).flatten = l.map f
  | [] => rfl
  | x :: r => by simp [flat_single f r]
def hlits (l : List Int) : List Lit := l.map (Lit.int .u8)
theorem byte_lits (d : Nat) (x : Int) (h0 : 0 ≤ x) (h1 : x ≤ 255) : Try.prog.keyLits (d + 1) 5 [.int .u8 x] = some [Lit.int .u8 x] := by
  have hw : (Lit.int .u8 x).wf = true := by simp [Lit.wf, IntKind.min, IntKind.max, IntKind.signed, IntKind.bits]; omega
  unfold Program.keyLits
  rw [Try.underlying5]
  simp [hw]
theorem hash_lits (d : Nat) (l : List Int) (h : l.length = 32) (hb : ∀ x ∈ l, 0 ≤ x ∧ x ≤ 255) : Try.prog.keyLits (d + 2) 33 (ints l) = some (hlits l) := by
  have c33 : Try.prog.cellsOf 33 = 32 := by kernel_rfl
  have c5 : Try.prog.cellsOf 5 = 1 := by kernel_rfl
  unfold Program.keyLits
  rw [Try.underlying33]
  simp only [c33, c5, ints_len', h, if_true]
  rw [mapM_some' (g := fun i => [Lit.int .u8 (l.getD i 0)]) (fun i hi => ?_)]
  · simp only [Option.map_some, Option.some.injEq]
    rw [flat_single]
    apply List.ext_getElem?
    intro j
    unfold hlits
    by_cases hj : j < 32
    · rw [List.getElem?_map, List.getElem?_map, List.getElem?_range hj, List.getElem?_eq_getElem (show j < l.length by omega)]
      simp [List.getD, List.getElem?_eq_getElem (show j < l.length by omega)]
    · rw [List.getElem?_eq_none (by simp; omega), List.getElem?_eq_none (by simp; omega)]
  · have hi' : i < 32 := List.mem_range.1 hi
    have hl : i < l.length := by omega
    have : ((ints l).drop (i * 1)).take 1 = [.int .u8 (l.getD i 0)] := by
      rw [Nat.mul_one]
      rw [List.drop_eq_getElem_cons (by rw [ints_len']; exact hl)]
      simp [ints, List.getElem?_eq_getElem hl]
    rw [this]
    obtain ⟨h0, h1⟩ := hb (l.getD i 0) (by rw [List.getD_eq_getElem?_getD, List.getElem?_eq_getElem hl]; exact List.getElem_mem hl)
    exact byte_lits d _ h0 h1
theorem hlits_inj {l l' : List Int} (h : hlits l = hlits l') : l = l' := by
  unfold hlits at h
  induction l generalizing l' with
  | nil => cases l' with
    | nil => rfl
    | cons y r => simp at h
  | cons x r ih => cases l' with
    | nil => simp at h
    | cons y r' =>
      simp only [List.map_cons, List.cons.injEq, Lit.int.injEq, true_and] at h
      rw [h.1, ih h.2]
theorem int_lits (d t : Nat) (k : IntKind) (ht : Try.prog.underlying t = some (.int k)) (x : Int) (hw : (Lit.int k x).wf = true) : Try.prog.keyLits (d + 1) t [.int k x] = some [Lit.int k x] := by
  unfold Program.keyLits
  rw [ht]
  simp [hw]
def Msg.lits (m : Msg) : List Lit := [.int .i64 m.kind, .int .u32 m.chan, .int .u64 m.id, .int .u64 m.amount] ++ hlits m.hash ++ [.int .i64 m.expiry, .int .i64 m.number]
theorem Msg.lits_inj {m m' : Msg} (h : m.hash.length = 32) (h' : m'.hash.length = 32) (e : m.lits = m'.lits) : m = m' := by
  unfold Msg.lits at e
  have e1 := List.append_inj e (by simp [hlits, h, h'])
  have e2 := List.append_inj e1.1 rfl
  have e3 := hlits_inj e2.2
  have e4 := e2.1
  have e5 := e1.2
  simp only [List.cons.injEq, Lit.int.injEq, true_and, and_true] at e4 e5
  cases m; cases m'
  simp only at e3 e4 e5
  obtain ⟨rfl, rfl, rfl, rfl⟩ := e4
  obtain ⟨rfl, rfl⟩ := e5
  rw [e3]
theorem wf64 {x : Int} (h0 : -9223372036854775808 ≤ x) (h1 : x ≤ 9223372036854775807) : (Lit.int .i64 x).wf = true := by simp [Lit.wf, IntKind.min, IntKind.max, IntKind.signed, IntKind.bits]; omega
theorem wfu64 {x : Int} (h0 : 0 ≤ x) (h1 : x ≤ 18446744073709551615) : (Lit.int .u64 x).wf = true := by simp [Lit.wf, IntKind.min, IntKind.max, IntKind.signed, IntKind.bits]; omega
theorem wfu32 {x : Int} (h0 : 0 ≤ x) (h1 : x ≤ 4294967295) : (Lit.int .u32 x).wf = true := by simp [Lit.wf, IntKind.min, IntKind.max, IntKind.signed, IntKind.bits]; omega
set_option maxRecDepth 100000 in
theorem msg_lits (t : Nat) (ht : t = 62 ∨ t = 65) (m : Msg) (h : m.ok) : Try.prog.keyLits 9 t m.cells = some m.lits := by
  have c62 : Try.prog.cellsOf 62 = 38 := by kernel_rfl
  have c65 : Try.prog.cellsOf 65 = 38 := by kernel_rfl
  have c3 : Try.prog.cellsOf 3 = 1 := by kernel_rfl
  have c60 : Try.prog.cellsOf 60 = 1 := by kernel_rfl
  have c22 : Try.prog.cellsOf 22 = 1 := by kernel_rfl
  have c33 : Try.prog.cellsOf 33 = 32 := by kernel_rfl
  have l0 := int_lits 7 3 .i64 Try.underlying3 m.kind (wf64 h.k0 h.k1)
  have l1 := int_lits 7 60 .u32 Try.underlying60 m.chan (wfu32 h.c0 h.c1)
  have l2 := int_lits 7 22 .u64 Try.underlying22 m.id (wfu64 h.i0 h.i1)
  have l3 := int_lits 7 22 .u64 Try.underlying22 m.amount (wfu64 h.a0 h.a1)
  have l4 := hash_lits 6 m.hash h.h32 h.hb
  have l5 := int_lits 7 3 .i64 Try.underlying3 m.expiry (wf64 h.e0 h.e1)
  have l6 := int_lits 7 3 .i64 Try.underlying3 m.number (wf64 h.n0 h.n1)
  have hl : m.cells.length = 38 := Msg.len h.h32
  have dh : ((m.cells.drop 4).take 32) = ints m.hash := by
    show ((ints m.hash ++ [Value.int .i64 m.expiry, .int .i64 m.number])).take 32 = _
    rw [List.take_left' (by rw [ints_len', h.h32])]
  have d36 : (m.cells.drop 36).take 1 = [.int .i64 m.expiry] := by
    show ((ints m.hash ++ [Value.int .i64 m.expiry, .int .i64 m.number]).drop 32).take 1 = _
    rw [List.drop_left' (by rw [ints_len', h.h32])]; rfl
  have d37 : (m.cells.drop 37).take 1 = [.int .i64 m.number] := by
    show ((ints m.hash ++ [Value.int .i64 m.expiry, .int .i64 m.number]).drop 33).take 1 = _
    rw [show (33 : Nat) = (ints m.hash).length + 1 by rw [ints_len', h.h32], List.drop_length_add_append]; rfl
  have d0 : m.cells.take 1 = [.int .i64 m.kind] := rfl
  have d1 : m.cells.tail.take 1 = [.int .u32 m.chan] := rfl
  have d2 : (m.cells.drop 2).take 1 = [.int .u64 m.id] := rfl
  have d3 : (m.cells.drop 3).take 1 = [.int .u64 m.amount] := rfl
  rcases ht with rfl | rfl
  · unfold Program.keyLits
    rw [Try.underlying62]
    simp only [c62, hl, true_and]
    simp [c3, c60, c22, c33, d0, d1, d2, d3, dh, d36, d37, l0, l1, l2, l3, l4, l5, l6, Msg.lits]
  · unfold Program.keyLits
    rw [Try.underlying65]
    simp only [c65, hl, true_and]
    simp [c3, c60, c22, c33, d0, d1, d2, d3, dh, d36, d37, l0, l1, l2, l3, l4, l5, l6, Msg.lits]
theorem formed_row (t : Nat) (ht : t = 62 ∨ t = 65) (m : Msg) (h : m.hash.length = 32) : (Value.agg m.row).formed Try.prog t = true := by
  have c62 : Try.prog.cellsOf 62 = 38 := by kernel_rfl
  have c65 : Try.prog.cellsOf 65 = 38 := by kernel_rfl
  rcases ht with rfl | rfl
  · simp [Value.formed, Try.underlying62, c62, Msg.size h]
  · simp [Value.formed, Try.underlying65, c65, Msg.size h]
/-- two messages are held against one another -/
theorem msg_eql (t : Nat) (ht : t = 62 ∨ t = 65) (m m' : Msg) (h : m.ok) (h' : m'.ok) (b : Bool) (hb : b = true ↔ m = m') (W : World) : (Op.equalIn 10000 t (.agg m.row) (.agg m'.row)).run Try.prog W = .ok b W := by
  have hk : Try.prog.keyTypeAt 9 t = true := by rcases ht with rfl | rfl <;> kernel_rfl
  obtain ⟨r, hr, hiff⟩ := run_equalIn_deep (P := Try.prog) 9991 9 t hk W 9 9 (.agg m.row) (.agg m'.row) m.lits m'.lits (formed_row t ht m h.h32) (formed_row t ht m' h'.h32)
    (by show Try.prog.keyLits 9 t m.row.toList = _; rw [Msg.row]; exact msg_lits t ht m h) (by show Try.prog.keyLits 9 t m'.row.toList = _; rw [Msg.row]; exact msg_lits t ht m' h')
  rw [hr]
  have : r = b := by
    rw [Bool.eq_iff_iff, hiff, hb]
    exact ⟨Msg.lits_inj h.h32 h'.h32, fun e => by rw [e]⟩
  rw [this]
end Go.Proofs.Ytiilgkhndfnkgaa
