/- What is read of a bank: Holder, Result, Told, Done, Balances; New; the condition is that the bank lies in memory. -/
import Derived.Test.YtnnnbgndbmcffaaSrN
namespace Go.Proofs.Ytnnnbgndbmcffaa
open Go.RowKit
set_option linter.unusedVariables false

/-- a copy of a row -/
def Copied (t : TypeId) (n : Nat) (xs : List Value) (w : World) (e : Ending) (w' : World) : Prop := ∃ v, e = .returned v ∧ w'.ownsRow w.heap.size t 1 v n xs ∧ (∃ a c, v = .slice a n c) ∧ Below w.heap.size w w'
set_option maxRecDepth 100000 in
set_option maxHeartbeats 4000000 in
theorem clone65 (v : Value) (n : Nat) (xs : List Value) (w : World) (h : w.ownsRow 0 23 1 v n xs) (hn : n ≤ 1000) (hone : ∀ u ∈ xs, u.oneCell' = true) : Calls Try.prog 65 #[v] w (Copied 23 n xs w) := by
  rcases h.2 with ⟨rfl, hn0⟩ | ⟨g, cap, cur, rfl, _, hgg, _, _, _, _⟩
  · have fin : Copied 23 n xs w (.returned (.slice none 0 0)) w := ⟨_, rfl, ⟨h.1, .inl ⟨rfl, hn0⟩⟩, ⟨none, 0, by rw [hn0]⟩, Below.refl _ _⟩
    have FIN := Lib.hid fin
    have hnil : ∀ W, (binOp .eql 33 (.slice none 0 0) (.slice none 0 0)).run Try.prog W = .ok (.bool true) W := fun W => by
      simp only [binOp]
      simp [Op.equal, Op.maxDepth, Lib.run_equalIn_slice_nil W 9999 33 23 none 0 0 0 0 Try.underlying33]
    clear h hone fin
    go_enter Try.func65, Try.ntmps65
    go_wp2
    go_ret
    exact FIN.out
  · obtain ⟨i0, hi, hz0, hz1, hz2⟩ := info_parts info23
    have own0 : (w.alloc (.cells #[] 23)).ownsRow w.heap.size 23 1 (.slice (some ⟨w.heap.size, 0, none⟩) 0 0) 0 [] := ⟨rfl, .inr ⟨_, 0, #[], rfl, Nat.le_refl _, M.RowAt.new w 23 #[], Nat.le_refl _, by unfold maxLen; omega, rfl, rfl⟩⟩
    have hcell : ∀ j u, xs[j]? = some u → (w.alloc (.cells #[] 23)).cell? ((⟨g, 0, none⟩ : Addr).add j) = some u := fun j u hu => (h.alloc _).cells rfl j u hu
    have hil : xs.length = n * 1 := h.1
    have hge : w.heap.size ≤ (w.alloc (.cells #[] 23)).heap.size := by simp
    have O0 := Lib.hid own0; have HC := Lib.hid hcell; have HO := Lib.hid hone; have HI := Lib.hid hil; have HG := Lib.hid hge
    have hnil : ∀ W, (binOp .eql 33 (.slice (some ⟨g, 0, none⟩) n cap) (.slice none 0 0)).run Try.prog W = .ok (.bool false) W := fun W => by
      simp only [binOp]
      simp [Op.equal, Op.maxDepth, Lib.run_equalIn_slice_nil W 9999 33 23 (some ⟨g, 0, none⟩) n cap 0 0 Try.underlying33]
    clear own0 hcell hone hil hge hgg h
    go_enter Try.func65, Try.ntmps65
    go_wp2_with (at_builtin; refine wpList_append_sep3 _ rfl (.tmp 5) (.tmp 6) 33 rfl w.heap.size 23 i0 _ 1 8 Try.underlying33 hi hz0 hz1 hz2 rfl (by decide) w.heap.size 0 0 [] ?a1 O0.out ⟨g, 0, none⟩ n cap xs ?a2 HI.out HC.out HO.out (by unfold maxLen; omega) (by omega) HG.out ?_)
    case a1 => rfl
    case a2 => rfl
    intro u w4 ho hg hs4
    have ho' : w4.ownsRow w.heap.size 23 1 u n xs := by simpa using ho
    have hb : Below w.heap.size w w4 := ⟨hg.os, hg.tape, hg.output, Nat.le_trans (by simp) hg.size, fun j hj => by
      rw [hg.block j (by simp; omega) (fun e => by cases e; omega)]
      exact ((Below.refl _ w).alloc (Nat.le_refl _) (.cells #[] 23)).block j hj⟩
    have hform : ∃ a c, u = .slice a n c := by
      rcases ho'.2 with ⟨e, e2⟩ | ⟨g2, c2, _, e, _⟩
      · exact ⟨none, 0, by rw [e, e2]⟩
      · exact ⟨_, _, e⟩
    obtain ⟨ua, uc, rfl⟩ := hform
    have fin : Copied 23 n xs w (.returned (.slice ua n uc)) w4 := ⟨_, rfl, ho', ⟨_, _, rfl⟩, hb⟩
    have FIN := Lib.hid fin
    clear ho hg hs4 ho' hb fin
    go_wp2
    go_ret
    exact FIN.out
set_option maxRecDepth 100000 in
set_option maxHeartbeats 4000000 in
theorem clone71 (v : Value) (n : Nat) (xs : List Value) (w : World) (h : w.ownsRow 0 3 1 v n xs) (hn : n ≤ 1000) (hone : ∀ u ∈ xs, u.oneCell' = true) : Calls Try.prog 71 #[v] w (Copied 3 n xs w) := by
  rcases h.2 with ⟨rfl, hn0⟩ | ⟨g, cap, cur, rfl, _, hgg, _, _, _, _⟩
  · have fin : Copied 3 n xs w (.returned (.slice none 0 0)) w := ⟨_, rfl, ⟨h.1, .inl ⟨rfl, hn0⟩⟩, ⟨none, 0, by rw [hn0]⟩, Below.refl _ _⟩
    have FIN := Lib.hid fin
    have hnil : ∀ W, (binOp .eql 78 (.slice none 0 0) (.slice none 0 0)).run Try.prog W = .ok (.bool true) W := fun W => by
      simp only [binOp]
      simp [Op.equal, Op.maxDepth, Lib.run_equalIn_slice_nil W 9999 78 3 none 0 0 0 0 Try.underlying78]
    clear h hone fin
    go_enter Try.func71, Try.ntmps71
    go_wp2
    go_ret
    exact FIN.out
  · obtain ⟨i0, hi, hz0, hz1, hz2⟩ := info_parts info3
    have own0 : (w.alloc (.cells #[] 3)).ownsRow w.heap.size 3 1 (.slice (some ⟨w.heap.size, 0, none⟩) 0 0) 0 [] := ⟨rfl, .inr ⟨_, 0, #[], rfl, Nat.le_refl _, M.RowAt.new w 3 #[], Nat.le_refl _, by unfold maxLen; omega, rfl, rfl⟩⟩
    have hcell : ∀ j u, xs[j]? = some u → (w.alloc (.cells #[] 3)).cell? ((⟨g, 0, none⟩ : Addr).add j) = some u := fun j u hu => (h.alloc _).cells rfl j u hu
    have hil : xs.length = n * 1 := h.1
    have hge : w.heap.size ≤ (w.alloc (.cells #[] 3)).heap.size := by simp
    have O0 := Lib.hid own0; have HC := Lib.hid hcell; have HO := Lib.hid hone; have HI := Lib.hid hil; have HG := Lib.hid hge
    have hnil : ∀ W, (binOp .eql 78 (.slice (some ⟨g, 0, none⟩) n cap) (.slice none 0 0)).run Try.prog W = .ok (.bool false) W := fun W => by
      simp only [binOp]
      simp [Op.equal, Op.maxDepth, Lib.run_equalIn_slice_nil W 9999 78 3 (some ⟨g, 0, none⟩) n cap 0 0 Try.underlying78]
    clear own0 hcell hone hil hge hgg h
    go_enter Try.func71, Try.ntmps71
    go_wp2_with (at_builtin; refine wpList_append_sep3 _ rfl (.tmp 5) (.tmp 6) 78 rfl w.heap.size 3 i0 _ 1 8 Try.underlying78 hi hz0 hz1 hz2 rfl (by decide) w.heap.size 0 0 [] ?a1 O0.out ⟨g, 0, none⟩ n cap xs ?a2 HI.out HC.out HO.out (by unfold maxLen; omega) (by omega) HG.out ?_)
    case a1 => rfl
    case a2 => rfl
    intro u w4 ho hg hs4
    have ho' : w4.ownsRow w.heap.size 3 1 u n xs := by simpa using ho
    have hb : Below w.heap.size w w4 := ⟨hg.os, hg.tape, hg.output, Nat.le_trans (by simp) hg.size, fun j hj => by
      rw [hg.block j (by simp; omega) (fun e => by cases e; omega)]
      exact ((Below.refl _ w).alloc (Nat.le_refl _) (.cells #[] 3)).block j hj⟩
    have hform : ∃ a c, u = .slice a n c := by
      rcases ho'.2 with ⟨e, e2⟩ | ⟨g2, c2, _, e, _⟩
      · exact ⟨none, 0, by rw [e, e2]⟩
      · exact ⟨_, _, e⟩
    obtain ⟨ua, uc, rfl⟩ := hform
    have fin : Copied 3 n xs w (.returned (.slice ua n uc)) w4 := ⟨_, rfl, ho', ⟨_, _, rfl⟩, hb⟩
    have FIN := Lib.hid fin
    clear ho hg hs4 ho' hb fin
    go_wp2
    go_ret
    exact FIN.out
theorem u64_one (l : List Int) : ∀ u ∈ l.map (Value.int .u64), u.oneCell' = true := fun u hu => by obtain ⟨y, _, rfl⟩ := List.mem_map.1 hu; rfl
theorem i64_one (l : List Nat) : ∀ u ∈ (l.map fun i : Nat => Value.int .i64 i), u.oneCell' = true := fun u hu => by obtain ⟨y, _, rfl⟩ := List.mem_map.1 hu; rfl
section
variable {rk : Nat → Nat} {b : Nat} {S : BS} {w : World}
theorem holder_bk (h : Bk rk b S w) (c : Int) : Calls Try.prog 49 #[.pointer (some ⟨b, 0, none⟩), .int .i64 c] w fun e w' => e = .returned (.int .i64 (hold S.h c)) ∧ w = w' := by
  obtain ⟨pu, B, mb, cap, ts, ds, tks, g⟩ := h
  exact holder_any b pu S.n S.h ts ds c w g.hb
/-- a task's result, and whether it has acted -/
def BS.res (S : BS) (id : Int) : Int × Bool := if 0 ≤ id then (match S.tl[id.toNat]? with | some T => if T.m < T.k then (T.er, true) else (0, false) | none => (0, false)) else (0, false)
def BS.toldOf (S : BS) (id : Int) : List Int := if 0 ≤ id then (match S.tl[id.toNat]? with | some T => T.told | none => []) else []
set_option maxRecDepth 100000 in
theorem result_ptr (b p : Nat) (id er : Int) (acted : Bool) (w : World) (TK : Calls Try.prog 70 #[.pointer (some ⟨b, 0, none⟩), .int .i64 id] w fun e w' => e = .returned (.pointer (some ⟨p, 0, none⟩)) ∧ w = w') (c6 : w.cell? ⟨p, 6, none⟩ = some (.bool acted)) (c7 : w.cell? ⟨p, 7, none⟩ = some (.int .i64 er)) :
    Calls Try.prog 50 #[.pointer (some ⟨b, 0, none⟩), .int .i64 id] w fun e w' => e = .returned (.tuple #[.int .i64 (if acted then er else 0), .bool acted]) ∧ w = w' := by
  have TKH := Lib.hid TK
  clear TK
  cases acted
  all_goals
    go_enter Try.func50, Try.ntmps50
    go_wp2_with fail
    refine (TKH.out).mono ?_
    rintro e w1 ⟨rfl, rfl⟩
    go_wp2
    go_ret2
    exact ⟨rfl, rfl⟩
set_option maxRecDepth 100000 in
theorem result_nil (b : Nat) (id : Int) (w : World) (TK : Calls Try.prog 70 #[.pointer (some ⟨b, 0, none⟩), .int .i64 id] w fun e w' => e = .returned (.pointer none) ∧ w = w') :
    Calls Try.prog 50 #[.pointer (some ⟨b, 0, none⟩), .int .i64 id] w fun e w' => e = .returned (.tuple #[.int .i64 0, .bool false]) ∧ w = w' := by
  have TKH := Lib.hid TK
  clear TK
  go_enter Try.func50, Try.ntmps50
  go_wp2_with fail
  refine (TKH.out).mono ?_
  rintro e w1 ⟨rfl, rfl⟩
  go_wp2
  go_ret2
  exact ⟨rfl, rfl⟩
set_option maxRecDepth 100000 in
theorem told_ptr (b p : Nat) (id : Int) (v : Value) (l : List Int) (w : World) (TK : Calls Try.prog 70 #[.pointer (some ⟨b, 0, none⟩), .int .i64 id] w fun e w' => e = .returned (.pointer (some ⟨p, 0, none⟩)) ∧ w = w') (c8 : w.cell? ⟨p, 8, none⟩ = some v) (ho : w.ownsRow 0 23 1 v l.length (l.map (Value.int .u64))) (hl : l.length ≤ 1000) :
    Calls Try.prog 54 #[.pointer (some ⟨b, 0, none⟩), .int .i64 id] w (Copied 23 l.length (l.map (Value.int .u64)) w) := by
  have TKH := Lib.hid TK
  have CL := Lib.hid (clone65 v l.length _ w ho hl (u64_one l))
  clear TK ho
  go_enter Try.func54, Try.ntmps54
  go_wp2_with fail
  refine (TKH.out).mono ?_
  rintro e w1 ⟨rfl, rfl⟩
  go_wp2_with fail
  refine (CL.out).mono ?_
  rintro e w2 ⟨u, rfl, h1, h2, h3⟩
  obtain ⟨ua, uc, rfl⟩ := h2
  have FIN := Lib.hid (show Copied 23 l.length (l.map (Value.int .u64)) w (.returned (.slice ua l.length uc)) w2 from ⟨_, rfl, h1, ⟨_, _, rfl⟩, h3⟩)
  clear h1 h3
  go_wp2
  go_ret
  exact FIN.out
set_option maxRecDepth 100000 in
theorem told_nil (b : Nat) (id : Int) (w : World) (TK : Calls Try.prog 70 #[.pointer (some ⟨b, 0, none⟩), .int .i64 id] w fun e w' => e = .returned (.pointer none) ∧ w = w') :
    Calls Try.prog 54 #[.pointer (some ⟨b, 0, none⟩), .int .i64 id] w (Copied 23 0 [] w) := by
  have TKH := Lib.hid TK
  have FIN := Lib.hid (show Copied 23 0 [] w (.returned (.slice none 0 0)) w from ⟨_, rfl, World.ownsRow_nil _ _ _ _, ⟨_, _, rfl⟩, Below.refl _ _⟩)
  clear TK
  go_enter Try.func54, Try.ntmps54
  go_wp2_with fail
  refine (TKH.out).mono ?_
  rintro e w1 ⟨rfl, rfl⟩
  go_wp2
  go_ret
  exact FIN.out
theorem result_bk (h : Bk rk b S w) (id : Int) : Calls Try.prog 50 #[.pointer (some ⟨b, 0, none⟩), .int .i64 id] w fun e w' => e = .returned (.tuple #[.int .i64 (S.res id).1, .bool (S.res id).2]) ∧ w = w' := by
  obtain ⟨pu, B, mb, cap, ts, ds, tks, g⟩ := h
  unfold BS.res
  by_cases h0 : 0 ≤ id
  · obtain ⟨i, rfl⟩ := Int.eq_ofNat_of_zero_le h0
    rw [if_pos h0, Int.toNat_natCast]
    cases hT : S.tl[i]? with
    | none =>
      have hlen := List.getElem?_eq_none_iff.1 hT
      exact result_nil b i w (task_unknown g (.inr ⟨by omega, by omega⟩))
    | some T =>
      obtain ⟨p, hp, t⟩ := g.tk i T hT
      obtain ⟨sb, a, c, cs, tov, tb, _⟩ := g.tb t
      have := result_ptr b p i T.er (decide (T.m < T.k)) w (task_known g hp) ((tb.rt.cell 6).trans rfl) ((tb.rt.cell 7).trans rfl)
      simp only
      by_cases hk : T.m < T.k
      · rw [if_pos hk]; simpa [hk] using this
      · rw [if_neg hk]; simpa [hk] using this
  · rw [if_neg h0]
    exact result_nil b id w (task_unknown g (.inl (by omega)))
theorem told_bk (h : Bk rk b S w) (id : Int) : Calls Try.prog 54 #[.pointer (some ⟨b, 0, none⟩), .int .i64 id] w (Copied 23 (S.toldOf id).length ((S.toldOf id).map (Value.int .u64)) w) := by
  obtain ⟨pu, B, mb, cap, ts, ds, tks, g⟩ := h
  unfold BS.toldOf
  by_cases h0 : 0 ≤ id
  · obtain ⟨i, rfl⟩ := Int.eq_ofNat_of_zero_le h0
    rw [if_pos h0, Int.toNat_natCast]
    cases hT : S.tl[i]? with
    | none =>
      have hlen := List.getElem?_eq_none_iff.1 hT
      exact told_nil b i w (task_unknown g (.inr ⟨by omega, by omega⟩))
    | some T =>
      obtain ⟨p, hp, t⟩ := g.tk i T hT
      obtain ⟨sb, a, c, cs, tov, tb, _, _, _, _, ht⟩ := g.tb t
      exact told_ptr b p i tov T.told w (task_known g hp) ((tb.rt.cell 8).trans rfl) ht.1 (by have := g.ok.tn i T hT; omega)
  · rw [if_neg h0]
    exact told_nil b id w (task_unknown g (.inl (by omega)))
set_option maxRecDepth 100000 in
theorem done_bk (h : Bk rk b S w) : Calls Try.prog 48 #[.pointer (some ⟨b, 0, none⟩)] w (Copied 3 S.dn.length (S.dn.map fun i : Nat => Value.int .i64 i) w) := by
  obtain ⟨pu, B, mb, cap, ts, ds, tks, g⟩ := h
  have c7 : w.cell? ⟨b, 7, none⟩ = some ds := (g.hb.cell 7).trans rfl
  have hl : S.dn.length ≤ 1000 := by have := g.ok.dnlen; have := g.ok.t32; omega
  have CL := Lib.hid (clone71 ds S.dn.length _ w g.hds hl (i64_one S.dn))
  clear g hl
  go_enter Try.func48, Try.ntmps48
  go_wp2_with fail
  refine (CL.out).mono ?_
  rintro e w2 ⟨u, rfl, h1, h2, h3⟩
  obtain ⟨ua, uc, rfl⟩ := h2
  have FIN := Lib.hid (show Copied 3 S.dn.length (S.dn.map fun i : Nat => Value.int .i64 i) w (.returned (.slice ua S.dn.length uc)) w2 from ⟨_, rfl, h1, ⟨_, _, rfl⟩, h3⟩)
  clear h1 h3
  go_wp2
  go_ret
  exact FIN.out
theorem bals_bk (h : Bk rk b S w) : Calls Try.prog 61 #[.pointer (some ⟨b, 0, none⟩)] w (Balanced S.n S.f w) := by
  obtain ⟨pu, B, mb, cap, ts, ds, tks, g⟩ := h
  exact balances_any g.hpu b S.h ts ds g.hb
end
end Go.Proofs.Ytnnnbgndbmcffaa
