/- The fields of a kind, as a list of functions; no conditions. -/
import Derived.Test.YtiilgkhndfnkgaaWiA
import Derived.Test.YtiilgkhndfnkgaaAppSep
import Derived.Lib.SlFresh
import Derived.Laws.OwnMore
namespace Go.Proofs.Ytiilgkhndfnkgaa
open Go.RowKit
set_option linter.unusedVariables false

theorem mkf (fn : Fn) (first cap : Array Value) (w : World) : (Instr.makeFunc fn first cap).run Try.prog w = .ok (.func fn first cap) w := rfl
theorem num57 (wd : Int) (fo : FuncId) (w : World) : Calls Try.prog 57 #[.int .i64 wd, .func (.func fo) #[] #[]] w fun e w' => e = .returned (Value.func (Fn.func 66) #[] #[.pointer (some ⟨w.heap.size + 1, 0, none⟩), .pointer (some ⟨w.heap.size, 0, none⟩)]) ∧ w' = (w.alloc (.cells #[.int .i64 wd] 3)).alloc (.cells #[.func (.func fo) #[] #[]] 97) := by
  have hmf := mkf
  go_enter Try.func57, Try.ntmps57
  go_wp2
  go_ret
  exact ⟨rfl, rfl⟩
theorem num60 (wd : Int) (fo : FuncId) (w : World) : Calls Try.prog 60 #[.int .i64 wd, .func (.func fo) #[] #[]] w fun e w' => e = .returned (Value.func (Fn.func 67) #[] #[.pointer (some ⟨w.heap.size + 1, 0, none⟩), .pointer (some ⟨w.heap.size, 0, none⟩)]) ∧ w' = (w.alloc (.cells #[.int .i64 wd] 3)).alloc (.cells #[.func (.func fo) #[] #[]] 100) := by
  have hmf := mkf
  go_enter Try.func60, Try.ntmps60
  go_wp2
  go_ret
  exact ⟨rfl, rfl⟩
theorem num68 (wd : Int) (fo : FuncId) (w : World) : Calls Try.prog 68 #[.int .i64 wd, .func (.func fo) #[] #[]] w fun e w' => e = .returned (Value.func (Fn.func 70) #[] #[.pointer (some ⟨w.heap.size + 1, 0, none⟩), .pointer (some ⟨w.heap.size, 0, none⟩)]) ∧ w' = (w.alloc (.cells #[.int .i64 wd] 3)).alloc (.cells #[.func (.func fo) #[] #[]] 108) := by
  have hmf := mkf
  go_enter Try.func68, Try.ntmps68
  go_wp2
  go_ret
  exact ⟨rfl, rfl⟩
theorem info94 : (Try.prog.info? 94).map (fun i => (i.zero, i.size, i.bytes)) = some (some Value.nilFunc, 1, 8) := by kernel_rfl
/-- the functions of a list without the channel, in a row -/
def FR (lo : Nat) (W : World) (v : Value) (l : List Fld) (C : Array Value) : Prop :=
  (l = [] ∧ v = .slice none 0 0) ∨ ∃ g, v = .slice (some ⟨g, 0, none⟩) l.length l.length ∧ M.RowAt W g 94 C ∧ C.size = l.length ∧ l ≠ [] ∧ (∀ u ∈ C.toList, u.oneCell' = true) ∧ ∀ (i : Nat) (f : Fld), l[i]? = some f → ∃ u, C[i]? = some u ∧ FV lo W f u
set_option maxRecDepth 100000 in
set_option maxHeartbeats 2000000 in
theorem list_any {lo : Nat} {w : World} {v : Value} {l : List Fld} {C : Array Value} (h : FR lo w v l C) (hlo : lo ≤ w.heap.size) (h8 : l.length ≤ 8) :
    Calls Try.prog 63 #[v] w fun e w' => ∃ v', e = .returned (.tuple #[v', .bool true]) ∧ FL lo w' v' (.chan :: l) ∧ Below w.heap.size w w' := by
  obtain ⟨n, hn⟩ : ∃ n, w.heap.size = n := ⟨_, rfl⟩
  have kb := ((KB.start w).new 3 #[.int .i64 4]).new 108 #[.func (.func 69) #[] #[]]
  have k3 := kb.new 94 #[(Value.func (Fn.func 70) #[] #[.pointer (some ⟨n + 1, 0, none⟩), .pointer (some ⟨n, 0, none⟩)])]
  rw [World.size_alloc, World.size_alloc, hn] at k3
  rw [World.size_alloc, hn] at kb
  have nm := num68 4 69 w
  rw [hn] at nm
  obtain ⟨V, hV⟩ : ∃ V, (w.alloc (.cells #[.int .i64 4] 3)).alloc (.cells #[.func (.func 69) #[] #[]] 108) = V := ⟨_, rfl⟩
  have sV : V.heap.size = n + 2 := by rw [← hV]; simp [hn]
  rw [hV] at nm k3 kb
  obtain ⟨V2, hV2⟩ : ∃ V2, V.alloc (.cells #[(Value.func (Fn.func 70) #[] #[.pointer (some ⟨n + 1, 0, none⟩), .pointer (some ⟨n, 0, none⟩)])] 94) = V2 := ⟨_, rfl⟩
  rw [hV2] at k3
  have sV2 : V2.heap.size = n + 3 := by rw [← hV2]; simp [sV]
  have r0 : M.RowAt V2 (n + 1 + 1) 94 #[(Value.func (Fn.func 70) #[] #[.pointer (some ⟨n + 1, 0, none⟩), .pointer (some ⟨n, 0, none⟩)])] := k3.row _ _ _ (by simp)
  have rw1 : M.RowAt V2 n 3 #[.int .i64 4] := k3.row _ _ _ (by simp)
  have rw2 : M.RowAt V2 (n + 1) 108 #[.func (.func 69) #[] #[]] := k3.row _ _ _ (by simp)
  have own0 : V2.ownsRow (n + 2) 94 1 (.slice (some ⟨n + 2, 0, none⟩) 1 1) 1 [(Value.func (Fn.func 70) #[] #[.pointer (some ⟨n + 1, 0, none⟩), .pointer (some ⟨n, 0, none⟩)])] := ⟨rfl, .inr ⟨n + 2, 1, _, rfl, Nat.le_refl _, r0, Nat.le_refl _, by unfold maxLen; omega, rfl, rfl⟩⟩
  have b2 : Below n w V2 := hn ▸ k3.below
  have key : ∃ v6 W, ((v = .slice none 0 0 ∧ v6 = .slice (some ⟨n + 2, 0, none⟩) 1 1 ∧ W = V2) ∨ (∃ g, v = .slice (some ⟨g, 0, none⟩) l.length l.length ∧ (Builtin.append_ #[82, 82] 82 #[.slice (some ⟨n + 2, 0, none⟩) 1 1, v]).run Try.prog V2 = .ok v6 W)) ∧ FL lo W v6 (.chan :: l) ∧ Below n w W := by
    rcases h with ⟨rfl, rfl⟩ | ⟨g, rfl, hr, hs, hne, h1, hf⟩
    · refine ⟨_, _, .inl ⟨rfl, rfl, rfl⟩, ⟨n + 2, 1, _, rfl, by omega, r0, fun i f hi => ?_⟩, b2⟩
      match i, hi with
      | 0, hi =>
        obtain rfl : Fld.chan = f := by simpa using hi
        exact ⟨_, rfl, n + 1, n, rfl, by omega, by omega, rw2, rw1⟩
    · obtain ⟨i0, hi, hz, hsz, hby⟩ := info_parts info94
      have hg : g < n := hn ▸ hr.lt
      have hrV : M.RowAt V2 g 94 C := hr.below b2 hg
      obtain ⟨v6, W, hrun, hown, hgr, _⟩ := run_append_own (P := Try.prog) V2 (n + 2) 82 82 94 i0 .nilFunc 1 8 Try.underlying82 hi hz hsz hby rfl (by decide) _ 1 _ own0 ⟨g, 0, none⟩ l.length l.length C.toList (by simp [hs]) (fun j u hu => by
        rw [Addr.add_mid, Nat.zero_add, hrV.cell]; simpa using hu) h1 (by unfold maxLen; omega) (by omega) (by omega)
      have bW : Below n w W := b2.trans ⟨hgr.os, hgr.tape, hgr.output, hgr.size, fun k hk => hgr.block k (by omega) (by simp [Value.ownBlock]; omega)⟩
      have kpW : ∀ {k t D}, k ≠ n + 2 → M.RowAt V2 k t D → M.RowAt W k t D := fun {k t D} hk hr => by
        have := hr.lt
        unfold M.RowAt; rw [hgr.block k this (by simp [Value.ownBlock]; omega)]; exact hr
      refine ⟨v6, W, .inr ⟨g, rfl, hrun⟩, ?_, bW⟩
      rcases hown.2 with ⟨_, h0⟩ | ⟨g6, cap, cur, rfl, hlo6, hrow6, _⟩
      · omega
      · refine ⟨g6, cap, cur, by rw [List.length_cons, Nat.add_comm], by omega, hrow6, fun i f hi => ?_⟩
        have hc := fun j (hj : j < (1 + l.length) * 1) => hown.cellAt j (by simpa using hj)
        match i, hi with
        | 0, hi =>
          obtain rfl : Fld.chan = f := by simpa using hi
          refine ⟨(Value.func (Fn.func 70) #[] #[.pointer (some ⟨n + 1, 0, none⟩), .pointer (some ⟨n, 0, none⟩)]), ?_, n + 1, n, rfl, by omega, by omega, kpW (by omega) rw2, kpW (by omega) rw1⟩
          have := hc 0 (by omega)
          rw [M.RowAt.cell hrow6] at this
          rw [this]; rfl
        | i + 1, hi =>
          have hi' : l[i]? = some f := by simpa using hi
          have hil : i < l.length := (List.getElem?_eq_some_iff.1 hi').1
          obtain ⟨u, hu, hv⟩ := hf i f hi'
          refine ⟨u, ?_, hv.kept (fun q t D _ hq hD => ?_)⟩
          · have := hc (i + 1) (by omega)
            rw [M.RowAt.cell hrow6] at this
            rw [this]
            simpa using hu
          · have hqn : q < n := hn ▸ hD.lt
            exact hD.below bW hqn
  obtain ⟨v6, W, hcase, hfl, hbl⟩ := key
  obtain ⟨A6, c6, hv6⟩ : ∃ A c, v6 = .slice A (l.length + 1) c := by
    obtain ⟨g, cap, C, h1, _⟩ := hfl; exact ⟨_, _, h1⟩
  have HN := Lib.hid hn; have NM := Lib.hid nm; have SV := Lib.hid sV; have HV2 := Lib.hid hV2
  have FIN := Lib.hid (And.intro hfl hbl)
  clear hn nm sV hV2 hV kb k3 r0 rw1 rw2 own0 b2 hfl hbl h sV2
  rw [HN.out]
  rcases hcase with ⟨rfl, h6, rfl⟩ | ⟨g, rfl, hrun⟩
  · rw [h6] at FIN
    clear hv6 h6
    go_enter Try.func63, Try.ntmps63
    go_wp2_with fail
    refine (NM.out).mono ?_
    rintro e w1 ⟨rfl, rfl⟩
    go_wp2_with (first | (rw [SV.out, HV2.out]) | fail)
    go_ret2
    exact ⟨_, rfl, FIN.out⟩
  · rw [hv6] at hrun FIN
    have HR := Lib.hid hrun
    clear hrun hv6
    generalize l.length = m at *
    go_enter Try.func63, Try.ntmps63
    go_wp2_with fail
    refine (NM.out).mono ?_
    rintro e w1 ⟨rfl, rfl⟩
    go_wp2_with (first | (rw [SV.out, HV2.out]) | (at_builtin; refine Go.Lib.wpList_append_run_sl _ rfl (.tmp 7) (.tmp 8) 82 rfl _ _ rfl rfl HR.out ?_) | fail)
    go_ret2
    exact ⟨_, rfl, FIN.out⟩
end Go.Proofs.Ytiilgkhndfnkgaa
