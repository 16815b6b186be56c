/- strings.Builder in a journal, and what a journal writes and tells; the condition is that the journal is known. -/
import Derived.Test.YtiilgkhndfnkgaaDoorThings
import Derived.Test.YtiilgkhndfnkgaaDoorOcS
import Derived.Test.YtiilgkhndfnkgaaDoorDhS
import Derived.Lib.UnsafeStr
import Derived.Lib.Builder
import Derived.Shelf.RegionOpenPlain
namespace Go.Proofs.YtiilgkhndfnkgaaDoor
open Go.RowKit
set_option linter.unusedVariables false

/-- append of a string onto a slice with a frozen head: where the result lies -/
theorem ownsRowF_mono {w : World} {t : TypeId} {k b b' : Nat} {u : Value} {xs : List Value} (h : w.ownsRowF b t 1 u k xs) (hb : b' ≤ b) : w.ownsRowF b' t 1 u k xs := by
  refine ⟨h.1, ?_⟩
  rcases h.2 with hn | ⟨g, cap, cur, fz, e, hg, rest⟩
  · exact .inl hn
  · exact .inr ⟨g, cap, cur, fz, e, Nat.le_trans hb hg, rest⟩
theorem run_append_own_stringS {P : Program} (w : World) (base : Nat) (t u ty e : TypeId) (i : TypeInfo) (ht : P.underlying t = some (.slice e)) (hu : P.underlying u = some .string) (hi : P.info? e = some i) (hz : i.zero = some (.int .u8 0))
    (hsize : i.size = 1) (hby : i.bytes = 1)
    (v : Value) (n : Nat) (xs : List Value) (hown : w.ownsRowF base e 1 v n xs) (s : ByteArray)
    (h63 : n + s.size ≤ maxLen) (hbytes : n + s.size ≤ 140737488355328) (hbase : base ≤ w.heap.size) :
    ∃ v' w', (Builtin.append_ #[t, u] ty #[v, .string s]).run P w = .ok v' w' ∧ w'.ownsRowF base e 1 v' (n + s.size) (xs ++ Lib.strCells s) ∧ w.grownBy w' v.ownBlock ∧
      (v'.ownBlock = v.ownBlock ∨ ∀ g, v'.ownBlock = some g → w.heap.size ≤ g) := by
  rcases hown.2 with ⟨rfl, rfl⟩ | ⟨g, cap, cur, fz, rfl, hbg, hg, hfz, hnc, hcm, hcs, htake⟩
  · obtain ⟨v', w', h1, h2, h3, h4⟩ := Lib.run_append_own_string (P := P) w w.heap.size t u ty e i ht hu hi hz hsize hby (.slice none 0 0) 0 xs ⟨hown.1, .inl ⟨rfl, rfl⟩⟩ s h63 hbytes (Nat.le_refl _)
    have h5 := World.ownsRowF_of h2
    exact ⟨v', w', h1, ownsRowF_mono h5 hbase, h3, .inr (fun g hg => (h5.lt g hg).1)⟩
  · have hsmall : n + s.size ≤ 9223372036854775807 := by simp only [maxLen] at h63; omega
    have hxl : xs.length = n := by simpa using hown.1
    have hlen : (xs ++ Lib.strCells s).length = (n + s.size) * 1 := by rw [List.length_append, hxl, Lib.strCells_length, Nat.mul_one]
    by_cases hroom : n + s.size ≤ cap
    · have hcs' : cur.size = cap := by simpa using hcs
      have hr := Lib.run_append_room_stringF (P := P) w t u ty e i ht hu hi hsize g n cap cur fz hg (by simpa using hfz) s hroom (by omega)
      refine ⟨_, _, hr, ⟨hlen, .inr ⟨g, cap, _, fz, rfl, hbg, setRow_heap w g cur _ e _ hg, by omega, hroom, hcm, ?_, ?_⟩⟩, ⟨rfl, rfl, rfl, by simp, fun k _ hk => setRow_other w g k _ (fun e => hk (by simp [Value.ownBlock, e]))⟩, .inl rfl⟩
      · simp only [List.size_toArray, List.length_append, List.length_take, List.length_drop, Array.length_toList, Lib.strCells_length]
        omega
      · have ht' : cur.toList.take n = xs := by simpa using htake
        rw [ht', ← hlen]
        exact List.take_left
    · have holds : ∀ j u, xs[j]? = some u → w.cell? ((⟨g, 0, none⟩ : Addr).add j) = some u := hown.cells (g := g) rfl
      have hr := Lib.run_append_grow_string (P := P) w t u ty e i (.int .u8 0) ht hu hi hz ⟨g, 0, none⟩ n cap xs (by rw [hsize]; simpa using hxl) holds s (by omega) (by omega) (by rw [hby]; exact growslice_fits (by omega) (by omega))
      have hge := grownCap_ge w (n + s.size) cap e
      have hcm2 : grownCap w (n + s.size) cap e ≤ maxLen := grownCap_le_maxLen w (n + s.size) cap e h63
      refine ⟨_, _, hr, ⟨hlen, .inr ⟨w.heap.size, _, _, (0, 0), rfl, hbase, heap_alloc_new w.drew _, Nat.zero_le _, hge, hcm2, ?_, ?_⟩⟩, ⟨rfl, rfl, rfl, by simp, fun k hk _ => Lib.alloc_old w.drew _ k hk⟩, .inr (fun g hg => by simp [Value.ownBlock] at hg; omega)⟩
      · have hz1 : (Value.int IntKind.u8 0).cells.size = 1 := rfl
        simp only [Array.size_append, List.size_toArray, size_zeroCells, hz1, hxl, Lib.strCells_length]
        omega
      · simp only [Array.toList_append, List.append_assoc]
        rw [← List.append_assoc, ← hlen]
        exact List.take_left
theorem wpList_append_own_stringS {P : Program} (w : World) {ops : Array Oper} {rest : List Oper} {o : Oper} {a : Act} {Q : Exit → Act → World → Prop} (hgd : o.guard = none) (sl x : Operand) (t u : TypeId)
    (ho : o.op = .call { callee := .builtin .append, args := #[sl, x], argTypes := #[t, u] })
    (base : Nat) (e : TypeId) (i : TypeInfo) (ht : P.underlying t = some (.slice e)) (hu : P.underlying u = some .string) (hi : P.info? e = some i) (hz : i.zero = some (.int .u8 0))
    (hsize : i.size = 1) (hby : i.bytes = 1)
    (v : Value) (n : Nat) (xs : List Value) (hs : a.eval sl = v) (hown : w.ownsRowF base e 1 v n xs) (s : ByteArray) (hx : a.eval x = .string s)
    (h63 : n + s.size ≤ maxLen) (hbytes : n + s.size ≤ 140737488355328) (hbase : base ≤ w.heap.size)
    (h : ∀ v' w', w'.ownsRowF base e 1 v' (n + s.size) (xs ++ Lib.strCells s) → w.grownBy w' v.ownBlock → (v'.ownBlock = v.ownBlock ∨ ∀ g, v'.ownBlock = some g → w.heap.size ≤ g) → wpList P ops Q rest (a.put o.dst v') w') : wpList P ops Q (o :: rest) a w := by
  refine wpList_plain hgd fun K hK => ?_
  obtain ⟨v', w', hr, h2, h3, h4⟩ := run_append_own_stringS (P := P) w base t u o.type e i ht hu hi hz hsize hby v n xs hown s h63 hbytes hbase
  unfold Oper.wp execOp
  simp only [ho, resolve, invoke, builtin, Sem.run_bind, Sem.run_pure, Result.andThen_ok, List.map_toArray, List.map_cons, List.map_nil, hs, hx, hr]
  exact hK _ _ (h v' w' h2 h3 h4)
theorem freeze_grown (w : World) (g k : Nat) : w.grownBy (w.freeze ⟨g, 0, none⟩ k) (some g) := by
  unfold World.freeze
  split
  · exact ⟨rfl, rfl, rfl, Nat.le_refl _, fun _ _ _ => rfl⟩
  · refine ⟨rfl, rfl, rfl, by simp, fun j hj hne => ?_⟩
    simp only [Array.getElem?_modify]
    rw [if_neg (fun e => hne (by rw [← e]))]
theorem own_froze {w : World} {t : TypeId} {b k g cap : Nat} {xs : List Value} (own : w.ownsRowF b t 1 (.slice (some ⟨g, 0, none⟩) k cap) k xs) : (w.freeze ⟨g, 0, none⟩ k).ownsRowF b t 1 (.slice (some ⟨g, 0, none⟩) k cap) k xs := by
  unfold World.freeze
  split
  · exact own
  · rcases own.2 with ⟨e, _⟩ | ⟨g', cap', cur, fz, e, hbg, hg, hfz, rest⟩
    · cases e
    · cases e
      obtain ⟨lo, hi⟩ := fz
      refine ⟨own.1, .inr ⟨g, cap, cur, (if lo == hi then (0, 0 + k) else (min lo 0, max hi (0 + k))), rfl, hbg, ?_, ?_, rest⟩⟩
      · simp [Array.getElem?_modify, hg]
      · simp only at hfz
        split <;> simp <;> omega
/-- a journal: its block, its buffer, how many records it has, and its bytes -/
abbrev JX (a jb : Nat) (p buf : Value) (m : Nat) (B : ByteArray) (X : Ths) : Ths := (a, .row jb 45 #[p, buf, .int .i64 (m : Nat), .bool false, .int .i64 0, .bool false]) :: (a + 1, .ownF 5 buf B.size (Lib.strCells B)) :: X
structure Jn (n : Nat) (w0 : World) (a jb m : Nat) (B : ByteArray) (X : Ths) (v : World) : Prop where
  ex : ∃ p buf, (p = .pointer none ∨ p = .pointer (some ⟨jb, 0, none⟩)) ∧ (B.size = 0 → buf = .slice none 0 0) ∧ TW n w0 (JX a jb p buf m B X) v
  n1 : New a X
  n2 : New (a + 1) X
section
variable {n : Nat} {w0 v v' : World} {a jb m : Nat} {B : ByteArray} {X X' : Ths} {p buf : Value}
theorem New.cons {b : Nat} {x : Th} (h : New b X) (hne : a ≠ b) : New b ((a, x) :: X) := fun y hy => by
  rcases List.mem_cons.1 hy with rfl | hy
  · exact hne
  · exact h y hy
theorem ownF_form {t : TypeId} {k : Nat} {u : Value} {xs : List Value} (h : v.ownsRowF n t 1 u k xs) (hk : 1 ≤ k) : ∃ g cap cur fz, u = .slice (some ⟨g, 0, none⟩) k cap ∧ n ≤ g ∧ v.heap[g]? = some (.cells cur t fz) ∧ fz.2 ≤ k * 1 ∧ k ≤ cap ∧ cap ≤ maxLen ∧ cur.size = cap * 1 ∧ cur.toList.take (k * 1) = xs := by
  rcases h.2 with ⟨_, h0⟩ | h
  · omega
  · exact h
theorem info5c : (Tryd.prog.info? 5).map (fun i => (i.zero, i.size, i.bytes)) = some (some (.int .u8 0), 1, 1) := by kernel_rfl
theorem info43 : (Tryd.prog.info? 43).map (·.size) = some 2 := by kernel_rfl
theorem lies43 : liesAt Tryd.prog Tryd.prog.depth 45 (6 / Tryd.prog.cellsOf 45) 0 43 1 = true := by kernel_rfl
set_option maxHeartbeats 1000000 in
set_option maxRecDepth 100000 in
theorem cc_fresh (b : Nat) (w : World) (h0 : w.cell? ⟨b, 0, none⟩ = some (.pointer none)) (hsh : w.shape? b = some (45, 6)) (hfz : w.frozen? ⟨b, 0, none⟩ = false) :
    Calls Tryd.prog 23 #[.pointer (some ⟨b, 0, none⟩)] w fun e w' => e = .returned (.tuple #[]) ∧ w' = w.setCell ⟨b, 0, none⟩ (.pointer (some ⟨b, 0, none⟩)) := by
  obtain ⟨j, hj, hjs⟩ := Option.map_eq_some_iff.1 info43
  go_enter Tryd.func23, Tryd.ntmps23
  go_wp2
  rw [Lib.run_to_unsafe w ⟨b, 0, none⟩ Tryd.underlying40 Tryd.underlying73 hj (by rw [hjs]; decide) hsh (show 0 < 6 by decide)]
  simp only [Result.andThen]
  rw [Oper.upon_value]
  go_wp2
  rw [run_callFunc_extern Tryd.func30 (by kernel_rfl) (by kernel_rfl) (by kernel_rfl) (e := Extern.AbiNoEscape.same) (by kernel_rfl)]
  rw [Lib.run_noEscape]
  simp only [Result.andThen]
  rw [Oper.upon_value]
  go_wp2
  rw [Lib.run_from_unsafe w ⟨b, 0, none⟩ Tryd.underlying73 Tryd.underlying40 hj hsh lies43]
  simp only [Result.andThen]
  rw [Oper.upon_value]
  go_wp2
  go_end0
  exact ⟨rfl, rfl⟩
theorem cc_used (b : Nat) (w : World) (h0 : w.cell? ⟨b, 0, none⟩ = some (.pointer (some ⟨b, 0, none⟩))) :
    Calls Tryd.prog 23 #[.pointer (some ⟨b, 0, none⟩)] w fun e w' => e = .returned (.tuple #[]) ∧ w = w' := by
  obtain ⟨j, hj, hjs⟩ := Option.map_eq_some_iff.1 info43
  have hne := fun w : World => Lib.run_neq_ptr_same (P := Tryd.prog) w ⟨b, 0, none⟩ Tryd.underlying40 hj
  go_enter Tryd.func23, Tryd.ntmps23
  go_wp2
  go_end0
  exact ⟨rfl, rfl⟩
theorem cc_any (hp : p = .pointer none ∨ p = .pointer (some ⟨jb, 0, none⟩)) (n1 : New a X) (n2 : New (a + 1) X) (h : TW n w0 (JX a jb p buf m B X) v) :
    Calls Tryd.prog 23 #[.pointer (some ⟨jb, 0, none⟩)] v fun e v' => e = .returned (.tuple #[]) ∧ TW n w0 (JX a jb (.pointer (some ⟨jb, 0, none⟩)) buf m B X) v' := by
  have r := h.row List.mem_cons_self
  have c0 : v.cell? ⟨jb, 0, none⟩ = some p := (r.cell 0).trans rfl
  rcases hp with rfl | rfl
  · refine (cc_fresh jb v c0 (by unfold M.RowAt at r; simp [World.shape?, r]) (r.frozen 0)).mono ?_
    rintro e v' ⟨rfl, rfl⟩
    exact ⟨rfl, h.setCell (n1.cons (by omega)) 0 _⟩
  · refine (cc_used jb v c0).mono ?_
    rintro e v' ⟨rfl, rfl⟩
    exact ⟨rfl, h⟩
set_option maxHeartbeats 2000000 in
set_option maxRecDepth 100000 in
theorem ws_any (h : Jn n w0 a jb m B X v) (s : ByteArray) (hs : 0 < s.size) (hb : B.size + s.size ≤ 1000000000) :
    Calls Tryd.prog 14 #[.pointer (some ⟨jb, 0, none⟩), .string s] v fun e v' => (∃ u, e = .returned u) ∧ Jn n w0 a jb m (B ++ s) X v' := by
  obtain ⟨p, buf, hp, hz, tw⟩ := h.ex
  have n1 := h.n1; have n2 := h.n2
  obtain ⟨i0, hi, hz0, hz1, hz2⟩ := info_parts info5c
  have CC := Lib.hid (cc_any hp n1 n2 tw)
  have HS := Lib.hid hs; have HB := Lib.hid hb; have N1 := Lib.hid n1; have N2 := Lib.hid n2
  clear hp hz tw h hs hb n1 n2
  go_enter Tryd.func14, Tryd.ntmps14
  go_wp2_with fail
  refine (CC.out).mono ?_
  rintro e v1 ⟨rfl, tw1⟩
  have r1 := tw1.row List.mem_cons_self
  have c1 : v1.cell? ⟨jb, 1, none⟩ = some buf := (r1.cell 1).trans rfl
  have f1 : v1.frozen? ⟨jb, 1, none⟩ = false := r1.frozen _
  have OWN := Lib.hid (tw1.ownF (a := a + 1) (List.mem_cons_of_mem _ List.mem_cons_self))
  have TW1 := Lib.hid tw1
  obtain ⟨k, hk⟩ : ∃ k, B.size = k := ⟨_, rfl⟩
  rw [hk] at OWN
  have HK := Lib.hid hk
  obtain ⟨ba, bl, bc, hbuf⟩ : ∃ ba bl bc, buf = .slice ba bl bc := by
    rcases OWN.out.2 with ⟨e, _⟩ | ⟨g, cap, cur, fz, e, _⟩
    · exact ⟨_, _, _, e⟩
    · exact ⟨_, _, _, e⟩
  subst hbuf
  clear CC tw1 hk r1
  go_wp2_with (first | (at_builtin; refine wpList_append_own_stringS _ rfl (.tmp 12) (.tmp 13) 41 9 rfl n 5 i0 Tryd.underlying41 Tryd.underlying9 hi hz0 hz1 hz2 (.slice ba bl bc) k (Lib.strCells B) ?a1 OWN.out s ?a2 ?a3 ?a4 ?a5 ?_) | fail)
  case a1 => rfl
  case a2 => rfl
  case a3 => have := HB.out; have := HK.out; unfold maxLen; omega
  case a4 => have := HB.out; have := HK.out; omega
  case a5 => exact TW1.out.ge
  intro v' w' ho hg hs'
  have eC : Lib.strCells (B ++ s) = Lib.strCells B ++ Lib.strCells s := by simp [Lib.strCells]
  have eS : (B ++ s).size = k + s.size := by rw [ByteArray.size_append, HK.out]
  have tw2 := (TW1.out.sub (X' := (a + 1, .ownF 5 (.slice ba bl bc) B.size (Lib.strCells B)) :: (a, .row jb 45 #[.pointer (some ⟨jb, 0, none⟩), .slice ba bl bc, .int .i64 (m : Nat), .bool false, .int .i64 0, .bool false]) :: X) (fun x hx => by simp only [List.mem_cons] at hx ⊢; rcases hx with e | e | e; exact .inr (.inl e); exact .inl e; exact .inr (.inr e))).change
    (x' := .ownF 5 v' (B ++ s).size (Lib.strCells (B ++ s))) (N2.out.cons (by omega)) hg (by
      show w'.ownsRowF n 5 1 v' _ _
      rw [eS, eC]; exact ho) hs'
  obtain ⟨va, vl, vc, hv⟩ : ∃ va vl vc, v' = .slice va vl vc := by
    rcases ho.2 with ⟨e, _⟩ | ⟨g, cap, cur, fz, e, _⟩
    · exact ⟨_, _, _, e⟩
    · exact ⟨_, _, _, e⟩
  subst hv
  have tw3 := tw2.sub (X' := (a, .row jb 45 #[.pointer (some ⟨jb, 0, none⟩), .slice ba bl bc, .int .i64 (m : Nat), .bool false, .int .i64 0, .bool false]) :: (a + 1, .ownF 5 (.slice va vl vc) (B ++ s).size (Lib.strCells (B ++ s))) :: X) (fun x hx => by simp only [List.mem_cons] at hx ⊢; rcases hx with e | e | e; exact .inr (.inl e); exact .inl e; exact .inr (.inr e))
  have c1' : w'.cell? ⟨jb, 1, none⟩ = some (.slice ba bl bc) := ((tw3.row List.mem_cons_self).cell 1).trans rfl
  have f1' : w'.frozen? ⟨jb, 1, none⟩ = false := (tw3.row List.mem_cons_self).frozen _
  have tw4 := tw3.setCell (N1.out.cons (by omega)) 1 (.slice va vl vc)
  have FIN := Lib.hid (show Jn n w0 a jb m (B ++ s) X (w'.setCell ⟨jb, 1, none⟩ (.slice va vl vc)) from ⟨⟨_, _, .inr rfl, fun h0 => by have := HS.out; omega, tw4⟩, N1.out, N2.out⟩)
  clear ho hg hs' eC eS tw2 tw3 tw4 c1 f1 OWN TW1
  go_wp2
  go_ret2
  exact ⟨⟨_, rfl⟩, FIN.out⟩
set_option maxHeartbeats 4000000 in
set_option maxRecDepth 100000 in
theorem str_any (h : Jn n w0 a jb m B X v) (hb : B.size ≤ 1000000000) : Calls Tryd.prog 17 #[.pointer (some ⟨jb, 0, none⟩)] v fun e v' => e = .returned (.string B) ∧ Jn n w0 a jb m B X v' := by
  obtain ⟨p, buf, hp, hz, tw⟩ := h.ex
  have n1 := h.n1; have n2 := h.n2
  have twd := tw.drew
  have r := twd.row List.mem_cons_self
  have own := twd.ownF (a := a + 1) (List.mem_cons_of_mem _ List.mem_cons_self)
  have c1 : v.drew.cell? ⟨jb, 1, none⟩ = some buf := (r.cell 1).trans rfl
  by_cases h0 : B.size = 0
  · obtain rfl := hz h0
    have hB : B = .empty := by
      apply ByteArray.ext
      have : B.data.size = 0 := h0
      exact Array.eq_empty_of_size_eq_zero this
    have hUS : (Builtin.unsafeString_ #[63, 3] 9 #[.pointer none, .int .i64 0]).run Tryd.prog v.drew = .ok (.string .empty) v.drew := Lib.run_unsafeString_none v.drew 63 3 9 none
    have hSD : (Builtin.unsafeSliceData_ #[41] 63 #[.slice none 0 0]).run Tryd.prog v.drew = .ok (.pointer none) v.drew := rfl
    have FIN := Lib.hid (show Jn n w0 a jb m B X v.drew from ⟨⟨p, _, hp, hz, twd⟩, n1, n2⟩)
    rw [hB]
    rw [hB] at FIN
    clear h hp hz tw twd n1 n2 r own hb h0 hB
    have mixed : Tryd.prog.follows .mixedOrders = true := by kernel_rfl
    go_enter Tryd.func17, Tryd.ntmps17
    go_wp2
    go_region_o
    all_goals (go_wp2; go_ret; exact ⟨rfl, FIN.out⟩)
  · obtain ⟨g, cap, cur, fz, rfl, hbg, hg, hfz, hnc, hcm, hcs, htake⟩ := ownF_form own (by omega)
    have hSD : (Builtin.unsafeSliceData_ #[41] 63 #[.slice (some ⟨g, 0, none⟩) B.size cap]).run Tryd.prog v.drew = .ok (.pointer (some ⟨g, 0, none⟩)) v.drew := Lib.run_unsafeSliceData_row _ _ _ _ _ _ (by omega)
    have hl : B.data.toList.length = B.size := by simp
    have hUS : (Builtin.unsafeString_ #[63, 3] 9 #[.pointer (some ⟨g, 0, none⟩), .int .i64 (B.size : Nat)]).run Tryd.prog v.drew = .ok (.string B) (v.drew.freeze ⟨g, 0, none⟩ B.size) := by
      have := Lib.run_unsafeString_row (P := Tryd.prog) v.drew 63 3 9 5 Tryd.underlying63 (by kernel_rfl) g cur.size (by simp [World.shape?, hg]) B.data.toList (by intro e; rw [e] at hl; simp at hl; omega) (by rw [hl]; omega) (by rw [hl]; omega) (fun j x hx => by
        have := own.cells (g := g) rfl j (.int .u8 x.toNat) (by unfold Lib.strCells; rw [List.getElem?_map, hx]; rfl)
        exact this)
      rw [hl] at this
      exact this
    have tw2 := (twd.sub (X' := (a + 1, .ownF 5 (.slice (some ⟨g, 0, none⟩) B.size cap) B.size (Lib.strCells B)) :: (a, .row jb 45 #[p, .slice (some ⟨g, 0, none⟩) B.size cap, .int .i64 (m : Nat), .bool false, .int .i64 0, .bool false]) :: X) (fun x hx => by simp only [List.mem_cons] at hx ⊢; rcases hx with e | e | e; exact .inr (.inl e); exact .inl e; exact .inr (.inr e))).change
      (v' := v.drew.freeze ⟨g, 0, none⟩ B.size) (x' := .ownF 5 (.slice (some ⟨g, 0, none⟩) B.size cap) B.size (Lib.strCells B)) (n2.cons (by omega)) (freeze_grown _ _ _) (own_froze own) (.inl rfl)
    have FIN := Lib.hid (show Jn n w0 a jb m B X (v.drew.freeze ⟨g, 0, none⟩ B.size) from ⟨⟨p, _, hp, fun e => absurd e h0, tw2.sub (fun x hx => by simp only [List.mem_cons] at hx ⊢; rcases hx with e | e | e; exact .inr (.inl e); exact .inl e; exact .inr (.inr e))⟩, n1, n2⟩)
    clear h hp hz tw twd n1 n2 r own hb h0 tw2 hbg hg hfz hnc hcm hcs htake hl
    generalize B.size = k at *
    have mixed : Tryd.prog.follows .mixedOrders = true := by kernel_rfl
    go_enter Tryd.func17, Tryd.ntmps17
    go_wp2
    go_region_o
    all_goals (go_wp2; go_ret; exact ⟨rfl, FIN.out⟩)
end
end Go.Proofs.YtiilgkhndfnkgaaDoor
