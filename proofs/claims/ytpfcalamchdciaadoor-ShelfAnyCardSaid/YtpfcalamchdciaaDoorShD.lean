/- What the shelf's Insert does: it answers, and the shelf's block is what it should be; the conditions are that the tables are laid and that the shelf's block is known. -/
import Derived.Test.YtpfcalamchdciaaDoorShC
import Derived.Test.YtpfcalamchdciaaDoorDpB
namespace Go.Proofs.YtpfcalamchdciaaDoor
open Go.RowKit
set_option linter.unusedVariables false

def insO (E : Nat → Ent) (T : Nat → Nat) (i : Int) : Bool := lowB E (dif T i) (place i)
def insR (E : Nat → Ent) (T : Nat → Nat) (i : Int) : Int := if can i i then (if insO E T i then 50 else 0) else 1
def insE (E : Nat → Ent) (T : Nat → Nat) (i : Int) : Nat → Ent := if can i i then (if insO E T i then E else putE E (place i) ⟨true, i, T⟩) else E

theorem foldl_spl (k : Nat) : ∀ (l : List Value) (Z : Array Value) (j : Nat), List.foldl (fun (cs : Array Value) (x : Value × Nat) => cs.setIfInBounds (k + x.2) x.1) Z (l.zipIdx j) = spl Z (k + j) l
  | [], _, _ => rfl
  | v :: r, Z, j => by
    rw [List.zipIdx_cons, List.foldl_cons]
    exact foldl_spl k r _ (j + 1)
theorem build_put' (x y : Value) (Z C : Array Value) (hC : C.size = 32) (hZ : Z.size = 34) (h0 : Z[0]? = some x) (h1 : Z[1]? = some y) : Array.foldl (fun (cs : Array Value) (x : Value × Nat) => cs.setIfInBounds (2 + x.2) x.1) Z C.zipIdx 0 C.size = #[x, y] ++ C := by
  have e : C.size = C.zipIdx.size := by simp
  rw [e, ← Array.foldl_toList, Array.toList_zipIdx, foldl_spl 2 C.toList _ 0]
  apply Array.ext_getElem?
  intro j
  have hl : C.toList.length = 32 := by rw [Array.length_toList, hC]
  rw [spl_get _ _ _ _ (by omega), hl, Array.getElem?_append, show (#[x, y] : Array Value).size = 2 from rfl]
  by_cases h : 2 ≤ j ∧ j < 34
  · rw [if_pos (by omega), if_neg (show ¬ j < 2 by omega), Array.getElem?_toList]
  · rw [if_neg (by omega)]
    by_cases h2 : j < 2
    · rw [if_pos h2]
      match j, h2 with
      | 0, _ => exact h0
      | 1, _ => exact h1
    · rw [if_neg h2, Array.getElem?_eq_none (show Z.size ≤ j by omega), Array.getElem?_eq_none (show C.size ≤ j - 2 by omega)]
theorem build_put (i : Int) (C : Array Value) (hC : C.size = 32) : Array.foldl (fun (cs : Array Value) (x : Value × Nat) => cs.setIfInBounds (2 + x.2) x.1) (#[.bool true, .int .i64 i, .int .u8 0, .int .u8 0, .int .u8 0, .int .u8 0, .int .u8 0, .int .u8 0, .int .u8 0, .int .u8 0, .int .u8 0, .int .u8 0, .int .u8 0, .int .u8 0, .int .u8 0, .int .u8 0, .int .u8 0, .int .u8 0, .int .u8 0, .int .u8 0, .int .u8 0, .int .u8 0, .int .u8 0, .int .u8 0, .int .u8 0, .int .u8 0, .int .u8 0, .int .u8 0, .int .u8 0, .int .u8 0, .int .u8 0, .int .u8 0, .int .u8 0, .int .u8 0] : Array Value) C.zipIdx 0 C.size = #[Value.bool true, Value.int .i64 i] ++ C :=
  build_put' _ _ _ C hC rfl rfl rfl
/-- the shelf's block s is known, and two boxes -/
structure SI (s : Nat) (w : World) (a b : Nat) (A B : Array Value) (C : Array Value) (v : World) : Prop where
  row : M.RowAt v s 71 C
  ra : M.RowAt v a 28 A
  rb : M.RowAt v b 3 B
  but : M.But s w v
section
variable {s a b : Nat} {w v : World} {A B C : Array Value}
theorem SI.hra (h : SI s w a b A B C v) : v.heap[a]? = some (.cells A 28 (0, 0)) := h.ra
theorem SI.drew (h : SI s w a b A B C v) : SI s w a b A B C v.drew := ⟨h.row.drew, h.ra.drew, h.rb.drew, h.but.drew⟩
end
theorem but_setCells {g : Nat} {w : World} : ∀ (vs : List Value) (o : Nat) (v : World), M.But g w v → M.But g w (v.setCells g o vs)
  | [], _, _, h => h
  | u :: r, o, v, h => by
    rw [World.setCells]
    exact but_setCells r _ _ (h.set (p := ⟨g, o, none⟩) (.inl rfl) u)

set_option maxRecDepth 100000 in
set_option maxHeartbeats 4000000 in
theorem insert_any (s : Nat) (E : Nat → Ent) (T : Nat → Nat) (i : Int) (w : World) (ht : Tabs w) (hz : TzT w) (hT : ∀ j, T j < 256) (hs : M.RowAt w s 71 (shC E)) :
    Calls Tryd.prog 48 #[.pointer (some ⟨s, 0, none⟩), .int .i64 i, .agg (r8 32 T)] w fun e w' => e = .returned (.int .i64 (insR E T i)) ∧ M.RowAt w' s 71 (shC (insE E T i)) ∧ M.But s w w' := by
  obtain ⟨n, hn⟩ : ∃ n, w.heap.size = n := ⟨_, rfl⟩
  have HN := Lib.hid hn
  have h1n : 1 < n := hn ▸ ht.lt
  have h3n : 3 < n := hn ▸ hz.lt
  have hsn : s < n := hn ▸ hs.lt
  have tb := fun v (hb : Below n w v) => ht.below hb h1n
  have tz := fun v (hb : Below n w v) => hz.below hb h3n
  have row := fun v (hb : Below n w v) => hs.below hb hsn
  have k0 := ((KB.start w).new 3 #[.int .i64 i]).new 28 (r8 32 T)
  rw [World.size_alloc, hn] at k0
  have but := fun v (hb : Below n w v) => M.But.ofBelow s (hn.symm ▸ hb : Below w.heap.size w v)
  have ROW := Lib.hid row; have TB := Lib.hid tb; have TZ := Lib.hid tz; have BUT := Lib.hid but
  obtain ⟨V, hV⟩ : ∃ V, (w.alloc (.cells #[.int .i64 i] 3)).alloc (.cells (r8 32 T) 28) = V := ⟨_, rfl⟩
  rw [hV] at k0
  have HV := Lib.hid hV
  have cn := can_b i i V (tz V k0.below)
  have c0 : V.cell? ⟨n, 0, none⟩ = some (.int .i64 i) := (M.RowAt.cell (k0.row n 3 #[.int .i64 i] (by simp)) 0).trans rfl
  cases hci : can i i
  · have e1 : insR E T i = 1 := by unfold insR; rw [hci]; rfl
    have e2 : insE E T i = E := by unfold insE; rw [hci]; rfl
    rw [e1, e2]
    rw [hci] at cn
    have CN := Lib.hid cn
    generalize r8 32 T = C at *
    clear e1 e2 cn hV tb tz ht hz h1n h3n hsn row but hs hci
    go_enter Tryd.func48, Tryd.ntmps48
    go_wp2_with (first | (rw [HV.out]) | fail)
    refine (CN.out).mono ?_
    rintro r w1 ⟨rfl, gq⟩
    have k1 := k0.same gq
    clear gq k0 c0
    go_wp2
    go_ret
    exact ⟨rfl, ROW.out _ k1.below, BUT.out _ k1.below⟩
  · rw [hci] at cn
    have hpl := place_le i
    have pc := fun v (hb : Below n w v) => place_b i v (tz v hb)
    have lw := fun v (k : KB n w [(n + 1, 28, r8 32 T), (n, 3, #[.int .i64 i])] v) => lowest_any s (place i) 70 E (dif T i) #[.pointer (some ⟨n + 1, 0, none⟩), .pointer (some ⟨n, 0, none⟩)] v (row v k.below) (by omega) enters70
      (fun b _ _ u hb => dif_any (E b) T i (n + 1) n u (tb u (k.same hb).below) (tz u (k.same hb).below) hT ((k.same hb).row (n + 1) 28 _ (by simp)) ((k.same hb).row n 3 _ (by simp)))
    have e1 : insR E T i = if insO E T i then 50 else 0 := by unfold insR; rw [hci]; rfl
    have e2 : insE E T i = if insO E T i then E else putE E (place i) ⟨true, i, T⟩ := by unfold insE; rw [hci]; rfl
    rw [e1, e2]
    have e3 : lowB E (dif T i) (place i) = insO E T i := rfl
    rw [e3] at lw
    have iL := ent_info (lowV E (dif T i) (place i))
    have oL := (lowV E (dif T i) (place i)).row_one
    have zL : Z68.size = (lowV E (dif T i) (place i)).row.size := by unfold Z68; rw [Ent.row_size, Ent.row_size]
    generalize (lowV E (dif T i) (place i)).row = R at *
    have hsne : s ≠ n + 1 ∧ s ≠ n := ⟨by omega, by omega⟩
    have HSN := Lib.hid hsne
    clear hsne
    have CN := Lib.hid cn; have PC := Lib.hid pc; have LW := Lib.hid lw
    have iT := r8_info T
    have hput := fun v (h : M.RowAt v s 71 (shC E)) => row_setCells (Ent.cells ⟨true, i, T⟩) _ (place i * 34) v h
    have hsp := shC_put E (place i) (by omega) ⟨true, i, T⟩
    rw [Nat.mul_comm] at hsp
    rw [hsp] at hput
    have hth : ∀ v, M.RowAt v s 71 (shC E) → v.there s (place i * 34) 34 := fun v h => by rw [Nat.mul_comm]; exact sh_there h (place i) (by omega)
    have hcl : Ent.cells ⟨true, i, T⟩ = (#[Value.bool true, Value.int .i64 i] ++ r8 32 T).toList := by unfold Ent.cells; simp
    have h34 : (#[Value.bool true, Value.int .i64 i] ++ r8 32 T).size = 34 := by simp [r8_size]
    have i34 : (Tryd.prog.info? 68).map (·.size) = some (#[Value.bool true, Value.int .i64 i] ++ r8 32 T).size := by rw [h34]; kernel_rfl
    have o34 : (#[Value.bool true, Value.int .i64 i] ++ r8 32 T).all (·.oneCell') = true := by have := Ent.row_one ⟨true, i, T⟩; unfold Ent.row at this; rwa [hcl, Array.toArray_toList] at this
    rw [hcl] at hput
    have hlt : place i < 17 := by omega
    have hC32 : (r8 32 T).size = 32 := r8_size T
    have HC32 := Lib.hid hC32; have HBP := Lib.hid (build_put i (r8 32 T) hC32)
    clear hC32
    generalize place i = p at *
    obtain ⟨S2, hS2⟩ : ∃ S2, shC (putE E p ⟨true, i, T⟩) = S2 := ⟨_, rfl⟩
    rw [hS2] at hput
    have HS2 := Lib.hid hS2
    clear hS2
    generalize r8 32 T = C at *
    have HNN := Lib.hid (rfl : #[Value.bool true, Value.int .i64 i] ++ C = #[Value.bool true, Value.int .i64 i] ++ C)
    clear cn pc lw hV tb tz ht hz h1n h3n hsn but hs hci hcl hsp e1 e2 e3
    cases ho : insO E T i
    · rw [ho] at LW
      have hth' : ∀ v, SI s w (n + 1) n C #[.int .i64 i] (shC E) v → v.there s (p * 34) (#[Value.bool true, Value.int .i64 i] ++ C).size := fun v h => by rw [h34]; exact hth v h.row
      have hst : ∀ v, SI s w (n + 1) n C #[.int .i64 i] (shC E) v → SI s w (n + 1) n C #[.int .i64 i] S2 (v.setCells s (p * 34) (#[Value.bool true, Value.int .i64 i] ++ C).toList) := fun v h => ⟨hput v h.row, row_setCells_far HSN.out.1 _ _ _ h.ra, row_setCells_far HSN.out.2 _ _ _ h.rb, but_setCells _ _ _ h.but⟩
      have cbq : ∀ v, SI s w (n + 1) n C #[.int .i64 i] (shC E) v → v.cell? ⟨n, 0, none⟩ = some (.int .i64 i) := fun v h => (M.RowAt.cell h.rb 0).trans rfl
      have TH := Lib.hid hth'; have ST := Lib.hid hst; have CB := Lib.hid cbq
      clear hput hth hth' hst cbq row
      go_enter Tryd.func48, Tryd.ntmps48
      go_wp2_with (first | (rw [HV.out]) | fail)
      refine (CN.out).mono ?_
      rintro r w1 ⟨rfl, gq⟩
      have k1 := k0.same gq
      have c1 : w1.cell? ⟨n, 0, none⟩ = some (.int .i64 i) := (M.RowAt.cell (k1.row n 3 #[.int .i64 i] (by simp)) 0).trans rfl
      clear gq k0 c0 hn
      go_wp2_with fail
      refine (PC.out _ k1.below).mono ?_
      rintro r w2 ⟨rfl, gq⟩
      have k2 := k1.same gq
      clear gq k1 c1
      go_wp2_with fail
      refine (LW.out _ k2).mono ?_
      rintro r w3 ⟨rfl, gq⟩
      have k3 := k2.same gq
      clear gq k2
      obtain ⟨g, VG, UG, hg, hVG, rVG, hUG, kg, geg, ltg⟩ := k3.box 68 (#[.bool false, .int .i64 0, .int .u8 0, .int .u8 0, .int .u8 0, .int .u8 0, .int .u8 0, .int .u8 0, .int .u8 0, .int .u8 0, .int .u8 0, .int .u8 0, .int .u8 0, .int .u8 0, .int .u8 0, .int .u8 0, .int .u8 0, .int .u8 0, .int .u8 0, .int .u8 0, .int .u8 0, .int .u8 0, .int .u8 0, .int .u8 0, .int .u8 0, .int .u8 0, .int .u8 0, .int .u8 0, .int .u8 0, .int .u8 0, .int .u8 0, .int .u8 0, .int .u8 0, .int .u8 0]) R
      have Hg := Lib.hid hg; have HVG := Lib.hid hVG; have HUG := Lib.hid hUG
      clear hg hVG hUG k3 ltg
      go_wp2_with (first
        | (rw [Hg.out, HVG.out]; refine wpList_store_row (x := .tmp 8) (y := .tmp 21) (cells := R) (old := #[.bool false, .int .i64 0, .int .u8 0, .int .u8 0, .int .u8 0, .int .u8 0, .int .u8 0, .int .u8 0, .int .u8 0, .int .u8 0, .int .u8 0, .int .u8 0, .int .u8 0, .int .u8 0, .int .u8 0, .int .u8 0, .int .u8 0, .int .u8 0, .int .u8 0, .int .u8 0, .int .u8 0, .int .u8 0, .int .u8 0, .int .u8 0, .int .u8 0, .int .u8 0, .int .u8 0, .int .u8 0, .int .u8 0, .int .u8 0, .int .u8 0, .int .u8 0, .int .u8 0, .int .u8 0]) (t := 68) (ty := 68) (g := g) ?_ ?_ ?_ ?_ rVG iL zL oL ?_; rfl; rfl; rfl; rfl; rw [HUG.out])
        | fail)
      have si : SI s w (n + 1) n C #[.int .i64 i] (shC E) UG := ⟨ROW.out _ kg.below, kg.row (n + 1) 28 C (by simp), kg.row n 3 _ (by simp), BUT.out _ kg.below⟩
      clear rVG Hg HVG HUG
      have hp3 : (p : Int) < 17 := by omega
      have hp4 : (0 : Int) ≤ p := by omega
      refine QT.wp_region_p 8 (SI s w (n + 1) n C #[.int .i64 i] (shC E)) (SI s w (n + 1) n C #[.int .i64 i] S2) (by kernel_rfl) (by kernel_rfl) si.drew ?_
      iterate 9
        (refine QT.wpQ_step (fun K hK => ?_)
         go_simp
         first
           | (refine hK _ ?_; clear hK K)
           | (refine ⟨?_, hK _ ?_⟩; decide; clear hK K)
           | ((first | (apply Exists.intro; refine ⟨?_, hK _ ?_⟩) | refine ⟨⟨undef, ?_⟩, hK _ ?_⟩)
              first
                | (apply QT.al_p; decide; (focus (intro wq hq; (first | (have cb := CB.out _ hq) | skip); first | (first | ((with_reducible refine QP.oat_load_row (ty := 28) (x := .tmp 5) (g := n + 1) (t := 28) (cs := C) (fr := (0, 0)) ?_ ?_ _ hq.hra und28 ?_ iT hq); rfl; rfl; rfl) | ((with_reducible refine oat_store_mid (ty := 68) (x := .tmp 31) (y := .tmp 28) (b := s) (off := p * 34) (cells := #[Value.bool true, Value.int .i64 i] ++ C) ?_ ?_ ?_ (TH.out _ hq) i34 o34 (ST.out _ hq)); rfl; rfl; rfl)) | (unfold QP.oat; go_simp; first | done | exact ⟨by assumption, rfl⟩ | exact rfl | assumption | ((rw [if_neg, HBP.out]; exact ⟨hq, rfl⟩; (simp [HC32.out])))))))
                | (apply QT.al_dep; decide; decide; (focus (intro wq hq; (first | (have cb := CB.out _ hq) | skip); first | (first | ((with_reducible refine QP.oat_load_row (ty := 28) (x := .tmp 5) (g := n + 1) (t := 28) (cs := C) (fr := (0, 0)) ?_ ?_ _ hq.hra und28 ?_ iT hq); rfl; rfl; rfl) | ((with_reducible refine oat_store_mid (ty := 68) (x := .tmp 31) (y := .tmp 28) (b := s) (off := p * 34) (cells := #[Value.bool true, Value.int .i64 i] ++ C) ?_ ?_ ?_ (TH.out _ hq) i34 o34 (ST.out _ hq)); rfl; rfl; rfl)) | (unfold QP.oat; go_simp; first | done | exact ⟨by assumption, rfl⟩ | exact rfl | assumption | ((rw [if_neg, HBP.out]; exact ⟨hq, rfl⟩; (simp [HC32.out])))))))
                | (apply QT.al_bef; decide; decide; (focus (intro wq hq; (first | (have cb := CB.out _ hq) | skip); first | (first | ((with_reducible refine QP.oat_load_row (ty := 28) (x := .tmp 5) (g := n + 1) (t := 28) (cs := C) (fr := (0, 0)) ?_ ?_ _ hq.hra und28 ?_ iT hq); rfl; rfl; rfl) | ((with_reducible refine oat_store_mid (ty := 68) (x := .tmp 31) (y := .tmp 28) (b := s) (off := p * 34) (cells := #[Value.bool true, Value.int .i64 i] ++ C) ?_ ?_ ?_ (TH.out _ hq) i34 o34 (ST.out _ hq)); rfl; rfl; rfl)) | (unfold QP.oat; go_simp; first | done | exact ⟨by assumption, rfl⟩ | exact rfl | assumption | ((rw [if_neg, HBP.out]; exact ⟨hq, rfl⟩; (simp [HC32.out])))))))
                | (apply QT.al_ok; decide; (focus (intro wq hq; (first | (have cb := CB.out _ hq) | skip); first | (first | ((with_reducible refine QP.oat_load_row (ty := 28) (x := .tmp 5) (g := n + 1) (t := 28) (cs := C) (fr := (0, 0)) ?_ ?_ _ hq.hra und28 ?_ iT hq); rfl; rfl; rfl) | ((with_reducible refine oat_store_mid (ty := 68) (x := .tmp 31) (y := .tmp 28) (b := s) (off := p * 34) (cells := #[Value.bool true, Value.int .i64 i] ++ C) ?_ ?_ ?_ (TH.out _ hq) i34 o34 (ST.out _ hq)); rfl; rfl; rfl)) | (unfold QP.oat; go_simp; first | done | exact ⟨by assumption, rfl⟩ | exact rfl | assumption | ((rw [if_neg, HBP.out]; exact ⟨hq, rfl⟩; (simp [HC32.out])))))); (focus (intro wq hq; (first | (have cb := CB.out _ hq) | skip); first | (first | ((with_reducible refine QP.oat_load_row (ty := 28) (x := .tmp 5) (g := n + 1) (t := 28) (cs := C) (fr := (0, 0)) ?_ ?_ _ hq.hra und28 ?_ iT hq); rfl; rfl; rfl) | ((with_reducible refine oat_store_mid (ty := 68) (x := .tmp 31) (y := .tmp 28) (b := s) (off := p * 34) (cells := #[Value.bool true, Value.int .i64 i] ++ C) ?_ ?_ ?_ (TH.out _ hq) i34 o34 (ST.out _ hq)); rfl; rfl; rfl)) | (unfold QP.oat; go_simp; first | done | exact ⟨by assumption, rfl⟩ | exact rfl | assumption | ((rw [if_neg, HBP.out]; exact ⟨hq, rfl⟩; (simp [HC32.out])))))))
              clear hK K))
      refine QT.wpQ_nil ?_
      intro wz bz
      go_wp2
      go_ret
      exact ⟨rfl, HS2.out.symm ▸ bz.row, bz.but⟩
    · rw [ho] at LW
      clear hput hth row
      go_enter Tryd.func48, Tryd.ntmps48
      go_wp2_with (first | (rw [HV.out]) | fail)
      refine (CN.out).mono ?_
      rintro r w1 ⟨rfl, gq⟩
      have k1 := k0.same gq
      have c1 : w1.cell? ⟨n, 0, none⟩ = some (.int .i64 i) := (M.RowAt.cell (k1.row n 3 #[.int .i64 i] (by simp)) 0).trans rfl
      clear gq k0 c0 hn
      go_wp2_with fail
      refine (PC.out _ k1.below).mono ?_
      rintro r w2 ⟨rfl, gq⟩
      have k2 := k1.same gq
      clear gq k1 c1
      go_wp2_with fail
      refine (LW.out _ k2).mono ?_
      rintro r w3 ⟨rfl, gq⟩
      have k3 := k2.same gq
      clear gq k2
      obtain ⟨g, VG, UG, hg, hVG, rVG, hUG, kg, geg, ltg⟩ := k3.box 68 (#[.bool false, .int .i64 0, .int .u8 0, .int .u8 0, .int .u8 0, .int .u8 0, .int .u8 0, .int .u8 0, .int .u8 0, .int .u8 0, .int .u8 0, .int .u8 0, .int .u8 0, .int .u8 0, .int .u8 0, .int .u8 0, .int .u8 0, .int .u8 0, .int .u8 0, .int .u8 0, .int .u8 0, .int .u8 0, .int .u8 0, .int .u8 0, .int .u8 0, .int .u8 0, .int .u8 0, .int .u8 0, .int .u8 0, .int .u8 0, .int .u8 0, .int .u8 0, .int .u8 0, .int .u8 0]) R
      have Hg := Lib.hid hg; have HVG := Lib.hid hVG; have HUG := Lib.hid hUG
      clear hg hVG hUG k3 ltg
      go_wp2_with (first
        | (rw [Hg.out, HVG.out]; refine wpList_store_row (x := .tmp 8) (y := .tmp 21) (cells := R) (old := #[.bool false, .int .i64 0, .int .u8 0, .int .u8 0, .int .u8 0, .int .u8 0, .int .u8 0, .int .u8 0, .int .u8 0, .int .u8 0, .int .u8 0, .int .u8 0, .int .u8 0, .int .u8 0, .int .u8 0, .int .u8 0, .int .u8 0, .int .u8 0, .int .u8 0, .int .u8 0, .int .u8 0, .int .u8 0, .int .u8 0, .int .u8 0, .int .u8 0, .int .u8 0, .int .u8 0, .int .u8 0, .int .u8 0, .int .u8 0, .int .u8 0, .int .u8 0, .int .u8 0, .int .u8 0]) (t := 68) (ty := 68) (g := g) ?_ ?_ ?_ ?_ rVG iL zL oL ?_; rfl; rfl; rfl; rfl; rw [HUG.out])
        | fail)
      go_ret
      exact ⟨rfl, ROW.out _ kg.below, BUT.out _ kg.below⟩
end Go.Proofs.YtpfcalamchdciaaDoor
