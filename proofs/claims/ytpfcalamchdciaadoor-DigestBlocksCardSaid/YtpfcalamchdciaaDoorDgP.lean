/- The walk of DigestBlocks; the conditions are that the tables are laid and that the words have 32 bits. -/
import Derived.Test.YtpfcalamchdciaaDoorDgQ
namespace Go.Proofs.YtpfcalamchdciaaDoor
open Go.RowKit
set_option linter.unusedVariables false

theorem eqItems_r32 (f : Nat → Nat) (W : World) : ∀ (is : List Nat), (∀ i ∈ is, i < 8) → (Op.eqItems 9999 32 1 (r32 8 f) (r32 8 f) is).run Tryd.prog W = .ok true W
  | [], _ => rfl
  | i :: is, h => by
    have hi := h i (by simp)
    have ih := eqItems_r32 f W is (fun j hj => h j (by simp [hj]))
    have hg : (r32 8 f)[i]? = some (.int .u32 (f i : Nat)) := M.rowF_get hi
    simp [Op.eqItems, part, ih, hg, go_sem]
set_option maxRecDepth 100000 in
theorem r32_eq (f : Nat → Nat) (W : World) : (Op.equalIn 10000 33 (.agg (r32 8 f)) (.agg (r32 8 f))).run Tryd.prog W = .ok true W := by
  have hi : ∃ i, Tryd.prog.info? 32 = some i := ⟨_, rfl⟩
  obtain ⟨i, hi⟩ := hi
  have hc : Tryd.prog.cellsOf 32 = 1 := by kernel_rfl
  have h := run_equalIn_array (P := Tryd.prog) (w := W) 9999 (r32 8 f) (r32 8 f) und33 hi
  rw [hc] at h
  exact h.trans (eqItems_r32 f W _ (fun j hj => List.mem_range.1 hj))

/-- the words came in block n; what the program's Compress told lies in block p, the reference's in q -/
structure PB (n p q : Nat) (w : World) (D E : Array Value) (v : World) : Prop where
  r5 : v.heap[p]? = some (.cells D 33 (0, 0))
  r7 : v.heap[q]? = some (.cells E 37 (0, 0))
  below : Below n w v
section
variable {n p q : Nat} {w : World} {D E : Array Value} {v v' : World}
theorem PB.drew (c : PB n p q w D E v) : PB n p q w D E v.drew := ⟨c.r5, c.r7, c.below.drew⟩
theorem PB.same (hn : n ≤ p) (c : PB n p q w D E v) (hb : Below v.heap.size v v') : PB n p q w D E v' :=
  ⟨M.RowAt.call c.r5 hb, M.RowAt.call c.r7 hb, c.below.trans (hb.mono (by have := M.RowAt.lt c.r5; omega))⟩
end

/-- what both Compress tell of any block -/
theorem both (s : Sha.St) (hs : s.ok) (b : ByteArray) : ∃ (s2 : Sha.St) (ok : Bool), s2.ok ∧
    (∀ v, Tabs v → Calls Tryd.prog 29 #[.agg (r32 8 s.get), .string b] v fun e w' => e = .returned (.tuple #[.agg (r32 8 s2.get), .bool ok]) ∧ Below v.heap.size v w') ∧
    (∀ v, Calls Tryd.prog 30 #[.agg (r64 8 s.get), .string b] v fun e w' => e = .returned (.tuple #[.agg (r64 8 s2.get), .bool ok]) ∧ Below v.heap.size v w') := by
  by_cases h : b.size = 64
  · exact ⟨Sha.compress s b, true, Sha.compress_ok s b, fun v hv => compress_any s b v hs h hv, fun v => rcompress_any s b v hs h⟩
  · exact ⟨s, false, hs, fun v _ => compress_bad s b v h, fun v => rcompress_bad s b v h⟩

set_option maxRecDepth 100000 in
set_option maxHeartbeats 2000000 in
theorem blocks_walk (s : Sha.St) (hs : s.ok) (b : ByteArray) (w : World) (ht : Tabs w) :
    Calls Tryd.prog 5 #[.agg (r32 8 s.get), .string b] w (Fine w) := by
  obtain ⟨n, hn⟩ : ∃ n, w.heap.size = n := ⟨_, rfl⟩
  have HN := Lib.hid hn
  have h1n : 1 < n := hn ▸ ht.lt
  have tb := fun v (hb : Below n w v) => ht.below hb h1n
  have sh := fun v (hb : Below n w v) => shown_any v (tb v hb)
  have nx : ∀ v v', Below n w v → Below v.heap.size v v' → Below n w v' := fun v v' h g => h.trans (g.mono (by rw [← hn]; exact h.size))
  have NX := Lib.hid nx
  have SH := Lib.hid sh
  obtain ⟨C, hC⟩ : ∃ C, r32 8 s.get = C := ⟨_, rfl⟩
  have sC : C.size = 8 := by rw [← hC, M.rowF_size]
  obtain ⟨v0, hv0⟩ : ∃ v0, w.alloc (.cells C 33) = v0 := ⟨_, rfl⟩
  have b0 : Below n w v0 := by rw [← hv0, ← hn]; exact (Below.refl _ _).alloc (Nat.le_refl _) _
  have r0 : M.RowAt v0 n 33 C := by rw [← hv0, ← hn]; exact M.RowAt.new w 33 C
  have HV := Lib.hid hv0
  by_cases hlong : 200 < b.size
  · have hd : decide ((200 : Int) < b.size) = true := by simp; omega
    have hd' : (200 : Int) < b.size := by omega
    rw [hC]
    clear tb sh ht hlong h1n hn nx hv0 hC
    go_enter Tryd.func5, Tryd.ntmps5
    go_wp2_with fail
    rw [HV.out]
    refine (SH.out _ b0).mono ?_
    rintro e w' ⟨rfl, gq⟩
    have b1 := NX.out _ _ b0 gq
    go_wp2
    go_ret
    exact ⟨rfl, by rw [HN.out]; exact b1⟩
  · have hd : decide ((200 : Int) < b.size) = false := by simp; omega
    have hd' : ¬ (200 : Int) < b.size := by omega
    obtain ⟨s2, ok, hs2, c29, c30⟩ := both s hs b
    have cb := fun v => back_any s v hs
    have cw := fun v => words_any s2 v hs2
    have heq := fun W => r32_eq s2.get W
    have sD : (r32 8 s2.get).size = 8 := M.rowF_size
    have sE : (r64 8 s2.get).size = 8 := M.rowF_size
    have oD : (r32 8 s2.get).all (·.oneCell') = true := M.rowF_one
    have oE : (r64 8 s2.get).all (·.oneCell') = true := M.rowF_one
    generalize r32 8 s2.get = D at *
    generalize r64 8 s2.get = E at *
    generalize r64 8 s.get = B at *
    rw [hC] at c29 cb ⊢
    have iC : (Tryd.prog.info? 33).map (·.size) = some C.size := by rw [sC]; kernel_rfl
    have iD : (Tryd.prog.info? 33).map (·.size) = some D.size := by rw [sD]; kernel_rfl
    have iE : (Tryd.prog.info? 37).map (·.size) = some E.size := by rw [sE]; kernel_rfl
    have zD : (#[.int .u32 0, .int .u32 0, .int .u32 0, .int .u32 0, .int .u32 0, .int .u32 0, .int .u32 0, .int .u32 0] : Array Value).size = D.size := by rw [sD]; rfl
    have zE : (#[.int .u64 0, .int .u64 0, .int .u64 0, .int .u64 0, .int .u64 0, .int .u64 0, .int .u64 0, .int .u64 0] : Array Value).size = E.size := by rw [sE]; rfl
    have c29' := fun v (hb : Below n w v) => c29 v (tb v hb)
    have C29 := Lib.hid c29'; have C30 := Lib.hid c30; have CB := Lib.hid cb; have CW := Lib.hid cw
    clear tb sh ht hlong h1n hn nx hv0 hC c29 c29' c30 cb cw hs hs2 sC sD sE
    go_enter Tryd.func5, Tryd.ntmps5
    go_wp2_with fail
    rw [HV.out, HN.out]
    refine (SH.out _ b0).mono ?_
    rintro e w1 ⟨rfl, gq⟩
    have b1 := NX.out _ _ b0 gq
    have r1 := M.RowAt.call r0 gq
    clear gq b0 r0
    unfold M.RowAt at r1
    go_wp2_with (first
      | (refine wpList_load_row (x := .tmp 2) (ty := 33) (g := n) (cs := C) (t := 33) (fr := (0, 0)) ?_ ?_ ?_ _ r1 und33 rfl iC ?_; rfl; rfl; rfl)
      | fail)
    refine (C29.out _ b1).mono ?_
    rintro e w2 ⟨rfl, gq⟩
    have b2 := NX.out _ _ b1 gq
    have r2 := M.RowAt.call r1 gq
    clear gq b1 r1
    have hge : n ≤ w2.heap.size := by have := b2.size; rw [HN.out] at this; exact this
    have hlt := M.RowAt.lt r2
    obtain ⟨g, hg⟩ : ∃ g, w2.heap.size = g := ⟨_, rfl⟩
    obtain ⟨V, hV⟩ : ∃ V, w2.alloc (.cells #[.int .u32 0, .int .u32 0, .int .u32 0, .int .u32 0, .int .u32 0, .int .u32 0, .int .u32 0, .int .u32 0] 33) = V := ⟨_, rfl⟩
    have rV := M.RowAt.new w2 33 #[.int .u32 0, .int .u32 0, .int .u32 0, .int .u32 0, .int .u32 0, .int .u32 0, .int .u32 0, .int .u32 0]
    have bV := b2.alloc hge (.cells #[.int .u32 0, .int .u32 0, .int .u32 0, .int .u32 0, .int .u32 0, .int .u32 0, .int .u32 0, .int .u32 0] 33)
    have rC : M.RowAt (w2.alloc (.cells #[.int .u32 0, .int .u32 0, .int .u32 0, .int .u32 0, .int .u32 0, .int .u32 0, .int .u32 0, .int .u32 0] 33)) n 33 C := r2.alloc _
    rw [hV] at rV bV rC
    rw [hg] at rV hge hlt
    have rW := M.RowAt.setRow rV D
    have rC := M.RowAt.farRow rC (b := g) (by omega) D
    have bW := M.below_setRow (g := g) (cs := D) bV hge
    obtain ⟨U, hU⟩ : ∃ U, V.setRow g D = U := ⟨_, rfl⟩
    rw [hU] at rW rC bW
    have HG := Lib.hid hg; have HV2 := Lib.hid hV; have HU := Lib.hid hU
    unfold M.RowAt at rV rC
    have hge0 : n ≤ g := hge
    clear hg hV hU r2 b2 bV
    go_wp2_with (first
      | (rw [HG.out, HV2.out]; refine wpList_store_row (x := .tmp 5) (y := .tmp 21) (cells := D) (old := #[.int .u32 0, .int .u32 0, .int .u32 0, .int .u32 0, .int .u32 0, .int .u32 0, .int .u32 0, .int .u32 0]) (t := 33) (ty := 33) (g := g) ?_ ?_ ?_ ?_ rV iD zD oD ?_; rfl; rfl; rfl; rfl; rw [HU.out])
      | (refine wpList_load_row (x := .tmp 2) (ty := 33) (g := n) (cs := C) (t := 33) (fr := (0, 0)) ?_ ?_ ?_ _ rC und33 rfl iC ?_; rfl; rfl; rfl)
      | fail)
    clear rV rC HG HV2 HU hlt
    refine (CB.out _).mono ?_
    rintro e w3 ⟨rfl, gq⟩
    have b3 := NX.out _ _ bW gq
    have r3 := M.RowAt.call rW gq
    clear gq bW rW
    go_wp2_with fail
    refine (C30.out _).mono ?_
    rintro e w4 ⟨rfl, gq⟩
    have b4 := NX.out _ _ b3 gq
    have r4 := M.RowAt.call r3 gq
    clear gq b3 r3
    have hge4 : n ≤ w4.heap.size := by have := b4.size; rw [HN.out] at this; exact this
    have hlt := M.RowAt.lt r4
    obtain ⟨q, hq⟩ : ∃ q, w4.heap.size = q := ⟨_, rfl⟩
    obtain ⟨V, hV⟩ : ∃ V, w4.alloc (.cells #[.int .u64 0, .int .u64 0, .int .u64 0, .int .u64 0, .int .u64 0, .int .u64 0, .int .u64 0, .int .u64 0] 37) = V := ⟨_, rfl⟩
    have rV := M.RowAt.new w4 37 #[.int .u64 0, .int .u64 0, .int .u64 0, .int .u64 0, .int .u64 0, .int .u64 0, .int .u64 0, .int .u64 0]
    have bV := b4.alloc hge4 (.cells #[.int .u64 0, .int .u64 0, .int .u64 0, .int .u64 0, .int .u64 0, .int .u64 0, .int .u64 0, .int .u64 0] 37)
    have rD : M.RowAt (w4.alloc (.cells #[.int .u64 0, .int .u64 0, .int .u64 0, .int .u64 0, .int .u64 0, .int .u64 0, .int .u64 0, .int .u64 0] 37)) g 33 D := r4.alloc _
    rw [hV] at rV bV rD
    rw [hq] at rV hge4 hlt
    have rW := M.RowAt.setRow rV E
    have rD := M.RowAt.farRow rD (b := q) (by omega) E
    have bW := M.below_setRow (g := q) (cs := E) bV hge4
    have pb : PB n g q w D E (V.setRow q E) := ⟨rD, rW, bW⟩
    obtain ⟨U, hU⟩ : ∃ U, V.setRow q E = U := ⟨_, rfl⟩
    rw [hU] at pb
    have HG := Lib.hid hq; have HV2 := Lib.hid hV; have HU := Lib.hid hU
    unfold M.RowAt at rV
    clear hq hV hU r4 b4 bV rD rW bW hge4 hlt
    go_wp2_with (first
      | (rw [HG.out, HV2.out]; refine wpList_store_row (x := .tmp 7) (y := .tmp 28) (cells := E) (old := #[.int .u64 0, .int .u64 0, .int .u64 0, .int .u64 0, .int .u64 0, .int .u64 0, .int .u64 0, .int .u64 0]) (t := 37) (ty := 37) (g := q) ?_ ?_ ?_ ?_ rV iE zE oE ?_; rfl; rfl; rfl; rfl; rw [HU.out])
      | fail)
    clear rV HG HV2 HU
    have hne : n ≤ g := hge0
    have hoo : (ok == ok) = true := by simp
    refine QP.wp_region_p 6 (PB n g q w D E) (PB n g q w D E) (by kernel_rfl) (by kernel_rfl) pb.drew ?_
    iterate 10
      (refine QP.wpQ_step (fun K hK => ?_)
       go_simp
       first
         | (refine hK _ ?_; clear hK K)
         | (refine ⟨?_, hK _ ?_⟩; decide; clear hK K)
         | ((first | (apply Exists.intro; refine ⟨?_, hK _ ?_⟩) | refine ⟨⟨undef, ?_⟩, hK _ ?_⟩)
            first
              | (apply QP.al_p; decide; (focus (intro wq hq; (skip); first | (first | (refine QP.oat_load_row (ty := 33) (x := .tmp 5) (g := g) (t := 33) (cs := D) (fr := (0, 0)) ?_ ?_ _ hq.r5 und33 rfl iD hq; rfl; rfl) | (refine QP.oat_load_row (ty := 37) (x := .tmp 7) (g := q) (t := 37) (cs := E) (fr := (0, 0)) ?_ ?_ _ hq.r7 und37 rfl iE hq; rfl; rfl)) | (unfold QP.oat; go_simp; first | done | exact ⟨by assumption, rfl⟩ | exact rfl | assumption | (refine (CW.out _).mono ?_; rintro e w' ⟨rfl, gq⟩; exact ⟨rfl, hq.same hne gq⟩)))))
              | (apply QP.al_dep; decide; decide; (focus (intro wq hq; (skip); first | (first | (refine QP.oat_load_row (ty := 33) (x := .tmp 5) (g := g) (t := 33) (cs := D) (fr := (0, 0)) ?_ ?_ _ hq.r5 und33 rfl iD hq; rfl; rfl) | (refine QP.oat_load_row (ty := 37) (x := .tmp 7) (g := q) (t := 37) (cs := E) (fr := (0, 0)) ?_ ?_ _ hq.r7 und37 rfl iE hq; rfl; rfl)) | (unfold QP.oat; go_simp; first | done | exact ⟨by assumption, rfl⟩ | exact rfl | assumption | (refine (CW.out _).mono ?_; rintro e w' ⟨rfl, gq⟩; exact ⟨rfl, hq.same hne gq⟩)))))
              | (apply QP.al_bef; decide; decide; (focus (intro wq hq; (skip); first | (first | (refine QP.oat_load_row (ty := 33) (x := .tmp 5) (g := g) (t := 33) (cs := D) (fr := (0, 0)) ?_ ?_ _ hq.r5 und33 rfl iD hq; rfl; rfl) | (refine QP.oat_load_row (ty := 37) (x := .tmp 7) (g := q) (t := 37) (cs := E) (fr := (0, 0)) ?_ ?_ _ hq.r7 und37 rfl iE hq; rfl; rfl)) | (unfold QP.oat; go_simp; first | done | exact ⟨by assumption, rfl⟩ | exact rfl | assumption | (refine (CW.out _).mono ?_; rintro e w' ⟨rfl, gq⟩; exact ⟨rfl, hq.same hne gq⟩)))))
              | (apply QP.al_ok; decide; (focus (intro wq hq; (skip); first | (first | (refine QP.oat_load_row (ty := 33) (x := .tmp 5) (g := g) (t := 33) (cs := D) (fr := (0, 0)) ?_ ?_ _ hq.r5 und33 rfl iD hq; rfl; rfl) | (refine QP.oat_load_row (ty := 37) (x := .tmp 7) (g := q) (t := 37) (cs := E) (fr := (0, 0)) ?_ ?_ _ hq.r7 und37 rfl iE hq; rfl; rfl)) | (unfold QP.oat; go_simp; first | done | exact ⟨by assumption, rfl⟩ | exact rfl | assumption | (refine (CW.out _).mono ?_; rintro e w' ⟨rfl, gq⟩; exact ⟨rfl, hq.same hne gq⟩)))); (focus (intro wq hq; (skip); first | (first | (refine QP.oat_load_row (ty := 33) (x := .tmp 5) (g := g) (t := 33) (cs := D) (fr := (0, 0)) ?_ ?_ _ hq.r5 und33 rfl iD hq; rfl; rfl) | (refine QP.oat_load_row (ty := 37) (x := .tmp 7) (g := q) (t := 37) (cs := E) (fr := (0, 0)) ?_ ?_ _ hq.r7 und37 rfl iE hq; rfl; rfl)) | (unfold QP.oat; go_simp; first | done | exact ⟨by assumption, rfl⟩ | exact rfl | assumption | (refine (CW.out _).mono ?_; rintro e w' ⟨rfl, gq⟩; exact ⟨rfl, hq.same hne gq⟩)))))
            clear hK K))
    refine QP.wpQ_nil ?_
    intro wz bz
    go_wp2
    go_ret
    exact ⟨rfl, by rw [HN.out]; exact bz.below⟩
end Go.Proofs.YtpfcalamchdciaaDoor
