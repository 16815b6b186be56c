/- What digest's Stream does: it keeps the words of the whole blocks and the rest; the condition is that the tables are laid. -/
import Derived.Test.YtpfcalamchdciaaDoorDpA
import Derived.Test.YtpfcalamchdciaaDoorDgG
namespace Go.Proofs.YtpfcalamchdciaaDoor
open Go.RowKit
set_option linter.unusedVariables false

abbrev strC (s : Sha.St) (d : Nat) (r : ByteArray) : Array Value := #[.int .u32 (s.a : Nat), .int .u32 (s.b : Nat), .int .u32 (s.c : Nat), .int .u32 (s.d : Nat), .int .u32 (s.e : Nat), .int .u32 (s.f : Nat), .int .u32 (s.g : Nat), .int .u32 (s.h : Nat), .int .u64 (d : Nat), .string r]
def sDone (a : ByteArray) : Nat := 64 * (a.size / 64)
def sRest (a : ByteArray) : ByteArray := a.extract (64 * (a.size / 64)) a.size
def sWords (a : ByteArray) : Sha.St := Sha.blk Sha.begin0 a (a.size / 64)
theorem sWords_ok (a : ByteArray) : (sWords a).ok := Sha.blk_ok Sha.begin0_ok _ _

/-- block b is a stream to which a came -/
structure StrAt (v : World) (b : Nat) (a : ByteArray) (s : Sha.St) : Prop where
  row : v.heap[b]? = some (.cells (strC s (sDone a) (sRest a)) 46 (0, 0))
  ok : s.ok
  big : 64 ≤ a.size → s = sWords a
section
variable {v v' : World} {b : Nat} {a : ByteArray} {s : Sha.St}
theorem StrAt.drew (h : StrAt v b a s) : StrAt v.drew b a s := ⟨h.row, h.ok, h.big⟩
theorem StrAt.same (h : StrAt v b a s) (hb : Below v.heap.size v v') : StrAt v' b a s := ⟨M.RowAt.call h.row hb, h.ok, h.big⟩
theorem StrAt.alloc (h : StrAt v b a s) (o : Obj) : StrAt (v.alloc o) b a s := ⟨M.RowAt.alloc h.row o, h.ok, h.big⟩
theorem StrAt.lt (h : StrAt v b a s) : b < v.heap.size := M.RowAt.lt h.row
theorem StrAt.setRow (h : StrAt v b a s) {g : Nat} (hg : g ≠ b) (cs : Array Value) : StrAt (v.setRow g cs) b a s := ⟨M.RowAt.farRow h.row hg cs, h.ok, h.big⟩
theorem StrAt.c8 (h : StrAt v b a s) : v.cell? ⟨b, 8, none⟩ = some (.int .u64 (sDone a : Nat)) := (M.RowAt.cell h.row 8).trans rfl
theorem StrAt.c9 (h : StrAt v b a s) : v.cell? ⟨b, 9, none⟩ = some (.string (sRest a)) := (M.RowAt.cell h.row 9).trans rfl
theorem StrAt.range (h : StrAt v b a s) : v.rangeAt b 0 (stV s).toList := fun j u hu => by
  rw [Array.getElem?_toList] at hu
  rw [Nat.zero_add, M.RowAt.cell h.row j]
  by_cases hj : j < 8
  · rw [M.rowF_get hj] at hu
    rw [← hu]
    match j, hj with
    | 0, _ => rfl
    | 1, _ => rfl
    | 2, _ => rfl
    | 3, _ => rfl
    | 4, _ => rfl
    | 5, _ => rfl
    | 6, _ => rfl
    | 7, _ => rfl
  · rw [M.rowF_out (by omega)] at hu; cases hu
end
theorem Tabs.drew' {w : World} (h : Tabs w) : Tabs w.drew := ⟨h.b, h.k⟩
theorem Tabs.alloc {w : World} (h : Tabs w) (o : Obj) : Tabs (w.alloc o) := h.below ((Below.refl _ w).alloc (Nat.le_refl _) o) h.lt

set_option maxRecDepth 100000 in
set_option maxHeartbeats 2000000 in
theorem soFar_any (b : Nat) (a : ByteArray) (s : Sha.St) (w : World) (ht : Tabs w) (hs : StrAt w b a s) (hsz : a.size ≤ 1000000000) :
    Calls Tryd.prog 62 #[.pointer (some ⟨b, 0, none⟩)] w fun e w' => e = .returned (.agg (stV (sWords a))) ∧ Below w.heap.size w w' := by
  obtain ⟨n, hn⟩ : ∃ n, w.heap.size = n := ⟨_, rfl⟩
  have HN := Lib.hid hn
  obtain ⟨v0, hv0⟩ : ∃ v0, w.alloc (.cells #[.int .u32 0, .int .u32 0, .int .u32 0, .int .u32 0, .int .u32 0, .int .u32 0, .int .u32 0, .int .u32 0] 33) = v0 := ⟨_, rfl⟩
  have r0 := M.RowAt.new w 33 Z8
  have b0 : Below n w (w.alloc (.cells Z8 33)) := hn ▸ (Below.refl _ _).alloc (Nat.le_refl _) _
  have s0 := hs.alloc (.cells Z8 33)
  have t0 := ht.alloc (.cells Z8 33)
  have hbn : b ≠ n := by have := hs.lt; omega
  have e0 : w.alloc (.cells Z8 33) = v0 := hv0
  rw [hn] at r0
  rw [e0] at r0 b0 s0 t0
  have HV := Lib.hid hv0
  have c8 := hs.c8
  have hbl : b < n := hn ▸ hs.lt
  have big := hs.big
  have ok := hs.ok
  have i8 : (Tryd.prog.info? 33).map (·.size) = some (stV (sWords a)).toList.length := by rw [Array.length_toList]; exact st_info _
  have iS := st_info (sWords a)
  have zS : Z8.size = (stV (sWords a)).size := by rw [st_size]; rfl
  have oS : (stV (sWords a)).all (·.oneCell') = true := M.rowF_one
  have q1 := M.RowAt.setRow r0 (stV (sWords a))
  have bW := M.below_setRow (g := n) (cs := stV (sWords a)) b0 (Nat.le_refl _)
  unfold M.RowAt at r0
  by_cases hbig : 64 ≤ a.size
  · have hd2 : (((sDone a : Nat) : Int) == 0) = false := by
      have : ((sDone a : Nat) : Int) ≠ 0 := by unfold sDone; omega
      simpa using this
    have rg := s0.range
    rw [big hbig] at rg
    generalize stV (sWords a) = D at *
    generalize ((sDone a : Nat) : Int) = d at *
    clear hv0 e0 hs ht big
    go_enter Tryd.func62, Tryd.ntmps62
    go_wp2_with (first
      | (rw [HV.out]; refine wpList_load_mid (ty := 33) (x := .tmp 11) (b := b) (o := 0) (cs := D.toList) ?_ ?_ ?_ _ rg Tryd.underlying33 rfl i8 ?_; rfl; rfl; rfl; rw [Array.toArray_toList])
      | (refine wpList_store_row (x := .tmp 2) (y := .tmp 12) (cells := D) (old := Z8) (t := 33) (ty := 33) (g := n) ?_ ?_ ?_ ?_ r0 iS zS oS ?_; rfl; rfl; rfl; rfl))
    have hload := run_loadVar_row (P := Tryd.prog) _ n 33 33 D (0, 0) _ q1 Tryd.underlying33 rfl iS
    refine bodyPost_ret (v := .agg D) (by simp [results, Tryd.results62, asAddr, Act.put, hload]) rfl ⟨rfl, ?_⟩
    rw [HN.out]
    exact bW
  · have hd2 : (((sDone a : Nat) : Int) == 0) = true := by
      have : ((sDone a : Nat) : Int) = 0 := by unfold sDone; omega
      simpa using this
    have rg := t0.range
    have e1 : stV Sha.begin0 = stV (sWords a) := by
      unfold sWords
      rw [show a.size / 64 = 0 by omega]; rfl
    rw [e1] at rg
    generalize stV (sWords a) = D at *
    generalize ((sDone a : Nat) : Int) = d at *
    clear hv0 e0 hs ht big e1
    go_enter Tryd.func62, Tryd.ntmps62
    go_wp2_with (first
      | (rw [HV.out]; refine wpList_load_mid (ty := 33) (x := .global 0) (b := 0) (o := 0) (cs := D.toList) ?_ ?_ ?_ _ rg Tryd.underlying33 rfl i8 ?_; rfl; rfl; rfl; rw [Array.toArray_toList])
      | (refine wpList_store_row (x := .tmp 2) (y := .tmp 8) (cells := D) (old := Z8) (t := 33) (ty := 33) (g := n) ?_ ?_ ?_ ?_ r0 iS zS oS ?_; rfl; rfl; rfl; rfl))
    have hload := run_loadVar_row (P := Tryd.prog) _ n 33 33 D (0, 0) _ q1 Tryd.underlying33 rfl iS
    refine bodyPost_ret (v := .agg D) (by simp [results, Tryd.results62, asAddr, Act.put, hload]) rfl ⟨rfl, ?_⟩
    rw [HN.out]
    exact bW

/-- what a write finds and leaves in block b, all else as it was -/
structure WC (b : Nat) (w : World) (C : Array Value) (v : World) : Prop where
  row : v.heap[b]? = some (.cells C 46 (0, 0))
  but : M.But b w v
section
variable {b : Nat} {w v v' : World} {C D : Array Value}
theorem WC.drew (h : WC b w C v) : WC b w C v.drew := ⟨h.row, h.but.drew⟩
theorem WC.same (h : WC b w C v) (hb : Below v.heap.size v v') : WC b w C v' := ⟨M.RowAt.call h.row hb, h.but.trans (M.But.ofBelow b hb)⟩
theorem WC.set (h : WC b w C v) (i : Nat) (u : Value) : WC b w (C.setIfInBounds i u) (v.setCell ⟨b, i, none⟩ u) := ⟨M.RowAt.set h.row i u, h.but.set (.inl rfl) u⟩
theorem Tabs.but {b : Nat} {w w' : World} (h : Tabs w) (hb : M.But b w w') (h1 : 1 < b) : Tabs w' := by
  have hl := h.lt
  exact ⟨fun i hi => by rw [hb.cell (show 0 < w.heap.size by omega) (show 0 ≠ b by omega)]; exact h.b i hi, fun i hi => by rw [hb.cell hl (show 1 ≠ b by omega)]; exact h.k i hi⟩
end
theorem WC.set8 {b : Nat} {w v : World} {s s2 : Sha.St} {d : Nat} {r : ByteArray} (h : WC b w (strC s d r) v) : WC b w (strC s2 d r) (v.setCells b 0 (stV s2).toList) := by
  have l : (stV s2).toList = [.int .u32 (s2.a : Nat), .int .u32 (s2.b : Nat), .int .u32 (s2.c : Nat), .int .u32 (s2.d : Nat), .int .u32 (s2.e : Nat), .int .u32 (s2.f : Nat), .int .u32 (s2.g : Nat), .int .u32 (s2.h : Nat)] := rfl
  rw [l]
  simp only [World.setCells]
  have k := (((((((h.set 0 (.int .u32 (s2.a : Nat))).set 1 (.int .u32 (s2.b : Nat))).set 2 (.int .u32 (s2.c : Nat))).set 3 (.int .u32 (s2.d : Nat))).set 4 (.int .u32 (s2.e : Nat))).set 5 (.int .u32 (s2.f : Nat))).set 6 (.int .u32 (s2.g : Nat))).set 7 (.int .u32 (s2.h : Nat))
  simpa using k
theorem WC.there {b : Nat} {w v : World} {s : Sha.St} {d : Nat} {r : ByteArray} (h : WC b w (strC s d r) v) : v.there b 0 8 := fun j hj => by
  rw [Nat.zero_add, M.RowAt.cell h.row j, M.RowAt.frozen h.row j]
  refine ⟨?_, rfl⟩
  match j, hj with
  | 0, _ => rfl
  | 1, _ => rfl
  | 2, _ => rfl
  | 3, _ => rfl
  | 4, _ => rfl
  | 5, _ => rfl
  | 6, _ => rfl
  | 7, _ => rfl
theorem WC.c8 {b : Nat} {w v : World} {s : Sha.St} {d : Nat} {r : ByteArray} (h : WC b w (strC s d r) v) : v.cell? ⟨b, 8, none⟩ = some (.int .u64 (d : Nat)) := (M.RowAt.cell h.row 8).trans rfl
theorem WC.c9 {b : Nat} {w v : World} {s : Sha.St} {d : Nat} {r : ByteArray} (h : WC b w (strC s d r) v) : v.cell? ⟨b, 9, none⟩ = some (.string r) := (M.RowAt.cell h.row 9).trans rfl
theorem WC.fr {b : Nat} {w v : World} {C : Array Value} (h : WC b w C v) (i : Nat) : v.frozen? ⟨b, i, none⟩ = false := M.RowAt.frozen h.row i
theorem WC.str {b : Nat} {w v : World} {a : ByteArray} {s : Sha.St} (h : WC b w (strC s (sDone a) (sRest a)) v) (hok : s.ok) (hb : 64 ≤ a.size → s = sWords a) : StrAt v b a s := ⟨h.row, hok, hb⟩
theorem oat_store_mid {P : Program} {o : Oper} {a : Act} {w : World} {C' : World → Prop} (ty : TypeId) (x y : Operand) (ho : o.op = .store ty x y) (b off : Nat) (cells : Array Value) (hx : a.eval x = .pointer (some ⟨b, off, none⟩)) (hy : a.eval y = .agg cells)
    (ht : w.there b off cells.size) (hi : (P.info? ty).map (·.size) = some cells.size) (h1 : cells.all (·.oneCell') = true) (hC : C' (w.setCells b off cells.toList)) : QP.oat P o a C' w undef := by
  unfold QP.oat execOp
  simp only [ho, hx, hy, Instr.storeAt, Instr.sureAddr, Sem.run_bind, Sem.run_pure, Result.andThen_ok, run_storeVar_mid w b off ty cells ht hi h1]
  exact ⟨hC, rfl⟩

set_option maxRecDepth 100000 in
set_option maxHeartbeats 4000000 in
theorem write_any (b : Nat) (a t : ByteArray) (s : Sha.St) (w : World) (ht : Tabs w) (hs : StrAt w b a s) (h1 : 1 < b) (hsz : a.size ≤ 100000000) (htz : t.size ≤ 100000000) :
    Calls Tryd.prog 33 #[.pointer (some ⟨b, 0, none⟩), .string t] w fun e w' => e = .returned (.tuple #[]) ∧ StrAt w' b (a ++ t) (sWords (a ++ t)) ∧ M.But b w w' := by
  have hX : (sRest a ++ t).size = a.size % 64 + t.size := Sha.rest_size a t
  have haz : (a ++ t).size = a.size + t.size := ByteArray.size_append
  obtain ⟨m, hm⟩ : ∃ m, (a.size % 64 + t.size) / 64 = m := ⟨_, rfl⟩
  have hfin : (a ++ t).size / 64 = a.size / 64 + m := by rw [haz]; omega
  have hw : Sha.blk (sWords a) ((sRest a ++ t).extract 0 (64 * m)) (((sRest a ++ t).extract 0 (64 * m)).size / 64) = sWords (a ++ t) := by
    have e : ((sRest a ++ t).extract 0 (64 * m)).size / 64 = m := by simp only [ByteArray.size_extract]; omega
    rw [e, Sha.blk_cut _ _ _ (by omega)]
    unfold sWords sRest
    rw [Sha.blk_parts, hfin]
  have hd : sDone a + 64 * m = sDone (a ++ t) := by unfold sDone; rw [hfin]; omega
  have hr : (sRest a ++ t).extract (64 * m) (sRest a ++ t).size = sRest (a ++ t) := by
    unfold sRest
    rw [Sha.rest_join a t m (by omega), hfin]
  have wc0 : WC b w (strC s (sDone a) (sRest a)) w := ⟨hs.row, M.But.refl b w⟩
  have c9 := hs.c9
  have hXl : ((sRest a ++ t).extract 0 (64 * m)).size ≤ 1000000000 := by simp only [ByteArray.size_extract]; omega
  have so := fun v (h : WC b w (strC s (sDone a) (sRest a)) v) => soFar_any b a s v (ht.but h.but h1) (h.str hs.ok hs.big) (by omega)
  have bl := fun v (h : WC b w (strC s (sDone a) (sRest a)) v) => blocks_any (sWords a) ((sRest a ++ t).extract 0 (64 * m)) v (sWords_ok a) (ht.but h.but h1) (by omega)
  rw [hw] at bl
  have iN := st_info (sWords (a ++ t))
  have oN : (stV (sWords (a ++ t))).all (·.oneCell') = true := M.rowF_one
  have st8 : ∀ v, WC b w (strC s (sDone a) (sRest a)) v → WC b w (strC (sWords (a ++ t)) (sDone a) (sRest a)) (v.setCells b 0 (stV (sWords (a ++ t))).toList) := fun v h => h.set8
  have th8 : ∀ v, WC b w (strC s (sDone a) (sRest a)) v → v.there b 0 (stV (sWords (a ++ t))).size := fun v h => by rw [st_size]; exact h.there
  have hqe : (sRest a ++ t).size = (sRest a).size + t.size := ByteArray.size_append
  have e1 : ((sRest a).size : Int) + (t.size : Int) - (((sRest a).size : Int) + (t.size : Int)) % 64 = ((64 * m : Nat) : Int) := by omega
  have hm2 : ((64 * m : Nat) : Int) ≤ ((sRest a).size : Int) + (t.size : Int) := by omega
  have hmle : 64 * m ≤ (sRest a ++ t).size := by omega
  have hXs : (sRest a ++ t).size ≤ 1000000000 := by omega
  have hdl : sDone a ≤ 100000000 := by unfold sDone; omega
  have hqs : (sRest a).size + t.size ≤ 1000000000 := by rw [← ByteArray.size_append]; exact hXs
  have fin : ∀ v, WC b w (strC (sWords (a ++ t)) (sDone a) (sRest a)) v → StrAt ((v.setCell ⟨b, 8, none⟩ (.int .u64 ((sDone a : Nat) + ((64 * m : Nat) : Int)))).setCell ⟨b, 9, none⟩ (.string ((sRest a ++ t).extract (64 * m) (sRest a ++ t).size))) b (a ++ t) (sWords (a ++ t)) ∧ M.But b w ((v.setCell ⟨b, 8, none⟩ (.int .u64 ((sDone a : Nat) + ((64 * m : Nat) : Int)))).setCell ⟨b, 9, none⟩ (.string ((sRest a ++ t).extract (64 * m) (sRest a ++ t).size))) := fun v h => by
    have k := (h.set 8 (.int .u64 ((sDone a : Nat) + ((64 * m : Nat) : Int)))).set 9 (.string ((sRest a ++ t).extract (64 * m) (sRest a ++ t).size))
    rw [hr, show ((sDone a : Nat) : Int) + ((64 * m : Nat) : Int) = ((sDone (a ++ t) : Nat) : Int) by rw [← hd]; omega] at k ⊢
    have k' : WC b w (strC (sWords (a ++ t)) (sDone (a ++ t)) (sRest (a ++ t))) ((v.setCell ⟨b, 8, none⟩ (.int .u64 (sDone (a ++ t) : Nat))).setCell ⟨b, 9, none⟩ (.string (sRest (a ++ t)))) := by simpa using k
    exact ⟨k'.str (sWords_ok _) (fun _ => rfl), k'.but⟩
  obtain ⟨q, hq⟩ : ∃ q, 64 * m = q := ⟨_, rfl⟩
  rw [hq] at e1 hmle fin bl hm2
  have SO := Lib.hid so; have BL := Lib.hid bl; have ST := Lib.hid st8; have TH := Lib.hid th8; have FIN := Lib.hid fin; have E1 := Lib.hid e1
  have iN' : (Tryd.prog.info? 33).map (·.size) = some (stV (sWords (a ++ t))).size := iN
  clear so bl st8 th8 fin hs ht hX haz hm hfin hw hd hr hXl hsz htz hq hqe
  generalize stV (sWords (a ++ t)) = D at *
  generalize stV (sWords a) = D0 at *
  generalize sRest a = R at *
  obtain ⟨C2, hC2⟩ : ∃ C2, strC (sWords (a ++ t)) (sDone a) R = C2 := ⟨_, rfl⟩
  have k8 : C2[8]? = some (.int .u64 (sDone a : Nat)) := by rw [← hC2]; rfl
  have k9' : C2[9]? = some (.string R) := by rw [← hC2]; rfl
  rw [hC2] at ST FIN
  have HC2 := Lib.hid hC2
  clear hC2
  generalize sDone a = d at *
  obtain ⟨C1, hC1⟩ : ∃ C1, strC s d R = C1 := ⟨_, rfl⟩
  rw [hC1] at wc0 SO BL ST TH
  have k9 : C1[9]? = some (.string R) := by rw [← hC1]; rfl
  have HC1 := Lib.hid hC1
  clear hC1
  go_enter Tryd.func33, Tryd.ntmps33
  go_wp2_with fail
  have K8 := Lib.hid k8; have K9 := Lib.hid k9'
  have hq0 : (0 : Int) ≤ q := by omega
  clear e1 k8 k9' k9 iN c9
  refine QP.wp_region_p 9 (WC b w C1) (WC b w C2) (by kernel_rfl) (by kernel_rfl) wc0.drew ?_
  iterate 10
    (refine QP.wpQ_step (fun K hK => ?_)
     go_simp
     first
       | (refine hK _ ?_; clear hK K)
       | (refine ⟨?_, hK _ ?_⟩; decide; clear hK K)
       | ((first | (apply Exists.intro; refine ⟨?_, hK _ ?_⟩) | refine ⟨⟨undef, ?_⟩, hK _ ?_⟩)
          first
            | (apply QP.al_p; decide; (focus (intro wq hq; (skip); first | ((refine oat_store_mid (ty := 33) (x := .tmp 26) (y := .tmp 24) (b := b) (off := 0) (cells := D) ?_ ?_ ?_ (TH.out _ hq) iN' oN (ST.out _ hq); rfl; rfl; rfl)) | (unfold QP.oat; go_simp; first | done | exact ⟨by assumption, rfl⟩ | exact rfl | assumption | (first | (refine (SO.out _ hq).mono ?_; rintro e w' ⟨rfl, gq⟩; exact ⟨rfl, hq.same gq⟩) | (refine (BL.out _ hq).mono ?_; rintro e w' ⟨rfl, gq⟩; exact ⟨rfl, hq.same gq⟩))))))
            | (apply QP.al_dep; decide; decide; (focus (intro wq hq; (skip); first | ((refine oat_store_mid (ty := 33) (x := .tmp 26) (y := .tmp 24) (b := b) (off := 0) (cells := D) ?_ ?_ ?_ (TH.out _ hq) iN' oN (ST.out _ hq); rfl; rfl; rfl)) | (unfold QP.oat; go_simp; first | done | exact ⟨by assumption, rfl⟩ | exact rfl | assumption | (first | (refine (SO.out _ hq).mono ?_; rintro e w' ⟨rfl, gq⟩; exact ⟨rfl, hq.same gq⟩) | (refine (BL.out _ hq).mono ?_; rintro e w' ⟨rfl, gq⟩; exact ⟨rfl, hq.same gq⟩))))))
            | (apply QP.al_bef; decide; decide; (focus (intro wq hq; (skip); first | ((refine oat_store_mid (ty := 33) (x := .tmp 26) (y := .tmp 24) (b := b) (off := 0) (cells := D) ?_ ?_ ?_ (TH.out _ hq) iN' oN (ST.out _ hq); rfl; rfl; rfl)) | (unfold QP.oat; go_simp; first | done | exact ⟨by assumption, rfl⟩ | exact rfl | assumption | (first | (refine (SO.out _ hq).mono ?_; rintro e w' ⟨rfl, gq⟩; exact ⟨rfl, hq.same gq⟩) | (refine (BL.out _ hq).mono ?_; rintro e w' ⟨rfl, gq⟩; exact ⟨rfl, hq.same gq⟩))))))
            | (apply QP.al_ok; decide; (focus (intro wq hq; (skip); first | ((refine oat_store_mid (ty := 33) (x := .tmp 26) (y := .tmp 24) (b := b) (off := 0) (cells := D) ?_ ?_ ?_ (TH.out _ hq) iN' oN (ST.out _ hq); rfl; rfl; rfl)) | (unfold QP.oat; go_simp; first | done | exact ⟨by assumption, rfl⟩ | exact rfl | assumption | (first | (refine (SO.out _ hq).mono ?_; rintro e w' ⟨rfl, gq⟩; exact ⟨rfl, hq.same gq⟩) | (refine (BL.out _ hq).mono ?_; rintro e w' ⟨rfl, gq⟩; exact ⟨rfl, hq.same gq⟩))))); (focus (intro wq hq; (skip); first | ((refine oat_store_mid (ty := 33) (x := .tmp 26) (y := .tmp 24) (b := b) (off := 0) (cells := D) ?_ ?_ ?_ (TH.out _ hq) iN' oN (ST.out _ hq); rfl; rfl; rfl)) | (unfold QP.oat; go_simp; first | done | exact ⟨by assumption, rfl⟩ | exact rfl | assumption | (first | (refine (SO.out _ hq).mono ?_; rintro e w' ⟨rfl, gq⟩; exact ⟨rfl, hq.same gq⟩) | (refine (BL.out _ hq).mono ?_; rintro e w' ⟨rfl, gq⟩; exact ⟨rfl, hq.same gq⟩))))))
          clear hK K))
  refine QP.wpQ_nil ?_
  intro wz bz
  have c8 := (M.RowAt.cell bz.row 8).trans K8.out
  have c9 := (M.RowAt.cell bz.row 9).trans K9.out
  have f8 := bz.fr 8
  have f9 := bz.fr 9
  have hend := FIN.out wz bz
  have HE := Lib.hid hend
  clear hend
  go_wp2
  go_end0
  have hx := HE.out
  rw [ByteArray.size_append] at hx
  exact ⟨rfl, hx⟩

/-- the result lies in block n, the stream in block b -/
structure SC (b n : Nat) (a : ByteArray) (s : Sha.St) (w : World) (R : Array Value) (v : World) : Prop where
  str : StrAt v b a s
  r : v.heap[n]? = some (.cells R 28 (0, 0))
  below : Below n w v
section
variable {b n : Nat} {a : ByteArray} {s : Sha.St} {w v v' : World} {R R' : Array Value}
theorem SC.drew (c : SC b n a s w R v) : SC b n a s w R v.drew := ⟨c.str.drew, c.r, c.below.drew⟩
theorem SC.same (c : SC b n a s w R v) (hb : Below v.heap.size v v') : SC b n a s w R v' :=
  ⟨c.str.same hb, M.RowAt.call c.r hb, c.below.trans (hb.mono (by have := M.RowAt.lt c.r; omega))⟩
theorem SC.set (hne : n ≠ b) (c : SC b n a s w R v) : SC b n a s w R' (v.setRow n R') :=
  ⟨c.str.setRow hne _, M.RowAt.setRow c.r _, M.below_setRow c.below (Nat.le_refl _)⟩
end

set_option maxRecDepth 100000 in
set_option maxHeartbeats 4000000 in
theorem ssum_any (b : Nat) (a : ByteArray) (s : Sha.St) (w : World) (ht : Tabs w) (hs : StrAt w b a s) (hsz : a.size ≤ 100000000) :
    Calls Tryd.prog 34 #[.pointer (some ⟨b, 0, none⟩)] w fun e w' => e = .returned (.agg (r8 32 (Sha.sum a))) ∧ Below w.heap.size w w' := by
  obtain ⟨n, hn⟩ : ∃ n, w.heap.size = n := ⟨_, rfl⟩
  have HN := Lib.hid hn
  have h1n : 1 < n := hn ▸ ht.lt
  have hbn : n ≠ b := by have := hs.lt; omega
  obtain ⟨v0, hv0⟩ : ∃ v0, w.alloc (.cells #[.int .u8 0, .int .u8 0, .int .u8 0, .int .u8 0, .int .u8 0, .int .u8 0, .int .u8 0, .int .u8 0, .int .u8 0, .int .u8 0, .int .u8 0, .int .u8 0, .int .u8 0, .int .u8 0, .int .u8 0, .int .u8 0, .int .u8 0, .int .u8 0, .int .u8 0, .int .u8 0, .int .u8 0, .int .u8 0, .int .u8 0, .int .u8 0, .int .u8 0, .int .u8 0, .int .u8 0, .int .u8 0, .int .u8 0, .int .u8 0, .int .u8 0, .int .u8 0] 28) = v0 := ⟨_, rfl⟩
  have c0 : SC b n a s w Z32 v0 := by
    rw [← hv0]
    subst hn
    exact ⟨hs.alloc _, M.RowAt.new w 28 Z32, (Below.refl _ _).alloc (Nat.le_refl _) _⟩
  have T1 : ∀ v, Below n w v → Tabs v := fun v hv => ht.below hv h1n
  have HV := Lib.hid hv0
  have n1 := fun v (h : SC b n a s w Z32 v) => soFar_any b a s v (T1 v h.below) h.str (by omega)
  have n2 := fun v => tail_any a.size v (by omega)
  have hsp := Sha.sum_parts a
  have hts := Sha.tail_size a.size
  have hz := zeros_lt a.size
  have hrs : (sRest a).size = a.size - 64 * (a.size / 64) := by unfold sRest; simp
  have hjs : (sRest a ++ Sha.tail a.size).size = (sRest a).size + (Sha.tail a.size).size := ByteArray.size_append
  have n3 := fun v (h : SC b n a s w Z32 v) => blocks_any (sWords a) (sRest a ++ Sha.tail a.size) v (sWords_ok a) (T1 v h.below) (by omega)
  have e3 : Sha.blk (sWords a) (sRest a ++ Sha.tail a.size) ((sRest a ++ Sha.tail a.size).size / 64) = Sha.words a := hsp
  rw [e3] at n3
  have n4 : ∀ v, Calls Tryd.prog 55 #[.agg (stV (Sha.words a))] v fun e w' => e = .returned (.agg (r8 32 (Sha.out (Sha.words a)))) ∧ Below v.heap.size v w' := fun v => bytes_any (Sha.words a) v (Sha.words_ok a)
  have hsm : Sha.out (Sha.words a) = Sha.sum a := rfl
  rw [hsm] at n4
  have c8 := fun v (h : SC b n a s w Z32 v) => h.str.c8
  have c9 := fun v (h : SC b n a s w Z32 v) => h.str.c9
  have e8 : IntKind.u64.wrap ((sRest a).size : Int) = (sRest a).size := by rw [IntKind.wrap_u64]; omega
  have e9 : IntKind.u64.wrap (((sDone a : Nat) : Int) + (sRest a).size) = (a.size : Int) := by rw [IntKind.wrap_u64]; unfold sDone; omega
  have e6 : IntKind.u64.wrap (a.size : Int) = a.size := by rw [IntKind.wrap_u64]; omega
  have e7 : ((sDone a : Nat) : Int) + (sRest a).size = (a.size : Int) := by unfold sDone; omega
  have hT : (Sha.tail a.size).size ≤ 1000 := by omega
  have hR : (sRest a).size ≤ 1000 := by omega
  have hRT : ¬ (9223372036854775807 < (sRest a).size + (Sha.tail a.size).size) := by omega
  generalize Sha.tail a.size = T at *
  generalize stV (sWords a) = D0 at *
  generalize stV (Sha.words a) = D1 at *
  generalize Sha.sum a = F at *
  generalize sRest a = R at *
  generalize sDone a = d at *
  have N1 := Lib.hid n1; have N2 := Lib.hid n2; have N3 := Lib.hid n3; have N4 := Lib.hid n4; have C8 := Lib.hid c8; have C9 := Lib.hid c9
  have iF := r8_info F
  have zF := r8_zero F
  have oF := r8_one F
  clear hv0 T1 ht hs n1 n2 n3 n4 c8 c9 hsp hts hz hrs hjs e3 hsm hsz
  go_enter Tryd.func34, Tryd.ntmps34
  go_wp2_with fail
  rw [HV.out]
  clear hn
  refine QP.wp_region_p 21 (SC b n a s w Z32) (SC b n a s w (r8 32 F)) (by kernel_rfl) (by kernel_rfl) c0.drew ?_
  iterate 22
    (refine QP.wpQ_step (fun K hK => ?_)
     go_simp
     first
       | (refine hK _ ?_; clear hK K)
       | (refine ⟨?_, hK _ ?_⟩; decide; clear hK K)
       | ((first | (apply Exists.intro; refine ⟨?_, hK _ ?_⟩) | refine ⟨⟨undef, ?_⟩, hK _ ?_⟩)
          first
            | (apply QP.al_p; decide; (focus (intro wq hq; (first | (have c8 := C8.out _ hq; have c9 := C9.out _ hq) | skip); first | ((refine QP.oat_store_row (ty := 28) (x := .tmp 2) (y := .tmp 23) (g := n) (cells := r8 32 F) (t := 28) (old := Z32) ?_ ?_ ?_ hq.r iF zF oF (hq.set hbn); rfl; rfl; rfl)) | (unfold QP.oat; go_simp; first | done | exact ⟨by assumption, rfl⟩ | exact rfl | assumption | (first | ((with_reducible refine (N1.out _ hq).mono ?_); rintro e w' ⟨rfl, gq⟩; exact ⟨rfl, hq.same gq⟩) | ((with_reducible refine (N2.out _).mono ?_); rintro e w' ⟨rfl, gq⟩; exact ⟨rfl, hq.same gq⟩) | ((with_reducible refine (N3.out _ hq).mono ?_); rintro e w' ⟨rfl, gq⟩; exact ⟨rfl, hq.same gq⟩) | ((with_reducible refine (N4.out _).mono ?_); rintro e w' ⟨rfl, gq⟩; exact ⟨rfl, hq.same gq⟩))))))
            | (apply QP.al_dep; decide; decide; (focus (intro wq hq; (first | (have c8 := C8.out _ hq; have c9 := C9.out _ hq) | skip); first | ((refine QP.oat_store_row (ty := 28) (x := .tmp 2) (y := .tmp 23) (g := n) (cells := r8 32 F) (t := 28) (old := Z32) ?_ ?_ ?_ hq.r iF zF oF (hq.set hbn); rfl; rfl; rfl)) | (unfold QP.oat; go_simp; first | done | exact ⟨by assumption, rfl⟩ | exact rfl | assumption | (first | ((with_reducible refine (N1.out _ hq).mono ?_); rintro e w' ⟨rfl, gq⟩; exact ⟨rfl, hq.same gq⟩) | ((with_reducible refine (N2.out _).mono ?_); rintro e w' ⟨rfl, gq⟩; exact ⟨rfl, hq.same gq⟩) | ((with_reducible refine (N3.out _ hq).mono ?_); rintro e w' ⟨rfl, gq⟩; exact ⟨rfl, hq.same gq⟩) | ((with_reducible refine (N4.out _).mono ?_); rintro e w' ⟨rfl, gq⟩; exact ⟨rfl, hq.same gq⟩))))))
            | (apply QP.al_bef; decide; decide; (focus (intro wq hq; (first | (have c8 := C8.out _ hq; have c9 := C9.out _ hq) | skip); first | ((refine QP.oat_store_row (ty := 28) (x := .tmp 2) (y := .tmp 23) (g := n) (cells := r8 32 F) (t := 28) (old := Z32) ?_ ?_ ?_ hq.r iF zF oF (hq.set hbn); rfl; rfl; rfl)) | (unfold QP.oat; go_simp; first | done | exact ⟨by assumption, rfl⟩ | exact rfl | assumption | (first | ((with_reducible refine (N1.out _ hq).mono ?_); rintro e w' ⟨rfl, gq⟩; exact ⟨rfl, hq.same gq⟩) | ((with_reducible refine (N2.out _).mono ?_); rintro e w' ⟨rfl, gq⟩; exact ⟨rfl, hq.same gq⟩) | ((with_reducible refine (N3.out _ hq).mono ?_); rintro e w' ⟨rfl, gq⟩; exact ⟨rfl, hq.same gq⟩) | ((with_reducible refine (N4.out _).mono ?_); rintro e w' ⟨rfl, gq⟩; exact ⟨rfl, hq.same gq⟩))))))
            | (apply QP.al_ok; decide; (focus (intro wq hq; (first | (have c8 := C8.out _ hq; have c9 := C9.out _ hq) | skip); first | ((refine QP.oat_store_row (ty := 28) (x := .tmp 2) (y := .tmp 23) (g := n) (cells := r8 32 F) (t := 28) (old := Z32) ?_ ?_ ?_ hq.r iF zF oF (hq.set hbn); rfl; rfl; rfl)) | (unfold QP.oat; go_simp; first | done | exact ⟨by assumption, rfl⟩ | exact rfl | assumption | (first | ((with_reducible refine (N1.out _ hq).mono ?_); rintro e w' ⟨rfl, gq⟩; exact ⟨rfl, hq.same gq⟩) | ((with_reducible refine (N2.out _).mono ?_); rintro e w' ⟨rfl, gq⟩; exact ⟨rfl, hq.same gq⟩) | ((with_reducible refine (N3.out _ hq).mono ?_); rintro e w' ⟨rfl, gq⟩; exact ⟨rfl, hq.same gq⟩) | ((with_reducible refine (N4.out _).mono ?_); rintro e w' ⟨rfl, gq⟩; exact ⟨rfl, hq.same gq⟩))))); (focus (intro wq hq; (first | (have c8 := C8.out _ hq; have c9 := C9.out _ hq) | skip); first | ((refine QP.oat_store_row (ty := 28) (x := .tmp 2) (y := .tmp 23) (g := n) (cells := r8 32 F) (t := 28) (old := Z32) ?_ ?_ ?_ hq.r iF zF oF (hq.set hbn); rfl; rfl; rfl)) | (unfold QP.oat; go_simp; first | done | exact ⟨by assumption, rfl⟩ | exact rfl | assumption | (first | ((with_reducible refine (N1.out _ hq).mono ?_); rintro e w' ⟨rfl, gq⟩; exact ⟨rfl, hq.same gq⟩) | ((with_reducible refine (N2.out _).mono ?_); rintro e w' ⟨rfl, gq⟩; exact ⟨rfl, hq.same gq⟩) | ((with_reducible refine (N3.out _ hq).mono ?_); rintro e w' ⟨rfl, gq⟩; exact ⟨rfl, hq.same gq⟩) | ((with_reducible refine (N4.out _).mono ?_); rintro e w' ⟨rfl, gq⟩; exact ⟨rfl, hq.same gq⟩))))))
          clear hK K))
  refine QP.wpQ_nil ?_
  intro wz bz
  go_wp2
  have hload := run_loadVar_row (P := Tryd.prog) _ n 28 28 (r8 32 F) (0, 0) _ bz.r u28 rfl iF
  refine bodyPost_ret (v := .agg (r8 32 F)) (by simp [results, Tryd.results34, asAddr, hload]) rfl ⟨rfl, ?_⟩
  rw [HN.out]
  exact bz.below

end Go.Proofs.YtpfcalamchdciaaDoor
