/- The walk of SealLong; the conditions are that the tables are laid and that arrays of bytes hold bytes. -/
import Derived.Test.YtpfcalamchdciaaDoorSeD
import Derived.Test.YtpfcalamchdciaaDoorKB
import Derived.Laws.MakeOwn
import Derived.Test.YtpfcalamchdciaaDoorQuietT
namespace Go.Proofs.YtpfcalamchdciaaDoor
open Go.RowKit
set_option linter.unusedVariables false

theorem mac_long (k s : ByteArray) (h : 64 < k.size) : mac (hstr (Sha.sum k)) s = mac k s := by
  have e1 : keyOf k = hstr (Sha.sum k) := by unfold keyOf; rw [if_pos h]
  have e2 : keyOf (hstr (Sha.sum k)) = hstr (Sha.sum k) := by
    show (if 64 < (hstr (Sha.sum k)).size then _ else _) = _
    rw [hstr_size, if_neg (by decide)]
  unfold mac
  rw [e1, e2]
theorem byte_app (k z : ByteArray) (hz : ∀ i, Sha.byte z i = 0) (i : Nat) : Sha.byte (k ++ z) i = Sha.byte k i := by
  unfold Sha.byte at *
  rw [ByteArray.data_append, Array.toList_append, List.getD_eq_getElem?_getD, List.getD_eq_getElem?_getD]
  by_cases h : i < k.data.toList.length
  · rw [List.getElem?_append_left h]
  · rw [List.getElem?_append_right (by omega), List.getElem?_eq_none (l := k.data.toList) (by omega)]
    have := hz (i - k.data.toList.length)
    rw [List.getD_eq_getElem?_getD] at this
    simpa using this
theorem zeros_byte (m i : Nat) : Sha.byte (bytesI m fun _ => 0) i = 0 := by
  by_cases h : i < m
  · have := bytesI_byte (n := m) (f := fun _ => 0) (fun _ _ => by decide) i h
    omega
  · unfold Sha.byte
    rw [List.getD_eq_getElem?_getD, List.getElem?_eq_none (by have := bytesI_size m (fun _ => 0); simp at this ⊢; omega)]; rfl
theorem mac_zeros (k s : ByteArray) (m : Nat) (h : k.size + m ≤ 64) : mac (k ++ bytesI m fun _ => 0) s = mac k s := by
  have hs : (k ++ bytesI m fun _ => 0).size = k.size + m := by rw [ByteArray.size_append, bytesI_size]
  have e1 : keyOf k = k := by unfold keyOf; rw [if_neg (by omega)]
  have e2 : keyOf (k ++ bytesI m fun _ => 0) = k ++ bytesI m fun _ => 0 := by unfold keyOf; rw [hs, if_neg (by omega)]
  have e3 : ∀ x, mixS (k ++ bytesI m fun _ => 0) x = mixS k x := fun x => bytesI_congr (fun i _ => by
    unfold mixF bk; rw [byte_app k _ (zeros_byte m)])
  unfold mac macIn
  rw [e1, e2, e3, e3]
theorem made_row (m : Nat) : madeCells (Value.cells (.int .u8 0)) (m * 1) = M.rowF .u8 m (fun _ => 0) := by
  apply Array.ext_getElem?
  intro i
  rw [Nat.mul_one]
  by_cases h : i < m
  · rw [M.rowF_get h]; simp [madeCells, Value.cells, h, Nat.mod_one]
  · rw [M.rowF_out (by omega), Array.getElem?_eq_none (by simp [madeCells]; omega)]

/-- blocks known whole, and where the next one will lie -/
structure KH (n g : Nat) (w : World) (L : List (Nat × TypeId × Array Value)) (v : World) : Prop where
  kb : KB n w L v
  size : v.heap.size = g
theorem KH.drew {n g : Nat} {w : World} {L : List (Nat × TypeId × Array Value)} {v : World} (c : KH n g w L v) : KH n g w L v.drew := ⟨c.kb.drew, c.size⟩
theorem KH.below {n g : Nat} {w : World} {L : List (Nat × TypeId × Array Value)} {v : World} (c : KH n g w L v) : Below n w v := c.kb.below
theorem KH.new {n g : Nat} {w : World} {L : List (Nat × TypeId × Array Value)} {v : World} (c : KH n g w L v) (t : TypeId) (Z : Array Value) : KB n w ((g, t, Z) :: L) (v.alloc (.cells Z t)) := by
  have := c.kb.new t Z
  rw [c.size] at this; exact this
theorem oat_make {P : Program} {o : Oper} {a : Act} {w : World} {C' : World → Prop} (t : TypeId) (x : Operand) (ho : o.op = .makeSlice t x x) (m : Nat) (hx : a.eval x = .int .i64 m) (g : Nat) (Z : Array Value) (e : TypeId)
    (h : (Instr.makeSlice t (.int .i64 m) (.int .i64 m)).run P w = .ok (.slice (some ⟨g, 0, none⟩) m m) (w.alloc (.cells Z e))) (hC : C' (w.alloc (.cells Z e))) : QP.oat P o a C' w (.slice (some ⟨g, 0, none⟩) m m) := by
  unfold QP.oat execOp
  simp only [ho, hx, Sem.run_bind, h, Result.andThen_ok, Sem.run_pure]
  exact ⟨hC, rfl⟩

set_option maxRecDepth 100000 in
set_option maxHeartbeats 4000000 in
theorem long_walk (k s : ByteArray) (z : Nat) (w : World) (ht : Tabs w) (hz : z < 256) :
    Calls Tryd.prog 9 #[.string k, .string s, .int .u8 (z : Nat)] w (Fine w) := by
  obtain ⟨n, hn⟩ : ∃ n, w.heap.size = n := ⟨_, rfl⟩
  have HN := Lib.hid hn
  have h1n : 1 < n := hn ▸ ht.lt
  have tb := fun v (hb : Below n w v) => ht.below hb h1n
  have TB := Lib.hid tb
  have sh := fun v (hb : Below n w v) => sshown_any v (tb v hb)
  have SH := Lib.hid sh
  have k0 : KB n w [] w := hn ▸ KB.start w
  by_cases hk : 300 < k.size
  · skip
    have dk : decide ((300 : Int) < k.size) = true := by simp; omega
    have dk2 : (300 : Int) < k.size := by omega
    clear hn sh tb ht h1n
    go_enter Tryd.func9, Tryd.ntmps9
    go_wp2_with fail
    refine (SH.out _ k0.below).mono ?_
    rintro e w' ⟨rfl, gq⟩
    have b1 := (k0.same gq).below
    go_wp2
    go_ret
    exact ⟨rfl, by rw [HN.out]; exact b1⟩
  · by_cases hs : 300 < s.size
    · skip
      have dk : decide ((300 : Int) < k.size) = false := by simp; omega
      have dk2 : ¬ (300 : Int) < k.size := by omega
      have ds : decide ((300 : Int) < s.size) = true := by simp; omega
      have ds2 : (300 : Int) < s.size := by omega
      clear hn sh tb ht h1n
      go_enter Tryd.func9, Tryd.ntmps9
      go_wp2_with fail
      refine (SH.out _ k0.below).mono ?_
      rintro e w' ⟨rfl, gq⟩
      have b1 := (k0.same gq).below
      go_wp2
      go_ret
      exact ⟨rfl, by rw [HN.out]; exact b1⟩
    · have ct := fun v (hb : Below n w v) => tag_any k s v (tb v hb) (by omega) (by omega)
      have iM := r8_info (mac k s); have zM := r8_zero (mac k s); have oM := r8_one (mac k s)
      have e1 := fun W => r8_eq (mac k s) W
      have E1 := Lib.hid e1
      have CT := Lib.hid ct
      clear e1 ct
      by_cases hk64 : 64 < k.size
      · have cs := fun v (hb : Below n w v) => sum_any k v (tb v hb) (by omega)
        have c2 := fun v (hb : Below n w v) => tag_any (hstr (Sha.sum k)) s v (tb v hb) (by rw [hstr_size]; decide) (by omega)
        rw [mac_long k s hk64] at c2
        have hcv := fun v g (h : M.RowAt v g 28 (r8 32 (Sha.sum k))) => conv_row8 h
        have iS := r8_info (Sha.sum k); have zS := r8_zero (Sha.sum k); have oS := r8_one (Sha.sum k)
        generalize r8 32 (mac k s) = MM at *
        generalize r8 32 (Sha.sum k) = S0 at *
        generalize hstr (Sha.sum k) = Y at *
        have CS := Lib.hid cs; have C2 := Lib.hid c2; have HCV := Lib.hid hcv
        have dk64 : decide ((64 : Int) < k.size) = true := by simp; omega
        have dk642 : (64 : Int) < k.size := by omega
        have dk : decide ((300 : Int) < k.size) = false := by simp; omega
        have dk2 : ¬ (300 : Int) < k.size := by omega
        have ds : decide ((300 : Int) < s.size) = false := by simp; omega
        have ds2 : ¬ (300 : Int) < s.size := by omega
        clear cs c2 hcv sh tb ht h1n
        go_enter Tryd.func9, Tryd.ntmps9
        go_wp2_with fail
        refine (SH.out _ k0.below).mono ?_
        rintro e w1 ⟨rfl, gq⟩
        have k1 := k0.same gq
        clear gq k0 hn
        go_wp2_with fail
        refine (CT.out _ k1.below).mono ?_
        rintro e w2 ⟨rfl, gq⟩
        have k2 := k1.same gq
        clear gq k1
        obtain ⟨g, VG, UG, hg, hVG, rVG, hUG, k22, geg, ltg⟩ := k2.box 28 #[.int .u8 0, .int .u8 0, .int .u8 0, .int .u8 0, .int .u8 0, .int .u8 0, .int .u8 0, .int .u8 0, .int .u8 0, .int .u8 0, .int .u8 0, .int .u8 0, .int .u8 0, .int .u8 0, .int .u8 0, .int .u8 0, .int .u8 0, .int .u8 0, .int .u8 0, .int .u8 0, .int .u8 0, .int .u8 0, .int .u8 0, .int .u8 0, .int .u8 0, .int .u8 0, .int .u8 0, .int .u8 0, .int .u8 0, .int .u8 0, .int .u8 0, .int .u8 0] (MM)
        have Hg := Lib.hid hg; have HVG := Lib.hid hVG; have HUG := Lib.hid hUG
        clear hg hVG hUG k2
        go_wp2_with (first
          | (rw [Hg.out, HVG.out]; refine wpList_store_row (x := .tmp 7) (y := .tmp 24) (cells := MM) (old := Z32) (t := 28) (ty := 28) (g := g) ?_ ?_ ?_ ?_ rVG iM zM oM ?_; rfl; rfl; rfl; rfl; rw [HUG.out])
          | fail)
        refine (CS.out _ k22.below).mono ?_
        rintro e w3 ⟨rfl, gq⟩
        have k3 := k22.same gq
        clear gq k22 rVG Hg HVG HUG
        obtain ⟨m, VM, UM, hm, hVM, rVM, hUM, k32, gem, ltm⟩ := k3.box 28 #[.int .u8 0, .int .u8 0, .int .u8 0, .int .u8 0, .int .u8 0, .int .u8 0, .int .u8 0, .int .u8 0, .int .u8 0, .int .u8 0, .int .u8 0, .int .u8 0, .int .u8 0, .int .u8 0, .int .u8 0, .int .u8 0, .int .u8 0, .int .u8 0, .int .u8 0, .int .u8 0, .int .u8 0, .int .u8 0, .int .u8 0, .int .u8 0, .int .u8 0, .int .u8 0, .int .u8 0, .int .u8 0, .int .u8 0, .int .u8 0, .int .u8 0, .int .u8 0] (S0)
        have Hm := Lib.hid hm; have HVM := Lib.hid hVM; have HUM := Lib.hid hUM
        clear hm hVM hUM k3
        go_wp2_with (first
          | (rw [Hm.out, HVM.out]; refine wpList_store_row (x := .tmp 8) (y := .tmp 29) (cells := S0) (old := Z32) (t := 28) (ty := 28) (g := m) ?_ ?_ ?_ ?_ rVM iS zS oS ?_; rfl; rfl; rfl; rfl; rw [HUM.out])
          | fail)
        clear rVM Hm HVM HUM
        obtain ⟨L, hL⟩ : ∃ L, [(m, 28, S0), (g, 28, MM)] = L := ⟨_, rfl⟩
        have mS : (m, 28, S0) ∈ L := by rw [← hL]; simp
        have mM : (g, 28, MM) ∈ L := by rw [← hL]; simp
        have k4 : KB n w L UM := by rw [← hL]; exact k32
        clear hL k32 ltg ltm geg gem
        refine QP.wp_region_p 4 (KB n w L) (KB n w L) (by kernel_rfl) (by kernel_rfl) k4.drew ?_
        iterate 7
          (refine QP.wpQ_step (fun K hK => ?_)
           go_simp
           first
             | (refine hK _ ?_; clear hK K)
             | (refine ⟨?_, hK _ ?_⟩; decide; clear hK K)
             | ((first | (apply Exists.intro; refine ⟨?_, hK _ ?_⟩) | refine ⟨⟨undef, ?_⟩, hK _ ?_⟩)
                first
                  | (apply QP.al_p; decide; (focus (intro wq hq; (first | (have hcv := HCV.out _ _ (hq.rows _ mS)) | skip); first | (first | ((with_reducible refine oat_eql 28 28 (.tmp 30) (.tmp 34) ?_ MM MM ?_ ?_ true guard28 (E1.out _) hq); rfl; rfl; rfl) | ((with_reducible refine QP.oat_load_row (ty := 28) (x := .tmp 7) (g := g) (t := 28) (cs := MM) (fr := (0, 0)) ?_ ?_ _ (hq.rows _ mM) u28 ?_ iM hq); rfl; rfl; rfl)) | (unfold QP.oat; go_simp; first | done | exact ⟨by assumption, rfl⟩ | exact rfl | assumption | (((with_reducible refine (C2.out _ hq.below).mono ?_); rintro e w' ⟨rfl, gq⟩; exact ⟨rfl, hq.same gq⟩))))))
                  | (apply QP.al_dep; decide; decide; (focus (intro wq hq; (first | (have hcv := HCV.out _ _ (hq.rows _ mS)) | skip); first | (first | ((with_reducible refine oat_eql 28 28 (.tmp 30) (.tmp 34) ?_ MM MM ?_ ?_ true guard28 (E1.out _) hq); rfl; rfl; rfl) | ((with_reducible refine QP.oat_load_row (ty := 28) (x := .tmp 7) (g := g) (t := 28) (cs := MM) (fr := (0, 0)) ?_ ?_ _ (hq.rows _ mM) u28 ?_ iM hq); rfl; rfl; rfl)) | (unfold QP.oat; go_simp; first | done | exact ⟨by assumption, rfl⟩ | exact rfl | assumption | (((with_reducible refine (C2.out _ hq.below).mono ?_); rintro e w' ⟨rfl, gq⟩; exact ⟨rfl, hq.same gq⟩))))))
                  | (apply QP.al_bef; decide; decide; (focus (intro wq hq; (first | (have hcv := HCV.out _ _ (hq.rows _ mS)) | skip); first | (first | ((with_reducible refine oat_eql 28 28 (.tmp 30) (.tmp 34) ?_ MM MM ?_ ?_ true guard28 (E1.out _) hq); rfl; rfl; rfl) | ((with_reducible refine QP.oat_load_row (ty := 28) (x := .tmp 7) (g := g) (t := 28) (cs := MM) (fr := (0, 0)) ?_ ?_ _ (hq.rows _ mM) u28 ?_ iM hq); rfl; rfl; rfl)) | (unfold QP.oat; go_simp; first | done | exact ⟨by assumption, rfl⟩ | exact rfl | assumption | (((with_reducible refine (C2.out _ hq.below).mono ?_); rintro e w' ⟨rfl, gq⟩; exact ⟨rfl, hq.same gq⟩))))))
                  | (apply QP.al_ok; decide; (focus (intro wq hq; (first | (have hcv := HCV.out _ _ (hq.rows _ mS)) | skip); first | (first | ((with_reducible refine oat_eql 28 28 (.tmp 30) (.tmp 34) ?_ MM MM ?_ ?_ true guard28 (E1.out _) hq); rfl; rfl; rfl) | ((with_reducible refine QP.oat_load_row (ty := 28) (x := .tmp 7) (g := g) (t := 28) (cs := MM) (fr := (0, 0)) ?_ ?_ _ (hq.rows _ mM) u28 ?_ iM hq); rfl; rfl; rfl)) | (unfold QP.oat; go_simp; first | done | exact ⟨by assumption, rfl⟩ | exact rfl | assumption | (((with_reducible refine (C2.out _ hq.below).mono ?_); rintro e w' ⟨rfl, gq⟩; exact ⟨rfl, hq.same gq⟩))))); (focus (intro wq hq; (first | (have hcv := HCV.out _ _ (hq.rows _ mS)) | skip); first | (first | ((with_reducible refine oat_eql 28 28 (.tmp 30) (.tmp 34) ?_ MM MM ?_ ?_ true guard28 (E1.out _) hq); rfl; rfl; rfl) | ((with_reducible refine QP.oat_load_row (ty := 28) (x := .tmp 7) (g := g) (t := 28) (cs := MM) (fr := (0, 0)) ?_ ?_ _ (hq.rows _ mM) u28 ?_ iM hq); rfl; rfl; rfl)) | (unfold QP.oat; go_simp; first | done | exact ⟨by assumption, rfl⟩ | exact rfl | assumption | (((with_reducible refine (C2.out _ hq.below).mono ?_); rintro e w' ⟨rfl, gq⟩; exact ⟨rfl, hq.same gq⟩))))))
                clear hK K))
        refine QP.wpQ_nil ?_
        intro wz bz
        go_wp2
        go_ret
        exact ⟨rfl, by rw [HN.out]; exact bz.below⟩
      · obtain ⟨m, hm⟩ : ∃ m : Nat, min (z : Int) (64 - (k.size : Int)) = (m : Int) := ⟨min z (64 - k.size), by omega⟩
        have hkm : k.size + m ≤ 64 := by omega
        have c2 := fun v (hb : Below n w v) => tag_any (k ++ bytesI m fun _ => 0) s v (tb v hb) (by rw [ByteArray.size_append, bytesI_size]; omega) (by omega)
        rw [mac_zeros k s m hkm] at c2
        have hcv := fun v g (h : M.RowAt v g 5 (M.rowF .u8 m (fun _ => 0))) => conv_rowI h
        have hzs : (bytesI m fun _ => 0).size = m := bytesI_size _ _
        have hsum : ¬ (9223372036854775807 < k.size + (bytesI m fun _ => 0).size) := by omega
        obtain ⟨i0, hi, hz0, hz1, hz2⟩ := info_parts info5
        have hmk := fun v : World => run_make (P := Tryd.prog) v 51 5 i0 (.int .u8 0) Tryd.underlying51 hi hz0 .i64 .i64 (m : Int) (m : Int) (by omega) (by omega) (by rw [hz2]; omega) (by omega)
        simp only [Int.toNat_natCast, hz1, made_row] at hmk
        generalize (M.rowF .u8 m fun _ => 0) = ZZ at *
        generalize (bytesI m fun _ => 0) = Y at *
        generalize r8 32 (mac k s) = MM at *
        have C2 := Lib.hid c2; have HCV := Lib.hid hcv; have HMK := Lib.hid hmk; have HM := Lib.hid hm; have HS := Lib.hid hsum
        have dk64 : decide ((64 : Int) < k.size) = false := by simp; omega
        have dk642 : ¬ (64 : Int) < k.size := by omega
        have q1 : IntKind.i64.wrap (64 - (k.size : Int)) = 64 - (k.size : Int) := IntWalk.i64_in _ (by omega)
        have q2 : IntKind.i64.wrap (z : Int) = (z : Int) := IntWalk.i64_in _ (by omega)
        have dk : decide ((300 : Int) < k.size) = false := by simp; omega
        have dk2 : ¬ (300 : Int) < k.size := by omega
        have ds : decide ((300 : Int) < s.size) = false := by simp; omega
        have ds2 : ¬ (300 : Int) < s.size := by omega
        clear c2 hcv hmk sh tb ht h1n hsum hzs
        go_enter Tryd.func9, Tryd.ntmps9
        go_wp2_with fail
        refine (SH.out _ k0.below).mono ?_
        rintro e w1 ⟨rfl, gq⟩
        have k1 := k0.same gq
        clear gq k0 hn
        go_wp2_with fail
        refine (CT.out _ k1.below).mono ?_
        rintro e w2 ⟨rfl, gq⟩
        have k2 := k1.same gq
        clear gq k1
        obtain ⟨g, VG, UG, hg, hVG, rVG, hUG, k22, geg, ltg⟩ := k2.box 28 #[.int .u8 0, .int .u8 0, .int .u8 0, .int .u8 0, .int .u8 0, .int .u8 0, .int .u8 0, .int .u8 0, .int .u8 0, .int .u8 0, .int .u8 0, .int .u8 0, .int .u8 0, .int .u8 0, .int .u8 0, .int .u8 0, .int .u8 0, .int .u8 0, .int .u8 0, .int .u8 0, .int .u8 0, .int .u8 0, .int .u8 0, .int .u8 0, .int .u8 0, .int .u8 0, .int .u8 0, .int .u8 0, .int .u8 0, .int .u8 0, .int .u8 0, .int .u8 0] (MM)
        have Hg := Lib.hid hg; have HVG := Lib.hid hVG; have HUG := Lib.hid hUG
        clear hg hVG hUG k2
        go_wp2_with (first
          | (rw [Hg.out, HVG.out]; refine wpList_store_row (x := .tmp 7) (y := .tmp 24) (cells := MM) (old := Z32) (t := 28) (ty := 28) (g := g) ?_ ?_ ?_ ?_ rVG iM zM oM ?_; rfl; rfl; rfl; rfl; rw [HUG.out])
          | fail)
        clear rVG Hg HVG HUG
        obtain ⟨h, hh⟩ : ∃ h, UG.heap.size = h := ⟨_, rfl⟩
        obtain ⟨L, hL⟩ : ∃ L, [(g, 28, MM)] = L := ⟨_, rfl⟩
        have mM : (g, 28, MM) ∈ L := by rw [← hL]; simp
        have k4 : KH n h w L UG := ⟨by rw [← hL]; exact k22, hh⟩
        have mM' : (g, 28, MM) ∈ (h, 5, ZZ) :: L := List.mem_cons_of_mem _ mM
        have mZ : (h, 5, ZZ) ∈ (h, 5, ZZ) :: L := List.mem_cons_self
        have HL' : ∃ L', (h, 5, ZZ) :: L = L' := ⟨_, rfl⟩
        obtain ⟨L', hL'⟩ := HL'
        have knew : ∀ v, KH n h w L v → KB n w L' (v.alloc (.cells ZZ 5)) := fun v c => hL' ▸ c.new 5 ZZ
        have KN := Lib.hid knew
        rw [hL'] at mM' mZ
        clear hL k22 ltg geg hh hL' knew
        have hmk2 : ∀ v, KH n h w L v → (Instr.makeSlice 51 (.int .i64 (m : Int)) (.int .i64 (m : Int))).run Tryd.prog v = .ok (.slice (some ⟨h, 0, none⟩) m m) (v.alloc (.cells ZZ 5)) := fun v c => by rw [← c.size]; exact HMK.out v
        have HMK2 := Lib.hid hmk2
        clear hmk2
        refine QT.wp_region_p 8 (KH n h w L) (KB n w L') (by kernel_rfl) (by kernel_rfl) k4.drew ?_
        iterate 15
          (refine QT.wpQ_step (fun K hK => ?_)
           go_simp
           first
             | (refine hK _ ?_; clear hK K)
             | (refine ⟨?_, hK _ ?_⟩; decide; clear hK K)
             | ((first | (apply Exists.intro; refine ⟨?_, hK _ ?_⟩) | refine ⟨⟨undef, ?_⟩, hK _ ?_⟩)
                first
                  | (apply QT.al_p; decide; (focus (intro wq hq; (first | (have hcv := HCV.out _ _ (hq.rows _ mZ); have hsum := HS.out) | (have hsum := HS.out)); first | (first | ((with_reducible refine oat_eql 28 28 (.tmp 36) (.tmp 48) ?_ MM MM ?_ ?_ true guard28 (E1.out _) hq); rfl; rfl; rfl) | ((with_reducible refine QP.oat_load_row (ty := 28) (x := .tmp 7) (g := g) (t := 28) (cs := MM) (fr := (0, 0)) ?_ ?_ _ (hq.rows _ mM') u28 ?_ iM hq); rfl; rfl; rfl) | ((with_reducible refine QP.oat_load_row (ty := 28) (x := .tmp 7) (g := g) (t := 28) (cs := MM) (fr := (0, 0)) ?_ ?_ _ (hq.kb.rows _ mM) u28 ?_ iM hq); rfl; rfl; rfl) | ((with_reducible refine oat_make 51 (.tmp 43) ?_ m ?_ h ZZ 5 (HMK2.out _ hq) (KN.out _ hq)); rfl; rfl)) | (unfold QP.oat; go_simp; first | done | exact ⟨by assumption, rfl⟩ | exact rfl | assumption | (((with_reducible refine (C2.out _ hq.below).mono ?_); rintro e w' ⟨rfl, gq⟩; exact ⟨rfl, hq.same gq⟩))))))
                  | (apply QT.al_dep; decide; decide; (focus (intro wq hq; (first | (have hcv := HCV.out _ _ (hq.rows _ mZ); have hsum := HS.out) | (have hsum := HS.out)); first | (first | ((with_reducible refine oat_eql 28 28 (.tmp 36) (.tmp 48) ?_ MM MM ?_ ?_ true guard28 (E1.out _) hq); rfl; rfl; rfl) | ((with_reducible refine QP.oat_load_row (ty := 28) (x := .tmp 7) (g := g) (t := 28) (cs := MM) (fr := (0, 0)) ?_ ?_ _ (hq.rows _ mM') u28 ?_ iM hq); rfl; rfl; rfl) | ((with_reducible refine QP.oat_load_row (ty := 28) (x := .tmp 7) (g := g) (t := 28) (cs := MM) (fr := (0, 0)) ?_ ?_ _ (hq.kb.rows _ mM) u28 ?_ iM hq); rfl; rfl; rfl) | ((with_reducible refine oat_make 51 (.tmp 43) ?_ m ?_ h ZZ 5 (HMK2.out _ hq) (KN.out _ hq)); rfl; rfl)) | (unfold QP.oat; go_simp; first | done | exact ⟨by assumption, rfl⟩ | exact rfl | assumption | (((with_reducible refine (C2.out _ hq.below).mono ?_); rintro e w' ⟨rfl, gq⟩; exact ⟨rfl, hq.same gq⟩))))))
                  | (apply QT.al_bef; decide; decide; (focus (intro wq hq; (first | (have hcv := HCV.out _ _ (hq.rows _ mZ); have hsum := HS.out) | (have hsum := HS.out)); first | (first | ((with_reducible refine oat_eql 28 28 (.tmp 36) (.tmp 48) ?_ MM MM ?_ ?_ true guard28 (E1.out _) hq); rfl; rfl; rfl) | ((with_reducible refine QP.oat_load_row (ty := 28) (x := .tmp 7) (g := g) (t := 28) (cs := MM) (fr := (0, 0)) ?_ ?_ _ (hq.rows _ mM') u28 ?_ iM hq); rfl; rfl; rfl) | ((with_reducible refine QP.oat_load_row (ty := 28) (x := .tmp 7) (g := g) (t := 28) (cs := MM) (fr := (0, 0)) ?_ ?_ _ (hq.kb.rows _ mM) u28 ?_ iM hq); rfl; rfl; rfl) | ((with_reducible refine oat_make 51 (.tmp 43) ?_ m ?_ h ZZ 5 (HMK2.out _ hq) (KN.out _ hq)); rfl; rfl)) | (unfold QP.oat; go_simp; first | done | exact ⟨by assumption, rfl⟩ | exact rfl | assumption | (((with_reducible refine (C2.out _ hq.below).mono ?_); rintro e w' ⟨rfl, gq⟩; exact ⟨rfl, hq.same gq⟩))))))
                  | (apply QT.al_ok; decide; (focus (intro wq hq; (first | (have hcv := HCV.out _ _ (hq.rows _ mZ); have hsum := HS.out) | (have hsum := HS.out)); first | (first | ((with_reducible refine oat_eql 28 28 (.tmp 36) (.tmp 48) ?_ MM MM ?_ ?_ true guard28 (E1.out _) hq); rfl; rfl; rfl) | ((with_reducible refine QP.oat_load_row (ty := 28) (x := .tmp 7) (g := g) (t := 28) (cs := MM) (fr := (0, 0)) ?_ ?_ _ (hq.rows _ mM') u28 ?_ iM hq); rfl; rfl; rfl) | ((with_reducible refine QP.oat_load_row (ty := 28) (x := .tmp 7) (g := g) (t := 28) (cs := MM) (fr := (0, 0)) ?_ ?_ _ (hq.kb.rows _ mM) u28 ?_ iM hq); rfl; rfl; rfl) | ((with_reducible refine oat_make 51 (.tmp 43) ?_ m ?_ h ZZ 5 (HMK2.out _ hq) (KN.out _ hq)); rfl; rfl)) | (unfold QP.oat; go_simp; first | done | exact ⟨by assumption, rfl⟩ | exact rfl | assumption | (((with_reducible refine (C2.out _ hq.below).mono ?_); rintro e w' ⟨rfl, gq⟩; exact ⟨rfl, hq.same gq⟩))))); (focus (intro wq hq; (first | (have hcv := HCV.out _ _ (hq.rows _ mZ); have hsum := HS.out) | (have hsum := HS.out)); first | (first | ((with_reducible refine oat_eql 28 28 (.tmp 36) (.tmp 48) ?_ MM MM ?_ ?_ true guard28 (E1.out _) hq); rfl; rfl; rfl) | ((with_reducible refine QP.oat_load_row (ty := 28) (x := .tmp 7) (g := g) (t := 28) (cs := MM) (fr := (0, 0)) ?_ ?_ _ (hq.rows _ mM') u28 ?_ iM hq); rfl; rfl; rfl) | ((with_reducible refine QP.oat_load_row (ty := 28) (x := .tmp 7) (g := g) (t := 28) (cs := MM) (fr := (0, 0)) ?_ ?_ _ (hq.kb.rows _ mM) u28 ?_ iM hq); rfl; rfl; rfl) | ((with_reducible refine oat_make 51 (.tmp 43) ?_ m ?_ h ZZ 5 (HMK2.out _ hq) (KN.out _ hq)); rfl; rfl)) | (unfold QP.oat; go_simp; first | done | exact ⟨by assumption, rfl⟩ | exact rfl | assumption | (((with_reducible refine (C2.out _ hq.below).mono ?_); rintro e w' ⟨rfl, gq⟩; exact ⟨rfl, hq.same gq⟩))))))
                clear hK K))
        refine QT.wpQ_nil ?_
        intro wz bz
        go_wp2
        go_ret
        exact ⟨rfl, by rw [HN.out]; exact bz.below⟩

theorem walk_SealLong (a0 : ByteArray) (_w0 : a0.size ≤ maxLen) (a1 : ByteArray) (_w1 : a1.size ≤ maxLen) (a2 : Int) (w2 : (Lit.int .u8 a2).wf = true) {W : World} (hL : laidMetH Tryd.prog Rows.sealLongRow.laid W) :
    Calls Tryd.prog 9 #[.string a0, .string a1, .int .u8 a2] W (Fine W) := by
  obtain ⟨h0, h1⟩ := RowK.wf_u8 w2
  obtain ⟨a, rfl⟩ := Int.eq_ofNat_of_zero_le h0
  exact long_walk a0 a1 a W (tabs_of hL (by simp [Rows.sealLongRow]) (by simp [Rows.sealLongRow])) (by omega)
end Go.Proofs.YtpfcalamchdciaaDoor
