/- The walk of SealMixes; the conditions are that the tables are laid and that arrays of bytes hold bytes. -/
import Derived.Test.YtpfcalamchdciaaDoorSeD
import Derived.Test.YtpfcalamchdciaaDoorKB
import Derived.Test.YtpfcalamchdciaaDoorAppSep
namespace Go.Proofs.YtpfcalamchdciaaDoor
open Go.RowKit
set_option linter.unusedVariables false

/-- the inner sum lies in block gi, the other key's bytes in a row of the call's own -/
structure MG (n g gi gb cb : Nat) (w : World) (DI : Array Value) (xs : List Value) (v : World) : Prop where
  kb : KB n w [(gi, 28, DI)] v
  own : v.ownsRow g 5 1 (.slice (some ⟨gb, 0, none⟩) 64 cb) 64 xs
theorem MG.drew {n g gi gb cb : Nat} {w : World} {DI : Array Value} {xs : List Value} {v : World} (c : MG n g gi gb cb w DI xs v) : MG n g gi gb cb w DI xs v.drew := ⟨c.kb.drew, c.own.drew⟩
theorem MG.row {n g gi gb cb : Nat} {w : World} {DI : Array Value} {xs : List Value} {v : World} (c : MG n g gi gb cb w DI xs v) : v.heap[gi]? = some (.cells DI 28 (0, 0)) := c.kb.rows (gi, 28, DI) List.mem_cons_self
theorem MG.same {n g gi gb cb : Nat} {w : World} {DI : Array Value} {xs : List Value} {v v' : World} (c : MG n g gi gb cb w DI xs v) (hb : Below v.heap.size v v') : MG n g gi gb cb w DI xs v' :=
  ⟨c.kb.same hb, c.own.kept (row := none) ⟨hb.os, hb.tape, hb.output, hb.size, fun q hq _ => hb.block q hq⟩ (.inr (fun h => by cases h))⟩
theorem own_far {w : World} {base n gb cb : Nat} {xs : List Value} {e : TypeId} {g : Nat} (h : w.ownsRow base e 1 (.slice (some ⟨gb, 0, none⟩) n cb) n xs) (hne : gb ≠ g) (D : Array Value) : (w.setRow g D).ownsRow base e 1 (.slice (some ⟨gb, 0, none⟩) n cb) n xs := by
  refine h.kept (row := some g) ⟨rfl, rfl, rfl, by simp, fun q hq hn => ?_⟩ (.inr (fun h => hne (Option.some.inj h)))
  simp only [World.setRow, Array.getElem?_modify]
  rw [if_neg (fun h => hn (by rw [h]))]
theorem own_new (w : World) (g : Nat) (hg : w.heap.size = g) : (w.alloc (.cells #[] 5)).ownsRow g 5 1 (.slice (some ⟨g, 0, none⟩) 0 0) 0 [] := by
  subst hg
  exact own_lit w 5 [] (by unfold maxLen; decide)

set_option maxRecDepth 100000 in
set_option maxHeartbeats 4000000 in
theorem mixes_walk (k s : ByteArray) (w : World) (ht : Tabs w) :
    Calls Tryd.prog 10 #[.string k, .string s] w (Fine w) := by
  obtain ⟨n, hn⟩ : ∃ n, w.heap.size = n := ⟨_, rfl⟩
  have HN := Lib.hid hn
  have h1n : 1 < n := hn ▸ ht.lt
  have tb := fun v (hb : Below n w v) => ht.below hb h1n
  have TB := Lib.hid tb
  have sh := fun v (hb : Below n w v) => sshown_any v (tb v hb)
  have SH := Lib.hid sh
  have k0 : KB n w [] w := hn ▸ KB.start w
  by_cases hk : 64 < k.size
  · skip
    have dk : decide ((64 : Int) < k.size) = true := by simp; omega
    have dk2 : (64 : Int) < k.size := by omega
    clear hn sh tb ht h1n
    go_enter Tryd.func10, Tryd.ntmps10
    go_wp2_with fail
    refine (SH.out _ k0.below).mono ?_
    rintro e w' ⟨rfl, gq⟩
    have b1 := (k0.same gq).below
    go_wp2
    go_ret
    exact ⟨rfl, by rw [HN.out]; exact b1⟩
  · by_cases hs : 300 < s.size
    · skip
      have dk : decide ((64 : Int) < k.size) = false := by simp; omega
      have dk2 : ¬ (64 : Int) < k.size := by omega
      have ds : decide ((300 : Int) < s.size) = true := by simp; omega
      have ds2 : (300 : Int) < s.size := by omega
      clear hn sh tb ht h1n
      go_enter Tryd.func10, Tryd.ntmps10
      go_wp2_with fail
      refine (SH.out _ k0.below).mono ?_
      rintro e w' ⟨rfl, gq⟩
      have b1 := (k0.same gq).below
      go_wp2
      go_ret
      exact ⟨rfl, by rw [HN.out]; exact b1⟩
    · obtain ⟨i0, hi, hz0, hz1, hz2⟩ := info_parts info5
      have hkey : keyOf k = k := by unfold keyOf; rw [if_neg hk]
      have hmac : Sha.sum (mixS k 92 ++ hstr (macIn k s)) = mac k s := by unfold mac; rw [hkey]
      have hin : Sha.sum (mixS k 54 ++ s) = macIn k s := rfl
      have hof : Sha.sum (hstr (macIn k s)) = ofH (macIn k s) := rfl
      have z1 : (mixS k 54).size = 64 := mixS_size _ _
      have z2 : (mixS k 92).size = 64 := mixS_size _ _
      have z3 : (mixS k 54 ++ s).size = (mixS k 54).size + s.size := ByteArray.size_append
      have z4 : (mixS k 92 ++ hstr (macIn k s)).size = (mixS k 92).size + (hstr (macIn k s)).size := ByteArray.size_append
      have z5 : (hstr (macIn k s)).size = 32 := hstr_size _
      have c1 := fun v (hb : Below n w v) => sum_any (mixS k 54 ++ s) v (tb v hb) (by omega)
      have c2 := fun v (hb : Below n w v) => tag_any k s v (tb v hb) (by omega) (by omega)
      have c3 := fun v (hb : Below n w v) => sum_any (mixS k 92 ++ hstr (macIn k s)) v (tb v hb) (by omega)
      have c4 := fun v (hb : Below n w v) => of_any (macIn k s) v (tb v hb)
      have c5 := fun v (hb : Below n w v) => sum_any (hstr (macIn k s)) v (tb v hb) (by omega)
      rw [hin] at c1
      rw [hmac] at c3
      rw [hof] at c5
      have hcv := fun v g (h : M.RowAt v g 28 (r8 32 (macIn k s))) => conv_row8 h
      have e1 := fun W => r8_eq (mac k s) W
      have e2 := fun W => r8_eq (ofH (macIn k s)) W
      have iI := r8_info (macIn k s); have zI := r8_zero (macIn k s); have oI := r8_one (macIn k s)
      have hl1 : (mixS k 54).size + s.size ≤ 10000000 := by omega
      have hl2 : ¬ (9223372036854775807 < (mixS k 92).size + (hstr (macIn k s)).size) := by omega
      have m1 : strOfNums (mixL k 54 64) = mixS k 54 := rfl
      have m2 : strOfNums (mixL k 92 64) = mixS k 92 := rfl
      generalize r8 32 (mac k s) = D1 at *
      generalize r8 32 (ofH (macIn k s)) = D2 at *
      generalize r8 32 (macIn k s) = DI at *
      generalize hstr (macIn k s) = Y at *
      generalize mixS k 54 = X1 at *
      generalize mixS k 92 = X2 at *
      have C1 := Lib.hid c1; have C2 := Lib.hid c2; have C3 := Lib.hid c3; have C4 := Lib.hid c4; have C5 := Lib.hid c5; have HCV := Lib.hid hcv; have E1 := Lib.hid e1; have E2 := Lib.hid e2; have M1 := Lib.hid m1; have M2 := Lib.hid m2; have HL2 := Lib.hid hl2
      have dk : decide ((64 : Int) < k.size) = false := by simp; omega
      have dk2 : ¬ (64 : Int) < k.size := by omega
      have ds : decide ((300 : Int) < s.size) = false := by simp; omega
      have ds2 : ¬ (300 : Int) < s.size := by omega
      clear c1 c2 c3 c4 c5 hcv e1 e2 m1 m2 hkey hmac hin hof z1 z2 z3 z4 z5 sh tb ht h1n hl2
      go_enter Tryd.func10, Tryd.ntmps10
      go_wp2_with fail
      refine (SH.out _ k0.below).mono ?_
      rintro e w1 ⟨rfl, gq⟩
      have k1 := k0.same gq
      clear gq k0
      have hge := k1.ge
      obtain ⟨g, hg⟩ : ∃ g, w1.heap.size = g := ⟨_, rfl⟩
      have o1 := (own_new w1 g hg).alloc (.cells #[] 5)
      have o2 := own_new (w1.alloc (.cells #[] 5)) (g + 1) (by rw [World.size_alloc, hg])
      have b2 := ((k1.alloc (.cells #[] 5)).alloc (.cells #[] 5)).below
      have hsz : ((w1.alloc (.cells #[] 5)).alloc (.cells #[] 5)).heap.size = g + 1 + 1 := by rw [World.size_alloc, World.size_alloc, hg]
      rw [hg] at hge
      clear k1 hn
      go_wp2
      generalize (w1.alloc (.cells #[] 5)).alloc (.cells #[] 5) = v0 at *
      clear hg
      go_loopg [5, 6, 7] 64 (fun m va vb i wr => ∃ (j ga ca gb cb : Nat), m + j = 64 ∧ i = .int .i64 j ∧ va = .slice (some ⟨ga, 0, none⟩) j ca ∧ vb = .slice (some ⟨gb, 0, none⟩) j cb ∧ wr.ownsRow g 5 1 va j (intsV (mixL k 54 j)) ∧ wr.ownsRow g 5 1 vb j (intsV (mixL k 92 j)) ∧ ga ≠ gb ∧ Below n w wr ∧ g ≤ wr.heap.size)
      case atStart => exact ⟨0, g, 0, g + 1, 0, by omega, rfl, rfl, rfl, o1, o2.mono (by omega), by omega, b2, by omega⟩
      case round =>
        clear o1 o2 b2 hsz
        obtain ⟨j, ga, ca, gb, cb, hm, rfl, rfl, rfl, oa, ob, hne, hb, hgs⟩ := hrel
        have la := (oa.lt ga rfl).2
        have lb := (ob.lt gb rfl).2
        by_cases hlt : j < 64
        · have hbk := bk_lt k j
          have hl1' : intsV (mixL k 54 j) ++ [.int .u8 (bits .xor .u8 (bk k j) 54)] = intsV (mixL k 54 (j + 1)) := by rw [show mixL k 54 (j + 1) = mixL k 54 j ++ [bits .xor .u8 (bk k j) 54] from mixL_succ k 54 j]; simp [intsV]
          have hl2' : intsV (mixL k 92 j) ++ [.int .u8 (bits .xor .u8 (bk k j) 92)] = intsV (mixL k 92 (j + 1)) := by rw [show mixL k 92 (j + 1) = mixL k 92 j ++ [bits .xor .u8 (bk k j) 92] from mixL_succ k 92 j]; simp [intsV]
          have HA := Lib.hid hl1'; have HB' := Lib.hid hl2'
          clear hl1' hl2'
          by_cases hjk : j < k.size
          · have hby : ((k[j].toNat : Nat) : Int) = bk k j := by unfold bk; rw [Sha.byte_at k j hjk]
            have HBY := Lib.hid hby
            clear hby
            go_wp2_with (at_builtin; refine wpList_append_sep _ rfl (.tmp 36) (.tmp 39) 51 rfl g 5 i0 (.int .u8 0) 1 1 Tryd.underlying51 hi hz0 hz1 hz2 rfl (by decide) ga j ca _ rfl (oa.alloc _) ⟨wr.heap.size, 0, none⟩ 1 1 [.int .u8 (bits .xor .u8 ((k[j].toNat : Int)) 54)] rfl rfl ?c1 ?c2 ?c3 ?c4 ?c5 ?c6 ?_)
            case c1 => exact cell_one_new _ _ _
            case c2 => intro u hu; simp at hu; subst hu; rfl
            case c3 => omega
            case c4 => unfold maxLen; omega
            case c5 => omega
            case c6 => simp; omega
            intro ga2 ca2 w2 oa2 hg2 hor
            rw [HBY.out, HA.out] at oa2
            have ob2 : w2.ownsRow g 5 1 (.slice (some ⟨gb, 0, none⟩) j cb) j (intsV (mixL k 92 j)) := (ob.alloc _).kept hg2 (.inr (by simp [Value.ownBlock]; omega))
            have hb2 : Below n w w2 := (hb.alloc (by omega) _).grown hg2 (by simp; omega) (fun q hq => by cases hq; exact Nat.le_trans hge (oa.lt ga rfl).1)
            have hgs2 : wr.heap.size + 1 ≤ w2.heap.size := by have := hg2.size; simpa using this
            have hne2 : ga2 ≠ gb := by rcases hor with h | h <;> (try simp at h) <;> omega
            have la2 := (oa2.lt ga2 rfl).2
            have lb2 := (ob2.lt gb rfl).2
            clear oa ob hg2 hor hb la lb
            go_wp2_with (at_builtin; refine wpList_append_sep _ rfl (.tmp 41) (.tmp 44) 51 rfl g 5 i0 (.int .u8 0) 1 1 Tryd.underlying51 hi hz0 hz1 hz2 rfl (by decide) gb j cb _ rfl (ob2.alloc _) ⟨w2.heap.size, 0, none⟩ 1 1 [.int .u8 (bits .xor .u8 ((k[j].toNat : Int)) 92)] rfl rfl ?d1 ?d2 ?d3 ?d4 ?d5 ?d6 ?_)
            case d1 => exact cell_one_new _ _ _
            case d2 => intro u hu; simp at hu; subst hu; rfl
            case d3 => omega
            case d4 => unfold maxLen; omega
            case d5 => omega
            case d6 => simp; omega
            intro gb2 cb2 w3 ob3 hg3 hor
            rw [HBY.out, HB'.out] at ob3
            have oa3 : w3.ownsRow g 5 1 (.slice (some ⟨ga2, 0, none⟩) (j + 1) ca2) (j + 1) (intsV (mixL k 54 (j + 1))) := (oa2.alloc _).kept hg3 (.inr (by simp [Value.ownBlock]; omega))
            have hb3 : Below n w w3 := (hb2.alloc (by omega) _).grown hg3 (by simp; omega) (fun q hq => by cases hq; exact Nat.le_trans hge (ob2.lt gb rfl).1)
            have hgs3 : g ≤ w3.heap.size := by have := hg3.size; simp at this; omega
            have hne3 : ga2 ≠ gb2 := by rcases hor with h | h <;> (try simp at h) <;> omega
            clear oa2 ob2 hg3 hor hb2 la2 lb2
            go_wp2
            go_roundg (64 - (j + 1))
            case measure => omega
            case rel => exact ⟨j + 1, ga2, ca2, gb2, cb2, by omega, by go_num, rfl, rfl, oa3, ob3, hne3, hb3, hgs3⟩
          · have e0 := bk_out k j (by omega)
            rw [e0] at HA HB'
            clear hbk e0
            go_wp2_with (at_builtin; refine wpList_append_sep _ rfl (.tmp 36) (.tmp 39) 51 rfl g 5 i0 (.int .u8 0) 1 1 Tryd.underlying51 hi hz0 hz1 hz2 rfl (by decide) ga j ca _ rfl (oa.alloc _) ⟨wr.heap.size, 0, none⟩ 1 1 [.int .u8 (bits .xor .u8 (0) 54)] rfl rfl ?c1 ?c2 ?c3 ?c4 ?c5 ?c6 ?_)
            case c1 => exact cell_one_new _ _ _
            case c2 => intro u hu; simp at hu; subst hu; rfl
            case c3 => omega
            case c4 => unfold maxLen; omega
            case c5 => omega
            case c6 => simp; omega
            intro ga2 ca2 w2 oa2 hg2 hor
            rw [HA.out] at oa2
            have ob2 : w2.ownsRow g 5 1 (.slice (some ⟨gb, 0, none⟩) j cb) j (intsV (mixL k 92 j)) := (ob.alloc _).kept hg2 (.inr (by simp [Value.ownBlock]; omega))
            have hb2 : Below n w w2 := (hb.alloc (by omega) _).grown hg2 (by simp; omega) (fun q hq => by cases hq; exact Nat.le_trans hge (oa.lt ga rfl).1)
            have hgs2 : wr.heap.size + 1 ≤ w2.heap.size := by have := hg2.size; simpa using this
            have hne2 : ga2 ≠ gb := by rcases hor with h | h <;> (try simp at h) <;> omega
            have la2 := (oa2.lt ga2 rfl).2
            have lb2 := (ob2.lt gb rfl).2
            clear oa ob hg2 hor hb la lb
            go_wp2_with (at_builtin; refine wpList_append_sep _ rfl (.tmp 41) (.tmp 44) 51 rfl g 5 i0 (.int .u8 0) 1 1 Tryd.underlying51 hi hz0 hz1 hz2 rfl (by decide) gb j cb _ rfl (ob2.alloc _) ⟨w2.heap.size, 0, none⟩ 1 1 [.int .u8 (bits .xor .u8 (0) 92)] rfl rfl ?d1 ?d2 ?d3 ?d4 ?d5 ?d6 ?_)
            case d1 => exact cell_one_new _ _ _
            case d2 => intro u hu; simp at hu; subst hu; rfl
            case d3 => omega
            case d4 => unfold maxLen; omega
            case d5 => omega
            case d6 => simp; omega
            intro gb2 cb2 w3 ob3 hg3 hor
            rw [HB'.out] at ob3
            have oa3 : w3.ownsRow g 5 1 (.slice (some ⟨ga2, 0, none⟩) (j + 1) ca2) (j + 1) (intsV (mixL k 54 (j + 1))) := (oa2.alloc _).kept hg3 (.inr (by simp [Value.ownBlock]; omega))
            have hb3 : Below n w w3 := (hb2.alloc (by omega) _).grown hg3 (by simp; omega) (fun q hq => by cases hq; exact Nat.le_trans hge (ob2.lt gb rfl).1)
            have hgs3 : g ≤ w3.heap.size := by have := hg3.size; simp at this; omega
            have hne3 : ga2 ≠ gb2 := by rcases hor with h | h <;> (try simp at h) <;> omega
            clear oa2 ob2 hg3 hor hb2 la2 lb2
            go_wp2
            go_roundg (64 - (j + 1))
            case measure => omega
            case rel => exact ⟨j + 1, ga2, ca2, gb2, cb2, by omega, by go_num, rfl, rfl, oa3, ob3, hne3, hb3, hgs3⟩
        · obtain rfl : j = 64 := by omega
          have hc1 := conv_ownI oa
          have hc2 := conv_ownI ob
          rw [M1.out] at hc1
          rw [M2.out] at hc2
          have HC2 := Lib.hid ob
          clear oa ob hc2
          go_wp2_with fail
          refine (C1.out _ hb).mono ?_
          rintro e w2 ⟨rfl, gq⟩
          have kb : KB n w [] w2 := ⟨fun x hx => by simp at hx, hb.trans (gq.mono (by omega)), by have := gq.size; omega⟩
          have ob2 : w2.ownsRow g 5 1 (.slice (some ⟨gb, 0, none⟩) 64 cb) 64 (intsV (mixL k 92 64)) := HC2.out.kept ⟨gq.os, gq.tape, gq.output, gq.size, fun q hq _ => gq.block q hq⟩ (.inr (fun h => by cases h)) (row := none)
          have hgs2 : g ≤ w2.heap.size := by have := gq.size; omega
          have lb2 := (ob2.lt gb rfl).2
          clear gq hb HC2 hc1
          obtain ⟨gi, VG, UG, hgi, hVG, rVG, hUG, kb2, gegi, _⟩ := kb.box 28 (#[.int .u8 0, .int .u8 0, .int .u8 0, .int .u8 0, .int .u8 0, .int .u8 0, .int .u8 0, .int .u8 0, .int .u8 0, .int .u8 0, .int .u8 0, .int .u8 0, .int .u8 0, .int .u8 0, .int .u8 0, .int .u8 0, .int .u8 0, .int .u8 0, .int .u8 0, .int .u8 0, .int .u8 0, .int .u8 0, .int .u8 0, .int .u8 0, .int .u8 0, .int .u8 0, .int .u8 0, .int .u8 0, .int .u8 0, .int .u8 0, .int .u8 0, .int .u8 0]) DI
          have ob3 : UG.ownsRow g 5 1 (.slice (some ⟨gb, 0, none⟩) 64 cb) 64 (intsV (mixL k 92 64)) := by
            rw [← hUG, ← hVG]
            exact own_far (ob2.alloc _) (by omega) DI
          have Hgi := Lib.hid hgi; have HVG := Lib.hid hVG; have HUG := Lib.hid hUG
          clear hgi hVG hUG ob2 kb
          go_wp2_with (first
            | (rw [Hgi.out, HVG.out]; refine wpList_store_row (x := .tmp 9) (y := .tmp 50) (cells := DI) (old := Z32) (t := 28) (ty := 28) (g := gi) ?_ ?_ ?_ ?_ rVG iI zI oI ?_; rfl; rfl; rfl; rfl; rw [HUG.out])
            | fail)
          clear rVG Hgi HVG HUG
          have xs0 : ∃ xs, intsV (mixL k 92 64) = xs := ⟨_, rfl⟩
          obtain ⟨xs, hxs⟩ := xs0
          have hc9 : ∀ v, v.ownsRow g 5 1 (.slice (some ⟨gb, 0, none⟩) 64 cb) 64 xs → (convert 51 9 (.slice (some ⟨gb, 0, none⟩) 64 cb)).run Tryd.prog v = .ok (.string X2) v := fun v h => by
            have := conv_ownI (l := mixL k 92 64) (hxs ▸ h)
            rw [M2.out] at this; exact this
          have HC9 := Lib.hid hc9
          rw [hxs] at ob3
          have mg : MG n g gi gb cb w DI xs UG := ⟨kb2, ob3⟩
          clear hc9 hxs ob3 kb2
          refine QP.wp_region_p 2 (MG n g gi gb cb w DI xs) (MG n g gi gb cb w DI xs) (by kernel_rfl) (by kernel_rfl) mg.drew ?_
          iterate 19
            (refine QP.wpQ_step (fun K hK => ?_)
             go_simp
             first
               | (refine hK _ ?_; clear hK K)
               | (refine ⟨?_, hK _ ?_⟩; decide; clear hK K)
               | ((first | (apply Exists.intro; refine ⟨?_, hK _ ?_⟩) | refine ⟨⟨undef, ?_⟩, hK _ ?_⟩)
                  first
                    | (apply QP.al_p; decide; (focus (intro wq hq; (first | (have hcv := HCV.out _ _ (hq.kb.rows (gi, 28, DI) List.mem_cons_self); have hc9 := HC9.out _ hq.own; have hl2 := HL2.out) | skip); first | (first | ((with_reducible refine oat_eql 28 28 (.tmp 53) (.tmp 59) ?_ D1 D1 ?_ ?_ true guard28 (E1.out _) hq); rfl; rfl; rfl) | ((with_reducible refine oat_eql 28 28 (.tmp 63) (.tmp 66) ?_ D2 D2 ?_ ?_ true guard28 (E2.out _) hq); rfl; rfl; rfl) | ((with_reducible refine QP.oat_load_row (ty := 28) (x := .tmp 9) (g := gi) (t := 28) (cs := DI) (fr := (0, 0)) ?_ ?_ _ hq.row und28 ?_ iI hq); rfl; rfl; rfl)) | (unfold QP.oat; go_simp; first | done | exact ⟨by assumption, rfl⟩ | exact rfl | assumption | (first | ((with_reducible refine (C2.out _ hq.kb.below).mono ?_); rintro e w' ⟨rfl, gq⟩; exact ⟨rfl, hq.same gq⟩) | ((with_reducible refine (C3.out _ hq.kb.below).mono ?_); rintro e w' ⟨rfl, gq⟩; exact ⟨rfl, hq.same gq⟩) | ((with_reducible refine (C4.out _ hq.kb.below).mono ?_); rintro e w' ⟨rfl, gq⟩; exact ⟨rfl, hq.same gq⟩) | ((with_reducible refine (C5.out _ hq.kb.below).mono ?_); rintro e w' ⟨rfl, gq⟩; exact ⟨rfl, hq.same gq⟩))))))
                    | (apply QP.al_dep; decide; decide; (focus (intro wq hq; (first | (have hcv := HCV.out _ _ (hq.kb.rows (gi, 28, DI) List.mem_cons_self); have hc9 := HC9.out _ hq.own; have hl2 := HL2.out) | skip); first | (first | ((with_reducible refine oat_eql 28 28 (.tmp 53) (.tmp 59) ?_ D1 D1 ?_ ?_ true guard28 (E1.out _) hq); rfl; rfl; rfl) | ((with_reducible refine oat_eql 28 28 (.tmp 63) (.tmp 66) ?_ D2 D2 ?_ ?_ true guard28 (E2.out _) hq); rfl; rfl; rfl) | ((with_reducible refine QP.oat_load_row (ty := 28) (x := .tmp 9) (g := gi) (t := 28) (cs := DI) (fr := (0, 0)) ?_ ?_ _ hq.row und28 ?_ iI hq); rfl; rfl; rfl)) | (unfold QP.oat; go_simp; first | done | exact ⟨by assumption, rfl⟩ | exact rfl | assumption | (first | ((with_reducible refine (C2.out _ hq.kb.below).mono ?_); rintro e w' ⟨rfl, gq⟩; exact ⟨rfl, hq.same gq⟩) | ((with_reducible refine (C3.out _ hq.kb.below).mono ?_); rintro e w' ⟨rfl, gq⟩; exact ⟨rfl, hq.same gq⟩) | ((with_reducible refine (C4.out _ hq.kb.below).mono ?_); rintro e w' ⟨rfl, gq⟩; exact ⟨rfl, hq.same gq⟩) | ((with_reducible refine (C5.out _ hq.kb.below).mono ?_); rintro e w' ⟨rfl, gq⟩; exact ⟨rfl, hq.same gq⟩))))))
                    | (apply QP.al_bef; decide; decide; (focus (intro wq hq; (first | (have hcv := HCV.out _ _ (hq.kb.rows (gi, 28, DI) List.mem_cons_self); have hc9 := HC9.out _ hq.own; have hl2 := HL2.out) | skip); first | (first | ((with_reducible refine oat_eql 28 28 (.tmp 53) (.tmp 59) ?_ D1 D1 ?_ ?_ true guard28 (E1.out _) hq); rfl; rfl; rfl) | ((with_reducible refine oat_eql 28 28 (.tmp 63) (.tmp 66) ?_ D2 D2 ?_ ?_ true guard28 (E2.out _) hq); rfl; rfl; rfl) | ((with_reducible refine QP.oat_load_row (ty := 28) (x := .tmp 9) (g := gi) (t := 28) (cs := DI) (fr := (0, 0)) ?_ ?_ _ hq.row und28 ?_ iI hq); rfl; rfl; rfl)) | (unfold QP.oat; go_simp; first | done | exact ⟨by assumption, rfl⟩ | exact rfl | assumption | (first | ((with_reducible refine (C2.out _ hq.kb.below).mono ?_); rintro e w' ⟨rfl, gq⟩; exact ⟨rfl, hq.same gq⟩) | ((with_reducible refine (C3.out _ hq.kb.below).mono ?_); rintro e w' ⟨rfl, gq⟩; exact ⟨rfl, hq.same gq⟩) | ((with_reducible refine (C4.out _ hq.kb.below).mono ?_); rintro e w' ⟨rfl, gq⟩; exact ⟨rfl, hq.same gq⟩) | ((with_reducible refine (C5.out _ hq.kb.below).mono ?_); rintro e w' ⟨rfl, gq⟩; exact ⟨rfl, hq.same gq⟩))))))
                    | (apply QP.al_ok; decide; (focus (intro wq hq; (first | (have hcv := HCV.out _ _ (hq.kb.rows (gi, 28, DI) List.mem_cons_self); have hc9 := HC9.out _ hq.own; have hl2 := HL2.out) | skip); first | (first | ((with_reducible refine oat_eql 28 28 (.tmp 53) (.tmp 59) ?_ D1 D1 ?_ ?_ true guard28 (E1.out _) hq); rfl; rfl; rfl) | ((with_reducible refine oat_eql 28 28 (.tmp 63) (.tmp 66) ?_ D2 D2 ?_ ?_ true guard28 (E2.out _) hq); rfl; rfl; rfl) | ((with_reducible refine QP.oat_load_row (ty := 28) (x := .tmp 9) (g := gi) (t := 28) (cs := DI) (fr := (0, 0)) ?_ ?_ _ hq.row und28 ?_ iI hq); rfl; rfl; rfl)) | (unfold QP.oat; go_simp; first | done | exact ⟨by assumption, rfl⟩ | exact rfl | assumption | (first | ((with_reducible refine (C2.out _ hq.kb.below).mono ?_); rintro e w' ⟨rfl, gq⟩; exact ⟨rfl, hq.same gq⟩) | ((with_reducible refine (C3.out _ hq.kb.below).mono ?_); rintro e w' ⟨rfl, gq⟩; exact ⟨rfl, hq.same gq⟩) | ((with_reducible refine (C4.out _ hq.kb.below).mono ?_); rintro e w' ⟨rfl, gq⟩; exact ⟨rfl, hq.same gq⟩) | ((with_reducible refine (C5.out _ hq.kb.below).mono ?_); rintro e w' ⟨rfl, gq⟩; exact ⟨rfl, hq.same gq⟩))))); (focus (intro wq hq; (first | (have hcv := HCV.out _ _ (hq.kb.rows (gi, 28, DI) List.mem_cons_self); have hc9 := HC9.out _ hq.own; have hl2 := HL2.out) | skip); first | (first | ((with_reducible refine oat_eql 28 28 (.tmp 53) (.tmp 59) ?_ D1 D1 ?_ ?_ true guard28 (E1.out _) hq); rfl; rfl; rfl) | ((with_reducible refine oat_eql 28 28 (.tmp 63) (.tmp 66) ?_ D2 D2 ?_ ?_ true guard28 (E2.out _) hq); rfl; rfl; rfl) | ((with_reducible refine QP.oat_load_row (ty := 28) (x := .tmp 9) (g := gi) (t := 28) (cs := DI) (fr := (0, 0)) ?_ ?_ _ hq.row und28 ?_ iI hq); rfl; rfl; rfl)) | (unfold QP.oat; go_simp; first | done | exact ⟨by assumption, rfl⟩ | exact rfl | assumption | (first | ((with_reducible refine (C2.out _ hq.kb.below).mono ?_); rintro e w' ⟨rfl, gq⟩; exact ⟨rfl, hq.same gq⟩) | ((with_reducible refine (C3.out _ hq.kb.below).mono ?_); rintro e w' ⟨rfl, gq⟩; exact ⟨rfl, hq.same gq⟩) | ((with_reducible refine (C4.out _ hq.kb.below).mono ?_); rintro e w' ⟨rfl, gq⟩; exact ⟨rfl, hq.same gq⟩) | ((with_reducible refine (C5.out _ hq.kb.below).mono ?_); rintro e w' ⟨rfl, gq⟩; exact ⟨rfl, hq.same gq⟩))))))
                  clear hK K))
          refine QP.wpQ_nil ?_
          intro wz bz
          go_wp2
          go_ret
          exact ⟨rfl, by rw [HN.out]; exact bz.kb.below⟩

theorem walk_SealMixes (a0 : ByteArray) (_w0 : a0.size ≤ maxLen) (a1 : ByteArray) (_w1 : a1.size ≤ maxLen) {W : World} (hL : laidMetH Tryd.prog Rows.sealMixesRow.laid W) :
    Calls Tryd.prog 10 #[.string a0, .string a1] W (Fine W) :=
  mixes_walk a0 a1 W (tabs_of hL (by simp [Rows.sealMixesRow]) (by simp [Rows.sealMixesRow]))
end Go.Proofs.YtpfcalamchdciaaDoor
