/- The walk of SealTurned; the conditions are that the tables are laid and that arrays of bytes hold bytes. -/
import Derived.Test.YtpfcalamchdciaaDoorSeD
import Derived.Test.YtpfcalamchdciaaDoorKB
namespace Go.Proofs.YtpfcalamchdciaaDoor
open Go.RowKit
set_option linter.unusedVariables false

/-- one bit turned -/
def flipH (F : Nat → Nat) (a : Nat) : Nat → Nat := fun j => if j = a / 8 then F j ^^^ 2 ^ (a % 8) else F j
theorem xor_self_ne (x y : Nat) (h : y ≠ 0) : x ≠ x ^^^ y := fun e => h (by
  have := congrArg (fun z => x ^^^ z) e
  simp only [Nat.xor_self, ← Nat.xor_assoc, Nat.zero_xor] at this
  exact this.symm)
theorem flipH_ne (F : Nat → Nat) (a : Nat) (h : a < 256) : eqH F (flipH F a) = false := by
  refine eqH_false (i := a / 8) (by omega) ?_
  unfold flipH
  rw [if_pos rfl]
  exact xor_self_ne _ _ (by have := Nat.two_pow_pos (a % 8); omega)
theorem xor_pow (y a : Nat) (hy : y < 256) : bits .xor .u8 (y : Int) ((2 : Int) ^ (a % 8) % 256) = ((y ^^^ 2 ^ (a % 8) : Nat) : Int) := by
  have hp : 2 ^ (a % 8) < 256 := Nat.lt_of_le_of_lt (Nat.pow_le_pow_right (by decide) (show a % 8 ≤ 7 by omega)) (by decide)
  have e : ((2 : Int) ^ (a % 8) % 256) = ((2 ^ (a % 8) : Nat) : Int) := by
    have : (2 : Int) ^ (a % 8) = ((2 ^ (a % 8) : Nat) : Int) := by norm_cast
    rw [this]; exact Int.emod_eq_of_lt (Int.natCast_nonneg _) (Int.ofNat_lt.2 hp)
  rw [e]
  exact u8_xor_nat y (2 ^ (a % 8)) hy hp
theorem wpList_load_row_g {P : Program} {ops : Array Oper} {rest : List Oper} {o : Oper} {a : Act} {w : World} {Q : Exit → Act → World → Prop} (hw : Region.wanted o (yielded ops a.tmps) = true) (ty : TypeId) (x : Operand) (ho : o.op = .load ty x)
    (g : Nat) (hx : a.eval x = .pointer (some ⟨g, 0, none⟩)) (t : TypeId) (cs : Array Value) (fr : Nat × Nat) (d : TypeDesc) (hg : w.heap[g]? = some (.cells cs t fr))
    (hu : P.underlying ty = some d) (hd : (match d with | .struct _ | .array _ _ => true | _ => false) = true) (hi : (P.info? ty).map (·.size) = some cs.size)
    (h : wpList P ops Q rest (a.put o.dst (.agg cs)) w) : wpList P ops Q (o :: rest) a w :=
  wpList_step fun K hK => by rw [if_pos hw]; exact wp_load_row ty x ho g hx t cs fr d hg hu hd hi (hK _ _ h)
theorem flipH_set (F : Nat → Nat) (a : Nat) (h : a < 256) (v : Int) (hv : v = ((F (a / 8) ^^^ 2 ^ (a % 8) : Nat) : Int)) : (r8 32 F).setIfInBounds (a / 8) (.int .u8 v) = r8 32 (flipH F a) :=
  M.rowF_set (g := fun i => ((flipH F a i : Nat) : Int)) v (by omega) (fun j _ => by
    unfold flipH
    by_cases he : j = a / 8
    · rw [if_pos he, if_pos he, hv, he]
    · rw [if_neg he, if_neg he])

set_option maxRecDepth 100000 in
set_option maxHeartbeats 4000000 in
theorem turned_walk (k s : ByteArray) (a : Nat) (w : World) (ht : Tabs w) (ha : a < 256) :
    Calls Tryd.prog 12 #[.string k, .string s, .int .u8 (a : Nat)] w (Fine w) := by
  obtain ⟨n, hn⟩ : ∃ n, w.heap.size = n := ⟨_, rfl⟩
  have HN := Lib.hid hn
  have h1n : 1 < n := hn ▸ ht.lt
  have tb := fun v (hb : Below n w v) => ht.below hb h1n
  have TB := Lib.hid tb
  have sh := fun v (hb : Below n w v) => sshown_any v (tb v hb)
  have SH := Lib.hid sh
  have k0 : KB n w [] w := hn ▸ KB.start w
  by_cases hk : 100 < k.size
  · skip
    have dk : decide ((100 : Int) < k.size) = true := by simp; omega
    have dk2 : (100 : Int) < k.size := by omega
    clear hn sh tb ht h1n
    go_enter Tryd.func12, Tryd.ntmps12
    go_wp2_with fail
    refine (SH.out _ k0.below).mono ?_
    rintro e w' ⟨rfl, gq⟩
    have b1 := (k0.same gq).below
    go_wp2
    go_ret
    exact ⟨rfl, by rw [HN.out]; exact b1⟩
  · by_cases hs : 300 < s.size
    · skip
      have dk : decide ((100 : Int) < k.size) = false := by simp; omega
      have dk2 : ¬ (100 : Int) < k.size := by omega
      have ds : decide ((300 : Int) < s.size) = true := by simp; omega
      have ds2 : (300 : Int) < s.size := by omega
      clear hn sh tb ht h1n
      go_enter Tryd.func12, Tryd.ntmps12
      go_wp2_with fail
      refine (SH.out _ k0.below).mono ?_
      rintro e w' ⟨rfl, gq⟩
      have b1 := (k0.same gq).below
      go_wp2
      go_ret
      exact ⟨rfl, by rw [HN.out]; exact b1⟩
    · have ct := fun v (hb : Below n w v) => tag_any k s v (tb v hb) (by omega) (by omega)
      have co := fun v (hb : Below n w v) => of_any (flipH (mac k s) a) v (tb v hb)
      have r1 := fun v (hb : Below n w v) => right_any k s (flipH (mac k s) a) v (tb v hb) (by omega) (by omega)
      have o1 := fun v (hb : Below n w v) => opens_any (flipH (mac k s) a) (flipH (ofH (flipH (mac k s) a)) a) v (tb v hb)
      rw [flipH_ne _ a ha] at r1 o1
      have m8 := mac_lt k s (a / 8)
      have st1 := flipH_set (mac k s) a ha
      have of8 := ofH_lt (flipH (mac k s) a) (a / 8)
      have st2 := flipH_set (ofH (flipH (mac k s) a)) a ha
      have c1 : (r8 32 (mac k s))[a / 8]? = some (.int .u8 (mac k s (a / 8) : Nat)) := M.rowF_get (by omega)
      have c2 : (r8 32 (ofH (flipH (mac k s) a)))[a / 8]? = some (.int .u8 (ofH (flipH (mac k s) a) (a / 8) : Nat)) := M.rowF_get (by omega)
      have iM := r8_info (mac k s); have zM := r8_zero (mac k s); have oM := r8_one (mac k s)
      have iO := r8_info (ofH (flipH (mac k s) a)); have zO := r8_zero (ofH (flipH (mac k s) a)); have oO := r8_one (ofH (flipH (mac k s) a))
      have iT := r8_info (flipH (mac k s) a); have iU := r8_info (flipH (ofH (flipH (mac k s) a)) a)
      generalize r8 32 (flipH (ofH (flipH (mac k s) a)) a) = U at *
      generalize r8 32 (ofH (flipH (mac k s) a)) = O at *
      generalize ofH (flipH (mac k s) a) (a / 8) = y2 at *
      generalize r8 32 (flipH (mac k s) a) = T at *
      generalize r8 32 (mac k s) = MM at *
      generalize mac k s (a / 8) = y1 at *
      have CT := Lib.hid ct; have CO := Lib.hid co; have R1 := Lib.hid r1; have O1 := Lib.hid o1; have ST1 := Lib.hid st1; have ST2 := Lib.hid st2; have C1 := Lib.hid c1; have C2 := Lib.hid c2
      have dk : decide ((100 : Int) < k.size) = false := by simp; omega
      have dk2 : ¬ (100 : Int) < k.size := by omega
      have ds : decide ((300 : Int) < s.size) = false := by simp; omega
      have ds2 : ¬ (300 : Int) < s.size := by omega
      have ha' : (a : Int) < 256 := by omega
      have hq8 : (a : Int) / 8 < 32 := by omega
      have hto : ((a : Int) / 8).toNat = a / 8 := by omega
      clear ct co r1 o1 st1 st2 c1 c2 sh tb ht h1n
      go_enter Tryd.func12, Tryd.ntmps12
      go_wp2_with fail
      refine (SH.out _ k0.below).mono ?_
      rintro e w1 ⟨rfl, gq⟩
      have k1 := k0.same gq
      clear gq k0 hn
      go_wp2_with fail
      refine (CT.out _ k1.below).mono ?_
      rintro e w2 ⟨rfl, gq⟩
      have k2 := k1.same gq
      clear gq k1
      obtain ⟨g, VG, UG, hg, hVG, rVG, hUG, k22, geg, ltg⟩ := k2.box 28 #[.int .u8 0, .int .u8 0, .int .u8 0, .int .u8 0, .int .u8 0, .int .u8 0, .int .u8 0, .int .u8 0, .int .u8 0, .int .u8 0, .int .u8 0, .int .u8 0, .int .u8 0, .int .u8 0, .int .u8 0, .int .u8 0, .int .u8 0, .int .u8 0, .int .u8 0, .int .u8 0, .int .u8 0, .int .u8 0, .int .u8 0, .int .u8 0, .int .u8 0, .int .u8 0, .int .u8 0, .int .u8 0, .int .u8 0, .int .u8 0, .int .u8 0, .int .u8 0] (MM)
      have Hg := Lib.hid hg; have HVG := Lib.hid hVG; have HUG := Lib.hid hUG
      clear hg hVG hUG k2
      have rM := k22.row g 28 MM (by simp)
      have cM := (M.RowAt.cell rM (a / 8)).trans C1.out
      have fM := M.RowAt.frozen rM (a / 8)
      have k3 := k22.set (fun x hx => by simp at hx) geg (a / 8) (.int .u8 (bits .xor .u8 (y1 : Int) ((2 : Int) ^ (a % 8) % 256)))
      rw [ST1.out _ (xor_pow y1 a m8)] at k3
      obtain ⟨U3, hU3⟩ : ∃ U3, UG.setCell ⟨g, a / 8, none⟩ (.int .u8 (bits .xor .u8 (y1 : Int) ((2 : Int) ^ (a % 8) % 256))) = U3 := ⟨_, rfl⟩
      rw [hU3] at k3
      have HU3 := Lib.hid hU3
      have rT := k3.row g 28 T (by simp)
      clear hU3 k22
      go_wp2_with (first
        | (rw [Hg.out, HVG.out]; refine wpList_store_row (x := .tmp 7) (y := .tmp 24) (cells := MM) (old := Z32) (t := 28) (ty := 28) (g := g) ?_ ?_ ?_ ?_ rVG iM zM oM ?_; rfl; rfl; rfl; rfl; rw [HUG.out])
        | (rw [HU3.out]; refine wpList_load_row (x := .tmp 7) (ty := 28) (g := g) (cs := T) (t := 28) (fr := (0, 0)) ?_ ?_ ?_ _ rT u28 rfl iT ?_; rfl; rfl; rfl)
        | fail)
      refine (CO.out _ k3.below).mono ?_
      rintro e w3 ⟨rfl, gq⟩
      have k4 := k3.same gq
      clear gq k3 rT HU3
      obtain ⟨m, VM, UM, hm, hVM, rVM, hUM, k42, gem, ltm⟩ := k4.box 28 #[.int .u8 0, .int .u8 0, .int .u8 0, .int .u8 0, .int .u8 0, .int .u8 0, .int .u8 0, .int .u8 0, .int .u8 0, .int .u8 0, .int .u8 0, .int .u8 0, .int .u8 0, .int .u8 0, .int .u8 0, .int .u8 0, .int .u8 0, .int .u8 0, .int .u8 0, .int .u8 0, .int .u8 0, .int .u8 0, .int .u8 0, .int .u8 0, .int .u8 0, .int .u8 0, .int .u8 0, .int .u8 0, .int .u8 0, .int .u8 0, .int .u8 0, .int .u8 0] (O)
      have Hm := Lib.hid hm; have HVM := Lib.hid hVM; have HUM := Lib.hid hUM
      clear hm hVM hUM k4
      have rO := k42.row m 28 O (by simp)
      have cO := (M.RowAt.cell rO (a / 8)).trans C2.out
      have fO := M.RowAt.frozen rO (a / 8)
      have rT := k42.row g 28 T (by simp)
      have k5 := k42.set (fun x hx => by have := ltm x hx; omega) gem (a / 8) (.int .u8 (bits .xor .u8 (y2 : Int) ((2 : Int) ^ (a % 8) % 256)))
      rw [ST2.out _ (xor_pow y2 a of8)] at k5
      obtain ⟨U5, hU5⟩ : ∃ U5, UM.setCell ⟨m, a / 8, none⟩ (.int .u8 (bits .xor .u8 (y2 : Int) ((2 : Int) ^ (a % 8) % 256))) = U5 := ⟨_, rfl⟩
      rw [hU5] at k5
      have HU5 := Lib.hid hU5
      have rT5 := k5.row g 28 T (by simp)
      have rU5 := k5.row m 28 U (by simp)
      clear hU5 k42 rT
      go_wp2_with (first
        | (rw [Hm.out, HVM.out]; refine wpList_store_row (x := .tmp 8) (y := .tmp 35) (cells := O) (old := Z32) (t := 28) (ty := 28) (g := m) ?_ ?_ ?_ ?_ rVM iO zO oO ?_; rfl; rfl; rfl; rfl; rw [HUM.out])
        | (rw [HU5.out]; refine wpList_load_row (x := .tmp 7) (ty := 28) (g := g) (cs := T) (t := 28) (fr := (0, 0)) ?_ ?_ ?_ _ rT5 u28 rfl iT ?_; rfl; rfl; rfl)
        | fail)
      refine (R1.out _ k5.below).mono ?_
      rintro e w4 ⟨rfl, gq⟩
      have k6 := k5.same gq
      have rT6 := k6.row g 28 T (by simp)
      have rU6 := k6.row m 28 U (by simp)
      clear gq k5 rT5 rU5 HU5 rO cO fO
      go_wp2_with (first
        | (refine wpList_load_row_g (x := .tmp 7) (ty := 28) (g := g) (cs := T) (t := 28) (fr := (0, 0)) ?_ ?_ ?_ _ rT6 u28 rfl iT ?_; rfl; rfl; rfl)
        | (refine wpList_load_row_g (x := .tmp 8) (ty := 28) (g := m) (cs := U) (t := 28) (fr := (0, 0)) ?_ ?_ ?_ _ rU6 u28 rfl iU ?_; rfl; rfl; rfl)
        | fail)
      refine (O1.out _ k6.below).mono ?_
      rintro e w5 ⟨rfl, gq⟩
      have b7 := (k6.same gq).below
      clear gq k6 rT6 rU6
      go_wp2
      go_ret
      exact ⟨rfl, by rw [HN.out]; exact b7⟩

theorem walk_SealTurned (a0 : ByteArray) (_w0 : a0.size ≤ maxLen) (a1 : ByteArray) (_w1 : a1.size ≤ maxLen) (a2 : Int) (w2 : (Lit.int .u8 a2).wf = true) {W : World} (hL : laidMetH Tryd.prog Rows.sealTurnedRow.laid W) :
    Calls Tryd.prog 12 #[.string a0, .string a1, .int .u8 a2] W (Fine W) := by
  obtain ⟨h0, h1⟩ := RowK.wf_u8 w2
  obtain ⟨a, rfl⟩ := Int.eq_ofNat_of_zero_le h0
  exact turned_walk a0 a1 a W (tabs_of hL (by simp [Rows.sealTurnedRow]) (by simp [Rows.sealTurnedRow])) (by omega)
end Go.Proofs.YtpfcalamchdciaaDoor
