/- The walk of DigestFolds; the condition is that the tables are laid. -/
import Derived.Test.YtpfcalamchdciaaDoorDgX
import Derived.Deep.RegionHeld3
import Derived.BigQuiet
namespace Go.Proofs.YtpfcalamchdciaaDoor
open Go.RowKit
set_option linter.unusedVariables false

def BV32 : Array Value := #[.int .u32 1779033703, .int .u32 3144134277, .int .u32 1013904242, .int .u32 2773480762, .int .u32 1359893119, .int .u32 2600822924, .int .u32 528734635, .int .u32 1541459225]
theorem bv32_r : BV32 = stV Sha.begin0 := by kernel_rfl

/-- the words lie in block g -/
structure BF (n g : Nat) (w : World) (h : Sha.St) (v : World) : Prop where
  r : v.heap[g]? = some (.cells (stV h) 33 (0, 0))
  below : Below n w v
section
variable {n g : Nat} {w : World} {h h' : Sha.St} {v v' : World}
theorem BF.drew (c : BF n g w h v) : BF n g w h v.drew := ⟨c.r, c.below.drew⟩
theorem BF.drewN (c : BF n g w h v) (k : Nat) : BF n g w h (v.drewN k) := ⟨c.r, M.below_drewN c.below k⟩
theorem BF.same (hn : n ≤ g) (c : BF n g w h v) (hb : Below v.heap.size v v') : BF n g w h v' :=
  ⟨M.RowAt.call c.r hb, c.below.trans (hb.mono (by have := M.RowAt.lt c.r; omega))⟩
theorem BF.setH (hn : n ≤ g) (c : BF n g w h v) : BF n g w h' (v.setRow g (stV h')) :=
  ⟨M.RowAt.setRow c.r _, M.below_setRow c.below hn⟩
theorem BF.set8 {m : Nat} (hn : n ≤ g) (c : BF n g w h v) (hg : g < m) (r : M.RowAt v m 33 Z8) (s2 : Sha.St) :
    BF n g w h ((((((((v.setCell ⟨m, 0, none⟩ (.int .u32 (s2.a : Nat))).setCell ⟨m, 1, none⟩ (.int .u32 (s2.b : Nat))).setCell ⟨m, 2, none⟩ (.int .u32 (s2.c : Nat))).setCell ⟨m, 3, none⟩ (.int .u32 (s2.d : Nat))).setCell ⟨m, 4, none⟩ (.int .u32 (s2.e : Nat))).setCell ⟨m, 5, none⟩ (.int .u32 (s2.f : Nat))).setCell ⟨m, 6, none⟩ (.int .u32 (s2.g : Nat))).setCell ⟨m, 7, none⟩ (.int .u32 (s2.h : Nat))) ∧ M.RowAt ((((((((v.setCell ⟨m, 0, none⟩ (.int .u32 (s2.a : Nat))).setCell ⟨m, 1, none⟩ (.int .u32 (s2.b : Nat))).setCell ⟨m, 2, none⟩ (.int .u32 (s2.c : Nat))).setCell ⟨m, 3, none⟩ (.int .u32 (s2.d : Nat))).setCell ⟨m, 4, none⟩ (.int .u32 (s2.e : Nat))).setCell ⟨m, 5, none⟩ (.int .u32 (s2.f : Nat))).setCell ⟨m, 6, none⟩ (.int .u32 (s2.g : Nat))).setCell ⟨m, 7, none⟩ (.int .u32 (s2.h : Nat))) m 33 (stV s2) := by
  have key : ∀ (v : World) (i : Nat) (u : Value), BF n g w h v → BF n g w h (v.setCell ⟨m, i, none⟩ u) := fun v i u c =>
    ⟨M.RowAt.far c.r (by show m ≠ g; omega) u, c.below.setCell (by show n ≤ m; omega) u⟩
  refine ⟨key _ _ _ (key _ _ _ (key _ _ _ (key _ _ _ (key _ _ _ (key _ _ _ (key _ _ _ (key _ _ _ c))))))), ?_⟩
  have e : ((((((((Z8.setIfInBounds 0 (.int .u32 (s2.a : Nat))).setIfInBounds 1 (.int .u32 (s2.b : Nat))).setIfInBounds 2 (.int .u32 (s2.c : Nat))).setIfInBounds 3 (.int .u32 (s2.d : Nat))).setIfInBounds 4 (.int .u32 (s2.e : Nat))).setIfInBounds 5 (.int .u32 (s2.f : Nat))).setIfInBounds 6 (.int .u32 (s2.g : Nat))).setIfInBounds 7 (.int .u32 (s2.h : Nat))) = stV s2 := by
    have l : stV s2 = #[.int .u32 (s2.a : Nat), .int .u32 (s2.b : Nat), .int .u32 (s2.c : Nat), .int .u32 (s2.d : Nat), .int .u32 (s2.e : Nat), .int .u32 (s2.f : Nat), .int .u32 (s2.g : Nat), .int .u32 (s2.h : Nat)] := rfl
    rw [l]; simp [Z8]
  rw [← e]
  exact ((((((((r.set 0 (.int .u32 (s2.a : Nat))).set 1 (.int .u32 (s2.b : Nat))).set 2 (.int .u32 (s2.c : Nat))).set 3 (.int .u32 (s2.d : Nat))).set 4 (.int .u32 (s2.e : Nat))).set 5 (.int .u32 (s2.f : Nat))).set 6 (.int .u32 (s2.g : Nat))).set 7 (.int .u32 (s2.h : Nat)))
end
theorem stV_cell {u : World} {m : Nat} {s : Sha.St} (h : M.RowAt u m 33 (stV s)) (j : Nat) (hj : j < 8) : u.cell? ⟨m, j, none⟩ = some (.int .u32 (s.get j : Nat)) := (h.cell j).trans (M.rowF_get hj)
theorem cut_mid' (b : ByteArray) (i : Nat) : (b.extract i (i + 64)).size = min 64 (b.size - i) := by simp; omega
abbrev C8 (s2 : Sha.St) : Array Value := #[.int .u32 (s2.a : Nat), .int .u32 (s2.b : Nat), .int .u32 (s2.c : Nat), .int .u32 (s2.d : Nat), .int .u32 (s2.e : Nat), .int .u32 (s2.f : Nat), .int .u32 (s2.g : Nat), .int .u32 (s2.h : Nat)]

set_option maxRecDepth 100000 in
set_option maxHeartbeats 4000000 in
theorem folds_walk (s : ByteArray) (w : World) (ht : Tabs w) :
    Calls Tryd.prog 7 #[.string s] w (Fine w) := by
  obtain ⟨n, hn⟩ : ∃ n, w.heap.size = n := ⟨_, rfl⟩
  have HN := Lib.hid hn
  have h1n : 1 < n := hn ▸ ht.lt
  have tb := fun v (hb : Below n w v) => ht.below hb h1n
  have TB := Lib.hid tb
  have sh := fun v (hb : Below n w v) => shown_any v (tb v hb)
  have b0 : Below n w w := Below.refl _ _
  have nx : ∀ v v', Below n w v → Below v.heap.size v v' → Below n w v' := fun v v' h g => h.trans (g.mono (by rw [← hn]; exact h.size))
  have NX := Lib.hid nx
  have SH := Lib.hid sh
  by_cases hlong : 600 < s.size
  · have hd : decide ((600 : Int) < s.size) = true := by simp; omega
    have hd' : (600 : Int) < s.size := by omega
    clear tb sh ht hlong h1n hn nx
    go_enter Tryd.func7, Tryd.ntmps7
    go_wp2_with fail
    refine (SH.out _ b0).mono ?_
    rintro e w' ⟨rfl, gq⟩
    have b1 := NX.out _ _ b0 gq
    go_wp2
    go_ret
    exact ⟨rfl, by rw [HN.out]; exact b1⟩
  · have hd : decide ((600 : Int) < s.size) = false := by simp; omega
    have hd' : ¬ (600 : Int) < s.size := by omega
    have c3 := fun v => pad_any s v (by omega)
    have c4 := fun v hb => sum_any s v (tb v hb) (by omega)
    have p0 := Sha.pad_size s
    have p1 := Sha.pad_whole s
    have hz := zeros_lt s.size
    have hsm : ∀ i, Sha.sum s i = (Sha.words s).get (i / 4) / 2 ^ (24 - 8 * (i % 4)) % 256 := fun i => rfl
    have hwok := Sha.words_ok s
    have hwd : Sha.words s = Sha.blk Sha.begin0 (Sha.pad s) ((Sha.pad s).size / 64) := rfl
    obtain ⟨P, hP⟩ : ∃ P, Sha.pad s = P := ⟨_, rfl⟩
    obtain ⟨W, hW⟩ : ∃ W, Sha.words s = W := ⟨_, rfl⟩
    obtain ⟨F, hF⟩ : ∃ F, Sha.sum s = F := ⟨_, rfl⟩
    rw [hP] at c3 p0 p1 hwd
    rw [hW] at hsm hwok hwd
    rw [hF] at c4 hsm
    have hPs : P.size ≤ 1000000 := by omega
    have C3 := Lib.hid c3; have C4 := Lib.hid c4; have HSM := Lib.hid hsm; have HWOK := Lib.hid hwok; have HWD := Lib.hid hwd
    have iB : (Tryd.prog.info? 33).map (·.size) = some BV32.size := by kernel_rfl
    have oB : BV32.all (·.oneCell') = true := by kernel_rfl
    clear tb sh ht hlong h1n hn nx c3 c4 p0 hz hsm hwok hwd hP hW hF
    go_enter Tryd.func7, Tryd.ntmps7
    go_wp2_with fail
    refine (SH.out _ b0).mono ?_
    rintro e w1 ⟨rfl, gq⟩
    have b1 := NX.out _ _ b0 gq
    clear gq b0
    have hge : n ≤ w1.heap.size := by have := b1.size; rw [HN.out] at this; exact this
    obtain ⟨g, hg⟩ : ∃ g, w1.heap.size = g := ⟨_, rfl⟩
    obtain ⟨V, hV⟩ : ∃ V, w1.alloc (.cells #[.int .u32 0, .int .u32 0, .int .u32 0, .int .u32 0, .int .u32 0, .int .u32 0, .int .u32 0, .int .u32 0] 33) = V := ⟨_, rfl⟩
    have rV := M.RowAt.new w1 33 #[.int .u32 0, .int .u32 0, .int .u32 0, .int .u32 0, .int .u32 0, .int .u32 0, .int .u32 0, .int .u32 0]
    have bV := b1.alloc hge (.cells #[.int .u32 0, .int .u32 0, .int .u32 0, .int .u32 0, .int .u32 0, .int .u32 0, .int .u32 0, .int .u32 0] 33)
    rw [hV] at rV bV
    rw [hg] at rV hge
    have rW := M.RowAt.setRow rV BV32
    have bW := M.below_setRow (g := g) (cs := BV32) bV hge
    obtain ⟨U, hU⟩ : ∃ U, V.setRow g BV32 = U := ⟨_, rfl⟩
    rw [hU] at rW bW
    have c1 : BF n g w Sha.begin0 U := ⟨bv32_r ▸ rW, bW⟩
    have HG := Lib.hid hg; have HV := Lib.hid hV; have HU := Lib.hid hU
    unfold M.RowAt at rV
    clear hg hV hU b1 bV rW bW
    go_wp2_with (first
      | (rw [HG.out, HV.out]; refine wpList_store_row (x := .tmp 3) (y := .tmp 18) (cells := BV32) (old := Z8) (t := 33) (ty := 33) (g := g) ?_ ?_ ?_ ?_ rV iB rfl oB ?_; rfl; rfl; rfl; rfl; rw [HU.out])
      | fail)
    refine (C3.out _).mono ?_
    rintro e v1 ⟨rfl, g1⟩
    have c2 := c1.same hge g1
    clear c1 g1 rV HG HV HU
    go_wp2
    go_loopg [5] (P.size / 64) (fun m i v => ∃ (k : Nat), m + k = P.size / 64 ∧ i = .int .i64 (64 * (k : Int)) ∧ BF n g w (Sha.blk Sha.begin0 P k) v)
    case atStart => exact ⟨0, by omega, rfl, c2⟩
    case round =>
      clear c2
      obtain ⟨k, hm, rfl, cs⟩ := hrel
      by_cases hlt : k < P.size / 64
      · have hk1 : 64 * (k : Int) < P.size := by omega
        have g1 : IntKind.i64.wrap (64 * (k : Int) + 64) = 64 * (k : Int) + 64 := IntWalk.i64_in _ (by omega)
        have g2 : (64 * (k : Int)).toNat = 64 * k := by omega
        have g3 : (64 * (k : Int) + 64).toNat = 64 * k + 64 := by omega
        have g4 : (0 : Int) ≤ 64 * (k : Int) := by omega
        have g5 : 64 * (k : Int) + 64 ≤ P.size := by omega
        have g6 : 64 * (k : Int) ≤ 64 * (k : Int) + 64 := by omega
        have g7 : (0 : Int) ≤ 64 * (k : Int) + 64 := by omega
        have hok := Sha.blk_ok Sha.begin0_ok P k
        have hcm : Sha.blk Sha.begin0 P (k + 1) = Sha.compress (Sha.blk Sha.begin0 P k) (P.extract (64 * k) (64 * k + 64)) := rfl
        have hXs : (P.extract (64 * k) (64 * k + 64)).size = 64 := by rw [cut_mid']; omega
        obtain ⟨sk, hsk⟩ : ∃ sk, Sha.blk Sha.begin0 P k = sk := ⟨_, rfl⟩
        rw [hsk] at cs hok hcm
        obtain ⟨X, hX⟩ : ∃ X, P.extract (64 * k) (64 * k + 64) = X := ⟨_, rfl⟩
        rw [hX] at hXs hcm
        have cx := fun v (hb : Below n w v) => compress_any sk X v hok hXs (TB.out v hb)
        obtain ⟨s2, hs2⟩ : ∃ s2, Sha.compress sk X = s2 := ⟨_, rfl⟩
        rw [hs2] at cx hcm
        have cx : ∀ v, Below n w v → Calls Tryd.prog 29 #[.agg #[.int .u32 (sk.a : Nat), .int .u32 (sk.b : Nat), .int .u32 (sk.c : Nat), .int .u32 (sk.d : Nat), .int .u32 (sk.e : Nat), .int .u32 (sk.f : Nat), .int .u32 (sk.g : Nat), .int .u32 (sk.h : Nat)], .string X] v fun e w' => e = .returned (.tuple #[.agg #[.int .u32 (s2.a : Nat), .int .u32 (s2.b : Nat), .int .u32 (s2.c : Nat), .int .u32 (s2.d : Nat), .int .u32 (s2.e : Nat), .int .u32 (s2.f : Nat), .int .u32 (s2.g : Nat), .int .u32 (s2.h : Nat)], .bool true]) ∧ Below v.heap.size v w' := cx
        clear hs2
        have CX := Lib.hid cx; have HX := Lib.hid hX; have HCM := Lib.hid hcm
        clear cx hX hcm hXs hok hsk
        have hglt := M.RowAt.lt cs.r
        have iS2 := st_info s2
        have zS : (stV sk).size = (stV s2).size := by rw [st_size, st_size]
        have oS : (stV s2).all (·.oneCell') = true := M.rowF_one
        have q0 : wr.cell? ⟨g, 0, none⟩ = some (.int .u32 (sk.a : Nat)) := stV_cell cs.r 0 (by decide)
        have q1 : wr.cell? ⟨g, 1, none⟩ = some (.int .u32 (sk.b : Nat)) := stV_cell cs.r 1 (by decide)
        have q2 : wr.cell? ⟨g, 2, none⟩ = some (.int .u32 (sk.c : Nat)) := stV_cell cs.r 2 (by decide)
        have q3 : wr.cell? ⟨g, 3, none⟩ = some (.int .u32 (sk.d : Nat)) := stV_cell cs.r 3 (by decide)
        have q4 : wr.cell? ⟨g, 4, none⟩ = some (.int .u32 (sk.e : Nat)) := stV_cell cs.r 4 (by decide)
        have q5 : wr.cell? ⟨g, 5, none⟩ = some (.int .u32 (sk.f : Nat)) := stV_cell cs.r 5 (by decide)
        have q6 : wr.cell? ⟨g, 6, none⟩ = some (.int .u32 (sk.g : Nat)) := stV_cell cs.r 6 (by decide)
        have q7 : wr.cell? ⟨g, 7, none⟩ = some (.int .u32 (sk.h : Nat)) := stV_cell cs.r 7 (by decide)
        have ba := (cs.same hge ((Below.refl _ wr).alloc (Nat.le_refl _) (.cells #[.int .u32 0, .int .u32 0, .int .u32 0, .int .u32 0, .int .u32 0, .int .u32 0, .int .u32 0, .int .u32 0] 33))).drew.below
        have bb := cs.drew.below
        go_wp2_with fail
        go_region_with (first | (go_at_call 29; rw [HX.out]; refine (CX.out _ (by first | exact bb | exact ba)).mono ?_; rintro e w' ⟨rfl, gq⟩; obtain ⟨hc, hf⟩ := bcell gq))
        all_goals first
          | (have csV := (cs.drew.same hge gq).same hge ((Below.refl _ w').alloc (Nat.le_refl _) (.cells (C8 s2) 33))
             have rV : M.RowAt (w'.alloc (.cells (C8 s2) 33)) w'.heap.size 33 (stV s2) := M.RowAt.new w' 33 _
             generalize w'.alloc (.cells (C8 s2) 33) = V at *
             generalize w'.heap.size = m' at *)
          | (have cs1 := ((cs.same hge ((Below.refl _ wr).alloc (Nat.le_refl _) (.cells #[.int .u32 0, .int .u32 0, .int .u32 0, .int .u32 0, .int .u32 0, .int .u32 0, .int .u32 0, .int .u32 0] 33))).drew).same hge gq
             have r1 : M.RowAt w' wr.heap.size 33 Z8 := (M.RowAt.new wr 33 Z8).drew.below gq (by simp)
             obtain ⟨csV, rV⟩ := cs1.set8 hge hglt r1 s2
             generalize ((((((((w'.setCell ⟨wr.heap.size, 0, none⟩ (.int .u32 (s2.a : Nat))).setCell ⟨wr.heap.size, 1, none⟩ (.int .u32 (s2.b : Nat))).setCell ⟨wr.heap.size, 2, none⟩ (.int .u32 (s2.c : Nat))).setCell ⟨wr.heap.size, 3, none⟩ (.int .u32 (s2.d : Nat))).setCell ⟨wr.heap.size, 4, none⟩ (.int .u32 (s2.e : Nat))).setCell ⟨wr.heap.size, 5, none⟩ (.int .u32 (s2.f : Nat))).setCell ⟨wr.heap.size, 6, none⟩ (.int .u32 (s2.g : Nat))).setCell ⟨wr.heap.size, 7, none⟩ (.int .u32 (s2.h : Nat))) = V at *
             generalize wr.heap.size = m' at *)
        all_goals
          unfold M.RowAt at rV
          have hS := csV.r
          have csW : BF n g w s2 (V.setRow g (stV s2)) := csV.setH hge
          clear gq hc hf
          go_wp2_with (first
            | (refine wpList_load_row (x := .tmp 6) (ty := 33) (g := m') (cs := stV s2) (t := 33) (fr := (0, 0)) ?_ ?_ ?_ _ rV Tryd.underlying33 rfl iS2 ?_; rfl; rfl; rfl)
            | (refine wpList_store_row (x := .tmp 3) (y := .tmp 40) (cells := stV s2) (old := stV sk) (t := 33) (ty := 33) (g := g) ?_ ?_ ?_ ?_ hS iS2 zS oS ?_; rfl; rfl; rfl; rfl))
          go_roundg (P.size / 64 - (k + 1))
          case measure => omega
          case rel => exact ⟨k + 1, by omega, by congr 1, by rw [HCM.out]; exact csW⟩
      · obtain rfl : k = P.size / 64 := by omega
        have hk1 : ¬ 64 * ((P.size / 64 : Nat) : Int) + 64 ≤ P.size := by omega
        rw [← HWD.out] at cs
        have iF := r8_info F
        have zF := r8_zero F
        have oF := r8_one F
        have hcell : ∀ v k, M.RowAt v k 28 (r8 32 F) → ∀ j, j < 32 → v.cell? ⟨k, j, none⟩ = some (.int .u8 (F j : Nat)) := fun v k h j hj => (h.cell j).trans (M.rowF_get hj)
        have HC := Lib.hid hcell
        clear hcell hm
        have kq : (0 : Int) ≤ 64 * ((P.size / 64 : Nat) : Int) := by omega
        have kq2 : 64 * ((P.size / 64 : Nat) : Int) ≤ 1000000 := by omega
        generalize ((P.size / 64 : Nat) : Int) = Q at *
        go_wp2_with fail
        refine (C4.out _ cs.below).mono ?_
        rintro e w2 ⟨rfl, gq⟩
        have c5 := cs.same hge gq
        clear cs gq
        have hgm := M.RowAt.lt c5.r
        obtain ⟨m, hm⟩ : ∃ m, w2.heap.size = m := ⟨_, rfl⟩
        obtain ⟨V, hV⟩ : ∃ V, w2.alloc (.cells #[.int .u8 0, .int .u8 0, .int .u8 0, .int .u8 0, .int .u8 0, .int .u8 0, .int .u8 0, .int .u8 0, .int .u8 0, .int .u8 0, .int .u8 0, .int .u8 0, .int .u8 0, .int .u8 0, .int .u8 0, .int .u8 0, .int .u8 0, .int .u8 0, .int .u8 0, .int .u8 0, .int .u8 0, .int .u8 0, .int .u8 0, .int .u8 0, .int .u8 0, .int .u8 0, .int .u8 0, .int .u8 0, .int .u8 0, .int .u8 0, .int .u8 0, .int .u8 0] 28) = V := ⟨_, rfl⟩
        have rV := M.RowAt.new w2 28 #[.int .u8 0, .int .u8 0, .int .u8 0, .int .u8 0, .int .u8 0, .int .u8 0, .int .u8 0, .int .u8 0, .int .u8 0, .int .u8 0, .int .u8 0, .int .u8 0, .int .u8 0, .int .u8 0, .int .u8 0, .int .u8 0, .int .u8 0, .int .u8 0, .int .u8 0, .int .u8 0, .int .u8 0, .int .u8 0, .int .u8 0, .int .u8 0, .int .u8 0, .int .u8 0, .int .u8 0, .int .u8 0, .int .u8 0, .int .u8 0, .int .u8 0, .int .u8 0]
        have cV := c5.same hge ((Below.refl _ w2).alloc (Nat.le_refl _) (.cells #[.int .u8 0, .int .u8 0, .int .u8 0, .int .u8 0, .int .u8 0, .int .u8 0, .int .u8 0, .int .u8 0, .int .u8 0, .int .u8 0, .int .u8 0, .int .u8 0, .int .u8 0, .int .u8 0, .int .u8 0, .int .u8 0, .int .u8 0, .int .u8 0, .int .u8 0, .int .u8 0, .int .u8 0, .int .u8 0, .int .u8 0, .int .u8 0, .int .u8 0, .int .u8 0, .int .u8 0, .int .u8 0, .int .u8 0, .int .u8 0, .int .u8 0, .int .u8 0] 28))
        rw [hV] at rV cV
        rw [hm] at rV hgm
        have rW := M.RowAt.setRow rV (r8 32 F)
        have cW : BF n g w W (V.setRow m (r8 32 F)) := ⟨M.RowAt.farRow cV.r (by omega) _, M.below_setRow cV.below (by omega)⟩
        obtain ⟨U, hU⟩ : ∃ U, V.setRow m (r8 32 F) = U := ⟨_, rfl⟩
        rw [hU] at rW cW
        have HM := Lib.hid hm; have HV := Lib.hid hV; have HU := Lib.hid hU
        unfold M.RowAt at rV
        obtain ⟨D, hD⟩ : ∃ D, r8 32 F = D := ⟨_, rfl⟩
        rw [hD] at iF zF oF rW HC HU ⊢
        clear hm hV hU c5 cV hD
        go_wp2_with (first
          | (rw [HM.out, HV.out]; refine wpList_store_row (x := .tmp 8) (y := .tmp 42) (cells := D) (old := Z32) (t := 28) (ty := 28) (g := m) ?_ ?_ ?_ ?_ rV iF zF oF ?_; rfl; rfl; rfl; rfl; rw [HU.out]))
        clear rV HM HV HU
        go_loopg [9] 32 (fun m' i v => ∃ k : Nat, m' + k = 32 ∧ i = .int .i64 k ∧ BF n g w W v ∧ M.RowAt v m 28 D)
        case atStart => exact ⟨0, by omega, rfl, cW, rW⟩
        case round =>
          clear cW rW
          obtain ⟨k, hm, rfl, cs, p2⟩ := hrel
          by_cases hlt : k < 32
          · have q0 := stV_cell cs.r (k / 4) (by omega)
            have q2 := HC.out _ _ p2 k hlt
            have e1 := HSM.out k
            have hx := Sha.St.get_lt HWOK.out (k / 4)
            generalize W.get (k / 4) = x at *
            have w1 : IntKind.i64.wrap ((k : Int) / 4) = (k : Int) / 4 := IntWalk.i64_in _ (by omega)
            have w2 : (0 : Int) ≤ (k : Int) / 4 := by omega
            have w3 : (k : Int) / 4 < 8 := by omega
            have w4 : ((k : Int) / 4).toNat = k / 4 := by omega
            have w5 : (0 : Int) ≤ (k : Int) := by omega
            have w6 : (k : Int) < 32 := by omega
            have w7 : (k : Int).tmod 4 = (k : Int) % 4 := by rw [Int.tmod_eq_emod_of_nonneg (by omega)]
            go_wp2_with fail
            go_quiet (fail)
            go_wp2
            go_roundg (32 - (k + 1))
            case measure => omega
            case rel => exact ⟨k + 1, by omega, by go_num, cs.drewN _, p2.drewN _⟩
          · obtain rfl : k = 32 := by omega
            go_wp2
            go_ret
            exact ⟨rfl, by rw [HN.out]; exact cs.below⟩

theorem walk_DigestFolds (a0 : ByteArray) (_w0 : a0.size ≤ maxLen) {W : World} (hL : laidMetH Tryd.prog Rows.digestFoldsRow.laid W) :
    Calls Tryd.prog 7 #[.string a0] W (Fine W) :=
  folds_walk a0 W (tabs_of hL (by simp [Rows.digestFoldsRow]) (by simp [Rows.digestFoldsRow]))
end Go.Proofs.YtpfcalamchdciaaDoor
