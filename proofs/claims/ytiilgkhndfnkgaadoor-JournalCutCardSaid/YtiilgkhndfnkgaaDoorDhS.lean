/- What the reference's Sum returns: SHA-256; the condition is that a text is not too long. -/
import Derived.Test.YtiilgkhndfnkgaaDoorDhC
import Derived.Deep.RegionHeld3
namespace Go.Proofs.YtiilgkhndfnkgaaDoor
open Go.RowKit
set_option linter.unusedVariables false

theorem und28 : Tryd.prog.underlying 65 = some (.array 32 5) := u28
def BV : Array Value := #[.int .u64 1779033703, .int .u64 3144134277, .int .u64 1013904242, .int .u64 2773480762, .int .u64 1359893119, .int .u64 2600822924, .int .u64 528734635, .int .u64 1541459225]
theorem bv_r : BV = stX Sha.begin0 := by kernel_rfl

/-- the result lies in block n, the words in n + 1 -/
structure CS (n : Nat) (w : World) (R : Array Value) (h : Sha.St) (v : World) : Prop where
  r : v.heap[n]? = some (.cells R 65 (0, 0))
  h : v.heap[n + 1]? = some (.cells (stX h) 75 (0, 0))
  below : Below n w v
section
variable {n : Nat} {w : World} {R R' : Array Value} {h h' : Sha.St} {v v' : World}
theorem CS.drew (c : CS n w R h v) : CS n w R h v.drew := ⟨c.r, c.h, c.below.drew⟩
theorem CS.same (c : CS n w R h v) (hb : Below v.heap.size v v') : CS n w R h v' :=
  ⟨M.RowAt.call c.r hb, M.RowAt.call c.h hb, c.below.trans (hb.mono (by have := M.RowAt.lt c.r; omega))⟩
theorem CS.setH (c : CS n w R h v) : CS n w R h' (v.setRow (n + 1) (stX h')) :=
  ⟨M.RowAt.farRow c.r (by omega) _, M.RowAt.setRow c.h _, M.below_setRow c.below (by omega)⟩
end
theorem cut_mid (b : ByteArray) (i : Nat) : (b.extract i (i + 64)).size = min 64 (b.size - i) := by simp; omega

theorem set8 {n g : Nat} {w v : World} {R : Array Value} {h : Sha.St} (c : CS n w R h v) (hg : n + 1 < g) (r : M.RowAt v g 75 Y8) (s2 : Sha.St) :
    CS n w R h ((((((((v.setCell ⟨g, 0, none⟩ (.int .u64 (s2.a : Nat))).setCell ⟨g, 1, none⟩ (.int .u64 (s2.b : Nat))).setCell ⟨g, 2, none⟩ (.int .u64 (s2.c : Nat))).setCell ⟨g, 3, none⟩ (.int .u64 (s2.d : Nat))).setCell ⟨g, 4, none⟩ (.int .u64 (s2.e : Nat))).setCell ⟨g, 5, none⟩ (.int .u64 (s2.f : Nat))).setCell ⟨g, 6, none⟩ (.int .u64 (s2.g : Nat))).setCell ⟨g, 7, none⟩ (.int .u64 (s2.h : Nat))) ∧ M.RowAt ((((((((v.setCell ⟨g, 0, none⟩ (.int .u64 (s2.a : Nat))).setCell ⟨g, 1, none⟩ (.int .u64 (s2.b : Nat))).setCell ⟨g, 2, none⟩ (.int .u64 (s2.c : Nat))).setCell ⟨g, 3, none⟩ (.int .u64 (s2.d : Nat))).setCell ⟨g, 4, none⟩ (.int .u64 (s2.e : Nat))).setCell ⟨g, 5, none⟩ (.int .u64 (s2.f : Nat))).setCell ⟨g, 6, none⟩ (.int .u64 (s2.g : Nat))).setCell ⟨g, 7, none⟩ (.int .u64 (s2.h : Nat))) g 75 (stX s2) := by
  have key : ∀ (v : World) (i : Nat) (u : Value), CS n w R h v → CS n w R h (v.setCell ⟨g, i, none⟩ u) := fun v i u c =>
    ⟨M.RowAt.far c.r (by show g ≠ n; omega) u, M.RowAt.far c.h (by show g ≠ n + 1; omega) u, c.below.setCell (by show n ≤ g; omega) u⟩
  refine ⟨key _ _ _ (key _ _ _ (key _ _ _ (key _ _ _ (key _ _ _ (key _ _ _ (key _ _ _ (key _ _ _ c))))))), ?_⟩
  have e : ((((((((Y8.setIfInBounds 0 (.int .u64 (s2.a : Nat))).setIfInBounds 1 (.int .u64 (s2.b : Nat))).setIfInBounds 2 (.int .u64 (s2.c : Nat))).setIfInBounds 3 (.int .u64 (s2.d : Nat))).setIfInBounds 4 (.int .u64 (s2.e : Nat))).setIfInBounds 5 (.int .u64 (s2.f : Nat))).setIfInBounds 6 (.int .u64 (s2.g : Nat))).setIfInBounds 7 (.int .u64 (s2.h : Nat))) = stX s2 := by
    have l : stX s2 = #[.int .u64 (s2.a : Nat), .int .u64 (s2.b : Nat), .int .u64 (s2.c : Nat), .int .u64 (s2.d : Nat), .int .u64 (s2.e : Nat), .int .u64 (s2.f : Nat), .int .u64 (s2.g : Nat), .int .u64 (s2.h : Nat)] := rfl
    rw [l]; simp [Y8]
  rw [← e]
  exact ((((((((r.set 0 (.int .u64 (s2.a : Nat))).set 1 (.int .u64 (s2.b : Nat))).set 2 (.int .u64 (s2.c : Nat))).set 3 (.int .u64 (s2.d : Nat))).set 4 (.int .u64 (s2.e : Nat))).set 5 (.int .u64 (s2.f : Nat))).set 6 (.int .u64 (s2.g : Nat))).set 7 (.int .u64 (s2.h : Nat)))

theorem bcell {W w1 : World} (hb : Below W.heap.size W w1) : (∀ b o, b < W.heap.size → w1.cell? ⟨b, o, none⟩ = W.cell? ⟨b, o, none⟩) ∧ (∀ b o, b < W.heap.size → w1.frozen? ⟨b, o, none⟩ = W.frozen? ⟨b, o, none⟩) :=
  ⟨fun b o h => hb.cell (p := ⟨b, o, none⟩) h, fun b o h => hb.frozen (p := ⟨b, o, none⟩) h⟩

set_option maxRecDepth 100000 in
set_option maxHeartbeats 4000000 in
theorem rsum_any (t : ByteArray) (w : World) (hts : t.size ≤ 100000000000) :
    Calls Tryd.prog 26 #[.string t] w fun e w' => e = .returned (.agg (r8 32 (Sha.sum t))) ∧ Below w.heap.size w w' := by
  obtain ⟨n, hn⟩ : ∃ n, w.heap.size = n := ⟨_, rfl⟩
  have HN := Lib.hid hn
  have c0 : CS n w Z32 Sha.begin0 (((w.alloc (.cells Z32 65)).alloc (.cells Y8 75)).setRow (n + 1) (stX Sha.begin0)) := by
    subst hn
    have a1 := M.RowAt.new w 65 Z32
    have a2 := M.RowAt.new (w.alloc (.cells Z32 65)) 75 Y8
    rw [World.size_alloc] at a2
    exact ⟨(a1.alloc _).farRow (by omega) _, a2.setRow _, M.below_setRow (((Below.refl _ _).alloc (Nat.le_refl _) _).alloc (by simp) _) (by omega)⟩
  have r1 : ((w.alloc (.cells Z32 65)).alloc (.cells Y8 75)).heap[n + 1]? = some (.cells Y8 75 (0, 0)) := by
    subst hn
    have a2 := M.RowAt.new (w.alloc (.cells Z32 65)) 75 Y8
    rw [World.size_alloc] at a2
    exact a2
  rw [← bv_r] at c0
  have r1' : ((w.alloc (.cells #[.int .u8 0, .int .u8 0, .int .u8 0, .int .u8 0, .int .u8 0, .int .u8 0, .int .u8 0, .int .u8 0, .int .u8 0, .int .u8 0, .int .u8 0, .int .u8 0, .int .u8 0, .int .u8 0, .int .u8 0, .int .u8 0, .int .u8 0, .int .u8 0, .int .u8 0, .int .u8 0, .int .u8 0, .int .u8 0, .int .u8 0, .int .u8 0, .int .u8 0, .int .u8 0, .int .u8 0, .int .u8 0, .int .u8 0, .int .u8 0, .int .u8 0, .int .u8 0] 65)).alloc (.cells #[.int .u64 0, .int .u64 0, .int .u64 0, .int .u64 0, .int .u64 0, .int .u64 0, .int .u64 0, .int .u64 0] 75)).heap[n + 1]? = some (.cells Y8 75 (0, 0)) := r1
  obtain ⟨v0, hv0⟩ : ∃ v0, ((w.alloc (.cells #[.int .u8 0, .int .u8 0, .int .u8 0, .int .u8 0, .int .u8 0, .int .u8 0, .int .u8 0, .int .u8 0, .int .u8 0, .int .u8 0, .int .u8 0, .int .u8 0, .int .u8 0, .int .u8 0, .int .u8 0, .int .u8 0, .int .u8 0, .int .u8 0, .int .u8 0, .int .u8 0, .int .u8 0, .int .u8 0, .int .u8 0, .int .u8 0, .int .u8 0, .int .u8 0, .int .u8 0, .int .u8 0, .int .u8 0, .int .u8 0, .int .u8 0, .int .u8 0] 65)).alloc (.cells #[.int .u64 0, .int .u64 0, .int .u64 0, .int .u64 0, .int .u64 0, .int .u64 0, .int .u64 0, .int .u64 0] 75)).setRow (n + 1) BV = v0 := ⟨_, rfl⟩
  have c0 : CS n w Z32 Sha.begin0 v0 := hv0 ▸ c0
  have iB := info37 BV rfl
  have oB : BV.all (·.oneCell') = true := by kernel_rfl
  have n1 := fun v => rpad_any t v (by omega)
  have hps := Sha.pad_size t
  have hz := zeros_lt t.size
  have hpw := Sha.pad_whole t
  obtain ⟨P, hP⟩ : ∃ P, Sha.pad t = P := ⟨_, rfl⟩
  rw [hP] at n1 hps hpw
  have hwd : Sha.words t = Sha.blk Sha.begin0 P (P.size / 64) := by rw [← hP]; rfl
  have N1 := Lib.hid n1; have HV := Lib.hid hv0; have R1 := Lib.hid r1'; have HWD := Lib.hid hwd
  have hPs : P.size ≤ 1000000000000 := by omega
  clear n1 hv0 r1 r1' hwd hP hps
  go_enter Tryd.func26, Tryd.ntmps26
  go_wp2_with (refine wpList_store_row (x := .tmp 3) (y := .tmp 10) (cells := BV) (old := Y8) (t := 75) (ty := 75) (g := n + 1) ?_ ?_ ?_ ?_ R1.out iB rfl oB ?_; rfl; rfl; rfl; rfl; rw [HV.out])
  refine (N1.out _).mono ?_
  rintro e v1 ⟨rfl, g1⟩
  have c1 := c0.same g1
  clear c0 g1 hn hz
  go_wp2
  go_loopg [5] (P.size / 64) (fun m i v => ∃ (k : Nat), m + k = P.size / 64 ∧ i = .int .i64 (64 * (k : Int)) ∧ CS n w Z32 (Sha.blk Sha.begin0 P k) v)
  case atStart => exact ⟨0, by omega, rfl, c1⟩
  case round =>
    clear c1
    obtain ⟨k, hm, rfl, cs⟩ := hrel
    by_cases hlt : k < P.size / 64
    · have hk1 : 64 * (k : Int) < P.size := by omega
      have g1 : IntKind.i64.wrap (64 * (k : Int) + 64) = 64 * (k : Int) + 64 := IntWalk.i64_in _ (by omega)
      have g2 : (64 * (k : Int)).toNat = 64 * k := by omega
      have g3 : (64 * (k : Int) + 64).toNat = 64 * k + 64 := by omega
      have g4 : (0 : Int) ≤ 64 * (k : Int) := by omega
      have g5 : 64 * (k : Int) + 64 ≤ P.size := by omega
      have g6 : 64 * (k : Int) ≤ 64 * (k : Int) + 64 := by omega
      have g7 : (0 : Int) ≤ 64 * (k : Int) + 64 := by omega
      have hok := Sha.blk_ok Sha.begin0_ok P k
      have hcm : Sha.blk Sha.begin0 P (k + 1) = Sha.compress (Sha.blk Sha.begin0 P k) (P.extract (64 * k) (64 * k + 64)) := rfl
      have hXs : (P.extract (64 * k) (64 * k + 64)).size = 64 := by rw [cut_mid]; omega
      obtain ⟨sk, hsk⟩ : ∃ sk, Sha.blk Sha.begin0 P k = sk := ⟨_, rfl⟩
      rw [hsk] at cs hok hcm
      obtain ⟨X, hX⟩ : ∃ X, P.extract (64 * k) (64 * k + 64) = X := ⟨_, rfl⟩
      rw [hX] at hXs hcm
      have cx := fun v => rcompress_any sk X v hok hXs
      obtain ⟨s2, hs2⟩ : ∃ s2, Sha.compress sk X = s2 := ⟨_, rfl⟩
      rw [hs2] at cx hcm
      have cx : ∀ v, Calls Tryd.prog 32 #[.agg #[.int .u64 (sk.a : Nat), .int .u64 (sk.b : Nat), .int .u64 (sk.c : Nat), .int .u64 (sk.d : Nat), .int .u64 (sk.e : Nat), .int .u64 (sk.f : Nat), .int .u64 (sk.g : Nat), .int .u64 (sk.h : Nat)], .string X] v fun e w' => e = .returned (.tuple #[.agg #[.int .u64 (s2.a : Nat), .int .u64 (s2.b : Nat), .int .u64 (s2.c : Nat), .int .u64 (s2.d : Nat), .int .u64 (s2.e : Nat), .int .u64 (s2.f : Nat), .int .u64 (s2.g : Nat), .int .u64 (s2.h : Nat)], .bool true]) ∧ Below v.heap.size v w' := cx
      clear hs2
      have CX := Lib.hid cx; have HX := Lib.hid hX; have HCM := Lib.hid hcm
      clear cx hX hcm hXs hok hsk
      have hnlt := M.RowAt.lt cs.h
      have iS2 := info37 (stX s2) M.rowF_size
      have zS : (stX sk).size = (stX s2).size := by rw [M.rowF_size, M.rowF_size]
      have oS : (stX s2).all (·.oneCell') = true := M.rowF_one
      have q0 : wr.cell? ⟨n + 1, 0, none⟩ = some (.int .u64 (sk.a : Nat)) := stX_cell cs.h 0 (by decide)
      have q1 : wr.cell? ⟨n + 1, 1, none⟩ = some (.int .u64 (sk.b : Nat)) := stX_cell cs.h 1 (by decide)
      have q2 : wr.cell? ⟨n + 1, 2, none⟩ = some (.int .u64 (sk.c : Nat)) := stX_cell cs.h 2 (by decide)
      have q3 : wr.cell? ⟨n + 1, 3, none⟩ = some (.int .u64 (sk.d : Nat)) := stX_cell cs.h 3 (by decide)
      have q4 : wr.cell? ⟨n + 1, 4, none⟩ = some (.int .u64 (sk.e : Nat)) := stX_cell cs.h 4 (by decide)
      have q5 : wr.cell? ⟨n + 1, 5, none⟩ = some (.int .u64 (sk.f : Nat)) := stX_cell cs.h 5 (by decide)
      have q6 : wr.cell? ⟨n + 1, 6, none⟩ = some (.int .u64 (sk.g : Nat)) := stX_cell cs.h 6 (by decide)
      have q7 : wr.cell? ⟨n + 1, 7, none⟩ = some (.int .u64 (sk.h : Nat)) := stX_cell cs.h 7 (by decide)
      go_wp2_with fail
      go_region_with (first | (go_at_call 32; rw [HX.out]; refine (CX.out _).mono ?_; rintro e w' ⟨rfl, gq⟩; obtain ⟨hc, hf⟩ := bcell gq))
      · have csV := (cs.drew.same gq).same ((Below.refl _ w').alloc (Nat.le_refl _) (.cells #[.int .u64 (s2.a : Nat), .int .u64 (s2.b : Nat), .int .u64 (s2.c : Nat), .int .u64 (s2.d : Nat), .int .u64 (s2.e : Nat), .int .u64 (s2.f : Nat), .int .u64 (s2.g : Nat), .int .u64 (s2.h : Nat)] 75))
        have rV : M.RowAt (w'.alloc (.cells #[.int .u64 (s2.a : Nat), .int .u64 (s2.b : Nat), .int .u64 (s2.c : Nat), .int .u64 (s2.d : Nat), .int .u64 (s2.e : Nat), .int .u64 (s2.f : Nat), .int .u64 (s2.g : Nat), .int .u64 (s2.h : Nat)] 75)) w'.heap.size 75 (stX s2) := M.RowAt.new w' 75 _
        generalize w'.alloc (.cells #[.int .u64 (s2.a : Nat), .int .u64 (s2.b : Nat), .int .u64 (s2.c : Nat), .int .u64 (s2.d : Nat), .int .u64 (s2.e : Nat), .int .u64 (s2.f : Nat), .int .u64 (s2.g : Nat), .int .u64 (s2.h : Nat)] 75) = V at *
        generalize w'.heap.size = g at *
        unfold M.RowAt at rV
        have hS := csV.h
        have csW : CS n w Z32 s2 (V.setRow (n + 1) (stX s2)) := csV.setH
        clear gq hc hf
        go_wp2_with (first
          | (refine wpList_load_row (x := .tmp 6) (ty := 75) (g := g) (cs := stX s2) (t := 75) (fr := (0, 0)) ?_ ?_ ?_ _ rV und37 rfl iS2 ?_; rfl; rfl; rfl)
          | (refine wpList_store_row (x := .tmp 3) (y := .tmp 29) (cells := stX s2) (old := stX sk) (t := 75) (ty := 75) (g := n + 1) ?_ ?_ ?_ ?_ hS iS2 zS oS ?_; rfl; rfl; rfl; rfl))
        go_roundg (P.size / 64 - (k + 1))
        case measure => omega
        case rel => exact ⟨k + 1, by omega, by congr 1, by rw [HCM.out]; exact csW⟩
      · have cs1 := ((cs.same ((Below.refl _ wr).alloc (Nat.le_refl _) (.cells #[.int .u64 0, .int .u64 0, .int .u64 0, .int .u64 0, .int .u64 0, .int .u64 0, .int .u64 0, .int .u64 0] 75))).drew).same gq
        have r1 : M.RowAt w' wr.heap.size 75 Y8 := (M.RowAt.new wr 75 Y8).drew.below gq (by simp)
        obtain ⟨csV, rV⟩ := set8 cs1 hnlt r1 s2
        generalize ((((((((w'.setCell ⟨wr.heap.size, 0, none⟩ (.int .u64 (s2.a : Nat))).setCell ⟨wr.heap.size, 1, none⟩ (.int .u64 (s2.b : Nat))).setCell ⟨wr.heap.size, 2, none⟩ (.int .u64 (s2.c : Nat))).setCell ⟨wr.heap.size, 3, none⟩ (.int .u64 (s2.d : Nat))).setCell ⟨wr.heap.size, 4, none⟩ (.int .u64 (s2.e : Nat))).setCell ⟨wr.heap.size, 5, none⟩ (.int .u64 (s2.f : Nat))).setCell ⟨wr.heap.size, 6, none⟩ (.int .u64 (s2.g : Nat))).setCell ⟨wr.heap.size, 7, none⟩ (.int .u64 (s2.h : Nat))) = V at *
        generalize wr.heap.size = g at *
        unfold M.RowAt at rV
        have hS := csV.h
        have csW : CS n w Z32 s2 (V.setRow (n + 1) (stX s2)) := csV.setH
        clear gq hc hf
        go_wp2_with (first
          | (refine wpList_load_row (x := .tmp 6) (ty := 75) (g := g) (cs := stX s2) (t := 75) (fr := (0, 0)) ?_ ?_ ?_ _ rV und37 rfl iS2 ?_; rfl; rfl; rfl)
          | (refine wpList_store_row (x := .tmp 3) (y := .tmp 29) (cells := stX s2) (old := stX sk) (t := 75) (ty := 75) (g := n + 1) ?_ ?_ ?_ ?_ hS iS2 zS oS ?_; rfl; rfl; rfl; rfl))
        go_roundg (P.size / 64 - (k + 1))
        case measure => omega
        case rel => exact ⟨k + 1, by omega, by congr 1, by rw [HCM.out]; exact csW⟩
      · have cs1 := ((cs.same ((Below.refl _ wr).alloc (Nat.le_refl _) (.cells #[.int .u64 0, .int .u64 0, .int .u64 0, .int .u64 0, .int .u64 0, .int .u64 0, .int .u64 0, .int .u64 0] 75))).drew).same gq
        have r1 : M.RowAt w' wr.heap.size 75 Y8 := (M.RowAt.new wr 75 Y8).drew.below gq (by simp)
        obtain ⟨csV, rV⟩ := set8 cs1 hnlt r1 s2
        generalize ((((((((w'.setCell ⟨wr.heap.size, 0, none⟩ (.int .u64 (s2.a : Nat))).setCell ⟨wr.heap.size, 1, none⟩ (.int .u64 (s2.b : Nat))).setCell ⟨wr.heap.size, 2, none⟩ (.int .u64 (s2.c : Nat))).setCell ⟨wr.heap.size, 3, none⟩ (.int .u64 (s2.d : Nat))).setCell ⟨wr.heap.size, 4, none⟩ (.int .u64 (s2.e : Nat))).setCell ⟨wr.heap.size, 5, none⟩ (.int .u64 (s2.f : Nat))).setCell ⟨wr.heap.size, 6, none⟩ (.int .u64 (s2.g : Nat))).setCell ⟨wr.heap.size, 7, none⟩ (.int .u64 (s2.h : Nat))) = V at *
        generalize wr.heap.size = g at *
        unfold M.RowAt at rV
        have hS := csV.h
        have csW : CS n w Z32 s2 (V.setRow (n + 1) (stX s2)) := csV.setH
        clear gq hc hf
        go_wp2_with (first
          | (refine wpList_load_row (x := .tmp 6) (ty := 75) (g := g) (cs := stX s2) (t := 75) (fr := (0, 0)) ?_ ?_ ?_ _ rV und37 rfl iS2 ?_; rfl; rfl; rfl)
          | (refine wpList_store_row (x := .tmp 3) (y := .tmp 29) (cells := stX s2) (old := stX sk) (t := 75) (ty := 75) (g := n + 1) ?_ ?_ ?_ ?_ hS iS2 zS oS ?_; rfl; rfl; rfl; rfl))
        go_roundg (P.size / 64 - (k + 1))
        case measure => omega
        case rel => exact ⟨k + 1, by omega, by congr 1, by rw [HCM.out]; exact csW⟩
    · obtain rfl : k = P.size / 64 := by omega
      have hk1 : ¬ 64 * ((P.size / 64 : Nat) : Int) < P.size := by omega
      rw [← HWD.out] at cs
      have hwok := Sha.words_ok t
      have hsm : ∀ i, Sha.sum t i = (Sha.words t).get (i / 4) / 2 ^ (24 - 8 * (i % 4)) % 256 := fun i => rfl
      obtain ⟨W, hW⟩ : ∃ W, Sha.words t = W := ⟨_, rfl⟩
      rw [hW] at cs hwok hsm
      obtain ⟨F, hF⟩ : ∃ F, Sha.sum t = F := ⟨_, rfl⟩
      rw [hF] at hsm
      have HF := Lib.hid hF; have HSM := Lib.hid hsm; have HWOK := Lib.hid hwok
      clear hW hF hsm hwok
      obtain ⟨m, hm'⟩ : ∃ m, wr.heap.size = m := ⟨_, rfl⟩
      have hnm : n + 1 < m := by have := M.RowAt.lt cs.h; omega
      have c1 := cs.same ((Below.refl _ wr).alloc (Nat.le_refl _) (.cells Z32 65))
      have p1 := M.RowAt.new wr 65 Z32
      have r9 := heap_alloc_new wr (.cells Z32 65)
      have e9 := World.setRow_alloc_new wr Z32 Z32 65
      rw [hm'] at p1 r9 e9
      rw [← e9] at c1 p1
      have i28 := r8_info (fun _ => 0)
      rw [z32_r8] at i28
      have o28 : Z32.all (·.oneCell') = true := by kernel_rfl
      obtain ⟨v1, hv1⟩ : ∃ v1, (wr.alloc (.cells #[.int .u8 0, .int .u8 0, .int .u8 0, .int .u8 0, .int .u8 0, .int .u8 0, .int .u8 0, .int .u8 0, .int .u8 0, .int .u8 0, .int .u8 0, .int .u8 0, .int .u8 0, .int .u8 0, .int .u8 0, .int .u8 0, .int .u8 0, .int .u8 0, .int .u8 0, .int .u8 0, .int .u8 0, .int .u8 0, .int .u8 0, .int .u8 0, .int .u8 0, .int .u8 0, .int .u8 0, .int .u8 0, .int .u8 0, .int .u8 0, .int .u8 0, .int .u8 0] 65)).setRow m Z32 = v1 := ⟨_, rfl⟩
      have c1 : CS n w Z32 W v1 := hv1 ▸ c1
      have p1 : M.RowAt v1 m 65 Z32 := hv1 ▸ p1
      have HV1 := Lib.hid hv1
      clear hv1 e9 cs hm
      generalize ((P.size / 64 : Nat) : Int) = Q at *
      go_wp2_with (refine wpList_store_row (x := .tmp 8) (y := .tmp 30) (cells := Z32) (old := Z32) (t := 65) (ty := 65) (g := m) ?_ ?_ ?_ ?_ r9 i28 rfl o28 ?_; rfl; rfl; rfl; rfl; rw [HV1.out])
      rw [← upto_zero F] at p1
      clear r9 hm'
      go_loopg [9] 32 (fun m' i v => ∃ k : Nat, m' + k = 32 ∧ i = .int .i64 k ∧ CS n w Z32 W v ∧ M.RowAt v m 65 (r8 32 (upto F k)))
      case atStart => exact ⟨0, by omega, rfl, c1, p1⟩
      case round =>
        clear c1 p1
        obtain ⟨k, hm, rfl, cs, p2⟩ := hrel
        by_cases hlt : k < 32
        · have q0 : wr.cell? ⟨n + 1, k / 4, none⟩ = some (.int .u64 (W.get (k / 4) : Nat)) := stX_cell cs.h (k / 4) (by omega)
          have q2 := (p2.cell k).trans (M.rowF_get hlt)
          rw [upto_at] at q2
          have f2 := p2.frozen k
          have w4 : ((k : Int) / 4).toNat = k / 4 := by omega
          have hx := Sha.St.get_lt HWOK.out (k / 4)
          have e1 := HSM.out k
          generalize W.get (k / 4) = x at *
          have sh := fun v => shift_int x (24 - 8 * ((k : Int) % 4)) v (by omega) (by omega) (by omega)
          have hto : (24 - 8 * ((k : Int) % 4)).toNat = 24 - 8 * (k % 4) := by omega
          rw [hto] at sh
          obtain ⟨y, hy⟩ : ∃ y, x / 2 ^ (24 - 8 * (k % 4)) = y := ⟨_, rfl⟩
          rw [hy] at sh e1
          have SH := Lib.hid sh
          have ev : (y : Int) % 256 = ((F k : Nat) : Int) := by rw [e1]; omega
          have EV := Lib.hid ev
          have r2 := p2.set k (.int .u8 ((y : Int) % 256))
          rw [ev, upto_set _ _ _ hlt, ← ev] at r2
          have rc : CS n w Z32 W (wr.setCell ⟨m, k, none⟩ (.int .u8 ((y : Int) % 256))) :=
            ⟨M.RowAt.far cs.r (by show m ≠ n; omega) _, M.RowAt.far cs.h (by show m ≠ n + 1; omega) _, cs.below.setCell (by show n ≤ m; omega) _⟩
          have RC := Lib.hid rc; have R2 := Lib.hid r2
          clear ev rc r2 sh hx hy e1 hto
          go_wp2_with fail
          refine (SH.out _).mono ?_
          rintro e w2 ⟨rfl, rfl⟩
          go_wp2
          go_roundg (32 - (k + 1))
          case measure => omega
          case rel => exact ⟨k + 1, by omega, by go_num, RC.out, R2.out⟩
        · obtain rfl : k = 32 := by omega
          rw [upto_all] at p2
          obtain ⟨D, hD⟩ : ∃ D, r8 32 F = D := ⟨_, rfl⟩
          have zD : Z32.size = D.size := by rw [← hD]; exact r8_zero F
          have oD : D.all (·.oneCell') = true := by rw [← hD]; exact M.rowF_one
          have iD : (Tryd.prog.info? 65).map (·.size) = some D.size := by rw [← hD]; exact r8_info F
          have HD := Lib.hid hD
          rw [hD] at p2
          have pr := cs.r
          have q6 := M.RowAt.setRow pr D
          have b6 := M.below_setRow (g := n) (cs := D) cs.below (Nat.le_refl _)
          unfold M.RowAt at p2
          clear hD
          go_wp2_with (first
            | (refine wpList_load_row (x := .tmp 8) (ty := 65) (g := m) (cs := D) (t := 65) (fr := (0, 0)) ?_ ?_ ?_ _ p2 und28 rfl iD ?_; rfl; rfl; rfl)
            | (refine wpList_store_row (x := .tmp 2) (y := .tmp 48) (cells := D) (old := Z32) (t := 65) (ty := 65) (g := n) ?_ ?_ ?_ ?_ pr iD zD oD ?_; rfl; rfl; rfl; rfl))
          have hload := run_loadVar_row (P := Tryd.prog) _ n 65 65 D (0, 0) _ q6 und28 rfl iD
          refine bodyPost_ret (v := .agg D) (by simp [results, Tryd.results26, asAddr, Act.put, hload]) rfl ⟨by rw [← HD.out, HF.out], ?_⟩
          rw [HN.out]
          exact b6
end Go.Proofs.YtiilgkhndfnkgaaDoor
