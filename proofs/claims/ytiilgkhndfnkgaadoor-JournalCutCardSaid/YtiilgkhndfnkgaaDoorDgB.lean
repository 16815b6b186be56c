/- The exclusive ors of the rounds, as the program writes them; the conditions are the ranges of the words. -/
import Derived.Test.YtiilgkhndfnkgaaDoorDgW
namespace Go.Proofs.YtiilgkhndfnkgaaDoor
open Go.RowKit
set_option linter.unusedVariables false

theorem turns2 (x a b : Nat) : turnsV x [a, b] = Sha.rot x a ^^^ Sha.rot x b := by
  unfold turnsV; rw [List.foldl_cons, List.foldl_cons, List.foldl_nil, Nat.zero_xor]
theorem turns3 (x a b c : Nat) : turnsV x [a, b, c] = Sha.rot x a ^^^ Sha.rot x b ^^^ Sha.rot x c := by
  unfold turnsV; rw [List.foldl_cons, List.foldl_cons, List.foldl_cons, List.foldl_nil, Nat.zero_xor]
theorem ediv_nat (x d : Nat) : (x : Int) / (d : Int) = ((x / d : Nat) : Int) := (Int.natCast_ediv x d).symm
theorem sig0_32 {x : Nat} (hx : x < 4294967296) : bits .xor .u32 ((turnsV x [7, 18] : Nat) : Int) ((x : Int) / 8) = ((Sha.sig0 x : Nat) : Int) := by
  have h := u32_xor_nat (turnsV x [7, 18]) (x / 8) (turnsV_lt hx _ (by decide)) (by omega)
  rw [← ediv_nat, turns2] at h
  rw [turns2]
  exact h
theorem sig1_32 {x : Nat} (hx : x < 4294967296) : bits .xor .u32 ((turnsV x [17, 19] : Nat) : Int) ((x : Int) / 1024) = ((Sha.sig1 x : Nat) : Int) := by
  have h := u32_xor_nat (turnsV x [17, 19]) (x / 1024) (turnsV_lt hx _ (by decide)) (by omega)
  rw [← ediv_nat, turns2] at h
  rw [turns2]
  exact h

theorem xor_ones {e : Nat} (h : e < 4294967296) : 4294967295 ^^^ e = 4294967295 - e := by
  have h1 : (BitVec.allOnes 32 ^^^ BitVec.ofNat 32 e).toNat = (~~~ (BitVec.ofNat 32 e)).toNat := by rw [BitVec.allOnes_xor]
  rw [BitVec.toNat_xor, BitVec.toNat_not, BitVec.toNat_allOnes, BitVec.toNat_ofNat, Nat.mod_eq_of_lt h] at h1
  exact h1
theorem not_32 {e : Nat} (h : e < 4294967296) : bits .xor .u32 (if IntKind.u32.signed = true then -1 else IntKind.u32.max) (e : Int) = ((4294967295 - e : Nat) : Int) := by
  have h1 := u32_xor_nat 4294967295 e (by decide) h
  rw [xor_ones h] at h1
  exact h1
theorem ch_32 {e f g : Nat} (he : e < 4294967296) (hf : f < 4294967296) (hg : g < 4294967296) :
    bits .xor .u32 (bits .and .u32 (e : Int) (f : Int)) (bits .and .u32 (bits .xor .u32 (if IntKind.u32.signed = true then -1 else IntKind.u32.max) (e : Int)) (g : Int)) = ((Sha.ch e f g : Nat) : Int) := by
  rw [not_32 he, u32_and_nat e f he hf, u32_and_nat _ g (by omega) hg, u32_xor_nat _ _ (Sha.and_lt he) (Sha.and_lt (by omega))]; rfl
theorem maj_32 {a b c : Nat} (ha : a < 4294967296) (hb : b < 4294967296) (hc : c < 4294967296) :
    bits .xor .u32 (bits .xor .u32 (bits .and .u32 (a : Int) (b : Int)) (bits .and .u32 (a : Int) (c : Int))) (bits .and .u32 (b : Int) (c : Int)) = ((Sha.maj a b c : Nat) : Int) := by
  rw [u32_and_nat a b ha hb, u32_and_nat a c ha hc, u32_and_nat b c hb hc, u32_xor_nat _ _ (Sha.and_lt ha) (Sha.and_lt ha), u32_xor_nat _ _ (Sha.xor_lt (Sha.and_lt ha) (Sha.and_lt ha)) (Sha.and_lt hb)]; rfl
theorem big1_turns (e : Nat) : turnsV e [6, 11, 25] = Sha.big1 e := turns3 e 6 11 25
theorem big0_turns (a : Nat) : turnsV a [2, 13, 22] = Sha.big0 a := turns3 a 2 13 22
theorem t1_32 {s : Sha.St} (h : s.ok) {K X : Nat} (hK : K < 4294967296) (hX : X < 4294967296) :
    IntKind.u32.wrap (IntKind.u32.wrap (IntKind.u32.wrap (IntKind.u32.wrap ((s.h : Int) + (turnsV s.e [6, 11, 25] : Nat)) + bits .xor .u32 (bits .and .u32 (s.e : Int) (s.f : Int)) (bits .and .u32 (bits .xor .u32 (if IntKind.u32.signed = true then -1 else IntKind.u32.max) (s.e : Int)) (s.g : Int))) + (K : Int)) + (X : Int)) = ((Sha.t1 s K X : Nat) : Int) := by
  rw [ch_32 h.e h.f h.g, big1_turns]
  have h1 := Sha.ch_lt (f := s.f) (g := s.g) h.e
  have h2 := Sha.big1_lt h.e
  have h3 := h.h
  unfold Sha.t1
  generalize Sha.ch s.e s.f s.g = c at *
  generalize Sha.big1 s.e = b at *
  rw [IntKind.wrap_u32, IntKind.wrap_u32, IntKind.wrap_u32, IntKind.wrap_u32]
  omega
theorem t2_32 {s : Sha.St} (h : s.ok) :
    ((turnsV s.a [2, 13, 22] : Nat) + bits .xor .u32 (bits .xor .u32 (bits .and .u32 (s.a : Int) (s.b : Int)) (bits .and .u32 (s.a : Int) (s.c : Int))) (bits .and .u32 (s.b : Int) (s.c : Int))) % 4294967296 = ((Sha.t2 s : Nat) : Int) := by
  rw [maj_32 h.a h.b h.c, big0_turns]
  unfold Sha.t2
  generalize Sha.maj s.a s.b s.c = c at *
  generalize Sha.big0 s.a = b at *
  omega
theorem st_cell {u : World} {m : Nat} {t : TypeId} {s : Sha.St} (h : M.RowAt u m t (M.rowF .u32 8 fun i => (s.get i : Nat))) (j : Nat) (hj : j < 8) : u.cell? ⟨m, j, none⟩ = some (.int .u32 (s.get j : Nat)) := (h.cell j).trans (M.rowF_get hj)

theorem run_index_arr {P : Program} {t e : TypeId} {n : Nat} {i0 : TypeInfo} (ht : P.underlying t = some (.array n e)) (hi : P.info? e = some i0) (hs : i0.size = 1) {k' : IntKind} (he : P.underlying e = some (.int k')) (C : Array Value) (i : Nat) (hin : i < n) {k : IntKind} {v : Int} (hv : C[i]? = some (.int k v)) (W : World) :
    (Instr.index t (.agg C) (.int .i64 i)).run P W = .ok (.int k v) W := by
  simp [Instr.index, asIntOf, run_underlying ht, run_underlying he, isAgg, hin, sizeOf, typeInfo, hi, hs, part, hv, go_sem]
end Go.Proofs.YtiilgkhndfnkgaaDoor
