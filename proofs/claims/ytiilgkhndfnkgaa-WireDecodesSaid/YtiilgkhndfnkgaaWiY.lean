/- Encode of the reference; the conditions are the types' own. -/
import Derived.Test.YtiilgkhndfnkgaaWiW
namespace Go.Proofs.Ytiilgkhndfnkgaa
open Go.RowKit Go.Shelf
set_option linter.unusedVariables false

theorem kind_cases' {m : Msg} {fl : List Fld} (h : fieldsOf m.kind = some fl) : ∃ k : Nat, m.kind = (k : Int) ∧ 1 ≤ k ∧ k ≤ 9 := by
  have := may_kind h
  obtain ⟨k, hk⟩ := Int.eq_ofNat_of_zero_le (show 0 ≤ m.kind by omega)
  exact ⟨k, hk, by omega, by omega⟩
def letF : Fld → Int
  | .chan => 0
  | .id => 105
  | .amount => 97
  | .hash => 104
  | .expiry => 101
  | .number => 110
/-- a kind's fields behind the channel -/
theorem fields_lets {k : Int} {fl : List Fld} (h : fieldsOf k = some fl) : ∃ r, fl = .chan :: r ∧ (lets k).size = r.length ∧ (∀ (i : Nat) (hi : i < (lets k).size), ∃ f, r[i]? = some f ∧ f ≠ .chan ∧ (((lets k)[i]'hi).toNat : Int) = letF f) := by
  rcases kinds k with rfl | rfl | rfl | rfl | rfl | rfl | rfl | rfl | rfl | hk
  case inr.inr.inr.inr.inr.inr.inr.inr.inr => rw [(lets_out hk).2] at h; cases h
  all_goals
    obtain rfl := Option.some.inj h
    refine ⟨_, rfl, rfl, fun i hi => ?_⟩
  · match i, hi with
    | 0, _ => exact ⟨.amount, rfl, by simp, rfl⟩
  · exact absurd hi (by show ¬ i < 0; omega)
  · match i, hi with
    | 0, _ => exact ⟨.id, rfl, by simp, rfl⟩
    | 1, _ => exact ⟨.amount, rfl, by simp, rfl⟩
    | 2, _ => exact ⟨.hash, rfl, by simp, rfl⟩
    | 3, _ => exact ⟨.expiry, rfl, by simp, rfl⟩
  · match i, hi with
    | 0, _ => exact ⟨.id, rfl, by simp, rfl⟩
    | 1, _ => exact ⟨.hash, rfl, by simp, rfl⟩
  · match i, hi with
    | 0, _ => exact ⟨.id, rfl, by simp, rfl⟩
    | 1, _ => exact ⟨.number, rfl, by simp, rfl⟩
  · match i, hi with
    | 0, _ => exact ⟨.number, rfl, by simp, rfl⟩
    | 1, _ => exact ⟨.hash, rfl, by simp, rfl⟩
  · match i, hi with
    | 0, _ => exact ⟨.number, rfl, by simp, rfl⟩
    | 1, _ => exact ⟨.hash, rfl, by simp, rfl⟩
  · exact absurd hi (by show ¬ i < 0; omega)
  · match i, hi with
    | 0, _ => exact ⟨.number, rfl, by simp, rfl⟩
    | 1, _ => exact ⟨.id, rfl, by simp, rfl⟩
theorem empty_app (s : ByteArray) : (⟨#[]⟩ : ByteArray) ++ s = s := by apply ByteArray.ext; simp [ByteArray.data_append]
structure RB (n : Nat) (w : World) (R : Array Value) (x : World) : Prop where
  r : M.RowAt x n 65 R
  b : Below n w x
theorem RB.same {n : Nat} {w x x' : World} {R : Array Value} (h : RB n w R x) (hb : Below x.heap.size x x') : RB n w R x' := ⟨h.r.call hb, h.b.trans (hb.mono (Nat.le_of_lt h.r.lt))⟩
theorem rnum' (n : Int) (wd : Int) (x : World) (n0 : 0 ≤ n) (n1 : n ≤ 18446744073709551615) : Calls Try.prog 17 #[.int .u64 n, .int .i64 wd] x fun e x' => ∃ q, e = .returned (.tuple #[.string (strOfNums (numB n wd)), .int .i64 q]) ∧ Below x.heap.size x x' := (rnum_any n wd x n0 n1).mono fun e x' h => ⟨_, h⟩
set_option maxRecDepth 100000 in
set_option maxHeartbeats 4000000 in
theorem renc_no (m : Msg) (ho : m.ok) (hm : ¬ May m) (w : World) : Calls Try.prog 34 #[.agg m.row] w fun e w' => e = .returned (.tuple #[.string ⟨#[]⟩, .int .i64 1]) ∧ Below w.heap.size w w' := by
  obtain ⟨n, hn⟩ : ∃ n, w.heap.size = n := ⟨_, rfl⟩
  obtain ⟨V, hV⟩ : ∃ V, w.alloc (.cells m.row 65) = V := ⟨_, rfl⟩
  have rV : M.RowAt V n 65 m.row := by rw [← hV, ← hn]; exact M.RowAt.new w 65 _
  have bV : Below n w V := by rw [← hV, ← hn]; exact (Below.refl _ w).alloc (Nat.le_refl _) _
  have sV : V.heap.size = n + 1 := by rw [← hV]; simp [hn]
  have may := rmay_any m ho false (Iff.intro (fun h => Bool.noConfusion h) (fun h => absurd h hm)) V
  have iX := Msg.rinfo ho.h32
  have HN := Lib.hid hn; have HV := Lib.hid hV; have BV := Lib.hid bV; have SV := Lib.hid sV; have MAY := Lib.hid may
  rw [hn]
  clear may bV sV hV hn hm ho
  generalize m.row = R at *
  go_enter Try.func34, Try.ntmps34
  go_wp2_with (first | (rw [HN.out, HV.out]) | (refine wpList_load_row (x := .tmp 1) (ty := 65) (g := n) (cs := R) (t := 65) (fr := (0, 0)) ?_ ?_ ?_ _ rV Try.underlying65 rfl iX ?_; rfl; rfl; rfl) | fail)
  refine (MAY.out).mono ?_
  rintro e w1 ⟨rfl, b1⟩
  have B1 := Lib.hid (BV.out.trans (b1.mono (by have := SV.out; omega)))
  clear b1 rV
  go_wp2
  go_ret2
  exact ⟨rfl, B1.out⟩
set_option maxRecDepth 100000 in
set_option maxHeartbeats 8000000 in
theorem renc_yes (m : Msg) (ho : m.ok) (fl : List Fld) (hf : fieldsOf m.kind = some fl) (hm : MayP m fl) (w : World) :
    Calls Try.prog 34 #[.agg m.row] w fun e w' => e = .returned (.tuple #[.string (encB m fl), .int .i64 0]) ∧ Below w.heap.size w w' := by
  obtain ⟨n, hn⟩ : ∃ n, w.heap.size = n := ⟨_, rfl⟩
  obtain ⟨V, hV⟩ : ∃ V, w.alloc (.cells m.row 65) = V := ⟨_, rfl⟩
  have rV : M.RowAt V n 65 m.row := by rw [← hV, ← hn]; exact M.RowAt.new w 65 _
  have bV : Below n w V := by rw [← hV, ← hn]; exact (Below.refl _ w).alloc (Nat.le_refl _) _
  have rbV : RB n w m.row V := ⟨rV, bV⟩
  have may := rmay_any m ho true (Iff.intro (fun _ => ⟨fl, hf, hm⟩) (fun _ => rfl)) V
  have iX := Msg.rinfo ho.h32
  obtain ⟨k, hk, k1, k9⟩ := kind_cases' hf
  obtain ⟨r, rfl, lsz, hlet⟩ := fields_lets hf
  have e0 := hm.e0; have e1 := hm.e1; have n0 := hm.n0; have n1 := hm.n1
  have k0 : 0 ≤ m.kind := by omega
  have cwk : IntKind.u64.wrap m.kind = m.kind := u64_in _ (by omega)
  have cwc : IntKind.u64.wrap m.chan = m.chan := u64_in _ (by have := ho.c0; have := ho.c1; omega)
  have cwe : IntKind.u64.wrap m.expiry = m.expiry := u64_in _ (by omega)
  have cwn : IntKind.u64.wrap m.number = m.number := u64_in _ (by omega)
  have nk := fun x => rnum' m.kind 1 x k0 (by omega)
  have nc := fun x => rnum' m.chan 4 x ho.c0 (by have := ho.c1; omega)
  have ni := fun x => rnum' m.id 8 x ho.i0 ho.i1
  have na := fun x => rnum' m.amount 8 x ho.a0 ho.a1
  have ne := fun x => rnum' m.expiry 4 x e0 (by omega)
  have nn := fun x => rnum' m.number 2 x n0 (by omega)
  have nh := fun x => rhash_any m.hash x ho.h32
  have fld := fun x => rfields_any m.kind x
  have g0 := fun x (h : M.RowAt x n 65 m.row) => (h.cell 0).trans Msg.g0
  have g1 := fun x (h : M.RowAt x n 65 m.row) => (h.cell 1).trans Msg.g1
  have g2 := fun x (h : M.RowAt x n 65 m.row) => (h.cell 2).trans Msg.g2
  have g3 := fun x (h : M.RowAt x n 65 m.row) => (h.cell 3).trans Msg.g3
  have g36 := fun x (h : M.RowAt x n 65 m.row) => (h.cell 36).trans (Msg.g36 ho.h32)
  have g37 := fun x (h : M.RowAt x n 65 m.row) => (h.cell 37).trans (Msg.g37 ho.h32)
  have gh := fun x (h : M.RowAt x n 65 m.row) => Msg.range h ho.h32
  have iH : (Try.prog.info? 33).map (·.size) = some (ints m.hash).length := by rw [ints_len', ho.h32]; kernel_rfl
  unfold hashV at nh
  -- the bytes, field by field
  have hcat : ∀ (j : Nat) (f : Fld), r[j]? = some f → cat m (cat m (kindB m) [.chan]) (r.take (j + 1)) = cat m (cat m (kindB m) [.chan]) (r.take j) ++ fbytes m f := fun j f h => cat_take h m _
  have hstart : strOfNums (numB m.kind 1) ++ strOfNums (numB m.chan 4) = cat m (cat m (kindB m) [.chan]) (r.take 0) := by
    show _ = kindB m ++ fbytes m .chan
    unfold kindB; rw [empty_app]; rfl
  have hend : cat m (cat m (kindB m) [.chan]) r = encB m (.chan :: r) := rfl
  have fbi : fbytes m .id = strOfNums (numB m.id 8) := rfl
  have fba : fbytes m .amount = strOfNums (numB m.amount 8) := rfl
  have fbh : fbytes m .hash = strOfNums m.hash := rfl
  have fbe : fbytes m .expiry = strOfNums (numB m.expiry 4) := rfl
  have fbn : fbytes m .number = strOfNums (numB m.number 2) := rfl
  rw [← fbi] at ni
  rw [← fba] at na
  rw [← fbh] at nh
  rw [← fbe] at ne
  rw [← fbn] at nn
  obtain ⟨S, hS⟩ : ∃ S, lets m.kind = S := ⟨_, rfl⟩
  have ls := lets_size m.kind
  have lets_at : ∀ i (hi : i < S.size), ∃ f, r[i]? = some f ∧ f ≠ .chan ∧ ((S[i]'hi).toNat : Int) = letF f := by subst hS; exact hlet
  rw [hS] at fld lsz ls
  obtain ⟨C, hC⟩ : ∃ C : Nat → ByteArray, C = fun j => cat m (cat m (kindB m) [.chan]) (r.take j) := ⟨_, rfl⟩
  have hC' : ∀ j, C j = cat m (cat m (kindB m) [.chan]) (r.take j) := fun j => by rw [hC]
  simp only [← hC'] at hcat hstart
  have hend' : C S.size = encB m (.chan :: r) := by rw [hC', lsz, List.take_length]; exact hend
  rw [← hend']
  have szc : ∀ j, (C j).size ≤ 1000 := fun j => by
    rw [hC']
    have h1 := cat_le m ho.h32 (r.take j) (cat m (kindB m) [.chan])
    have h2 := cat_le m ho.h32 [.chan] (kindB m)
    have h3 : (kindB m).size ≤ 8 := by
      unfold kindB; rw [empty_app, str_size]
      exact Nat.le_trans (num_len _ _ (by decide)) (by decide)
    have h4 := fields_len hf
    rw [List.length_take] at h1
    simp only [List.length_cons] at h4
    simp only [List.length_singleton] at h2
    omega
  have szf : ∀ f, (fbytes m f).size ≤ 32 := fbytes_le m ho.h32
  have sz0 : (strOfNums (numB m.kind 1)).size + (strOfNums (numB m.chan 4)).size ≤ 9223372036854775807 := by
    have h1 : (strOfNums (numB m.kind 1)).size ≤ 8 := by rw [str_size]; exact Nat.le_trans (num_len _ _ (by decide)) (by decide)
    have h2 : (strOfNums (numB m.chan 4)).size ≤ 8 := by rw [str_size]; exact Nat.le_trans (num_len _ _ (by decide)) (by decide)
    omega
  have SZC := Lib.hid szc; have SZ0 := Lib.hid sz0
  obtain ⟨FB, hFB⟩ : ∃ FB, fbytes m = FB := ⟨_, rfl⟩
  rw [hFB] at hcat ni na nh ne nn szf
  have SZF := Lib.hid szf
  have HN := Lib.hid hn; have HV := Lib.hid hV; have RBV := Lib.hid rbV; have MAY := Lib.hid may
  have NK := Lib.hid nk; have NC := Lib.hid nc; have NI := Lib.hid ni; have NA := Lib.hid na; have NE := Lib.hid ne; have NN := Lib.hid nn; have NH := Lib.hid nh; have FLD := Lib.hid fld
  have G0 := Lib.hid g0; have G1 := Lib.hid g1; have G2 := Lib.hid g2; have G3 := Lib.hid g3; have G36 := Lib.hid g36; have G37 := Lib.hid g37; have GH := Lib.hid gh
  have HCAT := Lib.hid hcat; have HST := Lib.hid hstart; have LAT := Lib.hid lets_at
  rw [hn]
  clear szc szf sz0 may nk nc ni na ne nn nh fld g0 g1 g2 g3 g36 g37 gh hcat hstart lets_at hlet hend hend' hC hC' hFB fbi fba fbh fbe fbn bV rbV hV hn hm hf ho lsz hS hk k1 k9 e0 e1 n0 n1 k0
  generalize m.row = R at *
  generalize m.kind = kd at *
  generalize m.chan = ch at *
  generalize m.id = mi at *
  generalize m.amount = ma at *
  generalize m.expiry = me at *
  generalize m.number = mn at *
  generalize ints m.hash = mh at *
  go_enter Try.func34, Try.ntmps34
  go_wp2_with (first | (rw [HN.out, HV.out]) | (refine wpList_load_row (x := .tmp 1) (ty := 65) (g := n) (cs := R) (t := 65) (fr := (0, 0)) ?_ ?_ ?_ _ rV Try.underlying65 rfl iX ?_; rfl; rfl; rfl) | fail)
  refine (MAY.out).mono ?_
  rintro e w1 ⟨rfl, b1⟩
  have b1 := RBV.out.same b1
  have c0 := G0.out _ b1.r
  have RB1 := Lib.hid b1
  clear b1 rV
  go_wp2_with fail
  refine (NK.out _).mono ?_
  rintro e w2 ⟨q2, rfl, b2⟩
  have b2 := RB1.out.same b2
  have c1 := G1.out _ b2.r
  have RB2 := Lib.hid b2
  clear b2 c0
  go_wp2_with fail
  refine (NC.out _).mono ?_
  rintro e w3 ⟨q3, rfl, b3⟩
  have sz0 := SZ0.out
  have b3 := RB2.out.same b3
  have c0 := G0.out _ b3.r
  have RB3 := Lib.hid b3
  clear b3 c1
  go_wp2_with fail
  refine (FLD.out _).mono ?_
  rintro e w4 ⟨rfl, rfl⟩
  rw [HST.out]
  clear c0
  go_wp2
  go_loopg [8, 10] S.size (fun q s i v => ∃ k : Nat, q + k = S.size ∧ i = .int .i64 k ∧ s = .string (C k) ∧ RB n w R v)
  case atStart => exact ⟨0, by omega, rfl, rfl, RB3.out⟩
  case round =>
    obtain ⟨k, hk, rfl, rfl, rb⟩ := hrel
    have HK := Lib.hid hk
    have SZ := Lib.hid ls
    have RBX := Lib.hid rb
    clear hk
    by_cases hlt : k < S.size
    · obtain ⟨f, hf, hfc, hx⟩ := LAT.out k hlt
      obtain ⟨x, hxx⟩ : ∃ x, S[k]'hlt = x := ⟨_, rfl⟩
      rw [hxx] at hx
      have hcat := HCAT.out k f hf
      have HC := Lib.hid hcat
      have i1 : ((k : Nat) : Int) < (S.size : Nat) := by omega
      have i2 : (0 : Int) ≤ (k : Nat) := by omega
      have w9 : IntKind.i64.wrap ((k : Int) + 1) = (k : Int) + 1 := IntWalk.i64_in _ (by have := SZ.out; omega)
      have HFC := Lib.hid hfc
      clear hf hcat hfc
      cases f with
      | chan => exact absurd rfl HFC.out
      | id =>
        have hx : (x.toNat : Int) = 105 := hx
        have c2 := G2.out _ rb.r
        clear rb
        go_wp2_with (fail)
        refine (NI.out _).mono ?_
        rintro e w5 ⟨q5, rfl, b5⟩
        have RB5 := Lib.hid (RBX.out.same b5)
        clear b5 c2
        have hadd : (C k).size + (FB .id).size ≤ 9223372036854775807 := by have := SZC.out k; have := SZF.out .id; omega
        go_wp2
        go_roundg (S.size - (k + 1))
        case measure => have := HK.out; omega
        case rel => exact ⟨k + 1, by have := HK.out; omega, by go_num, by rw [HC.out], RB5.out⟩
      | amount =>
        have hx : (x.toNat : Int) = 97 := hx
        have c2 := G3.out _ rb.r
        clear rb
        go_wp2_with (fail)
        refine (NA.out _).mono ?_
        rintro e w5 ⟨q5, rfl, b5⟩
        have RB5 := Lib.hid (RBX.out.same b5)
        clear b5 c2
        have hadd : (C k).size + (FB .amount).size ≤ 9223372036854775807 := by have := SZC.out k; have := SZF.out .amount; omega
        go_wp2
        go_roundg (S.size - (k + 1))
        case measure => have := HK.out; omega
        case rel => exact ⟨k + 1, by have := HK.out; omega, by go_num, by rw [HC.out], RB5.out⟩
      | hash =>
        have hx : (x.toNat : Int) = 104 := hx
        have c2 := Lib.hid (GH.out _ rb.r)
        clear rb
        go_wp2_with (first | (refine wpList_load_mid (x := .tmp 62) (ty := 33) (b := n) (o := 4) (cs := mh) ?_ ?_ ?_ _ c2.out Try.underlying33 rfl iH ?_; rfl; rfl; rfl) | fail)
        refine (NH.out _).mono ?_
        rintro e w5 ⟨rfl, b5⟩
        have RB5 := Lib.hid (RBX.out.same b5)
        clear b5 c2
        have hadd : (C k).size + (FB .hash).size ≤ 9223372036854775807 := by have := SZC.out k; have := SZF.out .hash; omega
        go_wp2
        go_roundg (S.size - (k + 1))
        case measure => have := HK.out; omega
        case rel => exact ⟨k + 1, by have := HK.out; omega, by go_num, by rw [HC.out], RB5.out⟩
      | expiry =>
        have hx : (x.toNat : Int) = 101 := hx
        have c2 := G36.out _ rb.r
        clear rb
        go_wp2_with (fail)
        refine (NE.out _).mono ?_
        rintro e w5 ⟨q5, rfl, b5⟩
        have RB5 := Lib.hid (RBX.out.same b5)
        clear b5 c2
        have hadd : (C k).size + (FB .expiry).size ≤ 9223372036854775807 := by have := SZC.out k; have := SZF.out .expiry; omega
        go_wp2
        go_roundg (S.size - (k + 1))
        case measure => have := HK.out; omega
        case rel => exact ⟨k + 1, by have := HK.out; omega, by go_num, by rw [HC.out], RB5.out⟩
      | number =>
        have hx : (x.toNat : Int) = 110 := hx
        have c2 := G37.out _ rb.r
        clear rb
        go_wp2_with (fail)
        refine (NN.out _).mono ?_
        rintro e w5 ⟨q5, rfl, b5⟩
        have RB5 := Lib.hid (RBX.out.same b5)
        clear b5 c2
        have hadd : (C k).size + (FB .number).size ≤ 9223372036854775807 := by have := SZC.out k; have := SZF.out .number; omega
        go_wp2
        go_roundg (S.size - (k + 1))
        case measure => have := HK.out; omega
        case rel => exact ⟨k + 1, by have := HK.out; omega, by go_num, by rw [HC.out], RB5.out⟩
    · obtain rfl : k = S.size := by have := HK.out; omega
      clear rb
      go_wp2
      go_ret2
      exact ⟨rfl, RBX.out.b⟩
end Go.Proofs.Ytiilgkhndfnkgaa
