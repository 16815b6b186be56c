/- What was encoded is decoded: the plain law; no conditions but the types' own. -/
import Derived.Test.YtiilgkhndfnkgaaWiY
namespace Go.Proofs.Ytiilgkhndfnkgaa
open Go.RowKit Go.Shelf
set_option linter.unusedVariables false

def bytesL (m : Msg) (fl : List Fld) : ByteArray := fl.foldr (fun f t => fbytes m f ++ t) ⟨#[]⟩
theorem app_nil (s : ByteArray) : s ++ (⟨#[]⟩ : ByteArray) = s := by apply ByteArray.ext; simp [ByteArray.data_append]
theorem app_assoc (a b c : ByteArray) : a ++ b ++ c = a ++ (b ++ c) := by apply ByteArray.ext; simp [ByteArray.data_append]
theorem cat_bytes (m : Msg) : ∀ (fl : List Fld) (s : ByteArray), cat m s fl = s ++ bytesL m fl
  | [], s => (app_nil s).symm
  | f :: r, s => by
    show cat m (s ++ fbytes m f) r = s ++ (fbytes m f ++ bytesL m r)
    rw [cat_bytes m r, app_assoc]
/-- a field taken over -/
def put (q m : Msg) : Fld → Msg
  | .chan => { q with chan := m.chan }
  | .id => { q with id := m.id }
  | .amount => { q with amount := m.amount }
  | .hash => { q with hash := m.hash }
  | .expiry => { q with expiry := m.expiry }
  | .number => { q with number := m.number }
theorem numB_low {n : Int} {wd : Nat} (h1 : 1 ≤ wd) (h8 : wd ≤ 8) (h0 : 0 ≤ n) (h : n < 2 ^ (8 * (wd : Int)).toNat) : numB n (wd : Int) = low n wd := by
  unfold numB
  rw [if_neg, Int.toNat_natCast, top_low]
  rintro (q | q | q)
  · omega
  · omega
  · exact q (Int.ediv_eq_zero_of_lt h0 h)
theorem rh_app (l : List Int) (h : l.length = 32) (hin : ∀ n ∈ l, 0 ≤ n ∧ n ≤ 255) (R : ByteArray) : rhH (strOfNums l ++ R) = l ∧ rhE (strOfNums l ++ R) = 0 ∧ rhS (strOfNums l ++ R) = R := by
  have hs : (strOfNums l).size = 32 := by rw [strOfNums_size, h]
  have hsz : (strOfNums l ++ R).size = 32 + R.size := by rw [ByteArray.size_append, hs]
  have e0 := (rh_hash l h hin).1
  unfold rhH at e0 ⊢
  unfold rhE rhS
  rw [if_neg (by omega)] at e0
  rw [if_neg (by omega), if_neg (by omega), if_neg (by omega)]
  refine ⟨?_, rfl, ?_⟩
  · have : (strOfNums l ++ R).extract 0 32 = (strOfNums l).extract 0 32 := by
      apply ByteArray.ext
      have hd : (strOfNums l).data.size = 32 := hs
      rw [ByteArray.data_extract, ByteArray.data_extract, ByteArray.data_append, Array.extract_append]
      simp [hd]
    rw [this]; exact e0
  · rw [hsz]
    have := back_of (strOfNums l) R
    rw [hs] at this
    exact this
theorem rdF_put (q m : Msg) (ho : m.ok) (ft : Fits m) (f : Fld) (R : ByteArray) : rdF q (fbytes m f ++ R) f = (put q m f, R, 0) := by
  have e0 := ft.e0; have e1 := ft.e1; have n0 := ft.n0; have n1 := ft.n1
  cases f
  · obtain ⟨h1, h2, h3⟩ := rdN_low m.chan 4 R ho.c0 (by have := ho.c1; show m.chan < 4294967296; omega) (by decide) (by decide)
    have e := numB_low (n := m.chan) (wd := 4) (by decide) (by decide) ho.c0 (by have := ho.c1; show m.chan < 4294967296; omega)
    simp only [rdF, fbytes, put]
    rw [show numB m.chan 4 = low m.chan 4 from e, show rdN _ (4 : Int) = _ from h1, show rdE _ (4 : Int) = _ from h2, show rdS _ (4 : Int) = _ from h3]
  · obtain ⟨h1, h2, h3⟩ := rdN_low m.id 8 R ho.i0 (by have := ho.i1; show m.id < 18446744073709551616; omega) (by decide) (by decide)
    have e := numB_low (n := m.id) (wd := 8) (by decide) (by decide) ho.i0 (by have := ho.i1; show m.id < 18446744073709551616; omega)
    simp only [rdF, fbytes, put]
    rw [show numB m.id 8 = low m.id 8 from e, show rdN _ (8 : Int) = _ from h1, show rdE _ (8 : Int) = _ from h2, show rdS _ (8 : Int) = _ from h3]
  · obtain ⟨h1, h2, h3⟩ := rdN_low m.amount 8 R ho.a0 (by have := ho.a1; show m.amount < 18446744073709551616; omega) (by decide) (by decide)
    have e := numB_low (n := m.amount) (wd := 8) (by decide) (by decide) ho.a0 (by have := ho.a1; show m.amount < 18446744073709551616; omega)
    simp only [rdF, fbytes, put]
    rw [show numB m.amount 8 = low m.amount 8 from e, show rdN _ (8 : Int) = _ from h1, show rdE _ (8 : Int) = _ from h2, show rdS _ (8 : Int) = _ from h3]
  · obtain ⟨h1, h2, h3⟩ := rh_app m.hash ho.h32 ho.hb R
    simp only [rdF, fbytes, put]
    rw [h1, h2, h3]
  · obtain ⟨h1, h2, h3⟩ := rdN_low m.expiry 4 R e0 (by show m.expiry < 4294967296; omega) (by decide) (by decide)
    have e := numB_low (n := m.expiry) (wd := 4) (by decide) (by decide) e0 (by show m.expiry < 4294967296; omega)
    simp only [rdF, fbytes, put]
    rw [show numB m.expiry 4 = low m.expiry 4 from e, show rdN _ (4 : Int) = _ from h1, show rdE _ (4 : Int) = _ from h2, show rdS _ (4 : Int) = _ from h3]
  · obtain ⟨h1, h2, h3⟩ := rdN_low m.number 2 R n0 (by show m.number < 65536; omega) (by decide) (by decide)
    have e := numB_low (n := m.number) (wd := 2) (by decide) (by decide) n0 (by show m.number < 65536; omega)
    simp only [rdF, fbytes, put]
    rw [show numB m.number 2 = low m.number 2 from e, show rdN _ (2 : Int) = _ from h1, show rdE _ (2 : Int) = _ from h2, show rdS _ (2 : Int) = _ from h3]
theorem runs_bytes (m : Msg) (ho : m.ok) (ft : Fits m) (R : ByteArray) : ∀ (fl : List Fld) (q : Msg), runs (q, bytesL m fl ++ R) fl = some (fl.foldl (fun q f => put q m f) q, R)
  | [], q => by
    show some (q, (⟨#[]⟩ : ByteArray) ++ R) = _
    rw [empty_app]; rfl
  | f :: r, q => by
    show (rd1 (q, fbytes m f ++ bytesL m r ++ R) f).bind _ = _
    rw [app_assoc]
    have h := rdF_put q m ho ft f (bytesL m r ++ R)
    have h1 : rd1 (q, fbytes m f ++ (bytesL m r ++ R)) f = some (put q m f, bytesL m r ++ R) := by
      unfold rd1
      simp only [h]
      rfl
    rw [h1]
    exact runs_bytes m ho ft R r (put q m f)
theorem put_all {m : Msg} {fl : List Fld} (hf : fieldsOf m.kind = some fl) (hm : MayP m fl) : fl.foldl (fun q f => put q m f) (Msg.none m.kind) = m := by
  have hz := hm.z
  clear hm
  obtain ⟨k, c, i, a, h, e, n⟩ := m
  rcases kinds k with rfl | rfl | rfl | rfl | rfl | rfl | rfl | rfl | rfl | hk
  case inr.inr.inr.inr.inr.inr.inr.inr.inr => rw [(lets_out hk).2] at hf; cases hf
  all_goals
    obtain rfl := Option.some.inj hf
    simp only [zeroAll, List.foldl, Msg.zero, Msg.none, Msg.mk.injEq, true_and, and_true] at hz
    simp only [List.foldl, put, Msg.none, Msg.mk.injEq, true_and, and_true]
    first
      | trivial
      | exact hz.symm
      | exact ⟨hz.1.symm, hz.2.symm⟩
      | exact ⟨hz.1.symm, hz.2.1.symm, hz.2.2.symm⟩
      | exact ⟨hz.1.symm, hz.2.1.symm, hz.2.2.1.symm, hz.2.2.2.symm⟩
      | exact ⟨hz.1.symm, hz.2.1.symm, hz.2.2.1.symm, hz.2.2.2.1.symm, hz.2.2.2.2.symm⟩
theorem kindB_low {m : Msg} (h0 : 0 ≤ m.kind) (h9 : m.kind ≤ 9) : kindB m = strOfNums (low m.kind 1) := by
  unfold kindB
  rw [empty_app, show numB m.kind 1 = low m.kind 1 from numB_low (wd := 1) (by decide) (by decide) h0 (by show m.kind < 256; omega)]
/-- what was encoded, and what is behind it -/
theorem enc_more {m : Msg} {fl : List Fld} (ho : m.ok) (hf : fieldsOf m.kind = some fl) (hm : MayP m fl) (R : ByteArray) :
    0 < (encB m fl ++ R).size ∧ dk (encB m fl ++ R) = m.kind ∧ runs (Msg.none m.kind, dr (encB m fl ++ R)) fl = some (m, R) := by
  obtain ⟨h0, h9⟩ := may_kind hf
  have hb : encB m fl ++ R = strOfNums (low m.kind 1) ++ (bytesL m fl ++ R) := by
    unfold encB; rw [cat_bytes, kindB_low (by omega) h9, app_assoc]
  obtain ⟨h1, h2, h3⟩ := rdN_low m.kind 1 (bytesL m fl ++ R) (by omega) (by show m.kind < 256; omega) (by decide) (by decide)
  refine ⟨?_, ?_, ?_⟩
  · rw [hb, ByteArray.size_append, strOfNums_size, low_len]; omega
  · rw [hb]; exact h1
  · have : dr (encB m fl ++ R) = bytesL m fl ++ R := by rw [hb]; exact h3
    rw [this, runs_bytes m ho ⟨hm.e0, hm.e1, hm.n0, hm.n1⟩ R fl, put_all hf hm]
theorem enc_dec {m : Msg} {fl : List Fld} (ho : m.ok) (hf : fieldsOf m.kind = some fl) (hm : MayP m fl) : DecOk (encB m fl) m := by
  obtain ⟨h1, h2, h3⟩ := enc_more ho hf hm ⟨#[]⟩
  rw [app_nil] at h1 h2 h3
  exact ⟨h1, fl, ⟨#[]⟩, by rw [h2]; exact hf, by rw [h2]; exact h3, rfl, ⟨fl, hf, hm⟩⟩
theorem dec_one {s : ByteArray} {m m' : Msg} (h : DecOk s m) (h' : DecOk s m') : m = m' := by
  obtain ⟨_, fl, r, h1, h2, _⟩ := h
  obtain ⟨_, fl', r', g1, g2, _⟩ := h'
  rw [h1] at g1; cases g1
  rw [h2] at g2; cases g2; rfl
theorem dec_ok_bad {s : ByteArray} {m : Msg} {ev : Int} (h : DecOk s m) (h' : DecBad s ev) : False := by
  obtain ⟨h0, fl, r, h1, h2, h3, h4⟩ := h
  rcases h' with ⟨g, _⟩ | ⟨_, g, _⟩ | ⟨_, fl', g1, g⟩
  · omega
  · rw [h1] at g; cases g
  · rw [h1] at g1; cases g1
    rw [h2] at g
    rcases g with ⟨g, _⟩ | ⟨m', r', g, g'⟩
    · cases g
    · cases g
      rcases g' with ⟨g', _⟩ | ⟨_, g', _⟩
      · exact g' h3
      · exact g' h4
end Go.Proofs.Ytiilgkhndfnkgaa
