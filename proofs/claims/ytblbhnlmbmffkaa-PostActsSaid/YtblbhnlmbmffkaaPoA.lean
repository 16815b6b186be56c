/- What the small functions of post return, and what ask does; the condition is that the blocks of the post are known. -/
import Derived.Test.YtblbhnlmbmffkaaRows
import Derived.Test.YtblbhnlmbmffkaaPoPl
import Derived.Test.YtblbhnlmbmffkaaKB
import Derived.WalkKit
import Derived.WalkSpells
import Derived.WalkLawsBesides
import Derived.Lib.Hide
import Derived.Shelf.Abstract
namespace Go.Proofs.Ytblbhnlmbmffkaa
open Go.RowKit
set_option linter.unusedVariables false

theorem enters24 : Enters Try.prog 24 := enters_of Try.func24 (by kernel_rfl) rfl
theorem enters25 : Enters Try.prog 25 := enters_of Try.func25 (by kernel_rfl) rfl
theorem enters27 : Enters Try.prog 27 := enters_of Try.func27 (by kernel_rfl) rfl

def openE (b : Bx) : Int := if b.shut then 135 else 0
def fullE (b : Bx) : Int := if b.many = 8 then 160 else 0
def emptyE (b : Bx) : Int := if b.many = 0 then 3 else 0
section
variable {w : World} {B nb k : Nat} {E : Nat → Bx}
theorem open_any (h : M.RowAt w B 76 (boC E nb)) (hk : k < nb) : Calls Try.prog 24 #[.pointer (some ⟨B, k * 35, none⟩)] w fun e w' => e = .returned (.int .i64 (openE (E k))) ∧ w = w' := by
  have hc := bo_shut h hk
  unfold openE
  clear h
  cases hs : (E k).shut
  · rw [hs] at hc
    go_enter Try.func24, Try.ntmps24
    go_wp2
    go_ret
    exact ⟨rfl, rfl⟩
  · rw [hs] at hc
    go_enter Try.func24, Try.ntmps24
    go_wp2
    go_ret
    exact ⟨rfl, rfl⟩
theorem full_any (h : M.RowAt w B 76 (boC E nb)) (hk : k < nb) : Calls Try.prog 25 #[.pointer (some ⟨B, k * 35, none⟩)] w fun e w' => e = .returned (.int .i64 (fullE (E k))) ∧ w = w' := by
  have hc := bo_many h hk
  unfold fullE
  clear h
  generalize (E k).many = m at *
  by_cases hm : m = 8
  · subst hm
    go_enter Try.func25, Try.ntmps25
    go_wp2
    go_ret
    exact ⟨rfl, rfl⟩
  · have hd : ((m : Int) == 8) = false := by simp; omega
    rw [if_neg hm]
    go_enter Try.func25, Try.ntmps25
    go_wp2
    go_ret
    exact ⟨rfl, rfl⟩
theorem empty_any (h : M.RowAt w B 76 (boC E nb)) (hk : k < nb) : Calls Try.prog 27 #[.pointer (some ⟨B, k * 35, none⟩)] w fun e w' => e = .returned (.int .i64 (emptyE (E k))) ∧ w = w' := by
  have hc := bo_many h hk
  unfold emptyE
  clear h
  generalize (E k).many = m at *
  by_cases hm : m = 0
  · subst hm
    go_enter Try.func27, Try.ntmps27
    go_wp2
    go_ret
    exact ⟨rfl, rfl⟩
  · have hd : ((m : Int) == 0) = false := by simp; omega
    rw [if_neg hm]
    go_enter Try.func27, Try.ntmps27
    go_wp2
    go_ret
    exact ⟨rfl, rfl⟩
end
/-- the first error of a list -/
def firstE : List Int → Int
  | [] => 0
  | e :: r => if e = 0 then firstE r else e
theorem firstE_zero {l : List Int} (h : ∀ e ∈ l, e = 0) : firstE l = 0 := by
  induction l with
  | nil => rfl
  | cons e r ih => unfold firstE; rw [if_pos (h e List.mem_cons_self)]; exact ih fun x hx => h x (List.mem_cons_of_mem _ hx)
theorem firstE_at {l : List Int} {j : Nat} {e : Int} (h0 : ∀ i, i < j → l.getD i 0 = 0) (h1 : l[j]? = some e) (he : e ≠ 0) : firstE l = e := by
  induction l generalizing j with
  | nil => simp at h1
  | cons x r ih =>
    unfold firstE
    cases j with
    | zero => obtain rfl : x = e := by simpa using h1
              rw [if_neg he]
    | succ j =>
      have hx : x = 0 := by have := h0 0 (Nat.succ_pos j); simpa using this
      rw [if_pos hx]
      exact ih (fun i hi => by have := h0 (i + 1) (Nat.succ_lt_succ hi); simpa using this) (by simpa using h1)

/-- what ask answers -/
def askP (B nb : Nat) (x : Int) (es : List Int) : Value := if 0 ≤ x ∧ x < (nb : Int) ∧ firstE es = 0 then .pointer (some ⟨B, x.toNat * 35, none⟩) else .pointer none
def askE (nb : Nat) (x : Int) (es : List Int) : Int := if 0 ≤ x ∧ x < (nb : Int) then firstE es else 3
set_option maxRecDepth 100000 in
set_option maxHeartbeats 1000000 in
theorem ask_any (p B nb : Nat) (x : Int) (w : World) (hb : nb ≤ 64) (hp : M.RowAt w p 67 #[.slice (some ⟨B, 0, none⟩) nb nb]) (g m : Nat) (fs : Nat → Nat) (es : List Int) (hl : es.length = m) (h8 : m ≤ 8)
    (hc : ∀ j, j < m → w.cell? ⟨g, j, none⟩ = some (.func (.func (fs j)) #[] #[]))
    (hf : 0 ≤ x → x < (nb : Int) → ∀ j, j < m → Enters Try.prog (fs j) ∧ Calls Try.prog (fs j) #[.pointer (some ⟨B, x.toNat * 35, none⟩)] w fun e w' => e = .returned (.int .i64 (es.getD j 0)) ∧ w = w')
    (a : Option Addr) (ha : m ≠ 0 → a = some ⟨g, 0, none⟩) :
    Calls Try.prog 23 #[.pointer (some ⟨p, 0, none⟩), .int .i64 x, .slice a m m] w fun e w' => e = .returned (.tuple #[askP B nb x es, .int .i64 (askE nb x es)]) ∧ w = w' := by
  have c0 : w.cell? ⟨p, 0, none⟩ = some (.slice (some ⟨B, 0, none⟩) nb nb) := (hp.cell 0).trans rfl
  clear hp
  by_cases h0 : 0 ≤ x
  · by_cases h1 : x < (nb : Int)
    · have hf := hf h0 h1
      obtain ⟨k, rfl⟩ := Int.eq_ofNat_of_zero_le h0
      have hP : askP B nb (k : Nat) es = if firstE es = 0 then .pointer (some ⟨B, k * 35, none⟩) else .pointer none := by unfold askP; simp only [Int.toNat_natCast, h0, h1, true_and]
      have hE : askE nb (k : Nat) es = firstE es := by unfold askE; rw [if_pos ⟨h0, h1⟩]
      rw [hP, hE]
      simp only [Int.toNat_natCast] at hf
      obtain ⟨fe, hfe⟩ : ∃ fe, firstE es = fe := ⟨_, rfl⟩
      rw [hfe]
      have FE := Lib.hid hfe
      obtain ⟨R, hR⟩ : ∃ R, (if fe = 0 then Value.pointer (some ⟨B, k * 35, none⟩) else .pointer none) = R := ⟨_, rfl⟩
      rw [hR]
      have HR := Lib.hid hR
      have HF := Lib.hid hf; have HC := Lib.hid hc; have HA := Lib.hid ha
      have HL := Lib.hid hl
      have hb0 : decide ((k : Int) < 0) = false := by simp
      have hb1 : decide (nb ≤ k) = false := by simp; omega
      clear hf hc ha hP hE h0 hl hfe hR
      go_enter Try.func23, Try.ntmps23
      go_wp2
      go_loopw [11, 31] (fun _ i v => ∃ j : Nat, j ≤ m ∧ i = .int .i64 j ∧ Hid (∀ i, i < j → es.getD i 0 = 0) ∧ v = w) (fun _ i _ => m - (intOf i).toNat)
      case atStart => exact ⟨0, Nat.zero_le _, rfl, fun i hi => absurd hi (by omega), rfl⟩
      case round =>
        obtain ⟨j, hj, rfl, hz, rfl⟩ := hrel
        by_cases hlt : j < m
        · have cj := HC.out j hlt
          obtain ⟨en, cl⟩ := HF.out j hlt
          obtain rfl := HA.out (by omega)
          have CL := Lib.hid cl; have EN := Lib.hid en; clear cl en
          generalize fs j = f at *
          have hjl : es[j]? = some (es.getD j 0) := by rw [List.getD_eq_getElem?_getD, List.getElem?_eq_getElem (by rw [HL.out]; exact hlt)]; rfl
          have HJ := Lib.hid hjl
          generalize es.getD j 0 = e at *
          clear hjl
          by_cases he : e = 0
          · subst he
            go_wp2_with fail
            rw [EN.out, Oper.upon_enter]
            refine (CL.out).mono ?_
            rintro r w' ⟨rfl, rfl⟩
            go_wp2
            go_roundw
            case rel =>
              have hz' : Hid (∀ i, i < j + 1 → es.getD i 0 = 0) := Lib.hid (fun i hi => by
                by_cases e2 : i = j
                · subst e2; rw [List.getD_eq_getElem?_getD, HJ.out]; rfl
                · exact hz.out i (by omega))
              exact ⟨j + 1, by omega, by go_num, hz', trivial⟩
            case measure => simp [intOf]; omega
          · have hd : (e == 0) = false := by simpa using he
            have hfe := firstE_at hz.out HJ.out he
            have hq : fe = e := FE.out.symm.trans hfe
            have HQ := Lib.hid hq
            clear hfe hq
            go_wp2_with fail
            rw [EN.out, Oper.upon_enter]
            refine (CL.out).mono ?_
            rintro r w' ⟨rfl, rfl⟩
            go_wp2
            go_ret2
            exact ⟨by rw [← HR.out, HQ.out, if_neg he]; rfl, rfl⟩
        · obtain rfl : j = m := by omega
          have hfe : firstE es = 0 := firstE_zero fun e he => by
            obtain ⟨i, hi, rfl⟩ := List.mem_iff_getElem.1 he
            have := hz.out i (by rw [← HL.out]; exact hi)
            rwa [List.getD_eq_getElem?_getD, List.getElem?_eq_getElem hi] at this
          have hq : fe = 0 := FE.out.symm.trans hfe
          have HQ := Lib.hid hq
          clear hfe hq hz
          go_wp2
          go_ret2
          exact ⟨by rw [← HR.out, HQ.out, if_pos rfl]; rfl, rfl⟩
    · have hP : askP B nb x es = .pointer none := by unfold askP; rw [if_neg (by omega)]
      have hE : askE nb x es = 3 := by unfold askE; rw [if_neg (by omega)]
      rw [hP, hE]
      clear hc hf ha hP hE hl
      go_enter Try.func23, Try.ntmps23
      go_wp2
      go_ret2
      exact ⟨rfl, rfl⟩
  · have hP : askP B nb x es = .pointer none := by unfold askP; rw [if_neg (by omega)]
    have hE : askE nb x es = 3 := by unfold askE; rw [if_neg (by omega)]
    rw [hP, hE]
    clear hc hf ha hP hE hl
    go_enter Try.func23, Try.ntmps23
    go_wp2
    go_ret2
    exact ⟨rfl, rfl⟩
end Go.Proofs.Ytblbhnlmbmffkaa
