/- Whether a message may be, by the reference; the conditions are the types' own. -/
import Derived.Test.YtiilgkhndfnkgaaWiH
namespace Go.Proofs.Ytiilgkhndfnkgaa
open Go.RowKit Go.Shelf
set_option linter.unusedVariables false

/-- the letters of a kind's fields -/
def lets (k : Int) : ByteArray :=
  if k = 1 then ⟨#[97]⟩ else if k = 3 then ⟨#[105, 97, 104, 101]⟩ else if k = 4 then ⟨#[105, 104]⟩ else if k = 5 then ⟨#[105, 110]⟩ else if k = 6 then ⟨#[110, 104]⟩ else if k = 7 then ⟨#[110, 104]⟩ else if k = 9 then ⟨#[110, 105]⟩ else ⟨#[]⟩
theorem rfields_any (k : Int) (w : World) : Calls Try.prog 40 #[.int .i64 k] w fun e w' => e = .returned (.string (lets k)) ∧ w = w' := by
  by_cases q1 : k = 1
  · subst q1
    go_enter Try.func40, Try.ntmps40
    go_wp2
    go_ret
    exact ⟨rfl, rfl⟩
  have e1 : (k == 1) = false := by simpa using q1
  by_cases q3 : k = 3
  · subst q3
    go_enter Try.func40, Try.ntmps40
    go_wp2
    go_ret
    exact ⟨rfl, rfl⟩
  have e3 : (k == 3) = false := by simpa using q3
  by_cases q4 : k = 4
  · subst q4
    go_enter Try.func40, Try.ntmps40
    go_wp2
    go_ret
    exact ⟨rfl, rfl⟩
  have e4 : (k == 4) = false := by simpa using q4
  by_cases q5 : k = 5
  · subst q5
    go_enter Try.func40, Try.ntmps40
    go_wp2
    go_ret
    exact ⟨rfl, rfl⟩
  have e5 : (k == 5) = false := by simpa using q5
  by_cases q6 : k = 6
  · subst q6
    go_enter Try.func40, Try.ntmps40
    go_wp2
    go_ret
    exact ⟨rfl, rfl⟩
  have e6 : (k == 6) = false := by simpa using q6
  by_cases q7 : k = 7
  · subst q7
    go_enter Try.func40, Try.ntmps40
    go_wp2
    go_ret
    exact ⟨rfl, rfl⟩
  have e7 : (k == 7) = false := by simpa using q7
  by_cases q9 : k = 9
  · subst q9
    go_enter Try.func40, Try.ntmps40
    go_wp2
    go_ret
    exact ⟨rfl, rfl⟩
  have e9 : (k == 9) = false := by simpa using q9
  have hl : lets k = ⟨#[]⟩ := by unfold lets; rw [if_neg q1, if_neg q3, if_neg q4, if_neg q5, if_neg q6, if_neg q7, if_neg q9]
  rw [hl]
  go_enter Try.func40, Try.ntmps40
  go_wp2
  go_ret
  exact ⟨rfl, rfl⟩
def has (s : ByteArray) (c : Int) : Bool := s.data.toList.any fun x => decide ((x.toNat : Int) = c)
set_option maxRecDepth 100000 in
theorem in_any (s : ByteArray) (c : Int) (w : World) (hs : s.size ≤ 1000) : Calls Try.prog 49 #[.string s, .int .u8 c] w fun e w' => e = .returned (.bool (has s c)) ∧ w = w' := by
  obtain ⟨b, hb⟩ : ∃ b, has s c = b := ⟨_, rfl⟩
  have HB := Lib.hid hb
  have HS := Lib.hid hs
  rw [hb]
  obtain ⟨n, hn⟩ : ∃ n, s.size = n := ⟨_, rfl⟩
  have HNN := Lib.hid hn
  clear hb hs hn
  go_enter Try.func49, Try.ntmps49
  go_wp2
  go_loopg [5] n (fun m i v => ∃ k : Nat, m + k = n ∧ i = .int .i64 k ∧ v = w ∧ Hid (∀ (j : Nat) (x : UInt8), j < k → s.data.toList[j]? = some x → (x.toNat : Int) ≠ c))
  case atStart => exact ⟨0, by omega, rfl, rfl, Lib.hid (fun j x hj => absurd hj (by omega))⟩
  case round =>
    obtain ⟨k, hm, rfl, rfl, hno⟩ := hrel
    have HM := Lib.hid hm
    have hsz := HNN.out
    clear hm
    by_cases hlt : k < n
    · have hkk : k < s.size := by omega
      obtain ⟨x, hxx⟩ : ∃ x, s[k]'hkk = x := ⟨_, rfl⟩
      have hx : s.data.toList[k]? = some x := by rw [← hxx]; exact index_byte s k hkk
      have w1 : IntKind.i64.wrap ((k : Int) + 1) = (k : Int) + 1 := IntWalk.i64_in _ (by have := HS.out; omega)
      have i1 : ((k : Nat) : Int) < (s.size : Nat) := by omega
      have i2 : (0 : Int) ≤ (k : Nat) := by omega
      by_cases hc : (x.toNat : Int) = c
      · have hcb : ((x.toNat : Int) == c) = true := by simpa using hc
        have fin : true = b := by
          rw [← HB.out]; unfold has; symm
          rw [List.any_eq_true]
          exact ⟨x, List.mem_of_getElem? hx, by simpa using hc⟩
        have FIN := Lib.hid fin
        clear fin hc
        go_wp2
        go_ret
        exact ⟨by rw [← FIN.out]; rfl, rfl⟩
      · have hcb : ((x.toNat : Int) == c) = false := by simpa using hc
        have nx := Lib.hid (fun (j : Nat) (y : UInt8) (hj : j < k + 1) (hy : s.data.toList[j]? = some y) => (show (y.toNat : Int) ≠ c by
          by_cases e : j = k
          · subst e; rw [hx] at hy; cases hy; exact hc
          · exact hno.out j y (by omega) hy))
        clear hc hno
        go_wp2
        go_roundg (n - (k + 1))
        case measure => have := HM.out; omega
        case rel => exact ⟨k + 1, by have := HM.out; omega, by go_num, rfl, nx⟩
    · obtain rfl : k = n := by have := HM.out; omega
      have fin : false = b := by
        rw [← HB.out]; unfold has; symm
        rw [List.any_eq_false]
        intro x hx
        obtain ⟨j, hj⟩ := List.mem_iff_getElem?.1 hx
        have hjl : j < s.size := by
          have := (List.getElem?_eq_some_iff.1 hj).1
          simpa using this
        simpa using hno.out j x (by omega) hj
      have FIN := Lib.hid fin
      clear fin hno hlt
      go_wp2
      go_ret
      exact ⟨by rw [← FIN.out]; rfl, rfl⟩
end Go.Proofs.Ytiilgkhndfnkgaa
