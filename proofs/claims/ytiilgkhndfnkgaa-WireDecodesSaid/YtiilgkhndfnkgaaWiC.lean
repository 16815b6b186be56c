/- What the fields of a kind are, in memory; no conditions. -/
import Derived.Test.YtiilgkhndfnkgaaWiB
namespace Go.Proofs.Ytiilgkhndfnkgaa
open Go.RowKit
set_option linter.unusedVariables false

theorem FV.one {lo : Nat} {W : World} {f : Fld} {v : Value} (h : FV lo W f v) : v.oneCell' = true := by
  cases f
  all_goals first
    | (obtain ⟨a, b, rfl, _⟩ := h; rfl)
    | (have h' : v = _ := h; rw [h']; rfl)
theorem fr_of {lo : Nat} (ps : List (Fld × Value)) (hne : ps ≠ []) {W : World} (hp : ∀ p ∈ ps, FV lo W p.1 p.2) :
    FR lo (W.alloc (.cells (ps.map (·.2)).toArray 94)) (.slice (some ⟨W.heap.size, 0, none⟩) ps.length ps.length) (ps.map (·.1)) (ps.map (·.2)).toArray := by
  refine .inr ⟨W.heap.size, by simp, M.RowAt.new W 94 _, by simp, by simpa using hne, fun u hu => ?_, fun i f hi => ?_⟩
  · obtain ⟨p, hp', rfl⟩ := List.mem_map.1 (by simpa using hu : u ∈ ps.map (·.2))
    exact (hp p hp').one
  · rw [List.getElem?_map] at hi
    cases hpi : ps[i]? with
    | none => rw [hpi] at hi; cases hi
    | some p =>
      rw [hpi] at hi
      obtain rfl : p.1 = f := by simpa using hi
      refine ⟨p.2, by simp [hpi], (hp p (List.mem_of_getElem? hpi)).kept (fun g t C _ _ hr => hr.alloc _)⟩
set_option maxRecDepth 100000 in
set_option maxHeartbeats 4000000 in
theorem fields_any (k : Int) (w : World) : Calls Try.prog 43 #[.int .i64 k] w fun e w' =>
    match fieldsOf k with
    | some l => ∃ v', e = .returned (.tuple #[v', .bool true]) ∧ FL w.heap.size w' v' l ∧ Below w.heap.size w w'
    | none => e = .returned (.tuple #[.slice none 0 0, .bool false]) ∧ Below w.heap.size w w' := by
  obtain ⟨n, hn⟩ : ∃ n, w.heap.size = n := ⟨_, rfl⟩
  have n1 := num57 8 58 w
  rw [hn] at n1 ⊢
  have K0 := KB.start w
  rw [hn] at K0
  have K1 := (K0.new 3 #[.int .i64 8]).new 97 #[.func (.func 58) #[] #[]]
  rw [World.size_alloc, hn] at K1
  obtain ⟨w1, hw1⟩ : ∃ w1, (w.alloc (.cells #[.int .i64 8] 3)).alloc (.cells #[.func (.func 58) #[] #[]] 97) = w1 := ⟨_, rfl⟩
  have s1 : w1.heap.size = n + 2 := by rw [← hw1]; simp [hn]
  rw [hw1] at n1 K1
  have n2 := num57 8 59 w1
  rw [s1] at n2
  have K2 := (K1.new 3 #[.int .i64 8]).new 97 #[.func (.func 59) #[] #[]]
  rw [World.size_alloc, s1] at K2
  obtain ⟨w2, hw2⟩ : ∃ w2, (w1.alloc (.cells #[.int .i64 8] 3)).alloc (.cells #[.func (.func 59) #[] #[]] 97) = w2 := ⟨_, rfl⟩
  have s2 : w2.heap.size = n + 4 := by rw [← hw2]; simp [s1]
  rw [hw2] at n2 K2
  have n3 := num60 4 61 w2
  rw [s2] at n3
  have K3 := (K2.new 3 #[.int .i64 4]).new 100 #[.func (.func 61) #[] #[]]
  rw [World.size_alloc, s2] at K3
  obtain ⟨w3, hw3⟩ : ∃ w3, (w2.alloc (.cells #[.int .i64 4] 3)).alloc (.cells #[.func (.func 61) #[] #[]] 100) = w3 := ⟨_, rfl⟩
  have s3 : w3.heap.size = n + 6 := by rw [← hw3]; simp [s2]
  rw [hw3] at n3 K3
  have n4 := num60 2 62 w3
  rw [s3] at n4
  have K4 := (K3.new 3 #[.int .i64 2]).new 100 #[.func (.func 62) #[] #[]]
  rw [World.size_alloc, s3] at K4
  obtain ⟨w4, hw4⟩ : ∃ w4, (w3.alloc (.cells #[.int .i64 2] 3)).alloc (.cells #[.func (.func 62) #[] #[]] 100) = w4 := ⟨_, rfl⟩
  have s4 : w4.heap.size = n + 8 := by rw [← hw4]; simp [s3]
  rw [hw4] at n4 K4
  have fId : FV n w4 .id (Value.func (Fn.func 66) #[] #[.pointer (some ⟨n + 1, 0, none⟩), .pointer (some ⟨n, 0, none⟩)]) := ⟨n + 1, n, rfl, by omega, by omega, K4.row _ _ _ (by simp), K4.row _ _ _ (by simp)⟩
  have fAm : FV n w4 .amount (Value.func (Fn.func 66) #[] #[.pointer (some ⟨n + 2 + 1, 0, none⟩), .pointer (some ⟨n + 2, 0, none⟩)]) := ⟨n + 2 + 1, n + 2, rfl, by omega, by omega, K4.row _ _ _ (by simp), K4.row _ _ _ (by simp)⟩
  have fEx : FV n w4 .expiry (Value.func (Fn.func 67) #[] #[.pointer (some ⟨n + 4 + 1, 0, none⟩), .pointer (some ⟨n + 4, 0, none⟩)]) := ⟨n + 4 + 1, n + 4, rfl, by omega, by omega, K4.row _ _ _ (by simp), K4.row _ _ _ (by simp)⟩
  have fNu : FV n w4 .number (Value.func (Fn.func 67) #[] #[.pointer (some ⟨n + 6 + 1, 0, none⟩), .pointer (some ⟨n + 6, 0, none⟩)]) := ⟨n + 6 + 1, n + 6, rfl, by omega, by omega, K4.row _ _ _ (by simp), K4.row _ _ _ (by simp)⟩
  have fHa : FV n w4 .hash (.func (.func 64) #[] #[]) := rfl
  have bel := K4.below
  have HN := Lib.hid hn; have N1 := Lib.hid n1; have N2 := Lib.hid n2; have N3 := Lib.hid n3; have N4 := Lib.hid n4; have S4 := Lib.hid s4
  have BEL := Lib.hid bel
  have FID := Lib.hid fId; have FAM := Lib.hid fAm; have FEX := Lib.hid fEx; have FNU := Lib.hid fNu; have FHA := Lib.hid fHa
  clear n1 n2 n3 n4 K0 K1 K2 K3 K4 hw1 hw2 hw3 hw4 s1 s2 s3 s4 hn bel fId fAm fEx fNu fHa
  by_cases q1 : k = 1
  · subst q1
    show Calls _ _ _ _ fun e w' => ∃ v', e = .returned (.tuple #[v', .bool true]) ∧ FL n w' v' [Fld.chan, Fld.amount] ∧ Below n w w'
    have fr := fr_of (lo := n) [(Fld.amount, (Value.func (Fn.func 66) #[] #[.pointer (some ⟨n + 2 + 1, 0, none⟩), .pointer (some ⟨n + 2, 0, none⟩)]))] (by simp) (W := w4) (fun p hp => by
      simp only [List.mem_cons, List.not_mem_nil, or_false] at hp
      rcases hp with rfl
      · exact FAM.out)
    obtain ⟨W, hW⟩ : ∃ W, w4.alloc (.cells #[(Value.func (Fn.func 66) #[] #[.pointer (some ⟨n + 2 + 1, 0, none⟩), .pointer (some ⟨n + 2, 0, none⟩)])] 94) = W := ⟨_, rfl⟩
    have bW : Below n w W := by rw [← hW]; exact BEL.out.alloc (by rw [S4.out]; omega) _
    have gW : n ≤ W.heap.size := by rw [← hW]; have := S4.out; simp; omega
    simp only [List.map] at fr
    rw [hW, S4.out] at fr
    have LA := Lib.hid (list_any fr gW (by simp))
    have HW := Lib.hid hW; have BW := Lib.hid bW; have GW := Lib.hid gW
    clear fr hW bW gW
    go_enter Try.func43, Try.ntmps43
    go_wp2_with fail
    refine (N1.out).mono ?_
    rintro e w1 ⟨rfl, rfl⟩
    go_wp2_with fail
    refine (N2.out).mono ?_
    rintro e w2 ⟨rfl, rfl⟩
    go_wp2_with fail
    refine (N3.out).mono ?_
    rintro e w3 ⟨rfl, rfl⟩
    go_wp2_with fail
    refine (N4.out).mono ?_
    rintro e w4 ⟨rfl, rfl⟩
    go_wp2_with (first | (rw [S4.out, HW.out]) | fail)
    refine (LA.out).mono ?_
    rintro e w5 ⟨v5, rfl, q1, q2⟩
    have FIN := Lib.hid (And.intro q1 (BW.out.trans (q2.mono GW.out)))
    clear q1 q2
    go_wp2
    go_ret2
    exact ⟨_, rfl, FIN.out⟩
  have e1 : (k == 1) = false := by simpa using q1
  by_cases q2 : k = 2
  · subst q2
    show Calls _ _ _ _ fun e w' => ∃ v', e = .returned (.tuple #[v', .bool true]) ∧ FL n w' v' [Fld.chan] ∧ Below n w w'
    have gW : n ≤ w4.heap.size := by have := S4.out; omega
    have LA := Lib.hid (list_any (lo := n) (w := w4) (l := []) (C := #[]) (.inl ⟨rfl, rfl⟩) gW (by simp))
    have BW := BEL; have GW := Lib.hid gW
    clear gW
    go_enter Try.func43, Try.ntmps43
    go_wp2_with fail
    refine (N1.out).mono ?_
    rintro e w1 ⟨rfl, rfl⟩
    go_wp2_with fail
    refine (N2.out).mono ?_
    rintro e w2 ⟨rfl, rfl⟩
    go_wp2_with fail
    refine (N3.out).mono ?_
    rintro e w3 ⟨rfl, rfl⟩
    go_wp2_with fail
    refine (N4.out).mono ?_
    rintro e w4 ⟨rfl, rfl⟩
    go_wp2_with fail
    refine (LA.out).mono ?_
    rintro e w5 ⟨v5, rfl, q1, q2⟩
    have FIN := Lib.hid (And.intro q1 (BW.out.trans (q2.mono GW.out)))
    clear q1 q2
    go_wp2
    go_ret2
    exact ⟨_, rfl, FIN.out⟩
  have e2 : (k == 2) = false := by simpa using q2
  by_cases q8 : k = 8
  · subst q8
    show Calls _ _ _ _ fun e w' => ∃ v', e = .returned (.tuple #[v', .bool true]) ∧ FL n w' v' [Fld.chan] ∧ Below n w w'
    have gW : n ≤ w4.heap.size := by have := S4.out; omega
    have LA := Lib.hid (list_any (lo := n) (w := w4) (l := []) (C := #[]) (.inl ⟨rfl, rfl⟩) gW (by simp))
    have BW := BEL; have GW := Lib.hid gW
    clear gW
    go_enter Try.func43, Try.ntmps43
    go_wp2_with fail
    refine (N1.out).mono ?_
    rintro e w1 ⟨rfl, rfl⟩
    go_wp2_with fail
    refine (N2.out).mono ?_
    rintro e w2 ⟨rfl, rfl⟩
    go_wp2_with fail
    refine (N3.out).mono ?_
    rintro e w3 ⟨rfl, rfl⟩
    go_wp2_with fail
    refine (N4.out).mono ?_
    rintro e w4 ⟨rfl, rfl⟩
    go_wp2_with fail
    refine (LA.out).mono ?_
    rintro e w5 ⟨v5, rfl, q1, q2⟩
    have FIN := Lib.hid (And.intro q1 (BW.out.trans (q2.mono GW.out)))
    clear q1 q2
    go_wp2
    go_ret2
    exact ⟨_, rfl, FIN.out⟩
  have e8 : (k == 8) = false := by simpa using q8
  by_cases q3 : k = 3
  · subst q3
    show Calls _ _ _ _ fun e w' => ∃ v', e = .returned (.tuple #[v', .bool true]) ∧ FL n w' v' [Fld.chan, Fld.id, Fld.amount, Fld.hash, Fld.expiry] ∧ Below n w w'
    have fr := fr_of (lo := n) [(Fld.id, (Value.func (Fn.func 66) #[] #[.pointer (some ⟨n + 1, 0, none⟩), .pointer (some ⟨n, 0, none⟩)])), (Fld.amount, (Value.func (Fn.func 66) #[] #[.pointer (some ⟨n + 2 + 1, 0, none⟩), .pointer (some ⟨n + 2, 0, none⟩)])), (Fld.hash, (Value.func (Fn.func 64) #[] #[])), (Fld.expiry, (Value.func (Fn.func 67) #[] #[.pointer (some ⟨n + 4 + 1, 0, none⟩), .pointer (some ⟨n + 4, 0, none⟩)]))] (by simp) (W := w4) (fun p hp => by
      simp only [List.mem_cons, List.not_mem_nil, or_false] at hp
      rcases hp with rfl | rfl | rfl | rfl
      · exact FID.out
      · exact FAM.out
      · exact FHA.out
      · exact FEX.out)
    obtain ⟨W, hW⟩ : ∃ W, w4.alloc (.cells #[(Value.func (Fn.func 66) #[] #[.pointer (some ⟨n + 1, 0, none⟩), .pointer (some ⟨n, 0, none⟩)]), (Value.func (Fn.func 66) #[] #[.pointer (some ⟨n + 2 + 1, 0, none⟩), .pointer (some ⟨n + 2, 0, none⟩)]), (Value.func (Fn.func 64) #[] #[]), (Value.func (Fn.func 67) #[] #[.pointer (some ⟨n + 4 + 1, 0, none⟩), .pointer (some ⟨n + 4, 0, none⟩)])] 94) = W := ⟨_, rfl⟩
    have bW : Below n w W := by rw [← hW]; exact BEL.out.alloc (by rw [S4.out]; omega) _
    have gW : n ≤ W.heap.size := by rw [← hW]; have := S4.out; simp; omega
    simp only [List.map] at fr
    rw [hW, S4.out] at fr
    have LA := Lib.hid (list_any fr gW (by simp))
    have HW := Lib.hid hW; have BW := Lib.hid bW; have GW := Lib.hid gW
    clear fr hW bW gW
    go_enter Try.func43, Try.ntmps43
    go_wp2_with fail
    refine (N1.out).mono ?_
    rintro e w1 ⟨rfl, rfl⟩
    go_wp2_with fail
    refine (N2.out).mono ?_
    rintro e w2 ⟨rfl, rfl⟩
    go_wp2_with fail
    refine (N3.out).mono ?_
    rintro e w3 ⟨rfl, rfl⟩
    go_wp2_with fail
    refine (N4.out).mono ?_
    rintro e w4 ⟨rfl, rfl⟩
    go_wp2_with (first | (rw [S4.out, HW.out]) | fail)
    refine (LA.out).mono ?_
    rintro e w5 ⟨v5, rfl, q1, q2⟩
    have FIN := Lib.hid (And.intro q1 (BW.out.trans (q2.mono GW.out)))
    clear q1 q2
    go_wp2
    go_ret2
    exact ⟨_, rfl, FIN.out⟩
  have e3 : (k == 3) = false := by simpa using q3
  by_cases q4 : k = 4
  · subst q4
    show Calls _ _ _ _ fun e w' => ∃ v', e = .returned (.tuple #[v', .bool true]) ∧ FL n w' v' [Fld.chan, Fld.id, Fld.hash] ∧ Below n w w'
    have fr := fr_of (lo := n) [(Fld.id, (Value.func (Fn.func 66) #[] #[.pointer (some ⟨n + 1, 0, none⟩), .pointer (some ⟨n, 0, none⟩)])), (Fld.hash, (Value.func (Fn.func 64) #[] #[]))] (by simp) (W := w4) (fun p hp => by
      simp only [List.mem_cons, List.not_mem_nil, or_false] at hp
      rcases hp with rfl | rfl
      · exact FID.out
      · exact FHA.out)
    obtain ⟨W, hW⟩ : ∃ W, w4.alloc (.cells #[(Value.func (Fn.func 66) #[] #[.pointer (some ⟨n + 1, 0, none⟩), .pointer (some ⟨n, 0, none⟩)]), (Value.func (Fn.func 64) #[] #[])] 94) = W := ⟨_, rfl⟩
    have bW : Below n w W := by rw [← hW]; exact BEL.out.alloc (by rw [S4.out]; omega) _
    have gW : n ≤ W.heap.size := by rw [← hW]; have := S4.out; simp; omega
    simp only [List.map] at fr
    rw [hW, S4.out] at fr
    have LA := Lib.hid (list_any fr gW (by simp))
    have HW := Lib.hid hW; have BW := Lib.hid bW; have GW := Lib.hid gW
    clear fr hW bW gW
    go_enter Try.func43, Try.ntmps43
    go_wp2_with fail
    refine (N1.out).mono ?_
    rintro e w1 ⟨rfl, rfl⟩
    go_wp2_with fail
    refine (N2.out).mono ?_
    rintro e w2 ⟨rfl, rfl⟩
    go_wp2_with fail
    refine (N3.out).mono ?_
    rintro e w3 ⟨rfl, rfl⟩
    go_wp2_with fail
    refine (N4.out).mono ?_
    rintro e w4 ⟨rfl, rfl⟩
    go_wp2_with (first | (rw [S4.out, HW.out]) | fail)
    refine (LA.out).mono ?_
    rintro e w5 ⟨v5, rfl, q1, q2⟩
    have FIN := Lib.hid (And.intro q1 (BW.out.trans (q2.mono GW.out)))
    clear q1 q2
    go_wp2
    go_ret2
    exact ⟨_, rfl, FIN.out⟩
  have e4 : (k == 4) = false := by simpa using q4
  by_cases q5 : k = 5
  · subst q5
    show Calls _ _ _ _ fun e w' => ∃ v', e = .returned (.tuple #[v', .bool true]) ∧ FL n w' v' [Fld.chan, Fld.id, Fld.number] ∧ Below n w w'
    have fr := fr_of (lo := n) [(Fld.id, (Value.func (Fn.func 66) #[] #[.pointer (some ⟨n + 1, 0, none⟩), .pointer (some ⟨n, 0, none⟩)])), (Fld.number, (Value.func (Fn.func 67) #[] #[.pointer (some ⟨n + 6 + 1, 0, none⟩), .pointer (some ⟨n + 6, 0, none⟩)]))] (by simp) (W := w4) (fun p hp => by
      simp only [List.mem_cons, List.not_mem_nil, or_false] at hp
      rcases hp with rfl | rfl
      · exact FID.out
      · exact FNU.out)
    obtain ⟨W, hW⟩ : ∃ W, w4.alloc (.cells #[(Value.func (Fn.func 66) #[] #[.pointer (some ⟨n + 1, 0, none⟩), .pointer (some ⟨n, 0, none⟩)]), (Value.func (Fn.func 67) #[] #[.pointer (some ⟨n + 6 + 1, 0, none⟩), .pointer (some ⟨n + 6, 0, none⟩)])] 94) = W := ⟨_, rfl⟩
    have bW : Below n w W := by rw [← hW]; exact BEL.out.alloc (by rw [S4.out]; omega) _
    have gW : n ≤ W.heap.size := by rw [← hW]; have := S4.out; simp; omega
    simp only [List.map] at fr
    rw [hW, S4.out] at fr
    have LA := Lib.hid (list_any fr gW (by simp))
    have HW := Lib.hid hW; have BW := Lib.hid bW; have GW := Lib.hid gW
    clear fr hW bW gW
    go_enter Try.func43, Try.ntmps43
    go_wp2_with fail
    refine (N1.out).mono ?_
    rintro e w1 ⟨rfl, rfl⟩
    go_wp2_with fail
    refine (N2.out).mono ?_
    rintro e w2 ⟨rfl, rfl⟩
    go_wp2_with fail
    refine (N3.out).mono ?_
    rintro e w3 ⟨rfl, rfl⟩
    go_wp2_with fail
    refine (N4.out).mono ?_
    rintro e w4 ⟨rfl, rfl⟩
    go_wp2_with (first | (rw [S4.out, HW.out]) | fail)
    refine (LA.out).mono ?_
    rintro e w5 ⟨v5, rfl, q1, q2⟩
    have FIN := Lib.hid (And.intro q1 (BW.out.trans (q2.mono GW.out)))
    clear q1 q2
    go_wp2
    go_ret2
    exact ⟨_, rfl, FIN.out⟩
  have e5 : (k == 5) = false := by simpa using q5
  by_cases q6 : k = 6
  · subst q6
    show Calls _ _ _ _ fun e w' => ∃ v', e = .returned (.tuple #[v', .bool true]) ∧ FL n w' v' [Fld.chan, Fld.number, Fld.hash] ∧ Below n w w'
    have fr := fr_of (lo := n) [(Fld.number, (Value.func (Fn.func 67) #[] #[.pointer (some ⟨n + 6 + 1, 0, none⟩), .pointer (some ⟨n + 6, 0, none⟩)])), (Fld.hash, (Value.func (Fn.func 64) #[] #[]))] (by simp) (W := w4) (fun p hp => by
      simp only [List.mem_cons, List.not_mem_nil, or_false] at hp
      rcases hp with rfl | rfl
      · exact FNU.out
      · exact FHA.out)
    obtain ⟨W, hW⟩ : ∃ W, w4.alloc (.cells #[(Value.func (Fn.func 67) #[] #[.pointer (some ⟨n + 6 + 1, 0, none⟩), .pointer (some ⟨n + 6, 0, none⟩)]), (Value.func (Fn.func 64) #[] #[])] 94) = W := ⟨_, rfl⟩
    have bW : Below n w W := by rw [← hW]; exact BEL.out.alloc (by rw [S4.out]; omega) _
    have gW : n ≤ W.heap.size := by rw [← hW]; have := S4.out; simp; omega
    simp only [List.map] at fr
    rw [hW, S4.out] at fr
    have LA := Lib.hid (list_any fr gW (by simp))
    have HW := Lib.hid hW; have BW := Lib.hid bW; have GW := Lib.hid gW
    clear fr hW bW gW
    go_enter Try.func43, Try.ntmps43
    go_wp2_with fail
    refine (N1.out).mono ?_
    rintro e w1 ⟨rfl, rfl⟩
    go_wp2_with fail
    refine (N2.out).mono ?_
    rintro e w2 ⟨rfl, rfl⟩
    go_wp2_with fail
    refine (N3.out).mono ?_
    rintro e w3 ⟨rfl, rfl⟩
    go_wp2_with fail
    refine (N4.out).mono ?_
    rintro e w4 ⟨rfl, rfl⟩
    go_wp2_with (first | (rw [S4.out, HW.out]) | fail)
    refine (LA.out).mono ?_
    rintro e w5 ⟨v5, rfl, q1, q2⟩
    have FIN := Lib.hid (And.intro q1 (BW.out.trans (q2.mono GW.out)))
    clear q1 q2
    go_wp2
    go_ret2
    exact ⟨_, rfl, FIN.out⟩
  have e6 : (k == 6) = false := by simpa using q6
  by_cases q7 : k = 7
  · subst q7
    show Calls _ _ _ _ fun e w' => ∃ v', e = .returned (.tuple #[v', .bool true]) ∧ FL n w' v' [Fld.chan, Fld.number, Fld.hash] ∧ Below n w w'
    have fr := fr_of (lo := n) [(Fld.number, (Value.func (Fn.func 67) #[] #[.pointer (some ⟨n + 6 + 1, 0, none⟩), .pointer (some ⟨n + 6, 0, none⟩)])), (Fld.hash, (Value.func (Fn.func 64) #[] #[]))] (by simp) (W := w4) (fun p hp => by
      simp only [List.mem_cons, List.not_mem_nil, or_false] at hp
      rcases hp with rfl | rfl
      · exact FNU.out
      · exact FHA.out)
    obtain ⟨W, hW⟩ : ∃ W, w4.alloc (.cells #[(Value.func (Fn.func 67) #[] #[.pointer (some ⟨n + 6 + 1, 0, none⟩), .pointer (some ⟨n + 6, 0, none⟩)]), (Value.func (Fn.func 64) #[] #[])] 94) = W := ⟨_, rfl⟩
    have bW : Below n w W := by rw [← hW]; exact BEL.out.alloc (by rw [S4.out]; omega) _
    have gW : n ≤ W.heap.size := by rw [← hW]; have := S4.out; simp; omega
    simp only [List.map] at fr
    rw [hW, S4.out] at fr
    have LA := Lib.hid (list_any fr gW (by simp))
    have HW := Lib.hid hW; have BW := Lib.hid bW; have GW := Lib.hid gW
    clear fr hW bW gW
    go_enter Try.func43, Try.ntmps43
    go_wp2_with fail
    refine (N1.out).mono ?_
    rintro e w1 ⟨rfl, rfl⟩
    go_wp2_with fail
    refine (N2.out).mono ?_
    rintro e w2 ⟨rfl, rfl⟩
    go_wp2_with fail
    refine (N3.out).mono ?_
    rintro e w3 ⟨rfl, rfl⟩
    go_wp2_with fail
    refine (N4.out).mono ?_
    rintro e w4 ⟨rfl, rfl⟩
    go_wp2_with (first | (rw [S4.out, HW.out]) | fail)
    refine (LA.out).mono ?_
    rintro e w5 ⟨v5, rfl, q1, q2⟩
    have FIN := Lib.hid (And.intro q1 (BW.out.trans (q2.mono GW.out)))
    clear q1 q2
    go_wp2
    go_ret2
    exact ⟨_, rfl, FIN.out⟩
  have e7 : (k == 7) = false := by simpa using q7
  by_cases q9 : k = 9
  · subst q9
    show Calls _ _ _ _ fun e w' => ∃ v', e = .returned (.tuple #[v', .bool true]) ∧ FL n w' v' [Fld.chan, Fld.number, Fld.id] ∧ Below n w w'
    have fr := fr_of (lo := n) [(Fld.number, (Value.func (Fn.func 67) #[] #[.pointer (some ⟨n + 6 + 1, 0, none⟩), .pointer (some ⟨n + 6, 0, none⟩)])), (Fld.id, (Value.func (Fn.func 66) #[] #[.pointer (some ⟨n + 1, 0, none⟩), .pointer (some ⟨n, 0, none⟩)]))] (by simp) (W := w4) (fun p hp => by
      simp only [List.mem_cons, List.not_mem_nil, or_false] at hp
      rcases hp with rfl | rfl
      · exact FNU.out
      · exact FID.out)
    obtain ⟨W, hW⟩ : ∃ W, w4.alloc (.cells #[(Value.func (Fn.func 67) #[] #[.pointer (some ⟨n + 6 + 1, 0, none⟩), .pointer (some ⟨n + 6, 0, none⟩)]), (Value.func (Fn.func 66) #[] #[.pointer (some ⟨n + 1, 0, none⟩), .pointer (some ⟨n, 0, none⟩)])] 94) = W := ⟨_, rfl⟩
    have bW : Below n w W := by rw [← hW]; exact BEL.out.alloc (by rw [S4.out]; omega) _
    have gW : n ≤ W.heap.size := by rw [← hW]; have := S4.out; simp; omega
    simp only [List.map] at fr
    rw [hW, S4.out] at fr
    have LA := Lib.hid (list_any fr gW (by simp))
    have HW := Lib.hid hW; have BW := Lib.hid bW; have GW := Lib.hid gW
    clear fr hW bW gW
    go_enter Try.func43, Try.ntmps43
    go_wp2_with fail
    refine (N1.out).mono ?_
    rintro e w1 ⟨rfl, rfl⟩
    go_wp2_with fail
    refine (N2.out).mono ?_
    rintro e w2 ⟨rfl, rfl⟩
    go_wp2_with fail
    refine (N3.out).mono ?_
    rintro e w3 ⟨rfl, rfl⟩
    go_wp2_with fail
    refine (N4.out).mono ?_
    rintro e w4 ⟨rfl, rfl⟩
    go_wp2_with (first | (rw [S4.out, HW.out]) | fail)
    refine (LA.out).mono ?_
    rintro e w5 ⟨v5, rfl, q1, q2⟩
    have FIN := Lib.hid (And.intro q1 (BW.out.trans (q2.mono GW.out)))
    clear q1 q2
    go_wp2
    go_ret2
    exact ⟨_, rfl, FIN.out⟩
  have e9 : (k == 9) = false := by simpa using q9
  have hno : fieldsOf k = none := by unfold fieldsOf; rw [if_neg q1, if_neg q2, if_neg q8, if_neg q3, if_neg q4, if_neg q5, if_neg q6, if_neg q7, if_neg q9]
  rw [hno]
  simp only
  go_enter Try.func43, Try.ntmps43
  go_wp2_with fail
  refine (N1.out).mono ?_
  rintro e w1 ⟨rfl, rfl⟩
  go_wp2_with fail
  refine (N2.out).mono ?_
  rintro e w2 ⟨rfl, rfl⟩
  go_wp2_with fail
  refine (N3.out).mono ?_
  rintro e w3 ⟨rfl, rfl⟩
  go_wp2_with fail
  refine (N4.out).mono ?_
  rintro e w4 ⟨rfl, rfl⟩
  go_wp2
  go_ret2
  exact ⟨rfl, BEL.out⟩
end Go.Proofs.Ytiilgkhndfnkgaa
