/- What a journal's write, Append, Bytes and Len do; the conditions are that the journal is known, and the lengths. -/
import Derived.Test.YtiilgkhndfnkgaaDoorJoB
namespace Go.Proofs.YtiilgkhndfnkgaaDoor
open Oc
open Go.RowKit
set_option linter.unusedVariables false
section
variable {n : Nat} {w0 v v' : World} {a jb m : Nat} {B : ByteArray} {X X' : Ths}
theorem Jn.c2 (h : Jn n w0 a jb m B X v) : v.cell? ⟨jb, 2, none⟩ = some (.int .i64 (m : Nat)) := by
  obtain ⟨p, buf, _, _, tw⟩ := h.ex; exact ((tw.row List.mem_cons_self).cell 2).trans rfl
theorem Jn.c3 (h : Jn n w0 a jb m B X v) : v.cell? ⟨jb, 3, none⟩ = some (.bool false) := by
  obtain ⟨p, buf, _, _, tw⟩ := h.ex; exact ((tw.row List.mem_cons_self).cell 3).trans rfl
theorem Jn.c5 (h : Jn n w0 a jb m B X v) : v.cell? ⟨jb, 5, none⟩ = some (.bool false) := by
  obtain ⟨p, buf, _, _, tw⟩ := h.ex; exact ((tw.row List.mem_cons_self).cell 5).trans rfl
theorem Jn.fr (h : Jn n w0 a jb m B X v) (i : Nat) : v.frozen? ⟨jb, i, none⟩ = false := by
  obtain ⟨p, buf, _, _, tw⟩ := h.ex; exact (tw.row List.mem_cons_self).frozen i
theorem Jn.bel (h : Jn n w0 a jb m B X v) : Below n w0 v := by
  obtain ⟨p, buf, _, _, tw⟩ := h.ex; exact tw.bel
theorem Jn.ge (h : Jn n w0 a jb m B X v) : n ≤ v.heap.size := by
  obtain ⟨p, buf, _, _, tw⟩ := h.ex; exact tw.ge
theorem Jn.same (h : Jn n w0 a jb m B X v) (hb : Below v.heap.size v v') : Jn n w0 a jb m B X v' := by
  obtain ⟨p, buf, hp, hz, tw⟩ := h.ex; exact ⟨⟨p, buf, hp, hz, tw.same hb⟩, h.n1, h.n2⟩
theorem Jn.many (h : Jn n w0 a jb m B X v) (k : Nat) : Jn n w0 a jb k B X (v.setCell ⟨jb, 2, none⟩ (.int .i64 (k : Nat))) := by
  obtain ⟨p, buf, hp, hz, tw⟩ := h.ex
  exact ⟨⟨p, buf, hp, hz, tw.setCell (h.n1.cons (by omega)) 2 (.int .i64 (k : Nat))⟩, h.n1, h.n2⟩
theorem Jn.rest (h : Jn n w0 a jb m B X v) : TW n w0 X v := by
  obtain ⟨p, buf, _, _, tw⟩ := h.ex; exact tw.sub (fun x hx => List.mem_cons_of_mem _ (List.mem_cons_of_mem _ hx))
set_option maxHeartbeats 1000000 in
theorem write_any (h : Jn n w0 a jb m B X v) (s : ByteArray) (hs : 0 < s.size) (hb : B.size + s.size ≤ 1000000000) :
    Calls Tryd.prog 16 #[.pointer (some ⟨jb, 0, none⟩), .string s] v fun e v' => e = .returned (.bool true) ∧ Jn n w0 a jb m (B ++ s) X v' := by
  have c3 := h.c3
  have WS := Lib.hid (ws_any h s hs hb)
  clear h hs hb
  go_enter Tryd.func16, Tryd.ntmps16
  go_wp2_with fail
  refine (WS.out).mono ?_
  rintro e v1 ⟨⟨u, rfl⟩, j1⟩
  have J1 := Lib.hid j1
  clear j1
  go_wp2
  go_ret
  exact ⟨rfl, J1.out⟩
theorem bytes_of_journal (h : Jn n w0 a jb m B X v) (hb : B.size ≤ 1000000000) :
    Calls Tryd.prog 9 #[.pointer (some ⟨jb, 0, none⟩)] v fun e v' => e = .returned (.string B) ∧ Jn n w0 a jb m B X v' := by
  have WS := Lib.hid (str_any h hb)
  clear h
  go_enter Tryd.func9, Tryd.ntmps9
  go_wp2_with fail
  refine (WS.out).mono ?_
  rintro e v1 ⟨rfl, j1⟩
  have J1 := Lib.hid j1
  clear j1
  go_wp2
  go_ret
  exact ⟨rfl, J1.out⟩
theorem len_of_journal (h : Jn n w0 a jb m B X v) :
    Calls Tryd.prog 10 #[.pointer (some ⟨jb, 0, none⟩)] v fun e v' => e = .returned (.int .i64 (m : Nat)) ∧ v = v' := by
  have c2 := h.c2
  clear h
  go_enter Tryd.func10, Tryd.ntmps10
  go_wp2
  go_ret
  exact ⟨rfl, rfl⟩
set_option maxHeartbeats 2000000 in
set_option maxRecDepth 100000 in
theorem append_any (ht : Tabs w0) (h1n : 1 < n) (h : Jn n w0 a jb m B X v) {c k cp : Nat} {ad : Option Addr} (L : List ByteArray) (hk : L.length = k) (hm : (c, .own 9 1 (.slice ad k cp) k (L.map .string)) ∈ X)
    (hL : ∀ t ∈ L, t.size ≤ 1024) (hmk : m + k ≤ 1000000) (hb : B.size + 1038 * k ≤ 1000000000) :
    Calls Tryd.prog 8 #[.pointer (some ⟨jb, 0, none⟩), .slice ad k cp] v fun e v' => e = .returned (.int .i64 0) ∧ Jn n w0 a jb (m + k) (B ++ rcds m L) X v' := by
  have HT := Lib.hid ht; have H1 := Lib.hid h1n; have J0 := Lib.hid h; have HK := Lib.hid hk; have HM := Lib.hid hm; have HL := Lib.hid hL; have HB := Lib.hid hb; have HMK := Lib.hid hmk
  have e0 : B ++ rcds m (L.take 0) = B := by simp [rcds]
  have J00 : Hid (Jn n w0 a jb (m + 0) (B ++ rcds m (L.take 0)) X v) := Lib.hid (by rw [e0]; exact h)
  have c5 := h.c5
  clear ht h1n h hk hm hL hb hmk e0
  go_enter Tryd.func8, Tryd.ntmps8
  go_wp2
  go_loopg [13] k (fun g i u => ∃ j : Nat, g + j = k ∧ i = .int .i64 j ∧ v = u)
  case atStart => exact ⟨0, by omega, rfl, rfl⟩
  case round =>
    obtain ⟨j, hg, rfl, rfl⟩ := hrel
    have HG := Lib.hid hg
    clear hg
    by_cases hlt : j < k
    · have hj : j < L.length := by rw [HK.out]; exact hlt
      obtain ⟨g, rfl, hc⟩ := J0.out.rest.cellOf HM.out rfl (j := j) (y := .string L[j]) (by simp [hj])
      have hsz : L[j].size ≤ 1024 := HL.out _ (List.getElem_mem hj)
      have HREL := Lib.hid (show k - (j + 1) + (j + 1) = k by omega)
      have HMEA := Lib.hid (show k - (j + 1) < gk by have := HG.out; omega)
      have wj : IntKind.i64.wrap ((j : Int) + 1) = ((j + 1 : Nat) : Int) := by have := HMK.out; rw [IntKind.wrap_i64]; omega
      generalize L[j] = t at *
      clear hj
      go_wp2
      go_roundg (k - (j + 1))
      case rel => exact ⟨j + 1, HREL.out, by first | rfl | go_num, rfl⟩
      case measure => exact HMEA.out
    · have hjk : j = k := by have := HG.out; omega
      subst hjk
      clear hlt HG
      go_wp2
      go_loopg [27] j (fun g i u => ∃ q : Nat, g + q = j ∧ i = .int .i64 q ∧ Jn n w0 a jb (m + q) (B ++ rcds m (L.take q)) X u)
      case atStart => exact ⟨0, by omega, rfl, J00.out⟩
      case round =>
        obtain ⟨q, hg, rfl, jq⟩ := hrel
        have HG := Lib.hid hg
        clear hg J00
        by_cases hlt : q < j
        · have hj : q < L.length := by rw [HK.out]; exact hlt
          obtain ⟨g, rfl, hc⟩ := jq.rest.cellOf HM.out rfl (j := q) (y := .string L[q]) (by simp [hj])
          have hsz : L[q].size ≤ 1024 := HL.out _ (List.getElem_mem hj)
          obtain ⟨M, hM⟩ : ∃ M, m + q = M := ⟨_, rfl⟩
          have eq1 : rcds m (L.take q) ++ rcd M L[q] = rcds m (L.take (q + 1)) := by
            rw [List.take_succ_eq_append_getElem hj, rcds_snoc, List.length_take, Nat.min_eq_left (by omega), hM]
          have hBq : (B ++ rcds m (L.take q)).size + (rcd M L[q]).size ≤ 1000000000 := by
            have h1 := rcds_le (L.take q) m (fun x hx => HL.out x (List.mem_of_mem_take hx))
            rw [List.length_take, Nat.min_eq_left (by omega)] at h1
            have h2 := HB.out
            rw [ByteArray.size_append, rcd_size]; omega
          have hM1 : M ≤ 1000000 := by have := HMK.out; omega
          have PU := Lib.hid (fun u (hb : Below n w0 u) => put_any M L[q] u (HT.out.below hb H1.out) (by omega) hsz)
          rw [hM] at jq
          have c2 := jq.c2
          have WR := Lib.hid (fun u (h : Jn n w0 a jb M (B ++ rcds m (L.take q)) X u) => write_any h (rcd M L[q]) (by rw [rcd_size]; omega) hBq)
          have EQ := Lib.hid (show B ++ rcds m (L.take q) ++ rcd M L[q] = B ++ rcds m (L.take (q + 1)) by rw [ByteArray.append_assoc, eq1])
          have JQ := Lib.hid jq
          have uw : IntKind.u64.wrap (M : Int) = (M : Int) := by rw [IntKind.wrap_u64]; omega
          have w1 : IntKind.i64.wrap ((M : Int) + 1) = ((M + 1 : Nat) : Int) := by rw [IntKind.wrap_i64]; omega
          have HMM := Lib.hid hM
          have wj : IntKind.i64.wrap ((q : Int) + 1) = ((q + 1 : Nat) : Int) := by have := HMK.out; rw [IntKind.wrap_i64]; omega
          have HREL := Lib.hid (show j - (q + 1) + (q + 1) = j by omega)
          have HMEA := Lib.hid (show j - (q + 1) < gk by have := HG.out; omega)
          clear hBq eq1 jq hsz hM hM1
          generalize B ++ rcds m (L.take q) = Bq at *
          generalize rcd M L[q] = R at *
          generalize L[q] = t at *
          clear hj
          go_wp2_with fail
          refine (PU.out _ JQ.out.bel).mono ?_
          rintro e v1 ⟨rfl, b1⟩
          have j1 := JQ.out.same b1
          clear b1
          go_wp2_with fail
          refine (WR.out _ j1).mono ?_
          rintro e v2 ⟨rfl, j2⟩
          have c22 := j2.c2
          have f22 := j2.fr 2
          have j3 := j2.many (M + 1)
          rw [EQ.out] at j3
          have J3 := Lib.hid j3
          clear j1 j2 j3
          go_wp2
          go_roundg (j - (q + 1))
          case rel => exact ⟨q + 1, HREL.out, by first | rfl | go_num, by have := HMM.out; rw [show m + (q + 1) = M + 1 by omega]; exact J3.out⟩
          case measure => exact HMEA.out
        · have hqj : q = j := by have := HG.out; omega
          subst hqj
          have eL : L.take q = L := List.take_of_length_le (by rw [HK.out]; omega)
          rw [eL] at jq
          have JQ := Lib.hid jq
          clear hlt HG jq eL
          go_wp2
          go_ret
          exact ⟨rfl, JQ.out⟩
end
end Go.Proofs.YtiilgkhndfnkgaaDoor
