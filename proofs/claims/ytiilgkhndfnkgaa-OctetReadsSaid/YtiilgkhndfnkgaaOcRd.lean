/- The walk of the law OctetReads over the contracts: it returns true; the conditions are the ranges of the kinds. -/
import Derived.Test.YtiilgkhndfnkgaaOcXh
import Derived.Test.YtiilgkhndfnkgaaOcWr2
namespace Go.Proofs.Ytiilgkhndfnkgaa
open Go.RowKit
set_option linter.unusedVariables false

theorem xhash_any (r : Addr) (s : ByteArray) (w : World) (h : At w r s) (hs : s.size ≤ 4611686018427387904) :
    Calls Try.prog 28 #[.pointer (some r)] w fun e w' => e = .returned (.tuple #[hashV (rhH s), .int .i64 (rhE s)]) ∧ Below w.heap.size (w.setCell r (.string (rhS s))) w' := by
  unfold rhH rhE rhS
  by_cases h1 : s.size < 32
  · rw [if_pos h1, if_pos h1, if_pos h1]; exact xhash_short r s w h h1
  · rw [if_neg h1, if_neg h1, if_neg h1]; exact xhash_ok r s w h hs (by omega)

/-- octet's reader lies in block g, the reference's in q, with the same left -/
structure IR (n g q : Nat) (w : World) (S T : ByteArray) (v : World) : Prop where
  ng : n ≤ g
  gq : g < q
  atg : At v ⟨g, 0, none⟩ S
  atq : At v ⟨q, 0, none⟩ T
  below : Below n w v
section
variable {n g q : Nat} {w v v' : World} {S T S' T' : ByteArray}
theorem IR.lt (h : IR n g q w S T v) : q < v.heap.size := World.block_lt_of_cell? v _ h.atq.cell
theorem IR.same (h : IR n g q w S T v) (hb : Below v.heap.size v v') : IR n g q w S T v' :=
  ⟨h.ng, h.gq, h.atg.below hb (by have := h.lt; have := h.gq; show g < _; omega), h.atq.below hb h.lt, h.below.trans (hb.mono (by have := h.lt; have := h.ng; have := h.gq; omega))⟩
theorem IR.callg (h : IR n g q w S T v) (hb : Below v.heap.size (v.setCell ⟨g, 0, none⟩ (.string S')) v') : IR n g q w S' T v' :=
  ⟨h.ng, h.gq, h.atg.written hb (by have := h.lt; have := h.gq; show g < _; omega), h.atq.writer hb h.lt (by have := h.gq; show g ≠ q; omega), below_own h.below h.ng (by have := h.lt; have := h.ng; have := h.gq; omega) hb⟩
theorem IR.callq (h : IR n g q w S T v) (hb : Below v.heap.size (v.setCell ⟨q, 0, none⟩ (.string T')) v') : IR n g q w S T' v' :=
  ⟨h.ng, h.gq, h.atg.writer hb (by have := h.lt; have := h.gq; show g < _; omega) (by have := h.gq; show q ≠ g; omega), h.atq.written hb h.lt, below_own h.below (by have := h.gq; have := h.ng; show n ≤ q; omega) (by have := h.lt; have := h.ng; have := h.gq; omega) hb⟩
end
theorem rdS_err (s : ByteArray) (wd : Int) : rdE s wd = 0 ∨ rdS s wd = s := by
  unfold rdE rdS
  by_cases h1 : wd < 1 ∨ 8 < wd
  · right; rw [if_pos (by omega)]
  · by_cases h2 : (s.size : Int) < wd
    · right; rw [if_pos (by omega)]
    · left; rw [if_neg h1, if_neg h2]
theorem rhS_err (s : ByteArray) : rhE s = 0 ∨ rhS s = s := by
  unfold rhE rhS; by_cases h : s.size < 32
  · right; rw [if_pos h]
  · left; rw [if_neg h]
theorem rtS_err (s : ByteArray) : rtE s = 0 ∨ rtS s = s := by
  by_cases h : s.size = 0 ∨ 64 < txL s ∨ s.size < 1 + txL s
  · right; exact rtS_bad h
  · left; unfold rtE; rw [if_neg (by omega), if_neg (by omega), if_neg (by omega)]
theorem rtS_le (s : ByteArray) : (rtS s).size ≤ s.size := by
  unfold rtS; split
  · exact Nat.le_refl _
  · simp
theorem rhH_len (s : ByteArray) : (rhH s).length = 32 := by
  unfold rhH; split
  · simp
  · simp [bytesOf]; omega

set_option maxRecDepth 100000 in
set_option maxHeartbeats 4000000 in
theorem reads_walk (s : ByteArray) (A : Option Addr) (cap : Nat) (l : List Item) (w : World) (hlen : l.length ≤ maxLen) (hsz : s.size ≤ maxLen) (hsl : RowK.SlAt w 36 Item.cells A l) (hok : ∀ x ∈ l, x.ok) :
    Calls Try.prog 6 #[.string s, .slice A l.length cap] w (Fine w) := by
  unfold maxLen at hlen hsz
  obtain ⟨n, hn⟩ : ∃ n, w.heap.size = n := ⟨_, rfl⟩
  obtain ⟨len, hl⟩ : ∃ len, l.length = len := ⟨_, rfl⟩
  rw [hl] at hlen ⊢
  have HN := Lib.hid hn; have HL := Lib.hid hl
  clear hn hl
  by_cases hss : 1000 < s.size
  · go_enter Try.func6, Try.ntmps6
    go_wp2_with fail
    refine (shown_any _).mono ?_
    rintro e v1 ⟨rfl, g1⟩
    go_wp2
    go_ret
    exact ⟨rfl, g1⟩
  by_cases h100 : 100 < len
  · go_enter Try.func6, Try.ntmps6
    go_wp2_with fail
    refine (shown_any _).mono ?_
    rintro e v1 ⟨rfl, g1⟩
    go_wp2
    go_ret
    exact ⟨rfl, g1⟩
  · go_enter Try.func6, Try.ntmps6
    go_wp2_with fail
    refine (shown_any _).mono ?_
    rintro e v1 ⟨rfl, g1⟩
    go_wp2_with fail
    refine (new_any _ v1).mono ?_
    rintro e v2 ⟨rfl, rfl⟩
    have i0 : IR n v1.heap.size (v1.heap.size + 1) w s s ((v1.alloc (.cells #[.string s] 77)).alloc (.cells #[.string s] 51)) := by
      have := g1.size; have := HN.out
      have hb : Below n w v1 := HN.out ▸ g1
      refine ⟨by omega, by omega, (at_new v1 s 77).below ((Below.refl _ _).alloc (Nat.le_refl _) _) (by simp), ?_, (hb.alloc (by omega) _).alloc (by simp; omega) _⟩
      have := at_new (v1.alloc (.cells #[.string s] 77)) s 51
      rw [show (v1.alloc (.cells #[.string s] 77)).heap.size = v1.heap.size + 1 by simp] at this
      exact this
    go_wp2
    generalize (v1.alloc (.cells #[.string s] 77)).alloc (.cells #[.string s] 51) = v2 at *
    generalize v1.heap.size = g at *
    generalize g + 1 = q at *
    clear g1
    have i00 : ∃ S : ByteArray, S.size ≤ 1000 ∧ IR n g q w S S v2 := ⟨s, by omega, i0⟩
    clear i0
    go_loopw [7] (fun i wr => ∃ (k : Nat), k ≤ len ∧ i = .int .i64 k ∧ ∃ S : ByteArray, S.size ≤ 1000 ∧ IR n g q w S S wr) (fun i _ => len - (intOf i).toNat)
    case atStart => exact ⟨0, by omega, rfl, i00⟩
    case round =>
      clear i00
      obtain ⟨k, hk, rfl, S, hS, iw⟩ := hrel
      by_cases hlt : k < len
      · obtain ⟨x, hx⟩ : ∃ x, l[k]? = some x := ⟨_, List.getElem?_eq_getElem (by rw [HL.out]; exact hlt)⟩
        have xo := hok x (List.mem_of_getElem? hx)
        obtain ⟨b, off, hA, hb, hcells⟩ := item_at hsl hx HN.out
        subst hA
        have hc := hcells wr iw.below
        have c0 := hc.1
        have c1 := hc.2.1
        have HC := Lib.hid hcells
        clear hcells hc hsl
        go_wp2_with fail
        refine (left_any _ _ _ iw.atg).mono ?_
        rintro e w1 ⟨rfl, rfl⟩
        by_cases hk0 : x.kind = 0
        · rw [hk0] at c0
          have n1 := fun w' h => rdnum_any ⟨g, 0, none⟩ S x.width w' h (by omega)
          have n2 := fun w' h => xnum_any ⟨q, 0, none⟩ S x.width w' h (by omega)
          have hE := rdS_err S x.width
          have hle := rdS_le S x.width
          generalize rdN S x.width = N0 at *
          generalize rdE S x.width = E0 at *
          generalize rdS S x.width = S4 at *
          have N1 := Lib.hid n1; have N2 := Lib.hid n2; have HE := Lib.hid hE
          clear n1 n2 hE
          go_wp2_with fail
          refine (N1.out _ iw.atg).mono ?_
          rintro e w2 ⟨rfl, g2⟩
          have iw2 := iw.callg g2
          clear g2
          have hc2 := HC.out _ iw2.below
          have d1 := hc2.2.1
          clear hc2
          go_wp2_with fail
          refine (N2.out _ iw2.atq).mono ?_
          rintro e w3 ⟨rfl, rfl⟩
          have iw4 : IR n g q w S4 S4 (w2.setCell ⟨q, 0, none⟩ (.string S4)) := iw2.callq (Below.refl _ _)
          clear d1
          generalize w2.setCell ⟨q, 0, none⟩ (.string S4) = w3 at *
          have hS4 : S4.size ≤ 1000 := by omega
          go_wp2_with fail
          refine (left_any _ _ _ iw4.atg).mono ?_
          rintro e w1 ⟨rfl, rfl⟩
          go_wp2_with fail
          refine (xleft_any _ _ _ iw4.atq).mono ?_
          rintro e w1 ⟨rfl, rfl⟩
          have n5 := end_any _ _ _ iw4.atg
          have n6 := xend_any _ _ _ iw4.atq
          generalize (if S4.size = 0 then (0 : Int) else 11) = D at n5 n6
          have N5 := Lib.hid n5; have N6 := Lib.hid n6
          clear n5 n6
          go_wp2_with fail
          refine (N5.out).mono ?_
          rintro e w1 ⟨rfl, rfl⟩
          go_wp2_with fail
          refine (N6.out).mono ?_
          rintro e w1 ⟨rfl, rfl⟩
          rcases HE.out with he | he
          · subst he
            go_wp2
            go_roundw
            case rel => exact ⟨k + 1, by omega, by go_num, S4, hS4, iw4⟩
            case measure => simp [intOf]; omega
          · subst he
            by_cases hE0 : E0 = 0
            · subst hE0
              go_wp2
              go_roundw
              case rel => exact ⟨k + 1, by omega, by go_num, S4, hS4, iw4⟩
              case measure => simp [intOf]; omega
            · go_wp2_with fail
              refine (left_any _ _ _ iw4.atg).mono ?_
              rintro e w1 ⟨rfl, rfl⟩
              go_wp2
              go_roundw
              case rel => exact ⟨k + 1, by omega, by go_num, S4, hS4, iw4⟩
              case measure => simp [intOf]; omega
        · by_cases hk1 : x.kind = 1
          · rw [hk1] at c0
            have n1 := fun w' h => rdhash_any ⟨g, 0, none⟩ S w' h (by omega)
            have n2 := fun w' h => xhash_any ⟨q, 0, none⟩ S w' h (by omega)
            have hE := rhS_err S
            have hle := rhS_le S
            have heq := fun W => hash_eq (rhH S) (rhH_len S) W
            unfold hashV at n1 n2
            have hCs : (ints (rhH S)).toArray.size = 32 := by simp [ints, rhH_len]
            have hCo : (ints (rhH S)).toArray.all (·.oneCell') = true := by rw [List.all_toArray, List.all_eq_true]; intro x hx; obtain ⟨y, _, rfl⟩ := List.mem_map.1 hx; rfl
            generalize (ints (rhH S)).toArray = C at *
            generalize rhE S = E0 at *
            generalize rhS S = S4 at *
            have iC : (Try.prog.info? 33).map (·.size) = some C.size := by rw [hCs]; kernel_rfl
            have hCZ : C.size = Z32.size := hCs
            have N1 := Lib.hid n1; have N2 := Lib.hid n2; have HE := Lib.hid hE
            clear n1 n2 hE
            go_wp2_with fail
            refine (N1.out _ iw.atg).mono ?_
            rintro e w2 ⟨rfl, g2⟩
            have iw2 := iw.callg g2
            clear g2
            obtain ⟨m, hm⟩ : ∃ m, w2.heap.size = m := ⟨_, rfl⟩
            have hqm : q < m := by have := iw2.lt; omega
            have r9 := heap_alloc_new w2 (.cells Z32 33)
            have e9 := World.setRow_alloc_new w2 Z32 C 33
            have iw3 := iw2.same ((Below.refl _ w2).alloc (Nat.le_refl _) (.cells C 33))
            have p3 := M.RowAt.new w2 33 C
            rw [hm] at r9 e9 p3
            have hz3 : (w2.alloc (.cells C 33)).heap.size = m + 1 := by simp; exact hm
            rw [← e9] at iw3 p3 hz3
            go_wp2_with (refine wpList_store_row (x := .tmp 16) (y := .tmp 87) (cells := C) (old := Z32) (t := 33) (ty := 33) (g := m) ?_ ?_ ?_ ?_ r9 iC hCZ.symm hCo ?_; rfl; rfl; rfl; rfl)
            refine (N2.out _ iw3.atq).mono ?_
            rintro e w4 ⟨rfl, g4⟩
            have p4 := (p3.far (p := ⟨q, 0, none⟩) (by show q ≠ m; omega) (.string S4)).below g4 (by rw [hz3]; omega)
            have iw5 := iw3.callq g4
            have hz4 : m + 1 ≤ w4.heap.size := by have := g4.size; simp at this; omega
            clear g4 e9 r9 p3 iw3 hz3
            obtain ⟨m2, hm2⟩ : ∃ m2, w4.heap.size = m2 := ⟨_, rfl⟩
            have r9 := heap_alloc_new w4 (.cells Z32 33)
            have e9 := World.setRow_alloc_new w4 Z32 C 33
            have iw4 := iw5.same ((Below.refl _ w4).alloc (Nat.le_refl _) (.cells C 33))
            have p5 := M.RowAt.new w4 33 C
            have p6 := p4.alloc (.cells C 33)
            rw [hm2] at r9 e9 p5
            rw [← e9] at iw4 p5 p6
            unfold M.RowAt at p5 p6
            have hw5 : ∃ w5, (w4.alloc (.cells #[.int .u8 0, .int .u8 0, .int .u8 0, .int .u8 0, .int .u8 0, .int .u8 0, .int .u8 0, .int .u8 0, .int .u8 0, .int .u8 0, .int .u8 0, .int .u8 0, .int .u8 0, .int .u8 0, .int .u8 0, .int .u8 0, .int .u8 0, .int .u8 0, .int .u8 0, .int .u8 0, .int .u8 0, .int .u8 0, .int .u8 0, .int .u8 0, .int .u8 0, .int .u8 0, .int .u8 0, .int .u8 0, .int .u8 0, .int .u8 0, .int .u8 0, .int .u8 0] 33)).setRow m2 C = w5 := ⟨_, rfl⟩
            obtain ⟨w5, hw5⟩ := hw5
            have iw4 : IR n g q w S4 S4 w5 := hw5 ▸ iw4
            have HW5 := Lib.hid hw5
            clear hw5
            go_wp2_with (first
              | (refine wpList_store_row (x := .tmp 18) (y := .tmp 92) (cells := C) (old := Z32) (t := 33) (ty := 33) (g := m2) ?_ ?_ ?_ ?_ r9 iC hCZ.symm hCo ?_; rfl; rfl; rfl; rfl)
              | (refine wpList_load_row (x := .tmp 16) (ty := 33) (g := m) (cs := C) (t := 33) (fr := (0, 0)) ?_ ?_ ?_ _ p6 Try.underlying33 rfl iC ?_; rfl; rfl; rfl)
              | (refine wpList_load_row (x := .tmp 18) (ty := 33) (g := m2) (cs := C) (t := 33) (fr := (0, 0)) ?_ ?_ ?_ _ p5 Try.underlying33 rfl iC ?_; rfl; rfl; rfl))
            rw [HW5.out]
            clear p5 p6 r9
            have hS4 : S4.size ≤ 1000 := by omega
            refine (left_any _ _ _ iw4.atg).mono ?_
            rintro e w1 ⟨rfl, rfl⟩
            go_wp2_with fail
            refine (xleft_any _ _ _ iw4.atq).mono ?_
            rintro e w1 ⟨rfl, rfl⟩
            have n5 := end_any _ _ _ iw4.atg
            have n6 := xend_any _ _ _ iw4.atq
            generalize (if S4.size = 0 then (0 : Int) else 11) = D at n5 n6
            have N5 := Lib.hid n5; have N6 := Lib.hid n6
            clear n5 n6
            go_wp2_with fail
            refine (N5.out).mono ?_
            rintro e w1 ⟨rfl, rfl⟩
            go_wp2_with fail
            refine (N6.out).mono ?_
            rintro e w1 ⟨rfl, rfl⟩
            rcases HE.out with he | he
            · subst he
              go_wp2
              go_roundw
              case rel => exact ⟨k + 1, by omega, by go_num, S4, hS4, iw4⟩
              case measure => simp [intOf]; omega
            · subst he
              by_cases hE0 : E0 = 0
              · subst hE0
                go_wp2
                go_roundw
                case rel => exact ⟨k + 1, by omega, by go_num, S4, hS4, iw4⟩
                case measure => simp [intOf]; omega
              · go_wp2_with fail
                refine (left_any _ _ _ iw4.atg).mono ?_
                rintro e w1 ⟨rfl, rfl⟩
                go_wp2
                go_roundw
                case rel => exact ⟨k + 1, by omega, by go_num, S4, hS4, iw4⟩
                case measure => simp [intOf]; omega
          · by_cases hk2 : x.kind = 2
            · rw [hk2] at c0
              have n1 := fun w' h => rdtext_any ⟨g, 0, none⟩ S w' h (by omega)
              have n2 := fun w' h => xtext_any ⟨q, 0, none⟩ S w' h (by omega)
              have hE := rtS_err S
              have hle := rtS_le S
              generalize rtT S = N0 at *
              generalize rtE S = E0 at *
              generalize rtS S = S4 at *
              have N1 := Lib.hid n1; have N2 := Lib.hid n2; have HE := Lib.hid hE
              clear n1 n2 hE
              go_wp2_with fail
              refine (N1.out _ iw.atg).mono ?_
              rintro e w2 ⟨rfl, g2⟩
              have iw2 := iw.callg g2
              clear g2
              go_wp2_with fail
              refine (N2.out _ iw2.atq).mono ?_
              rintro e w3 ⟨rfl, rfl⟩
              have iw4 : IR n g q w S4 S4 (w2.setCell ⟨q, 0, none⟩ (.string S4)) := iw2.callq (Below.refl _ _)
              generalize w2.setCell ⟨q, 0, none⟩ (.string S4) = w3 at *
              have hS4 : S4.size ≤ 1000 := by omega
              go_wp2_with fail
              refine (left_any _ _ _ iw4.atg).mono ?_
              rintro e w1 ⟨rfl, rfl⟩
              go_wp2_with fail
              refine (xleft_any _ _ _ iw4.atq).mono ?_
              rintro e w1 ⟨rfl, rfl⟩
              have n5 := end_any _ _ _ iw4.atg
              have n6 := xend_any _ _ _ iw4.atq
              generalize (if S4.size = 0 then (0 : Int) else 11) = D at n5 n6
              have N5 := Lib.hid n5; have N6 := Lib.hid n6
              clear n5 n6
              go_wp2_with fail
              refine (N5.out).mono ?_
              rintro e w1 ⟨rfl, rfl⟩
              go_wp2_with fail
              refine (N6.out).mono ?_
              rintro e w1 ⟨rfl, rfl⟩
              rcases HE.out with he | he
              · subst he
                go_wp2
                go_roundw
                case rel => exact ⟨k + 1, by omega, by go_num, S4, hS4, iw4⟩
                case measure => simp [intOf]; omega
              · subst he
                by_cases hE0 : E0 = 0
                · subst hE0
                  go_wp2
                  go_roundw
                  case rel => exact ⟨k + 1, by omega, by go_num, S4, hS4, iw4⟩
                  case measure => simp [intOf]; omega
                · go_wp2_with fail
                  refine (left_any _ _ _ iw4.atg).mono ?_
                  rintro e w1 ⟨rfl, rfl⟩
                  go_wp2
                  go_roundw
                  case rel => exact ⟨k + 1, by omega, by go_num, S4, hS4, iw4⟩
                  case measure => simp [intOf]; omega
            · have iw4 := iw
              obtain ⟨E0, hE0⟩ : ∃ E0 : Int, E0 = 0 := ⟨0, rfl⟩
              obtain ⟨S4, hS4'⟩ : ∃ S4 : ByteArray, S = S4 := ⟨S, rfl⟩
              subst hS4' hE0
              have HE : Hid ((0 : Int) = 0 ∨ S = S) := Lib.hid (.inl rfl)
              generalize x.kind = kd at *
              go_wp2_with fail
              refine (left_any _ _ _ iw4.atg).mono ?_
              rintro e w1 ⟨rfl, rfl⟩
              go_wp2_with fail
              refine (xleft_any _ _ _ iw4.atq).mono ?_
              rintro e w1 ⟨rfl, rfl⟩
              have n5 := end_any _ _ _ iw4.atg
              have n6 := xend_any _ _ _ iw4.atq
              generalize (if S.size = 0 then (0 : Int) else 11) = D at n5 n6
              have N5 := Lib.hid n5; have N6 := Lib.hid n6
              clear n5 n6
              go_wp2_with fail
              refine (N5.out).mono ?_
              rintro e w1 ⟨rfl, rfl⟩
              go_wp2_with fail
              refine (N6.out).mono ?_
              rintro e w1 ⟨rfl, rfl⟩
              go_wp2
              go_roundw
              case rel => exact ⟨k + 1, by omega, by go_num, S, hS, iw4⟩
              case measure => simp [intOf]; omega
      · go_wp2_with fail
        refine (left_any _ _ _ iw.atg).mono ?_
        rintro e v5 ⟨rfl, rfl⟩
        go_wp2_with fail
        refine (xleft_any _ _ _ iw.atq).mono ?_
        rintro e v5 ⟨rfl, rfl⟩
        go_wp2
        go_ret
        exact ⟨rfl, by rw [HN.out]; exact iw.below⟩
end Go.Proofs.Ytiilgkhndfnkgaa
