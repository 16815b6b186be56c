/- The walk of the law OctetWrites over the contracts: it returns true; the conditions are the ranges of the kinds. -/
import Derived.Test.YtiilgkhndfnkgaaOcWr
import Derived.Outline
namespace Go.Proofs.Ytiilgkhndfnkgaa
open Go.RowKit
set_option linter.unusedVariables false

/-- the writer lies in block g, behind all that was there -/
structure IW (n g : Nat) (w : World) (S : ByteArray) (v : World) : Prop where
  ng : n ≤ g
  atw : At v ⟨g, 0, none⟩ S
  below : Below n w v
section
variable {n g : Nat} {w v v' : World} {S S' : ByteArray}
theorem IW.lt (h : IW n g w S v) : g < v.heap.size := World.block_lt_of_cell? v _ h.atw.cell
theorem IW.same (h : IW n g w S v) (hb : Below v.heap.size v v') : IW n g w S v' :=
  ⟨h.ng, h.atw.below hb h.lt, h.below.trans (hb.mono (by have := h.lt; have := h.ng; omega))⟩
theorem IW.drew (h : IW n g w S v) : IW n g w S v.drew := h.same (Below.refl _ _).drew
theorem IW.write (h : IW n g w S v) (hb : Below v.heap.size (v.setCell ⟨g, 0, none⟩ (.string S')) v') : IW n g w S' v' :=
  ⟨h.ng, h.atw.written hb h.lt, below_own h.below h.ng (by have := h.lt; have := h.ng; omega) hb⟩
end

theorem item_at {w : World} {A : Option Addr} {l : List Item} (h : RowK.SlAt w 36 Item.cells A l) {k : Nat} {x : Item} (hx : l[k]? = some x) {n : Nat} (hn : w.heap.size = n) :
    ∃ b off, A = some ⟨b, off, none⟩ ∧ b < n ∧ ∀ v, Below n w v → v.cell? ⟨b, off + k * 36, none⟩ = some (.int .i64 x.kind) ∧ v.cell? ⟨b, off + k * 36 + 1, none⟩ = some (.int .i64 x.width) ∧ v.cell? ⟨b, off + k * 36 + 2, none⟩ = some (.int .u64 x.n) ∧
      v.rangeAt b (off + k * 36 + 3) (ints x.h) ∧ (x.h.length = 32 → v.cell? ⟨b, off + k * 36 + 35, none⟩ = some (.string x.s)) := by
  have hk : k < l.length := (List.getElem?_eq_some_iff.1 hx).1
  obtain ⟨b, off, rfl, hb, hr⟩ := h.at_ hk
  refine ⟨b, off, rfl, by omega, fun v hv => ?_⟩
  have hr' := hr k x hx
  have key : ∀ j u, x.cells[j]? = some u → v.cell? ⟨b, off + k * 36 + j, none⟩ = some u := fun j u hu => by
    rw [hv.cell (show b < n by omega)]; exact hr' j u hu
  refine ⟨key 0 _ rfl, key 1 _ rfl, key 2 _ rfl, fun j u hu => ?_, fun h32 => key 35 _ ?_⟩
  · rw [show off + k * 36 + 3 + j = off + k * 36 + (j + 3) by omega]
    refine key (j + 3) u ?_
    simp only [Item.cells, List.getElem?_cons_succ]
    rw [List.getElem?_append_left (by have := (List.getElem?_eq_some_iff.1 hu).1; exact this)]
    exact hu
  · simp only [Item.cells, List.getElem?_cons_succ]
    rw [List.getElem?_append_right (by simp [ints, h32])]
    simp [ints, h32]

theorem numB_size (n wd : Int) : (strOfNums (numB n wd)).size ≤ 8 := by
  rw [strOfNums_size]; unfold numB; split
  · simp
  · simp [top]; omega
theorem txtB_size (s : ByteArray) : (txtB s).size ≤ 65 := by
  unfold txtB; split
  · rw [ByteArray.size_append, strOfNums_size]; simp; omega
  · simp

set_option maxRecDepth 100000 in
set_option maxHeartbeats 4000000 in
theorem writes_walk (A : Option Addr) (cap : Nat) (l : List Item) (w : World) (hlen : l.length ≤ maxLen) (hsl : RowK.SlAt w 36 Item.cells A l) (hok : ∀ x ∈ l, x.ok) :
    Calls Try.prog 4 #[.slice A l.length cap] w (Fine w) := by
  unfold maxLen at hlen
  obtain ⟨n, hn⟩ : ∃ n, w.heap.size = n := ⟨_, rfl⟩
  obtain ⟨len, hl⟩ : ∃ len, l.length = len := ⟨_, rfl⟩
  rw [hl] at hlen ⊢
  have HN := Lib.hid hn; have HL := Lib.hid hl
  clear hn hl
  by_cases h100 : 100 < len
  · go_enter Try.func4, Try.ntmps4
    go_wp2_with fail
    refine (shown_any _).mono ?_
    rintro e v1 ⟨rfl, g1⟩
    go_wp2
    go_ret
    exact ⟨rfl, g1⟩
  · go_enter Try.func4, Try.ntmps4
    go_wp2_with fail
    refine (shown_any _).mono ?_
    rintro e v1 ⟨rfl, g1⟩
    have i0 : IW n v1.heap.size w ⟨#[]⟩ (v1.alloc (.cells #[.string ⟨#[]⟩] 25)) :=
      ⟨by have := g1.size; have := HN.out; omega, at_new v1 _ 25, (HN.out ▸ g1).alloc (by have := g1.size; have := HN.out; omega) _⟩
    go_wp2
    generalize v1.alloc (.cells #[.string ⟨#[]⟩] 25) = v2 at *
    generalize v1.heap.size = g at *
    clear g1
    go_loopw [4, 5] (fun s i wr => ∃ (k : Nat) (S : ByteArray), k ≤ len ∧ i = .int .i64 k ∧ s = .string S ∧ S.size ≤ 65 * k ∧ IW n g w S wr) (fun _ i _ => len - (intOf i).toNat)
    case atStart => exact ⟨0, ⟨#[]⟩, by omega, rfl, rfl, by decide, i0⟩
    case round =>
      clear i0
      obtain ⟨k, S, hk, rfl, rfl, hS, iw⟩ := hrel
      by_cases hlt : k < len
      · obtain ⟨x, hx⟩ : ∃ x, l[k]? = some x := ⟨_, List.getElem?_eq_getElem (by rw [HL.out]; exact hlt)⟩
        have xo := hok x (List.mem_of_getElem? hx)
        obtain ⟨b, off, hA, hb, hcells⟩ := item_at hsl hx HN.out
        subst hA
        obtain ⟨c0, c1, c2, r3, c4⟩ := hcells wr iw.below
        have c4 := c4 xo.hl
        by_cases hbig : 100 < x.s.size
        · go_wp2_with fail
          refine (shown_any _).mono ?_
          rintro e v3 ⟨rfl, g3⟩
          have iw3 := iw.same g3
          go_wp2
          go_ret
          exact ⟨rfl, by rw [HN.out]; exact iw3.below⟩
        · have xn0 := xo.n0
          have xn1 := xo.n1
          have xl := xo.hl
          have HC := Lib.hid hcells
          clear hcells
          by_cases hk0 : x.kind = 0
          · rw [hk0] at c0
            obtain ⟨E0, hE⟩ : ∃ e, numE x.n x.width = e := ⟨_, rfl⟩
            obtain ⟨T, hT⟩ : ∃ t, strOfNums (numB x.n x.width) = t := ⟨_, rfl⟩
            have n1 := fun p s w' hs h => number_any x.n x.width p s w' xn0 xn1 hs h
            have n2 := fun w' => rnum_any x.n x.width w' xn0 xn1
            have hTs : T.size ≤ 8 := by rw [← hT]; exact numB_size x.n x.width
            rw [hE, hT] at n1 n2
            have N1 := Lib.hid n1; have N2 := Lib.hid n2
            clear n1 n2 hE hT
            go_wp2_with fail
            refine QP.wp_region_p 11 (IW n g w S) (IW n g w (S ++ T)) (by kernel_rfl) (by kernel_rfl) iw.drew ?_
            iterate 13
              (refine QP.wpQ_step (fun K hK => ?_)
               go_simp
               first
                 | (refine hK _ ?_; clear hK K)
                 | (refine ⟨?_, hK _ ?_⟩; decide; clear hK K)
                 | (apply Exists.intro
                    refine ⟨?_, hK _ ?_⟩
                    first
                      | (apply QP.al_p; decide; (focus (intro wq hq; (obtain ⟨d0, d1, d2, r4, d4⟩ := HC.out _ hq.below; have d4 := d4 xo.hl); unfold QP.oat; go_simp; first | done | exact ⟨by assumption, rfl⟩ | exact rfl | assumption | ((refine (N1.out _ S _ (by omega) hq.atw).mono ?_; rintro e w' ⟨rfl, gq⟩; exact ⟨rfl, hq.write gq⟩)))))
                      | (apply QP.al_dep; decide; decide; (focus (intro wq hq; (obtain ⟨d0, d1, d2, r4, d4⟩ := HC.out _ hq.below; have d4 := d4 xo.hl); unfold QP.oat; go_simp; first | done | exact ⟨by assumption, rfl⟩ | exact rfl | assumption | ((refine (N1.out _ S _ (by omega) hq.atw).mono ?_; rintro e w' ⟨rfl, gq⟩; exact ⟨rfl, hq.write gq⟩)))))
                      | (apply QP.al_ok; decide; (focus (intro wq hq; (obtain ⟨d0, d1, d2, r4, d4⟩ := HC.out _ hq.below; have d4 := d4 xo.hl); unfold QP.oat; go_simp; first | done | exact ⟨by assumption, rfl⟩ | exact rfl | assumption | ((refine (N1.out _ S _ (by omega) hq.atw).mono ?_; rintro e w' ⟨rfl, gq⟩; exact ⟨rfl, hq.write gq⟩)))); (focus (intro wq hq; (obtain ⟨d0, d1, d2, r4, d4⟩ := HC.out _ hq.below; have d4 := d4 xo.hl); unfold QP.oat; go_simp; first | done | exact ⟨by assumption, rfl⟩ | exact rfl | assumption | ((refine (N1.out _ S _ (by omega) hq.atw).mono ?_; rintro e w' ⟨rfl, gq⟩; exact ⟨rfl, hq.write gq⟩)))))
                    clear hK K))
            refine QP.wpQ_nil ?_
            intro wz iw2
            go_wp2_with fail
            refine QP.wp_region_p 10 (IW n g w (S ++ T)) (IW n g w (S ++ T)) (by kernel_rfl) (by kernel_rfl) iw2.drew ?_
            iterate 16
              (refine QP.wpQ_step (fun K hK => ?_)
               go_simp
               first
                 | (refine hK _ ?_; clear hK K)
                 | (refine ⟨?_, hK _ ?_⟩; decide; clear hK K)
                 | (apply Exists.intro
                    refine ⟨?_, hK _ ?_⟩
                    first
                      | (apply QP.al_p; decide; (focus (intro wq hq; (obtain ⟨d0, d1, d2, r4, d4⟩ := HC.out _ hq.below; have d4 := d4 xo.hl); unfold QP.oat; go_simp; first | done | exact ⟨by assumption, rfl⟩ | exact rfl | assumption | ((refine (N2.out _).mono ?_; rintro e w' ⟨rfl, gq⟩; exact ⟨rfl, hq.same gq⟩)))))
                      | (apply QP.al_dep; decide; decide; (focus (intro wq hq; (obtain ⟨d0, d1, d2, r4, d4⟩ := HC.out _ hq.below; have d4 := d4 xo.hl); unfold QP.oat; go_simp; first | done | exact ⟨by assumption, rfl⟩ | exact rfl | assumption | ((refine (N2.out _).mono ?_; rintro e w' ⟨rfl, gq⟩; exact ⟨rfl, hq.same gq⟩)))))
                      | (apply QP.al_ok; decide; (focus (intro wq hq; (obtain ⟨d0, d1, d2, r4, d4⟩ := HC.out _ hq.below; have d4 := d4 xo.hl); unfold QP.oat; go_simp; first | done | exact ⟨by assumption, rfl⟩ | exact rfl | assumption | ((refine (N2.out _).mono ?_; rintro e w' ⟨rfl, gq⟩; exact ⟨rfl, hq.same gq⟩)))); (focus (intro wq hq; (obtain ⟨d0, d1, d2, r4, d4⟩ := HC.out _ hq.below; have d4 := d4 xo.hl); unfold QP.oat; go_simp; first | done | exact ⟨by assumption, rfl⟩ | exact rfl | assumption | ((refine (N2.out _).mono ?_; rintro e w' ⟨rfl, gq⟩; exact ⟨rfl, hq.same gq⟩)))))
                    clear hK K))
            refine QP.wpQ_nil ?_
            intro wy iw4
            clear iw2
            have hadd : S.size + T.size ≤ 9223372036854775807 := by omega
            go_wp2_with fail
            refine (wbytes_any _ _ _ iw4.atw).mono ?_
            rintro e v5 ⟨rfl, rfl⟩
            go_wp2
            go_roundw
            case rel => exact ⟨k + 1, S ++ T, by omega, by go_num, rfl, by rw [ByteArray.size_append]; omega, iw4⟩
            case measure => simp [intOf]; omega
          · by_cases hk1 : x.kind = 1
            · rw [hk1] at c0
              have i33 : (Try.prog.info? 33).map (·.size) = some (ints x.h).length := by rw [show (ints x.h).length = 32 by simp [ints, xl]]; kernel_rfl
              obtain ⟨T, hT⟩ : ∃ t, strOfNums x.h = t := ⟨_, rfl⟩
              have n1 := fun p s w' hs h => whash_any x.h p s w' xl hs h
              have n2 := fun w' => rhash_any x.h w' xl
              have hTs : T.size ≤ 32 := by rw [← hT, strOfNums_size, xl]; exact Nat.le_refl _
              rw [hT] at n1 n2
              have N1 := Lib.hid n1; have N2 := Lib.hid n2
              clear n1 n2 hT
              go_wp2_with (refine wpList_load_mid (ty := 33) (x := .tmp 72) (b := b) (o := off + k * 36 + 3) (cs := ints x.h) ?_ ?_ ?_ _ r3 Try.underlying33 rfl i33 ?_; rfl; rfl; rfl)
              refine (N1.out _ S _ (by omega) iw.atw).mono ?_
              rintro e v3 ⟨rfl, g3⟩
              have iw2 := iw.write g3
              obtain ⟨d0, d1, d2, r4, d4⟩ := HC.out _ iw2.below
              go_wp2_with (refine wpList_load_mid (ty := 33) (x := .tmp 78) (b := b) (o := off + k * 36 + 3) (cs := ints x.h) ?_ ?_ ?_ _ r4 Try.underlying33 rfl i33 ?_; rfl; rfl; rfl)
              refine (N2.out _).mono ?_
              rintro e v4 ⟨rfl, g4⟩
              have iw4 := iw2.same g4
              clear g3 g4 iw2 d0 d1 d2 r4 d4
              have hadd : S.size + T.size ≤ 9223372036854775807 := by omega
              go_wp2_with fail
              refine (wbytes_any _ _ _ iw4.atw).mono ?_
              rintro e v5 ⟨rfl, rfl⟩
              go_wp2
              go_roundw
              case rel => exact ⟨k + 1, S ++ T, by omega, by go_num, rfl, by rw [ByteArray.size_append]; omega, iw4⟩
              case measure => simp [intOf]; omega
            · by_cases hk2 : x.kind = 2
              · rw [hk2] at c0
                obtain ⟨E0, hE⟩ : ∃ e, txtE x.s = e := ⟨_, rfl⟩
                obtain ⟨T, hT⟩ : ∃ t, txtB x.s = t := ⟨_, rfl⟩
                have n1 := fun p s w' hs h => wtext_any x.s p s w' hs h
                have n2 := fun w' => rtext_any x.s w'
                have hTs : T.size ≤ 65 := by rw [← hT]; exact txtB_size x.s
                rw [hE, hT] at n1 n2
                have N1 := Lib.hid n1; have N2 := Lib.hid n2
                clear n1 n2 hE hT
                go_wp2_with fail
                refine (N1.out _ S _ (by omega) iw.atw).mono ?_
                rintro e v3 ⟨rfl, g3⟩
                have iw2 := iw.write g3
                obtain ⟨d0, d1, d2, r4, d4⟩ := HC.out _ iw2.below
                have d4 := d4 xl
                go_wp2_with fail
                refine (N2.out _).mono ?_
                rintro e v4 ⟨rfl, g4⟩
                have iw4 := iw2.same g4
                clear g3 g4 iw2 d0 d1 d2 r4 d4
                have hadd : S.size + T.size ≤ 9223372036854775807 := by omega
                go_wp2_with fail
                refine (wbytes_any _ _ _ iw4.atw).mono ?_
                rintro e v5 ⟨rfl, rfl⟩
                go_wp2
                go_roundw
                case rel => exact ⟨k + 1, S ++ T, by omega, by go_num, rfl, by rw [ByteArray.size_append]; omega, iw4⟩
                case measure => simp [intOf]; omega
              · generalize x.kind = kd at *
                have iw4 := iw
                have happ : S ++ (⟨#[]⟩ : ByteArray) = S := append_empty S
                have hadd : S.size + (⟨#[]⟩ : ByteArray).size ≤ 9223372036854775807 := by show S.size + 0 ≤ _; omega
                go_wp2_with fail
                refine (wbytes_any _ _ _ iw4.atw).mono ?_
                rintro e v5 ⟨rfl, rfl⟩
                go_wp2
                go_roundw
                case rel => exact ⟨k + 1, S, by omega, by go_num, rfl, by omega, iw4⟩
                case measure => simp [intOf]; omega
      · go_wp2_with fail
        refine (wbytes_any _ _ _ iw.atw).mono ?_
        rintro e v5 ⟨rfl, rfl⟩
        go_wp2
        go_ret
        exact ⟨rfl, by rw [HN.out]; exact iw.below⟩
end Go.Proofs.Ytiilgkhndfnkgaa
