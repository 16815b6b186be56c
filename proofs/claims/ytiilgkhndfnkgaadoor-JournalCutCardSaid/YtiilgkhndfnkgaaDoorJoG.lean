/- Records in another order are not told: the walk of JournalOrder; the condition is that the tables are laid. -/
import Derived.Test.YtiilgkhndfnkgaaDoorJoF
import Derived.Test.YtiilgkhndfnkgaaDoorRowSl
import Derived.Test.YtiilgkhndfnkgaaDoorRowKit
namespace Go.Proofs.YtiilgkhndfnkgaaDoor
open Oc
open Go.RowKit
set_option linter.unusedVariables false
def Fine (w : World) (e : Ending) (w' : World) : Prop := e = .returned (.bool true) ∧ Below w.heap.size w w'
/-- a text, no longer than 200 -/
def cutT (s : ByteArray) : ByteArray := s.extract 0 (min s.size 200)
theorem cutT_size (s : ByteArray) : (cutT s).size ≤ 200 := by unfold cutT; rw [ByteArray.size_extract]; omega
def sg (k i : Nat) : Nat := if i = k then k + 1 else if i = k + 1 then k else i
theorem sg_lt {k i len : Nat} (hi : i < len) (hk : k + 1 < len) : sg k i < len := by unfold sg; split <;> (try split) <;> omega
def ordB (k : Nat) (f : Nat → ByteArray) : Nat → ByteArray
  | 0 => .empty
  | i + 1 => ordB k f i ++ rcd (sg k i) (f (sg k i))
theorem ordB_le (k : Nat) (f : Nat → ByteArray) (hf : ∀ i, (f i).size ≤ 200) : ∀ i, (ordB k f i).size ≤ 214 * i
  | 0 => by simp [ordB]
  | i + 1 => by
    have h1 := ordB_le k f hf i
    have h2 := hf (sg k i)
    show (ordB k f i ++ _).size ≤ _
    rw [ByteArray.size_append, rcd_size]; omega
def fl (f : Nat → ByteArray) (k : Nat) : List ByteArray := (List.range k).map f
theorem fl_len (f : Nat → ByteArray) (k : Nat) : (fl f k).length = k := by simp [fl]
theorem fl_succ (f : Nat → ByteArray) (k : Nat) : fl f (k + 1) = fl f k ++ [f k] := by simp [fl, List.range_succ]
theorem ordB_low (k : Nat) (f : Nat → ByteArray) : ∀ i, i ≤ k → ordB k f i = rcds 0 (fl f i)
  | 0, _ => rfl
  | i + 1, h => by
    show ordB k f i ++ _ = _
    rw [ordB_low k f i (by omega), fl_succ, rcds_snoc, fl_len, Nat.zero_add]
    have : sg k i = i := by unfold sg; rw [if_neg (by omega), if_neg (by omega)]
    rw [this]
theorem ordB_high (k : Nat) (f : Nat → ByteArray) : ∀ j, ∃ R, ordB k f (k + 1 + j) = rcds 0 (fl f k) ++ (rcd (k + 1) (f (k + 1)) ++ R)
  | 0 => ⟨.empty, by
    show ordB k f k ++ _ = _
    have : sg k k = k + 1 := by unfold sg; rw [if_pos rfl]
    rw [ordB_low k f k (Nat.le_refl _), this, ByteArray.append_empty]⟩
  | j + 1 => by
    obtain ⟨R, h⟩ := ordB_high k f j
    refine ⟨R ++ rcd (sg k (k + 1 + j)) (f (sg k (k + 1 + j))), ?_⟩
    show ordB k f (k + 1 + j) ++ _ = _
    rw [h]
    simp only [ByteArray.append_assoc]
    rfl
theorem ordB_bad (k : Nat) (f : Nat → ByteArray) (hf : ∀ i, (f i).size ≤ 200) (hk : k < 1000) (R : ByteArray) : Bad k (rcd (k + 1) (f (k + 1)) ++ R) := by
  right
  rw [getR_rcd (k + 1) _ R (by omega) (by have := hf (k + 1); omega)]
  simp only
  omega
section
variable {w w' : World} {A : Option Addr} {l : List ByteArray}
theorem str_at (h : RowK.SlAt w 1 (fun s => [Value.string s]) A l) {i : Nat} (hi : i < l.length) {n : Nat} (hn : w.heap.size = n) :
    ∃ b off, A = some ⟨b, off, none⟩ ∧ ∀ v, Below n w v → ∀ j, j < l.length → v.cell? ⟨b, off + j, none⟩ = some (.string (l.getD j .empty)) := by
  obtain ⟨b, off, rfl, hb, hr⟩ := h.at_ hi
  refine ⟨b, off, rfl, fun v hv j hj => ?_⟩
  have := hr j (l[j]) (List.getElem?_eq_getElem hj) 0 (.string l[j]) rfl
  rw [hv.cell (by show b < n; omega)]
  rw [List.getD_eq_getElem?_getD, List.getElem?_eq_getElem hj]
  simpa using this
end
theorem wf_u8 {a : Int} (h : (Lit.int .u8 a).wf = true) : 0 ≤ a ∧ a ≤ 255 := by simpa [Lit.wf, IntKind.min, IntKind.max, IntKind.signed, IntKind.bits] using h
theorem strs_of_trod {H : Type} {enc : TypeId × Value → H} {W : World} {base : Nat} {v : Value} {d : DataW H} {p : List MemPlace} (hval : Value.okWide Tryd.prog W .any base 26 v) (h : DataW.Trod enc Tryd.prog W 0 (fun _ => true) true 26 v d p) :
    ∃ (A : Option Addr) (cap : Nat) (l : List ByteArray), v = .slice A l.length cap ∧ l.length ≤ cap ∧ cap ≤ maxLen ∧ (∀ x ∈ l, x.size ≤ maxLen) ∧ RowK.SlAt W 1 (fun s => [Value.string s]) A l :=
  RowK.sl_of_trod (fun s => [Value.string s]) (fun s => s.size ≤ maxLen) Tryd.underlying26 (size := 1) (by kernel_rfl) (by decide) (fun _ _ _ _ hd => RowK.str_of Tryd.underlying9 hd) hval h
set_option maxHeartbeats 4000000 in
set_option maxRecDepth 100000 in
theorem order_walk (A : Option Addr) (cap : Nat) (l : List ByteArray) (at' : Nat) (w : World) (ht : Tabs w) (ha : at' < 256) (hcap : cap ≤ maxLen) (hlc : l.length ≤ cap) (hsl : RowK.SlAt w 1 (fun s => [Value.string s]) A l) (hok : ∀ s ∈ l, s.size ≤ maxLen) :
    Calls Tryd.prog 5 #[.slice A l.length cap, .int .u8 at'] w (Fine w) := by
  unfold Fine
  obtain ⟨n, hn⟩ : ∃ n, w.heap.size = n := ⟨_, rfl⟩
  have h1n : 1 < n := hn ▸ ht.lt
  have SH := Lib.hid (fun v (hb : Below n w v) => shown_any v (ht.below hb h1n))
  have HN := Lib.hid hn
  have NX := Lib.hid (fun v v' (h : Below n w v) (g : Below v.heap.size v v') => h.trans (g.mono (by rw [← hn]; exact h.size)))
  have b0 : Below n w w := Below.refl _ _
  have HL := Lib.hid hsl
  have hlen : l.length ≤ 9223372036854775807 := by unfold maxLen at hcap; omega
  obtain ⟨len, hlen'⟩ : ∃ len, l.length = len := ⟨_, rfl⟩
  rw [hlen'] at hlen ⊢
  have HLEN := Lib.hid hlen'
  by_cases g1 : len < 2
  · clear ht hn hsl hok hlen' hcap hlc h1n
    go_enter Tryd.func5, Tryd.ntmps5
    go_wp2_with fail
    refine (SH.out _ b0).mono ?_
    rintro e w1 ⟨rfl, gq⟩
    have B1 := Lib.hid (NX.out _ _ b0 gq)
    clear gq
    go_wp2
    go_ret
    exact ⟨rfl, HN.out ▸ B1.out⟩
  by_cases g2 : 15 < len
  · clear ht hn hsl hok hlen' hcap hlc h1n
    go_enter Tryd.func5, Tryd.ntmps5
    go_wp2_with fail
    refine (SH.out _ b0).mono ?_
    rintro e w1 ⟨rfl, gq⟩
    have B1 := Lib.hid (NX.out _ _ b0 gq)
    clear gq
    go_wp2
    go_ret
    exact ⟨rfl, HN.out ▸ B1.out⟩
  obtain ⟨b, off, rfl, hcell⟩ := str_at hsl (i := 0) (by omega) hn
  rw [hlen'] at hcell
  have hsz : ∀ j, (l.getD j .empty).size ≤ 9223372036854775807 := fun j => by
    rw [List.getD_eq_getElem?_getD]
    cases h : l[j]? with
    | none => decide
    | some x => have := hok x (List.mem_of_getElem? h); unfold maxLen at this; exact this
  obtain ⟨f, hf⟩ : ∃ f : Nat → ByteArray, (fun j => l.getD j .empty) = f := ⟨_, rfl⟩
  have hfj : ∀ j, l.getD j .empty = f j := fun j => congrFun hf j
  simp only [hfj] at hcell hsz
  obtain ⟨k, hk⟩ : ∃ k, at' % (len - 1) = k := ⟨_, rfl⟩
  have hkl : k + 1 < len := by have := Nat.mod_lt at' (show 0 < len - 1 by omega); omega
  have htm : (at' : Int).tmod ((len : Int) - 1) = (k : Nat) := by
    rw [show ((len : Int) - 1) = ((len - 1 : Nat) : Int) by omega, ← Int.ofNat_tmod, hk]
  have TB := Lib.hid (fun v (hb : Below n w v) => ht.below hb h1n)
  have TS := Lib.hid (show TW n w [] w from hn ▸ TW.start w)
  have HT := Lib.hid ht; have H1 := Lib.hid h1n
  have CELL := Lib.hid hcell; have SZ := Lib.hid hsz
  have hne : ¬ ((len : Int) - 1 = 0) := by omega
  clear ht hn hsl hok hlen' hcap hlc h1n hcell hsz hf hfj hk HL HLEN
  go_enter Tryd.func5, Tryd.ntmps5
  go_wp2_with fail
  refine (SH.out _ b0).mono ?_
  rintro e w1 ⟨rfl, gq⟩
  have B1 := Lib.hid (NX.out _ _ b0 gq)
  clear gq b0
  go_wp2
  go_loopg [6, 7] len (fun gk s i u => ∃ j : Nat, gk + j = len ∧ i = .int .i64 j ∧ s = .string (ordB k (fun i => cutT (f i)) j) ∧ Below n w u)
  case atStart => exact ⟨0, by omega, rfl, rfl, B1.out⟩
  case round =>
    obtain ⟨j, hg, rfl, rfl, bj⟩ := hrel
    have BJ := Lib.hid bj
    clear bj
    by_cases hlt : j < len
    · have HREL := Lib.hid (show len - (j + 1) + (j + 1) = len by omega)
      have HMEA := Lib.hid (show len - (j + 1) < gk by omega)
      have hkw : IntKind.i64.wrap ((k : Int) + 1) = (k : Int) + 1 := by rw [IntKind.wrap_i64]; omega
      clear hg
      by_cases hj0 : j = k
      · have hsg : sg k j = k + 1 := by unfold sg; rw [if_pos hj0]
        obtain ⟨q, hq⟩ : ∃ q, k + 1 = q := ⟨_, rfl⟩
        have hqi : (k : Int) + 1 = (q : Int) := by omega
        rw [hqi] at hkw
        rw [hq] at hsg
        have hjq : ¬ (j = q) := by omega
        have hsl2 : q < len := by omega
        obtain ⟨x, hx⟩ : ∃ x, f q = x := ⟨_, rfl⟩
        have hxs := SZ.out q
        rw [hx] at hxs
        have eO : ordB k (fun i => cutT (f i)) j ++ rcd q (cutT x) = ordB k (fun i => cutT (f i)) (j + 1) := by
          show _ = ordB k (fun i => cutT (f i)) j ++ rcd (sg k j) (cutT (f (sg k j)))
          rw [hsg, hx]
        have hmin : (if (200 : Int) < (x.size : Int) then (200 : Int) else (x.size : Int)) = (min x.size 200 : Nat) := by split <;> omega
        have hle1 : ((min x.size 200 : Nat) : Int) ≤ (x.size : Nat) := by omega
        have hcx : x.extract 0 (min x.size 200) = cutT x := rfl
        obtain ⟨mn, hmn⟩ : ∃ mn, min x.size 200 = mn := ⟨_, rfl⟩
        rw [hmn] at hmin hle1 hcx
        have HCX := Lib.hid hcx
        have C12 := Lib.hid (fun u => rput_any q (cutT x) u (by omega) (by have := cutT_size x; omega))
        have hzz : (ordB k (fun i => cutT (f i)) j).size + (rcd q (cutT x)).size ≤ 9223372036854775807 := by
          have h1 := ordB_le k (fun i => cutT (f i)) (fun i => cutT_size _) j
          have h2 := cutT_size x
          rw [rcd_size]; omega
        have EO := Lib.hid eO
        have uw : IntKind.u64.wrap (q : Int) = (q : Int) := by rw [IntKind.wrap_u64]; omega
        have hj1 : IntKind.i64.wrap ((j : Int) + 1) = ((j + 1 : Nat) : Int) := by rw [IntKind.wrap_i64]; omega
        have HX := Lib.hid hx; have HQL := Lib.hid hsl2
        clear eO hcx hsg hmn hx
        generalize rcd q (cutT x) = RR at *
        generalize cutT x = CT at *
        generalize ordB k (fun i => cutT (f i)) j = OB at *
        go_wp2
        refine QC.wp_region_d [13] [0, 1, 2, 3, 4, 5, 6, 7, 8, 9, 10, 11, 12, 13, 14, 15, 16, 17, 18] (by kernel_rfl) (by kernel_rfl) (fun u d => ?_)
        have BU := Lib.hid (BJ.out.trans (d.below (n := n)))
        have cu := CELL.out u BU.out q HQL.out
        rw [HX.out] at cu
        clear d
        iterate 13
          (first
           | (apply QC.wpC_load
              (focus rfl)
              (focus decide)
              (focus rfl)
              (focus rfl)
              (focus rfl)
              (focus (assumption))
              (focus (intro u hu; go_simp))
              intro K hK
              go_simp
              refine hK _ ?_
              clear hK K)
           | (apply QC.wpC_pure
              (focus rfl)
              (focus decide)
              intro K hK
              go_simp
              first
               | (refine hK _ ?_; clear hK K)
               | (apply Exists.intro
                  refine ⟨fun u => ?_, hK _ ?_⟩
                  (focus (unfold QP.oat; go_simp; first | done | exact ⟨rfl, rfl⟩ | exact rfl))
                  clear hK K)))
        apply QC.wpC_eff
        (focus rfl)
        (focus decide)
        go_wp2_with fail
        rw [HCX.out]
        refine (C12.out u).mono ?_
        rintro e u2 ⟨rfl, b2⟩
        have B2 := Lib.hid (NX.out _ _ BU.out b2)
        clear b2 C12 cu
        go_wp2
        refine QC.eff_ok rfl ?_ ?_
        · (repeat (first | exact QC.obl_nil | refine QC.obl_is (by assumption) ?_ | (apply QC.obl_dep; (focus decide))))
        iterate 5
          (first
           | (apply QC.wpC_load
              (focus rfl)
              (focus decide)
              (focus rfl)
              (focus rfl)
              (focus rfl)
              (focus (assumption))
              (focus (intro u hu; go_simp))
              intro K hK
              go_simp
              refine hK _ ?_
              clear hK K)
           | (apply QC.wpC_pure
              (focus rfl)
              (focus decide)
              intro K hK
              go_simp
              first
               | (refine hK _ ?_; clear hK K)
               | (apply Exists.intro
                  refine ⟨fun u => ?_, hK _ ?_⟩
                  (focus (unfold QP.oat; go_simp; first | done | exact ⟨rfl, rfl⟩ | exact rfl))
                  clear hK K)))
        refine QC.wpC_nil ?_
        go_wp2_with (first | (rw [EO.out]) | fail)
        go_roundg (len - (j + 1))
        case rel => exact ⟨j + 1, HREL.out, by first | rfl | go_num, rfl, B2.out⟩
        case measure => exact HMEA.out
      by_cases hj2 : j = k + 1
      · have hsg : sg k j = k := by unfold sg; rw [if_neg hj0, if_pos hj2]
        have hsl2 : k < len := by omega
        obtain ⟨x, hx⟩ : ∃ x, f k = x := ⟨_, rfl⟩
        have hxs := SZ.out k
        rw [hx] at hxs
        have eO : ordB k (fun i => cutT (f i)) j ++ rcd k (cutT x) = ordB k (fun i => cutT (f i)) (j + 1) := by
          show _ = ordB k (fun i => cutT (f i)) j ++ rcd (sg k j) (cutT (f (sg k j)))
          rw [hsg, hx]
        have hmin : (if (200 : Int) < (x.size : Int) then (200 : Int) else (x.size : Int)) = (min x.size 200 : Nat) := by split <;> omega
        have hle1 : ((min x.size 200 : Nat) : Int) ≤ (x.size : Nat) := by omega
        have hcx : x.extract 0 (min x.size 200) = cutT x := rfl
        obtain ⟨mn, hmn⟩ : ∃ mn, min x.size 200 = mn := ⟨_, rfl⟩
        rw [hmn] at hmin hle1 hcx
        have HCX := Lib.hid hcx
        have C12 := Lib.hid (fun u => rput_any k (cutT x) u (by omega) (by have := cutT_size x; omega))
        have hzz : (ordB k (fun i => cutT (f i)) j).size + (rcd k (cutT x)).size ≤ 9223372036854775807 := by
          have h1 := ordB_le k (fun i => cutT (f i)) (fun i => cutT_size _) j
          have h2 := cutT_size x
          rw [rcd_size]; omega
        have EO := Lib.hid eO
        have uw : IntKind.u64.wrap (k : Int) = (k : Int) := by rw [IntKind.wrap_u64]; omega
        have hj1 : IntKind.i64.wrap ((j : Int) + 1) = ((j + 1 : Nat) : Int) := by rw [IntKind.wrap_i64]; omega
        have HX := Lib.hid hx; have HQL := Lib.hid hsl2
        clear eO hcx hsg hmn hx
        generalize rcd k (cutT x) = RR at *
        generalize cutT x = CT at *
        generalize ordB k (fun i => cutT (f i)) j = OB at *
        go_wp2
        refine QC.wp_region_d [13] [0, 1, 2, 3, 4, 5, 6, 7, 8, 9, 10, 11, 12, 13, 14, 15, 16, 17, 18] (by kernel_rfl) (by kernel_rfl) (fun u d => ?_)
        have BU := Lib.hid (BJ.out.trans (d.below (n := n)))
        have cu := CELL.out u BU.out k HQL.out
        rw [HX.out] at cu
        clear d
        iterate 13
          (first
           | (apply QC.wpC_load
              (focus rfl)
              (focus decide)
              (focus rfl)
              (focus rfl)
              (focus rfl)
              (focus (assumption))
              (focus (intro u hu; go_simp))
              intro K hK
              go_simp
              refine hK _ ?_
              clear hK K)
           | (apply QC.wpC_pure
              (focus rfl)
              (focus decide)
              intro K hK
              go_simp
              first
               | (refine hK _ ?_; clear hK K)
               | (apply Exists.intro
                  refine ⟨fun u => ?_, hK _ ?_⟩
                  (focus (unfold QP.oat; go_simp; first | done | exact ⟨rfl, rfl⟩ | exact rfl))
                  clear hK K)))
        apply QC.wpC_eff
        (focus rfl)
        (focus decide)
        go_wp2_with fail
        rw [HCX.out]
        refine (C12.out u).mono ?_
        rintro e u2 ⟨rfl, b2⟩
        have B2 := Lib.hid (NX.out _ _ BU.out b2)
        clear b2 C12 cu
        go_wp2
        refine QC.eff_ok rfl ?_ ?_
        · (repeat (first | exact QC.obl_nil | refine QC.obl_is (by assumption) ?_ | (apply QC.obl_dep; (focus decide))))
        iterate 5
          (first
           | (apply QC.wpC_load
              (focus rfl)
              (focus decide)
              (focus rfl)
              (focus rfl)
              (focus rfl)
              (focus (assumption))
              (focus (intro u hu; go_simp))
              intro K hK
              go_simp
              refine hK _ ?_
              clear hK K)
           | (apply QC.wpC_pure
              (focus rfl)
              (focus decide)
              intro K hK
              go_simp
              first
               | (refine hK _ ?_; clear hK K)
               | (apply Exists.intro
                  refine ⟨fun u => ?_, hK _ ?_⟩
                  (focus (unfold QP.oat; go_simp; first | done | exact ⟨rfl, rfl⟩ | exact rfl))
                  clear hK K)))
        refine QC.wpC_nil ?_
        go_wp2_with (first | (rw [EO.out]) | fail)
        go_roundg (len - (j + 1))
        case rel => exact ⟨j + 1, HREL.out, by first | rfl | go_num, rfl, B2.out⟩
        case measure => exact HMEA.out
      · have hsg : sg k j = j := by unfold sg; rw [if_neg hj0, if_neg hj2]
        have hsl2 : j < len := by omega
        obtain ⟨x, hx⟩ : ∃ x, f j = x := ⟨_, rfl⟩
        have hxs := SZ.out j
        rw [hx] at hxs
        have eO : ordB k (fun i => cutT (f i)) j ++ rcd j (cutT x) = ordB k (fun i => cutT (f i)) (j + 1) := by
          show _ = ordB k (fun i => cutT (f i)) j ++ rcd (sg k j) (cutT (f (sg k j)))
          rw [hsg, hx]
        have hmin : (if (200 : Int) < (x.size : Int) then (200 : Int) else (x.size : Int)) = (min x.size 200 : Nat) := by split <;> omega
        have hle1 : ((min x.size 200 : Nat) : Int) ≤ (x.size : Nat) := by omega
        have hcx : x.extract 0 (min x.size 200) = cutT x := rfl
        obtain ⟨mn, hmn⟩ : ∃ mn, min x.size 200 = mn := ⟨_, rfl⟩
        rw [hmn] at hmin hle1 hcx
        have HCX := Lib.hid hcx
        have C12 := Lib.hid (fun u => rput_any j (cutT x) u (by omega) (by have := cutT_size x; omega))
        have hzz : (ordB k (fun i => cutT (f i)) j).size + (rcd j (cutT x)).size ≤ 9223372036854775807 := by
          have h1 := ordB_le k (fun i => cutT (f i)) (fun i => cutT_size _) j
          have h2 := cutT_size x
          rw [rcd_size]; omega
        have EO := Lib.hid eO
        have uw : IntKind.u64.wrap (j : Int) = (j : Int) := by rw [IntKind.wrap_u64]; omega
        have hj1 : IntKind.i64.wrap ((j : Int) + 1) = ((j + 1 : Nat) : Int) := by rw [IntKind.wrap_i64]; omega
        have HX := Lib.hid hx; have HQL := Lib.hid hsl2
        clear eO hcx hsg hmn hx
        generalize rcd j (cutT x) = RR at *
        generalize cutT x = CT at *
        generalize ordB k (fun i => cutT (f i)) j = OB at *
        go_wp2
        refine QC.wp_region_d [13] [0, 1, 2, 3, 4, 5, 6, 7, 8, 9, 10, 11, 12, 13, 14, 15, 16, 17, 18] (by kernel_rfl) (by kernel_rfl) (fun u d => ?_)
        have BU := Lib.hid (BJ.out.trans (d.below (n := n)))
        have cu := CELL.out u BU.out j HQL.out
        rw [HX.out] at cu
        clear d
        iterate 13
          (first
           | (apply QC.wpC_load
              (focus rfl)
              (focus decide)
              (focus rfl)
              (focus rfl)
              (focus rfl)
              (focus (assumption))
              (focus (intro u hu; go_simp))
              intro K hK
              go_simp
              refine hK _ ?_
              clear hK K)
           | (apply QC.wpC_pure
              (focus rfl)
              (focus decide)
              intro K hK
              go_simp
              first
               | (refine hK _ ?_; clear hK K)
               | (apply Exists.intro
                  refine ⟨fun u => ?_, hK _ ?_⟩
                  (focus (unfold QP.oat; go_simp; first | done | exact ⟨rfl, rfl⟩ | exact rfl))
                  clear hK K)))
        apply QC.wpC_eff
        (focus rfl)
        (focus decide)
        go_wp2_with fail
        rw [HCX.out]
        refine (C12.out u).mono ?_
        rintro e u2 ⟨rfl, b2⟩
        have B2 := Lib.hid (NX.out _ _ BU.out b2)
        clear b2 C12 cu
        go_wp2
        refine QC.eff_ok rfl ?_ ?_
        · (repeat (first | exact QC.obl_nil | refine QC.obl_is (by assumption) ?_ | (apply QC.obl_dep; (focus decide))))
        iterate 5
          (first
           | (apply QC.wpC_load
              (focus rfl)
              (focus decide)
              (focus rfl)
              (focus rfl)
              (focus rfl)
              (focus (assumption))
              (focus (intro u hu; go_simp))
              intro K hK
              go_simp
              refine hK _ ?_
              clear hK K)
           | (apply QC.wpC_pure
              (focus rfl)
              (focus decide)
              intro K hK
              go_simp
              first
               | (refine hK _ ?_; clear hK K)
               | (apply Exists.intro
                  refine ⟨fun u => ?_, hK _ ?_⟩
                  (focus (unfold QP.oat; go_simp; first | done | exact ⟨rfl, rfl⟩ | exact rfl))
                  clear hK K)))
        refine QC.wpC_nil ?_
        go_wp2_with (first | (rw [EO.out]) | fail)
        go_roundg (len - (j + 1))
        case rel => exact ⟨j + 1, HREL.out, by first | rfl | go_num, rfl, B2.out⟩
        case measure => exact HMEA.out
    · have hj : j = len := by omega
      subst hj
      obtain ⟨R, hR⟩ := ordB_high k (fun i => cutT (f i)) (j - (k + 1))
      rw [show k + 1 + (j - (k + 1)) = j by omega] at hR
      have hzz := ordB_le k (fun i => cutT (f i)) (fun i => cutT_size _) j
      have RC := Lib.hid (recover_any (a := 0) (c := 2) HT.out H1.out (TS.out.same (HN.out ▸ BJ.out)) (fun y hy => by cases hy) (fun y hy => by cases hy) (fun y hy => by cases hy) (by decide) (by decide) (fl (fun i => cutT (f i)) k) (rcd (k + 1) (cutT (f (k + 1))) ++ R)
        (fun t ht => by
          unfold fl at ht
          obtain ⟨i, _, rfl⟩ := List.mem_map.1 ht
          have := cutT_size (f i); omega) (by rw [fl_len]; omega) (by rw [← hR]; omega) (by rw [fl_len]; exact ordB_bad k _ (fun i => cutT_size _) (by omega) R))
      rw [← hR, fl_len] at RC
      clear hR hzz hlt hg
      go_wp2_with fail
      refine (RC.out).mono ?_
      rintro e u ⟨g, ad, cp, rfl, jj⟩
      have JJ := Lib.hid jj
      clear jj
      go_wp2
      go_ret
      exact ⟨rfl, HN.out ▸ JJ.out.bel⟩
theorem tabs_of {w : World} {laid : List (String × DataW Unit)} (h : laidMet Tryd.prog laid w) (hb : ("remitter/digest.begin", Rows.laid_remitter_digest_begin) ∈ laid) (hk : ("remitter/digest.table", Rows.laid_remitter_digest_table) ∈ laid) : Tabs w := by
  have e1 : (Rows.laid_remitter_digest_begin : DataW Unit) = Lib.tabData .u32 ((List.range 8).map fun i => (Sha.begin0.get i : Int)) := by kernel_rfl
  have e2 : (Rows.laid_remitter_digest_table : DataW Unit) = Lib.tabData .u32 ((List.range 64).map fun i => (Sha.k i : Int)) := by kernel_rfl
  rw [e1] at hb
  rw [e2] at hk
  have g1 : Tryd.prog.globalNamed "remitter/digest.begin" = some 0 := by kernel_rfl
  have g2 : Tryd.prog.globalNamed "remitter/digest.table" = some 1 := by kernel_rfl
  have t1 := RowK.tab_get (t := 81) (e := 80) (len := 8) h hb g1 (by kernel_rfl) (by kernel_rfl) (by kernel_rfl) (by kernel_rfl) (by kernel_rfl)
  have t2 := RowK.tab_get (t := 88) (e := 80) (len := 64) h hk g2 (by kernel_rfl) (by kernel_rfl) (by kernel_rfl) (by kernel_rfl) (by kernel_rfl)
  refine ⟨fun j hj => ?_, fun j hj => ?_⟩
  · rw [t1.cell g1 j (by simpa using hj)]
    simp [List.getD_eq_getElem?_getD, hj]
  · rw [t2.cell g2 j (by simpa using hj)]
    simp [List.getD_eq_getElem?_getD, hj]
theorem walk_JournalOrder {H : Type} {enc : TypeId × Value → H} {W : World} {base : Nat} (v : Value) (d : DataW H) (p : List MemPlace) (hval : Value.okWide Tryd.prog W .any base 26 v)
    (h : DataW.Trod enc Tryd.prog W 0 (fun _ => true) true 26 v d p) (a1 : Int) (w1 : (Lit.int .u8 a1).wf = true) (hL : laidMetH Tryd.prog Rows.journalOrderRow.laid W) :
    Calls Tryd.prog 5 #[v, .int .u8 a1] W (Fine W) := by
  obtain ⟨A, cap, l, rfl, h1, h2, h3, h4⟩ := strs_of_trod hval h
  have hw := wf_u8 w1
  obtain ⟨m, rfl⟩ : ∃ m : Nat, a1 = (m : Nat) := ⟨a1.toNat, by omega⟩
  exact order_walk A cap l m W (tabs_of hL (by simp [Rows.journalOrderRow]) (by simp [Rows.journalOrderRow])) (by omega) h2 h1 h4 h3
end Go.Proofs.YtiilgkhndfnkgaaDoor
