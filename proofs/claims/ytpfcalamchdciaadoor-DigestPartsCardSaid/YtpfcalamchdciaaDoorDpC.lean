/- The walk of DigestParts; the condition is that the tables are laid. -/
import Derived.Test.YtpfcalamchdciaaDoorDpB
import Derived.Test.YtpfcalamchdciaaDoorRowSl
namespace Go.Proofs.YtpfcalamchdciaaDoor
open Go.RowKit Go.ChangeShapes Go.WideShapes
set_option linter.unusedVariables false

abbrev strs (s : ByteArray) : List Value := [.string s]
theorem none_to (w0 : World) : StrAt (World.alloc w0 (.cells #[.int .u32 0, .int .u32 0, .int .u32 0, .int .u32 0, .int .u32 0, .int .u32 0, .int .u32 0, .int .u32 0, .int .u64 0, .string ⟨#[]⟩] 46)) w0.heap.size ⟨#[]⟩ ⟨0, 0, 0, 0, 0, 0, 0, 0⟩ := by
  have h := M.RowAt.new w0 46 #[.int .u32 0, .int .u32 0, .int .u32 0, .int .u32 0, .int .u32 0, .int .u32 0, .int .u32 0, .int .u32 0, .int .u64 0, .string ⟨#[]⟩]
  exact ⟨h, by constructor <;> decide, fun h => absurd h (by decide)⟩

set_option maxRecDepth 100000 in
set_option maxHeartbeats 4000000 in
theorem parts_walk (A : Option Addr) (cap : Nat) (l : List ByteArray) (w : World) (hlen : l.length ≤ maxLen) (hsl : RowK.SlAt w 1 strs A l) (ht : Tabs w) :
    Calls Tryd.prog 8 #[.slice A l.length cap] w (Fine w) := by
  unfold maxLen at hlen
  obtain ⟨n, hn⟩ : ∃ n, w.heap.size = n := ⟨_, rfl⟩
  have HN := Lib.hid hn
  have h1n : 1 < n := hn ▸ ht.lt
  have tb := fun v (hb : Below n w v) => ht.below hb h1n
  have TB := Lib.hid tb
  have sh := fun v (hb : Below n w v) => shown_any v (tb v hb)
  have b0 : Below n w w := Below.refl _ _
  have nx : ∀ v v', Below n w v → Below v.heap.size v v' → Below n w v' := fun v v' h g => h.trans (g.mono (by rw [← hn]; exact h.size))
  have NX := Lib.hid nx
  have SH := Lib.hid sh
  obtain ⟨len, hl⟩ : ∃ len, l.length = len := ⟨_, rfl⟩
  have HL := Lib.hid hl
  rw [hl] at hlen ⊢
  by_cases hlong : 30 < len
  · have hd : decide ((30 : Int) < len) = true := by simp; omega
    have hd' : (30 : Int) < len := by omega
    clear tb sh ht hlong h1n hn nx hl hsl
    go_enter Tryd.func8, Tryd.ntmps8
    go_wp2_with fail
    refine (SH.out _ b0).mono ?_
    rintro e w' ⟨rfl, gq⟩
    have b1 := NX.out _ _ b0 gq
    go_wp2
    go_ret
    exact ⟨rfl, by rw [HN.out]; exact b1⟩
  · have hd : decide ((30 : Int) < len) = false := by simp; omega
    have hd' : ¬ (30 : Int) < len := by omega
    have hlen30 : len ≤ 30 := by omega
    clear tb sh ht hlong hn nx hl
    go_enter Tryd.func8, Tryd.ntmps8
    go_wp2_with fail
    refine (SH.out _ b0).mono ?_
    rintro e w1 ⟨rfl, gq⟩
    have b1 := NX.out _ _ b0 gq
    have hge : n ≤ w1.heap.size := by have := b1.size; rw [HN.out] at this; exact this
    have s0 := none_to w1
    have b2 := b1.alloc hge (.cells #[.int .u32 0, .int .u32 0, .int .u32 0, .int .u32 0, .int .u32 0, .int .u32 0, .int .u32 0, .int .u32 0, .int .u64 0, .string ⟨#[]⟩] 46)
    clear gq b0 b1
    go_wp2
    generalize w1.alloc (.cells #[.int .u32 0, .int .u32 0, .int .u32 0, .int .u32 0, .int .u32 0, .int .u32 0, .int .u32 0, .int .u32 0, .int .u64 0, .string ⟨#[]⟩] 46) = v0 at *
    generalize w1.heap.size = g at *
    go_loopg [4, 5] len (fun m sv i v => ∃ (k : Nat) (a : ByteArray) (s : Sha.St), m + k = len ∧ i = .int .i64 k ∧ sv = .string a ∧ a.size ≤ 200 * k ∧ StrAt v g a s ∧ Below n w v)
    case atStart => exact ⟨0, ⟨#[]⟩, _, by omega, rfl, rfl, by decide, s0, b2⟩
    case round =>
      clear s0 b2
      obtain ⟨k, a, s, hm, rfl, rfl, ha, hs, hb⟩ := hrel
      by_cases hlt : k < len
      · obtain ⟨b, off, rfl, hbl, hcs⟩ := hsl.at_ (i := k) (by rw [HL.out]; exact hlt)
        obtain ⟨x, hx⟩ : ∃ x, l[k]? = some x := ⟨_, List.getElem?_eq_getElem (by rw [HL.out]; exact hlt)⟩
        have hc := hcs k x hx 0 (.string x) rfl
        rw [Nat.mul_one, Nat.add_zero] at hc
        rw [HN.out] at hbl
        have hc1 : wr.cell? ⟨b, off + k, none⟩ = some (.string x) := by rw [hb.cell (show b < n from hbl)]; exact hc
        have HC := Lib.hid hc
        clear hc hcs hx
        have hd3 : (k : Int) < len := by omega
        have cells : ∀ v, Below n w v → v.cell? ⟨b, off + k, none⟩ = some (.string x) := fun v hv => by rw [hv.cell (show b < n from hbl)]; exact HC.out
        have CL := Lib.hid cells
        clear cells
        by_cases hxl : 200 < x.size
        · have hx' : decide ((200 : Int) < x.size) = true := by simp; omega
          go_wp2_with fail
          refine (SH.out _ hb).mono ?_
          rintro e w' ⟨rfl, gq⟩
          have b1 := NX.out _ _ hb gq
          go_wp2
          go_ret
          exact ⟨rfl, by rw [HN.out]; exact b1⟩
        · have hx' : decide ((200 : Int) < x.size) = false := by simp; omega
          have hx2 : ¬ (200 : Int) < x.size := by omega
          have cw := fun v (h : StrAt v g a s) (hv : Below n w v) => write_any g a x s v (TB.out v hv) h (by omega) (by omega) (by omega)
          have haz : (a ++ x).size = a.size + x.size := ByteArray.size_append
          have cs := fun v (h : StrAt v g (a ++ x) (sWords (a ++ x))) (hv : Below n w v) => ssum_any g (a ++ x) (sWords (a ++ x)) v (TB.out v hv) h (by omega)
          have cd := fun v (hv : Below n w v) => sum_any (a ++ x) v (TB.out v hv) (by omega)
          have heq := fun W => r8_eq (Sha.sum (a ++ x)) W
          have hfin : (a ++ x).size ≤ 200 * (k + 1) := by omega
          have hax : a.size + x.size ≤ 1000000 := by omega
          have CW := Lib.hid cw; have CS := Lib.hid cs; have CD := Lib.hid cd; have HF := Lib.hid hfin
          clear cw haz cs cd hfin
          generalize r8 32 (Sha.sum (a ++ x)) = D at *
          go_wp2_with fail
          refine (CW.out _ hs hb).mono ?_
          rintro e w2 ⟨rfl, s2, bt⟩
          have hgs := hs.lt
          have b2 := bt.below hb hge (by omega)
          have hc2 := CL.out _ b2
          clear hc1 hs hb bt hgs
          by_cases h3 : k % 3 = 0
          · have h3' : (((k : Int) % 3) == 0) = true := by have : (k : Int) % 3 = 0 := by omega
                                                           simpa using this
            go_wp2_with fail
            refine (CS.out _ s2 b2).mono ?_
            rintro e w3 ⟨rfl, gq⟩
            have s3 := s2.same gq
            have b3 := NX.out _ _ b2 gq
            clear s2 b2 gq hc2
            go_wp2_with fail
            refine (CD.out _ b3).mono ?_
            rintro e w4 ⟨rfl, gq⟩
            have s4 := s3.same gq
            have b4 := NX.out _ _ b3 gq
            clear s3 b3 gq
            go_wp2
            go_roundg (len - (k + 1))
            case measure => omega
            case rel => exact ⟨k + 1, _, _, by omega, by go_num, rfl, HF.out, s4, b4⟩
          · have h3' : (((k : Int) % 3) == 0) = false := by have : (k : Int) % 3 ≠ 0 := by omega
                                                            simpa using this
            go_wp2
            go_roundg (len - (k + 1))
            case measure => omega
            case rel => exact ⟨k + 1, _, _, by omega, by go_num, rfl, HF.out, s2, b2⟩
      · obtain rfl : k = len := by omega
        have cs := fun v (h : StrAt v g a s) (hv : Below n w v) => ssum_any g a s v (TB.out v hv) h (by omega)
        have cd := fun v (hv : Below n w v) => sum_any a v (TB.out v hv) (by omega)
        have cr := fun v => rsum_any a v (by omega)
        have heq := fun W => r8_eq (Sha.sum a) W
        have CS := Lib.hid cs; have CD := Lib.hid cd; have CR := Lib.hid cr
        clear cs cd cr
        generalize r8 32 (Sha.sum a) = D at *
        go_wp2_with fail
        refine (CS.out _ hs hb).mono ?_
        rintro e w2 ⟨rfl, gq⟩
        have s2 := hs.same gq
        have b2 := NX.out _ _ hb gq
        clear hs hb gq
        go_wp2_with fail
        refine (CR.out _).mono ?_
        rintro e w3 ⟨rfl, gq⟩
        have s3 := s2.same gq
        have b3 := NX.out _ _ b2 gq
        clear s2 b2 gq
        go_wp2_with fail
        refine (CS.out _ s3 b3).mono ?_
        rintro e w4 ⟨rfl, gq⟩
        have s4 := s3.same gq
        have b4 := NX.out _ _ b3 gq
        clear s3 b3 gq
        go_wp2_with fail
        refine (CD.out _ b4).mono ?_
        rintro e w5 ⟨rfl, gq⟩
        have b5 := NX.out _ _ b4 gq
        clear s4 b4 gq
        go_wp2
        go_ret
        exact ⟨rfl, by rw [HN.out]; exact b5⟩

set_option maxRecDepth 100000 in
theorem walk_DigestParts {H : Type} {enc : TypeId × Value → H} {W : World} {base : Nat} (v : Value) (d : DataW H) (p : List MemPlace) (hval : Value.okWide Tryd.prog W .any base 43 v)
    (h : DataW.Trod enc Tryd.prog W 0 (fun _ => true) true 43 v d p) (hL : laidMetH Tryd.prog Rows.digestPartsRow.laid W) : Calls Tryd.prog 8 #[v] W (Fine W) := by
  obtain ⟨A, cap, l, rfl, h1, h2, h3, h4⟩ := RowK.sl_of_trod strs (fun s => s.size ≤ maxLen) Tryd.underlying43 (size := 1) (by kernel_rfl) (by decide) (fun n cs y _ hy => RowK.str_of Tryd.underlying9 hy) hval h
  exact parts_walk A cap l W (by omega) h4 (tabs_of hL (by simp [Rows.digestPartsRow]) (by simp [Rows.digestPartsRow]))
end Go.Proofs.YtpfcalamchdciaaDoor
