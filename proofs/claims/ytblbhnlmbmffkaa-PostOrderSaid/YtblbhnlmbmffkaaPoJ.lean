/- The walk of PostOrder; the condition is that the row of numbers is known. -/
import Derived.Test.YtblbhnlmbmffkaaPoI
import Derived.Deep.QuietTactic
import Derived.BigQuiet
namespace Go.Proofs.Ytblbhnlmbmffkaa
open Go.RowKit
set_option linter.unusedVariables false

theorem wrap_u16 (z : Int) : IntKind.u16.wrap z = z % 65536 := by rw [IntKind.wrap_u16]
theorem lt3 {k : Nat} (h : k < 3) : (k : Int) < 3 := by omega

set_option maxRecDepth 100000 in
set_option maxHeartbeats 8000000 in
theorem order_walk (pa : Option Addr) (len cap : Nat) (zs : List Int) (w : World) (hrow : RowK.IsRow .i16 w pa len cap zs) (hl : len ≤ 300) :
    Calls Try.prog 3 #[.slice pa len cap] w (Fine w) := by
  obtain ⟨b, off, r1, r2, r3, r4, r5, r6, r7⟩ := hrow.plain
  obtain ⟨n, hn⟩ : ∃ n, w.heap.size = n := ⟨_, rfl⟩
  have HN := Lib.hid hn
  have sh := fun v => shown_any v
  have nw := fun v => new_yes 3 (by decide) (by decide) v
  have cell : ∀ j, j < len → ∃ z : Int, pa = some ⟨b, off, none⟩ ∧ ∀ v, Below n w v → v.cell? ⟨b, off + j, none⟩ = some (.int .i16 z) := fun j hj => by
    refine ⟨zs.getD j 0, r2.resolve_left (by omega), fun v hv => ?_⟩
    rw [hv.cell (p := ⟨b, off + j, none⟩) (by show b < n; rw [← hn]; exact r1.resolve_left (by omega)), r6 j hj]
  have SH := Lib.hid sh; have NW := Lib.hid nw; have CELL := Lib.hid cell
  have d1 : decide ((300 : Int) < (len : Int)) = false := by simp; omega
  have d1' : decide (300 < len) = false := by simp; omega
  have e27 : (#[.slice none 0 0, .slice none 0 0, .slice none 0 0] : Array Value) = rowG 3 (fun _ => .slice none 0 0) := rfl
  obtain ⟨i0, hi, hz0, hz1, hz2⟩ := info_parts info3
  clear sh nw cell r1 r2 r3 r4 r5 r6 r7 hrow
  go_enter Try.func3, Try.ntmps3
  go_wp2_with fail
  refine (SH.out _).mono ?_
  rintro e w1 ⟨rfl, g1⟩
  go_wp2_with fail
  refine (NW.out _).mono ?_
  rintro e w2 ⟨rfl, pt, g2⟩
  obtain ⟨q, hq⟩ : ∃ q, w1.heap.size = q := ⟨_, rfl⟩
  have hnq : n ≤ q := by rw [← hq, ← hn]; exact g1.size
  rw [hq] at pt g2
  have hb : Below n w w2 := by
    have := g1
    rw [hn] at this
    exact this.trans (g2.mono hnq)
  rw [hq]
  obtain ⟨s, hs⟩ : ∃ s, w2.heap.size = s := ⟨_, rfl⟩
  have hqs : q + 1 < s := hs ▸ pt.ltp
  have ow : OW n q s w (fun _ => bx0) (fun _ => .slice none 0 0) (fun _ => []) (w2.alloc (.cells #[.slice none 0 0, .slice none 0 0, .slice none 0 0] 27)) := by
    refine ⟨pt.alloc _, ?_, fun k hk => World.ownsRow_nil _ _ _ _, fun i j _ _ _ => .inl rfl, hb.alloc (by omega) _, hqs, hnq⟩
    rw [e27, ← hs]; exact M.RowAt.new _ _ _
  have SZ := Lib.hid Sent.zero
  clear g1 g2 hq hn hb pt e27
  go_wp2
  clear hs
  go_loopg [5] len (fun m i x => ∃ (k : Nat) (E : Nat → Bx) (v : Nat → Value) (L : Nat → List Nat), m + k = len ∧ i = .int .i64 k ∧ Hid (Sent E L) ∧ OW n q s w E v L x)
  case atStart => exact ⟨0, _, _, _, by omega, rfl, SZ, ow⟩
  case round =>
    clear ow SZ
    obtain ⟨k, E, v, L, hm, rfl, st, ow⟩ := hrel
    have HM := Lib.hid hm
    by_cases hlt : k < len
    · obtain ⟨z, rfl, cz⟩ := CELL.out k hlt
      have cz0 := cz _ ow.bel
      have CZ := Lib.hid cz
      obtain ⟨y, hy⟩ := Int.eq_ofNat_of_zero_le (Int.emod_nonneg z (show (65536 : Int) ≠ 0 by decide))
      have hyw : IntKind.u16.wrap z = (y : Int) := by rw [wrap_u16, hy]
      have hy6 : y < 65536 := by have := Int.emod_lt_of_pos z (show (0 : Int) < 65536 by decide); omega
      have HY6 := Lib.hid hy6
      have hyi : IntKind.i64.wrap (y : Int) = (y : Int) := IntWalk.i64_in _ (by omega)
      obtain ⟨t, ht⟩ : ∃ t, y % 3 = t := ⟨_, rfl⟩
      have ht3 : t < 3 := by omega
      have e1 : (y : Int) % 3 = (t : Int) := by omega
      have e2 : Int.tmod (y : Int) 3 = (t : Int) := by rw [← ht]; rfl
      have ti : (t : Int) < 3 := by omega
      have okE := ow.pt.ok
      have hmany := st.out.many ht3
      have h8 := (okE t).many
      rw [hmany] at h8
      obtain ⟨a, cp, hv, hcel⟩ := ow.val ht3
      have cS := ow.cell ht3
      rw [hv] at cS
      have HCEL := Lib.hid hcel
      have HV := Lib.hid hv
      have cSf := ow.fr t
      by_cases hzz : 0 ≤ z
      · have dz : decide (0 ≤ z) = true := by simp [hzz]
        have send : ∀ x, Pt (q + 1) q 3 E x → Calls Try.prog 9 #[.pointer (some ⟨q + 1, 0, none⟩), .agg #[.int .i64 (t : Nat), .int .i64 0, .int .i64 (k : Nat), .string ⟨#[]⟩]] x fun e x' => e = .returned (.int .i64 (sendR 3 E (t : Nat))) ∧ M.RowAt x' q 76 (boC (sendB 3 E ⟨(t : Nat), 0, (k : Nat), ⟨#[]⟩⟩) 3) ∧ M.But q x x' := fun x c => send_any c ⟨(t : Nat), 0, (k : Nat), ⟨#[]⟩⟩
        have oks := send_ok (nb := 3) (x := ⟨(t : Nat), 0, (k : Nat), ⟨#[]⟩⟩) okE
        by_cases h8e : (L t).length = 8
        · have hR := st.out.send_no ht3 h8e
          have hE : sendB 3 E ⟨(t : Nat), 0, (k : Nat), ⟨#[]⟩⟩ = E := by unfold sendB; rw [show (⟨(t : Nat), 0, (k : Nat), ⟨#[]⟩⟩ : Lt).to = (t : Int) from rfl, hR, if_neg (by decide)]
          rw [hR, hE] at send
          rw [h8e] at cS
          have SEND := Lib.hid send
          have OKE := Lib.hid okE
          clear send oks hR hE hm hmany h8 hv hcel cz okE
          go_wp2_with fail
          refine (SEND.out _ ow.pt).mono ?_
          rintro e w3 ⟨rfl, hr3, hb3⟩
          have ow3 := ow.call hb3 hr3 OKE.out
          have cS3 := ow3.cell ht3
          rw [HV.out, h8e] at cS3
          clear hr3 hb3 ow cS cz0 cSf
          go_wp2
          go_roundg (len - (k + 1))
          case measure => have := HM.out; omega
          case rel => exact ⟨k + 1, E, v, L, by have := HM.out; omega, by go_num, st, ow3⟩
        · have hR := st.out.send_yes ht3 h8e
          have st2 := Lib.hid (st.out.send okE ht3 h8e k)
          rw [hR] at send
          generalize sendB 3 E ⟨(t : Nat), 0, (k : Nat), ⟨#[]⟩⟩ = E2 at *
          obtain ⟨l, hll⟩ : ∃ l, (L t).length = l := ⟨_, rfl⟩
          rw [hll] at cS h8 h8e HV HCEL
          have dl : decide ((l : Int) < 8) = true := by simp; omega
          have dl' : decide (l < 8) = true := by simp; omega
          have SEND := Lib.hid send
          have OKS := Lib.hid oks
          have HLL := Lib.hid hll
          clear send oks hR hm hmany hv hcel cz okE hll
          go_wp2_with fail
          refine (SEND.out _ ow.pt).mono ?_
          rintro e w3 ⟨rfl, hr3, hb3⟩
          have ow3 := ow.call hb3 hr3 OKS.out
          have cS3 := ow3.cell ht3
          rw [HV.out] at cS3
          have ow4 := ow3.alloc (.cells #[.int .i64 (k : Nat)] 3)
          have own := ow4.own t ht3
          rw [HV.out, HLL.out] at own
          have hc : ∀ j u, ([.int .i64 (k : Nat)] : List Value)[j]? = some u → (w3.alloc (.cells #[.int .i64 (k : Nat)] 3)).cell? ((⟨w3.heap.size, 0, none⟩ : Addr).add j) = some u := fun j u hu => by
            rw [Addr.add_mid, Nat.zero_add, M.RowAt.cell (M.RowAt.new w3 3 _), ← Array.getElem?_toList]
            exact hu
          have h1c : ∀ u ∈ ([.int .i64 (k : Nat)] : List Value), u.oneCell' = true := fun u hu => by
            simp at hu; subst hu; rfl
          have hge : s + 1 ≤ (w3.alloc (.cells #[.int .i64 (k : Nat)] 3)).heap.size := by
            have := ow3.row.lt; simp; omega
          have HC := Lib.hid hc; have H1C := Lib.hid h1c; have OWN := Lib.hid own; have HGE := Lib.hid hge; have OW4 := Lib.hid ow4
          clear hr3 hb3 ow cS cz0 cSf hc h1c own hge ow4 ow3
          go_wp2_with (at_builtin; refine wpList_append_sep2 _ rfl (.tmp 66) (.tmp 68) 26 rfl (s + 1) 3 i0 _ 1 8 Try.underlying26 hi hz0 hz1 hz2 rfl (by decide) (.slice a l cp) l _ ?a1 OWN.out ⟨w3.heap.size, 0, none⟩ 1 1 [.int .i64 (k : Nat)] ?a2 rfl HC.out H1C.out (by decide) (by unfold maxLen; omega) (by omega) HGE.out ?_)
          case a1 => rfl
          case a2 => rfl
          intro u w4 ho hg hs4
          rw [← HV.out] at hg hs4
          obtain ⟨cS4, fS4⟩ := OW4.out.app_cell ht3 hg
          rw [HV.out] at cS4
          obtain ⟨ua, uc, rfl⟩ := own_slice ho
          have HO := Lib.hid ho; have HG4 := Lib.hid hg; have HS4 := Lib.hid hs4
          clear ho hg hs4
          go_wp2
          have ho2 : w4.ownsRow (s + 1) 3 1 (.slice ua (l + 1) uc) (L t ++ [k]).length (ints (L t ++ [k])) := by
            have e1 : (L t ++ [k]).length = l + 1 := by rw [List.length_append, HLL.out]; rfl
            have e2 : ints (L t ++ [k]) = ints (L t) ++ [.int .i64 (k : Nat)] := by unfold ints; rw [List.map_append]; rfl
            rw [e1, e2]; exact HO.out
          have ow5 := OW4.out.app ht3 HG4.out ho2 (HS4.out.imp id fun h g hg => by simpa using h g hg)
          clear ho2 cS4 fS4 cS3
          go_roundg (len - (k + 1))
          case measure => have := HM.out; omega
          case rel => exact ⟨k + 1, E2, _, _, by have := HM.out; omega, by go_num, st2, ow5⟩
      · have dz : decide (0 ≤ z) = false := by simp; omega
        have take := fun x (c : Pt (q + 1) q 3 E x) => takep_any c (t : Nat)
        cases hLt : L t with
        | nil =>
          obtain ⟨hR, hE, hX⟩ := st.out.take_no ht3 hLt
          rw [hR, hE, hX, show lt0.row = #[.int .i64 0, .int .i64 0, .int .i64 0, .string ⟨#[]⟩] from rfl] at take
          rw [hLt, show ([] : List Nat).length = 0 from rfl] at cS HV
          have TAKE := Lib.hid take
          have OKE := Lib.hid okE
          clear take hR hE hX hm hmany h8 hv hcel cz okE hLt
          go_wp2_with fail
          refine (TAKE.out _ ow.pt).mono ?_
          rintro e w3 ⟨rfl, hr3, hb3⟩
          have ow3 := ow.call hb3 hr3 OKE.out
          have cS3 := ow3.cell ht3
          rw [HV.out] at cS3
          have ow4 := ow3.alloc (.cells #[.int .i64 0, .int .i64 0, .int .i64 0, .string ⟨#[]⟩] 33)
          have OW4 := Lib.hid ow4
          have hs3 := ow3.row.lt
          clear hr3 hb3 ow cS cz0 cSf ow4 ow3
          go_wp2
          go_roundg (len - (k + 1))
          case measure => have := HM.out; omega
          case rel => exact ⟨k + 1, E, v, L, by have := HM.out; omega, by go_num, st, OW4.out⟩
        | cons a0 r =>
          obtain ⟨hR, hX, hst⟩ := st.out.take_yes okE ht3 hLt
          have okt := take_okE (nb := 3) (x := (t : Nat)) okE
          rw [hR, hX] at take
          generalize takeE 3 E (t : Nat) = E2 at *
          have hlen : (L t).length = r.length + 1 := by rw [hLt]; rfl
          have TAKE0 : ∀ x, Pt (q + 1) q 3 E x → Calls Try.prog 10 #[.pointer (some ⟨q + 1, 0, none⟩), .int .i64 (t : Nat)] x fun e x' => e = .returned (.tuple #[.agg #[.int .i64 (t : Nat), .int .i64 0, .int .i64 (a0 : Nat), .string ⟨#[]⟩], .int .i64 0]) ∧ M.RowAt x' q 76 (boC E2 3) ∧ M.But q x x' := take
          have TAKE := Lib.hid TAKE0
          have OKT := Lib.hid okt
          have ST2 := Lib.hid hst
          have HLEN := Lib.hid hlen
          have HLT := Lib.hid hLt
          obtain ⟨g, ha, _⟩ := hcel 0 (by omega)
          have hcp := (ow.own t ht3).2
          have hcp1 : r.length + 1 ≤ cp := by
            rcases hcp with ⟨h1, h2⟩ | ⟨g', c', cur, h1, _, _, h4, _⟩
            · omega
            · rw [hv] at h1; cases h1; omega
          subst ha
          rw [hlen] at cS HV
          obtain ⟨m, hmr⟩ : ∃ m, r.length = m := ⟨_, rfl⟩
          rw [hmr] at cS HV HLEN hcp1
          have h8m : m + 1 ≤ 8 := by omega
          have HMR := Lib.hid hmr
          clear take TAKE0 okt hst hlen hLt hR hX hm hmany h8 hv hcel cz okE hcp hmr
          go_wp2_with fail
          refine (TAKE.out _ ow.pt).mono ?_
          rintro e w3 ⟨rfl, hr3, hb3⟩
          have ow3 := ow.call hb3 hr3 OKT.out
          have hs3 := ow3.row.lt
          obtain ⟨h3, hh3⟩ : ∃ h3, w3.heap.size = h3 := ⟨_, rfl⟩
          have hh3s : s < h3 := by omega
          have ow4 := ow3.alloc (.cells #[.int .i64 (t : Nat), .int .i64 0, .int .i64 (a0 : Nat), .string ⟨#[]⟩] 33)
          have rx := M.RowAt.new w3 33 #[.int .i64 (t : Nat), .int .i64 0, .int .i64 (a0 : Nat), .string ⟨#[]⟩]
          rw [hh3] at rx
          obtain ⟨V, hV⟩ : ∃ V, w3.alloc (.cells #[.int .i64 (t : Nat), .int .i64 0, .int .i64 (a0 : Nat), .string ⟨#[]⟩] 33) = V := ⟨_, rfl⟩
          rw [hV] at ow4 rx
          have cS4 := ow4.cell ht3
          rw [HV.out] at cS4
          have x0 : V.cell? ⟨h3, 0, none⟩ = some (.int .i64 (t : Nat)) := (rx.cell 0).trans rfl
          have x2 : V.cell? ⟨h3, 2, none⟩ = some (.int .i64 (a0 : Nat)) := (rx.cell 2).trans rfl
          have own4 := ow4.own t ht3
          have cl := fun j u => own4.cells (g := g) (by rw [HV.out]; rfl) j u
          have g0 : V.cell? ⟨g, 0, none⟩ = some (.int .i64 (a0 : Nat)) := by
            have := cl 0 (.int .i64 (a0 : Nat)) (by rw [HLT.out]; rfl)
            rwa [Addr.add_mid] at this
          have VH := Lib.hid hV
          have OW4 := Lib.hid ow4
          have CL := Lib.hid cl
          clear hr3 hb3 ow cS cz0 cSf ow4 ow3 own4 cl hV rx
          go_wp2_with (first | (rw [VH.out]) | fail)
          go_quiet (fail)
          have ow5 := OW4.out.drewN nq
          have cS5 : (V.drewN nq).cell? ⟨s, t, none⟩ = some (.slice (some ⟨g, 0, none⟩) (m + 1) cp) := cS4
          have cl5 : ∀ j u, (ints (L t))[j]? = some u → (V.drewN nq).cell? ((⟨g, 0, none⟩ : Addr).add j) = some u := CL.out
          obtain ⟨V5, hV5⟩ : ∃ V5, V.drewN nq = V5 := ⟨_, rfl⟩
          rw [hV5] at ow5 cS5 cl5
          rw [hV5]
          clear hV5 OW4 CL cS4 x0 x2 g0 VH
          have ow6 := ow5.alloc (.cells #[] 3)
          have cS6 := ow6.cell ht3
          rw [HV.out] at cS6
          have hs5 := ow5.row.lt
          have fS5 := ow5.fr t; have fS6 := ow6.fr t
          have own0 : (V5.alloc (.cells #[] 3)).ownsRow (s + 1) 3 1 (.slice (some ⟨V5.heap.size, 0, none⟩) 0 0) 0 [] := ⟨rfl, .inr ⟨_, 0, #[], rfl, by omega, M.RowAt.new V5 3 #[], Nat.le_refl _, by unfold maxLen; omega, rfl, rfl⟩⟩
          have OW5 := Lib.hid ow5; have OW6 := Lib.hid ow6; have OWN0 := Lib.hid own0; have CL5 := Lib.hid cl5
          clear ow5 own0 cl5 ow6
          have e1 : r.length = m := HMR.out
          by_cases hc1 : cp = 1
          · subst hc1
            have hr0 : r = [] := List.length_eq_zero_iff.1 (by omega)
            have hgr : V5.grownBy (V5.alloc (.cells #[] 3)) (v t).ownBlock := World.grownBy_alloc V5 _ _
            have ow7 := OW5.out.app ht3 hgr (l := r) (u := .slice (some ⟨V5.heap.size, 0, none⟩) 0 0) (by rw [hr0]; exact OWN0.out) (.inr fun g' hg' => by cases hg'; exact Nat.le_refl _)
            rw [World.setCell_alloc_past _ _ _ _ hs5] at ow7
            have OW7 := Lib.hid ow7
            clear ow7 hgr hr0 e1
            go_wp2
            go_roundg (len - (k + 1))
            case measure => have := HM.out; omega
            case rel => exact ⟨k + 1, E2, _, _, by have := HM.out; omega, by go_num, ST2, OW7.out⟩
          · have hcell : ∀ j u, (ints r)[j]? = some u → (V5.alloc (.cells #[] 3)).cell? ((⟨g, 1, none⟩ : Addr).add j) = some u := fun j u hu => by
              have := CL5.out (j + 1) u (by rw [HLT.out]; unfold ints at hu ⊢; simpa using hu)
              rw [Addr.add_mid] at this ⊢
              have hgl := (OW6.out.gt ht3 g (by rw [HV.out]; rfl)).2
              have hlt5 := World.block_lt_of_cell? V5 _ this
              rw [((Below.refl _ V5).alloc (Nat.le_refl _) (.cells #[] 3)).cell (p := ⟨g, 1 + j, none⟩) hlt5]
              rw [show 1 + j = 0 + (j + 1) by omega]; exact this
            have hone : ∀ u ∈ ints r, u.oneCell' = true := fun u hu => by
              unfold ints at hu
              obtain ⟨y, _, rfl⟩ := List.mem_map.1 hu; rfl
            have hge : s + 1 ≤ (V5.alloc (.cells #[] 3)).heap.size := by simp; omega
            have hil : (ints r).length = m * 1 := by rw [ints_len, e1, Nat.mul_one]
            have HCC := Lib.hid hcell; have HON := Lib.hid hone; have HGE := Lib.hid hge; have HIL := Lib.hid hil; have E1 := Lib.hid e1
            clear hcell hone hge hil e1
            go_wp2_with (at_builtin; refine wpList_append_sep3 _ rfl (.tmp 103) (.tmp 107) 26 rfl (s + 1) 3 i0 _ 1 8 Try.underlying26 hi hz0 hz1 hz2 rfl (by decide) V5.heap.size 0 0 [] ?a1 OWN0.out ⟨g, 1, none⟩ m (cp - 1) (ints r) ?a2 HIL.out HCC.out HON.out (by unfold maxLen; omega) (by omega) HGE.out ?_)
            case a1 => rfl
            case a2 => rfl
            intro u w4 ho hg hs4
            have hg5 : V5.grownBy w4 (v t).ownBlock := ⟨hg.os, hg.tape, hg.output, Nat.le_trans (by simp) hg.size, fun j hj _ => by
              rw [hg.block j (by simp; omega) (fun e => by cases e; omega)]
              exact ((Below.refl _ V5).alloc (Nat.le_refl _) (.cells #[] 3)).block j hj⟩
            obtain ⟨cS7, fS7⟩ := OW5.out.app_cell ht3 hg5
            rw [HV.out] at cS7
            obtain ⟨ua, uc, rfl⟩ := own_slice ho
            have ow7 := OW5.out.app ht3 hg5 (l := r) (u := .slice ua m uc) (by rw [E1.out]; exact ho) (by
              rcases hs4 with h | h
              · exact .inr fun g' hg' => by rw [h] at hg'; cases hg'; exact Nat.le_refl _
              · exact .inr fun g' hg' => Nat.le_trans (by simp) (h g' hg'))
            have OW7 := Lib.hid ow7
            clear ow7 ho hg hs4 hg5
            go_wp2
            go_roundg (len - (k + 1))
            case measure => have := HM.out; omega
            case rel => exact ⟨k + 1, E2, _, _, by have := HM.out; omega, by go_num, ST2, OW7.out⟩
    · obtain rfl : k = len := by omega
      have al := fun x (c : OW n q s w E v L x) => all_any c.pt
      rw [st.out.sum] at al
      obtain ⟨a0, p0, hv0, _⟩ := ow.val (show 0 < 3 by decide)
      obtain ⟨a1, p1, hv1, _⟩ := ow.val (show 1 < 3 by decide)
      obtain ⟨a2, p2, hv2, _⟩ := ow.val (show 2 < 3 by decide)
      have cc : ∀ x, OW n q s w E v L x → x.cell? ⟨s, 0, none⟩ = some (.slice a0 (L 0).length p0) ∧ x.cell? ⟨s, 1, none⟩ = some (.slice a1 (L 1).length p1) ∧ x.cell? ⟨s, 2, none⟩ = some (.slice a2 (L 2).length p2) := fun x c => by
        rw [c.cell (show 0 < 3 by decide), c.cell (show 1 < 3 by decide), c.cell (show 2 < 3 by decide), hv0, hv1, hv2]; exact ⟨rfl, rfl, rfl⟩
      have m0 := st.out.many (show 0 < 3 by decide); have m1 := st.out.many (show 1 < 3 by decide); have m2 := st.out.many (show 2 < 3 by decide)
      have k0 := (ow.pt.ok 0).many; have k1 := (ow.pt.ok 1).many; have k2 := (ow.pt.ok 2).many
      rw [m0] at k0
      rw [m1] at k1
      rw [m2] at k2
      generalize (L 0).length = l0 at *
      generalize (L 1).length = l1 at *
      generalize (L 2).length = l2 at *
      have q1 : IntKind.i64.wrap ((l0 : Int) + (l1 : Int)) = (l0 : Int) + (l1 : Int) := IntWalk.i64_in _ (by omega)
      have q2 : IntKind.i64.wrap ((l0 : Int) + (l1 : Int) + (l2 : Int)) = (l0 : Int) + (l1 : Int) + (l2 : Int) := IntWalk.i64_in _ (by omega)
      have e3 : (((l0 + l1 + l2 : Nat)) : Int) = (l0 : Int) + (l1 : Int) + (l2 : Int) := by omega
      rw [e3] at al
      have AL := Lib.hid al; have CC := Lib.hid cc
      clear al cc hv0 hv1 hv2 m0 m1 m2 k0 k1 k2 hm e3 st
      go_wp2_with fail
      refine QP.wp_region_p 13 (OW n q s w E v L) (OW n q s w E v L) (by kernel_rfl) (by kernel_rfl) ow.drew ?_
      iterate 15
        (refine QP.wpQ_step (fun K hK => ?_)
         go_simp
         first
           | (refine hK _ ?_; clear hK K)
           | (refine ⟨?_, hK _ ?_⟩; decide; clear hK K)
           | ((first | (apply Exists.intro; refine ⟨?_, hK _ ?_⟩) | refine ⟨⟨undef, ?_⟩, hK _ ?_⟩)
              first
                | (apply QP.al_p; decide; (focus (intro wq hq; (first | (obtain ⟨c0, c1, c2⟩ := CC.out _ hq) | skip); first | (fail) | (unfold QP.oat; go_simp; first | done | exact ⟨by assumption, rfl⟩ | exact rfl | assumption | (((with_reducible refine (AL.out _ hq).mono ?_); rintro e w' ⟨rfl, rfl⟩; exact ⟨rfl, hq⟩))))))
                | (apply QP.al_dep; decide; decide; (focus (intro wq hq; (first | (obtain ⟨c0, c1, c2⟩ := CC.out _ hq) | skip); first | (fail) | (unfold QP.oat; go_simp; first | done | exact ⟨by assumption, rfl⟩ | exact rfl | assumption | (((with_reducible refine (AL.out _ hq).mono ?_); rintro e w' ⟨rfl, rfl⟩; exact ⟨rfl, hq⟩))))))
                | (apply QP.al_bef; decide; decide; (focus (intro wq hq; (first | (obtain ⟨c0, c1, c2⟩ := CC.out _ hq) | skip); first | (fail) | (unfold QP.oat; go_simp; first | done | exact ⟨by assumption, rfl⟩ | exact rfl | assumption | (((with_reducible refine (AL.out _ hq).mono ?_); rintro e w' ⟨rfl, rfl⟩; exact ⟨rfl, hq⟩))))))
                | (apply QP.al_ok; decide; (focus (intro wq hq; (first | (obtain ⟨c0, c1, c2⟩ := CC.out _ hq) | skip); first | (fail) | (unfold QP.oat; go_simp; first | done | exact ⟨by assumption, rfl⟩ | exact rfl | assumption | (((with_reducible refine (AL.out _ hq).mono ?_); rintro e w' ⟨rfl, rfl⟩; exact ⟨rfl, hq⟩))))); (focus (intro wq hq; (first | (obtain ⟨c0, c1, c2⟩ := CC.out _ hq) | skip); first | (fail) | (unfold QP.oat; go_simp; first | done | exact ⟨by assumption, rfl⟩ | exact rfl | assumption | (((with_reducible refine (AL.out _ hq).mono ?_); rintro e w' ⟨rfl, rfl⟩; exact ⟨rfl, hq⟩))))))
              clear hK K))
      refine QP.wpQ_nil ?_
      intro wz bz
      go_wp2
      go_ret
      exact ⟨rfl, by rw [HN.out]; exact bz.bel⟩

theorem order_long (pa : Option Addr) (len cap : Nat) (w : World) (hl : ¬ len ≤ 300) : Calls Try.prog 3 #[.slice pa len cap] w (Fine w) := by
  have sh := fun v => shown_any v
  have SH := Lib.hid sh
  have d1 : decide ((300 : Int) < (len : Int)) = true := by simp; omega
  have d1' : decide (300 < len) = true := by simp; omega
  clear sh
  go_enter Try.func3, Try.ntmps3
  go_wp2_with fail
  refine (SH.out _).mono ?_
  rintro e w1 ⟨rfl, g1⟩
  go_wp2
  go_ret
  exact ⟨rfl, g1⟩
theorem walk_PostOrder (b0 : Option Addr) (len0 cap0 : Nat) (z0 : List Int) {W : World} (w0 : RowK.IsRow .i16 W b0 len0 cap0 z0) :
    Calls Try.prog 3 #[.slice b0 len0 cap0] W (Fine W) := by
  by_cases h : len0 ≤ 300
  · exact order_walk b0 len0 cap0 z0 W w0 h
  · exact order_long b0 len0 cap0 W h
end Go.Proofs.Ytblbhnlmbmffkaa
