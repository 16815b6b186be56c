/- The walk of PostActs; no conditions but the bound of the document. -/
import Derived.Test.YtblbhnlmbmffkaaPoQ
import Derived.Test.YtblbhnlmbmffkaaPoG
import Derived.Deep.QuietTactic
import Derived.BigQuiet
namespace Go.Proofs.Ytblbhnlmbmffkaa
open Go.RowKit
set_option linter.unusedVariables false

theorem close_len {E : Nat → Bx} (ok : ∀ k, BxOk (E k)) (nb : Nat) (x : Int) : (closeL nb E x).length ≤ 8 := by
  unfold closeL
  split
  · rw [bl_len]; exact (ok _).many
  · exact Nat.zero_le _
set_option maxRecDepth 100000 in
set_option maxHeartbeats 8000000 in
theorem acts_walk (nb : Nat) (h1 : 1 ≤ nb) (h64 : nb ≤ 64) (A : Option Addr) (cap2 : Nat) (l : List Ac) (w : World) (hsl : RowK.SlAt w 5 Ac.cells A l) (hok : ∀ x ∈ l, x.ok) (hl : l.length ≤ 200) :
    Calls Try.prog 5 #[.int .i64 (nb : Nat), .slice A l.length cap2] w (Fine w) := by
  obtain ⟨n, hn⟩ : ∃ n, w.heap.size = n := ⟨_, rfl⟩
  have HN := Lib.hid hn
  have nw := fun v => new_yes nb h1 h64 v
  have rnw := fun v => rnew_yes nb h1 h64 v
  have sh := fun v => shown_any v
  have acts : ∀ k x, l[k]? = some x → ∃ b off, A = some ⟨b, off, none⟩ ∧ b < n ∧ ∀ v, Below n w v → v.rangeAt b (off + k * 5) x.cells := fun k x hx => act_at hsl hx hn
  have oks : ∀ k (h : k < l.length), ∃ x, l[k]? = some x ∧ x.ok := fun k h => ⟨l[k], List.getElem?_eq_getElem h, hok _ (List.getElem_mem h)⟩
  obtain ⟨m, hm⟩ : ∃ m, l.length = m := ⟨_, rfl⟩
  rw [hm] at oks hl ⊢
  have fin : ∀ v, Below n w v → Fine w (.returned (.bool true)) v := fun v hv => ⟨rfl, by rw [hn]; exact hv⟩
  have NW := Lib.hid nw; have RNW := Lib.hid rnw; have SH := Lib.hid sh; have ACTS := Lib.hid acts; have OKS := Lib.hid oks; have FIN := Lib.hid fin
  have B00 := Lib.hid (Below.refl n w)
  have d2 : decide ((200 : Int) < (m : Int)) = false := by simp; omega
  have d2' : decide (200 < m) = false := by simp; omega
  clear nw rnw sh fin acts oks hsl hok hm
  go_enter Try.func5, Try.ntmps5
  go_wp2_with fail
  refine (SH.out _).mono ?_
  rintro e w1 ⟨rfl, g1⟩
  have B1 := Lib.hid (show Below n w w1 by rw [hn] at g1; exact g1)
  have hn1 : n ≤ w1.heap.size := by rw [← hn]; exact g1.size
  clear hn g1
  go_wp2_with fail
  refine (NW.out _).mono ?_
  rintro e w2 ⟨rfl, pt, g2⟩
  obtain ⟨B, hB⟩ : ∃ B, w1.heap.size = B := ⟨_, rfl⟩
  rw [hB] at pt g2 hn1 ⊢
  have b2 : Below n w w2 := B1.out.trans (g2.mono hn1)
  have h2 := pt.ltp
  clear g2 hB B1
  go_wp2_with fail
  refine (RNW.out _).mono ?_
  rintro e w3 ⟨v, rfl, rp, g3⟩
  obtain ⟨lo, hlo⟩ : ∃ lo, w2.heap.size = lo := ⟨_, rfl⟩
  have ps : PS n w (B + 1) B nb lo [] (fun _ => bx0) (fun _ => bx0) v w3 := by
    rw [hlo] at rp g3 h2
    exact ⟨pt.same (hlo.symm ▸ g3), by rw [RR_zero]; exact rp, fun _ => ok0, b2.trans (g3.mono (by omega)), by omega, hn1, by rw [← hlo]; rw [← hlo] at g3; exact g3.size, fun r hr => by cases hr⟩
  have PS3 := Lib.hid ps
  obtain ⟨A3, c3, rfl⟩ := ps.sl
  clear ps rp g3 b2 h2 hlo pt hn1
  go_wp2
  go_loopg [6, 9] m (fun g v i W => ∃ (k : Nat) (E : Nat → Bx), g + k = m ∧ i = .int .i64 k ∧ PS n w (B + 1) B nb lo [] E E v W)
  case atStart => exact ⟨0, _, by omega, rfl, PS3.out⟩
  case round =>
    obtain ⟨k, E, hg, rfl, pv⟩ := hrel
    clear PS3
    have HG := Lib.hid hg
    clear hg
    obtain ⟨Av, cv, rfl⟩ := pv.sl
    have PV := Lib.hid pv
    clear pv
    by_cases hlt : k < m
    · obtain ⟨⟨K, x⟩, hx, hok⟩ := OKS.out k hlt
      obtain ⟨ab, ao, rfl, hab, hr⟩ := ACTS.out k _ hx
      have rg := hr _ PV.out.bel
      have KK := Lib.hid hok
      obtain ⟨q, hq⟩ : ∃ q, wr.heap.size = q := ⟨_, rfl⟩
      have pn := PV.out.new 33 x.row
      rw [hq] at pn
      obtain ⟨V, hV⟩ : ∃ V, wr.alloc (.cells x.row 33) = V := ⟨_, rfl⟩
      rw [hV] at pn
      have HQ := Lib.hid hq
      obtain ⟨t, f, qk, z⟩ := x
      simp only [Lt.row] at hV pn
      have HV := Lib.hid hV
      have PN := Lib.hid pn
      have c0 := rg 0 _ rfl; have c1 := rg 1 _ rfl; have c2 := rg 2 _ rfl; have c3' := rg 3 _ rfl; have c4 := rg 4 _ rfl
      have x0 := (pn.at (r := (q, 33, _)) List.mem_cons_self).cell 0
      have x1 := (pn.at (r := (q, 33, _)) List.mem_cons_self).cell 1; have x2 := (pn.at (r := (q, 33, _)) List.mem_cons_self).cell 2; have x3 := (pn.at (r := (q, 33, _)) List.mem_cons_self).cell 3
      rw [Nat.add_zero] at c0
      simp only at c0 c1 c2 c3' c4 x0 x1 x2 x3
      have cV := (hr _ PN.out.bel) 0 _ rfl
      rw [Nat.add_zero] at cV
      clear hr hx hok rg pn hq hV
      by_cases hz : z.size ≤ 300
      · have d3 : decide ((300 : Int) < (z.size : Int)) = false := by simp; omega
        have d3' : decide (300 < z.size) = false := by simp; omega
        by_cases q0 : K = 0
        · subst q0
          go_wp2_with (first | (rw [HQ.out, HV.out]) | fail)
          refine (ps_rsend PN.out ⟨t, f, qk, z⟩).mono ?_
          rintro e w4 ⟨v4, rfl, p4⟩
          obtain ⟨A4, cp4, rfl⟩ := p4.sl
          have P4 := Lib.hid p4
          have y0 := (p4.at (r := (q, 33, _)) List.mem_cons_self).cell 0; have y1 := (p4.at (r := (q, 33, _)) List.mem_cons_self).cell 1; have y2 := (p4.at (r := (q, 33, _)) List.mem_cons_self).cell 2; have y3 := (p4.at (r := (q, 33, _)) List.mem_cons_self).cell 3
          clear p4
          simp only at y0 y1 y2 y3
          go_wp2_with fail
          refine (ps_send P4.out ⟨t, f, qk, z⟩).mono ?_
          rintro e w5 ⟨rfl, p5⟩
          have P5 := Lib.hid p5
          clear p5 y0 y1 y2 y3
          generalize sendB nb E ⟨t, f, qk, z⟩ = E5 at *
          generalize sendR nb E _ = r5 at *
          clear c0 c1 c2 c3' c4 x0 x1 x2 x3 cV PN PV KK hab hz d3 d3' HQ
          have hC : ∃ C : World → Prop, C = PS n w (B + 1) B nb lo [(q, 33, #[.int .i64 t, .int .i64 f, .int .i64 qk, .string z])] E5 E5 (.slice A4 nb cp4) := ⟨_, rfl⟩
          obtain ⟨C, hC⟩ := hC
          have cc : ∀ x, C x → x.cell? ⟨q, 0, none⟩ = some (.int .i64 t) := fun x c => by rw [hC] at c; exact ((c.at (r := (q, 33, _)) List.mem_cons_self).cell 0).trans rfl
          have le := fun x (c : C x) => ps_len (hC ▸ c : PS n w (B + 1) B nb lo _ E5 E5 _ x) t
          have rle := fun x (c : C x) => ps_rlen (hC ▸ c : PS n w (B + 1) B nb lo _ E5 E5 _ x) t
          have rro := fun x (c : C x) => ps_rroom (hC ▸ c : PS n w (B + 1) B nb lo _ E5 E5 _ x) t
          have ro := fun x (c : C x) => ps_room (hC ▸ c : PS n w (B + 1) B nb lo [(q, 33, #[.int .i64 t, .int .i64 f, .int .i64 qk, .string z])] E5 E5 (.slice A4 nb cp4) x) t
          rw [← hC] at ro
          have C5 := Lib.hid (show C w5 by rw [hC]; exact P5.out.sub (by simp))
          have CS := Lib.hid (fun x (c : C x) => (show PS n w (B + 1) B nb lo [] E5 E5 (.slice A4 nb cp4) x from (show PS n w (B + 1) B nb lo [(q, 33, #[.int .i64 t, .int .i64 f, .int .i64 qk, .string z])] E5 E5 (.slice A4 nb cp4) x by rw [← hC]; exact c).sub (by simp)))
          have CD := Lib.hid (fun x (c : C x) => (show C x.drew by rw [hC] at c ⊢; exact c.drew))
          generalize lenR nb E5 t = len5 at *
          generalize roomR nb E5 t = room5 at *
          have LE := Lib.hid le; have RLE := Lib.hid rle; have RRO := Lib.hid rro; have RO := Lib.hid ro; have CC := Lib.hid cc
          clear le rle rro ro cc hC P5
          obtain ⟨wo, hwo⟩ : ∃ wo : World, wo = w5 := ⟨_, rfl⟩
          rw [← hwo] at C5 ⊢
          clear hwo
          go_wp2_with fail
          refine QP.wp_region_p 13 C C (by kernel_rfl) (by kernel_rfl) (CD.out _ C5.out) ?_
          iterate 20
            (refine QP.wpQ_step (fun K hK => ?_)
             go_simp
             first
               | (refine hK _ ?_; clear hK K)
               | (refine ⟨?_, hK _ ?_⟩; decide; clear hK K)
               | ((first | (apply Exists.intro; refine ⟨?_, hK _ ?_⟩) | refine ⟨⟨undef, ?_⟩, hK _ ?_⟩)
                  first
                    | (apply QP.al_p; decide; (focus (intro wq hq; (have y0 := CC.out _ hq); first | (fail) | (unfold QP.oat; go_simp; first | done | exact ⟨by assumption, rfl⟩ | exact rfl | assumption | (first | ((with_reducible refine (LE.out _ hq).mono ?_); rintro e w' ⟨rfl, rfl⟩; exact ⟨rfl, hq⟩) | ((with_reducible refine (RLE.out _ hq).mono ?_); rintro e w' ⟨rfl, rfl⟩; exact ⟨rfl, hq⟩) | ((with_reducible refine (RRO.out _ hq).mono ?_); rintro e w' ⟨rfl, rfl⟩; exact ⟨rfl, hq⟩) | ((with_reducible refine (RO.out _ hq).mono ?_); rintro e w' ⟨rfl, h'⟩; exact ⟨rfl, h'⟩))))))
                    | (apply QP.al_dep; decide; decide; (focus (intro wq hq; (have y0 := CC.out _ hq); first | (fail) | (unfold QP.oat; go_simp; first | done | exact ⟨by assumption, rfl⟩ | exact rfl | assumption | (first | ((with_reducible refine (LE.out _ hq).mono ?_); rintro e w' ⟨rfl, rfl⟩; exact ⟨rfl, hq⟩) | ((with_reducible refine (RLE.out _ hq).mono ?_); rintro e w' ⟨rfl, rfl⟩; exact ⟨rfl, hq⟩) | ((with_reducible refine (RRO.out _ hq).mono ?_); rintro e w' ⟨rfl, rfl⟩; exact ⟨rfl, hq⟩) | ((with_reducible refine (RO.out _ hq).mono ?_); rintro e w' ⟨rfl, h'⟩; exact ⟨rfl, h'⟩))))))
                    | (apply QP.al_bef; decide; decide; (focus (intro wq hq; (have y0 := CC.out _ hq); first | (fail) | (unfold QP.oat; go_simp; first | done | exact ⟨by assumption, rfl⟩ | exact rfl | assumption | (first | ((with_reducible refine (LE.out _ hq).mono ?_); rintro e w' ⟨rfl, rfl⟩; exact ⟨rfl, hq⟩) | ((with_reducible refine (RLE.out _ hq).mono ?_); rintro e w' ⟨rfl, rfl⟩; exact ⟨rfl, hq⟩) | ((with_reducible refine (RRO.out _ hq).mono ?_); rintro e w' ⟨rfl, rfl⟩; exact ⟨rfl, hq⟩) | ((with_reducible refine (RO.out _ hq).mono ?_); rintro e w' ⟨rfl, h'⟩; exact ⟨rfl, h'⟩))))))
                    | (apply QP.al_ok; decide; (focus (intro wq hq; (have y0 := CC.out _ hq); first | (fail) | (unfold QP.oat; go_simp; first | done | exact ⟨by assumption, rfl⟩ | exact rfl | assumption | (first | ((with_reducible refine (LE.out _ hq).mono ?_); rintro e w' ⟨rfl, rfl⟩; exact ⟨rfl, hq⟩) | ((with_reducible refine (RLE.out _ hq).mono ?_); rintro e w' ⟨rfl, rfl⟩; exact ⟨rfl, hq⟩) | ((with_reducible refine (RRO.out _ hq).mono ?_); rintro e w' ⟨rfl, rfl⟩; exact ⟨rfl, hq⟩) | ((with_reducible refine (RO.out _ hq).mono ?_); rintro e w' ⟨rfl, h'⟩; exact ⟨rfl, h'⟩))))); (focus (intro wq hq; (have y0 := CC.out _ hq); first | (fail) | (unfold QP.oat; go_simp; first | done | exact ⟨by assumption, rfl⟩ | exact rfl | assumption | (first | ((with_reducible refine (LE.out _ hq).mono ?_); rintro e w' ⟨rfl, rfl⟩; exact ⟨rfl, hq⟩) | ((with_reducible refine (RLE.out _ hq).mono ?_); rintro e w' ⟨rfl, rfl⟩; exact ⟨rfl, hq⟩) | ((with_reducible refine (RRO.out _ hq).mono ?_); rintro e w' ⟨rfl, rfl⟩; exact ⟨rfl, hq⟩) | ((with_reducible refine (RO.out _ hq).mono ?_); rintro e w' ⟨rfl, h'⟩; exact ⟨rfl, h'⟩))))))
                  clear hK K))
          refine QP.wpQ_nil ?_
          intro wz bz
          go_wp2
          go_roundg (m - (k + 1))
          case measure => have := HG.out; omega
          case rel => exact ⟨k + 1, E5, by have := HG.out; omega, by go_num, CS.out _ bz⟩
        have e0 : (K == 0) = false := by simpa using q0
        by_cases q1 : K = 1
        · subst q1
          go_wp2_with (first | (rw [HQ.out, HV.out]) | fail)
          refine (ps_rsend PN.out ⟨t, f, qk, z⟩).mono ?_
          rintro e w4 ⟨v4, rfl, p4⟩
          obtain ⟨A4, cp4, rfl⟩ := p4.sl
          have P4 := Lib.hid p4
          have y0 := (p4.at (r := (q, 33, _)) List.mem_cons_self).cell 0; have y1 := (p4.at (r := (q, 33, _)) List.mem_cons_self).cell 1; have y2 := (p4.at (r := (q, 33, _)) List.mem_cons_self).cell 2; have y3 := (p4.at (r := (q, 33, _)) List.mem_cons_self).cell 3
          clear p4
          simp only at y0 y1 y2 y3
          go_wp2_with fail
          refine (ps_send P4.out ⟨t, f, qk, z⟩).mono ?_
          rintro e w5 ⟨rfl, p5⟩
          have P5 := Lib.hid p5
          clear p5 y0 y1 y2 y3
          generalize sendB nb E ⟨t, f, qk, z⟩ = E5 at *
          generalize sendR nb E _ = r5 at *
          clear c0 c1 c2 c3' c4 x0 x1 x2 x3 cV PN PV KK hab hz d3 d3' HQ
          have hC : ∃ C : World → Prop, C = PS n w (B + 1) B nb lo [(q, 33, #[.int .i64 t, .int .i64 f, .int .i64 qk, .string z])] E5 E5 (.slice A4 nb cp4) := ⟨_, rfl⟩
          obtain ⟨C, hC⟩ := hC
          have cc : ∀ x, C x → x.cell? ⟨q, 0, none⟩ = some (.int .i64 t) := fun x c => by rw [hC] at c; exact ((c.at (r := (q, 33, _)) List.mem_cons_self).cell 0).trans rfl
          have le := fun x (c : C x) => ps_len (hC ▸ c : PS n w (B + 1) B nb lo _ E5 E5 _ x) t
          have rle := fun x (c : C x) => ps_rlen (hC ▸ c : PS n w (B + 1) B nb lo _ E5 E5 _ x) t
          have rro := fun x (c : C x) => ps_rroom (hC ▸ c : PS n w (B + 1) B nb lo _ E5 E5 _ x) t
          have ro := fun x (c : C x) => ps_room (hC ▸ c : PS n w (B + 1) B nb lo [(q, 33, #[.int .i64 t, .int .i64 f, .int .i64 qk, .string z])] E5 E5 (.slice A4 nb cp4) x) t
          rw [← hC] at ro
          have C5 := Lib.hid (show C w5 by rw [hC]; exact P5.out.sub (by simp))
          have CS := Lib.hid (fun x (c : C x) => (show PS n w (B + 1) B nb lo [] E5 E5 (.slice A4 nb cp4) x from (show PS n w (B + 1) B nb lo [(q, 33, #[.int .i64 t, .int .i64 f, .int .i64 qk, .string z])] E5 E5 (.slice A4 nb cp4) x by rw [← hC]; exact c).sub (by simp)))
          have CD := Lib.hid (fun x (c : C x) => (show C x.drew by rw [hC] at c ⊢; exact c.drew))
          generalize lenR nb E5 t = len5 at *
          generalize roomR nb E5 t = room5 at *
          have LE := Lib.hid le; have RLE := Lib.hid rle; have RRO := Lib.hid rro; have RO := Lib.hid ro; have CC := Lib.hid cc
          clear le rle rro ro cc hC P5
          obtain ⟨wo, hwo⟩ : ∃ wo : World, wo = w5 := ⟨_, rfl⟩
          rw [← hwo] at C5 ⊢
          clear hwo
          go_wp2_with fail
          refine QP.wp_region_p 13 C C (by kernel_rfl) (by kernel_rfl) (CD.out _ C5.out) ?_
          iterate 20
            (refine QP.wpQ_step (fun K hK => ?_)
             go_simp
             first
               | (refine hK _ ?_; clear hK K)
               | (refine ⟨?_, hK _ ?_⟩; decide; clear hK K)
               | ((first | (apply Exists.intro; refine ⟨?_, hK _ ?_⟩) | refine ⟨⟨undef, ?_⟩, hK _ ?_⟩)
                  first
                    | (apply QP.al_p; decide; (focus (intro wq hq; (have y0 := CC.out _ hq); first | (fail) | (unfold QP.oat; go_simp; first | done | exact ⟨by assumption, rfl⟩ | exact rfl | assumption | (first | ((with_reducible refine (LE.out _ hq).mono ?_); rintro e w' ⟨rfl, rfl⟩; exact ⟨rfl, hq⟩) | ((with_reducible refine (RLE.out _ hq).mono ?_); rintro e w' ⟨rfl, rfl⟩; exact ⟨rfl, hq⟩) | ((with_reducible refine (RRO.out _ hq).mono ?_); rintro e w' ⟨rfl, rfl⟩; exact ⟨rfl, hq⟩) | ((with_reducible refine (RO.out _ hq).mono ?_); rintro e w' ⟨rfl, h'⟩; exact ⟨rfl, h'⟩))))))
                    | (apply QP.al_dep; decide; decide; (focus (intro wq hq; (have y0 := CC.out _ hq); first | (fail) | (unfold QP.oat; go_simp; first | done | exact ⟨by assumption, rfl⟩ | exact rfl | assumption | (first | ((with_reducible refine (LE.out _ hq).mono ?_); rintro e w' ⟨rfl, rfl⟩; exact ⟨rfl, hq⟩) | ((with_reducible refine (RLE.out _ hq).mono ?_); rintro e w' ⟨rfl, rfl⟩; exact ⟨rfl, hq⟩) | ((with_reducible refine (RRO.out _ hq).mono ?_); rintro e w' ⟨rfl, rfl⟩; exact ⟨rfl, hq⟩) | ((with_reducible refine (RO.out _ hq).mono ?_); rintro e w' ⟨rfl, h'⟩; exact ⟨rfl, h'⟩))))))
                    | (apply QP.al_bef; decide; decide; (focus (intro wq hq; (have y0 := CC.out _ hq); first | (fail) | (unfold QP.oat; go_simp; first | done | exact ⟨by assumption, rfl⟩ | exact rfl | assumption | (first | ((with_reducible refine (LE.out _ hq).mono ?_); rintro e w' ⟨rfl, rfl⟩; exact ⟨rfl, hq⟩) | ((with_reducible refine (RLE.out _ hq).mono ?_); rintro e w' ⟨rfl, rfl⟩; exact ⟨rfl, hq⟩) | ((with_reducible refine (RRO.out _ hq).mono ?_); rintro e w' ⟨rfl, rfl⟩; exact ⟨rfl, hq⟩) | ((with_reducible refine (RO.out _ hq).mono ?_); rintro e w' ⟨rfl, h'⟩; exact ⟨rfl, h'⟩))))))
                    | (apply QP.al_ok; decide; (focus (intro wq hq; (have y0 := CC.out _ hq); first | (fail) | (unfold QP.oat; go_simp; first | done | exact ⟨by assumption, rfl⟩ | exact rfl | assumption | (first | ((with_reducible refine (LE.out _ hq).mono ?_); rintro e w' ⟨rfl, rfl⟩; exact ⟨rfl, hq⟩) | ((with_reducible refine (RLE.out _ hq).mono ?_); rintro e w' ⟨rfl, rfl⟩; exact ⟨rfl, hq⟩) | ((with_reducible refine (RRO.out _ hq).mono ?_); rintro e w' ⟨rfl, rfl⟩; exact ⟨rfl, hq⟩) | ((with_reducible refine (RO.out _ hq).mono ?_); rintro e w' ⟨rfl, h'⟩; exact ⟨rfl, h'⟩))))); (focus (intro wq hq; (have y0 := CC.out _ hq); first | (fail) | (unfold QP.oat; go_simp; first | done | exact ⟨by assumption, rfl⟩ | exact rfl | assumption | (first | ((with_reducible refine (LE.out _ hq).mono ?_); rintro e w' ⟨rfl, rfl⟩; exact ⟨rfl, hq⟩) | ((with_reducible refine (RLE.out _ hq).mono ?_); rintro e w' ⟨rfl, rfl⟩; exact ⟨rfl, hq⟩) | ((with_reducible refine (RRO.out _ hq).mono ?_); rintro e w' ⟨rfl, rfl⟩; exact ⟨rfl, hq⟩) | ((with_reducible refine (RO.out _ hq).mono ?_); rintro e w' ⟨rfl, h'⟩; exact ⟨rfl, h'⟩))))))
                  clear hK K))
          refine QP.wpQ_nil ?_
          intro wz bz
          go_wp2
          go_roundg (m - (k + 1))
          case measure => have := HG.out; omega
          case rel => exact ⟨k + 1, E5, by have := HG.out; omega, by go_num, CS.out _ bz⟩
        have e1 : (K == 1) = false := by simpa using q1
        by_cases q2 : K = 2
        · subst q2
          go_wp2_with (first | (rw [HQ.out, HV.out]) | fail)
          refine (ps_rsend PN.out ⟨t, f, qk, z⟩).mono ?_
          rintro e w4 ⟨v4, rfl, p4⟩
          obtain ⟨A4, cp4, rfl⟩ := p4.sl
          have P4 := Lib.hid p4
          have y0 := (p4.at (r := (q, 33, _)) List.mem_cons_self).cell 0; have y1 := (p4.at (r := (q, 33, _)) List.mem_cons_self).cell 1; have y2 := (p4.at (r := (q, 33, _)) List.mem_cons_self).cell 2; have y3 := (p4.at (r := (q, 33, _)) List.mem_cons_self).cell 3
          clear p4
          simp only at y0 y1 y2 y3
          go_wp2_with fail
          refine (ps_send P4.out ⟨t, f, qk, z⟩).mono ?_
          rintro e w5 ⟨rfl, p5⟩
          have P5 := Lib.hid p5
          clear p5 y0 y1 y2 y3
          generalize sendB nb E ⟨t, f, qk, z⟩ = E5 at *
          generalize sendR nb E _ = r5 at *
          clear c0 c1 c2 c3' c4 x0 x1 x2 x3 cV PN PV KK hab hz d3 d3' HQ
          have hC : ∃ C : World → Prop, C = PS n w (B + 1) B nb lo [(q, 33, #[.int .i64 t, .int .i64 f, .int .i64 qk, .string z])] E5 E5 (.slice A4 nb cp4) := ⟨_, rfl⟩
          obtain ⟨C, hC⟩ := hC
          have cc : ∀ x, C x → x.cell? ⟨q, 0, none⟩ = some (.int .i64 t) := fun x c => by rw [hC] at c; exact ((c.at (r := (q, 33, _)) List.mem_cons_self).cell 0).trans rfl
          have le := fun x (c : C x) => ps_len (hC ▸ c : PS n w (B + 1) B nb lo _ E5 E5 _ x) t
          have rle := fun x (c : C x) => ps_rlen (hC ▸ c : PS n w (B + 1) B nb lo _ E5 E5 _ x) t
          have rro := fun x (c : C x) => ps_rroom (hC ▸ c : PS n w (B + 1) B nb lo _ E5 E5 _ x) t
          have ro := fun x (c : C x) => ps_room (hC ▸ c : PS n w (B + 1) B nb lo [(q, 33, #[.int .i64 t, .int .i64 f, .int .i64 qk, .string z])] E5 E5 (.slice A4 nb cp4) x) t
          rw [← hC] at ro
          have C5 := Lib.hid (show C w5 by rw [hC]; exact P5.out.sub (by simp))
          have CS := Lib.hid (fun x (c : C x) => (show PS n w (B + 1) B nb lo [] E5 E5 (.slice A4 nb cp4) x from (show PS n w (B + 1) B nb lo [(q, 33, #[.int .i64 t, .int .i64 f, .int .i64 qk, .string z])] E5 E5 (.slice A4 nb cp4) x by rw [← hC]; exact c).sub (by simp)))
          have CD := Lib.hid (fun x (c : C x) => (show C x.drew by rw [hC] at c ⊢; exact c.drew))
          generalize lenR nb E5 t = len5 at *
          generalize roomR nb E5 t = room5 at *
          have LE := Lib.hid le; have RLE := Lib.hid rle; have RRO := Lib.hid rro; have RO := Lib.hid ro; have CC := Lib.hid cc
          clear le rle rro ro cc hC P5
          obtain ⟨wo, hwo⟩ : ∃ wo : World, wo = w5 := ⟨_, rfl⟩
          rw [← hwo] at C5 ⊢
          clear hwo
          go_wp2_with fail
          refine QP.wp_region_p 13 C C (by kernel_rfl) (by kernel_rfl) (CD.out _ C5.out) ?_
          iterate 20
            (refine QP.wpQ_step (fun K hK => ?_)
             go_simp
             first
               | (refine hK _ ?_; clear hK K)
               | (refine ⟨?_, hK _ ?_⟩; decide; clear hK K)
               | ((first | (apply Exists.intro; refine ⟨?_, hK _ ?_⟩) | refine ⟨⟨undef, ?_⟩, hK _ ?_⟩)
                  first
                    | (apply QP.al_p; decide; (focus (intro wq hq; (have y0 := CC.out _ hq); first | (fail) | (unfold QP.oat; go_simp; first | done | exact ⟨by assumption, rfl⟩ | exact rfl | assumption | (first | ((with_reducible refine (LE.out _ hq).mono ?_); rintro e w' ⟨rfl, rfl⟩; exact ⟨rfl, hq⟩) | ((with_reducible refine (RLE.out _ hq).mono ?_); rintro e w' ⟨rfl, rfl⟩; exact ⟨rfl, hq⟩) | ((with_reducible refine (RRO.out _ hq).mono ?_); rintro e w' ⟨rfl, rfl⟩; exact ⟨rfl, hq⟩) | ((with_reducible refine (RO.out _ hq).mono ?_); rintro e w' ⟨rfl, h'⟩; exact ⟨rfl, h'⟩))))))
                    | (apply QP.al_dep; decide; decide; (focus (intro wq hq; (have y0 := CC.out _ hq); first | (fail) | (unfold QP.oat; go_simp; first | done | exact ⟨by assumption, rfl⟩ | exact rfl | assumption | (first | ((with_reducible refine (LE.out _ hq).mono ?_); rintro e w' ⟨rfl, rfl⟩; exact ⟨rfl, hq⟩) | ((with_reducible refine (RLE.out _ hq).mono ?_); rintro e w' ⟨rfl, rfl⟩; exact ⟨rfl, hq⟩) | ((with_reducible refine (RRO.out _ hq).mono ?_); rintro e w' ⟨rfl, rfl⟩; exact ⟨rfl, hq⟩) | ((with_reducible refine (RO.out _ hq).mono ?_); rintro e w' ⟨rfl, h'⟩; exact ⟨rfl, h'⟩))))))
                    | (apply QP.al_bef; decide; decide; (focus (intro wq hq; (have y0 := CC.out _ hq); first | (fail) | (unfold QP.oat; go_simp; first | done | exact ⟨by assumption, rfl⟩ | exact rfl | assumption | (first | ((with_reducible refine (LE.out _ hq).mono ?_); rintro e w' ⟨rfl, rfl⟩; exact ⟨rfl, hq⟩) | ((with_reducible refine (RLE.out _ hq).mono ?_); rintro e w' ⟨rfl, rfl⟩; exact ⟨rfl, hq⟩) | ((with_reducible refine (RRO.out _ hq).mono ?_); rintro e w' ⟨rfl, rfl⟩; exact ⟨rfl, hq⟩) | ((with_reducible refine (RO.out _ hq).mono ?_); rintro e w' ⟨rfl, h'⟩; exact ⟨rfl, h'⟩))))))
                    | (apply QP.al_ok; decide; (focus (intro wq hq; (have y0 := CC.out _ hq); first | (fail) | (unfold QP.oat; go_simp; first | done | exact ⟨by assumption, rfl⟩ | exact rfl | assumption | (first | ((with_reducible refine (LE.out _ hq).mono ?_); rintro e w' ⟨rfl, rfl⟩; exact ⟨rfl, hq⟩) | ((with_reducible refine (RLE.out _ hq).mono ?_); rintro e w' ⟨rfl, rfl⟩; exact ⟨rfl, hq⟩) | ((with_reducible refine (RRO.out _ hq).mono ?_); rintro e w' ⟨rfl, rfl⟩; exact ⟨rfl, hq⟩) | ((with_reducible refine (RO.out _ hq).mono ?_); rintro e w' ⟨rfl, h'⟩; exact ⟨rfl, h'⟩))))); (focus (intro wq hq; (have y0 := CC.out _ hq); first | (fail) | (unfold QP.oat; go_simp; first | done | exact ⟨by assumption, rfl⟩ | exact rfl | assumption | (first | ((with_reducible refine (LE.out _ hq).mono ?_); rintro e w' ⟨rfl, rfl⟩; exact ⟨rfl, hq⟩) | ((with_reducible refine (RLE.out _ hq).mono ?_); rintro e w' ⟨rfl, rfl⟩; exact ⟨rfl, hq⟩) | ((with_reducible refine (RRO.out _ hq).mono ?_); rintro e w' ⟨rfl, rfl⟩; exact ⟨rfl, hq⟩) | ((with_reducible refine (RO.out _ hq).mono ?_); rintro e w' ⟨rfl, h'⟩; exact ⟨rfl, h'⟩))))))
                  clear hK K))
          refine QP.wpQ_nil ?_
          intro wz bz
          go_wp2
          go_roundg (m - (k + 1))
          case measure => have := HG.out; omega
          case rel => exact ⟨k + 1, E5, by have := HG.out; omega, by go_num, CS.out _ bz⟩
        have e2 : (K == 2) = false := by simpa using q2
        by_cases q3 : K = 3
        · subst q3
          go_wp2_with (first | (rw [HQ.out, HV.out]) | fail)
          refine (ps_rsend PN.out ⟨t, f, qk, z⟩).mono ?_
          rintro e w4 ⟨v4, rfl, p4⟩
          obtain ⟨A4, cp4, rfl⟩ := p4.sl
          have P4 := Lib.hid p4
          have y0 := (p4.at (r := (q, 33, _)) List.mem_cons_self).cell 0; have y1 := (p4.at (r := (q, 33, _)) List.mem_cons_self).cell 1; have y2 := (p4.at (r := (q, 33, _)) List.mem_cons_self).cell 2; have y3 := (p4.at (r := (q, 33, _)) List.mem_cons_self).cell 3
          clear p4
          simp only at y0 y1 y2 y3
          go_wp2_with fail
          refine (ps_send P4.out ⟨t, f, qk, z⟩).mono ?_
          rintro e w5 ⟨rfl, p5⟩
          have P5 := Lib.hid p5
          clear p5 y0 y1 y2 y3
          generalize sendB nb E ⟨t, f, qk, z⟩ = E5 at *
          generalize sendR nb E _ = r5 at *
          clear c0 c1 c2 c3' c4 x0 x1 x2 x3 cV PN PV KK hab hz d3 d3' HQ
          have hC : ∃ C : World → Prop, C = PS n w (B + 1) B nb lo [(q, 33, #[.int .i64 t, .int .i64 f, .int .i64 qk, .string z])] E5 E5 (.slice A4 nb cp4) := ⟨_, rfl⟩
          obtain ⟨C, hC⟩ := hC
          have cc : ∀ x, C x → x.cell? ⟨q, 0, none⟩ = some (.int .i64 t) := fun x c => by rw [hC] at c; exact ((c.at (r := (q, 33, _)) List.mem_cons_self).cell 0).trans rfl
          have le := fun x (c : C x) => ps_len (hC ▸ c : PS n w (B + 1) B nb lo _ E5 E5 _ x) t
          have rle := fun x (c : C x) => ps_rlen (hC ▸ c : PS n w (B + 1) B nb lo _ E5 E5 _ x) t
          have rro := fun x (c : C x) => ps_rroom (hC ▸ c : PS n w (B + 1) B nb lo _ E5 E5 _ x) t
          have ro := fun x (c : C x) => ps_room (hC ▸ c : PS n w (B + 1) B nb lo [(q, 33, #[.int .i64 t, .int .i64 f, .int .i64 qk, .string z])] E5 E5 (.slice A4 nb cp4) x) t
          rw [← hC] at ro
          have C5 := Lib.hid (show C w5 by rw [hC]; exact P5.out.sub (by simp))
          have CS := Lib.hid (fun x (c : C x) => (show PS n w (B + 1) B nb lo [] E5 E5 (.slice A4 nb cp4) x from (show PS n w (B + 1) B nb lo [(q, 33, #[.int .i64 t, .int .i64 f, .int .i64 qk, .string z])] E5 E5 (.slice A4 nb cp4) x by rw [← hC]; exact c).sub (by simp)))
          have CD := Lib.hid (fun x (c : C x) => (show C x.drew by rw [hC] at c ⊢; exact c.drew))
          generalize lenR nb E5 t = len5 at *
          generalize roomR nb E5 t = room5 at *
          have LE := Lib.hid le; have RLE := Lib.hid rle; have RRO := Lib.hid rro; have RO := Lib.hid ro; have CC := Lib.hid cc
          clear le rle rro ro cc hC P5
          obtain ⟨wo, hwo⟩ : ∃ wo : World, wo = w5 := ⟨_, rfl⟩
          rw [← hwo] at C5 ⊢
          clear hwo
          go_wp2_with fail
          refine QP.wp_region_p 13 C C (by kernel_rfl) (by kernel_rfl) (CD.out _ C5.out) ?_
          iterate 20
            (refine QP.wpQ_step (fun K hK => ?_)
             go_simp
             first
               | (refine hK _ ?_; clear hK K)
               | (refine ⟨?_, hK _ ?_⟩; decide; clear hK K)
               | ((first | (apply Exists.intro; refine ⟨?_, hK _ ?_⟩) | refine ⟨⟨undef, ?_⟩, hK _ ?_⟩)
                  first
                    | (apply QP.al_p; decide; (focus (intro wq hq; (have y0 := CC.out _ hq); first | (fail) | (unfold QP.oat; go_simp; first | done | exact ⟨by assumption, rfl⟩ | exact rfl | assumption | (first | ((with_reducible refine (LE.out _ hq).mono ?_); rintro e w' ⟨rfl, rfl⟩; exact ⟨rfl, hq⟩) | ((with_reducible refine (RLE.out _ hq).mono ?_); rintro e w' ⟨rfl, rfl⟩; exact ⟨rfl, hq⟩) | ((with_reducible refine (RRO.out _ hq).mono ?_); rintro e w' ⟨rfl, rfl⟩; exact ⟨rfl, hq⟩) | ((with_reducible refine (RO.out _ hq).mono ?_); rintro e w' ⟨rfl, h'⟩; exact ⟨rfl, h'⟩))))))
                    | (apply QP.al_dep; decide; decide; (focus (intro wq hq; (have y0 := CC.out _ hq); first | (fail) | (unfold QP.oat; go_simp; first | done | exact ⟨by assumption, rfl⟩ | exact rfl | assumption | (first | ((with_reducible refine (LE.out _ hq).mono ?_); rintro e w' ⟨rfl, rfl⟩; exact ⟨rfl, hq⟩) | ((with_reducible refine (RLE.out _ hq).mono ?_); rintro e w' ⟨rfl, rfl⟩; exact ⟨rfl, hq⟩) | ((with_reducible refine (RRO.out _ hq).mono ?_); rintro e w' ⟨rfl, rfl⟩; exact ⟨rfl, hq⟩) | ((with_reducible refine (RO.out _ hq).mono ?_); rintro e w' ⟨rfl, h'⟩; exact ⟨rfl, h'⟩))))))
                    | (apply QP.al_bef; decide; decide; (focus (intro wq hq; (have y0 := CC.out _ hq); first | (fail) | (unfold QP.oat; go_simp; first | done | exact ⟨by assumption, rfl⟩ | exact rfl | assumption | (first | ((with_reducible refine (LE.out _ hq).mono ?_); rintro e w' ⟨rfl, rfl⟩; exact ⟨rfl, hq⟩) | ((with_reducible refine (RLE.out _ hq).mono ?_); rintro e w' ⟨rfl, rfl⟩; exact ⟨rfl, hq⟩) | ((with_reducible refine (RRO.out _ hq).mono ?_); rintro e w' ⟨rfl, rfl⟩; exact ⟨rfl, hq⟩) | ((with_reducible refine (RO.out _ hq).mono ?_); rintro e w' ⟨rfl, h'⟩; exact ⟨rfl, h'⟩))))))
                    | (apply QP.al_ok; decide; (focus (intro wq hq; (have y0 := CC.out _ hq); first | (fail) | (unfold QP.oat; go_simp; first | done | exact ⟨by assumption, rfl⟩ | exact rfl | assumption | (first | ((with_reducible refine (LE.out _ hq).mono ?_); rintro e w' ⟨rfl, rfl⟩; exact ⟨rfl, hq⟩) | ((with_reducible refine (RLE.out _ hq).mono ?_); rintro e w' ⟨rfl, rfl⟩; exact ⟨rfl, hq⟩) | ((with_reducible refine (RRO.out _ hq).mono ?_); rintro e w' ⟨rfl, rfl⟩; exact ⟨rfl, hq⟩) | ((with_reducible refine (RO.out _ hq).mono ?_); rintro e w' ⟨rfl, h'⟩; exact ⟨rfl, h'⟩))))); (focus (intro wq hq; (have y0 := CC.out _ hq); first | (fail) | (unfold QP.oat; go_simp; first | done | exact ⟨by assumption, rfl⟩ | exact rfl | assumption | (first | ((with_reducible refine (LE.out _ hq).mono ?_); rintro e w' ⟨rfl, rfl⟩; exact ⟨rfl, hq⟩) | ((with_reducible refine (RLE.out _ hq).mono ?_); rintro e w' ⟨rfl, rfl⟩; exact ⟨rfl, hq⟩) | ((with_reducible refine (RRO.out _ hq).mono ?_); rintro e w' ⟨rfl, rfl⟩; exact ⟨rfl, hq⟩) | ((with_reducible refine (RO.out _ hq).mono ?_); rintro e w' ⟨rfl, h'⟩; exact ⟨rfl, h'⟩))))))
                  clear hK K))
          refine QP.wpQ_nil ?_
          intro wz bz
          go_wp2
          go_roundg (m - (k + 1))
          case measure => have := HG.out; omega
          case rel => exact ⟨k + 1, E5, by have := HG.out; omega, by go_num, CS.out _ bz⟩
        have e3 : (K == 3) = false := by simpa using q3
        by_cases q4 : K = 4
        · subst q4
          go_wp2_with (first | (rw [HQ.out, HV.out]) | fail)
          refine (ps_rtake PN.out t).mono ?_
          rintro e w4 ⟨v4, rfl, p4⟩
          obtain ⟨A4, cp4, rfl⟩ := p4.sl
          have tk := fun x (c : PS n w (B + 1) B nb lo [(w4.heap.size, 52, (takeV nb E t).row), (q, 33, #[.int .i64 t, .int .i64 f, .int .i64 qk, .string z])] E (takeE nb E t) (.slice A4 nb cp4) x) => ps_take c t
          obtain ⟨q2, hq2⟩ : ∃ q2, w4.heap.size = q2 := ⟨_, rfl⟩
          have p5 := p4.new 52 (takeV nb E t).row
          rw [hq2] at p5 tk
          generalize takeV nb E t = y at *
          generalize takeE nb E t = E5 at *
          generalize takeR nb E t = r5 at *
          obtain ⟨yt, yf, yk, yz⟩ := y
          simp only [Lt.row] at p5 tk ⊢
          obtain ⟨V4, hV4⟩ : ∃ V4, w4.alloc (.cells #[.int .i64 yt, .int .i64 yf, .int .i64 yk, .string yz] 52) = V4 := ⟨_, rfl⟩
          rw [hV4] at p5
          have y0 := (p5.at (r := (q, 33, _)) (by simp; rfl)).cell 0
          simp only at y0
          have TK := Lib.hid tk; have HQ2 := Lib.hid hq2; have HV4 := Lib.hid hV4; have P4 := Lib.hid p5
          clear tk hq2 hV4 p5 p4
          go_wp2_with (first | (rw [HQ2.out, HV4.out]) | fail)
          refine (TK.out _ P4.out).mono ?_
          rintro e w6 ⟨rfl, p6⟩
          obtain ⟨q3, hq3⟩ : ∃ q3, w6.heap.size = q3 := ⟨_, rfl⟩
          have p7 := p6.new 33 #[.int .i64 yt, .int .i64 yf, .int .i64 yk, .string yz]
          rw [hq3] at p7
          obtain ⟨w5, hV5⟩ : ∃ V5, w6.alloc (.cells #[.int .i64 yt, .int .i64 yf, .int .i64 yk, .string yz] 33) = V5 := ⟨_, rfl⟩
          rw [hV5] at p7
          have a0 := (p7.at (r := (q3, 33, _)) List.mem_cons_self).cell 0; have a1 := (p7.at (r := (q3, 33, _)) List.mem_cons_self).cell 1; have a2 := (p7.at (r := (q3, 33, _)) List.mem_cons_self).cell 2; have a3 := (p7.at (r := (q3, 33, _)) List.mem_cons_self).cell 3
          have b0 := (p7.at (r := (q2, 52, _)) (List.mem_cons_of_mem _ List.mem_cons_self)).cell 0; have b1 := (p7.at (r := (q2, 52, _)) (List.mem_cons_of_mem _ List.mem_cons_self)).cell 1; have b2 := (p7.at (r := (q2, 52, _)) (List.mem_cons_of_mem _ List.mem_cons_self)).cell 2; have b3 := (p7.at (r := (q2, 52, _)) (List.mem_cons_of_mem _ List.mem_cons_self)).cell 3
          simp only at a0 a1 a2 a3 b0 b1 b2 b3
          have HQ3 := Lib.hid hq3; have HV5 := Lib.hid hV5; have P5 := Lib.hid p7
          clear hq3 hV5 p7 p6 P4 TK HQ2 HV4 y0
          go_wp2_with (first | (rw [HQ3.out, HV5.out]) | fail)
          clear a0 a1 a2 a3 b0 b1 b2 b3
          clear c0 c1 c2 c3' c4 x0 x1 x2 x3 cV PN PV KK hab hz d3 d3' HQ
          have hC : ∃ C : World → Prop, C = PS n w (B + 1) B nb lo [(q, 33, #[.int .i64 t, .int .i64 f, .int .i64 qk, .string z])] E5 E5 (.slice A4 nb cp4) := ⟨_, rfl⟩
          obtain ⟨C, hC⟩ := hC
          have cc : ∀ x, C x → x.cell? ⟨q, 0, none⟩ = some (.int .i64 t) := fun x c => by rw [hC] at c; exact ((c.at (r := (q, 33, _)) List.mem_cons_self).cell 0).trans rfl
          have le := fun x (c : C x) => ps_len (hC ▸ c : PS n w (B + 1) B nb lo _ E5 E5 _ x) t
          have rle := fun x (c : C x) => ps_rlen (hC ▸ c : PS n w (B + 1) B nb lo _ E5 E5 _ x) t
          have rro := fun x (c : C x) => ps_rroom (hC ▸ c : PS n w (B + 1) B nb lo _ E5 E5 _ x) t
          have ro := fun x (c : C x) => ps_room (hC ▸ c : PS n w (B + 1) B nb lo [(q, 33, #[.int .i64 t, .int .i64 f, .int .i64 qk, .string z])] E5 E5 (.slice A4 nb cp4) x) t
          rw [← hC] at ro
          have C5 := Lib.hid (show C w5 by rw [hC]; exact P5.out.sub (by simp))
          have CS := Lib.hid (fun x (c : C x) => (show PS n w (B + 1) B nb lo [] E5 E5 (.slice A4 nb cp4) x from (show PS n w (B + 1) B nb lo [(q, 33, #[.int .i64 t, .int .i64 f, .int .i64 qk, .string z])] E5 E5 (.slice A4 nb cp4) x by rw [← hC]; exact c).sub (by simp)))
          have CD := Lib.hid (fun x (c : C x) => (show C x.drew by rw [hC] at c ⊢; exact c.drew))
          generalize lenR nb E5 t = len5 at *
          generalize roomR nb E5 t = room5 at *
          have LE := Lib.hid le; have RLE := Lib.hid rle; have RRO := Lib.hid rro; have RO := Lib.hid ro; have CC := Lib.hid cc
          clear le rle rro ro cc hC P5
          obtain ⟨wo, hwo⟩ : ∃ wo : World, wo = w5 := ⟨_, rfl⟩
          rw [← hwo] at C5 ⊢
          clear hwo
          go_wp2_with fail
          refine QP.wp_region_p 13 C C (by kernel_rfl) (by kernel_rfl) (CD.out _ C5.out) ?_
          iterate 20
            (refine QP.wpQ_step (fun K hK => ?_)
             go_simp
             first
               | (refine hK _ ?_; clear hK K)
               | (refine ⟨?_, hK _ ?_⟩; decide; clear hK K)
               | ((first | (apply Exists.intro; refine ⟨?_, hK _ ?_⟩) | refine ⟨⟨undef, ?_⟩, hK _ ?_⟩)
                  first
                    | (apply QP.al_p; decide; (focus (intro wq hq; (have y0 := CC.out _ hq); first | (fail) | (unfold QP.oat; go_simp; first | done | exact ⟨by assumption, rfl⟩ | exact rfl | assumption | (first | ((with_reducible refine (LE.out _ hq).mono ?_); rintro e w' ⟨rfl, rfl⟩; exact ⟨rfl, hq⟩) | ((with_reducible refine (RLE.out _ hq).mono ?_); rintro e w' ⟨rfl, rfl⟩; exact ⟨rfl, hq⟩) | ((with_reducible refine (RRO.out _ hq).mono ?_); rintro e w' ⟨rfl, rfl⟩; exact ⟨rfl, hq⟩) | ((with_reducible refine (RO.out _ hq).mono ?_); rintro e w' ⟨rfl, h'⟩; exact ⟨rfl, h'⟩))))))
                    | (apply QP.al_dep; decide; decide; (focus (intro wq hq; (have y0 := CC.out _ hq); first | (fail) | (unfold QP.oat; go_simp; first | done | exact ⟨by assumption, rfl⟩ | exact rfl | assumption | (first | ((with_reducible refine (LE.out _ hq).mono ?_); rintro e w' ⟨rfl, rfl⟩; exact ⟨rfl, hq⟩) | ((with_reducible refine (RLE.out _ hq).mono ?_); rintro e w' ⟨rfl, rfl⟩; exact ⟨rfl, hq⟩) | ((with_reducible refine (RRO.out _ hq).mono ?_); rintro e w' ⟨rfl, rfl⟩; exact ⟨rfl, hq⟩) | ((with_reducible refine (RO.out _ hq).mono ?_); rintro e w' ⟨rfl, h'⟩; exact ⟨rfl, h'⟩))))))
                    | (apply QP.al_bef; decide; decide; (focus (intro wq hq; (have y0 := CC.out _ hq); first | (fail) | (unfold QP.oat; go_simp; first | done | exact ⟨by assumption, rfl⟩ | exact rfl | assumption | (first | ((with_reducible refine (LE.out _ hq).mono ?_); rintro e w' ⟨rfl, rfl⟩; exact ⟨rfl, hq⟩) | ((with_reducible refine (RLE.out _ hq).mono ?_); rintro e w' ⟨rfl, rfl⟩; exact ⟨rfl, hq⟩) | ((with_reducible refine (RRO.out _ hq).mono ?_); rintro e w' ⟨rfl, rfl⟩; exact ⟨rfl, hq⟩) | ((with_reducible refine (RO.out _ hq).mono ?_); rintro e w' ⟨rfl, h'⟩; exact ⟨rfl, h'⟩))))))
                    | (apply QP.al_ok; decide; (focus (intro wq hq; (have y0 := CC.out _ hq); first | (fail) | (unfold QP.oat; go_simp; first | done | exact ⟨by assumption, rfl⟩ | exact rfl | assumption | (first | ((with_reducible refine (LE.out _ hq).mono ?_); rintro e w' ⟨rfl, rfl⟩; exact ⟨rfl, hq⟩) | ((with_reducible refine (RLE.out _ hq).mono ?_); rintro e w' ⟨rfl, rfl⟩; exact ⟨rfl, hq⟩) | ((with_reducible refine (RRO.out _ hq).mono ?_); rintro e w' ⟨rfl, rfl⟩; exact ⟨rfl, hq⟩) | ((with_reducible refine (RO.out _ hq).mono ?_); rintro e w' ⟨rfl, h'⟩; exact ⟨rfl, h'⟩))))); (focus (intro wq hq; (have y0 := CC.out _ hq); first | (fail) | (unfold QP.oat; go_simp; first | done | exact ⟨by assumption, rfl⟩ | exact rfl | assumption | (first | ((with_reducible refine (LE.out _ hq).mono ?_); rintro e w' ⟨rfl, rfl⟩; exact ⟨rfl, hq⟩) | ((with_reducible refine (RLE.out _ hq).mono ?_); rintro e w' ⟨rfl, rfl⟩; exact ⟨rfl, hq⟩) | ((with_reducible refine (RRO.out _ hq).mono ?_); rintro e w' ⟨rfl, rfl⟩; exact ⟨rfl, hq⟩) | ((with_reducible refine (RO.out _ hq).mono ?_); rintro e w' ⟨rfl, h'⟩; exact ⟨rfl, h'⟩))))))
                  clear hK K))
          refine QP.wpQ_nil ?_
          intro wz bz
          go_wp2
          go_roundg (m - (k + 1))
          case measure => have := HG.out; omega
          case rel => exact ⟨k + 1, E5, by have := HG.out; omega, by go_num, CS.out _ bz⟩
        have e4 : (K == 4) = false := by simpa using q4
        by_cases q5 : K = 5
        · subst q5
          go_wp2_with (first | (rw [HQ.out, HV.out]) | fail)
          refine (ps_rtake PN.out t).mono ?_
          rintro e w4 ⟨v4, rfl, p4⟩
          obtain ⟨A4, cp4, rfl⟩ := p4.sl
          have tk := fun x (c : PS n w (B + 1) B nb lo [(w4.heap.size, 52, (takeV nb E t).row), (q, 33, #[.int .i64 t, .int .i64 f, .int .i64 qk, .string z])] E (takeE nb E t) (.slice A4 nb cp4) x) => ps_take c t
          obtain ⟨q2, hq2⟩ : ∃ q2, w4.heap.size = q2 := ⟨_, rfl⟩
          have p5 := p4.new 52 (takeV nb E t).row
          rw [hq2] at p5 tk
          generalize takeV nb E t = y at *
          generalize takeE nb E t = E5 at *
          generalize takeR nb E t = r5 at *
          obtain ⟨yt, yf, yk, yz⟩ := y
          simp only [Lt.row] at p5 tk ⊢
          obtain ⟨V4, hV4⟩ : ∃ V4, w4.alloc (.cells #[.int .i64 yt, .int .i64 yf, .int .i64 yk, .string yz] 52) = V4 := ⟨_, rfl⟩
          rw [hV4] at p5
          have y0 := (p5.at (r := (q, 33, _)) (by simp; rfl)).cell 0
          simp only at y0
          have TK := Lib.hid tk; have HQ2 := Lib.hid hq2; have HV4 := Lib.hid hV4; have P4 := Lib.hid p5
          clear tk hq2 hV4 p5 p4
          go_wp2_with (first | (rw [HQ2.out, HV4.out]) | fail)
          refine (TK.out _ P4.out).mono ?_
          rintro e w6 ⟨rfl, p6⟩
          obtain ⟨q3, hq3⟩ : ∃ q3, w6.heap.size = q3 := ⟨_, rfl⟩
          have p7 := p6.new 33 #[.int .i64 yt, .int .i64 yf, .int .i64 yk, .string yz]
          rw [hq3] at p7
          obtain ⟨w5, hV5⟩ : ∃ V5, w6.alloc (.cells #[.int .i64 yt, .int .i64 yf, .int .i64 yk, .string yz] 33) = V5 := ⟨_, rfl⟩
          rw [hV5] at p7
          have a0 := (p7.at (r := (q3, 33, _)) List.mem_cons_self).cell 0; have a1 := (p7.at (r := (q3, 33, _)) List.mem_cons_self).cell 1; have a2 := (p7.at (r := (q3, 33, _)) List.mem_cons_self).cell 2; have a3 := (p7.at (r := (q3, 33, _)) List.mem_cons_self).cell 3
          have b0 := (p7.at (r := (q2, 52, _)) (List.mem_cons_of_mem _ List.mem_cons_self)).cell 0; have b1 := (p7.at (r := (q2, 52, _)) (List.mem_cons_of_mem _ List.mem_cons_self)).cell 1; have b2 := (p7.at (r := (q2, 52, _)) (List.mem_cons_of_mem _ List.mem_cons_self)).cell 2; have b3 := (p7.at (r := (q2, 52, _)) (List.mem_cons_of_mem _ List.mem_cons_self)).cell 3
          simp only at a0 a1 a2 a3 b0 b1 b2 b3
          have HQ3 := Lib.hid hq3; have HV5 := Lib.hid hV5; have P5 := Lib.hid p7
          clear hq3 hV5 p7 p6 P4 TK HQ2 HV4 y0
          go_wp2_with (first | (rw [HQ3.out, HV5.out]) | fail)
          clear a0 a1 a2 a3 b0 b1 b2 b3
          clear c0 c1 c2 c3' c4 x0 x1 x2 x3 cV PN PV KK hab hz d3 d3' HQ
          have hC : ∃ C : World → Prop, C = PS n w (B + 1) B nb lo [(q, 33, #[.int .i64 t, .int .i64 f, .int .i64 qk, .string z])] E5 E5 (.slice A4 nb cp4) := ⟨_, rfl⟩
          obtain ⟨C, hC⟩ := hC
          have cc : ∀ x, C x → x.cell? ⟨q, 0, none⟩ = some (.int .i64 t) := fun x c => by rw [hC] at c; exact ((c.at (r := (q, 33, _)) List.mem_cons_self).cell 0).trans rfl
          have le := fun x (c : C x) => ps_len (hC ▸ c : PS n w (B + 1) B nb lo _ E5 E5 _ x) t
          have rle := fun x (c : C x) => ps_rlen (hC ▸ c : PS n w (B + 1) B nb lo _ E5 E5 _ x) t
          have rro := fun x (c : C x) => ps_rroom (hC ▸ c : PS n w (B + 1) B nb lo _ E5 E5 _ x) t
          have ro := fun x (c : C x) => ps_room (hC ▸ c : PS n w (B + 1) B nb lo [(q, 33, #[.int .i64 t, .int .i64 f, .int .i64 qk, .string z])] E5 E5 (.slice A4 nb cp4) x) t
          rw [← hC] at ro
          have C5 := Lib.hid (show C w5 by rw [hC]; exact P5.out.sub (by simp))
          have CS := Lib.hid (fun x (c : C x) => (show PS n w (B + 1) B nb lo [] E5 E5 (.slice A4 nb cp4) x from (show PS n w (B + 1) B nb lo [(q, 33, #[.int .i64 t, .int .i64 f, .int .i64 qk, .string z])] E5 E5 (.slice A4 nb cp4) x by rw [← hC]; exact c).sub (by simp)))
          have CD := Lib.hid (fun x (c : C x) => (show C x.drew by rw [hC] at c ⊢; exact c.drew))
          generalize lenR nb E5 t = len5 at *
          generalize roomR nb E5 t = room5 at *
          have LE := Lib.hid le; have RLE := Lib.hid rle; have RRO := Lib.hid rro; have RO := Lib.hid ro; have CC := Lib.hid cc
          clear le rle rro ro cc hC P5
          obtain ⟨wo, hwo⟩ : ∃ wo : World, wo = w5 := ⟨_, rfl⟩
          rw [← hwo] at C5 ⊢
          clear hwo
          go_wp2_with fail
          refine QP.wp_region_p 13 C C (by kernel_rfl) (by kernel_rfl) (CD.out _ C5.out) ?_
          iterate 20
            (refine QP.wpQ_step (fun K hK => ?_)
             go_simp
             first
               | (refine hK _ ?_; clear hK K)
               | (refine ⟨?_, hK _ ?_⟩; decide; clear hK K)
               | ((first | (apply Exists.intro; refine ⟨?_, hK _ ?_⟩) | refine ⟨⟨undef, ?_⟩, hK _ ?_⟩)
                  first
                    | (apply QP.al_p; decide; (focus (intro wq hq; (have y0 := CC.out _ hq); first | (fail) | (unfold QP.oat; go_simp; first | done | exact ⟨by assumption, rfl⟩ | exact rfl | assumption | (first | ((with_reducible refine (LE.out _ hq).mono ?_); rintro e w' ⟨rfl, rfl⟩; exact ⟨rfl, hq⟩) | ((with_reducible refine (RLE.out _ hq).mono ?_); rintro e w' ⟨rfl, rfl⟩; exact ⟨rfl, hq⟩) | ((with_reducible refine (RRO.out _ hq).mono ?_); rintro e w' ⟨rfl, rfl⟩; exact ⟨rfl, hq⟩) | ((with_reducible refine (RO.out _ hq).mono ?_); rintro e w' ⟨rfl, h'⟩; exact ⟨rfl, h'⟩))))))
                    | (apply QP.al_dep; decide; decide; (focus (intro wq hq; (have y0 := CC.out _ hq); first | (fail) | (unfold QP.oat; go_simp; first | done | exact ⟨by assumption, rfl⟩ | exact rfl | assumption | (first | ((with_reducible refine (LE.out _ hq).mono ?_); rintro e w' ⟨rfl, rfl⟩; exact ⟨rfl, hq⟩) | ((with_reducible refine (RLE.out _ hq).mono ?_); rintro e w' ⟨rfl, rfl⟩; exact ⟨rfl, hq⟩) | ((with_reducible refine (RRO.out _ hq).mono ?_); rintro e w' ⟨rfl, rfl⟩; exact ⟨rfl, hq⟩) | ((with_reducible refine (RO.out _ hq).mono ?_); rintro e w' ⟨rfl, h'⟩; exact ⟨rfl, h'⟩))))))
                    | (apply QP.al_bef; decide; decide; (focus (intro wq hq; (have y0 := CC.out _ hq); first | (fail) | (unfold QP.oat; go_simp; first | done | exact ⟨by assumption, rfl⟩ | exact rfl | assumption | (first | ((with_reducible refine (LE.out _ hq).mono ?_); rintro e w' ⟨rfl, rfl⟩; exact ⟨rfl, hq⟩) | ((with_reducible refine (RLE.out _ hq).mono ?_); rintro e w' ⟨rfl, rfl⟩; exact ⟨rfl, hq⟩) | ((with_reducible refine (RRO.out _ hq).mono ?_); rintro e w' ⟨rfl, rfl⟩; exact ⟨rfl, hq⟩) | ((with_reducible refine (RO.out _ hq).mono ?_); rintro e w' ⟨rfl, h'⟩; exact ⟨rfl, h'⟩))))))
                    | (apply QP.al_ok; decide; (focus (intro wq hq; (have y0 := CC.out _ hq); first | (fail) | (unfold QP.oat; go_simp; first | done | exact ⟨by assumption, rfl⟩ | exact rfl | assumption | (first | ((with_reducible refine (LE.out _ hq).mono ?_); rintro e w' ⟨rfl, rfl⟩; exact ⟨rfl, hq⟩) | ((with_reducible refine (RLE.out _ hq).mono ?_); rintro e w' ⟨rfl, rfl⟩; exact ⟨rfl, hq⟩) | ((with_reducible refine (RRO.out _ hq).mono ?_); rintro e w' ⟨rfl, rfl⟩; exact ⟨rfl, hq⟩) | ((with_reducible refine (RO.out _ hq).mono ?_); rintro e w' ⟨rfl, h'⟩; exact ⟨rfl, h'⟩))))); (focus (intro wq hq; (have y0 := CC.out _ hq); first | (fail) | (unfold QP.oat; go_simp; first | done | exact ⟨by assumption, rfl⟩ | exact rfl | assumption | (first | ((with_reducible refine (LE.out _ hq).mono ?_); rintro e w' ⟨rfl, rfl⟩; exact ⟨rfl, hq⟩) | ((with_reducible refine (RLE.out _ hq).mono ?_); rintro e w' ⟨rfl, rfl⟩; exact ⟨rfl, hq⟩) | ((with_reducible refine (RRO.out _ hq).mono ?_); rintro e w' ⟨rfl, rfl⟩; exact ⟨rfl, hq⟩) | ((with_reducible refine (RO.out _ hq).mono ?_); rintro e w' ⟨rfl, h'⟩; exact ⟨rfl, h'⟩))))))
                  clear hK K))
          refine QP.wpQ_nil ?_
          intro wz bz
          go_wp2
          go_roundg (m - (k + 1))
          case measure => have := HG.out; omega
          case rel => exact ⟨k + 1, E5, by have := HG.out; omega, by go_num, CS.out _ bz⟩
        have e5 : (K == 5) = false := by simpa using q5
        by_cases q6 : K = 6
        · subst q6
          go_wp2_with (first | (rw [HQ.out, HV.out]) | fail)
          refine (ps_rclose PN.out t).mono ?_
          rintro e w4 ⟨v4, s4, rfl, p4, o4⟩
          obtain ⟨A4, cp4, rfl⟩ := p4.sl
          obtain ⟨As, cs, rfl⟩ := own_slice o4
          have cl := ps_close p4 t o4
          have c8 := close_len p4.pt.ok nb t
          have y0 := (p4.at (r := (q, 33, _)) List.mem_cons_self).cell 0
          simp only at y0
          generalize closeL nb E t = L4 at *
          generalize closeE nb E t = E5 at *
          generalize closeR nb E t = r5 at *
          obtain ⟨m4, hm4⟩ : ∃ m4, L4.length = m4 := ⟨_, rfl⟩
          rw [hm4] at cl c8 ⊢
          have CL := Lib.hid cl; have HM4 := Lib.hid hm4
          clear cl o4 p4 hm4
          go_wp2_with fail
          refine (CL.out).mono ?_
          rintro e w6 ⟨u, rfl, p6, ou, os⟩
          have it := its_any (l := L4) (v := u) (by rw [HM4.out]; exact ou) (by rw [HM4.out]; exact c8)
          have IT := Lib.hid it; have OS := Lib.hid os; have P6 := Lib.hid p6
          obtain ⟨Au, cu, rfl⟩ := own_slice ou
          clear it os p6 ou CL y0
          go_wp2_with fail
          refine (IT.out).mono ?_
          rintro e w7 ⟨s7, rfl, o7, g7⟩
          have os7 := OS.out.kept (below_grown g7 none) (by
            cases hob : (Value.slice As m4 cs).ownBlock with
            | none => exact .inl rfl
            | some gb => exact .inr (by simp))
          have p7 := P6.out.same g7
          obtain ⟨A7, c7, rfl⟩ := own_slice o7
          have SM := Lib.hid (same_any (l := L4) o7 (by rw [HM4.out]; exact os7) (by rw [HM4.out]; exact c8))
          rw [HM4.out] at SM
          rw [HM4.out]
          have P7 := Lib.hid p7
          clear o7 g7 os7 p7 IT OS P6
          go_wp2_with fail
          refine (SM.out).mono ?_
          rintro e w5 ⟨rfl, g5⟩
          have P5 := Lib.hid (P7.out.same g5)
          clear P7 SM g5 HM4
          clear c0 c1 c2 c3' c4 x0 x1 x2 x3 cV PN PV KK hab hz d3 d3' HQ
          have hC : ∃ C : World → Prop, C = PS n w (B + 1) B nb lo [(q, 33, #[.int .i64 t, .int .i64 f, .int .i64 qk, .string z])] E5 E5 (.slice A4 nb cp4) := ⟨_, rfl⟩
          obtain ⟨C, hC⟩ := hC
          have cc : ∀ x, C x → x.cell? ⟨q, 0, none⟩ = some (.int .i64 t) := fun x c => by rw [hC] at c; exact ((c.at (r := (q, 33, _)) List.mem_cons_self).cell 0).trans rfl
          have le := fun x (c : C x) => ps_len (hC ▸ c : PS n w (B + 1) B nb lo _ E5 E5 _ x) t
          have rle := fun x (c : C x) => ps_rlen (hC ▸ c : PS n w (B + 1) B nb lo _ E5 E5 _ x) t
          have rro := fun x (c : C x) => ps_rroom (hC ▸ c : PS n w (B + 1) B nb lo _ E5 E5 _ x) t
          have ro := fun x (c : C x) => ps_room (hC ▸ c : PS n w (B + 1) B nb lo [(q, 33, #[.int .i64 t, .int .i64 f, .int .i64 qk, .string z])] E5 E5 (.slice A4 nb cp4) x) t
          rw [← hC] at ro
          have C5 := Lib.hid (show C w5 by rw [hC]; exact P5.out.sub (by simp))
          have CS := Lib.hid (fun x (c : C x) => (show PS n w (B + 1) B nb lo [] E5 E5 (.slice A4 nb cp4) x from (show PS n w (B + 1) B nb lo [(q, 33, #[.int .i64 t, .int .i64 f, .int .i64 qk, .string z])] E5 E5 (.slice A4 nb cp4) x by rw [← hC]; exact c).sub (by simp)))
          have CD := Lib.hid (fun x (c : C x) => (show C x.drew by rw [hC] at c ⊢; exact c.drew))
          generalize lenR nb E5 t = len5 at *
          generalize roomR nb E5 t = room5 at *
          have LE := Lib.hid le; have RLE := Lib.hid rle; have RRO := Lib.hid rro; have RO := Lib.hid ro; have CC := Lib.hid cc
          clear le rle rro ro cc hC P5
          obtain ⟨wo, hwo⟩ : ∃ wo : World, wo = w5 := ⟨_, rfl⟩
          rw [← hwo] at C5 ⊢
          clear hwo
          go_wp2_with fail
          refine QP.wp_region_p 13 C C (by kernel_rfl) (by kernel_rfl) (CD.out _ C5.out) ?_
          iterate 20
            (refine QP.wpQ_step (fun K hK => ?_)
             go_simp
             first
               | (refine hK _ ?_; clear hK K)
               | (refine ⟨?_, hK _ ?_⟩; decide; clear hK K)
               | ((first | (apply Exists.intro; refine ⟨?_, hK _ ?_⟩) | refine ⟨⟨undef, ?_⟩, hK _ ?_⟩)
                  first
                    | (apply QP.al_p; decide; (focus (intro wq hq; (have y0 := CC.out _ hq); first | (fail) | (unfold QP.oat; go_simp; first | done | exact ⟨by assumption, rfl⟩ | exact rfl | assumption | (first | ((with_reducible refine (LE.out _ hq).mono ?_); rintro e w' ⟨rfl, rfl⟩; exact ⟨rfl, hq⟩) | ((with_reducible refine (RLE.out _ hq).mono ?_); rintro e w' ⟨rfl, rfl⟩; exact ⟨rfl, hq⟩) | ((with_reducible refine (RRO.out _ hq).mono ?_); rintro e w' ⟨rfl, rfl⟩; exact ⟨rfl, hq⟩) | ((with_reducible refine (RO.out _ hq).mono ?_); rintro e w' ⟨rfl, h'⟩; exact ⟨rfl, h'⟩))))))
                    | (apply QP.al_dep; decide; decide; (focus (intro wq hq; (have y0 := CC.out _ hq); first | (fail) | (unfold QP.oat; go_simp; first | done | exact ⟨by assumption, rfl⟩ | exact rfl | assumption | (first | ((with_reducible refine (LE.out _ hq).mono ?_); rintro e w' ⟨rfl, rfl⟩; exact ⟨rfl, hq⟩) | ((with_reducible refine (RLE.out _ hq).mono ?_); rintro e w' ⟨rfl, rfl⟩; exact ⟨rfl, hq⟩) | ((with_reducible refine (RRO.out _ hq).mono ?_); rintro e w' ⟨rfl, rfl⟩; exact ⟨rfl, hq⟩) | ((with_reducible refine (RO.out _ hq).mono ?_); rintro e w' ⟨rfl, h'⟩; exact ⟨rfl, h'⟩))))))
                    | (apply QP.al_bef; decide; decide; (focus (intro wq hq; (have y0 := CC.out _ hq); first | (fail) | (unfold QP.oat; go_simp; first | done | exact ⟨by assumption, rfl⟩ | exact rfl | assumption | (first | ((with_reducible refine (LE.out _ hq).mono ?_); rintro e w' ⟨rfl, rfl⟩; exact ⟨rfl, hq⟩) | ((with_reducible refine (RLE.out _ hq).mono ?_); rintro e w' ⟨rfl, rfl⟩; exact ⟨rfl, hq⟩) | ((with_reducible refine (RRO.out _ hq).mono ?_); rintro e w' ⟨rfl, rfl⟩; exact ⟨rfl, hq⟩) | ((with_reducible refine (RO.out _ hq).mono ?_); rintro e w' ⟨rfl, h'⟩; exact ⟨rfl, h'⟩))))))
                    | (apply QP.al_ok; decide; (focus (intro wq hq; (have y0 := CC.out _ hq); first | (fail) | (unfold QP.oat; go_simp; first | done | exact ⟨by assumption, rfl⟩ | exact rfl | assumption | (first | ((with_reducible refine (LE.out _ hq).mono ?_); rintro e w' ⟨rfl, rfl⟩; exact ⟨rfl, hq⟩) | ((with_reducible refine (RLE.out _ hq).mono ?_); rintro e w' ⟨rfl, rfl⟩; exact ⟨rfl, hq⟩) | ((with_reducible refine (RRO.out _ hq).mono ?_); rintro e w' ⟨rfl, rfl⟩; exact ⟨rfl, hq⟩) | ((with_reducible refine (RO.out _ hq).mono ?_); rintro e w' ⟨rfl, h'⟩; exact ⟨rfl, h'⟩))))); (focus (intro wq hq; (have y0 := CC.out _ hq); first | (fail) | (unfold QP.oat; go_simp; first | done | exact ⟨by assumption, rfl⟩ | exact rfl | assumption | (first | ((with_reducible refine (LE.out _ hq).mono ?_); rintro e w' ⟨rfl, rfl⟩; exact ⟨rfl, hq⟩) | ((with_reducible refine (RLE.out _ hq).mono ?_); rintro e w' ⟨rfl, rfl⟩; exact ⟨rfl, hq⟩) | ((with_reducible refine (RRO.out _ hq).mono ?_); rintro e w' ⟨rfl, rfl⟩; exact ⟨rfl, hq⟩) | ((with_reducible refine (RO.out _ hq).mono ?_); rintro e w' ⟨rfl, h'⟩; exact ⟨rfl, h'⟩))))))
                  clear hK K))
          refine QP.wpQ_nil ?_
          intro wz bz
          go_wp2
          go_roundg (m - (k + 1))
          case measure => have := HG.out; omega
          case rel => exact ⟨k + 1, E5, by have := HG.out; omega, by go_num, CS.out _ bz⟩
        have e6 : (K == 6) = false := by simpa using q6
        have P5 := Lib.hid PN.out
        go_wp2_with (first | (rw [HQ.out, HV.out]) | fail)
        clear c0 c1 c2 c3' c4 x0 x1 x2 x3 cV PN PV KK hab hz d3 d3' HQ
        have hC : ∃ C : World → Prop, C = PS n w (B + 1) B nb lo [(q, 33, #[.int .i64 t, .int .i64 f, .int .i64 qk, .string z])] E E (.slice Av nb cv) := ⟨_, rfl⟩
        obtain ⟨C, hC⟩ := hC
        have cc : ∀ x, C x → x.cell? ⟨q, 0, none⟩ = some (.int .i64 t) := fun x c => by rw [hC] at c; exact ((c.at (r := (q, 33, _)) List.mem_cons_self).cell 0).trans rfl
        have le := fun x (c : C x) => ps_len (hC ▸ c : PS n w (B + 1) B nb lo _ E E _ x) t
        have rle := fun x (c : C x) => ps_rlen (hC ▸ c : PS n w (B + 1) B nb lo _ E E _ x) t
        have rro := fun x (c : C x) => ps_rroom (hC ▸ c : PS n w (B + 1) B nb lo _ E E _ x) t
        have ro := fun x (c : C x) => ps_room (hC ▸ c : PS n w (B + 1) B nb lo [(q, 33, #[.int .i64 t, .int .i64 f, .int .i64 qk, .string z])] E E (.slice Av nb cv) x) t
        rw [← hC] at ro
        have C5 := Lib.hid (show C V by rw [hC]; exact P5.out.sub (by simp))
        have CS := Lib.hid (fun x (c : C x) => (show PS n w (B + 1) B nb lo [] E E (.slice Av nb cv) x from (show PS n w (B + 1) B nb lo [(q, 33, #[.int .i64 t, .int .i64 f, .int .i64 qk, .string z])] E E (.slice Av nb cv) x by rw [← hC]; exact c).sub (by simp)))
        have CD := Lib.hid (fun x (c : C x) => (show C x.drew by rw [hC] at c ⊢; exact c.drew))
        generalize lenR nb E t = len5 at *
        generalize roomR nb E t = room5 at *
        have LE := Lib.hid le; have RLE := Lib.hid rle; have RRO := Lib.hid rro; have RO := Lib.hid ro; have CC := Lib.hid cc
        clear le rle rro ro cc hC P5
        obtain ⟨wo, hwo⟩ : ∃ wo : World, wo = V := ⟨_, rfl⟩
        rw [← hwo] at C5 ⊢
        clear hwo
        go_wp2_with fail
        refine QP.wp_region_p 13 C C (by kernel_rfl) (by kernel_rfl) (CD.out _ C5.out) ?_
        iterate 20
          (refine QP.wpQ_step (fun K hK => ?_)
           go_simp
           first
             | (refine hK _ ?_; clear hK K)
             | (refine ⟨?_, hK _ ?_⟩; decide; clear hK K)
             | ((first | (apply Exists.intro; refine ⟨?_, hK _ ?_⟩) | refine ⟨⟨undef, ?_⟩, hK _ ?_⟩)
                first
                  | (apply QP.al_p; decide; (focus (intro wq hq; (have y0 := CC.out _ hq); first | (fail) | (unfold QP.oat; go_simp; first | done | exact ⟨by assumption, rfl⟩ | exact rfl | assumption | (first | ((with_reducible refine (LE.out _ hq).mono ?_); rintro e w' ⟨rfl, rfl⟩; exact ⟨rfl, hq⟩) | ((with_reducible refine (RLE.out _ hq).mono ?_); rintro e w' ⟨rfl, rfl⟩; exact ⟨rfl, hq⟩) | ((with_reducible refine (RRO.out _ hq).mono ?_); rintro e w' ⟨rfl, rfl⟩; exact ⟨rfl, hq⟩) | ((with_reducible refine (RO.out _ hq).mono ?_); rintro e w' ⟨rfl, h'⟩; exact ⟨rfl, h'⟩))))))
                  | (apply QP.al_dep; decide; decide; (focus (intro wq hq; (have y0 := CC.out _ hq); first | (fail) | (unfold QP.oat; go_simp; first | done | exact ⟨by assumption, rfl⟩ | exact rfl | assumption | (first | ((with_reducible refine (LE.out _ hq).mono ?_); rintro e w' ⟨rfl, rfl⟩; exact ⟨rfl, hq⟩) | ((with_reducible refine (RLE.out _ hq).mono ?_); rintro e w' ⟨rfl, rfl⟩; exact ⟨rfl, hq⟩) | ((with_reducible refine (RRO.out _ hq).mono ?_); rintro e w' ⟨rfl, rfl⟩; exact ⟨rfl, hq⟩) | ((with_reducible refine (RO.out _ hq).mono ?_); rintro e w' ⟨rfl, h'⟩; exact ⟨rfl, h'⟩))))))
                  | (apply QP.al_bef; decide; decide; (focus (intro wq hq; (have y0 := CC.out _ hq); first | (fail) | (unfold QP.oat; go_simp; first | done | exact ⟨by assumption, rfl⟩ | exact rfl | assumption | (first | ((with_reducible refine (LE.out _ hq).mono ?_); rintro e w' ⟨rfl, rfl⟩; exact ⟨rfl, hq⟩) | ((with_reducible refine (RLE.out _ hq).mono ?_); rintro e w' ⟨rfl, rfl⟩; exact ⟨rfl, hq⟩) | ((with_reducible refine (RRO.out _ hq).mono ?_); rintro e w' ⟨rfl, rfl⟩; exact ⟨rfl, hq⟩) | ((with_reducible refine (RO.out _ hq).mono ?_); rintro e w' ⟨rfl, h'⟩; exact ⟨rfl, h'⟩))))))
                  | (apply QP.al_ok; decide; (focus (intro wq hq; (have y0 := CC.out _ hq); first | (fail) | (unfold QP.oat; go_simp; first | done | exact ⟨by assumption, rfl⟩ | exact rfl | assumption | (first | ((with_reducible refine (LE.out _ hq).mono ?_); rintro e w' ⟨rfl, rfl⟩; exact ⟨rfl, hq⟩) | ((with_reducible refine (RLE.out _ hq).mono ?_); rintro e w' ⟨rfl, rfl⟩; exact ⟨rfl, hq⟩) | ((with_reducible refine (RRO.out _ hq).mono ?_); rintro e w' ⟨rfl, rfl⟩; exact ⟨rfl, hq⟩) | ((with_reducible refine (RO.out _ hq).mono ?_); rintro e w' ⟨rfl, h'⟩; exact ⟨rfl, h'⟩))))); (focus (intro wq hq; (have y0 := CC.out _ hq); first | (fail) | (unfold QP.oat; go_simp; first | done | exact ⟨by assumption, rfl⟩ | exact rfl | assumption | (first | ((with_reducible refine (LE.out _ hq).mono ?_); rintro e w' ⟨rfl, rfl⟩; exact ⟨rfl, hq⟩) | ((with_reducible refine (RLE.out _ hq).mono ?_); rintro e w' ⟨rfl, rfl⟩; exact ⟨rfl, hq⟩) | ((with_reducible refine (RRO.out _ hq).mono ?_); rintro e w' ⟨rfl, rfl⟩; exact ⟨rfl, hq⟩) | ((with_reducible refine (RO.out _ hq).mono ?_); rintro e w' ⟨rfl, h'⟩; exact ⟨rfl, h'⟩))))))
                clear hK K))
        refine QP.wpQ_nil ?_
        intro wz bz
        go_wp2
        go_roundg (m - (k + 1))
        case measure => have := HG.out; omega
        case rel => exact ⟨k + 1, E, by have := HG.out; omega, by go_num, CS.out _ bz⟩
      · have d3 : decide ((300 : Int) < (z.size : Int)) = true := by simp; omega
        have d3' : decide (300 < z.size) = true := by simp; omega
        go_wp2_with (first | (rw [HQ.out, HV.out]) | fail)
        refine (SH.out _).mono ?_
        rintro e w4 ⟨rfl, g4⟩
        have b4 := (PN.out.same g4).bel
        go_wp2
        go_ret
        exact FIN.out _ b4
    · obtain rfl : k = m := by have := HG.out; omega
      have ok := PV.out.fok
      have le := sumM_le ok
      have LE := Lib.hid le
      have fin2 := fun x (c : PS n w (B + 1) B nb lo [] E E (.slice Av nb cv) x) => ps_all c
      have len := fun x (c : PS n w (B + 1) B nb lo [] E E (.slice Av nb cv) x) (j : Nat) => ps_len c j
      have box := fun x (c : PS n w (B + 1) B nb lo [] E E (.slice Av nb cv) x) (j : Nat) (hj : j < nb) => c.box hj
      have AL := Lib.hid fin2; have LN := Lib.hid len; have BX := Lib.hid box
      have hlen : ∀ j, j < nb → lenR nb E (j : Nat) = ((E j).many : Nat) := fun j hj => by unfold lenR; rw [if_pos ⟨by omega, by omega⟩, Int.toNat_natCast]
      have HL := Lib.hid hlen
      have hst : ∀ j, sumM E (j + 1) = sumM E j + (E j).many := fun j => rfl
      have ST := Lib.hid hst
      clear ok le fin2 len box hlt hlen hst
      go_wp2
      go_loopg [8, 23] nb (fun g al i W => ∃ (j : Nat), g + j = nb ∧ i = .int .i64 j ∧ al = .int .i64 (sumM E j : Nat) ∧ PS n w (B + 1) B nb lo [] E E (.slice Av nb cv) W)
      case atStart => exact ⟨0, by omega, rfl, rfl, PV.out⟩
      case round =>
        obtain ⟨j, hg, rfl, rfl, pw⟩ := hrel
        have HG2 := Lib.hid hg
        have PW := Lib.hid pw
        clear hg PV
        by_cases hjn : j < nb
        · obtain ⟨g, cg, As, c5, hv, hc⟩ := BX.out _ pw j hjn
          cases hv
          have l1 := LE.out (j + 1)
          rw [ST.out] at l1
          have S1 := Lib.hid (ST.out j)
          have lnc := fun q => LN.out _ (pw.drewN q) j
          rw [HL.out j hjn] at lnc
          have LNC := Lib.hid lnc
          clear lnc pw
          generalize hsm : sumM E j = sm at *
          generalize (E j).many = mm at *
          have hw1 : IntKind.i64.wrap ((sm : Int) + (mm : Int)) = (sm : Int) + (mm : Int) := IntWalk.i64_in _ (by omega)
          clear l1
          go_wp2_with fail
          refine QP.wp_region_p 2 (fun x => ∃ q, x = wr.drewN q) (fun x => ∃ q, x = wr.drewN q) (by kernel_rfl) (by kernel_rfl) ⟨1, rfl⟩ ?_
          iterate 10
            (refine QP.wpQ_step (fun K hK => ?_)
             go_simp
             first
               | (refine hK _ ?_; clear hK K)
               | (refine ⟨?_, hK _ ?_⟩; decide; clear hK K)
               | ((first | (apply Exists.intro; refine ⟨?_, hK _ ?_⟩) | refine ⟨⟨undef, ?_⟩, hK _ ?_⟩)
                  first
                    | (apply QP.al_p; decide; (focus (intro wq hq; (obtain ⟨q, rfl⟩ := hq); first | (fail) | (unfold QP.oat; go_simp; first | done | exact ⟨by assumption, rfl⟩ | exact rfl | assumption | (first | ((with_reducible refine (LNC.out _).mono ?_); rintro e w' ⟨rfl, rfl⟩; exact ⟨rfl, _, rfl⟩) | exact ⟨⟨_, rfl⟩, rfl⟩ | trace_state)))))
                    | (apply QP.al_dep; decide; decide; (focus (intro wq hq; (obtain ⟨q, rfl⟩ := hq); first | (fail) | (unfold QP.oat; go_simp; first | done | exact ⟨by assumption, rfl⟩ | exact rfl | assumption | (first | ((with_reducible refine (LNC.out _).mono ?_); rintro e w' ⟨rfl, rfl⟩; exact ⟨rfl, _, rfl⟩) | exact ⟨⟨_, rfl⟩, rfl⟩ | trace_state)))))
                    | (apply QP.al_bef; decide; decide; (focus (intro wq hq; (obtain ⟨q, rfl⟩ := hq); first | (fail) | (unfold QP.oat; go_simp; first | done | exact ⟨by assumption, rfl⟩ | exact rfl | assumption | (first | ((with_reducible refine (LNC.out _).mono ?_); rintro e w' ⟨rfl, rfl⟩; exact ⟨rfl, _, rfl⟩) | exact ⟨⟨_, rfl⟩, rfl⟩ | trace_state)))))
                    | (apply QP.al_ok; decide; (focus (intro wq hq; (obtain ⟨q, rfl⟩ := hq); first | (fail) | (unfold QP.oat; go_simp; first | done | exact ⟨by assumption, rfl⟩ | exact rfl | assumption | (first | ((with_reducible refine (LNC.out _).mono ?_); rintro e w' ⟨rfl, rfl⟩; exact ⟨rfl, _, rfl⟩) | exact ⟨⟨_, rfl⟩, rfl⟩ | trace_state)))); (focus (intro wq hq; (obtain ⟨q, rfl⟩ := hq); first | (fail) | (unfold QP.oat; go_simp; first | done | exact ⟨by assumption, rfl⟩ | exact rfl | assumption | (first | ((with_reducible refine (LNC.out _).mono ?_); rintro e w' ⟨rfl, rfl⟩; exact ⟨rfl, _, rfl⟩) | exact ⟨⟨_, rfl⟩, rfl⟩ | trace_state)))))
                  clear hK K))
          refine QP.wpQ_nil ?_
          rintro wz ⟨nq, rfl⟩
          go_wp2
          go_roundg (nb - (j + 1))
          case measure => have := HG2.out; omega
          case rel => exact ⟨j + 1, by have := HG2.out; omega, by go_num, by rw [S1.out, ← hsm]; go_num, PW.out.drewN _⟩
        · obtain rfl : j = nb := by have := HG2.out; omega
          have al := AL.out _ pw
          have bz := pw.bel
          have BZ := Lib.hid bz
          generalize sumM E j = sm at *
          have ALL := Lib.hid al
          clear al pw bz
          go_wp2_with fail
          refine (ALL.out).mono ?_
          rintro e w9 ⟨rfl, rfl⟩
          go_wp2
          go_ret
          exact FIN.out _ BZ.out
set_option maxRecDepth 100000 in
set_option maxHeartbeats 4000000 in
theorem acts_none (x : Int) (hx : x < 1 ∨ 64 < x) (A : Option Addr) (m cap2 : Nat) (w : World) (hl : m ≤ 200) : Calls Try.prog 5 #[.int .i64 x, .slice A m cap2] w (Fine w) := by
  have NW := Lib.hid (fun v => new_no x hx v)
  have RNW := Lib.hid (fun v => rnew_no x hx v)
  have SH := Lib.hid (fun v => shown_any v)
  have d2 : decide ((200 : Int) < (m : Int)) = false := by simp; omega
  have d2' : decide (200 < m) = false := by simp; omega
  clear hx
  go_enter Try.func5, Try.ntmps5
  go_wp2_with fail
  refine (SH.out _).mono ?_
  rintro e w1 ⟨rfl, g1⟩
  have G1 := Lib.hid g1
  clear g1
  go_wp2_with fail
  refine (NW.out _).mono ?_
  rintro e w2 ⟨rfl, rfl⟩
  go_wp2_with fail
  refine (RNW.out _).mono ?_
  rintro e w3 ⟨rfl, rfl⟩
  go_wp2
  go_ret
  exact ⟨rfl, G1.out⟩
set_option maxRecDepth 100000 in
set_option maxHeartbeats 4000000 in
theorem acts_many (x : Int) (A : Option Addr) (m cap2 : Nat) (w : World) (hl : 200 < m) : Calls Try.prog 5 #[.int .i64 x, .slice A m cap2] w (Fine w) := by
  have SH := Lib.hid (fun v => shown_any v)
  have d2 : decide ((200 : Int) < (m : Int)) = true := by simp; omega
  have d2' : decide (200 < m) = true := by simp; omega
  clear hl
  go_enter Try.func5, Try.ntmps5
  go_wp2_with fail
  refine (SH.out _).mono ?_
  rintro e w1 ⟨rfl, g1⟩
  have G1 := Lib.hid g1
  clear g1
  go_wp2
  go_ret
  exact ⟨rfl, G1.out⟩
set_option maxRecDepth 100000 in
theorem walk_PostActs {H : Type} {enc : TypeId × Value → H} {W : World} {base : Nat} (a0 : Int) (w0 : (Lit.int .i64 a0).wf = true) (v : Value) (d : DataW H) (p : List MemPlace) (hval : Value.okWide Try.prog W .any base 44 v)
    (h : DataW.Trod enc Try.prog W 0 (fun _ => true) true 44 v d p) : Calls Try.prog 5 #[.int .i64 a0, v] W (Fine W) := by
  obtain ⟨A, cap, l, rfl, h1, h2, h3, h4⟩ := RowK.sl_of_trod Ac.cells Ac.ok Try.underlying44 (size := 5) (by kernel_rfl) (by decide) act_of_trod hval h
  by_cases hm : 200 < l.length
  · exact acts_many a0 A l.length cap W hm
  · by_cases hx : a0 < 1 ∨ 64 < a0
    · exact acts_none a0 hx A l.length cap W (by omega)
    · obtain ⟨nb, rfl⟩ := Int.eq_ofNat_of_zero_le (show 0 ≤ a0 by omega)
      exact acts_walk nb (by omega) (by omega) A cap l W h4 h3 (by omega)
end Go.Proofs.Ytblbhnlmbmffkaa
