/- Whether a message may be, in the program; the conditions are the types' own. -/
import Derived.Test.YtiilgkhndfnkgaaWiG
namespace Go.Proofs.Ytiilgkhndfnkgaa
open Go.RowKit Go.Shelf
set_option linter.unusedVariables false

theorem none_row (k : Int) : (Msg.none k).row = #[.int .i64 k, .int .u32 0, .int .u64 0, .int .u64 0, .int .u8 0, .int .u8 0, .int .u8 0, .int .u8 0, .int .u8 0, .int .u8 0, .int .u8 0, .int .u8 0, .int .u8 0, .int .u8 0, .int .u8 0, .int .u8 0, .int .u8 0, .int .u8 0, .int .u8 0, .int .u8 0, .int .u8 0, .int .u8 0, .int .u8 0, .int .u8 0, .int .u8 0, .int .u8 0, .int .u8 0, .int .u8 0, .int .u8 0, .int .u8 0, .int .u8 0, .int .u8 0, .int .u8 0, .int .u8 0, .int .u8 0, .int .u8 0, .int .i64 0, .int .i64 0] := by rfl
theorem y0 : (0 : Int) ≤ 0 := by decide
theorem y1 : (0 : Int) ≤ 4294967295 := by decide
theorem y2 : (0 : Int) ≤ 18446744073709551615 := by decide
theorem y3 : (-9223372036854775808 : Int) ≤ 0 := by decide
theorem y4 : (0 : Int) ≤ 9223372036854775807 := by decide
theorem z_in {x : Int} (hx : x ∈ z32) : 0 ≤ x ∧ x ≤ 255 := by
  have : x = 0 := List.eq_of_mem_replicate hx
  omega
theorem none_ok {m : Msg} (h : m.ok) : (Msg.none m.kind).ok := ⟨rfl, fun x hx => z_in hx, h.k0, h.k1, y0, y1, y0, y2, y0, y2, y3, y4, y3, y4⟩
theorem zero_ok {m : Msg} (h : m.ok) (f : Fld) : (m.zero f).ok := by
  obtain ⟨a0, a1, a2, a3, a4, a5, a6, a7, a8, a9, b0, b1, b2, b3⟩ := h
  cases f
  · exact ⟨a0, a1, a2, a3, y0, y1, a6, a7, a8, a9, b0, b1, b2, b3⟩
  · exact ⟨a0, a1, a2, a3, a4, a5, y0, y2, a8, a9, b0, b1, b2, b3⟩
  · exact ⟨a0, a1, a2, a3, a4, a5, a6, a7, y0, y2, b0, b1, b2, b3⟩
  · exact ⟨rfl, fun x hx => z_in hx, a2, a3, a4, a5, a6, a7, a8, a9, b0, b1, b2, b3⟩
  · exact ⟨a0, a1, a2, a3, a4, a5, a6, a7, a8, a9, y3, y4, b2, b3⟩
  · exact ⟨a0, a1, a2, a3, a4, a5, a6, a7, a8, a9, b0, b1, y3, y4⟩
theorem zeroAll_ok {m : Msg} (h : m.ok) : ∀ fl, (zeroAll m fl).ok := by
  intro fl
  induction fl generalizing m with
  | nil => exact h
  | cons f r ih => exact ih (zero_ok h f)
theorem zero_kind (m : Msg) : ∀ fl, (zeroAll m fl).kind = m.kind := by
  intro fl
  induction fl generalizing m with
  | nil => rfl
  | cons f r ih => show (zeroAll (m.zero f) r).kind = _; rw [ih]; cases f <;> rfl
theorem guard62 : Try.prog.eqGuardType Try.prog.depth 62 = false := by kernel_rfl
theorem guard65 : Try.prog.eqGuardType Try.prog.depth 65 = false := by kernel_rfl
theorem guard33 : Try.prog.eqGuardType Try.prog.depth 33 = false := by kernel_rfl
set_option maxRecDepth 100000 in
set_option maxHeartbeats 4000000 in
theorem may_any (m : Msg) (h : m.ok) (b : Bool) (hb : b = true ↔ May m) (w : World) : Calls Try.prog 35 #[.agg m.row] w fun e w' => e = .returned (.bool b) ∧ Below w.heap.size w w' := by
  obtain ⟨n, hn⟩ : ∃ n, w.heap.size = n := ⟨_, rfl⟩
  obtain ⟨V, hV⟩ : ∃ V, w.alloc (.cells m.row 62) = V := ⟨_, rfl⟩
  have rV : M.RowAt V n 62 m.row := by rw [← hV, ← hn]; exact M.RowAt.new w 62 _
  have bV : Below n w V := by rw [← hV, ← hn]; exact (Below.refl _ w).alloc (Nat.le_refl _) _
  have sV : V.heap.size = n + 1 := by rw [← hV]; simp [hn]
  have fa := fields_any m.kind V
  rw [sV] at fa
  rw [hn]
  have cell := fun (W : World) (hr : M.RowAt W n 62 m.row) => And.intro ((hr.cell 0).trans Msg.g0) (And.intro ((hr.cell 3).trans Msg.g3) (And.intro ((hr.cell 36).trans (Msg.g36 h.h32)) ((hr.cell 37).trans (Msg.g37 h.h32))))
  have c0 := (cell V rV).1
  have HN := Lib.hid hn; have HV := Lib.hid hV; have CELL := Lib.hid cell; have RV := Lib.hid rV; have BV := Lib.hid bV; have HB := Lib.hid hb; have HO := Lib.hid h
  have SV := Lib.hid sV
  cases hf : fieldsOf m.kind with
  | none =>
    rw [hf] at fa
    simp only at fa
    have FA := Lib.hid fa
    obtain rfl : b = false := by
      cases b with
      | false => rfl
      | true =>
        obtain ⟨fl, h1, _⟩ := hb.1 rfl
        rw [hf] at h1; cases h1
    clear fa hf hb h cell rV bV sV hV hn
    generalize m.row = X at *
    generalize m.kind = kd at *
    go_enter Try.func35, Try.ntmps35
    go_wp2_with (first | (rw [HN.out, HV.out]) | fail)
    refine (FA.out).mono ?_
    rintro e w1 ⟨rfl, b1⟩
    have BF := Lib.hid (BV.out.trans (b1.mono (by omega)))
    clear b1
    go_wp2
    go_ret
    exact ⟨rfl, BF.out⟩
  | some fl =>
    rw [hf] at fa
    simp only at fa
    have FA := Lib.hid fa
    have HF := Lib.hid hf
    have hno : ∀ P : Prop, (MayP m fl → P) → ¬ P → b = false := fun P hp hn => by
      cases hbb : b with
      | false => rfl
      | true =>
        obtain ⟨fl', h1, h2⟩ := hb.1 hbb
        rw [hf] at h1; cases h1
        exact absurd (hp h2) hn
    have HNO := Lib.hid hno
    clear fa hf hb cell rV bV sV hV hn hno h
    by_cases p0 : m.expiry < 0
    · obtain rfl := HNO.out (0 ≤ m.expiry) (fun q => q.e0) (by omega)
      have d0 : decide (m.expiry < 0) = true := by simpa using p0
      clear p0
      clear HB HNO HF
      generalize m.row = X at *
      generalize m.kind = kd at *
      generalize m.expiry = ex at *
      generalize m.number = nu at *
      generalize m.amount = am at *
      go_enter Try.func35, Try.ntmps35
      go_wp2_with (first | (rw [HN.out, HV.out]) | fail)
      refine (FA.out).mono ?_
      rintro e w1 ⟨v, rfl, fl1, b1⟩
      obtain ⟨x0, x3, x36, x37⟩ := CELL.out w1 (RV.out.below b1 (by omega))
      have BF := Lib.hid (BV.out.trans (b1.mono (by omega)))
      clear b1 fl1
      go_wp2
      go_ret
      exact ⟨rfl, BF.out⟩
    · have d0 : decide (m.expiry < 0) = false := by simpa using p0
      by_cases p1 : m.expiry ≤ 1073741824
      · have d1 : decide ((1073741824 : Int) < m.expiry) = false := by simpa using p1
        by_cases p2 : m.number < 0
        · obtain rfl := HNO.out (0 ≤ m.number) (fun q => q.n0) (by omega)
          have d2 : decide (m.number < 0) = true := by simpa using p2
          clear p0 p1 p2
          clear HB HNO HF
          generalize m.row = X at *
          generalize m.kind = kd at *
          generalize m.expiry = ex at *
          generalize m.number = nu at *
          generalize m.amount = am at *
          go_enter Try.func35, Try.ntmps35
          go_wp2_with (first | (rw [HN.out, HV.out]) | fail)
          refine (FA.out).mono ?_
          rintro e w1 ⟨v, rfl, fl1, b1⟩
          obtain ⟨x0, x3, x36, x37⟩ := CELL.out w1 (RV.out.below b1 (by omega))
          have BF := Lib.hid (BV.out.trans (b1.mono (by omega)))
          clear b1 fl1
          go_wp2
          go_ret
          exact ⟨rfl, BF.out⟩
        · have d2 : decide (m.number < 0) = false := by simpa using p2
          by_cases p3 : m.number ≤ 65535
          · have d3 : decide ((65535 : Int) < m.number) = false := by simpa using p3
            by_cases p4 : m.amount ≤ 1125899906842624
            · have d4 : decide ((1125899906842624 : Int) < m.amount) = false := by simpa using p4
              have hbz : b = true ↔ zeroAll m fl = Msg.none m.kind := by
                rw [HB.out]
                constructor
                · rintro ⟨fl', h1, h2⟩
                  rw [HF.out] at h1; cases h1
                  exact h2.z
                · intro hz
                  exact ⟨fl, HF.out, ⟨by omega, p1, by omega, p3, p4, hz⟩⟩
              have eq := msg_eql 62 (.inl rfl) (zeroAll m fl) (Msg.none m.kind) (zeroAll_ok HO.out fl) (none_ok HO.out) b hbz
              rw [none_row] at eq
              have EQ := Lib.hid eq
              have TH := Lib.hid (fun v W hFL hlo rb => zero_through (b := n) (lo := n + 1) fl (fields_len HF.out) v W hFL hlo (by omega) m HO.out.h32 rb)
              have iX := Msg.info (zero_len m HO.out.h32 fl)
              have kz := zero_kind m fl
              have cz := fun (W : World) (hr : M.RowAt W n 62 (zeroAll m fl).row) => (hr.cell 0).trans Msg.g0
              rw [kz] at cz
              have CZ := Lib.hid cz
              clear p0 p1 p2 p3 p4 eq hbz kz cz HB HNO
              generalize (zeroAll m fl).row = Z at *
              clear HF
              generalize m.row = X at *
              generalize m.kind = kd at *
              generalize m.expiry = ex at *
              generalize m.number = nu at *
              generalize m.amount = am at *
              go_enter Try.func35, Try.ntmps35
              go_wp2_with (first | (rw [HN.out, HV.out]) | fail)
              refine (FA.out).mono ?_
              rintro e w1 ⟨v, rfl, fl1, b1⟩
              obtain ⟨x0, x3, x36, x37⟩ := CELL.out w1 (RV.out.below b1 (by omega))
              have T1 := Lib.hid (TH.out v w1 fl1 (by have := b1.size; have := SV.out; omega) (RV.out.below b1 (by omega)))
              have BF := Lib.hid (BV.out.trans (b1.mono (by omega)))
              obtain ⟨A1, L1, C1, rfl⟩ : ∃ A L C, v = .slice A L C := by obtain ⟨g, cap, C, hv, _⟩ := fl1; exact ⟨_, _, _, hv⟩
              clear b1 fl1 TH
              go_wp2_with fail
              refine (T1.out).mono ?_
              rintro e w2 ⟨rfl, r2, but2⟩
              have rz := r2
              have cz := CZ.out w2 r2
              have B2 := Lib.hid (show Below n w w2 from but2.below BF.out (Nat.le_refl _) (by have := BF.out.size; have := HN.out; omega))
              clear T1 but2 r2
              go_wp2_with (first
                | (refine wpList_load_row (x := .tmp 1) (ty := 62) (g := n) (cs := Z) (t := 62) (fr := (0, 0)) ?_ ?_ ?_ _ rz Try.underlying62 rfl iX ?_; rfl; rfl; rfl)
                | (refine wpList_eql (x := .tmp 41) (y := .tmp 44) (ty := 62) (t := 62) (A := Z) ?_ ?_ _ ?_ ?_ b guard62 EQ.out ?_; rfl; rfl; rfl; rfl)
                | fail)
              go_ret
              exact ⟨rfl, B2.out⟩
            · obtain rfl := HNO.out (m.amount ≤ 1125899906842624) (fun q => q.a1) p4
              have d4 : decide ((1125899906842624 : Int) < m.amount) = true := by simpa using p4
              clear p0 p1 p2 p3 p4
              clear HB HNO HF
              generalize m.row = X at *
              generalize m.kind = kd at *
              generalize m.expiry = ex at *
              generalize m.number = nu at *
              generalize m.amount = am at *
              go_enter Try.func35, Try.ntmps35
              go_wp2_with (first | (rw [HN.out, HV.out]) | fail)
              refine (FA.out).mono ?_
              rintro e w1 ⟨v, rfl, fl1, b1⟩
              obtain ⟨x0, x3, x36, x37⟩ := CELL.out w1 (RV.out.below b1 (by omega))
              have BF := Lib.hid (BV.out.trans (b1.mono (by omega)))
              clear b1 fl1
              go_wp2
              go_ret
              exact ⟨rfl, BF.out⟩
          · obtain rfl := HNO.out (m.number ≤ 65535) (fun q => q.n1) p3
            have d3 : decide ((65535 : Int) < m.number) = true := by simpa using p3
            clear p0 p1 p2 p3
            clear HB HNO HF
            generalize m.row = X at *
            generalize m.kind = kd at *
            generalize m.expiry = ex at *
            generalize m.number = nu at *
            generalize m.amount = am at *
            go_enter Try.func35, Try.ntmps35
            go_wp2_with (first | (rw [HN.out, HV.out]) | fail)
            refine (FA.out).mono ?_
            rintro e w1 ⟨v, rfl, fl1, b1⟩
            obtain ⟨x0, x3, x36, x37⟩ := CELL.out w1 (RV.out.below b1 (by omega))
            have BF := Lib.hid (BV.out.trans (b1.mono (by omega)))
            clear b1 fl1
            go_wp2
            go_ret
            exact ⟨rfl, BF.out⟩
      · obtain rfl := HNO.out (m.expiry ≤ 1073741824) (fun q => q.e1) p1
        have d1 : decide ((1073741824 : Int) < m.expiry) = true := by simpa using p1
        clear p0 p1
        clear HB HNO HF
        generalize m.row = X at *
        generalize m.kind = kd at *
        generalize m.expiry = ex at *
        generalize m.number = nu at *
        generalize m.amount = am at *
        go_enter Try.func35, Try.ntmps35
        go_wp2_with (first | (rw [HN.out, HV.out]) | fail)
        refine (FA.out).mono ?_
        rintro e w1 ⟨v, rfl, fl1, b1⟩
        obtain ⟨x0, x3, x36, x37⟩ := CELL.out w1 (RV.out.below b1 (by omega))
        have BF := Lib.hid (BV.out.trans (b1.mono (by omega)))
        clear b1 fl1
        go_wp2
        go_ret
        exact ⟨rfl, BF.out⟩
end Go.Proofs.Ytiilgkhndfnkgaa
