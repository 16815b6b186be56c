/- The reference of layer 16: Take and Close; the condition is that the blocks of the boxes are known. -/
import Derived.Test.YtblbhnlmbmffkaaPoM
namespace Go.Proofs.Ytblbhnlmbmffkaa
open Go.RowKit
set_option linter.unusedVariables false

theorem flatL_cons (x : Lt) (l : List Lt) : flatL (x :: l) = x.cells ++ flatL l := by unfold flatL; rfl
theorem i52 : (Try.prog.info? 52).map (·.size) = some lt0.row.size := by show _ = some 4; kernel_rfl
/-- a row that was cut at its first letter, appended to a new one -/
theorem cut_run {W : World} {b : Nat} {d : Value} {g m cap : Nat} {x : Lt} {l : List Lt} (hd : W.ownsRow b 52 4 d 0 []) (hm : l.length = m) (hs : ∀ j u, (flatL (x :: l))[j]? = some u → W.cell? ((⟨g, 0, none⟩ : Addr).add j) = some u) (hb : b ≤ W.heap.size) (hlen : m ≤ 1000) :
    ∃ v' W', (Builtin.append_ #[55, 55] 55 #[d, .slice (some ⟨g, 4, none⟩) m cap]).run Try.prog W = .ok v' W' ∧ W'.ownsRow b 52 4 v' m (flatL l) ∧ W.grownBy W' d.ownBlock := by
  obtain ⟨i0, hi, hz, hsz, hby⟩ := info_parts info52
  obtain ⟨v', W', hr, ho, hg, _⟩ := run_append_own (P := Try.prog) W b 55 55 52 i0 (.agg #[.int .i64 0, .int .i64 0, .int .i64 0, .string ⟨#[]⟩]) 4 40 Try.underlying55 hi hz hsz hby rfl (by decide) d 0 [] hd ⟨g, 4, none⟩ m cap (flatL l) (by rw [flatL_len, hm]) (fun j u hu => by
    have := hs (j + 4) u (by rw [flatL_cons, List.getElem?_append_right (by simp [Lt.cells])]; simpa [Lt.cells] using hu)
    rw [Addr.add_mid] at this ⊢
    rw [show 4 + j = 0 + (j + 4) by omega]; exact this) (flat_one l) (by unfold maxLen; omega) (by omega) hb
  rw [Nat.zero_add, List.nil_append] at ho
  exact ⟨v', W', hr, ho, hg⟩

set_option maxRecDepth 100000 in
set_option maxHeartbeats 4000000 in
theorem rtake_no {lo : Nat} {w : World} {v : Value} {R : Rf} (h : RP lo w v R) {x : Int} (hx : ¬ (0 ≤ x ∧ x < (R.length : Int)) ∨ ∃ c, R[x.toNat]? = some ([], c) ∧ 0 ≤ x) :
    Calls Try.prog 17 #[v, .int .i64 x] w fun e w' => e = .returned (.tuple #[v, .agg lt0.row, .int .i64 3]) ∧ Below w.heap.size w w' := by
  have fin := (Below.refl _ w).alloc (Nat.le_refl _) (.cells #[.int .i64 0, .int .i64 0, .int .i64 0, .string ⟨#[]⟩] 52)
  obtain ⟨n, hn⟩ : ∃ n, w.heap.size = n := ⟨_, rfl⟩
  obtain ⟨V, hV⟩ : ∃ V, w.alloc (.cells #[.int .i64 0, .int .i64 0, .int .i64 0, .string ⟨#[]⟩] 52) = V := ⟨_, rfl⟩
  have rV : M.RowAt V n 52 #[.int .i64 0, .int .i64 0, .int .i64 0, .string ⟨#[]⟩] := by rw [← hV, ← hn]; exact M.RowAt.new w 52 _
  rw [hV] at fin
  have HN := Lib.hid hn; have HV := Lib.hid hV; have FIN := Lib.hid fin
  have RV := Lib.hid rV
  have x0 := rV.cell 0; have x1 := rV.cell 1; have x2 := rV.cell 2; have x3 := rV.cell 3
  have f0 := rV.frozen 0; have f1 := rV.frozen 1; have f2 := rV.frozen 2; have f3 := rV.frozen 3
  by_cases hin : 0 ≤ x ∧ x < (R.length : Int)
  · obtain ⟨c, hr, h0⟩ := hx.resolve_left (fun hh => hh hin)
    obtain ⟨k, rfl⟩ := Int.eq_ofNat_of_zero_le h0
    rw [Int.toNat_natCast] at hr
    have hk : k < R.length := (List.getElem?_eq_some_iff.1 hr).1
    obtain ⟨g, cap, s, r, rfl, hg, _, h1, h2, h3, h4⟩ := h.at hk
    obtain rfl : r = ([], c) := Option.some.inj (h1.symm.trans hr)
    obtain ⟨A, cap2, rfl⟩ := own_slice h4
    simp only at h2 h3 h4
    have IN0 := fun W => in_any (some ⟨g, 0, none⟩) R.length cap (k : Nat) W
    have hd : decide ((0 : Int) ≤ (k : Nat) ∧ ((k : Nat) : Int) < (R.length : Nat)) = true := by simp; omega
    have i1 : (0 : Int) ≤ (k : Nat) := by omega
    have i2 : ((k : Nat) : Int) < (R.length : Nat) := by omega
    rw [hd] at IN0
    have IN := Lib.hid IN0
    have bV : Below w.heap.size w V := by rw [← hV]; exact (Below.refl _ w).alloc (Nat.le_refl _) _
    rw [← bV.cell (p := ⟨g, k * 2, none⟩) hg] at h2
    clear IN0 hd h h1 hr h4 hn hV fin rV bV hin hx hk hg h3 h0
    generalize R.length = m at *
    go_enter Try.func17, Try.ntmps17
    go_wp2_with (rw [HN.out, HV.out])
    refine (IN.out _).mono ?_
    rintro e w1 ⟨rfl, rfl⟩
    go_wp2
    have hr := (((RV.out.set 0 (.int .i64 0)).set 1 (.int .i64 0)).set 2 (.int .i64 0)).set 3 (.string ⟨#[]⟩)
    have hload := run_loadVar_row (P := Try.prog) _ n 52 52 lt0.row (0, 0) _ hr Try.underlying52 rfl i52
    exact bodyPost_ret (v := .tuple #[_, .agg lt0.row, .int .i64 3]) (by simp [results, Try.results17, asAddr, hload]) rfl ⟨rfl, by
      rw [HN.out] at FIN ⊢
      exact (((FIN.out.setCell (p := ⟨n, 0, none⟩) (Nat.le_refl _) _).setCell (p := ⟨n, 1, none⟩) (Nat.le_refl _) _).setCell (p := ⟨n, 2, none⟩) (Nat.le_refl _) _).setCell (p := ⟨n, 3, none⟩) (Nat.le_refl _) _⟩
  · obtain ⟨A, cap, rfl⟩ := rp_slice h
    have IN0 := fun W => in_any A R.length cap x W
    have hd : decide (0 ≤ x ∧ x < (R.length : Nat)) = false := by simpa using hin
    rw [hd] at IN0
    have IN := Lib.hid IN0
    clear IN0 hd h hn hV fin rV hin hx
    go_enter Try.func17, Try.ntmps17
    go_wp2_with (rw [HN.out, HV.out])
    refine (IN.out _).mono ?_
    rintro e w1 ⟨rfl, rfl⟩
    go_wp2
    have hr := (((RV.out.set 0 (.int .i64 0)).set 1 (.int .i64 0)).set 2 (.int .i64 0)).set 3 (.string ⟨#[]⟩)
    have hload := run_loadVar_row (P := Try.prog) _ n 52 52 lt0.row (0, 0) _ hr Try.underlying52 rfl i52
    exact bodyPost_ret (v := .tuple #[_, .agg lt0.row, .int .i64 3]) (by simp [results, Try.results17, asAddr, hload]) rfl ⟨rfl, by
      rw [HN.out] at FIN ⊢
      exact (((FIN.out.setCell (p := ⟨n, 0, none⟩) (Nat.le_refl _) _).setCell (p := ⟨n, 1, none⟩) (Nat.le_refl _) _).setCell (p := ⟨n, 2, none⟩) (Nat.le_refl _) _).setCell (p := ⟨n, 3, none⟩) (Nat.le_refl _) _⟩
/-- Take's last region: what is listed, what it left -/
structure TI (w0 : World) (n m k : Nat) (c : Bool) (O X : Array Value) (v v6 : Value) (S : List (Value × Bool)) (mL : Nat) (l : List Lt) (U : World) (L : Nat → Bool) (V : Nat → Value) (w : World) : Prop where
  bel : Below n w0 w
  sz : n + 3 ≤ w.heap.size
  rv : L 6 = false → M.RowAt w n 52 O
  rx : M.RowAt w (n + 2) 52 X
  u : L 3 = false → w = U.drew
  v0 : L 0 = true → V 0 = v
  v1 : L 1 = true → V 1 = .int .i64 (k : Nat)
  v2 : L 2 = true → V 2 = .agg #[v6, .bool c]
  v4 : L 4 = true → V 4 = .agg X
  o6 : w.ownsRow (n + 3) 52 4 v6 l.length (flatL l)
  o3 : L 3 = true → w.ownsRow (n + 3) 62 2 (V 3) mL (bxs (S.set k (v6, c)))
  v6' : L 6 = true → M.RowAt w n 52 X
  v5 : L 5 = true → V 5 = V 3
  v7 : L 7 = true → V 7 = .int .i64 0
open QR in
section
variable {w0 w w' : World} {n m k : Nat} {c : Bool} {O X : Array Value} {v v6 : Value} {S : List (Value × Bool)} {mL : Nat} {l : List Lt} {U : World} {L : Nat → Bool} {V : Nat → Value}
theorem TI.s0 (h : TI w0 n m k c O X v v6 S mL l U L V w) : TI w0 n m k c O X v v6 S mL l U (upd L 0) (updV V 0 v) w := by
  obtain ⟨a, b, r, x, d, e0, e1, e2, e3, e4, e5, e6, e7, e8⟩ := h
  refine ⟨?_, ?_, ?_, ?_, ?_, ?_, ?_, ?_, ?_, ?_, ?_, ?_, ?_, ?_⟩ <;> (try simp [upd, updV]) <;> assumption
theorem TI.s1 (h : TI w0 n m k c O X v v6 S mL l U L V w) : TI w0 n m k c O X v v6 S mL l U (upd L 1) (updV V 1 (.int .i64 (k : Nat))) w := by
  obtain ⟨a, b, r, x, d, e0, e1, e2, e3, e4, e5, e6, e7, e8⟩ := h
  refine ⟨?_, ?_, ?_, ?_, ?_, ?_, ?_, ?_, ?_, ?_, ?_, ?_, ?_, ?_⟩ <;> (try simp [upd, updV]) <;> assumption
theorem TI.s2 (h : TI w0 n m k c O X v v6 S mL l U L V w) : TI w0 n m k c O X v v6 S mL l U (upd L 2) (updV V 2 (.agg #[v6, .bool c])) w := by
  obtain ⟨a, b, r, x, d, e0, e1, e2, e3, e4, e5, e6, e7, e8⟩ := h
  refine ⟨?_, ?_, ?_, ?_, ?_, ?_, ?_, ?_, ?_, ?_, ?_, ?_, ?_, ?_⟩ <;> (try simp [upd, updV]) <;> assumption
theorem TI.s4 (h : TI w0 n m k c O X v v6 S mL l U L V w) : TI w0 n m k c O X v v6 S mL l U (upd L 4) (updV V 4 (.agg X)) w := by
  obtain ⟨a, b, r, x, d, e0, e1, e2, e3, e4, e5, e6, e7, e8⟩ := h
  refine ⟨?_, ?_, ?_, ?_, ?_, ?_, ?_, ?_, ?_, ?_, ?_, ?_, ?_, ?_⟩ <;> (try simp [upd, updV]) <;> assumption
theorem TI.s5 (h : TI w0 n m k c O X v v6 S mL l U L V w) : TI w0 n m k c O X v v6 S mL l U (upd L 5) (updV V 5 (V 3)) w := by
  obtain ⟨a, b, r, x, d, e0, e1, e2, e3, e4, e5, e6, e7, e8⟩ := h
  refine ⟨?_, ?_, ?_, ?_, ?_, ?_, ?_, ?_, ?_, ?_, ?_, ?_, ?_, ?_⟩ <;> (try simp [upd, updV]) <;> assumption
theorem TI.s7 (h : TI w0 n m k c O X v v6 S mL l U L V w) : TI w0 n m k c O X v v6 S mL l U (upd L 7) (updV V 7 (.int .i64 0)) w := by
  obtain ⟨a, b, r, x, d, e0, e1, e2, e3, e4, e5, e6, e7, e8⟩ := h
  refine ⟨?_, ?_, ?_, ?_, ?_, ?_, ?_, ?_, ?_, ?_, ?_, ?_, ?_, ?_⟩ <;> (try simp [upd, updV]) <;> assumption
theorem TI.s3 (h : TI w0 n m k c O X v v6 S mL l U L V w) {v' : Value} (h6 : L 6 = false) (h5 : L 5 = false) (ho : w'.ownsRow w.heap.size 62 2 v' mL (bxs (S.set k (v6, c)))) (hb : Below w.heap.size w w') :
    TI w0 n m k c O X v v6 S mL l U (upd L 3) (updV V 3 v') w' := by
  obtain ⟨a, b, r, x, d, e0, e1, e2, e3, e4, e5, e6, e7, e8⟩ := h
  refine ⟨a.trans (hb.mono (by omega)), by have := hb.size; omega, ?_, x.call hb, ?_, ?_, ?_, ?_, ?_, ?_, ?_, ?_, ?_, ?_⟩
  · simpa [upd] using fun h => (r h).call hb
  · simp [upd]
  · simpa [upd, updV] using e0
  · simpa [upd, updV] using e1
  · simpa [upd, updV] using e2
  · simpa [upd, updV] using e3
  · exact e4.kept (below_grown hb none) (by
      cases hob : v6.ownBlock with
      | none => exact .inl rfl
      | some gb => exact .inr (by simp))
  · simpa [upd, updV] using (fun (_ : True) => ho.mono (base' := n + 3) b)
  · simp [upd, h6]
  · simp [upd, h5]
  · simpa [upd, updV] using e8
theorem TI.s6 (h : TI w0 n m k c O X v v6 S mL l U L V w) (h3 : L 3 = true) (u : Value) (hw : M.But n w w') (hx : M.RowAt w' n 52 X) :
    TI w0 n m k c O X v v6 S mL l U (upd L 6) (updV V 6 u) w' := by
  have kp : ∀ {e size n1 : Nat} {u : Value} {xs : List Value}, w.ownsRow (n + 3) e size u n1 xs → w'.ownsRow (n + 3) e size u n1 xs := fun {e size n1 u xs} ho => ho.kept (But.grown hw) (by
      cases hob : u.ownBlock with
      | none => exact .inl rfl
      | some gb => exact .inr fun e => by have := (ho.lt gb hob).1; simp at e; omega)
  obtain ⟨a, b, r, x, d, e0, e1, e2, e3, e4, e5, e6, e7, e8⟩ := h
  refine ⟨hw.below a (Nat.le_refl _) (by omega), by have := hw.size; omega, ?_, hw.row x (by omega), ?_, ?_, ?_, ?_, ?_, kp e4, ?_, ?_, ?_, ?_⟩
  · simp [upd]
  · simp [upd, h3]
  · simpa [upd, updV] using e0
  · simpa [upd, updV] using e1
  · simpa [upd, updV] using e2
  · simpa [upd, updV] using e3
  · simpa [upd, updV] using fun h => kp (e5 h)
  · simpa [upd, updV] using hx
  · simpa [upd, updV] using e7
  · simpa [upd, updV] using e8
end
set_option maxRecDepth 100000 in
set_option maxHeartbeats 4000000 in
theorem rtake_yes {lo : Nat} {w : World} {v : Value} {R : Rf} (h : RP lo w v R) (hlo : lo ≤ w.heap.size) (h64 : R.length ≤ 64) {k : Nat} {x : Lt} {l : List Lt} {c : Bool} (hr : R[k]? = some (x :: l, c)) (h8 : l.length < 8) :
    Calls Try.prog 17 #[v, .int .i64 (k : Nat)] w fun e w' => ∃ v', e = .returned (.tuple #[v', .agg x.row, .int .i64 0]) ∧ RP lo w' v' (R.set k (l, c)) ∧ Below w.heap.size w w' := by
  have hk : k < R.length := (List.getElem?_eq_some_iff.1 hr).1
  obtain ⟨n, hn⟩ : ∃ n, w.heap.size = n := ⟨_, rfl⟩
  obtain ⟨g, cap, s, r, rfl, hg, _, h1, h2, h3, h4⟩ := h.at hk
  obtain rfl : r = (x :: l, c) := Option.some.inj (h1.symm.trans hr)
  simp only at h2 h3 h4
  obtain ⟨gs, cp, rfl, hgs, hcp⟩ : ∃ gs cp, s = .slice (some ⟨gs, 0, none⟩) (l.length + 1) cp ∧ gs < w.heap.size ∧ l.length + 1 ≤ cp := by
    rcases h4.2 with ⟨_, h0⟩ | ⟨b, cp, cur, rfl, _, hrow, hle, _⟩
    · simp at h0
    · exact ⟨b, cp, rfl, (h4.lt b rfl).2, by simpa using hle⟩
  have hin := fun W => in_any (some ⟨g, 0, none⟩) R.length cap (k : Nat) W
  have hd : decide ((0 : Int) ≤ (k : Nat) ∧ ((k : Nat) : Int) < (R.length : Nat)) = true := by simp; omega
  have i1 : (0 : Int) ≤ (k : Nat) := by omega
  have i2 : ((k : Nat) : Int) < (R.length : Nat) := by omega
  rw [hd] at hin
  have IN := Lib.hid hin
  have H := Lib.hid h
  have cl := h4.cells (g := gs) rfl
  obtain ⟨m, hm⟩ : ∃ m, l.length = m := ⟨_, rfl⟩
  rw [hm] at h2 hcp
  obtain ⟨t, f, q, z⟩ := x
  simp only [Lt.row]
  have c0 : w.cell? ⟨gs, 0, none⟩ = some (.int .i64 t) := by have := cl 0 _ rfl; rwa [Addr.add_mid] at this
  have c1 : w.cell? ⟨gs, 1, none⟩ = some (.int .i64 f) := by have := cl 1 _ rfl; rwa [Addr.add_mid] at this
  have c2 : w.cell? ⟨gs, 2, none⟩ = some (.int .i64 q) := by have := cl 2 _ rfl; rwa [Addr.add_mid] at this
  have c3 : w.cell? ⟨gs, 3, none⟩ = some (.string z) := by have := cl 3 _ rfl; rwa [Addr.add_mid] at this
  obtain ⟨V, hV⟩ : ∃ V, w.alloc (.cells #[.int .i64 0, .int .i64 0, .int .i64 0, .string ⟨#[]⟩] 52) = V := ⟨_, rfl⟩
  have bV : Below n w V := by rw [← hV, ← hn]; exact (Below.refl _ w).alloc (Nat.le_refl _) _
  have rV : M.RowAt V n 52 #[.int .i64 0, .int .i64 0, .int .i64 0, .string ⟨#[]⟩] := by rw [← hV, ← hn]; exact M.RowAt.new w 52 _
  have sV : V.heap.size = n + 1 := by rw [← hV]; simp [hn]
  obtain ⟨V2, hV2⟩ : ∃ V2, V.alloc (.cells #[.slice (some ⟨gs, 0, none⟩) (m + 1) cp, .bool c] 62) = V2 := ⟨_, rfl⟩
  have bV2 : Below n w V2 := by rw [← hV2]; exact bV.alloc (by omega) _
  have rV2 : M.RowAt V2 n 52 #[.int .i64 0, .int .i64 0, .int .i64 0, .string ⟨#[]⟩] := by rw [← hV2]; exact rV.alloc _
  have rB2 : M.RowAt V2 (n + 1) 62 #[.slice (some ⟨gs, 0, none⟩) (m + 1) cp, .bool c] := by rw [← hV2, ← sV]; exact M.RowAt.new V 62 _
  have sV2 : V2.heap.size = n + 2 := by rw [← hV2]; simp [sV]
  obtain ⟨V3, hV3⟩ : ∃ V3, V2.alloc (.cells #[.int .i64 t, .int .i64 f, .int .i64 q, .string z] 52) = V3 := ⟨_, rfl⟩
  have bV3 : Below n w V3 := by rw [← hV3]; exact bV2.alloc (by omega) _
  have rV3 : M.RowAt V3 n 52 #[.int .i64 0, .int .i64 0, .int .i64 0, .string ⟨#[]⟩] := by rw [← hV3]; exact rV2.alloc _
  have rB3 : M.RowAt V3 (n + 1) 62 #[.slice (some ⟨gs, 0, none⟩) (m + 1) cp, .bool c] := by rw [← hV3]; exact rB2.alloc _
  have rX3 : M.RowAt V3 (n + 2) 52 #[.int .i64 t, .int .i64 f, .int .i64 q, .string z] := by rw [← hV3, ← sV2]; exact M.RowAt.new V2 52 _
  have sV3 : V3.heap.size = n + 3 := by rw [← hV3]; simp [sV2]
  rw [← bV.cell (p := ⟨g, k * 2, none⟩) (hn ▸ hg)] at h2
  rw [← bV.cell (p := ⟨g, k * 2 + 1, none⟩) (hn ▸ hg)] at h3
  rw [← bV2.cell (p := ⟨gs, 0, none⟩) (hn ▸ hgs)] at c0
  rw [← bV2.cell (p := ⟨gs, 1, none⟩) (hn ▸ hgs)] at c1
  rw [← bV2.cell (p := ⟨gs, 2, none⟩) (hn ▸ hgs)] at c2
  rw [← bV2.cell (p := ⟨gs, 3, none⟩) (hn ▸ hgs)] at c3
  have b0 := rB2.cell 0
  have b3 := rB3.cell 0
  have HV := Lib.hid hV; have HV2 := Lib.hid hV2; have HV3 := Lib.hid hV3; have HN := Lib.hid hn
  have SV := Lib.hid sV; have SV2 := Lib.hid sV2; have SV3 := Lib.hid sV3
  have l0 : decide (((m + 1 : Nat) : Int) = 0) = false := by simp; omega
  have l1 : ((m : Int) + 1 == 0) = false := by simp; omega
  have HM := Lib.hid hm
  obtain ⟨V4, hV4⟩ : ∃ V4, V3.alloc (.cells #[] 52) = V4 := ⟨_, rfl⟩
  have bV4 : Below n w V4 := by rw [← hV4]; exact bV3.alloc (by omega) _
  have rV4 : M.RowAt V4 n 52 #[.int .i64 0, .int .i64 0, .int .i64 0, .string ⟨#[]⟩] := by rw [← hV4]; exact rV3.alloc _
  have rB4 : M.RowAt V4 (n + 1) 62 #[.slice (some ⟨gs, 0, none⟩) (m + 1) cp, .bool c] := by rw [← hV4]; exact rB3.alloc _
  have rX4 : M.RowAt V4 (n + 2) 52 #[.int .i64 t, .int .i64 f, .int .i64 q, .string z] := by rw [← hV4]; exact rX3.alloc _
  have sV4 : V4.heap.size = n + 4 := by rw [← hV4]; simp [sV3]
  have own0 : V4.ownsRow (n + 3) 52 4 (.slice (some ⟨n + 3, 0, none⟩) 0 0) 0 [] := by
    have := World.ownsRow_lit (base := n + 3) (e := 52) (size := 4) V3 #[] 0 (by omega) (by unfold maxLen; omega) rfl
    rwa [hV4, sV3] at this
  have b4 := rB4.cell 0
  have fB4 := rB4.frozen 0
  have cl4 : ∀ j u, (flatL (⟨t, f, q, z⟩ :: l))[j]? = some u → V4.cell? ((⟨gs, 0, none⟩ : Addr).add j) = some u := fun j u hu => by
    have := cl j u hu
    rw [Addr.add_mid] at this ⊢
    rwa [bV4.cell (hn ▸ hgs)]
  -- what the append leaves
  have key : ∃ v6 W, (cp = 1 → v6 = .slice (some ⟨n + 3, 0, none⟩) 0 0 ∧ W = V4) ∧ (cp ≠ 1 → (Builtin.append_ #[55, 55] 55 #[.slice (some ⟨n + 3, 0, none⟩) 0 0, .slice (some ⟨gs, 4, none⟩) m (cp - 1)]).run Try.prog V4 = .ok v6 W) ∧ W.ownsRow (n + 3) 52 4 v6 m (flatL l) ∧ V4.grownBy W (some (n + 3)) := by
    by_cases hc : cp = 1
    · have hl0 : l = [] := List.length_eq_zero_iff.1 (by omega)
      refine ⟨_, _, fun _ => ⟨rfl, rfl⟩, fun h => absurd hc h, ?_, ⟨rfl, rfl, rfl, Nat.le_refl _, fun _ _ _ => rfl⟩⟩
      rw [hl0, show m = 0 by omega]; exact own0
    · obtain ⟨v6, W, q1, q2, q3⟩ := cut_run (cap := cp - 1) own0 hm cl4 (by omega) (by omega)
      exact ⟨v6, W, fun h => absurd h hc, fun _ => q1, q2, q3⟩
  obtain ⟨v6, W, k1, k2, own6, gr6⟩ := key
  have bW : Below n w W := bV4.trans (grown_below (v := .slice (some ⟨n + 3, 0, none⟩) 0 0) gr6 own0 (by omega) |>.mono (by omega))
  have rvW : M.RowAt W n 52 #[.int .i64 0, .int .i64 0, .int .i64 0, .string ⟨#[]⟩] := by
    unfold M.RowAt; rw [gr6.block n (by omega) (by simp)]; exact rV4
  have rbW : M.RowAt W (n + 1) 62 #[.slice (some ⟨gs, 0, none⟩) (m + 1) cp, .bool c] := by
    unfold M.RowAt; rw [gr6.block (n + 1) (by omega) (by simp)]; exact rB4
  have rxW : M.RowAt W (n + 2) 52 #[.int .i64 t, .int .i64 f, .int .i64 q, .string z] := by
    unfold M.RowAt; rw [gr6.block (n + 2) (by omega) (by simp)]; exact rX4
  have fbW := rbW.frozen 0
  have xbW := rbW.cell 0
  obtain ⟨U, hU⟩ : ∃ U, W.setCell ⟨n + 1, 0, none⟩ v6 = U := ⟨_, rfl⟩
  have bU : Below n w U := by rw [← hU]; exact bW.setCell (p := ⟨n + 1, 0, none⟩) (show n ≤ n + 1 by omega) _
  have rvU : M.RowAt U n 52 #[.int .i64 0, .int .i64 0, .int .i64 0, .string ⟨#[]⟩] := by rw [← hU]; exact rvW.far (p := ⟨n + 1, 0, none⟩) (show n + 1 ≠ n by omega) _
  have rbU : M.RowAt U (n + 1) 62 #[v6, .bool c] := by rw [← hU]; exact rbW.set 0 v6
  have rxU : M.RowAt U (n + 2) 52 #[.int .i64 t, .int .i64 f, .int .i64 q, .string z] := by rw [← hU]; exact rxW.far (p := ⟨n + 1, 0, none⟩) (show n + 1 ≠ n + 2 by omega) _
  have ownU : U.ownsRow (n + 3) 52 4 v6 m (flatL l) := by
    rw [← hU]
    exact own6.kept (But.grown ((M.But.refl (n + 1) W).set (p := ⟨n + 1, 0, none⟩) (.inl rfl) v6)) (by
      cases hob : v6.ownBlock with
      | none => exact .inl rfl
      | some gb => exact .inr fun e => by have := (own6.lt gb hob).1; simp at e; omega)
  obtain ⟨A6, c6, rfl⟩ := own_slice own6
  have HV4 := Lib.hid hV4; have SV4 := Lib.hid sV4; have HU := Lib.hid hU; have K1 := Lib.hid k1; have K2 := Lib.hid k2
  have OWU := Lib.hid ownU; have BU := Lib.hid bU; have RVU := Lib.hid rvU; have RBU := Lib.hid rbU; have RXU := Lib.hid rxU
  clear hV4 sV4 own0 cl4 k1 k2 own6 gr6 bW rvW rbW rxW hU bU rvU rbU rxU ownU bV bV2 bV3 bV4 rV rV2 rV3 rV4 rB2 rB3 rB4 rX3 rX4
  generalize hL : R.length = L at *
  have HL := Lib.hid hL
  clear hin hd h h1 hr cl hm hV hV2 hV3 hn sV sV2 sV3 hL
  go_enter Try.func17, Try.ntmps17
  go_wp2_with (first | (rw [HN.out, HV.out]) | (rw [SV.out, HV2.out]))
  refine (IN.out _).mono ?_
  rintro e w1 ⟨rfl, rfl⟩
  by_cases hc : cp = 1
  · obtain ⟨e6, eW⟩ := K1.out hc
    subst hc; subst eW
    obtain rfl : m = 0 := by omega
    cases e6
    clear K1 K2
    go_wp2_with (first | (rw [SV.out, HV2.out]) | (rw [SV2.out, HV3.out]) | (rw [SV3.out, HV4.out]) | (rw [HU.out]) | fail)
    obtain ⟨S, hS, hB, hLL⟩ := H.out
    rw [HL.out] at hB hS
    have hn := HN.out; have hm := HM.out
    have own6 : U.ownsRow (n + 3) 52 4 (.slice (some ⟨n + 3, 0, none⟩) 0 0) l.length (flatL l) := by rw [hm]; exact OWU.out
    have hUs : n + 3 ≤ U.heap.size := by
      have := BU.out.size
      have := (RXU.out).lt
      omega
    have st : ∀ V', TI w n 0 k c #[.int .i64 0, .int .i64 0, .int .i64 0, .string ⟨#[]⟩] #[.int .i64 t, .int .i64 f, .int .i64 q, .string z] (.slice (some ⟨g, 0, none⟩) L cap) (.slice (some ⟨n + 3, 0, none⟩) 0 0) S L l U (fun _ => false) V' U.drew := fun V' =>
      ⟨BU.out.drew, hUs, fun _ => RVU.out.drew, RXU.out.drew, fun _ => rfl, nofun, nofun, nofun, nofun, own6, nofun, nofun, nofun, nofun⟩
    have hsl : ∀ (j : Nat) (t : Value × Bool), S[j]? = some t → t.1.oneCell' = true := fun j t ht => by
      have hj : j < R.length := by rw [HL.out, ← hS]; exact (List.getElem?_eq_some_iff.1 ht).1
      obtain ⟨A, c, e⟩ := own_slice (hLL j t _ ht (List.getElem?_eq_getElem hj)).2
      rw [e]; rfl
    have hB' : U.drew.ownsRow lo 62 2 (.slice (some ⟨g, 0, none⟩) L cap) L (bxs S) := hB.kept (below_grown (hn ▸ BU.out.drew) none) (.inr (by simp [Value.ownBlock]))
    rw [← HL.out] at hB' h64 hk hS
    have PUT := Lib.hid (rput_raw hS hB' hsl (Nat.le_trans hlo (by rw [hn]; have := hUs; show n ≤ U.heap.size; omega)) h64 hk (.slice (some ⟨n + 3, 0, none⟩) 0 0) c ⟨_, _, _, rfl⟩)
    rw [HL.out] at PUT h64 hk hS
    have FIN : ∀ wf vf, Below n w wf → wf.ownsRow (n + 3) 52 4 (.slice (some ⟨n + 3, 0, none⟩) 0 0) l.length (flatL l) → wf.ownsRow (n + 3) 62 2 vf L (bxs (S.set k ((.slice (some ⟨n + 3, 0, none⟩) 0 0), c))) → RP lo wf vf (R.set k (l, c)) := fun wf vf f1 f2 f3 => by
      have kp : ∀ {e size n1 : Nat} {u : Value} {xs : List Value}, w.ownsRow lo e size u n1 xs → wf.ownsRow lo e size u n1 xs := fun {e size n1 u xs} ho => ho.kept (below_grown (hn ▸ f1) none) (by
        cases hob : u.ownBlock with
        | none => exact .inl rfl
        | some gb => exact .inr (by simp))
      refine ⟨S.set k ((.slice (some ⟨n + 3, 0, none⟩) 0 0), c), by simp [hS, HL.out], ?_, fun j t r ht hr => ?_⟩
      · rw [List.length_set, HL.out]; exact f3.mono (by omega)
      · rw [List.getElem?_set] at ht hr
        by_cases hj : k = j
        · subst hj
          rw [if_pos rfl, if_pos (by omega)] at ht
          rw [if_pos rfl, if_pos (by rw [HL.out]; exact hk)] at hr
          cases ht; cases hr
          exact ⟨rfl, f2.mono (by omega)⟩
        · rw [if_neg hj] at ht hr
          exact ⟨(hLL j t r ht hr).1, kp (hLL j t r ht hr).2⟩
    have il : (Try.prog.info? 52).map (·.size) = some (#[Value.int .i64 t, .int .i64 f, .int .i64 q, .string z] : Array Value).size := by show _ = some 4; kernel_rfl
    have FF := Lib.hid FIN; have UU := Lib.hid hUs
    clear FIN hB hB' hsl hLL own6 hn hm hS hUs c0 c1 c2 c3 h2 h3 b0 b3
    refine QR.wp_region_r (TI w n 0 k c #[.int .i64 0, .int .i64 0, .int .i64 0, .string ⟨#[]⟩] #[.int .i64 t, .int .i64 f, .int .i64 q, .string z] (.slice (some ⟨g, 0, none⟩) L cap) (.slice (some ⟨n + 3, 0, none⟩) 0 0) S L l U) (by kernel_rfl) (by kernel_rfl) st ?step ?fin
    case step =>
      intro i o ho L' V' w' hI hL' hdn hdp a ha K hK
      match i, ho with
      | 0, ho =>
        obtain rfl := Option.some.inj ho
        have e6 : a.eval (.tmp 0) = .slice (some ⟨g, 0, none⟩) L cap := by rw [ha, QR.eval_base _ 0 _ (by rfl)]; rfl
        have g6 := QR.get_of e6
        clear ha
        unfold Oper.wp
        go_simp
        exact hK _ _ hI.s0
      | 1, ho =>
        obtain rfl := Option.some.inj ho
        have e6 : a.eval (.tmp 1) = .int .i64 (k : Nat) := by rw [ha, QR.eval_base _ 0 _ (by rfl)]; rfl
        have g6 := QR.get_of e6
        clear ha
        unfold Oper.wp
        go_simp
        exact hK _ _ hI.s1
      | 2, ho =>
        obtain rfl := Option.some.inj ho
        have e6 : a.eval (.tmp 7) = .pointer (some ⟨n + 1, 0, none⟩) := by rw [ha, QR.eval_base _ 0 _ (by rfl)]; rfl
        have g6 := QR.get_of e6
        have l3 : L' 3 = false := by
          cases hq : L' 3 with
          | false => rfl
          | true => have := hdn 3 _ rfl hq ⟨2, .data⟩ (by simp) rfl; rw [hL'] at this; cases this
        obtain rfl := hI.u l3
        have c0 := RBU.out.drew.cell 0; have c1 := RBU.out.drew.cell 1
        clear ha
        unfold Oper.wp
        go_simp
        exact hK _ _ hI.s2
      | 3, ho =>
        obtain rfl := Option.some.inj ho
        have d0 := hdp ⟨0, .data⟩ (by simp) rfl
        have d1 := hdp ⟨1, .data⟩ (by simp) rfl
        have d2 := hdp ⟨2, .data⟩ (by simp) rfl
        have e38 : a.eval (.tmp 38) = V' 0 := by rw [ha]; exact QR.eval_at _ 0 _ (by kernel_rfl) (by simp) (Nat.zero_le _) (o := _) rfl rfl d0
        have e39 : a.eval (.tmp 39) = V' 1 := by rw [ha]; exact QR.eval_at _ 0 _ (by kernel_rfl) (by simp) (Nat.zero_le _) (o := _) rfl rfl d1
        have e40 : a.eval (.tmp 40) = V' 2 := by rw [ha]; exact QR.eval_at _ 0 _ (by kernel_rfl) (by simp) (Nat.zero_le _) (o := _) rfl rfl d2
        rw [hI.v0 d0] at e38
        rw [hI.v1 d1] at e39
        rw [hI.v2 d2] at e40
        have g38 := QR.get_of e38; have g39 := QR.get_of e39; have g40 := QR.get_of e40
        have l6 : L' 6 = false := by
          cases hq : L' 6 with
          | false => rfl
          | true => have := hdn 6 _ rfl hq ⟨3, .phase⟩ (by simp) rfl; rw [hL'] at this; cases this
        have l5 : L' 5 = false := by
          cases hq : L' 5 with
          | false => rfl
          | true => have := hdn 5 _ rfl hq ⟨3, .data⟩ (by simp) rfl; rw [hL'] at this; cases this
        obtain rfl := hI.u hL'
        have HI := Lib.hid hI; have HK := Lib.hid hK
        clear ha hI hK
        unfold Oper.wp
        go_simp
        refine (PUT.out).mono ?_
        rintro e w2 ⟨v', rfl, q1, q2⟩
        go_simp
        exact HK.out _ _ (HI.out.s3 l6 l5 q1 q2)
      | 4, ho =>
        obtain rfl := Option.some.inj ho
        have e8 : a.eval (.tmp 8) = .pointer (some ⟨n + 2, 0, none⟩) := by rw [ha, QR.eval_base _ 0 _ (by rfl)]; rfl
        have c0 := hI.rx.cell 0; have c1 := hI.rx.cell 1; have c2 := hI.rx.cell 2; have c3 := hI.rx.cell 3
        have g3 := QR.get_of e8
        clear ha
        unfold Oper.wp
        go_simp
        exact hK _ _ hI.s4
      | 5, ho =>
        obtain rfl := Option.some.inj ho
        have d3 := hdp ⟨3, .data⟩ (by simp) rfl
        have e41 : a.eval (.tmp 41) = V' 3 := by rw [ha]; exact QR.eval_at _ 0 _ (by kernel_rfl) (by simp) (Nat.zero_le _) (o := _) rfl rfl d3
        have g41 := QR.get_of e41
        clear ha
        unfold Oper.wp
        go_simp
        exact hK _ _ hI.s5
      | 6, ho =>
        obtain rfl := Option.some.inj ho
        have d3 := hdp ⟨3, .phase⟩ (by simp) rfl
        have d4 := hdp ⟨4, .data⟩ (by simp) rfl
        have e5 : a.eval (.tmp 5) = .pointer (some ⟨n, 0, none⟩) := by rw [ha, QR.eval_base _ 0 _ (by rfl)]; rfl
        have e42 : a.eval (.tmp 42) = V' 4 := by rw [ha]; exact QR.eval_at _ 0 _ (by kernel_rfl) (by simp) (Nat.zero_le _) (o := _) rfl rfl d4
        rw [hI.v4 d4] at e42
        have g5 := QR.get_of e5; have g42 := QR.get_of e42
        have rv := hI.rv hL'
        have f0 := rv.frozen 0; have f1 := rv.frozen 1; have f2 := rv.frozen 2; have f3 := rv.frozen 3
        have x0 := rv.cell 0; have x1 := rv.cell 1; have x2 := rv.cell 2; have x3 := rv.cell 3
        have rs := (((rv.set 0 (.int .i64 t)).set 1 (.int .i64 f)).set 2 (.int .i64 q)).set 3 (.string z)
        have bs := ((((M.But.refl n w').set (p := ⟨n, 0, none⟩) (.inl rfl) (.int .i64 t)).set (p := ⟨n, 1, none⟩) (.inl rfl) (.int .i64 f)).set (p := ⟨n, 2, none⟩) (.inl rfl) (.int .i64 q)).set (p := ⟨n, 3, none⟩) (.inl rfl) (.string z)
        have HS := Lib.hid (fun u => hI.s6 d3 u bs rs)
        clear ha rs bs
        unfold Oper.wp
        go_simp
        exact hK undef _ (HS.out undef)
      | 7, ho =>
        obtain rfl := Option.some.inj ho
        clear ha
        unfold Oper.wp
        go_simp
        exact hK _ _ hI.s7
      | j + 8, ho => simp at ho
    case fin =>
      intro L' V' wz hall hI
      have l3 := hall 3 (by decide)
      have l6 := hall 6 (by decide)
      have rX := hI.v6' l6
      have E5 := hI.v5 (hall 5 (by decide))
      have E7 := hI.v7 (hall 7 (by decide))
      have FIN2 := Lib.hid (FF.out wz (V' 3) hI.bel hI.o6 (hI.o3 l3))
      have BZ := Lib.hid hI.bel
      have hload := run_loadVar_row (P := Try.prog) _ n 52 52 #[Value.int .i64 t, .int .i64 f, .int .i64 q, .string z] (0, 0) _ rX Try.underlying52 rfl il
      simp only [QR.putAll, if_true, Act.put, List.setIfInBounds_toArray, List.set_cons_zero, List.set_cons_succ]
      rw [E5, E7]
      generalize V' 0 = v0; generalize V' 1 = v1; generalize V' 2 = v2; generalize V' 3 = v3 at *; generalize V' 4 = v4; generalize V' 6 = v6
      clear hI hall l3 l6 FF E5 E7
      go_wp2
      exact bodyPost_ret (v := .tuple #[v3, .agg #[.int .i64 t, .int .i64 f, .int .i64 q, .string z], .int .i64 0]) (by simp [results, Try.results17, asAddr, hload]) rfl ⟨v3, rfl, FIN2.out, by rw [HN.out]; exact BZ.out⟩
  · have k2 := Lib.hid (K2.out hc)
    clear K1 K2
    go_wp2_with (first | (rw [SV.out, HV2.out]) | (rw [SV2.out, HV3.out]) | (rw [SV3.out, HV4.out]) | (rw [HU.out]) | (at_builtin; refine Go.Lib.wpList_append_run_sl _ rfl (.tmp 32) (.tmp 35) 55 rfl _ _ rfl rfl k2.out ?_) | fail)
    obtain ⟨S, hS, hB, hLL⟩ := H.out
    rw [HL.out] at hB hS
    have hn := HN.out; have hm := HM.out
    have own6 : U.ownsRow (n + 3) 52 4 (.slice A6 m c6) l.length (flatL l) := by rw [hm]; exact OWU.out
    have hUs : n + 3 ≤ U.heap.size := by
      have := BU.out.size
      have := (RXU.out).lt
      omega
    have st : ∀ V', TI w n m k c #[.int .i64 0, .int .i64 0, .int .i64 0, .string ⟨#[]⟩] #[.int .i64 t, .int .i64 f, .int .i64 q, .string z] (.slice (some ⟨g, 0, none⟩) L cap) (.slice A6 m c6) S L l U (fun _ => false) V' U.drew := fun V' =>
      ⟨BU.out.drew, hUs, fun _ => RVU.out.drew, RXU.out.drew, fun _ => rfl, nofun, nofun, nofun, nofun, own6, nofun, nofun, nofun, nofun⟩
    have hsl : ∀ (j : Nat) (t : Value × Bool), S[j]? = some t → t.1.oneCell' = true := fun j t ht => by
      have hj : j < R.length := by rw [HL.out, ← hS]; exact (List.getElem?_eq_some_iff.1 ht).1
      obtain ⟨A, c, e⟩ := own_slice (hLL j t _ ht (List.getElem?_eq_getElem hj)).2
      rw [e]; rfl
    have hB' : U.drew.ownsRow lo 62 2 (.slice (some ⟨g, 0, none⟩) L cap) L (bxs S) := hB.kept (below_grown (hn ▸ BU.out.drew) none) (.inr (by simp [Value.ownBlock]))
    rw [← HL.out] at hB' h64 hk hS
    have PUT := Lib.hid (rput_raw hS hB' hsl (Nat.le_trans hlo (by rw [hn]; have := hUs; show n ≤ U.heap.size; omega)) h64 hk (.slice A6 m c6) c ⟨_, _, _, rfl⟩)
    rw [HL.out] at PUT h64 hk hS
    have FIN : ∀ wf vf, Below n w wf → wf.ownsRow (n + 3) 52 4 (.slice A6 m c6) l.length (flatL l) → wf.ownsRow (n + 3) 62 2 vf L (bxs (S.set k ((.slice A6 m c6), c))) → RP lo wf vf (R.set k (l, c)) := fun wf vf f1 f2 f3 => by
      have kp : ∀ {e size n1 : Nat} {u : Value} {xs : List Value}, w.ownsRow lo e size u n1 xs → wf.ownsRow lo e size u n1 xs := fun {e size n1 u xs} ho => ho.kept (below_grown (hn ▸ f1) none) (by
        cases hob : u.ownBlock with
        | none => exact .inl rfl
        | some gb => exact .inr (by simp))
      refine ⟨S.set k ((.slice A6 m c6), c), by simp [hS, HL.out], ?_, fun j t r ht hr => ?_⟩
      · rw [List.length_set, HL.out]; exact f3.mono (by omega)
      · rw [List.getElem?_set] at ht hr
        by_cases hj : k = j
        · subst hj
          rw [if_pos rfl, if_pos (by omega)] at ht
          rw [if_pos rfl, if_pos (by rw [HL.out]; exact hk)] at hr
          cases ht; cases hr
          exact ⟨rfl, f2.mono (by omega)⟩
        · rw [if_neg hj] at ht hr
          exact ⟨(hLL j t r ht hr).1, kp (hLL j t r ht hr).2⟩
    have il : (Try.prog.info? 52).map (·.size) = some (#[Value.int .i64 t, .int .i64 f, .int .i64 q, .string z] : Array Value).size := by show _ = some 4; kernel_rfl
    have FF := Lib.hid FIN; have UU := Lib.hid hUs
    clear FIN hB hB' hsl hLL own6 hn hm hS hUs c0 c1 c2 c3 h2 h3 b0 b3
    refine QR.wp_region_r (TI w n m k c #[.int .i64 0, .int .i64 0, .int .i64 0, .string ⟨#[]⟩] #[.int .i64 t, .int .i64 f, .int .i64 q, .string z] (.slice (some ⟨g, 0, none⟩) L cap) (.slice A6 m c6) S L l U) (by kernel_rfl) (by kernel_rfl) st ?step ?fin
    case step =>
      intro i o ho L' V' w' hI hL' hdn hdp a ha K hK
      match i, ho with
      | 0, ho =>
        obtain rfl := Option.some.inj ho
        have e6 : a.eval (.tmp 0) = .slice (some ⟨g, 0, none⟩) L cap := by rw [ha, QR.eval_base _ 0 _ (by rfl)]; rfl
        have g6 := QR.get_of e6
        clear ha
        unfold Oper.wp
        go_simp
        exact hK _ _ hI.s0
      | 1, ho =>
        obtain rfl := Option.some.inj ho
        have e6 : a.eval (.tmp 1) = .int .i64 (k : Nat) := by rw [ha, QR.eval_base _ 0 _ (by rfl)]; rfl
        have g6 := QR.get_of e6
        clear ha
        unfold Oper.wp
        go_simp
        exact hK _ _ hI.s1
      | 2, ho =>
        obtain rfl := Option.some.inj ho
        have e6 : a.eval (.tmp 7) = .pointer (some ⟨n + 1, 0, none⟩) := by rw [ha, QR.eval_base _ 0 _ (by rfl)]; rfl
        have g6 := QR.get_of e6
        have l3 : L' 3 = false := by
          cases hq : L' 3 with
          | false => rfl
          | true => have := hdn 3 _ rfl hq ⟨2, .data⟩ (by simp) rfl; rw [hL'] at this; cases this
        obtain rfl := hI.u l3
        have c0 := RBU.out.drew.cell 0; have c1 := RBU.out.drew.cell 1
        clear ha
        unfold Oper.wp
        go_simp
        exact hK _ _ hI.s2
      | 3, ho =>
        obtain rfl := Option.some.inj ho
        have d0 := hdp ⟨0, .data⟩ (by simp) rfl
        have d1 := hdp ⟨1, .data⟩ (by simp) rfl
        have d2 := hdp ⟨2, .data⟩ (by simp) rfl
        have e38 : a.eval (.tmp 38) = V' 0 := by rw [ha]; exact QR.eval_at _ 0 _ (by kernel_rfl) (by simp) (Nat.zero_le _) (o := _) rfl rfl d0
        have e39 : a.eval (.tmp 39) = V' 1 := by rw [ha]; exact QR.eval_at _ 0 _ (by kernel_rfl) (by simp) (Nat.zero_le _) (o := _) rfl rfl d1
        have e40 : a.eval (.tmp 40) = V' 2 := by rw [ha]; exact QR.eval_at _ 0 _ (by kernel_rfl) (by simp) (Nat.zero_le _) (o := _) rfl rfl d2
        rw [hI.v0 d0] at e38
        rw [hI.v1 d1] at e39
        rw [hI.v2 d2] at e40
        have g38 := QR.get_of e38; have g39 := QR.get_of e39; have g40 := QR.get_of e40
        have l6 : L' 6 = false := by
          cases hq : L' 6 with
          | false => rfl
          | true => have := hdn 6 _ rfl hq ⟨3, .phase⟩ (by simp) rfl; rw [hL'] at this; cases this
        have l5 : L' 5 = false := by
          cases hq : L' 5 with
          | false => rfl
          | true => have := hdn 5 _ rfl hq ⟨3, .data⟩ (by simp) rfl; rw [hL'] at this; cases this
        obtain rfl := hI.u hL'
        have HI := Lib.hid hI; have HK := Lib.hid hK
        clear ha hI hK
        unfold Oper.wp
        go_simp
        refine (PUT.out).mono ?_
        rintro e w2 ⟨v', rfl, q1, q2⟩
        go_simp
        exact HK.out _ _ (HI.out.s3 l6 l5 q1 q2)
      | 4, ho =>
        obtain rfl := Option.some.inj ho
        have e8 : a.eval (.tmp 8) = .pointer (some ⟨n + 2, 0, none⟩) := by rw [ha, QR.eval_base _ 0 _ (by rfl)]; rfl
        have c0 := hI.rx.cell 0; have c1 := hI.rx.cell 1; have c2 := hI.rx.cell 2; have c3 := hI.rx.cell 3
        have g3 := QR.get_of e8
        clear ha
        unfold Oper.wp
        go_simp
        exact hK _ _ hI.s4
      | 5, ho =>
        obtain rfl := Option.some.inj ho
        have d3 := hdp ⟨3, .data⟩ (by simp) rfl
        have e41 : a.eval (.tmp 41) = V' 3 := by rw [ha]; exact QR.eval_at _ 0 _ (by kernel_rfl) (by simp) (Nat.zero_le _) (o := _) rfl rfl d3
        have g41 := QR.get_of e41
        clear ha
        unfold Oper.wp
        go_simp
        exact hK _ _ hI.s5
      | 6, ho =>
        obtain rfl := Option.some.inj ho
        have d3 := hdp ⟨3, .phase⟩ (by simp) rfl
        have d4 := hdp ⟨4, .data⟩ (by simp) rfl
        have e5 : a.eval (.tmp 5) = .pointer (some ⟨n, 0, none⟩) := by rw [ha, QR.eval_base _ 0 _ (by rfl)]; rfl
        have e42 : a.eval (.tmp 42) = V' 4 := by rw [ha]; exact QR.eval_at _ 0 _ (by kernel_rfl) (by simp) (Nat.zero_le _) (o := _) rfl rfl d4
        rw [hI.v4 d4] at e42
        have g5 := QR.get_of e5; have g42 := QR.get_of e42
        have rv := hI.rv hL'
        have f0 := rv.frozen 0; have f1 := rv.frozen 1; have f2 := rv.frozen 2; have f3 := rv.frozen 3
        have x0 := rv.cell 0; have x1 := rv.cell 1; have x2 := rv.cell 2; have x3 := rv.cell 3
        have rs := (((rv.set 0 (.int .i64 t)).set 1 (.int .i64 f)).set 2 (.int .i64 q)).set 3 (.string z)
        have bs := ((((M.But.refl n w').set (p := ⟨n, 0, none⟩) (.inl rfl) (.int .i64 t)).set (p := ⟨n, 1, none⟩) (.inl rfl) (.int .i64 f)).set (p := ⟨n, 2, none⟩) (.inl rfl) (.int .i64 q)).set (p := ⟨n, 3, none⟩) (.inl rfl) (.string z)
        have HS := Lib.hid (fun u => hI.s6 d3 u bs rs)
        clear ha rs bs
        unfold Oper.wp
        go_simp
        exact hK undef _ (HS.out undef)
      | 7, ho =>
        obtain rfl := Option.some.inj ho
        clear ha
        unfold Oper.wp
        go_simp
        exact hK _ _ hI.s7
      | j + 8, ho => simp at ho
    case fin =>
      intro L' V' wz hall hI
      have l3 := hall 3 (by decide)
      have l6 := hall 6 (by decide)
      have rX := hI.v6' l6
      have E5 := hI.v5 (hall 5 (by decide))
      have E7 := hI.v7 (hall 7 (by decide))
      have FIN2 := Lib.hid (FF.out wz (V' 3) hI.bel hI.o6 (hI.o3 l3))
      have BZ := Lib.hid hI.bel
      have hload := run_loadVar_row (P := Try.prog) _ n 52 52 #[Value.int .i64 t, .int .i64 f, .int .i64 q, .string z] (0, 0) _ rX Try.underlying52 rfl il
      simp only [QR.putAll, if_true, Act.put, List.setIfInBounds_toArray, List.set_cons_zero, List.set_cons_succ]
      rw [E5, E7]
      generalize V' 0 = v0; generalize V' 1 = v1; generalize V' 2 = v2; generalize V' 3 = v3 at *; generalize V' 4 = v4; generalize V' 6 = v6
      clear hI hall l3 l6 FF E5 E7
      go_wp2
      exact bodyPost_ret (v := .tuple #[v3, .agg #[.int .i64 t, .int .i64 f, .int .i64 q, .string z], .int .i64 0]) (by simp [results, Try.results17, asAddr, hload]) rfl ⟨v3, rfl, FIN2.out, by rw [HN.out]; exact BZ.out⟩

end Go.Proofs.Ytblbhnlmbmffkaa
