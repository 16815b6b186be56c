/- The reference of layer 16: Send; the condition is that the blocks of the boxes are known. -/
import Derived.Test.YtblbhnlmbmffkaaPoL
import Derived.Test.YtblbhnlmbmffkaaRely
namespace Go.Proofs.Ytblbhnlmbmffkaa
open Go.RowKit
set_option linter.unusedVariables false

/-- what Send of the reference answers -/
def rsE (R : Rf) (x : Int) : Int := if 0 ≤ x ∧ x < (R.length : Int) then (match R[x.toNat]? with | some r => if r.2 then 135 else if 8 ≤ r.1.length then 160 else 0 | none => 3) else 3
theorem app_run {W : World} {b : Nat} {d : Value} {nd : Nat} {xs : List Value} (hd : W.ownsRow b 52 4 d nd xs) {src : Value} {lo m : Nat} {news : List Value} (hs : W.ownsRow lo 52 4 src m news) (hone : ∀ u ∈ news, u.oneCell' = true) (hb : b ≤ W.heap.size) (hlen : nd + m ≤ 1000) :
    ∃ v' W', (Builtin.append_ #[55, 55] 55 #[d, src]).run Try.prog W = .ok v' W' ∧ W'.ownsRow b 52 4 v' (nd + m) (xs ++ news) ∧ W.grownBy W' d.ownBlock := by
  obtain ⟨i0, hi, hz, hsz, hby⟩ := info_parts info52
  rcases hs.2 with ⟨rfl, rfl⟩ | ⟨g, cap, cur, rfl, h1, h2, h3⟩
  · have hn : news = [] := List.eq_nil_of_length_eq_zero (by have := hs.1; omega)
    subst hn
    exact ⟨d, W, run_append_owned_none (P := Try.prog) (w := W) b 55 55 52 i0 4 Try.underlying55 hi d nd xs hd, by simpa using hd, ⟨rfl, rfl, rfl, Nat.le_refl _, fun _ _ _ => rfl⟩⟩
  · obtain ⟨v', W', hr, ho, hg, _⟩ := run_append_own (P := Try.prog) W b 55 55 52 i0 (.agg #[.int .i64 0, .int .i64 0, .int .i64 0, .string ⟨#[]⟩]) 4 40 Try.underlying55 hi hz hsz hby rfl (by decide) d nd xs hd ⟨g, 0, none⟩ m cap news hs.1 (hs.cells rfl) hone (by unfold maxLen; omega) (by omega) hb
    exact ⟨v', W', hr, ho, hg⟩
theorem cells_one (x : Lt) : ∀ u ∈ x.cells, u.oneCell' = true := fun u hu => by
  simp [Lt.cells] at hu; rcases hu with rfl | rfl | rfl | rfl <;> rfl
theorem flat_one (l : List Lt) : ∀ u ∈ flatL l, u.oneCell' = true := fun u hu => by
  obtain ⟨x, _, hu⟩ := List.mem_flatMap.1 hu
  exact cells_one x u hu
/-- Send's region: what is listed, what it left -/
structure SI (w0 : World) (n : Nat) (X : Array Value) (s : Value) (l : List Lt) (x : Lt) (L : Nat → Bool) (V : Nat → Value) (w : World) : Prop where
  bel : Below n w0 w
  sz : n + 2 ≤ w.heap.size
  rx : M.RowAt w n 52 X
  r6 : L 8 = false → M.RowAt w (n + 1) 62 #[s, .bool false]
  v0 : L 0 = true → L 3 = false → w.ownsRow (n + 2) 52 4 (V 0) 0 []
  v1 : L 1 = true → V 1 = .pointer (some ⟨n + 1, 0, none⟩)
  v2 : L 2 = true → V 2 = s
  v3 : L 3 = true → L 6 = false → w.ownsRow (n + 2) 52 4 (V 3) l.length (flatL l)
  v4 : L 4 = true → V 4 = .agg X
  v5 : L 5 = true → L 6 = false → ∃ g, V 5 = .slice (some ⟨g, 0, none⟩) 1 1 ∧ M.RowAt w g 52 X ∧ n + 2 ≤ g ∧ (L 0 = true → L 3 = false → (V 0).ownBlock ≠ some g)
  v6 : L 6 = true → w.ownsRow (n + 2) 52 4 (V 6) (l.length + 1) (flatL (l ++ [x]))
  v7 : L 7 = true → V 7 = .pointer (some ⟨n + 1, 0, none⟩)
  v8 : L 8 = true → M.RowAt w (n + 1) 62 #[V 6, .bool false]
open QR in
section
variable {w0 w w' : World} {n : Nat} {X : Array Value} {s : Value} {l : List Lt} {x : Lt} {L : Nat → Bool} {V : Nat → Value}
/-- a new block beside all -/
theorem SI.alloc (h : SI w0 n X s l x L V w) (ob : Obj) : SI w0 n X s l x L V (w.alloc ob) :=
  ⟨h.bel.alloc (by have := h.sz; omega) ob, by have := h.sz; simp; omega, h.rx.alloc ob, fun h1 => (h.r6 h1).alloc ob, fun h1 h2 => (h.v0 h1 h2).alloc ob, h.v1, h.v2, fun h1 h2 => (h.v3 h1 h2).alloc ob, h.v4,
    fun h1 h2 => let ⟨g, a, b, c, d⟩ := h.v5 h1 h2; ⟨g, a, b.alloc ob, c, d⟩, fun h1 => (h.v6 h1).alloc ob, h.v7, fun h1 => (h.v8 h1).alloc ob⟩
theorem SI.s1 (h : SI w0 n X s l x L V w) : SI w0 n X s l x (upd L 1) (updV V 1 (.pointer (some ⟨n + 1, 0, none⟩))) w := by
  obtain ⟨a, b, c, d, e0, e1, e2, e3, e4, e5, e6, e7, e8⟩ := h
  refine ⟨?_, ?_, ?_, ?_, ?_, ?_, ?_, ?_, ?_, ?_, ?_, ?_, ?_⟩ <;> (try simp [upd, updV]) <;> assumption
theorem SI.s2 (h : SI w0 n X s l x L V w) : SI w0 n X s l x (upd L 2) (updV V 2 s) w := by
  obtain ⟨a, b, c, d, e0, e1, e2, e3, e4, e5, e6, e7, e8⟩ := h
  refine ⟨?_, ?_, ?_, ?_, ?_, ?_, ?_, ?_, ?_, ?_, ?_, ?_, ?_⟩ <;> (try simp [upd, updV]) <;> assumption
theorem SI.s4 (h : SI w0 n X s l x L V w) : SI w0 n X s l x (upd L 4) (updV V 4 (.agg X)) w := by
  obtain ⟨a, b, c, d, e0, e1, e2, e3, e4, e5, e6, e7, e8⟩ := h
  refine ⟨?_, ?_, ?_, ?_, ?_, ?_, ?_, ?_, ?_, ?_, ?_, ?_, ?_⟩ <;> (try simp [upd, updV]) <;> assumption
theorem SI.s7 (h : SI w0 n X s l x L V w) : SI w0 n X s l x (upd L 7) (updV V 7 (.pointer (some ⟨n + 1, 0, none⟩))) w := by
  obtain ⟨a, b, c, d, e0, e1, e2, e3, e4, e5, e6, e7, e8⟩ := h
  refine ⟨?_, ?_, ?_, ?_, ?_, ?_, ?_, ?_, ?_, ?_, ?_, ?_, ?_⟩ <;> (try simp [upd, updV]) <;> assumption
theorem SI.s0 (h : SI w0 n X s l x L V w) (h3 : L 3 = false) : SI w0 n X s l x (upd L 0) (updV V 0 (.slice (some ⟨w.heap.size, 0, none⟩) 0 0)) (w.alloc (.cells #[] 52)) := by
  have own := World.ownsRow_lit (base := n + 2) (e := 52) (size := 4) w #[] 0 h.sz (by unfold maxLen; omega) rfl
  have e5 := h.v5
  obtain ⟨a, b, c, d, e0, e1, e2, e3, e4, _, e6, e7, e8⟩ := h.alloc (.cells #[] 52)
  refine ⟨a, b, c, by simpa [upd, updV] using d, fun _ _ => by simpa [upd, updV] using own, by simpa [upd, updV] using e1, by simpa [upd, updV] using e2, by simpa [upd, updV] using e3, by simpa [upd, updV] using e4, fun h1 h2 => ?_, by simpa [upd, updV] using e6, by simpa [upd, updV] using e7, by simpa [upd, updV] using e8⟩
  obtain ⟨g, p1, p2, p3, p4⟩ := e5 (by simpa [upd] using h1) (by simpa [upd] using h2)
  refine ⟨g, by simpa [upd, updV] using p1, p2.alloc _, p3, fun _ _ => ?_⟩
  have := p2.lt
  simp [updV, Value.ownBlock]; omega
theorem SI.s5 (h : SI w0 n X s l x L V w) (h6 : L 6 = false) : SI w0 n X s l x (upd L 5) (updV V 5 (.slice (some ⟨w.heap.size, 0, none⟩) 1 1)) (w.alloc (.cells X 52)) := by
  have sz := h.sz
  have own0 := h.v0
  obtain ⟨a, b, c, d, e0, e1, e2, e3, e4, _, e6, e7, e8⟩ := h.alloc (.cells X 52)
  refine ⟨a, b, c, by simpa [upd, updV] using d, by simpa [upd, updV] using e0, by simpa [upd, updV] using e1, by simpa [upd, updV] using e2, by simpa [upd, updV] using e3, by simpa [upd, updV] using e4, fun h1 h2 => ?_, by simpa [upd, updV] using e6, by simpa [upd, updV] using e7, by simpa [upd, updV] using e8⟩
  refine ⟨w.heap.size, rfl, M.RowAt.new w 52 X, sz, fun h0 h3 hb => ?_⟩
  have := ((own0 (by simpa [upd] using h0) (by simpa [upd] using h3)).lt _ (by simpa [updV] using hb)).2
  omega
theorem SI.s3 (h : SI w0 n X s l x L V w) (hn : w0.heap.size = n) {lo : Nat} (hs : w0.ownsRow lo 52 4 s l.length (flatL l)) (h8 : l.length < 8) (h0 : L 0 = true) (h2 : L 2 = true) (h3 : L 3 = false) (h6 : L 6 = false) :
    ∃ v w', (Builtin.append_ #[55, 55] 55 #[V 0, V 2]).run Try.prog w = .ok v w' ∧ SI w0 n X s l x (upd L 3) (updV V 3 v) w' := by
  have hs' : w.ownsRow lo 52 4 s l.length (flatL l) := hs.kept (below_grown (hn ▸ h.bel) none) (by
    cases hob : s.ownBlock with
    | none => exact .inl rfl
    | some gb => exact .inr (by simp))
  have own := h.v0 h0 h3
  obtain ⟨v, w', hr, ho, hg⟩ := app_run own hs' (flat_one l) h.sz (by omega)
  rw [h.v2 h2]
  rw [Nat.zero_add, List.nil_append] at ho
  have bb := grown_below hg own h.sz
  refine ⟨v, w', hr, ?_⟩
  have e5 := h.v5
  obtain ⟨a, b, c, d, e0, e1, e2, e3, e4, _, e6, e7, e8⟩ := h
  have hL8 : ∀ {k : Nat} {t : TypeId} {cs : Array Value}, k < n + 2 → M.RowAt w k t cs → M.RowAt w' k t cs := fun hk hr => hr.below bb hk
  refine ⟨?_, ?_, ?_, ?_, ?_, ?_, ?_, ?_, ?_, ?_, ?_, ?_, ?_⟩
  · exact a.trans (bb.mono (by omega))
  · have := bb.size; omega
  · exact hL8 (by omega) c
  · simpa [upd] using fun h1 => hL8 (by omega) (d h1)
  · simp [upd]
  · simpa [upd, updV] using e1
  · simpa [upd, updV] using e2
  · simpa [upd, updV] using fun _ => ho
  · simpa [upd, updV] using e4
  · simp only [upd, updV]
    intro h1 h2'
    obtain ⟨g, p1, p2, p3, p4⟩ := e5 (by simpa using h1) h6
    refine ⟨g, by simpa using p1, ?_, p3, by simp⟩
    have := p2.lt
    unfold M.RowAt at p2 ⊢
    rw [hg.block g this (fun e => p4 h0 h3 e.symm)]; exact p2
  · simp [upd, updV, h6]
  · simpa [upd, updV] using e7
  · simp only [upd, updV]
    intro h1
    exact hL8 (by omega) (by simpa using e8 (by simpa using h1))
theorem SI.s6 (h : SI w0 n X s l x L V w) (hX : X = x.row) (h8 : l.length < 8) (h3 : L 3 = true) (h5 : L 5 = true) (h6 : L 6 = false) (hl8 : L 8 = false) :
    ∃ v w', (Builtin.append_ #[55, 55] 55 #[V 3, V 5]).run Try.prog w = .ok v w' ∧ SI w0 n X s l x (upd L 6) (updV V 6 v) w' := by
  have own := h.v3 h3 h6
  obtain ⟨g, p1, p2, p3, p4⟩ := h.v5 h5 h6
  have src : w.ownsRow (n + 2) 52 4 (V 5) 1 x.cells := by
    rw [p1]
    refine ⟨rfl, .inr ⟨g, 1, X, rfl, p3, p2, Nat.le_refl _, by unfold maxLen; omega, by rw [hX]; rfl, by rw [hX]; rfl⟩⟩
  obtain ⟨v, w', hr, ho, hg⟩ := app_run own src (cells_one x) h.sz (by omega)
  rw [← flatL_snoc] at ho
  have bb := grown_below hg own h.sz
  refine ⟨v, w', hr, ?_⟩
  obtain ⟨a, b, c, d, e0, e1, e2, e3, e4, e5, e6, e7, e8⟩ := h
  have hL8 : ∀ {k : Nat} {t : TypeId} {cs : Array Value}, k < n + 2 → M.RowAt w k t cs → M.RowAt w' k t cs := fun hk hr => hr.below bb hk
  refine ⟨?_, ?_, ?_, ?_, ?_, ?_, ?_, ?_, ?_, ?_, ?_, ?_, ?_⟩
  · exact a.trans (bb.mono (by omega))
  · have := bb.size; omega
  · exact hL8 (by omega) c
  · simpa [upd] using fun h1 => hL8 (by omega) (d h1)
  · simp only [upd, updV]
    intro h1 h2
    simp [h3] at h2
  · simpa [upd, updV] using e1
  · simpa [upd, updV] using e2
  · simp [upd]
  · simpa [upd, updV] using e4
  · simp [upd]
  · simpa [upd, updV] using ho
  · simpa [upd, updV] using e7
  · simp [upd, hl8]
theorem SI.s8 (h : SI w0 n X s l x L V w) (h6 : L 6 = true) (h3 : L 3 = true) (h8 : L 8 = false) : SI w0 n X s l x (upd L 8) (updV V 8 undef) (w.setCell ⟨n + 1, 0, none⟩ (V 6)) := by
  have gb : w.grownBy (w.setCell ⟨n + 1, 0, none⟩ (V 6)) (some (n + 1)) := ⟨rfl, rfl, rfl, by simp [World.setCell], fun k _ hk => by
    simp only [World.setCell, Array.getElem?_modify]; rw [if_neg (fun e => hk (by rw [e]))]⟩
  obtain ⟨a, b, c, d, e0, e1, e2, e3, e4, e5, e6, e7, e8⟩ := h
  have ho := e6 h6
  refine ⟨?_, ?_, ?_, ?_, ?_, ?_, ?_, ?_, ?_, ?_, ?_, ?_, ?_⟩
  · exact a.setCell (p := ⟨n + 1, 0, none⟩) (show n ≤ n + 1 by omega) _
  · simpa [World.setCell] using b
  · exact c.far (p := ⟨n + 1, 0, none⟩) (show n + 1 ≠ n by omega) _
  · simp [upd]
  · simp [upd, h3]
  · simpa [upd, updV] using e1
  · simpa [upd, updV] using e2
  · simp [upd, h6]
  · simpa [upd, updV] using e4
  · simp [upd, h6]
  · have := ho.kept gb (by
      cases hob : (V 6).ownBlock with
      | none => exact .inl rfl
      | some q => exact .inr fun e => by have := (ho.lt q hob).1; cases e; omega)
    simpa [upd, updV] using fun _ => this
  · simpa [upd, updV] using e7
  · have := (d h8).set 0 (V 6)
    simpa [upd, updV] using this
end
set_option maxRecDepth 100000 in
set_option maxHeartbeats 4000000 in
theorem rsend_yes {lo : Nat} {w : World} {v : Value} {R : Rf} (h : RP lo w v R) (hlo : lo ≤ w.heap.size) (h64 : R.length ≤ 64) {k : Nat} {l : List Lt} (hr : R[k]? = some (l, false)) (h8 : l.length < 8) (x : Lt) (hx : x.to = (k : Nat)) :
    Calls Try.prog 16 #[v, .agg x.row] w fun e w' => ∃ v', e = .returned (.tuple #[v', .int .i64 0]) ∧ RP lo w' v' (R.set k (l ++ [x], false)) ∧ Below w.heap.size w w' := by
  have hk : k < R.length := (List.getElem?_eq_some_iff.1 hr).1
  obtain ⟨n, hn⟩ : ∃ n, w.heap.size = n := ⟨_, rfl⟩
  obtain ⟨g, cap, s, r, rfl, hg, _, h1, h2, h3, h4⟩ := h.at hk
  obtain rfl : r = (l, false) := Option.some.inj (h1.symm.trans hr)
  obtain ⟨A, cap2, rfl⟩ := own_slice h4
  simp only at h2 h3 h4
  have hin := fun W => in_any (some ⟨g, 0, none⟩) R.length cap (k : Nat) W
  have hd : decide ((0 : Int) ≤ (k : Nat) ∧ ((k : Nat) : Int) < (R.length : Nat)) = true := by simp; omega
  have i1 : (0 : Int) ≤ (k : Nat) := by omega
  have i2 : ((k : Nat) : Int) < (R.length : Nat) := by omega
  rw [hd] at hin
  have IN := Lib.hid hin
  have H := Lib.hid h
  have dl : decide ((8 : Int) ≤ (l.length : Nat)) = false := by simp; omega
  have DL := Lib.hid dl
  obtain ⟨t, f, q, z⟩ := x
  simp only at hx
  subst hx
  simp only [Lt.row]
  obtain ⟨V, hV⟩ : ∃ V, w.alloc (.cells #[.int .i64 (k : Nat), .int .i64 f, .int .i64 q, .string z] 52) = V := ⟨_, rfl⟩
  have bV : Below w.heap.size w V := by rw [← hV]; exact (Below.refl _ w).alloc (Nat.le_refl _) _
  have rV : M.RowAt V n 52 #[.int .i64 (k : Nat), .int .i64 f, .int .i64 q, .string z] := by rw [← hV, ← hn]; exact M.RowAt.new w 52 _
  have sV : V.heap.size = n + 1 := by rw [← hV]; simp [hn]
  have x0 := rV.cell 0
  rw [← bV.cell (p := ⟨g, k * 2, none⟩) hg] at h2
  rw [← bV.cell (p := ⟨g, k * 2 + 1, none⟩) hg] at h3
  have RV := Lib.hid rV; have BV := Lib.hid bV; have SV := Lib.hid sV; have HV := Lib.hid hV; have HN := Lib.hid hn
  have H4 := Lib.hid h4
  clear hin hd h h1 hr dl h4 hV hn bV rV sV hg
  generalize hm : R.length = m at *
  have HM := Lib.hid hm
  clear hm
  go_enter Try.func16, Try.ntmps16
  go_wp2_with (rw [HN.out, HV.out])
  refine (IN.out _).mono ?_
  rintro e w1 ⟨rfl, rfl⟩
  have dl := DL.out
  go_wp2_with fail
  simp only [SV.out]
  have hn := HN.out
  have st : ∀ V', SI w n #[.int .i64 (k : Nat), .int .i64 f, .int .i64 q, .string z] (.slice A l.length cap2) l ⟨(k : Nat), f, q, z⟩ (fun _ => false) V' (V.alloc (.cells #[.slice A l.length cap2, .bool false] 62)).drew := fun V' => by
    refine ⟨?_, ?_, ?_, fun _ => ?_, ?_, ?_, ?_, ?_, ?_, ?_, ?_, ?_, ?_⟩ <;> first | (intro h; cases h) | skip
    · exact ((hn ▸ BV.out).alloc (by rw [SV.out]; omega) _).drew
    · show n + 2 ≤ (V.alloc _).heap.size; simp [SV.out]
    · exact (RV.out.alloc _).drew
    · have := M.RowAt.new V 62 #[.slice A l.length cap2, .bool false]
      rw [SV.out] at this; exact this.drew
  refine QR.wp_region_r (SI w n #[.int .i64 (k : Nat), .int .i64 f, .int .i64 q, .string z] (.slice A l.length cap2) l ⟨(k : Nat), f, q, z⟩) (by kernel_rfl) (by kernel_rfl) st ?step ?fin
  case step =>
    intro i o ho L V' W hI hL hdn hdp a ha K hK
    match i, ho with
    | 0, ho =>
      obtain rfl := Option.some.inj ho
      have l3 : L 3 = false := by
        cases hq : L 3 with
        | false => rfl
        | true => have := hdn 3 _ rfl hq ⟨0, .data⟩ (by simp) rfl; rw [hL] at this; cases this
      clear ha
      unfold Oper.wp
      go_simp
      exact hK _ _ (hI.s0 l3)
    | 1, ho =>
      obtain rfl := Option.some.inj ho
      have e6 : a.eval (.tmp 6) = .pointer (some ⟨n + 1, 0, none⟩) := by rw [ha, QR.eval_base _ 0 _ (by rfl)]; rfl
      have g6 := QR.get_of e6
      clear ha
      unfold Oper.wp
      go_simp
      exact hK _ _ hI.s1
    | 2, ho =>
      obtain rfl := Option.some.inj ho
      have d1 := hdp ⟨1, .data⟩ (by simp) rfl
      have e27 : a.eval (.tmp 27) = V' 1 := by rw [ha]; exact QR.eval_at _ 0 _ (by kernel_rfl) (by simp) (Nat.zero_le _) (o := _) rfl rfl d1
      rw [hI.v1 d1] at e27
      have l3 : L 3 = false := by
        cases hq : L 3 with
        | false => rfl
        | true => have := hdn 3 _ rfl hq ⟨2, .data⟩ (by simp) rfl; rw [hL] at this; cases this
      have l6 : L 6 = false := by
        cases hq : L 6 with
        | false => rfl
        | true => have := hdn 6 _ rfl hq ⟨3, .data⟩ (by simp) rfl; rw [l3] at this; cases this
      have l8 : L 8 = false := by
        cases hq : L 8 with
        | false => rfl
        | true => have := hdn 8 _ rfl hq ⟨6, .data⟩ (by simp) rfl; rw [l6] at this; cases this
      have c6 := (hI.r6 l8).cell 0
      have g27 := QR.get_of e27
      clear ha
      unfold Oper.wp
      go_simp
      exact hK _ _ hI.s2
    | 3, ho =>
      obtain rfl := Option.some.inj ho
      have d0 := hdp ⟨0, .data⟩ (by simp) rfl
      have d2 := hdp ⟨2, .data⟩ (by simp) rfl
      have e26 : a.eval (.tmp 26) = V' 0 := by rw [ha]; exact QR.eval_at _ 0 _ (by kernel_rfl) (by simp) (Nat.zero_le _) (o := _) rfl rfl d0
      have e28 : a.eval (.tmp 28) = V' 2 := by rw [ha]; exact QR.eval_at _ 0 _ (by kernel_rfl) (by simp) (Nat.zero_le _) (o := _) rfl rfl d2
      have l6 : L 6 = false := by
        cases hq : L 6 with
        | false => rfl
        | true => have := hdn 6 _ rfl hq ⟨3, .data⟩ (by simp) rfl; rw [hL] at this; cases this
      obtain ⟨v, W', hr, hI'⟩ := hI.s3 hn H4.out h8 d0 d2 hL l6
      exact QR.wp_append _ (.tmp 26) (.tmp 28) 55 rfl e26 e28 hr (hK _ _ hI')
    | 4, ho =>
      obtain rfl := Option.some.inj ho
      have e3 : a.eval (.tmp 3) = .pointer (some ⟨n, 0, none⟩) := by rw [ha, QR.eval_base _ 0 _ (by rfl)]; rfl
      have c0 := hI.rx.cell 0; have c1 := hI.rx.cell 1; have c2 := hI.rx.cell 2; have c3 := hI.rx.cell 3
      have g3 := QR.get_of e3
      clear ha
      unfold Oper.wp
      go_simp
      exact hK _ _ hI.s4
    | 5, ho =>
      obtain rfl := Option.some.inj ho
      have d4 := hdp ⟨4, .data⟩ (by simp) rfl
      have e30 : a.eval (.tmp 30) = V' 4 := by rw [ha]; exact QR.eval_at _ 0 _ (by kernel_rfl) (by simp) (Nat.zero_le _) (o := _) rfl rfl d4
      rw [hI.v4 d4] at e30
      have l6 : L 6 = false := by
        cases hq : L 6 with
        | false => rfl
        | true => have := hdn 6 _ rfl hq ⟨5, .data⟩ (by simp) rfl; rw [hL] at this; cases this
      have g30 := QR.get_of e30
      clear ha
      unfold Oper.wp
      go_simp
      exact hK _ _ (hI.s5 l6)
    | 6, ho =>
      obtain rfl := Option.some.inj ho
      have d3 := hdp ⟨3, .data⟩ (by simp) rfl
      have d5 := hdp ⟨5, .data⟩ (by simp) rfl
      have e29 : a.eval (.tmp 29) = V' 3 := by rw [ha]; exact QR.eval_at _ 0 _ (by kernel_rfl) (by simp) (Nat.zero_le _) (o := _) rfl rfl d3
      have e31 : a.eval (.tmp 31) = V' 5 := by rw [ha]; exact QR.eval_at _ 0 _ (by kernel_rfl) (by simp) (Nat.zero_le _) (o := _) rfl rfl d5
      have l8 : L 8 = false := by
        cases hq : L 8 with
        | false => rfl
        | true => have := hdn 8 _ rfl hq ⟨6, .data⟩ (by simp) rfl; rw [hL] at this; cases this
      obtain ⟨v, W', hr, hI'⟩ := hI.s6 rfl h8 d3 d5 hL l8
      exact QR.wp_append _ (.tmp 29) (.tmp 31) 55 rfl e29 e31 hr (hK _ _ hI')
    | 7, ho =>
      obtain rfl := Option.some.inj ho
      have e6 : a.eval (.tmp 6) = .pointer (some ⟨n + 1, 0, none⟩) := by rw [ha, QR.eval_base _ 0 _ (by rfl)]; rfl
      have g6 := QR.get_of e6
      clear ha
      unfold Oper.wp
      go_simp
      exact hK _ _ hI.s7
    | 8, ho =>
      obtain rfl := Option.some.inj ho
      have d7 := hdp ⟨7, .data⟩ (by simp) rfl
      have d6 := hdp ⟨6, .data⟩ (by simp) rfl
      have e33 : a.eval (.tmp 33) = V' 7 := by rw [ha]; exact QR.eval_at _ 0 _ (by kernel_rfl) (by simp) (Nat.zero_le _) (o := _) rfl rfl d7
      have e32 : a.eval (.tmp 32) = V' 6 := by rw [ha]; exact QR.eval_at _ 0 _ (by kernel_rfl) (by simp) (Nat.zero_le _) (o := _) rfl rfl d6
      rw [hI.v7 d7] at e33
      have d3 := hdn 6 _ rfl d6 ⟨3, .data⟩ (by simp) rfl
      have c6 := (hI.r6 hL).cell 0; have f6 := (hI.r6 hL).frozen 0
      have hS := hI.s8 d6 d3 hL
      obtain ⟨A6, c60, q6⟩ := own_slice (hI.v6 d6)
      rw [q6] at e32 hS
      have g33 := QR.get_of e33
      have g32 := QR.get_of e32
      clear ha
      unfold Oper.wp
      go_simp
      exact hK _ _ hS
    | k + 9, ho => simp at ho
  case fin =>
    intro L V' W hall hI
    have l6 := hall 6 (by decide)
    have l8 := hall 8 (by decide)
    have r8 := hI.v8 l8
    have v6 := hI.v6 l6
    have hrp := H.out.same (hn ▸ hI.bel)
    have PUT := Lib.hid (rput_any (k := k) hrp (by have := hI.sz; omega) (by rw [HM.out]; exact h64) (by rw [HM.out]; exact hk) (V' 6) (l ++ [⟨(k : Nat), f, q, z⟩]) false (by rw [show (l ++ [⟨(k : Nat), f, q, z⟩] : List Lt).length = l.length + 1 by simp]; exact v6.mono (by omega)))
    have BW := Lib.hid hI.bel
    have SW := Lib.hid hI.sz
    obtain ⟨A6, c60, q6⟩ := own_slice v6
    have c0 := r8.cell 0; have c1 := r8.cell 1; have x0' := hI.rx.cell 0
    simp only [QR.putAll, if_true, Act.put, List.setIfInBounds_toArray, List.set_cons_zero, List.set_cons_succ]
    rw [q6] at c0 PUT
    rw [q6]
    generalize V' 0 = v0; generalize V' 1 = v1; generalize V' 2 = v2; generalize V' 3 = v3; generalize V' 4 = v4; generalize V' 5 = v5; generalize V' 7 = v7; generalize V' 8 = v8
    clear hI hall hrp r8 v6 l6 l8
    go_wp2_with fail
    refine (PUT.out).mono ?_
    rintro e w2 ⟨v', rfl, q1, q2⟩
    have FIN : RP lo w2 v' (R.set k (l ++ [⟨(k : Nat), f, q, z⟩], false)) ∧ Below n w w2 := ⟨q1, BW.out.trans (q2.mono (by have := SW.out; omega))⟩
    have FIN2 := Lib.hid FIN
    clear q1 q2 FIN
    go_wp2
    go_ret2
    exact ⟨_, rfl, by rw [HN.out]; exact FIN2.out⟩
set_option maxRecDepth 100000 in
theorem rsend_out {lo : Nat} {w : World} {v : Value} {R : Rf} (h : RP lo w v R) (x : Lt) (hx : ¬ (0 ≤ x.to ∧ x.to < (R.length : Int))) : Calls Try.prog 16 #[v, .agg x.row] w fun e w' => e = .returned (.tuple #[v, .int .i64 3]) ∧ Below w.heap.size w w' := by
  obtain ⟨A, cap, rfl⟩ := rp_slice h
  have hin := fun W => in_any A R.length cap x.to W
  have hd : decide (0 ≤ x.to ∧ x.to < (R.length : Nat)) = false := by simpa using hx
  rw [hd] at hin
  have IN := Lib.hid hin
  obtain ⟨t, f, q, z⟩ := x
  simp only [Lt.row] at *
  clear hin hd h hx
  have BB := Lib.hid ((Below.refl _ w).alloc (Nat.le_refl _) (.cells #[.int .i64 t, .int .i64 f, .int .i64 q, .string z] 52))
  go_enter Try.func16, Try.ntmps16
  go_wp2_with fail
  refine (IN.out _).mono ?_
  rintro e w1 ⟨rfl, rfl⟩
  go_wp2
  go_ret2
  exact ⟨rfl, BB.out⟩
set_option maxRecDepth 100000 in
set_option maxHeartbeats 1000000 in
theorem rsend_no {lo : Nat} {w : World} {v : Value} {R : Rf} (h : RP lo w v R) {k : Nat} {l : List Lt} {c : Bool} (hr : R[k]? = some (l, c)) (h8 : c = true ∨ 8 ≤ l.length) (x : Lt) (hx : x.to = (k : Nat)) :
    Calls Try.prog 16 #[v, .agg x.row] w fun e w' => e = .returned (.tuple #[v, .int .i64 (if c = true then 135 else 160)]) ∧ Below w.heap.size w w' := by
  have hk : k < R.length := (List.getElem?_eq_some_iff.1 hr).1
  obtain ⟨n, hn⟩ : ∃ n, w.heap.size = n := ⟨_, rfl⟩
  obtain ⟨g, cap, s, r, rfl, hg, _, h1, h2, h3, h4⟩ := h.at hk
  obtain rfl : r = (l, c) := Option.some.inj (h1.symm.trans hr)
  obtain ⟨A, cap2, rfl⟩ := own_slice h4
  simp only at h2 h3 h4
  have hin := fun W => in_any (some ⟨g, 0, none⟩) R.length cap (k : Nat) W
  have hd : decide ((0 : Int) ≤ (k : Nat) ∧ ((k : Nat) : Int) < (R.length : Nat)) = true := by simp; omega
  have i1 : (0 : Int) ≤ (k : Nat) := by omega
  have i2 : ((k : Nat) : Int) < (R.length : Nat) := by omega
  rw [hd] at hin
  have IN := Lib.hid hin
  obtain ⟨t, f, q, z⟩ := x
  simp only at hx
  subst hx
  simp only [Lt.row]
  obtain ⟨V, hV⟩ : ∃ V, w.alloc (.cells #[.int .i64 (k : Nat), .int .i64 f, .int .i64 q, .string z] 52) = V := ⟨_, rfl⟩
  have bV : Below w.heap.size w V := by rw [← hV]; exact (Below.refl _ w).alloc (Nat.le_refl _) _
  have rV : M.RowAt V n 52 #[.int .i64 (k : Nat), .int .i64 f, .int .i64 q, .string z] := by rw [← hV, ← hn]; exact M.RowAt.new w 52 _
  have x0 := rV.cell 0
  have sV : V.heap.size = n + 1 := by rw [← hV]; simp [hn]
  rw [← bV.cell (p := ⟨g, k * 2, none⟩) hg] at h2
  rw [← bV.cell (p := ⟨g, k * 2 + 1, none⟩) hg] at h3
  have fin := (hn ▸ bV).alloc (by omega) (.cells #[.slice A l.length cap2, .bool c] 62)
  have HV := Lib.hid hV; have HN := Lib.hid hn; have FIN := Lib.hid fin
  have h8' := h8
  clear hin hd h h1 hr h4 hV hn bV rV hg h8 fin sV
  generalize R.length = m at *
  cases c
  · have hl : 8 ≤ l.length := by simpa using h8'
    have dl : decide ((8 : Int) ≤ (l.length : Nat)) = true := by simp; omega
    have DL := Lib.hid dl
    clear hl h8' dl
    go_enter Try.func16, Try.ntmps16
    go_wp2_with (rw [HN.out, HV.out])
    refine (IN.out _).mono ?_
    rintro e w1 ⟨rfl, rfl⟩
    have dl := DL.out
    go_wp2
    go_ret2
    exact ⟨rfl, by rw [HN.out]; exact FIN.out⟩
  · clear h8'
    go_enter Try.func16, Try.ntmps16
    go_wp2_with (rw [HN.out, HV.out])
    refine (IN.out _).mono ?_
    rintro e w1 ⟨rfl, rfl⟩
    go_wp2
    go_ret2
    exact ⟨rfl, by rw [HN.out]; exact FIN.out⟩
end Go.Proofs.Ytblbhnlmbmffkaa
