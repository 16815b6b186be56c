/- The letters of the program as those of the reference, and whether two lists are the same; the condition is that the blocks of the lists are known. -/
import Derived.Test.YtblbhnlmbmffkaaPoO
import Derived.Deep.LoopGhost
namespace Go.Proofs.Ytblbhnlmbmffkaa
open Go.RowKit
set_option linter.unusedVariables false

theorem flat_at {l : List Lt} {i : Nat} {x : Lt} (h : l[i]? = some x) : ∀ j, j < 4 → (flatL l)[i * 4 + j]? = x.cells[j]? := by
  intro j hj
  have hi : i < l.length := (List.getElem?_eq_some_iff.1 h).1
  have e : l = l.take i ++ x :: l.drop (i + 1) := by
    rw [← List.getElem?_eq_some_iff.1 h |>.2]; simp
  have hl : (flatL (l.take i)).length = i * 4 := by rw [flatL_len, List.length_take]; omega
  rw [e, show flatL (l.take i ++ x :: l.drop (i + 1)) = flatL (l.take i) ++ (x.cells ++ flatL (l.drop (i + 1))) by unfold flatL; rw [List.flatMap_append]; rfl,
    List.getElem?_append_right (by omega), hl, show i * 4 + j - i * 4 = j by omega, List.getElem?_append_left (by simp [Lt.cells]; omega)]
/-- its block, and the cells of a letter -/
theorem own_at {w : World} {lo e n : Nat} {A : Option Addr} {cap : Nat} {l : List Lt} (h : w.ownsRow lo e 4 (.slice A n cap) n (flatL l)) (hn : n = l.length) {i : Nat} (hi : i < n) : ∃ g x, A = some ⟨g, 0, none⟩ ∧ l[i]? = some x ∧ g < w.heap.size ∧
    w.cell? ⟨g, i * 4, none⟩ = some (.int .i64 x.to) ∧ w.cell? ⟨g, i * 4 + 1, none⟩ = some (.int .i64 x.frm) ∧ w.cell? ⟨g, i * 4 + 2, none⟩ = some (.int .i64 x.kind) ∧ w.cell? ⟨g, i * 4 + 3, none⟩ = some (.string x.text) := by
  have hl : l[i]? = some (l[i]'(by omega)) := List.getElem?_eq_getElem (by omega)
  rcases h.2 with ⟨_, h0⟩ | ⟨g, c, cur, e1, _⟩
  · omega
  · cases e1
    have c := h.cells (g := g) rfl
    have cc : ∀ j u, j < 4 → (l[i]'(by omega)).cells[j]? = some u → w.cell? ⟨g, i * 4 + j, none⟩ = some u := fun j u hj hu => by
      have := c (i * 4 + j) u (by rw [flat_at hl j hj]; exact hu)
      rwa [Addr.add_mid, Nat.zero_add] at this
    exact ⟨g, _, rfl, hl, (h.lt g rfl).2, cc 0 _ (by decide) rfl, cc 1 _ (by decide) rfl, cc 2 _ (by decide) rfl, cc 3 _ (by decide) rfl⟩
set_option maxRecDepth 100000 in
set_option maxHeartbeats 2000000 in
theorem its_any {lo : Nat} {w : World} {v : Value} {l : List Lt} (h : w.ownsRow lo 33 4 v l.length (flatL l)) (h8 : l.length ≤ 8) :
    Calls Try.prog 20 #[v] w fun e w' => ∃ s, e = .returned s ∧ w'.ownsRow w.heap.size 52 4 s l.length (flatL l) ∧ Below w.heap.size w w' := by
  obtain ⟨n, hn⟩ : ∃ n, w.heap.size = n := ⟨_, rfl⟩
  obtain ⟨A, cap, rfl⟩ := own_slice h
  have H := Lib.hid h
  obtain ⟨m, hm⟩ : ∃ m, l.length = m := ⟨_, rfl⟩
  have HN := Lib.hid hn; have HM := Lib.hid hm
  have h0 : (w.alloc (.cells #[] 52)).ownsRow n 52 4 (.slice (some ⟨n, 0, none⟩) 0 0) 0 [] := by
    have := World.ownsRow_lit (base := n) (e := 52) (size := 4) w #[] 0 (by omega) (by unfold maxLen; omega) rfl
    rwa [hn] at this
  have b0 : Below n w (w.alloc (.cells #[] 52)) := by rw [← hn]; exact (Below.refl _ w).alloc (Nat.le_refl _) _
  rw [hm] at h8
  have H0 := Lib.hid h0; have B0 := Lib.hid b0
  clear h hn h0 b0
  rw [hm]
  clear hm
  go_enter Try.func20, Try.ntmps20
  go_wp2_with fail
  rw [HN.out]
  go_loopg [3, 4] m (fun g o i W => ∃ (k : Nat) (A' : Option Addr) (c : Nat) (Wx : World), Wx = W ∧ g + k = m ∧ i = .int .i64 k ∧ o = .slice A' k c ∧ W.ownsRow n 52 4 o k (flatL (l.take k)) ∧ Below n w W)
  case atStart => exact ⟨0, _, _, _, rfl, by omega, rfl, rfl, H0.out, B0.out⟩
  case round =>
    obtain ⟨k, A', c, wr, rfl, hm, rfl, rfl, own, bel⟩ := hrel
    have HMk := Lib.hid hm
    by_cases hlt : k < m
    · have hA := H.out.kept (below_grown (show Below w.heap.size w _ from HN.out ▸ bel) none) (by
        cases hob : (Value.slice A l.length cap).ownBlock with
        | none => exact .inl rfl
        | some gb => exact .inr (by simp))
      obtain ⟨g, x, rfl, hx, hgl, c0, c1, c2, c3⟩ := own_at (i := k) hA rfl (by rw [HM.out]; exact hlt)
      clear hA
      obtain ⟨q, hq⟩ : ∃ q, wr.heap.size = q := ⟨_, rfl⟩
      have hnq : n ≤ q := by
        rw [← hq]
        have := bel.size
        rw [HN.out] at this; exact this
      obtain ⟨V, hV⟩ : ∃ V, wr.alloc (.cells x.row 52) = V := ⟨_, rfl⟩
      have ownV : V.ownsRow n 52 4 (.slice A' k c) k (flatL (l.take k)) := by rw [← hV]; exact own.alloc _
      have rV : M.RowAt V q 52 x.row := by rw [← hV, ← hq]; exact M.RowAt.new wr 52 _
      have bV : Below n w V := by rw [← hV]; exact bel.alloc (by omega) _
      have sV : V.heap.size = q + 1 := by rw [← hV]; simp [hq]
      have src : V.ownsRow n 52 4 (.slice (some ⟨q, 0, none⟩) 1 1) 1 x.cells := ⟨rfl, .inr ⟨q, 1, _, rfl, hnq, rV, Nat.le_refl _, by unfold maxLen; omega, rfl, rfl⟩⟩
      obtain ⟨v', W', hr, ho, hg⟩ := app_run ownV src (cells_one x) (by omega) (by omega)
      have bW : Below n w W' := bV.trans (grown_below hg ownV (by omega))
      have htk : flatL (l.take k) ++ x.cells = flatL (l.take (k + 1)) := by rw [take_snoc' hx, flatL_snoc]
      rw [htk] at ho
      obtain ⟨A2, c2', rfl⟩ := own_slice ho
      have HR := Lib.hid hr; have OW := Lib.hid ho; have BW := Lib.hid bW; have HV := Lib.hid hV; have HQ := Lib.hid hq
      have hone : IntKind.i64.wrap ((k : Int) + 1) = ((k + 1 : Nat) : Int) := by rw [IntWalk.i64_in _ (by omega)]; rfl
      obtain ⟨tx, fx, kx, zx⟩ := x
      simp only [Lt.row] at HV
      clear hm own bel ownV rV bV sV src hr ho hg bW htk hx hgl hV hq
      go_wp2_with (first | (rw [HQ.out, HV.out]) | (at_builtin; refine Go.Lib.wpList_append_run_sl _ rfl (.tmp 12) (.tmp 17) 55 rfl _ _ rfl rfl HR.out ?_) | fail)
      go_roundg (m - (k + 1))
      case measure => have := HMk.out; omega
      case rel => exact ⟨k + 1, _, _, _, rfl, by have := HMk.out; omega, by go_num, rfl, OW.out, BW.out⟩
    · obtain rfl : k = m := by omega
      clear hm
      go_wp2
      go_ret
      refine ⟨_, rfl, ?_, by rw [HN.out]; exact bel⟩
      rw [HN.out]
      rw [List.take_of_length_le (by rw [HM.out]; exact Nat.le_refl _)] at own
      exact own
set_option maxRecDepth 100000 in
set_option maxHeartbeats 2000000 in
/-- the same list twice -/
theorem same_any {lo lo' : Nat} {w : World} {v v' : Value} {l : List Lt} (h : w.ownsRow lo 52 4 v l.length (flatL l)) (h' : w.ownsRow lo' 52 4 v' l.length (flatL l)) (h8 : l.length ≤ 8) :
    Calls Try.prog 19 #[v, v'] w fun e w' => e = .returned (.bool true) ∧ Below w.heap.size w w' := by
  obtain ⟨A, cap, rfl⟩ := own_slice h
  obtain ⟨A', cap', rfl⟩ := own_slice h'
  obtain ⟨m, hm⟩ : ∃ m, l.length = m := ⟨_, rfl⟩
  have h1 := fun (k : Nat) (i : Nat) (hi : i < l.length) => own_at (i := i) (w := w.drewN k) h rfl hi
  have h2 := fun (k : Nat) (i : Nat) (hi : i < l.length) => own_at (i := i) (w := w.drewN k) h' rfl hi
  rw [hm] at h1 h2
  have H1 := Lib.hid h1; have H2 := Lib.hid h2; have HM := Lib.hid hm
  rw [hm] at h8 ⊢
  clear h1 h2 h h' hm
  go_enter Try.func19, Try.ntmps19
  go_wp2_with fail
  go_loopg [5] m (fun g i W => ∃ (k q : Nat), g + k = m ∧ i = .int .i64 k ∧ W = w.drewN q)
  case atStart => exact ⟨0, 0, by omega, rfl, rfl⟩
  case round =>
    obtain ⟨k, q, hm, rfl, rfl⟩ := hrel
    have HMk := Lib.hid hm
    by_cases hlt : k < m
    · obtain ⟨g, x, rfl, hx, _, c0, c1, c2, c3⟩ := H1.out q k hlt
      obtain ⟨g', x', rfl, hx', _, d0, d1, d2, d3⟩ := H2.out q k hlt
      obtain rfl : x = x' := Option.some.inj (hx.symm.trans hx')
      obtain ⟨wr, hwr⟩ : ∃ wr, w.drewN q = wr := ⟨_, rfl⟩
      rw [hwr] at c0 c1 c2 c3 d0 d1 d2 d3 ⊢
      have HW := Lib.hid hwr
      clear hm hx hx' hwr
      go_wp2_with fail
      go_still (by kernel_rfl)
      go_wp2
      go_roundg (m - (k + 1))
      case measure => have := HMk.out; omega
      case rel => exact ⟨k + 1, q + 1, by have := HMk.out; omega, by go_num, by rw [← HW.out]; rfl⟩
    · obtain rfl : k = m := by omega
      clear hm
      have bb : Below w.heap.size w (w.drewN q) := M.below_drewN (Below.refl _ w) q
      have BB := Lib.hid bb
      clear bb
      go_wp2
      go_ret
      exact ⟨rfl, BB.out⟩
end Go.Proofs.Ytblbhnlmbmffkaa
