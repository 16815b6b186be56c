/- What Close of a post returns, and what it leaves; the condition is that the blocks of the post are known. -/
import Derived.Test.YtblbhnlmbmffkaaPoD
import Derived.Deep.LoopGhost
namespace Go.Proofs.Ytblbhnlmbmffkaa
open Go.RowKit
set_option linter.unusedVariables false

/-- j letters taken -/
def tk (b : Bx) : Nat → Bx
  | 0 => b
  | j + 1 => takeB (tk b j)
theorem tk_ok {b : Bx} (h : BxOk b) : ∀ j, BxOk (tk b j)
  | 0 => h
  | j + 1 => take_ok (tk_ok h j)
theorem tk_many (b : Bx) : ∀ j, (tk b j).many = b.many - j
  | 0 => rfl
  | j + 1 => by show (tk b j).many - 1 = _; rw [tk_many b j]; omega
theorem tk_shut (b : Bx) : ∀ j, (tk b j).shut = b.shut
  | 0 => rfl
  | j + 1 => tk_shut b j
theorem tk_bl {b : Bx} (h : BxOk b) : ∀ j, j ≤ b.many → bl (tk b j) = (bl b).drop j
  | 0, _ => rfl
  | j + 1, hj => by
    have h1 := tk_bl h j (by omega)
    have h2 := take_bl (tk_ok h j) (by rw [tk_many]; omega)
    rw [h1] at h2
    have h3 := congrArg (List.drop 1) h2
    rw [List.drop_drop] at h3
    exact h3.symm
theorem tk_head {b : Bx} (h : BxOk b) {j : Nat} (hj : j < b.many) : (bl b)[j]? = some ((tk b j).ring (tk b j).first) := by
  have h2 := take_bl (tk_ok h j) (by rw [tk_many]; omega)
  rw [tk_bl h j (by omega)] at h2
  have := congrArg (fun l => l[0]?) h2
  simpa using this
def flatL (l : List Lt) : List Value := l.flatMap Lt.cells
theorem flatL_len (l : List Lt) : (flatL l).length = l.length * 4 := by
  induction l with
  | nil => rfl
  | cons x r ih => show (x.cells ++ flatL r).length = _; rw [List.length_append, ih]; show 4 + r.length * 4 = (r.length + 1) * 4; omega
theorem flatL_snoc (l : List Lt) (x : Lt) : flatL (l ++ [x]) = flatL l ++ x.cells := by unfold flatL; rw [List.flatMap_append]; simp
theorem take_snoc' {α : Type} {l : List α} {j : Nat} {x : α} (h : l[j]? = some x) : l.take (j + 1) = l.take j ++ [x] := by
  rw [List.take_add_one, h]; rfl

theorem PB.grown {w v v' : World} {B : Nat} {tB : TypeId} {C : Array Value} {r : Option Nat} (c : PB w B tB C [] v) (hg : v.grownBy v' r) (hr : ∀ j, r = some j → w.heap.size ≤ j) : PB w B tB C [] v' := by
  have hB := c.row.lt
  have hne : some B ≠ r := fun e => by have := hr B e.symm; have := c.old; omega
  refine ⟨?_, fun x hx => (by cases hx), ⟨hg.os.trans c.but.os, hg.tape.trans c.but.tape, hg.output.trans c.but.output, Nat.le_trans c.but.size hg.size, fun k hk hkB => ?_⟩, c.old, fun x hx => (by cases hx)⟩
  · have := hg.block B hB hne
    unfold M.RowAt; rw [this]; exact c.row
  · have h1 : k < v.heap.size := Nat.lt_of_lt_of_le hk c.but.size
    rw [hg.block k h1 (fun e => by have := hr k e.symm; omega)]
    exact c.but.block k hk hkB
theorem But.grown {w w' : World} {B : Nat} (h : M.But B w w') : w.grownBy w' (some B) := ⟨h.os, h.tape, h.output, h.size, fun k hk hne => h.block k hk (fun e => hne (by rw [e]))⟩
theorem info33 : (Try.prog.info? 33).map (fun i => (i.zero, i.size, i.bytes)) = some (some (.agg #[.int .i64 0, .int .i64 0, .int .i64 0, .string ⟨#[]⟩]), 4, 40) := by kernel_rfl

/-- what Close answers and leaves -/
def closeR (nb : Nat) (E : Nat → Bx) (x : Int) : Int := if 0 ≤ x ∧ x < (nb : Int) then (if (E x.toNat).shut then 135 else 0) else 3
def closeL (nb : Nat) (E : Nat → Bx) (x : Int) : List Lt := if closeR nb E x = 0 then bl (E x.toNat) else []
def closeE (nb : Nat) (E : Nat → Bx) (x : Int) : Nat → Bx := if closeR nb E x = 0 then upB E x.toNat (shutB (tk (E x.toNat) (E x.toNat).many)) else E
theorem closeR_eq (nb : Nat) (E : Nat → Bx) (x : Int) : askE nb x [openE (E x.toNat)] = closeR nb E x := by
  unfold askE closeR openE
  split
  · cases (E x.toNat).shut <;> simp [firstE]
  · rfl
theorem closeR_zero {nb : Nat} {E : Nat → Bx} {x : Int} (h : closeR nb E x = 0) : 0 ≤ x ∧ x < (nb : Int) ∧ (E x.toNat).shut = false := by
  unfold closeR at h
  split at h
  · rename_i hx
    split at h
    · cases h
    · rename_i hs; exact ⟨hx.1, hx.2, by simpa using hs⟩
  · cases h
theorem shut_ok {b : Bx} (h : BxOk b) : BxOk (shutB b) := ⟨h.first, h.many⟩
theorem close_ok {nb : Nat} {E : Nat → Bx} {x : Int} (h : ∀ k, BxOk (E k)) : ∀ k, BxOk (closeE nb E x k) := by
  unfold closeE
  split
  · exact ok_up h (shut_ok (tk_ok (h _) _))
  · exact h
/-- what Close leaves in memory -/
def Closed (n B nb : Nat) (E : Nat → Bx) (x : Int) (w : World) (e : Ending) (w' : World) : Prop :=
  ∃ v, e = .returned (.tuple #[v, .int .i64 (closeR nb E x)]) ∧ w'.ownsRow n 33 4 v (closeL nb E x).length (flatL (closeL nb E x)) ∧ M.RowAt w' B 76 (boC (closeE nb E x) nb) ∧ M.But B w w'

set_option maxRecDepth 100000 in
set_option maxHeartbeats 4000000 in
theorem close_any {p B nb : Nat} {E : Nat → Bx} {w : World} (h : Pt p B nb E w) (x : Int) :
    Calls Try.prog 14 #[.pointer (some ⟨p, 0, none⟩), .int .i64 x] w (Closed w.heap.size B nb E x w) := by
  obtain ⟨n, hsz⟩ : ∃ n, w.heap.size = n := ⟨_, rfl⟩
  have HSZ := Lib.hid hsz
  have p1 := (PB.start h.hB).new 71 #[.func (.func 24) #[] #[]]
  rw [hsz] at p1
  have t1 := h.alloc (.cells #[.func (.func 24) #[] #[]] 71)
  have ask := ask_open t1 x n (p1.rows (n, 71, _) (by simp))
  rw [closeR_eq] at ask
  rw [hsz]
  have q1 : PB w B 76 (boC E nb) [] (w.alloc (.cells #[.func (.func 24) #[] #[]] 71)) := p1.sub (by simp)
  by_cases hr : closeR nb E x = 0
  · obtain ⟨h0, h1, h2⟩ := closeR_zero hr
    have hP : askP B nb x [openE (E x.toNat)] = .pointer (some ⟨B, x.toNat * 35, none⟩) := (askP_ok h0 h1 (by rw [openE_zero.2 h2]; rfl)).1
    rw [hP, hr] at ask
    have hok := h.ok
    have h64 := h.nb64
    have hL : closeL nb E x = bl (E x.toNat) := by unfold closeL; rw [if_pos hr]
    have hE : closeE nb E x = upB E x.toNat (shutB (tk (E x.toNat) (E x.toNat).many)) := by unfold closeE; rw [if_pos hr]
    have fin : ∀ v e w', e = .returned (.tuple #[v, .int .i64 0]) → w'.ownsRow n 33 4 v (E x.toNat).many (flatL ((bl (E x.toNat)).take (E x.toNat).many)) → PB w B 76 (boC (upB E x.toNat (shutB (tk (E x.toNat) (E x.toNat).many))) nb) [] w' → Closed n B nb E x w e w' := by
      intro v e w' he ho hp
      refine ⟨v, by rw [hr]; exact he, ?_, by rw [hE]; exact hp.row, hp.but⟩
      rw [hL, bl_len]
      rwa [List.take_of_length_le (by rw [bl_len]; exact Nat.le_refl _)] at ho
    obtain ⟨k, hk⟩ : ∃ k, x.toNat = k := ⟨_, rfl⟩
    rw [hk] at ask fin
    have hkn : k < nb := by omega
    have hbk := hok k
    have hb8 := hbk.many
    have cm := fun j v (c : PB w B 76 (boC (upB E k (tk (E k) j)) nb) [] v) => bo_many c.row hkn
    have cs := fun v (c : PB w B 76 (boC (upB E k (tk (E k) (E k).many)) nb) [] v) => And.intro (bo_shut c.row hkn) (M.RowAt.frozen c.row (k * 35 + 34))
    have ss : ∀ v, PB w B 76 (boC (upB E k (tk (E k) (E k).many)) nb) [] v → PB w B 76 (boC (upB E k (shutB (tk (E k) (E k).many))) nb) [] (v.setCell ⟨B, k * 35 + 34, none⟩ (.bool true)) := fun v c => by
      have c2 := c.set (k * 35 + 34) (.bool true)
      rw [boC_shut hkn] at c2
      simp only [upB_same, upB_twice] at c2
      exact c2
    simp only [upB_same, tk_many] at cm cs
    have take := fun j (hj : j < (E k).many) v (c : PB w B 76 (boC (upB E k (tk (E k) j)) nb) [] v) => take_any B nb k (upB E k (tk (E k) j)) v c.row hkn h64 (by rw [upB_same]; exact tk_ok hbk j) (by rw [upB_same, tk_many]; omega)
    simp only [upB_same, upB_twice] at take
    have hd : ∀ j, j < (E k).many → (bl (E k))[j]? = some ((tk (E k) j).ring (tk (E k) j).first) := fun j hj => tk_head hbk hj
    have sn := fun j hj => take_snoc' (hd j hj)
    have q2 : PB w B 76 (boC (upB E k (tk (E k) 0)) nb) [] (w.alloc (.cells #[.func (.func 24) #[] #[]] 71)) := by
      have : upB E k (tk (E k) 0) = E := by funext i; unfold upB; split <;> (rename_i e; try subst e) <;> rfl
      rw [this]; exact q1
    have FIN := Lib.hid fin; have CM := Lib.hid cm; have CS := Lib.hid cs; have SS := Lib.hid ss; have TAKE := Lib.hid take; have SN := Lib.hid sn; have AS := Lib.hid ask
    obtain ⟨i0, hi, hz0, hz1, hz2⟩ := info_parts info33
    obtain ⟨m, hm⟩ : ∃ m, (E k).many = m := ⟨_, rfl⟩
    rw [hm] at FIN CM CS SS TAKE SN hb8
    have hBn : B < n := hsz ▸ h.ltB
    obtain ⟨V, hV⟩ : ∃ V, w.alloc (.cells #[.func (.func 24) #[] #[]] 71) = V := ⟨_, rfl⟩
    rw [hV] at q2 AS
    have HV := Lib.hid hV
    clear fin cm cs ss take hd sn ask p1 q1 hL hE hP hr h0 h1 h2 hok t1 h hbk hk hm hV
    go_enter Try.func14, Try.ntmps14
    go_wp2_with (first | (rw [HV.out]) | fail)
    refine (AS.out).mono ?_
    rintro e w1 ⟨rfl, rfl⟩
    go_wp2
    have o0 := World.ownsRow_nil V n 33 4
    go_loopg [8] m (fun g v wr => ∃ j : Nat, g + j = m ∧ wr.ownsRow n 33 4 v j (flatL ((bl (E k)).take j)) ∧ PB w B 76 (boC (upB E k (tk (E k) j)) nb) [] wr)
    case atStart => exact ⟨0, by omega, o0, q2⟩
    case round =>
      clear q2 o0
      obtain ⟨j, hm, own, q⟩ := hrel
      by_cases hlt : j < m
      · have cm := CM.out j _ q
        have hpos : (0 : Int) < ((m - j : Nat) : Int) := by omega
        have tk1 := TAKE.out j hlt _ q
        have sn := SN.out j hlt
        have ol := own.lt
        have T1 := Lib.hid tk1; have S1 := Lib.hid sn; have OL := Lib.hid ol
        generalize m - j = mj at *
        generalize (tk (E k) j).ring (tk (E k) j).first = y at *
        have hrow : y.row = #[.int .i64 y.to, .int .i64 y.frm, .int .i64 y.kind, .string y.text] := rfl
        have hcell : y.cells = [.int .i64 y.to, .int .i64 y.frm, .int .i64 y.kind, .string y.text] := rfl
        rw [hrow] at T1
        generalize upB E k (tk (E k) j) = Ej at *
        have HM := Lib.hid hm
        clear tk1 sn ol
        go_wp2_with fail
        refine (T1.out).mono ?_
        rintro e w2 ⟨rfl, hr2, hb2⟩
        have q3 := q.call hb2 hr2
        have own2 := own.kept (But.grown hb2) (by
          cases hob : u8.ownBlock with
          | none => exact .inl rfl
          | some gb => exact .inr fun e => by have := (OL.out gb hob).1; cases e; omega)
        have hc : ∀ i u, ([.int .i64 y.to, .int .i64 y.frm, .int .i64 y.kind, .string y.text] : List Value)[i]? = some u → (w2.alloc (.cells #[.int .i64 y.to, .int .i64 y.frm, .int .i64 y.kind, .string y.text] 33)).cell? ((⟨w2.heap.size, 0, none⟩ : Addr).add i) = some u := fun i u hu => by
          rw [Addr.add_mid, Nat.zero_add, M.RowAt.cell (M.RowAt.new w2 33 _), ← Array.getElem?_toList]
          exact hu
        have h1c : ∀ u ∈ ([.int .i64 y.to, .int .i64 y.frm, .int .i64 y.kind, .string y.text] : List Value), u.oneCell' = true := fun u hu => by
          simp at hu; rcases hu with rfl | rfl | rfl | rfl <;> rfl
        have hge : n ≤ (w2.alloc (.cells #[.int .i64 y.to, .int .i64 y.frm, .int .i64 y.kind, .string y.text] 33)).heap.size := by
          have := q3.but.size; have := HSZ.out; simp; omega
        have q4 := q3.alloc (.cells #[.int .i64 y.to, .int .i64 y.frm, .int .i64 y.kind, .string y.text] 33)
        have HC := Lib.hid hc; have H1C := Lib.hid h1c; have Q4 := Lib.hid q4; have O2 := Lib.hid own2; have HGE := Lib.hid hge; have HCE := Lib.hid hcell
        clear hr2 hb2 own q hc h1c q4 q3 own2 hge hrow hcell
        go_wp2_with (first
          | (at_builtin; refine wpList_append_own _ rfl (.tmp 24) (.tmp 27) 40 rfl n 33 i0 _ 4 40 Try.underlying40 hi hz0 hz1 hz2 rfl (by decide) u8 j _ rfl (O2.out.alloc _) ⟨w2.heap.size, 0, none⟩ 1 1 [.int .i64 y.to, .int .i64 y.frm, .int .i64 y.kind, .string y.text] rfl rfl HC.out H1C.out (by unfold maxLen; omega) (by omega) HGE.out ?_; intro v' w3 own3 hgrow _)
          | fail)
        have q5 := Q4.out.grown hgrow (fun b hb => by rw [HSZ.out]; exact (OL.out b hb).1)
        rw [← HCE.out, ← flatL_snoc, ← S1.out] at own3
        clear hgrow
        go_roundg (m - (j + 1))
        case measure => have := HM.out; omega
        case rel => exact ⟨j + 1, by omega, own3, q5⟩
      · obtain rfl : j = m := by omega
        have cm := CM.out j _ q
        obtain ⟨cs, fs⟩ := CS.out _ q
        have ss := SS.out _ q
        rw [Nat.sub_self] at cm
        have own2 := own.kept (w' := wr.setCell ⟨B, k * 35 + 34, none⟩ (.bool true)) (row := some B) (But.grown ((M.But.refl B wr).set (p := ⟨B, k * 35 + 34, none⟩) (.inl rfl) _)) (by
          cases hob : u8.ownBlock with
          | none => exact .inl rfl
          | some gb => exact .inr fun e => by have := (own.lt gb hob).1; cases e; omega)
        have hfin := FIN.out u8 _ _ rfl own2 ss
        have HFIN := Lib.hid hfin
        clear hfin own2 ss own q
        go_wp2
        go_ret2
        exact HFIN.out
  · have hP : askP B nb x [openE (E x.toNat)] = .pointer none := askP_no hr (closeR_eq nb E x)
    have hL : closeL nb E x = [] := by unfold closeL; rw [if_neg hr]
    have hE : closeE nb E x = E := by unfold closeE; rw [if_neg hr]
    have fin : ∀ w', PB w B 76 (boC E nb) [] w' → Closed n B nb E x w (.returned (.tuple #[.slice none 0 0, .int .i64 (closeR nb E x)])) w' := fun w' hp =>
      ⟨_, rfl, by rw [hL]; exact World.ownsRow_nil _ _ _ _, by rw [hE]; exact hp.row, hp.but⟩
    rw [hP] at ask
    generalize closeR nb E x = R at *
    have hd : (R == 0) = false := by simpa using hr
    have FIN := Lib.hid fin; have AS := Lib.hid ask; have Q1 := Lib.hid q1
    clear fin ask hL hE hP h t1 p1 q1
    go_enter Try.func14, Try.ntmps14
    go_wp2_with fail
    refine (AS.out).mono ?_
    rintro e w1 ⟨rfl, rfl⟩
    go_wp2
    go_ret2
    exact FIN.out _ Q1.out
end Go.Proofs.Ytblbhnlmbmffkaa
