/- What Send, Take, Len, Room and All of a post return, and what they leave; the condition is that the blocks of the post are known. -/
import Derived.Test.YtblbhnlmbmffkaaPoB
namespace Go.Proofs.Ytblbhnlmbmffkaa
open Go.RowKit
set_option linter.unusedVariables false

/-- a post: its own block, and the boxes' one -/
structure Pt (p B nb : Nat) (E : Nat → Bx) (w : World) : Prop where
  hp : M.RowAt w p 67 #[.slice (some ⟨B, 0, none⟩) nb nb]
  hB : M.RowAt w B 76 (boC E nb)
  ne : p ≠ B
  nb1 : 1 ≤ nb
  nb64 : nb ≤ 64
  ok : ∀ k, BxOk (E k)
section
variable {p B nb : Nat} {E E' : Nat → Bx} {w w' : World}
theorem Pt.same (h : Pt p B nb E w) (hb : Below w.heap.size w w') : Pt p B nb E w' := ⟨h.hp.call hb, h.hB.call hb, h.ne, h.nb1, h.nb64, h.ok⟩
theorem Pt.alloc (h : Pt p B nb E w) (o : Obj) : Pt p B nb E (w.alloc o) := h.same ((Below.refl _ _).alloc (Nat.le_refl _) o)
theorem Pt.drew (h : Pt p B nb E w) : Pt p B nb E w.drew := ⟨h.hp, h.hB, h.ne, h.nb1, h.nb64, h.ok⟩
theorem Pt.call (h : Pt p B nb E w) (hb : M.But B w w') (hr : M.RowAt w' B 76 (boC E' nb)) (hok : ∀ k, BxOk (E' k)) : Pt p B nb E' w' := ⟨hb.row h.hp h.ne, hr, h.ne, h.nb1, h.nb64, hok⟩
theorem Pt.ltp (h : Pt p B nb E w) : p < w.heap.size := h.hp.lt
theorem Pt.ltB (h : Pt p B nb E w) : B < w.heap.size := h.hB.lt
end

def es2 (E : Nat → Bx) (x : Int) : List Int := [openE (E x.toNat), fullE (E x.toNat)]
section
variable {p B nb : Nat} {E : Nat → Bx} {w : World}
theorem ask_two (h : Pt p B nb E w) (x : Int) (g : Nat) (hg : M.RowAt w g 71 #[.func (.func 24) #[] #[], .func (.func 25) #[] #[]]) :
    Calls Try.prog 23 #[.pointer (some ⟨p, 0, none⟩), .int .i64 x, .slice (some ⟨g, 0, none⟩) 2 2] w fun e w' => e = .returned (.tuple #[askP B nb x (es2 E x), .int .i64 (askE nb x (es2 E x))]) ∧ w = w' := by
  refine ask_any p B nb x w h.nb64 h.hp g 2 (fun j => if j = 0 then 24 else 25) (es2 E x) rfl (by decide) ?_ ?_ _ (fun _ => rfl)
  · intro j hj
    rw [hg.cell]
    match j, hj with
    | 0, _ => rfl
    | 1, _ => rfl
  · intro h0 h1 j hj
    have hk : x.toNat < nb := by omega
    match j, hj with
    | 0, _ => exact ⟨enters24, open_any h.hB hk⟩
    | 1, _ => exact ⟨enters25, full_any h.hB hk⟩
theorem ask_one (h : Pt p B nb E w) (x : Int) (g f : Nat) (r : Bx → Int) (en : Enters Try.prog f) (hf : ∀ k, k < nb → Calls Try.prog f #[.pointer (some ⟨B, k * 35, none⟩)] w fun e w' => e = .returned (.int .i64 (r (E k))) ∧ w = w') (hg : M.RowAt w g 71 #[.func (.func f) #[] #[]]) :
    Calls Try.prog 23 #[.pointer (some ⟨p, 0, none⟩), .int .i64 x, .slice (some ⟨g, 0, none⟩) 1 1] w fun e w' => e = .returned (.tuple #[askP B nb x [r (E x.toNat)], .int .i64 (askE nb x [r (E x.toNat)])]) ∧ w = w' := by
  refine ask_any p B nb x w h.nb64 h.hp g 1 (fun j => f) [r (E x.toNat)] rfl (by decide) ?_ ?_ _ (fun _ => rfl)
  · intro j hj
    rw [hg.cell]
    match j, hj with
    | 0, _ => rfl
  · intro h0 h1 j hj
    have hk : x.toNat < nb := by omega
    match j, hj with
    | 0, _ => exact ⟨en, hf _ hk⟩
theorem ask_open (h : Pt p B nb E w) (x : Int) (g : Nat) (hg : M.RowAt w g 71 #[.func (.func 24) #[] #[]]) :
    Calls Try.prog 23 #[.pointer (some ⟨p, 0, none⟩), .int .i64 x, .slice (some ⟨g, 0, none⟩) 1 1] w fun e w' => e = .returned (.tuple #[askP B nb x [openE (E x.toNat)], .int .i64 (askE nb x [openE (E x.toNat)])]) ∧ w = w' :=
  ask_one h x g 24 openE enters24 (fun k hk => open_any h.hB hk) hg
theorem ask_empty (h : Pt p B nb E w) (x : Int) (g : Nat) (hg : M.RowAt w g 71 #[.func (.func 27) #[] #[]]) :
    Calls Try.prog 23 #[.pointer (some ⟨p, 0, none⟩), .int .i64 x, .slice (some ⟨g, 0, none⟩) 1 1] w fun e w' => e = .returned (.tuple #[askP B nb x [emptyE (E x.toNat)], .int .i64 (askE nb x [emptyE (E x.toNat)])]) ∧ w = w' :=
  ask_one h x g 27 emptyE enters27 (fun k hk => empty_any h.hB hk) hg
theorem ask_zero (h : Pt p B nb E w) (x : Int) :
    Calls Try.prog 23 #[.pointer (some ⟨p, 0, none⟩), .int .i64 x, .slice none 0 0] w fun e w' => e = .returned (.tuple #[askP B nb x [], .int .i64 (askE nb x [])]) ∧ w = w' :=
  ask_any p B nb x w h.nb64 h.hp 0 0 (fun j => 0) [] rfl (by decide) (fun j hj => absurd hj (by omega)) (fun _ _ j hj => absurd hj (by omega)) none (fun h => absurd rfl h)
end
theorem askP_ok {B nb : Nat} {x : Int} {es : List Int} (h0 : 0 ≤ x) (h1 : x < (nb : Int)) (h : firstE es = 0) : askP B nb x es = .pointer (some ⟨B, x.toNat * 35, none⟩) ∧ askE nb x es = 0 := by
  unfold askP askE; rw [if_pos ⟨h0, h1, h⟩, if_pos ⟨h0, h1⟩]; exact ⟨rfl, h⟩
theorem askP_no {B nb : Nat} {x : Int} {es : List Int} {e : Int} (he : e ≠ 0) (h : askE nb x es = e) : askP B nb x es = .pointer none := by
  unfold askP; unfold askE at h
  by_cases hx : 0 ≤ x ∧ x < (nb : Int)
  · rw [if_pos hx] at h
    rw [if_neg (by rintro ⟨_, _, h2⟩; exact he (h.symm.trans h2))]
  · rw [if_neg (by rintro ⟨h0, h1, _⟩; exact hx ⟨h0, h1⟩)]

/-- what Send answers and leaves -/
def sendR (nb : Nat) (E : Nat → Bx) (x : Int) : Int := if 0 ≤ x ∧ x < (nb : Int) then (if (E x.toNat).shut then 135 else if (E x.toNat).many = 8 then 160 else 0) else 3
def sendB (nb : Nat) (E : Nat → Bx) (x : Lt) : Nat → Bx := if sendR nb E x.to = 0 then upB E x.to.toNat (putB (E x.to.toNat) x) else E
theorem sendR_eq (nb : Nat) (E : Nat → Bx) (x : Int) : askE nb x (es2 E x) = sendR nb E x := by
  unfold askE sendR es2 firstE openE fullE
  split
  · cases (E x.toNat).shut <;> by_cases h : (E x.toNat).many = 8 <;> simp [firstE, h]
  · rfl
theorem sendR_zero {nb : Nat} {E : Nat → Bx} {x : Int} (h : sendR nb E x = 0) : 0 ≤ x ∧ x < (nb : Int) ∧ (E x.toNat).shut = false ∧ (E x.toNat).many ≠ 8 := by
  unfold sendR at h
  split at h
  · rename_i hx
    split at h
    · cases h
    · rename_i hs
      split at h
      · cases h
      · rename_i hm
        exact ⟨hx.1, hx.2, by simpa using hs, hm⟩
  · cases h
theorem ok_up {E : Nat → Bx} (h : ∀ k, BxOk (E k)) {k : Nat} {b : Bx} (hb : BxOk b) : ∀ i, BxOk (upB E k b i) := fun i => by
  unfold upB; split
  · exact hb
  · exact h i
theorem send_ok {nb : Nat} {E : Nat → Bx} {x : Lt} (h : ∀ k, BxOk (E k)) : ∀ k, BxOk (sendB nb E x k) := by
  unfold sendB
  split
  · rename_i hs
    exact ok_up h (put_ok (h _) (sendR_zero hs).2.2.2 x)
  · exact h

set_option maxRecDepth 100000 in
set_option maxHeartbeats 4000000 in
theorem send_any {p B nb : Nat} {E : Nat → Bx} {w : World} (h : Pt p B nb E w) (x : Lt) :
    Calls Try.prog 9 #[.pointer (some ⟨p, 0, none⟩), .agg x.row] w fun e w' => e = .returned (.int .i64 (sendR nb E x.to)) ∧ M.RowAt w' B 76 (boC (sendB nb E x) nb) ∧ M.But B w w' := by
  obtain ⟨n, hsz⟩ : ∃ n, w.heap.size = n := ⟨_, rfl⟩
  have p0 := (PB.start h.hB).new 33 x.row
  have p1 := p0.new 71 #[.func (.func 24) #[] #[], .func (.func 25) #[] #[]]
  have t1 := (h.alloc (.cells x.row 33)).alloc (.cells #[.func (.func 24) #[] #[], .func (.func 25) #[] #[]] 71)
  rw [World.size_alloc, hsz] at p1
  rw [hsz] at p0
  have c0 : (w.alloc (.cells x.row 33)).cell? ⟨n, 0, none⟩ = some (.int .i64 x.to) := (M.RowAt.cell (p0.rows (n, 33, x.row) (by simp)) 0).trans rfl
  have ask := ask_two t1 x.to (n + 1) (p1.rows (n + 1, 71, _) (by simp))
  rw [sendR_eq] at ask
  obtain ⟨V, hV⟩ : ∃ V, w.alloc (.cells x.row 33) = V := ⟨_, rfl⟩
  rw [hV] at p1 c0 ask
  have hVs : V.heap.size = n + 1 := by rw [← hV]; simp [hsz]
  have HV := Lib.hid hV
  have AS := Lib.hid ask
  have ix := i33 x
  have hp2 := h.nb64
  have hok := h.ok
  clear ask hV p0 t1
  by_cases hr : sendR nb E x.to = 0
  · have hsb : sendB nb E x = upB E x.to.toNat (putB (E x.to.toNat) x) := by unfold sendB; rw [if_pos hr]
    obtain ⟨h0, h1, h2, h3⟩ := sendR_zero hr
    have hP : askP B nb x.to (es2 E x.to) = .pointer (some ⟨B, x.to.toNat * 35, none⟩) := (askP_ok h0 h1 (by have := sendR_eq nb E x.to; unfold askE at this; rw [if_pos ⟨h0, h1⟩] at this; rw [this]; exact hr)).1
    rw [hP, hr] at AS
    rw [hsb, hr]
    have put := fun v (c : M.RowAt v B 76 (boC E nb)) => put_any B nb x.to.toNat E x v c (by omega) hp2 (hok _) h3
    have PUT := Lib.hid put
    generalize x.to.toNat = k at *
    generalize boC (upB E k (putB (E k) x)) nb = Z1 at *
    generalize boC E nb = Z0 at *
    generalize x.to = xt at *
    generalize x.row = X at *
    clear put hP hr hsb h0 h1 h2 h3 h hok
    go_enter Try.func9, Try.ntmps9
    go_wp2_with (first | (rw [HV.out]) | fail)
    refine (AS.out).mono ?_
    rintro e w1 ⟨rfl, rfl⟩
    have rx := p1.at n 33 X (by simp)
    go_wp2_with (first
      | (refine wpList_load_row (x := .tmp 3) (ty := 33) (g := n) (cs := X) (t := 33) (fr := (0, 0)) ?_ ?_ ?_ _ rx Try.underlying33 rfl ix ?_; rfl; rfl; rfl)
      | fail)
    refine (PUT.out _ p1.row).mono ?_
    rintro e w2 ⟨rfl, hr2, hb2⟩
    have p2 := p1.call hb2 hr2
    go_wp2
    go_ret
    exact ⟨rfl, p2.row, p2.but⟩
  · have hsb : sendB nb E x = E := by unfold sendB; rw [if_neg hr]
    have hP : askP B nb x.to (es2 E x.to) = .pointer none := askP_no hr (sendR_eq nb E x.to)
    rw [hP] at AS
    rw [hsb]
    generalize sendR nb E x.to = R at *
    have hd : (R == 0) = false := by simpa using hr
    generalize boC E nb = Z0 at *
    generalize x.to = xt at *
    generalize x.row = X at *
    clear hP hsb h hok
    go_enter Try.func9, Try.ntmps9
    go_wp2_with (first | (rw [HV.out]) | fail)
    refine (AS.out).mono ?_
    rintro e w1 ⟨rfl, rfl⟩
    go_wp2
    go_ret
    exact ⟨rfl, p1.row, p1.but⟩

/-- what Take answers and leaves -/
def takeR (nb : Nat) (E : Nat → Bx) (x : Int) : Int := if 0 ≤ x ∧ x < (nb : Int) ∧ (E x.toNat).many ≠ 0 then 0 else 3
def takeV (nb : Nat) (E : Nat → Bx) (x : Int) : Lt := if takeR nb E x = 0 then (E x.toNat).ring (E x.toNat).first else lt0
def takeE (nb : Nat) (E : Nat → Bx) (x : Int) : Nat → Bx := if takeR nb E x = 0 then upB E x.toNat (takeB (E x.toNat)) else E
theorem takeR_eq (nb : Nat) (E : Nat → Bx) (x : Int) : askE nb x [emptyE (E x.toNat)] = takeR nb E x := by
  unfold askE takeR emptyE
  by_cases h : 0 ≤ x ∧ x < (nb : Int)
  · by_cases h2 : (E x.toNat).many = 0 <;> simp [firstE, h, h2]
  · rw [if_neg h, if_neg (fun h2 => h ⟨h2.1, h2.2.1⟩)]
theorem takeR_zero {nb : Nat} {E : Nat → Bx} {x : Int} (h : takeR nb E x = 0) : 0 ≤ x ∧ x < (nb : Int) ∧ (E x.toNat).many ≠ 0 := by
  unfold takeR at h
  split at h
  · assumption
  · cases h
theorem take_okE {nb : Nat} {E : Nat → Bx} {x : Int} (h : ∀ k, BxOk (E k)) : ∀ k, BxOk (takeE nb E x k) := by
  unfold takeE
  split
  · exact ok_up h (take_ok (h _))
  · exact h
set_option maxRecDepth 100000 in
set_option maxHeartbeats 4000000 in
theorem takep_any {p B nb : Nat} {E : Nat → Bx} {w : World} (h : Pt p B nb E w) (x : Int) :
    Calls Try.prog 10 #[.pointer (some ⟨p, 0, none⟩), .int .i64 x] w fun e w' => e = .returned (.tuple #[.agg (takeV nb E x).row, .int .i64 (takeR nb E x)]) ∧ M.RowAt w' B 76 (boC (takeE nb E x) nb) ∧ M.But B w w' := by
  obtain ⟨n, hsz⟩ : ∃ n, w.heap.size = n := ⟨_, rfl⟩
  have p0 := (PB.start h.hB).new 33 lt0.row
  have p1 := p0.new 71 #[.func (.func 27) #[] #[]]
  have t1 := (h.alloc (.cells lt0.row 33)).alloc (.cells #[.func (.func 27) #[] #[]] 71)
  rw [World.size_alloc, hsz] at p1
  rw [hsz] at p0
  have ask := ask_empty t1 x (n + 1) (p1.rows (n + 1, 71, _) (by simp))
  rw [takeR_eq] at ask
  obtain ⟨V, hV⟩ : ∃ V, w.alloc (.cells lt0.row 33) = V := ⟨_, rfl⟩
  rw [hV] at p1 ask
  have hVs : V.heap.size = n + 1 := by rw [← hV]; simp [hsz]
  have hrow0 : lt0.row = #[.int .i64 0, .int .i64 0, .int .i64 0, .string ⟨#[]⟩] := rfl
  rw [hrow0] at hV
  have HV := Lib.hid hV
  have AS := Lib.hid ask
  have i0 := i33 lt0; have o0 := o33 lt0
  have hp2 := h.nb64
  have hok := h.ok
  clear ask hV p0 t1
  by_cases hr : takeR nb E x = 0
  · have hsb : takeE nb E x = upB E x.toNat (takeB (E x.toNat)) := by unfold takeE; rw [if_pos hr]
    have hsv : takeV nb E x = (E x.toNat).ring (E x.toNat).first := by unfold takeV; rw [if_pos hr]
    obtain ⟨h0, h1, h2⟩ := takeR_zero hr
    have hP : askP B nb x [emptyE (E x.toNat)] = .pointer (some ⟨B, x.toNat * 35, none⟩) := (askP_ok h0 h1 (by have := takeR_eq nb E x; unfold askE at this; rw [if_pos ⟨h0, h1⟩] at this; rw [this]; exact hr)).1
    rw [hP, hr] at AS
    rw [hsb, hr, hsv]
    have take := fun v (c : M.RowAt v B 76 (boC E nb)) => take_any B nb x.toNat E v c (by omega) hp2 (hok _) h2
    have TAKE := Lib.hid take
    have ix := i33 ((E x.toNat).ring (E x.toNat).first); have ox := o33 ((E x.toNat).ring (E x.toNat).first)
    have zx : lt0.row.size = ((E x.toNat).ring (E x.toNat).first).row.size := rfl
    generalize ((E x.toNat).ring (E x.toNat).first).row = X at *
    generalize x.toNat = k at *
    generalize boC (upB E k (takeB (E k))) nb = Z1 at *
    generalize boC E nb = Z0 at *
    have HR0 := Lib.hid hrow0
    generalize lt0.row = O at *
    clear take hP hr hsb h0 h1 h2 h hok hsv hrow0
    go_enter Try.func10, Try.ntmps10
    go_wp2_with (first | (rw [HV.out]) | fail)
    refine (AS.out).mono ?_
    rintro e w1 ⟨rfl, rfl⟩
    go_wp2_with fail
    refine (TAKE.out _ p1.row).mono ?_
    rintro e w2 ⟨rfl, hr2, hb2⟩
    have p2 := p1.call hb2 hr2
    have rN := p2.at n 33 O (by simp)
    have p3 := (p2.sub (L' := [(n, 33, O)]) (by simp)).setRow (fun x hx => by simp at hx) X
    have P3 := Lib.hid p3
    clear p3 p2 p1 hr2 hb2
    go_wp2_with (first
      | (refine wpList_store_row (x := .tmp 4) (y := .tmp 20) (cells := X) (old := O) (t := 33) (ty := 33) (g := n) ?_ ?_ ?_ ?_ rN ix zx ox ?_; rfl; rfl; rfl; rfl)
      | fail)
    have hload := run_loadVar_row (P := Try.prog) _ n 33 33 X (0, 0) _ (P3.out.at n 33 X (by simp)) Try.underlying33 rfl ix
    exact bodyPost_ret (v := .tuple #[.agg X, .int .i64 0]) (by simp [results, Try.results10, asAddr, hload]) rfl ⟨rfl, P3.out.row, P3.out.but⟩
  · have hsb : takeE nb E x = E := by unfold takeE; rw [if_neg hr]
    have hsv : takeV nb E x = lt0 := by unfold takeV; rw [if_neg hr]
    have hP : askP B nb x [emptyE (E x.toNat)] = .pointer none := askP_no hr (takeR_eq nb E x)
    rw [hP] at AS
    rw [hsb, hsv]
    generalize takeR nb E x = R at *
    have hd : (R == 0) = false := by simpa using hr
    generalize boC E nb = Z0 at *
    have HR0 := Lib.hid hrow0
    generalize lt0.row = O at *
    have rN := p1.at n 33 O (by simp)
    have p3 := (p1.sub (L' := [(n, 33, O)]) (by simp)).setRow (fun x hx => by simp at hx) O
    have P3 := Lib.hid p3
    have il : (Try.prog.info? 33).map (·.size) = some (#[Value.int .i64 0, .int .i64 0, .int .i64 0, .string ⟨#[]⟩] : Array Value).size := by kernel_rfl
    have ol : (#[Value.int .i64 0, .int .i64 0, .int .i64 0, .string ⟨#[]⟩] : Array Value).all (·.oneCell') = true := HR0.out ▸ o0
    have zl : O.size = (#[Value.int .i64 0, .int .i64 0, .int .i64 0, .string ⟨#[]⟩] : Array Value).size := HR0.out ▸ rfl
    clear hP hsb h hok p3 hsv hrow0
    go_enter Try.func10, Try.ntmps10
    go_wp2_with (first | (rw [HV.out]) | fail)
    refine (AS.out).mono ?_
    rintro e w1 ⟨rfl, rfl⟩
    go_wp2_with (first
      | (refine wpList_store_row (x := .tmp 4) (y := .tmp 17) (cells := #[.int .i64 0, .int .i64 0, .int .i64 0, .string ⟨#[]⟩]) (old := O) (t := 33) (ty := 33) (g := n) ?_ ?_ ?_ ?_ rN il zl ol ?_; rfl; rfl; rfl; rfl; rw [← HR0.out])
      | fail)
    have hload := run_loadVar_row (P := Try.prog) _ n 33 33 O (0, 0) _ (P3.out.at n 33 O (by simp)) Try.underlying33 rfl i0
    exact bodyPost_ret (v := .tuple #[.agg O, .int .i64 R]) (by simp [results, Try.results10, asAddr, hload]) rfl ⟨rfl, P3.out.row, P3.out.but⟩

/-- what Len returns -/
def lenR (nb : Nat) (E : Nat → Bx) (x : Int) : Int := if 0 ≤ x ∧ x < (nb : Int) then ((E x.toNat).many : Nat) else 0
set_option maxRecDepth 100000 in
set_option maxHeartbeats 4000000 in
theorem len_any {p B nb : Nat} {E : Nat → Bx} {w : World} (h : Pt p B nb E w) (x : Int) :
    Calls Try.prog 13 #[.pointer (some ⟨p, 0, none⟩), .int .i64 x] w fun e w' => e = .returned (.int .i64 (lenR nb E x)) ∧ w = w' := by
  have ask := ask_zero h x
  unfold lenR
  by_cases hx : 0 ≤ x ∧ x < (nb : Int)
  · obtain ⟨e1, e2⟩ := askP_ok (B := B) (es := []) hx.1 hx.2 rfl
    rw [e1, e2] at ask
    rw [if_pos hx]
    have cm := bo_many h.hB (k := x.toNat) (by omega)
    generalize (E x.toNat).many = m at *
    generalize x.toNat = k at *
    have AS := Lib.hid ask
    clear ask e1 e2 h hx
    go_enter Try.func13, Try.ntmps13
    go_wp2_with fail
    refine (AS.out).mono ?_
    rintro e w1 ⟨rfl, rfl⟩
    go_wp2
    go_ret
    exact ⟨rfl, rfl⟩
  · have e2 : askE nb x [] = 3 := by unfold askE; rw [if_neg hx]
    rw [askP_no (e := 3) (by decide) e2, e2] at ask
    rw [if_neg hx]
    have AS := Lib.hid ask
    clear ask e2 h hx
    go_enter Try.func13, Try.ntmps13
    go_wp2_with fail
    refine (AS.out).mono ?_
    rintro e w1 ⟨rfl, rfl⟩
    go_wp2
    go_ret
    exact ⟨rfl, rfl⟩
/-- what Room returns -/
def roomR (nb : Nat) (E : Nat → Bx) (x : Int) : Int := if 0 ≤ x ∧ x < (nb : Int) ∧ (E x.toNat).shut = false then 8 - ((E x.toNat).many : Nat) else 0
theorem openE_zero {b : Bx} : openE b = 0 ↔ b.shut = false := by unfold openE; cases b.shut <;> simp
set_option maxRecDepth 100000 in
set_option maxHeartbeats 4000000 in
theorem room_any {p B nb : Nat} {E : Nat → Bx} {w : World} (h : Pt p B nb E w) (x : Int) :
    Calls Try.prog 12 #[.pointer (some ⟨p, 0, none⟩), .int .i64 x] w fun e w' => e = .returned (.int .i64 (roomR nb E x)) ∧ Below w.heap.size w w' := by
  obtain ⟨n, hsz⟩ : ∃ n, w.heap.size = n := ⟨_, rfl⟩
  have HSZ := Lib.hid hsz
  have p1 := (PB.start h.hB).new 71 #[.func (.func 24) #[] #[]]
  rw [hsz] at p1
  have t1 := h.alloc (.cells #[.func (.func 24) #[] #[]] 71)
  have ask := ask_open t1 x n (p1.rows (n, 71, _) (by simp))
  have bel : Below n w (w.alloc (.cells #[.func (.func 24) #[] #[]] 71)) := (Below.refl _ _).alloc (by omega) _
  have h8 := (h.ok x.toNat).many
  unfold roomR
  by_cases hx : 0 ≤ x ∧ x < (nb : Int) ∧ (E x.toNat).shut = false
  · obtain ⟨e1, e2⟩ := askP_ok (B := B) (es := [openE (E x.toNat)]) hx.1 hx.2.1 (by rw [openE_zero.2 hx.2.2]; rfl)
    rw [e1, e2] at ask
    rw [if_pos hx]
    have cm := bo_many t1.hB (k := x.toNat) (by omega)
    generalize (E x.toNat).many = m at *
    generalize x.toNat = k at *
    have AS := Lib.hid ask
    have hw : IntKind.i64.wrap (8 - (m : Int)) = 8 - (m : Int) := IntWalk.i64_in _ (by omega)
    clear ask e1 e2 h hx t1 p1
    go_enter Try.func12, Try.ntmps12
    go_wp2_with fail
    refine (AS.out).mono ?_
    rintro e w1 ⟨rfl, rfl⟩
    go_wp2
    go_ret
    exact ⟨rfl, by rw [HSZ.out]; exact bel⟩
  · obtain ⟨e, he, e2⟩ : ∃ e, e ≠ 0 ∧ askE nb x [openE (E x.toNat)] = e := ⟨_, by
      unfold askE
      by_cases hy : 0 ≤ x ∧ x < (nb : Int)
      · rw [if_pos hy]
        have : openE (E x.toNat) ≠ 0 := fun e => hx ⟨hy.1, hy.2, openE_zero.1 e⟩
        simp [firstE, this]
      · rw [if_neg hy]; decide, rfl⟩
    rw [askP_no he e2, e2] at ask
    rw [if_neg hx]
    have hd : (e == 0) = false := by simpa using he
    have AS := Lib.hid ask
    clear ask e2 h hx t1 p1
    go_enter Try.func12, Try.ntmps12
    go_wp2_with fail
    refine (AS.out).mono ?_
    rintro e w1 ⟨rfl, rfl⟩
    go_wp2
    go_ret
    exact ⟨rfl, by rw [HSZ.out]; exact bel⟩
end Go.Proofs.Ytblbhnlmbmffkaa
