/- Encode of a message that may be: its bytes; the conditions are the types' own. -/
import Derived.Test.YtiilgkhndfnkgaaWiN
namespace Go.Proofs.Ytiilgkhndfnkgaa
open Go.RowKit Go.Shelf
set_option linter.unusedVariables false

/-- the bytes of a field -/
def fbytes (m : Msg) : Fld → ByteArray
  | .chan => strOfNums (numB m.chan 4)
  | .id => strOfNums (numB m.id 8)
  | .amount => strOfNums (numB m.amount 8)
  | .hash => strOfNums m.hash
  | .expiry => strOfNums (numB m.expiry 4)
  | .number => strOfNums (numB m.number 2)
def cat (m : Msg) (s : ByteArray) (fl : List Fld) : ByteArray := fl.foldl (fun s f => s ++ fbytes m f) s
theorem cat_take {fl : List Fld} {k : Nat} {f : Fld} (h : fl[k]? = some f) (m : Msg) (s : ByteArray) : cat m s (fl.take (k + 1)) = cat m s (fl.take k) ++ fbytes m f := by
  rw [List.take_add_one, h]; simp [cat, List.foldl_append]
theorem str_size (l : List Int) : (strOfNums l).size = l.length := by
  simp [strOfNums, ByteArray.size]
theorem num_len (n wd : Int) (h0 : 0 ≤ wd) : (numB n wd).length ≤ wd.toNat := by
  unfold numB
  split
  · exact Nat.zero_le _
  · simp [top]
theorem fbytes_le (m : Msg) (h : m.hash.length = 32) (f : Fld) : (fbytes m f).size ≤ 32 := by
  cases f
  all_goals (simp only [fbytes]; rw [str_size])
  · exact Nat.le_trans (num_len _ _ (by decide)) (by decide)
  · exact Nat.le_trans (num_len _ _ (by decide)) (by decide)
  · exact Nat.le_trans (num_len _ _ (by decide)) (by decide)
  · omega
  · exact Nat.le_trans (num_len _ _ (by decide)) (by decide)
  · exact Nat.le_trans (num_len _ _ (by decide)) (by decide)
theorem cat_le (m : Msg) (h : m.hash.length = 32) : ∀ (fl : List Fld) (s : ByteArray), (cat m s fl).size ≤ s.size + 32 * fl.length
  | [], s => Nat.le_refl _
  | f :: r, s => by
    have h1 := cat_le m h r (s ++ fbytes m f)
    have h2 := fbytes_le m h f
    rw [ByteArray.size_append] at h1
    show (cat m (s ++ fbytes m f) r).size ≤ _
    rw [List.length_cons]; omega
/-- that a message's fields fit their widths -/
structure Fits (m : Msg) : Prop where
  e0 : 0 ≤ m.expiry
  e1 : m.expiry ≤ 1073741824
  n0 : 0 ≤ m.number
  n1 : m.number ≤ 65535
theorem w_step {lo b p : Nat} {f : Fld} {u : Value} {X : World} (h : FV lo X f u) (m : Msg) (ho : m.ok) (ft : Fits m) (s : ByteArray) (hs : s.size ≤ 1000000) (rb : M.RowAt X b 62 m.row) (hat : M.RowAt X p 25 #[.string s]) (hpb : p ≠ b) :
    Calls Try.prog (fnOf f) (#[.agg #[.pointer (some ⟨p, 0, none⟩), .pointer none], .pointer (some ⟨b, 0, none⟩)] ++ capsV u) X (DidW b p m.row (s ++ fbytes m f) X) := by
  have e0 := ft.e0; have e1 := ft.e1; have n0 := ft.n0; have n1 := ft.n1
  cases f
  · obtain ⟨a, c, rfl, _, _, ra, rc⟩ := h; exact w_chan m ho.h32 a c b p s X ra rc rb hat hpb (by omega) ho.c0 (by have := ho.c1; omega) (by have := ho.c1; show m.chan < 4294967296; omega)
  · obtain ⟨a, c, rfl, _, _, ra, rc⟩ := h; exact w_id m ho.h32 a c b p s X ra rc rb hat hpb (by omega) ho.i0 ho.i1 (by have := ho.i1; show m.id < 18446744073709551616; omega)
  · obtain ⟨a, c, rfl, _, _, ra, rc⟩ := h; exact w_amount m ho.h32 a c b p s X ra rc rb hat hpb (by omega) ho.a0 ho.a1 (by have := ho.a1; show m.amount < 18446744073709551616; omega)
  · have h' : u = .func (.func 64) #[] #[] := h
    subst h'
    exact w_hash m ho.h32 b p s X rb hat hpb (by omega)
  · obtain ⟨a, c, rfl, _, _, ra, rc⟩ := h; exact w_expiry m ho.h32 a c b p s X ra rc rb hat hpb (by omega) e0 (by omega) (by show m.expiry < 4294967296; omega)
  · obtain ⟨a, c, rfl, _, _, ra, rc⟩ := h; exact w_number m ho.h32 a c b p s X ra rc rb hat hpb (by omega) n0 (by omega) (by show m.number < 65536; omega)
theorem At.call {w w' : World} {p : Nat} {s : ByteArray} (h : At w ⟨p, 0, none⟩ s) (hb : Below w.heap.size w w') : At w' ⟨p, 0, none⟩ s :=
  h.below hb (World.block_lt_of_cell? w _ h.cell)
theorem w_through {b p lo : Nat} (fl : List Fld) (h8 : fl.length ≤ 8) (v : Value) (W : World) (hFL : FL lo W v fl) (hlo : lo ≤ W.heap.size) (hpb : p ≠ b) (m : Msg) (ho : m.ok) (ft : Fits m) (s : ByteArray) (hs : s.size ≤ 1000) (rb : M.RowAt W b 62 m.row) (hat : M.RowAt W p 25 #[.string s]) :
    Calls Try.prog 48 #[.agg #[.pointer (some ⟨p, 0, none⟩), .pointer none], v, .pointer (some ⟨b, 0, none⟩)] W (DidW b p m.row (cat m s fl) W) := by
  refine (through_list (b := b) (some ⟨p, 0, none⟩) none fl h8 v W hFL hlo (fun k X => M.RowAt X b 62 m.row ∧ M.RowAt X p 25 #[.string (cat m s (fl.take k))] ∧ M.But p W X) (fun _ _ => False) ⟨rb, hat, M.But.refl _ _⟩ (fun k X X' hst hbl => ⟨hst.1.call hbl, hst.2.1.call hbl, hst.2.2.trans (M.But.ofBelow p hbl)⟩) (fun k f hf X u hv hst => ?_)).mono ?_
  · have hc := cat_le m ho.h32 (fl.take k) s
    rw [List.length_take] at hc
    refine (w_step hv m ho ft _ (by omega) hst.1 hst.2.1 hpb).mono ?_
    rintro e X' ⟨rfl, h1, h2, h3⟩
    exact .inl ⟨rfl, ⟨h1, by rw [cat_take hf]; exact h2, hst.2.2.trans h3⟩, Kp.of_butT h3 hst.2.1 rfl⟩
  · rintro e W' (⟨rfl, h1, h2, h3⟩ | ⟨h, _⟩)
    · rw [List.take_length] at h2
      exact ⟨rfl, h1, h2, h3⟩
    · exact h.elim
set_option maxRecDepth 100000 in
theorem enc1 (m : Msg) (ho : m.ok) (hk : 1 ≤ m.kind ∧ m.kind ≤ 9) (wb p b : Nat) (s : ByteArray) (hs : s.size ≤ 1000) (W : World) (rw' : M.RowAt W wb 23 #[.pointer (some ⟨p, 0, none⟩)]) (rb : M.RowAt W b 62 m.row) (rp : M.RowAt W p 25 #[.string s]) (hpb : p ≠ b) :
    Calls Try.prog 45 #[.pointer (some ⟨wb, 0, none⟩), .pointer (some ⟨b, 0, none⟩)] W (DidW b p m.row (s ++ strOfNums (numB m.kind 1)) W) := by
  have c0 := (rw'.cell 0).trans rfl
  have c1 := (rb.cell 0).trans Msg.g0
  have hw : IntKind.u64.wrap m.kind = m.kind := u64_in _ (by omega)
  have num := number_any m.kind 1 ⟨p, 0, none⟩ s W (by omega) (by omega) (by omega) (row_at rp)
  rw [numE_ok (by decide) (by decide) (by omega) (by show m.kind < 256; omega)] at num
  have fin : ∀ w', Below W.heap.size (W.setCell ⟨p, 0, none⟩ (.string (s ++ strOfNums (numB m.kind 1)))) w' → DidW b p m.row (s ++ strOfNums (numB m.kind 1)) W (.returned (.tuple #[])) w' := fun w' hb =>
    ⟨rfl, (but_written hb).row rb (fun e => hpb e.symm), row_written rp hb, but_written hb⟩
  have NUM := Lib.hid num; have FIN := Lib.hid fin
  generalize DidW b p m.row (s ++ strOfNums (numB m.kind 1)) W = DD at *
  generalize m.kind = k at *
  clear num fin rw' rb rp hs hpb hk ho
  go_enter Try.func45, Try.ntmps45
  go_wp2_with fail
  refine (NUM.out).mono ?_
  rintro e w1 ⟨rfl, hb⟩
  have DN := Lib.hid (FIN.out _ hb)
  clear hb
  go_wp2_with fail
  refine (must_ok _).mono ?_
  rintro e w2 ⟨rfl, rfl⟩
  go_wp2
  go_end0
  exact DN.out
set_option maxRecDepth 100000 in
theorem enc2 {lo : Nat} (fl : List Fld) (h8 : fl.length ≤ 8) (v : Value) (m : Msg) (ho : m.ok) (ft : Fits m) (wb lb p b : Nat) (s : ByteArray) (hs : s.size ≤ 1000) (W : World) (hFL : FL lo W v fl) (hlo : lo ≤ W.heap.size) (rw' : M.RowAt W wb 23 #[.pointer (some ⟨p, 0, none⟩)]) (rl : M.RowAt W lb 82 #[v]) (rb : M.RowAt W b 62 m.row) (rp : M.RowAt W p 25 #[.string s]) (hpb : p ≠ b) :
    Calls Try.prog 47 #[.pointer (some ⟨wb, 0, none⟩), .pointer (some ⟨lb, 0, none⟩), .pointer (some ⟨b, 0, none⟩)] W (DidW b p m.row (cat m s fl) W) := by
  have c0 := (rw'.cell 0).trans rfl
  have c1 := (rl.cell 0).trans rfl
  have th := w_through fl h8 v W hFL hlo hpb m ho ft s hs rb rp
  obtain ⟨A, L, C, rfl⟩ : ∃ A L C, v = .slice A L C := by obtain ⟨g, cap, C, hv, _⟩ := hFL; exact ⟨_, _, _, hv⟩
  have TH := Lib.hid (th.mono (R' := fun e w' => e = .returned (.tuple #[]) ∧ DidW b p m.row (cat m s fl) W (.returned (.tuple #[])) w') fun e w' h => ⟨h.1, by obtain rfl := h.1; exact h⟩)
  generalize DidW b p m.row (cat m s fl) W = DD at *
  clear th rw' rl rb rp hs hpb ho ft hFL h8 hlo
  go_enter Try.func47, Try.ntmps47
  go_wp2_with fail
  refine (TH.out).mono ?_
  rintro e w1 ⟨rfl, hd⟩
  have HD := Lib.hid hd
  clear hd
  go_wp2
  go_end0
  exact HD.out
/-- the blocks of Encode, while its steps run -/
structure EB (w w2 : World) (n l : Nat) (R : Array Value) (v : Value) (s : ByteArray) (X : World) : Prop where
  rb : M.RowAt X n 62 R
  rl : M.RowAt X l 82 #[v]
  rp : M.RowAt X (l + 1) 25 #[.string s]
  rw : M.RowAt X (l + 2) 23 #[.pointer (some ⟨l + 1, 0, none⟩)]
  rg : M.RowAt X (l + 3) 1 #[.func (.func 45) #[] #[.pointer (some ⟨l + 2, 0, none⟩), .pointer (some ⟨n, 0, none⟩)], .func (.func 47) #[] #[.pointer (some ⟨l + 2, 0, none⟩), .pointer (some ⟨l, 0, none⟩), .pointer (some ⟨n, 0, none⟩)]]
  ka : ∀ g t C, okT t = true → M.RowAt w2 g t C → M.RowAt X g t C
  bel : Below n w X
  nl : n < l
  wl : w2.heap.size = l
theorem EB.but {w w2 X X' : World} {n l q : Nat} {R : Array Value} {v : Value} {s : ByteArray} (h : EB w w2 n l R v s X) (hq : l + 4 ≤ q) (hb : M.But q X X') : EB w w2 n l R v s X' :=
  have h1 := h.nl
  have h2 := h.wl
  ⟨hb.row h.rb (by omega), hb.row h.rl (by omega), hb.row h.rp (by omega), hb.row h.rw (by omega), hb.row h.rg (by omega), fun g t C ht hr => hb.row (h.ka g t C ht hr) (by have := hr.lt; omega), hb.below h.bel (by omega) (by have := h.rg.lt; omega), h.nl, h.wl⟩
theorem EB.did {w w2 X X' : World} {n l : Nat} {R : Array Value} {v : Value} {s s' : ByteArray} {e : Ending} (h : EB w w2 n l R v s X) (hd : DidW n (l + 1) R s' X e X') : EB w w2 n l R v s' X' ∧ ∀ q, Kp q X X' := by
  obtain ⟨_, h1, h2, h3⟩ := hd
  have hk : ∀ q, Kp q X X' := fun q => Kp.of_butT h3 h.rp rfl
  have hnl := h.nl
  exact ⟨⟨h1, h3.row h.rl (by omega), h2, h3.row h.rw (by omega), h3.row h.rg (by omega), fun g t C ht hr => hk 0 g t C ht (Nat.zero_le _) (h.ka g t C ht hr), h3.below h.bel (by omega) (by have := h.rg.lt; omega), h.nl, h.wl⟩, hk⟩
theorem enters45 : Enters Try.prog 45 := enters_of Try.func45 (by kernel_rfl) rfl
theorem enters47 : Enters Try.prog 47 := enters_of Try.func47 (by kernel_rfl) rfl
def kindB (m : Msg) : ByteArray := ⟨#[]⟩ ++ strOfNums (numB m.kind 1)
/-- the steps of Encode -/
theorem enc_try {w w2 W : World} {n l lo : Nat} {m : Msg} {v : Value} (ho : m.ok) (ft : Fits m) (hkk : 1 ≤ m.kind ∧ m.kind ≤ 9) (fl : List Fld) (h8 : fl.length ≤ 8) (hFL : FL lo w2 v fl) (hlo : lo ≤ w2.heap.size) (h : EB w w2 n l m.row v ⟨#[]⟩ W) :
    Calls Try.prog 44 #[.slice (some ⟨l + 3, 0, none⟩) 2 2] W fun e W' => e = .returned (.int .i64 0) ∧ EB w w2 n l m.row v (cat m (kindB m) fl) W' := by
  have hsz : l + 4 ≤ W.heap.size := h.rg.lt
  have hks : (kindB m).size ≤ 100 := by
    unfold kindB
    rw [ByteArray.size_append, str_size]
    have := num_len m.kind 1 (by decide)
    show 0 + _ ≤ 100
    omega
  refine (try_any (g := l + 3) (n := 2) (cap := 2) (fun k => if k = 0 then 45 else 47) (fun k => if k = 0 then #[.pointer (some ⟨l + 2, 0, none⟩), .pointer (some ⟨n, 0, none⟩)] else #[.pointer (some ⟨l + 2, 0, none⟩), .pointer (some ⟨l, 0, none⟩), .pointer (some ⟨n, 0, none⟩)]) W
    (fun k X => EB w w2 n l m.row v (if k = 0 then ⟨#[]⟩ else if k = 1 then kindB m else cat m (kindB m) fl) X) (fun _ _ => False) (by decide) (fun k hk => ?_) (fun k X hk hX => ?_) (fun k X X' q _ hq hb hX => hX.but (by omega) hb) (fun _ _ _ _ _ _ hf => hf) (fun k hk X hX => ?_) h).mono ?_
  · match k, hk with
    | 0, _ => exact enters45
    | 1, _ => exact enters47
  · match k, hk with
    | 0, _ => exact (hX.rg.cell 0).trans rfl
    | 1, _ => exact (hX.rg.cell 1).trans rfl
  · match k, hk with
    | 0, _ =>
      refine (enc1 m ho hkk (l + 2) (l + 1) n ⟨#[]⟩ (by decide) X hX.rw hX.rb hX.rp (by have := hX.nl; omega)).mono ?_
      rintro e X' hd
      obtain rfl := hd.1
      obtain ⟨h1, h2⟩ := hX.did hd
      exact .inl ⟨rfl, h1, h2 _⟩
    | 1, _ =>
      refine (enc2 fl h8 v m ho ft (l + 2) l (l + 1) n (kindB m) (by omega) X (hFL.kept (fun g t C ht _ hr => hX.ka g t C ht hr)) (by have := hX.rg.lt; have := hX.wl; omega) hX.rw hX.rl hX.rb hX.rp (by have := hX.nl; omega)).mono ?_
      rintro e X' hd
      obtain rfl := hd.1
      obtain ⟨h1, h2⟩ := hX.did hd
      exact .inl ⟨rfl, h1, h2 _⟩
  · rintro e W' (⟨rfl, h1⟩ | ⟨_, _, _, hf⟩)
    · exact ⟨rfl, h1⟩
    · exact hf.elim
end Go.Proofs.Ytiilgkhndfnkgaa
