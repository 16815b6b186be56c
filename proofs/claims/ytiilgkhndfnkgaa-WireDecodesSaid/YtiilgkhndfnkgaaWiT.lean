/- Decode: the message of any bytes, or its error; the condition is the bound of the document. -/
import Derived.Test.YtiilgkhndfnkgaaWiS
namespace Go.Proofs.Ytiilgkhndfnkgaa
open Go.RowKit Go.Shelf
set_option linter.unusedVariables false

/-- the first byte, what is behind it -/
def dk (s : ByteArray) : Int := rdN s 1
def dr (s : ByteArray) : ByteArray := rdS s 1
/-- bytes are a message -/
def DecOk (s : ByteArray) (m : Msg) : Prop := 0 < s.size ∧ ∃ fl s', fieldsOf (dk s) = some fl ∧ runs (Msg.none (dk s), dr s) fl = some (m, s') ∧ s'.size = 0 ∧ May m
/-- bytes are none, and why -/
def DecBad (s : ByteArray) (ev : Int) : Prop :=
  (s.size = 0 ∧ ev = 10) ∨ (0 < s.size ∧ fieldsOf (dk s) = none ∧ ev = 70) ∨ (0 < s.size ∧ ∃ fl, fieldsOf (dk s) = some fl ∧ ((runs (Msg.none (dk s), dr s) fl = none ∧ ev = 10) ∨
    ∃ m s', runs (Msg.none (dk s), dr s) fl = some (m, s') ∧ ((s'.size ≠ 0 ∧ ev = 11) ∨ (s'.size = 0 ∧ ¬ May m ∧ ev = 1))))
def StD (w : World) (n : Nat) (s : ByteArray) : Nat → World → Prop
  | 0, X => DB w n (Msg.none 0).row (.slice none 0 0) s X
  | 1, X => 0 < s.size ∧ DB w n (Msg.none (dk s)).row (.slice none 0 0) (dr s) X
  | 2, X => 0 < s.size ∧ ∃ fl v, fieldsOf (dk s) = some fl ∧ DB w n (Msg.none (dk s)).row v (dr s) X ∧ FL 0 X v fl
  | 3, X => 0 < s.size ∧ ∃ fl q v, fieldsOf (dk s) = some fl ∧ runs (Msg.none (dk s), dr s) fl = some q ∧ q.1.ok ∧ DB w n q.1.row v q.2 X
  | 4, X => 0 < s.size ∧ ∃ fl q v, fieldsOf (dk s) = some fl ∧ runs (Msg.none (dk s), dr s) fl = some q ∧ q.1.ok ∧ q.2.size = 0 ∧ DB w n q.1.row v q.2 X
  | _, X => ∃ m v r, DecOk s m ∧ m.ok ∧ DB w n m.row v r X
theorem enters50 : Enters Try.prog 50 := enters_of Try.func50 (by kernel_rfl) rfl
theorem enters51 : Enters Try.prog 51 := enters_of Try.func51 (by kernel_rfl) rfl
theorem enters52 : Enters Try.prog 52 := enters_of Try.func52 (by kernel_rfl) rfl
theorem enters53 : Enters Try.prog 53 := enters_of Try.func53 (by kernel_rfl) rfl
theorem enters54 : Enters Try.prog 54 := enters_of Try.func54 (by kernel_rfl) rfl
def fkD : Nat → FuncId
  | 0 => 50
  | 1 => 51
  | 2 => 52
  | 3 => 53
  | _ => 54
def capD (n : Nat) : Nat → Array Value
  | 0 => #[.pointer (some ⟨n + 4, 0, none⟩), .pointer (some ⟨n + 1, 0, none⟩)]
  | 1 => #[.pointer (some ⟨n + 1, 0, none⟩), .pointer (some ⟨n + 2, 0, none⟩)]
  | 2 => #[.pointer (some ⟨n + 4, 0, none⟩), .pointer (some ⟨n + 2, 0, none⟩), .pointer (some ⟨n + 1, 0, none⟩)]
  | 3 => #[.pointer (some ⟨n + 4, 0, none⟩)]
  | _ => #[.pointer (some ⟨n + 1, 0, none⟩)]
theorem StD.db {w X : World} {n k : Nat} {s : ByteArray} (h : StD w n s k X) : ∃ R v r, DB w n R v r X := by
  match k, h with
  | 0, h => exact ⟨_, _, _, h⟩
  | 1, h => exact ⟨_, _, _, h.2⟩
  | 2, h => obtain ⟨_, fl, v, _, h, _⟩ := h; exact ⟨_, _, _, h⟩
  | 3, h => obtain ⟨_, fl, q, v, _, _, _, h⟩ := h; exact ⟨_, _, _, h⟩
  | 4, h => obtain ⟨_, fl, q, v, _, _, _, _, h⟩ := h; exact ⟨_, _, _, h⟩
  | k + 5, h => obtain ⟨m, v, r, _, _, h⟩ := h; exact ⟨_, _, _, h⟩
theorem dk_ok (s : ByteArray) : (Msg.none (dk s)).ok := by
  have h0 : 0 ≤ dk s := rdN_nonneg s 1
  have h1 : dk s < 256 := rdN_lt s 1
  exact ⟨rfl, fun x hx => z_in hx, by show _ ≤ dk s; omega, by show dk s ≤ _; omega, y0, y1, y0, y2, y0, y2, y3, y4, y3, y4⟩
theorem dr_le (s : ByteArray) : (dr s).size ≤ s.size := rdS_le' _ _
/-- the steps of Decode -/
theorem dec_try {w W : World} {n : Nat} {s : ByteArray} (hs : s.size ≤ 100000) (h : DB w n (Msg.none 0).row (.slice none 0 0) s W) :
    Calls Try.prog 44 #[.slice (some ⟨n + 5, 0, none⟩) 5 5] W fun e W' => (e = .returned (.int .i64 0) ∧ ∃ m v r, DecOk s m ∧ m.ok ∧ DB w n m.row v r W') ∨ (∃ ev, e = .returned (.int .i64 ev) ∧ (ev == 0) = false ∧ DecBad s ev ∧ DX w n W') := by
  have hsz : n + 6 ≤ W.heap.size := h.rg.lt
  have hr := dr_le s
  refine (try_any (g := n + 5) (n := 5) (cap := 5) fkD (capD n) W (StD w n s) (fun ev X => DecBad s ev ∧ DX w n X) (by decide) (fun k hk => ?_) (fun k X hk hX => ?_) (fun k X X' q hk hq hb hX => ?_) (fun ev X X' q hq hb hX => ⟨hX.1, hX.2.but (by omega) hb⟩) (fun k hk X hX => ?_) h).mono ?_
  · match k, hk with
    | 0, _ => exact enters50
    | 1, _ => exact enters51
    | 2, _ => exact enters52
    | 3, _ => exact enters53
    | 4, _ => exact enters54
  · obtain ⟨R, v, r, hd⟩ := hX.db
    match k, hk with
    | 0, _ => exact (hd.rg.cell 0).trans rfl
    | 1, _ => exact (hd.rg.cell 1).trans rfl
    | 2, _ => exact (hd.rg.cell 2).trans rfl
    | 3, _ => exact (hd.rg.cell 3).trans rfl
    | 4, _ => exact (hd.rg.cell 4).trans rfl
  · rcases hk with rfl | rfl
    · exact DB.but hX (by omega) hb
    · obtain ⟨m, v, r, h1, h2, h3⟩ := hX
      exact ⟨m, v, r, h1, h2, h3.but (by omega) hb⟩
  · match k, hk with
    | 0, _ =>
      have hX : DB w n (Msg.none 0).row (.slice none 0 0) s X := hX
      refine (dec1 hX hs).mono ?_
      rintro e X' (⟨h1, rfl, h2, h3⟩ | ⟨h1, rfl, h3⟩)
      · exact .inl ⟨rfl, ⟨h1, h2⟩, h3.kp hX.rb hX.rp rfl rfl⟩
      · exact .inr ⟨10, rfl, rfl, ⟨.inl ⟨h1, rfl⟩, hX.dx2 h3⟩, h3.kp hX.rb hX.rp rfl rfl⟩
    | 1, _ =>
      obtain ⟨h0, hd⟩ := hX
      refine (dec2 (dk s) hd).mono ?_
      rintro e X' (⟨fl, v', h1, rfl, h2, h3, h4⟩ | ⟨h1, rfl, h4⟩)
      · exact .inl ⟨rfl, ⟨h0, fl, v', h1, h2, h3⟩, Kp.of_butT h4 hd.rl rfl⟩
      · exact .inr ⟨70, rfl, rfl, ⟨.inr (.inl ⟨h0, h1, rfl⟩), h4.row hd.r0 (by omega), h4.below hd.bel (by omega) (by have := hd.rg.lt; omega)⟩, Kp.of_butT h4 hd.rl rfl⟩
    | 2, _ =>
      obtain ⟨h0, fl, v, h1, hd, hfl⟩ := hX
      refine (dec3 (Msg.none (dk s)) (dk_ok s) (dr s) (by omega) hd fl (fields_len h1) hfl).mono ?_
      rintro e X' (⟨rfl, q, h2, h3, h4, _, h5⟩ | ⟨rfl, h2, h5⟩)
      · exact .inl ⟨rfl, ⟨h0, fl, q, v, h1, h2, h4, h3⟩, h5.kp hd.rb hd.rp rfl rfl⟩
      · exact .inr ⟨10, rfl, rfl, ⟨.inr (.inr ⟨h0, fl, h1, .inl ⟨h2, rfl⟩⟩), hd.dx2 h5⟩, h5.kp hd.rb hd.rp rfl rfl⟩
    | 3, _ =>
      obtain ⟨h0, fl, q, v, h1, h2, h3, hd⟩ := hX
      refine (dec4 hd).mono ?_
      rintro e X' ⟨rfl, ⟨h4, rfl⟩ | ⟨h4, rfl⟩⟩
      · exact .inl ⟨rfl, ⟨h0, fl, q, v, h1, h2, h3, h4, hd⟩, Kp.refl _ _⟩
      · exact .inr ⟨11, rfl, rfl, ⟨.inr (.inr ⟨h0, fl, h1, .inr ⟨q.1, q.2, h2, .inl ⟨h4, rfl⟩⟩⟩), hd.dx⟩, Kp.refl _ _⟩
    | 4, _ =>
      obtain ⟨h0, fl, q, v, h1, h2, h3, h4, hd⟩ := hX
      refine (dec5 q.1 h3 hd).mono ?_
      rintro e X' ⟨hb, ⟨h5, rfl⟩ | ⟨h5, rfl⟩⟩
      · exact .inl ⟨rfl, ⟨q.1, v, q.2, ⟨h0, fl, q.2, h1, h2, h4, h5⟩, h3, hd.same hb⟩, Kp.of_below hb⟩
      · exact .inr ⟨1, rfl, rfl, ⟨.inr (.inr ⟨h0, fl, h1, .inr ⟨q.1, q.2, h2, .inr ⟨h4, h5, rfl⟩⟩⟩), (hd.same hb).dx⟩, Kp.of_below hb⟩
  · rintro e W' (⟨rfl, h1⟩ | ⟨ev, rfl, h1, h2⟩)
    · exact .inl ⟨rfl, h1⟩
    · exact .inr ⟨ev, rfl, h1, h2⟩
end Go.Proofs.Ytiilgkhndfnkgaa
