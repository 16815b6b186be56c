/- What the law package's shown of layer 16 returns; no conditions. -/
import Derived.Test.YtblbhnlmbmffkaaPoE
namespace Go.Proofs.Ytblbhnlmbmffkaa
open Go.RowKit
set_option linter.unusedVariables false

theorem lt_refl (x : Lt) (W : World) : (Op.equalIn 10000 33 (.agg x.row) (.agg x.row)).run Try.prog W = .ok true W := by
  unfold Lt.row
  simp [go_sem, Op.eqFields, Program.fieldsOf, Try.underlying33]
/-- letters sent one behind the other -/
def snd (nb : Nat) (E : Nat → Bx) (f : Nat → Lt) : Nat → Nat → Bx
  | 0 => E
  | i + 1 => sendB nb (snd nb E f i) (f i)
theorem snd_ok {nb : Nat} {E : Nat → Bx} {f : Nat → Lt} (h : ∀ k, BxOk (E k)) : ∀ i k, BxOk (snd nb E f i k)
  | 0 => h
  | i + 1 => send_ok (snd_ok h i)
def fS : Nat → Lt := fun i => ⟨0, 0, (i : Nat), ⟨#[]⟩⟩
def E0 : Nat → Bx := fun _ => bx0
theorem s_send : ∀ i, i < 8 → sendR 1 (snd 1 E0 fS i) 0 = 0 := by decide
theorem s_take : takeR 1 (snd 1 E0 fS 8) 0 = 0 := by decide
theorem s_val : takeV 1 (snd 1 E0 fS 8) 0 = lt0 := by rfl
theorem s_len : lenR 1 (takeE 1 (snd 1 E0 fS 8) 0) 0 = 7 := by decide
theorem s_room : roomR 1 (takeE 1 (snd 1 E0 fS 8) 0) 0 = 1 := by decide
theorem sizeBut {g : Nat} {w w' : World} (h : M.But g w w') : w.heap.size ≤ w'.heap.size := h.size

set_option maxRecDepth 100000 in
set_option maxHeartbeats 4000000 in
theorem shown_any (w : World) : Calls Try.prog 7 #[] w fun e w' => e = .returned (.bool true) ∧ Below w.heap.size w w' := by
  obtain ⟨n, hn⟩ : ∃ n, w.heap.size = n := ⟨_, rfl⟩
  have nw := new_yes 1 (by decide) (by decide) w
  rw [hn] at nw ⊢
  have NW := Lib.hid nw; have HN := Lib.hid hn
  have ok := fun i => snd_ok (nb := 1) (E := E0) (f := fS) (fun k => ok0) i
  have send := fun i (hi : i < 8) v (c : Pt (n + 1) n 1 (snd 1 E0 fS i) v) => send_any c (fS i)
  have hto : ∀ i, (fS i).to = 0 := fun i => rfl
  have send : ∀ i, i < 8 → ∀ v, Pt (n + 1) n 1 (snd 1 E0 fS i) v → Calls Try.prog 9 #[.pointer (some ⟨n + 1, 0, none⟩), .agg #[.int .i64 0, .int .i64 0, .int .i64 (i : Nat), .string ⟨#[]⟩]] v fun e v' => e = .returned (.int .i64 0) ∧ Pt (n + 1) n 1 (snd 1 E0 fS (i + 1)) v' ∧ M.But n v v' := fun i hi v c => by
    refine (send i hi v c).mono ?_
    rintro e v' ⟨rfl, hr, hb⟩
    exact ⟨by rw [hto, s_send i hi], c.call hb hr (send_ok (ok i)), hb⟩
  have SEND := Lib.hid send
  have take := fun v (c : Pt (n + 1) n 1 (snd 1 E0 fS 8) v) => takep_any c 0
  rw [s_take, s_val] at take
  have take2 : ∀ v, Pt (n + 1) n 1 (snd 1 E0 fS 8) v → Calls Try.prog 10 #[.pointer (some ⟨n + 1, 0, none⟩), .int .i64 0] v fun e v' => e = .returned (.tuple #[.agg lt0.row, .int .i64 0]) ∧ Pt (n + 1) n 1 (takeE 1 (snd 1 E0 fS 8) 0) v' ∧ M.But n v v' := fun v c => by
    refine (take v c).mono ?_
    rintro e v' ⟨rfl, hr, hb⟩
    exact ⟨rfl, c.call hb hr (take_okE (ok 8)), hb⟩
  have TAKE := Lib.hid take2
  have len := fun v (c : Pt (n + 1) n 1 (takeE 1 (snd 1 E0 fS 8) 0) v) => len_any c 0
  have room := fun v (c : Pt (n + 1) n 1 (takeE 1 (snd 1 E0 fS 8) 0) v) => room_any c 0
  rw [s_len] at len
  rw [s_room] at room
  have LEN := Lib.hid len; have ROOM := Lib.hid room
  have hrow0 : lt0.row = #[.int .i64 0, .int .i64 0, .int .i64 0, .string ⟨#[]⟩] := rfl
  rw [hrow0] at TAKE
  generalize takeE 1 (snd 1 E0 fS 8) 0 = E9 at *
  have e00 : snd 1 E0 fS 0 = fun _ => bx0 := rfl
  clear nw hn ok send hto take take2 len room hrow0
  go_enter Try.func7, Try.ntmps7
  go_wp2_with fail
  refine (NW.out).mono ?_
  rintro e w1 ⟨rfl, pt, hb⟩
  rw [← e00] at pt
  clear e00
  go_wp2
  go_loopg [2] 8 (fun m i v => ∃ k : Nat, m + k = 8 ∧ i = .int .i64 k ∧ Pt (n + 1) n 1 (snd 1 E0 fS k) v ∧ Below n w v)
  case atStart => exact ⟨0, by omega, rfl, pt, hb⟩
  case round =>
    clear pt hb
    obtain ⟨k, hm, rfl, pt, hb⟩ := hrel
    by_cases hlt : k < 8
    · have send := SEND.out k hlt _ pt
      have S1 := Lib.hid send
      have HM := Lib.hid hm
      have hsz := pt.ltB
      clear send hm
      go_wp2_with fail
      refine (S1.out).mono ?_
      rintro e w2 ⟨rfl, pt2, hb2⟩
      have b2 := hb2.below hb (Nat.le_refl _) (by omega)
      clear hb2 hb pt
      go_wp2
      go_roundg (8 - (k + 1))
      case measure => have := HM.out; omega
      case rel => exact ⟨k + 1, by omega, by go_num, pt2, b2⟩
    · obtain rfl : k = 8 := by omega
      have hsz := pt.ltB
      go_wp2_with fail
      refine (TAKE.out _ pt).mono ?_
      rintro e w2 ⟨rfl, pt2, hb2⟩
      have b2 := hb2.below hb (Nat.le_refl _) (by omega)
      clear hb2 hb pt
      go_wp2_with fail
      have hs2 := pt2.ltB
      refine (LEN.out _ (pt2.alloc _)).mono ?_
      rintro e w3 ⟨rfl, rfl⟩
      go_wp2_with fail
      refine (ROOM.out _ (pt2.alloc _)).mono ?_
      rintro e w4 ⟨rfl, gq⟩
      go_wp2
      go_ret
      exact ⟨rfl, (b2.alloc (by omega) _).trans (gq.mono (by simp; omega))⟩
end Go.Proofs.Ytblbhnlmbmffkaa
