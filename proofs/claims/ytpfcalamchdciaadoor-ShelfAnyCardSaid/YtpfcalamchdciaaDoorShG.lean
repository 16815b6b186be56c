/- A shelf that was told the secrets of one seed: what Insert does with it, and what the law package's shown of the shelf returns; the condition is that the tables are laid. -/
import Derived.Test.YtpfcalamchdciaaDoorShF
import Derived.Test.YtpfcalamchdciaaDoorSdP
namespace Go.Proofs.YtpfcalamchdciaaDoor
open Go.RowKit
set_option linter.unusedVariables false

def ent (F : Nat → Nat) (x : Nat) : Ent := ⟨true, (x : Nat), walkH F x 16⟩
theorem ent_full (F : Nat → Nat) (x : Nat) : (ent F x).full = true := rfl
theorem ent_num (F : Nat → Nat) (x : Nat) : (ent F x).num = (x : Nat) := rfl
theorem ent_told (F : Nat → Nat) (x : Nat) : (ent F x).told = walkH F x 16 := by unfold ent; dsimp only
theorem dif_eq (T : Nat → Nat) (i : Int) (e : Ent) : dif T i e = (drE i e.num == 0 && !eqH (drH T i e.num) e.told) := by unfold dif; rfl
/-- every full place b has the secret of a number whose place is b -/
def Good (F : Nat → Nat) (E : Nat → Ent) : Prop := ∀ b, (E b).full = true → ∃ x, x < 65536 ∧ E b = ent F x ∧ Sc.pl x = b
theorem good_none (F : Nat → Nat) : Good F fun _ => none0 := fun b h => by cases h
theorem good_put {F : Nat → Nat} {E : Nat → Ent} (h : Good F E) {x : Nat} (hx : x < 65536) : Good F (putE E (Sc.pl x) (ent F x)) := fun b hb => by
  unfold putE at hb ⊢
  by_cases e : b = Sc.pl x
  · rw [if_pos e]; exact ⟨x, hx, rfl, e.symm⟩
  · rw [if_neg e] at hb ⊢; exact h b hb
theorem isN_x {x : Nat} (hx : x < 65536) : isN (x : Int) = true := by simp [isN]; omega
theorem place_x {x : Nat} (hx : x < 65536) : place (x : Int) = Sc.pl x := by unfold place; rw [isN_x hx]; rfl
theorem can_self {x : Nat} (hx : x < 65536) : can (x : Int) (x : Int) = true := by unfold can; rw [isN_x hx]; simp
theorem good_dif {F : Nat → Nat} {E : Nat → Ent} (h : Good F E) {x : Nat} (hx : x < 65536) (p : Nat) : lowB E (dif (walkH F x 16) (x : Int)) p = false := by
  unfold lowB
  rw [low_none (fun b hb => by
    cases hf : (E b).full
    · rfl
    obtain ⟨y, hy, e, _⟩ := h b hf
    rw [e, dif_eq, ent_num, ent_told]
    cases hc : can (x : Int) (y : Int)
    · have e1 : drE (x : Int) (y : Int) = 1 := by unfold drE; rw [hc]; rfl
      rw [e1, show ((1 : Int) == 0) = false by decide, Bool.false_and, Bool.and_false]
    · have e2 : drH (walkH F x 16) (x : Int) (y : Int) = walkH F y 16 := by
        unfold drH; rw [hc, if_pos rfl, place_x hx]; exact derives hx hy hc F
      rw [e2, eqH_self, Bool.not_true, Bool.and_false, Bool.and_false])]
  rfl
theorem good_insR {F : Nat → Nat} {E : Nat → Ent} (h : Good F E) {x : Nat} (hx : x < 65536) : insR E (walkH F x 16) (x : Int) = 0 := by
  unfold insR insO; rw [can_self hx, good_dif h hx]; rfl
theorem good_insE {F : Nat → Nat} {E : Nat → Ent} (h : Good F E) {x : Nat} (hx : x < 65536) : insE E (walkH F x 16) (x : Int) = putE E (Sc.pl x) (ent F x) := by
  unfold insE insO; rw [can_self hx, good_dif h hx, place_x hx]; rfl
theorem ins_good (s : Nat) (E : Nat → Ent) (F : Nat → Nat) (x : Nat) (w : World) (ht : Tabs w) (hz : TzT w) (hF : ∀ j, F j < 256) (hg : Good F E) (hx : x < 65536) (hs : M.RowAt w s 71 (shC E)) :
    Calls Tryd.prog 48 #[.pointer (some ⟨s, 0, none⟩), .int .i64 (x : Nat), .agg (r8 32 (walkH F x 16))] w fun e w' => e = .returned (.int .i64 0) ∧ M.RowAt w' s 71 (shC (putE E (Sc.pl x) (ent F x))) ∧ M.But s w w' := by
  have := insert_any s E (walkH F x 16) (x : Int) w ht hz (walkH_lt hF x 16) hs
  rw [good_insR hg hx, good_insE hg hx] at this
  exact this
theorem mk_nat (F : Nat → Nat) (x : Nat) (w : World) (hF : ∀ j, F j < 256) (hx : x < 65536) :
    Calls Tryd.prog 44 #[.agg (r8 32 F), .int .i64 (x : Nat)] w fun e w' => e = .returned (.tuple #[.agg (r8 32 (walkH F x 16)), .int .i64 0]) ∧ Below w.heap.size w w' := by
  have := rmake_any F (x : Int) w hF
  have e1 : mkH F (x : Int) = walkH F x 16 := by unfold mkH; rw [isN_x hx]; rfl
  have e2 : mkE (x : Int) = 0 := by unfold mkE; rw [isN_x hx]; rfl
  rw [e1, e2] at this
  exact this

theorem KB.but {n : Nat} {w v v' : World} {L : List (Nat × TypeId × Array Value)} {s : Nat} {t : TypeId} {C C' : Array Value} (c : KB n w ((s, t, C) :: L) v) (hne : ∀ x ∈ L, x.1 ≠ s) (hs : n ≤ s) (hb : M.But s v v') (hr : M.RowAt v' s t C') : KB n w ((s, t, C') :: L) v' :=
  ⟨fun x hx => by
    rcases List.mem_cons.1 hx with e | e
    · subst e; exact hr
    · exact hb.row (c.rows x (List.mem_cons_of_mem _ e)) (hne x e), hb.below c.below hs c.ge, Nat.le_trans c.ge hb.size⟩

def ZS : Array Value := shC fun _ => none0
theorem build71 (W : World) : (Instr.build 71 #[]).run Tryd.prog W = .ok (.agg ZS) W := by kernel_rfl
theorem wpList_build {P : Program} {ops : Array Oper} {rest : List Oper} {o : Oper} {a : Act} {w : World} {Q : Exit → Act → World → Prop} (hgd : o.guard = none) (t : TypeId) (ho : o.op = .build t #[]) (Z : Array Value)
    (hz : ∀ W, (Instr.build t #[]).run P W = .ok (.agg Z) W) (h : wpList P ops Q rest (a.put o.dst (.agg Z)) w) : wpList P ops Q (o :: rest) a w :=
  wpList_plain hgd fun _ hK => by
    unfold Oper.wp execOp
    simp only [ho, List.map_toArray, List.map_nil, Sem.run_bind, Sem.run_pure, Result.andThen_ok, hz]
    exact hK _ _ h
def Ek (F : Nat → Nat) : Nat → Nat → Ent
  | 0 => fun _ => none0
  | k + 1 => putE (Ek F k) (Sc.pl (65535 - k)) (ent F (65535 - k))
theorem ek_good (F : Nat → Nat) : ∀ k, Good F (Ek F k)
  | 0 => good_none F
  | k + 1 => good_put (ek_good F k) (by omega)
theorem ek_cnt (F : Nat → Nat) : cnt (Ek F 4) 17 = 3 := by
  have p0 : Sc.pl 65535 = 0 := by decide
  have p1 : Sc.pl 65534 = 1 := by decide
  have p2 : Sc.pl 65533 = 0 := by decide
  have p3 : Sc.pl 65532 = 2 := by decide
  simp [cnt, Ek, putE, p0, p1, p2, p3, ent, none0]
def F7 : Nat → Nat := fun i => if i = 0 then 7 else 0
theorem f7_lt : ∀ j, F7 j < 256 := fun j => by unfold F7; split <;> decide
theorem c7_r8 : (#[.int .u8 7, .int .u8 0, .int .u8 0, .int .u8 0, .int .u8 0, .int .u8 0, .int .u8 0, .int .u8 0, .int .u8 0, .int .u8 0, .int .u8 0, .int .u8 0, .int .u8 0, .int .u8 0, .int .u8 0, .int .u8 0, .int .u8 0, .int .u8 0, .int .u8 0, .int .u8 0, .int .u8 0, .int .u8 0, .int .u8 0, .int .u8 0, .int .u8 0, .int .u8 0, .int .u8 0, .int .u8 0, .int .u8 0, .int .u8 0, .int .u8 0, .int .u8 0] : Array Value) = r8 32 F7 := by rfl
set_option maxRecDepth 100000 in
set_option maxHeartbeats 4000000 in
theorem shshown_any (w : World) (ht : Tabs w) (hz : TzT w) : Calls Tryd.prog 50 #[] w fun e w' => e = .returned (.bool true) ∧ Below w.heap.size w w' := by
  obtain ⟨n, hn⟩ : ∃ n, w.heap.size = n := ⟨_, rfl⟩
  have HN := Lib.hid hn
  have h1n : 1 < n := hn ▸ ht.lt
  have h3n : 3 < n := hn ▸ hz.lt
  have tb := fun v (hb : Below n w v) => ht.below hb h1n
  have tz := fun v (hb : Below n w v) => hz.below hb h3n
  have kb : KB n w [(n, 71, ZS)] (w.alloc (.cells ZS 71)) := hn ▸ (KB.start w).new 71 ZS
  have mk := fun x (hx : x < 65536) v => mk_nat F7 x v f7_lt hx
  rw [← c7_r8] at mk
  have ins := fun k (hk : k < 4) v (kv : KB n w [(n, 71, shC (Ek F7 k))] v) => ins_good n (Ek F7 k) F7 (65535 - k) v (tb v kv.below) (tz v kv.below) f7_lt (ek_good F7 k) (by omega) (kv.row n 71 _ (by simp))
  have len := fun v (kv : KB n w [(n, 71, shC (Ek F7 4))] v) => len_any n (Ek F7 4) v (kv.row n 71 _ (by simp))
  rw [ek_cnt] at len
  have hsucc : ∀ k, shC (putE (Ek F7 k) (Sc.pl (65535 - k)) (ent F7 (65535 - k))) = shC (Ek F7 (k + 1)) := fun k => rfl
  have e0 : ZS = shC (Ek F7 0) := rfl
  obtain ⟨G, hG⟩ : ∃ G : Nat → Array Value, (fun k => shC (Ek F7 k)) = G := ⟨_, rfl⟩
  have hG' : ∀ k, shC (Ek F7 k) = G k := fun k => congrFun hG k
  have ins' := fun k (hk : k < 4) v (kv : KB n w [(n, 71, G k)] v) => ins k hk v ((hG' k).symm ▸ kv)
  simp only [hsucc, hG'] at ins'
  have len' := fun v (kv : KB n w [(n, 71, G 4)] v) => len v ((hG' 4).symm ▸ kv)
  rw [hG'] at e0
  have iD := fun x => r8_info (walkH F7 x 16); have zD := fun x => r8_zero (walkH F7 x 16); have oD := fun x => r8_one (walkH F7 x 16)
  obtain ⟨D, hD⟩ : ∃ D : Nat → Array Value, (fun x => r8 32 (walkH F7 x 16)) = D := ⟨_, rfl⟩
  have hD' : ∀ x, r8 32 (walkH F7 x 16) = D x := fun x => congrFun hD x
  simp only [hD'] at iD zD oD mk ins'
  have MK := Lib.hid mk; have INS := Lib.hid ins'; have LEN := Lib.hid len'
  have bz := build71
  generalize ZS = Z at *
  have E0 := Lib.hid e0
  clear ht hz h1n h3n tb tz mk ins len hsucc ins' len' hG hG' hD hD' e0
  go_enter Tryd.func50, Tryd.ntmps50
  go_wp2_with (refine wpList_build (t := 71) ?_ ?_ Z bz ?_; rfl; rfl)
  go_loopg [2] 4 (fun m i v => ∃ k : Nat, m + k = 4 ∧ i = .int .i64 (65535 - (k : Int)) ∧ KB n w [(n, 71, G k)] v)
  case atStart => exact ⟨0, by omega, by go_num, by rw [← E0.out]; exact kb⟩
  case round =>
    clear kb
    obtain ⟨k, hm, rfl, kb⟩ := hrel
    by_cases hlt : k < 4
    · have iDk := iD (65535 - k); have zDk := zD (65535 - k); have oDk := oD (65535 - k)
      have mk := MK.out (65535 - k) (by omega)
      have ins := INS.out k hlt
      have ex : (((65535 - k : Nat) : Nat) : Int) = 65535 - (k : Int) := by omega
      rw [ex] at mk ins
      have M1 := Lib.hid mk; have I1 := Lib.hid ins
      generalize D (65535 - k) = X at *
      clear mk ins ex
      go_wp2_with fail
      refine (M1.out _).mono ?_
      rintro e w1 ⟨rfl, gq⟩
      have k1 := kb.same gq
      clear gq kb
      obtain ⟨g, VG, UG, hg, hVG, rVG, hUG, kg, geg, ltg⟩ := k1.box 28 (#[.int .u8 0, .int .u8 0, .int .u8 0, .int .u8 0, .int .u8 0, .int .u8 0, .int .u8 0, .int .u8 0, .int .u8 0, .int .u8 0, .int .u8 0, .int .u8 0, .int .u8 0, .int .u8 0, .int .u8 0, .int .u8 0, .int .u8 0, .int .u8 0, .int .u8 0, .int .u8 0, .int .u8 0, .int .u8 0, .int .u8 0, .int .u8 0, .int .u8 0, .int .u8 0, .int .u8 0, .int .u8 0, .int .u8 0, .int .u8 0, .int .u8 0, .int .u8 0]) X
      have Hg := Lib.hid hg; have HVG := Lib.hid hVG; have HUG := Lib.hid hUG
      have hlg : n < g := ltg (n, 71, G k) (by simp)
      have rG := kg.row g 28 X (by simp)
      clear hg hVG hUG k1 ltg
      go_wp2_with (first
        | (rw [Hg.out, HVG.out]; refine wpList_store_row (x := .tmp 3) (y := .tmp 15) (cells := X) (old := Z32) (t := 28) (ty := 28) (g := g) ?_ ?_ ?_ ?_ rVG iDk zDk oDk ?_; rfl; rfl; rfl; rfl; rw [HUG.out])
        | (refine wpList_load_row (x := .tmp 3) (ty := 28) (g := g) (cs := X) (t := 28) (fr := (0, 0)) ?_ ?_ ?_ _ rG und28 rfl iDk ?_; rfl; rfl; rfl)
        | fail)
      have k2 := kg.sub (L' := [(n, 71, G k)]) (by simp)
      refine (I1.out _ k2).mono ?_
      rintro e w2 ⟨rfl, hr, hb⟩
      have k3 := k2.but (fun x hx => by simp at hx) (Nat.le_refl _) hb hr
      clear hr hb k2 kg rVG rG Hg HVG HUG
      go_wp2
      go_roundg (4 - (k + 1))
      case measure => omega
      case rel => exact ⟨k + 1, by omega, by rw [show 65535 - (k : Int) - 1 = 65535 - ((k + 1 : Nat) : Int) by omega], k3⟩
    · obtain rfl : k = 4 := by omega
      go_wp2_with fail
      refine (LEN.out _ kb).mono ?_
      rintro e w1 ⟨rfl, gq⟩
      have k1 := kb.same gq
      go_wp2
      go_ret
      exact ⟨rfl, by rw [HN.out]; exact k1.below⟩
end Go.Proofs.YtpfcalamchdciaaDoor
