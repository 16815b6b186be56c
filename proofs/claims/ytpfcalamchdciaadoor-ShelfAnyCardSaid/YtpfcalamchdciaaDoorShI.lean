/- The walk of ShelfAny; the conditions are that the tables are laid, that arrays of bytes hold bytes, and that the row of numbers is known. -/
import Derived.Test.YtpfcalamchdciaaDoorShR
import Derived.Test.YtpfcalamchdciaaDoorQuietA
import Derived.Test.YtpfcalamchdciaaDoorSeF
namespace Go.Proofs.YtpfcalamchdciaaDoor
open Go.RowKit
set_option linter.unusedVariables false

/-- blocks known whole, and a newer one -/
structure KG (n : Nat) (w : World) (L : List (Nat × TypeId × Array Value)) (t : TypeId) (Z : Array Value) (g : Nat) (v : World) : Prop where
  kb : KB n w ((g, t, Z) :: L) v
  ge : n ≤ g
  lt : ∀ x ∈ L, x.1 < g
section
variable {n g : Nat} {w v v' : World} {L : List (Nat × TypeId × Array Value)} {t : TypeId} {Z : Array Value}
theorem KG.same (c : KG n w L t Z g v) (hb : Below v.heap.size v v') : KG n w L t Z g v' := ⟨c.kb.same hb, c.ge, c.lt⟩
theorem KG.rows (c : KG n w L t Z g v) (x : Nat × TypeId × Array Value) (h : x ∈ L) : v.heap[x.1]? = some (.cells x.2.2 x.2.1 (0, 0)) := c.kb.rows x (List.mem_cons_of_mem _ h)
theorem KG.row (c : KG n w L t Z g v) : v.heap[g]? = some (.cells Z t (0, 0)) := c.kb.rows (g, t, Z) List.mem_cons_self
theorem KG.of (c : KB n w L v) (h : v.heap.size = g) (t : TypeId) (Z : Array Value) : KG n w L t Z g (v.alloc (.cells Z t)) := by
  subst h; exact ⟨c.new t Z, c.ge, fun x hx => c.lt hx⟩
theorem KG.setRow (c : KG n w L t Z g v) (D : Array Value) : KG n w L t D g (v.setRow g D) := ⟨c.kb.setRow (fun x hx => Nat.ne_of_lt (c.lt x hx)) c.ge D, c.ge, c.lt⟩
theorem KG.drew (c : KG n w L t Z g v) : KG n w L t Z g v.drew := ⟨c.kb.drew, c.ge, c.lt⟩
theorem KG.below (c : KG n w L t Z g v) : Below n w v := c.kb.below
end

/-- the shelf after the first k numbers of a row -/
def Ea (F : Nat → Nat) (N : Nat → Nat) : Nat → Nat → Ent
  | 0 => fun _ => none0
  | k + 1 => putE (Ea F N k) (Sc.pl (N k)) (ent F (N k))
section
variable {F N : Nat → Nat}
theorem ea_good (hN : ∀ k, N k < 65536) : ∀ k, Good F (Ea F N k)
  | 0 => good_none F
  | k + 1 => good_put (ea_good hN k) (hN k)
theorem ea_told (hF : ∀ j, F j < 256) : ∀ k b j, (Ea F N k b).told j < 256
  | 0, _, _ => by show 0 < 256; decide
  | k + 1, b, j => by
    show (putE (Ea F N k) (Sc.pl (N k)) (ent F (N k)) b).told j < 256
    unfold putE
    by_cases e : b = Sc.pl (N k)
    · rw [if_pos e, ent_told]; exact walkH_lt hF _ 16 j
    · rw [if_neg e]; exact ea_told hF k b j
theorem ea_look (hN : ∀ k, N k < 65536) (k : Nat) : lkE (Ea F N (k + 1)) ((N k : Nat) : Int) = 0 ∧ lkH (Ea F N (k + 1)) ((N k : Nat) : Int) = walkH F (N k) 16 := by
  refine look_yes (ea_good hN (k + 1)) (hN k) (b := Sc.pl (N k)) (Nat.lt_succ_of_le (Sc.pl_le _)) ?_ ?_
  · show (putE _ _ _ _).full = true
    unfold putE; rw [if_pos rfl]; exact ent_full F _
  · show can (putE (Ea F N k) (Sc.pl (N k)) (ent F (N k)) (Sc.pl (N k))).num _ = true
    unfold putE; rw [if_pos rfl, ent_num]; exact can_self (hN k)
end

set_option maxRecDepth 100000 in
set_option maxHeartbeats 8000000 in
theorem any_walk (F : Nat → Nat) (pa : Option Addr) (len cap : Nat) (zs : List Int) (x : Nat) (w : World) (ht : Tabs w) (hz : TzT w) (hF : ∀ j, F j < 256) (hrow : RowK.IsRow .u16 w pa len cap zs) (hl : len ≤ 40) (hx : x < 65536) :
    Calls Tryd.prog 19 #[.agg (r8 32 F), .slice pa len cap, .int .u16 (x : Nat)] w (Fine w) := by
  obtain ⟨b, off, r1, r2, r3, r4, r5, r6, r7⟩ := hrow.plain
  obtain ⟨n, hn⟩ : ∃ n, w.heap.size = n := ⟨_, rfl⟩
  have HN := Lib.hid hn
  obtain ⟨N, hNd⟩ : ∃ N : Nat → Nat, N = fun j => if j < len then (zs.getD j 0).toNat else 0 := ⟨_, rfl⟩
  have hN : ∀ k, N k < 65536 := fun k => by
    rw [hNd]; show (if k < len then (zs.getD k 0).toNat else 0) < 65536
    split
    · rename_i h
      have hz := RowK.wf_u16 (r7 (zs.getD k 0) (by rw [List.getD_eq_getElem?_getD, List.getElem?_eq_getElem (by omega)]; exact List.getElem_mem _))
      omega
    · decide
  have cell : ∀ j, j < len → pa = some ⟨b, off, none⟩ ∧ ∀ v, Below n w v → v.cell? ⟨b, off + j, none⟩ = some (.int .u16 (N j : Nat)) := fun j hj => by
    have hz := RowK.wf_u16 (r7 (zs.getD j 0) (by rw [List.getD_eq_getElem?_getD, List.getElem?_eq_getElem (by omega)]; exact List.getElem_mem _))
    refine ⟨r2.resolve_left (by omega), fun v hv => ?_⟩
    rw [hv.cell (p := ⟨b, off + j, none⟩) (by show b < n; rw [← hn]; exact r1.resolve_left (by omega)), r6 j hj, hNd]
    show some (Value.int .u16 (zs.getD j 0)) = some (Value.int .u16 ((if j < len then (zs.getD j 0).toNat else 0 : Nat) : Int))
    rw [if_pos hj, Int.toNat_of_nonneg hz.1]
  clear hNd r1 r2 r3 r4 r5 r6 r7 hrow
  have CELL := Lib.hid cell
  have h1n : 1 < n := hn ▸ ht.lt
  have h3n : 3 < n := hn ▸ hz.lt
  have tb := fun v (hb : Below n w v) => ht.below hb h1n
  have tz := fun v (hb : Below n w v) => hz.below hb h3n
  have sh := fun v (hb : Below n w v) => shshown_any v (tb v hb) (tz v hb)
  have kb : KB n w [(n, 28, r8 32 F)] (w.alloc (.cells (r8 32 F) 28)) := hn ▸ (KB.start w).new 28 (r8 32 F)
  have iF := r8_info F
  have mk := fun y (hy : y < 65536) v => mk_nat F y v hF hy
  obtain ⟨C, hC⟩ : ∃ C, r8 32 F = C := ⟨_, rfl⟩
  have ins := fun s k v (hr : M.RowAt v s 71 (shC (Ea F N k))) (hb : Below n w v) => ins_good s (Ea F N k) F (N k) v (tb v hb) (tz v hb) hF (ea_good hN k) (hN k) hr
  have hs1 : ∀ k, shC (putE (Ea F N k) (Sc.pl (N k)) (ent F (N k))) = shC (Ea F N (k + 1)) := fun k => rfl
  simp only [hs1] at ins
  have lk := fun s k v (kv : M.RowAt v s 71 (shC (Ea F N (k + 1)))) (hb : Below n w v) => look_walk s (Ea F N (k + 1)) ((N k : Nat) : Int) (walkH F (N k) 16) 0 v (tb v hb) (tz v hb) (fun b _ j => ea_told hF (k + 1) b j) kv (ea_look hN k).2 (ea_look hN k).1
  have lkx := fun s v (kv : M.RowAt v s 71 (shC (Ea F N len))) (hb : Below n w v) => look_walk s (Ea F N len) (x : Int) (lkH (Ea F N len) (x : Int)) (lkE (Ea F N len) (x : Int)) v (tb v hb) (tz v hb) (fun b _ j => ea_told hF len b j) kv rfl rfl
  have any := look_any (ea_good (F := F) hN len) hx
  have e0 : ZS = shC (Ea F N 0) := rfl
  obtain ⟨G, hG⟩ : ∃ G : Nat → Array Value, (fun k => shC (Ea F N k)) = G := ⟨_, rfl⟩
  have hG' : ∀ k, shC (Ea F N k) = G k := fun k => congrFun hG k
  have iD := fun x => r8_info (walkH F x 16); have zD := fun x => r8_zero (walkH F x 16); have oD := fun x => r8_one (walkH F x 16)
  have eqD := fun z W => r8_eq (walkH F z 16) W
  have mkx := mk x hx
  have eqx := fun W => r8_eq (walkH F x 16) W
  have iX := r8_info (walkH F x 16); have zX := r8_zero (walkH F x 16); have oX := r8_one (walkH F x 16)
  obtain ⟨D, hD⟩ : ∃ D : Nat → Array Value, (fun x => r8 32 (walkH F x 16)) = D := ⟨_, rfl⟩
  have hD' : ∀ x, r8 32 (walkH F x 16) = D x := fun x => congrFun hD x
  have iE := r8_info (fun _ => 0); have zE := r8_zero (fun _ => 0); have oE := r8_one (fun _ => 0)
  have eqE : ∀ W, (Op.equalIn 10000 28 (.agg (r8 32 (fun _ => 0))) (.agg (#[.int .u8 0, .int .u8 0, .int .u8 0, .int .u8 0, .int .u8 0, .int .u8 0, .int .u8 0, .int .u8 0, .int .u8 0, .int .u8 0, .int .u8 0, .int .u8 0, .int .u8 0, .int .u8 0, .int .u8 0, .int .u8 0, .int .u8 0, .int .u8 0, .int .u8 0, .int .u8 0, .int .u8 0, .int .u8 0, .int .u8 0, .int .u8 0, .int .u8 0, .int .u8 0, .int .u8 0, .int .u8 0, .int .u8 0, .int .u8 0, .int .u8 0, .int .u8 0]))).run Tryd.prog W = .ok true W := fun W => r8_eq (fun _ => 0) W
  have hlkx : (lkE (Ea F N len) (x : Int) = 0 ∧ r8 32 (lkH (Ea F N len) (x : Int)) = D x) ∨ (lkE (Ea F N len) (x : Int) = 3 ∧ r8 32 (lkH (Ea F N len) (x : Int)) = r8 32 (fun _ => 0)) := by
    rcases any with ⟨h1, h2⟩ | ⟨h1, h2⟩
    · exact .inl ⟨h1, by rw [h2, hD']⟩
    · exact .inr ⟨h2, by rw [lkH_no h1]⟩
  simp only [hD'] at iD zD oD eqD mk ins lk mkx eqx iX zX oX
  simp only [hG'] at ins lk lkx e0
  generalize lkE (Ea F N len) (x : Int) = xE at *
  generalize r8 32 (lkH (Ea F N len) (x : Int)) = XH at *
  rw [hC] at kb iF mk mkx ⊢
  have MK := Lib.hid mk; have MKX := Lib.hid mkx; have INS := Lib.hid ins; have LK := Lib.hid lk; have LKX := Lib.hid lkx; have SH := Lib.hid sh; have ID := Lib.hid iD; have ZD := Lib.hid zD; have OD := Lib.hid oD; have EQD := Lib.hid eqD; have EQX := Lib.hid eqx; have EQE := Lib.hid eqE; have HLKX := Lib.hid hlkx; have HNN := Lib.hid hN
  have bz := build71
  obtain ⟨V, hV⟩ : ∃ V, w.alloc (.cells C 28) = V := ⟨_, rfl⟩
  rw [hV] at kb
  generalize ZS = Z at *
  have HV := Lib.hid hV; have E00 := Lib.hid e0
  have d1 : decide ((40 : Int) < (len : Int)) = false := by simp; omega
  have d1' : decide (40 < len) = false := by simp; omega
  have qx : IntKind.i64.wrap (x : Int) = x := IntWalk.i64_in _ (by omega)
  have HX := Lib.hid hx
  generalize r8 32 (fun _ => 0) = DE at *
  clear ht hz h1n h3n tb tz sh mk mkx ins lk lkx hs1 any hG hG' hD hD' e0 hC hV hlkx eqx eqE eqD iD zD oD cell hx hN
  go_enter Tryd.func19, Tryd.ntmps19
  go_wp2_with (first | (rw [HV.out]) | fail)
  refine (SH.out _ kb.below).mono ?_
  rintro e w1 ⟨rfl, gq⟩
  have k1 := kb.same gq
  clear gq kb hn
  obtain ⟨s, hs⟩ : ∃ s, w1.heap.size = s := ⟨_, rfl⟩
  have k2 := k1.new 71 Z
  have hns : n < s := hs ▸ k1.lt (x := (n, 28, C)) (by simp)
  rw [hs] at k2
  rw [E00.out] at k2
  clear k1
  obtain ⟨V2, hV2⟩ : ∃ V2, w1.alloc (.cells Z 71) = V2 := ⟨_, rfl⟩
  rw [E00.out] at hV2
  rw [hV2] at k2
  rw [← E00.out] at hV2
  have HV2 := Lib.hid hV2
  clear hV2
  go_wp2_with (first | (refine wpList_build (t := 71) ?_ ?_ Z bz ?_; rfl; rfl) | fail)
  rw [HV2.out]
  clear hs
  clear HV2
  go_loopg [8] len (fun m i v => ∃ k : Nat, m + k = len ∧ i = .int .i64 k ∧ KB n w [(s, 71, G k), (n, 28, C)] v)
  case atStart => exact ⟨0, by omega, rfl, k2⟩
  case round =>
    clear k2
    obtain ⟨k, hm, rfl, kb⟩ := hrel
    have HM := Lib.hid hm
    by_cases hlt : k < len
    · obtain ⟨rfl, cz⟩ := CELL.out k hlt
      have CZ := Lib.hid cz
      have mk := MK.out (N k) (HNN.out k)
      have ins := fun v hr hb => INS.out s k v hr hb
      have lk := fun v hr hb => LK.out s k v hr hb
      have iK := ID.out (N k); have zK := ZD.out (N k); have oK := OD.out (N k); have eqK := EQD.out (N k)
      have hk6 := HNN.out k
      generalize D (N k) = X at *
      generalize N k = y at *
      have qy : IntKind.i64.wrap (y : Int) = y := IntWalk.i64_in _ (by omega)
      have HY := Lib.hid hk6
      have M1 := Lib.hid mk; have I1 := Lib.hid ins; have L1 := Lib.hid lk
      clear mk ins lk cz hm hk6
      obtain ⟨LL, hL⟩ : ∃ LL, [(s, 71, G k), (n, 28, C)] = LL := ⟨_, rfl⟩
      have mC : (n, 28, C) ∈ LL := by rw [← hL]; simp
      have HL := Lib.hid hL
      rw [hL] at kb
      clear hL
      go_wp2_with fail
      refine QA.wp_region_a 10 11 (KB n w LL) (KG n w LL 28 Z32) (KG n w LL 28 X) (by kernel_rfl) (by kernel_rfl) kb.drew ?_
      iterate 10
        (refine QA.wpA_step (by decide) (fun K hK => ?_)
         go_simp
         first
           | (refine hK _ ?_; clear hK K)
           | (refine ⟨?_, hK _ ?_⟩; decide; clear hK K)
           | ((first | (apply Exists.intro; refine ⟨?_, hK _ ?_⟩) | refine ⟨⟨undef, ?_⟩, hK _ ?_⟩)
              first
                | (apply QA.al_p; decide; (focus (intro gx wq hS hq; (cases hS); (first | (have cz := CZ.out _ hq.below) | skip); first | (first | ((with_reducible refine QP.oat_load_row (ty := 28) (x := .tmp 3) (g := n) (t := 28) (cs := C) (fr := (0, 0)) ?_ ?_ _ (hq.rows _ mC) und28 ?_ iF hq); rfl; rfl; rfl)) | (unfold QP.oat; go_simp; first | done | exact ⟨by assumption, rfl⟩ | exact rfl | assumption | (((with_reducible refine (M1.out _).mono ?_); rintro e w' ⟨rfl, gq⟩; exact ⟨rfl, hq.same gq⟩))))))
                | (apply QA.al_o; decide; (first | (apply Or.inl; decide) | (apply Or.inr; (focus (intro wq hq; (first | (have cz := CZ.out _ hq.below) | skip); first | (first | ((with_reducible refine QP.oat_load_row (ty := 28) (x := .tmp 3) (g := n) (t := 28) (cs := C) (fr := (0, 0)) ?_ ?_ _ (hq.rows _ mC) und28 ?_ iF hq); rfl; rfl; rfl)) | (unfold QP.oat; go_simp; first | done | exact ⟨by assumption, rfl⟩ | exact rfl | assumption | (((with_reducible refine (M1.out _).mono ?_); rintro e w' ⟨rfl, gq⟩; exact ⟨rfl, hq.same gq⟩))))))); (first | (apply Or.inl; decide) | (apply Or.inr; apply Or.inl; decide) | (apply Or.inr; apply Or.inr; (focus (intro gx wq hS hq; (cases hS); (first | (have cz := CZ.out _ hq.below) | skip); first | (first | ((with_reducible refine QP.oat_load_row (ty := 28) (x := .tmp 3) (g := n) (t := 28) (cs := C) (fr := (0, 0)) ?_ ?_ _ (hq.rows _ mC) und28 ?_ iF hq); rfl; rfl; rfl)) | (unfold QP.oat; go_simp; first | done | exact ⟨by assumption, rfl⟩ | exact rfl | assumption | (((with_reducible refine (M1.out _).mono ?_); rintro e w' ⟨rfl, gq⟩; exact ⟨rfl, hq.same gq⟩))))))); (first | (apply Or.inl; decide) | (apply Or.inr; apply Or.inl; decide) | (apply Or.inr; apply Or.inr; (focus (intro gx wq hS hq; (cases hS); (first | (have cz := CZ.out _ hq.below) | skip); first | (first | ((with_reducible refine QP.oat_load_row (ty := 28) (x := .tmp 3) (g := n) (t := 28) (cs := C) (fr := (0, 0)) ?_ ?_ _ (hq.rows _ mC) und28 ?_ iF hq); rfl; rfl; rfl)) | (unfold QP.oat; go_simp; first | done | exact ⟨by assumption, rfl⟩ | exact rfl | assumption | (((with_reducible refine (M1.out _).mono ?_); rintro e w' ⟨rfl, gq⟩; exact ⟨rfl, hq.same gq⟩))))))))
              clear hK K))
      refine QA.wpA_alloc (by decide) rfl ?_ ?_
      · intro g _ wq hq hsz
        unfold QP.oat
        go_simp
        exact KG.of hq hsz 28 Z32
      intro gn _
      iterate 2
        (refine QA.wpA_step (by decide) (fun K hK => ?_)
         go_simp
         first
           | (refine hK _ ?_; clear hK K)
           | (refine ⟨?_, hK _ ?_⟩; decide; clear hK K)
           | ((first | (apply Exists.intro; refine ⟨?_, hK _ ?_⟩) | refine ⟨⟨undef, ?_⟩, hK _ ?_⟩)
              first
                | (apply QA.al_p; decide; (focus (intro gx wq hS hq; (cases hS); (skip); first | (((with_reducible refine QP.oat_store_row (ty := 28) (x := .tmp 9) (y := .tmp 41) (g := _) (cells := X) (t := 28) (old := Z32) ?_ ?_ ?_ hq.row iK zK oK (hq.setRow X)); rfl; rfl; rfl)) | (unfold QP.oat; go_simp; first | done | exact ⟨by assumption, rfl⟩ | exact rfl | assumption | (fail)))))
                | (apply QA.al_o; decide; (first | (apply Or.inl; decide) | (apply Or.inr; (focus (intro wq hq; (skip); first | (((with_reducible refine QP.oat_store_row (ty := 28) (x := .tmp 9) (y := .tmp 41) (g := _) (cells := X) (t := 28) (old := Z32) ?_ ?_ ?_ hq.row iK zK oK (hq.setRow X)); rfl; rfl; rfl)) | (unfold QP.oat; go_simp; first | done | exact ⟨by assumption, rfl⟩ | exact rfl | assumption | (fail)))))); (first | (apply Or.inl; decide) | (apply Or.inr; apply Or.inl; decide) | (apply Or.inr; apply Or.inr; (focus (intro gx wq hS hq; (cases hS); (skip); first | (((with_reducible refine QP.oat_store_row (ty := 28) (x := .tmp 9) (y := .tmp 41) (g := _) (cells := X) (t := 28) (old := Z32) ?_ ?_ ?_ hq.row iK zK oK (hq.setRow X)); rfl; rfl; rfl)) | (unfold QP.oat; go_simp; first | done | exact ⟨by assumption, rfl⟩ | exact rfl | assumption | (fail)))))); (first | (apply Or.inl; decide) | (apply Or.inr; apply Or.inl; decide) | (apply Or.inr; apply Or.inr; (focus (intro gx wq hS hq; (cases hS); (skip); first | (((with_reducible refine QP.oat_store_row (ty := 28) (x := .tmp 9) (y := .tmp 41) (g := _) (cells := X) (t := 28) (old := Z32) ?_ ?_ ?_ hq.row iK zK oK (hq.setRow X)); rfl; rfl; rfl)) | (unfold QP.oat; go_simp; first | done | exact ⟨by assumption, rfl⟩ | exact rfl | assumption | (fail)))))))
              clear hK K))
      refine QA.wpA_nil ?_
      rintro g2 rfl wz bz
      have bz' : KB n w [(s, 71, G k), (g2, 28, X), (n, 28, C)] wz := by
        have := bz.kb; rw [← HL.out] at this; exact this.sub (by simp)
      have hgs : s < g2 := bz.lt (s, 71, G k) (by rw [← HL.out]; simp)
      clear kb bz
      have hput : ∀ v v', KB n w [(s, 71, G k), (g2, 28, X), (n, 28, C)] v → M.But s v v' → M.RowAt v' s 71 (G (k + 1)) → KB n w [(s, 71, G (k + 1)), (g2, 28, X), (n, 28, C)] v' := fun v v' kv hb hr => kv.but (fun y hy => by simp at hy; rcases hy with rfl | rfl <;> (show _ ≠ _; omega)) (by omega) hb hr
      have HPUT := Lib.hid hput
      have hrg : ∀ v, KB n w [(s, 71, G k), (g2, 28, X), (n, 28, C)] v → v.heap[g2]? = some (.cells X 28 (0, 0)) := fun v kv => kv.row g2 28 X (by simp)
      have hrg2 : ∀ v, KB n w [(s, 71, G (k + 1)), (g2, 28, X), (n, 28, C)] v → v.heap[g2]? = some (.cells X 28 (0, 0)) := fun v kv => kv.row g2 28 X (by simp)
      have HRG := Lib.hid hrg; have HRG2 := Lib.hid hrg2
      have I2 : ∀ v, KB n w [(s, 71, G k), (g2, 28, X), (n, 28, C)] v → Calls Tryd.prog 48 #[.pointer (some ⟨s, 0, none⟩), .int .i64 (y : Nat), .agg X] v fun e w' => e = .returned (.int .i64 0) ∧ M.RowAt w' s 71 (G (k + 1)) ∧ M.But s v w' := fun v kv => I1.out v (kv.row s 71 (G k) (by simp)) kv.below
      have II := Lib.hid I2
      clear hput hrg hrg2 I2
      go_wp2_with fail
      refine QT.wp_region_p 7 (KB n w [(s, 71, G k), (g2, 28, X), (n, 28, C)]) (KB n w [(s, 71, G (k + 1)), (g2, 28, X), (n, 28, C)]) (by kernel_rfl) (by kernel_rfl) bz'.drew ?_
      iterate 9
        (refine QT.wpQ_step (fun K hK => ?_)
         go_simp
         first
           | (refine hK _ ?_; clear hK K)
           | (refine ⟨?_, hK _ ?_⟩; decide; clear hK K)
           | ((first | (apply Exists.intro; refine ⟨?_, hK _ ?_⟩) | refine ⟨⟨undef, ?_⟩, hK _ ?_⟩)
              first
                | (apply QT.al_p; decide; (focus (intro wq hq; (first | (have cz := CZ.out _ hq.below) | skip); first | (first | ((with_reducible refine QP.oat_load_row (ty := 28) (x := .tmp 9) (g := g2) (t := 28) (cs := X) (fr := (0, 0)) ?_ ?_ _ (HRG.out _ hq) und28 ?_ iK hq); rfl; rfl; rfl) | ((with_reducible refine QP.oat_load_row (ty := 28) (x := .tmp 9) (g := g2) (t := 28) (cs := X) (fr := (0, 0)) ?_ ?_ _ (HRG2.out _ hq) und28 ?_ iK hq); rfl; rfl; rfl)) | (unfold QP.oat; go_simp; first | done | exact ⟨by assumption, rfl⟩ | exact rfl | assumption | (((with_reducible refine (II.out _ hq).mono ?_); rintro e w' ⟨rfl, hr, hb⟩; exact ⟨rfl, HPUT.out _ _ hq hb hr⟩))))))
                | (apply QT.al_dep; decide; decide; (focus (intro wq hq; (first | (have cz := CZ.out _ hq.below) | skip); first | (first | ((with_reducible refine QP.oat_load_row (ty := 28) (x := .tmp 9) (g := g2) (t := 28) (cs := X) (fr := (0, 0)) ?_ ?_ _ (HRG.out _ hq) und28 ?_ iK hq); rfl; rfl; rfl) | ((with_reducible refine QP.oat_load_row (ty := 28) (x := .tmp 9) (g := g2) (t := 28) (cs := X) (fr := (0, 0)) ?_ ?_ _ (HRG2.out _ hq) und28 ?_ iK hq); rfl; rfl; rfl)) | (unfold QP.oat; go_simp; first | done | exact ⟨by assumption, rfl⟩ | exact rfl | assumption | (((with_reducible refine (II.out _ hq).mono ?_); rintro e w' ⟨rfl, hr, hb⟩; exact ⟨rfl, HPUT.out _ _ hq hb hr⟩))))))
                | (apply QT.al_bef; decide; decide; (focus (intro wq hq; (first | (have cz := CZ.out _ hq.below) | skip); first | (first | ((with_reducible refine QP.oat_load_row (ty := 28) (x := .tmp 9) (g := g2) (t := 28) (cs := X) (fr := (0, 0)) ?_ ?_ _ (HRG.out _ hq) und28 ?_ iK hq); rfl; rfl; rfl) | ((with_reducible refine QP.oat_load_row (ty := 28) (x := .tmp 9) (g := g2) (t := 28) (cs := X) (fr := (0, 0)) ?_ ?_ _ (HRG2.out _ hq) und28 ?_ iK hq); rfl; rfl; rfl)) | (unfold QP.oat; go_simp; first | done | exact ⟨by assumption, rfl⟩ | exact rfl | assumption | (((with_reducible refine (II.out _ hq).mono ?_); rintro e w' ⟨rfl, hr, hb⟩; exact ⟨rfl, HPUT.out _ _ hq hb hr⟩))))))
                | (apply QT.al_ok; decide; (focus (intro wq hq; (first | (have cz := CZ.out _ hq.below) | skip); first | (first | ((with_reducible refine QP.oat_load_row (ty := 28) (x := .tmp 9) (g := g2) (t := 28) (cs := X) (fr := (0, 0)) ?_ ?_ _ (HRG.out _ hq) und28 ?_ iK hq); rfl; rfl; rfl) | ((with_reducible refine QP.oat_load_row (ty := 28) (x := .tmp 9) (g := g2) (t := 28) (cs := X) (fr := (0, 0)) ?_ ?_ _ (HRG2.out _ hq) und28 ?_ iK hq); rfl; rfl; rfl)) | (unfold QP.oat; go_simp; first | done | exact ⟨by assumption, rfl⟩ | exact rfl | assumption | (((with_reducible refine (II.out _ hq).mono ?_); rintro e w' ⟨rfl, hr, hb⟩; exact ⟨rfl, HPUT.out _ _ hq hb hr⟩))))); (focus (intro wq hq; (first | (have cz := CZ.out _ hq.below) | skip); first | (first | ((with_reducible refine QP.oat_load_row (ty := 28) (x := .tmp 9) (g := g2) (t := 28) (cs := X) (fr := (0, 0)) ?_ ?_ _ (HRG.out _ hq) und28 ?_ iK hq); rfl; rfl; rfl) | ((with_reducible refine QP.oat_load_row (ty := 28) (x := .tmp 9) (g := g2) (t := 28) (cs := X) (fr := (0, 0)) ?_ ?_ _ (HRG2.out _ hq) und28 ?_ iK hq); rfl; rfl; rfl)) | (unfold QP.oat; go_simp; first | done | exact ⟨by assumption, rfl⟩ | exact rfl | assumption | (((with_reducible refine (II.out _ hq).mono ?_); rintro e w' ⟨rfl, hr, hb⟩; exact ⟨rfl, HPUT.out _ _ hq hb hr⟩))))))
              clear hK K))
      refine QT.wpQ_nil ?_
      intro wy by2
      clear bz' wz
      have cz := CZ.out _ by2.below
      go_wp2_with fail
      refine (L1.out _ (by2.row s 71 (G (k + 1)) (by simp)) by2.below).mono ?_
      rintro e w3 ⟨rfl, gq⟩
      have k3 := by2.same gq
      clear gq by2
      obtain ⟨g3, V3, U3, hg3, hV3, rV3, hU3, kk3, geg3, ltg3⟩ := k3.box 28 (#[.int .u8 0, .int .u8 0, .int .u8 0, .int .u8 0, .int .u8 0, .int .u8 0, .int .u8 0, .int .u8 0, .int .u8 0, .int .u8 0, .int .u8 0, .int .u8 0, .int .u8 0, .int .u8 0, .int .u8 0, .int .u8 0, .int .u8 0, .int .u8 0, .int .u8 0, .int .u8 0, .int .u8 0, .int .u8 0, .int .u8 0, .int .u8 0, .int .u8 0, .int .u8 0, .int .u8 0, .int .u8 0, .int .u8 0, .int .u8 0, .int .u8 0, .int .u8 0]) X
      have Hg3 := Lib.hid hg3; have HV3 := Lib.hid hV3; have HU3 := Lib.hid hU3
      clear hg3 hV3 hU3 k3 ltg3
      have r1 := kk3.row g3 28 X (by simp)
      have r2 := kk3.row g2 28 X (by simp)
      have k4 := kk3.sub (L' := [(s, 71, G (k + 1)), (n, 28, C)]) (by simp)
      have K4 := Lib.hid k4
      clear k4 kk3
      go_wp2_with (first
        | (rw [Hg3.out, HV3.out]; refine wpList_store_row (x := .tmp 11) (y := .tmp 60) (cells := X) (old := Z32) (t := 28) (ty := 28) (g := g3) ?_ ?_ ?_ ?_ rV3 iK zK oK ?_; rfl; rfl; rfl; rfl; rw [HU3.out])
        | (refine wpList_load_row_g (x := .tmp 11) (ty := 28) (g := g3) (cs := X) (t := 28) (fr := (0, 0)) ?_ ?_ ?_ _ r1 und28 rfl iK ?_; rfl; rfl; rfl)
        | (refine wpList_load_row_g (x := .tmp 9) (ty := 28) (g := g2) (cs := X) (t := 28) (fr := (0, 0)) ?_ ?_ ?_ _ r2 und28 rfl iK ?_; rfl; rfl; rfl)
        | fail)
      go_roundg (len - (k + 1))
      case measure => have := HM.out; omega
      case rel => exact ⟨k + 1, by have := HM.out; omega, by go_num, K4.out⟩
    · obtain rfl : k = len := by omega
      have eqx := EQX.out; have eqE := EQE.out
      have lkx := fun v hr hb => LKX.out s v hr hb
      have hcase := HLKX.out
      generalize D x = DX at *
      clear hm HM
      rcases hcase with ⟨h1, h2⟩ | ⟨h1, h2⟩
      · rw [h1, h2] at lkx
        have LXX := Lib.hid lkx
        clear lkx h1 h2
        go_wp2_with fail
        refine (LXX.out _ (kb.row s 71 (G k) (by simp)) kb.below).mono ?_
        rintro e w3 ⟨rfl, gq⟩
        have k3 := kb.same gq
        clear gq kb
        obtain ⟨g1, V1, U1, hg1, hV1, rV1, hU1, kk1, geg1, ltg1⟩ := k3.box 28 (#[.int .u8 0, .int .u8 0, .int .u8 0, .int .u8 0, .int .u8 0, .int .u8 0, .int .u8 0, .int .u8 0, .int .u8 0, .int .u8 0, .int .u8 0, .int .u8 0, .int .u8 0, .int .u8 0, .int .u8 0, .int .u8 0, .int .u8 0, .int .u8 0, .int .u8 0, .int .u8 0, .int .u8 0, .int .u8 0, .int .u8 0, .int .u8 0, .int .u8 0, .int .u8 0, .int .u8 0, .int .u8 0, .int .u8 0, .int .u8 0, .int .u8 0, .int .u8 0]) DX
        have Hg1 := Lib.hid hg1; have HV1 := Lib.hid hV1; have HU1 := Lib.hid hU1
        clear hg1 hV1 hU1 k3 ltg1
        have rC := kk1.row n 28 C (by simp)
        go_wp2_with (first
          | (rw [Hg1.out, HV1.out]; refine wpList_store_row (x := .tmp 13) (y := .tmp 74) (cells := DX) (old := Z32) (t := 28) (ty := 28) (g := g1) ?_ ?_ ?_ ?_ rV1 iX zX oX ?_; rfl; rfl; rfl; rfl; rw [HU1.out])
          | (refine wpList_load_row (x := .tmp 3) (ty := 28) (g := n) (cs := C) (t := 28) (fr := (0, 0)) ?_ ?_ ?_ _ rC und28 rfl iF ?_; rfl; rfl; rfl)
          | fail)
        refine (MKX.out _).mono ?_
        rintro e w4 ⟨rfl, gq⟩
        have k4 := kk1.same gq
        clear gq kk1 rV1 Hg1 HV1 HU1 rC
        obtain ⟨g2, V2, U2, hg2, hV2, rV2, hU2, kk2, geg2, ltg2⟩ := k4.box 28 (#[.int .u8 0, .int .u8 0, .int .u8 0, .int .u8 0, .int .u8 0, .int .u8 0, .int .u8 0, .int .u8 0, .int .u8 0, .int .u8 0, .int .u8 0, .int .u8 0, .int .u8 0, .int .u8 0, .int .u8 0, .int .u8 0, .int .u8 0, .int .u8 0, .int .u8 0, .int .u8 0, .int .u8 0, .int .u8 0, .int .u8 0, .int .u8 0, .int .u8 0, .int .u8 0, .int .u8 0, .int .u8 0, .int .u8 0, .int .u8 0, .int .u8 0, .int .u8 0]) DX
        have Hg2 := Lib.hid hg2; have HV2 := Lib.hid hV2; have HU2 := Lib.hid hU2
        clear hg2 hV2 hU2 k4 ltg2
        have r1 := kk2.row g1 28 DX (by simp)
        have r2 := kk2.row g2 28 DX (by simp)
        go_wp2_with (first
          | (rw [Hg2.out, HV2.out]; refine wpList_store_row (x := .tmp 15) (y := .tmp 81) (cells := DX) (old := Z32) (t := 28) (ty := 28) (g := g2) ?_ ?_ ?_ ?_ rV2 iX zX oX ?_; rfl; rfl; rfl; rfl; rw [HU2.out])
          | (refine wpList_load_row_g (x := .tmp 13) (ty := 28) (g := g1) (cs := DX) (t := 28) (fr := (0, 0)) ?_ ?_ ?_ _ r1 und28 rfl iX ?_; rfl; rfl; rfl)
          | (refine wpList_load_row_g (x := .tmp 15) (ty := 28) (g := g2) (cs := DX) (t := 28) (fr := (0, 0)) ?_ ?_ ?_ _ r2 und28 rfl iX ?_; rfl; rfl; rfl)
          | fail)
        go_ret
        exact ⟨rfl, by rw [HN.out]; exact kk2.below⟩
      · rw [h1, h2] at lkx
        have LXX := Lib.hid lkx
        clear lkx h1 h2
        go_wp2_with fail
        refine (LXX.out _ (kb.row s 71 (G k) (by simp)) kb.below).mono ?_
        rintro e w3 ⟨rfl, gq⟩
        have k3 := kb.same gq
        clear gq kb
        obtain ⟨g1, V1, U1, hg1, hV1, rV1, hU1, kk1, geg1, ltg1⟩ := k3.box 28 (#[.int .u8 0, .int .u8 0, .int .u8 0, .int .u8 0, .int .u8 0, .int .u8 0, .int .u8 0, .int .u8 0, .int .u8 0, .int .u8 0, .int .u8 0, .int .u8 0, .int .u8 0, .int .u8 0, .int .u8 0, .int .u8 0, .int .u8 0, .int .u8 0, .int .u8 0, .int .u8 0, .int .u8 0, .int .u8 0, .int .u8 0, .int .u8 0, .int .u8 0, .int .u8 0, .int .u8 0, .int .u8 0, .int .u8 0, .int .u8 0, .int .u8 0, .int .u8 0]) DE
        have Hg1 := Lib.hid hg1; have HV1 := Lib.hid hV1; have HU1 := Lib.hid hU1
        clear hg1 hV1 hU1 k3 ltg1
        have rC := kk1.row n 28 C (by simp)
        go_wp2_with (first
          | (rw [Hg1.out, HV1.out]; refine wpList_store_row (x := .tmp 13) (y := .tmp 74) (cells := DE) (old := Z32) (t := 28) (ty := 28) (g := g1) ?_ ?_ ?_ ?_ rV1 iE zE oE ?_; rfl; rfl; rfl; rfl; rw [HU1.out])
          | (refine wpList_load_row (x := .tmp 3) (ty := 28) (g := n) (cs := C) (t := 28) (fr := (0, 0)) ?_ ?_ ?_ _ rC und28 rfl iF ?_; rfl; rfl; rfl)
          | fail)
        refine (MKX.out _).mono ?_
        rintro e w4 ⟨rfl, gq⟩
        have k4 := kk1.same gq
        clear gq kk1 rV1 Hg1 HV1 HU1 rC
        obtain ⟨g2, V2, U2, hg2, hV2, rV2, hU2, kk2, geg2, ltg2⟩ := k4.box 28 (#[.int .u8 0, .int .u8 0, .int .u8 0, .int .u8 0, .int .u8 0, .int .u8 0, .int .u8 0, .int .u8 0, .int .u8 0, .int .u8 0, .int .u8 0, .int .u8 0, .int .u8 0, .int .u8 0, .int .u8 0, .int .u8 0, .int .u8 0, .int .u8 0, .int .u8 0, .int .u8 0, .int .u8 0, .int .u8 0, .int .u8 0, .int .u8 0, .int .u8 0, .int .u8 0, .int .u8 0, .int .u8 0, .int .u8 0, .int .u8 0, .int .u8 0, .int .u8 0]) DX
        have Hg2 := Lib.hid hg2; have HV2 := Lib.hid hV2; have HU2 := Lib.hid hU2
        clear hg2 hV2 hU2 k4 ltg2
        have r1 := kk2.row g1 28 DE (by simp)
        have r2 := kk2.row g2 28 DX (by simp)
        go_wp2_with (first
          | (rw [Hg2.out, HV2.out]; refine wpList_store_row (x := .tmp 15) (y := .tmp 81) (cells := DX) (old := Z32) (t := 28) (ty := 28) (g := g2) ?_ ?_ ?_ ?_ rV2 iX zX oX ?_; rfl; rfl; rfl; rfl; rw [HU2.out])
          | (refine wpList_load_row_g (x := .tmp 13) (ty := 28) (g := g1) (cs := DE) (t := 28) (fr := (0, 0)) ?_ ?_ ?_ _ r1 und28 rfl iE ?_; rfl; rfl; rfl)
          | (refine wpList_load_row_g (x := .tmp 15) (ty := 28) (g := g2) (cs := DX) (t := 28) (fr := (0, 0)) ?_ ?_ ?_ _ r2 und28 rfl iX ?_; rfl; rfl; rfl)
          | fail)
        go_ret
        exact ⟨rfl, by rw [HN.out]; exact kk2.below⟩

theorem any_long (F : Nat → Nat) (pa : Option Addr) (len cap : Nat) (x : Int) (w : World) (ht : Tabs w) (hz : TzT w) (hl : ¬ len ≤ 40) : Calls Tryd.prog 19 #[.agg (r8 32 F), .slice pa len cap, .int .u16 x] w (Fine w) := by
  obtain ⟨n, hn⟩ : ∃ n, w.heap.size = n := ⟨_, rfl⟩
  have HN := Lib.hid hn
  have h1n : 1 < n := hn ▸ ht.lt
  have h3n : 3 < n := hn ▸ hz.lt
  have sh := fun v (hb : Below n w v) => shshown_any v (ht.below hb h1n) (hz.below hb h3n)
  have SH := Lib.hid sh
  have kb : KB n w [(n, 28, r8 32 F)] (w.alloc (.cells (r8 32 F) 28)) := hn ▸ (KB.start w).new 28 (r8 32 F)
  have d1 : decide ((40 : Int) < (len : Int)) = true := by simp; omega
  have d1' : decide (40 < len) = true := by simp; omega
  generalize r8 32 F = C at *
  clear sh ht hz
  go_enter Tryd.func19, Tryd.ntmps19
  go_wp2_with fail
  refine (SH.out _ kb.below).mono ?_
  rintro e w1 ⟨rfl, gq⟩
  have k1 := kb.same gq
  go_wp2
  go_ret
  exact ⟨rfl, by rw [HN.out]; exact k1.below⟩
theorem walk_ShelfAny (z0 : List Int) (l0 : z0.length = 32) (w0 : ∀ z ∈ z0, (Lit.int .u8 z).wf = true) (b1 : Option Addr) (len1 cap1 : Nat) (z1 : List Int) {W : World} (w1 : RowK.IsRow .u16 W b1 len1 cap1 z1) (a2 : Int) (w2 : (Lit.int .u16 a2).wf = true) (hL : laidMetH Tryd.prog Rows.shelfAnyRow.laid W) :
    Calls Tryd.prog 19 #[.agg (z0.map (Value.int .u8)).toArray, .slice b1 len1 cap1, .int .u16 a2] W (Fine W) := by
  obtain ⟨P, hP, e1⟩ := r8_of z0 l0 w0
  rw [e1]
  have ht := tabs_of hL (by simp [Rows.shelfAnyRow]) (by simp [Rows.shelfAnyRow])
  have hz := tz_of hL (by simp [Rows.shelfAnyRow])
  have h2 := RowK.wf_u16 w2
  obtain ⟨x, rfl⟩ := Int.eq_ofNat_of_zero_le h2.1
  by_cases hl : len1 ≤ 40
  · exact any_walk P b1 len1 cap1 z1 x W ht hz hP w1 hl (by omega)
  · exact any_long P b1 len1 cap1 x W ht hz hl
end Go.Proofs.YtpfcalamchdciaaDoor
