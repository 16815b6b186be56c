/- The steps by which a task acts: move, list; the condition is that the blocks are known. -/
import Derived.Test.YtnnnbgndbmcffaaSrH
namespace Go.Proofs.Ytnnnbgndbmcffaa
open Go.RowKit
set_option linter.unusedVariables false

theorem mov_both {p B mb n cap : Nat} {f : Nat → Int} {l : Res} {w : World} (h : Pu p B mb n cap f l w) (a b x : Int) (hx : 0 ≤ x) :
    Calls Try.prog 38 #[.pointer (some ⟨p, 0, none⟩), .int .i64 a, .int .i64 b, .int .u64 x] w fun e w' => e = .returned (.int .i64 (movE n f a b x)) ∧ Pu p B mb n cap (if movE n f a b x = 0 then movF f a.toNat b.toNat x else f) l w' ∧ Bt [B, mb] w w' := by
  by_cases hE : movE n f a b x = 0
  · rw [if_pos hE, hE]
    unfold movE at hE
    cases ha : inP n a
    · rw [ha] at hE; cases hE
    · cases hb : inP n b
      · rw [ha, hb] at hE; cases hE
      · rw [ha, hb, if_pos (by rfl)] at hE
        obtain ⟨i, hi, rfl⟩ := in_of ha
        obtain ⟨j, hj, rfl⟩ := in_of hb
        rw [Int.toNat_natCast] at hE
        by_cases e0 : x = 0
        · rw [if_pos e0] at hE; cases hE
        · rw [if_neg e0] at hE
          by_cases e2 : f i < x
          · rw [if_pos e2] at hE; cases hE
          · exact mov_yes h hi hj (show 0 < x by omega) (by omega)
  · rw [if_neg hE]
    refine (mov_no h a b x hx hE).mono ?_
    rintro e w' ⟨rfl, rfl⟩
    exact ⟨rfl, h, Bt.refl _ _⟩
/-- what a task that acts leaves -/
def ActP (b tk pu B mb cap n : Nat) (h : Nat → Int) (ts ds : Value) (i : Nat) (fr to am : Int) (steps : Value) (dn : List Nat) (f' : Nat → Int) (er' : Int) (T : World → Value → Prop) (w : World) (e : Ending) (w' : World) : Prop :=
  e = .returned (.int .i64 0) ∧ ∃ ds' tov', TB b tk pu n h ts ds' i fr to am er' steps tov' true (dn ++ [i]) w' ∧ Pu pu B mb n cap f' [] w' ∧ T w' tov' ∧ Bt (B :: mb :: tk :: b :: ds.ownBlock.toList) w w' ∧ (ds'.ownBlock = ds.ownBlock ∨ ∀ g, ds'.ownBlock = some g → w.heap.size ≤ g)
theorem Bt.mono {s s' : List Nat} {w w' : World} (h : Bt s w w') (hs : ∀ g ∈ s, g ∈ s') : Bt s' w w' := ⟨h.os, h.tape, h.output, h.size, fun k hk hn => h.block k hk (fun e => hn (hs k e))⟩
theorem owns_bt {s : List Nat} {w w' : World} (d : Bt s w w') {base : Nat} {e : TypeId} {size : Nat} {v : Value} {n : Nat} {xs : List Value} (ho : w.ownsRow base e size v n xs) (hv : ∀ g, v.ownBlock = some g → g ∉ s) : w'.ownsRow base e size v n xs := by
  refine ⟨ho.1, ?_⟩
  rcases ho.2 with hn | ⟨g, cap, cur, rfl, hb, hgg, rest⟩
  · exact .inl hn
  · exact .inr ⟨g, cap, cur, rfl, hb, d.row hgg (hv g rfl), rest⟩
section
variable {b tk pu n : Nat} {h : Nat → Int} {ts ds : Value} {id fr to am er : Int} {steps told : Value} {acted : Bool} {dn : List Nat} {u v : World}
theorem TB.bt {s : List Nat} (c : TB b tk pu n h ts ds id fr to am er steps told acted dn u) (d : Bt s u v) (h1 : tk ∉ s) (h2 : b ∉ s) (h3 : ∀ g, ds.ownBlock = some g → g ∉ s) : TB b tk pu n h ts ds id fr to am er steps told acted dn v :=
  ⟨d.row c.rt h1, d.row c.rb h2, owns_bt d c.hd h3, c.n1, c.n2⟩
theorem TB.setEr (c : TB b tk pu n h ts ds id fr to am er steps told acted dn u) (x : Int) : TB b tk pu n h ts ds id fr to am x steps told acted dn (u.setCell ⟨tk, 7, none⟩ (.int .i64 x)) :=
  ⟨by have := c.rt.set 7 (.int .i64 x); exact this, c.rb.far (p := ⟨tk, 7, none⟩) c.n1 _, c.hd.kept (row := some tk) (but_grown ((M.But.refl tk u).set (p := ⟨tk, 7, none⟩) (.inl rfl) _)) (by
    cases hd : ds.ownBlock with
    | none => exact .inl rfl
    | some g => exact .inr (by have := (c.n2 g hd).1; simpa using this)), c.n1, c.n2⟩
theorem TB.setTold (c : TB b tk pu n h ts ds id fr to am er steps told acted dn u) (x : Value) : TB b tk pu n h ts ds id fr to am er steps x acted dn (u.setCell ⟨tk, 8, none⟩ x) :=
  ⟨by have := c.rt.set 8 x; exact this, c.rb.far (p := ⟨tk, 8, none⟩) c.n1 _, c.hd.kept (row := some tk) (but_grown ((M.But.refl tk u).set (p := ⟨tk, 8, none⟩) (.inl rfl) _)) (by
    cases hd : ds.ownBlock with
    | none => exact .inl rfl
    | some g => exact .inr (by have := (c.n2 g hd).1; simpa using this)), c.n1, c.n2⟩
end
set_option maxRecDepth 100000 in
set_option maxHeartbeats 4000000 in
theorem tmove_any {b tk pu B mb cap n : Nat} {h : Nat → Int} {ts ds : Value} (i : Nat) {fr to am er : Int} {steps tov : Value} {acted : Bool} {dn : List Nat} {f : Nat → Int} {w : World} (c : TB b tk pu n h ts ds i fr to am er steps tov acted dn w) (p : Pu pu B mb n cap f [] w) (hl : dn.length ≤ 100) (ham : 0 ≤ am)
    (h1 : tk ≠ B ∧ tk ≠ mb ∧ tk ≠ pu) (h2 : b ≠ B ∧ b ≠ mb ∧ b ≠ pu) (h3 : ∀ g, ds.ownBlock = some g → g ≠ B ∧ g ≠ mb ∧ g ≠ pu) :
    Calls Try.prog 73 #[.pointer (some ⟨tk, 0, none⟩)] w (ActP b tk pu B mb cap n h ts ds i fr to am steps dn (if movE n f fr to am = 0 then movF f fr.toNat to.toNat am else f) (movE n f fr to am) (fun _ v => v = tov) w) := by
  have fa : ∀ u, QC.Dr w u → u.cell? ⟨tk, 0, none⟩ = some (.pointer (some ⟨b, 0, none⟩)) ∧ u.cell? ⟨b, 0, none⟩ = some (.pointer (some ⟨pu, 0, none⟩)) ∧ u.cell? ⟨tk, 2, none⟩ = some (.int .i64 fr) ∧ u.cell? ⟨tk, 3, none⟩ = some (.int .i64 to) ∧ u.cell? ⟨tk, 4, none⟩ = some (.int .u64 am) := fun u d =>
    ⟨((d.row c.rt).cell 0).trans rfl, ((d.row c.rb).cell 0).trans rfl, ((d.row c.rt).cell 2).trans rfl, ((d.row c.rt).cell 3).trans rfl, ((d.row c.rt).cell 4).trans rfl⟩
  have mv : ∀ u, QC.Dr w u → _ := fun u d => mov_both (p.same d.below) fr to am ham
  have ac : ∀ u v, QC.Dr w u → Bt [B, mb] u v → _ := fun u v d hb => act_any b tk pu n h ts ds i fr to am (movE n f fr to am) steps tov acted dn _ (((c.dr d).bt hb (by simp [h1.1, h1.2.1]) (by simp [h2.1, h2.2.1]) (fun g hg => by simp [(h3 g hg).1, (h3 g hg).2.1])).setEr (movE n f fr to am)) hl
  have st : ∀ u v, QC.Dr w u → Bt [B, mb] u v → (∃ y, v.cell? ⟨tk, 7, none⟩ = some y) ∧ v.frozen? ⟨tk, 7, none⟩ = false := fun u v d hb => by
    have r := ((c.dr d).bt hb (by simp [h1.1, h1.2.1]) (by simp [h2.1, h2.2.1]) (fun g hg => by simp [(h3 g hg).1, (h3 g hg).2.1])).rt
    exact ⟨⟨_, (r.cell 7).trans rfl⟩, r.frozen _⟩
  have fin : ∀ u v w', QC.Dr w u → Pu pu B mb n cap (if movE n f fr to am = 0 then movF f fr.toNat to.toNat am else f) [] v → Bt [B, mb] u v → Acted b tk pu n h ts ds i fr to am (movE n f fr to am) steps tov dn (v.setCell ⟨tk, 7, none⟩ (.int .i64 (movE n f fr to am))) w' →
      ActP b tk pu B mb cap n h ts ds i fr to am steps dn (if movE n f fr to am = 0 then movF f fr.toNat to.toNat am else f) (movE n f fr to am) (fun _ v => v = tov) w (.returned (.int .i64 0)) w' := fun u v w' d hp hb ⟨ds', t', b', g'⟩ => by
    have bs : Bt (B :: mb :: tk :: b :: ds.ownBlock.toList) w (v.setCell ⟨tk, 7, none⟩ (.int .i64 (movE n f fr to am))) :=
      ((Bt.ofBelow _ d.below).trans (hb.mono (by intro g hg; simp at hg ⊢; rcases hg with e | e <;> simp [e]))).set (p := ⟨tk, 7, none⟩) (by simp) _
    refine ⟨rfl, ds', tov, t', (hp.bt ((Bt.refl [tk] v).set (p := ⟨tk, 7, none⟩) (by simp) (.int .i64 (movE n f fr to am))) (by simp [Ne.symm h1.2.2]) (by simp [Ne.symm h1.1]) (by simp [Ne.symm h1.2.1])).bt b' ?_ ?_ ?_, rfl, bs.trans (b'.mono (by intro g hg; simp at hg ⊢; rcases hg with e | e | e <;> simp [e])), ?_⟩
    · simp only [List.mem_cons, Option.mem_toList]
      rintro (e | e | e)
      · exact h1.2.2 e.symm
      · exact h2.2.2 e.symm
      · exact (h3 _ e).2.2 rfl
    · simp only [List.mem_cons, Option.mem_toList]
      rintro (e | e | e)
      · exact h1.1 e.symm
      · exact h2.1 e.symm
      · exact (h3 _ e).1 rfl
    · simp only [List.mem_cons, Option.mem_toList]
      rintro (e | e | e)
      · exact h1.2.1 e.symm
      · exact h2.2.1 e.symm
      · exact (h3 _ e).2.1 rfl
    · rcases g' with e | e
      · exact .inl e
      · refine .inr fun g hg => ?_
        have h4 := e g hg
        have h5 : w.heap.size ≤ v.heap.size := by rw [← d.size]; exact hb.size
        simp [World.setCell] at h4; omega
  have FA := Lib.hid fa; have MV := Lib.hid mv; have AC := Lib.hid ac; have ST := Lib.hid st; have FIN := Lib.hid fin
  generalize (if movE n f fr to am = 0 then movF f fr.toNat to.toNat am else f) = f' at *
  generalize movE n f fr to am = ev at *
  clear c p hl ham h1 h2 h3 fa mv ac st fin
  go_enter Try.func73, Try.ntmps73
  go_wp2
  refine QC.wp_region_d [20, 23] [0, 1, 2, 3, 4, 5, 6, 7, 8, 9, 10, 11, 12, 13, 14, 15, 16, 17, 18, 19, 20, 21, 22, 23] (by kernel_rfl) (by kernel_rfl) (fun u d => ?_)
  obtain ⟨y0, y1, y2, y3, y4⟩ := FA.out u d
  have MV1 := Lib.hid (MV.out u d)
  iterate 20
    (first
     | (apply QC.wpC_load
        (focus rfl)
        (focus decide)
        (focus rfl)
        (focus rfl)
        (focus rfl)
        (focus (assumption))
        (focus (intro u hu; go_simp))
        intro K hK
        go_simp
        refine hK _ ?_
        clear hK K)
     | (apply QC.wpC_pure
        (focus rfl)
        (focus decide)
        intro K hK
        go_simp
        first
         | (refine hK _ ?_; clear hK K)
         | (apply Exists.intro
            refine ⟨fun u => ?_, hK _ ?_⟩
            (focus (unfold QP.oat; go_simp; first | done | exact ⟨rfl, rfl⟩ | exact rfl))
            clear hK K)))
  apply QC.wpC_eff
  (focus rfl)
  (focus decide)
  go_wp2_with fail
  refine (MV1.out).mono ?_
  rintro e v ⟨rfl, hp, hb⟩
  obtain ⟨⟨z, z0⟩, z1⟩ := ST.out u v d hb
  have AC1 := Lib.hid (AC.out u v d hb)
  have FIN1 := Lib.hid (FIN.out u v)
  have HP := Lib.hid hp; have HB := Lib.hid hb; have HD := Lib.hid d
  clear y0 y1 y2 y3 y4 hp hb d MV MV1 AC ST FA FIN
  go_wp2
  refine QC.eff_ok rfl ?_ ?_
  · (repeat (first | exact QC.obl_nil | refine QC.obl_is (by assumption) ?_ | (apply QC.obl_dep; (focus decide))))
  iterate 2
    (first
     | (apply QC.wpC_load
        (focus rfl)
        (focus decide)
        (focus rfl)
        (focus rfl)
        (focus rfl)
        (focus (assumption))
        (focus (intro u hu; go_simp))
        intro K hK
        go_simp
        refine hK _ ?_
        clear hK K)
     | (apply QC.wpC_pure
        (focus rfl)
        (focus decide)
        intro K hK
        go_simp
        first
         | (refine hK _ ?_; clear hK K)
         | (apply Exists.intro
            refine ⟨fun u => ?_, hK _ ?_⟩
            (focus (unfold QP.oat; go_simp; first | done | exact ⟨rfl, rfl⟩ | exact rfl))
            clear hK K)))
  apply QC.wpC_eff
  (focus rfl)
  (focus decide)
  go_wp2
  refine QC.eff_ok rfl ?_ (QC.wpC_nil ?_)
  · (repeat (first | exact QC.obl_nil | refine QC.obl_is (by assumption) ?_ | (apply QC.obl_dep; (focus decide))))
  clear z0 z1
  go_wp2_with fail
  refine (AC1.out).mono ?_
  rintro e w' ⟨rfl, ha⟩
  have ha := Lib.hid ha
  go_wp2
  go_ret
  exact FIN1.out _ HD.out HP.out HB.out ha.out
/-- a row of balances made since -/
def NewTold (m : Nat) (l : List Int) (w' : World) (v : Value) : Prop := ∃ g c, v = .slice (some ⟨g, 0, none⟩) l.length c ∧ m ≤ g ∧ w'.ownsRow 0 23 1 v l.length (l.map (Value.int .u64))
set_option maxRecDepth 100000 in
set_option maxHeartbeats 4000000 in
theorem tlist_any {b tk pu B mb cap n : Nat} {h : Nat → Int} {ts ds : Value} (i : Nat) {fr to am er : Int} {steps tov : Value} {acted : Bool} {dn : List Nat} {f : Nat → Int} {w : World} (c : TB b tk pu n h ts ds i fr to am er steps tov acted dn w) (p : Pu pu B mb n cap f [] w) (hl : dn.length ≤ 100)
    (h1 : tk ≠ B ∧ tk ≠ mb ∧ tk ≠ pu) (h2 : b ≠ B ∧ b ≠ mb ∧ b ≠ pu) (h3 : ∀ g, ds.ownBlock = some g → g ≠ B ∧ g ≠ mb ∧ g ≠ pu) :
    Calls Try.prog 74 #[.pointer (some ⟨tk, 0, none⟩)] w (ActP b tk pu B mb cap n h ts ds i fr to am steps dn f er (NewTold w.heap.size ((List.range n).map f)) w) := by
  have x0 : w.cell? ⟨tk, 0, none⟩ = some (.pointer (some ⟨b, 0, none⟩)) := (c.rt.cell 0).trans rfl
  have ba := balances_any p b h ts ds c.rb
  have tks := c.rt.lt
  have bs := c.rb.lt
  have dss := fun g hg => (c.hd.lt g hg).2
  have cb : ∀ v, Below w.heap.size w v → TB b tk pu n h ts ds i fr to am er steps tov acted dn v := fun v hv => c.bt (Bt.ofBelow [] hv) (by simp) (by simp) (by simp)
  have st : ∀ v, Below w.heap.size w v → (∃ y, v.cell? ⟨tk, 8, none⟩ = some y) ∧ v.frozen? ⟨tk, 8, none⟩ = false := fun v hv => ⟨⟨_, ((cb v hv).rt.cell 8).trans rfl⟩, (cb v hv).rt.frozen _⟩
  have ac : ∀ v g, Below w.heap.size w v → _ := fun v g hv => act_any b tk pu n h ts ds i fr to am er steps (.slice (some ⟨g, 0, none⟩) n n) acted dn _ ((cb v hv).setTold (.slice (some ⟨g, 0, none⟩) n n)) hl
  have fin : ∀ v g w', Below w.heap.size w v → w.heap.size ≤ g → v.ownsRow 0 23 1 (.slice (some ⟨g, 0, none⟩) n n) n (((List.range n).map f).map (Value.int .u64)) → Acted b tk pu n h ts ds i fr to am er steps (.slice (some ⟨g, 0, none⟩) n n) dn (v.setCell ⟨tk, 8, none⟩ (.slice (some ⟨g, 0, none⟩) n n)) w' →
      ActP b tk pu B mb cap n h ts ds i fr to am steps dn f er (NewTold w.heap.size ((List.range n).map f)) w (.returned (.int .i64 0)) w' := fun v g w' hv hg ho ⟨ds', t', b', g'⟩ => by
    have b1 : Bt (B :: mb :: tk :: b :: ds.ownBlock.toList) w (v.setCell ⟨tk, 8, none⟩ (.slice (some ⟨g, 0, none⟩) n n)) := (Bt.ofBelow _ hv).set (p := ⟨tk, 8, none⟩) (by simp) _
    have bw : Bt (B :: mb :: tk :: b :: ds.ownBlock.toList) w w' := b1.trans (b'.mono (by intro g hg; simp at hg ⊢; rcases hg with e | e | e <;> simp [e]))
    have bp : Bt (tk :: b :: ds.ownBlock.toList) w w' := ((Bt.ofBelow _ hv).set (p := ⟨tk, 8, none⟩) (by simp) _).trans b'
    refine ⟨rfl, ds', _, t', p.bt bp ?_ ?_ ?_, ⟨g, n, by simp, hg, ?_⟩, bw, ?_⟩
    · simp only [List.mem_cons, Option.mem_toList]
      rintro (e | e | e)
      · exact h1.2.2 e.symm
      · exact h2.2.2 e.symm
      · exact (h3 _ e).2.2 rfl
    · simp only [List.mem_cons, Option.mem_toList]
      rintro (e | e | e)
      · exact h1.1 e.symm
      · exact h2.1 e.symm
      · exact (h3 _ e).1 rfl
    · simp only [List.mem_cons, Option.mem_toList]
      rintro (e | e | e)
      · exact h1.2.1 e.symm
      · exact h2.2.1 e.symm
      · exact (h3 _ e).2.1 rfl
    · have hb : Bt (tk :: b :: ds.ownBlock.toList) v w' := ((Bt.refl _ v).set (p := ⟨tk, 8, none⟩) (by simp) _).trans b'
      have := owns_bt hb ho (fun k hk => by
        simp [Value.ownBlock] at hk
        subst hk
        simp only [List.mem_cons, Option.mem_toList]
        rintro (e | e | e)
        · omega
        · omega
        · have := dss _ e; omega)
      simpa using this
    · rcases g' with e | e
      · exact .inl e
      · refine .inr fun k hk => ?_
        have h4 := e k hk
        have h5 := hv.size
        simp [World.setCell] at h4; omega
  have BA := Lib.hid ba; have ST := Lib.hid st; have AC := Lib.hid ac; have FIN := Lib.hid fin
  clear c p hl h1 h2 h3 ba tks bs dss cb st ac fin
  go_enter Try.func74, Try.ntmps74
  go_wp2_with fail
  refine (BA.out).mono ?_
  rintro e v ⟨g, rfl, hg, ho, hb⟩
  obtain ⟨⟨z, z0⟩, z1⟩ := ST.out v hb
  have AC1 := Lib.hid (AC.out v g hb)
  have FIN1 := Lib.hid (fun w' => FIN.out v g w' hb hg ho)
  clear x0 BA hg ho hb ST AC FIN
  go_wp2_with fail
  clear z0 z1
  refine (AC1.out).mono ?_
  rintro e w' ⟨rfl, ha⟩
  have ha := Lib.hid ha
  go_wp2
  go_ret
  exact FIN1.out _ ha.out
end Go.Proofs.Ytnnnbgndbmcffaa
