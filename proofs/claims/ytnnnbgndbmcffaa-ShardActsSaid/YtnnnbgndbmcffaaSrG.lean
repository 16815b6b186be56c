/- act: a task that has acted is noted; the condition is that the blocks are known. -/
import Derived.Test.YtnnnbgndbmcffaaSrF
namespace Go.Proofs.Ytnnnbgndbmcffaa
open Go.RowKit
set_option linter.unusedVariables false

theorem but_grown {g : Nat} {w w' : World} (h : M.But g w w') : w.grownBy w' (some g) := ⟨h.os, h.tape, h.output, h.size, fun k hk hne => h.block k hk (fun e => hne (by rw [e]))⟩
theorem below_grown {w w' : World} (h : Below w.heap.size w w') (row : Option Nat) : w.grownBy w' row := ⟨h.os, h.tape, h.output, h.size, fun k hk _ => h.block k hk⟩
theorem row_grown {w w' : World} {row : Option Nat} {g : Nat} {t : TypeId} {cs : Array Value} (hg : w.grownBy w' row) (h : M.RowAt w g t cs) (hn : some g ≠ row) : M.RowAt w' g t cs := by
  have hl := h.lt
  unfold M.RowAt at *; rw [hg.block g hl hn]; exact h
theorem Bt.ofGrown {w w' : World} {row : Option Nat} {s : List Nat} (hg : w.grownBy w' row) (hs : ∀ g, row = some g → g ∈ s) : Bt s w w' := ⟨hg.os, hg.tape, hg.output, hg.size, fun k hk hn => hg.block k hk (fun e => hn (hs k e.symm))⟩
theorem info3 : (Try.prog.info? 3).map (fun i => (i.zero, i.size, i.bytes)) = some (some (.int .i64 0), 1, 8) := by kernel_rfl
/-- a task's block, a bank's block and the row of what is done -/
structure TB (b tk pu n : Nat) (h : Nat → Int) (ts ds : Value) (id fr to am er : Int) (steps told : Value) (acted : Bool) (dn : List Nat) (u : World) : Prop where
  rt : M.RowAt u tk 136 (taskR b id fr to am steps acted er told)
  rb : M.RowAt u b 141 (bankR pu n h ts ds)
  hd : u.ownsRow 0 3 1 ds dn.length (dn.map fun i : Nat => Value.int .i64 i)
  n1 : tk ≠ b
  n2 : ∀ g, ds.ownBlock = some g → g ≠ tk ∧ g ≠ b
section
variable {b tk pu n : Nat} {h : Nat → Int} {ts ds : Value} {id fr to am er : Int} {steps told : Value} {acted : Bool} {dn : List Nat} {u v : World}
theorem TB.cells (c : TB b tk pu n h ts ds id fr to am er steps told acted dn u) : u.cell? ⟨tk, 0, none⟩ = some (.pointer (some ⟨b, 0, none⟩)) ∧ u.cell? ⟨tk, 1, none⟩ = some (.int .i64 id) ∧ u.cell? ⟨b, 7, none⟩ = some ds ∧ u.frozen? ⟨b, 7, none⟩ = false ∧ u.cell? ⟨tk, 6, none⟩ = some (.bool acted) ∧ u.frozen? ⟨tk, 6, none⟩ = false :=
  ⟨(c.rt.cell 0).trans rfl, (c.rt.cell 1).trans rfl, (c.rb.cell 7).trans rfl, c.rb.frozen _, (c.rt.cell 6).trans rfl, c.rt.frozen _⟩
theorem TB.dr (c : TB b tk pu n h ts ds id fr to am er steps told acted dn u) (d : QC.Dr u v) : TB b tk pu n h ts ds id fr to am er steps told acted dn v :=
  ⟨d.row c.rt, d.row c.rb, c.hd.kept (below_grown (w := u) (w' := v) d.below none) (by cases ds.ownBlock <;> simp), c.n1, c.n2⟩
theorem TB.alloc (c : TB b tk pu n h ts ds id fr to am er steps told acted dn u) (o : Obj) : TB b tk pu n h ts ds id fr to am er steps told acted dn (u.alloc o) :=
  ⟨c.rt.alloc o, c.rb.alloc o, c.hd.alloc o, c.n1, c.n2⟩
end
/-- .. once it has acted -/
def Acted (b tk pu n : Nat) (h : Nat → Int) (ts ds : Value) (id : Nat) (fr to am er : Int) (steps told : Value) (dn : List Nat) (w w' : World) : Prop :=
  ∃ ds', TB b tk pu n h ts ds' id fr to am er steps told true (dn ++ [id]) w' ∧ Bt (tk :: b :: ds.ownBlock.toList) w w' ∧ (ds'.ownBlock = ds.ownBlock ∨ ∀ g, ds'.ownBlock = some g → w.heap.size ≤ g)
set_option maxRecDepth 100000 in
set_option maxHeartbeats 4000000 in
theorem act_any (b tk pu n : Nat) (h : Nat → Int) (ts ds : Value) (id : Nat) (fr to am er : Int) (steps told : Value) (acted : Bool) (dn : List Nat) (w : World) (c : TB b tk pu n h ts ds id fr to am er steps told acted dn w) (hl : dn.length ≤ 100) :
    Calls Try.prog 83 #[.pointer (some ⟨tk, 0, none⟩)] w fun e w' => e = .returned (.int .i64 0) ∧ Acted b tk pu n h ts ds id fr to am er steps told dn w w' := by
  obtain ⟨q, hq⟩ : ∃ q, w.heap.size = q := ⟨_, rfl⟩
  obtain ⟨y0, y1, y2, y3, y4, y5⟩ := c.cells
  have c1 : TB b tk pu n h ts ds id fr to am er steps told true dn (w.setCell ⟨tk, 6, none⟩ (.bool true)) := ⟨by have := c.rt.set 6 (.bool true); exact this, c.rb.far (p := ⟨tk, 6, none⟩) c.n1 _, c.hd.kept (row := some tk) (but_grown ((M.But.refl tk w).set (p := ⟨tk, 6, none⟩) (.inl rfl) _)) (by
    cases hd : ds.ownBlock with
    | none => exact .inl rfl
    | some g => exact .inr (by have := (c.n2 g hd).1; simpa using this)), c.n1, c.n2⟩
  have b1 : Bt (tk :: b :: ds.ownBlock.toList) w (w.setCell ⟨tk, 6, none⟩ (.bool true)) := (Bt.refl _ w).set (p := ⟨tk, 6, none⟩) (by simp) _
  have hq1 : (w.setCell ⟨tk, 6, none⟩ (.bool true)).heap.size = q := by rw [← hq]; simp [World.setCell]
  obtain ⟨i0, hi, hz0, hz1, hz2⟩ := info_parts info3
  have hneq : ∀ g, ds.ownBlock = some g → g < q := fun g hg => hq ▸ (c.hd.lt g hg).2
  have tkq : tk < q := hq ▸ c.rt.lt
  have bq : b < q := hq ▸ c.rb.lt
  have C1 := Lib.hid c1; have B1 := Lib.hid b1; have HQ1 := Lib.hid hq1; have HL := Lib.hid hl; have HQ := Lib.hid hq; have HN := Lib.hid hneq
  clear c c1 b1 hq1 hl hneq hq
  go_enter Try.func83, Try.ntmps83
  go_wp2
  clear y0 y1 y2 y3 y4 y5
  have C1' := C1.out; have B1' := B1.out; have HQ1' := HQ1.out
  generalize w.setCell ⟨tk, 6, none⟩ (.bool true) = w1 at *
  refine QC.wp_region_d [15, 16, 19] [0, 1, 2, 3, 4, 5, 6, 7, 8, 9, 10, 11, 12, 13, 14, 15, 16, 17, 18, 19] (by kernel_rfl) (by kernel_rfl) (fun u1 d1 => ?_)
  have C2 := Lib.hid (C1'.dr d1)
  have B2 := Lib.hid (B1'.trans (Bt.ofBelow _ d1.below))
  have S2 := Lib.hid (d1.size.trans HQ1')
  clear C1' B1' HQ1' C1 B1 HQ1 d1
  obtain ⟨y0, y1, y2, y3, y4, y5⟩ := C2.out.cells
  iterate 15
    (first
     | (apply QC.wpC_load
        (focus rfl)
        (focus decide)
        (focus rfl)
        (focus rfl)
        (focus rfl)
        (focus (assumption))
        (focus (intro u hu; go_simp))
        intro K hK
        go_simp
        refine hK _ ?_
        clear hK K)
     | (apply QC.wpC_pure
        (focus rfl)
        (focus decide)
        intro K hK
        go_simp
        first
         | (refine hK _ ?_; clear hK K)
         | (apply Exists.intro
            refine ⟨fun u => ?_, hK _ ?_⟩
            (focus (unfold QP.oat; go_simp; first | done | exact ⟨rfl, rfl⟩ | exact rfl))
            clear hK K)))
  apply QC.wpC_eff
  (focus rfl)
  (focus decide)
  go_wp2
  rw [S2.out]
  have C3 := Lib.hid (C2.out.alloc (.cells #[.int .i64 id] 3))
  have B3 := Lib.hid (B2.out.alloc (.cells #[.int .i64 id] 3))
  have r3 := M.RowAt.new u1 3 #[.int .i64 id]
  rw [S2.out] at r3
  have R3 := Lib.hid r3
  have hz : u1.heap.size + 1 = (u1.alloc (.cells #[.int .i64 id] 3)).heap.size := by simp
  rw [S2.out] at hz
  have HZ := Lib.hid hz
  clear y0 y1 y2 y3 y4 y5 r3 hz
  generalize u1.alloc (.cells #[.int .i64 id] 3) = u2 at *
  obtain ⟨y0, y1, y2, y3, y4, y5⟩ := C3.out.cells
  refine QC.eff_ok rfl ?_ ?_
  · (repeat (first | exact QC.obl_nil | refine QC.obl_is (by assumption) ?_ | (apply QC.obl_dep; (focus decide))))
  clear C2 B2 S2
  apply QC.wpC_eff
  (focus rfl)
  (focus decide)
  refine wpList_append_sep2 _ rfl (.tmp 16) (.tmp 21) 78 rfl 0 3 i0 _ 1 8 Try.underlying78 hi hz0 hz1 hz2 rfl (by decide) ds dn.length _ ?a1 C3.out.hd ⟨q, 0, none⟩ 1 1 [.int .i64 id] ?a2 rfl ?a3 ?a4 (by decide) ?a5 ?a6 (Nat.zero_le _) ?_
  case a1 => rfl
  case a2 => rfl
  case a3 => intro j x hx; rw [Addr.add_mid, R3.out.cell, Nat.zero_add]; simpa using hx
  case a4 => intro x hx; simp at hx; subst hx; rfl
  case a5 => have := HL.out; unfold maxLen; omega
  case a6 => have := HL.out; omega
  intro v' w3 ho hg hs
  obtain ⟨g', cap', rfl⟩ : ∃ g' cap', v' = .slice (some ⟨g', 0, none⟩) (dn.length + 1) cap' := by
    rcases ho.2 with ⟨_, h2⟩ | ⟨g, cc, cur, h2, _⟩
    · omega
    · exact ⟨g, cc, h2⟩
  generalize hvv : Value.slice (some ⟨g', 0, none⟩) (dn.length + 1) cap' = v' at *
  have rt3 : M.RowAt w3 tk 136 _ := row_grown hg C3.out.rt (fun e => (C3.out.n2 tk e.symm).1 rfl)
  have rb3 : M.RowAt w3 b 141 _ := row_grown hg C3.out.rb (fun e => (C3.out.n2 b e.symm).2 rfl)
  have b3 : Bt (tk :: b :: ds.ownBlock.toList) w w3 := B3.out.trans (Bt.ofGrown hg (by intro g hg; simp [hg]))
  have v2 : ∀ g, v'.ownBlock = some g → g ≠ tk ∧ g ≠ b := fun g hv => by
    rcases hs with e | e
    · exact C3.out.n2 g (by rw [← e]; exact hv)
    · have := e g hv
      have := HZ.out
      constructor <;> omega
  have z0 : w3.cell? ⟨b, 7, none⟩ = some ds := (rb3.cell 7).trans rfl
  have z1 : w3.frozen? ⟨b, 7, none⟩ = false := rb3.frozen _
  have zt : w3.cell? ⟨tk, 0, none⟩ = some (.pointer (some ⟨b, 0, none⟩)) := (rt3.cell 0).trans rfl
  have c4 : TB b tk pu n h ts v' id fr to am er steps told true (dn ++ [id]) (w3.setCell ⟨b, 7, none⟩ v') := ⟨rt3.far (p := ⟨b, 7, none⟩) (Ne.symm C3.out.n1) _, by have := rb3.set 7 v'; exact this, by
    have := ho.kept (row := some b) (but_grown ((M.But.refl b w3).set (p := ⟨b, 7, none⟩) (.inl rfl) v')) (by
      cases hv : v'.ownBlock with
      | none => exact .inl rfl
      | some g => exact .inr (by have := (v2 g hv).2; simpa using this))
    simpa using this, C3.out.n1, v2⟩
  have fin : Acted b tk pu n h ts ds id fr to am er steps told dn w (w3.setCell ⟨b, 7, none⟩ v') := ⟨v', c4, b3.set (p := ⟨b, 7, none⟩) (by simp) _, by
    rcases hs with e | e
    · exact .inl e
    · exact .inr fun g hv => by have := e g hv; have := HZ.out; have := HQ.out; omega⟩
  have FIN := Lib.hid fin
  subst hvv
  refine wpList_nil ?_
  refine QC.eff_ok rfl ?_ ?_
  · (repeat (first | exact QC.obl_nil | refine QC.obl_is (by assumption) ?_ | (apply QC.obl_dep; (focus decide))))
  clear y0 y1 y2 y3 y4 y5 ho hg hs rt3 rb3 b3 v2 c4 fin C3 B3 R3 HZ
  iterate 2
    (first
     | (apply QC.wpC_load
        (focus rfl)
        (focus decide)
        (focus rfl)
        (focus rfl)
        (focus rfl)
        (focus (assumption))
        (focus (intro u hu; go_simp))
        intro K hK
        go_simp
        refine hK _ ?_
        clear hK K)
     | (apply QC.wpC_pure
        (focus rfl)
        (focus decide)
        intro K hK
        go_simp
        first
         | (refine hK _ ?_; clear hK K)
         | (apply Exists.intro
            refine ⟨fun u => ?_, hK _ ?_⟩
            (focus (unfold QP.oat; go_simp; first | done | exact ⟨rfl, rfl⟩ | exact rfl))
            clear hK K)))
  apply QC.wpC_eff
  (focus rfl)
  (focus decide)
  go_wp2
  refine QC.eff_ok rfl ?_ (QC.wpC_nil ?_)
  · (repeat (first | exact QC.obl_nil | refine QC.obl_is (by assumption) ?_ | (apply QC.obl_dep; (focus decide))))
  clear z0 z1 zt
  go_wp2
  go_ret
  exact ⟨rfl, FIN.out⟩
end Go.Proofs.Ytnnnbgndbmcffaa
