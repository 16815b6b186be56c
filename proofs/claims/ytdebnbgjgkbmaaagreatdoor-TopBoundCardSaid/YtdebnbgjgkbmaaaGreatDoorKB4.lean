import Derived.ArgAppend
import Derived.Below
import Derived.BigQuiet
import Derived.Calls
import Derived.ChangeKeysEq
import Derived.ChangeOld
import Derived.Deep.AppendLies
import Derived.Deep.AppendSrc
import Derived.Deep.DeepHandedRow
import Derived.Deep.LoopGhost
import Derived.Deep.MidRow
import Derived.Deep.Onto
import Derived.Deep.QuietTactic
import Derived.Deep.RegionHeld3
import Derived.Deep.RegionWith
import Derived.Deep.WholeRow
import Derived.DeepKeys
import Derived.DeepKeys3
import Derived.DeepKeys4
import Derived.Defers
import Derived.KernelRfl
import Derived.Laws.AppendOwn
import Derived.Laws.Bits64b
import Derived.Laws.BitsAllLaws
import Derived.Laws.BytesArg
import Derived.Laws.BytesString
import Derived.Laws.EntriesVeiled
import Derived.Laws.MakeOwn
import Derived.Laws.OwnMore
import Derived.Laws.Rows
import Derived.Laws.Tables
import Derived.Lib.BufferWrite
import Derived.Lib.Builder
import Derived.Lib.ConvBytes
import Derived.Lib.FrozenHead2
import Derived.Lib.Hide
import Derived.Lib.LaidTab
import Derived.Lib.Mul64
import Derived.Lib.SlFresh
import Derived.Lib.Strings
import Derived.Lib.TrailingZeros
import Derived.Lib.UnsafeStr
import Derived.LoopIn
import Derived.LoopNIn
import Derived.Maps.Keyed
import Derived.OpenShut
import Derived.Orders
import Derived.Outline
import Derived.OwnWalk
import Derived.OwnWalkIn
import Derived.ProofKit
import Derived.RangeFuncBound
import Derived.RangeFuncCalls
import Derived.RangeFuncFrom
import Derived.RangeFuncLeaves
import Derived.RangeFuncNested
import Derived.Recover
import Derived.Shelf.Abstract
import Derived.Shelf.RegionOpen
import Derived.Shelf.RegionOpenPlain
import Derived.Shelf.Spec.SlicesInsert
import Derived.Shelf.Strings.OnBuilder
import Derived.ShutString
import Derived.StillTailTactics
import Derived.TacticsInMore
import Derived.Test.YtdebnbgjgkbmaaaGreatDoorProg
import Derived.Test.YtdebnbgjgkbmaaaGreatDoorRows
import Derived.WalkKit
import Derived.WalkLawsBesides
import Derived.WalkSpells
import Derived.Test.YtdebnbgjgkbmaaaGreatDoorKB3
namespace Go.Proofs.YtdebnbgjgkbmaaaGreatDoor.Wi
open Go.Proofs.YtdebnbgjgkbmaaaGreatDoor.Oc
open Go.RowKit Go.Shelf
set_option linter.unusedVariables false
theorem u64_in (x:Int) (h:0≤x∧x≤18446744073709551615):IntKind.u64.wrap x=x:=by
 rw [IntKind.wrap_u64];omega
theorem must_ok (w:World):Calls Tryz.prog 104 #[.int .i64 0] w fun e w'=>e=.returned (.tuple #[])∧w=w':=by
 go_enter Tryz.func104,Tryz.ntmps104
 go_wp2
 go_end0
 exact ⟨rfl,rfl⟩
def DidW (b p:Nat) (R:Array Value) (s:ByteArray) (W:World) (e:Ending) (W':World):Prop:=e=.returned (.tuple #[])∧M.RowAt W' b 59 R∧M.RowAt W' p 207 #[.string s]∧M.But p W W'
theorem row_at {W:World} {p:Nat} {t:TypeId} {s:ByteArray} (h:M.RowAt W p t #[.string s]):At W ⟨p,0,none⟩ s:=⟨(h.cell 0).trans rfl,h.frozen 0⟩
theorem row_written {w w':World} {p:Nat} {t:TypeId} {s u:ByteArray} (h:M.RowAt w p t #[.string s]) (hb:Below w.heap.size (w.setCell ⟨p,0,none⟩ (.string u)) w'):M.RowAt w' p t #[.string u]:=(h.set 0 (.string u)).below hb h.lt
theorem but_written {W W':World} {p:Nat} {x:Value} (h:Below W.heap.size (W.setCell ⟨p,0,none⟩ x) W'):M.But p W W':=
 ((M.But.refl p W).set (p:=⟨p,0,none⟩) (.inl rfl) x).trans (M.But.ofBelow p (by simpa [World.setCell] using h))
theorem numE_ok {n:Int} {wd:Int} (h1:1≤wd) (h8:wd≤8) (h0:0≤n) (h:n<2 ^ (8*wd).toNat):numE n wd=0:=by
 unfold numE
 rw [if_neg]
 rintro (q | q | q)
 · omega
 · omega
 · exact q (Int.ediv_eq_zero_of_lt h0 h)
set_option maxRecDepth 100000 in
set_option maxHeartbeats 2000000 in
theorem w_id (m:Msg) (h32:m.hash.length=32) (a c b p:Nat) (s:ByteArray) (W:World) (ra:M.RowAt W a 315 #[.func (.func 189) #[] #[]]) (rc:M.RowAt W c 3 #[.int .i64 8]) (rb:M.RowAt W b 59 m.row) (hat:M.RowAt W p 207 #[.string s]) (hpb:p≠b)
 (hs:s.size≤4611686018427387904) (h0:0≤m.id) (hw:m.id≤18446744073709551615) (hf:m.id<2 ^ (8*(8:Int)).toNat) :
 Calls Tryz.prog 265 #[.agg #[.pointer (some ⟨p,0,none⟩),.pointer none],.pointer (some ⟨b,0,none⟩),.pointer (some ⟨a,0,none⟩),.pointer (some ⟨c,0,none⟩)] W (DidW b p m.row (s++strOfNums (numB m.id 8)) W):=by
 obtain ⟨q,hq⟩:∃ q,W.heap.size=q:=⟨_,rfl⟩
 obtain ⟨V,hV⟩:∃ V,W.alloc (.cells #[.pointer (some ⟨p,0,none⟩),.pointer none] 212)=V:=⟨_,rfl⟩
 have rn:M.RowAt V q 212 #[.pointer (some ⟨p,0,none⟩),.pointer none]:=by rw [←hV,← hq];exact M.RowAt.new W 212 _
 have ra':M.RowAt V a 315 #[.func (.func 189) #[] #[]]:=by rw [←hV];exact ra.alloc _
 have rc':M.RowAt V c 3 #[.int .i64 8]:=by rw [←hV];exact rc.alloc _
 have rb':M.RowAt V b 59 m.row:=by rw [←hV];exact rb.alloc _
 have bV:M.But p W V:=by rw [←hV];exact (M.But.refl _ _).alloc _
 have atV:M.RowAt V p 207 #[.string s]:=by rw [←hV];exact hat.alloc _
 have a0:=(ra'.cell 0).trans rfl
 have n0:=(rn.cell 0).trans rfl;have n1:=(rn.cell 1).trans rfl
 have c0:=(rc'.cell 0).trans rfl
 have m0:=(rb'.cell 2).trans (Msg.g2)
 have num:∀ x,x=V.drew→Calls Tryz.prog 105 #[.pointer (some ⟨p,0,none⟩),.int .u64 m.id,.int .i64 8] x fun e x'=>e=.returned (.int .i64 0)∧DidW b p m.row (s++strOfNums (numB m.id 8)) W (.returned (.tuple #[])) x':=by
  rintro x rfl
  refine (number_any m.id 8 ⟨p,0,none⟩ s V.drew h0 hw hs (row_at atV.drew)).mono ?_
  rintro e x' ⟨rfl,hb⟩
  rw [numE_ok (by decide) (by decide) h0 hf]
  have hbut:=but_written hb
  exact ⟨rfl,rfl,hbut.row rb'.drew (fun e=>hpb e.symm),row_written atV.drew hb,bV.trans ((M.But.refl p V).drew.trans hbut)⟩
 have mu:=fun x=>must_ok x
 have HQ:=Lib.hid hq;have HV:=Lib.hid hV;have NUM:=Lib.hid num;have MU:=Lib.hid mu
 obtain ⟨U,hU⟩:∃ U,V.drew=U:=⟨_,rfl⟩
 have u0:U.cell? ⟨q,0,none⟩=some (.pointer (some ⟨p,0,none⟩)):=by rw [←hU];exact n0
 have u1:U.cell? ⟨b,2,none⟩=some (.int .u64 m.id):=by rw [←hU];exact m0
 have u2:U.cell? ⟨c,0,none⟩=some (.int .i64 8):=by rw [←hU];exact c0
 rw [hU] at NUM
 have HU:=Lib.hid hU
 generalize DidW b p m.row (s++strOfNums (numB m.id 8)) W=DD at *
 clear hq hV rn ra' rc' rb' bV ra rc rb hat atV num mu hU hw hf h0
 go_enter Tryz.func265,Tryz.ntmps265
 go_wp2_with (first | (rw [HQ.out,HV.out]) | go_in)
 refine QT.wp_region_p 6 (fun x=>x=U) (fun x=>DD (.returned (.tuple #[])) x) (by kernel_rfl) (by kernel_rfl) HU.out ?_
 iterate 8
  (refine QT.wpQ_step (fun K hK=>?_)
   go_simp
   first
    | (refine hK _ ?_;clear hK K)
    | (refine ⟨?_,hK _ ?_⟩;decide;clear hK K)
    | ((first | (apply Exists.intro;refine ⟨?_,hK _ ?_⟩) | refine ⟨⟨undef,?_⟩,hK _ ?_⟩)
       first
        | (apply QT.al_p;decide;(focus (intro wq hq;(first | (have e:=hq;simp only at e;subst e) | skip);first | (fail) | (unfold QP.oat;go_simp;first | done | exact ⟨by assumption,rfl⟩ | exact rfl | assumption | (first | ((with_reducible refine (NUM.out _ rfl).mono ?_);rintro e w' ⟨rfl,h'⟩;exact ⟨rfl,h'⟩) | ((with_reducible refine (MU.out _).mono ?_);rintro e w' ⟨rfl,rfl⟩;exact ⟨rfl,hq⟩))))))
        | (apply QT.al_dep;decide;decide;(focus (intro wq hq;(first | (have e:=hq;simp only at e;subst e) | skip);first | (fail) | (unfold QP.oat;go_simp;first | done | exact ⟨by assumption,rfl⟩ | exact rfl | assumption | (first | ((with_reducible refine (NUM.out _ rfl).mono ?_);rintro e w' ⟨rfl,h'⟩;exact ⟨rfl,h'⟩) | ((with_reducible refine (MU.out _).mono ?_);rintro e w' ⟨rfl,rfl⟩;exact ⟨rfl,hq⟩))))))
        | (apply QT.al_bef;decide;decide;(focus (intro wq hq;(first | (have e:=hq;simp only at e;subst e) | skip);first | (fail) | (unfold QP.oat;go_simp;first | done | exact ⟨by assumption,rfl⟩ | exact rfl | assumption | (first | ((with_reducible refine (NUM.out _ rfl).mono ?_);rintro e w' ⟨rfl,h'⟩;exact ⟨rfl,h'⟩) | ((with_reducible refine (MU.out _).mono ?_);rintro e w' ⟨rfl,rfl⟩;exact ⟨rfl,hq⟩))))))
        | (apply QT.al_ok;decide;(focus (intro wq hq;(first | (have e:=hq;simp only at e;subst e) | skip);first | (fail) | (unfold QP.oat;go_simp;first | done | exact ⟨by assumption,rfl⟩ | exact rfl | assumption | (first | ((with_reducible refine (NUM.out _ rfl).mono ?_);rintro e w' ⟨rfl,h'⟩;exact ⟨rfl,h'⟩) | ((with_reducible refine (MU.out _).mono ?_);rintro e w' ⟨rfl,rfl⟩;exact ⟨rfl,hq⟩)))));(focus (intro wq hq;(first | (have e:=hq;simp only at e;subst e) | skip);first | (fail) | (unfold QP.oat;go_simp;first | done | exact ⟨by assumption,rfl⟩ | exact rfl | assumption | (first | ((with_reducible refine (NUM.out _ rfl).mono ?_);rintro e w' ⟨rfl,h'⟩;exact ⟨rfl,h'⟩) | ((with_reducible refine (MU.out _).mono ?_);rintro e w' ⟨rfl,rfl⟩;exact ⟨rfl,hq⟩))))))
       clear hK K))
 refine QT.wpQ_nil ?_
 intro wz bz
 go_wp2
 go_end0
 exact bz
set_option maxRecDepth 100000 in
set_option maxHeartbeats 2000000 in
theorem w_amount (m:Msg) (h32:m.hash.length=32) (a c b p:Nat) (s:ByteArray) (W:World) (ra:M.RowAt W a 315 #[.func (.func 190) #[] #[]]) (rc:M.RowAt W c 3 #[.int .i64 8]) (rb:M.RowAt W b 59 m.row) (hat:M.RowAt W p 207 #[.string s]) (hpb:p≠b)
 (hs:s.size≤4611686018427387904) (h0:0≤m.amount) (hw:m.amount≤18446744073709551615) (hf:m.amount<2 ^ (8*(8:Int)).toNat) :
 Calls Tryz.prog 265 #[.agg #[.pointer (some ⟨p,0,none⟩),.pointer none],.pointer (some ⟨b,0,none⟩),.pointer (some ⟨a,0,none⟩),.pointer (some ⟨c,0,none⟩)] W (DidW b p m.row (s++strOfNums (numB m.amount 8)) W):=by
 obtain ⟨q,hq⟩:∃ q,W.heap.size=q:=⟨_,rfl⟩
 obtain ⟨V,hV⟩:∃ V,W.alloc (.cells #[.pointer (some ⟨p,0,none⟩),.pointer none] 212)=V:=⟨_,rfl⟩
 have rn:M.RowAt V q 212 #[.pointer (some ⟨p,0,none⟩),.pointer none]:=by rw [←hV,← hq];exact M.RowAt.new W 212 _
 have ra':M.RowAt V a 315 #[.func (.func 190) #[] #[]]:=by rw [←hV];exact ra.alloc _
 have rc':M.RowAt V c 3 #[.int .i64 8]:=by rw [←hV];exact rc.alloc _
 have rb':M.RowAt V b 59 m.row:=by rw [←hV];exact rb.alloc _
 have bV:M.But p W V:=by rw [←hV];exact (M.But.refl _ _).alloc _
 have atV:M.RowAt V p 207 #[.string s]:=by rw [←hV];exact hat.alloc _
 have a0:=(ra'.cell 0).trans rfl
 have n0:=(rn.cell 0).trans rfl;have n1:=(rn.cell 1).trans rfl
 have c0:=(rc'.cell 0).trans rfl
 have m0:=(rb'.cell 3).trans (Msg.g3)
 have num:∀ x,x=V.drew→Calls Tryz.prog 105 #[.pointer (some ⟨p,0,none⟩),.int .u64 m.amount,.int .i64 8] x fun e x'=>e=.returned (.int .i64 0)∧DidW b p m.row (s++strOfNums (numB m.amount 8)) W (.returned (.tuple #[])) x':=by
  rintro x rfl
  refine (number_any m.amount 8 ⟨p,0,none⟩ s V.drew h0 hw hs (row_at atV.drew)).mono ?_
  rintro e x' ⟨rfl,hb⟩
  rw [numE_ok (by decide) (by decide) h0 hf]
  have hbut:=but_written hb
  exact ⟨rfl,rfl,hbut.row rb'.drew (fun e=>hpb e.symm),row_written atV.drew hb,bV.trans ((M.But.refl p V).drew.trans hbut)⟩
 have mu:=fun x=>must_ok x
 have HQ:=Lib.hid hq;have HV:=Lib.hid hV;have NUM:=Lib.hid num;have MU:=Lib.hid mu
 obtain ⟨U,hU⟩:∃ U,V.drew=U:=⟨_,rfl⟩
 have u0:U.cell? ⟨q,0,none⟩=some (.pointer (some ⟨p,0,none⟩)):=by rw [←hU];exact n0
 have u1:U.cell? ⟨b,3,none⟩=some (.int .u64 m.amount):=by rw [←hU];exact m0
 have u2:U.cell? ⟨c,0,none⟩=some (.int .i64 8):=by rw [←hU];exact c0
 rw [hU] at NUM
 have HU:=Lib.hid hU
 generalize DidW b p m.row (s++strOfNums (numB m.amount 8)) W=DD at *
 clear hq hV rn ra' rc' rb' bV ra rc rb hat atV num mu hU hw hf h0
 go_enter Tryz.func265,Tryz.ntmps265
 go_wp2_with (first | (rw [HQ.out,HV.out]) | go_in)
 refine QT.wp_region_p 6 (fun x=>x=U) (fun x=>DD (.returned (.tuple #[])) x) (by kernel_rfl) (by kernel_rfl) HU.out ?_
 iterate 8
  (refine QT.wpQ_step (fun K hK=>?_)
   go_simp
   first
    | (refine hK _ ?_;clear hK K)
    | (refine ⟨?_,hK _ ?_⟩;decide;clear hK K)
    | ((first | (apply Exists.intro;refine ⟨?_,hK _ ?_⟩) | refine ⟨⟨undef,?_⟩,hK _ ?_⟩)
       first
        | (apply QT.al_p;decide;(focus (intro wq hq;(first | (have e:=hq;simp only at e;subst e) | skip);first | (fail) | (unfold QP.oat;go_simp;first | done | exact ⟨by assumption,rfl⟩ | exact rfl | assumption | (first | ((with_reducible refine (NUM.out _ rfl).mono ?_);rintro e w' ⟨rfl,h'⟩;exact ⟨rfl,h'⟩) | ((with_reducible refine (MU.out _).mono ?_);rintro e w' ⟨rfl,rfl⟩;exact ⟨rfl,hq⟩))))))
        | (apply QT.al_dep;decide;decide;(focus (intro wq hq;(first | (have e:=hq;simp only at e;subst e) | skip);first | (fail) | (unfold QP.oat;go_simp;first | done | exact ⟨by assumption,rfl⟩ | exact rfl | assumption | (first | ((with_reducible refine (NUM.out _ rfl).mono ?_);rintro e w' ⟨rfl,h'⟩;exact ⟨rfl,h'⟩) | ((with_reducible refine (MU.out _).mono ?_);rintro e w' ⟨rfl,rfl⟩;exact ⟨rfl,hq⟩))))))
        | (apply QT.al_bef;decide;decide;(focus (intro wq hq;(first | (have e:=hq;simp only at e;subst e) | skip);first | (fail) | (unfold QP.oat;go_simp;first | done | exact ⟨by assumption,rfl⟩ | exact rfl | assumption | (first | ((with_reducible refine (NUM.out _ rfl).mono ?_);rintro e w' ⟨rfl,h'⟩;exact ⟨rfl,h'⟩) | ((with_reducible refine (MU.out _).mono ?_);rintro e w' ⟨rfl,rfl⟩;exact ⟨rfl,hq⟩))))))
        | (apply QT.al_ok;decide;(focus (intro wq hq;(first | (have e:=hq;simp only at e;subst e) | skip);first | (fail) | (unfold QP.oat;go_simp;first | done | exact ⟨by assumption,rfl⟩ | exact rfl | assumption | (first | ((with_reducible refine (NUM.out _ rfl).mono ?_);rintro e w' ⟨rfl,h'⟩;exact ⟨rfl,h'⟩) | ((with_reducible refine (MU.out _).mono ?_);rintro e w' ⟨rfl,rfl⟩;exact ⟨rfl,hq⟩)))));(focus (intro wq hq;(first | (have e:=hq;simp only at e;subst e) | skip);first | (fail) | (unfold QP.oat;go_simp;first | done | exact ⟨by assumption,rfl⟩ | exact rfl | assumption | (first | ((with_reducible refine (NUM.out _ rfl).mono ?_);rintro e w' ⟨rfl,h'⟩;exact ⟨rfl,h'⟩) | ((with_reducible refine (MU.out _).mono ?_);rintro e w' ⟨rfl,rfl⟩;exact ⟨rfl,hq⟩))))))
       clear hK K))
 refine QT.wpQ_nil ?_
 intro wz bz
 go_wp2
 go_end0
 exact bz
set_option maxRecDepth 100000 in
set_option maxHeartbeats 2000000 in
theorem w_expiry (m:Msg) (h32:m.hash.length=32) (a c b p:Nat) (s:ByteArray) (W:World) (ra:M.RowAt W a 318 #[.func (.func 192) #[] #[]]) (rc:M.RowAt W c 3 #[.int .i64 4]) (rb:M.RowAt W b 59 m.row) (hat:M.RowAt W p 207 #[.string s]) (hpb:p≠b)
 (hs:s.size≤4611686018427387904) (h0:0≤m.expiry) (hw:m.expiry≤18446744073709551615) (hf:m.expiry<2 ^ (8*(4:Int)).toNat) :
 Calls Tryz.prog 266 #[.agg #[.pointer (some ⟨p,0,none⟩),.pointer none],.pointer (some ⟨b,0,none⟩),.pointer (some ⟨a,0,none⟩),.pointer (some ⟨c,0,none⟩)] W (DidW b p m.row (s++strOfNums (numB m.expiry 4)) W):=by
 obtain ⟨q,hq⟩:∃ q,W.heap.size=q:=⟨_,rfl⟩
 obtain ⟨V,hV⟩:∃ V,W.alloc (.cells #[.pointer (some ⟨p,0,none⟩),.pointer none] 212)=V:=⟨_,rfl⟩
 have rn:M.RowAt V q 212 #[.pointer (some ⟨p,0,none⟩),.pointer none]:=by rw [←hV,← hq];exact M.RowAt.new W 212 _
 have ra':M.RowAt V a 318 #[.func (.func 192) #[] #[]]:=by rw [←hV];exact ra.alloc _
 have rc':M.RowAt V c 3 #[.int .i64 4]:=by rw [←hV];exact rc.alloc _
 have rb':M.RowAt V b 59 m.row:=by rw [←hV];exact rb.alloc _
 have bV:M.But p W V:=by rw [←hV];exact (M.But.refl _ _).alloc _
 have atV:M.RowAt V p 207 #[.string s]:=by rw [←hV];exact hat.alloc _
 have a0:=(ra'.cell 0).trans rfl
 have n0:=(rn.cell 0).trans rfl;have n1:=(rn.cell 1).trans rfl
 have c0:=(rc'.cell 0).trans rfl
 have m0:=(rb'.cell 36).trans (Msg.g36 h32)
 have num:∀ x,x=V.drew→Calls Tryz.prog 105 #[.pointer (some ⟨p,0,none⟩),.int .u64 m.expiry,.int .i64 4] x fun e x'=>e=.returned (.int .i64 0)∧DidW b p m.row (s++strOfNums (numB m.expiry 4)) W (.returned (.tuple #[])) x':=by
  rintro x rfl
  refine (number_any m.expiry 4 ⟨p,0,none⟩ s V.drew h0 hw hs (row_at atV.drew)).mono ?_
  rintro e x' ⟨rfl,hb⟩
  rw [numE_ok (by decide) (by decide) h0 hf]
  have hbut:=but_written hb
  exact ⟨rfl,rfl,hbut.row rb'.drew (fun e=>hpb e.symm),row_written atV.drew hb,bV.trans ((M.But.refl p V).drew.trans hbut)⟩
 have mu:=fun x=>must_ok x
 have cw:IntKind.u64.wrap m.expiry=m.expiry:=u64_in _ (by omega)
 have HQ:=Lib.hid hq;have HV:=Lib.hid hV;have NUM:=Lib.hid num;have MU:=Lib.hid mu
 obtain ⟨U,hU⟩:∃ U,V.drew=U:=⟨_,rfl⟩
 have u0:U.cell? ⟨q,0,none⟩=some (.pointer (some ⟨p,0,none⟩)):=by rw [←hU];exact n0
 have u1:U.cell? ⟨b,36,none⟩=some (.int .i64 m.expiry):=by rw [←hU];exact m0
 have u2:U.cell? ⟨c,0,none⟩=some (.int .i64 4):=by rw [←hU];exact c0
 rw [hU] at NUM
 have HU:=Lib.hid hU
 generalize DidW b p m.row (s++strOfNums (numB m.expiry 4)) W=DD at *
 clear hq hV rn ra' rc' rb' bV ra rc rb hat atV num mu hU hw hf h0
 go_enter Tryz.func266,Tryz.ntmps266
 go_wp2_with (first | (rw [HQ.out,HV.out]) | go_in)
 refine QT.wp_region_p 7 (fun x=>x=U) (fun x=>DD (.returned (.tuple #[])) x) (by kernel_rfl) (by kernel_rfl) HU.out ?_
 iterate 9
  (refine QT.wpQ_step (fun K hK=>?_)
   go_simp
   first
    | (refine hK _ ?_;clear hK K)
    | (refine ⟨?_,hK _ ?_⟩;decide;clear hK K)
    | ((first | (apply Exists.intro;refine ⟨?_,hK _ ?_⟩) | refine ⟨⟨undef,?_⟩,hK _ ?_⟩)
       first
        | (apply QT.al_p;decide;(focus (intro wq hq;(first | (have e:=hq;simp only at e;subst e) | skip);first | (fail) | (unfold QP.oat;go_simp;first | done | exact ⟨by assumption,rfl⟩ | exact rfl | assumption | (first | ((with_reducible refine (NUM.out _ rfl).mono ?_);rintro e w' ⟨rfl,h'⟩;exact ⟨rfl,h'⟩) | ((with_reducible refine (MU.out _).mono ?_);rintro e w' ⟨rfl,rfl⟩;exact ⟨rfl,hq⟩))))))
        | (apply QT.al_dep;decide;decide;(focus (intro wq hq;(first | (have e:=hq;simp only at e;subst e) | skip);first | (fail) | (unfold QP.oat;go_simp;first | done | exact ⟨by assumption,rfl⟩ | exact rfl | assumption | (first | ((with_reducible refine (NUM.out _ rfl).mono ?_);rintro e w' ⟨rfl,h'⟩;exact ⟨rfl,h'⟩) | ((with_reducible refine (MU.out _).mono ?_);rintro e w' ⟨rfl,rfl⟩;exact ⟨rfl,hq⟩))))))
        | (apply QT.al_bef;decide;decide;(focus (intro wq hq;(first | (have e:=hq;simp only at e;subst e) | skip);first | (fail) | (unfold QP.oat;go_simp;first | done | exact ⟨by assumption,rfl⟩ | exact rfl | assumption | (first | ((with_reducible refine (NUM.out _ rfl).mono ?_);rintro e w' ⟨rfl,h'⟩;exact ⟨rfl,h'⟩) | ((with_reducible refine (MU.out _).mono ?_);rintro e w' ⟨rfl,rfl⟩;exact ⟨rfl,hq⟩))))))
        | (apply QT.al_ok;decide;(focus (intro wq hq;(first | (have e:=hq;simp only at e;subst e) | skip);first | (fail) | (unfold QP.oat;go_simp;first | done | exact ⟨by assumption,rfl⟩ | exact rfl | assumption | (first | ((with_reducible refine (NUM.out _ rfl).mono ?_);rintro e w' ⟨rfl,h'⟩;exact ⟨rfl,h'⟩) | ((with_reducible refine (MU.out _).mono ?_);rintro e w' ⟨rfl,rfl⟩;exact ⟨rfl,hq⟩)))));(focus (intro wq hq;(first | (have e:=hq;simp only at e;subst e) | skip);first | (fail) | (unfold QP.oat;go_simp;first | done | exact ⟨by assumption,rfl⟩ | exact rfl | assumption | (first | ((with_reducible refine (NUM.out _ rfl).mono ?_);rintro e w' ⟨rfl,h'⟩;exact ⟨rfl,h'⟩) | ((with_reducible refine (MU.out _).mono ?_);rintro e w' ⟨rfl,rfl⟩;exact ⟨rfl,hq⟩))))))
       clear hK K))
 refine QT.wpQ_nil ?_
 intro wz bz
 go_wp2
 go_end0
 exact bz
set_option maxRecDepth 100000 in
set_option maxHeartbeats 2000000 in
theorem w_number (m:Msg) (h32:m.hash.length=32) (a c b p:Nat) (s:ByteArray) (W:World) (ra:M.RowAt W a 318 #[.func (.func 193) #[] #[]]) (rc:M.RowAt W c 3 #[.int .i64 2]) (rb:M.RowAt W b 59 m.row) (hat:M.RowAt W p 207 #[.string s]) (hpb:p≠b)
 (hs:s.size≤4611686018427387904) (h0:0≤m.number) (hw:m.number≤18446744073709551615) (hf:m.number<2 ^ (8*(2:Int)).toNat) :
 Calls Tryz.prog 266 #[.agg #[.pointer (some ⟨p,0,none⟩),.pointer none],.pointer (some ⟨b,0,none⟩),.pointer (some ⟨a,0,none⟩),.pointer (some ⟨c,0,none⟩)] W (DidW b p m.row (s++strOfNums (numB m.number 2)) W):=by
 obtain ⟨q,hq⟩:∃ q,W.heap.size=q:=⟨_,rfl⟩
 obtain ⟨V,hV⟩:∃ V,W.alloc (.cells #[.pointer (some ⟨p,0,none⟩),.pointer none] 212)=V:=⟨_,rfl⟩
 have rn:M.RowAt V q 212 #[.pointer (some ⟨p,0,none⟩),.pointer none]:=by rw [←hV,← hq];exact M.RowAt.new W 212 _
 have ra':M.RowAt V a 318 #[.func (.func 193) #[] #[]]:=by rw [←hV];exact ra.alloc _
 have rc':M.RowAt V c 3 #[.int .i64 2]:=by rw [←hV];exact rc.alloc _
 have rb':M.RowAt V b 59 m.row:=by rw [←hV];exact rb.alloc _
 have bV:M.But p W V:=by rw [←hV];exact (M.But.refl _ _).alloc _
 have atV:M.RowAt V p 207 #[.string s]:=by rw [←hV];exact hat.alloc _
 have a0:=(ra'.cell 0).trans rfl
 have n0:=(rn.cell 0).trans rfl;have n1:=(rn.cell 1).trans rfl
 have c0:=(rc'.cell 0).trans rfl
 have m0:=(rb'.cell 37).trans (Msg.g37 h32)
 have num:∀ x,x=V.drew→Calls Tryz.prog 105 #[.pointer (some ⟨p,0,none⟩),.int .u64 m.number,.int .i64 2] x fun e x'=>e=.returned (.int .i64 0)∧DidW b p m.row (s++strOfNums (numB m.number 2)) W (.returned (.tuple #[])) x':=by
  rintro x rfl
  refine (number_any m.number 2 ⟨p,0,none⟩ s V.drew h0 hw hs (row_at atV.drew)).mono ?_
  rintro e x' ⟨rfl,hb⟩
  rw [numE_ok (by decide) (by decide) h0 hf]
  have hbut:=but_written hb
  exact ⟨rfl,rfl,hbut.row rb'.drew (fun e=>hpb e.symm),row_written atV.drew hb,bV.trans ((M.But.refl p V).drew.trans hbut)⟩
 have mu:=fun x=>must_ok x
 have cw:IntKind.u64.wrap m.number=m.number:=u64_in _ (by omega)
 have HQ:=Lib.hid hq;have HV:=Lib.hid hV;have NUM:=Lib.hid num;have MU:=Lib.hid mu
 obtain ⟨U,hU⟩:∃ U,V.drew=U:=⟨_,rfl⟩
 have u0:U.cell? ⟨q,0,none⟩=some (.pointer (some ⟨p,0,none⟩)):=by rw [←hU];exact n0
 have u1:U.cell? ⟨b,37,none⟩=some (.int .i64 m.number):=by rw [←hU];exact m0
 have u2:U.cell? ⟨c,0,none⟩=some (.int .i64 2):=by rw [←hU];exact c0
 rw [hU] at NUM
 have HU:=Lib.hid hU
 generalize DidW b p m.row (s++strOfNums (numB m.number 2)) W=DD at *
 clear hq hV rn ra' rc' rb' bV ra rc rb hat atV num mu hU hw hf h0
 go_enter Tryz.func266,Tryz.ntmps266
 go_wp2_with (first | (rw [HQ.out,HV.out]) | go_in)
 refine QT.wp_region_p 7 (fun x=>x=U) (fun x=>DD (.returned (.tuple #[])) x) (by kernel_rfl) (by kernel_rfl) HU.out ?_
 iterate 9
  (refine QT.wpQ_step (fun K hK=>?_)
   go_simp
   first
    | (refine hK _ ?_;clear hK K)
    | (refine ⟨?_,hK _ ?_⟩;decide;clear hK K)
    | ((first | (apply Exists.intro;refine ⟨?_,hK _ ?_⟩) | refine ⟨⟨undef,?_⟩,hK _ ?_⟩)
       first
        | (apply QT.al_p;decide;(focus (intro wq hq;(first | (have e:=hq;simp only at e;subst e) | skip);first | (fail) | (unfold QP.oat;go_simp;first | done | exact ⟨by assumption,rfl⟩ | exact rfl | assumption | (first | ((with_reducible refine (NUM.out _ rfl).mono ?_);rintro e w' ⟨rfl,h'⟩;exact ⟨rfl,h'⟩) | ((with_reducible refine (MU.out _).mono ?_);rintro e w' ⟨rfl,rfl⟩;exact ⟨rfl,hq⟩))))))
        | (apply QT.al_dep;decide;decide;(focus (intro wq hq;(first | (have e:=hq;simp only at e;subst e) | skip);first | (fail) | (unfold QP.oat;go_simp;first | done | exact ⟨by assumption,rfl⟩ | exact rfl | assumption | (first | ((with_reducible refine (NUM.out _ rfl).mono ?_);rintro e w' ⟨rfl,h'⟩;exact ⟨rfl,h'⟩) | ((with_reducible refine (MU.out _).mono ?_);rintro e w' ⟨rfl,rfl⟩;exact ⟨rfl,hq⟩))))))
        | (apply QT.al_bef;decide;decide;(focus (intro wq hq;(first | (have e:=hq;simp only at e;subst e) | skip);first | (fail) | (unfold QP.oat;go_simp;first | done | exact ⟨by assumption,rfl⟩ | exact rfl | assumption | (first | ((with_reducible refine (NUM.out _ rfl).mono ?_);rintro e w' ⟨rfl,h'⟩;exact ⟨rfl,h'⟩) | ((with_reducible refine (MU.out _).mono ?_);rintro e w' ⟨rfl,rfl⟩;exact ⟨rfl,hq⟩))))))
        | (apply QT.al_ok;decide;(focus (intro wq hq;(first | (have e:=hq;simp only at e;subst e) | skip);first | (fail) | (unfold QP.oat;go_simp;first | done | exact ⟨by assumption,rfl⟩ | exact rfl | assumption | (first | ((with_reducible refine (NUM.out _ rfl).mono ?_);rintro e w' ⟨rfl,h'⟩;exact ⟨rfl,h'⟩) | ((with_reducible refine (MU.out _).mono ?_);rintro e w' ⟨rfl,rfl⟩;exact ⟨rfl,hq⟩)))));(focus (intro wq hq;(first | (have e:=hq;simp only at e;subst e) | skip);first | (fail) | (unfold QP.oat;go_simp;first | done | exact ⟨by assumption,rfl⟩ | exact rfl | assumption | (first | ((with_reducible refine (NUM.out _ rfl).mono ?_);rintro e w' ⟨rfl,h'⟩;exact ⟨rfl,h'⟩) | ((with_reducible refine (MU.out _).mono ?_);rintro e w' ⟨rfl,rfl⟩;exact ⟨rfl,hq⟩))))))
       clear hK K))
 refine QT.wpQ_nil ?_
 intro wz bz
 go_wp2
 go_end0
 exact bz
set_option maxRecDepth 100000 in
set_option maxHeartbeats 2000000 in
theorem w_chan (m:Msg) (h32:m.hash.length=32) (a c b p:Nat) (s:ByteArray) (W:World) (ra:M.RowAt W a 379 #[.func (.func 268) #[] #[]]) (rc:M.RowAt W c 3 #[.int .i64 4]) (rb:M.RowAt W b 59 m.row) (hat:M.RowAt W p 207 #[.string s]) (hpb:p≠b)
 (hs:s.size≤4611686018427387904) (h0:0≤m.chan) (hw:m.chan≤18446744073709551615) (hf:m.chan<2 ^ (8*(4:Int)).toNat) :
 Calls Tryz.prog 306 #[.agg #[.pointer (some ⟨p,0,none⟩),.pointer none],.pointer (some ⟨b,0,none⟩),.pointer (some ⟨a,0,none⟩),.pointer (some ⟨c,0,none⟩)] W (DidW b p m.row (s++strOfNums (numB m.chan 4)) W):=by
 obtain ⟨q,hq⟩:∃ q,W.heap.size=q:=⟨_,rfl⟩
 obtain ⟨V,hV⟩:∃ V,W.alloc (.cells #[.pointer (some ⟨p,0,none⟩),.pointer none] 212)=V:=⟨_,rfl⟩
 have rn:M.RowAt V q 212 #[.pointer (some ⟨p,0,none⟩),.pointer none]:=by rw [←hV,← hq];exact M.RowAt.new W 212 _
 have ra':M.RowAt V a 379 #[.func (.func 268) #[] #[]]:=by rw [←hV];exact ra.alloc _
 have rc':M.RowAt V c 3 #[.int .i64 4]:=by rw [←hV];exact rc.alloc _
 have rb':M.RowAt V b 59 m.row:=by rw [←hV];exact rb.alloc _
 have bV:M.But p W V:=by rw [←hV];exact (M.But.refl _ _).alloc _
 have atV:M.RowAt V p 207 #[.string s]:=by rw [←hV];exact hat.alloc _
 have a0:=(ra'.cell 0).trans rfl
 have n0:=(rn.cell 0).trans rfl;have n1:=(rn.cell 1).trans rfl
 have c0:=(rc'.cell 0).trans rfl
 have m0:=(rb'.cell 1).trans (Msg.g1)
 have num:∀ x,x=V.drew→Calls Tryz.prog 105 #[.pointer (some ⟨p,0,none⟩),.int .u64 m.chan,.int .i64 4] x fun e x'=>e=.returned (.int .i64 0)∧DidW b p m.row (s++strOfNums (numB m.chan 4)) W (.returned (.tuple #[])) x':=by
  rintro x rfl
  refine (number_any m.chan 4 ⟨p,0,none⟩ s V.drew h0 hw hs (row_at atV.drew)).mono ?_
  rintro e x' ⟨rfl,hb⟩
  rw [numE_ok (by decide) (by decide) h0 hf]
  have hbut:=but_written hb
  exact ⟨rfl,rfl,hbut.row rb'.drew (fun e=>hpb e.symm),row_written atV.drew hb,bV.trans ((M.But.refl p V).drew.trans hbut)⟩
 have mu:=fun x=>must_ok x
 have cw:IntKind.u64.wrap m.chan=m.chan:=u64_in _ (by omega)
 have HQ:=Lib.hid hq;have HV:=Lib.hid hV;have NUM:=Lib.hid num;have MU:=Lib.hid mu
 obtain ⟨U,hU⟩:∃ U,V.drew=U:=⟨_,rfl⟩
 have u0:U.cell? ⟨q,0,none⟩=some (.pointer (some ⟨p,0,none⟩)):=by rw [←hU];exact n0
 have u1:U.cell? ⟨b,1,none⟩=some (.int .u32 m.chan):=by rw [←hU];exact m0
 have u2:U.cell? ⟨c,0,none⟩=some (.int .i64 4):=by rw [←hU];exact c0
 rw [hU] at NUM
 have HU:=Lib.hid hU
 generalize DidW b p m.row (s++strOfNums (numB m.chan 4)) W=DD at *
 clear hq hV rn ra' rc' rb' bV ra rc rb hat atV num mu hU hw hf h0
 go_enter Tryz.func306,Tryz.ntmps306
 go_wp2_with (first | (rw [HQ.out,HV.out]) | go_in)
 refine QT.wp_region_p 7 (fun x=>x=U) (fun x=>DD (.returned (.tuple #[])) x) (by kernel_rfl) (by kernel_rfl) HU.out ?_
 iterate 9
  (refine QT.wpQ_step (fun K hK=>?_)
   go_simp
   first
    | (refine hK _ ?_;clear hK K)
    | (refine ⟨?_,hK _ ?_⟩;decide;clear hK K)
    | ((first | (apply Exists.intro;refine ⟨?_,hK _ ?_⟩) | refine ⟨⟨undef,?_⟩,hK _ ?_⟩)
       first
        | (apply QT.al_p;decide;(focus (intro wq hq;(first | (have e:=hq;simp only at e;subst e) | skip);first | (fail) | (unfold QP.oat;go_simp;first | done | exact ⟨by assumption,rfl⟩ | exact rfl | assumption | (first | ((with_reducible refine (NUM.out _ rfl).mono ?_);rintro e w' ⟨rfl,h'⟩;exact ⟨rfl,h'⟩) | ((with_reducible refine (MU.out _).mono ?_);rintro e w' ⟨rfl,rfl⟩;exact ⟨rfl,hq⟩))))))
        | (apply QT.al_dep;decide;decide;(focus (intro wq hq;(first | (have e:=hq;simp only at e;subst e) | skip);first | (fail) | (unfold QP.oat;go_simp;first | done | exact ⟨by assumption,rfl⟩ | exact rfl | assumption | (first | ((with_reducible refine (NUM.out _ rfl).mono ?_);rintro e w' ⟨rfl,h'⟩;exact ⟨rfl,h'⟩) | ((with_reducible refine (MU.out _).mono ?_);rintro e w' ⟨rfl,rfl⟩;exact ⟨rfl,hq⟩))))))
        | (apply QT.al_bef;decide;decide;(focus (intro wq hq;(first | (have e:=hq;simp only at e;subst e) | skip);first | (fail) | (unfold QP.oat;go_simp;first | done | exact ⟨by assumption,rfl⟩ | exact rfl | assumption | (first | ((with_reducible refine (NUM.out _ rfl).mono ?_);rintro e w' ⟨rfl,h'⟩;exact ⟨rfl,h'⟩) | ((with_reducible refine (MU.out _).mono ?_);rintro e w' ⟨rfl,rfl⟩;exact ⟨rfl,hq⟩))))))
        | (apply QT.al_ok;decide;(focus (intro wq hq;(first | (have e:=hq;simp only at e;subst e) | skip);first | (fail) | (unfold QP.oat;go_simp;first | done | exact ⟨by assumption,rfl⟩ | exact rfl | assumption | (first | ((with_reducible refine (NUM.out _ rfl).mono ?_);rintro e w' ⟨rfl,h'⟩;exact ⟨rfl,h'⟩) | ((with_reducible refine (MU.out _).mono ?_);rintro e w' ⟨rfl,rfl⟩;exact ⟨rfl,hq⟩)))));(focus (intro wq hq;(first | (have e:=hq;simp only at e;subst e) | skip);first | (fail) | (unfold QP.oat;go_simp;first | done | exact ⟨by assumption,rfl⟩ | exact rfl | assumption | (first | ((with_reducible refine (NUM.out _ rfl).mono ?_);rintro e w' ⟨rfl,h'⟩;exact ⟨rfl,h'⟩) | ((with_reducible refine (MU.out _).mono ?_);rintro e w' ⟨rfl,rfl⟩;exact ⟨rfl,hq⟩))))))
       clear hK K))
 refine QT.wpQ_nil ?_
 intro wz bz
 go_wp2
 go_end0
 exact bz
set_option maxRecDepth 100000 in
set_option maxHeartbeats 2000000 in
theorem w_hash (m:Msg) (h32:m.hash.length=32) (b p:Nat) (s:ByteArray) (W:World) (rb:M.RowAt W b 59 m.row) (hat:M.RowAt W p 207 #[.string s]) (hpb:p≠b) (hs:s.size≤4611686018427387904) :
 Calls Tryz.prog 195 #[.agg #[.pointer (some ⟨p,0,none⟩),.pointer none],.pointer (some ⟨b,0,none⟩)] W (DidW b p m.row (s++strOfNums m.hash) W):=by
 obtain ⟨q,hq⟩:∃ q,W.heap.size=q:=⟨_,rfl⟩
 obtain ⟨V,hV⟩:∃ V,W.alloc (.cells #[.pointer (some ⟨p,0,none⟩),.pointer none] 212)=V:=⟨_,rfl⟩
 have rn:M.RowAt V q 212 #[.pointer (some ⟨p,0,none⟩),.pointer none]:=by rw [←hV,← hq];exact M.RowAt.new W 212 _
 have rb':M.RowAt V b 59 m.row:=by rw [←hV];exact rb.alloc _
 have bV:M.But p W V:=by rw [←hV];exact (M.But.refl _ _).alloc _
 have atV:M.RowAt V p 207 #[.string s]:=by rw [←hV];exact hat.alloc _
 have n0:=(rn.cell 0).trans rfl
 have num:∀ x,x=V.drew→Calls Tryz.prog 125 #[.pointer (some ⟨p,0,none⟩),hashV m.hash] x fun e x'=>e=.returned (.tuple #[])∧DidW b p m.row (s++strOfNums m.hash) W (.returned (.tuple #[])) x':=by
  rintro x rfl
  refine (whash_any m.hash ⟨p,0,none⟩ s V.drew h32 hs (row_at atV.drew)).mono ?_
  rintro e x' ⟨rfl,hb⟩
  have hbut:=but_written hb
  exact ⟨rfl,rfl,hbut.row rb'.drew (fun e=>hpb e.symm),row_written atV.drew hb,bV.trans ((M.But.refl p V).drew.trans hbut)⟩
 have HQ:=Lib.hid hq;have HV:=Lib.hid hV;have NUM:=Lib.hid num
 obtain ⟨U,hU⟩:∃ U,V.drew=U:=⟨_,rfl⟩
 have u0:U.cell? ⟨q,0,none⟩=some (.pointer (some ⟨p,0,none⟩)):=by rw [←hU];exact n0
 have rg:∀ x,x=U→x.rangeAt b 4 (ints m.hash):=by rintro x rfl;rw [←hU];exact Msg.range rb'.drew h32
 have cu:∀ x,x=U→x.cell? ⟨q,0,none⟩=some (.pointer (some ⟨p,0,none⟩)):=by rintro x rfl;exact u0
 have iH:(Tryz.prog.info? 47).map (·.size)=some (ints m.hash).length:=by rw [ints_len',h32];kernel_rfl
 rw [hU] at NUM
 have HU:=Lib.hid hU;have RG:=Lib.hid rg;have CU:=Lib.hid cu
 unfold hashV at NUM
 generalize DidW b p m.row (s++strOfNums m.hash) W=DD at *
 generalize ints m.hash=H at *
 clear hq hV rn rb' bV rb hat atV num hU rg cu
 go_enter Tryz.func195,Tryz.ntmps195
 go_wp2_with (first | (rw [HQ.out,HV.out]) | fail)
 refine QP.wp_region_p 6 (fun x=>x=U) (fun x=>DD (.returned (.tuple #[])) x) (by kernel_rfl) (by kernel_rfl) HU.out ?_
 iterate 7
  (refine QP.wpQ_step (fun K hK=>?_)
   go_simp
   first
    | (refine hK _ ?_;clear hK K)
    | (refine ⟨?_,hK _ ?_⟩;decide;clear hK K)
    | ((first | (apply Exists.intro;refine ⟨?_,hK _ ?_⟩) | refine ⟨⟨undef,?_⟩,hK _ ?_⟩)
       first
        | (apply QP.al_p;decide;(focus (intro wq hq;(first | (have y0:=CU.out _ hq) | skip);first | ((refine QP.oat_load_mid (ty:=47) (x:=.tmp 18) (b:=b) (off:=4) (cs:=H) ?_ ?_ _ (RG.out _ hq) Tryz.underlying47 rfl iH hq;rfl;rfl)) | (unfold QP.oat;go_simp;first | done | exact ⟨by assumption,rfl⟩ | exact rfl | assumption | (first | ((with_reducible refine (NUM.out _ hq).mono ?_);rintro e w' ⟨rfl,h'⟩;exact ⟨rfl,h'⟩) | ((with_reducible refine (NUM.out _ rfl).mono ?_);rintro e w' ⟨rfl,h'⟩;exact ⟨rfl,h'⟩))))))
        | (apply QP.al_dep;decide;decide;(focus (intro wq hq;(first | (have y0:=CU.out _ hq) | skip);first | ((refine QP.oat_load_mid (ty:=47) (x:=.tmp 18) (b:=b) (off:=4) (cs:=H) ?_ ?_ _ (RG.out _ hq) Tryz.underlying47 rfl iH hq;rfl;rfl)) | (unfold QP.oat;go_simp;first | done | exact ⟨by assumption,rfl⟩ | exact rfl | assumption | (first | ((with_reducible refine (NUM.out _ hq).mono ?_);rintro e w' ⟨rfl,h'⟩;exact ⟨rfl,h'⟩) | ((with_reducible refine (NUM.out _ rfl).mono ?_);rintro e w' ⟨rfl,h'⟩;exact ⟨rfl,h'⟩))))))
        | (apply QP.al_bef;decide;decide;(focus (intro wq hq;(first | (have y0:=CU.out _ hq) | skip);first | ((refine QP.oat_load_mid (ty:=47) (x:=.tmp 18) (b:=b) (off:=4) (cs:=H) ?_ ?_ _ (RG.out _ hq) Tryz.underlying47 rfl iH hq;rfl;rfl)) | (unfold QP.oat;go_simp;first | done | exact ⟨by assumption,rfl⟩ | exact rfl | assumption | (first | ((with_reducible refine (NUM.out _ hq).mono ?_);rintro e w' ⟨rfl,h'⟩;exact ⟨rfl,h'⟩) | ((with_reducible refine (NUM.out _ rfl).mono ?_);rintro e w' ⟨rfl,h'⟩;exact ⟨rfl,h'⟩))))))
        | (apply QP.al_ok;decide;(focus (intro wq hq;(first | (have y0:=CU.out _ hq) | skip);first | ((refine QP.oat_load_mid (ty:=47) (x:=.tmp 18) (b:=b) (off:=4) (cs:=H) ?_ ?_ _ (RG.out _ hq) Tryz.underlying47 rfl iH hq;rfl;rfl)) | (unfold QP.oat;go_simp;first | done | exact ⟨by assumption,rfl⟩ | exact rfl | assumption | (first | ((with_reducible refine (NUM.out _ hq).mono ?_);rintro e w' ⟨rfl,h'⟩;exact ⟨rfl,h'⟩) | ((with_reducible refine (NUM.out _ rfl).mono ?_);rintro e w' ⟨rfl,h'⟩;exact ⟨rfl,h'⟩)))));(focus (intro wq hq;(first | (have y0:=CU.out _ hq) | skip);first | ((refine QP.oat_load_mid (ty:=47) (x:=.tmp 18) (b:=b) (off:=4) (cs:=H) ?_ ?_ _ (RG.out _ hq) Tryz.underlying47 rfl iH hq;rfl;rfl)) | (unfold QP.oat;go_simp;first | done | exact ⟨by assumption,rfl⟩ | exact rfl | assumption | (first | ((with_reducible refine (NUM.out _ hq).mono ?_);rintro e w' ⟨rfl,h'⟩;exact ⟨rfl,h'⟩) | ((with_reducible refine (NUM.out _ rfl).mono ?_);rintro e w' ⟨rfl,h'⟩;exact ⟨rfl,h'⟩))))))
       clear hK K))
 refine QP.wpQ_nil ?_
 intro wz bz
 go_wp2
 go_end0
 exact bz
open Go.Proofs.YtdebnbgjgkbmaaaGreatDoor.Oc
open Go.RowKit Go.Shelf
set_option linter.unusedVariables false
def flt (ev:Int):PanicEntry:={ v:=.iface 322 (.agg #[.int .i64 ev]),recovered:=false }
theorem must_err (ev:Int) (hz:(ev==0)=false) (w:World):Calls Tryz.prog 104 #[.int .i64 ev] w fun e w'=>e=.panicked [flt ev]∧w=w':=by
 have hz':(ev != 0)=true:=by simpa using hz
 go_enter Tryz.func104,Tryz.ntmps104
 go_wp2
 exact ⟨rfl,rfl,rfl⟩
theorem ta_nil (w:World):(Instr.typeAssert .nilIface 20 322 true).run Tryz.prog w=.ok (.tuple #[.agg #[.int .i64 0],.bool false]) w:=by kernel_rfl
theorem ta_flt (ev:Int) (w:World):(Instr.typeAssert (.iface 322 (.agg #[.int .i64 ev])) 20 322 true).run Tryz.prog w=.ok (.tuple #[.agg #[.int .i64 ev],.bool true]) w:=by kernel_rfl
set_option maxRecDepth 100000 in
theorem tr_idle (p:Nat) (w:World) :
 CallsD Tryz.prog 196 #[.pointer (some ⟨p,0,none⟩)] .returning w fun e u' w'=>e=.returned (.tuple #[])∧u'=.returning∧Below w.heap.size w w':=by
 have t0:=ta_nil
 refine callsD_of_wpS Tryz.func196 rfl fun c₀ cs hu=>?_
 change Code.wpS Tryz.prog _ _ { tmps:=#[.pointer (some ⟨p,0,none⟩),undef,undef,undef,undef,undef,undef,undef,undef,undef,undef],defers:=[] } (c₀::cs) w
 apply wpS_seq
 apply wpS_region
 simp [wpOpsS,go_sem,recoverD,hu,Exit.thenS,t0]
 apply wpS_seq
 apply wpS_region
 simp [wpOpsS,go_sem,Exit.thenS]
 refine wpS_cond (t:=false) (by simp [Act.eval]) ?_
 simp only [Bool.false_eq_true,if_false]
 refine wpS_of_wp (wp_skip ?_)
 have hb:=(Below.refl w.heap.size w).alloc (Nat.le_refl _) (.cells #[.int .i64 0] 322)
 cases c₀
 simp_all [bodyPostS,results,Tryz.results196]
set_option maxRecDepth 100000 in
theorem tr_caught (p:Nat) (ev x:Int) (older:List PanicEntry) (w:World) (hc:w.cell? ⟨p,0,none⟩=some (.int .i64 x)) (hz:w.frozen? ⟨p,0,none⟩=false) :
 CallsD Tryz.prog 196 #[.pointer (some ⟨p,0,none⟩)] (.panicking (flt ev::older)) w fun e u' w'=>
  e=.returned (.tuple #[])∧u'=.panicking ({ flt ev with recovered:=true }::older)∧w'=(w.alloc (.cells #[.int .i64 ev] 322)).setCell ⟨p,0,none⟩ (.int .i64 ev):=by
 have t0:=ta_flt ev
 obtain ⟨V,hV⟩:∃ V,w.alloc (.cells #[.int .i64 ev] 322)=V:=⟨_,rfl⟩
 have c1:V.cell? ⟨p,0,none⟩=some (.int .i64 x):=by
  rw [←hV,((Below.refl w.heap.size w).alloc (Nat.le_refl _) _).cell (World.block_lt_of_cell? w _ hc)];exact hc
 have c2:V.frozen? ⟨p,0,none⟩=false:=by
  rw [←hV,((Below.refl w.heap.size w).alloc (Nat.le_refl _) _).frozen (World.block_lt_of_cell? w _ hc)];exact hz
 have c3:V.cell? ⟨w.heap.size,0,none⟩=some (.int .i64 ev):=by rw [←hV];exact ((M.RowAt.new w 322 #[.int .i64 ev]).cell 0).trans rfl
 refine callsD_of_wpS Tryz.func196 rfl fun c₀ cs hu=>?_
 change Code.wpS Tryz.prog _ _ { tmps:=#[.pointer (some ⟨p,0,none⟩),undef,undef,undef,undef,undef,undef,undef,undef,undef,undef],defers:=[] } (c₀::cs) w
 apply wpS_seq
 apply wpS_region
 simp [wpOpsS,go_sem,recoverD,hu,Exit.thenS,t0,flt,hV]
 apply wpS_seq
 apply wpS_region
 simp [wpOpsS,go_sem,Exit.thenS]
 refine wpS_cond (t:=true) (by simp [Act.eval]) ?_
 simp only [if_true]
 apply wpS_region
 simp [wpOpsS,go_sem,c1,c2,c3,bodyPostS,results,Tryz.results196]
open Go.Proofs.YtdebnbgjgkbmaaaGreatDoor.Oc
open Go.RowKit Go.Shelf
set_option linter.unusedVariables false
set_option maxRecDepth 100000 in
set_option maxHeartbeats 4000000 in
theorem try_any {g n cap:Nat} (fk:Nat→FuncId) (caps:Nat→Array Value) (W:World) (St:Nat→World→Prop) (Bd:Int→World→Prop) (hn:n≤8) (en:∀ k,k<n→Enters Tryz.prog (fk k))
 (hlist:∀ k X,k<n→St k X→X.cell? ⟨g,k,none⟩=some (.func (.func (fk k)) #[] (caps k)))
 (hst:∀ k X X' q,(k=0∨k=n)→W.heap.size≤q→M.But q X X'→St k X→St k X') (hbd:∀ ev X X' q,W.heap.size≤q→M.But q X X'→Bd ev X→Bd ev X')
 (step:∀ k,k<n→∀ X,St k X→Calls Tryz.prog (fk k) (caps k) X fun e X'=>(e=.returned (.tuple #[])∧St (k+1) X'∧Kp W.heap.size X X')∨(∃ ev,e=.panicked [flt ev]∧(ev==0)=false∧Bd ev X'∧Kp W.heap.size X X'))
 (h0:St 0 W) :
 Calls Tryz.prog 102 #[.slice (some ⟨g,0,none⟩) n cap] W fun e W'=>(e=.returned (.int .i64 0)∧St n W')∨(∃ ev,e=.returned (.int .i64 ev)∧(ev==0)=false∧Bd ev W'):=by
 obtain ⟨q,hq⟩:∃ q,W.heap.size=q:=⟨_,rfl⟩
 obtain ⟨V,hV⟩:∃ V,W.alloc (.cells #[.int .i64 0] 26)=V:=⟨_,rfl⟩
 have rn:M.RowAt V q 26 #[.int .i64 0]:=by rw [←hV,← hq];exact M.RowAt.new W 26 _
 rw [hq] at hst hbd step
 have s0:St 0 V:=hst 0 W V q (.inl rfl) (Nat.le_refl _) (by rw [←hV];exact (M.But.refl _ _).alloc _) h0
 have HQ:=Lib.hid hq;have HV:=Lib.hid hV;have RN:=Lib.hid rn;have S0:=Lib.hid s0
 have EN:=Lib.hid en;have HL:=Lib.hid hlist;have STEP:=Lib.hid step;have HST:=Lib.hid hst;have HBD:=Lib.hid hbd
 have hmf:=mkf
 clear en hlist step hst hbd h0 hq hV rn s0
 go_enter_defers Tryz.func102,Tryz.ntmps102
 go_wp2_with (rw [HQ.out,HV.out])
 go_loopg [8] n (fun m i X=>∃ (k:Nat),m+k=n∧i=.int .i64 k∧St k X∧M.RowAt X q 26 #[.int .i64 0])
 case atStart=>exact ⟨0,by omega,rfl,S0.out,RN.out⟩
 case round=>
  obtain ⟨k,hm,rfl,st,rq⟩:=hrel
  have HM:=Lib.hid hm
  clear hm
  by_cases hlt:k<n
  · have c0:=HL.out k _ hlt st
    have en:=EN.out k hlt
    have SK:=Lib.hid (STEP.out k hlt _ st)
    have RQ:=Lib.hid rq
    clear st rq
    generalize hfk:fk k=f at *
    generalize hcaps:caps k=cs at *
    go_wp2_with (first | (rw [en,Oper.upon_enter];refine (SK.out).mono ?_;rintro e w2 (⟨rfl,st2,kp2⟩ | ⟨ev,rfl,hz,hb,kp2⟩)) | fail)
    · go_roundg (n-(k+1))
      case measure=>have:=HM.out;omega
      case rel=>exact ⟨k+1,by have:=HM.out;omega,by go_num,st2,kp2 _ _ _ rfl (Nat.le_refl _) RQ.out⟩
    · have rq2:=kp2 _ _ _ rfl (Nat.le_refl _) RQ.out
      refine leaves_cons (f:=196) (args:=#[.pointer (some ⟨q,0,none⟩)]) (by simp) (by simp [go_sem]) ?_
      refine (tr_caught q ev 0 [] w2 ((rq2.cell 0).trans rfl) (rq2.frozen 0)).mono ?_
      rintro e u' w3 ⟨rfl,rfl,rfl⟩
      have r3:=(rq2.alloc (.cells #[.int .i64 ev] 322)).set 0 (.int .i64 ev)
      have c3:=(r3.cell 0).trans rfl
      have hb3:=HBD.out ev w2 _ q (Nat.le_refl _) (((M.But.refl q w2).alloc (.cells #[.int .i64 ev] 322)).set (p:=⟨q,0,none⟩) (.inl rfl) (.int .i64 ev)) hb
      obtain ⟨w4,hw4⟩:∃ w4,(w2.alloc (.cells #[.int .i64 ev] 322)).setCell ⟨q,0,none⟩ (.int .i64 ev)=w4:=⟨_,rfl⟩
      rw [hw4] at c3 hb3 ⊢
      have HB3:=Lib.hid hb3;have HZ:=Lib.hid hz
      clear r3 rq2 hw4 hb3 hb hz kp2
      simp [Leaves,settle,results,Tryz.results102,go_sem,c3]
      exact .inr ⟨by simpa using HZ.out,HB3.out⟩
  · obtain rfl:k=n:=by have:=HM.out;omega
    have f0:=rq.frozen 0
    have c0:=rq.cell 0
    have r2:=rq.set 0 (.int .i64 0)
    have c2:=(r2.cell 0).trans rfl
    have st2:=HST.out _ _ _ q (.inr rfl) (Nat.le_refl _) ((M.But.refl q _).set (p:=⟨q,0,none⟩) (.inl rfl) (.int .i64 0)) st
    have ST2:=Lib.hid st2;have R2:=Lib.hid r2
    clear rq st st2 r2
    obtain ⟨w2,hw2⟩:∃ w2,wr.setCell ⟨q,0,none⟩ (.int .i64 0)=w2:=⟨_,rfl⟩
    rw [hw2] at c2 ST2 R2
    have HW2:=Lib.hid hw2
    clear hw2
    go_wp2_with (first | (rw [HW2.out]) | fail)
    refine leaves_cons (f:=196) (args:=#[.pointer (some ⟨q,0,none⟩)]) (by simp) (by simp [go_sem]) ?_
    refine (tr_idle q w2).mono ?_
    rintro e u' w3 ⟨rfl,rfl,b3⟩
    have st3:=HST.out _ _ w3 q (.inr rfl) (Nat.le_refl _) (M.But.ofBelow q b3) ST2.out
    have c3:=((R2.out.call b3).cell 0).trans rfl
    have ST3:=Lib.hid st3
    clear st3 b3 c2
    simp [Leaves,settle,results,Tryz.results102,go_sem,c3]
    exact ST3.out
open Go.Proofs.YtdebnbgjgkbmaaaGreatDoor.Oc
open Go.RowKit Go.Shelf
set_option linter.unusedVariables false
def fbytes (m:Msg):Fld→ByteArray
 | .chan=>strOfNums (numB m.chan 4)
 | .id=>strOfNums (numB m.id 8)
 | .amount=>strOfNums (numB m.amount 8)
 | .hash=>strOfNums m.hash
 | .expiry=>strOfNums (numB m.expiry 4)
 | .number=>strOfNums (numB m.number 2)
def cat (m:Msg) (s:ByteArray) (fl:List Fld):ByteArray:=fl.foldl (fun s f=>s++fbytes m f) s
theorem cat_take {fl:List Fld} {k:Nat} {f:Fld} (h:fl[k]?=some f) (m:Msg) (s:ByteArray):cat m s (fl.take (k+1))=cat m s (fl.take k)++fbytes m f:=by
 rw [List.take_add_one,h];simp [cat,List.foldl_append]
theorem str_size (l:List Int):(strOfNums l).size=l.length:=by
 simp [strOfNums,ByteArray.size]
theorem num_len (n wd:Int) (h0:0≤wd):(numB n wd).length≤wd.toNat:=by
 unfold numB
 split
 · exact Nat.zero_le _
 · simp [top]
theorem fbytes_le (m:Msg) (h:m.hash.length=32) (f:Fld):(fbytes m f).size≤32:=by
 cases f
 all_goals (simp only [fbytes];rw [str_size])
 · exact Nat.le_trans (num_len _ _ (by decide)) (by decide)
 · exact Nat.le_trans (num_len _ _ (by decide)) (by decide)
 · exact Nat.le_trans (num_len _ _ (by decide)) (by decide)
 · omega
 · exact Nat.le_trans (num_len _ _ (by decide)) (by decide)
 · exact Nat.le_trans (num_len _ _ (by decide)) (by decide)
theorem cat_le (m:Msg) (h:m.hash.length=32):∀ (fl:List Fld) (s:ByteArray),(cat m s fl).size≤s.size+32*fl.length
 | [],s=>Nat.le_refl _
 | f::r,s=>by
   have h1:=cat_le m h r (s++fbytes m f)
   have h2:=fbytes_le m h f
   rw [ByteArray.size_append] at h1
   show (cat m (s++fbytes m f) r).size≤_
   rw [List.length_cons];omega
structure Fits (m:Msg):Prop where
 e0:0≤m.expiry
 e1:m.expiry≤1073741824
 n0:0≤m.number
 n1:m.number≤65535
theorem w_step {lo b p:Nat} {f:Fld} {u:Value} {X:World} (h:FV lo X f u) (m:Msg) (ho:m.ok) (ft:Fits m) (s:ByteArray) (hs:s.size≤1000000) (rb:M.RowAt X b 59 m.row) (hat:M.RowAt X p 207 #[.string s]) (hpb:p≠b) :
 Calls Tryz.prog (fnOf f) (#[.agg #[.pointer (some ⟨p,0,none⟩),.pointer none],.pointer (some ⟨b,0,none⟩)]++capsV u) X (DidW b p m.row (s++fbytes m f) X):=by
 have e0:=ft.e0;have e1:=ft.e1;have n0:=ft.n0;have n1:=ft.n1
 cases f
 · obtain ⟨a,c,rfl,_,_,ra,rc⟩:=h;exact w_chan m ho.h32 a c b p s X ra rc rb hat hpb (by omega) ho.c0 (by have:=ho.c1;omega) (by have:=ho.c1;show m.chan<4294967296;omega)
 · obtain ⟨a,c,rfl,_,_,ra,rc⟩:=h;exact w_id m ho.h32 a c b p s X ra rc rb hat hpb (by omega) ho.i0 ho.i1 (by have:=ho.i1;show m.id<18446744073709551616;omega)
 · obtain ⟨a,c,rfl,_,_,ra,rc⟩:=h;exact w_amount m ho.h32 a c b p s X ra rc rb hat hpb (by omega) ho.a0 ho.a1 (by have:=ho.a1;show m.amount<18446744073709551616;omega)
 · have h':u=.func (.func 195) #[] #[]:=h
   subst h'
   exact w_hash m ho.h32 b p s X rb hat hpb (by omega)
 · obtain ⟨a,c,rfl,_,_,ra,rc⟩:=h;exact w_expiry m ho.h32 a c b p s X ra rc rb hat hpb (by omega) e0 (by omega) (by show m.expiry<4294967296;omega)
 · obtain ⟨a,c,rfl,_,_,ra,rc⟩:=h;exact w_number m ho.h32 a c b p s X ra rc rb hat hpb (by omega) n0 (by omega) (by show m.number<65536;omega)
theorem At.call {w w':World} {p:Nat} {s:ByteArray} (h:At w ⟨p,0,none⟩ s) (hb:Below w.heap.size w w'):At w' ⟨p,0,none⟩ s:=
 h.below hb (World.block_lt_of_cell? w _ h.cell)
theorem w_through {b p lo:Nat} (fl:List Fld) (h8:fl.length≤8) (v:Value) (W:World) (hFL:FL lo W v fl) (hlo:lo≤W.heap.size) (hpb:p≠b) (m:Msg) (ho:m.ok) (ft:Fits m) (s:ByteArray) (hs:s.size≤1000) (rb:M.RowAt W b 59 m.row) (hat:M.RowAt W p 207 #[.string s]) :
 Calls Tryz.prog 107 #[.agg #[.pointer (some ⟨p,0,none⟩),.pointer none],v,.pointer (some ⟨b,0,none⟩)] W (DidW b p m.row (cat m s fl) W):=by
 refine (through_list (b:=b) (some ⟨p,0,none⟩) none fl h8 v W hFL hlo (fun k X=>M.RowAt X b 59 m.row∧M.RowAt X p 207 #[.string (cat m s (fl.take k))]∧M.But p W X) (fun _ _=>False) ⟨rb,hat,M.But.refl _ _⟩ (fun k X X' hst hbl=>⟨hst.1.call hbl,hst.2.1.call hbl,hst.2.2.trans (M.But.ofBelow p hbl)⟩) (fun k f hf X u hv hst=>?_)).mono ?_
 · have hc:=cat_le m ho.h32 (fl.take k) s
   rw [List.length_take] at hc
   refine (w_step hv m ho ft _ (by omega) hst.1 hst.2.1 hpb).mono ?_
   rintro e X' ⟨rfl,h1,h2,h3⟩
   exact .inl ⟨rfl,⟨h1,by rw [cat_take hf];exact h2,hst.2.2.trans h3⟩,Kp.of_butT h3 hst.2.1 rfl⟩
 · rintro e W' (⟨rfl,h1,h2,h3⟩ | ⟨h,_⟩)
   · rw [List.take_length] at h2
     exact ⟨rfl,h1,h2,h3⟩
   · exact h.elim
set_option maxRecDepth 100000 in
theorem enc1 (m:Msg) (ho:m.ok) (hk:1≤m.kind∧m.kind≤9) (wb p b:Nat) (s:ByteArray) (hs:s.size≤1000) (W:World) (rw':M.RowAt W wb 205 #[.pointer (some ⟨p,0,none⟩)]) (rb:M.RowAt W b 59 m.row) (rp:M.RowAt W p 207 #[.string s]) (hpb:p≠b) :
 Calls Tryz.prog 103 #[.pointer (some ⟨wb,0,none⟩),.pointer (some ⟨b,0,none⟩)] W (DidW b p m.row (s++strOfNums (numB m.kind 1)) W):=by
 have c0:=(rw'.cell 0).trans rfl
 have c1:=(rb.cell 0).trans Msg.g0
 have hw:IntKind.u64.wrap m.kind=m.kind:=u64_in _ (by omega)
 have num:=number_any m.kind 1 ⟨p,0,none⟩ s W (by omega) (by omega) (by omega) (row_at rp)
 rw [numE_ok (by decide) (by decide) (by omega) (by show m.kind<256;omega)] at num
 have fin:∀ w',Below W.heap.size (W.setCell ⟨p,0,none⟩ (.string (s++strOfNums (numB m.kind 1)))) w'→DidW b p m.row (s++strOfNums (numB m.kind 1)) W (.returned (.tuple #[])) w':=fun w' hb=>
  ⟨rfl,(but_written hb).row rb (fun e=>hpb e.symm),row_written rp hb,but_written hb⟩
 have NUM:=Lib.hid num;have FIN:=Lib.hid fin
 generalize DidW b p m.row (s++strOfNums (numB m.kind 1)) W=DD at *
 generalize m.kind=k at *
 clear num fin rw' rb rp hs hpb hk ho
 go_enter Tryz.func103,Tryz.ntmps103
 go_wp2_with fail
 refine (NUM.out).mono ?_
 rintro e w1 ⟨rfl,hb⟩
 have DN:=Lib.hid (FIN.out _ hb)
 clear hb
 go_wp2_with fail
 refine (must_ok _).mono ?_
 rintro e w2 ⟨rfl,rfl⟩
 go_wp2
 go_end0
 exact DN.out
set_option maxRecDepth 100000 in
theorem enc2 {lo:Nat} (fl:List Fld) (h8:fl.length≤8) (v:Value) (m:Msg) (ho:m.ok) (ft:Fits m) (wb lb p b:Nat) (s:ByteArray) (hs:s.size≤1000) (W:World) (hFL:FL lo W v fl) (hlo:lo≤W.heap.size) (rw':M.RowAt W wb 205 #[.pointer (some ⟨p,0,none⟩)]) (rl:M.RowAt W lb 202 #[v]) (rb:M.RowAt W b 59 m.row) (rp:M.RowAt W p 207 #[.string s]) (hpb:p≠b) :
 Calls Tryz.prog 106 #[.pointer (some ⟨wb,0,none⟩),.pointer (some ⟨lb,0,none⟩),.pointer (some ⟨b,0,none⟩)] W (DidW b p m.row (cat m s fl) W):=by
 have c0:=(rw'.cell 0).trans rfl
 have c1:=(rl.cell 0).trans rfl
 have th:=w_through fl h8 v W hFL hlo hpb m ho ft s hs rb rp
 obtain ⟨A,L,C,rfl⟩:∃ A L C,v=.slice A L C:=by obtain ⟨g,cap,C,hv,_⟩:=hFL;exact ⟨_,_,_,hv⟩
 have TH:=Lib.hid (th.mono (R':=fun e w'=>e=.returned (.tuple #[])∧DidW b p m.row (cat m s fl) W (.returned (.tuple #[])) w') fun e w' h=>⟨h.1,by obtain rfl:=h.1;exact h⟩)
 generalize DidW b p m.row (cat m s fl) W=DD at *
 clear th rw' rl rb rp hs hpb ho ft hFL h8 hlo
 go_enter Tryz.func106,Tryz.ntmps106
 go_wp2_with fail
 refine (TH.out).mono ?_
 rintro e w1 ⟨rfl,hd⟩
 have HD:=Lib.hid hd
 clear hd
 go_wp2
 go_end0
 exact HD.out
structure EB (w w2:World) (n l:Nat) (R:Array Value) (v:Value) (s:ByteArray) (X:World):Prop where
 rb:M.RowAt X n 59 R
 rl:M.RowAt X l 202 #[v]
 rp:M.RowAt X (l+1) 207 #[.string s]
 rw:M.RowAt X (l+2) 205 #[.pointer (some ⟨l+1,0,none⟩)]
 rg:M.RowAt X (l+3) 1 #[.func (.func 103) #[] #[.pointer (some ⟨l+2,0,none⟩),.pointer (some ⟨n,0,none⟩)],.func (.func 106) #[] #[.pointer (some ⟨l+2,0,none⟩),.pointer (some ⟨l,0,none⟩),.pointer (some ⟨n,0,none⟩)]]
 ka:∀ g t C,okT t=true→M.RowAt w2 g t C→M.RowAt X g t C
 bel:Below n w X
 nl:n<l
 wl:w2.heap.size=l
theorem EB.but {w w2 X X':World} {n l q:Nat} {R:Array Value} {v:Value} {s:ByteArray} (h:EB w w2 n l R v s X) (hq:l+4≤q) (hb:M.But q X X'):EB w w2 n l R v s X':=
 have h1:=h.nl
 have h2:=h.wl
 ⟨hb.row h.rb (by omega),hb.row h.rl (by omega),hb.row h.rp (by omega),hb.row h.rw (by omega),hb.row h.rg (by omega),fun g t C ht hr=>hb.row (h.ka g t C ht hr) (by have:=hr.lt;omega),hb.below h.bel (by omega) (by have:=h.rg.lt;omega),h.nl,h.wl⟩
theorem EB.did {w w2 X X':World} {n l:Nat} {R:Array Value} {v:Value} {s s':ByteArray} {e:Ending} (h:EB w w2 n l R v s X) (hd:DidW n (l+1) R s' X e X'):EB w w2 n l R v s' X'∧∀ q,Kp q X X':=by
 obtain ⟨_,h1,h2,h3⟩:=hd
 have hk:∀ q,Kp q X X':=fun q=>Kp.of_butT h3 h.rp rfl
 have hnl:=h.nl
 exact ⟨⟨h1,h3.row h.rl (by omega),h2,h3.row h.rw (by omega),h3.row h.rg (by omega),fun g t C ht hr=>hk 0 g t C ht (Nat.zero_le _) (h.ka g t C ht hr),h3.below h.bel (by omega) (by have:=h.rg.lt;omega),h.nl,h.wl⟩,hk⟩
theorem enters45:Enters Tryz.prog 103:=enters_of Tryz.func103 (by kernel_rfl) rfl
theorem enters47:Enters Tryz.prog 106:=enters_of Tryz.func106 (by kernel_rfl) rfl
def kindB (m:Msg):ByteArray:=⟨#[]⟩++strOfNums (numB m.kind 1)
theorem enc_try {w w2 W:World} {n l lo:Nat} {m:Msg} {v:Value} (ho:m.ok) (ft:Fits m) (hkk:1≤m.kind∧m.kind≤9) (fl:List Fld) (h8:fl.length≤8) (hFL:FL lo w2 v fl) (hlo:lo≤w2.heap.size) (h:EB w w2 n l m.row v ⟨#[]⟩ W) :
 Calls Tryz.prog 102 #[.slice (some ⟨l+3,0,none⟩) 2 2] W fun e W'=>e=.returned (.int .i64 0)∧EB w w2 n l m.row v (cat m (kindB m) fl) W':=by
 have hsz:l+4≤W.heap.size:=h.rg.lt
 have hks:(kindB m).size≤100:=by
  unfold kindB
  rw [ByteArray.size_append,str_size]
  have:=num_len m.kind 1 (by decide)
  show 0+_≤100
  omega
 refine (try_any (g:=l+3) (n:=2) (cap:=2) (fun k=>if k=0 then 103 else 106) (fun k=>if k=0 then #[.pointer (some ⟨l+2,0,none⟩),.pointer (some ⟨n,0,none⟩)] else #[.pointer (some ⟨l+2,0,none⟩),.pointer (some ⟨l,0,none⟩),.pointer (some ⟨n,0,none⟩)]) W
  (fun k X=>EB w w2 n l m.row v (if k=0 then ⟨#[]⟩ else if k=1 then kindB m else cat m (kindB m) fl) X) (fun _ _=>False) (by decide) (fun k hk=>?_) (fun k X hk hX=>?_) (fun k X X' q _ hq hb hX=>hX.but (by omega) hb) (fun _ _ _ _ _ _ hf=>hf) (fun k hk X hX=>?_) h).mono ?_
 · match k,hk with
   | 0,_=>exact enters45
   | 1,_=>exact enters47
 · match k,hk with
   | 0,_=>exact (hX.rg.cell 0).trans rfl
   | 1,_=>exact (hX.rg.cell 1).trans rfl
 · match k,hk with
   | 0,_=>
     refine (enc1 m ho hkk (l+2) (l+1) n ⟨#[]⟩ (by decide) X hX.rw hX.rb hX.rp (by have:=hX.nl;omega)).mono ?_
     rintro e X' hd
     obtain rfl:=hd.1
     obtain ⟨h1,h2⟩:=hX.did hd
     exact .inl ⟨rfl,h1,h2 _⟩
   | 1,_=>
     refine (enc2 fl h8 v m ho ft (l+2) l (l+1) n (kindB m) (by omega) X (hFL.kept (fun g t C ht _ hr=>hX.ka g t C ht hr)) (by have:=hX.rg.lt;have:=hX.wl;omega) hX.rw hX.rl hX.rb hX.rp (by have:=hX.nl;omega)).mono ?_
     rintro e X' hd
     obtain rfl:=hd.1
     obtain ⟨h1,h2⟩:=hX.did hd
     exact .inl ⟨rfl,h1,h2 _⟩
 · rintro e W' (⟨rfl,h1⟩ | ⟨_,_,_,hf⟩)
   · exact ⟨rfl,h1⟩
   · exact hf.elim
open Go.Proofs.YtdebnbgjgkbmaaaGreatDoor.Oc
open Go.RowKit Go.Shelf
set_option linter.unusedVariables false
theorem may_kind {m:Msg} {fl:List Fld} (h:fieldsOf m.kind=some fl):1≤m.kind∧m.kind≤9:=by
 by_cases hk:1≤m.kind∧m.kind≤9
 · exact hk
 · unfold fieldsOf at h
   rw [if_neg (by omega),if_neg (by omega),if_neg (by omega),if_neg (by omega),if_neg (by omega),if_neg (by omega),if_neg (by omega),if_neg (by omega),if_neg (by omega)] at h
   cases h
def encB (m:Msg) (fl:List Fld):ByteArray:=cat m (kindB m) fl
set_option maxRecDepth 100000 in
set_option maxHeartbeats 4000000 in
theorem enc_yes (m:Msg) (ho:m.ok) (fl:List Fld) (hf:fieldsOf m.kind=some fl) (hm:MayP m fl) (w:World) :
 Calls Tryz.prog 27 #[.agg m.row] w fun e w'=>e=.returned (.tuple #[.string (encB m fl),.int .i64 0])∧Below w.heap.size w w':=by
 obtain ⟨n,hn⟩:∃ n,w.heap.size=n:=⟨_,rfl⟩
 obtain ⟨V,hV⟩:∃ V,w.alloc (.cells m.row 59)=V:=⟨_,rfl⟩
 have rV:M.RowAt V n 59 m.row:=by rw [←hV,← hn];exact M.RowAt.new w 59 _
 have bV:Below n w V:=by rw [←hV,← hn];exact (Below.refl _ w).alloc (Nat.le_refl _) _
 have sV:V.heap.size=n+1:=by rw [←hV];simp [hn]
 have may:=may_any m ho true ⟨fun _=>⟨fl,hf,hm⟩,fun _=>rfl⟩ V
 have fa:=fun x=>fields_any m.kind x
 rw [hf] at fa
 simp only at fa
 have cell:=fun (W:World) (hr:M.RowAt W n 59 m.row)=>(hr.cell 0).trans Msg.g0
 have iX:=Msg.info ho.h32
 have et:=fun (w2 W:World) (l lo:Nat) (v:Value)=>enc_try (w:=w) (w2:=w2) (W:=W) (n:=n) (l:=l) (lo:=lo) (v:=v) ho ⟨hm.e0,hm.e1,hm.n0,hm.n1⟩ (may_kind hf) fl (fields_len hf)
 have HN:=Lib.hid hn;have HV:=Lib.hid hV;have CELL:=Lib.hid cell;have RV:=Lib.hid rV;have BV:=Lib.hid bV
 have SV:=Lib.hid sV;have MAY:=Lib.hid may;have FA:=Lib.hid fa;have ET:=Lib.hid et
 rw [hn]
 clear may fa cell bV sV hV hn hm hf ho et
 have hmf:=mkf
 generalize m.row=R at *
 generalize m.kind=kd at *
 go_enter Tryz.func27,Tryz.ntmps27
 go_wp2_with (first | (rw [HN.out,HV.out]) | (refine wpList_load_row (x:=.tmp 1) (ty:=59) (g:=n) (cs:=R) (t:=59) (fr:=(0,0)) ?_ ?_ ?_ _ rV Tryz.underlying59 rfl iX ?_;rfl;rfl;rfl) | fail)
 refine (MAY.out).mono ?_
 rintro e w1 ⟨rfl,b1⟩
 have r1:=RV.out.call b1
 have c1:=CELL.out w1 r1
 have B1:=Lib.hid (BV.out.trans (b1.mono (by have:=SV.out;omega)))
 have Z1:=Lib.hid (show n+1≤w1.heap.size by have:=SV.out;have:=b1.size;omega)
 have R1:=Lib.hid r1
 clear b1 r1 rV
 go_wp2_with fail
 refine (FA.out w1).mono ?_
 rintro e w2 ⟨v,rfl,fl2,b2⟩
 obtain ⟨l,hl⟩:∃ l,w2.heap.size=l:=⟨_,rfl⟩
 have hnl:n<l:=by have:=Z1.out;have:=b2.size;omega
 have r2:=R1.out.call b2
 have B2:=B1.out.trans (b2.mono (by have:=Z1.out;omega))
 have hlo2:=b2.size
 obtain ⟨A1,L1,C1,rfl⟩:∃ A L C,v=.slice A L C:=by obtain ⟨g,cap,C,hv,_⟩:=fl2;exact ⟨_,_,_,hv⟩
 obtain ⟨w3,hw3⟩:∃ w3,w2.alloc (.cells #[.slice A1 L1 C1] 202)=w3:=⟨_,rfl⟩
 have s3:w3.heap.size=l+1:=by rw [←hw3];simp [hl]
 obtain ⟨w4,hw4⟩:∃ w4,w3.alloc (.cells #[.string ⟨#[]⟩] 207)=w4:=⟨_,rfl⟩
 have s4:w4.heap.size=l+2:=by rw [←hw4];simp [s3]
 obtain ⟨w5,hw5⟩:∃ w5,w4.alloc (.cells #[.pointer (some ⟨l+1,0,none⟩)] 205)=w5:=⟨_,rfl⟩
 have s5:w5.heap.size=l+3:=by rw [←hw5];simp [s4]
 obtain ⟨w6,hw6⟩:∃ w6,w5.alloc (.cells #[.func (.func 103) #[] #[.pointer (some ⟨l+2,0,none⟩),.pointer (some ⟨n,0,none⟩)],.func (.func 106) #[] #[.pointer (some ⟨l+2,0,none⟩),.pointer (some ⟨l,0,none⟩),.pointer (some ⟨n,0,none⟩)]] 1)=w6:=⟨_,rfl⟩
 have b6:Below w2.heap.size w2 w6:=by
  rw [←hw6,← hw5,← hw4,← hw3]
  exact ((((Below.refl _ w2).alloc (Nat.le_refl _) _).alloc (by simp) _).alloc (by simp;omega) _).alloc (by simp;omega) _
 have rl6:M.RowAt w6 l 202 #[.slice A1 L1 C1]:=by
  rw [←hw6,← hw5,← hw4]
  exact ((by rw [←hw3,← hl];exact M.RowAt.new w2 202 _:M.RowAt w3 l 202 _).alloc _ |>.alloc _).alloc _
 have rp6:M.RowAt w6 (l+1) 207 #[.string ⟨#[]⟩]:=by
  rw [←hw6,← hw5]
  exact ((by rw [←hw4,← s3];exact M.RowAt.new w3 207 _:M.RowAt w4 (l+1) 207 _).alloc _).alloc _
 have rw6:M.RowAt w6 (l+2) 205 #[.pointer (some ⟨l+1,0,none⟩)]:=by
  rw [←hw6]
  exact (by rw [←hw5,← s4];exact M.RowAt.new w4 205 _:M.RowAt w5 (l+2) 205 _).alloc _
 have rg6:M.RowAt w6 (l+3) 1 #[.func (.func 103) #[] #[.pointer (some ⟨l+2,0,none⟩),.pointer (some ⟨n,0,none⟩)],.func (.func 106) #[] #[.pointer (some ⟨l+2,0,none⟩),.pointer (some ⟨l,0,none⟩),.pointer (some ⟨n,0,none⟩)]]:=by
  rw [←hw6,← s5];exact M.RowAt.new w5 1 _
 have eb:EB w w2 n l R (.slice A1 L1 C1) ⟨#[]⟩ w6:=⟨r2.call b6,rl6,rp6,rw6,rg6,fun g t C _ hr=>hr.call b6,B2.trans (b6.mono (by omega)),hnl,hl⟩
 have T6:=Lib.hid (ET.out w2 w6 l w1.heap.size _ fl2 hlo2 eb)
 have HL:=Lib.hid hl;have HW3:=Lib.hid hw3;have HW4:=Lib.hid hw4;have HW5:=Lib.hid hw5;have HW6:=Lib.hid hw6
 have S3:=Lib.hid s3;have S4:=Lib.hid s4;have S5:=Lib.hid s5
 clear hl hw3 hw4 hw5 hw6 s3 s4 s5 eb rl6 rp6 rw6 rg6 b6 B2 r2 b2 fl2 hlo2 hnl
 go_wp2_with (first | (rw [HL.out,HW3.out]) | (rw [S3.out,HW4.out]) | (rw [S4.out,HW5.out]) | (rw [S5.out,HW6.out]) | fail)
 refine (T6.out).mono ?_
 rintro e w7 ⟨rfl,eb7⟩
 have c7:=(eb7.rw.cell 0).trans rfl
 have BY:=Lib.hid (wbytes_any _ _ w7 (row_at eb7.rp))
 have B7:=Lib.hid eb7.bel
 clear eb7
 go_wp2_with fail
 refine (BY.out).mono ?_
 rintro e w8 ⟨rfl,rfl⟩
 go_wp2
 go_ret2
 exact ⟨rfl,B7.out⟩
open Go.Proofs.YtdebnbgjgkbmaaaGreatDoor.Oc
open Go.RowKit Go.Shelf
set_option linter.unusedVariables false
structure B2 (b p:Nat) (W W':World):Prop where
 os:W'.os=W.os
 tape:W'.tape=W.tape
 output:W'.output=W.output
 size:W.heap.size≤W'.heap.size
 block:∀ k,k<W.heap.size→k≠b→k≠p→W'.heap[k]?=W.heap[k]?
theorem B2.refl (b p:Nat) (W:World):B2 b p W W:=⟨rfl,rfl,rfl,Nat.le_refl _,fun _ _ _ _=>rfl⟩
theorem B2.trans {b p:Nat} {W W' W'':World} (h:B2 b p W W') (h':B2 b p W' W''):B2 b p W W'':=
 ⟨h'.os.trans h.os,h'.tape.trans h.tape,h'.output.trans h.output,Nat.le_trans h.size h'.size,fun k hk h1 h2=>(h'.block k (Nat.lt_of_lt_of_le hk h.size) h1 h2).trans (h.block k hk h1 h2)⟩
theorem B2.of_p {b p:Nat} {W W':World} (h:M.But p W W'):B2 b p W W':=⟨h.os,h.tape,h.output,h.size,fun k hk _ h2=>h.block k hk h2⟩
theorem B2.of_b {b p:Nat} {W W':World} (h:M.But b W W'):B2 b p W W':=⟨h.os,h.tape,h.output,h.size,fun k hk h1 _=>h.block k hk h1⟩
theorem B2.row {b p k:Nat} {W W':World} {t:TypeId} {C:Array Value} (h:B2 b p W W') (hr:M.RowAt W k t C) (h1:k≠b) (h2:k≠p):M.RowAt W' k t C:=by
 have hl:=hr.lt
 unfold M.RowAt at *;rw [h.block k hl h1 h2];exact hr
theorem B2.below {b p n:Nat} {w W W':World} (h:B2 b p W W') (hb:Below n w W) (h1:n≤b) (h2:n≤p) (hn:n≤W.heap.size):Below n w W':=
 ⟨h.os.trans hb.os,h.tape.trans hb.tape,h.output.trans hb.output,Nat.le_trans hb.size h.size,fun k hk=>(h.block k (by omega) (by omega) (by omega)).trans (hb.block k hk)⟩
theorem B2.kp {b p lo:Nat} {W W':World} {tb tp:TypeId} {Db Dp:Array Value} (h:B2 b p W W') (hb:M.RowAt W b tb Db) (hp:M.RowAt W p tp Dp) (h1:okT tb=false) (h2:okT tp=false):Kp lo W W':=fun g t C hT _ hr=>by
 refine h.row hr (fun e=>?_) (fun e=>?_)
 · subst e
   have e2:=Option.some.inj (Eq.trans (Eq.symm hr) hb)
   have e3:t=tb:=by injection e2
   rw [e3,h1] at hT;cases hT
 · subst e
   have e2:=Option.some.inj (Eq.trans (Eq.symm hr) hp)
   have e3:t=tp:=by injection e2
   rw [e3,h2] at hT;cases hT
def DidR (b p:Nat) (R R':Array Value) (s':ByteArray) (er:Int) (W:World) (e:Ending) (W':World):Prop:=
 (er=0∧e=.returned (.tuple #[])∧M.RowAt W' b 59 R'∧M.RowAt W' p 228 #[.string s']∧B2 b p W W')∨((er==0)=false∧e=.panicked [flt er]∧M.RowAt W' b 59 R∧B2 b p W W')
theorem rdE_two {s:ByteArray} {wd:Int} (h1:1≤wd) (h8:wd≤8):(rdE s wd=0∧wd≤(s.size:Int))∨(rdE s wd=10∧(s.size:Int)<wd):=by
 unfold rdE
 rw [if_neg (by omega)]
 by_cases h:(s.size:Int)<wd
 · rw [if_pos h];exact .inr ⟨rfl,h⟩
 · rw [if_neg h];exact .inl ⟨rfl,by omega⟩
theorem rdN_nonneg (s:ByteArray) (wd:Int):0≤rdN s wd:=by
 unfold rdN
 split
 · exact Int.le_refl _
 · exact val_nonneg _
theorem rdN_lt (s:ByteArray) (wd:Nat):rdN s (wd:Int)<256 ^ wd:=by
 unfold rdN
 split
 · exact Int.pow_pos (by decide)
 · refine Int.lt_of_lt_of_le (val_lt _) ?_
   have hl:(s.data.toList.take ((wd:Int)).toNat).length≤wd:=by rw [List.length_take];omega
   obtain ⟨d,hd⟩:=Nat.exists_eq_add_of_le hl
   generalize (s.data.toList.take ((wd:Int)).toNat).length=q at *
   subst hd
   rw [Int.pow_add]
   have h1:(1:Int)≤256 ^ d:=Int.pow_pos (by decide)
   have h2:(0:Int)≤256 ^ q:=Int.le_of_lt (Int.pow_pos (by decide))
   have h3:=Int.mul_le_mul_of_nonneg_left h1 h2
   omega
set_option maxRecDepth 100000 in
set_option maxHeartbeats 2000000 in
theorem r_id (m:Msg) (h32:m.hash.length=32) (a c b p:Nat) (s:ByteArray) (hs:s.size≤100000) (W:World) (ra:M.RowAt W a 315 #[.func (.func 189) #[] #[]]) (rc:M.RowAt W c 3 #[.int .i64 8]) (rb:M.RowAt W b 59 m.row) (rp:M.RowAt W p 228 #[.string s]) (hpb:p≠b) (hcp:c≠p) :
 Calls Tryz.prog 265 #[.agg #[.pointer none,.pointer (some ⟨p,0,none⟩)],.pointer (some ⟨b,0,none⟩),.pointer (some ⟨a,0,none⟩),.pointer (some ⟨c,0,none⟩)] W (DidR b p m.row { m with id:=rdN s 8 }.row (rdS s 8) (rdE s 8) W):=by
 obtain ⟨q,hq⟩:∃ q,W.heap.size=q:=⟨_,rfl⟩
 obtain ⟨V,hV⟩:∃ V,W.alloc (.cells #[.pointer none,.pointer (some ⟨p,0,none⟩)] 212)=V:=⟨_,rfl⟩
 have rn:M.RowAt V q 212 #[.pointer none,.pointer (some ⟨p,0,none⟩)]:=by rw [←hV,← hq];exact M.RowAt.new W 212 _
 have ra':M.RowAt V a 315 #[.func (.func 189) #[] #[]]:=by rw [←hV];exact ra.alloc _
 have rc':M.RowAt V c 3 #[.int .i64 8]:=by rw [←hV];exact rc.alloc _
 have rb':M.RowAt V b 59 m.row:=by rw [←hV];exact rb.alloc _
 have rp':M.RowAt V p 228 #[.string s]:=by rw [←hV];exact rp.alloc _
 have bV:M.But p W V:=by rw [←hV];exact (M.But.refl _ _).alloc _
 have c0:=(ra'.cell 0).trans rfl
 have n0:=(rn.cell 0).trans rfl;have n1:=(rn.cell 1).trans rfl
 have w0:=(rc'.cell 0).trans rfl
 have num:=rdnum_any ⟨p,0,none⟩ s 8 V (row_at rp') (by omega)
 have hx0:=rdN_nonneg s 8
 have hx1:rdN s 8<18446744073709551616:=rdN_lt s 8
 have two:=rdE_two (s:=s) (wd:=8) (by decide) (by decide)
 have aft:∀ w',Below V.heap.size (V.setCell ⟨p,0,none⟩ (.string (rdS s 8))) w'→M.RowAt w' b 59 m.row∧M.RowAt w' p 228 #[.string (rdS s 8)]∧B2 b p W w':=fun w' hb=>
  ⟨(but_written hb).row rb' (fun e=>hpb e.symm),row_written rp' hb,B2.of_p (bV.trans (but_written hb))⟩
 have yes:∀ w',M.RowAt w' b 59 m.row→M.RowAt w' p 228 #[.string (rdS s 8)]→B2 b p W w'→∀ x,rdN s 8=x→M.RowAt (w'.setCell ⟨b,2,none⟩ (.int .u64 x)) b 59 { m with id:=x }.row∧M.RowAt (w'.setCell ⟨b,2,none⟩ (.int .u64 x)) p 228 #[.string (rdS s 8)]∧B2 b p W (w'.setCell ⟨b,2,none⟩ (.int .u64 x)):=fun w' h1 h2 h3 x hx=>by
  have h4:=h1.set 2 (.int .u64 x)
  rw [Msg.s2] at h4
  exact ⟨h4,h2.far (p:=⟨b,2,none⟩) (fun e=>hpb e.symm) _,h3.trans (B2.of_b ((M.But.refl b w').set (p:=⟨b,2,none⟩) (.inl rfl) _))⟩
 have cel:∀ w',M.RowAt w' b 59 m.row→w'.cell? ⟨b,2,none⟩=some _∧w'.frozen? ⟨b,2,none⟩=false:=fun w' h=>⟨(h.cell 2).trans (Msg.g2),h.frozen 2⟩
 have HQ:=Lib.hid hq;have HV:=Lib.hid hV;have NUM:=Lib.hid num;have AFT:=Lib.hid aft;have YES:=Lib.hid yes;have CEL:=Lib.hid cel
 have MU:=Lib.hid (fun x=>must_ok x)
 have ME:=Lib.hid (fun x=>must_err 10 rfl x)
 unfold DidR
 generalize rdS s 8=s' at *
 clear num aft yes cel hq hV rn ra' rc' rb' rp' bV ra rc rb rp hpb hcp hs
 rcases two with ⟨e0,_⟩ | ⟨e0,_⟩
 · rw [e0] at NUM ⊢
   obtain ⟨x,hx⟩:∃ x,rdN s 8=x:=⟨_,rfl⟩
   rw [hx] at NUM hx0 hx1 ⊢
   have HX:=Lib.hid hx
   clear hx
   have HX0:=Lib.hid hx0;have HX1:=Lib.hid hx1
   clear hx0 hx1 e0
   go_enter Tryz.func265,Tryz.ntmps265
   go_wp2_with (first | (rw [HQ.out,HV.out]) | ((with_reducible refine (NUM.out).mono ?_);rintro e w1 ⟨rfl,hb⟩) | (go_at_call 189;go_in))
   obtain ⟨h1,h2,h3⟩:=AFT.out _ hb
   obtain ⟨cl,cf⟩:=CEL.out _ h1
   have FIN:=Lib.hid (YES.out _ h1 h2 h3 x HX.out)
   clear hb h1 h2 h3
   go_wp2_with fail
   refine (MU.out _).mono ?_
   rintro e w2 ⟨rfl,rfl⟩
   go_wp2
   go_end0
   exact .inl ⟨by first | rfl | trivial,rfl,FIN.out⟩
 · rw [e0] at NUM ⊢
   generalize rdN s 8=x at *
   clear hx0 hx1 e0
   go_enter Tryz.func265,Tryz.ntmps265
   go_wp2_with (first | (rw [HQ.out,HV.out]) | ((with_reducible refine (NUM.out).mono ?_);rintro e w1 ⟨rfl,hb⟩) | (go_at_call 189;go_in))
   obtain ⟨h1,h2,h3⟩:=AFT.out _ hb
   have FIN:=Lib.hid (And.intro h1 h3)
   clear hb h1 h2 h3
   go_wp2_with fail
   refine (ME.out _).mono ?_
   rintro e w2 ⟨rfl,rfl⟩
   exact ⟨rfl,.inr ⟨rfl,rfl,FIN.out⟩⟩
set_option maxRecDepth 100000 in
set_option maxHeartbeats 2000000 in
theorem r_amount (m:Msg) (h32:m.hash.length=32) (a c b p:Nat) (s:ByteArray) (hs:s.size≤100000) (W:World) (ra:M.RowAt W a 315 #[.func (.func 190) #[] #[]]) (rc:M.RowAt W c 3 #[.int .i64 8]) (rb:M.RowAt W b 59 m.row) (rp:M.RowAt W p 228 #[.string s]) (hpb:p≠b) (hcp:c≠p) :
 Calls Tryz.prog 265 #[.agg #[.pointer none,.pointer (some ⟨p,0,none⟩)],.pointer (some ⟨b,0,none⟩),.pointer (some ⟨a,0,none⟩),.pointer (some ⟨c,0,none⟩)] W (DidR b p m.row { m with amount:=rdN s 8 }.row (rdS s 8) (rdE s 8) W):=by
 obtain ⟨q,hq⟩:∃ q,W.heap.size=q:=⟨_,rfl⟩
 obtain ⟨V,hV⟩:∃ V,W.alloc (.cells #[.pointer none,.pointer (some ⟨p,0,none⟩)] 212)=V:=⟨_,rfl⟩
 have rn:M.RowAt V q 212 #[.pointer none,.pointer (some ⟨p,0,none⟩)]:=by rw [←hV,← hq];exact M.RowAt.new W 212 _
 have ra':M.RowAt V a 315 #[.func (.func 190) #[] #[]]:=by rw [←hV];exact ra.alloc _
 have rc':M.RowAt V c 3 #[.int .i64 8]:=by rw [←hV];exact rc.alloc _
 have rb':M.RowAt V b 59 m.row:=by rw [←hV];exact rb.alloc _
 have rp':M.RowAt V p 228 #[.string s]:=by rw [←hV];exact rp.alloc _
 have bV:M.But p W V:=by rw [←hV];exact (M.But.refl _ _).alloc _
 have c0:=(ra'.cell 0).trans rfl
 have n0:=(rn.cell 0).trans rfl;have n1:=(rn.cell 1).trans rfl
 have w0:=(rc'.cell 0).trans rfl
 have num:=rdnum_any ⟨p,0,none⟩ s 8 V (row_at rp') (by omega)
 have hx0:=rdN_nonneg s 8
 have hx1:rdN s 8<18446744073709551616:=rdN_lt s 8
 have two:=rdE_two (s:=s) (wd:=8) (by decide) (by decide)
 have aft:∀ w',Below V.heap.size (V.setCell ⟨p,0,none⟩ (.string (rdS s 8))) w'→M.RowAt w' b 59 m.row∧M.RowAt w' p 228 #[.string (rdS s 8)]∧B2 b p W w':=fun w' hb=>
  ⟨(but_written hb).row rb' (fun e=>hpb e.symm),row_written rp' hb,B2.of_p (bV.trans (but_written hb))⟩
 have yes:∀ w',M.RowAt w' b 59 m.row→M.RowAt w' p 228 #[.string (rdS s 8)]→B2 b p W w'→∀ x,rdN s 8=x→M.RowAt (w'.setCell ⟨b,3,none⟩ (.int .u64 x)) b 59 { m with amount:=x }.row∧M.RowAt (w'.setCell ⟨b,3,none⟩ (.int .u64 x)) p 228 #[.string (rdS s 8)]∧B2 b p W (w'.setCell ⟨b,3,none⟩ (.int .u64 x)):=fun w' h1 h2 h3 x hx=>by
  have h4:=h1.set 3 (.int .u64 x)
  rw [Msg.s3] at h4
  exact ⟨h4,h2.far (p:=⟨b,3,none⟩) (fun e=>hpb e.symm) _,h3.trans (B2.of_b ((M.But.refl b w').set (p:=⟨b,3,none⟩) (.inl rfl) _))⟩
 have cel:∀ w',M.RowAt w' b 59 m.row→w'.cell? ⟨b,3,none⟩=some _∧w'.frozen? ⟨b,3,none⟩=false:=fun w' h=>⟨(h.cell 3).trans (Msg.g3),h.frozen 3⟩
 have HQ:=Lib.hid hq;have HV:=Lib.hid hV;have NUM:=Lib.hid num;have AFT:=Lib.hid aft;have YES:=Lib.hid yes;have CEL:=Lib.hid cel
 have MU:=Lib.hid (fun x=>must_ok x)
 have ME:=Lib.hid (fun x=>must_err 10 rfl x)
 unfold DidR
 generalize rdS s 8=s' at *
 clear num aft yes cel hq hV rn ra' rc' rb' rp' bV ra rc rb rp hpb hcp hs
 rcases two with ⟨e0,_⟩ | ⟨e0,_⟩
 · rw [e0] at NUM ⊢
   obtain ⟨x,hx⟩:∃ x,rdN s 8=x:=⟨_,rfl⟩
   rw [hx] at NUM hx0 hx1 ⊢
   have HX:=Lib.hid hx
   clear hx
   have HX0:=Lib.hid hx0;have HX1:=Lib.hid hx1
   clear hx0 hx1 e0
   go_enter Tryz.func265,Tryz.ntmps265
   go_wp2_with (first | (rw [HQ.out,HV.out]) | ((with_reducible refine (NUM.out).mono ?_);rintro e w1 ⟨rfl,hb⟩) | (go_at_call 190;go_in))
   obtain ⟨h1,h2,h3⟩:=AFT.out _ hb
   obtain ⟨cl,cf⟩:=CEL.out _ h1
   have FIN:=Lib.hid (YES.out _ h1 h2 h3 x HX.out)
   clear hb h1 h2 h3
   go_wp2_with fail
   refine (MU.out _).mono ?_
   rintro e w2 ⟨rfl,rfl⟩
   go_wp2
   go_end0
   exact .inl ⟨by first | rfl | trivial,rfl,FIN.out⟩
 · rw [e0] at NUM ⊢
   generalize rdN s 8=x at *
   clear hx0 hx1 e0
   go_enter Tryz.func265,Tryz.ntmps265
   go_wp2_with (first | (rw [HQ.out,HV.out]) | ((with_reducible refine (NUM.out).mono ?_);rintro e w1 ⟨rfl,hb⟩) | (go_at_call 190;go_in))
   obtain ⟨h1,h2,h3⟩:=AFT.out _ hb
   have FIN:=Lib.hid (And.intro h1 h3)
   clear hb h1 h2 h3
   go_wp2_with fail
   refine (ME.out _).mono ?_
   rintro e w2 ⟨rfl,rfl⟩
   exact ⟨rfl,.inr ⟨rfl,rfl,FIN.out⟩⟩
set_option maxRecDepth 100000 in
set_option maxHeartbeats 2000000 in
theorem r_expiry (m:Msg) (h32:m.hash.length=32) (a c b p:Nat) (s:ByteArray) (hs:s.size≤100000) (W:World) (ra:M.RowAt W a 318 #[.func (.func 192) #[] #[]]) (rc:M.RowAt W c 3 #[.int .i64 4]) (rb:M.RowAt W b 59 m.row) (rp:M.RowAt W p 228 #[.string s]) (hpb:p≠b) (hcp:c≠p) :
 Calls Tryz.prog 266 #[.agg #[.pointer none,.pointer (some ⟨p,0,none⟩)],.pointer (some ⟨b,0,none⟩),.pointer (some ⟨a,0,none⟩),.pointer (some ⟨c,0,none⟩)] W (DidR b p m.row { m with expiry:=rdN s 4 }.row (rdS s 4) (rdE s 4) W):=by
 obtain ⟨q,hq⟩:∃ q,W.heap.size=q:=⟨_,rfl⟩
 obtain ⟨V,hV⟩:∃ V,W.alloc (.cells #[.pointer none,.pointer (some ⟨p,0,none⟩)] 212)=V:=⟨_,rfl⟩
 have rn:M.RowAt V q 212 #[.pointer none,.pointer (some ⟨p,0,none⟩)]:=by rw [←hV,← hq];exact M.RowAt.new W 212 _
 have ra':M.RowAt V a 318 #[.func (.func 192) #[] #[]]:=by rw [←hV];exact ra.alloc _
 have rc':M.RowAt V c 3 #[.int .i64 4]:=by rw [←hV];exact rc.alloc _
 have rb':M.RowAt V b 59 m.row:=by rw [←hV];exact rb.alloc _
 have rp':M.RowAt V p 228 #[.string s]:=by rw [←hV];exact rp.alloc _
 have bV:M.But p W V:=by rw [←hV];exact (M.But.refl _ _).alloc _
 have c0:=(ra'.cell 0).trans rfl
 have n0:=(rn.cell 0).trans rfl;have n1:=(rn.cell 1).trans rfl
 have w0:=(rc'.cell 0).trans rfl
 have num:=rdnum_any ⟨p,0,none⟩ s 4 V (row_at rp') (by omega)
 have hx0:=rdN_nonneg s 4
 have hx1:rdN s 4<4294967296:=rdN_lt s 4
 have two:=rdE_two (s:=s) (wd:=4) (by decide) (by decide)
 have aft:∀ w',Below V.heap.size (V.setCell ⟨p,0,none⟩ (.string (rdS s 4))) w'→M.RowAt w' b 59 m.row∧M.RowAt w' p 228 #[.string (rdS s 4)]∧B2 b p W w':=fun w' hb=>
  ⟨(but_written hb).row rb' (fun e=>hpb e.symm),row_written rp' hb,B2.of_p (bV.trans (but_written hb))⟩
 have yes:∀ w',M.RowAt w' b 59 m.row→M.RowAt w' p 228 #[.string (rdS s 4)]→B2 b p W w'→∀ x,rdN s 4=x→M.RowAt (w'.setCell ⟨b,36,none⟩ (.int .i64 x)) b 59 { m with expiry:=x }.row∧M.RowAt (w'.setCell ⟨b,36,none⟩ (.int .i64 x)) p 228 #[.string (rdS s 4)]∧B2 b p W (w'.setCell ⟨b,36,none⟩ (.int .i64 x)):=fun w' h1 h2 h3 x hx=>by
  have h4:=h1.set 36 (.int .i64 x)
  rw [Msg.s36 h32] at h4
  exact ⟨h4,h2.far (p:=⟨b,36,none⟩) (fun e=>hpb e.symm) _,h3.trans (B2.of_b ((M.But.refl b w').set (p:=⟨b,36,none⟩) (.inl rfl) _))⟩
 have cel:∀ w',M.RowAt w' b 59 m.row→w'.cell? ⟨b,36,none⟩=some _∧w'.frozen? ⟨b,36,none⟩=false:=fun w' h=>⟨(h.cell 36).trans (Msg.g36 h32),h.frozen 36⟩
 have HQ:=Lib.hid hq;have HV:=Lib.hid hV;have NUM:=Lib.hid num;have AFT:=Lib.hid aft;have YES:=Lib.hid yes;have CEL:=Lib.hid cel
 have MU:=Lib.hid (fun x=>must_ok x)
 have ME:=Lib.hid (fun x=>must_err 10 rfl x)
 unfold DidR
 generalize rdS s 4=s' at *
 clear num aft yes cel hq hV rn ra' rc' rb' rp' bV ra rc rb rp hpb hcp hs
 rcases two with ⟨e0,_⟩ | ⟨e0,_⟩
 · rw [e0] at NUM ⊢
   obtain ⟨x,hx⟩:∃ x,rdN s 4=x:=⟨_,rfl⟩
   rw [hx] at NUM hx0 hx1 ⊢
   have HX:=Lib.hid hx
   clear hx
   have cw:IntKind.i64.wrap x=x:=IntWalk.i64_in _ (by omega)
   have HX0:=Lib.hid hx0;have HX1:=Lib.hid hx1
   clear hx0 hx1 e0
   go_enter Tryz.func266,Tryz.ntmps266
   go_wp2_with (first | (rw [HQ.out,HV.out]) | ((with_reducible refine (NUM.out).mono ?_);rintro e w1 ⟨rfl,hb⟩) | (go_at_call 192;go_in))
   obtain ⟨h1,h2,h3⟩:=AFT.out _ hb
   obtain ⟨cl,cf⟩:=CEL.out _ h1
   have FIN:=Lib.hid (YES.out _ h1 h2 h3 x HX.out)
   clear hb h1 h2 h3
   go_wp2_with fail
   refine (MU.out _).mono ?_
   rintro e w2 ⟨rfl,rfl⟩
   go_wp2
   go_end0
   exact .inl ⟨by first | rfl | trivial,rfl,FIN.out⟩
 · rw [e0] at NUM ⊢
   generalize rdN s 4=x at *
   clear hx0 hx1 e0
   go_enter Tryz.func266,Tryz.ntmps266
   go_wp2_with (first | (rw [HQ.out,HV.out]) | ((with_reducible refine (NUM.out).mono ?_);rintro e w1 ⟨rfl,hb⟩) | (go_at_call 192;go_in))
   obtain ⟨h1,h2,h3⟩:=AFT.out _ hb
   have FIN:=Lib.hid (And.intro h1 h3)
   clear hb h1 h2 h3
   go_wp2_with fail
   refine (ME.out _).mono ?_
   rintro e w2 ⟨rfl,rfl⟩
   exact ⟨rfl,.inr ⟨rfl,rfl,FIN.out⟩⟩
set_option maxRecDepth 100000 in
set_option maxHeartbeats 2000000 in
theorem r_number (m:Msg) (h32:m.hash.length=32) (a c b p:Nat) (s:ByteArray) (hs:s.size≤100000) (W:World) (ra:M.RowAt W a 318 #[.func (.func 193) #[] #[]]) (rc:M.RowAt W c 3 #[.int .i64 2]) (rb:M.RowAt W b 59 m.row) (rp:M.RowAt W p 228 #[.string s]) (hpb:p≠b) (hcp:c≠p) :
 Calls Tryz.prog 266 #[.agg #[.pointer none,.pointer (some ⟨p,0,none⟩)],.pointer (some ⟨b,0,none⟩),.pointer (some ⟨a,0,none⟩),.pointer (some ⟨c,0,none⟩)] W (DidR b p m.row { m with number:=rdN s 2 }.row (rdS s 2) (rdE s 2) W):=by
 obtain ⟨q,hq⟩:∃ q,W.heap.size=q:=⟨_,rfl⟩
 obtain ⟨V,hV⟩:∃ V,W.alloc (.cells #[.pointer none,.pointer (some ⟨p,0,none⟩)] 212)=V:=⟨_,rfl⟩
 have rn:M.RowAt V q 212 #[.pointer none,.pointer (some ⟨p,0,none⟩)]:=by rw [←hV,← hq];exact M.RowAt.new W 212 _
 have ra':M.RowAt V a 318 #[.func (.func 193) #[] #[]]:=by rw [←hV];exact ra.alloc _
 have rc':M.RowAt V c 3 #[.int .i64 2]:=by rw [←hV];exact rc.alloc _
 have rb':M.RowAt V b 59 m.row:=by rw [←hV];exact rb.alloc _
 have rp':M.RowAt V p 228 #[.string s]:=by rw [←hV];exact rp.alloc _
 have bV:M.But p W V:=by rw [←hV];exact (M.But.refl _ _).alloc _
 have c0:=(ra'.cell 0).trans rfl
 have n0:=(rn.cell 0).trans rfl;have n1:=(rn.cell 1).trans rfl
 have w0:=(rc'.cell 0).trans rfl
 have num:=rdnum_any ⟨p,0,none⟩ s 2 V (row_at rp') (by omega)
 have hx0:=rdN_nonneg s 2
 have hx1:rdN s 2<65536:=rdN_lt s 2
 have two:=rdE_two (s:=s) (wd:=2) (by decide) (by decide)
 have aft:∀ w',Below V.heap.size (V.setCell ⟨p,0,none⟩ (.string (rdS s 2))) w'→M.RowAt w' b 59 m.row∧M.RowAt w' p 228 #[.string (rdS s 2)]∧B2 b p W w':=fun w' hb=>
  ⟨(but_written hb).row rb' (fun e=>hpb e.symm),row_written rp' hb,B2.of_p (bV.trans (but_written hb))⟩
 have yes:∀ w',M.RowAt w' b 59 m.row→M.RowAt w' p 228 #[.string (rdS s 2)]→B2 b p W w'→∀ x,rdN s 2=x→M.RowAt (w'.setCell ⟨b,37,none⟩ (.int .i64 x)) b 59 { m with number:=x }.row∧M.RowAt (w'.setCell ⟨b,37,none⟩ (.int .i64 x)) p 228 #[.string (rdS s 2)]∧B2 b p W (w'.setCell ⟨b,37,none⟩ (.int .i64 x)):=fun w' h1 h2 h3 x hx=>by
  have h4:=h1.set 37 (.int .i64 x)
  rw [Msg.s37 h32] at h4
  exact ⟨h4,h2.far (p:=⟨b,37,none⟩) (fun e=>hpb e.symm) _,h3.trans (B2.of_b ((M.But.refl b w').set (p:=⟨b,37,none⟩) (.inl rfl) _))⟩
 have cel:∀ w',M.RowAt w' b 59 m.row→w'.cell? ⟨b,37,none⟩=some _∧w'.frozen? ⟨b,37,none⟩=false:=fun w' h=>⟨(h.cell 37).trans (Msg.g37 h32),h.frozen 37⟩
 have HQ:=Lib.hid hq;have HV:=Lib.hid hV;have NUM:=Lib.hid num;have AFT:=Lib.hid aft;have YES:=Lib.hid yes;have CEL:=Lib.hid cel
 have MU:=Lib.hid (fun x=>must_ok x)
 have ME:=Lib.hid (fun x=>must_err 10 rfl x)
 unfold DidR
 generalize rdS s 2=s' at *
 clear num aft yes cel hq hV rn ra' rc' rb' rp' bV ra rc rb rp hpb hcp hs
 rcases two with ⟨e0,_⟩ | ⟨e0,_⟩
 · rw [e0] at NUM ⊢
   obtain ⟨x,hx⟩:∃ x,rdN s 2=x:=⟨_,rfl⟩
   rw [hx] at NUM hx0 hx1 ⊢
   have HX:=Lib.hid hx
   clear hx
   have cw:IntKind.i64.wrap x=x:=IntWalk.i64_in _ (by omega)
   have HX0:=Lib.hid hx0;have HX1:=Lib.hid hx1
   clear hx0 hx1 e0
   go_enter Tryz.func266,Tryz.ntmps266
   go_wp2_with (first | (rw [HQ.out,HV.out]) | ((with_reducible refine (NUM.out).mono ?_);rintro e w1 ⟨rfl,hb⟩) | (go_at_call 193;go_in))
   obtain ⟨h1,h2,h3⟩:=AFT.out _ hb
   obtain ⟨cl,cf⟩:=CEL.out _ h1
   have FIN:=Lib.hid (YES.out _ h1 h2 h3 x HX.out)
   clear hb h1 h2 h3
   go_wp2_with fail
   refine (MU.out _).mono ?_
   rintro e w2 ⟨rfl,rfl⟩
   go_wp2
   go_end0
   exact .inl ⟨by first | rfl | trivial,rfl,FIN.out⟩
 · rw [e0] at NUM ⊢
   generalize rdN s 2=x at *
   clear hx0 hx1 e0
   go_enter Tryz.func266,Tryz.ntmps266
   go_wp2_with (first | (rw [HQ.out,HV.out]) | ((with_reducible refine (NUM.out).mono ?_);rintro e w1 ⟨rfl,hb⟩) | (go_at_call 193;go_in))
   obtain ⟨h1,h2,h3⟩:=AFT.out _ hb
   have FIN:=Lib.hid (And.intro h1 h3)
   clear hb h1 h2 h3
   go_wp2_with fail
   refine (ME.out _).mono ?_
   rintro e w2 ⟨rfl,rfl⟩
   exact ⟨rfl,.inr ⟨rfl,rfl,FIN.out⟩⟩
set_option maxRecDepth 100000 in
set_option maxHeartbeats 2000000 in
theorem r_chan (m:Msg) (h32:m.hash.length=32) (a c b p:Nat) (s:ByteArray) (hs:s.size≤100000) (W:World) (ra:M.RowAt W a 379 #[.func (.func 268) #[] #[]]) (rc:M.RowAt W c 3 #[.int .i64 4]) (rb:M.RowAt W b 59 m.row) (rp:M.RowAt W p 228 #[.string s]) (hpb:p≠b) (hcp:c≠p) :
 Calls Tryz.prog 306 #[.agg #[.pointer none,.pointer (some ⟨p,0,none⟩)],.pointer (some ⟨b,0,none⟩),.pointer (some ⟨a,0,none⟩),.pointer (some ⟨c,0,none⟩)] W (DidR b p m.row { m with chan:=rdN s 4 }.row (rdS s 4) (rdE s 4) W):=by
 obtain ⟨q,hq⟩:∃ q,W.heap.size=q:=⟨_,rfl⟩
 obtain ⟨V,hV⟩:∃ V,W.alloc (.cells #[.pointer none,.pointer (some ⟨p,0,none⟩)] 212)=V:=⟨_,rfl⟩
 have rn:M.RowAt V q 212 #[.pointer none,.pointer (some ⟨p,0,none⟩)]:=by rw [←hV,← hq];exact M.RowAt.new W 212 _
 have ra':M.RowAt V a 379 #[.func (.func 268) #[] #[]]:=by rw [←hV];exact ra.alloc _
 have rc':M.RowAt V c 3 #[.int .i64 4]:=by rw [←hV];exact rc.alloc _
 have rb':M.RowAt V b 59 m.row:=by rw [←hV];exact rb.alloc _
 have rp':M.RowAt V p 228 #[.string s]:=by rw [←hV];exact rp.alloc _
 have bV:M.But p W V:=by rw [←hV];exact (M.But.refl _ _).alloc _
 have c0:=(ra'.cell 0).trans rfl
 have n0:=(rn.cell 0).trans rfl;have n1:=(rn.cell 1).trans rfl
 have w0:=(rc'.cell 0).trans rfl
 have num:=rdnum_any ⟨p,0,none⟩ s 4 V (row_at rp') (by omega)
 have hx0:=rdN_nonneg s 4
 have hx1:rdN s 4<4294967296:=rdN_lt s 4
 have two:=rdE_two (s:=s) (wd:=4) (by decide) (by decide)
 have aft:∀ w',Below V.heap.size (V.setCell ⟨p,0,none⟩ (.string (rdS s 4))) w'→M.RowAt w' b 59 m.row∧M.RowAt w' p 228 #[.string (rdS s 4)]∧B2 b p W w':=fun w' hb=>
  ⟨(but_written hb).row rb' (fun e=>hpb e.symm),row_written rp' hb,B2.of_p (bV.trans (but_written hb))⟩
 have yes:∀ w',M.RowAt w' b 59 m.row→M.RowAt w' p 228 #[.string (rdS s 4)]→B2 b p W w'→∀ x,rdN s 4=x→M.RowAt (w'.setCell ⟨b,1,none⟩ (.int .u32 x)) b 59 { m with chan:=x }.row∧M.RowAt (w'.setCell ⟨b,1,none⟩ (.int .u32 x)) p 228 #[.string (rdS s 4)]∧B2 b p W (w'.setCell ⟨b,1,none⟩ (.int .u32 x)):=fun w' h1 h2 h3 x hx=>by
  have h4:=h1.set 1 (.int .u32 x)
  rw [Msg.s1] at h4
  exact ⟨h4,h2.far (p:=⟨b,1,none⟩) (fun e=>hpb e.symm) _,h3.trans (B2.of_b ((M.But.refl b w').set (p:=⟨b,1,none⟩) (.inl rfl) _))⟩
 have cel:∀ w',M.RowAt w' b 59 m.row→w'.cell? ⟨b,1,none⟩=some _∧w'.frozen? ⟨b,1,none⟩=false:=fun w' h=>⟨(h.cell 1).trans (Msg.g1),h.frozen 1⟩
 have HQ:=Lib.hid hq;have HV:=Lib.hid hV;have NUM:=Lib.hid num;have AFT:=Lib.hid aft;have YES:=Lib.hid yes;have CEL:=Lib.hid cel
 have MU:=Lib.hid (fun x=>must_ok x)
 have ME:=Lib.hid (fun x=>must_err 10 rfl x)
 unfold DidR
 generalize rdS s 4=s' at *
 clear num aft yes cel hq hV rn ra' rc' rb' rp' bV ra rc rb rp hpb hcp hs
 rcases two with ⟨e0,_⟩ | ⟨e0,_⟩
 · rw [e0] at NUM ⊢
   obtain ⟨x,hx⟩:∃ x,rdN s 4=x:=⟨_,rfl⟩
   rw [hx] at NUM hx0 hx1 ⊢
   have HX:=Lib.hid hx
   clear hx
   have cw:IntKind.u32.wrap x=x:=by rw [IntKind.wrap_u32];omega
   have HX0:=Lib.hid hx0;have HX1:=Lib.hid hx1
   clear hx0 hx1 e0
   go_enter Tryz.func306,Tryz.ntmps306
   go_wp2_with (first | (rw [HQ.out,HV.out]) | ((with_reducible refine (NUM.out).mono ?_);rintro e w1 ⟨rfl,hb⟩) | (go_at_call 268;go_in))
   obtain ⟨h1,h2,h3⟩:=AFT.out _ hb
   obtain ⟨cl,cf⟩:=CEL.out _ h1
   have FIN:=Lib.hid (YES.out _ h1 h2 h3 x HX.out)
   clear hb h1 h2 h3
   go_wp2_with fail
   refine (MU.out _).mono ?_
   rintro e w2 ⟨rfl,rfl⟩
   go_wp2
   go_end0
   exact .inl ⟨by first | rfl | trivial,rfl,FIN.out⟩
 · rw [e0] at NUM ⊢
   generalize rdN s 4=x at *
   clear hx0 hx1 e0
   go_enter Tryz.func306,Tryz.ntmps306
   go_wp2_with (first | (rw [HQ.out,HV.out]) | ((with_reducible refine (NUM.out).mono ?_);rintro e w1 ⟨rfl,hb⟩) | (go_at_call 268;go_in))
   obtain ⟨h1,h2,h3⟩:=AFT.out _ hb
   have FIN:=Lib.hid (And.intro h1 h3)
   clear hb h1 h2 h3
   go_wp2_with fail
   refine (ME.out _).mono ?_
   rintro e w2 ⟨rfl,rfl⟩
   exact ⟨rfl,.inr ⟨rfl,rfl,FIN.out⟩⟩
set_option maxRecDepth 100000 in
set_option maxHeartbeats 2000000 in
theorem r_hash (m:Msg) (h32:m.hash.length=32) (b p:Nat) (s:ByteArray) (hs:s.size≤100000) (W:World) (rb:M.RowAt W b 59 m.row) (rp:M.RowAt W p 228 #[.string s]) (hpb:p≠b) :
 Calls Tryz.prog 195 #[.agg #[.pointer none,.pointer (some ⟨p,0,none⟩)],.pointer (some ⟨b,0,none⟩)] W (DidR b p m.row { m with hash:=rhH s }.row (rhS s) (rhE s) W):=by
 obtain ⟨q,hq⟩:∃ q,W.heap.size=q:=⟨_,rfl⟩
 obtain ⟨V,hV⟩:∃ V,W.alloc (.cells #[.pointer none,.pointer (some ⟨p,0,none⟩)] 212)=V:=⟨_,rfl⟩
 have rn:M.RowAt V q 212 #[.pointer none,.pointer (some ⟨p,0,none⟩)]:=by rw [←hV,← hq];exact M.RowAt.new W 212 _
 have rb':M.RowAt V b 59 m.row:=by rw [←hV];exact rb.alloc _
 have rp':M.RowAt V p 228 #[.string s]:=by rw [←hV];exact rp.alloc _
 have bV:M.But p W V:=by rw [←hV];exact (M.But.refl _ _).alloc _
 have n0:=(rn.cell 0).trans rfl;have n1:=(rn.cell 1).trans rfl
 have num:=rdhash_any ⟨p,0,none⟩ s V (row_at rp') (by omega)
 have aft:∀ w',Below V.heap.size (V.setCell ⟨p,0,none⟩ (.string (rhS s))) w'→M.RowAt w' b 59 m.row∧M.RowAt w' p 228 #[.string (rhS s)]∧B2 b p W w':=fun w' hb=>
  ⟨(but_written hb).row rb' (fun e=>hpb e.symm),row_written rp' hb,B2.of_p (bV.trans (but_written hb))⟩
 have l32:(rhH s).length=32:=by
  unfold rhH
  by_cases h:s.size<32
  · rw [if_pos h];rfl
  · rw [if_neg h]
    unfold bytesOf
    have h':¬ s.data.size<32:=h
    rw [List.length_map,Array.length_toList,ByteArray.data_extract,Array.size_extract]
    omega
 have yes:∀ w2 g,g≠b→M.RowAt w2 g 47 Z32→M.RowAt w2 b 59 m.row→M.RowAt w2 p 228 #[.string (rhS s)]→g≠p→B2 b p W w2→W.heap.size≤g→∀ l:List Int,rhH s=l →
  M.RowAt (w2.setRow g (ints l).toArray) g 47 (ints l).toArray∧(w2.setRow g (ints l).toArray).there b 4 32 ∧
  M.RowAt ((w2.setRow g (ints l).toArray).setCells b 4 (ints l)) b 59 { m with hash:=l }.row∧M.RowAt ((w2.setRow g (ints l).toArray).setCells b 4 (ints l)) p 228 #[.string (rhS s)]∧B2 b p W ((w2.setRow g (ints l).toArray).setCells b 4 (ints l)):=fun w2 g hgb h0 h1 h2 hgp h3 hWg l hl=>by
  have h1':=h1.farRow hgb (ints l).toArray
  have h4:=row_setCells (ints l) m.row 4 _ h1'
  rw [Msg.sh h32 (by rw [←hl];exact l32)] at h4
  have h5:B2 b p W (w2.setRow g (ints l).toArray):=⟨h3.os,h3.tape,h3.output,by simpa using h3.size,fun k hk k1 k2=>by
   rw [←h3.block k hk k1 k2];simp only [World.setRow,Array.getElem?_modify];rw [if_neg (by omega)]⟩
  exact ⟨h0.setRow _,Msg.there h1' h32,h4,row_setCells_far (fun e=>hpb e.symm) _ _ _ (h2.farRow hgp _),h5.trans (B2.of_b (but_setCells _ _ _ (M.But.refl b _)))⟩
 have HQ:=Lib.hid hq;have HV:=Lib.hid hV;have NUM:=Lib.hid num;have AFT:=Lib.hid aft;have YES:=Lib.hid yes
 have MU:=Lib.hid (fun x=>must_ok x)
 have ME:=Lib.hid (fun x=>must_err 10 rfl x)
 have two:(rhE s=0)∨(rhE s=10):=by
  unfold rhE
  by_cases h:s.size<32
  · rw [if_pos h];exact .inr rfl
  · rw [if_neg h];exact .inl rfl
 unfold DidR
 unfold hashV at NUM
 obtain ⟨l,hl⟩:∃ l,rhH s=l:=⟨_,rfl⟩
 rw [hl] at NUM l32
 have iH:(Tryz.prog.info? 47).map (·.size)=some (ints l).toArray.size:=by rw [List.size_toArray,ints_len',l32];kernel_rfl
 have oH:(ints l).toArray.all (·.oneCell')=true:=by
  refine Array.all_eq_true_iff_forall_mem.2 fun v hv=>?_
  obtain ⟨x,_,rfl⟩:=List.mem_map.1 (by simpa using hv:v∈ints l)
  rfl
 have s32:(ints l).toArray.size=32:=by rw [List.size_toArray,ints_len',l32]
 have tl:(ints l).toArray.toList=ints l:=rfl
 have HLH:=Lib.hid hl
 rw [hl]
 generalize rhS s=s' at *
 clear num aft yes hq hV rn rb' rp' bV rb rp hpb hs hl
 rcases two with e0 | e0
 · rw [e0] at NUM ⊢
   clear e0
   have TL:=Lib.hid tl
   have S32:=Lib.hid s32
   have FINL:=Lib.hid (fun w2 g a1 a2 a3 a4 a5 a6 a7=>YES.out w2 g a1 a2 a3 a4 a5 a6 a7 l HLH.out)
   clear YES HLH tl s32
   generalize hX:(ints l).toArray=X at *
   have HX:=Lib.hid hX
   clear hX
   go_enter Tryz.func195,Tryz.ntmps195
   go_wp2_with (rw [HQ.out,HV.out])
   refine (NUM.out).mono ?_
   rintro e w1 ⟨rfl,hb⟩
   obtain ⟨h1,h2,h3⟩:=AFT.out _ hb
   obtain ⟨g,hg⟩:∃ g,w1.heap.size=g:=⟨_,rfl⟩
   obtain ⟨w2,hw2⟩:∃ w2,w1.alloc (.cells Z32 47)=w2:=⟨_,rfl⟩
   have r0:M.RowAt w2 g 47 Z32:=by rw [←hw2,← hg];exact M.RowAt.new w1 47 _
   have gb:g≠b:=fun e=>by have:=h1.lt;omega
   have gp:g≠p:=fun e=>by have:=h2.lt;omega
   have gW:W.heap.size≤g:=by have:=h3.size;omega
   have r1:M.RowAt w2 b 59 m.row:=by rw [←hw2];exact h1.alloc _
   have r2:M.RowAt w2 p 228 #[.string s']:=by rw [←hw2];exact h2.alloc _
   have r3:B2 b p W w2:=h3.trans (B2.of_b (by rw [←hw2];exact (M.But.refl b w1).alloc _))
   have iz:Z32.size=X.size:=by rw [S32.out];rfl
   unfold Z32 at hw2
   have HG:=Lib.hid hg;have HW2:=Lib.hid hw2
   obtain ⟨f0,f1,f2⟩:=FINL.out w2 g gb r0 r1 r2 gp r3 gW
   rw [←S32.out] at f1
   have F2:=Lib.hid f2
   obtain ⟨w3,hw3⟩:∃ w3,w2.setRow g X=w3:=⟨_,rfl⟩
   rw [hw3] at f0 f1 F2
   have HW3:=Lib.hid hw3
   rw [←TL.out] at F2
   clear hg hw2 hw3 f2 hb h1 h2 h3 gb gp gW r1 r2 r3 FINL
   go_wp2_with (first | (rw [HG.out,HW2.out]) | (refine wpList_store_row (x:=.tmp 4) (y:=.tmp 29) (cells:=X) (old:=Z32) (t:=47) (ty:=47) (g:=g) ?_ ?_ ?_ ?_ r0 iH iz oH ?_;rfl;rfl;rfl;rfl;rw [HW3.out]) | ((with_reducible refine (MU.out _).mono ?_);rintro e w4 ⟨rfl,rfl⟩) | (refine wpList_load_row (x:=.tmp 4) (ty:=47) (g:=g) (cs:=X) (t:=47) (fr:=(0,0)) ?_ ?_ ?_ _ f0 Tryz.underlying47 rfl iH ?_;rfl;rfl;rfl) | (refine wpList_store_mid (x:=.tmp 36) (y:=.tmp 34) (b:=b) (o:=4) (cells:=X) (ty:=47) ?_ ?_ ?_ ?_ f1 iH oH ?_;rfl;rfl;rfl;rfl) | fail)
   go_end0
   exact .inl ⟨by first | rfl | trivial,rfl,F2.out⟩
 · rw [e0] at NUM ⊢
   clear e0
   go_enter Tryz.func195,Tryz.ntmps195
   have iz:Z32.size=(ints l).toArray.size:=by rw [s32];rfl
   generalize (ints l).toArray=X at *
   go_wp2_with (rw [HQ.out,HV.out])
   refine (NUM.out).mono ?_
   rintro e w1 ⟨rfl,hb⟩
   obtain ⟨h1,h2,h3⟩:=AFT.out _ hb
   obtain ⟨g,hg⟩:∃ g,w1.heap.size=g:=⟨_,rfl⟩
   obtain ⟨w2,hw2⟩:∃ w2,w1.alloc (.cells Z32 47)=w2:=⟨_,rfl⟩
   have r0:M.RowAt w2 g 47 Z32:=by rw [←hw2,← hg];exact M.RowAt.new w1 47 _
   have gb:g≠b:=fun e=>by have:=h1.lt;omega
   have gp:g≠p:=fun e=>by have:=h2.lt;omega
   have gW:W.heap.size≤g:=by have:=h3.size;omega
   have r1:M.RowAt w2 b 59 m.row:=by rw [←hw2];exact h1.alloc _
   have r2:M.RowAt w2 p 228 #[.string s']:=by rw [←hw2];exact h2.alloc _
   have r3:B2 b p W w2:=h3.trans (B2.of_b (by rw [←hw2];exact (M.But.refl b w1).alloc _))
   unfold Z32 at hw2
   have HG:=Lib.hid hg;have HW2:=Lib.hid hw2
   have F2:=Lib.hid (And.intro (r1.farRow gb X) (show B2 b p W (w2.setRow g X) from ⟨r3.os,r3.tape,r3.output,by simpa using r3.size,fun k hk k1 k2=>by
    rw [←r3.block k hk k1 k2];simp only [World.setRow,Array.getElem?_modify];rw [if_neg (by omega)]⟩))
   obtain ⟨w3,hw3⟩:∃ w3,w2.setRow g X=w3:=⟨_,rfl⟩
   rw [hw3] at F2
   have HW3:=Lib.hid hw3
   clear hg hw2 hw3 hb h1 h2 h3 gb gp gW r1 r2 r3
   go_wp2_with (first | (rw [HG.out,HW2.out]) | (refine wpList_store_row (x:=.tmp 4) (y:=.tmp 29) (cells:=X) (old:=Z32) (t:=47) (ty:=47) (g:=g) ?_ ?_ ?_ ?_ r0 iH iz oH ?_;rfl;rfl;rfl;rfl;rw [HW3.out]) | fail)
   refine (ME.out _).mono ?_
   rintro e w4 ⟨rfl,rfl⟩
   exact ⟨rfl,.inr ⟨rfl,rfl,F2.out⟩⟩
open Go.Proofs.YtdebnbgjgkbmaaaGreatDoor.Oc
open Go.RowKit Go.Shelf
set_option linter.unusedVariables false
def rdF (m:Msg) (s:ByteArray):Fld→Msg × ByteArray × Int
 | .chan=>({ m with chan:=rdN s 4 },rdS s 4,rdE s 4)
 | .id=>({ m with id:=rdN s 8 },rdS s 8,rdE s 8)
 | .amount=>({ m with amount:=rdN s 8 },rdS s 8,rdE s 8)
 | .hash=>({ m with hash:=rhH s },rhS s,rhE s)
 | .expiry=>({ m with expiry:=rdN s 4 },rdS s 4,rdE s 4)
 | .number=>({ m with number:=rdN s 2 },rdS s 2,rdE s 2)
def rd1 (q:Msg × ByteArray) (f:Fld):Option (Msg × ByteArray):=if (rdF q.1 q.2 f).2.2=0 then some ((rdF q.1 q.2 f).1,(rdF q.1 q.2 f).2.1) else none
def runs:Msg × ByteArray→List Fld→Option (Msg × ByteArray)
 | q,[]=>some q
 | q,f::r=>(rd1 q f).bind fun q'=>runs q' r
theorem runs_append:∀ (a b:List Fld) (q:Msg × ByteArray),runs q (a++b)=(runs q a).bind fun q'=>runs q' b
 | [],b,q=>rfl
 | f::r,b,q=>by
   show (rd1 q f).bind (fun q'=>runs q' (r++b))=((rd1 q f).bind fun q'=>runs q' r).bind _
   cases rd1 q f with
   | none=>rfl
   | some q'=>exact runs_append r b q'
theorem runs_take {fl:List Fld} {k:Nat} {f:Fld} (h:fl[k]?=some f) (q:Msg × ByteArray):runs q (fl.take (k+1))=(runs q (fl.take k)).bind fun q'=>rd1 q' f:=by
 rw [List.take_add_one,h,runs_append]
 show (runs q (fl.take k)).bind (fun q'=>(rd1 q' f).bind fun q''=>some q'')=_
 cases runs q (fl.take k) with
 | none=>rfl
 | some q'=>
   show (rd1 q' f).bind (fun q''=>some q'')=rd1 q' f
   cases rd1 q' f<;>rfl
theorem runs_stop {fl:List Fld} {k:Nat} {f:Fld} {q q':Msg × ByteArray} (h:fl[k]?=some f) (h1:runs q (fl.take k)=some q') (h2:rd1 q' f=none):runs q fl=none:=by
 rw [←List.take_append_drop (k+1) fl,runs_append,runs_take h,h1]
 show (rd1 q' f).bind _=none
 rw [h2];rfl
theorem rdS_le' (s:ByteArray) (wd:Int):(rdS s wd).size≤s.size:=by
 unfold rdS
 split
 · exact Nat.le_refl _
 · rw [ByteArray.size_extract];omega
theorem rhS_le' (s:ByteArray):(rhS s).size≤s.size:=by
 unfold rhS
 split
 · exact Nat.le_refl _
 · rw [ByteArray.size_extract];omega
theorem rdF_le (m:Msg) (s:ByteArray) (f:Fld):(rdF m s f).2.1.size≤s.size:=by
 cases f
 · exact rdS_le' _ _
 · exact rdS_le' _ _
 · exact rdS_le' _ _
 · exact rhS_le' _
 · exact rdS_le' _ _
 · exact rdS_le' _ _
theorem rhH_ok (s:ByteArray):(rhH s).length=32∧∀ x∈rhH s,0≤x∧x≤255:=by
 unfold rhH
 by_cases h:s.size<32
 · rw [if_pos h];exact ⟨rfl,fun x hx=>by have:x=0:=List.eq_of_mem_replicate hx;omega⟩
 · rw [if_neg h]
   unfold bytesOf
   have h':¬ s.data.size<32:=h
   refine ⟨?_,fun x hx=>?_⟩
   · rw [List.length_map,Array.length_toList,ByteArray.data_extract,Array.size_extract];omega
   · obtain ⟨u,_,rfl⟩:=List.mem_map.1 hx
     have:=u.toNat_lt
     omega
theorem rdF_ok {m:Msg} (h:m.ok) (s:ByteArray) (f:Fld):(rdF m s f).1.ok:=by
 obtain ⟨a0,a1,a2,a3,a4,a5,a6,a7,a8,a9,b0,b1,b2,b3⟩:=h
 have p8:=rdN_nonneg s 8;have p4:=rdN_nonneg s 4;have p2:=rdN_nonneg s 2
 have q8:rdN s 8<18446744073709551616:=rdN_lt s 8
 have q4:rdN s 4<4294967296:=rdN_lt s 4
 have q2:rdN s 2<65536:=rdN_lt s 2
 obtain ⟨t1,t2⟩:=rhH_ok s
 cases f
 · exact ⟨a0,a1,a2,a3,p4,by show rdN s 4≤_;omega,a6,a7,a8,a9,b0,b1,b2,b3⟩
 · exact ⟨a0,a1,a2,a3,a4,a5,p8,by show rdN s 8≤_;omega,a8,a9,b0,b1,b2,b3⟩
 · exact ⟨a0,a1,a2,a3,a4,a5,a6,a7,p8,by show rdN s 8≤_;omega,b0,b1,b2,b3⟩
 · exact ⟨t1,t2,a2,a3,a4,a5,a6,a7,a8,a9,b0,b1,b2,b3⟩
 · exact ⟨a0,a1,a2,a3,a4,a5,a6,a7,a8,a9,by show _≤rdN s 4;omega,by show rdN s 4≤_;omega,b2,b3⟩
 · exact ⟨a0,a1,a2,a3,a4,a5,a6,a7,a8,a9,b0,b1,by show _≤rdN s 2;omega,by show rdN s 2≤_;omega⟩
theorem rdF_err (m:Msg) (s:ByteArray) (f:Fld):(rdF m s f).2.2=0∨(rdF m s f).2.2=10:=by
 have two:=fun (wd:Int) (h1:1≤wd) (h8:wd≤8)=>rdE_two (s:=s) h1 h8
 cases f
 · rcases two 4 (by decide) (by decide) with ⟨e,_⟩ | ⟨e,_⟩
   · exact .inl e
   · exact .inr e
 · rcases two 8 (by decide) (by decide) with ⟨e,_⟩ | ⟨e,_⟩
   · exact .inl e
   · exact .inr e
 · rcases two 8 (by decide) (by decide) with ⟨e,_⟩ | ⟨e,_⟩
   · exact .inl e
   · exact .inr e
 · show rhE s=0∨rhE s=10
   unfold rhE
   by_cases h:s.size<32
   · rw [if_pos h];exact .inr rfl
   · rw [if_neg h];exact .inl rfl
 · rcases two 4 (by decide) (by decide) with ⟨e,_⟩ | ⟨e,_⟩
   · exact .inl e
   · exact .inr e
 · rcases two 2 (by decide) (by decide) with ⟨e,_⟩ | ⟨e,_⟩
   · exact .inl e
   · exact .inr e
theorem types_ne {X:World} {a p:Nat} {ta tp:TypeId} {A P:Array Value} (h:M.RowAt X a ta A) (h':M.RowAt X p tp P) (ht:ta≠tp):a≠p:=fun e=>by
 subst e
 have e2:=Option.some.inj (Eq.trans (Eq.symm h) h')
 have e3:ta=tp:=by injection e2
 exact ht e3
theorem r_step {lo b p:Nat} {f:Fld} {u:Value} {X:World} (h:FV lo X f u) (m:Msg) (h32:m.hash.length=32) (s:ByteArray) (hs:s.size≤100000) (rb:M.RowAt X b 59 m.row) (rp:M.RowAt X p 228 #[.string s]) (hpb:p≠b) :
 Calls Tryz.prog (fnOf f) (#[.agg #[.pointer none,.pointer (some ⟨p,0,none⟩)],.pointer (some ⟨b,0,none⟩)]++capsV u) X (DidR b p m.row (rdF m s f).1.row (rdF m s f).2.1 (rdF m s f).2.2 X):=by
 cases f
 · obtain ⟨a,c,rfl,_,_,ra,rc⟩:=h;exact r_chan m h32 a c b p s hs X ra rc rb rp hpb (types_ne rc rp (by decide))
 · obtain ⟨a,c,rfl,_,_,ra,rc⟩:=h;exact r_id m h32 a c b p s hs X ra rc rb rp hpb (types_ne rc rp (by decide))
 · obtain ⟨a,c,rfl,_,_,ra,rc⟩:=h;exact r_amount m h32 a c b p s hs X ra rc rb rp hpb (types_ne rc rp (by decide))
 · have h':u=.func (.func 195) #[] #[]:=h
   subst h'
   exact r_hash m h32 b p s hs X rb rp hpb
 · obtain ⟨a,c,rfl,_,_,ra,rc⟩:=h;exact r_expiry m h32 a c b p s hs X ra rc rb rp hpb (types_ne rc rp (by decide))
 · obtain ⟨a,c,rfl,_,_,ra,rc⟩:=h;exact r_number m h32 a c b p s hs X ra rc rb rp hpb (types_ne rc rp (by decide))
def Red (b p:Nat) (q q':Msg × ByteArray) (W X:World):Prop:=M.RowAt X b 59 q'.1.row∧M.RowAt X p 228 #[.string q'.2]∧B2 b p W X∧q'.1.ok∧q'.2.size≤q.2.size
theorem r_through {b p lo:Nat} (fl:List Fld) (h8:fl.length≤8) (v:Value) (W:World) (hFL:FL lo W v fl) (hlo:lo≤W.heap.size) (hpb:p≠b) (q:Msg × ByteArray) (ho:q.1.ok) (hs:q.2.size≤100000) (rb:M.RowAt W b 59 q.1.row) (rp:M.RowAt W p 228 #[.string q.2]) :
 Calls Tryz.prog 107 #[.agg #[.pointer none,.pointer (some ⟨p,0,none⟩)],v,.pointer (some ⟨b,0,none⟩)] W fun e W'=>
  (e=.returned (.tuple #[])∧∃ q',runs q fl=some q'∧Red b p q q' W W')∨(e=.panicked [flt 10]∧runs q fl=none∧B2 b p W W'):=by
 refine (through_list (b:=b) none (some ⟨p,0,none⟩) fl h8 v W hFL hlo (fun k X=>∃ q',runs q (fl.take k)=some q'∧Red b p q q' W X) (fun e X=>e=.panicked [flt 10]∧runs q fl=none∧B2 b p W X) ⟨q,rfl,rb,rp,B2.refl _ _ _,ho,Nat.le_refl _⟩
  (fun k X X' hst hbl=>?_) (fun k f hf X u hv hst=>?_)).mono ?_
 · obtain ⟨q',h1,h2,h3,h4,h5,h6⟩:=hst
   exact ⟨q',h1,h2.call hbl,h3.call hbl,h4.trans ⟨hbl.os,hbl.tape,hbl.output,hbl.size,fun k hk _ _=>hbl.block k hk⟩,h5,h6⟩
 · obtain ⟨q',h1,h2,h3,h4,h5,h6⟩:=hst
   refine (r_step hv q'.1 h5.h32 q'.2 (by omega) h2 h3 hpb).mono ?_
   rintro e X' (⟨e0,rfl,g1,g2,g3⟩ | ⟨e0,rfl,g1,g3⟩)
   · refine .inl ⟨rfl,⟨((rdF q'.1 q'.2 f).1,(rdF q'.1 q'.2 f).2.1),?_,g1,g2,h4.trans g3,rdF_ok h5 _ _,Nat.le_trans (rdF_le _ _ _) h6⟩,g3.kp h2 h3 rfl rfl⟩
     rw [runs_take hf,h1]
     show rd1 q' f=_
     unfold rd1;rw [if_pos e0]
   · have e10:(rdF q'.1 q'.2 f).2.2=10:=by
      rcases rdF_err q'.1 q'.2 f with h | h
      · rw [h] at e0;cases e0
      · exact h
     refine .inr ⟨⟨by rw [e10],runs_stop hf h1 ?_,h4.trans g3⟩,_,rfl⟩
     unfold rd1;rw [if_neg (by rw [e10];decide)]
 · rintro e W' (⟨rfl,q',h1,h2⟩ | ⟨h,_⟩)
   · rw [List.take_length] at h1
     exact .inl ⟨rfl,q',h1,h2⟩
   · exact .inr h
open Go.Proofs.YtdebnbgjgkbmaaaGreatDoor.Oc
open Go.RowKit Go.Shelf
set_option linter.unusedVariables false
structure DB (w:World) (n:Nat) (R:Array Value) (v:Value) (rest:ByteArray) (X:World):Prop where
 r0:M.RowAt X n 59 (Msg.none 0).row
 rb:M.RowAt X (n+1) 59 R
 rl:M.RowAt X (n+2) 202 #[v]
 rp:M.RowAt X (n+3) 228 #[.string rest]
 rr:M.RowAt X (n+4) 81 #[.pointer (some ⟨n+3,0,none⟩)]
 rg:M.RowAt X (n+5) 1 #[.func (.func 114) #[] #[.pointer (some ⟨n+4,0,none⟩),.pointer (some ⟨n+1,0,none⟩)],.func (.func 115) #[] #[.pointer (some ⟨n+1,0,none⟩),.pointer (some ⟨n+2,0,none⟩)],.func (.func 116) #[] #[.pointer (some ⟨n+4,0,none⟩),.pointer (some ⟨n+2,0,none⟩),.pointer (some ⟨n+1,0,none⟩)],.func (.func 117) #[] #[.pointer (some ⟨n+4,0,none⟩)],.func (.func 119) #[] #[.pointer (some ⟨n+1,0,none⟩)]]
 bel:Below n w X
def DX (w:World) (n:Nat) (X:World):Prop:=M.RowAt X n 59 (Msg.none 0).row∧Below n w X
section
variable {w X X':World} {n q:Nat} {R R':Array Value} {v v':Value} {s s':ByteArray}
theorem DB.but (h:DB w n R v s X) (hq:n+6≤q) (hb:M.But q X X'):DB w n R v s X':=
 ⟨hb.row h.r0 (by omega),hb.row h.rb (by omega),hb.row h.rl (by omega),hb.row h.rp (by omega),hb.row h.rr (by omega),hb.row h.rg (by omega),hb.below h.bel (by omega) (by have:=h.rg.lt;omega)⟩
theorem DX.but (h:DX w n X) (hq:n+6≤q) (hb:M.But q X X'):DX w n X':=⟨hb.row h.1 (by omega),hb.below h.2 (by omega) (by have:=h.1.lt;omega)⟩
theorem DB.same (h:DB w n R v s X) (hb:Below X.heap.size X X'):DB w n R v s X':=
 ⟨h.r0.call hb,h.rb.call hb,h.rl.call hb,h.rp.call hb,h.rr.call hb,h.rg.call hb,h.bel.trans (hb.mono (by have:=h.rg.lt;omega))⟩
theorem DB.two (h:DB w n R v s X) (hb:B2 (n+1) (n+3) X X') (h1:M.RowAt X' (n+1) 59 R') (h2:M.RowAt X' (n+3) 228 #[.string s']):DB w n R' v s' X':=
 ⟨hb.row h.r0 (by omega) (by omega),h1,hb.row h.rl (by omega) (by omega),h2,hb.row h.rr (by omega) (by omega),hb.row h.rg (by omega) (by omega),hb.below h.bel (by omega) (by omega) (by have:=h.rg.lt;omega)⟩
theorem DB.dx2 (h:DB w n R v s X) (hb:B2 (n+1) (n+3) X X'):DX w n X':=⟨hb.row h.r0 (by omega) (by omega),hb.below h.bel (by omega) (by omega) (by have:=h.rg.lt;omega)⟩
theorem DB.dx (h:DB w n R v s X):DX w n X:=⟨h.r0,h.bel⟩
end
set_option maxRecDepth 100000 in
theorem dec1 {w X:World} {n:Nat} {v:Value} {s:ByteArray} (h:DB w n (Msg.none 0).row v s X) (hs:s.size≤100000) :
 Calls Tryz.prog 114 #[.pointer (some ⟨n+4,0,none⟩),.pointer (some ⟨n+1,0,none⟩)] X fun e X'=>
  (0<s.size∧e=.returned (.tuple #[])∧DB w n (Msg.none (rdN s 1)).row v (rdS s 1) X'∧B2 (n+1) (n+3) X X')∨(s.size=0∧e=.panicked [flt 10]∧B2 (n+1) (n+3) X X'):=by
 have c0:=(h.rr.cell 0).trans rfl
 have num:=rdnum_any ⟨n+3,0,none⟩ s 1 X (row_at h.rp) (by omega)
 have hx0:=rdN_nonneg s 1
 have hx1:rdN s 1<256:=rdN_lt s 1
 have two:=rdE_two (s:=s) (wd:=1) (by decide) (by decide)
 have aft:∀ w',Below X.heap.size (X.setCell ⟨n+3,0,none⟩ (.string (rdS s 1))) w'→M.RowAt w' (n+1) 59 (Msg.none 0).row∧M.RowAt w' (n+3) 228 #[.string (rdS s 1)]∧B2 (n+1) (n+3) X w':=fun w' hb=>
  ⟨(but_written hb).row h.rb (by omega),row_written h.rp hb,B2.of_p (but_written hb)⟩
 have yes:∀ w',M.RowAt w' (n+1) 59 (Msg.none 0).row→M.RowAt w' (n+3) 228 #[.string (rdS s 1)]→B2 (n+1) (n+3) X w'→∀ x,rdN s 1=x→DB w n (Msg.none x).row v (rdS s 1) (w'.setCell ⟨n+1,0,none⟩ (.int .i64 x))∧B2 (n+1) (n+3) X (w'.setCell ⟨n+1,0,none⟩ (.int .i64 x)):=fun w' h1 h2 h3 x hx=>by
  have h4:=h1.set 0 (.int .i64 x)
  rw [Msg.s0] at h4
  have h5:=h3.trans (B2.of_b ((M.But.refl (n+1) w').set (p:=⟨n+1,0,none⟩) (.inl rfl) (.int .i64 x)))
  exact ⟨h.two h5 h4 (h2.far (p:=⟨n+1,0,none⟩) (show n+1≠n+3 by omega) _),h5⟩
 have cel:∀ w',M.RowAt w' (n+1) 59 (Msg.none 0).row→w'.cell? ⟨n+1,0,none⟩=some (.int .i64 0)∧w'.frozen? ⟨n+1,0,none⟩=false:=fun w' h=>⟨(h.cell 0).trans Msg.g0,h.frozen 0⟩
 have NUM:=Lib.hid num;have AFT:=Lib.hid aft;have YES:=Lib.hid yes;have CEL:=Lib.hid cel
 have ME:=Lib.hid (fun x=>must_err 10 rfl x)
 generalize rdS s 1=s' at *
 clear num aft yes cel h hs
 rcases two with ⟨e0,e1⟩ | ⟨e0,e1⟩
 · rw [e0] at NUM
   obtain ⟨x,hx⟩:∃ x,rdN s 1=x:=⟨_,rfl⟩
   rw [hx] at NUM hx0 hx1 ⊢
   have HX:=Lib.hid hx
   have SZ:=Lib.hid (show 0<s.size by omega)
   have cw:IntKind.i64.wrap x=x:=IntWalk.i64_in _ (by omega)
   clear hx e0 e1 hx0 hx1
   go_enter Tryz.func114,Tryz.ntmps114
   go_wp2_with fail
   refine (NUM.out).mono ?_
   rintro e w1 ⟨rfl,hb⟩
   obtain ⟨h1,h2,h3⟩:=AFT.out _ hb
   obtain ⟨cl,cf⟩:=CEL.out _ h1
   have FIN:=Lib.hid (YES.out _ h1 h2 h3 x HX.out)
   clear hb h1 h2 h3
   go_wp2_with fail
   refine (must_ok _).mono ?_
   rintro e w2 ⟨rfl,rfl⟩
   go_wp2
   go_end0
   exact .inl ⟨SZ.out,rfl,FIN.out⟩
 · rw [e0] at NUM
   generalize rdN s 1=x at *
   have SZ:=Lib.hid (show s.size=0 by omega)
   clear hx0 hx1 e0 e1
   go_enter Tryz.func114,Tryz.ntmps114
   go_wp2_with fail
   refine (NUM.out).mono ?_
   rintro e w1 ⟨rfl,hb⟩
   obtain ⟨h1,h2,h3⟩:=AFT.out _ hb
   have FIN:=Lib.hid h3
   clear hb h1 h2 h3
   go_wp2_with fail
   refine (ME.out _).mono ?_
   rintro e w2 ⟨rfl,rfl⟩
   exact ⟨rfl,.inr ⟨SZ.out,rfl,FIN.out⟩⟩
set_option maxRecDepth 100000 in
theorem dec2 {w X:World} {n:Nat} {s:ByteArray} (k:Int) (h:DB w n (Msg.none k).row (.slice none 0 0) s X) :
 Calls Tryz.prog 115 #[.pointer (some ⟨n+1,0,none⟩),.pointer (some ⟨n+2,0,none⟩)] X fun e X'=>
  (∃ fl v',fieldsOf k=some fl∧e=.returned (.tuple #[])∧DB w n (Msg.none k).row v' s X'∧FL 0 X' v' fl∧M.But (n+2) X X')∨(fieldsOf k=none∧e=.panicked [flt 70]∧M.But (n+2) X X'):=by
 have c0:=(h.rb.cell 0).trans Msg.g0
 have fa:=fields_any k X
 have aft:∀ w' v',Below X.heap.size X w'→w'.cell? ⟨n+2,0,none⟩=some (.slice none 0 0)∧w'.frozen? ⟨n+2,0,none⟩=false∧DB w n (Msg.none k).row v' s (w'.setCell ⟨n+2,0,none⟩ v')∧M.But (n+2) X (w'.setCell ⟨n+2,0,none⟩ v')∧M.But (n+2) w' (w'.setCell ⟨n+2,0,none⟩ v'):=fun w' v' hb=>by
  have h1:=h.same hb
  have hb2:=(M.But.refl (n+2) w').set (p:=⟨n+2,0,none⟩) (.inl rfl) v'
  exact ⟨(h1.rl.cell 0).trans rfl,h1.rl.frozen 0,⟨hb2.row h1.r0 (by omega),hb2.row h1.rb (by omega),h1.rl.set 0 v',hb2.row h1.rp (by omega),hb2.row h1.rr (by omega),hb2.row h1.rg (by omega),hb2.below h1.bel (by omega) (by have:=h1.rg.lt;omega)⟩,(M.But.ofBelow (n+2) hb).trans hb2,hb2⟩
 have kp:∀ w' v',Below X.heap.size X w'→Kp 0 w' (w'.setCell ⟨n+2,0,none⟩ v'):=fun w' v' hb=>Kp.of_butT ((M.But.refl (n+2) w').set (p:=⟨n+2,0,none⟩) (.inl rfl) v') (h.same hb).rl rfl
 have AFT:=Lib.hid aft;have KPH:=Lib.hid kp
 have ME:=Lib.hid (fun x=>must_err 70 rfl x)
 clear aft kp h
 generalize (Msg.none k).row=R at *
 cases hf:fieldsOf k with
 | none=>
   rw [hf] at fa
   simp only at fa
   have FA:=Lib.hid fa
   clear fa hf
   go_enter Tryz.func115,Tryz.ntmps115
   go_wp2_with fail
   refine (FA.out).mono ?_
   rintro e w1 ⟨rfl,b1⟩
   obtain ⟨cl,cf,_,h2,_⟩:=AFT.out w1 (.slice none 0 0) b1
   have FIN:=Lib.hid h2
   clear b1 h2
   go_wp2_with fail
   refine (ME.out _).mono ?_
   rintro e w2 ⟨rfl,rfl⟩
   exact ⟨rfl,.inr ⟨by first | rfl | trivial,rfl,FIN.out⟩⟩
 | some fl=>
   rw [hf] at fa
   simp only at fa
   have FA:=Lib.hid fa
   clear fa hf
   go_enter Tryz.func115,Tryz.ntmps115
   go_wp2_with fail
   refine (FA.out).mono ?_
   rintro e w1 ⟨v',rfl,fl1,b1⟩
   obtain ⟨cl,cf,h1,h2,h3⟩:=AFT.out w1 v' b1
   have hfl:=(fl1.mono (Nat.zero_le _)).kept (KPH.out w1 v' b1)
   obtain ⟨A1,L1,C1,rfl⟩:∃ A L C,v'=.slice A L C:=by obtain ⟨g,cap,C,hv,_⟩:=fl1;exact ⟨_,_,_,hv⟩
   have FIN:=Lib.hid (And.intro h1 (And.intro hfl h2))
   clear b1 h1 h2 h3 hfl fl1
   go_wp2
   go_end0
   exact .inl ⟨fl,_,rfl,rfl,FIN.out⟩
set_option maxRecDepth 100000 in
theorem dec3 {w X:World} {n:Nat} {v:Value} (m:Msg) (ho:m.ok) (s:ByteArray) (hs:s.size≤100000) (h:DB w n m.row v s X) (fl:List Fld) (h8:fl.length≤8) (hFL:FL 0 X v fl) :
 Calls Tryz.prog 116 #[.pointer (some ⟨n+4,0,none⟩),.pointer (some ⟨n+2,0,none⟩),.pointer (some ⟨n+1,0,none⟩)] X fun e X'=>
  (e=.returned (.tuple #[])∧∃ q',runs (m,s) fl=some q'∧DB w n q'.1.row v q'.2 X'∧q'.1.ok∧q'.2.size≤s.size∧B2 (n+1) (n+3) X X')∨(e=.panicked [flt 10]∧runs (m,s) fl=none∧B2 (n+1) (n+3) X X'):=by
 have c0:=(h.rr.cell 0).trans rfl
 have c1:=(h.rl.cell 0).trans rfl
 have th:=r_through (b:=n+1) (p:=n+3) fl h8 v X hFL (Nat.zero_le _) (by omega) (m,s) ho hs h.rb h.rp
 obtain ⟨A1,L1,C1,rfl⟩:∃ A L C,v=.slice A L C:=by obtain ⟨g,cap,C,hv,_⟩:=hFL;exact ⟨_,_,_,hv⟩
 have TH:=Lib.hid th
 have HH:=Lib.hid h
 clear th h hFL ho hs h8
 go_enter Tryz.func116,Tryz.ntmps116
 go_wp2_with fail
 refine (TH.out).mono ?_
 rintro e w1 (⟨rfl,q',h1,h2,h3,h4,h5,h6⟩ | ⟨rfl,h1,h2⟩)
 · have FIN:=Lib.hid (And.intro h1 (And.intro (HH.out.two h4 h2 h3) (And.intro h5 (And.intro h6 h4))))
   clear h1 h2 h3 h4 h5 h6
   go_wp2
   go_end0
   exact .inl ⟨rfl,q',FIN.out⟩
 · exact ⟨rfl,.inr ⟨rfl,h1,h2⟩⟩
set_option maxRecDepth 100000 in
theorem dec4 {w X:World} {n:Nat} {R:Array Value} {v:Value} {s:ByteArray} (h:DB w n R v s X) :
 Calls Tryz.prog 117 #[.pointer (some ⟨n+4,0,none⟩)] X fun e X'=>X=X'∧((s.size=0∧e=.returned (.tuple #[]))∨(s.size≠0∧e=.panicked [flt 11])):=by
 have c0:=(h.rr.cell 0).trans rfl
 have ea:=end_any ⟨n+3,0,none⟩ s X (row_at h.rp)
 have ME:=Lib.hid (fun x=>must_err 11 rfl x)
 by_cases hz:s.size=0
 · rw [if_pos hz] at ea
   have EA:=Lib.hid ea
   have HZ:=Lib.hid hz
   clear ea h hz
   go_enter Tryz.func117,Tryz.ntmps117
   go_wp2_with fail
   refine (EA.out).mono ?_
   rintro e w1 ⟨rfl,rfl⟩
   go_wp2_with fail
   refine (must_ok _).mono ?_
   rintro e w2 ⟨rfl,rfl⟩
   go_wp2
   go_end0
   exact ⟨rfl,.inl ⟨HZ.out,rfl⟩⟩
 · rw [if_neg hz] at ea
   have EA:=Lib.hid ea
   have HZ:=Lib.hid hz
   clear ea h hz
   go_enter Tryz.func117,Tryz.ntmps117
   go_wp2_with fail
   refine (EA.out).mono ?_
   rintro e w1 ⟨rfl,rfl⟩
   go_wp2_with fail
   refine (ME.out _).mono ?_
   rintro e w2 ⟨rfl,rfl⟩
   exact ⟨rfl,rfl,.inr ⟨HZ.out,rfl⟩⟩
set_option maxRecDepth 100000 in
theorem dec5 {w X:World} {n:Nat} {v:Value} {s:ByteArray} (m:Msg) (ho:m.ok) (h:DB w n m.row v s X) :
 Calls Tryz.prog 119 #[.pointer (some ⟨n+1,0,none⟩)] X fun e X'=>Below X.heap.size X X'∧((May m∧e=.returned (.tuple #[]))∨(¬ May m∧e=.panicked [flt 1])):=by
 have iX:=Msg.info ho.h32
 have ME:=Lib.hid (fun x=>must_err 1 rfl x)
 have rb:=h.rb
 by_cases hm:May m
 · have ma:=may_any m ho true ⟨fun _=>hm,fun _=>rfl⟩ X
   have MA:=Lib.hid ma
   have HM:=Lib.hid hm
   clear ma hm ho h
   generalize m.row=R at *
   go_enter Tryz.func119,Tryz.ntmps119
   go_wp2_with (first | (refine wpList_load_row (x:=.tmp 0) (ty:=59) (g:=n+1) (cs:=R) (t:=59) (fr:=(0,0)) ?_ ?_ ?_ _ rb Tryz.underlying59 rfl iX ?_;rfl;rfl;rfl) | fail)
   refine (MA.out).mono ?_
   rintro e w1 ⟨rfl,b1⟩
   have B1:=Lib.hid b1
   clear b1
   go_wp2
   go_end0
   exact ⟨B1.out,.inl ⟨HM.out,rfl⟩⟩
 · have ma:=may_any m ho false (Iff.intro (fun h=>Bool.noConfusion h) (fun h=>absurd h hm)) X
   have MA:=Lib.hid ma
   have HM:=Lib.hid hm
   clear ma hm ho h
   generalize m.row=R at *
   go_enter Tryz.func119,Tryz.ntmps119
   go_wp2_with (first | (refine wpList_load_row (x:=.tmp 0) (ty:=59) (g:=n+1) (cs:=R) (t:=59) (fr:=(0,0)) ?_ ?_ ?_ _ rb Tryz.underlying59 rfl iX ?_;rfl;rfl;rfl) | fail)
   refine (MA.out).mono ?_
   rintro e w1 ⟨rfl,b1⟩
   have B1:=Lib.hid b1
   clear b1
   go_wp2_with fail
   refine (ME.out _).mono ?_
   rintro e w2 ⟨rfl,rfl⟩
   exact ⟨rfl,B1.out,.inr ⟨HM.out,rfl⟩⟩
open Go.Proofs.YtdebnbgjgkbmaaaGreatDoor.Oc
open Go.RowKit Go.Shelf
set_option linter.unusedVariables false
def dk (s:ByteArray):Int:=rdN s 1
def dr (s:ByteArray):ByteArray:=rdS s 1
def DecOk (s:ByteArray) (m:Msg):Prop:=0<s.size∧∃ fl s',fieldsOf (dk s)=some fl∧runs (Msg.none (dk s),dr s) fl=some (m,s')∧s'.size=0∧May m
def DecBad (s:ByteArray) (ev:Int):Prop:=
 (s.size=0∧ev=10)∨(0<s.size∧fieldsOf (dk s)=none∧ev=70)∨(0<s.size∧∃ fl,fieldsOf (dk s)=some fl∧((runs (Msg.none (dk s),dr s) fl=none∧ev=10) ∨
   ∃ m s',runs (Msg.none (dk s),dr s) fl=some (m,s')∧((s'.size≠0∧ev=11)∨(s'.size=0∧¬ May m∧ev=1))))
def StD (w:World) (n:Nat) (s:ByteArray):Nat→World→Prop
 | 0,X=>DB w n (Msg.none 0).row (.slice none 0 0) s X
 | 1,X=>0<s.size∧DB w n (Msg.none (dk s)).row (.slice none 0 0) (dr s) X
 | 2,X=>0<s.size∧∃ fl v,fieldsOf (dk s)=some fl∧DB w n (Msg.none (dk s)).row v (dr s) X∧FL 0 X v fl
 | 3,X=>0<s.size∧∃ fl q v,fieldsOf (dk s)=some fl∧runs (Msg.none (dk s),dr s) fl=some q∧q.1.ok∧DB w n q.1.row v q.2 X
 | 4,X=>0<s.size∧∃ fl q v,fieldsOf (dk s)=some fl∧runs (Msg.none (dk s),dr s) fl=some q∧q.1.ok∧q.2.size=0∧DB w n q.1.row v q.2 X
 | _,X=>∃ m v r,DecOk s m∧m.ok∧DB w n m.row v r X
theorem enters50:Enters Tryz.prog 114:=enters_of Tryz.func114 (by kernel_rfl) rfl
theorem enters51:Enters Tryz.prog 115:=enters_of Tryz.func115 (by kernel_rfl) rfl
theorem enters52:Enters Tryz.prog 116:=enters_of Tryz.func116 (by kernel_rfl) rfl
theorem enters53:Enters Tryz.prog 117:=enters_of Tryz.func117 (by kernel_rfl) rfl
theorem enters54:Enters Tryz.prog 119:=enters_of Tryz.func119 (by kernel_rfl) rfl
def fkD:Nat→FuncId
 | 0=>114
 | 1=>115
 | 2=>116
 | 3=>117
 | _=>119
def capD (n:Nat):Nat→Array Value
 | 0=>#[.pointer (some ⟨n+4,0,none⟩),.pointer (some ⟨n+1,0,none⟩)]
 | 1=>#[.pointer (some ⟨n+1,0,none⟩),.pointer (some ⟨n+2,0,none⟩)]
 | 2=>#[.pointer (some ⟨n+4,0,none⟩),.pointer (some ⟨n+2,0,none⟩),.pointer (some ⟨n+1,0,none⟩)]
 | 3=>#[.pointer (some ⟨n+4,0,none⟩)]
 | _=>#[.pointer (some ⟨n+1,0,none⟩)]
theorem StD.db {w X:World} {n k:Nat} {s:ByteArray} (h:StD w n s k X):∃ R v r,DB w n R v r X:=by
 match k,h with
 | 0,h=>exact ⟨_,_,_,h⟩
 | 1,h=>exact ⟨_,_,_,h.2⟩
 | 2,h=>obtain ⟨_,fl,v,_,h,_⟩:=h;exact ⟨_,_,_,h⟩
 | 3,h=>obtain ⟨_,fl,q,v,_,_,_,h⟩:=h;exact ⟨_,_,_,h⟩
 | 4,h=>obtain ⟨_,fl,q,v,_,_,_,_,h⟩:=h;exact ⟨_,_,_,h⟩
 | k+5,h=>obtain ⟨m,v,r,_,_,h⟩:=h;exact ⟨_,_,_,h⟩
theorem dk_ok (s:ByteArray):(Msg.none (dk s)).ok:=by
 have h0:0≤dk s:=rdN_nonneg s 1
 have h1:dk s<256:=rdN_lt s 1
 exact ⟨rfl,fun x hx=>z_in hx,by show _≤dk s;omega,by show dk s≤_;omega,y0,y1,y0,y2,y0,y2,y3,y4,y3,y4⟩
theorem dr_le (s:ByteArray):(dr s).size≤s.size:=rdS_le' _ _
theorem dec_try {w W:World} {n:Nat} {s:ByteArray} (hs:s.size≤100000) (h:DB w n (Msg.none 0).row (.slice none 0 0) s W) :
 Calls Tryz.prog 102 #[.slice (some ⟨n+5,0,none⟩) 5 5] W fun e W'=>(e=.returned (.int .i64 0)∧∃ m v r,DecOk s m∧m.ok∧DB w n m.row v r W')∨(∃ ev,e=.returned (.int .i64 ev)∧(ev==0)=false∧DecBad s ev∧DX w n W'):=by
 have hsz:n+6≤W.heap.size:=h.rg.lt
 have hr:=dr_le s
 refine (try_any (g:=n+5) (n:=5) (cap:=5) fkD (capD n) W (StD w n s) (fun ev X=>DecBad s ev∧DX w n X) (by decide) (fun k hk=>?_) (fun k X hk hX=>?_) (fun k X X' q hk hq hb hX=>?_) (fun ev X X' q hq hb hX=>⟨hX.1,hX.2.but (by omega) hb⟩) (fun k hk X hX=>?_) h).mono ?_
 · match k,hk with
   | 0,_=>exact enters50
   | 1,_=>exact enters51
   | 2,_=>exact enters52
   | 3,_=>exact enters53
   | 4,_=>exact enters54
 · obtain ⟨R,v,r,hd⟩:=hX.db
   match k,hk with
   | 0,_=>exact (hd.rg.cell 0).trans rfl
   | 1,_=>exact (hd.rg.cell 1).trans rfl
   | 2,_=>exact (hd.rg.cell 2).trans rfl
   | 3,_=>exact (hd.rg.cell 3).trans rfl
   | 4,_=>exact (hd.rg.cell 4).trans rfl
 · rcases hk with rfl | rfl
   · exact DB.but hX (by omega) hb
   · obtain ⟨m,v,r,h1,h2,h3⟩:=hX
     exact ⟨m,v,r,h1,h2,h3.but (by omega) hb⟩
 · match k,hk with
   | 0,_=>
     have hX:DB w n (Msg.none 0).row (.slice none 0 0) s X:=hX
     refine (dec1 hX hs).mono ?_
     rintro e X' (⟨h1,rfl,h2,h3⟩ | ⟨h1,rfl,h3⟩)
     · exact .inl ⟨rfl,⟨h1,h2⟩,h3.kp hX.rb hX.rp rfl rfl⟩
     · exact .inr ⟨10,rfl,rfl,⟨.inl ⟨h1,rfl⟩,hX.dx2 h3⟩,h3.kp hX.rb hX.rp rfl rfl⟩
   | 1,_=>
     obtain ⟨h0,hd⟩:=hX
     refine (dec2 (dk s) hd).mono ?_
     rintro e X' (⟨fl,v',h1,rfl,h2,h3,h4⟩ | ⟨h1,rfl,h4⟩)
     · exact .inl ⟨rfl,⟨h0,fl,v',h1,h2,h3⟩,Kp.of_butT h4 hd.rl rfl⟩
     · exact .inr ⟨70,rfl,rfl,⟨.inr (.inl ⟨h0,h1,rfl⟩),h4.row hd.r0 (by omega),h4.below hd.bel (by omega) (by have:=hd.rg.lt;omega)⟩,Kp.of_butT h4 hd.rl rfl⟩
   | 2,_=>
     obtain ⟨h0,fl,v,h1,hd,hfl⟩:=hX
     refine (dec3 (Msg.none (dk s)) (dk_ok s) (dr s) (by omega) hd fl (fields_len h1) hfl).mono ?_
     rintro e X' (⟨rfl,q,h2,h3,h4,_,h5⟩ | ⟨rfl,h2,h5⟩)
     · exact .inl ⟨rfl,⟨h0,fl,q,v,h1,h2,h4,h3⟩,h5.kp hd.rb hd.rp rfl rfl⟩
     · exact .inr ⟨10,rfl,rfl,⟨.inr (.inr ⟨h0,fl,h1,.inl ⟨h2,rfl⟩⟩),hd.dx2 h5⟩,h5.kp hd.rb hd.rp rfl rfl⟩
   | 3,_=>
     obtain ⟨h0,fl,q,v,h1,h2,h3,hd⟩:=hX
     refine (dec4 hd).mono ?_
     rintro e X' ⟨rfl,⟨h4,rfl⟩ | ⟨h4,rfl⟩⟩
     · exact .inl ⟨rfl,⟨h0,fl,q,v,h1,h2,h3,h4,hd⟩,Kp.refl _ _⟩
     · exact .inr ⟨11,rfl,rfl,⟨.inr (.inr ⟨h0,fl,h1,.inr ⟨q.1,q.2,h2,.inl ⟨h4,rfl⟩⟩⟩),hd.dx⟩,Kp.refl _ _⟩
   | 4,_=>
     obtain ⟨h0,fl,q,v,h1,h2,h3,h4,hd⟩:=hX
     refine (dec5 q.1 h3 hd).mono ?_
     rintro e X' ⟨hb,⟨h5,rfl⟩ | ⟨h5,rfl⟩⟩
     · exact .inl ⟨rfl,⟨q.1,v,q.2,⟨h0,fl,q.2,h1,h2,h4,h5⟩,h3,hd.same hb⟩,Kp.of_below hb⟩
     · exact .inr ⟨1,rfl,rfl,⟨.inr (.inr ⟨h0,fl,h1,.inr ⟨q.1,q.2,h2,.inr ⟨h4,h5,rfl⟩⟩⟩),(hd.same hb).dx⟩,Kp.of_below hb⟩
 · rintro e W' (⟨rfl,h1⟩ | ⟨ev,rfl,h1,h2⟩)
   · exact .inl ⟨rfl,h1⟩
   · exact .inr ⟨ev,rfl,h1,h2⟩
open Go.Proofs.YtdebnbgjgkbmaaaGreatDoor.Oc
open Go.RowKit Go.Shelf
set_option linter.unusedVariables false
def Deced (s:ByteArray) (w:World) (e:Ending) (w':World):Prop:=
 ((∃ m,DecOk s m∧m.ok∧e=.returned (.tuple #[.agg m.row,.int .i64 0]))∨(∃ ev,(ev==0)=false∧DecBad s ev∧e=.returned (.tuple #[.agg (Msg.none 0).row,.int .i64 ev])))∧Below w.heap.size w w'
set_option maxRecDepth 100000 in
set_option maxHeartbeats 4000000 in
theorem dec_any (s:ByteArray) (hs:s.size≤100000) (w:World):Calls Tryz.prog 31 #[.string s] w (Deced s w):=by
 obtain ⟨n,hn⟩:∃ n,w.heap.size=n:=⟨_,rfl⟩
 obtain ⟨w1,hw1⟩:∃ w1,w.alloc (.cells (Msg.none 0).row 59)=w1:=⟨_,rfl⟩
 have s1:w1.heap.size=n+1:=by rw [←hw1];simp [hn]
 obtain ⟨w2,hw2⟩:∃ w2,w1.alloc (.cells (Msg.none 0).row 59)=w2:=⟨_,rfl⟩
 have s2:w2.heap.size=n+2:=by rw [←hw2];simp [s1]
 obtain ⟨w3,hw3⟩:∃ w3,w2.alloc (.cells #[.slice none 0 0] 202)=w3:=⟨_,rfl⟩
 have s3:w3.heap.size=n+3:=by rw [←hw3];simp [s2]
 obtain ⟨w4,hw4⟩:∃ w4,w3.alloc (.cells #[.string s] 228)=w4:=⟨_,rfl⟩
 have s4:w4.heap.size=n+4:=by rw [←hw4];simp [s3]
 obtain ⟨w5,hw5⟩:∃ w5,w4.alloc (.cells #[.pointer (some ⟨n+3,0,none⟩)] 81)=w5:=⟨_,rfl⟩
 have s5:w5.heap.size=n+5:=by rw [←hw5];simp [s4]
 obtain ⟨w6,hw6⟩:∃ w6,w5.alloc (.cells #[.func (.func 114) #[] #[.pointer (some ⟨n+4,0,none⟩),.pointer (some ⟨n+1,0,none⟩)],.func (.func 115) #[] #[.pointer (some ⟨n+1,0,none⟩),.pointer (some ⟨n+2,0,none⟩)],.func (.func 116) #[] #[.pointer (some ⟨n+4,0,none⟩),.pointer (some ⟨n+2,0,none⟩),.pointer (some ⟨n+1,0,none⟩)],.func (.func 117) #[] #[.pointer (some ⟨n+4,0,none⟩)],.func (.func 119) #[] #[.pointer (some ⟨n+1,0,none⟩)]] 1)=w6:=⟨_,rfl⟩
 have b6:Below n w w6:=by
  rw [←hw6,← hw5,← hw4,← hw3,← hw2,← hw1,← hn]
  exact ((((((Below.refl _ w).alloc (Nat.le_refl _) _).alloc (by simp) _).alloc (by simp;omega) _).alloc (by simp;omega) _).alloc (by simp;omega) _).alloc (by simp;omega) _
 have q1:M.RowAt w1 n 59 (Msg.none 0).row:=by rw [←hw1,← hn];exact M.RowAt.new w 59 _
 have q2:M.RowAt w2 (n+1) 59 (Msg.none 0).row:=by rw [←hw2,← s1];exact M.RowAt.new w1 59 _
 have q3:M.RowAt w3 (n+2) 202 #[.slice none 0 0]:=by rw [←hw3,← s2];exact M.RowAt.new w2 202 _
 have q4:M.RowAt w4 (n+3) 228 #[.string s]:=by rw [←hw4,← s3];exact M.RowAt.new w3 228 _
 have q5:M.RowAt w5 (n+4) 81 #[.pointer (some ⟨n+3,0,none⟩)]:=by rw [←hw5,← s4];exact M.RowAt.new w4 81 _
 have t2:∀ {k:Nat} {t:TypeId} {C:Array Value},M.RowAt w1 k t C→M.RowAt w2 k t C:=fun h=>by rw [←hw2];exact h.alloc _
 have t3:∀ {k:Nat} {t:TypeId} {C:Array Value},M.RowAt w2 k t C→M.RowAt w3 k t C:=fun h=>by rw [←hw3];exact h.alloc _
 have t4:∀ {k:Nat} {t:TypeId} {C:Array Value},M.RowAt w3 k t C→M.RowAt w4 k t C:=fun h=>by rw [←hw4];exact h.alloc _
 have t5:∀ {k:Nat} {t:TypeId} {C:Array Value},M.RowAt w4 k t C→M.RowAt w5 k t C:=fun h=>by rw [←hw5];exact h.alloc _
 have t6:∀ {k:Nat} {t:TypeId} {C:Array Value},M.RowAt w5 k t C→M.RowAt w6 k t C:=fun h=>by rw [←hw6];exact h.alloc _
 have db:DB w n (Msg.none 0).row (.slice none 0 0) s w6:=⟨t6 (t5 (t4 (t3 (t2 q1)))),t6 (t5 (t4 (t3 q2))),t6 (t5 (t4 q3)),t6 (t5 q4),t6 q5,by rw [←hw6,← s5];exact M.RowAt.new w5 1 _,b6⟩
 have T:=Lib.hid (dec_try hs db)
 have nw:=new_any s w3
 rw [s3,hw4] at nw
 have NW:=Lib.hid nw
 have iZ:=Msg.info (m:=Msg.none 0) rfl
 have oZ:=Msg.one (m:=Msg.none 0)
 have zrow:=none_row 0
 rw [zrow] at hw1 hw2
 have HN:=Lib.hid hn;have HW1:=Lib.hid hw1;have HW2:=Lib.hid hw2;have HW3:=Lib.hid hw3;have HW5:=Lib.hid hw5;have HW6:=Lib.hid hw6
 have S1:=Lib.hid s1;have S2:=Lib.hid s2;have S4:=Lib.hid s4;have S5:=Lib.hid s5
 have hmf:=mkf
 unfold Deced
 rw [hn]
 clear nw t2 t3 t4 t5 t6 q1 q2 q3 q4 q5 db b6 hn hw1 hw2 hw3 hw4 hw5 hw6 s1 s2 s3 s4 s5 hs
 have ZR:=Lib.hid zrow
 clear zrow
 obtain ⟨Z,hZ⟩:∃ Z,(Msg.none 0).row=Z:=⟨_,rfl⟩
 rw [hZ] at iZ oZ ZR ⊢
 have HZZ:=Lib.hid hZ
 clear hZ
 go_enter Tryz.func31,Tryz.ntmps31
 go_wp2_with (first | (rw [HN.out,HW1.out]) | (rw [S1.out,HW2.out]) | (rw [S2.out,HW3.out]) | ((with_reducible refine (NW.out).mono ?_);rintro e x ⟨rfl,rfl⟩) | (rw [S4.out,HW5.out]) | (rw [S5.out,HW6.out]) | fail)
 refine (T.out).mono ?_
 rintro e w7 (⟨rfl,m,v,r,h1,h2,h3⟩ | ⟨ev,rfl,hz,h1,h2⟩)
 · have r0:=h3.r0
   rw [HZZ.out] at r0
   have rb:=h3.rb
   have iX:=Msg.info h2.h32
   have oX:=Msg.one (m:=m)
   have zX:Z.size=m.row.size:=by rw [Msg.size h2.h32,ZR.out];rfl
   have H1:=Lib.hid h1;have H2:=Lib.hid h2;have H3:=Lib.hid h3
   have r1:=r0.setRow m.row
   have b1:Below n w (w7.setRow n m.row):=(M.But.refl n w7).setRow (.inl rfl) m.row |>.below h3.bel (Nat.le_refl _) (by have:=h3.rg.lt;omega)
   clear h1 h2 h3
   obtain ⟨R,hR⟩:∃ R,m.row=R:=⟨_,rfl⟩
   rw [hR] at rb iX oX zX r1 b1
   have HR:=Lib.hid hR
   clear hR
   go_wp2_with (first | (refine wpList_load_row (x:=.tmp 4) (ty:=59) (g:=n+1) (cs:=R) (t:=59) (fr:=(0,0)) ?_ ?_ ?_ _ rb Tryz.underlying59 rfl iX ?_;rfl;rfl;rfl) | (refine wpList_store_row (x:=.tmp 2) (y:=.tmp 21) (cells:=R) (old:=Z) (t:=59) (ty:=59) (g:=n) ?_ ?_ ?_ ?_ r0 iX zX oX ?_;rfl;rfl;rfl;rfl) | fail)
   have hload:=run_loadVar_row (P:=Tryz.prog) _ n 59 59 R (0,0) _ r1 Tryz.underlying59 rfl iX
   exact bodyPost_ret (v:=.tuple #[.agg R,.int .i64 0]) (by simp [results,Tryz.results31,asAddr,hload]) rfl ⟨.inl ⟨m,H1.out,H2.out,by rw [HR.out]⟩,b1⟩
 · have r0:=h2.1
   rw [HZZ.out] at r0
   have r1:=r0.setRow Z
   have b1:Below n w (w7.setRow n Z):=(M.But.refl n w7).setRow (.inl rfl) Z |>.below h2.2 (Nat.le_refl _) (by have:=r0.lt;omega)
   have H1:=Lib.hid h1;have HZ:=Lib.hid hz
   have hz':(ev != 0)=true:=by simpa using hz
   clear h1 h2
   go_wp2_with (first | (refine wpList_store_row (x:=.tmp 2) (y:=.tmp 19) (cells:=Z) (old:=Z) (t:=59) (ty:=59) (g:=n) ?_ ?_ ?_ ?_ r0 iZ rfl oZ ?_;rfl;rfl;rfl;(rw [ZR.out];rfl)) | fail)
   have hload:=run_loadVar_row (P:=Tryz.prog) _ n 59 59 Z (0,0) _ r1 Tryz.underlying59 rfl iZ
   exact bodyPost_ret (v:=.tuple #[.agg Z,.int .i64 ev]) (by simp [results,Tryz.results31,asAddr,hload]) rfl ⟨.inr ⟨ev,HZ.out,H1.out,rfl⟩,b1⟩
open Go.Proofs.YtdebnbgjgkbmaaaGreatDoor.Oc
open Go.RowKit Go.Shelf
set_option linter.unusedVariables false
theorem kinds (k:Int):k=1∨k=2∨k=3∨k=4∨k=5∨k=6∨k=7∨k=8∨k=9∨¬ (1≤k∧k≤9):=by omega
theorem empty_app (s:ByteArray):(⟨#[]⟩:ByteArray)++s=s:=by apply ByteArray.ext;simp [ByteArray.data_append]
theorem fields_out {k:Int} (h:¬ (1≤k∧k≤9)):fieldsOf k=none:=by
 unfold fieldsOf
 rw [if_neg (by omega),if_neg (by omega),if_neg (by omega),if_neg (by omega),if_neg (by omega),if_neg (by omega),if_neg (by omega),if_neg (by omega),if_neg (by omega)]
def bytesL (m:Msg) (fl:List Fld):ByteArray:=fl.foldr (fun f t=>fbytes m f++t) ⟨#[]⟩
theorem app_nil (s:ByteArray):s++(⟨#[]⟩:ByteArray)=s:=by apply ByteArray.ext;simp [ByteArray.data_append]
theorem app_assoc (a b c:ByteArray):a++b++c=a++(b++c):=by apply ByteArray.ext;simp [ByteArray.data_append]
theorem cat_bytes (m:Msg):∀ (fl:List Fld) (s:ByteArray),cat m s fl=s++bytesL m fl
 | [],s=>(app_nil s).symm
 | f::r,s=>by
   show cat m (s++fbytes m f) r=s++(fbytes m f++bytesL m r)
   rw [cat_bytes m r,app_assoc]
def put (q m:Msg):Fld→Msg
 | .chan=>{ q with chan:=m.chan }
 | .id=>{ q with id:=m.id }
 | .amount=>{ q with amount:=m.amount }
 | .hash=>{ q with hash:=m.hash }
 | .expiry=>{ q with expiry:=m.expiry }
 | .number=>{ q with number:=m.number }
theorem numB_low {n:Int} {wd:Nat} (h1:1≤wd) (h8:wd≤8) (h0:0≤n) (h:n<2 ^ (8*(wd:Int)).toNat):numB n (wd:Int)=low n wd:=by
 unfold numB
 rw [if_neg,Int.toNat_natCast,top_low]
 rintro (q | q | q)
 · omega
 · omega
 · exact q (Int.ediv_eq_zero_of_lt h0 h)
theorem rh_app (l:List Int) (h:l.length=32) (hin:∀ n∈l,0≤n∧n≤255) (R:ByteArray):rhH (strOfNums l++R)=l∧rhE (strOfNums l++R)=0∧rhS (strOfNums l++R)=R:=by
 have hs:(strOfNums l).size=32:=by rw [strOfNums_size,h]
 have hsz:(strOfNums l++R).size=32+R.size:=by rw [ByteArray.size_append,hs]
 have e0:=(rh_hash l h hin).1
 unfold rhH at e0 ⊢
 unfold rhE rhS
 rw [if_neg (by omega)] at e0
 rw [if_neg (by omega),if_neg (by omega),if_neg (by omega)]
 refine ⟨?_,rfl,?_⟩
 · have:(strOfNums l++R).extract 0 32=(strOfNums l).extract 0 32:=by
    apply ByteArray.ext
    have hd:(strOfNums l).data.size=32:=hs
    rw [ByteArray.data_extract,ByteArray.data_extract,ByteArray.data_append,Array.extract_append]
    simp [hd]
   rw [this];exact e0
 · rw [hsz]
   have:=back_of (strOfNums l) R
   rw [hs] at this
   exact this
theorem rdF_put (q m:Msg) (ho:m.ok) (ft:Fits m) (f:Fld) (R:ByteArray):rdF q (fbytes m f++R) f=(put q m f,R,0):=by
 have e0:=ft.e0;have e1:=ft.e1;have n0:=ft.n0;have n1:=ft.n1
 cases f
 · obtain ⟨h1,h2,h3⟩:=rdN_low m.chan 4 R ho.c0 (by have:=ho.c1;show m.chan<4294967296;omega) (by decide) (by decide)
   have e:=numB_low (n:=m.chan) (wd:=4) (by decide) (by decide) ho.c0 (by have:=ho.c1;show m.chan<4294967296;omega)
   simp only [rdF,fbytes,put]
   rw [show numB m.chan 4=low m.chan 4 from e,show rdN _ (4:Int)=_ from h1,show rdE _ (4:Int)=_ from h2,show rdS _ (4:Int)=_ from h3]
 · obtain ⟨h1,h2,h3⟩:=rdN_low m.id 8 R ho.i0 (by have:=ho.i1;show m.id<18446744073709551616;omega) (by decide) (by decide)
   have e:=numB_low (n:=m.id) (wd:=8) (by decide) (by decide) ho.i0 (by have:=ho.i1;show m.id<18446744073709551616;omega)
   simp only [rdF,fbytes,put]
   rw [show numB m.id 8=low m.id 8 from e,show rdN _ (8:Int)=_ from h1,show rdE _ (8:Int)=_ from h2,show rdS _ (8:Int)=_ from h3]
 · obtain ⟨h1,h2,h3⟩:=rdN_low m.amount 8 R ho.a0 (by have:=ho.a1;show m.amount<18446744073709551616;omega) (by decide) (by decide)
   have e:=numB_low (n:=m.amount) (wd:=8) (by decide) (by decide) ho.a0 (by have:=ho.a1;show m.amount<18446744073709551616;omega)
   simp only [rdF,fbytes,put]
   rw [show numB m.amount 8=low m.amount 8 from e,show rdN _ (8:Int)=_ from h1,show rdE _ (8:Int)=_ from h2,show rdS _ (8:Int)=_ from h3]
 · obtain ⟨h1,h2,h3⟩:=rh_app m.hash ho.h32 ho.hb R
   simp only [rdF,fbytes,put]
   rw [h1,h2,h3]
 · obtain ⟨h1,h2,h3⟩:=rdN_low m.expiry 4 R e0 (by show m.expiry<4294967296;omega) (by decide) (by decide)
   have e:=numB_low (n:=m.expiry) (wd:=4) (by decide) (by decide) e0 (by show m.expiry<4294967296;omega)
   simp only [rdF,fbytes,put]
   rw [show numB m.expiry 4=low m.expiry 4 from e,show rdN _ (4:Int)=_ from h1,show rdE _ (4:Int)=_ from h2,show rdS _ (4:Int)=_ from h3]
 · obtain ⟨h1,h2,h3⟩:=rdN_low m.number 2 R n0 (by show m.number<65536;omega) (by decide) (by decide)
   have e:=numB_low (n:=m.number) (wd:=2) (by decide) (by decide) n0 (by show m.number<65536;omega)
   simp only [rdF,fbytes,put]
   rw [show numB m.number 2=low m.number 2 from e,show rdN _ (2:Int)=_ from h1,show rdE _ (2:Int)=_ from h2,show rdS _ (2:Int)=_ from h3]
theorem runs_bytes (m:Msg) (ho:m.ok) (ft:Fits m) (R:ByteArray):∀ (fl:List Fld) (q:Msg),runs (q,bytesL m fl++R) fl=some (fl.foldl (fun q f=>put q m f) q,R)
 | [],q=>by
   show some (q,(⟨#[]⟩:ByteArray)++R)=_
   rw [empty_app];rfl
 | f::r,q=>by
   show (rd1 (q,fbytes m f++bytesL m r++R) f).bind _=_
   rw [app_assoc]
   have h:=rdF_put q m ho ft f (bytesL m r++R)
   have h1:rd1 (q,fbytes m f++(bytesL m r++R)) f=some (put q m f,bytesL m r++R):=by
    unfold rd1
    simp only [h]
    rfl
   rw [h1]
   exact runs_bytes m ho ft R r (put q m f)
theorem put_all {m:Msg} {fl:List Fld} (hf:fieldsOf m.kind=some fl) (hm:MayP m fl):fl.foldl (fun q f=>put q m f) (Msg.none m.kind)=m:=by
 have hz:=hm.z
 clear hm
 obtain ⟨k,c,i,a,h,e,n⟩:=m
 rcases kinds k with rfl | rfl | rfl | rfl | rfl | rfl | rfl | rfl | rfl | hk
 case inr.inr.inr.inr.inr.inr.inr.inr.inr=>rw [fields_out hk] at hf;cases hf
 all_goals
  obtain rfl:=Option.some.inj hf
  simp only [zeroAll,List.foldl,Msg.zero,Msg.none,Msg.mk.injEq,true_and,and_true] at hz
  simp only [List.foldl,put,Msg.none,Msg.mk.injEq,true_and,and_true]
  first
   | trivial
   | exact hz.symm
   | exact ⟨hz.1.symm,hz.2.symm⟩
   | exact ⟨hz.1.symm,hz.2.1.symm,hz.2.2.symm⟩
   | exact ⟨hz.1.symm,hz.2.1.symm,hz.2.2.1.symm,hz.2.2.2.symm⟩
   | exact ⟨hz.1.symm,hz.2.1.symm,hz.2.2.1.symm,hz.2.2.2.1.symm,hz.2.2.2.2.symm⟩
theorem kindB_low {m:Msg} (h0:0≤m.kind) (h9:m.kind≤9):kindB m=strOfNums (low m.kind 1):=by
 unfold kindB
 rw [empty_app,show numB m.kind 1=low m.kind 1 from numB_low (wd:=1) (by decide) (by decide) h0 (by show m.kind<256;omega)]
theorem enc_more {m:Msg} {fl:List Fld} (ho:m.ok) (hf:fieldsOf m.kind=some fl) (hm:MayP m fl) (R:ByteArray) :
 0<(encB m fl++R).size∧dk (encB m fl++R)=m.kind∧runs (Msg.none m.kind,dr (encB m fl++R)) fl=some (m,R):=by
 obtain ⟨h0,h9⟩:=may_kind hf
 have hb:encB m fl++R=strOfNums (low m.kind 1)++(bytesL m fl++R):=by
  unfold encB;rw [cat_bytes,kindB_low (by omega) h9,app_assoc]
 obtain ⟨h1,h2,h3⟩:=rdN_low m.kind 1 (bytesL m fl++R) (by omega) (by show m.kind<256;omega) (by decide) (by decide)
 refine ⟨?_,?_,?_⟩
 · rw [hb,ByteArray.size_append,strOfNums_size,low_len];omega
 · rw [hb];exact h1
 · have:dr (encB m fl++R)=bytesL m fl++R:=by rw [hb];exact h3
   rw [this,runs_bytes m ho ⟨hm.e0,hm.e1,hm.n0,hm.n1⟩ R fl,put_all hf hm]
theorem enc_dec {m:Msg} {fl:List Fld} (ho:m.ok) (hf:fieldsOf m.kind=some fl) (hm:MayP m fl):DecOk (encB m fl) m:=by
 obtain ⟨h1,h2,h3⟩:=enc_more ho hf hm ⟨#[]⟩
 rw [app_nil] at h1 h2 h3
 exact ⟨h1,fl,⟨#[]⟩,by rw [h2];exact hf,by rw [h2];exact h3,rfl,⟨fl,hf,hm⟩⟩
theorem dec_one {s:ByteArray} {m m':Msg} (h:DecOk s m) (h':DecOk s m'):m=m':=by
 obtain ⟨_,fl,r,h1,h2,_⟩:=h
 obtain ⟨_,fl',r',g1,g2,_⟩:=h'
 rw [h1] at g1;cases g1
 rw [h2] at g2;cases g2;rfl
theorem dec_ok_bad {s:ByteArray} {m:Msg} {ev:Int} (h:DecOk s m) (h':DecBad s ev):False:=by
 obtain ⟨h0,fl,r,h1,h2,h3,h4⟩:=h
 rcases h' with ⟨g,_⟩ | ⟨_,g,_⟩ | ⟨_,fl',g1,g⟩
 · omega
 · rw [h1] at g;cases g
 · rw [h1] at g1;cases g1
   rw [h2] at g
   rcases g with ⟨g,_⟩ | ⟨m',r',g,g'⟩
   · cases g
   · cases g
     rcases g' with ⟨g',_⟩ | ⟨_,g',_⟩
     · exact g' h3
     · exact g' h4
end Go.Proofs.YtdebnbgjgkbmaaaGreatDoor.Wi
namespace Go.Proofs.YtdebnbgjgkbmaaaGreatDoor
namespace SX
open Go Go.RowKit Go.Proofs.YtdebnbgjgkbmaaaGreatDoor.Oc Go.Proofs.YtdebnbgjgkbmaaaGreatDoor.Wi
set_option linter.unusedVariables false
structure NM where
 k:Nat
 c:Nat
 i:Nat
 a:Nat
 hs:List Nat
 e:Nat
 n:Nat
def NM.msg (m:NM):Msg:=⟨m.k,m.c,m.i,m.a,m.hs.map Int.ofNat,m.e,m.n⟩
noncomputable def isIn (f:Fld):List Fld→Bool:=List.rec (motive:=fun _=>Bool) false (fun g _ ih=>Bool.rec (motive:=fun _=>Bool) ih true (Nat.beq f.ctorIdx g.ctorIdx))
noncomputable def allLt (n:Nat):List Nat→Bool:=List.rec (motive:=fun _=>Bool) true (fun x _ ih=>Bool.rec (motive:=fun _=>Bool) false ih (Nat.blt x n))
noncomputable def allZ:List Nat→Bool:=List.rec (motive:=fun _=>Bool) true (fun x _ ih=>Bool.rec (motive:=fun _=>Bool) false ih (Nat.beq x 0))
theorem allLt_mem {n:Nat}:∀ {l:List Nat},allLt n l=true→∀ x∈l,x<n
 | [],_,x,hx=>by cases hx
 | y::l,h,x,hx=>by
   have h':Bool.rec (motive:=fun _=>Bool) false (allLt n l) (Nat.blt y n)=true:=h
   cases hb:Nat.blt y n with
   | false=>rw [hb] at h';cases h'
   | true=>
     rw [hb] at h'
     rcases List.mem_cons.1 hx with rfl | hx
     · exact blt_lt hb
     · exact allLt_mem h' x hx
theorem allZ_mem:∀ {l:List Nat},allZ l=true→l=List.replicate l.length 0
 | [],_=>rfl
 | y::l,h=>by
   have h':Bool.rec (motive:=fun _=>Bool) false (allZ l) (Nat.beq y 0)=true:=h
   cases hb:Nat.beq y 0 with
   | false=>rw [hb] at h';cases h'
   | true=>
     rw [hb] at h'
     rw [Nat.eq_of_beq_eq_true hb,List.length_cons,List.replicate_succ,← allZ_mem h']
noncomputable def orZ (b:Bool) (n:Nat):Bool:=Bool.rec (motive:=fun _=>Bool) (Nat.beq n 0) true b
noncomputable def NM.good (m:NM) (fl:List Fld):Bool:=
 and (Nat.beq m.hs.length 32) (and (allLt 256 m.hs) (and (Nat.ble m.c 4294967295) (and (Nat.ble m.i 18446744073709551615) (and (Nat.ble m.a 1125899906842624) (and (Nat.ble m.e 1073741824) (and (Nat.ble m.n 65535) (and (isIn .chan fl) (and
  (orZ (isIn .id fl) m.i) (and (orZ (isIn .amount fl) m.a) (and (Bool.rec (motive:=fun _=>Bool) (allZ m.hs) true (isIn .hash fl)) (and (orZ (isIn .expiry fl) m.e) (orZ (isIn .number fl) m.n))))))))))))
noncomputable def fldsN (k:Nat):Option (List Fld):=
 Bool.rec (motive:=fun _=>Option (List Fld)) (Bool.rec (motive:=fun _=>Option (List Fld)) (Bool.rec (motive:=fun _=>Option (List Fld)) (Bool.rec (motive:=fun _=>Option (List Fld)) (Bool.rec (motive:=fun _=>Option (List Fld)) (Bool.rec (motive:=fun _=>Option (List Fld)) none (some [.chan,.amount]) (Nat.beq k 1)) (some [.chan,.id,.number]) (Nat.beq k 5)) (some [.chan,.number,.hash]) (Nat.beq k 7)) (some [.chan,.number,.hash]) (Nat.beq k 6)) (some [.chan,.id,.hash]) (Nat.beq k 4)) (some [.chan,.id,.amount,.hash,.expiry]) (Nat.beq k 3)
theorem fldsN_eq {k:Nat} {fl:List Fld} (h:fldsN k=some fl):fieldsOf (k:Int)=some fl∧k≤9:=by
 unfold fldsN at h
 cases h3:Nat.beq k 3 with
 | true=>rw [h3] at h;cases h;obtain rfl:=Nat.eq_of_beq_eq_true h3;exact ⟨rfl,by decide⟩
 | false=>
 rw [h3] at h
 cases h4:Nat.beq k 4 with
 | true=>rw [h4] at h;cases h;obtain rfl:=Nat.eq_of_beq_eq_true h4;exact ⟨rfl,by decide⟩
 | false=>
 rw [h4] at h
 cases h6:Nat.beq k 6 with
 | true=>rw [h6] at h;cases h;obtain rfl:=Nat.eq_of_beq_eq_true h6;exact ⟨rfl,by decide⟩
 | false=>
 rw [h6] at h
 cases h7:Nat.beq k 7 with
 | true=>rw [h7] at h;cases h;obtain rfl:=Nat.eq_of_beq_eq_true h7;exact ⟨rfl,by decide⟩
 | false=>
 rw [h7] at h
 cases h5:Nat.beq k 5 with
 | true=>rw [h5] at h;cases h;obtain rfl:=Nat.eq_of_beq_eq_true h5;exact ⟨rfl,by decide⟩
 | false=>
 rw [h5] at h
 cases h1:Nat.beq k 1 with
 | true=>rw [h1] at h;cases h;obtain rfl:=Nat.eq_of_beq_eq_true h1;exact ⟨rfl,by decide⟩
 | false=>rw [h1] at h;cases h
theorem isIn_mem {f:Fld}:∀ {fl:List Fld},isIn f fl=true→f∈fl
 | [],h=>by cases h
 | g::fl,h=>by
   have h':Bool.rec (motive:=fun _=>Bool) (isIn f fl) true (Nat.beq f.ctorIdx g.ctorIdx)=true:=h
   cases hb:Nat.beq f.ctorIdx g.ctorIdx with
   | false=>rw [hb] at h';exact List.mem_cons_of_mem _ (isIn_mem h')
   | true=>
     have:=Nat.eq_of_beq_eq_true hb
     have e:f=g:=by cases f<;>cases g<;>first | rfl | (cases this)
     rw [e];exact List.mem_cons_self
theorem zeroAll_of (fl:List Fld):∀ (m:Msg),m.hash.length=32→(.chan∈fl∨m.chan=0)→(.id∈fl∨m.id=0)→(.amount∈fl∨m.amount=0)→(.hash∈fl∨m.hash=z32)→(.expiry∈fl∨m.expiry=0)→(.number∈fl∨m.number=0)→zeroAll m fl=Msg.none m.kind:=by
 induction fl with
 | nil=>
   intro m hl h1 h2 h3 h4 h5 h6
   obtain ⟨k,c,i,a,h,e,n⟩:=m
   simp at h1 h2 h3 h4 h5 h6
   subst h1;subst h2;subst h3;subst h4;subst h5;subst h6
   rfl
 | cons f fl ih=>
   intro m hl h1 h2 h3 h4 h5 h6
   show zeroAll (m.zero f) fl=_
   have hk:(m.zero f).kind=m.kind:=by cases f<;>rfl
   rw [←hk]
   refine ih (m.zero f) (Msg.zero32 hl f) ?_ ?_ ?_ ?_ ?_ ?_
   all_goals
    cases f<;>first
     | exact .inr rfl
     | (rcases ‹Fld.chan∈_∨_› with q | q<;>simp_all [Msg.zero])
theorem ints_z (l:List Nat) (h:l.length=32) (hz:allZ l=true):l.map Int.ofNat=z32:=by
 rw [allZ_mem hz,h];rfl
theorem orZ_of {b:Bool} {n:Nat} (h:orZ b n=true):b=true∨n=0:=by
 unfold orZ at h
 cases b with
 | true=>exact .inl rfl
 | false=>exact .inr (Nat.eq_of_beq_eq_true h)
structure NM.Good (m:NM) (fl:List Fld):Prop where
 h32:m.hs.length=32
 hb:∀ x∈m.hs,x<256
 c1:m.c≤4294967295
 i1:m.i≤18446744073709551615
 a1:m.a≤1125899906842624
 e1:m.e≤1073741824
 n1:m.n≤65535
 z:zeroAll m.msg fl=Msg.none m.msg.kind
theorem NM.good_ok {m:NM} {fl:List Fld} (h:m.good fl=true):m.Good fl:=by
 unfold NM.good at h
 have h:(Nat.beq m.hs.length 32&&(allLt 256 m.hs&&(Nat.ble m.c 4294967295&&(Nat.ble m.i 18446744073709551615&&(Nat.ble m.a 1125899906842624&&(Nat.ble m.e 1073741824&&(Nat.ble m.n 65535&&(isIn .chan fl &&
  (orZ (isIn .id fl) m.i&&(orZ (isIn .amount fl) m.a&&((Bool.rec (motive:=fun _=>Bool) (allZ m.hs) true (isIn .hash fl))&&(orZ (isIn .expiry fl) m.e&&orZ (isIn .number fl) m.n))))))))))))=true:=h
 simp only [Bool.and_eq_true] at h
 obtain ⟨h1,h2,h3,h4,h5,h6,h7,h8,h9,h10,h11,h12,h13⟩:=h
 have hl:=Nat.eq_of_beq_eq_true h1
 refine ⟨hl,allLt_mem h2,Nat.le_of_ble_eq_true h3,Nat.le_of_ble_eq_true h4,Nat.le_of_ble_eq_true h5,Nat.le_of_ble_eq_true h6,Nat.le_of_ble_eq_true h7,?_⟩
 have to0:∀ {n:Nat},n=0→(n:Int)=0:=fun e=>by rw [e];rfl
 refine zeroAll_of fl m.msg (by show (m.hs.map Int.ofNat).length=32;rw [List.length_map];exact hl) (.inl (isIn_mem h8)) ((orZ_of h9).imp isIn_mem to0) ((orZ_of h10).imp isIn_mem to0) ?_ ((orZ_of h12).imp isIn_mem to0) ((orZ_of h13).imp isIn_mem to0)
 cases hh:isIn .hash fl with
 | true=>exact .inl (isIn_mem hh)
 | false=>rw [hh] at h11;exact .inr (ints_z m.hs hl h11)
theorem NM.Good.ok {m:NM} {fl:List Fld} (g:m.Good fl) (hk:m.k≤9):m.msg.ok:=by
 have:=g.c1;have:=g.i1;have:=g.a1;have:=g.e1;have:=g.n1
 refine ⟨by show (m.hs.map Int.ofNat).length=32;rw [List.length_map];exact g.h32,fun x hx=>?_,?_,?_,?_,?_,?_,?_,?_,?_,?_,?_,?_,?_⟩
 · obtain ⟨y,hy,rfl⟩:=List.mem_map.1 hx
   have:=g.hb y hy
   show (0:Int)≤(y:Int)∧(y:Int)≤255
   omega
 all_goals (simp only [NM.msg];omega)
theorem NM.Good.may {m:NM} {fl:List Fld} (g:m.Good fl):MayP m.msg fl:=by
 have:=g.e1;have:=g.n1;have:=g.a1
 exact ⟨by simp only [NM.msg];omega,by simp only [NM.msg];omega,by simp only [NM.msg];omega,by simp only [NM.msg];omega,by simp only [NM.msg];omega,g.z⟩
noncomputable def beF (n:Nat) (l:List Nat):Nat→List Nat:=Nat.rec (motive:=fun _=>List Nat) l (fun k ih=>List.cons (Nat.mod (Nat.div n (Nat.pow 256 k)) 256) ih)
theorem beF_eq (n:Nat) (l:List Nat):∀ k,strB (beF n l k)=strOfNums (low (n:Int) k)++strB l
 | 0=>(empty_app _).symm
 | k+1=>by
   have ih:=beF_eq n l k
   have e1:strB (beF n l (k+1))=⟨⟨UInt8.ofNat (n/256 ^ k%256)::(beF n l k).map UInt8.ofNat⟩⟩:=rfl
   have e2:strOfNums (low (n:Int) (k+1))=⟨⟨UInt8.ofNat ((n:Int)/256 ^ k%256).toNat::(low (n:Int) k).map fun n=>UInt8.ofNat n.toNat⟩⟩:=rfl
   have e3:((n:Int)/256 ^ k%256).toNat=n/256 ^ k%256:=by
    have:((n:Int)/256 ^ k%256)=((n/256 ^ k%256:Nat):Int):=by
     rw [Int.natCast_emod,Int.natCast_ediv,Int.natCast_pow];rfl
    rw [this,Int.toNat_natCast]
   rw [e1,e2,e3]
   apply ByteArray.ext
   rw [ByteArray.data_append]
   apply Array.ext'
   rw [Array.toList_append]
   have ih2:=congrArg (fun b:ByteArray=>b.data.toList) ih
   simp only [ByteArray.data_append,Array.toList_append] at ih2
   show _::(strB (beF n l k)).data.toList=_::(strOfNums (low (n:Int) k)).data.toList++_
   rw [ih2];rfl
noncomputable def NM.fld (m:NM) (f:Fld) (l:List Nat):List Nat:=Fld.casesOn (motive:=fun _=>List Nat) f (beF m.c l 4) (beF m.i l 8) (beF m.a l 8) (List.append m.hs l) (beF m.e l 4) (beF m.n l 2)
noncomputable def NM.flds (m:NM):List Fld→List Nat:=List.rec (motive:=fun _=>List Nat) [] (fun f _ ih=>m.fld f ih)
noncomputable def NM.enc (m:NM) (fl:List Fld):List Nat:=beF m.k (m.flds fl) 1
theorem strB_app (l r:List Nat):strB (l++r)=strB l++strB r:=by
 apply ByteArray.ext
 rw [ByteArray.data_append]
 apply Array.ext'
 rw [Array.toList_append]
 show (l++r).map _=_
 rw [List.map_append];rfl
theorem NM.flds_eq {m:NM} {fl0:List Fld} (g:m.Good fl0):∀ fl,strB (m.flds fl)=bytesL m.msg fl
 | []=>rfl
 | f::fl=>by
   have ih:=NM.flds_eq g fl
   have h1:=g.c1;have h2:=g.i1;have h3:=g.a1;have h4:=g.e1;have h5:=g.n1
   have nb:∀ (n wd:Nat),1≤wd→wd≤8→n<2 ^ (8*wd)→numB (n:Int) (wd:Int)=low (n:Int) wd:=fun n wd a b c=>numB_low a b (by omega) (by
    have:(8*(wd:Int)).toNat=8*wd:=by omega
    rw [this];exact_mod_cast c)
   show strB (m.fld f (m.flds fl))=fbytes m.msg f++bytesL m.msg fl
   rw [←ih]
   cases f
   · show strB (beF m.c _ 4)=strOfNums (numB (m.c:Int) 4)++_
     rw [beF_eq,show numB (m.c:Int) 4=low (m.c:Int) 4 from nb m.c 4 (by decide) (by decide) (by show m.c<4294967296;omega)]
   · show strB (beF m.i _ 8)=strOfNums (numB (m.i:Int) 8)++_
     rw [beF_eq,show numB (m.i:Int) 8=low (m.i:Int) 8 from nb m.i 8 (by decide) (by decide) (by show m.i<18446744073709551616;omega)]
   · show strB (beF m.a _ 8)=strOfNums (numB (m.a:Int) 8)++_
     rw [beF_eq,show numB (m.a:Int) 8=low (m.a:Int) 8 from nb m.a 8 (by decide) (by decide) (by show m.a<18446744073709551616;omega)]
   · show strB (m.hs++_)=strOfNums (m.hs.map Int.ofNat)++_
     rw [strB_app]
     congr 1
     unfold strB strOfNums
     rw [List.map_map];rfl
   · show strB (beF m.e _ 4)=strOfNums (numB (m.e:Int) 4)++_
     rw [beF_eq,show numB (m.e:Int) 4=low (m.e:Int) 4 from nb m.e 4 (by decide) (by decide) (by show m.e<4294967296;omega)]
   · show strB (beF m.n _ 2)=strOfNums (numB (m.n:Int) 2)++_
     rw [beF_eq,show numB (m.n:Int) 2=low (m.n:Int) 2 from nb m.n 2 (by decide) (by decide) (by show m.n<65536;omega)]
theorem NM.enc_eq {m:NM} {fl:List Fld} (g:m.Good fl) (hk:m.k≤9):strB (m.enc fl)=encB m.msg fl:=by
 unfold NM.enc encB
 rw [beF_eq,NM.flds_eq g,cat_bytes,kindB_low (by show (0:Int)≤(m.k:Int);omega) (by show (m.k:Int)≤9;omega)]
 rfl
noncomputable def nmTail (k c i a:Nat) (hs:List Nat) (r:List Value):Option NM:=match r with | [.int .i64 (.ofNat e),.int .i64 (.ofNat n)]=>some ⟨k,c,i,a,hs,e,n⟩ | _=>none
noncomputable def nmOf (l:List Value):Option NM:=match l with
 | .int .i64 (.ofNat k)::.int .u32 (.ofNat c)::.int .u64 (.ofNat i)::.int .u64 (.ofNat a)::r=>(natsV (r.take 32)).bind fun hs=>nmTail k c i a hs (r.drop 32)
 | _=>none
theorem nmOf_some {l:List Value} {m:NM} (h:nmOf l=some m):l=m.msg.cells:=by
 unfold nmOf at h
 split at h
 · rename_i k c i a r
   obtain ⟨hs,h1,h2⟩:=Option.bind_eq_some_iff.1 h
   obtain ⟨h3,_⟩:=natsV_some h1
   unfold nmTail at h2
   split at h2
   · rename_i e n hr
     cases h2
     have hr2:r=hs.map (fun n=>Value.int .u8 (.ofNat n))++[.int .i64 (.ofNat e),.int .i64 (.ofNat n)]:=by rw [←h3,← hr,List.take_append_drop]
     rw [hr2]
     show _=Value.int .i64 (k:Int)::.int .u32 (c:Int)::.int .u64 (i:Int)::.int .u64 (a:Int)::(ints (hs.map Int.ofNat)++[.int .i64 (e:Int),.int .i64 (n:Int)])
     have hi:ints (hs.map Int.ofNat)=hs.map (fun n=>Value.int .u8 (.ofNat n)):=by
      unfold ints;rw [List.map_map];rfl
     rw [hi];rfl
   · cases h2
 · cases h
noncomputable def NM.cells (m:NM):List Value:=.int .i64 (.ofNat m.k)::.int .u32 (.ofNat m.c)::.int .u64 (.ofNat m.i)::.int .u64 (.ofNat m.a)::List.append (m.hs.map fun n=>Value.int .u8 (.ofNat n)) [.int .i64 (.ofNat m.e),.int .i64 (.ofNat m.n)]
theorem NM.cells_eq (m:NM):m.cells=m.msg.cells:=by
 have hi:ints (m.hs.map Int.ofNat)=m.hs.map (fun n=>Value.int .u8 (.ofNat n)):=by
  unfold ints;rw [List.map_map];rfl
 show _=Value.int .i64 (m.k:Int)::.int .u32 (m.c:Int)::.int .u64 (m.i:Int)::.int .u64 (m.a:Int)::(ints (m.hs.map Int.ofNat)++[.int .i64 (m.e:Int),.int .i64 (m.n:Int)])
 rw [hi];rfl
def isInt (v:Value):Prop:=∃ k n,v=.int k n
theorem NM.cells_int (m:NM):∀ v∈m.msg.cells,isInt v:=by
 intro v hv
 unfold Msg.cells ints at hv
 simp only [List.mem_cons,List.mem_append,List.mem_map,List.not_mem_nil,or_false] at hv
 rcases hv with rfl | rfl | rfl | rfl | ⟨x,_,rfl⟩ | rfl | rfl<;>exact ⟨_,_,rfl⟩
theorem cl_ints {σ:Sig} {ρ:Rho} {l L:List Value} (hi:∀ v∈l,isInt v) (h:CL σ ρ l L):L=l:=by
 apply List.ext_getElem?
 intro i
 have hl:=h.1
 by_cases hi':i<l.length
 · have hv:=(h.2 i _ _ (List.getElem?_eq_getElem hi') (List.getElem?_eq_getElem (show i<L.length by omega))).1
   rw [List.getElem?_eq_getElem hi',List.getElem?_eq_getElem (show i<L.length by omega)]
   obtain ⟨k,n,e⟩:=hi l[i] (List.getElem_mem hi')
   rw [e] at hv ⊢
   rw [VR.int_inv hv]
 · rw [List.getElem?_eq_none (by omega),List.getElem?_eq_none (by omega)]
theorem vr_ints {σ:Sig} {ρ:Rho} {l:List Value} (hi:∀ v∈l,isInt v):VR σ ρ (.agg ⟨l⟩) (.agg ⟨l⟩):=by
 refine .agg _ _ rfl (fun i x x' a b=>?_) (fun i x x' a b=>?_)
 all_goals
  rw [a] at b;cases b
  obtain ⟨k,n,rfl⟩:=hi x (by have:=Array.mem_of_getElem? a;simpa using this)
  first | exact .int _ _ | exact ⟨rfl,rfl⟩
theorem vr_pair {σ:Sig} {ρ:Rho} {a b c d:Value} (h1:VR σ ρ a c) (h2:VR σ ρ b d):VR σ ρ (.tuple #[a,b]) (.tuple #[c,d]):=by
 refine .tuple _ _ rfl (fun i x x' p q=>?_)
 match i with
 | 0=>cases p;cases q;exact h1
 | 1=>cases p;cases q;exact h2
 | i+2=>simp at p
noncomputable def hkEnc2 (m:NM) (fl:List Fld) (h:Hp) (nx:Nat):XR:=Bool.rec (motive:=fun _=>XR) (.bad "enc: bad") (frcL (m.enc fl) fun l=>.ok (.tuple #[.string (strB l),.int .i64 0]) h nx) (m.good fl)
noncomputable def hkEnc1 (m:NM) (h:Hp) (nx:Nat):XR:=Option.rec (motive:=fun _=>XR) (.bad "enc: kind") (fun fl=>hkEnc2 m fl h nx) (fldsN m.k)
noncomputable def hkEnc (args:List Value) (h:Hp) (nx:Nat):XR:=match args with | [.agg cs]=>Option.rec (motive:=fun _=>XR) (.bad "enc") (fun m=>hkEnc1 m h nx) (nmOf cs.toList) | _=>.bad "enc"
theorem pure_enc:PureX hkEnc:=by
 intro args h nx v h' nx' e
 unfold hkEnc at e
 split at e
 · rename_i cs
   cases hm:nmOf cs.toList with
   | none=>rw [hm] at e;cases e
   | some m=>
     rw [hm] at e
     have e:hkEnc1 m h nx=.ok v h' nx':=e
     unfold hkEnc1 at e
     cases hf:fldsN m.k with
     | none=>rw [hf] at e;cases e
     | some fl=>
       rw [hf] at e
       have e:hkEnc2 m fl h nx=.ok v h' nx':=e
       unfold hkEnc2 at e
       cases hg:m.good fl with
       | false=>rw [hg] at e;cases e
       | true=>
         rw [hg] at e
         have e:frcL (m.enc fl) (fun l=>XR.ok (.tuple #[.string (strB l),.int .i64 0]) h nx)=.ok v h' nx':=e
         rw [frcL_eq] at e
         injection e with q1 q2 q3
         exact ⟨q2.symm,q3.symm⟩
 · cases e
theorem enc_ok {C:Cfg} (hP:C.E.P=Tryz.prog) {σ:Sig} {ρ:Rho} {args:List Value} {h:Hp} {nx:Nat} {v:Value} {h':Hp} {nx':Nat} {w:World} {args':Array Value} (e:hkEnc args h nx=.ok v h' nx') (s:Sim σ C.E.gl ρ h nx w) (hv:VL σ ρ args args'.toList) :
 Calls C.E.P 27 args' w fun e w'=>∃ v',e=.returned v'∧Did C.E σ ρ h nx w v h' nx' v' w':=by
 unfold hkEnc at e
 split at e
 · rename_i cs
   obtain ⟨x',hx,hxv⟩:=hv.one
   obtain ⟨cs',rfl,hcl⟩:=hxv.agg_inv
   cases hm:nmOf cs.toList with
   | none=>rw [hm] at e;cases e
   | some m=>
     rw [hm] at e
     have e:hkEnc1 m h nx=.ok v h' nx':=e
     unfold hkEnc1 at e
     cases hf:fldsN m.k with
     | none=>rw [hf] at e;cases e
     | some fl=>
       rw [hf] at e
       have e:hkEnc2 m fl h nx=.ok v h' nx':=e
       unfold hkEnc2 at e
       cases hg:m.good fl with
       | false=>rw [hg] at e;cases e
       | true=>
         rw [hg] at e
         have e:frcL (m.enc fl) (fun l=>XR.ok (.tuple #[.string (strB l),.int .i64 0]) h nx)=.ok v h' nx':=e
         obtain ⟨hfl,hk⟩:=fldsN_eq hf
         have g:=NM.good_ok hg
         rw [frcL_eq,NM.enc_eq g hk] at e
         injection e with q1 q2 q3
         subst q1;subst q2;subst q3
         rw [nmOf_some hm] at hcl
         have ha:args'=#[.agg m.msg.row]:=by
          apply Array.ext'
          rw [hx]
          show [Value.agg cs']=[Value.agg m.msg.row]
          have:cs'=m.msg.row:=by apply Array.ext';rw [cl_ints m.cells_int hcl];rfl
          rw [this]
         subst ha
         rw [hP]
         refine (enc_yes m.msg (g.ok hk) fl hfl g.may w).mono ?_
         rintro e w' ⟨rfl,hb⟩
         exact ⟨_,rfl,did_below s hb (vr_pair (.string _) (.int _ _))⟩
 · cases e
noncomputable def rdF {R:Type} (z:R) (w:Nat):Nat→List Nat→(Nat→List Nat→R)→R:=Nat.rec (motive:=fun _=>Nat→List Nat→(Nat→List Nat→R)→R) (fun acc l k=>fN acc fun acc=>k acc l) (fun _ ih acc l k=>List.casesOn (motive:=fun _=>R) l z fun x l=>fN (Nat.add (Nat.mul acc 256) x) fun acc=>ih acc l k) w
noncomputable def parseF (z:XR) (k:NM→XR):List Fld→NM→List Nat→XR:=List.rec (motive:=fun _=>NM→List Nat→XR) (fun m _=>k m) (fun f _ ih m l=>Fld.casesOn (motive:=fun _=>XR) f
 (rdF z 4 0 l fun v l=>ih ⟨m.k,v,m.i,m.a,m.hs,m.e,m.n⟩ l) (rdF z 8 0 l fun v l=>ih ⟨m.k,m.c,v,m.a,m.hs,m.e,m.n⟩ l) (rdF z 8 0 l fun v l=>ih ⟨m.k,m.c,m.i,v,m.hs,m.e,m.n⟩ l)
 (frcL (List.take 32 l) fun hs=>ih ⟨m.k,m.c,m.i,m.a,hs,m.e,m.n⟩ (List.drop 32 l)) (rdF z 4 0 l fun v l=>ih ⟨m.k,m.c,m.i,m.a,m.hs,v,m.n⟩ l) (rdF z 2 0 l fun v l=>ih ⟨m.k,m.c,m.i,m.a,m.hs,m.e,v⟩ l))
noncomputable def eqN:List Nat→List Nat→Bool:=List.rec (motive:=fun _=>List Nat→Bool) (fun r=>List.casesOn (motive:=fun _=>Bool) r true (fun _ _=>false)) (fun x _ ih r=>List.casesOn (motive:=fun _=>Bool) r false (fun y r=>Bool.rec (motive:=fun _=>Bool) false (ih r) (Nat.beq x y)))
theorem eqN_eq:∀ {l r:List Nat},eqN l r=true→l=r
 | [],[],_=>rfl
 | [],_::_,h=>by cases h
 | x::l,[],h=>by cases h
 | x::l,y::r,h=>by
   have h':Bool.rec (motive:=fun _=>Bool) false (eqN l r) (Nat.beq x y)=true:=h
   cases hb:Nat.beq x y with
   | false=>rw [hb] at h';cases h'
   | true=>rw [hb] at h';rw [Nat.eq_of_beq_eq_true hb,eqN_eq h']
theorem strB_nats (s:ByteArray):strB (natsB s)=s:=by
 rw [natsB_eq]
 apply ByteArray.ext
 apply Array.ext'
 show (s.data.toList.map UInt8.toNat).map UInt8.ofNat=s.data.toList
 rw [List.map_map]
 conv=>rhs;rw [←List.map_id s.data.toList]
 exact List.map_congr_left (fun x _=>by simp)
noncomputable def hkDec3 (b:List Nat) (fl:List Fld) (m:NM) (h:Hp) (nx:Nat):XR:=Bool.rec (motive:=fun _=>XR) (.bad "dec: bad") (.ok (.tuple #[.agg ⟨m.cells⟩,.int .i64 0]) h nx) (and (Nat.ble b.length 100000) (and (m.good fl) (eqN (m.enc fl) b)))
noncomputable def hkDec2 (b:List Nat) (k:Nat) (l:List Nat) (h:Hp) (nx:Nat):XR:=Option.rec (motive:=fun _=>XR) (.bad "dec: kind") (fun fl=>parseF (.bad "dec: short") (fun m=>Bool.rec (motive:=fun _=>XR) (.bad "dec: kind") (hkDec3 b fl m h nx) (Nat.beq m.k k)) fl ⟨k,0,0,0,List.replicate 32 0,0,0⟩ l) (fldsN k)
noncomputable def hkDec1 (b:List Nat) (h:Hp) (nx:Nat):XR:=List.casesOn (motive:=fun _=>XR) b (.bad "dec: empty") fun k l=>hkDec2 b k l h nx
noncomputable def hkDec (args:List Value) (h:Hp) (nx:Nat):XR:=match args with | [.string s]=>frcL (natsB s) fun b=>hkDec1 b h nx | _=>.bad "dec"
theorem rdF_ok {z r:XR} (P:Prop) (hz:z=r→P):∀ (w acc:Nat) (l:List Nat) (k:Nat→List Nat→XR),(∀ v l,k v l=r→P)→rdF z w acc l k=r→P
 | 0,acc,l,k,hk,h=>by
   have h:fN acc (fun acc=>k acc l)=r:=h
   rw [fN_eq] at h;exact hk _ _ h
 | w+1,acc,[],k,hk,h=>hz h
 | w+1,acc,x::l,k,hk,h=>by
   have h:fN (Nat.add (Nat.mul acc 256) x) (fun acc=>rdF z w acc l k)=r:=h
   rw [fN_eq] at h
   exact rdF_ok P hz w _ l k hk h
theorem parseF_ok {z r:XR} {k:NM→XR} (P:Prop) (hz:z=r→P) (hk:∀ m,k m=r→P):∀ (fl:List Fld) (m:NM) (l:List Nat),parseF z k fl m l=r→P
 | [],m,l,h=>hk m h
 | f::fl,m,l,h=>by
   have ih:=parseF_ok P hz hk fl
   cases f
   · have h:rdF z 4 0 l (fun v l=>parseF z k fl ⟨m.k,v,m.i,m.a,m.hs,m.e,m.n⟩ l)=r:=h
     exact rdF_ok P hz 4 0 l _ (fun v l h=>ih _ _ h) h
   · have h:rdF z 8 0 l (fun v l=>parseF z k fl ⟨m.k,m.c,v,m.a,m.hs,m.e,m.n⟩ l)=r:=h
     exact rdF_ok P hz 8 0 l _ (fun v l h=>ih _ _ h) h
   · have h:rdF z 8 0 l (fun v l=>parseF z k fl ⟨m.k,m.c,m.i,v,m.hs,m.e,m.n⟩ l)=r:=h
     exact rdF_ok P hz 8 0 l _ (fun v l h=>ih _ _ h) h
   · have h:frcL (List.take 32 l) (fun hs=>parseF z k fl ⟨m.k,m.c,m.i,m.a,hs,m.e,m.n⟩ (List.drop 32 l))=r:=h
     rw [frcL_eq] at h
     exact ih _ _ h
   · have h:rdF z 4 0 l (fun v l=>parseF z k fl ⟨m.k,m.c,m.i,m.a,m.hs,v,m.n⟩ l)=r:=h
     exact rdF_ok P hz 4 0 l _ (fun v l h=>ih _ _ h) h
   · have h:rdF z 2 0 l (fun v l=>parseF z k fl ⟨m.k,m.c,m.i,m.a,m.hs,m.e,v⟩ l)=r:=h
     exact rdF_ok P hz 2 0 l _ (fun v l h=>ih _ _ h) h
theorem pure_dec:PureX hkDec:=by
 intro args h nx v h' nx' e
 unfold hkDec at e
 split at e
 · rename_i t
   rw [frcL_eq] at e
   unfold hkDec1 at e
   generalize natsB t=b at *
   cases b with
   | nil=>cases e
   | cons k l=>
     have e:hkDec2 (k::l) k l h nx=.ok v h' nx':=e
     unfold hkDec2 at e
     cases hf:fldsN k with
     | none=>rw [hf] at e;cases e
     | some fl=>
       rw [hf] at e
       refine parseF_ok _ (fun e=>by cases e) (fun m e=>?_) fl _ _ e
       cases hmk:Nat.beq m.k k with
       | false=>rw [hmk] at e;cases e
       | true=>
         rw [hmk] at e
         have e:hkDec3 (k::l) fl m h nx=.ok v h' nx':=e
         unfold hkDec3 at e
         cases hb:and (Nat.ble (k::l).length 100000) (and (m.good fl) (eqN (m.enc fl) (k::l))) with
         | false=>rw [hb] at e;cases e
         | true=>
           rw [hb] at e
           injection e with q1 q2 q3
           exact ⟨q2.symm,q3.symm⟩
 · cases e
theorem dec_ok {C:Cfg} (hP:C.E.P=Tryz.prog) {σ:Sig} {ρ:Rho} {args:List Value} {h:Hp} {nx:Nat} {v:Value} {h':Hp} {nx':Nat} {w:World} {args':Array Value} (e:hkDec args h nx=.ok v h' nx') (s:Sim σ C.E.gl ρ h nx w) (hv:VL σ ρ args args'.toList) :
 Calls C.E.P 31 args' w fun e w'=>∃ v',e=.returned v'∧Did C.E σ ρ h nx w v h' nx' v' w':=by
 unfold hkDec at e
 split at e
 · rename_i t
   obtain ⟨x',hx,hxv⟩:=hv.one
   obtain rfl:=VR.string_inv hxv
   have ha:args'=#[.string t]:=by apply Array.ext';exact hx
   subst ha
   rw [frcL_eq] at e
   unfold hkDec1 at e
   have ht:=strB_nats t
   have hlen:(natsB t).length=t.size:=by rw [natsB_eq,List.length_map,Array.length_toList];rfl
   generalize natsB t=b at *
   cases b with
   | nil=>cases e
   | cons k l=>
     have e:hkDec2 (k::l) k l h nx=.ok v h' nx':=e
     unfold hkDec2 at e
     cases hf:fldsN k with
     | none=>rw [hf] at e;cases e
     | some fl=>
       rw [hf] at e
       refine parseF_ok _ (fun e=>by cases e) (fun m e=>?_) fl _ _ e
       cases hmk:Nat.beq m.k k with
       | false=>rw [hmk] at e;cases e
       | true=>
         rw [hmk] at e
         have hmk:=Nat.eq_of_beq_eq_true hmk
         have e:hkDec3 (k::l) fl m h nx=.ok v h' nx':=e
         unfold hkDec3 at e
         cases hb:and (Nat.ble (k::l).length 100000) (and (m.good fl) (eqN (m.enc fl) (k::l))) with
         | false=>rw [hb] at e;cases e
         | true=>
           rw [hb] at e
           have hb:(Nat.ble (k::l).length 100000&&(m.good fl&&eqN (m.enc fl) (k::l)))=true:=hb
           simp only [Bool.and_eq_true] at hb
           obtain ⟨b1,b2,b3⟩:=hb
           have b1:=Nat.le_of_ble_eq_true b1
           have b3:=eqN_eq b3
           have g:=NM.good_ok b2
           obtain ⟨hfl,hk⟩:=fldsN_eq hf
           rw [←hmk] at hfl hk
           have hE:encB m.msg fl=t:=by rw [←NM.enc_eq g hk,b3,ht]
           have hD:DecOk t m.msg:=by rw [←hE];exact enc_dec (g.ok hk) hfl g.may
           have e:XR.ok (.tuple #[.agg ⟨m.cells⟩,.int .i64 0]) h nx=.ok v h' nx':=e
           injection e with q1 q2 q3
           subst q1;subst q2;subst q3
           rw [hP]
           refine (dec_any t (by omega) w).mono ?_
           rintro e w' ⟨hd,hb⟩
           rcases hd with ⟨m',h1,h2,rfl⟩ | ⟨ev,h1,h2,rfl⟩
           · obtain rfl:=dec_one h1 hD
             refine ⟨_,rfl,did_below s hb (vr_pair ?_ (.int _ _))⟩
             rw [NM.cells_eq]
             exact vr_ints m.cells_int
           · exact (dec_ok_bad hD h2).elim
 · cases e
end SX
end Go.Proofs.YtdebnbgjgkbmaaaGreatDoor
namespace Go.Proofs.YtdebnbgjgkbmaaaGreatDoor
namespace SX
open Go Go.RowKit Go.Shelf
set_option linter.unusedVariables false
def jnR:Ren:=⟨fun n=>match n with | 156=>284 | 165=>312 | 166=>170 | 169=>234 | 240=>250 | 241=>325 | 276=>297 | 277=>336 | _=>0,
 fun n=>match n with | 3=>3 | 4=>4 | 5=>5 | 9=>9 | 20=>20 | 31=>158 | 37=>55 | 70=>289 | 72=>291 | 75=>297 | 76=>298 | 80=>133 | 127=>410 | 164=>411 | _=>0,fun _=>0⟩
theorem jnL:Lays.n156 Tryz.prog jnR where
 mixed:=by kernel_rfl
 f156:=by kernel_rfl
 f165:=by kernel_rfl
 f166:=by kernel_rfl
 f169:=by kernel_rfl
 f240:=by kernel_rfl
 f241:=by kernel_rfl
 f276:=by kernel_rfl
 f277:=by kernel_rfl
 t0:=by kernel_rfl
 a0:=fun w=>by kernel_rfl
 z0:=fun w=>by kernel_rfl
 v0:=fun w=>by kernel_rfl
 t3:=by kernel_rfl
 a3:=fun w=>by kernel_rfl
 z3:=fun w=>by kernel_rfl
 v3:=fun w=>by kernel_rfl
 t4:=by kernel_rfl
 a4:=fun w=>by kernel_rfl
 z4:=fun w=>by kernel_rfl
 v4:=fun w=>by kernel_rfl
 t9:=by kernel_rfl
 a9:=fun w=>by kernel_rfl
 z9:=fun w=>by kernel_rfl
 v9:=fun w=>by kernel_rfl
 t20:=by kernel_rfl
 a20:=fun w=>by kernel_rfl
 z20:=fun w=>by kernel_rfl
 v20:=fun w=>by kernel_rfl
 t31:=by kernel_rfl
 a31:=fun w=>by kernel_rfl
 z31:=fun w=>by kernel_rfl
 v31:=fun w=>by kernel_rfl
 t37:=by kernel_rfl
 a37:=fun w=>by kernel_rfl
 z37:=fun w=>by kernel_rfl
 v37:=fun w=>by kernel_rfl
 t70:=by kernel_rfl
 a70:=fun w=>by kernel_rfl
 z70:=fun w=>by kernel_rfl
 v70:=fun w=>by kernel_rfl
 t72:=by kernel_rfl
 a72:=fun w=>by kernel_rfl
 z72:=fun w=>by kernel_rfl
 v72:=fun w=>by kernel_rfl
 t75:=by kernel_rfl
 a75:=fun w=>by kernel_rfl
 z75:=fun w=>by kernel_rfl
 v75:=fun w=>by kernel_rfl
 t76:=by kernel_rfl
 a76:=fun w=>by kernel_rfl
 z76:=fun w=>by kernel_rfl
 v76:=fun w=>by kernel_rfl
 t127:=by kernel_rfl
 a127:=fun w=>by kernel_rfl
 z127:=fun w=>by kernel_rfl
 v127:=fun w=>by kernel_rfl
 t164:=by kernel_rfl
 a164:=fun w=>by kernel_rfl
 z164:=fun w=>by kernel_rfl
 v164:=fun w=>by kernel_rfl
theorem jnX:Builder.Extra Tryz.prog jnR where
 sizeBuilder:=by kernel_rfl
 liesBuilder:=by kernel_rfl
 t5:=by kernel_rfl
 a5:=fun w=>by kernel_rfl
 z5:=fun w=>by kernel_rfl
 v5:=fun w=>by kernel_rfl
 infoByte:=by kernel_rfl
 cellsByte:=by kernel_rfl
 sizeByte:=by kernel_rfl
 neB5:=by decide
noncomputable def strV (v:Value):Option ByteArray:=match v with | .string s=>some s | _=>none
noncomputable def strsV:List Value→Option (List ByteArray):=List.rec (motive:=fun _=>Option (List ByteArray)) (some []) (fun v _ ih=>Option.rec (motive:=fun _=>Option (List ByteArray)) none (fun n=>Option.rec (motive:=fun _=>Option (List ByteArray)) none (fun l=>some (List.cons n l)) ih) (strV v))
theorem strsV_some:∀ {vs:List Value} {l:List ByteArray},strsV vs=some l→vs=l.map Value.string
 | [],l,h=>by cases h;rfl
 | v::vs,l,h=>by
   have h':Option.rec (motive:=fun _=>Option (List ByteArray)) none (fun n=>Option.rec (motive:=fun _=>Option (List ByteArray)) none (fun l=>some (List.cons n l)) (strsV vs)) (strV v)=some l:=h
   cases hb:strV v with
   | none=>rw [hb] at h';cases h'
   | some n=>
     rw [hb] at h'
     cases hn:strsV vs with
     | none=>rw [hn] at h';cases h'
     | some m=>
       rw [hn] at h'
       cases h'
       have e1:=strsV_some hn
       unfold strV at hb
       split at hb
       · cases hb;rw [List.map_cons,← e1]
       · cases hb
noncomputable def catN:List ByteArray→List Nat:=List.rec (motive:=fun _=>List Nat) [] (fun s _ ih=>List.append (natsB s) ih)
theorem strB_append (l r:List Nat):(strB (l++r)).data.toList=(strB l).data.toList++(strB r).data.toList:=by
 show (l++r).map _=l.map _++r.map _
 rw [List.map_append]
theorem strB_natsB (s:ByteArray):(strB (natsB s)).data.toList=s.data.toList:=by
 rw [natsB_eq]
 show (s.data.toList.map UInt8.toNat).map UInt8.ofNat=s.data.toList
 rw [List.map_map]
 conv=>rhs;rw [←List.map_id s.data.toList]
 exact List.map_congr_left (fun x _=>by simp)
theorem catN_eq:∀ (xs:List ByteArray),(strB (catN xs)).data.toList=Lib.join (xs.map (·.data.toList)) []
 | []=>rfl
 | [x]=>by
   rw [List.map_cons,List.map_nil,Lib.join_one]
   show (strB (natsB x++[])).data.toList=_
   rw [strB_append,strB_natsB]
   exact List.append_nil _
 | x::y::r=>by
   have ih:=catN_eq (y::r)
   rw [List.map_cons,List.map_cons,Lib.join_cons] at *
   show (strB (natsB x++catN (y::r))).data.toList=_
   rw [strB_append,strB_natsB,ih]
   simp [Lib.joinTail]
noncomputable def jn2 (h:Hp) (nx:Nat) (l:List Nat):XR:=Bool.rec (motive:=fun _=>XR) (.bad "join: long") (.ok (.string (strB l)) h nx) (Nat.ble l.length 1000000)
noncomputable def jn1 (h:Hp) (nx:Nat) (xs:List ByteArray):XR:=frcL (catN xs) fun l=>jn2 h nx l
noncomputable def jnX1 (h:Hp) (nx:Nat) (tl:List Value):XR:=Option.rec (motive:=fun _=>XR) (.bad "join: texts") (jn1 h nx) (strsV tl)
noncomputable def jnT1 (h:Hp) (nx:Nat) (tl:List Value) (s:String):XR:=Option.rec (motive:=fun _=>XR) (.bad s) (x_ok h nx) (laneV fun i=>xrV (jnX1 h nx (mapV (sub1 i) tl)))
noncomputable def jnT (h:Hp) (nx:Nat) (tl:List Value):XR:=XR.rec (motive:=fun _=>XR) (jnT1 h nx tl) .ok (jnX1 h nx tl)
theorem cl_str {σ:Sig} {ρ:Rho} {xs:List ByteArray} {L:List Value} (h:CL σ ρ (xs.map Value.string) L):L=xs.map Value.string:=by
 apply List.ext_getElem?
 intro i
 have hl:=h.1
 rcases Nat.lt_or_ge i xs.length with hi | hi
 · have h1:(xs.map Value.string)[i]?=some (.string xs[i]):=by simp [hi]
   have h2:L[i]?=some (L[i]'(by simp at hl;omega)):=List.getElem?_eq_getElem _
   rw [h1,h2,VR.string_inv (h.2 i _ _ h1 h2).1]
 · rw [List.getElem?_eq_none (by simp at hl;omega),List.getElem?_eq_none (by simpa using hi)]
theorem jnX1_some {σ:Sig} {ρ:Rho} {h:Hp} {nx:Nat} {tl L:List Value} {v:Value} {h':Hp} {nx':Nat} (e:jnX1 h nx tl=.ok v h' nx') (hc:CL σ ρ tl L):∃ xs:List ByteArray,L=xs.map Value.string∧(catN xs).length≤1000000∧v=.string (strB (catN xs))∧h'=h∧nx'=nx:=by
 unfold jnX1 at e
 cases hs:strsV tl with
 | none=>rw [hs] at e;cases e
 | some xs=>
   rw [hs] at e
   have e:jn1 h nx xs=.ok v h' nx':=e
   unfold jn1 at e
   rw [frcL_eq] at e
   unfold jn2 at e
   cases hl:Nat.ble (catN xs).length 1000000 with
   | false=>rw [hl] at e;cases e
   | true=>
     rw [hl] at e
     have hl:=Nat.le_of_ble_eq_true hl
     injection e with q1 q2 q3
     rw [strsV_some hs] at hc
     exact ⟨xs,cl_str hc,hl,q1.symm,q2.symm,q3.symm⟩
theorem jnT_some {σ:Sig} {ρ:Rho} {h:Hp} {nx:Nat} {tl L:List Value} {v:Value} {h':Hp} {nx':Nat} (e:jnT h nx tl=.ok v h' nx') (hc:CL σ ρ tl L):∃ xs:List ByteArray,L=xs.map Value.string∧(catN xs).length≤1000000∧VR σ ρ v (.string (strB (catN xs)))∧h'=h∧nx'=nx:=by
 unfold jnT at e
 cases hj:jnX1 h nx tl with
 | ok v1 h1 nx1=>
   rw [hj] at e
   have e:XR.ok v1 h1 nx1=.ok v h' nx':=e
   injection e with q1 q2 q3
   subst q1;subst q2;subst q3
   obtain ⟨xs,a1,a2,rfl,a4,a5⟩:=jnX1_some hj hc
   exact ⟨xs,a1,a2,.string _,a4,a5⟩
 | bad s=>
   rw [hj] at e
   have e:jnT1 h nx tl s=.ok v h' nx':=e
   unfold jnT1 at e
   cases hl:laneV fun i=>xrV (jnX1 h nx (mapV (sub1 i) tl)) with
   | none=>rw [hl] at e;cases e
   | some x=>
     rw [hl] at e
     have e:XR.ok x h nx=.ok v h' nx':=e
     injection e with q1 q2 q3
     subst q1;subst q2;subst q3
     obtain ⟨r,h1,h2⟩:=laneV_some (σ:=σ) (ρ:=ρ) hl
     obtain ⟨h5,nx5,h6⟩:=xrV_some h1
     obtain ⟨xs,a1,a2,rfl,a4,a5⟩:=jnX1_some h6 hc.sub
     exact ⟨xs,a1,a2,h2 _ (.string _),rfl,rfl⟩
noncomputable def hkJn1 (a:Addr) (n:Nat) (h:Hp) (nx:Nat):XR:=Bool.rec (motive:=fun _=>XR) (.bad "join: row") (Option.rec (motive:=fun _=>XR) (.bad "join: cells") (jnT h nx) ((cellsB a.off (TT.get DH h a.block)).bind (takeL n))) (and (Nat.ble GN a.block) (Nat.ble n 1000000))
noncomputable def hkJn (args:List Value) (h:Hp) (nx:Nat):XR:=match args with
 | [.slice (some a) n 1,.string s]=>Bool.rec (motive:=fun _=>XR) (.bad "join: between") (hkJn1 a n h nx) (Nat.beq s.data.toList.length 0)
 | _=>.bad "join"
theorem jn_ok {C:Cfg} (hP:C.E.P=Tryz.prog) {σ:Sig} {ρ:Rho} {args:List Value} {h:Hp} {nx:Nat} {v:Value} {h':Hp} {nx':Nat} {w:World} {args':Array Value} (e:hkJn args h nx=.ok v h' nx') (s:Sim σ C.E.gl ρ h nx w) (hv:VL σ ρ args args'.toList) :
 Calls C.E.P 284 args' w fun e w'=>∃ v',e=.returned v'∧Did C.E σ ρ h nx w v h' nx' v' w':=by
 unfold hkJn at e
 split at e
 · rename_i a n sp
   obtain ⟨x0,l0,e0,h0,hv⟩:=hv.inv
   obtain ⟨x1,rfl,h1⟩:=hv.one
   obtain rfl:=VR.string_inv h1
   cases hb:Nat.beq sp.data.toList.length 0 with
   | false=>rw [hb] at e;cases e
   | true=>
     rw [hb] at e
     have hsp:sp.data.toList=[]:=List.length_eq_zero_iff.1 (Nat.eq_of_beq_eq_true hb)
     have e:hkJn1 a n h nx=.ok v h' nx':=e
     unfold hkJn1 at e
     cases hg:and (Nat.ble GN a.block) (Nat.ble n 1000000) with
     | false=>rw [hg] at e;cases e
     | true=>
       rw [hg] at e
       have hg:(Nat.ble GN a.block&&Nat.ble n 1000000)=true:=hg
       rw [Bool.and_eq_true] at hg
       have g1:=Nat.le_of_ble_eq_true hg.1
       have g2:=Nat.le_of_ble_eq_true hg.2
       have e:Option.rec (motive:=fun _=>XR) (.bad "join: cells") (jnT h nx) ((cellsB a.off (TT.get DH h a.block)).bind (takeL n))=XR.ok v h' nx':=e
       cases hq:(cellsB a.off (TT.get DH h a.block)).bind (takeL n) with
       | none=>rw [hq] at e;cases e
       | some tl=>
          rw [hq] at e
          have e:jnT h nx tl=.ok v h' nx':=e
          obtain ⟨cl,hc,ht⟩:=Option.bind_eq_some_iff.1 hq
          obtain ⟨rfl,hn⟩:=takeL_some n cl tl ht
          obtain ⟨nm,off,spot⟩:=a
          obtain ⟨p,off',cap,hp,hspot,q4,q5,q6,q7,rfl⟩:=h0.slice_inv
          have hc:cellsB off (TT.get DH h nm)=some cl:=hc
          have hnm:=s.at hp
          unfold cellsB at hc
          split at hc
          · rename_i cs hbk
            cases hc
            rw [dropL_eq] at hn e
            obtain ⟨p',hp',hr⟩:=s.live nm hnm _ hbk
            rw [hp] at hp';cases hp'
            have hcr:CR σ ρ cs p w:=hr
            have hM:∃ L,CL σ ρ ((cs.drop off).take n) L∧w.rangeAt p.b (p.o+off) L∧L.length=n:=by
             by_cases hz:n=0
             · subst hz;exact ⟨[],by rw [List.take_zero];exact CL.nil,fun i y hy=>by simp at hy,rfl⟩
             · exact hcr.mid (by rw [List.length_drop] at hn;omega)
            obtain ⟨L,hcl,hrange,hL⟩:=hM
            obtain ⟨xs,rfl,hl,hvv,rfl,rfl⟩:=jnT_some e hcl
            have hln:n=xs.length:=by rw [List.length_map] at hL;exact hL.symm
            have hcells:∀ (j:Nat) x,xs[j]?=some x→w.cell? ⟨p.b,off'+j,none⟩=some (.string x):=fun j x hj=>by
             have hjn:j<n:=by have:=(List.getElem?_eq_some_iff.1 hj).1;omega
             rw [q6 (by omega)]
             exact hrange j (.string x) (by rw [List.getElem?_map,hj];rfl)
            have ha:args'=#[.slice (some ⟨p.b,off',none⟩) xs.length cap,.string sp]:=by apply Array.ext';rw [e0,hln]
            subst ha
            rw [hP]
            have hj:Lib.join (xs.map (·.data.toList)) sp.data.toList=(strB (catN xs)).data.toList:=by rw [hsp];exact (catN_eq xs).symm
            refine (Any.strings_Join jnL jnX p.b off' cap xs sp w hcells hr.lt (by omega) (by omega) ?_).mono ?_
            · rw [hj]
              show ((catN xs).map UInt8.ofNat).length≤_
              rw [List.length_map];omega
            · rintro e w' ⟨rfl,hb⟩
              refine ⟨_,rfl,did_below s hb ?_⟩
              have hjj:(⟨⟨Lib.join (xs.map (·.data.toList)) sp.data.toList⟩⟩:ByteArray)=strB (catN xs):=by rw [hj]
              rw [hjj]
              exact hvv
          · cases hc
 · cases e
end SX
end Go.Proofs.YtdebnbgjgkbmaaaGreatDoor
namespace Go.Proofs.YtdebnbgjgkbmaaaGreatDoor
namespace SX
open Go
set_option linter.unusedVariables false
noncomputable def tabQ {α:Type} (f:α→Bool):List α→Nat→TT α→TT α:=List.rec (motive:=fun _=>Nat→TT α→TT α) (fun _ t=>t) (fun v _ ih i t=>fN (Nat.succ i) fun j=>Bool.rec (motive:=fun _=>TT α) (ih j t) (ih j (TT.set DT t i v)) (f v))
noncomputable def pickF {α:Type} (get:Nat→Option α):List Nat→TT α→TT α:=List.rec (motive:=fun _=>TT α→TT α) (fun t=>t) (fun i _ ih t=>Option.rec (motive:=fun _=>TT α) (ih t) (fun v=>ih (TT.set DT t i v)) (get i))
section
variable {α:Type}
theorem tabG_some {t:TT α} {k:Nat} {v:α} (h:tabG t k=some v):k<512∧TT.get DT t k=some v:=by
 unfold tabG at h
 cases hb:Nat.blt k 512 with
 | false=>rw [hb] at h;cases h
 | true=>rw [hb] at h;exact ⟨blt_lt hb,h⟩
theorem tabQ_get (f:α→Bool):∀ (l:List α) (i:Nat) (t:TT α) (j:Nat) (v:α),i+l.length≤512→j<512→TT.get DT (tabQ f l i t) j=some v→(i≤j∧l[j-i]?=some v∧f v=true)∨TT.get DT t j=some v
 | [],i,t,j,v,_,_,h=>.inr h
 | x::l,i,t,j,v,hl,hj,h=>by
   have hl':(x::l).length=l.length+1:=rfl
   rw [hl'] at hl
   have h':fN (Nat.succ i) (fun j=>Bool.rec (motive:=fun _=>TT α) (tabQ f l j t) (tabQ f l j (TT.set DT t i x)) (f x))=Bool.rec (motive:=fun _=>TT α) (tabQ f l (i+1) t) (tabQ f l (i+1) (TT.set DT t i x)) (f x):=fN_eq _ _
   have h2:TT.get DT (Bool.rec (motive:=fun _=>TT α) (tabQ f l (i+1) t) (tabQ f l (i+1) (TT.set DT t i x)) (f x)) j=some v:=by rw [←h'];exact h
   have sub:∀ {v:α},i+1≤j∧l[j-(i+1)]?=some v∧f v=true→i≤j∧(x::l)[j-i]?=some v∧f v=true:=fun ⟨h3,h4,h5⟩=>⟨by omega,by rw [show j-i=(j-(i+1))+1 by omega,List.getElem?_cons_succ];exact h4,h5⟩
   cases hf:f x with
   | false=>
     rw [hf] at h2
     rcases tabQ_get f l (i+1) t j v (by omega) hj h2 with h3 | h3
     · exact .inl (sub h3)
     · exact .inr h3
   | true=>
     rw [hf] at h2
     rcases tabQ_get f l (i+1) _ j v (by omega) hj h2 with h3 | h3
     · exact .inl (sub h3)
     · rw [get_set' (by show i<512;omega) hj] at h3
       by_cases e:i=j
       · subst e;rw [if_pos rfl] at h3;cases h3;exact .inl ⟨Nat.le_refl _,by rw [Nat.sub_self,List.getElem?_cons_zero],hf⟩
       · rw [if_neg e] at h3;exact .inr h3
theorem pickF_get (get:Nat→Option α):∀ (l:List Nat) (t:TT α) (j:Nat) (v:α),(∀ i∈l,i<512)→j<512→TT.get DT (pickF get l t) j=some v→(j∈l∧get j=some v)∨TT.get DT t j=some v
 | [],t,j,v,_,_,h=>.inr h
 | i::l,t,j,v,hl,hj,h=>by
   have hl2:∀ i∈l,i<512:=fun i hi=>hl i (List.mem_cons_of_mem _ hi)
   have h':Option.rec (motive:=fun _=>TT α) (pickF get l t) (fun v=>pickF get l (TT.set DT t i v)) (get i)=pickF get (i::l) t:=rfl
   rw [←h'] at h
   cases hg:get i with
   | none=>
     rw [hg] at h
     rcases pickF_get get l t j v hl2 hj h with ⟨a,b⟩ | a
     · exact .inl ⟨List.mem_cons_of_mem _ a,b⟩
     · exact .inr a
   | some u=>
     rw [hg] at h
     rcases pickF_get get l (TT.set DT t i u) j v hl2 hj h with ⟨a,b⟩ | a
     · exact .inl ⟨List.mem_cons_of_mem _ a,b⟩
     · rw [get_set' (hl i List.mem_cons_self) hj] at a
       by_cases e:i=j
       · subst e;rw [if_pos rfl] at a;exact .inl ⟨List.mem_cons_self,by rw [hg];exact a⟩
       · rw [if_neg e] at a;exact .inr a
noncomputable def allT (f:α→Bool):List α→Bool:=List.rec (motive:=fun _=>Bool) true (fun x _ ih=>Bool.rec (motive:=fun _=>Bool) false ih (f x))
theorem allT_mem {f:α→Bool}:∀ {l:List α},allT f l=true→∀ x∈l,f x=true
 | [],_,x,hx=>by cases hx
 | y::l,h,x,hx=>by
   have h':Bool.rec (motive:=fun _=>Bool) false (allT f l) (f y)=true:=h
   cases hf:f y with
   | false=>rw [hf] at h';cases h'
   | true=>
     rw [hf] at h'
     rcases List.mem_cons.1 hx with rfl | hx
     · exact hf
     · exact allT_mem h' x hx
noncomputable def zeroFlat (i:TypeInfo):Bool:=Option.rec (motive:=fun _=>Bool) true flat i.zero
end
noncomputable def mkEnv (P:Program) (fs:List Nat) (gl:Hp) (mks:List Nat):Env:=⟨P,tabQ zeroFlat P.types.toList 0 .nil,pickF (fun i=>P.funcs[i]?) fs .nil,gl,mks⟩
theorem info_row {P:Program} {t:Nat} {i:TypeInfo} (h:P.types[t]?=some i):P.info? t=some i:=by
 have hl:t<P.types.size:=(Array.getElem?_eq_some_iff.1 h).1
 show (if t<P.types.size then P.types[t]? else _)=some i
 rw [if_pos hl];exact h
theorem row_get {P:Program} {t:Nat} {i:TypeInfo} (hl:P.types.size≤512) (h:tabG (tabQ zeroFlat P.types.toList 0 .nil) t=some i):P.types[t]?=some i∧zeroFlat i=true:=by
 obtain ⟨h1,h2⟩:=tabG_some h
 rcases tabQ_get zeroFlat P.types.toList 0 .nil t i (by simpa using hl) h1 h2 with ⟨_,h3,h4⟩ | h3
 · rw [←Array.getElem?_toList]
   exact ⟨by simpa using h3,h4⟩
 · rw [get_nil] at h3;cases h3
theorem mkEnv_ok {P:Program} {fs:List Nat} {gl:Hp} {mks:List Nat} (hl:P.types.size≤512):EnvOk (mkEnv P fs gl mks):=by
 exact ⟨fun t i h=>info_row (row_get hl h).1⟩
theorem mkEnv_zero {P:Program} {fs:List Nat} {gl:Hp} {mks:List Nat} (hl:P.types.size≤512):ZeroOk (mkEnv P fs gl mks):=by
 intro t i z h hi
 have:=(row_get hl h).2
 unfold zeroFlat at this
 rw [hi] at this
 exact this
noncomputable def fnName (P:Program) (i:Nat):Bool:=Option.rec (motive:=fun _=>Bool) true (fun fn:Func=>!(fn.name=="runtime.NumGoroutine")) P.funcs[i]?
noncomputable def ltB (i:Nat):Bool:=Nat.blt i 512
theorem mkEnv_fn {P:Program} {fs:List Nat} {gl:Hp} {mks:List Nat} (hl:allT ltB fs=true) {f:Nat} {fn:Func} (h:tabG (mkEnv P fs gl mks).fn f=some fn):f∈fs∧P.funcs[f]?=some fn:=by
 obtain ⟨h1,h2⟩:=tabG_some h
 rcases pickF_get _ fs .nil f fn (fun i hi=>blt_lt (allT_mem hl i hi)) h1 h2 with h3 | h3
 · exact h3
 · rw [get_nil] at h3;cases h3
theorem mkEnv_fnOk {P:Program} {fs:List Nat} {gl:Hp} {mks:List Nat} (hl:allT ltB fs=true) (hn:allT (fnName P) fs=true):FnOk (mkEnv P fs gl mks):=by
 refine ⟨fun f fn h=>?_⟩
 obtain ⟨h1,h2⟩:=mkEnv_fn hl h
 refine ⟨h2,?_⟩
 have:=allT_mem hn f h1
 unfold fnName at this
 rw [h2] at this
 simpa using this
noncomputable def fnOk1 (E:Env) (i:Nat):Bool:=Option.rec (motive:=fun _=>Bool) true (fnOk E) E.P.funcs[i]?
theorem mkEnv_fns {P:Program} {fs:List Nat} {gl:Hp} {mks:List Nat} {keys eqs:List Nat} (hl:allT ltB fs=true) (ho:allT (fnOk1 (mkEnv P fs gl mks)) fs=true):FnsOk ⟨mkEnv P fs gl mks,keys,eqs⟩:=by
 intro f fn h
 obtain ⟨h1,h2⟩:=mkEnv_fn hl h
 have:=allT_mem ho f h1
 unfold fnOk1 at this
 have h3:(mkEnv P fs gl mks).P.funcs[f]?=some fn:=h2
 rw [h3] at this
 exact this
end SX
end Go.Proofs.YtdebnbgjgkbmaaaGreatDoor
namespace Go.Proofs.YtdebnbgjgkbmaaaGreatDoor
namespace SX
open Go Go.RowKit
set_option linter.unusedVariables false
set_option maxRecDepth 1000000
noncomputable def g0:List Value:=(List.range 8).map fun i=>.int .u32 (.ofNat (Sha.begin0.get i))
noncomputable def g3:List Value:=[.int .i64 1,.int .i64 7,.int .i64 3,.int .i64 5]
noncomputable def g4:List Value:=(List.range 64).map fun i=>.int .u32 (.ofNat (Sha.k i))
noncomputable def g6:List Value:=Lib.deBruijn64tab.map fun i=>.int .u8 (.ofNat i)
noncomputable def g7:List Value:=[3,4,1,2,0,1,2,3,4,0,1,2,3,4,0,3,4,1,2,0].map fun i=>.int .i64 (.ofNat i)
noncomputable def glT:Hp:=TT.set DH (TT.set DH (TT.set DH (TT.set DH (TT.set DH .nil 6 (.cells g6)) 3 (.cells g3)) 7 (.cells g7)) 0 (.cells g0)) 4 (.cells g4)
theorem glT_get {n:Nat} (h:n<2 ^ DH):TT.get DH glT n=if 4=n then some (.cells g4) else if 0=n then some (.cells g0) else if 7=n then some (.cells g7) else if 3=n then some (.cells g3) else if 6=n then some (.cells g6) else none:=by
 unfold glT
 rw [get_set' (by decide) h,get_set' (by decide) h,get_set' (by decide) h,get_set' (by decide) h,get_set' (by decide) h,get_nil]
theorem glT_tabs:GlTabs glT:=by
 refine ⟨⟨g0,by rw [glT_get (by decide)];rfl,fun i hi=>?_⟩,⟨g4,by rw [glT_get (by decide)];rfl,fun i hi=>?_⟩⟩
 · unfold g0;rw [List.getElem?_map,List.getElem?_range hi];rfl
 · unfold g4;rw [List.getElem?_map,List.getElem?_range hi];rfl
noncomputable def fsA:List Nat:=[16,18,19,20,21,22,23,24,26,27,28,29,30,31,33,34,35,36,38,39,40,41,42,43,44,45,47,48,51,53,55,56,57,58,59,60,61,62,63,64,65,66,67,68,69,75,76,77,78,79,82,86,87,88,89,90,91,92,93,94,95,96,97,100,101,104,105,107,108,109,110,111,112,113,120,121,122,123,124,125,126,127]
noncomputable def fsB:List Nat:=[128,129,130,131,132,133,134,135,137,138,139,143,144,145,146,147,148,149,150,151,152,153,154,155,156,157,164,165,169,170,174,175,176,177,178,179,180,181,182,183,184,185,186,188,189,190,191,192,193,194,195,197,198,199,200,201,202,207,208,211,212,213,214,215,216,217,218,219,220,221,222,223,224,225,226,227,228,229,230,231,232,233]
noncomputable def fsC:List Nat:=[237,241,242,249,250,253,254,255,256,257,258,259,260,261,262,263,264,265,266,267,268,269,270,271,272,273,274,279,280,282,283,284,285,286,287,288,289,290,291,292,293,294,295,296,299,300,301,302,303,304,305,306,307,308,310,311,313,314,315,316,317,318,319,320,321,322,323,324,326,327,328,329,330,331,332,333,334,335,337,338,339,340]
noncomputable def fsAll:List Nat:=List.append fsA (List.append fsB fsC)
noncomputable def E1:Env:=mkEnv Tryz.prog fsAll glT [291,293]
noncomputable def C1:Cfg:=⟨E1,[3,47,103,420],[47,59,103]⟩
theorem allT_app {α:Type} {f:α→Bool}:∀ {l m:List α},allT f l=true→allT f m=true→allT f (List.append l m)=true
 | [],m,_,h=>h
 | x::l,m,h,k=>by
   have h':Bool.rec (motive:=fun _=>Bool) false (allT f l) (f x)=true:=h
   show Bool.rec (motive:=fun _=>Bool) false (allT f (List.append l m)) (f x)=true
   cases hf:f x with
   | false=>rw [hf] at h';cases h'
   | true=>rw [hf] at h';exact allT_app h' k
theorem fokA:allT (fnOk1 E1) fsA=true:=by kernel_rfl
theorem fokB:allT (fnOk1 E1) fsB=true:=by kernel_rfl
theorem fokC:allT (fnOk1 E1) fsC=true:=by kernel_rfl
theorem lt1:allT ltB fsAll=true:=by kernel_rfl
theorem name1:allT (fnName Tryz.prog) fsAll=true:=by kernel_rfl
theorem fns1:FnsOk C1:=mkEnv_fns lt1 (allT_app fokA (allT_app fokB fokC))
theorem size1:Tryz.prog.types.size≤512:=of_decide_eq_true (by kernel_rfl)
theorem key47:Maps.Keyed Tryz.prog 47:=Maps.Keyed.of_law (deep_law_laid RowK.laidOut (m:=3) (by omega) (of_decide_eq_true (by kernel_rfl)) (by kernel_rfl) (by rw [Tryz.underlying47]))
theorem key103:Maps.Keyed Tryz.prog 103:=Maps.Keyed.of_law (deep_law_laid RowK.laidOut (m:=3) (by omega) (of_decide_eq_true (by kernel_rfl)) (by kernel_rfl) (by rw [Tryz.underlying103]))
theorem key420:Maps.Keyed Tryz.prog 420:=Maps.Keyed.of_law (deep_law_laid RowK.laidOut (m:=3) (by omega) (of_decide_eq_true (by kernel_rfl)) (by kernel_rfl) (by rw [Tryz.underlying420]))
theorem more1:EnvMore E1 C1.keys C1.eqs:=by
 refine ⟨fun k hk=>?_,fun k hk=>?_⟩
 · have hk:k∈[3,47,103,420]:=hk
   simp only [List.mem_cons,List.not_mem_nil,or_false] at hk
   rcases hk with rfl | rfl | rfl | rfl
   · exact Maps.int_keyed Tryz.underlying3
   · exact key47
   · exact key103
   · exact key420
 · have hk:k∈[47,59,103]:=hk
   simp only [List.mem_cons,List.not_mem_nil,or_false] at hk
   rcases hk with rfl | rfl | rfl
   · exact ⟨⟨3,by decide,by kernel_rfl,by kernel_rfl⟩,by show (match Tryz.prog.underlying 47 with | some (.array _ _) | some (.struct _)=>true | _=>false)=true;rw [Tryz.underlying47]⟩
   · exact ⟨⟨3,by decide,by kernel_rfl,by kernel_rfl⟩,by show (match Tryz.prog.underlying 59 with | some (.array _ _) | some (.struct _)=>true | _=>false)=true;rw [Tryz.underlying59]⟩
   · exact ⟨⟨3,by decide,by kernel_rfl,by kernel_rfl⟩,by show (match Tryz.prog.underlying 103 with | some (.array _ _) | some (.struct _)=>true | _=>false)=true;rw [Tryz.underlying103]⟩
theorem cfg1:CfgOk C1:=⟨mkEnv_ok size1,mkEnv_zero size1,more1,mkEnv_fnOk lt1 name1,by kernel_rfl⟩
end SX
end Go.Proofs.YtdebnbgjgkbmaaaGreatDoor
namespace Go.Proofs.YtdebnbgjgkbmaaaGreatDoor.Pu.Am
def mx:Int:=1125899906842624
def addF (l:List Int):Int × Int:=if l.sum≤mx then (l.sum,0) else (0,60)
def addL (s:Int):List Int→Int × Int
 | []=>(s,0)
 | n::r=>if mx-s<n then (0,60) else addL (s+n) r
def feeF (base rate n:Int):Int × Int:=if base+n*rate/1000000≤mx then (base+n*rate/1000000,0) else (0,60)
theorem sum_nonneg {l:List Int} (h:∀ z∈l,0≤z):0≤l.sum:=by
 induction l with
 | nil=>simp
 | cons a r ih=>
   have h1:=h a (by simp)
   have h2:=ih fun z hz=>h z (by simp [hz])
   simp only [List.sum_cons];omega
theorem addL_eq {l:List Int} (h:∀ z∈l,0≤z) (s:Int) (hs:s≤mx):addL s l=if s+l.sum≤mx then (s+l.sum,0) else (0,60):=by
 induction l generalizing s with
 | nil=>simp [addL,hs]
 | cons a r ih=>
   have h1:=h a (by simp)
   have hr:∀ z∈r,0≤z:=fun z hz=>h z (by simp [hz])
   have h2:=sum_nonneg hr
   have e:(a::r).sum=a+r.sum:=List.sum_cons
   simp only [addL]
   by_cases hc:mx-s<a
   · rw [if_pos hc,if_neg (by rw [e];omega)]
   · rw [if_neg hc,ih hr (s+a) (by omega)]
     by_cases hq:s+a+r.sum≤mx
     · rw [if_pos hq,if_pos (by rw [e];omega),e,← Int.add_assoc]
     · rw [if_neg hq,if_neg (by rw [e];omega)]
theorem addL_addF {l:List Int} (h:∀ z∈l,0≤z):addL 0 l=addF l:=by
 rw [addL_eq h 0 (by decide)];simp [addF]
theorem div_steps (hi lo:Int) :
 (((hi*17592186044416+lo/1048576)*4294967296+lo*17592186044416%18446744073709551616/4294967296-(hi*17592186044416+lo/1048576)/4096000000*17592186044416000000)/4096000000
   + (hi*17592186044416+lo/1048576)/4096000000*4294967296=(hi*18446744073709551616+lo)/1000000):=by
 omega
end Go.Proofs.YtdebnbgjgkbmaaaGreatDoor.Pu.Am
namespace Go.Proofs.YtdebnbgjgkbmaaaGreatDoor.Pu
open Go.RowKit
theorem u64_in (n:Int) (h:0≤n∧n≤18446744073709551615):IntKind.u64.wrap n=n:=by rw [IntKind.wrap_u64];omega
structure URow (w:World) (p:Option Addr) (len:Nat) (zs:List Int):Prop where
 lens:zs.length=len
 short:len≤9223372036854775807
 fits:∀ z∈zs,0≤z∧z≤18446744073709551615
 cells:∃ b off,(len=0∨p=some ⟨b,off,none⟩)∧∀ j,j<len→w.cell? ⟨b,off+j,none⟩=some (.int .u64 (zs.getD j 0))
theorem drop_step (zs:List Int) (k:Nat) (h:k<zs.length):zs.drop k=zs.getD k 0::zs.drop (k+1):=by
 rw [List.drop_eq_getElem_cons h];simp [h]
set_option maxHeartbeats 400000 in
theorem add_any (p:Option Addr) (len cap:Nat) (zs:List Int) (w:World) (h:URow w p len zs) :
 Calls Tryz.prog 51 #[.slice p len cap] w fun e w'=>e=.returned (.tuple #[.int .u64 (Am.addF zs).1,.int .i64 (Am.addF zs).2])∧w=w':=by
 obtain ⟨hl,hs,hf,b,off,hp,hc⟩:=h
 rw [←Am.addL_addF (fun z hz=>(hf z hz).1)]
 have HL:=Lib.hid hl;have HF:=Lib.hid hf;have HP:=Lib.hid hp;have HC:=Lib.hid hc
 clear hl hf hp hc
 go_enter Tryz.func51,Tryz.ntmps51
 go_wp2
 go_loop [4,9] (fun s i=>∃ (k:Nat) (x:Int),k≤len∧i=.int .i64 k∧s=.int .u64 x∧0≤x∧x≤1125899906842624∧Am.addL 0 zs=Am.addL x (zs.drop k)) (fun _ i=>len-(intOf i).toNat)
 case atStart=>exact ⟨0,0,by omega,rfl,rfl,by omega,by omega,by simp⟩
 case round=>
  obtain ⟨k,x,hk,rfl,rfl,x0,x1,hx⟩:=hrel
  have HX:=Lib.hid hx;clear hx
  by_cases hlt:k<len
  · obtain rfl:p=some ⟨b,off,none⟩:=by rcases HP.out with h | h;(omega);exact h
    have hcell:=HC.out k hlt
    have hfit:0≤zs.getD k 0∧zs.getD k 0≤18446744073709551615:=HF.out _ (by have:=HL.out;simp [show k<zs.length by omega])
    have hd:=drop_step zs k (by have:=HL.out;omega)
    rw [hd] at HX
    clear hd
    generalize zs.getD k 0=z at *
    obtain ⟨z0,z1⟩:=hfit
    by_cases hgt:1125899906842624-x<z
    · have he:Am.addL x (z::zs.drop (k+1))=(0,60):=by
       simp only [Am.addL];rw [if_pos (by show (1125899906842624:Int)-x<z;exact hgt)]
      have HE:=Lib.hid (HX.out.trans he);clear he
      go_wp2
      go_ret2
      exact ⟨by rw [HE.out];rfl,rfl⟩
    · have he:Am.addL x (z::zs.drop (k+1))=Am.addL (x+z) (zs.drop (k+1)):=by
       simp only [Am.addL];rw [if_neg (by show ¬ (1125899906842624:Int)-x<z;exact hgt)]
      have HE:=Lib.hid (HX.out.trans he);clear he
      go_wp2
      go_round
      case rel=>exact ⟨k+1,x+z,by omega,by go_num,rfl,by omega,by omega,HE.out⟩
      case measure=>simp [intOf];omega
  · have he:Am.addL x (zs.drop k)=(x,0):=by
     rw [List.drop_eq_nil_of_le (by have:=HL.out;omega)];rfl
    have HE:=Lib.hid (HX.out.trans he);clear he
    go_wp2
    go_ret2
    exact ⟨by rw [HE.out];rfl,rfl⟩
namespace Mul64
theorem maskN (a:Nat) (ha:a<18446744073709551616):bits .and .u64 (a:Int) 4294967295=((a%4294967296:Nat):Int):=by
 have h:=bits_and_u64_nat a 4294967295 ha (by omega)
 have e:a &&& 4294967295=a%4294967296:=Nat.and_two_pow_sub_one_eq_mod a 32
 rw [e] at h
 exact h
theorem divN (a:Nat):(a:Int)/4294967296=((a/4294967296:Nat):Int):=by omega
theorem mulN (a b:Nat):(a:Int)*(b:Int)=((a*b:Nat):Int):=(Int.natCast_mul a b).symm
theorem addN (a b:Nat):(a:Int)+(b:Int)=((a+b:Nat):Int):=(Int.natCast_add a b).symm
theorem wrapN (a:Nat) (ha:a<18446744073709551616):IntKind.u64.wrap (a:Int)=(a:Int):=by rw [IntKind.wrap_u64];omega
theorem wrapM (a:Nat):IntKind.u64.wrap (a:Int)=((a%18446744073709551616:Nat):Int):=by rw [IntKind.wrap_u64];omega
end Mul64
set_option maxHeartbeats 1000000 in
theorem mul64_nat (x y:Nat) (hx:x<18446744073709551616) (hy:y<18446744073709551616) (w:World) :
 Calls Tryz.prog 139 #[.int .u64 x,.int .u64 y] w fun e w'=>e=.returned (.tuple #[.int .u64 ((x*y/18446744073709551616:Nat):Int),.int .u64 ((x*y%18446744073709551616:Nat):Int)])∧w=w':=by
 obtain ⟨bd,bt,bw,hhi⟩:=Lib.mul64_hi x y hx hy
 have ba:=Lib.half_mul_le (a:=x/4294967296) (b:=y/4294967296) (by omega) (by omega)
 have bb:=Lib.half_mul_le (a:=x/4294967296) (b:=y%4294967296) (by omega) (by omega)
 have bc:=Lib.half_mul_le (a:=x%4294967296) (b:=y/4294967296) (by omega) (by omega)
 have ba':x/4294967296*(y/4294967296)<18446744073709551616:=by omega
 have bb':x/4294967296*(y%4294967296)<18446744073709551616:=by omega
 have bc':x%4294967296*(y/4294967296)<18446744073709551616:=by omega
 have bh1:x/4294967296*(y/4294967296)+(x/4294967296*(y%4294967296)+x%4294967296*(y%4294967296)/4294967296)/4294967296<18446744073709551616:=by omega
 have bh:x/4294967296*(y/4294967296)+(x/4294967296*(y%4294967296)+x%4294967296*(y%4294967296)/4294967296)/4294967296+((x/4294967296*(y%4294967296)+x%4294967296*(y%4294967296)/4294967296)%4294967296+x%4294967296*(y/4294967296))/4294967296<18446744073709551616:=by omega
 have HH:=Lib.hid hhi;clear hhi
 go_enter Tryz.func139,Tryz.ntmps139
 go_wp2
 simp only [Mul64.maskN x hx,Mul64.maskN y hy,Mul64.divN,Mul64.mulN,Mul64.addN,Mul64.wrapN _ bd,Mul64.wrapN _ bb',Mul64.wrapN _ bt,Mul64.maskN _ bt,Mul64.wrapN _ bc',Mul64.wrapN _ bw,Mul64.wrapN _ ba',Mul64.wrapN _ bh1,Mul64.wrapN _ bh,Mul64.wrapM (x*y)]
 rw [HH.out]
 go_ret2
 exact ⟨rfl,rfl⟩
theorem mul64_any (x y:Int) (x0:0≤x) (x1:x≤18446744073709551615) (y0:0≤y) (y1:y≤18446744073709551615) (w:World) :
 Calls Tryz.prog 139 #[.int .u64 x,.int .u64 y] w fun e w'=>e=.returned (.tuple #[.int .u64 (x*y/18446744073709551616),.int .u64 (x*y%18446744073709551616)])∧w=w':=by
 obtain ⟨a,rfl⟩:=Int.eq_ofNat_of_zero_le x0
 obtain ⟨b,rfl⟩:=Int.eq_ofNat_of_zero_le y0
 exact mul64_nat a b (by omega) (by omega) w
set_option maxRecDepth 100000 in
theorem lz_million (w:World):Calls Tryz.prog 208 #[.int .u64 1000000] w fun e w'=>e=.returned (.int .i64 44)∧w=w':=by
 go_enter Tryz.func208,Tryz.ntmps208
 go_wp2
 go_ret
 refine ⟨?_,rfl⟩
 kernel_rfl
theorem or_join (hi lo:Int) (h0:0≤hi) (h1:hi<1000000) (l0:0≤lo) (l1:lo≤18446744073709551615) :
 bits .or .u64 (hi*17592186044416) (lo/1048576)=hi*17592186044416+lo/1048576:=
 bits_join .u64 64 (by decide) (fun n a b=>u64_in n ⟨a,by omega⟩) 44 _ _ (by omega) (by omega) (by omega) (by omega) (by omega) (by omega)
theorem mask_64 (L:Int) (l0:0≤L) (l1:L≤18446744073709551615):bits .and .u64 L 4294967295=L%4294967296:=by
 obtain ⟨a,rfl⟩:=Int.eq_ofNat_of_zero_le l0
 rw [Mul64.maskN a (by omega)];omega
set_option maxRecDepth 100000 in
set_option maxHeartbeats 1000000 in
theorem div_big (hi lo:Int) (w:World) (h0:1≤hi) (h1:hi<1000000) (l0:0≤lo) (l1:lo≤18446744073709551615) :
 Calls Tryz.prog 140 #[.int .u64 hi,.int .u64 lo,.int .u64 1000000] w fun e w'=>(∃ r,e=.returned (.tuple #[.int .u64 ((hi*18446744073709551616+lo)/1000000),.int .u64 r]))∧w=w':=by
 have ho:=or_join hi lo (by omega) h1 l0 l1
 have hm0:bits .and .u64 17592186044416000000 4294967295=0:=mask_64 17592186044416000000 (by omega) (by omega)
 have hL:IntKind.u64.wrap (lo*17592186044416)=lo*17592186044416%18446744073709551616:=IntKind.wrap_u64 _
 have hst:=Am.div_steps hi lo
 obtain ⟨U,hU⟩:∃ U,U=hi*17592186044416+lo/1048576:=⟨_,rfl⟩
 obtain ⟨L,hL'⟩:∃ L,L=lo*17592186044416%18446744073709551616:=⟨_,rfl⟩
 rw [←hU] at ho hst;rw [←hL'] at hL hst
 have u0:0≤U:=by omega
 have u1:U<17592186044416000000:=by omega
 have b0:0≤L:=by omega
 have b1:L≤18446744073709551615:=by omega
 have hmL:=mask_64 L b0 b1
 have HST:=Lib.hid hst
 obtain ⟨V,hV⟩:∃ V,V=U*4294967296+L/4294967296-U/4096000000*17592186044416000000:=⟨_,rfl⟩
 have v0:0≤V:=by omega
 have v1:V<17592186044416000000:=by omega
 have hV2:IntKind.u64.wrap (IntKind.u64.wrap (IntKind.u64.wrap (U*4294967296)+L/4294967296)-IntKind.u64.wrap (U/4096000000*17592186044416000000))=V:=by
  simp only [IntKind.wrap_u64];omega
 have hQ:U/4096000000*4294967296+V/4096000000=(hi*18446744073709551616+lo)/1000000:=by rw [←hst,← hV];omega
 have HQ:=Lib.hid hQ
 have HU:=Lib.hid hU;have HL':=Lib.hid hL';have HV:=Lib.hid hV
 clear hst hU hL' hV hQ HST
 go_enter Tryz.func140,Tryz.ntmps140
 go_wp2_with fail
 refine (lz_million _).mono ?_
 rintro e w' ⟨rfl,rfl⟩
 go_wp2_with fail
 refine wp_loop_rounds 1 ?_
 rw [rounds_succ]
 go_wp2_with fail
 refine wp_loop_rounds 1 ?_
 rw [rounds_succ]
 go_wp2
 go_ret2
 exact ⟨⟨_,by rw [←HQ.out];rfl⟩,rfl⟩
set_option maxRecDepth 100000 in
theorem div_any (hi lo:Int) (w:World) (h0:0≤hi) (h1:hi<1000000) (l0:0≤lo) (l1:lo≤18446744073709551615) :
 Calls Tryz.prog 140 #[.int .u64 hi,.int .u64 lo,.int .u64 1000000] w fun e w'=>(∃ r,e=.returned (.tuple #[.int .u64 ((hi*18446744073709551616+lo)/1000000),.int .u64 r]))∧∃ n,w'=w.drewN n:=by
 by_cases hz:1≤hi
 · exact (div_big hi lo w hz h1 l0 l1).mono fun e w' ⟨he,hw⟩=>⟨he,0,hw.symm⟩
 · obtain rfl:hi=0:=by omega
   have e0:(0*18446744073709551616+lo)/1000000=lo/1000000:=by omega
   rw [e0];clear e0
   go_enter Tryz.func140,Tryz.ntmps140
   go_wp2
   go_quiet (fail)
   go_wp2
   go_ret2
   exact ⟨⟨_,rfl⟩,_,rfl⟩
end Go.Proofs.YtdebnbgjgkbmaaaGreatDoor.Pu
namespace Go.Proofs.YtdebnbgjgkbmaaaGreatDoor.Pu
open Go.RowKit
structure U64 (x:Int):Prop where
 lo:0≤x
 hi:x≤18446744073709551615
theorem below_drewN {B:Nat} {a w:World} (h:Below B a w) (n:Nat):Below B a (w.drewN n):=⟨h.os,h.tape,h.output,h.size,h.block⟩
theorem urow_two (w:World) (a b:Int) (ha:U64 a) (hb:U64 b):URow (w.alloc (.cells #[.int .u64 a,.int .u64 b] 27)) (some ⟨w.heap.size,0,none⟩) 2 [a,b]:=by
 refine ⟨rfl,by omega,?_,w.heap.size,0,.inr rfl,fun j hj=>?_⟩
 · intro z hz
   simp at hz
   rcases hz with rfl | rfl
   · exact ⟨ha.lo,ha.hi⟩
   · exact ⟨hb.lo,hb.hi⟩
 · have:j=0∨j=1:=by omega
   rcases this with rfl | rfl<;>go_simp
theorem addF_two (a b:Int):Am.addF [a,b]=if a+b≤1125899906842624 then (a+b,0) else (0,60):=by simp [Am.addF,Am.mx]
set_option maxRecDepth 100000 in
set_option maxHeartbeats 400000 in
theorem fee_any (base rate n:Int) (w:World) (hb:U64 base) (hr:U64 rate) (hn:U64 n) :
 Calls Tryz.prog 48 #[.int .u64 base,.int .u64 rate,.int .u64 n] w fun e w'=>e=.returned (.tuple #[.int .u64 (Am.feeF base rate n).1,.int .i64 (Am.feeF base rate n).2])∧Below w.heap.size w w':=by
 have hm:=mul64_any n rate hn.lo hn.hi hr.lo hr.hi w
 have hp:0≤n*rate:=Int.mul_nonneg hn.lo hr.lo
 have b0:=hb.lo
 have hf:Am.feeF base rate n=if base+n*rate/1000000≤1125899906842624 then (base+n*rate/1000000,0) else (0,60):=rfl
 rw [hf];clear hf
 generalize n*rate=N at *
 have HM:=Lib.hid hm;clear hm
 by_cases hbig:1000000≤N/18446744073709551616
 · have hx:¬ base+N/1000000≤1125899906842624:=by omega
   rw [if_neg hx];clear hx
   go_enter Tryz.func48,Tryz.ntmps48
   go_wp2_with fail
   refine (HM.out).mono ?_
   rintro e w' ⟨rfl,rfl⟩
   go_wp2_with fail
   go_ret2
   exact ⟨rfl,Below.refl _ _⟩
 · have hd:=div_any (N/18446744073709551616) (N%18446744073709551616) w (by omega) (by omega) (by omega) (by omega)
   have e1:N/18446744073709551616*18446744073709551616+N%18446744073709551616=N:=by omega
   rw [e1] at hd;clear e1
   have hP:U64 (N/1000000):=⟨by omega,by omega⟩
   have q0:=hP.lo
   have q1:=hP.hi
   have he:=addF_two base (N/1000000)
   have hz:0≤N/18446744073709551616:=by omega
   have HD:=Lib.hid hd;have HE:=Lib.hid he;clear hd he
   go_enter Tryz.func48,Tryz.ntmps48
   go_wp2_with fail
   refine (HM.out).mono ?_
   rintro e w' ⟨rfl,rfl⟩
   go_wp2_with fail
   refine (HD.out).mono ?_
   rintro e w' ⟨⟨r,rfl⟩,m,rfl⟩
   go_wp2_with fail
   refine (add_any _ 2 2 _ _ (urow_two _ base (N/1000000) hb hP)).mono ?_
   rintro e w' ⟨rfl,rfl⟩
   rw [HE.out]
   go_wp2
   all_goals
    go_ret2
    exact ⟨rfl,below_drewN ((Below.refl _ _).alloc (Nat.le_refl _) _) _⟩
theorem ret_bool {a b:Bool} (h:a=b):Ending.returned (.bool a)=.returned (.bool b):=by rw [h]
theorem feeF_two (base rate n:Int):(Am.feeF base rate n).2=0∧(Am.feeF base rate n).1=base+n*rate/1000000∧base+n*rate/1000000≤1125899906842624∨(Am.feeF base rate n).2=60∧(Am.feeF base rate n).1=0∧1125899906842624<base+n*rate/1000000:=by
 unfold Am.feeF Am.mx
 split
 · exact .inl ⟨rfl,rfl,by omega⟩
 · exact .inr ⟨rfl,rfl,by omega⟩
end Go.Proofs.YtdebnbgjgkbmaaaGreatDoor.Pu
namespace Go.Proofs.YtdebnbgjgkbmaaaGreatDoor
namespace SX
open Go Go.RowKit
set_option linter.unusedVariables false
noncomputable def fee2 (h:Hp) (nx:Nat) (s:Nat):XR:=Bool.rec (motive:=fun _=>XR) (.bad "fee: much") (.ok (.tuple #[.int .u64 (.ofNat s),.int .i64 0]) h nx) (Nat.ble s 1125899906842624)
noncomputable def fee1 (b r n:Nat) (h:Hp) (nx:Nat):XR:=Bool.rec (motive:=fun _=>XR) (.bad "fee: wide") (fN (Nat.add b (Nat.div (Nat.mul n r) 1000000)) (fee2 h nx)) (and (Nat.ble b 18446744073709551615) (and (Nat.ble r 18446744073709551615) (Nat.ble n 18446744073709551615)))
noncomputable def hkFee (args:List Value) (h:Hp) (nx:Nat):XR:=match args with | [.int .u64 (.ofNat b),.int .u64 (.ofNat r),.int .u64 (.ofNat n)]=>fee1 b r n h nx | _=>.bad "fee"
theorem fee_ok {C:Cfg} (hP:C.E.P=Tryz.prog) {σ:Sig} {ρ:Rho} {args:List Value} {h:Hp} {nx:Nat} {v:Value} {h':Hp} {nx':Nat} {w:World} {args':Array Value} (e:hkFee args h nx=.ok v h' nx') (s:Sim σ C.E.gl ρ h nx w) (hv:VL σ ρ args args'.toList) :
 Calls C.E.P 48 args' w fun e w'=>∃ v',e=.returned v'∧Did C.E σ ρ h nx w v h' nx' v' w':=by
 unfold hkFee at e
 split at e
 · rename_i b r n
   obtain ⟨x0,l0,e0,h0,hv⟩:=hv.inv
   obtain ⟨x1,l1,rfl,h1,hv⟩:=hv.inv
   obtain ⟨x2,rfl,h2⟩:=hv.one
   obtain rfl:=VR.int_inv h0
   obtain rfl:=VR.int_inv h1
   obtain rfl:=VR.int_inv h2
   have ha:args'=#[.int .u64 (b:Int),.int .u64 (r:Int),.int .u64 (n:Int)]:=by apply Array.ext';exact e0
   subst ha
   unfold fee1 at e
   cases hb:and (Nat.ble b 18446744073709551615) (and (Nat.ble r 18446744073709551615) (Nat.ble n 18446744073709551615)) with
   | false=>rw [hb] at e;cases e
   | true=>
     rw [hb] at e
     have hb:(Nat.ble b 18446744073709551615&&(Nat.ble r 18446744073709551615&&Nat.ble n 18446744073709551615))=true:=hb
     rw [Bool.and_eq_true,Bool.and_eq_true] at hb
     have b1:=Nat.le_of_ble_eq_true hb.1
     have b2:=Nat.le_of_ble_eq_true hb.2.1
     have b3:=Nat.le_of_ble_eq_true hb.2.2
     have e:fN (Nat.add b (Nat.div (Nat.mul n r) 1000000)) (fee2 h nx)=.ok v h' nx':=e
     rw [fN_eq] at e
     unfold fee2 at e
     cases hs:Nat.ble (Nat.add b (Nat.div (Nat.mul n r) 1000000)) 1125899906842624 with
     | false=>rw [hs] at e;cases e
     | true=>
       rw [hs] at e
       have hs:b+n*r/1000000≤1125899906842624:=Nat.le_of_ble_eq_true hs
       injection e with q1 q2 q3
       subst q1;subst q2;subst q3
       rw [hP]
       have hsI:(b:Int)+(n:Int)*(r:Int)/1000000=((b+n*r/1000000:Nat):Int):=by
        rw [Int.natCast_add,Int.natCast_ediv,Int.natCast_mul];rfl
       refine (Pu.fee_any b r n w ⟨by omega,by omega⟩ ⟨by omega,by omega⟩ ⟨by omega,by omega⟩).mono ?_
       rintro e w' ⟨rfl,hbl⟩
       rcases Pu.feeF_two b r n with ⟨p1,p2,p3⟩ | ⟨p1,p2,p3⟩
       · rw [p1,p2,hsI]
         refine ⟨_,rfl,did_below s hbl (.tuple _ _ rfl (fun i x x' p q=>?_))⟩
         match i with
         | 0=>cases p;cases q;exact .int _ _
         | 1=>cases p;cases q;exact .int _ _
         | i+2=>simp at p
       · rw [hsI] at p3;omega
 · cases e
end SX
end Go.Proofs.YtdebnbgjgkbmaaaGreatDoor
namespace Go.Proofs.YtdebnbgjgkbmaaaGreatDoor
namespace QR
set_option linter.unusedVariables false
variable {P:Program}
def upd (L:Nat→Bool) (i:Nat):Nat→Bool:=fun j=>if j=i then true else L j
def updV (V:Nat→Value) (i:Nat) (v:Value):Nat→Value:=fun j=>if j=i then v else V j
def putAll (L:Nat→Bool) (V:Nat→Value):List Oper→Nat→Act→Act
 | [],_,a=>a
 | o::r,k,a=>putAll L V r (k+1) (if L k then a.put o.dst (V k) else a)
def apartB:List Oper→Bool
 | []=>true
 | o::r=>(r.all fun x=>match o.dst with | some d=>x.dst != some d | none=>true)&&apartB r
theorem putAll_comm {L:Nat→Bool} {V:Nat→Value} {x:Option Tmp} {v:Value}:∀ (l:List Oper) (k:Nat) (a:Act),(∀ o∈l,∀ d,x=some d→o.dst≠some d)→(putAll L V l k a).put x v=putAll L V l k (a.put x v)
 | [],_,_,_=>rfl
 | o::r,k,a,h=>by
   unfold putAll
   rw [putAll_comm r (k+1) _ (fun o' ho'=>h o' (List.mem_cons_of_mem _ ho'))]
   split
   · rw [Act.put_comm a v (V k) (h o List.mem_cons_self)]
   · rfl
theorem putAll_congr {L L':Nat→Bool} {V V':Nat→Value}:∀ (l:List Oper) (k:Nat) (a:Act),(∀ j,k≤j→j<k+l.length→L j=L' j∧V j=V' j)→putAll L V l k a=putAll L' V' l k a
 | [],_,_,_=>rfl
 | o::r,k,a,h=>by
   unfold putAll
   obtain ⟨h1,h2⟩:=h k (Nat.le_refl _) (by simp)
   rw [h1,h2]
   exact putAll_congr r (k+1) _ (fun j hj hj2=>h j (by omega) (by simp at hj2 ⊢;omega))
theorem putAll_step {L:Nat→Bool} {V:Nat→Value} {v:Value} {i:Nat} {o:Oper}:∀ (l:List Oper) (k:Nat) (a:Act),apartB l=true→k≤i→l[i-k]?=some o→L i=false→(putAll L V l k a).put o.dst v=putAll (upd L i) (updV V i v) l k a
 | [],_,_,_,_,h,_=>by simp at h
 | x::r,k,a,hap,hk,ho,hL=>by
   unfold apartB at hap
   rw [Bool.and_eq_true] at hap
   unfold putAll
   by_cases hki:k=i
   · subst hki
     rw [Nat.sub_self] at ho
     obtain rfl:x=o:=by simpa using ho
     rw [hL,if_neg (by decide),putAll_comm r (k+1) a (fun o' ho' d hd=>?_)]
     · have e1:upd L k k=true:=if_pos rfl
       have e2:updV V k v k=v:=if_pos rfl
       rw [e1,e2,if_pos rfl]
       exact putAll_congr r (k+1) _ (fun j hj _=>⟨(if_neg (by omega)).symm,(if_neg (by omega)).symm⟩)
     · have:=List.all_eq_true.1 hap.1 o' ho'
       rw [hd] at this
       simpa using this
   · have hk':k<i:=by omega
     have e1:upd L i k=L k:=if_neg hki
     have e2:updV V i v k=V k:=if_neg hki
     rw [e1,e2]
     have ho':r[i-(k+1)]?=some o:=by rw [show i-k=(i-(k+1))+1 by omega] at ho;simpa using ho
     exact putAll_step r (k+1) _ hap.2 hk' ho' hL
theorem eval_put_ne {a:Act} {x:Option Tmp} {v:Value} {d:Tmp} (h:x≠some d):(a.put x v).eval (.tmp d)=a.eval (.tmp d):=by
 cases x with
 | none=>rfl
 | some e=>
   have hne:e≠d:=fun h'=>h (by rw [h'])
   unfold Act.put Act.eval
   simp [Array.getElem?_setIfInBounds_ne hne]
theorem eval_base {L:Nat→Bool} {V:Nat→Value} {d:Tmp}:∀ (l:List Oper) (k:Nat) (a:Act),(l.all fun o=>o.dst != some d)=true→(putAll L V l k a).eval (.tmp d)=a.eval (.tmp d)
 | [],_,_,_=>rfl
 | o::r,k,a,h=>by
   rw [List.all_cons,Bool.and_eq_true] at h
   unfold putAll
   rw [eval_base r (k+1) _ h.2]
   split
   · exact eval_put_ne (by simpa using h.1)
   · rfl
theorem size_put (a:Act) (x:Option Tmp) (v:Value):(a.put x v).tmps.size=a.tmps.size:=by
 cases x<;>simp [Act.put]
theorem size_putAll {L:Nat→Bool} {V:Nat→Value}:∀ (l:List Oper) (k:Nat) (a:Act),(putAll L V l k a).tmps.size=a.tmps.size
 | [],_,_=>rfl
 | o::r,k,a=>by
   unfold putAll
   rw [size_putAll r]
   split
   · exact size_put _ _ _
   · rfl
theorem eval_put_eq {a:Act} {v:Value} {d:Tmp} (h:d<a.tmps.size):(a.put (some d) v).eval (.tmp d)=v:=by
 unfold Act.put Act.eval
 simp [Array.getD_eq_getD_getElem?,Array.getElem?_setIfInBounds_self_of_lt h]
theorem eval_at {L:Nat→Bool} {V:Nat→Value} {d:Tmp} {o:Oper} {i:Nat}:∀ (l:List Oper) (k:Nat) (a:Act),apartB l=true→d<a.tmps.size→k≤i→l[i-k]?=some o→o.dst=some d→L i=true→(putAll L V l k a).eval (.tmp d)=V i
 | [],_,_,_,_,_,h,_,_=>by simp at h
 | x::r,k,a,hap,hd,hk,ho,hdst,hL=>by
   unfold apartB at hap
   rw [Bool.and_eq_true] at hap
   unfold putAll
   by_cases hki:k=i
   · subst hki
     rw [Nat.sub_self] at ho
     obtain rfl:x=o:=by simpa using ho
     rw [hL,if_pos rfl,eval_base r (k+1) _ (List.all_eq_true.2 fun o' ho'=>by
      have:=List.all_eq_true.1 hap.1 o' ho'
      rw [hdst] at this
      exact this),hdst]
     exact eval_put_eq hd
   · have ho':r[i-(k+1)]?=some o:=by rw [show i-k=(i-(k+1))+1 by omega] at ho;simpa using ho
     refine eval_at r (k+1) _ hap.2 ?_ (by omega) ho' hdst hL
     split
     · rw [size_put];exact hd
     · exact hd
def lf (listed:Array Bool):Nat→Bool:=fun j=>listed.getD j false
theorem lf_set {listed:Array Bool} {i:Nat} (h:i<listed.size):lf (listed.setIfInBounds i true)=upd (lf listed) i:=by
 funext j
 unfold lf upd
 simp only [Array.getD_eq_getD_getElem?,Array.getElem?_setIfInBounds]
 by_cases hij:i=j
 · subst hij;simp [h]
 · rw [if_neg hij,if_neg (fun e=>hij e.symm)]
def cnt (n:Nat) (listed:Array Bool):Nat:=((List.range n).filter fun i=>!(lf listed i)).length
theorem cnt_set {n:Nat} {listed:Array Bool} {i:Nat} (h:i<listed.size) (hn:i<n) (hf:lf listed i=false):cnt n (listed.setIfInBounds i true)<cnt n listed:=by
 unfold cnt
 rw [lf_set h]
 have e:(List.range n).filter (fun j=>!(upd (lf listed) i j))=((List.range n).filter fun j=>!(lf listed j)).filter (fun j=>decide (j≠i)):=by
  rw [List.filter_filter]
  apply List.filter_congr
  intro j _
  unfold upd
  by_cases hj:j=i
  · simp [hj]
  · simp [hj]
 rw [e]
 refine List.length_filter_lt_length_iff_exists.2 ⟨i,List.mem_filter.2 ⟨List.mem_range.2 hn,by simp [hf]⟩,by simp⟩
end QR
end Go.Proofs.YtdebnbgjgkbmaaaGreatDoor
namespace Go.Proofs.YtdebnbgjgkbmaaaGreatDoor
namespace QC
open Go.RowKit
open QP (upon oat wp_of_oat)
open QT (dep)
open QR (upd updV putAll apartB putAll_congr putAll_step lf lf_set cnt cnt_set size_put)
set_option linter.unusedVariables false
variable {P:Program}
def Y (P:Program) (ops:Array Oper) (o:Oper) (a:Act) (v:Value) (w:World):Prop:=
 (Region.wanted o (yielded ops a.tmps)=true∧oat P o a (fun u=>u=w) w v)∨(Region.wanted o (yielded ops a.tmps)=false∧v=undef)
abbrev Fl:=List (Nat × (World→Prop))
def wpC (P:Program) (ops:Array Oper) (E:List Nat) (Q:Exit→Act→World→Prop):List Nat→Fl→Act→World→Prop
 | [],_,a,w=>Q .normal a w
 | i::r,F,a,w=>∃ o,ops[i]?=some o ∧
   if E.contains i then
    wpList P ops (fun e a' w'=>e=.normal∧a'.defers=a.defers∧(∀ x∈F,dep .any ops x.1 30 o=true∨x.2 w')∧wpC P ops E Q r F a' w') [o] a w
   else ∃ v,((∀ u,Y P ops o a v u)∧wpC P ops E Q r F (a.put o.dst v) w)∨(∃ R:World→Prop,R w∧(∀ u,R u→Y P ops o a v u)∧wpC P ops E Q r ((i,R)::F) (a.put o.dst v) w)
def aft (o:Oper) (j:Nat):Bool:=o.after.toList.any fun e=>Region.binds .any e&&e.on==j
def lexB (l:List Oper):Bool:=(List.range l.length).all fun i=>match l[i]? with | some o=>o.after.toList.all fun e=>!Region.binds .any e||decide (e.on<i) | none=>true
def readB (l:List Oper):Bool:=l.all fun o=>(List.range l.length).all fun j=>match l[j]? with | some x=>(match x.dst with | some d=>!(o.looksAt l.toArray).contains d||aft o j | none=>true) | none=>true
def ordB (l:List Oper) (E:List Nat):List Nat→List Nat→Bool
 | [],done=>(List.range l.length).all fun i=>done.contains i
 | i::r,done=>!done.contains i&&(match l[i]? with | some o=>o.after.toList.all fun e=>!Region.binds .any e||done.contains e.on | none=>false) &&
   (!E.contains i||r.all fun k=>match l[k]? with | some o=>dep .any l.toArray i 30 o | none=>false)&&ordB l E r (i::done)
def okC (l:List Oper) (E:List Nat) (ord:List Nat):Bool:=apartB l&&lexB l&&readB l&&Region.noSelect l.toArray&&ordB l E ord []
theorem tmps_congr {L L':Nat→Bool} {V V':Nat→Value} {t:Tmp}:∀ (l:List Oper) (k:Nat) (a a':Act),a.tmps[t]?=a'.tmps[t]?→a.tmps.size=a'.tmps.size→(∀ j o,l[j]?=some o→o.dst=some t→L (k+j)=L' (k+j)∧V (k+j)=V' (k+j)) →
 (putAll L V l k a).tmps[t]?=(putAll L' V' l k a').tmps[t]?
 | [],_,_,_,h,_,_=>h
 | o::r,k,a,a',h,hs,hl=>by
   unfold putAll
   refine tmps_congr r (k+1) _ _ ?_ ?_ (fun j o' ho' hd=>by have:=hl (j+1) o' (by simpa using ho') hd;simpa [Nat.add_assoc,Nat.add_comm 1 j] using this)
   · by_cases hd:o.dst=some t
     · obtain ⟨e1,e2⟩:=hl 0 o rfl hd
       simp only [Nat.add_zero] at e1 e2
       rw [e1,e2]
       split
       · rw [hd];unfold Act.put;simp [Array.getElem?_setIfInBounds,hs]
       · exact h
     · have keep:∀ (b:Bool) (x:Value) (c:Act),(if b=true then c.put o.dst x else c).tmps[t]?=c.tmps[t]?:=fun b x c=>by
        split
        · cases hx:o.dst with
          | none=>rfl
          | some d=>
            have hne:d≠t:=fun e=>hd (by rw [hx,e])
            unfold Act.put;simp [Array.getElem?_setIfInBounds_ne hne]
        · rfl
       rw [keep,keep];exact h
   · have keep:∀ (b:Bool) (x:Value) (c:Act),(if b=true then c.put o.dst x else c).tmps.size=c.tmps.size:=fun b x c=>by
      split
      · exact size_put _ _ _
      · rfl
     rw [keep,keep];exact hs
theorem exec_congr {ops:Array Oper} {a a':Act} (o:Oper) (hs:∀ cs b,o.op≠.select cs b) (h:∀ t∈o.looksAt ops,a.tmps[t]?=a'.tmps[t]?):execOp a.eval o=execOp a'.eval o:=by
 refine execOp_congr o hs fun x hx=>?_
 cases x with
 | tmp t=>
   have:=h t (List.mem_append_left _ (List.mem_filterMap.2 ⟨.tmp t,by simpa using hx,rfl⟩))
   show a.tmps.getD t undef=a'.tmps.getD t undef
   rw [Array.getD_eq_getD_getElem?,Array.getD_eq_getD_getElem?,this]
 | _=>rfl
theorem wanted_congr {ops:Array Oper} {a a':Act} (o:Oper) (h:∀ t∈o.looksAt ops,a.tmps[t]?=a'.tmps[t]?):Region.wanted o (yielded ops a.tmps)=Region.wanted o (yielded ops a'.tmps):=by
 unfold Region.wanted
 cases hg:o.guard with
 | none=>rfl
 | some gw=>
   obtain ⟨g,want⟩:=gw
   have hy:yielded ops a.tmps g=yielded ops a'.tmps g:=by
    unfold yielded
    cases ht:(ops[g]?).bind (·.dst) with
    | none=>rfl
    | some t=>rw [Option.bind_some,Option.bind_some,h t (by simp [Oper.looksAt,hg,ht])]
   simp only [hy]
theorem Y_congr {ops:Array Oper} {a a':Act} {o:Oper} {v:Value} {w:World} (hs:∀ cs b,o.op≠.select cs b) (h:∀ t∈o.looksAt ops,a.tmps[t]?=a'.tmps[t]?) (hy:Y P ops o a v w):Y P ops o a' v w:=by
 unfold Y oat at *
 rw [←exec_congr o hs h,← wanted_congr o h];exact hy
theorem wp_region_g {id:Nat} {Q:Exit→Act→World→Prop} {a0:Act} {w0:World} {l:List Oper} (I:(Nat→Bool)→(Nat→Value)→World→Prop) (hm:P.follows .mixedOrders=true) (hap:apartB l=true)
 (hlex:∀ i o,l[i]?=some o→∀ e∈o.after.toList,Region.binds .any e=true→e.on<i)
 (h0:∀ V,I (fun _=>false) V w0.drew)
 (hstep:∀ i o,l[i]?=some o→∀ L V w,I L V w→L i=false→(∀ j o',l[j]?=some o'→L j=true→∀ e∈o'.after.toList,Region.binds .any e=true→L e.on=true) →
   (∀ e∈o.after.toList,Region.binds .any e=true→L e.on=true)→∀ a,a=putAll L V l 0 a0→∀ K:Act→World→Prop,(∀ v w',I (upd L i) (updV V i v) w'→K (a.put o.dst v) w')→if Region.wanted o (yielded l.toArray a.tmps) then o.wp P a w K Q else K (a.put o.dst undef) w)
 (hend:∀ L V w,(∀ i,i<l.length→L i=true)→I L V w→Q .normal (putAll L V l 0 a0) w):(Code.region id l.toArray true).wp P Q a0 w0:=by
 have key:∀ (fuel:Nat) (listed:Array Bool) (V:Nat→Value) (w:World),listed.size=l.length→cnt l.length listed≤fuel→I (lf listed) V w →
  (∀ j o',l[j]?=some o'→lf listed j=true→∀ e∈o'.after.toList,Region.binds .any e=true→lf listed e.on=true) →
  wpAny P .any l.toArray Q fuel listed (putAll (lf listed) V l 0 a0) w:=by
  have full:∀ (listed:Array Bool),listed.size=l.length→Region.ready .any l.toArray listed=[]→∀ i,i<l.length→lf listed i=true:=by
   intro listed hs hr i
   induction i using Nat.strongRecOn with
   | _ i ih=>
     intro hi
     rcases hb:lf listed i with _ | _
     · exfalso
       have ho:l[i]?=some (l[i]):=List.getElem?_eq_getElem hi
       have hmem:i∈Region.ready .any l.toArray listed:=by
        refine mem_ready.2 ⟨?_,l[i],by simp,fun e he hbd=>?_⟩
        · unfold lf at hb
          rw [Array.getD_eq_getD_getElem?,Array.getElem?_eq_getElem (by omega)] at hb ⊢
          exact hb
        · have hlt:=hlex i _ ho e (by simpa using he) hbd
          exact ih e.on (by omega) (by omega)
       rw [hr] at hmem;cases hmem
     · rfl
  intro fuel
  induction fuel with
  | zero=>
    intro listed V w hs hc hI hd
    have hall:∀ i,i<l.length→lf listed i=true:=fun i hi=>by
     rcases hb:lf listed i with _ | _
     · exfalso
       have:0<cnt l.length listed:=List.length_pos_iff.2 (List.ne_nil_of_mem (List.mem_filter.2 ⟨List.mem_range.2 hi,by simp [hb]⟩))
       omega
     · rfl
    refine ⟨?_,hend _ V w hall hI⟩
    rcases hr:Region.ready .any l.toArray listed with _ | ⟨i,r⟩
    · rfl
    · exfalso
      have hmem:i∈Region.ready .any l.toArray listed:=by rw [hr];exact List.mem_cons_self
      obtain ⟨h1,o,ho,_⟩:=mem_ready.1 hmem
      have hi:i<l.length:=by have:=(Array.getElem?_eq_some_iff.1 ho).1;simpa using this
      have:=hall i hi
      unfold lf at this
      rw [Array.getD_eq_getD_getElem?,Array.getElem?_eq_getElem (by omega)] at this h1
      simp at this h1
      rw [this] at h1;cases h1
  | succ fuel ih=>
    intro listed V w hs hc hI hd
    refine ⟨fun hr=>hend _ V w (full listed hs hr) hI,fun i hi=>?_⟩
    obtain ⟨h1,o,ho,hdep⟩:=mem_ready.1 hi
    have hol:l[i]?=some o:=by simpa using ho
    have hil:i<l.length:=(List.getElem?_eq_some_iff.1 hol).1
    have hLi:lf listed i=false:=by
     unfold lf
     rw [Array.getD_eq_getD_getElem?,Array.getElem?_eq_getElem (by omega)] at h1 ⊢
     exact h1
    have nxt:∀ v w',I (upd (lf listed) i) (updV V i v) w'→wpAny P .any l.toArray Q fuel (listed.setIfInBounds i true) ((putAll (lf listed) V l 0 a0).put o.dst v) w':=fun v w' hI'=>by
     rw [putAll_step l 0 a0 hap (Nat.zero_le _) (by simpa using hol) hLi,← lf_set (by omega)]
     rw [←lf_set (by omega)] at hI'
     refine ih _ _ w' (by simpa using hs) (by have:=cnt_set (n:=l.length) (listed:=listed) (i:=i) (by omega) hil hLi;omega) hI' (fun j o' hj hl e he hb=>?_)
     rw [lf_set (by omega)] at hl ⊢
     unfold upd at hl ⊢
     by_cases hji:j=i
     · subst hji
       obtain rfl:o'=o:=Option.some.inj (hj.symm.trans hol)
       split
       · rfl
       · exact hdep e (by simpa using he) hb
     · rw [if_neg hji] at hl
       split
       · rfl
       · exact hd j o' hj hl e he hb
    have:=hstep i o hol (lf listed) V w hI hLi hd (fun e he hb=>hdep e (by simpa using he) hb) _ rfl _ nxt
    unfold wpOp
    simp only [ho]
    split
    · rename_i hw;rw [if_pos hw] at this;exact .inl this
    · rename_i hw;rw [if_neg hw] at this;exact this
 refine wp_region_any hm ?_
 have e0:lf (Array.replicate l.length false)=fun _=>false:=by
  funext j;unfold lf;rw [Array.getD_eq_getD_getElem?,Array.getElem?_replicate];split<;>rfl
 have h1:=key l.toArray.size (Array.replicate l.length false) (fun _=>undef) w0.drew (by simp) (by unfold cnt;have:=List.length_filter_le (fun i=>!(lf (Array.replicate l.length false) i)) (List.range l.length);simpa using this) (by rw [e0];exact h0 _) (fun j o' _ hl=>by rw [e0] at hl;cases hl)
 have e1:putAll (lf (Array.replicate l.length false)) (fun _=>undef) l 0 a0=a0:=by
  rw [e0]
  have:∀ (r:List Oper) (k:Nat) (a:Act),putAll (fun _=>false) (fun _=>undef) r k a=a:=fun r=>by
   induction r with
   | nil=>intros;rfl
   | cons o r ih=>intro k a;unfold putAll;rw [if_neg (by decide)];exact ih _ _
  exact this l 0 a0
 rw [e1] at h1
 simpa using h1
def Rob (P:Program) (l:List Oper) (E:List Nat) (F:Fl) (aW:Act) (w:World) (k:Nat) (v:Value):Prop:=
 E.contains k=false∧∃ o,l[k]?=some o∧((∀ u,Y P l.toArray o aW v u)∨∃ R,(k,R)∈F∧R w∧∀ u,R u→Y P l.toArray o aW v u)
def dn (done:List Nat):Nat→Bool:=fun k=>done.contains k
structure St (P:Program) (l:List Oper) (E:List Nat) (Q:Exit→Act→World→Prop) (a0:Act) (L:Nat→Bool) (V:Nat→Value) (w:World) (W:Nat→Value) (ord done:List Nat) (F:Fl):Prop where
 ag:∀ k,L k=true→W k=V k
 od:ordB l E ord done=true
 sub:∀ k,L k=true→dn done k=true
 eff:∀ k,dn done k=true→E.contains k=true→L k=true
 dep:∀ k o,dn done k=true→l[k]?=some o→∀ e∈o.after.toList,Region.binds .any e=true→dn done e.on=true
 rob:∀ k,dn done k=true→L k=false→Rob P l E F (putAll (dn done) W l 0 a0) w k (W k)
 wp:wpC P l.toArray E Q ord F (putAll (dn done) W l 0 a0) w
theorem dn_cons {i:Nat} {done:List Nat} (h:dn done i=false):dn (i::done)=upd (dn done) i:=by
 funext j;unfold dn upd
 by_cases hj:j=i
 · subst hj;simp
 · rw [if_neg hj];simp [hj]
theorem aft_of {l:List Oper} (hr:readB l=true) {o:Oper} {k:Nat} (ho:l[k]?=some o) {t:Tmp} (ht:t∈o.looksAt l.toArray) {j:Nat} {x:Oper} (hx:l[j]?=some x) (hd:x.dst=some t):∃ e∈o.after.toList,Region.binds .any e=true∧e.on=j:=by
 unfold readB at hr
 have h1:=List.all_eq_true.1 hr o (List.mem_of_getElem? ho)
 have h2:=List.all_eq_true.1 h1 j (List.mem_range.2 (List.getElem?_eq_some_iff.1 hx).1)
 simp only [hx,hd,Bool.or_eq_true,Bool.not_eq_true'] at h2
 rcases h2 with h2 | h2
 · simp [ht] at h2
 · unfold aft at h2
   obtain ⟨e,he,hb⟩:=List.any_eq_true.1 h2
   simp only [Bool.and_eq_true,beq_iff_eq] at hb
   exact ⟨e,he,hb.1,hb.2⟩
theorem dep_all {l:List Oper} {L:Nat→Bool} (hD:∀ j o',l[j]?=some o'→L j=true→∀ e∈o'.after.toList,Region.binds .any e=true→L e.on=true) {t:Nat}:∀ (f:Nat) (o:Oper),(∀ e∈o.after.toList,Region.binds .any e=true→L e.on=true)→dep .any l.toArray t f o=true→L t=true
 | 0,_,_,h=>by simp [dep] at h
 | f+1,o,hall,h=>by
   unfold dep at h
   obtain ⟨e,he,hb⟩:=List.any_eq_true.1 h
   simp only [Bool.and_eq_true,Bool.or_eq_true,beq_iff_eq] at hb
   obtain ⟨h1,h2⟩:=hb
   rcases h2 with h2 | h2
   · rw [←h2];exact hall e he h1
   · cases ho:l.toArray[e.on]? with
     | none=>simp [ho] at h2
     | some o'=>
       simp only [ho] at h2
       have ho':l[e.on]?=some o':=by simpa using ho
       exact dep_all hD f o' (hD e.on o' ho' (hall e he h1)) h2
section
variable {l:List Oper} {E:List Nat} {Q:Exit→Act→World→Prop} {a0:Act} {L:Nat→Bool} {V W:Nat→Value} {w:World} {ord done:List Nat} {F:Fl}
theorem ordB_cons {i:Nat} {r:List Nat} (h:ordB l E (i::r) done=true):dn done i=false∧(∀ o,l[i]?=some o→∀ e∈o.after.toList,Region.binds .any e=true→dn done e.on=true)∧(∃ o,l[i]?=some o) ∧
 (E.contains i=true→∀ k∈r,∃ o,l[k]?=some o∧dep .any l.toArray i 30 o=true)∧ordB l E r (i::done)=true:=by
 unfold ordB at h
 simp only [Bool.and_eq_true,Bool.not_eq_true',Bool.or_eq_true] at h
 obtain ⟨⟨⟨h1,h2⟩,h3⟩,h4⟩:=h
 refine ⟨h1,fun o ho e he hb=>?_,?_,fun hE k hk=>?_,h4⟩
 · simp only [ho] at h2
   have:=List.all_eq_true.1 h2 e he
   simpa [hb,dn] using this
 · cases ho:l[i]? with
   | none=>simp [ho] at h2
   | some o=>exact ⟨o,rfl⟩
 · rcases h3 with h3 | h3
   · rw [hE] at h3;cases h3
   · have:=List.all_eq_true.1 h3 k hk
     cases hk:l[k]? with
     | none=>simp [hk] at this
     | some o=>exact ⟨o,rfl,by simpa [hk] using this⟩
theorem ordB_mem {i:Nat} (hi:i<l.length):∀ (ord done:List Nat),ordB l E ord done=true→dn done i=false→i∈ord
 | [],done,h,hd=>by
   unfold ordB at h
   have:=List.all_eq_true.1 h i (List.mem_range.2 hi)
   unfold dn at hd;rw [hd] at this;cases this
 | j::r,done,h,hd=>by
   obtain ⟨h1,_,_,_,h5⟩:=ordB_cons h
   by_cases hij:i=j
   · subst hij;exact List.mem_cons_self
   · refine List.mem_cons_of_mem _ (ordB_mem hi r _ h5 ?_)
     rw [dn_cons h1];unfold upd;rw [if_neg hij];exact hd
theorem agree (hr:readB l=true) {k:Nat} {o:Oper} (ho:l[k]?=some o) {L':Nat→Bool} {V':Nat→Value} (h:∀ e∈o.after.toList,Region.binds .any e=true→L e.on=L' e.on∧V e.on=V' e.on):∀ t∈o.looksAt l.toArray,(putAll L V l 0 a0).tmps[t]?=(putAll L' V' l 0 a0).tmps[t]?:=fun t ht=>
 tmps_congr l 0 _ _ rfl rfl fun j x hx hd=>by
  obtain ⟨e,he,hb,hj⟩:=aft_of hr ho ht hx hd
  have:=h e he hb
  rw [hj] at this;simpa using this
theorem St.quiet {i:Nat} {r:List Nat} (hap:apartB l=true) (hr:readB l=true) (hsel:∀ o∈l,∀ cs b,o.op≠.select cs b) (s:St P l E Q a0 L V w W (i::r) done F) (hE:E.contains i=false):∃ W' F',St P l E Q a0 L V w W' r (i::done) F':=by
 obtain ⟨h1,h2,⟨o,ho⟩,_,h5⟩:=ordB_cons s.od
 have hLi:L i=false:=by
  cases hb:L i
  · rfl
  · have:=s.sub i hb;rw [h1] at this;cases this
 have hwp:=s.wp
 obtain ⟨o',ho',hwp⟩:=hwp
 obtain rfl:o'=o:=Option.some.inj (by rw [←ho,← ho'];simp)
 rw [hE,if_neg (by decide)] at hwp
 obtain ⟨v,hwp⟩:=hwp
 have eput:(putAll (dn done) W l 0 a0).put o'.dst v=putAll (dn (i::done)) (updV W i v) l 0 a0:=by
  rw [putAll_step l 0 a0 hap (Nat.zero_le _) (by simpa using ho) h1,dn_cons h1]
 have Ymv:∀ k x v' u,l[k]?=some x→(∀ e∈x.after.toList,Region.binds .any e=true→dn done e.on=true)→Y P l.toArray x (putAll (dn done) W l 0 a0) v' u→Y P l.toArray x (putAll (dn (i::done)) (updV W i v) l 0 a0) v' u:=fun k x v' u hx hdep hy=>
  Y_congr (hsel x (List.mem_of_getElem? hx)) (agree hr hx (fun e he hb=>by
   have hd:=hdep e he hb
   have hne:e.on≠i:=fun he=>by rw [he,h1] at hd;cases hd
   rw [dn_cons h1]
   exact ⟨(if_neg hne).symm,(if_neg hne).symm⟩)) hy
 have mk:∀ F':Fl,(∀ x∈F,x∈F')→Rob P l E F' (putAll (dn (i::done)) (updV W i v) l 0 a0) w i v→wpC P l.toArray E Q r F' ((putAll (dn done) W l 0 a0).put o'.dst v) w→∃ W' F',St P l E Q a0 L V w W' r (i::done) F':=fun F' hF hrob hw=>by
  refine ⟨updV W i v,F',⟨fun k hk=>?_,h5,fun k hk=>?_,fun k hk hEk=>?_,fun k x hk hx e he hb=>?_,fun k hk hLk=>?_,by rw [←eput];exact hw⟩⟩
  · have hne:k≠i:=fun e=>by rw [e,hLi] at hk;cases hk
    show (if k=i then v else W k)=V k
    rw [if_neg hne];exact s.ag k hk
  · rw [dn_cons h1];unfold upd
    split
    · rfl
    · exact s.sub k hk
  · rw [dn_cons h1] at hk;unfold upd at hk
    by_cases hki:k=i
    · subst hki;rw [hE] at hEk;cases hEk
    · rw [if_neg hki] at hk;exact s.eff k hk hEk
  · rw [dn_cons h1] at hk ⊢;unfold upd at hk ⊢
    split
    · rfl
    · by_cases hki:k=i
      · subst hki
        obtain rfl:x=o':=Option.some.inj (hx.symm.trans ho)
        exact h2 x ho e he hb
      · rw [if_neg hki] at hk;exact s.dep k x hk hx e he hb
  · by_cases hki:k=i
    · subst hki
      show Rob P l E F' _ w k (if k=k then v else W k)
      rw [if_pos rfl];exact hrob
    · rw [dn_cons h1] at hk;unfold upd at hk;rw [if_neg hki] at hk
      obtain ⟨g1,x,hx,g2⟩:=s.rob k hk hLk
      show Rob P l E F' _ w k (if k=i then v else W k)
      rw [if_neg hki]
      refine ⟨g1,x,hx,?_⟩
      rcases g2 with g2 | ⟨R,g2,g3,g4⟩
      · exact .inl fun u=>Ymv k x _ u hx (fun e he hb=>s.dep k x hk hx e he hb) (g2 u)
      · exact .inr ⟨R,hF _ g2,g3,fun u hu=>Ymv k x _ u hx (fun e he hb=>s.dep k x hk hx e he hb) (g4 u hu)⟩
 rcases hwp with ⟨hy,hw⟩ | ⟨R,hR,hy,hw⟩
 · exact mk F (fun x hx=>hx) ⟨hE,o',ho,.inl fun u=>Ymv i o' v u ho (fun e he hb=>h2 o' ho e he hb) (hy u)⟩ hw
 · exact mk ((i,R)::F) (fun x hx=>List.mem_cons_of_mem _ hx) ⟨hE,o',ho,.inr ⟨R,List.mem_cons_self,hR,fun u hu=>Ymv i o' v u ho (fun e he hb=>h2 o' ho e he hb) (hy u hu)⟩⟩ hw
theorem St.adv (hap:apartB l=true) (hr:readB l=true) (hsel:∀ o∈l,∀ cs b,o.op≠.select cs b) {i:Nat} (hi:i<l.length):∀ (ord done:List Nat) (W:Nat→Value) (F:Fl),St P l E Q a0 L V w W ord done F →
 ∃ W' ord' done' F',St P l E Q a0 L V w W' ord' done' F'∧(dn done' i=true∨∃ p r,ord'=p::r∧E.contains p=true)
 | [],done,W,F,s=>by
   cases hd:dn done i
   · have:=ordB_mem hi [] done s.od hd;cases this
   · exact ⟨W,[],done,F,s,.inl hd⟩
 | p::r,done,W,F,s=>by
   cases hE:E.contains p
   · obtain ⟨W',F',s'⟩:=s.quiet hap hr hsel hE
     exact St.adv hap hr hsel hi r (p::done) W' F' s'
   · exact ⟨W,p::r,done,F,s,.inr ⟨p,r,rfl,hE⟩⟩
theorem St.finish (hap:apartB l=true) (hr:readB l=true) (hsel:∀ o∈l,∀ cs b,o.op≠.select cs b) (hL:∀ i,i<l.length→L i=true):∀ (ord done:List Nat) (W:Nat→Value) (F:Fl),St P l E Q a0 L V w W ord done F→Q .normal (putAll L V l 0 a0) w
 | [],done,W,F,s=>by
   have h:=s.wp
   have e:putAll (dn done) W l 0 a0=putAll L V l 0 a0:=putAll_congr l 0 a0 fun j _ hj=>by
    have hLj:=hL j (by omega)
    exact ⟨by rw [s.sub j hLj,hLj],s.ag j hLj⟩
   rw [←e];exact h
 | p::r,done,W,F,s=>by
   obtain ⟨h1,_,⟨o,ho⟩,_,_⟩:=ordB_cons s.od
   have:=s.sub p (hL p (List.getElem?_eq_some_iff.1 ho).1)
   rw [h1] at this;cases this
end
theorem wp_region_c {id:Nat} {Q:Exit→Act→World→Prop} {a:Act} {w:World} {l:List Oper} (E ord:List Nat) (hm:P.follows .mixedOrders=true) (hB:okC l E ord=true)
 (h:wpC P l.toArray E Q ord [] a w.drew):(Code.region id l.toArray true).wp P Q a w:=by
 unfold okC at hB
 simp only [Bool.and_eq_true] at hB
 obtain ⟨⟨⟨⟨hap,hlx⟩,hr⟩,hns⟩,hord⟩:=hB
 have hsel:∀ o∈l,∀ cs b,o.op≠.select cs b:=fun o ho cs b=>by
  obtain ⟨j,hj⟩:=List.getElem?_of_mem ho
  exact Region.noSelect_spec hns j o cs b (by simpa using hj)
 have hlex:∀ i o,l[i]?=some o→∀ e∈o.after.toList,Region.binds .any e=true→e.on<i:=fun i o ho e he hb=>by
  have h1:=List.all_eq_true.1 hlx i (List.mem_range.2 (List.getElem?_eq_some_iff.1 ho).1)
  simp only [ho] at h1
  have:=List.all_eq_true.1 h1 e he
  simpa [hb] using this
 have p0:∀ V:Nat→Value,putAll (dn []) V l 0 a=a:=fun V=>by
  have:∀ (r:List Oper) (k:Nat) (a:Act),putAll (dn []) V r k a=a:=fun r=>by
   induction r with
   | nil=>intros;rfl
   | cons o r ih=>intro k a;unfold putAll;rw [if_neg (by unfold dn;simp)];exact ih _ _
  exact this l 0 a
 refine wp_region_g (fun L V w=>∃ W ord done F,St P l E Q a L V w W ord done F) hm hap hlex (fun V=>⟨V,ord,[],[],⟨fun k hk=>(by cases hk),hord,fun k hk=>(by cases hk),fun k hk=>(by simp [dn] at hk),fun k o hk=>(by simp [dn] at hk),fun k hk=>(by simp [dn] at hk),by rw [p0];exact h⟩⟩) ?_ (fun L V w hL ⟨W,ord,done,F,s⟩=>s.finish hap hr hsel hL _ _ _ _)
 intro i o ho L V u ⟨W,ord,done,F,s⟩ hLi hD hdp aA haA K hK
 have hi:i<l.length:=(List.getElem?_eq_some_iff.1 ho).1
 obtain ⟨W,ord,done,F,s,hcase⟩:=s.adv hap hr hsel hi
 have hso:=hsel o (List.mem_of_getElem? ho)
 have cong:∀ t∈o.looksAt l.toArray,(putAll (dn done) W l 0 a).tmps[t]?=aA.tmps[t]?:=by
  rw [haA]
  exact agree hr ho fun e he hb=>by
   have:=hdp e he hb
   exact ⟨by rw [s.sub _ this,this],s.ag _ this⟩
 cases hdi:dn done i
 ·
  rcases hcase with hc | ⟨p,r,rfl,hE⟩
  · rw [hdi] at hc;cases hc
  obtain ⟨h1,h2,⟨op,hop⟩,h4,h5⟩:=ordB_cons s.od
  have hmem:=ordB_mem hi _ _ s.od hdi
  have hip:i=p:=by
   rcases List.mem_cons.1 hmem with e | hmem
   · exact e
   · obtain ⟨x,hx,hdx⟩:=h4 hE i hmem
     obtain rfl:x=o:=Option.some.inj (hx.symm.trans ho)
     have:=s.sub p (dep_all hD 30 x hdp hdx)
     rw [h1] at this;cases this
  subst hip
  obtain ⟨o',ho',hwp⟩:=s.wp
  obtain rfl:o'=o:=Option.some.inj (by rw [←ho,← ho'];simp)
  rw [hE,if_pos rfl] at hwp
  have nxt:∀ v w',(∀ x∈F,dep .any l.toArray x.1 30 o'=true∨x.2 w')→wpC P l.toArray E Q r F ((putAll (dn done) W l 0 a).put o'.dst v) w'→K (aA.put o'.dst v) w':=fun v w' hF hw=>by
   have eput:(putAll (dn done) W l 0 a).put o'.dst v=putAll (dn (i::done)) (updV W i v) l 0 a:=by
    rw [putAll_step l 0 a hap (Nat.zero_le _) (by simpa using ho) h1,dn_cons h1]
   refine hK v w' ⟨updV W i v,r,i::done,F,⟨fun k hk=>?_,h5,fun k hk=>?_,fun k hk hEk=>?_,fun k x hk hx e he hb=>?_,fun k hk hLk=>?_,by rw [←eput];exact hw⟩⟩
   · unfold upd at hk;unfold updV
     split
     · rfl
     · rename_i hne;rw [if_neg hne] at hk;exact s.ag k hk
   · rw [dn_cons h1];unfold upd at hk ⊢
     split
     · rfl
     · rename_i hne;rw [if_neg hne] at hk;exact s.sub k hk
   · rw [dn_cons h1] at hk;unfold upd at hk ⊢
     split
     · rfl
     · rename_i hne;rw [if_neg hne] at hk;exact s.eff k hk hEk
   · rw [dn_cons h1] at hk ⊢;unfold upd at hk ⊢
     split
     · rfl
     · by_cases hki:k=i
       · subst hki
         obtain rfl:x=o':=Option.some.inj (hx.symm.trans ho)
         exact h2 x ho e he hb
       · rw [if_neg hki] at hk;exact s.dep k x hk hx e he hb
   · unfold upd at hLk
     have hki:k≠i:=fun e=>by rw [if_pos e] at hLk;cases hLk
     rw [if_neg hki] at hLk
     rw [dn_cons h1] at hk;unfold upd at hk;rw [if_neg hki] at hk
     obtain ⟨g1,x,hx,g2⟩:=s.rob k hk hLk
     show Rob P l E F _ w' k (if k=i then v else W k)
     rw [if_neg hki]
     have Ymv:∀ u,Y P l.toArray x (putAll (dn done) W l 0 a) (W k) u→Y P l.toArray x (putAll (dn (i::done)) (updV W i v) l 0 a) (W k) u:=fun u hy=>
      Y_congr (hsel x (List.mem_of_getElem? hx)) (agree hr hx (fun e he hb=>by
       have hd:=s.dep k x hk hx e he hb
       have hne:e.on≠i:=fun he=>by rw [he,h1] at hd;cases hd
       rw [dn_cons h1]
       exact ⟨(if_neg hne).symm,(if_neg hne).symm⟩)) hy
     refine ⟨g1,x,hx,?_⟩
     rcases g2 with g2 | ⟨R,g2,g3,g4⟩
     · exact .inl fun u=>Ymv u (g2 u)
     · refine .inr ⟨R,g2,?_,fun u hu=>Ymv u (g4 u hu)⟩
       rcases hF _ g2 with hh | hh
       · have:=dep_all hD 30 o' hdp hh
         rw [hLk] at this;cases this
       · exact hh
  unfold wpList at hwp
  rw [wanted_congr o' cong] at hwp
  split
  · rename_i hwt
    rw [if_pos hwt] at hwp
    rcases hwp with hwp | ⟨_,_,_,hout,_⟩
    · unfold Oper.wp at hwp ⊢
      rw [exec_congr o' hso cong] at hwp
      generalize (execOp aA.eval o').run P u=res at *
      cases res with
      | ok n w'=>
        cases n<;>simp only [Oper.upon] at hwp ⊢
        case value v=>exact nxt v w' hwp.2.2.1 hwp.2.2.2
        case skip=>exact nxt undef w' hwp.2.2.1 hwp.2.2.2
        case defer d=>
         have he:=hwp.2.1
         have hp:∀ (b:Act) (t:Option Tmp) (v:Value),(b.put t v).defers=b.defers:=fun b t v=>by cases t<;>rfl
         rw [hp] at he
         have:=congrArg List.length he
         simp at this
        case enter f args=>
         refine Calls.mono hwp fun e w'' he=>?_
         cases e with
         | returned v=>exact nxt v w'' he.2.2.1 he.2.2.2
         | panicked c=>cases he.1
         | outgrown=>obtain ⟨_,_,h,_⟩:=he;cases h
        case row row args=>exact Rows.mono hwp fun v w'' he=>nxt v w'' he.2.2.1 he.2.2.2
      | halt x w'=>
        cases x<;>simp only [Oper.upon] at hwp
        case panic v=>cases hwp.1
    · cases hout
  · rename_i hwt
    rw [if_neg hwt] at hwp
    exact nxt undef u hwp.2.2.1 hwp.2.2.2
 ·
  obtain ⟨g1,x,hx,g2⟩:=s.rob i hdi hLi
  obtain rfl:x=o:=Option.some.inj (hx.symm.trans ho)
  have hy:Y P l.toArray x (putAll (dn done) W l 0 a) (W i) u:=by
   rcases g2 with g2 | ⟨R,_,g3,g4⟩
   · exact g2 u
   · exact g4 u g3
  have hy:=Y_congr hso cong hy
  have nxt:K (aA.put x.dst (W i)) u:=hK (W i) u ⟨W,ord,done,F,⟨fun k hk=>by
   unfold upd at hk;unfold updV
   by_cases hki:k=i
   · rw [if_pos hki,hki]
   · rw [if_neg hki] at hk;rw [if_neg hki];exact s.ag k hk,s.od,fun k hk=>by
   unfold upd at hk
   by_cases hki:k=i
   · rw [hki];exact hdi
   · rw [if_neg hki] at hk;exact s.sub k hk,fun k hk hEk=>by
   unfold upd
   split
   · rfl
   · exact s.eff k hk hEk,s.dep,fun k hk hLk=>by
   unfold upd at hLk
   by_cases hki:k=i
   · rw [if_pos hki] at hLk;cases hLk
   · rw [if_neg hki] at hLk;exact s.rob k hk hLk,s.wp⟩⟩
  rcases hy with ⟨hw,hy⟩ | ⟨hw,hv⟩
  · rw [if_pos hw]
    refine wp_of_oat (C':=fun u'=>u'=u) (K:=fun a'=>a'=aA.put x.dst (W i)) (fun a' w' e1 e2=>?_) hy rfl
    rw [e1,e2];exact nxt
  · rw [if_neg (by rw [hw];decide)]
    rw [←hv];exact nxt
section
variable {ops:Array Oper} {E:List Nat} {Q:Exit→Act→World→Prop} {i:Nat} {r:List Nat} {F:Fl} {a:Act} {w:World} {o:Oper}
theorem wpC_nil (h:Q .normal a w):wpC P ops E Q [] F a w:=h
theorem wpC_pure (ho:ops.toList[i]?=some o) (hE:E.contains i=false)
 (h:∀ K:Act→Prop,(∀ a,wpC P ops E Q r F a w→K a)→if Region.wanted o (yielded ops a.tmps) then ∃ v,(∀ u,oat P o a (fun x=>x=u) u v)∧K (a.put o.dst v) else K (a.put o.dst undef)):wpC P ops E Q (i::r) F a w:=by
 have:=h _ (fun _ h=>h)
 refine ⟨o,by rw [←Array.getElem?_toList];exact ho,?_⟩
 rw [hE,if_neg (by decide)]
 split at this
 · rename_i hw
   obtain ⟨v,h1,h2⟩:=this
   exact ⟨v,.inl ⟨fun u=>.inl ⟨hw,h1 u⟩,h2⟩⟩
 · rename_i hw
   exact ⟨undef,.inl ⟨fun u=>.inr ⟨by simpa using hw,rfl⟩,this⟩⟩
theorem wpC_rest (R:World→Prop) (v:Value) (ho:ops.toList[i]?=some o) (hE:E.contains i=false) (hw:Region.wanted o (yielded ops a.tmps)=true) (hR:R w) (hy:∀ u,R u→oat P o a (fun x=>x=u) u v)
 (h:wpC P ops E Q r ((i,R)::F) (a.put o.dst v) w):wpC P ops E Q (i::r) F a w:=by
 refine ⟨o,by rw [←Array.getElem?_toList];exact ho,?_⟩
 rw [hE,if_neg (by decide)]
 exact ⟨v,.inr ⟨R,hR,fun u hu=>.inl ⟨hw,hy u hu⟩,h⟩⟩
theorem wpC_load {ty:TypeId} {x:Operand} {p:Addr} {v:Value} (ho:ops.toList[i]?=some o) (hE:E.contains i=false) (hop:o.op=.load ty x) (hw:Region.wanted o (yielded ops a.tmps)=true) (hx:a.eval x=.pointer (some p)) (hc:w.cell? p=some v)
 (hl:∀ u:World,u.cell? p=some v→(Instr.loadAt ty (.pointer (some p))).run P u=.ok v u)
 (h:∀ K:Act→Prop,(∀ a,wpC P ops E Q r ((i,fun u=>u.cell? p=some v)::F) a w→K a)→K (a.put o.dst v)):wpC P ops E Q (i::r) F a w:=by
 refine wpC_rest (fun u=>u.cell? p=some v) v ho hE hw hc (fun u hu=>?_) (h _ fun _ h=>h)
 unfold oat execOp
 simp only [hop,hx,Sem.run_bind,Sem.run_pure,Result.andThen_ok,hl u hu]
 exact ⟨rfl,rfl⟩
def effQ (P:Program) (ops:Array Oper) (E:List Nat) (Q:Exit→Act→World→Prop) (r:List Nat) (F:Fl) (o:Oper) (a:Act) (e:Exit) (a':Act) (w':World):Prop:=
 e=.normal∧a'.defers=a.defers∧(∀ x∈F,dep .any ops x.1 30 o=true∨x.2 w')∧wpC P ops E Q r F a' w'
theorem eff_ok {a':Act} {w':World} (hd:a'.defers=a.defers) (hF:∀ x∈F,dep .any ops x.1 30 o=true∨x.2 w') (h:wpC P ops E Q r F a' w'):effQ P ops E Q r F o a .normal a' w':=⟨rfl,hd,hF,h⟩
theorem wpC_eff (ho:ops.toList[i]?=some o) (hE:E.contains i=true)
 (h:wpList P ops (effQ P ops E Q r F o a) [o] a w):wpC P ops E Q (i::r) F a w:=by
 refine ⟨o,by rw [←Array.getElem?_toList];exact ho,?_⟩
 rw [hE,if_pos rfl];exact h
theorem obl_nil {w':World}:∀ x∈([]:Fl),dep .any ops x.1 30 o=true∨x.2 w':=fun x hx=>by cases hx
theorem obl_dep {w':World} {j:Nat} {R:World→Prop} (h:dep .any ops j 30 o=true) (hF:∀ x∈F,dep .any ops x.1 30 o=true∨x.2 w'):∀ x∈((j,R)::F:Fl),dep .any ops x.1 30 o=true∨x.2 w':=fun x hx=>by
 rcases List.mem_cons.1 hx with e | e
 · subst e;exact .inl h
 · exact hF x e
theorem obl_is {w':World} {j:Nat} {R:World→Prop} (h:R w') (hF:∀ x∈F,dep .any ops x.1 30 o=true∨x.2 w'):∀ x∈((j,R)::F:Fl),dep .any ops x.1 30 o=true∨x.2 w':=fun x hx=>by
 rcases List.mem_cons.1 hx with e | e
 · subst e;exact .inr h
 · exact hF x e
end
structure Dr (w u:World):Prop where
 heap:u.heap=w.heap
 os:u.os=w.os
 tape:u.tape=w.tape
 output:u.output=w.output
section
variable {w u v:World}
theorem Dr.refl (w:World):Dr w w:=⟨rfl,rfl,rfl,rfl⟩
theorem Dr.drew (w:World):Dr w w.drew:=⟨rfl,rfl,rfl,rfl⟩
theorem Dr.trans (h:Dr w u) (h':Dr u v):Dr w v:=⟨h'.heap.trans h.heap,h'.os.trans h.os,h'.tape.trans h.tape,h'.output.trans h.output⟩
theorem Dr.cell (h:Dr w u) (p:Addr):u.cell? p=w.cell? p:=by unfold World.cell?;rw [h.heap]
theorem Dr.frozen (h:Dr w u) (p:Addr):u.frozen? p=w.frozen? p:=by unfold World.frozen?;rw [h.heap]
theorem Dr.row (h:Dr w u) {g:Nat} {t:TypeId} {cs:Array Value} (hr:M.RowAt w g t cs):M.RowAt u g t cs:=by unfold M.RowAt at *;rw [h.heap];exact hr
theorem Dr.below {n:Nat} (h:Dr w u):Below n w u:=⟨h.os,h.tape,h.output,by rw [h.heap];exact Nat.le_refl _,fun k _=>by rw [h.heap]⟩
theorem Dr.size (h:Dr w u):u.heap.size=w.heap.size:=by rw [h.heap]
end
theorem wp_region_d {id:Nat} {Q:Exit→Act→World→Prop} {a:Act} {w:World} {l:List Oper} (E ord:List Nat) (hm:P.follows .mixedOrders=true) (hB:okC l E ord=true)
 (h:∀ u,Dr w u→wpC P l.toArray E Q ord [] a u):(Code.region id l.toArray true).wp P Q a w:=wp_region_c E ord hm hB (h _ (Dr.drew w))
end QC
end Go.Proofs.YtdebnbgjgkbmaaaGreatDoor
namespace Go.Proofs.YtdebnbgjgkbmaaaGreatDoor
open Go.RowKit
set_option linter.unusedVariables false
namespace Ga
def peerN (c s:Nat):Nat:=if s=0∧0<c then 1 else 0
set_option maxRecDepth 100000 in
theorem peer_any (c s:Nat) (hs:s=0∨s=1) (w:World):Calls Tryz.prog 263 #[.int .i64 (c:Int),.int .i64 (s:Int)] w fun e w'=>e=.returned (.int .i64 (peerN c s:Nat))∧w'=w:=by
 unfold peerN
 rcases hs with rfl | rfl
 · rcases Nat.eq_zero_or_pos c with rfl | hc
   · go_enter Tryz.func263,Tryz.ntmps263
     go_wp2
     go_ret
     exact ⟨rfl,rfl⟩
   · have hd:decide ((0:Int)<(c:Int))=true:=by simp;omega
     have hc2:(0:Int)<(c:Int):=by omega
     rw [if_pos ⟨rfl,hc⟩]
     go_enter Tryz.func263,Tryz.ntmps263
     go_wp2
     go_ret
     exact ⟨rfl,rfl⟩
 · go_enter Tryz.func263,Tryz.ntmps263
   go_wp2
   go_ret
   exact ⟨rfl,rfl⟩
set_option maxRecDepth 100000 in
theorem link93 (rb r0 pb p0 pn pc p lb lo:Nat) (w:World) (h1:w.cell? ⟨rb,r0+1,none⟩=some (.slice (some ⟨pb,p0,none⟩) pn pc)) (hp:p<pn) (h2:w.cell? ⟨pb,p0+p*2+1,none⟩=some (.pointer (some ⟨lb,lo,none⟩))) :
 Calls Tryz.prog 93 #[.pointer (some ⟨rb,r0,none⟩),.int .i64 (p:Int)] w fun e w'=>e=.returned (.pointer (some ⟨lb,lo,none⟩))∧w'=w:=by
 have hd1:decide ((p:Int)<0)=false:=by simp
 have hd2:decide ((pn:Int)≤(p:Int))=false:=by simp;omega
 have hd3:¬ ((pn:Int)≤(p:Int)):=by omega
 have hd4:¬ (pn≤p):=by omega
 go_enter Tryz.func93,Tryz.ntmps93
 go_wp2
 go_ret
 exact ⟨rfl,rfl⟩
theorem set_id {w:World} {b i:Nat} {v:Value} (h:w.cell? ⟨b,i,none⟩=some v):w.setCell ⟨b,i,none⟩ v=w:=by
 have h':=h
 unfold World.cell? at h'
 have e:w.heap.modify b (fun | .cells c elem frozen=>.cells (if (none:Option Nat).isSome then c else c.setIfInBounds i v) elem frozen | o=>o)=w.heap:=by
  apply Array.ext_getElem?
  intro k
  rw [Array.getElem?_modify]
  by_cases hk:b=k
  · subst hk
    rw [if_pos rfl]
    cases hb:w.heap[b]? with
    | none=>rfl
    | some o=>
      simp only [hb] at h'
      cases o with
      | cells c t fr=>
        have h':c[i]?=some v:=h'
        have hc:c.setIfInBounds i v=c:=by
         apply Array.ext_getElem?
         intro j
         rw [Array.getElem?_setIfInBounds]
         by_cases hj:i=j
         · subst hj
           rw [if_pos rfl,h']
           have:=(Array.getElem?_eq_some_iff.1 h').1
           rw [if_pos this]
         · rw [if_neg hj]
        show some (Obj.cells (c.setIfInBounds i v) t fr)=_
        rw [hc]
      | _=>cases h'
  · rw [if_neg hk]
 exact congrArg (fun h=>({ w with heap:=h }:World)) e
set_option maxRecDepth 100000 in
theorem out62 (lb lo:Nat) (w:World) (h1:w.cell? ⟨lb,lo+6,none⟩=some (.bool false)) (h2:w.cell? ⟨lb,lo+3,none⟩=some (.string ⟨#[]⟩)) (h3:w.frozen? ⟨lb,lo+3,none⟩=false) :
 Calls Tryz.prog 62 #[.pointer (some ⟨lb,lo,none⟩)] w fun e w'=>e=.returned (.string ⟨#[]⟩)∧w'=w:=by
 have HI:=Lib.hid (set_id h2)
 go_enter Tryz.func62,Tryz.ntmps62
 go_wp2
 go_ret
 exact ⟨rfl,HI.out⟩
structure LkAt (w:World) (nb no i p lb lo:Nat):Prop where
 ex:∃ db d0 rb r0 pb p0 pn pc,w.cell? ⟨nb,no+i,none⟩=some (.pointer (some ⟨db,d0,none⟩))∧w.cell? ⟨db,d0,none⟩=some (.pointer (some ⟨rb,r0,none⟩))∧w.cell? ⟨rb,r0+1,none⟩=some (.slice (some ⟨pb,p0,none⟩) pn pc)∧p<pn∧w.cell? ⟨pb,p0+p*2+1,none⟩=some (.pointer (some ⟨lb,lo,none⟩))
set_option maxHeartbeats 1000000 in
set_option maxRecDepth 100000 in
theorem link185 (wb wo nb no K kc c s lb lo:Nat) (hs:s=0∨s=1) (hc:c<1000) (w:World) (h1:w.cell? ⟨wb,wo,none⟩=some (.slice (some ⟨nb,no,none⟩) K kc)) (hi:c+s<K) (hl:LkAt w nb no (c+s) (peerN c s) lb lo) :
 Calls Tryz.prog 185 #[.pointer (some ⟨wb,wo,none⟩),.int .i64 (c:Int),.int .i64 (s:Int)] w fun e w'=>e=.returned (.pointer (some ⟨lb,lo,none⟩))∧Below w.heap.size w w':=by
 obtain ⟨db,d0,rb,r0,pb,p0,pn,pc,g1,g2,g3,hp,g4⟩:=hl.ex
 have PE:=Lib.hid (peer_any c s hs)
 have b0:=Lib.hid (World.block_lt_of_cell? _ _ g3)
 obtain ⟨i,hci⟩:∃ i,c+s=i:=⟨_,rfl⟩
 rw [hci] at g1 hi
 have hw:IntKind.i64.wrap ((c:Int)+(s:Int))=(i:Int):=by rw [IntKind.wrap_i64];omega
 have hw2:(c:Int)+(s:Int)=(i:Int):=by omega
 have hw3:IntKind.i64.wrap (i:Int)=(i:Int):=by rw [IntKind.wrap_i64];omega
 clear hci
 have HI:=Lib.hid hi
 have hp2:peerN c s<pn:=hp
 generalize peerN c s=p at *
 have HP:=Lib.hid hp2
 go_enter Tryz.func185,Tryz.ntmps185
 go_wp2
 refine QC.wp_region_d [14,15] [0,1,2,3,4,5,6,7,8,9,10,11,12,13,14,15,16] (by kernel_rfl) (by kernel_rfl) (fun u d=>?_)
 have k1:=(d.cell _).trans h1
 have k2:=(d.cell _).trans g1
 have k3:=(d.cell _).trans g2
 have L93:=Lib.hid (link93 rb r0 pb p0 pn pc p lb lo u ((d.cell _).trans g3) hp ((d.cell _).trans g4))
 have BD:=Lib.hid (d.below (n:=w.heap.size))
 have hiK:i<K:=HI.out
 clear h1 g1 g2 g3 g4 hl d hi
 iterate 14
  (first
   | (apply QC.wpC_load
      (focus rfl)
      (focus decide)
      (focus rfl)
      (focus rfl)
      (focus rfl)
      (focus (assumption))
      (focus (intro u hu;go_simp))
      intro K hK
      go_simp
      refine hK _ ?_
      clear hK K)
   | (apply QC.wpC_pure
      (focus rfl)
      (focus decide)
      intro K hK
      go_simp
      first
       | (refine hK _ ?_;clear hK K)
       | (apply Exists.intro
          refine ⟨fun u=>?_,hK _ ?_⟩
          (focus (unfold QP.oat;go_simp;first | done | exact ⟨rfl,rfl⟩ | exact rfl))
          clear hK K)))
 apply QC.wpC_eff
 (focus rfl)
 (focus decide)
 go_wp2_with fail
 refine (PE.out u).mono ?_
 rintro e u1 ⟨rfl,rfl⟩
 go_wp2
 refine QC.eff_ok rfl ?_ ?_
 · (repeat (first | exact QC.obl_nil | (apply QC.obl_dep;(focus decide)) | refine QC.obl_is (by first | exact k1 | exact k2 | exact k3) ?_))
 apply QC.wpC_eff
 (focus rfl)
 (focus decide)
 go_wp2_with fail
 refine (L93.out).mono ?_
 rintro e u2 ⟨rfl,rfl⟩
 go_wp2
 refine QC.eff_ok rfl ?_ ?_
 · (repeat (first | exact QC.obl_nil | (apply QC.obl_dep;(focus decide)) | refine QC.obl_is (by first | exact k1 | exact k2 | exact k3) ?_))
 iterate 1
  (first
   | (apply QC.wpC_load
      (focus rfl)
      (focus decide)
      (focus rfl)
      (focus rfl)
      (focus rfl)
      (focus (assumption))
      (focus (intro u hu;go_simp))
      intro K hK
      go_simp
      refine hK _ ?_
      clear hK K)
   | (apply QC.wpC_pure
      (focus rfl)
      (focus decide)
      intro K hK
      go_simp
      first
       | (refine hK _ ?_;clear hK K)
       | (apply Exists.intro
          refine ⟨fun u=>?_,hK _ ?_⟩
          (focus (unfold QP.oat;go_simp;first | done | exact ⟨rfl,rfl⟩ | exact rfl))
          clear hK K)))
 refine QC.wpC_nil ?_
 go_wp2
 go_ret
 exact ⟨rfl,BD.out⟩
theorem LkAt.below {w v:World} {nb no i p lb lo:Nat} (h:LkAt w nb no i p lb lo) (hb:Below w.heap.size w v):LkAt v nb no i p lb lo:=by
 obtain ⟨db,d0,rb,r0,pb,p0,pn,pc,g1,g2,g3,hp,g4⟩:=h.ex
 exact ⟨db,d0,rb,r0,pb,p0,pn,pc,(hb.cell (World.block_lt_of_cell? _ _ g1)).trans g1,(hb.cell (World.block_lt_of_cell? _ _ g2)).trans g2,(hb.cell (World.block_lt_of_cell? _ _ g3)).trans g3,hp,(hb.cell (World.block_lt_of_cell? _ _ g4)).trans g4⟩
structure Quiet (w:World) (nb no gb go M:Nat):Prop where
 lk:∀ c s,c<M→s<2→∃ lb lo,LkAt w nb no (c+s) (peerN c s) lb lo∧w.cell? ⟨lb,lo+6,none⟩=some (.bool false)∧w.cell? ⟨lb,lo+3,none⟩=some (.string ⟨#[]⟩)∧w.frozen? ⟨lb,lo+3,none⟩=false
 way:∀ c s,c<M→s<2→∃ str:ByteArray,w.cell? ⟨gb,go+c*2+s,none⟩=some (.string str)∧str.size≤1000000∧w.frozen? ⟨gb,go+c*2+s,none⟩=false
set_option maxHeartbeats 2000000 in
set_option maxRecDepth 100000 in
theorem gather_any (wb wo nb no K kc gb go M mc:Nat) (w:World) (h1:w.cell? ⟨wb,wo,none⟩=some (.slice (some ⟨nb,no,none⟩) K kc)) (h2:w.cell? ⟨wb,wo+1,none⟩=some (.slice (some ⟨gb,go,none⟩) M mc)) (hM:M≤900) (hK:M<K) (q:Quiet w nb no gb go M) :
 Calls Tryz.prog 88 #[.pointer (some ⟨wb,wo,none⟩)] w fun e w'=>e=.returned (.tuple #[])∧Below w.heap.size w w':=by
 obtain ⟨m,hm⟩:∃ m,w.heap.size=m:=⟨_,rfl⟩
 have Q:=Lib.hid q;have N1:=Lib.hid h1;have W1:=Lib.hid h2;have MM:=Lib.hid hM;have NK:=Lib.hid hK;have HM:=Lib.hid hm
 have B0:=Lib.hid (Below.refl w.heap.size w)
 clear q h1 hM hK hm
 go_enter Tryz.func88,Tryz.ntmps88
 go_wp2
 clear h2
 go_loopg [9] M (fun gk c u=>∃ j:Nat,gk+j=M∧c=.int .i64 j∧Below w.heap.size w u)
 case atStart=>exact ⟨0,by omega,rfl,B0.out⟩
 case round=>
  obtain ⟨j,hg,rfl,bj⟩:=hrel
  have BJ:=Lib.hid bj
  clear bj
  by_cases hlt:j<M
  · have HREL:=Lib.hid (show M-(j+1)+(j+1)=M by omega)
    have HMEA:=Lib.hid (show M-(j+1)<gk by omega)
    have hj1:IntKind.i64.wrap ((j:Int)+1)=((j+1:Nat):Int):=by have:=MM.out;rw [IntKind.wrap_i64];omega
    clear hg
    go_wp2
    go_loopg [12] 2 (fun gi s u=>∃ i:Nat,gi+i=2∧s=.int .i64 i∧Below w.heap.size w u)
    case atStart=>exact ⟨0,by omega,rfl,BJ.out⟩
    case round=>
     obtain ⟨i,hg,rfl,bx⟩:=hrel
     have BX:=Lib.hid bx
     clear bx
     generalize hwr:wr=wr2 at *
     clear hwr
     by_cases hi2:i<2
     · have hii:i=0∨i=1:=by omega
       rcases hii with rfl | rfl
       · obtain ⟨lb,lo,hlk,hd,ho,hf⟩:=Q.out.lk j 0 hlt (by decide)
         obtain ⟨str,hs,hsz,hsf⟩:=Q.out.way j 1 hlt (by decide)
         have bx:=BX.out
         have k1:wr2.cell? ⟨wb,wo+1,none⟩=some (.slice (some ⟨gb,go,none⟩) M mc):=(bx.cell (World.block_lt_of_cell? _ _ W1.out)).trans W1.out
         have k2:wr2.cell? ⟨gb,go+j*2+1,none⟩=some (.string str):=(bx.cell (World.block_lt_of_cell? _ _ hs)).trans hs
         have k3:wr2.frozen? ⟨gb,go+j*2+1,none⟩=false:=(bx.frozen (World.block_lt_of_cell? _ _ hs)).trans hsf
         have L185:Hid (∀ v,Below wr2.heap.size wr2 v→Calls Tryz.prog 185 #[.pointer (some ⟨wb,wo,none⟩),.int .i64 (j:Int),.int .i64 0] v fun e w'=>e=.returned (.pointer (some ⟨lb,lo,none⟩))∧Below v.heap.size v w'):=Lib.hid (fun v hb=>by
          have b2:=BX.out.trans (hb.mono BX.out.size)
          exact link185 wb wo nb no K kc j 0 lb lo (by decide) (by have:=MM.out;omega) v ((b2.cell (World.block_lt_of_cell? _ _ N1.out)).trans N1.out) (by have:=NK.out;omega) (hlk.below b2))
         have L62:Hid (∀ v,Below wr2.heap.size wr2 v→Calls Tryz.prog 62 #[.pointer (some ⟨lb,lo,none⟩)] v fun e w'=>e=.returned (.string ⟨#[]⟩)∧w'=v):=Lib.hid (fun v hb=>by
          have b2:=BX.out.trans (hb.mono BX.out.size)
          exact out62 lb lo v ((b2.cell (World.block_lt_of_cell? _ _ hd)).trans hd) ((b2.cell (World.block_lt_of_cell? _ _ ho)).trans ho) ((b2.frozen (World.block_lt_of_cell? _ _ ho)).trans hf))
         have hcat:str++(⟨#[]⟩:ByteArray)=str:=by apply ByteArray.ext;simp
         have hsz2:str.size≤9223372036854775807:=by omega
         have hsz3:¬ (9223372036854775807<str.size):=by omega
         have B2:Hid (wr2.heap.size≤wr2.heap.size∧gb<wr2.heap.size∧wb<wr2.heap.size):=Lib.hid ⟨Nat.le_refl _,World.block_lt_of_cell? _ _ k2,World.block_lt_of_cell? _ _ k1⟩
         clear hlk hd ho hf hs hsf bx hsz
         go_wp2
         refine QC.wp_region_d [13,14,18] [0,1,2,3,4,5,6,7,8,9,10,11,12,16,13,14,15,17,18] (by kernel_rfl) (by kernel_rfl) (fun u d=>?_)
         have q1:=(d.cell _).trans k1
         have q2:=(d.cell _).trans k2
         have q3:=(d.frozen _).trans k3
         have BU:=Lib.hid (d.below (n:=wr2.heap.size))
         clear d k1 k2 k3
         iterate 14
          (first
           | (apply QC.wpC_load
              (focus rfl)
              (focus decide)
              (focus rfl)
              (focus rfl)
              (focus rfl)
              (focus (assumption))
              (focus (intro u hu;go_simp))
              intro K hK
              go_simp
              refine hK _ ?_
              clear hK K)
           | (apply QC.wpC_pure
              (focus rfl)
              (focus decide)
              intro K hK
              go_simp
              first
               | (refine hK _ ?_;clear hK K)
               | (apply Exists.intro
                  refine ⟨fun u=>?_,hK _ ?_⟩
                  (focus (unfold QP.oat;go_simp;first | done | exact ⟨rfl,rfl⟩ | exact rfl))
                  clear hK K)))
         apply QC.wpC_eff
         (focus rfl)
         (focus decide)
         go_wp2_with fail
         refine (L185.out u BU.out).mono ?_
         rintro e u1 ⟨rfl,hb⟩
         have BU1:=Lib.hid (BU.out.trans (hb.mono BU.out.size))
         have p1:=(hb.cell (World.block_lt_of_cell? _ _ q1)).trans q1
         have p2:=(hb.cell (World.block_lt_of_cell? _ _ q2)).trans q2
         have p3:=(hb.frozen (World.block_lt_of_cell? _ _ q2)).trans q3
         clear hb
         go_wp2
         refine QC.eff_ok rfl ?_ ?_
         · (repeat (first | exact QC.obl_nil | (apply QC.obl_dep;(focus decide)) | refine QC.obl_is (by first | exact p1 | exact p2) ?_))
         clear q1 q2 q3
         apply QC.wpC_eff
         (focus rfl)
         (focus decide)
         go_wp2_with fail
         refine (L62.out u1 BU1.out).mono ?_
         rintro e u2 ⟨rfl,rfl⟩
         go_wp2
         refine QC.eff_ok rfl ?_ ?_
         · (repeat (first | exact QC.obl_nil | (apply QC.obl_dep;(focus decide)) | refine QC.obl_is (by first | exact p1 | exact p2) ?_))
         iterate 2
          (first
           | (apply QC.wpC_load
              (focus rfl)
              (focus decide)
              (focus rfl)
              (focus rfl)
              (focus rfl)
              (focus (assumption))
              (focus (intro u hu;go_simp))
              intro K hK
              go_simp
              refine hK _ ?_
              clear hK K)
           | (apply QC.wpC_pure
              (focus rfl)
              (focus decide)
              intro K hK
              go_simp
              first
               | (refine hK _ ?_;clear hK K)
               | (apply Exists.intro
                  refine ⟨fun u=>?_,hK _ ?_⟩
                  (focus (unfold QP.oat;go_simp;first | done | exact ⟨rfl,rfl⟩ | exact rfl))
                  clear hK K)))
         have hid:=set_id p2
         have hwa:(IntKind.i64.wrap 1).toNat=1:=rfl
         have hwb:(IntKind.i64.wrap 0).toNat=0:=rfl
         apply QC.wpC_eff
         (focus rfl)
         (focus decide)
         go_wp2_with fail
         refine QC.eff_ok rfl ?_ ?_
         · (repeat (first | exact QC.obl_nil | (apply QC.obl_dep;(focus decide)) | refine QC.obl_is (by first | exact p1 | exact p2) ?_))
         refine QC.wpC_nil ?_
         clear hid p1 p2 p3
         have HD:=Lib.hid (show 2-(0+1)<gk by omega)
         have BF:=Lib.hid (BX.out.trans (BU1.out.mono BX.out.size))
         clear hg
         go_wp2
         go_roundg (2-(0+1))
         case rel=>exact ⟨0+1,rfl,by first | rfl | go_num,BF.out⟩
         case measure=>exact HD.out
       · obtain ⟨lb,lo,hlk,hd,ho,hf⟩:=Q.out.lk j 1 hlt (by decide)
         obtain ⟨str,hs,hsz,hsf⟩:=Q.out.way j 0 hlt (by decide)
         rw [Nat.add_zero] at hs hsf
         have bx:=BX.out
         have k1:wr2.cell? ⟨wb,wo+1,none⟩=some (.slice (some ⟨gb,go,none⟩) M mc):=(bx.cell (World.block_lt_of_cell? _ _ W1.out)).trans W1.out
         have k2:wr2.cell? ⟨gb,go+j*2,none⟩=some (.string str):=(bx.cell (World.block_lt_of_cell? _ _ hs)).trans hs
         have k3:wr2.frozen? ⟨gb,go+j*2,none⟩=false:=(bx.frozen (World.block_lt_of_cell? _ _ hs)).trans hsf
         have L185:Hid (∀ v,Below wr2.heap.size wr2 v→Calls Tryz.prog 185 #[.pointer (some ⟨wb,wo,none⟩),.int .i64 (j:Int),.int .i64 1] v fun e w'=>e=.returned (.pointer (some ⟨lb,lo,none⟩))∧Below v.heap.size v w'):=Lib.hid (fun v hb=>by
          have b2:=BX.out.trans (hb.mono BX.out.size)
          exact link185 wb wo nb no K kc j 1 lb lo (by decide) (by have:=MM.out;omega) v ((b2.cell (World.block_lt_of_cell? _ _ N1.out)).trans N1.out) (by have:=NK.out;omega) (hlk.below b2))
         have L62:Hid (∀ v,Below wr2.heap.size wr2 v→Calls Tryz.prog 62 #[.pointer (some ⟨lb,lo,none⟩)] v fun e w'=>e=.returned (.string ⟨#[]⟩)∧w'=v):=Lib.hid (fun v hb=>by
          have b2:=BX.out.trans (hb.mono BX.out.size)
          exact out62 lb lo v ((b2.cell (World.block_lt_of_cell? _ _ hd)).trans hd) ((b2.cell (World.block_lt_of_cell? _ _ ho)).trans ho) ((b2.frozen (World.block_lt_of_cell? _ _ ho)).trans hf))
         have hcat:str++(⟨#[]⟩:ByteArray)=str:=by apply ByteArray.ext;simp
         have hsz2:str.size≤9223372036854775807:=by omega
         have hsz3:¬ (9223372036854775807<str.size):=by omega
         have B2:Hid (wr2.heap.size≤wr2.heap.size∧gb<wr2.heap.size∧wb<wr2.heap.size):=Lib.hid ⟨Nat.le_refl _,World.block_lt_of_cell? _ _ k2,World.block_lt_of_cell? _ _ k1⟩
         clear hlk hd ho hf hs hsf bx hsz
         go_wp2
         refine QC.wp_region_d [13,14,18] [0,1,2,3,4,5,6,7,8,9,10,11,12,16,13,14,15,17,18] (by kernel_rfl) (by kernel_rfl) (fun u d=>?_)
         have q1:=(d.cell _).trans k1
         have q2:=(d.cell _).trans k2
         have q3:=(d.frozen _).trans k3
         have BU:=Lib.hid (d.below (n:=wr2.heap.size))
         clear d k1 k2 k3
         iterate 14
          (first
           | (apply QC.wpC_load
              (focus rfl)
              (focus decide)
              (focus rfl)
              (focus rfl)
              (focus rfl)
              (focus (assumption))
              (focus (intro u hu;go_simp))
              intro K hK
              go_simp
              refine hK _ ?_
              clear hK K)
           | (apply QC.wpC_pure
              (focus rfl)
              (focus decide)
              intro K hK
              go_simp
              first
               | (refine hK _ ?_;clear hK K)
               | (apply Exists.intro
                  refine ⟨fun u=>?_,hK _ ?_⟩
                  (focus (unfold QP.oat;go_simp;first | done | exact ⟨rfl,rfl⟩ | exact rfl))
                  clear hK K)))
         apply QC.wpC_eff
         (focus rfl)
         (focus decide)
         go_wp2_with fail
         refine (L185.out u BU.out).mono ?_
         rintro e u1 ⟨rfl,hb⟩
         have BU1:=Lib.hid (BU.out.trans (hb.mono BU.out.size))
         have p1:=(hb.cell (World.block_lt_of_cell? _ _ q1)).trans q1
         have p2:=(hb.cell (World.block_lt_of_cell? _ _ q2)).trans q2
         have p3:=(hb.frozen (World.block_lt_of_cell? _ _ q2)).trans q3
         clear hb
         go_wp2
         refine QC.eff_ok rfl ?_ ?_
         · (repeat (first | exact QC.obl_nil | (apply QC.obl_dep;(focus decide)) | refine QC.obl_is (by first | exact p1 | exact p2) ?_))
         clear q1 q2 q3
         apply QC.wpC_eff
         (focus rfl)
         (focus decide)
         go_wp2_with fail
         refine (L62.out u1 BU1.out).mono ?_
         rintro e u2 ⟨rfl,rfl⟩
         go_wp2
         refine QC.eff_ok rfl ?_ ?_
         · (repeat (first | exact QC.obl_nil | (apply QC.obl_dep;(focus decide)) | refine QC.obl_is (by first | exact p1 | exact p2) ?_))
         iterate 2
          (first
           | (apply QC.wpC_load
              (focus rfl)
              (focus decide)
              (focus rfl)
              (focus rfl)
              (focus rfl)
              (focus (assumption))
              (focus (intro u hu;go_simp))
              intro K hK
              go_simp
              refine hK _ ?_
              clear hK K)
           | (apply QC.wpC_pure
              (focus rfl)
              (focus decide)
              intro K hK
              go_simp
              first
               | (refine hK _ ?_;clear hK K)
               | (apply Exists.intro
                  refine ⟨fun u=>?_,hK _ ?_⟩
                  (focus (unfold QP.oat;go_simp;first | done | exact ⟨rfl,rfl⟩ | exact rfl))
                  clear hK K)))
         have hid:=set_id p2
         have hwa:(IntKind.i64.wrap 1).toNat=1:=rfl
         have hwb:(IntKind.i64.wrap 0).toNat=0:=rfl
         apply QC.wpC_eff
         (focus rfl)
         (focus decide)
         go_wp2_with fail
         refine QC.eff_ok rfl ?_ ?_
         · (repeat (first | exact QC.obl_nil | (apply QC.obl_dep;(focus decide)) | refine QC.obl_is (by first | exact p1 | exact p2) ?_))
         refine QC.wpC_nil ?_
         clear hid p1 p2 p3
         have HD:=Lib.hid (show 2-(1+1)<gk by omega)
         have BF:=Lib.hid (BX.out.trans (BU1.out.mono BX.out.size))
         clear hg
         go_wp2
         go_roundg (2-(1+1))
         case rel=>exact ⟨1+1,rfl,by first | rfl | go_num,BF.out⟩
         case measure=>exact HD.out
     · have hj:i=2:=by omega
       subst hj
       clear hg hi2
       go_wp2
       go_roundg (M-(j+1))
       case rel=>exact ⟨j+1,HREL.out,rfl,BX.out⟩
       case measure=>exact HMEA.out
  · have hj:j=M:=by omega
    subst hj
    clear hg hlt
    go_wp2
    go_end0
    exact ⟨rfl,BJ.out⟩
end Ga
end Go.Proofs.YtdebnbgjgkbmaaaGreatDoor
