import Derived.ArgAppend
import Derived.Below
import Derived.BigQuiet
import Derived.Calls
import Derived.ChangeKeysEq
import Derived.ChangeOld
import Derived.Deep.AppendLies
import Derived.Deep.AppendSrc
import Derived.Deep.DeepHandedRow
import Derived.Deep.LoopGhost
import Derived.Deep.MidRow
import Derived.Deep.Onto
import Derived.Deep.QuietTactic
import Derived.Deep.RegionHeld3
import Derived.Deep.RegionWith
import Derived.Deep.WholeRow
import Derived.DeepKeys
import Derived.DeepKeys3
import Derived.DeepKeys4
import Derived.Defers
import Derived.KernelRfl
import Derived.Laws.AppendOwn
import Derived.Laws.Bits64b
import Derived.Laws.BitsAllLaws
import Derived.Laws.BytesArg
import Derived.Laws.BytesString
import Derived.Laws.EntriesVeiled
import Derived.Laws.MakeOwn
import Derived.Laws.OwnMore
import Derived.Laws.Rows
import Derived.Laws.Tables
import Derived.Lib.BufferWrite
import Derived.Lib.Builder
import Derived.Lib.ConvBytes
import Derived.Lib.FrozenHead2
import Derived.Lib.Hide
import Derived.Lib.LaidTab
import Derived.Lib.SlFresh
import Derived.Lib.Strings
import Derived.Lib.TrailingZeros
import Derived.Lib.UnsafeStr
import Derived.LoopIn
import Derived.LoopNIn
import Derived.Maps.Keyed
import Derived.OpenShut
import Derived.Orders
import Derived.Outline
import Derived.OwnWalk
import Derived.OwnWalkIn
import Derived.ProofKit
import Derived.RangeFuncBound
import Derived.RangeFuncCalls
import Derived.RangeFuncFrom
import Derived.RangeFuncLeaves
import Derived.RangeFuncNested
import Derived.Recover
import Derived.Shelf.Abstract
import Derived.Shelf.RegionOpen
import Derived.Shelf.RegionOpenPlain
import Derived.Shelf.Spec.SlicesInsert
import Derived.Shelf.Strings.OnBuilder
import Derived.ShutString
import Derived.StillTailTactics
import Derived.TacticsInMore
import Derived.Test.YtdebnbgjgkbmaaaGreatDoorProg
import Derived.Test.YtdebnbgjgkbmaaaGreatDoorRows
import Derived.WalkKit
import Derived.WalkLawsBesides
import Derived.WalkSpells
import Derived.Test.YtdebnbgjgkbmaaaGreatDoorKTs2
namespace Go.Proofs.YtdebnbgjgkbmaaaGreatDoor
namespace SX
open Go Go.RowKit
set_option linter.unusedVariables false
set_option maxRecDepth 1000000
theorem wrap_m {m:Nat} (hm:m<256):IntKind.i64.wrap ((m:Nat):Int)=(m:Int):=by rw [IntKind.wrap_i64];omega
theorem tm_m {m j:Nat} (hm:m<256):Int.tmod (IntKind.i64.wrap ((m:Nat):Int)) ((j:Nat):Int)=((m%j:Nat):Int):=by
 rw [wrap_m hm]
 rfl
theorem cZ_eq {i m:Nat} (hm:m<256):cZ i m=.bool (decide (i<m%10)):=by
 have h:=tm_m (j:=10) hm
 have e:cZ i m=.bool (decide ((i:Int)<Int.tmod (IntKind.i64.wrap ((m:Nat):Int)) ((10:Nat):Int))):=rfl
 rw [e,h]
 congr 1
 simp
 omega
theorem cV_eq {j k:Nat} (hk:k<256):cV j k=qI (k%j):=by
 have e:cV j k=.int .i64 (Int.tmod (IntKind.i64.wrap ((k:Nat):Int)) ((j:Nat):Int)):=rfl
 rw [e,tm_m hk];rfl
noncomputable abbrev G13:Hp:=C1.E.gl
noncomputable abbrev PO (w0:World):Exit→Act→World→Prop:=bodyPost C1.E.P Tryz.f13 (fun e w'=>e=.returned (.bool true)∧Below w0.heap.size w0 w')
theorem res13:Tryz.f13.results.toList.all resOk=true:=by kernel_rfl
theorem res13_eq:Tryz.f13.results.toList=[.tmp 4]:=by kernel_rfl
theorem ends13 {c:Code} {ρ:Rho} {tm:Sl} {h:Hp} {nx:Nat} {w0 w:World} {a:Act} (hc:codeOk C1.E 143 c=true) (e:okRet 4 (cF c tm h nx)=true) (R:TmR sig0 ρ 143 tm a) (s:Sim sig0 G13 ρ h nx w) (x:Ext rho0 .nil 16 w0 ρ h nx w) (Q:Exit→Act→World→Prop) (hQ:∀ a w,PO w0 .ret a w→Q .ret a w):c.wp C1.E.P Q a w:=by
 obtain ⟨e1,e2⟩:=okRet_eq e
 have dz:Does C1 sig0 143 c (cF c):=codeF_ok (m:=1000) cfg1 (cl2_ok sig0) c hc
 refine dz _ ρ tm h nx a w _ _ _ _ e1 R s ?_
 intro ρZ aZ wZ RZ sZ xZ
 refine hQ aZ wZ ?_
 have hl:resL C1 (tmOf (cF c tm h nx)) (hOf (cF c tm h nx)) Tryz.f13.results.toList=some [.bool true]:=by
  rw [res13_eq,← e2];rfl
 obtain ⟨v,hr,hvr⟩:=results_ok cfg1 RZ sZ res13 hl
 have hv:v=.bool true:=VR.bool_inv (show VR sig0 ρZ (.bool true) v from hvr)
 subst hv
 exact ⟨RZ.dfs,_,hr,rfl,below_of (σ:=sig0) (x.trans xZ)⟩
def Hz0 (Q:Exit→Act→World→Prop) (w0:World) (m k:Nat):Prop:=m%10=0→∀ (ρ:Rho) (a:Act) (w:World) (x y z:Value),TmR sig0 ρ 143 (mkT (vh_t0 m k x y z)) a→Sim sig0 G13 ρ (mkH kp_t0 bs_t0) 26 w→Ext rho0 .nil 16 w0 ρ (mkH kp_t0 bs_t0) 26 w→Q (.exit 0) a w
def Hz1 (Q:Exit→Act→World→Prop) (w0:World) (m k:Nat):Prop:=m%10=1→∀ (ρ:Rho) (a:Act) (w:World) (x y z:Value),TmR sig0 ρ 143 (mkT (vh_t1 m k x y z)) a→Sim sig0 G13 ρ (mkH kp_t1 bs_t1) 1452 w→Ext rho0 .nil 16 w0 ρ (mkH kp_t1 bs_t1) 1452 w→Q (.exit 0) a w
def Hz2 (Q:Exit→Act→World→Prop) (w0:World) (m k:Nat):Prop:=m%10=2→∀ (ρ:Rho) (a:Act) (w:World) (x y z:Value),TmR sig0 ρ 143 (mkT (vh_t2 m k x y z)) a→Sim sig0 G13 ρ (mkH kp_t2 bs_t2) 2893 w→Ext rho0 .nil 16 w0 ρ (mkH kp_t2 bs_t2) 2893 w→Q (.exit 0) a w
def Hz3 (Q:Exit→Act→World→Prop) (w0:World) (m k:Nat):Prop:=m%10=3→∀ (ρ:Rho) (a:Act) (w:World) (x y z:Value),TmR sig0 ρ 143 (mkT (vh_t3 m k x y z)) a→Sim sig0 G13 ρ (mkH kp_t3 bs_t3) 4319 w→Ext rho0 .nil 16 w0 ρ (mkH kp_t3 bs_t3) 4319 w→Q (.exit 0) a w
def Hz4 (Q:Exit→Act→World→Prop) (w0:World) (m k:Nat):Prop:=m%10=4→∀ (ρ:Rho) (a:Act) (w:World) (x y z:Value),TmR sig0 ρ 143 (mkT (vh_t4 m k x y z)) a→Sim sig0 G13 ρ (mkH kp_t4 bs_t4) 5775 w→Ext rho0 .nil 16 w0 ρ (mkH kp_t4 bs_t4) 5775 w→Q (.exit 0) a w
def Hz5 (Q:Exit→Act→World→Prop) (w0:World) (m k:Nat):Prop:=m%10=5→∀ (ρ:Rho) (a:Act) (w:World) (x y z:Value),TmR sig0 ρ 143 (mkT (vh_t5 m k x y z)) a→Sim sig0 G13 ρ (mkH kp_t5 bs_t5) 7201 w→Ext rho0 .nil 16 w0 ρ (mkH kp_t5 bs_t5) 7201 w→Q (.exit 0) a w
def Hz6 (Q:Exit→Act→World→Prop) (w0:World) (m k:Nat):Prop:=m%10=6→∀ (ρ:Rho) (a:Act) (w:World) (x y z:Value),TmR sig0 ρ 143 (mkT (vh_t6 m k x y z)) a→Sim sig0 G13 ρ (mkH kp_t6 bs_t6) 8642 w→Ext rho0 .nil 16 w0 ρ (mkH kp_t6 bs_t6) 8642 w→Q (.exit 0) a w
def Hz7 (Q:Exit→Act→World→Prop) (w0:World) (m k:Nat):Prop:=m%10=7→∀ (ρ:Rho) (a:Act) (w:World) (x y z:Value),TmR sig0 ρ 143 (mkT (vh_t7 m k x y z)) a→Sim sig0 G13 ρ (mkH kp_t7 bs_t7) 10068 w→Ext rho0 .nil 16 w0 ρ (mkH kp_t7 bs_t7) 10068 w→Q (.exit 0) a w
def Hz8 (Q:Exit→Act→World→Prop) (w0:World) (m k:Nat):Prop:=m%10=8→∀ (ρ:Rho) (a:Act) (w:World) (x y z:Value),TmR sig0 ρ 143 (mkT (vh_t8 m k x y z)) a→Sim sig0 G13 ρ (mkH kp_t8 bs_t8) 11539 w→Ext rho0 .nil 16 w0 ρ (mkH kp_t8 bs_t8) 11539 w→Q (.exit 0) a w
def Hz9 (Q:Exit→Act→World→Prop) (w0:World) (m k:Nat):Prop:=m%10=9→∀ (ρ:Rho) (a:Act) (w:World) (x y z:Value),TmR sig0 ρ 143 (mkT (vh_t9 m k x y z)) a→Sim sig0 G13 ρ (mkH kp_t9 bs_t9) 12965 w→Ext rho0 .nil 16 w0 ρ (mkH kp_t9 bs_t9) 12965 w→Q (.exit 0) a w
theorem lp_t9 {Q:Exit→Act→World→Prop} {w0:World} {m k:Nat} (hm:m<256) (hi:9≤m%10) (z9:Hz9 Q w0 m k) {ρ:Rho} {a:Act} {w:World} {x y z:Value} (R:TmR sig0 ρ 143 (mkT (vs_t9 m k x y z)) a) (s:Sim sig0 G13 ρ (mkH kp_t9 bs_t9) 12965 w) (X:Ext rho0 .nil 16 w0 ρ (mkH kp_t9 bs_t9) 12965 w) :
 LoopW C1.E.P (.seq (.seq (.region (rId c13h) o13h false) (.cond (.tmp 37) .skip (.exit 0))) (.seq (.block 1 (.seq c13i (.seq c13j c13x))) c13v)) Q a w:=by
 refine loopW_step (wp_seq (wp_seq (wp_region_list ?_)))
 rw [←List.append_nil o13h.toList]
 refine opsV_snap cfg1 (cl2_ok sig0) all_h lk_t9 (hd_t9 m k x y z) R s ?_
 intro ρ1 a1 w1 R1 s1 x1
 have hv:VR sig0 ρ1 (cZ 9 m) (a1.eval (.tmp 37)):=opd_ok s1 R1 (x:=.tmp 37) (by kernel_rfl)
 rw [cZ_eq hm] at hv
 have hn:¬ (9<m%10):=by omega
 rw [decide_eq_false hn] at hv
 refine wp_cond_false hv.bool_inv (wp_exit ?_)
 exact z9 (by omega) ρ1 a1 w1 _ _ _ R1 s1 (X.trans x1)
theorem lp_t8 {Q:Exit→Act→World→Prop} {w0:World} {m k:Nat} (hm:m<256) (hi:8≤m%10) (z8:Hz8 Q w0 m k) (z9:Hz9 Q w0 m k) {ρ:Rho} {a:Act} {w:World} {x y z:Value} (R:TmR sig0 ρ 143 (mkT (vs_t8 m k x y z)) a) (s:Sim sig0 G13 ρ (mkH kp_t8 bs_t8) 11539 w) (X:Ext rho0 .nil 16 w0 ρ (mkH kp_t8 bs_t8) 11539 w) :
 LoopW C1.E.P (.seq (.seq (.region (rId c13h) o13h false) (.cond (.tmp 37) .skip (.exit 0))) (.seq (.block 1 (.seq c13i (.seq c13j c13x))) c13v)) Q a w:=by
 refine loopW_step (wp_seq (wp_seq (wp_region_list ?_)))
 rw [←List.append_nil o13h.toList]
 refine opsV_snap cfg1 (cl2_ok sig0) all_h lk_t8 (hd_t8 m k x y z) R s ?_
 intro ρ1 a1 w1 R1 s1 x1
 have hv:VR sig0 ρ1 (cZ 8 m) (a1.eval (.tmp 37)):=opd_ok s1 R1 (x:=.tmp 37) (by kernel_rfl)
 rw [cZ_eq hm] at hv
 by_cases h:8<m%10
 · rw [decide_eq_true h] at hv
   refine wp_cond_true hv.bool_inv (wp_skip ?_)
   have dz:∀ c,codeOk C1.E 143 c=true→Does C1 sig0 143 c (cF c):=fun c hc=>codeF_ok (m:=1000) cfg1 (cl2_ok sig0) c hc
   refine round_snap (dz _ ok13i) (dz _ ok13j) (dz _ ok13x) (dz _ ok13v) lk_tm8 lk_t9 (ra_t8 m k _ _ _) (rb_t8 m k _ _ _) R1 s1 ?_
   intro ρ2 a2 w2 R2 s2 x2
   exact lp_t9 hm h z9 R2 s2 ((X.trans x1).trans x2)
 · rw [decide_eq_false h] at hv
   refine wp_cond_false hv.bool_inv (wp_exit ?_)
   exact z8 (by omega) ρ1 a1 w1 _ _ _ R1 s1 (X.trans x1)
theorem lp_t7 {Q:Exit→Act→World→Prop} {w0:World} {m k:Nat} (hm:m<256) (hi:7≤m%10) (z7:Hz7 Q w0 m k) (z8:Hz8 Q w0 m k) (z9:Hz9 Q w0 m k) {ρ:Rho} {a:Act} {w:World} {x y z:Value} (R:TmR sig0 ρ 143 (mkT (vs_t7 m k x y z)) a) (s:Sim sig0 G13 ρ (mkH kp_t7 bs_t7) 10068 w) (X:Ext rho0 .nil 16 w0 ρ (mkH kp_t7 bs_t7) 10068 w) :
 LoopW C1.E.P (.seq (.seq (.region (rId c13h) o13h false) (.cond (.tmp 37) .skip (.exit 0))) (.seq (.block 1 (.seq c13i (.seq c13j c13x))) c13v)) Q a w:=by
 refine loopW_step (wp_seq (wp_seq (wp_region_list ?_)))
 rw [←List.append_nil o13h.toList]
 refine opsV_snap cfg1 (cl2_ok sig0) all_h lk_t7 (hd_t7 m k x y z) R s ?_
 intro ρ1 a1 w1 R1 s1 x1
 have hv:VR sig0 ρ1 (cZ 7 m) (a1.eval (.tmp 37)):=opd_ok s1 R1 (x:=.tmp 37) (by kernel_rfl)
 rw [cZ_eq hm] at hv
 by_cases h:7<m%10
 · rw [decide_eq_true h] at hv
   refine wp_cond_true hv.bool_inv (wp_skip ?_)
   have dz:∀ c,codeOk C1.E 143 c=true→Does C1 sig0 143 c (cF c):=fun c hc=>codeF_ok (m:=1000) cfg1 (cl2_ok sig0) c hc
   refine round_snap (dz _ ok13i) (dz _ ok13j) (dz _ ok13x) (dz _ ok13v) lk_tm7 lk_t8 (ra_t7 m k _ _ _) (rb_t7 m k _ _ _) R1 s1 ?_
   intro ρ2 a2 w2 R2 s2 x2
   exact lp_t8 hm h z8 z9 R2 s2 ((X.trans x1).trans x2)
 · rw [decide_eq_false h] at hv
   refine wp_cond_false hv.bool_inv (wp_exit ?_)
   exact z7 (by omega) ρ1 a1 w1 _ _ _ R1 s1 (X.trans x1)
theorem lp_t6 {Q:Exit→Act→World→Prop} {w0:World} {m k:Nat} (hm:m<256) (hi:6≤m%10) (z6:Hz6 Q w0 m k) (z7:Hz7 Q w0 m k) (z8:Hz8 Q w0 m k) (z9:Hz9 Q w0 m k) {ρ:Rho} {a:Act} {w:World} {x y z:Value} (R:TmR sig0 ρ 143 (mkT (vs_t6 m k x y z)) a) (s:Sim sig0 G13 ρ (mkH kp_t6 bs_t6) 8642 w) (X:Ext rho0 .nil 16 w0 ρ (mkH kp_t6 bs_t6) 8642 w) :
 LoopW C1.E.P (.seq (.seq (.region (rId c13h) o13h false) (.cond (.tmp 37) .skip (.exit 0))) (.seq (.block 1 (.seq c13i (.seq c13j c13x))) c13v)) Q a w:=by
 refine loopW_step (wp_seq (wp_seq (wp_region_list ?_)))
 rw [←List.append_nil o13h.toList]
 refine opsV_snap cfg1 (cl2_ok sig0) all_h lk_t6 (hd_t6 m k x y z) R s ?_
 intro ρ1 a1 w1 R1 s1 x1
 have hv:VR sig0 ρ1 (cZ 6 m) (a1.eval (.tmp 37)):=opd_ok s1 R1 (x:=.tmp 37) (by kernel_rfl)
 rw [cZ_eq hm] at hv
 by_cases h:6<m%10
 · rw [decide_eq_true h] at hv
   refine wp_cond_true hv.bool_inv (wp_skip ?_)
   have dz:∀ c,codeOk C1.E 143 c=true→Does C1 sig0 143 c (cF c):=fun c hc=>codeF_ok (m:=1000) cfg1 (cl2_ok sig0) c hc
   refine round_snap (dz _ ok13i) (dz _ ok13j) (dz _ ok13x) (dz _ ok13v) lk_tm6 lk_t7 (ra_t6 m k _ _ _) (rb_t6 m k _ _ _) R1 s1 ?_
   intro ρ2 a2 w2 R2 s2 x2
   exact lp_t7 hm h z7 z8 z9 R2 s2 ((X.trans x1).trans x2)
 · rw [decide_eq_false h] at hv
   refine wp_cond_false hv.bool_inv (wp_exit ?_)
   exact z6 (by omega) ρ1 a1 w1 _ _ _ R1 s1 (X.trans x1)
theorem lp_t5 {Q:Exit→Act→World→Prop} {w0:World} {m k:Nat} (hm:m<256) (hi:5≤m%10) (z5:Hz5 Q w0 m k) (z6:Hz6 Q w0 m k) (z7:Hz7 Q w0 m k) (z8:Hz8 Q w0 m k) (z9:Hz9 Q w0 m k) {ρ:Rho} {a:Act} {w:World} {x y z:Value} (R:TmR sig0 ρ 143 (mkT (vs_t5 m k x y z)) a) (s:Sim sig0 G13 ρ (mkH kp_t5 bs_t5) 7201 w) (X:Ext rho0 .nil 16 w0 ρ (mkH kp_t5 bs_t5) 7201 w) :
 LoopW C1.E.P (.seq (.seq (.region (rId c13h) o13h false) (.cond (.tmp 37) .skip (.exit 0))) (.seq (.block 1 (.seq c13i (.seq c13j c13x))) c13v)) Q a w:=by
 refine loopW_step (wp_seq (wp_seq (wp_region_list ?_)))
 rw [←List.append_nil o13h.toList]
 refine opsV_snap cfg1 (cl2_ok sig0) all_h lk_t5 (hd_t5 m k x y z) R s ?_
 intro ρ1 a1 w1 R1 s1 x1
 have hv:VR sig0 ρ1 (cZ 5 m) (a1.eval (.tmp 37)):=opd_ok s1 R1 (x:=.tmp 37) (by kernel_rfl)
 rw [cZ_eq hm] at hv
 by_cases h:5<m%10
 · rw [decide_eq_true h] at hv
   refine wp_cond_true hv.bool_inv (wp_skip ?_)
   have dz:∀ c,codeOk C1.E 143 c=true→Does C1 sig0 143 c (cF c):=fun c hc=>codeF_ok (m:=1000) cfg1 (cl2_ok sig0) c hc
   refine round_snap (dz _ ok13i) (dz _ ok13j) (dz _ ok13x) (dz _ ok13v) lk_tm5 lk_t6 (ra_t5 m k _ _ _) (rb_t5 m k _ _ _) R1 s1 ?_
   intro ρ2 a2 w2 R2 s2 x2
   exact lp_t6 hm h z6 z7 z8 z9 R2 s2 ((X.trans x1).trans x2)
 · rw [decide_eq_false h] at hv
   refine wp_cond_false hv.bool_inv (wp_exit ?_)
   exact z5 (by omega) ρ1 a1 w1 _ _ _ R1 s1 (X.trans x1)
theorem lp_t4 {Q:Exit→Act→World→Prop} {w0:World} {m k:Nat} (hm:m<256) (hi:4≤m%10) (z4:Hz4 Q w0 m k) (z5:Hz5 Q w0 m k) (z6:Hz6 Q w0 m k) (z7:Hz7 Q w0 m k) (z8:Hz8 Q w0 m k) (z9:Hz9 Q w0 m k) {ρ:Rho} {a:Act} {w:World} {x y z:Value} (R:TmR sig0 ρ 143 (mkT (vs_t4 m k x y z)) a) (s:Sim sig0 G13 ρ (mkH kp_t4 bs_t4) 5775 w) (X:Ext rho0 .nil 16 w0 ρ (mkH kp_t4 bs_t4) 5775 w) :
 LoopW C1.E.P (.seq (.seq (.region (rId c13h) o13h false) (.cond (.tmp 37) .skip (.exit 0))) (.seq (.block 1 (.seq c13i (.seq c13j c13x))) c13v)) Q a w:=by
 refine loopW_step (wp_seq (wp_seq (wp_region_list ?_)))
 rw [←List.append_nil o13h.toList]
 refine opsV_snap cfg1 (cl2_ok sig0) all_h lk_t4 (hd_t4 m k x y z) R s ?_
 intro ρ1 a1 w1 R1 s1 x1
 have hv:VR sig0 ρ1 (cZ 4 m) (a1.eval (.tmp 37)):=opd_ok s1 R1 (x:=.tmp 37) (by kernel_rfl)
 rw [cZ_eq hm] at hv
 by_cases h:4<m%10
 · rw [decide_eq_true h] at hv
   refine wp_cond_true hv.bool_inv (wp_skip ?_)
   have dz:∀ c,codeOk C1.E 143 c=true→Does C1 sig0 143 c (cF c):=fun c hc=>codeF_ok (m:=1000) cfg1 (cl2_ok sig0) c hc
   refine round_snap (dz _ ok13i) (dz _ ok13j) (dz _ ok13x) (dz _ ok13v) lk_tm4 lk_t5 (ra_t4 m k _ _ _) (rb_t4 m k _ _ _) R1 s1 ?_
   intro ρ2 a2 w2 R2 s2 x2
   exact lp_t5 hm h z5 z6 z7 z8 z9 R2 s2 ((X.trans x1).trans x2)
 · rw [decide_eq_false h] at hv
   refine wp_cond_false hv.bool_inv (wp_exit ?_)
   exact z4 (by omega) ρ1 a1 w1 _ _ _ R1 s1 (X.trans x1)
theorem lp_t3 {Q:Exit→Act→World→Prop} {w0:World} {m k:Nat} (hm:m<256) (hi:3≤m%10) (z3:Hz3 Q w0 m k) (z4:Hz4 Q w0 m k) (z5:Hz5 Q w0 m k) (z6:Hz6 Q w0 m k) (z7:Hz7 Q w0 m k) (z8:Hz8 Q w0 m k) (z9:Hz9 Q w0 m k) {ρ:Rho} {a:Act} {w:World} {x y z:Value} (R:TmR sig0 ρ 143 (mkT (vs_t3 m k x y z)) a) (s:Sim sig0 G13 ρ (mkH kp_t3 bs_t3) 4319 w) (X:Ext rho0 .nil 16 w0 ρ (mkH kp_t3 bs_t3) 4319 w) :
 LoopW C1.E.P (.seq (.seq (.region (rId c13h) o13h false) (.cond (.tmp 37) .skip (.exit 0))) (.seq (.block 1 (.seq c13i (.seq c13j c13x))) c13v)) Q a w:=by
 refine loopW_step (wp_seq (wp_seq (wp_region_list ?_)))
 rw [←List.append_nil o13h.toList]
 refine opsV_snap cfg1 (cl2_ok sig0) all_h lk_t3 (hd_t3 m k x y z) R s ?_
 intro ρ1 a1 w1 R1 s1 x1
 have hv:VR sig0 ρ1 (cZ 3 m) (a1.eval (.tmp 37)):=opd_ok s1 R1 (x:=.tmp 37) (by kernel_rfl)
 rw [cZ_eq hm] at hv
 by_cases h:3<m%10
 · rw [decide_eq_true h] at hv
   refine wp_cond_true hv.bool_inv (wp_skip ?_)
   have dz:∀ c,codeOk C1.E 143 c=true→Does C1 sig0 143 c (cF c):=fun c hc=>codeF_ok (m:=1000) cfg1 (cl2_ok sig0) c hc
   refine round_snap (dz _ ok13i) (dz _ ok13j) (dz _ ok13x) (dz _ ok13v) lk_tm3 lk_t4 (ra_t3 m k _ _ _) (rb_t3 m k _ _ _) R1 s1 ?_
   intro ρ2 a2 w2 R2 s2 x2
   exact lp_t4 hm h z4 z5 z6 z7 z8 z9 R2 s2 ((X.trans x1).trans x2)
 · rw [decide_eq_false h] at hv
   refine wp_cond_false hv.bool_inv (wp_exit ?_)
   exact z3 (by omega) ρ1 a1 w1 _ _ _ R1 s1 (X.trans x1)
theorem lp_t2 {Q:Exit→Act→World→Prop} {w0:World} {m k:Nat} (hm:m<256) (hi:2≤m%10) (z2:Hz2 Q w0 m k) (z3:Hz3 Q w0 m k) (z4:Hz4 Q w0 m k) (z5:Hz5 Q w0 m k) (z6:Hz6 Q w0 m k) (z7:Hz7 Q w0 m k) (z8:Hz8 Q w0 m k) (z9:Hz9 Q w0 m k) {ρ:Rho} {a:Act} {w:World} {x y z:Value} (R:TmR sig0 ρ 143 (mkT (vs_t2 m k x y z)) a) (s:Sim sig0 G13 ρ (mkH kp_t2 bs_t2) 2893 w) (X:Ext rho0 .nil 16 w0 ρ (mkH kp_t2 bs_t2) 2893 w) :
 LoopW C1.E.P (.seq (.seq (.region (rId c13h) o13h false) (.cond (.tmp 37) .skip (.exit 0))) (.seq (.block 1 (.seq c13i (.seq c13j c13x))) c13v)) Q a w:=by
 refine loopW_step (wp_seq (wp_seq (wp_region_list ?_)))
 rw [←List.append_nil o13h.toList]
 refine opsV_snap cfg1 (cl2_ok sig0) all_h lk_t2 (hd_t2 m k x y z) R s ?_
 intro ρ1 a1 w1 R1 s1 x1
 have hv:VR sig0 ρ1 (cZ 2 m) (a1.eval (.tmp 37)):=opd_ok s1 R1 (x:=.tmp 37) (by kernel_rfl)
 rw [cZ_eq hm] at hv
 by_cases h:2<m%10
 · rw [decide_eq_true h] at hv
   refine wp_cond_true hv.bool_inv (wp_skip ?_)
   have dz:∀ c,codeOk C1.E 143 c=true→Does C1 sig0 143 c (cF c):=fun c hc=>codeF_ok (m:=1000) cfg1 (cl2_ok sig0) c hc
   refine round_snap (dz _ ok13i) (dz _ ok13j) (dz _ ok13x) (dz _ ok13v) lk_tm2 lk_t3 (ra_t2 m k _ _ _) (rb_t2 m k _ _ _) R1 s1 ?_
   intro ρ2 a2 w2 R2 s2 x2
   exact lp_t3 hm h z3 z4 z5 z6 z7 z8 z9 R2 s2 ((X.trans x1).trans x2)
 · rw [decide_eq_false h] at hv
   refine wp_cond_false hv.bool_inv (wp_exit ?_)
   exact z2 (by omega) ρ1 a1 w1 _ _ _ R1 s1 (X.trans x1)
theorem lp_t1 {Q:Exit→Act→World→Prop} {w0:World} {m k:Nat} (hm:m<256) (hi:1≤m%10) (z1:Hz1 Q w0 m k) (z2:Hz2 Q w0 m k) (z3:Hz3 Q w0 m k) (z4:Hz4 Q w0 m k) (z5:Hz5 Q w0 m k) (z6:Hz6 Q w0 m k) (z7:Hz7 Q w0 m k) (z8:Hz8 Q w0 m k) (z9:Hz9 Q w0 m k) {ρ:Rho} {a:Act} {w:World} {x y z:Value} (R:TmR sig0 ρ 143 (mkT (vs_t1 m k x y z)) a) (s:Sim sig0 G13 ρ (mkH kp_t1 bs_t1) 1452 w) (X:Ext rho0 .nil 16 w0 ρ (mkH kp_t1 bs_t1) 1452 w) :
 LoopW C1.E.P (.seq (.seq (.region (rId c13h) o13h false) (.cond (.tmp 37) .skip (.exit 0))) (.seq (.block 1 (.seq c13i (.seq c13j c13x))) c13v)) Q a w:=by
 refine loopW_step (wp_seq (wp_seq (wp_region_list ?_)))
 rw [←List.append_nil o13h.toList]
 refine opsV_snap cfg1 (cl2_ok sig0) all_h lk_t1 (hd_t1 m k x y z) R s ?_
 intro ρ1 a1 w1 R1 s1 x1
 have hv:VR sig0 ρ1 (cZ 1 m) (a1.eval (.tmp 37)):=opd_ok s1 R1 (x:=.tmp 37) (by kernel_rfl)
 rw [cZ_eq hm] at hv
 by_cases h:1<m%10
 · rw [decide_eq_true h] at hv
   refine wp_cond_true hv.bool_inv (wp_skip ?_)
   have dz:∀ c,codeOk C1.E 143 c=true→Does C1 sig0 143 c (cF c):=fun c hc=>codeF_ok (m:=1000) cfg1 (cl2_ok sig0) c hc
   refine round_snap (dz _ ok13i) (dz _ ok13j) (dz _ ok13x) (dz _ ok13v) lk_tm1 lk_t2 (ra_t1 m k _ _ _) (rb_t1 m k _ _ _) R1 s1 ?_
   intro ρ2 a2 w2 R2 s2 x2
   exact lp_t2 hm h z2 z3 z4 z5 z6 z7 z8 z9 R2 s2 ((X.trans x1).trans x2)
 · rw [decide_eq_false h] at hv
   refine wp_cond_false hv.bool_inv (wp_exit ?_)
   exact z1 (by omega) ρ1 a1 w1 _ _ _ R1 s1 (X.trans x1)
theorem lp_t0 {Q:Exit→Act→World→Prop} {w0:World} {m k:Nat} (hm:m<256) (hi:0≤m%10) (z0:Hz0 Q w0 m k) (z1:Hz1 Q w0 m k) (z2:Hz2 Q w0 m k) (z3:Hz3 Q w0 m k) (z4:Hz4 Q w0 m k) (z5:Hz5 Q w0 m k) (z6:Hz6 Q w0 m k) (z7:Hz7 Q w0 m k) (z8:Hz8 Q w0 m k) (z9:Hz9 Q w0 m k) {ρ:Rho} {a:Act} {w:World} {x y z:Value} (R:TmR sig0 ρ 143 (mkT (vs_t0 m k x y z)) a) (s:Sim sig0 G13 ρ (mkH kp_t0 bs_t0) 26 w) (X:Ext rho0 .nil 16 w0 ρ (mkH kp_t0 bs_t0) 26 w) :
 LoopW C1.E.P (.seq (.seq (.region (rId c13h) o13h false) (.cond (.tmp 37) .skip (.exit 0))) (.seq (.block 1 (.seq c13i (.seq c13j c13x))) c13v)) Q a w:=by
 refine loopW_step (wp_seq (wp_seq (wp_region_list ?_)))
 rw [←List.append_nil o13h.toList]
 refine opsV_snap cfg1 (cl2_ok sig0) all_h lk_t0 (hd_t0 m k x y z) R s ?_
 intro ρ1 a1 w1 R1 s1 x1
 have hv:VR sig0 ρ1 (cZ 0 m) (a1.eval (.tmp 37)):=opd_ok s1 R1 (x:=.tmp 37) (by kernel_rfl)
 rw [cZ_eq hm] at hv
 by_cases h:0<m%10
 · rw [decide_eq_true h] at hv
   refine wp_cond_true hv.bool_inv (wp_skip ?_)
   have dz:∀ c,codeOk C1.E 143 c=true→Does C1 sig0 143 c (cF c):=fun c hc=>codeF_ok (m:=1000) cfg1 (cl2_ok sig0) c hc
   refine round_snap (dz _ ok13i) (dz _ ok13j) (dz _ ok13x) (dz _ ok13v) lk_tm0 lk_t1 (ra_t0 m k _ _ _) (rb_t0 m k _ _ _) R1 s1 ?_
   intro ρ2 a2 w2 R2 s2 x2
   exact lp_t1 hm h z1 z2 z3 z4 z5 z6 z7 z8 z9 R2 s2 ((X.trans x1).trans x2)
 · rw [decide_eq_false h] at hv
   refine wp_cond_false hv.bool_inv (wp_exit ?_)
   exact z0 (by omega) ρ1 a1 w1 _ _ _ R1 s1 (X.trans x1)
noncomputable abbrev QZ (w0:World):Exit→Act→World→Prop:=Exit.inBlock 0 (Exit.then (Code.wp C1.E.P (.seq c13y (.seq (.region (rId c13k) o13k false) c13w)) (PO w0)) (PO w0))
theorem hz_t0 (w0:World) (m k:Nat):Hz0 (QZ w0) w0 m k:=by
 intro h ρ a w x y z R s X
 show Code.wp C1.E.P (.seq c13y (.seq (.region (rId c13k) o13k false) c13w)) (PO w0) a w
 exact wp_seq (ends13 ok13y (ze_t0 m k x y z) R s X _ (fun a w h=>h))
theorem hz_t1 (w0:World) (m k:Nat) (hk:k<256):Hz1 (QZ w0) w0 m k:=by
 intro h ρ a w x y z R s X
 show Code.wp C1.E.P (.seq c13y (.seq (.region (rId c13k) o13k false) c13w)) (PO w0) a w
 refine wp_seq (does_snap (codeF_ok (m:=1000) cfg1 (cl2_ok sig0) c13y ok13y) lk_t1 (zy_t1 m k x y z) R s ?_)
 intro ρ1 a1 w1 R1 s1 x1
 refine wp_seq (wp_region_list ?_)
 rw [←List.append_nil o13k.toList]
 refine opsV_snap cfg1 (cl2_ok sig0) all_k lk_t1 (zk_t1 m k x y z) R1 s1 ?_
 intro ρ2 a2 w2 R2 s2 x2
 rw [cV_eq hk] at R2
 exact ends13 ok13w (zw_t1 m k x y z _ _ (Nat.mod_lt _ (by decide))) R2 s2 ((X.trans x1).trans x2) _ (fun a w h=>h)
theorem hz_t2 (w0:World) (m k:Nat) (hk:k<256):Hz2 (QZ w0) w0 m k:=by
 intro h ρ a w x y z R s X
 show Code.wp C1.E.P (.seq c13y (.seq (.region (rId c13k) o13k false) c13w)) (PO w0) a w
 refine wp_seq (does_snap (codeF_ok (m:=1000) cfg1 (cl2_ok sig0) c13y ok13y) lk_t2 (zy_t2 m k x y z) R s ?_)
 intro ρ1 a1 w1 R1 s1 x1
 refine wp_seq (wp_region_list ?_)
 rw [←List.append_nil o13k.toList]
 refine opsV_snap cfg1 (cl2_ok sig0) all_k lk_t2 (zk_t2 m k x y z) R1 s1 ?_
 intro ρ2 a2 w2 R2 s2 x2
 rw [cV_eq hk] at R2
 exact ends13 ok13w (zw_t2 m k x y z _ _ (Nat.mod_lt _ (by decide))) R2 s2 ((X.trans x1).trans x2) _ (fun a w h=>h)
theorem hz_t3 (w0:World) (m k:Nat) (hk:k<256):Hz3 (QZ w0) w0 m k:=by
 intro h ρ a w x y z R s X
 show Code.wp C1.E.P (.seq c13y (.seq (.region (rId c13k) o13k false) c13w)) (PO w0) a w
 refine wp_seq (does_snap (codeF_ok (m:=1000) cfg1 (cl2_ok sig0) c13y ok13y) lk_t3 (zy_t3 m k x y z) R s ?_)
 intro ρ1 a1 w1 R1 s1 x1
 refine wp_seq (wp_region_list ?_)
 rw [←List.append_nil o13k.toList]
 refine opsV_snap cfg1 (cl2_ok sig0) all_k lk_t3 (zk_t3 m k x y z) R1 s1 ?_
 intro ρ2 a2 w2 R2 s2 x2
 rw [cV_eq hk] at R2
 exact ends13 ok13w (zw_t3 m k x y z _ _ (Nat.mod_lt _ (by decide))) R2 s2 ((X.trans x1).trans x2) _ (fun a w h=>h)
theorem hz_t4 (w0:World) (m k:Nat) (hk:k<256):Hz4 (QZ w0) w0 m k:=by
 intro h ρ a w x y z R s X
 show Code.wp C1.E.P (.seq c13y (.seq (.region (rId c13k) o13k false) c13w)) (PO w0) a w
 refine wp_seq (does_snap (codeF_ok (m:=1000) cfg1 (cl2_ok sig0) c13y ok13y) lk_t4 (zy_t4 m k x y z) R s ?_)
 intro ρ1 a1 w1 R1 s1 x1
 refine wp_seq (wp_region_list ?_)
 rw [←List.append_nil o13k.toList]
 refine opsV_snap cfg1 (cl2_ok sig0) all_k lk_t4 (zk_t4 m k x y z) R1 s1 ?_
 intro ρ2 a2 w2 R2 s2 x2
 rw [cV_eq hk] at R2
 exact ends13 ok13w (zw_t4 m k x y z _ _ (Nat.mod_lt _ (by decide))) R2 s2 ((X.trans x1).trans x2) _ (fun a w h=>h)
theorem hz_t5 (w0:World) (m k:Nat) (hk:k<256):Hz5 (QZ w0) w0 m k:=by
 intro h ρ a w x y z R s X
 show Code.wp C1.E.P (.seq c13y (.seq (.region (rId c13k) o13k false) c13w)) (PO w0) a w
 refine wp_seq (does_snap (codeF_ok (m:=1000) cfg1 (cl2_ok sig0) c13y ok13y) lk_t5 (zy_t5 m k x y z) R s ?_)
 intro ρ1 a1 w1 R1 s1 x1
 refine wp_seq (wp_region_list ?_)
 rw [←List.append_nil o13k.toList]
 refine opsV_snap cfg1 (cl2_ok sig0) all_k lk_t5 (zk_t5 m k x y z) R1 s1 ?_
 intro ρ2 a2 w2 R2 s2 x2
 rw [cV_eq hk] at R2
 exact ends13 ok13w (zw_t5 m k x y z _ _ (Nat.mod_lt _ (by decide))) R2 s2 ((X.trans x1).trans x2) _ (fun a w h=>h)
theorem hz_t6 (w0:World) (m k:Nat) (hk:k<256):Hz6 (QZ w0) w0 m k:=by
 intro h ρ a w x y z R s X
 show Code.wp C1.E.P (.seq c13y (.seq (.region (rId c13k) o13k false) c13w)) (PO w0) a w
 refine wp_seq (does_snap (codeF_ok (m:=1000) cfg1 (cl2_ok sig0) c13y ok13y) lk_t6 (zy_t6 m k x y z) R s ?_)
 intro ρ1 a1 w1 R1 s1 x1
 refine wp_seq (wp_region_list ?_)
 rw [←List.append_nil o13k.toList]
 refine opsV_snap cfg1 (cl2_ok sig0) all_k lk_t6 (zk_t6 m k x y z) R1 s1 ?_
 intro ρ2 a2 w2 R2 s2 x2
 rw [cV_eq hk] at R2
 exact ends13 ok13w (zw_t6 m k x y z _ _ (Nat.mod_lt _ (by decide))) R2 s2 ((X.trans x1).trans x2) _ (fun a w h=>h)
theorem hz_t7 (w0:World) (m k:Nat) (hk:k<256):Hz7 (QZ w0) w0 m k:=by
 intro h ρ a w x y z R s X
 show Code.wp C1.E.P (.seq c13y (.seq (.region (rId c13k) o13k false) c13w)) (PO w0) a w
 refine wp_seq (does_snap (codeF_ok (m:=1000) cfg1 (cl2_ok sig0) c13y ok13y) lk_t7 (zy_t7 m k x y z) R s ?_)
 intro ρ1 a1 w1 R1 s1 x1
 refine wp_seq (wp_region_list ?_)
 rw [←List.append_nil o13k.toList]
 refine opsV_snap cfg1 (cl2_ok sig0) all_k lk_t7 (zk_t7 m k x y z) R1 s1 ?_
 intro ρ2 a2 w2 R2 s2 x2
 rw [cV_eq hk] at R2
 exact ends13 ok13w (zw_t7 m k x y z _ _ (Nat.mod_lt _ (by decide))) R2 s2 ((X.trans x1).trans x2) _ (fun a w h=>h)
theorem hz_t8 (w0:World) (m k:Nat) (hk:k<256):Hz8 (QZ w0) w0 m k:=by
 intro h ρ a w x y z R s X
 show Code.wp C1.E.P (.seq c13y (.seq (.region (rId c13k) o13k false) c13w)) (PO w0) a w
 refine wp_seq (does_snap (codeF_ok (m:=1000) cfg1 (cl2_ok sig0) c13y ok13y) lk_t8 (zy_t8 m k x y z) R s ?_)
 intro ρ1 a1 w1 R1 s1 x1
 refine wp_seq (wp_region_list ?_)
 rw [←List.append_nil o13k.toList]
 refine opsV_snap cfg1 (cl2_ok sig0) all_k lk_t8 (zk_t8 m k x y z) R1 s1 ?_
 intro ρ2 a2 w2 R2 s2 x2
 rw [cV_eq hk] at R2
 exact ends13 ok13w (zw_t8 m k x y z _ _ (Nat.mod_lt _ (by decide))) R2 s2 ((X.trans x1).trans x2) _ (fun a w h=>h)
theorem hz_t9 (w0:World) (m k:Nat) (hk:k<256):Hz9 (QZ w0) w0 m k:=by
 intro h ρ a w x y z R s X
 show Code.wp C1.E.P (.seq c13y (.seq (.region (rId c13k) o13k false) c13w)) (PO w0) a w
 refine wp_seq (does_snap (codeF_ok (m:=1000) cfg1 (cl2_ok sig0) c13y ok13y) lk_t9 (zy_t9 m k x y z) R s ?_)
 intro ρ1 a1 w1 R1 s1 x1
 refine wp_seq (wp_region_list ?_)
 rw [←List.append_nil o13k.toList]
 refine opsV_snap cfg1 (cl2_ok sig0) all_k lk_t9 (zk_t9 m k x y z) R1 s1 ?_
 intro ρ2 a2 w2 R2 s2 x2
 rw [cV_eq hk] at R2
 exact ends13 ok13w (zw_t9 m k x y z _ _ (Nat.mod_lt _ (by decide))) R2 s2 ((X.trans x1).trans x2) _ (fun a w h=>h)
theorem secrets_walk (m k:Nat) (hm:m<256) (hk:k<256) (w:World) (g:Glb w) (sh:∀ v,Below w.heap.size w v→Calls C1.E.P 17 #[] v fun e w'=>e=.returned (.bool true)∧Below v.heap.size v w') :
 Calls C1.E.P 13 #[.int .u8 (m:Nat),.int .u8 (k:Nat)] w fun e w'=>e=.returned (.bool true)∧Below w.heap.size w w':=by
 refine calls_of_wp Tryz.func13 body13 ?_
 have hva:VL sig0 rho0 [.int .u8 (.ofNat m),.int .u8 (.ofNat k)] (#[.int .u8 (m:Nat),.int .u8 (k:Nat)]:Array Value).toList:=VL.cons (VR.int .u8 (m:Nat)) (VL.cons (VR.int .u8 (k:Nat)) VL.nil)
 have R0:=TmR.start (n:=143) hva (by decide) (show 2≤143 by decide)
 have s0:=sim0 g sig0
 obtain ⟨tm0,h0,e0,e1,e2⟩:=snapC_some (run_tp m k)
 obtain ⟨tma,ha',nxa,ea,eb⟩:=seqR_normal e0
 refine wp_seq (codeF_ok (m:=1000) cfg1 (cl2_ok sig0) c13a ok13a _ _ _ _ _ _ _ _ _ _ _ ea R0 s0 ?_)
 intro ρ1 a1 w1 R1 s1 x1
 refine wp_seq (codeF_ok (m:=1000) cfg1 (cl2_ok sig0) c13b ok13b _ _ _ _ _ _ _ _ _ _ _ eb R1 s1 ?_)
 intro ρ2 a2 w2 R2 s2 x2
 obtain ⟨s3,x3⟩:=s2.less (h':=mkH kp_tp bs_tp) (pickB_mk kp_tp h0 bs_tp (ltH_mem lk_tp) e1)
 have R3:=R2.vals
 rw [←e2] at R3
 have X3:=(x1.trans x2).trans x3
 refine wp_seq (wp_seq (wp_region_list ?_))
 rw [r_eq]
 refine opsV_snap cfg1 (cl2_ok sig0) all_r1 lk_tp (run_tr m k) R3 s3 ?_
 intro ρ4 a4 w4 R4 s4 x4
 have X4:=X3.trans x4
 refine op_known (v:=.bool true) all_r2 (wan_tr m k) (cal_tr a4 w4) R4 (sh w4 (below_of (σ:=sig0) X4)) ?_
 intro w5 b5
 have s5:=s4.below b5
 have X5:=X4.trans (Ext.below b5)
 have R5:TmR sig0 ρ4 143 (tmS (mkT (vs_tr m k)) 28 (.bool true)) (a4.put r2.dst (.bool true)):=by
  rw [dst_tr];exact R4.put (by decide) (VR.bool true)
 rw [←List.append_nil r3]
 refine opsV_snap cfg1 (cl2_ok sig0) all_r3 lk_tp (run_tq m k) R5 s5 ?_
 intro ρ6 a6 w6 R6 s6 x6
 have X6:=X5.trans x6
 obtain ⟨tm9,h9,f0,f1,f2⟩:=snapC_some (run_t0 m k)
 obtain ⟨tm8,h8,nx8,g0,f0⟩:=seqR_normal f0
 obtain ⟨tm7,h7,nx7,g1,g0⟩:=seqR_normal g0
 obtain ⟨tm6,h6,nx6,g2,g1⟩:=seqR_normal g1
 refine codeF_ok (m:=1000) cfg1 (cl2_ok sig0) c13c ok13c _ _ _ _ _ _ _ _ _ _ _ g2 R6 s6 ?_
 intro ρ7 a7 w7 R7 s7 x7
 refine wp_seq (codeF_ok (m:=1000) cfg1 (cl2_ok sig0) c13d ok13d _ _ _ _ _ _ _ _ _ _ _ g1 R7 s7 ?_)
 intro ρ8 a8 w8 R8 s8 x8
 refine wp_seq (codeF_ok (m:=1000) cfg1 (cl2_ok sig0) c13e ok13e _ _ _ _ _ _ _ _ _ _ _ g0 R8 s8 ?_)
 intro ρ9 a9 w9 R9 s9 x9
 refine wp_seq (wp_seq (codeF_ok (m:=1000) cfg1 (cl2_ok sig0) c13f ok13f _ _ _ _ _ _ _ _ _ _ _ f0 R9 s9 ?_))
 intro ρA aA wA RA sA xA
 obtain ⟨sB,xB⟩:=sA.less (h':=mkH kp_t0 bs_t0) (pickB_mk kp_t0 h9 bs_t0 (ltH_mem lk_t0) f1)
 have RB:=RA.vals
 rw [←f2] at RB
 have XB:=((((X6.trans x7).trans x8).trans x9).trans xA).trans xB
 refine wp_block (loopW_wp ?_)
 exact lp_t0 hm (Nat.zero_le _) (hz_t0 w m k) (hz_t1 w m k hk) (hz_t2 w m k hk) (hz_t3 w m k hk) (hz_t4 w m k hk) (hz_t5 w m k hk) (hz_t6 w m k hk) (hz_t7 w m k hk) (hz_t8 w m k hk) (hz_t9 w m k hk) RB sB XB
end SX
open Go.RowKit
set_option linter.unusedVariables false
set_option maxRecDepth 1000000 in
theorem secrets_lst:SX.Lst Rows.topSecretsRow.laid:=by
 refine ⟨?_,?_,?_,?_,?_⟩<;>simp [Rows.topSecretsRow]
theorem u8_ofS {a:Int} (h:(Lit.int .u8 a).wf=true):∃ n:Nat,a=(n:Int)∧n<256:=by
 have:=RowK.wf_u8 h
 exact ⟨a.toNat,by omega,by omega⟩
set_option maxRecDepth 1000000 in
theorem walk_TopSecrets (a0:Int) (w0:(Lit.int .u8 a0).wf=true) (a1:Int) (w1:(Lit.int .u8 a1).wf=true) {W:World} (hsh:W.ShapedOpen Tryz.prog) (hL:laidMetH Tryz.prog Rows.topSecretsRow.laid W) :
 Calls Tryz.prog 13 #[.int .u8 a0,.int .u8 a1] W fun e W'=>e=.returned (.bool true)∧Below W.heap.size W W':=by
 have g:=SX.glb_of hsh hL secrets_lst
 obtain ⟨a,rfl,ha⟩:=u8_ofS w0
 obtain ⟨b,rfl,hb⟩:=u8_ofS w1
 exact SX.secrets_walk a b ha hb W g (fun v hb=>SX.shown_any v (g.below hb g.lt))
end Go.Proofs.YtdebnbgjgkbmaaaGreatDoor
namespace Go.Proofs.YtdebnbgjgkbmaaaGreatDoor.Wit9d6a22
set_option maxRecDepth 100000
noncomputable def laidWorld (os:Os):World:=
 { World.holding Tryz.prog os ⟨#[],#[],[]⟩ with heap:=(((((((((((((World.holding Tryz.prog os ⟨#[],#[],[]⟩).heap).modify 5 fun
   | .cells _ t frozen=>.cells #[.int .u8 0,.int .u8 1,.int .u8 28,.int .u8 2,.int .u8 29,.int .u8 14,.int .u8 24,.int .u8 3,.int .u8 30,.int .u8 22,.int .u8 20,.int .u8 15,.int .u8 25,.int .u8 17,.int .u8 4,.int .u8 8,.int .u8 31,.int .u8 27,.int .u8 13,.int .u8 23,.int .u8 21,.int .u8 19,.int .u8 16,.int .u8 7,.int .u8 26,.int .u8 12,.int .u8 18,.int .u8 6,.int .u8 11,.int .u8 5,.int .u8 10,.int .u8 9] t frozen
   | o=>o)).modify 6 fun
   | .cells _ t frozen=>.cells #[.int .u8 0,.int .u8 1,.int .u8 56,.int .u8 2,.int .u8 57,.int .u8 49,.int .u8 28,.int .u8 3,.int .u8 61,.int .u8 58,.int .u8 42,.int .u8 50,.int .u8 38,.int .u8 29,.int .u8 17,.int .u8 4,.int .u8 62,.int .u8 47,.int .u8 59,.int .u8 36,.int .u8 45,.int .u8 43,.int .u8 51,.int .u8 22,.int .u8 53,.int .u8 39,.int .u8 33,.int .u8 30,.int .u8 24,.int .u8 18,.int .u8 12,.int .u8 5,.int .u8 63,.int .u8 55,.int .u8 48,.int .u8 27,.int .u8 60,.int .u8 41,.int .u8 37,.int .u8 16,.int .u8 46,.int .u8 35,.int .u8 44,.int .u8 21,.int .u8 52,.int .u8 32,.int .u8 23,.int .u8 11,.int .u8 54,.int .u8 26,.int .u8 40,.int .u8 15,.int .u8 34,.int .u8 20,.int .u8 31,.int .u8 10,.int .u8 25,.int .u8 14,.int .u8 19,.int .u8 9,.int .u8 13,.int .u8 8,.int .u8 7,.int .u8 6] t frozen
   | o=>o)).modify 0 fun
   | .cells _ t frozen=>.cells #[.int .u32 1779033703,.int .u32 3144134277,.int .u32 1013904242,.int .u32 2773480762,.int .u32 1359893119,.int .u32 2600822924,.int .u32 528734635,.int .u32 1541459225] t frozen
   | o=>o)).modify 4 fun
   | .cells _ t frozen=>.cells #[.int .u32 1116352408,.int .u32 1899447441,.int .u32 3049323471,.int .u32 3921009573,.int .u32 961987163,.int .u32 1508970993,.int .u32 2453635748,.int .u32 2870763221,.int .u32 3624381080,.int .u32 310598401,.int .u32 607225278,.int .u32 1426881987,.int .u32 1925078388,.int .u32 2162078206,.int .u32 2614888103,.int .u32 3248222580,.int .u32 3835390401,.int .u32 4022224774,.int .u32 264347078,.int .u32 604807628,.int .u32 770255983,.int .u32 1249150122,.int .u32 1555081692,.int .u32 1996064986,.int .u32 2554220882,.int .u32 2821834349,.int .u32 2952996808,.int .u32 3210313671,.int .u32 3336571891,.int .u32 3584528711,.int .u32 113926993,.int .u32 338241895,.int .u32 666307205,.int .u32 773529912,.int .u32 1294757372,.int .u32 1396182291,.int .u32 1695183700,.int .u32 1986661051,.int .u32 2177026350,.int .u32 2456956037,.int .u32 2730485921,.int .u32 2820302411,.int .u32 3259730800,.int .u32 3345764771,.int .u32 3516065817,.int .u32 3600352804,.int .u32 4094571909,.int .u32 275423344,.int .u32 430227734,.int .u32 506948616,.int .u32 659060556,.int .u32 883997877,.int .u32 958139571,.int .u32 1322822218,.int .u32 1537002063,.int .u32 1747873779,.int .u32 1955562222,.int .u32 2024104815,.int .u32 2227730452,.int .u32 2361852424,.int .u32 2428436474,.int .u32 2756734187,.int .u32 3204031479,.int .u32 3329325298] t frozen
   | o=>o)).modify 7 fun
   | .cells _ t frozen=>.cells #[.int .i64 3,.int .i64 4,.int .i64 1,.int .i64 2,.int .i64 0,.int .i64 1,.int .i64 2,.int .i64 3,.int .i64 4,.int .i64 0,.int .i64 1,.int .i64 2,.int .i64 3,.int .i64 4,.int .i64 0,.int .i64 3,.int .i64 4,.int .i64 1,.int .i64 2,.int .i64 0] t frozen
   | o=>o)).modify 3 fun
   | .cells _ t frozen=>.cells #[.int .i64 1,.int .i64 7,.int .i64 3,.int .i64 5] t frozen
   | o=>o) }
theorem vars (os:Os) (args:Array Value):((laidWorld os).forCall (fun _ _=>0) ⟨#[],args,[]⟩).variablesB Tryz.checked.prog=true:=by kernel_rfl
theorem rest (os:Os) (args:Array Value):(((laidWorld os).forCall (fun _ _=>0) ⟨#[],args,[]⟩).heap.toList.drop Tryz.checked.prog.globals.size).take ((begin Tryz.checked.prog (fun _ _=>0) default).world.heap.size-Tryz.checked.prog.globals.size) =
 (begin Tryz.checked.prog (fun _ _=>0) default).world.heap.toList.drop Tryz.checked.prog.globals.size:=by kernel_rfl
def laid:List (String × DataW Unit):=[("math/bits.deBruijn32tab",Rows.laid_math_bits_deBruijn32tab),("math/bits.deBruijn64tab",Rows.laid_math_bits_deBruijn64tab),("remitter/digest.begin",Rows.laid_remitter_digest_begin),("remitter/digest.table",Rows.laid_remitter_digest_table),("remitter/htlc.events",Rows.laid_remitter_htlc_events),("remitter/htlc.spans",Rows.laid_remitter_htlc_spans)]
theorem met (os:Os) (args:Array Value):laidMet Tryz.prog laid ((laidWorld os).forCall (fun _ _=>0) ⟨#[],args,[]⟩).memory:=
 laidMet_of_run' 8 (by kernel_rfl) (by kernel_rfl)
end Go.Proofs.YtdebnbgjgkbmaaaGreatDoor.Wit9d6a22
