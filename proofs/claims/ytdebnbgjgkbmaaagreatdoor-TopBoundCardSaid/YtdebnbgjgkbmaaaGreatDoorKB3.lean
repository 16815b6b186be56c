import Derived.ArgAppend
import Derived.Below
import Derived.BigQuiet
import Derived.Calls
import Derived.ChangeKeysEq
import Derived.ChangeOld
import Derived.Deep.AppendLies
import Derived.Deep.AppendSrc
import Derived.Deep.DeepHandedRow
import Derived.Deep.LoopGhost
import Derived.Deep.MidRow
import Derived.Deep.Onto
import Derived.Deep.QuietTactic
import Derived.Deep.RegionHeld3
import Derived.Deep.RegionWith
import Derived.Deep.WholeRow
import Derived.DeepKeys
import Derived.DeepKeys3
import Derived.Defers
import Derived.Laws.AppendOwn
import Derived.Laws.Bits64b
import Derived.Laws.BitsAllLaws
import Derived.Laws.BytesArg
import Derived.Laws.BytesString
import Derived.Laws.EntriesVeiled
import Derived.Laws.MakeOwn
import Derived.Laws.OwnMore
import Derived.Laws.Rows
import Derived.Laws.Tables
import Derived.Lib.BufferWrite
import Derived.Lib.Builder
import Derived.Lib.ConvBytes
import Derived.Lib.FrozenHead2
import Derived.Lib.Hide
import Derived.Lib.LaidTab
import Derived.Lib.SlFresh
import Derived.Lib.Strings
import Derived.Lib.TrailingZeros
import Derived.Lib.UnsafeStr
import Derived.LoopIn
import Derived.LoopNIn
import Derived.Maps.Keyed
import Derived.OpenShut
import Derived.Orders
import Derived.Outline
import Derived.OwnWalk
import Derived.OwnWalkIn
import Derived.ProofKit
import Derived.RangeFuncBound
import Derived.RangeFuncCalls
import Derived.RangeFuncFrom
import Derived.RangeFuncLeaves
import Derived.RangeFuncNested
import Derived.Shelf.Abstract
import Derived.Shelf.RegionOpen
import Derived.Shelf.RegionOpenPlain
import Derived.Shelf.Spec.SlicesInsert
import Derived.ShutString
import Derived.StillTailTactics
import Derived.TacticsInMore
import Derived.Test.YtdebnbgjgkbmaaaGreatDoorRows
import Derived.WalkKit
import Derived.WalkLawsBesides
import Derived.WalkSpells
import Derived.Test.YtdebnbgjgkbmaaaGreatDoorKB2
namespace Go.Proofs.YtdebnbgjgkbmaaaGreatDoor
open Go.RowKit
set_option linter.unusedVariables false
structure Tabs (w:World):Prop where
 b:∀ i,i<8→w.cell? ⟨0,i,none⟩=some (.int .u32 (Sha.begin0.get i:Nat))
 k:∀ i,i<64→w.cell? ⟨4,i,none⟩=some (.int .u32 (Sha.k i:Nat))
theorem Tabs.lt {w:World} (h:Tabs w):4<w.heap.size:=World.block_lt_of_cell? w _ (h.k 0 (by decide))
theorem Tabs.below {w w':World} {B:Nat} (h:Tabs w) (hb:Below B w w') (hB:4<B):Tabs w':=
 ⟨fun i hi=>by rw [hb.cell (show 0<B by omega)];exact h.b i hi,fun i hi=>by rw [hb.cell (show 4<B by omega)];exact h.k i hi⟩
abbrev r32 (n:Nat) (f:Nat→Nat):Array Value:=M.rowF .u32 n fun i=>(f i:Nat)
abbrev stV (s:Sha.St):Array Value:=r32 8 s.get
def Z8:Array Value:=#[.int .u32 0,.int .u32 0,.int .u32 0,.int .u32 0,.int .u32 0,.int .u32 0,.int .u32 0,.int .u32 0]
structure CI (n:Nat) (w:World) (s:Sha.St) (W:Nat→Nat) (v:World):Prop where
 r0:M.RowAt v n 330 (stV s)
 r1:M.RowAt v (n+1) 330 Z8
 r2:M.RowAt v (n+1+1) 427 (r32 64 W)
 below:Below n w v
theorem CI.drew {n:Nat} {w:World} {s:Sha.St} {W:Nat→Nat} {v:World} (h:CI n w s W v):CI n w s W v.drew:=⟨h.r0,h.r1,h.r2,h.below.drew⟩
theorem CI.drewN {n:Nat} {w:World} {s:Sha.St} {W:Nat→Nat} {v:World} (h:CI n w s W v) (k:Nat):CI n w s W (v.drewN k):=⟨h.r0,h.r1,h.r2,M.below_drewN h.below k⟩
theorem CI.same {n:Nat} {w:World} {s:Sha.St} {W:Nat→Nat} {v v':World} (h:CI n w s W v) (hb:Below v.heap.size v v'):CI n w s W v':=
 ⟨h.r0.call hb,h.r1.call hb,h.r2.call hb,h.below.trans (hb.mono (by have:=h.r0.lt;omega))⟩
theorem CI.set {n:Nat} {w:World} {s:Sha.St} {W W':Nat→Nat} {v:World} (h:CI n w s W v) (i x:Nat) (hi:i<64) (hW:∀ j,j<64→W' j=if j=i then x else W j) :
 CI n w s W' (v.setCell ⟨n+1+1,i,none⟩ (.int .u32 (x:Nat))):=by
 refine ⟨h.r0.far (by show n+1+1≠n;omega) _,h.r1.far (by show n+1+1≠n+1;omega) _,?_,h.below.setCell (by show n≤n+1+1;omega) _⟩
 have:=h.r2.set i (.int .u32 (x:Nat))
 rw [M.rowF_set (g:=fun i=>((W' i:Nat):Int)) _ hi (fun j hj=>by rw [hW j hj];split<;>rfl)] at this
 exact this
set_option maxRecDepth 100000 in
set_option maxHeartbeats 4000000 in
theorem compress_any (s:Sha.St) (b:ByteArray) (w:World) (hs:s.ok) (hb:b.size=64) (ht:Tabs w) :
 Calls Tryz.prog 275 #[.agg (stV s),.string b] w fun e w'=>e=.returned (.tuple #[.agg (stV (Sha.compress s b)),.bool true])∧Below w.heap.size w w':=by
 obtain ⟨n,hn⟩:∃ n,w.heap.size=n:=⟨_,rfl⟩
 have h1n:4<n:=hn▸ht.lt
 have c0:CI n w s (Sha.pw b 0) (((w.alloc (.cells (stV s) 330)).alloc (.cells Z8 330)).alloc (.cells (r32 64 (Sha.pw b 0)) 427)):=by
  subst hn
  have a1:=M.RowAt.new w 330 (stV s)
  have a2:=M.RowAt.new (w.alloc (.cells (stV s) 330)) 330 Z8
  have a3:=M.RowAt.new ((w.alloc (.cells (stV s) 330)).alloc (.cells Z8 330)) 427 (r32 64 (Sha.pw b 0))
  rw [World.size_alloc] at a2 a3
  rw [World.size_alloc] at a3
  exact ⟨(a1.alloc _).alloc _,a2.alloc _,a3,(((Below.refl _ _).alloc (Nat.le_refl _) _).alloc (by simp) _).alloc (by simp;omega) _⟩
 have hp0:Sha.pw b 0=fun _=>0:=by funext j;exact Sha.pw_zero b 0 j (by omega)
 obtain ⟨C,hC⟩:∃ C,stV s=C:=⟨_,rfl⟩
 obtain ⟨v0,hv0⟩:∃ v0,((w.alloc (.cells C 330)).alloc (.cells #[.int .u32 0,.int .u32 0,.int .u32 0,.int .u32 0,.int .u32 0,.int .u32 0,.int .u32 0,.int .u32 0] 330)).alloc (.cells #[.int .u32 0,.int .u32 0,.int .u32 0,.int .u32 0,.int .u32 0,.int .u32 0,.int .u32 0,.int .u32 0,.int .u32 0,.int .u32 0,.int .u32 0,.int .u32 0,.int .u32 0,.int .u32 0,.int .u32 0,.int .u32 0,.int .u32 0,.int .u32 0,.int .u32 0,.int .u32 0,.int .u32 0,.int .u32 0,.int .u32 0,.int .u32 0,.int .u32 0,.int .u32 0,.int .u32 0,.int .u32 0,.int .u32 0,.int .u32 0,.int .u32 0,.int .u32 0,.int .u32 0,.int .u32 0,.int .u32 0,.int .u32 0,.int .u32 0,.int .u32 0,.int .u32 0,.int .u32 0,.int .u32 0,.int .u32 0,.int .u32 0,.int .u32 0,.int .u32 0,.int .u32 0,.int .u32 0,.int .u32 0,.int .u32 0,.int .u32 0,.int .u32 0,.int .u32 0,.int .u32 0,.int .u32 0,.int .u32 0,.int .u32 0,.int .u32 0,.int .u32 0,.int .u32 0,.int .u32 0,.int .u32 0,.int .u32 0,.int .u32 0,.int .u32 0] 427)=v0:=⟨_,rfl⟩
 have e0:((w.alloc (.cells (stV s) 330)).alloc (.cells Z8 330)).alloc (.cells (r32 64 (Sha.pw b 0)) 427)=v0:=by
  rw [hp0,hC,← hv0];rfl
 rw [e0] at c0
 have HC:=Lib.hid hC;have HV:=Lib.hid hv0;have HB:=Lib.hid hb;have HN:=Lib.hid hn
 rw [hC]
 clear hC hv0 e0 hp0
 go_enter Tryz.func275,Tryz.ntmps275
 go_wp2
 rw [HV.out]
 clear hb hn
 go_loopg [30] 64 (fun m i wr=>∃ k:Nat,m+k=64∧i=.int .i64 k∧CI n w s (Sha.pw b k) wr)
 case atStart=>exact ⟨0,by omega,rfl,c0⟩
 case round=>
  clear c0
  obtain ⟨k,hm,rfl,ci⟩:=hrel
  by_cases hlt:k<64
  · have hk4:k/4<64:=by omega
    have q2:=ci.r2.cell (k/4)
    rw [M.rowF_get hk4] at q2
    have hbk:k<b.size:=by rw [HB.out];exact hlt
    have hlw:=Sha.pw_lt3 b k
    have hby:=b[k].toNat_lt
    have w1:IntKind.i64.wrap ((k:Int)/4)=(k:Int)/4:=IntWalk.i64_in _ (by omega)
    have w2:(0:Int)≤(k:Int)/4:=by omega
    have w3:(k:Int)/4<64:=by omega
    have w4:((k:Int)/4).toNat=k/4:=by omega
    have w5:IntKind.u32.wrap ((Sha.pw b k (k/4):Nat)*256)=(Sha.pw b k (k/4):Nat)*256:=by rw [IntKind.wrap_u32];omega
    have w6:IntKind.u32.wrap (b[k].toNat:Int)=(b[k].toNat:Int):=by rw [IntKind.wrap_u32];omega
    have w7:bits .or .u32 ((Sha.pw b k (k/4):Nat)*256:Int) (b[k].toNat:Int)=((Sha.pw b (k+1) (k/4):Nat):Int):=by
     have h:=u32_or_nat (Sha.pw b k (k/4)*256) b[k].toNat (by omega) (by omega)
     rw [nat_join 8 _ _ (by omega) hby,← Sha.byte_at b k hbk,← Sha.pw_next,Int.natCast_mul,Sha.byte_at b k hbk] at h
     exact h
    have ci2:=ci.drew
    have q3:=ci2.r2.frozen (k/4)
    have q4:=ci2.r2.cell (k/4)
    rw [M.rowF_get hk4] at q4
    have ci3:=ci2.set (k/4) (Sha.pw b (k+1) (k/4)) hk4 (W':=Sha.pw b (k+1)) (fun j _=>by
     split
     · rename_i h;subst h;rfl
     · rename_i h;exact Sha.pw_same b k j h)
    generalize Sha.pw b (k+1) (k/4)=P at *
    generalize Sha.pw b k (k/4)=P0 at *
    have HW:=Lib.hid w7
    go_wp2_with fail
    go_still_tail 13,(by kernel_rfl)
    change wpList _ _ _ _ _ wr.drew
    generalize wr.drew=wd at *
    go_wp2
    go_roundg (64-(k+1))
    case measure=>omega
    case rel=>exact ⟨k+1,by omega,by go_num,ci3⟩
  · obtain rfl:k=64:=by omega
    have c2:CI n w s (Sha.W b (16-16)) wr:=by
     have e:Sha.pw b 64=Sha.W b 0:=by funext j;exact (Sha.W_zero b j).symm
     rw [e] at ci;exact ci
    clear ci hm hlt
    go_wp2
    go_loopg [8] 48 (fun m i wr=>∃ k:Nat,m+k=64∧16≤k∧i=.int .i64 k∧CI n w s (Sha.W b (k-16)) wr)
    case atStart=>exact ⟨16,by omega,by omega,rfl,c2⟩
    case round=>
     clear c2
     obtain ⟨k,hm,h16,rfl,ci⟩:=hrel
     by_cases hlt:k<64
     · obtain ⟨i,hi⟩:∃ i,k=16+i:=⟨k-16,by omega⟩
       have w1:IntKind.i64.wrap ((k:Int)-15)=(k:Int)-15:=IntWalk.i64_in _ (by omega)
       have w2:(0:Int)≤(k:Int)-15:=by omega
       have w3:(k:Int)-15<64:=by omega
       have w5:(15:Int)≤k:=by omega
       have x5:(2:Int)≤k:=by omega
       have w4:((k:Int)-15).toNat=i+1:=by omega
       have x1:IntKind.i64.wrap ((k:Int)-2)=(k:Int)-2:=IntWalk.i64_in _ (by omega)
       have x2:(0:Int)≤(k:Int)-2:=by omega
       have x3:(k:Int)-2<64:=by omega
       have x4:((k:Int)-2).toNat=i+14:=by omega
       rw [show k-16=i by omega] at ci
       have q1:=ci.r2.cell (i+1)
       have q2:=ci.r2.cell (i+14)
       rw [M.rowF_get (show i+1<64 by omega)] at q1
       rw [M.rowF_get (show i+14<64 by omega)] at q2
       have HI:=Lib.hid hi
       clear hi
       have l1:=Sha.W_lt b i (i+1)
       have l2:=Sha.W_lt b i (i+14)
       have nx:=Sha.W_next b i
       obtain ⟨x,hx⟩:∃ x,Sha.W b i (i+1)=x:=⟨_,rfl⟩
       obtain ⟨y,hy⟩:∃ y,Sha.W b i (i+14)=y:=⟨_,rfl⟩
       rw [hx] at q1 l1 nx
       rw [hy] at q2 l2 nx
       have NX:=Lib.hid nx
       clear nx hx hy
       have LX:=Lib.hid l1;have LY:=Lib.hid l2
       clear l1 l2
       go_wp2_with fail
       go_still (by kernel_rfl)
       clear q1 q2 w1 w2 w3 w4 w5 x1 x2 x3 x4 x5
       obtain ⟨m,hm'⟩:∃ m,wr.heap.size=m:=⟨_,rfl⟩
       have tn:=turns_any x [7,18] m (wr.alloc (.cells #[.int .u64 7,.int .u64 18] 215)).drew LX.out (by decide) (by decide) (fun i h=>by
        have r:=(M.RowAt.new wr 215 #[.int .u64 7,.int .u64 18]).drew
        rw [hm'] at r
        rw [r.cell]
        match i,h with
        | 0,_=>rfl
        | 1,_=>rfl)
       have ci2:=(ci.same ((Below.refl _ wr).alloc (Nat.le_refl _) (.cells #[.int .u64 7,.int .u64 18] 215))).drew
       have sx:=sig0_32 LX.out
       have TN:=Lib.hid tn
       clear tn
       go_wp2_with fail
       refine (TN.out).mono ?_
       rintro e w2 ⟨rfl,rfl⟩
       generalize (wr.alloc (.cells #[.int .u64 7,.int .u64 18] 215)).drew=w3 at *
       clear ci hm' TN
       obtain ⟨m,hm'⟩:∃ m,w3.heap.size=m:=⟨_,rfl⟩
       have tn:=turns_any y [17,19] m (w3.alloc (.cells #[.int .u64 17,.int .u64 19] 215)) LY.out (by decide) (by decide) (fun i h=>by
        have r:=M.RowAt.new w3 215 #[.int .u64 17,.int .u64 19]
        rw [hm'] at r
        rw [r.cell]
        match i,h with
        | 0,_=>rfl
        | 1,_=>rfl)
       have ci3:=ci2.same ((Below.refl _ w3).alloc (Nat.le_refl _) (.cells #[.int .u64 17,.int .u64 19] 215))
       have sy:=sig1_32 LY.out
       have TN:=Lib.hid tn
       clear tn
       go_wp2_with fail
       refine (TN.out).mono ?_
       rintro e w4 ⟨rfl,rfl⟩
       generalize w3.alloc (.cells #[.int .u64 17,.int .u64 19] 215)=w4 at *
       clear ci2 hm' TN
       have w1:IntKind.i64.wrap ((k:Int)-16)=(k:Int)-16:=IntWalk.i64_in _ (by omega)
       have w2:(0:Int)≤(k:Int)-16:=by omega
       have w3':(k:Int)-16<64:=by omega
       have w4':((k:Int)-16).toNat=i:=by have:=HI.out;omega
       have w5:(16:Int)≤k:=by omega
       have x1:IntKind.i64.wrap ((k:Int)-7)=(k:Int)-7:=IntWalk.i64_in _ (by omega)
       have x2:(0:Int)≤(k:Int)-7:=by omega
       have x3:(k:Int)-7<64:=by omega
       have x4:((k:Int)-7).toNat=i+9:=by have:=HI.out;omega
       have x5:(7:Int)≤k:=by omega
       have hi64:i<48:=by have:=HI.out;omega
       have q1:=ci3.r2.cell i
       have q2:=ci3.r2.cell (i+9)
       rw [M.rowF_get (show i<64 by omega)] at q1
       rw [M.rowF_get (show i+9<64 by omega)] at q2
       have nx:=NX.out
       have ci4:=ci3.drew
       have f5:=ci4.r2.frozen k
       have q5:=ci4.r2.cell k
       rw [M.rowF_get hlt] at q5
       have ci5:=ci4.set k (Sha.W b (i+1) (16+i)) hlt (W':=Sha.W b (i+1)) (fun j _=>by
        split
        · rename_i h;rw [h,HI.out]
        · rename_i h;exact Sha.W_same b i j (by have:=HI.out;omega))
       have s0l:=Sha.sig0_lt LX.out
       have s1l:=Sha.sig1_lt LY.out
       generalize Sha.W b (i+1) (16+i)=N at *
       generalize Sha.W b i (i+9)=q at *
       generalize Sha.W b i i=p at *
       generalize Sha.sig0 x=S0 at *
       generalize Sha.sig1 y=S1 at *
       have hsum:IntKind.u32.wrap (IntKind.u32.wrap (IntKind.u32.wrap ((p:Int)+(S0:Int))+(q:Int))+(S1:Int))=(N:Int):=by
        rw [IntKind.wrap_u32,IntKind.wrap_u32,IntKind.wrap_u32];omega
       have hsum2:((p:Int)+(S0:Int)+(q:Int)+(S1:Int))%4294967296=(N:Int):=by omega
       clear nx s0l s1l NX
       go_wp2_with fail
       go_still_tail 15,(by kernel_rfl)
       change wpList _ _ _ _ _ w4.drew
       generalize w4.drew=w5 at *
       go_wp2
       go_roundg (64-(k+1))
       case measure=>omega
       case rel=>exact ⟨k+1,by omega,by omega,by go_num,by rw [show k+1-16=i+1 by have:=HI.out;omega];exact ci5⟩
     · obtain rfl:k=64:=by omega
       have cw:CI n w s (Sha.W b 48) wr:=ci
       clear ci hm hlt h16
       obtain ⟨WF,hWF⟩:∃ WF,Sha.W b 48=WF:=⟨_,rfl⟩
       have hWl:∀ j,WF j<4294967296:=fun j=>by rw [←hWF];exact Sha.W_lt b 48 j
       rw [hWF] at cw
       have HWF:=Lib.hid hWF;have HWl:=Lib.hid hWl
       clear hWF hWl
       obtain ⟨m,hm⟩:∃ m,wr.heap.size=m:=⟨_,rfl⟩
       have hnm:n+1+1<m:=by have:=cw.r2.lt;omega
       have sC:(stV s).size=Z8.size:=by rw [M.rowF_size];rfl
       have r0:=cw.r0
       have cw1:=cw.same ((Below.refl _ wr).alloc (Nat.le_refl _) (.cells (stV s) 330))
       have p1:=M.RowAt.new wr 330 (stV s)
       have e9:=World.setRow_alloc_new wr Z8 (stV s) 330
       have r9:=heap_alloc_new wr (.cells Z8 330)
       have oC:(stV s).all (·.oneCell')=true:=M.rowF_one
       rw [hm] at p1 e9 r9
       rw [←e9] at cw1 p1
       rw [HC.out] at r0 cw1 p1 oC sC
       have i33:(Tryz.prog.info? 330).map (·.size)=some C.size:=by rw [sC];kernel_rfl
       have sA:(r32 64 WF).size=64:=M.rowF_size
       have r2:=cw1.r2
       obtain ⟨A,hA⟩:∃ A,r32 64 WF=A:=⟨_,rfl⟩
       rw [hA] at sA r2
       have i89:(Tryz.prog.info? 427).map (·.size)=some A.size:=by rw [sA];kernel_rfl
       have HA:=Lib.hid hA
       unfold M.RowAt at r0 r2
       obtain ⟨v1,hv1⟩:∃ v1,(wr.alloc (.cells #[.int .u32 0,.int .u32 0,.int .u32 0,.int .u32 0,.int .u32 0,.int .u32 0,.int .u32 0,.int .u32 0] 330)).setRow m C=v1:=⟨_,rfl⟩
       have cw1:CI n w s WF v1:=hv1▸cw1
       have p1:M.RowAt v1 m 330 C:=hv1▸p1
       have HV1:=Lib.hid hv1
       clear hA e9 cw sA hv1
       go_wp2_with (first
        | (refine wpList_load_row (x:=.tmp 2) (ty:=330) (g:=n) (cs:=C) (t:=330) (fr:=(0,0)) ?_ ?_ ?_ _ r0 Tryz.underlying330 rfl i33 ?_;rfl;rfl;rfl)
        | (refine wpList_store_row (x:=.tmp 13) (y:=.tmp 86) (cells:=C) (old:=Z8) (t:=330) (ty:=330) (g:=m) ?_ ?_ ?_ ?_ r9 i33 sC.symm oC ?_;rfl;rfl;rfl;rfl)
        | (refine wpList_load_row (x:=.tmp 6) (ty:=427) (g:=n+1+1) (cs:=A) (t:=427) (fr:=(0,0)) ?_ ?_ ?_ _ r2 Tryz.underlying427 rfl i89 ?_;rfl;rfl;rfl))
       rw [HV1.out]
       rw [←HC.out] at p1
       clear r0 r2 r9
       obtain ⟨i1,hi1⟩:∃ i1,Tryz.prog.info? 40=some i1:=⟨_,rfl⟩
       have hi1s:i1.size=1:=by
        have:(Tryz.prog.info? 40).map (·.size)=some 1:=by kernel_rfl
        rw [hi1] at this;simpa using this
       have T1:∀ v,Below n w v→Tabs v:=fun v hv=>ht.below hv h1n
       have HT:=Lib.hid T1
       have HI1:=Lib.hid hi1;have HI1s:=Lib.hid hi1s
       clear T1 ht hi1 hi1s
       go_loopg [88] 64 (fun m' i v=>∃ k:Nat,m'+k=64∧i=.int .i64 k∧CI n w s WF v∧M.RowAt v m 330 (stV (Sha.run WF s k)))
       case atStart=>exact ⟨0,by omega,rfl,cw1,p1⟩
       case round=>
        clear cw1 p1
        obtain ⟨k,hm',rfl,ci,pm⟩:=hrel
        by_cases hlt:k<64
        · have hx:=fun W'=>run_index_arr Tryz.underlying427 HI1.out HI1s.out Tryz.underlying40 A k hlt (v:=(WF k:Nat)) (by rw [←HA.out];exact M.rowF_get hlt) W'
          have hrs:Sha.run WF s (k+1)=Sha.step (Sha.run WF s k) (Sha.k k) (WF k):=rfl
          have hok:=Sha.run_ok (W:=WF) hs k
          obtain ⟨st,hst⟩:∃ st,Sha.run WF s k=st:=⟨_,rfl⟩
          rw [hst] at pm hrs hok
          have HRS:=Lib.hid hrs;have HOK:=Lib.hid hok
          clear hrs hst hok
          obtain ⟨X,hX⟩:∃ X,WF k=X:=⟨_,rfl⟩
          rw [hX] at hx
          have HX:=Lib.hid hX
          clear hX
          have q0:wr.cell? ⟨m,0,none⟩=some (.int .u32 (st.a:Nat)):=st_cell pm 0 (by decide)
          have q1:wr.cell? ⟨m,1,none⟩=some (.int .u32 (st.b:Nat)):=st_cell pm 1 (by decide)
          have q2:wr.cell? ⟨m,2,none⟩=some (.int .u32 (st.c:Nat)):=st_cell pm 2 (by decide)
          have q3:wr.cell? ⟨m,3,none⟩=some (.int .u32 (st.d:Nat)):=st_cell pm 3 (by decide)
          have q4:wr.cell? ⟨m,4,none⟩=some (.int .u32 (st.e:Nat)):=st_cell pm 4 (by decide)
          have q5:wr.cell? ⟨m,5,none⟩=some (.int .u32 (st.f:Nat)):=st_cell pm 5 (by decide)
          have q6:wr.cell? ⟨m,6,none⟩=some (.int .u32 (st.g:Nat)):=st_cell pm 6 (by decide)
          go_wp2_with fail
          go_still (by kernel_rfl)
          clear q0 q1 q2 q3 q4 q5 q6
          have ci:=ci.drew
          have pm:=pm.drew
          obtain ⟨wq,hwq⟩:∃ wq,wr.drew=wq:=⟨_,rfl⟩
          rw [hwq] at ci pm
          have HWQ:=Lib.hid hwq
          clear hwq
          obtain ⟨mm,hmm⟩:∃ mm,wq.heap.size=mm:=⟨_,rfl⟩
          have tn:=turns_any st.e [6,11,25] mm (wq.alloc (.cells #[.int .u64 6,.int .u64 11,.int .u64 25] 215)).drew HOK.out.e (by decide) (by decide) (fun i h=>by
           have r:=(M.RowAt.new wq 215 #[.int .u64 6,.int .u64 11,.int .u64 25]).drew
           rw [hmm] at r
           rw [r.cell]
           match i,h with
           | 0,_=>rfl
           | 1,_=>rfl
           | 2,_=>rfl)
          have TN:=Lib.hid tn
          have tk:=(HT.out wq ci.below).k k hlt
          have ci2:=ci.same ((Below.refl _ wq).alloc (Nat.le_refl _) (.cells #[.int .u64 6,.int .u64 11,.int .u64 25] 215))
          have pm2:=pm.call ((Below.refl _ wq).alloc (Nat.le_refl _) (.cells #[.int .u64 6,.int .u64 11,.int .u64 25] 215))
          have tk2:=(HT.out _ ci2.below).k k hlt
          have c7:wq.cell? ⟨m,7,none⟩=some (.int .u32 (st.h:Nat)):=st_cell pm 7 (by decide)
          have d7:(wq.alloc (.cells #[.int .u64 6,.int .u64 11,.int .u64 25] 215)).cell? ⟨m,7,none⟩=some (.int .u32 (st.h:Nat)):=st_cell pm2 7 (by decide)
          have hkk:=Sha.k_lt k
          have hxl:X<4294967296:=by rw [←HX.out];exact HWl.out k
          generalize Sha.k k=KK at *
          have HKK:=Lib.hid hkk;have HXl:=Lib.hid hxl
          clear hkk hxl
          obtain ⟨Cf,hCf⟩:∃ C:World→Prop,C=fun w'=>w'=wq.drew:=⟨_,rfl⟩
          obtain ⟨Ct,hCt⟩:∃ C:World→Prop,C=fun w'=>w'=(wq.alloc (.cells #[.int .u64 6,.int .u64 11,.int .u64 25] 215)).drew:=⟨_,rfl⟩
          have HCf:=Lib.hid hCf;have HCt:=Lib.hid hCt
          have cf0:Cf wq.drew:=by rw [hCf]
          have ct0:Ct (wq.alloc (.cells #[.int .u64 6,.int .u64 11,.int .u64 25] 215)).drew:=by rw [hCt]
          have hT1:=t1_32 HOK.out HKK.out HXl.out
          clear hCf hCt tn
          go_wp2_with fail
          change Code.wp _ _ _ _ wr.drew
          rw [HWQ.out]
          refine QP.wp_region_p 3 Cf Ct (by kernel_rfl) (by kernel_rfl) cf0 ?_
          iterate 22
           (refine QP.wpQ_step (fun K hK=>?_)
            go_simp
            first
             | (refine hK _ ?_;clear hK K)
             | (refine ⟨?_,hK _ ?_⟩;decide;clear hK K)
             | (apply Exists.intro
                refine ⟨?_,hK _ ?_⟩
                first
                 | (apply QP.al_p;decide;(focus (intro wq hq;(first | (rw [HCf.out] at hq;subst hq) | (rw [HCt.out] at hq;subst hq));(unfold QP.oat;go_simp;first | done | exact ⟨by assumption,rfl⟩ | exact rfl | assumption | (first | exact ⟨ct0,rfl⟩ | (refine (TN.out).mono ?_;rintro e w' ⟨rfl,rfl⟩;exact ⟨rfl,ct0⟩))))))
                 | (apply QP.al_dep;decide;decide;(focus (intro wq hq;(first | (rw [HCf.out] at hq;subst hq) | (rw [HCt.out] at hq;subst hq));(unfold QP.oat;go_simp;first | done | exact ⟨by assumption,rfl⟩ | exact rfl | assumption | (first | exact ⟨ct0,rfl⟩ | (refine (TN.out).mono ?_;rintro e w' ⟨rfl,rfl⟩;exact ⟨rfl,ct0⟩))))))
                 | (apply QP.al_bef;decide;decide;(focus (intro wq hq;(first | (rw [HCf.out] at hq;subst hq) | (rw [HCt.out] at hq;subst hq));(unfold QP.oat;go_simp;first | done | exact ⟨by assumption,rfl⟩ | exact rfl | assumption | (first | exact ⟨ct0,rfl⟩ | (refine (TN.out).mono ?_;rintro e w' ⟨rfl,rfl⟩;exact ⟨rfl,ct0⟩))))))
                 | (apply QP.al_ok;decide;(focus (intro wq hq;(first | (rw [HCf.out] at hq;subst hq) | (rw [HCt.out] at hq;subst hq));(unfold QP.oat;go_simp;first | done | exact ⟨by assumption,rfl⟩ | exact rfl | assumption | (first | exact ⟨ct0,rfl⟩ | (refine (TN.out).mono ?_;rintro e w' ⟨rfl,rfl⟩;exact ⟨rfl,ct0⟩)))));(focus (intro wq hq;(first | (rw [HCf.out] at hq;subst hq) | (rw [HCt.out] at hq;subst hq));(unfold QP.oat;go_simp;first | done | exact ⟨by assumption,rfl⟩ | exact rfl | assumption | (first | exact ⟨ct0,rfl⟩ | (refine (TN.out).mono ?_;rintro e w' ⟨rfl,rfl⟩;exact ⟨rfl,ct0⟩))))))
                clear hK K))
          refine QP.wpQ_nil ?_
          intro wz hz
          rw [HCt.out] at hz
          subst hz
          have ci3:=ci2.drew
          have pm3:=pm2.drew
          clear ci pm ci2 pm2 TN c7 d7 tk tk2 cf0 ct0 hT1
          obtain ⟨T1,hT1⟩:∃ T,Sha.t1 st KK X=T:=⟨_,rfl⟩
          obtain ⟨T2,hT2⟩:∃ T,Sha.t2 st=T:=⟨_,rfl⟩
          have m2:=t2_32 HOK.out
          rw [hT2] at m2
          rw [hT1]
          obtain ⟨NA,hNA⟩:∃ N,(T1+T2)%4294967296=N:=⟨_,rfl⟩
          obtain ⟨NE,hNE⟩:∃ N,(st.d+T1)%4294967296=N:=⟨_,rfl⟩
          have eA:((T1:Int)+(T2:Int))%4294967296=(NA:Int):=by omega
          have eE:((st.d:Int)+(T1:Int))%4294967296=(NE:Int):=by omega
          have hN:Sha.step st KK X=⟨NA,st.a,st.b,st.c,NE,st.e,st.f,st.g⟩:=by
           unfold Sha.step;rw [hT1,hT2,hNA,hNE]
          have HNN:=Lib.hid hN
          clear hN hNA hNE hT1 hT2
          generalize (wq.alloc (.cells #[.int .u64 6,.int .u64 11,.int .u64 25] 215)).drew=w3 at *
          obtain ⟨mm,hmm⟩:∃ mm,w3.heap.size=mm:=⟨_,rfl⟩
          have tn:=turns_any st.a [2,13,22] mm (w3.alloc (.cells #[.int .u64 2,.int .u64 13,.int .u64 22] 215)) HOK.out.a (by decide) (by decide) (fun i h=>by
           have r:=M.RowAt.new w3 215 #[.int .u64 2,.int .u64 13,.int .u64 22]
           rw [hmm] at r
           rw [r.cell]
           match i,h with
           | 0,_=>rfl
           | 1,_=>rfl
           | 2,_=>rfl)
          have TN:=Lib.hid tn
          have ci4:=ci3.same ((Below.refl _ w3).alloc (Nat.le_refl _) (.cells #[.int .u64 2,.int .u64 13,.int .u64 22] 215))
          have pm4:=pm3.call ((Below.refl _ w3).alloc (Nat.le_refl _) (.cells #[.int .u64 2,.int .u64 13,.int .u64 22] 215))
          clear tn ci3 pm3
          go_wp2_with fail
          refine (TN.out).mono ?_
          rintro e w4 ⟨rfl,rfl⟩
          generalize w3.alloc (.cells #[.int .u64 2,.int .u64 13,.int .u64 22] 215)=w4 at *
          clear TN hmm
          have pm5:=pm4.setRow (stV ⟨NA,st.a,st.b,st.c,NE,st.e,st.f,st.g⟩)
          have ci5:CI n w s WF (w4.setRow m (stV ⟨NA,st.a,st.b,st.c,NE,st.e,st.f,st.g⟩)):=
           ⟨ci4.r0.farRow (by omega) _,ci4.r1.farRow (by omega) _,ci4.r2.farRow (by omega) _,M.below_setRow ci4.below (by omega)⟩
          have rr:=pm4
          unfold M.RowAt at rr
          have hz1:(stV st).size=(stV ⟨NA,st.a,st.b,st.c,NE,st.e,st.f,st.g⟩).size:=by rw [M.rowF_size,M.rowF_size]
          have iN:(Tryz.prog.info? 330).map (·.size)=some (stV ⟨NA,st.a,st.b,st.c,NE,st.e,st.f,st.g⟩).size:=by rw [M.rowF_size];kernel_rfl
          have oN:(stV ⟨NA,st.a,st.b,st.c,NE,st.e,st.f,st.g⟩).all (·.oneCell')=true:=M.rowF_one
          go_wp2_with (refine wpList_store_row (x:=.tmp 13) (y:=.tmp 154) (cells:=stV ⟨NA,st.a,st.b,st.c,NE,st.e,st.f,st.g⟩) (old:=stV st) (t:=330) (ty:=330) (g:=m) ?_ ?_ ?_ ?_ rr iN hz1 oN ?_;rfl;rfl;rfl;rfl)
          go_roundg (64-(k+1))
          case measure=>omega
          case rel=>exact ⟨k+1,by omega,by go_num,ci5,by rw [HRS.out,HX.out,HNN.out];exact pm5⟩
        · obtain rfl:k=64:=by omega
          obtain ⟨rv,hrv⟩:∃ rv,Sha.run WF s 64=rv:=⟨_,rfl⟩
          have hcp:Sha.compress s b=Sha.add s rv:=by rw [←hrv,← HWF.out];rfl
          rw [hrv] at pm
          have hvok:=Sha.run_ok (W:=WF) hs 64
          rw [hrv] at hvok
          have HCP:=Lib.hid hcp
          have cc:∃ f:Nat→Nat,(∀ j,j<8→f j=if j<0 then (Sha.add s rv).get j else s.get j)∧M.RowAt wr n 330 (r32 8 f)∧M.RowAt wr (n+1) 330 Z8∧M.RowAt wr m 330 (stV rv)∧Below n w wr:=
           ⟨s.get,fun j _=>rfl,ci.r0,ci.r1,pm,ci.below⟩
          have HVOK:=Lib.hid hvok
          clear ci pm hrv hcp hvok hlt
          go_wp2
          go_loopg [156] 8 (fun m' i v=>∃ (k:Nat) (f:Nat→Nat),m'+k=8∧i=.int .i64 k∧(∀ j,j<8→f j=if j<k then (Sha.add s rv).get j else s.get j)∧M.RowAt v n 330 (r32 8 f)∧M.RowAt v (n+1) 330 Z8∧M.RowAt v m 330 (stV rv)∧Below n w v)
          case atStart=>
           obtain ⟨f,h1,h2⟩:=cc
           exact ⟨0,f,by omega,rfl,h1,h2⟩
          case round=>
           clear cc hm'
           obtain ⟨k,f,hm',rfl,hf,c0,c1,c2,cb⟩:=hrel
           by_cases hlt:k<8
           · have HF:=Lib.hid hf
             clear hf
             have e1:=(c0.cell k).trans (M.rowF_get hlt)
             have e2:=st_cell c2 k hlt
             have fk:f k=s.get k:=by rw [HF.out k hlt,if_neg (by omega)]
             rw [fk] at e1
             have hg:=Sha.add_get s rv k hlt
             have l1:=Sha.St.get_lt hs k
             have l2:=Sha.St.get_lt HVOK.out k
             have d0:=c0.drew;have d1:=c1.drew;have d2:=c2.drew
             have db:=cb.drew
             have d5:=d0.frozen k
             have d6:=(d0.cell k).trans (M.rowF_get hlt)
             rw [fk] at d6
             have e3:=d0.set k (.int .u32 ((Sha.add s rv).get k:Nat))
             rw [M.rowF_set (g:=fun j=>((if j=k then (Sha.add s rv).get k else f j:Nat):Int)) _ hlt (fun j _=>by split<;>rfl)] at e3
             have e4:=d1.far (p:=⟨n,k,none⟩) (by show n≠n+1;omega) (.int .u32 ((Sha.add s rv).get k:Nat))
             have e5:=d2.far (p:=⟨n,k,none⟩) (by show n≠m;omega) (.int .u32 ((Sha.add s rv).get k:Nat))
             have e6:Below n w (wr.drew.setCell ⟨n,k,none⟩ (.int .u32 ((Sha.add s rv).get k:Nat))):=db.setCell (Nat.le_refl _) _
             have hF2:∀ j,j<8→(if j=k then (Sha.add s rv).get k else f j)=if j<k+1 then (Sha.add s rv).get j else s.get j:=fun j hj=>by
              by_cases h:j=k
              · rw [if_pos h,if_pos (by omega),h]
              · rw [if_neg h,HF.out j hj]
                by_cases h2:j<k
                · rw [if_pos h2,if_pos (by omega)]
                · rw [if_neg h2,if_neg (by omega)]
             have HF2:=Lib.hid hF2
             obtain ⟨F2,hF2'⟩:∃ F2:Nat→Nat,(fun j=>if j=k then (Sha.add s rv).get k else f j)=F2:=⟨_,rfl⟩
             have e3:M.RowAt (wr.drew.setCell ⟨n,k,none⟩ (.int .u32 ((Sha.add s rv).get k:Nat))) n 330 (r32 8 F2):=by rw [←hF2'];exact e3
             have hF3:∀ j,j<8→F2 j=if j<k+1 then (Sha.add s rv).get j else s.get j:=fun j hj=>by rw [←hF2'];exact HF2.out j hj
             have HF3:=Lib.hid hF3
             clear hF2 hF2' hF3 fk HF2 d0 d1 d2 db
             generalize (Sha.add s rv).get k=N at *
             generalize s.get k=x at *
             generalize rv.get k=y at *
             have hs1:IntKind.u32.wrap ((x:Int)+(y:Int))=(N:Int):=by rw [IntKind.wrap_u32];omega
             have hs2:((x:Int)+(y:Int))%4294967296=(N:Int):=by omega
             clear hg l1 l2
             have HE3:=Lib.hid e3;have HE4:=Lib.hid e4;have HE5:=Lib.hid e5;have HE6:=Lib.hid e6
             clear e3 e4 e5 e6 c0 c1 c2 cb
             go_wp2_with fail
             go_still_tail 8,(by kernel_rfl)
             change wpList _ _ _ _ _ wr.drew
             generalize wr.drew=w5 at *
             go_wp2
             go_roundg (8-(k+1))
             case measure=>omega
             case rel=>exact ⟨k+1,F2,by omega,by go_num,HF3.out,HE3.out,HE4.out,HE5.out,HE6.out⟩
           · obtain rfl:k=8:=by omega
             have hfin:r32 8 f=stV (Sha.add s rv):=M.rowF_congr (fun j hj=>by rw [hf j hj,if_pos hj])
             rw [hfin] at c0
             have HCF:Hid (stV (Sha.add s rv)=stV (Sha.compress s b)):=Lib.hid (by rw [HCP.out])
             obtain ⟨D,hD⟩:∃ D,stV (Sha.add s rv)=D:=⟨_,rfl⟩
             have sD:D.size=Z8.size:=by rw [←hD,M.rowF_size];rfl
             have oD:D.all (·.oneCell')=true:=by rw [←hD];exact M.rowF_one
             have iD:(Tryz.prog.info? 330).map (·.size)=some D.size:=by rw [sD];kernel_rfl
             have HD:=Lib.hid hD
             rw [hD] at c0
             have q6:=c1.setRow D
             have b6:=M.below_setRow (g:=n+1) (cs:=D) cb (by omega)
             unfold M.RowAt at c0 c1
             clear hf hfin hD
             go_wp2_with (first
              | (refine wpList_load_row (x:=.tmp 2) (ty:=330) (g:=n) (cs:=D) (t:=330) (fr:=(0,0)) ?_ ?_ ?_ _ c0 Tryz.underlying330 rfl iD ?_;rfl;rfl;rfl)
              | (refine wpList_store_row (x:=.tmp 4) (y:=.tmp 168) (cells:=D) (old:=Z8) (t:=330) (ty:=330) (g:=n+1) ?_ ?_ ?_ ?_ c1 iD sD.symm oD ?_;rfl;rfl;rfl;rfl))
             have hload:=run_loadVar_row (P:=Tryz.prog) _ (n+1) 330 330 D (0,0) _ q6 Tryz.underlying330 rfl iD
             refine bodyPost_ret (v:=.tuple #[.agg D,.bool true]) (by simp [results,Tryz.results275,asAddr,hload]) rfl ⟨by rw [←HD.out,HCF.out],?_⟩
             rw [HN.out]
             exact b6
open Go.RowKit
set_option linter.unusedVariables false
abbrev r8 (n:Nat) (f:Nat→Nat):Array Value:=M.rowF .u8 n fun i=>(f i:Nat)
abbrev stW (s:Sha.St):Array Value:=M.rowF .u32 8 fun i=>(s.get i:Nat)
def Z32:Array Value:=#[.int .u8 0,.int .u8 0,.int .u8 0,.int .u8 0,.int .u8 0,.int .u8 0,.int .u8 0,.int .u8 0,.int .u8 0,.int .u8 0,.int .u8 0,.int .u8 0,.int .u8 0,.int .u8 0,.int .u8 0,.int .u8 0,.int .u8 0,.int .u8 0,.int .u8 0,.int .u8 0,.int .u8 0,.int .u8 0,.int .u8 0,.int .u8 0,.int .u8 0,.int .u8 0,.int .u8 0,.int .u8 0,.int .u8 0,.int .u8 0,.int .u8 0,.int .u8 0]
theorem z32_r8:r8 32 (fun _=>0)=Z32:=by rfl
def upto (f:Nat→Nat) (k:Nat):Nat→Nat:=fun j=>if j<k then f j else 0
theorem upto_set (f:Nat→Nat) (k n:Nat) (h:k<n):(r8 n (upto f k)).setIfInBounds k (.int .u8 (f k:Nat))=r8 n (upto f (k+1)):=
 M.rowF_set (g:=fun i=>((upto f (k+1) i:Nat):Int)) _ h (fun j _=>by
  unfold upto
  by_cases he:j=k
  · rw [if_pos he,if_pos (by omega),he]
  · rw [if_neg he]
    by_cases hl:j<k
    · rw [if_pos hl,if_pos (by omega)]
    · rw [if_neg hl,if_neg (by omega)])
theorem upto_all (f:Nat→Nat) (n:Nat):r8 n (upto f n)=r8 n f:=M.rowF_congr (fun i hi=>by unfold upto;rw [if_pos hi])
theorem upto_zero (f:Nat→Nat):r8 32 (upto f 0)=Z32:=by rw [←z32_r8];exact M.rowF_congr (fun i hi=>by unfold upto;rw [if_neg (by omega)])
theorem upto_at (f:Nat→Nat) (k:Nat):upto f k k=0:=by unfold upto;rw [if_neg (by omega)]
set_option maxRecDepth 100000 in
set_option maxHeartbeats 1000000 in
theorem bytes_any (s:Sha.St) (w:World) (hs:s.ok) :
 Calls Tryz.prog 203 #[.agg (stW s)] w fun e w'=>e=.returned (.agg (r8 32 (Sha.out s)))∧Below w.heap.size w w':=by
 obtain ⟨n,hn⟩:∃ n,w.heap.size=n:=⟨_,rfl⟩
 have HN:=Lib.hid hn
 obtain ⟨v0,hv0⟩:∃ v0,((w.alloc (.cells (stW s) 330)).alloc (.cells #[.int .u8 0,.int .u8 0,.int .u8 0,.int .u8 0,.int .u8 0,.int .u8 0,.int .u8 0,.int .u8 0,.int .u8 0,.int .u8 0,.int .u8 0,.int .u8 0,.int .u8 0,.int .u8 0,.int .u8 0,.int .u8 0,.int .u8 0,.int .u8 0,.int .u8 0,.int .u8 0,.int .u8 0,.int .u8 0,.int .u8 0,.int .u8 0,.int .u8 0,.int .u8 0,.int .u8 0,.int .u8 0,.int .u8 0,.int .u8 0,.int .u8 0,.int .u8 0] 47)).alloc (.cells #[.int .u8 0,.int .u8 0,.int .u8 0,.int .u8 0,.int .u8 0,.int .u8 0,.int .u8 0,.int .u8 0,.int .u8 0,.int .u8 0,.int .u8 0,.int .u8 0,.int .u8 0,.int .u8 0,.int .u8 0,.int .u8 0,.int .u8 0,.int .u8 0,.int .u8 0,.int .u8 0,.int .u8 0,.int .u8 0,.int .u8 0,.int .u8 0,.int .u8 0,.int .u8 0,.int .u8 0,.int .u8 0,.int .u8 0,.int .u8 0,.int .u8 0,.int .u8 0] 47)=v0:=⟨_,rfl⟩
 have c0:M.RowAt v0 n 330 (stW s)∧M.RowAt v0 (n+1) 47 Z32∧M.RowAt v0 (n+1+1) 47 (r8 32 (upto (Sha.out s) 0))∧Below n w v0:=by
  rw [←hv0,upto_zero]
  subst hn
  have a1:=M.RowAt.new w 330 (stW s)
  have a2:=M.RowAt.new (w.alloc (.cells (stW s) 330)) 47 Z32
  have a3:=M.RowAt.new ((w.alloc (.cells (stW s) 330)).alloc (.cells Z32 47)) 47 Z32
  rw [World.size_alloc] at a2 a3
  rw [World.size_alloc] at a3
  exact ⟨(a1.alloc _).alloc _,a2.alloc _,a3,(((Below.refl _ _).alloc (Nat.le_refl _) _).alloc (by simp) _).alloc (by simp;omega) _⟩
 obtain ⟨C,hC⟩:∃ C,stW s=C:=⟨_,rfl⟩
 have HC:=Lib.hid hC
 rw [hC] at hv0 ⊢
 have HV:=Lib.hid hv0
 clear hv0 hC
 go_enter Tryz.func203,Tryz.ntmps203
 go_wp2
 rw [HV.out]
 clear hn
 go_loopg [5] 32 (fun m i v=>∃ k:Nat,m+k=32∧i=.int .i64 k∧M.RowAt v n 330 (stW s)∧M.RowAt v (n+1) 47 Z32∧M.RowAt v (n+1+1) 47 (r8 32 (upto (Sha.out s) k))∧Below n w v)
 case atStart=>exact ⟨0,by omega,rfl,c0⟩
 case round=>
  clear c0
  obtain ⟨k,hm,rfl,p0,p1,p2,hb⟩:=hrel
  by_cases hlt:k<32
  · have q0:=st_cell p0 (k/4) (by omega)
    have q2:=(p2.cell k).trans (M.rowF_get hlt)
    rw [upto_at] at q2
    have f2:=p2.frozen k
    have w4:((k:Int)/4).toNat=k/4:=by omega
    have hx:=Sha.St.get_lt hs (k/4)
    have e1:Sha.out s k=s.get (k/4)/2 ^ (24-8*(k%4))%256:=rfl
    generalize s.get (k/4)=x at *
    have HX:=Lib.hid hx
    have HE:=Lib.hid e1
    clear hx e1
    have ev:(x:Int)/2 ^ (24-8*(k%4))%256=((Sha.out s k:Nat):Int):=by
     rw [HE.out,pow_nat];norm_cast
    have EV:=Lib.hid ev
    have r2:=p2.set k (.int .u8 ((x:Int)/2 ^ (24-8*(k%4))%256))
    rw [ev,upto_set _ _ _ hlt,← ev] at r2
    have r0:=p0.far (p:=⟨n+1+1,k,none⟩) (by show n+1+1≠n;omega) (.int .u8 ((x:Int)/2 ^ (24-8*(k%4))%256))
    have r1:=p1.far (p:=⟨n+1+1,k,none⟩) (by show n+1+1≠n+1;omega) (.int .u8 ((x:Int)/2 ^ (24-8*(k%4))%256))
    have rb:Below n w (wr.setCell ⟨n+1+1,k,none⟩ (.int .u8 ((x:Int)/2 ^ (24-8*(k%4))%256))):=hb.setCell (by show n≤n+1+1;omega) _
    have R0:=Lib.hid r0;have R1:=Lib.hid r1;have R2:=Lib.hid r2;have RB:=Lib.hid rb
    clear ev r0 r1 r2 rb
    go_wp2
    go_roundg (32-(k+1))
    case measure=>omega
    case rel=>exact ⟨k+1,by omega,by go_num,R0.out,R1.out,R2.out,RB.out⟩
  · obtain rfl:k=32:=by omega
    rw [upto_all] at p2
    obtain ⟨D,hD⟩:∃ D,r8 32 (Sha.out s)=D:=⟨_,rfl⟩
    have sD:D.size=Z32.size:=by rw [←hD,M.rowF_size];rfl
    have oD:D.all (·.oneCell')=true:=by rw [←hD];exact M.rowF_one
    have iD:(Tryz.prog.info? 47).map (·.size)=some D.size:=by rw [sD];kernel_rfl
    have HD:=Lib.hid hD
    rw [hD] at p2
    have q6:=p1.setRow D
    have b6:=M.below_setRow (g:=n+1) (cs:=D) hb (by omega)
    have ud:Tryz.prog.underlying 47=some (.array 32 5):=by kernel_rfl
    unfold M.RowAt at p1 p2
    clear hD
    go_wp2_with (first
     | (refine wpList_load_row (x:=.tmp 3) (ty:=47) (g:=n+1+1) (cs:=D) (t:=47) (fr:=(0,0)) ?_ ?_ ?_ _ p2 ud rfl iD ?_;rfl;rfl;rfl)
     | (refine wpList_store_row (x:=.tmp 2) (y:=.tmp 21) (cells:=D) (old:=Z32) (t:=47) (ty:=47) (g:=n+1) ?_ ?_ ?_ ?_ p1 iD sD.symm oD ?_;rfl;rfl;rfl;rfl))
    have hload:=run_loadVar_row (P:=Tryz.prog) _ (n+1) 47 47 D (0,0) _ q6 ud rfl iD
    refine bodyPost_ret (v:=.agg D) (by simp [results,Tryz.results203,asAddr,Act.put,hload]) rfl ⟨by rw [HD.out],?_⟩
    rw [HN.out]
    exact b6
open Go.RowKit
set_option linter.unusedVariables false
structure BC (n:Nat) (w:World) (h:Sha.St) (v:World):Prop where
 r0:v.heap[n]?=some (.cells (stV h) 330 (0,0))
 r1:v.heap[n+1]?=some (.cells Z8 330 (0,0))
 below:Below n w v
theorem BC.drew {n:Nat} {w:World} {h:Sha.St} {v:World} (c:BC n w h v):BC n w h v.drew:=⟨c.r0,c.r1,c.below.drew⟩
theorem BC.same {n:Nat} {w:World} {h:Sha.St} {v v':World} (c:BC n w h v) (hb:Below v.heap.size v v'):BC n w h v':=
 ⟨M.RowAt.call c.r0 hb,M.RowAt.call c.r1 hb,c.below.trans (hb.mono (by have:=M.RowAt.lt c.r0;omega))⟩
theorem BC.set {n:Nat} {w:World} {h h':Sha.St} {v:World} (c:BC n w h v):BC n w h' (v.setRow n (stV h')):=
 ⟨M.RowAt.setRow c.r0 _,M.RowAt.farRow c.r1 (by omega) _,M.below_setRow c.below (Nat.le_refl _)⟩
theorem st_size (h:Sha.St):(stV h).size=8:=M.rowF_size
theorem st_info (h:Sha.St):(Tryz.prog.info? 330).map (·.size)=some (stV h).size:=by rw [st_size];kernel_rfl
theorem cut_front (b:ByteArray) (i:Nat) (h:i+64≤b.size):(b.extract i b.size).extract 0 64=b.extract i (i+64):=by
 apply ByteArray.ext
 simp
 congr 1
 have:b.data.size=b.size:=rfl
 omega
theorem cut_back (b:ByteArray) (i:Nat):(b.extract i b.size).extract 64 (b.extract i b.size).size=b.extract (i+64) b.size:=by
 apply ByteArray.ext
 simp
 have:b.data.size=b.size:=rfl
 congr 1<;>omega
theorem cut_all (b:ByteArray):b.extract 0 b.size=b:=by
 apply ByteArray.ext
 simp
set_option maxRecDepth 100000 in
set_option maxHeartbeats 2000000 in
theorem blocks_any (s:Sha.St) (t:ByteArray) (w:World) (hs:s.ok) (ht:Tabs w) (htl:t.size≤1000000000000000) :
 Calls Tryz.prog 204 #[.agg (stV s),.string t] w fun e w'=>e=.returned (.agg (stV (Sha.blk s t (t.size/64))))∧Below w.heap.size w w':=by
 obtain ⟨n,hn⟩:∃ n,w.heap.size=n:=⟨_,rfl⟩
 have HN:=Lib.hid hn
 have h1n:4<n:=hn▸ht.lt
 obtain ⟨C,hC⟩:∃ C,stV s=C:=⟨_,rfl⟩
 obtain ⟨v0,hv0⟩:∃ v0,(w.alloc (.cells C 330)).alloc (.cells #[.int .u32 0,.int .u32 0,.int .u32 0,.int .u32 0,.int .u32 0,.int .u32 0,.int .u32 0,.int .u32 0] 330)=v0:=⟨_,rfl⟩
 have c0:BC n w s v0:=by
  rw [←hv0,← hC]
  subst hn
  have a1:=M.RowAt.new w 330 (stV s)
  have a2:=M.RowAt.new (w.alloc (.cells (stV s) 330)) 330 Z8
  rw [World.size_alloc] at a2
  exact ⟨a1.alloc _,a2,((Below.refl _ _).alloc (Nat.le_refl _) _).alloc (by simp) _⟩
 have T1:∀ v,Below n w v→Tabs v:=fun v hv=>ht.below hv h1n
 have HT:=Lib.hid T1
 have HC:=Lib.hid hC
 rw [hC]
 have HV:=Lib.hid hv0
 clear hv0 hC T1 ht
 have t0:t=t.extract 0 t.size:=(cut_all t).symm
 have T0:=Lib.hid t0
 clear t0
 go_enter Tryz.func204,Tryz.ntmps204
 go_wp2
 rw [HV.out]
 clear hn
 go_loopg [1] (t.size/64) (fun m u v=>∃ (k:Nat),m+k=t.size/64∧u=.string (t.extract (64*k) t.size)∧BC n w (Sha.blk s t k) v)
 case atStart=>exact ⟨0,by omega,by rw [Nat.mul_zero,← T0.out],c0⟩
 case round=>
  clear c0
  obtain ⟨k,hm,rfl,bc⟩:=hrel
  have hsz:(t.extract (64*k) t.size).size=t.size-64*k:=by simp
  by_cases hlt:k<t.size/64
  · have h64:64≤(t.extract (64*k) t.size).size:=by omega
    have hcf:=cut_front t (64*k) (by omega)
    have hcb:=cut_back t (64*k)
    have hok:=Sha.blk_ok hs t k
    have hbs:(t.extract (64*k) (64*k+64)).size=64:=by simp;omega
    have hcm:Sha.blk s t (k+1)=Sha.compress (Sha.blk s t k) (t.extract (64*k) (64*k+64)):=rfl
    obtain ⟨sk,hsk⟩:∃ sk,Sha.blk s t k=sk:=⟨_,rfl⟩
    rw [hsk] at bc hok hcm
    obtain ⟨R,hR⟩:∃ R,t.extract (64*k) t.size=R:=⟨_,rfl⟩
    rw [hR] at h64 hcf hcb hsz
    obtain ⟨X,hX⟩:∃ X,t.extract (64*k) (64*k+64)=X:=⟨_,rfl⟩
    rw [hX] at hcf hbs hcm
    have cx:=fun v hv=>compress_any sk X v hok hbs hv
    obtain ⟨s2,hs2⟩:∃ s2,Sha.compress sk X=s2:=⟨_,rfl⟩
    rw [hs2] at cx hcm
    have CX:=Lib.hid cx;have HCM:=Lib.hid hcm;have HCF:=Lib.hid hcf;have HCB:=Lib.hid hcb;have HR:=Lib.hid hR
    rw [hR]
    have h64':(64:Int)≤R.size:=by omega
    have hRl:R.size≤1000000000000000:=by omega
    have iS:=st_info sk
    have iS2:=st_info s2
    have zS:(stV sk).size=(stV s2).size:=by rw [st_size,st_size]
    have oS:(stV s2).all (·.oneCell')=true:=M.rowF_one
    clear cx hcm hcf hcb hR hX hsk hs2 hbs hok hsz
    go_wp2_with fail
    refine QP.wp_region_p 7 (BC n w sk) (BC n w s2) (by kernel_rfl) (by kernel_rfl) bc.drew ?_
    iterate 8
     (refine QP.wpQ_step (fun K hK=>?_)
      go_simp
      first
       | (refine hK _ ?_;clear hK K)
       | (refine ⟨?_,hK _ ?_⟩;decide;clear hK K)
       | ((first | (apply Exists.intro;refine ⟨?_,hK _ ?_⟩) | refine ⟨⟨undef,?_⟩,hK _ ?_⟩)
          first
           | (apply QP.al_p;decide;(focus (intro wq hq;(skip);first | (first | (refine QP.oat_load_row (ty:=330) (x:=.tmp 2) (g:=n) (t:=330) (cs:=stV sk) (fr:=(0,0)) ?_ ?_ _ hq.r0 Tryz.underlying330 rfl iS hq;rfl;rfl) | (refine QP.oat_store_row (ty:=330) (x:=.tmp 2) (y:=.tmp 15) (g:=n) (cells:=stV s2) (t:=330) (old:=stV sk) ?_ ?_ ?_ hq.r0 iS2 zS oS hq.set;rfl;rfl;rfl)) | (unfold QP.oat;go_simp;first | done | exact ⟨by assumption,rfl⟩ | exact rfl | assumption | (rw [HCF.out];refine (CX.out _ (HT.out _ hq.below)).mono ?_;rintro e w' ⟨rfl,gq⟩;exact ⟨rfl,hq.same gq⟩)))))
           | (apply QP.al_dep;decide;decide;(focus (intro wq hq;(skip);first | (first | (refine QP.oat_load_row (ty:=330) (x:=.tmp 2) (g:=n) (t:=330) (cs:=stV sk) (fr:=(0,0)) ?_ ?_ _ hq.r0 Tryz.underlying330 rfl iS hq;rfl;rfl) | (refine QP.oat_store_row (ty:=330) (x:=.tmp 2) (y:=.tmp 15) (g:=n) (cells:=stV s2) (t:=330) (old:=stV sk) ?_ ?_ ?_ hq.r0 iS2 zS oS hq.set;rfl;rfl;rfl)) | (unfold QP.oat;go_simp;first | done | exact ⟨by assumption,rfl⟩ | exact rfl | assumption | (rw [HCF.out];refine (CX.out _ (HT.out _ hq.below)).mono ?_;rintro e w' ⟨rfl,gq⟩;exact ⟨rfl,hq.same gq⟩)))))
           | (apply QP.al_bef;decide;decide;(focus (intro wq hq;(skip);first | (first | (refine QP.oat_load_row (ty:=330) (x:=.tmp 2) (g:=n) (t:=330) (cs:=stV sk) (fr:=(0,0)) ?_ ?_ _ hq.r0 Tryz.underlying330 rfl iS hq;rfl;rfl) | (refine QP.oat_store_row (ty:=330) (x:=.tmp 2) (y:=.tmp 15) (g:=n) (cells:=stV s2) (t:=330) (old:=stV sk) ?_ ?_ ?_ hq.r0 iS2 zS oS hq.set;rfl;rfl;rfl)) | (unfold QP.oat;go_simp;first | done | exact ⟨by assumption,rfl⟩ | exact rfl | assumption | (rw [HCF.out];refine (CX.out _ (HT.out _ hq.below)).mono ?_;rintro e w' ⟨rfl,gq⟩;exact ⟨rfl,hq.same gq⟩)))))
           | (apply QP.al_ok;decide;(focus (intro wq hq;(skip);first | (first | (refine QP.oat_load_row (ty:=330) (x:=.tmp 2) (g:=n) (t:=330) (cs:=stV sk) (fr:=(0,0)) ?_ ?_ _ hq.r0 Tryz.underlying330 rfl iS hq;rfl;rfl) | (refine QP.oat_store_row (ty:=330) (x:=.tmp 2) (y:=.tmp 15) (g:=n) (cells:=stV s2) (t:=330) (old:=stV sk) ?_ ?_ ?_ hq.r0 iS2 zS oS hq.set;rfl;rfl;rfl)) | (unfold QP.oat;go_simp;first | done | exact ⟨by assumption,rfl⟩ | exact rfl | assumption | (rw [HCF.out];refine (CX.out _ (HT.out _ hq.below)).mono ?_;rintro e w' ⟨rfl,gq⟩;exact ⟨rfl,hq.same gq⟩))));(focus (intro wq hq;(skip);first | (first | (refine QP.oat_load_row (ty:=330) (x:=.tmp 2) (g:=n) (t:=330) (cs:=stV sk) (fr:=(0,0)) ?_ ?_ _ hq.r0 Tryz.underlying330 rfl iS hq;rfl;rfl) | (refine QP.oat_store_row (ty:=330) (x:=.tmp 2) (y:=.tmp 15) (g:=n) (cells:=stV s2) (t:=330) (old:=stV sk) ?_ ?_ ?_ hq.r0 iS2 zS oS hq.set;rfl;rfl;rfl)) | (unfold QP.oat;go_simp;first | done | exact ⟨by assumption,rfl⟩ | exact rfl | assumption | (rw [HCF.out];refine (CX.out _ (HT.out _ hq.below)).mono ?_;rintro e w' ⟨rfl,gq⟩;exact ⟨rfl,hq.same gq⟩)))))
          clear hK K))
    refine QP.wpQ_nil ?_
    intro wz bz
    go_wp2
    rw [HCB.out]
    go_roundg (t.size/64-(k+1))
    case measure=>omega
    case rel=>exact ⟨k+1,by omega,by rw [Nat.mul_add],by rw [HCM.out];exact bz⟩
  · obtain rfl:k=t.size/64:=by omega
    have h64:¬ 64≤(t.extract (64*(t.size/64)) t.size).size:=by omega
    obtain ⟨R,hR⟩:∃ R,t.extract (64*(t.size/64)) t.size=R:=⟨_,rfl⟩
    rw [hR] at h64 hsz ⊢
    obtain ⟨sk,hsk⟩:∃ sk,Sha.blk s t (t.size/64)=sk:=⟨_,rfl⟩
    have HSK:=Lib.hid hsk
    rw [hsk] at bc
    have iS:=st_info sk
    have zS:Z8.size=(stV sk).size:=by rw [st_size];rfl
    have oS:(stV sk).all (·.oneCell')=true:=M.rowF_one
    have r0:=bc.r0
    have r1:=bc.r1
    have q6:=M.RowAt.setRow r1 (stV sk)
    have b6:=M.below_setRow (g:=n+1) (cs:=stV sk) bc.below (by omega)
    clear hR hsk hsz
    go_wp2_with (first
     | (refine wpList_load_row (x:=.tmp 2) (ty:=330) (g:=n) (cs:=stV sk) (t:=330) (fr:=(0,0)) ?_ ?_ ?_ _ r0 Tryz.underlying330 rfl iS ?_;rfl;rfl;rfl)
     | (refine wpList_store_row (x:=.tmp 4) (y:=.tmp 17) (cells:=stV sk) (old:=Z8) (t:=330) (ty:=330) (g:=n+1) ?_ ?_ ?_ ?_ r1 iS zS oS ?_;rfl;rfl;rfl;rfl))
    have hload:=run_loadVar_row (P:=Tryz.prog) _ (n+1) 330 330 (stV sk) (0,0) _ q6 Tryz.underlying330 rfl iS
    refine bodyPost_ret (v:=.agg (stV sk)) (by simp [results,Tryz.results204,asAddr,Act.put,hload]) rfl ⟨by rw [HSK.out],?_⟩
    rw [HN.out]
    exact b6
open Go.RowKit
set_option linter.unusedVariables false
theorem u28:Tryz.prog.underlying 47=some (.array 32 5):=by kernel_rfl
theorem r8_size (f:Nat→Nat):(r8 32 f).size=32:=M.rowF_size
theorem r8_info (f:Nat→Nat):(Tryz.prog.info? 47).map (·.size)=some (r8 32 f).size:=by rw [r8_size];kernel_rfl
theorem r8_zero (f:Nat→Nat):Z32.size=(r8 32 f).size:=by rw [r8_size];rfl
theorem r8_one (f:Nat→Nat):(r8 32 f).all (·.oneCell')=true:=M.rowF_one
theorem Tabs.range {w:World} (h:Tabs w):w.rangeAt 0 0 (stV Sha.begin0).toList:=fun j v hv=>by
 rw [Array.getElem?_toList] at hv
 by_cases hj:j<8
 · rw [M.rowF_get hj] at hv
   rw [Nat.zero_add,h.b j hj];exact hv
 · rw [M.rowF_out (by omega)] at hv;cases hv
structure BS (n:Nat) (w:World) (R:Array Value) (v:World):Prop where
 r:v.heap[n]?=some (.cells R 47 (0,0))
 below:Below n w v
theorem BS.drew {n:Nat} {w:World} {R:Array Value} {v:World} (c:BS n w R v):BS n w R v.drew:=⟨c.r,c.below.drew⟩
theorem BS.same {n:Nat} {w:World} {R:Array Value} {v v':World} (c:BS n w R v) (hb:Below v.heap.size v v'):BS n w R v':=
 ⟨M.RowAt.call c.r hb,c.below.trans (hb.mono (by have:=M.RowAt.lt c.r;omega))⟩
theorem BS.set {n:Nat} {w:World} {R R':Array Value} {v:World} (c:BS n w R v):BS n w R' (v.setRow n R'):=
 ⟨M.RowAt.setRow c.r _,M.below_setRow c.below (Nat.le_refl _)⟩
set_option maxRecDepth 100000 in
set_option maxHeartbeats 2000000 in
theorem sum_any (t:ByteArray) (w:World) (ht:Tabs w) (hts:t.size≤100000000000) :
 Calls Tryz.prog 128 #[.string t] w fun e w'=>e=.returned (.agg (r8 32 (Sha.sum t)))∧Below w.heap.size w w':=by
 obtain ⟨n,hn⟩:∃ n,w.heap.size=n:=⟨_,rfl⟩
 have HN:=Lib.hid hn
 have h1n:4<n:=hn▸ht.lt
 obtain ⟨v0,hv0⟩:∃ v0,w.alloc (.cells #[.int .u8 0,.int .u8 0,.int .u8 0,.int .u8 0,.int .u8 0,.int .u8 0,.int .u8 0,.int .u8 0,.int .u8 0,.int .u8 0,.int .u8 0,.int .u8 0,.int .u8 0,.int .u8 0,.int .u8 0,.int .u8 0,.int .u8 0,.int .u8 0,.int .u8 0,.int .u8 0,.int .u8 0,.int .u8 0,.int .u8 0,.int .u8 0,.int .u8 0,.int .u8 0,.int .u8 0,.int .u8 0,.int .u8 0,.int .u8 0,.int .u8 0,.int .u8 0] 47)=v0:=⟨_,rfl⟩
 have c0:BS n w Z32 v0:=by
  rw [←hv0]
  subst hn
  exact ⟨M.RowAt.new w 47 Z32,(Below.refl _ _).alloc (Nat.le_refl _) _⟩
 have T1:∀ v,Below n w v→Tabs v:=fun v hv=>ht.below hv h1n
 have HT:=Lib.hid T1
 have HV:=Lib.hid hv0
 have n1:=fun v=>pad_any t v (by omega)
 have hps:=Sha.pad_size t
 have hz:=zeros_lt t.size
 have n2:=fun v hv=>blocks_any Sha.begin0 (Sha.pad t) v Sha.begin0_ok hv (by omega)
 have hwd:Sha.blk Sha.begin0 (Sha.pad t) ((Sha.pad t).size/64)=Sha.words t:=rfl
 rw [hwd] at n2
 have n3:=fun v=>bytes_any (Sha.words t) v (Sha.words_ok t)
 have hsm:Sha.out (Sha.words t)=Sha.sum t:=rfl
 rw [hsm] at n3
 obtain ⟨P,hP⟩:∃ P,Sha.pad t=P:=⟨_,rfl⟩
 rw [hP] at n1 n2
 obtain ⟨W,hW⟩:∃ W,Sha.words t=W:=⟨_,rfl⟩
 rw [hW] at n2 n3
 obtain ⟨F,hF⟩:∃ F,Sha.sum t=F:=⟨_,rfl⟩
 rw [hF] at n3 ⊢
 have N1:=Lib.hid n1;have N2:=Lib.hid n2;have N3:=Lib.hid n3
 have iF:=r8_info F
 have zF:=r8_zero F
 have oF:=r8_one F
 have i8:(Tryz.prog.info? 330).map (·.size)=some (stV Sha.begin0).toList.length:=by rw [Array.length_toList];exact st_info _
 clear hv0 T1 ht n1 n2 n3 hps hz hwd hsm hP hW hF
 go_enter Tryz.func128,Tryz.ntmps128
 go_wp2_with fail
 rw [HV.out]
 clear hn
 refine QP.wp_region_p 5 (BS n w Z32) (BS n w (r8 32 F)) (by kernel_rfl) (by kernel_rfl) c0.drew ?_
 iterate 6
  (refine QP.wpQ_step (fun K hK=>?_)
   go_simp
   first
    | (refine hK _ ?_;clear hK K)
    | (refine ⟨?_,hK _ ?_⟩;decide;clear hK K)
    | ((first | (apply Exists.intro;refine ⟨?_,hK _ ?_⟩) | refine ⟨⟨undef,?_⟩,hK _ ?_⟩)
       first
        | (apply QP.al_p;decide;(focus (intro wq hq;(skip);first | (first | (refine QP.oat_load_mid (ty:=330) (x:=.global 0) (b:=0) (off:=0) (cs:=(stV Sha.begin0).toList) ?_ ?_ _ (HT.out _ hq.below).range Tryz.underlying330 rfl i8 hq;rfl;rfl) | (refine QP.oat_store_row (ty:=47) (x:=.tmp 2) (y:=.tmp 7) (g:=n) (cells:=r8 32 F) (t:=47) (old:=Z32) ?_ ?_ ?_ hq.r iF zF oF hq.set;rfl;rfl;rfl)) | (unfold QP.oat;go_simp;first | done | exact ⟨by assumption,rfl⟩ | exact rfl | assumption | (first | (refine (N1.out _).mono ?_;rintro e w' ⟨rfl,gq⟩;exact ⟨rfl,hq.same gq⟩) | (refine (N2.out _ (HT.out _ hq.below)).mono ?_;rintro e w' ⟨rfl,gq⟩;exact ⟨rfl,hq.same gq⟩) | (refine (N3.out _).mono ?_;rintro e w' ⟨rfl,gq⟩;exact ⟨rfl,hq.same gq⟩))))))
        | (apply QP.al_dep;decide;decide;(focus (intro wq hq;(skip);first | (first | (refine QP.oat_load_mid (ty:=330) (x:=.global 0) (b:=0) (off:=0) (cs:=(stV Sha.begin0).toList) ?_ ?_ _ (HT.out _ hq.below).range Tryz.underlying330 rfl i8 hq;rfl;rfl) | (refine QP.oat_store_row (ty:=47) (x:=.tmp 2) (y:=.tmp 7) (g:=n) (cells:=r8 32 F) (t:=47) (old:=Z32) ?_ ?_ ?_ hq.r iF zF oF hq.set;rfl;rfl;rfl)) | (unfold QP.oat;go_simp;first | done | exact ⟨by assumption,rfl⟩ | exact rfl | assumption | (first | (refine (N1.out _).mono ?_;rintro e w' ⟨rfl,gq⟩;exact ⟨rfl,hq.same gq⟩) | (refine (N2.out _ (HT.out _ hq.below)).mono ?_;rintro e w' ⟨rfl,gq⟩;exact ⟨rfl,hq.same gq⟩) | (refine (N3.out _).mono ?_;rintro e w' ⟨rfl,gq⟩;exact ⟨rfl,hq.same gq⟩))))))
        | (apply QP.al_bef;decide;decide;(focus (intro wq hq;(skip);first | (first | (refine QP.oat_load_mid (ty:=330) (x:=.global 0) (b:=0) (off:=0) (cs:=(stV Sha.begin0).toList) ?_ ?_ _ (HT.out _ hq.below).range Tryz.underlying330 rfl i8 hq;rfl;rfl) | (refine QP.oat_store_row (ty:=47) (x:=.tmp 2) (y:=.tmp 7) (g:=n) (cells:=r8 32 F) (t:=47) (old:=Z32) ?_ ?_ ?_ hq.r iF zF oF hq.set;rfl;rfl;rfl)) | (unfold QP.oat;go_simp;first | done | exact ⟨by assumption,rfl⟩ | exact rfl | assumption | (first | (refine (N1.out _).mono ?_;rintro e w' ⟨rfl,gq⟩;exact ⟨rfl,hq.same gq⟩) | (refine (N2.out _ (HT.out _ hq.below)).mono ?_;rintro e w' ⟨rfl,gq⟩;exact ⟨rfl,hq.same gq⟩) | (refine (N3.out _).mono ?_;rintro e w' ⟨rfl,gq⟩;exact ⟨rfl,hq.same gq⟩))))))
        | (apply QP.al_ok;decide;(focus (intro wq hq;(skip);first | (first | (refine QP.oat_load_mid (ty:=330) (x:=.global 0) (b:=0) (off:=0) (cs:=(stV Sha.begin0).toList) ?_ ?_ _ (HT.out _ hq.below).range Tryz.underlying330 rfl i8 hq;rfl;rfl) | (refine QP.oat_store_row (ty:=47) (x:=.tmp 2) (y:=.tmp 7) (g:=n) (cells:=r8 32 F) (t:=47) (old:=Z32) ?_ ?_ ?_ hq.r iF zF oF hq.set;rfl;rfl;rfl)) | (unfold QP.oat;go_simp;first | done | exact ⟨by assumption,rfl⟩ | exact rfl | assumption | (first | (refine (N1.out _).mono ?_;rintro e w' ⟨rfl,gq⟩;exact ⟨rfl,hq.same gq⟩) | (refine (N2.out _ (HT.out _ hq.below)).mono ?_;rintro e w' ⟨rfl,gq⟩;exact ⟨rfl,hq.same gq⟩) | (refine (N3.out _).mono ?_;rintro e w' ⟨rfl,gq⟩;exact ⟨rfl,hq.same gq⟩)))));(focus (intro wq hq;(skip);first | (first | (refine QP.oat_load_mid (ty:=330) (x:=.global 0) (b:=0) (off:=0) (cs:=(stV Sha.begin0).toList) ?_ ?_ _ (HT.out _ hq.below).range Tryz.underlying330 rfl i8 hq;rfl;rfl) | (refine QP.oat_store_row (ty:=47) (x:=.tmp 2) (y:=.tmp 7) (g:=n) (cells:=r8 32 F) (t:=47) (old:=Z32) ?_ ?_ ?_ hq.r iF zF oF hq.set;rfl;rfl;rfl)) | (unfold QP.oat;go_simp;first | done | exact ⟨by assumption,rfl⟩ | exact rfl | assumption | (first | (refine (N1.out _).mono ?_;rintro e w' ⟨rfl,gq⟩;exact ⟨rfl,hq.same gq⟩) | (refine (N2.out _ (HT.out _ hq.below)).mono ?_;rintro e w' ⟨rfl,gq⟩;exact ⟨rfl,hq.same gq⟩) | (refine (N3.out _).mono ?_;rintro e w' ⟨rfl,gq⟩;exact ⟨rfl,hq.same gq⟩))))))
       clear hK K))
 refine QP.wpQ_nil ?_
 intro wz bz
 go_wp2
 have hload:=run_loadVar_row (P:=Tryz.prog) _ n 47 47 (r8 32 F) (0,0) _ bz.r u28 rfl iF
 refine bodyPost_ret (v:=.agg (r8 32 F)) (by simp [results,Tryz.results128,asAddr,hload]) rfl ⟨rfl,?_⟩
 rw [HN.out]
 exact bz.below
namespace SX
open Go Go.RowKit
set_option linter.unusedVariables false
section
variable {C:Cfg} {σ:Sig} {ρ:Rho} {h:Hp} {nx:Nat} {w w':World} {gl:Hp}
theorem Sim.below (s:Sim σ gl ρ h nx w) (hb:Below w.heap.size w w'):Sim σ gl ρ h nx w':=by
 refine ⟨s.lim,s.dom,s.top,fun n hn b hg=>?_,s.inj,s.base,fun n hn b hg=>?_⟩
 · obtain ⟨p,hp,hr⟩:=s.live n hn b hg
   exact ⟨p,hp,hr.mono (fun _ _ e=>e) (hb.block _ hr.lt)⟩
 · obtain ⟨p,hp,hpp,hr,ho⟩:=s.gl n hn b hg
   exact ⟨p,hp,hpp,hr.mono (fun _ _ e=>e) (hb.block _ hr.lt),ho⟩
theorem Ext.below (hb:Below w.heap.size w w'):Ext ρ h nx w ρ h nx w':=
 ⟨fun _ _ e=>e,fun _ _=>rfl,Nat.le_refl _,hb.os,hb.tape,hb.output,hb.size,fun _ ho=>.inl ho,fun k hk _=>hb.block k hk⟩
theorem did_below {v v':Value} (s:Sim σ C.E.gl ρ h nx w) (hb:Below w.heap.size w w') (hv:VR σ ρ v v'):Did C.E σ ρ h nx w v h nx v' w':=⟨ρ,hv,s.below hb,Ext.below hb⟩
theorem Sim.glCell (s:Sim σ gl ρ h nx w) {n:Nat} (hn:n<GN) {cs:List Value} (hg:TT.get DH gl n=some (.cells cs)) {i:Nat} {k:IntKind} {x:Int} (hi:cs[i]?=some (.int k x)):w.cell? ⟨n,i,none⟩=some (.int k x):=by
 obtain ⟨p,hp,⟨hb,ho⟩,hr,_⟩:=s.gl n hn _ hg
 obtain ⟨h1,h2,h3,L,h4,h5⟩:=hr
 have hil:i<cs.length:=(List.getElem?_eq_some_iff.1 hi).1
 have hl:i<L.length:=by have:=h4.1;omega
 have hv:=(h4.2 i _ L[i] hi (List.getElem?_eq_getElem hl)).1
 have:=h5 i L[i] (List.getElem?_eq_getElem hl)
 rw [hb,ho,Nat.zero_add,VR.int_inv hv] at this
 exact this
end
noncomputable def aggB (l:List Nat):Value:=.agg ⟨l.map fun n=>.int .u8 (.ofNat n)⟩
theorem flat1_aggB {σ:Sig} {ρ:Rho} (l:List Nat):VR σ ρ (aggB l) (aggB l):=by
 refine .agg _ _ rfl (fun i x x' a b=>?_) (fun i x x' a b=>?_)
 all_goals
  rw [a] at b;cases b
  have a:(l.map fun n=>Value.int .u8 (.ofNat n))[i]?=some x:=by simpa using a
  rw [List.getElem?_map] at a
  obtain ⟨y,_,rfl⟩:=Option.map_eq_some_iff.1 a
  first | exact .int _ _ | exact ⟨rfl,rfl⟩
theorem aggB_r8 (F:Nat→Nat):aggB ((List.range 32).map F)=.agg (r8 32 F):=by
 unfold aggB
 refine congrArg Value.agg ?_
 apply Array.ext'
 show ((List.range 32).map F).map (fun n=>Value.int .u8 (.ofNat n))=(r8 32 F).toList
 rw [List.map_map]
 apply List.ext_getElem?
 intro i
 rw [show (r8 32 F).toList[i]?=(r8 32 F)[i]? from Array.getElem?_toList]
 by_cases hi:i<32
 · rw [M.rowF_get hi,List.getElem?_map,List.getElem?_range hi];rfl
 · rw [M.rowF_out (by omega),List.getElem?_eq_none (by simp;omega)]
noncomputable def hkSum1 (s:ByteArray) (h:Hp) (nx:Nat):XR:=Bool.rec (motive:=fun _=>XR) (.bad "sum: long") (shaF s fun l=>.ok (aggB l) h nx) (Nat.ble s.data.toList.length 100000000000)
noncomputable def hkSum (args:List Value) (h:Hp) (nx:Nat):XR:=match args with | [.string s]=>hkSum1 s h nx | _=>.bad "sum"
def GlTabs (gl:Hp):Prop:=(∃ cs,TT.get DH gl 0=some (.cells cs)∧∀ i,i<8→cs[i]?=some (.int .u32 (Sha.begin0.get i:Nat)))∧(∃ cs,TT.get DH gl 4=some (.cells cs)∧∀ i,i<64→cs[i]?=some (.int .u32 (Sha.k i:Nat)))
theorem GlTabs.tabs {gl:Hp} (g:GlTabs gl) {σ:Sig} {ρ:Rho} {h:Hp} {nx:Nat} {w:World} (s:Sim σ gl ρ h nx w):Tabs w:=by
 obtain ⟨⟨c0,e0,f0⟩,⟨c4,e4,f4⟩⟩:=g
 exact ⟨fun i hi=>s.glCell (by decide) e0 (f0 i hi),fun i hi=>s.glCell (by decide) e4 (f4 i hi)⟩
theorem VL.one {σ:Sig} {ρ:Rho} {v:Value} {l:List Value} (h:VL σ ρ [v] l):∃ v',l=[v']∧VR σ ρ v v':=by
 obtain ⟨v',l',rfl,hv,hl⟩:=h.inv
 obtain rfl:=hl.inv0
 exact ⟨v',rfl,hv⟩
theorem pure_sum:PureX hkSum:=by
 intro args h nx v h' nx' e
 unfold hkSum at e
 split at e
 · rename_i t
   unfold hkSum1 at e
   cases hb:Nat.ble t.data.toList.length 100000000000 with
   | false=>rw [hb] at e;cases e
   | true=>
     rw [hb] at e
     have e:shaF t (fun l=>XR.ok (aggB l) h nx)=.ok v h' nx':=e
     rw [shaF_eq] at e
     injection e with e1 e2 e3
     exact ⟨e2.symm,e3.symm⟩
 · cases e
theorem sum_ok {C:Cfg} (hP:C.E.P=Tryz.prog) (g:GlTabs C.E.gl) {σ:Sig} {ρ:Rho} {args:List Value} {h:Hp} {nx:Nat} {v:Value} {h':Hp} {nx':Nat} {w:World} {args':Array Value} (e:hkSum args h nx=.ok v h' nx') (s:Sim σ C.E.gl ρ h nx w) (hv:VL σ ρ args args'.toList) :
 Calls C.E.P 128 args' w fun e w'=>∃ v',e=.returned v'∧Did C.E σ ρ h nx w v h' nx' v' w':=by
 unfold hkSum at e
 split at e
 · rename_i t
   obtain ⟨x',hx,hxv⟩:=hv.one
   obtain rfl:=VR.string_inv hxv
   have ha:args'=#[.string t]:=by apply Array.ext';exact hx
   subst ha
   unfold hkSum1 at e
   cases hb:Nat.ble t.data.toList.length 100000000000 with
   | false=>rw [hb] at e;cases e
   | true=>
     rw [hb] at e
     have hs:t.size≤100000000000:=by have:=Nat.le_of_ble_eq_true hb;rwa [Array.length_toList] at this
     have e:shaF t (fun l=>XR.ok (aggB l) h nx)=.ok v h' nx':=e
     rw [shaF_eq,aggB_r8] at e
     injection e with e1 e2 e3
     subst e1;subst e2;subst e3
     rw [hP]
     refine (sum_any t w (g.tabs s) hs).mono ?_
     rintro e w' ⟨rfl,hb⟩
     exact ⟨_,rfl,did_below s hb (by rw [←aggB_r8];exact flat1_aggB _)⟩
 · cases e
end SX
open Go.RowKit
set_option linter.unusedVariables false
inductive Th
 | row (g:Nat) (t:TypeId) (cs:Array Value)
 | own (t:TypeId) (sz:Nat) (u:Value) (k:Nat) (xs:List Value)
 | ownF (t:TypeId) (u:Value) (k:Nat) (xs:List Value)
def Th.blk:Th→Option Nat
 | .row g _ _=>some g
 | .own _ _ u _ _=>u.ownBlock
 | .ownF _ u _ _=>u.ownBlock
def Th.at (n:Nat) (v:World):Th→Prop
 | .row g t cs=>M.RowAt v g t cs∧n≤g
 | .own t sz u k xs=>v.ownsRow n t sz u k xs
 | .ownF t u k xs=>v.ownsRowF n t 1 u k xs
abbrev Ths:=List (Nat × Th)
section
variable {n:Nat} {w0 v v':World} {X X':Ths} {a:Nat} {x x':Th}
theorem Th.lt (h:x.at n v):∀ g,x.blk=some g→n≤g∧g<v.heap.size:=fun g hg=>by
 cases x with
 | row g' t cs=>obtain rfl:g'=g:=Option.some.inj hg;exact ⟨h.2,h.1.lt⟩
 | own t sz u k xs=>exact World.ownsRow.lt h g hg
 | ownF t u k xs=>exact World.ownsRowF.lt h g hg
theorem Th.keep (h:x.at n v) {r:Option Nat} (hg:v.grownBy v' r) (hr:x.blk=none∨x.blk≠r):x.at n v':=by
 cases x with
 | row g t cs=>
   refine ⟨?_,h.2⟩
   have h1:=h.1
   unfold M.RowAt at *
   rw [hg.block g (M.RowAt.lt h.1) (by rcases hr with e | e;cases e;exact e)];exact h1
 | own t sz u k xs=>exact World.ownsRow.kept h hg hr
 | ownF t u k xs=>exact World.ownsRowF.kept h hg hr
end
end Go.Proofs.YtdebnbgjgkbmaaaGreatDoor
namespace Go.Proofs.YtdebnbgjgkbmaaaGreatDoor.Oc
open Go.RowKit
set_option linter.unusedVariables false
theorem info5:(Tryz.prog.info? 5).map (fun i=>(i.zero,i.size,i.bytes))=some (some (.int .u8 0),1,1):=by kernel_rfl
def top (n wd:Int) (j:Nat):List Int:=(List.range j).map fun (t:Nat)=>n/2 ^ (8*(wd-1-(t:Int))).toNat%256
theorem top_succ (n wd:Int) (j:Nat):top n wd (j+1)=top n wd j++[n/2 ^ (8*(wd-1-(j:Int))).toNat%256]:=by
 simp [top,List.range_succ]
def ints (l:List Int):List Value:=l.map (Value.int .u8)
theorem below_set {B:Nat} {w w':World} (h:Below B w w') (a:Addr) (v:Value):Below B (w.setCell a v) (w'.setCell a v):=by
 refine ⟨h.os,h.tape,h.output,by simpa [World.setCell] using h.size,fun k hk=>?_⟩
 simp only [World.setCell,Array.getElem?_modify,h.block k hk]
theorem conv_own {w:World} {base n:Nat} {v:Value} {l:List Int} (h:w.ownsRow base 5 1 v n (ints l)):(convert 55 9 v).run Tryz.prog w=.ok (.string (strOfNums l)) w:=by
 obtain ⟨hlen,hv⟩:=h
 have hll:l.length=n:=by simpa [ints] using hlen
 rcases hv with ⟨rfl,rfl⟩ | ⟨g,cap,cur,rfl,hb,hg,hn,hm,hs,ht⟩
 · have:l=[]:=List.eq_nil_of_length_eq_zero hll
   subst this
   exact run_convert_bytes_nil w 55 5 Tryz.underlying55 Tryz.underlying5 0 0 9 Tryz.underlying9
 · refine run_convert_bytes_arg w 55 5 Tryz.underlying55 Tryz.underlying5 g 0 n cap l hll (fun i hi=>?_) 9 Tryz.underlying9
   rw [cell_of_row w g _ cur 5 (0,0) hg]
   have e:=congrArg (·[i]?) ht
   simp only [Nat.mul_one,List.getElem?_take_of_lt hi,ints,List.getElem?_map] at e
   rw [Nat.zero_add,← Array.getElem?_toList,e]
   simp [List.getElem?_eq_getElem (show i<l.length by omega)]
set_option maxRecDepth 100000 in
set_option maxHeartbeats 1000000 in
theorem number_core (n wd:Int) (a:Addr) (s:ByteArray) (w:World) (n0:0≤n) (n1:n≤18446744073709551615) (h1:1≤wd) (h8:wd≤8)
 (hs:s.size≤4611686018427387904) (hz:(n/2 ^ (8*wd).toNat != 0)=false) (hc:w.cell? a=some (.string s)) (hf:w.frozen? a=false) :
 Calls Tryz.prog 105 #[.pointer (some a),.int .u64 n,.int .i64 wd] w fun e w'=>e=.returned (.int .i64 0)∧Below w.heap.size (w.setCell a (.string (s++strOfNums (top n wd wd.toNat)))) w':=by
 obtain ⟨i0,hi,hz0,hz1,hz2⟩:=info_parts info5
 go_enter Tryz.func105,Tryz.ntmps105
 go_wp2
 go_loopw [7,8] (fun v i wr=>∃ (j:Nat) (I:Int),Hid (I=wd-1-j)∧-1≤I∧I≤7∧(j:Int)≤wd∧i=.int .i64 I∧wr.ownsRow w.heap.size 5 1 v j (ints (top n wd j))∧Below w.heap.size w wr) (fun _ i _=>(intOf i+1).toNat)
 case atStart=>exact ⟨0,wd-1,by unfold Hid;omega,by omega,by omega,by omega,rfl,World.ownsRow_nil _ _ _ _,Below.refl _ _⟩
 case round=>
  obtain ⟨j,I,hI,i0',i7,hj,rfl,hown,hb⟩:=hrel
  by_cases hlt:0≤I
  · have hsz:=hb.size
    go_wp2_with (at_builtin;refine wpList_append_own _ rfl _ _ 55 rfl w.heap.size 5 i0 (.int .u8 0) 1 1 Tryz.underlying55 hi hz0 hz1 hz2 rfl (by decide) _ _ _ rfl (hown.alloc _) ⟨wr.heap.size,0,none⟩ 1 1 [.int .u8 (n/2 ^ (8*I).toNat%256)] rfl rfl ?c1 ?c2 ?c3 ?c4 ?c5 ?_)
    case c1=>exact cell_one_new _ _ _
    case c2=>intro u hu;simp at hu;subst hu;rfl
    case c3=>unfold maxLen;omega
    case c4=>omega
    case c5=>simp;omega
    intro v' w1 hown1 hg1 _
    have hI':=hI
    have hb1:Below w.heap.size w w1:=(hb.alloc hb.size _).grown hg1 (by simp;omega) (fun k hk=>(hown.lt k hk).1)
    have ht:ints (top n wd j)++[.int .u8 (n/2 ^ (8*I).toNat%256)]=ints (top n wd (j+1)):=by
     rw [top_succ,← show I=wd-1-j from hI];simp [ints]
    rw [ht] at hown1
    clear ht
    go_wp2
    go_roundw
    case rel=>exact ⟨j+1,I-1,by unfold Hid at *;omega,by omega,by omega,by unfold Hid at *;omega,rfl,hown1,hb1⟩
    case measure=>simp [intOf];omega
  · obtain rfl:I=-1:=by omega
    have hj':j=wd.toNat:=by unfold Hid at hI;omega
    rw [hj'] at hown
    have hconv:=conv_own (w:=wr.drew) (v:=u7) (n:=wd.toNat) (l:=top n wd wd.toNat) (base:=w.heap.size) hown
    have hX:(strOfNums (top n wd wd.toNat)).size=wd.toNat:=by rw [strOfNums_size];simp [top]
    generalize hXe:strOfNums (top n wd wd.toNat)=X at *
    have HX:=Lib.hid hXe;clear hXe
    have hadd:s.size+X.size≤9223372036854775807:=by omega
    clear hX hs
    have hca:wr.cell? a=some (.string s):=by rw [hb.cell (World.block_lt_of_cell? w _ hc)];exact hc
    have hfa:wr.frozen? a=false:=by rw [hb.frozen (World.block_lt_of_cell? w _ hc)];exact hf
    clear hI hj' hj hc hf hz
    have HB:=hb
    go_wp2
    go_region
    go_wp2
    go_ret
    exact ⟨rfl,by rw [HX.out];exact (below_set hb a _).drew⟩
set_option maxRecDepth 100000 in
theorem number_bad (n wd:Int) (a:Addr) (w:World) (h:wd<1∨8<wd) :
 Calls Tryz.prog 105 #[.pointer (some a),.int .u64 n,.int .i64 wd] w fun e w'=>e=.returned (.int .i64 1)∧w=w':=by
 rcases h with h | h
 all_goals
  go_enter Tryz.func105,Tryz.ntmps105
  go_wp2
  go_ret
  exact ⟨rfl,rfl⟩
set_option maxRecDepth 100000 in
theorem number_wide (n wd:Int) (a:Addr) (w:World) (n0:0≤n) (h1:1≤wd) (h8:wd≤8) (hz:(n/2 ^ (8*wd).toNat != 0)=true) :
 Calls Tryz.prog 105 #[.pointer (some a),.int .u64 n,.int .i64 wd] w fun e w'=>e=.returned (.int .i64 1)∧w=w':=by
 go_enter Tryz.func105,Tryz.ntmps105
 go_wp2
 go_ret
 exact ⟨rfl,rfl⟩
def numE (n wd:Int):Int:=if wd<1∨8<wd∨n/2 ^ (8*wd).toNat≠0 then 1 else 0
def numB (n wd:Int):List Int:=if wd<1∨8<wd∨n/2 ^ (8*wd).toNat≠0 then [] else top n wd wd.toNat
structure At (w:World) (a:Addr) (s:ByteArray):Prop where
 cell:w.cell? a=some (.string s)
 open':w.frozen? a=false
theorem setCell_same {w:World} {a:Addr} {v:Value} (h:w.cell? a=some v):w.setCell a v=w:=by
 have e:w.heap.modify a.block (fun
  | .cells c elem frozen=>.cells (if a.spot.isSome then c else c.setIfInBounds a.off v) elem frozen
  | o=>o)=w.heap:=by
  apply Array.ext_getElem?
  intro i
  rw [Array.getElem?_modify]
  split
  · rename_i hi
    subst hi
    unfold World.cell? at h
    generalize w.heap[a.block]?=o at *
    match o,h with
    | some (.cells c t fr),h=>
      simp only at h
      simp only [Option.map_some]
      by_cases hs:a.spot.isSome=true
      · simp [hs] at h
      · have hs':a.spot.isSome=false:=by simpa using hs
        simp only [hs',Bool.false_eq_true,if_false] at h
        congr 2
        simp only [hs',Bool.false_eq_true,if_false]
        apply Array.ext_getElem?
        intro j
        rw [Array.getElem?_setIfInBounds]
        split
        · rename_i hj;subst hj
          split
          · exact h.symm
          · rename_i hlt;rw [Array.getElem?_eq_none (by omega)] at h;simp at h
        · rfl
  · rfl
 exact congrArg (fun x:Array Obj=>{ w with heap:=x }) e
theorem strOfNums_nil (s:ByteArray):s++strOfNums []=s:=by
 apply ByteArray.ext;simp [strOfNums,ByteArray.data_append]
theorem number_any (n wd:Int) (a:Addr) (s:ByteArray) (w:World) (n0:0≤n) (n1:n≤18446744073709551615) (hs:s.size≤4611686018427387904) (h:At w a s) :
 Calls Tryz.prog 105 #[.pointer (some a),.int .u64 n,.int .i64 wd] w fun e w'=>e=.returned (.int .i64 (numE n wd))∧Below w.heap.size (w.setCell a (.string (s++strOfNums (numB n wd)))) w':=by
 unfold numE numB
 by_cases hb:wd<1∨8<wd
 · have hc:wd<1∨8<wd∨n/2 ^ (8*wd).toNat≠0:=by omega
   rw [if_pos hc,if_pos hc,strOfNums_nil,setCell_same h.cell]
   exact (number_bad n wd a w hb).mono fun e w' ⟨he,hw⟩=>⟨he,hw▸Below.refl _ _⟩
 · by_cases hz:n/2 ^ (8*wd).toNat=0
   · have hc:¬ (wd<1∨8<wd∨n/2 ^ (8*wd).toNat≠0):=by omega
     rw [if_neg hc,if_neg hc]
     exact number_core n wd a s w n0 n1 (by omega) (by omega) hs (by rw [bne_eq_false_iff_eq];exact hz) h.cell h.open'
   · have hc:wd<1∨8<wd∨n/2 ^ (8*wd).toNat≠0:=.inr (.inr hz)
     rw [if_pos hc,if_pos hc,strOfNums_nil,setCell_same h.cell]
     exact (number_wide n wd a w n0 (by omega) (by omega) (by rw [bne_iff_ne];exact hz)).mono fun e w' ⟨he,hw⟩=>⟨he,hw▸Below.refl _ _⟩
end Go.Proofs.YtdebnbgjgkbmaaaGreatDoor.Oc
namespace Go.Proofs.YtdebnbgjgkbmaaaGreatDoor.Oc
open Go.RowKit
set_option linter.unusedVariables false
def hashV (l:List Int):Value:=.agg (ints l).toArray
theorem conv_cells {w:World} (g n cap:Nat) (l:List Int) (hl:l.length=n) (h:∀ i,i<n→w.cell? ⟨g,0+i,none⟩=some (.int .u8 (l.getD i 0))) :
 (convert 55 9 (.slice (some ⟨g,0,none⟩) n cap)).run Tryz.prog w=.ok (.string (strOfNums l)) w:=
 run_convert_bytes_arg w 55 5 Tryz.underlying55 Tryz.underlying5 g 0 n cap l hl h 9 Tryz.underlying9
theorem cells_new (w:World) (l:List Int) (t:TypeId) (i:Nat) (hi:i<l.length):(w.alloc (.cells (ints l).toArray t)).cell? ⟨w.heap.size,0+i,none⟩=some (.int .u8 (l.getD i 0)):=by
 rw [cell_of_row _ _ _ _ _ _ (heap_alloc_new w _)]
 simp [ints,List.getElem?_eq_getElem hi]
set_option maxRecDepth 100000 in
set_option maxHeartbeats 1000000 in
theorem whash_any (hl:List Int) (a:Addr) (s:ByteArray) (w:World) (hlen:hl.length=32) (hs:s.size≤4611686018427387904) (h:At w a s) :
 Calls Tryz.prog 125 #[.pointer (some a),hashV hl] w fun e w'=>e=.returned (.tuple #[])∧Below w.heap.size (w.setCell a (.string (s++strOfNums hl))) w':=by
 unfold hashV
 have hb:Below w.heap.size w (w.alloc (.cells (ints hl).toArray 47)):=(Below.refl _ _).alloc (Nat.le_refl _) _
 have hcv:=conv_cells (w:=(w.alloc (.cells (ints hl).toArray 47)).drew) w.heap.size 32 32 hl hlen (fun i hi=>cells_new w hl 47 i (by omega))
 have hca:(w.alloc (.cells (ints hl).toArray 47)).cell? a=some (.string s):=by rw [hb.cell (World.block_lt_of_cell? w _ h.cell)];exact h.cell
 have hfa:(w.alloc (.cells (ints hl).toArray 47)).frozen? a=false:=by rw [hb.frozen (World.block_lt_of_cell? w _ h.cell)];exact h.open'
 have hX:(strOfNums hl).size=32:=by rw [strOfNums_size];exact hlen
 have hadd:s.size+(strOfNums hl).size≤9223372036854775807:=by omega
 generalize (ints hl).toArray=C at *
 generalize strOfNums hl=X at *
 clear hX hs hlen h
 go_enter Tryz.func125,Tryz.ntmps125
 go_wp2
 generalize w.alloc (.cells C 47)=w1 at *
 go_region
 go_wp2
 go_end0
 exact ⟨rfl,(below_set hb a _).drew⟩
theorem wbytes_any (a:Addr) (s:ByteArray) (w:World) (h:At w a s) :
 Calls Tryz.prog 108 #[.pointer (some a)] w fun e w'=>e=.returned (.string s)∧w=w':=by
 have hc:=h.cell
 clear h
 go_enter Tryz.func108,Tryz.ntmps108
 go_wp2
 go_ret
 exact ⟨rfl,rfl⟩
end Go.Proofs.YtdebnbgjgkbmaaaGreatDoor.Oc
namespace Go.Proofs.YtdebnbgjgkbmaaaGreatDoor.Oc
open Go.RowKit
set_option linter.unusedVariables false
def low (n:Int):Nat→List Int
 | 0=>[]
 | k+1=>n/256 ^ k%256::low n k
theorem low_len (n:Int) (k:Nat):(low n k).length=k:=by induction k with
 | zero=>rfl
 | succ k ih=>simp [low,ih]
theorem pow8 (k:Nat):(2:Int) ^ (8*(k:Int)).toNat=256 ^ k:=by
 rw [show (8*(k:Int)).toNat=8*k by omega,Int.pow_mul];rfl
theorem low_get (n:Int) (k t:Nat) (h:t<k):(low n k)[t]?=some (n/256 ^ (k-1-t)%256):=by
 induction k generalizing t with
 | zero=>omega
 | succ k ih=>
   simp only [low]
   cases t with
   | zero=>simp
   | succ t=>
     rw [List.getElem?_cons_succ,ih t (by omega)]
     rw [show k-1-t=k+1-1-(t+1) by omega]
theorem top_low (n:Int) (k:Nat):top n k k=low n k:=by
 apply List.ext_getElem?
 intro t
 by_cases h:t<k
 · rw [low_get n k t h]
   simp only [top,List.getElem?_map,List.getElem?_range h,Option.map_some]
   rw [show (8*((k:Int)-1-(t:Int))).toNat=(8*((k-1-t:Nat):Int)).toNat by omega,pow8]
 · rw [List.getElem?_eq_none (by simp [top];omega),List.getElem?_eq_none (by rw [low_len];omega)]
end Go.Proofs.YtdebnbgjgkbmaaaGreatDoor.Oc
namespace Go.Proofs.YtdebnbgjgkbmaaaGreatDoor.Oc
open Go.RowKit
set_option linter.unusedVariables false
theorem take_short (r:Addr) (s:ByteArray) (n:Int) (w:World) (h:At w r s) (hs:s.size≤4611686018427387904) (hn:(s.size:Int)<n) (hn':n≤4611686018427387904) :
 Calls Tryz.prog 127 #[.pointer (some r),.int .i64 n] w fun e w'=>e=.returned (.tuple #[.string ByteArray.empty,.int .i64 10])∧w=w':=by
 have hc:=h.cell
 clear h
 go_enter Tryz.func127,Tryz.ntmps127
 go_wp2
 go_ret2
 exact ⟨rfl,rfl⟩
set_option maxRecDepth 100000 in
theorem take_ok (r:Addr) (s:ByteArray) (n:Nat) (w:World) (h:At w r s) (hs:s.size≤4611686018427387904) (hn:n≤s.size) :
 Calls Tryz.prog 127 #[.pointer (some r),.int .i64 n] w fun e w'=>e=.returned (.tuple #[.string (s.extract 0 n),.int .i64 0])∧w'=w.setCell r (.string (s.extract n s.size)):=by
 have hc:=h.cell
 have hf:=h.open'
 clear h
 go_enter Tryz.func127,Tryz.ntmps127
 go_wp2
 go_ret2
 exact ⟨rfl,rfl⟩
theorem back_any (r e0:Addr) (s:ByteArray) (w:World) (h:At w r s) :
 Calls Tryz.prog 126 #[.pointer (some r),.pointer (some e0)] w fun e w'=>
  e=.returned (.func (.func 202) #[] #[.pointer (some ⟨w.heap.size+1,0,none⟩),.pointer (some ⟨w.heap.size+1+1,0,none⟩),.pointer (some ⟨w.heap.size,0,none⟩)]) ∧
  w'=((w.alloc (.cells #[.pointer (some r)] 81)).alloc (.cells #[.pointer (some e0)] 230)).alloc (.cells #[.string s] 9):=by
 have hmf:∀ (fn:Fn) (first cap:Array Value) (w:World),(Instr.makeFunc fn first cap).run Tryz.prog w=.ok (.func fn first cap) w:=fun _ _ _ _=>rfl
 have hc:((w.alloc (.cells #[.pointer (some r)] 81)).alloc (.cells #[.pointer (some e0)] 230)).cell? r=some (.string s):=by
  have hb:Below w.heap.size w ((w.alloc (.cells #[.pointer (some r)] 81)).alloc (.cells #[.pointer (some e0)] 230)):=((Below.refl _ _).alloc (Nat.le_refl _) _).alloc (by simp) _
  rw [hb.cell (World.block_lt_of_cell? w _ h.cell)];exact h.cell
 clear h
 go_enter Tryz.func126,Tryz.ntmps126
 go_wp2
 go_ret
 exact ⟨rfl,rfl⟩
theorem back1_ok (b1 b2 b3 r e0:Addr) (u:FrameMode) (w:World) (h1:w.cell? b1=some (.pointer (some e0))) (he:w.cell? e0=some (.int .i64 0)) :
 CallsD Tryz.prog 202 #[.pointer (some b1),.pointer (some b2),.pointer (some b3)] u w fun e u' w'=>u'=u∧(e=.returned (.tuple #[])∧w'=w):=by
 go_enter_d Tryz.func202,Tryz.ntmps202
 go_wp2
 go_end0
 exact ⟨rfl,rfl⟩
theorem back1_err (b1 b2 b3 r e0:Addr) (ev:Int) (s s':ByteArray) (u:FrameMode) (w:World) (h1:w.cell? b1=some (.pointer (some e0))) (he:w.cell? e0=some (.int .i64 ev)) (hz:(ev==0)=false) (hz':(ev != 0)=true)
 (h2:w.cell? b2=some (.string s)) (h3:w.cell? b3=some (.pointer (some r))) (hr:w.cell? r=some (.string s')) (hf:w.frozen? r=false) :
 CallsD Tryz.prog 202 #[.pointer (some b1),.pointer (some b2),.pointer (some b3)] u w fun e u' w'=>u'=u∧(e=.returned (.tuple #[])∧w'=w.setCell r (.string s)):=by
 go_enter_d Tryz.func202,Tryz.ntmps202
 go_wp2
 go_end0
 exact ⟨rfl,rfl⟩
end Go.Proofs.YtdebnbgjgkbmaaaGreatDoor.Oc
namespace Go.Proofs.YtdebnbgjgkbmaaaGreatDoor.Oc
open Go.RowKit
set_option linter.unusedVariables false
structure RD (n:Nat) (w0:World) (r:Addr) (s cur:ByteArray) (ev:Int) (W:World):Prop where
 rlt:r.block<n
 e:W.cell? ⟨n,0,none⟩=some (.int .i64 ev)
 ef:W.frozen? ⟨n,0,none⟩=false
 b1:W.cell? ⟨n+1+1,0,none⟩=some (.pointer (some ⟨n,0,none⟩))
 b2:W.cell? ⟨n+1+1+1,0,none⟩=some (.string s)
 b3:W.cell? ⟨n+1,0,none⟩=some (.pointer (some r))
 atc:At W r cur
 below:Below n (w0.setCell r (.string cur)) W
theorem At.below {w w':World} {r:Addr} {s:ByteArray} {n:Nat} (h:At w r s) (hb:Below n w w') (hn:r.block<n):At w' r s:=
 ⟨by rw [hb.cell hn];exact h.cell,by rw [hb.frozen hn];exact h.open'⟩
theorem cell_other {w:World} {a b:Addr} {v x:Value} (h:w.cell? b=some x) (hne:a.block≠b.block):(w.setCell a v).cell? b=some x:=by
 rw [World.cell?_setCell_other w a b v (by intro e;exact hne (congrArg Addr.block e))];exact h
theorem frozen_set {w:World} {a b:Addr} {v:Value} {x:Bool} (h:w.frozen? b=x):(w.setCell a v).frozen? b=x:=by
 rw [←h];go_simp
theorem cell_set {w:World} {a:Addr} {v x:Value} (h:w.cell? a=some x):(w.setCell a v).cell? a=some v:=World.cell?_setCell_same w a v h
theorem set_set (w:World) (a:Addr) (v v':Value):(w.setCell a v).setCell a v'=w.setCell a v':=by
 have e:((w.setCell a v).setCell a v').heap=(w.setCell a v').heap:=by
  apply Array.ext_getElem?
  intro i
  simp only [World.setCell,Array.getElem?_modify]
  split
  · cases w.heap[i]? with
    | none=>rfl
    | some o=>cases o<;>simp<;>split<;>simp [Array.setIfInBounds_setIfInBounds]
  · rfl
 exact congrArg (fun x:Array Obj=>{ w with heap:=x }) e
theorem RD.setE {n:Nat} {w0:World} {r:Addr} {s cur:ByteArray} {ev:Int} {W:World} (h:RD n w0 r s cur ev W) (v:Int):RD n w0 r s cur v (W.setCell ⟨n,0,none⟩ (.int .i64 v)):=by
 have hr:=h.rlt
 exact ⟨hr,cell_set h.e,frozen_set h.ef,cell_other h.b1 (by show n≠n+1+1;omega),cell_other h.b2 (by show n≠n+1+1+1;omega),cell_other h.b3 (by show n≠n+1;omega),
  ⟨cell_other h.atc.cell (by show n≠r.block;omega),frozen_set h.atc.open'⟩,h.below.setCell (Nat.le_refl _) _⟩
theorem RD.setR {n:Nat} {w0:World} {r:Addr} {s cur:ByteArray} {ev:Int} {W:World} (h:RD n w0 r s cur ev W) (c:ByteArray):RD n w0 r s c ev (W.setCell r (.string c)):=by
 have hr:=h.rlt
 refine ⟨hr,cell_other h.e (by show r.block≠n;omega),frozen_set h.ef,cell_other h.b1 (by show r.block≠n+1+1;omega),cell_other h.b2 (by show r.block≠n+1+1+1;omega),cell_other h.b3 (by show r.block≠n+1;omega),
  ⟨cell_set h.atc.cell,frozen_set h.atc.open'⟩,?_⟩
 have hb:=below_set h.below r (.string c)
 have e:=set_set w0 r (.string cur) (.string c)
 rw [e] at hb;exact hb
theorem RD.drew {n:Nat} {w0:World} {r:Addr} {s cur:ByteArray} {ev:Int} {W:World} (h:RD n w0 r s cur ev W):RD n w0 r s cur ev W.drew:=
 ⟨h.rlt,h.e,h.ef,h.b1,h.b2,h.b3,⟨h.atc.cell,h.atc.open'⟩,h.below.drew⟩
theorem RD.start {w:World} {r:Addr} {s:ByteArray} (h:At w r s) :
 RD w.heap.size w r s s 0 ((((w.alloc (.cells #[.int .i64 0] 26)).alloc (.cells #[.pointer (some r)] 81)).alloc (.cells #[.pointer (some ⟨w.heap.size,0,none⟩)] 230)).alloc (.cells #[.string s] 9)):=by
 have hb:Below w.heap.size w ((((w.alloc (.cells #[.int .i64 0] 26)).alloc (.cells #[.pointer (some r)] 81)).alloc (.cells #[.pointer (some ⟨w.heap.size,0,none⟩)] 230)).alloc (.cells #[.string s] 9)):=
  ((((Below.refl _ _).alloc (Nat.le_refl _) _).alloc (by simp) _).alloc (by simp;omega) _).alloc (by simp;omega) _
 have hlt:=World.block_lt_of_cell? w _ h.cell
 refine ⟨hlt,by go_simp,by go_simp,by go_simp,by go_simp,by go_simp,h.below hb hlt,?_⟩
 rw [setCell_same h.cell];exact hb
theorem back_rd (r:Addr) (s:ByteArray) (w:World) (h:At w r s) :
 Calls Tryz.prog 126 #[.pointer (some r),.pointer (some ⟨w.heap.size,0,none⟩)] (w.alloc (.cells #[.int .i64 0] 26)) fun e w'=>
  e=.returned (.func (.func 202) #[] #[.pointer (some ⟨w.heap.size+1+1,0,none⟩),.pointer (some ⟨w.heap.size+1+1+1,0,none⟩),.pointer (some ⟨w.heap.size+1,0,none⟩)])∧RD w.heap.size w r s s 0 w':=by
 have hb:Below w.heap.size w (w.alloc (.cells #[.int .i64 0] 26)):=(Below.refl _ _).alloc (Nat.le_refl _) _
 refine (back_any r ⟨w.heap.size,0,none⟩ s _ (h.below hb (World.block_lt_of_cell? w _ h.cell))).mono ?_
 rintro e w' ⟨rfl,rfl⟩
 have e1:(w.alloc (.cells #[.int .i64 0] 26)).heap.size=w.heap.size+1:=by simp
 rw [e1]
 exact ⟨rfl,RD.start h⟩
theorem back1_rd0 {n:Nat} {w0:World} {r:Addr} {s cur:ByteArray} {W:World} (u:FrameMode) (h:RD n w0 r s cur 0 W) :
 CallsD Tryz.prog 202 #[.pointer (some ⟨n+1+1,0,none⟩),.pointer (some ⟨n+1+1+1,0,none⟩),.pointer (some ⟨n+1,0,none⟩)] u W fun e u' w'=>u'=u∧(e=.returned (.tuple #[])∧RD n w0 r s cur 0 w'):=
 (back1_ok _ _ _ r ⟨n,0,none⟩ u W h.b1 h.e).mono fun e u' w' ⟨h1,h2,h3⟩=>⟨h1,h2,h3▸h⟩
theorem back1_rd1 {n:Nat} {w0:World} {r:Addr} {s cur:ByteArray} {W:World} {ev:Int} (u:FrameMode) (h:RD n w0 r s cur ev W) (hz:(ev==0)=false) :
 CallsD Tryz.prog 202 #[.pointer (some ⟨n+1+1,0,none⟩),.pointer (some ⟨n+1+1+1,0,none⟩),.pointer (some ⟨n+1,0,none⟩)] u W fun e u' w'=>u'=u∧(e=.returned (.tuple #[])∧RD n w0 r s s ev w'):=
 (back1_err _ _ _ r ⟨n,0,none⟩ ev s cur u W h.b1 h.e hz (by simpa using hz) h.b2 h.b3 h.atc.cell h.atc.open').mono fun e u' w' ⟨h1,h2,h3⟩=>⟨h1,h2,h3▸h.setR s⟩
set_option maxRecDepth 100000 in
set_option maxHeartbeats 1000000 in
theorem rdnum_bad (r:Addr) (s:ByteArray) (wd:Int) (w:World) (h:At w r s) (hw:wd<1∨8<wd) :
 Calls Tryz.prog 36 #[.pointer (some r),.int .i64 wd] w fun e w'=>e=.returned (.tuple #[.int .u64 0,.int .i64 1])∧Below w.heap.size (w.setCell r (.string s)) w':=by
 have HB:=Lib.hid (back_rd r s w h)
 generalize hn:w.heap.size=n at *
 rcases hw with hw | hw
 all_goals
  go_enter_defers Tryz.func36,Tryz.ntmps36
  go_wp2_with fail
  refine (HB.out).mono ?_
  rintro e w1 ⟨rfl,h1⟩
  have c1:=h1.e
  have c2:=h1.ef
  go_wp2
  have h2:=h1.setE 1
  generalize w1.setCell ⟨n,0,none⟩ (.int .i64 1)=w2 at *
  refine leaves_cons (f:=202) (args:=#[.pointer (some ⟨n+1+1,0,none⟩),.pointer (some ⟨n+1+1+1,0,none⟩),.pointer (some ⟨n+1,0,none⟩)]) (by simp) (by simp [go_sem]) ?_
  refine (back1_rd1 .returning h2 (by decide)).mono ?_
  rintro e u' w3 ⟨rfl,rfl,h3⟩
  have c3:=h3.e
  simp [Leaves,settle,results,Tryz.results36,go_sem,c3]
  exact h3.below
end Go.Proofs.YtdebnbgjgkbmaaaGreatDoor.Oc
namespace Go.Proofs.YtdebnbgjgkbmaaaGreatDoor.Oc
open Go.RowKit
set_option linter.unusedVariables false
def val (l:List UInt8):Int:=l.foldl (fun a b=>a*256+(b.toNat:Int)) 0
theorem val_snoc (l:List UInt8) (b:UInt8):val (l++[b])=val l*256+(b.toNat:Int):=by simp [val]
theorem val_acc (l:List UInt8) (a:Int) (h:0≤a):0≤l.foldl (fun a b=>a*256+(b.toNat:Int)) a∧l.foldl (fun a b=>a*256+(b.toNat:Int)) a<(a+1)*256 ^ l.length:=by
 induction l generalizing a with
 | nil=>simp;omega
 | cons b r ih=>
   have hb:=b.toNat_lt
   obtain ⟨h1,h2⟩:=ih (a*256+(b.toNat:Int)) (by omega)
   refine ⟨h1,?_⟩
   have e:(a+1)*256 ^ (r.length+1)=(a+1)*256*256 ^ r.length:=by rw [Int.pow_succ,Int.mul_comm (256 ^ r.length) 256,← Int.mul_assoc]
   rw [List.foldl_cons,List.length_cons,e]
   have h3:(a*256+(b.toNat:Int)+1)*256 ^ r.length≤(a+1)*256*256 ^ r.length:=
    Int.mul_le_mul_of_nonneg_right (by omega) (Int.pow_nonneg (by decide))
   omega
theorem val_nonneg (l:List UInt8):0≤val l:=(val_acc l 0 (by decide)).1
theorem val_lt (l:List UInt8):val l<256 ^ l.length:=by
 have:=(val_acc l 0 (by decide)).2
 simpa [val] using this
theorem val_le (l:List UInt8) (h:l.length≤7):val l≤72057594037927935:=by
 have h1:=val_lt l
 have h2:(256:Int) ^ l.length≤256 ^ 7:=by
  have:(256:Nat) ^ l.length≤256 ^ 7:=Nat.pow_le_pow_right (by decide) h
  have e:∀ k:Nat,((256:Int) ^ k)=((256 ^ k:Nat):Int):=fun k=>by simp
  rw [e,e];exact Int.ofNat_le.2 this
 have h3:(256:Int) ^ 7=72057594037927936:=by decide
 omega
theorem or_byte (x b:Int) (x0:0≤x) (x1:x≤72057594037927935) (b0:0≤b) (b1:b≤255):bits .or .u64 (x*256) b=x*256+b:=
 bits_join .u64 64 (by decide) (fun n a c=>by rw [IntKind.wrap_u64];omega) 8 _ _ (by omega) (by omega) (by omega) (by omega) (by omega) (by omega)
theorem take_snoc (s:ByteArray) (k:Nat) (h:k<s.size):s.data.toList.take (k+1)=s.data.toList.take k++[s[k]]:=by
 rw [List.take_succ_eq_append_getElem (by simpa using h)];rfl
set_option maxRecDepth 100000 in
set_option maxHeartbeats 1000000 in
theorem rdnum_short (r:Addr) (s:ByteArray) (wd:Int) (w:World) (h:At w r s) (hs:s.size≤4611686018427387904) (h1:1≤wd) (h8:wd≤8) (hw:(s.size:Int)<wd) :
 Calls Tryz.prog 36 #[.pointer (some r),.int .i64 wd] w fun e w'=>e=.returned (.tuple #[.int .u64 0,.int .i64 10])∧Below w.heap.size (w.setCell r (.string s)) w':=by
 have HB:=Lib.hid (back_rd r s w h)
 generalize hn:w.heap.size=n at *
 go_enter_defers Tryz.func36,Tryz.ntmps36
 go_wp2_with fail
 refine (HB.out).mono ?_
 rintro e w1 ⟨rfl,h1'⟩
 go_wp2_with fail
 refine (take_short r s wd w1 h1'.atc hs hw (by omega)).mono ?_
 rintro e w2 ⟨rfl,rfl⟩
 have c1:=h1'.e
 have c2:=h1'.ef
 have h2:=h1'.setE 10
 have c3:=h2.e
 have c4:=h2.ef
 go_wp2
 go_region
 go_wp2
 have h3:=(h2.setE 10).drew
 generalize ((w1.setCell ⟨n,0,none⟩ (.int .i64 10)).setCell ⟨n,0,none⟩ (.int .i64 10)).drew=w3 at *
 refine leaves_cons (f:=202) (args:=#[.pointer (some ⟨n+1+1,0,none⟩),.pointer (some ⟨n+1+1+1,0,none⟩),.pointer (some ⟨n+1,0,none⟩)]) (by simp) (by simp [go_sem]) ?_
 refine (back1_rd1 .returning h3 (by decide)).mono ?_
 rintro e u' w4 ⟨rfl,rfl,h4⟩
 have c5:=h4.e
 simp [Leaves,settle,results,Tryz.results36,go_sem,c5]
 exact h4.below
set_option maxRecDepth 100000 in
set_option maxHeartbeats 1000000 in
theorem rdnum_ok (r:Addr) (s:ByteArray) (k0:Nat) (w:World) (h:At w r s) (hs:s.size≤4611686018427387904) (h1:1≤k0) (h8:k0≤8) (hw:k0≤s.size) :
 Calls Tryz.prog 36 #[.pointer (some r),.int .i64 k0] w fun e w'=>e=.returned (.tuple #[.int .u64 (val (s.data.toList.take k0)),.int .i64 0])∧Below w.heap.size (w.setCell r (.string (s.extract k0 s.size))) w':=by
 have HB:=Lib.hid (back_rd r s w h)
 have hT:(s.extract 0 k0).data.toList=s.data.toList.take k0:=by simp
 have hTs:(s.extract 0 k0).size=k0:=by simp;omega
 have tk:=fun w1 h'=>take_ok r s k0 w1 h' hs hw
 rw [←hT]
 generalize s.extract 0 k0=T at *
 have TK:=Lib.hid tk
 generalize hn:w.heap.size=n at *
 have H1:=Lib.hid h1;have H8:=Lib.hid h8
 have g1:1≤(k0:Int):=by omega
 have g8:(k0:Int)≤8:=by omega
 clear h1 h8 tk hT
 subst hTs
 go_enter_defers Tryz.func36,Tryz.ntmps36
 go_wp2_with fail
 refine (HB.out).mono ?_
 rintro e w1 ⟨rfl,h1'⟩
 go_wp2_with fail
 refine (TK.out w1 h1'.atc).mono ?_
 rintro e w2 ⟨rfl,rfl⟩
 have h2:=h1'.setR (s.extract T.size s.size)
 generalize w1.setCell r (.string (s.extract T.size s.size))=w2 at *
 have h3:=h2.setE 0
 have c1:=h2.e
 have c2:=h2.ef
 have c3:=h3.e
 have c4:=h3.ef
 go_wp2
 generalize w2.setCell ⟨n,0,none⟩ (.int .i64 0)=w3 at *
 go_loop [4,27] (fun x i=>∃ k:Nat,k≤T.size∧i=.int .i64 k∧x=.int .u64 (val (T.data.toList.take k))) (fun _ i=>T.size-(intOf i).toNat)
 case atStart=>exact ⟨0,by omega,rfl,rfl⟩
 case round=>
  obtain ⟨k,hk,rfl,rfl⟩:=hrel
  by_cases hlt:k<T.size
  · have hv0:=val_nonneg (T.data.toList.take k)
    have hv1:=val_le (T.data.toList.take k) (by simp;have:=H8.out;omega)
    have hsn:=val_snoc (T.data.toList.take k) T[k]
    rw [←take_snoc T k hlt] at hsn
    have hb:=T[k].toNat_lt
    have hor:=or_byte (val (T.data.toList.take k)) (T[k].toNat:Int) hv0 hv1 (by omega) (by omega)
    have HS:=Lib.hid hsn;clear hsn
    generalize val (T.data.toList.take k)=x at *
    go_wp2
    go_round
    case rel=>exact ⟨k+1,by omega,by go_num,by rw [HS.out]⟩
    case measure=>simp [intOf];omega
  · obtain rfl:k=T.size:=by omega
    have e1:T.data.toList.take T.size=T.data.toList:=List.take_of_length_le (by simp)
    have h4:=h3.setE 0
    go_wp2
    generalize w3.setCell ⟨n,0,none⟩ (.int .i64 0)=w4 at *
    refine leaves_cons (f:=202) (args:=#[.pointer (some ⟨n+1+1,0,none⟩),.pointer (some ⟨n+1+1+1,0,none⟩),.pointer (some ⟨n+1,0,none⟩)]) (by simp) (by simp [go_sem]) ?_
    refine (back1_rd0 .returning h4).mono ?_
    rintro e u' w5 ⟨rfl,rfl,h5⟩
    have c5:=h5.e
    simp [Leaves,settle,results,Tryz.results36,go_sem,c5]
    exact h5.below
def rdN (s:ByteArray) (wd:Int):Int:=if wd<1∨8<wd∨(s.size:Int)<wd then 0 else val (s.data.toList.take wd.toNat)
def rdE (s:ByteArray) (wd:Int):Int:=if wd<1∨8<wd then 1 else if (s.size:Int)<wd then 10 else 0
def rdS (s:ByteArray) (wd:Int):ByteArray:=if wd<1∨8<wd∨(s.size:Int)<wd then s else s.extract wd.toNat s.size
theorem rdnum_any (r:Addr) (s:ByteArray) (wd:Int) (w:World) (h:At w r s) (hs:s.size≤4611686018427387904) :
 Calls Tryz.prog 36 #[.pointer (some r),.int .i64 wd] w fun e w'=>e=.returned (.tuple #[.int .u64 (rdN s wd),.int .i64 (rdE s wd)])∧Below w.heap.size (w.setCell r (.string (rdS s wd))) w':=by
 unfold rdN rdE rdS
 by_cases h1:wd<1∨8<wd
 · have h2:wd<1∨8<wd∨(s.size:Int)<wd:=by omega
   rw [if_pos h1,if_pos h2,if_pos h2]
   exact rdnum_bad r s wd w h h1
 · by_cases h3:(s.size:Int)<wd
   · have h2:wd<1∨8<wd∨(s.size:Int)<wd:=by omega
     rw [if_neg h1,if_pos h2,if_pos h2,if_pos h3]
     exact rdnum_short r s wd w h hs (by omega) (by omega) h3
   · have h2:¬ (wd<1∨8<wd∨(s.size:Int)<wd):=by omega
     rw [if_neg h1,if_neg h2,if_neg h2,if_neg h3]
     obtain ⟨k,rfl⟩:=Int.eq_ofNat_of_zero_le (a:=wd) (by omega)
     rw [Int.toNat_natCast]
     exact rdnum_ok r s k w h hs (by omega) (by omega) (by omega)
end Go.Proofs.YtdebnbgjgkbmaaaGreatDoor.Oc
namespace Go.Proofs.YtdebnbgjgkbmaaaGreatDoor.Oc
open Go.RowKit
set_option linter.unusedVariables false
theorem new_any (s:ByteArray) (w:World) :
 Calls Tryz.prog 35 #[.string s] w fun e w'=>e=.returned (.pointer (some ⟨w.heap.size,0,none⟩))∧w'=w.alloc (.cells #[.string s] 228):=by
 go_enter Tryz.func35,Tryz.ntmps35
 go_wp2
 go_ret
 exact ⟨rfl,rfl⟩
theorem empty_iff (s:ByteArray):s.toList.isEmpty=decide (s.size=0):=by
 rw [ByteArray.toList_eq,Lib.size_eq]
 cases s.data.toList<;>simp
theorem end_any (r:Addr) (s:ByteArray) (w:World) (h:At w r s) :
 Calls Tryz.prog 118 #[.pointer (some r)] w fun e w'=>e=.returned (.int .i64 (if s.size=0 then 0 else 11))∧w=w':=by
 have hc:=h.cell
 clear h
 by_cases hz:s.size=0
 · rw [if_pos hz]
   have he:(!s.toList.isEmpty)=false:=by rw [empty_iff];simp [hz]
   clear hz
   go_enter Tryz.func118,Tryz.ntmps118
   go_wp2
   go_ret
   exact ⟨rfl,rfl⟩
 · rw [if_neg hz]
   have he:(!s.toList.isEmpty)=true:=by rw [empty_iff];simp [hz]
   clear hz
   go_enter Tryz.func118,Tryz.ntmps118
   go_wp2
   go_ret
   exact ⟨rfl,rfl⟩
end Go.Proofs.YtdebnbgjgkbmaaaGreatDoor.Oc
namespace Go.Proofs.YtdebnbgjgkbmaaaGreatDoor
open Go.RowKit
set_option linter.unusedVariables false
abbrev r64 (n:Nat) (f:Nat→Nat):Array Value:=M.rowF .u64 n fun i=>(f i:Nat)
abbrev stX (s:Sha.St):Array Value:=r64 8 s.get
def Y8:Array Value:=#[.int .u64 0,.int .u64 0,.int .u64 0,.int .u64 0,.int .u64 0,.int .u64 0,.int .u64 0,.int .u64 0]
open Go.RowKit
set_option linter.unusedVariables false
structure CX (n:Nat) (w:World) (s:Sha.St) (W:Nat→Nat) (v:World):Prop where
 r0:M.RowAt v n 347 (stX s)
 r1:M.RowAt v (n+1) 347 Y8
 r2:M.RowAt v (n+1+1) 395 (r64 64 W)
 below:Below n w v
section
variable {n:Nat} {w:World} {s:Sha.St} {W W':Nat→Nat} {v v':World}
theorem CX.drew (h:CX n w s W v):CX n w s W v.drew:=⟨h.r0,h.r1,h.r2,h.below.drew⟩
theorem CX.same (h:CX n w s W v) (hb:Below v.heap.size v v'):CX n w s W v':=
 ⟨h.r0.call hb,h.r1.call hb,h.r2.call hb,h.below.trans (hb.mono (by have:=h.r0.lt;omega))⟩
theorem CX.set (h:CX n w s W v) (i x:Nat) (hi:i<64) (hW:∀ j,j<64→W' j=if j=i then x else W j) :
 CX n w s W' (v.setCell ⟨n+1+1,i,none⟩ (.int .u64 (x:Nat))):=by
 refine ⟨h.r0.far (by show n+1+1≠n;omega) _,h.r1.far (by show n+1+1≠n+1;omega) _,?_,h.below.setCell (by show n≤n+1+1;omega) _⟩
 have:=h.r2.set i (.int .u64 (x:Nat))
 rw [M.rowF_set (g:=fun i=>((W' i:Nat):Int)) _ hi (fun j hj=>by rw [hW j hj];split<;>rfl)] at this
 exact this
end
open Go.RowKit
set_option linter.unusedVariables false
theorem und28:Tryz.prog.underlying 47=some (.array 32 5):=u28
def BV:Array Value:=#[.int .u64 1779033703,.int .u64 3144134277,.int .u64 1013904242,.int .u64 2773480762,.int .u64 1359893119,.int .u64 2600822924,.int .u64 528734635,.int .u64 1541459225]
structure CS (n:Nat) (w:World) (R:Array Value) (h:Sha.St) (v:World):Prop where
 r:v.heap[n]?=some (.cells R 47 (0,0))
 h:v.heap[n+1]?=some (.cells (stX h) 347 (0,0))
 below:Below n w v
section
variable {n:Nat} {w:World} {R R':Array Value} {h h':Sha.St} {v v':World}
theorem CS.drew (c:CS n w R h v):CS n w R h v.drew:=⟨c.r,c.h,c.below.drew⟩
theorem CS.same (c:CS n w R h v) (hb:Below v.heap.size v v'):CS n w R h v':=
 ⟨M.RowAt.call c.r hb,M.RowAt.call c.h hb,c.below.trans (hb.mono (by have:=M.RowAt.lt c.r;omega))⟩
end
open Go.RowKit
set_option linter.unusedVariables false
section
variable {n:Nat} {w0 v v':World} {a jb m:Nat} {B:ByteArray} {X X':Ths} {p buf:Value}
theorem info43:(Tryz.prog.info? 291).map (·.size)=some 2:=by kernel_rfl
theorem lies43:liesAt Tryz.prog Tryz.prog.depth 293 (6/Tryz.prog.cellsOf 293) 0 291 1=true:=by kernel_rfl
set_option maxHeartbeats 1000000 in
set_option maxRecDepth 100000 in
theorem cc_fresh (b:Nat) (w:World) (h0:w.cell? ⟨b,0,none⟩=some (.pointer none)) (hsh:w.shape? b=some (293,6)) (hfz:w.frozen? ⟨b,0,none⟩=false) :
 Calls Tryz.prog 250 #[.pointer (some ⟨b,0,none⟩)] w fun e w'=>e=.returned (.tuple #[])∧w'=w.setCell ⟨b,0,none⟩ (.pointer (some ⟨b,0,none⟩)):=by
 obtain ⟨j,hj,hjs⟩:=Option.map_eq_some_iff.1 info43
 go_enter Tryz.func250,Tryz.ntmps250
 go_wp2
 rw [Lib.run_to_unsafe w ⟨b,0,none⟩ Tryz.underlying289 Tryz.underlying411 hj (by rw [hjs];decide) hsh (show 0<6 by decide)]
 simp only [Result.andThen]
 rw [Oper.upon_value]
 go_wp2
 rw [run_callFunc_extern Tryz.func297 (by kernel_rfl) (by kernel_rfl) (by kernel_rfl) (e:=Extern.AbiNoEscape.same) (by kernel_rfl)]
 rw [Lib.run_noEscape]
 simp only [Result.andThen]
 rw [Oper.upon_value]
 go_wp2
 rw [Lib.run_from_unsafe w ⟨b,0,none⟩ Tryz.underlying411 Tryz.underlying289 hj hsh lies43]
 simp only [Result.andThen]
 rw [Oper.upon_value]
 go_wp2
 go_end0
 exact ⟨rfl,rfl⟩
end
namespace SX
open Go Go.RowKit
set_option linter.unusedVariables false
theorem i291:(Tryz.prog.info? 291).map (·.size)=some 2:=by kernel_rfl
theorem lies291:liesAt Tryz.prog Tryz.prog.depth 291 (2/Tryz.prog.cellsOf 291) 0 291 1=true:=by kernel_rfl
set_option maxHeartbeats 1000000 in
set_option maxRecDepth 100000 in
theorem cc_fresh2 (b t m:Nat) (w:World) (ht:(t=293∧m=6)∨(t=291∧m=2)) (h0:w.cell? ⟨b,0,none⟩=some (.pointer none)) (hsh:w.shape? b=some (t,m)) (hfz:w.frozen? ⟨b,0,none⟩=false) :
 Calls Tryz.prog 250 #[.pointer (some ⟨b,0,none⟩)] w fun e w'=>e=.returned (.tuple #[])∧w'=w.setCell ⟨b,0,none⟩ (.pointer (some ⟨b,0,none⟩)):=by
 rcases ht with ⟨rfl,rfl⟩ | ⟨rfl,rfl⟩
 · exact cc_fresh b w h0 hsh hfz
 · obtain ⟨j,hj,hjs⟩:=Option.map_eq_some_iff.1 i291
   go_enter Tryz.func250,Tryz.ntmps250
   go_wp2
   rw [Lib.run_to_unsafe w ⟨b,0,none⟩ Tryz.underlying289 Tryz.underlying411 hj (by rw [hjs];decide) hsh (show 0<2 by decide)]
   simp only [Result.andThen]
   rw [Oper.upon_value]
   go_wp2
   rw [run_callFunc_extern Tryz.func297 (by kernel_rfl) (by kernel_rfl) (by kernel_rfl) (e:=Extern.AbiNoEscape.same) (by kernel_rfl)]
   rw [Lib.run_noEscape]
   simp only [Result.andThen]
   rw [Oper.upon_value]
   go_wp2
   rw [Lib.run_from_unsafe w ⟨b,0,none⟩ Tryz.underlying411 Tryz.underlying289 hj hsh lies291]
   simp only [Result.andThen]
   rw [Oper.upon_value]
   go_wp2
   go_end0
   exact ⟨rfl,rfl⟩
theorem cc_used_at (b o:Nat) (w:World) (h0:w.cell? ⟨b,o,none⟩=some (.pointer (some ⟨b,o,none⟩))) :
 Calls Tryz.prog 250 #[.pointer (some ⟨b,o,none⟩)] w fun e w'=>e=.returned (.tuple #[])∧w=w':=by
 obtain ⟨j,hj,hjs⟩:=Option.map_eq_some_iff.1 info43
 have hne:=fun w:World=>Lib.run_neq_ptr_same (P:=Tryz.prog) w ⟨b,o,none⟩ Tryz.underlying289 hj
 go_enter Tryz.func250,Tryz.ntmps250
 go_wp2
 go_end0
 exact ⟨rfl,rfl⟩
noncomputable def markOk (t m:Nat):Bool:=or (and (Nat.beq t 293) (Nat.beq m 6)) (and (Nat.beq t 291) (Nat.beq m 2))
noncomputable def cc2 (h:Hp) (nx b:Nat) (cs:List Value):XR:=match cs with
 | .pointer (some a)::_=>Bool.rec (motive:=fun _=>XR) (.bad "check: copied") (.ok (.tuple #[]) h nx) (eqA a ⟨b,0,none⟩)
 | .iface t (.pointer (some a))::r=>Bool.rec (motive:=fun _=>XR) (.bad "check: place") (.ok (.tuple #[]) (TT.set DH h b (.cells (.pointer (some ⟨b,0,none⟩)::r))) nx) (and (eqA a ⟨b,Nat.succ r.length,none⟩) (markOk t (Nat.succ r.length)))
 | _=>.bad "check: cells"
noncomputable def cc1 (h:Hp) (nx b:Nat) (o:Option Blk):XR:=match o with | some (.cells cs)=>cc2 h nx b cs | _=>.bad "check: block"
noncomputable def hkCc (args:List Value) (h:Hp) (nx:Nat):XR:=match args with
 | [.pointer (some a)]=>Bool.rec (motive:=fun _=>XR) (.bad "check: part") (fN a.block fun b=>cc1 h nx b (TT.get DH h b)) (and (eqA a ⟨a.block,0,none⟩) (Nat.blt a.block 65536))
 | _=>.bad "check"
theorem nest_true {a b c:Bool} (h:Bool.rec (motive:=fun _=>Bool) false (Bool.rec (motive:=fun _=>Bool) false c b) a=true):a=true∧b=true∧c=true:=by
 cases a<;>cases b<;>cases c<;>first | exact ⟨rfl,rfl,rfl⟩ | cases h
theorem eqA_eq {a b:Addr} (h:eqA a b=true):a=b:=by
 obtain ⟨x,y,z⟩:=a
 obtain ⟨x',y',z'⟩:=b
 unfold eqA at h
 obtain ⟨h1,h2,h3⟩:=nest_true h
 obtain rfl:=Nat.eq_of_beq_eq_true h1
 obtain rfl:=Nat.eq_of_beq_eq_true h2
 cases z with
 | none=>
   cases z' with
   | none=>rfl
   | some c=>cases h3
 | some c=>cases z'<;>cases h3
theorem VR.tnil_inv {σ:Sig} {ρ:Rho} {t n m:Nat} {sp:Option Nat} {x':Value} (h:VR σ ρ (.iface t (.pointer (some ⟨n,m,sp⟩))) x'):x'=.pointer none∧∃ p,ρ n=some p∧p.t=t∧p.n=m:=by
 cases h with
 | tnil n t m p e1 e2 e3=>exact ⟨rfl,p,e1,e2,e3⟩
theorem cc_ok {C:Cfg} (hP:C.E.P=Tryz.prog) {σ:Sig} {ρ:Rho} {args:List Value} {h:Hp} {nx:Nat} {v:Value} {h':Hp} {nx':Nat} {w:World} {args':Array Value} (e:hkCc args h nx=.ok v h' nx') (s:Sim σ C.E.gl ρ h nx w) (hv:VL σ ρ args args'.toList) :
 Calls C.E.P 250 args' w fun e w'=>∃ v',e=.returned v'∧Did C.E σ ρ h nx w v h' nx' v' w':=by
 unfold hkCc at e
 split at e
 · rename_i a
   obtain ⟨x',hx,hxv⟩:=hv.one
   cases hb:and (eqA a ⟨a.block,0,none⟩) (Nat.blt a.block 65536) with
   | false=>rw [hb] at e;cases e
   | true=>
     rw [hb] at e
     have hb:(eqA a ⟨a.block,0,none⟩&&Nat.blt a.block 65536)=true:=hb
     rw [Bool.and_eq_true] at hb
     have ha:=eqA_eq hb.1
     have hlt:a.block<65536:=blt_lt hb.2
     obtain ⟨n,off,sp⟩:=a
     injection ha with q1 q2 q3
     subst q2;subst q3
     have e:fN n (fun b=>cc1 h nx b (TT.get DH h b))=.ok v h' nx':=e
     rw [fN_eq] at e
     obtain ⟨p,hp,_,rfl⟩:=hxv.ptr_inv
     have hn:=s.at hp
     have harg:args'=#[.pointer (some ⟨p.b,p.o+0,none⟩)]:=by apply Array.ext';exact hx
     subst harg
     unfold cc1 at e
     split at e
     · rename_i cs hg
       obtain ⟨p',hp',hr⟩:=s.live n hn _ hg
       rw [hp] at hp';cases hp'
       obtain ⟨sh,fz,hlen,L,hcl,hrange⟩:=(show CR σ ρ cs p w from hr)
       unfold cc2 at e
       split at e
       · rename_i a r
         cases hq:eqA a ⟨n,0,none⟩ with
         | false=>rw [hq] at e;cases e
         | true=>
           rw [hq] at e
           obtain rfl:=eqA_eq hq
           injection e with q1 q2 q3
           subst q1;subst q2;subst q3
           have hL:L≠[]:=fun e=>by rw [e] at hcl;have:=hcl.1;simp at this
           obtain ⟨y,L,rfl⟩:=List.exists_cons_of_ne_nil hL
           have hy:=(hcl.2 0 _ y rfl rfl).1
           obtain ⟨p2,hp2,_,rfl⟩:=hy.ptr_inv
           rw [hp] at hp2;cases hp2
           have hc:=hrange 0 _ rfl
           rw [hP]
           have hc:w.cell? ⟨p.b,p.o+0,none⟩=some (.pointer (some ⟨p.b,p.o+0,none⟩)):=hc
           refine (cc_used_at p.b (p.o+0) w hc).mono ?_
           rintro e w' ⟨rfl,rfl⟩
           exact ⟨_,rfl,ρ,.tuple _ _ rfl (fun i x x' a _=>by simp at a),s,Ext.refl⟩
       · rename_i t a r
         cases hq:and (eqA a ⟨n,Nat.succ r.length,none⟩) (markOk t (Nat.succ r.length)) with
         | false=>rw [hq] at e;cases e
         | true=>
           rw [hq] at e
           have hq:(eqA a ⟨n,Nat.succ r.length,none⟩&&markOk t (Nat.succ r.length))=true:=hq
           rw [Bool.and_eq_true] at hq
           obtain rfl:=eqA_eq hq.1
           injection e with q1 q2 q3
           subst q1;subst q2;subst q3
           have hL:L≠[]:=fun e=>by rw [e] at hcl;have:=hcl.1;simp at this
           obtain ⟨y,L,rfl⟩:=List.exists_cons_of_ne_nil hL
           have hy:=(hcl.2 0 _ y rfl rfl).1
           obtain ⟨rfl,p2,hp2,ht,hm⟩:=hy.tnil_inv
           rw [hp] at hp2;cases hp2
           have ho:p.o=0:=by simp only [List.length_cons] at hlen;omega
           have hc:=hrange 0 _ rfl
           rw [ho] at hc ⊢
           have hmk:(p.t=293∧p.n=6)∨(p.t=291∧p.n=2):=by
            have h2:=hq.2
            rw [ht,hm]
            have h2:((Nat.beq t 293&&Nat.beq (Nat.succ r.length) 6)||(Nat.beq t 291&&Nat.beq (Nat.succ r.length) 2))=true:=h2
            simp only [Bool.or_eq_true,Bool.and_eq_true] at h2
            rcases h2 with ⟨a,b⟩ | ⟨a,b⟩
            · exact .inl ⟨Nat.eq_of_beq_eq_true a,Nat.eq_of_beq_eq_true b⟩
            · exact .inr ⟨Nat.eq_of_beq_eq_true a,Nat.eq_of_beq_eq_true b⟩
           rw [hP]
           refine (cc_fresh2 p.b p.t p.n w hmk hc sh (fz 0 (by omega))).mono ?_
           rintro e w' ⟨rfl,rfl⟩
           have hput:=CR.put (w:=w) (p:=p) (cs:=.iface t (.pointer (some ⟨n,Nat.succ r.length,none⟩))::r) hr (off:=0) (ys:=[.pointer (some ⟨n,0,none⟩)]) (ys':=[.pointer (some ⟨p.b,0,none⟩)])
            (CL.cons (by have:=VR.ptr (σ:=σ) n 0 p hp;rw [ho] at this;exact this) rfl rfl CL.nil) (by simp)
           rw [ho] at hput
           obtain ⟨s2,x2⟩:=s.upd hn hp (by rw [hg];rfl) (b:=.cells (.pointer (some ⟨n,0,none⟩)::r)) (w':=w.setCells p.b 0 [.pointer (some ⟨p.b,0,none⟩)]) hput (fun k hk=>heap_setCells _ _ _ k hk) (size_setCells _ _ _)
           exact ⟨_,rfl,ρ,.tuple _ _ rfl (fun i x x' a _=>by simp at a),s2,x2⟩
       · cases e
     · cases e
 · cases e
end SX
namespace QT
open QP (upon oat wp_of_oat cls getD_mono)
set_option linter.unusedVariables false
variable {P:Program} {ops:Array Oper} {md:Region.Mode} {Cf Ct:World→Prop} {p:Nat}
def dep (md:Region.Mode) (ops:Array Oper) (t:Nat):Nat→Oper→Bool
 | 0,_=>false
 | f+1,o=>o.after.toList.any fun e=>Region.binds md e&&(e.on==t||match ops[e.on]? with | some o'=>dep md ops t f o' | none=>false)
def waits (md:Region.Mode) (ops:Array Oper) (p:Nat) (o:Oper):Bool:=dep md ops p 4 o
def fst (md:Region.Mode) (ops:Array Oper) (p j:Nat):Bool:=match ops[p]? with | some o=>dep md ops j 4 o | none=>false
def allowed (P:Program) (md:Region.Mode) (ops:Array Oper) (Cf Ct:World→Prop) (p i:Nat) (o:Oper) (a:Act) (v:Value):Prop:=
 if i=p then ∀ w,Cf w→oat P o a Ct w v
 else (waits md ops p o=true∨∀ w,Cf w→oat P o a Cf w v)∧(fst md ops p i=true∨∀ w,Ct w→oat P o a Ct w v)
def qOp (P:Program) (md:Region.Mode) (ops:Array Oper) (Cf Ct:World→Prop) (p i:Nat) (K:Act→Prop) (a:Act):Prop:=
 match ops[i]? with
 | none=>K a
 | some o=>if Region.wanted o (yielded ops a.tmps) then ∃ v,allowed P md ops Cf Ct p i o a v∧K (a.put o.dst v) else i≠p∧K (a.put o.dst undef)
def wpQ (P:Program) (md:Region.Mode) (ops:Array Oper) (Cf Ct:World→Prop) (p:Nat) (Q:Act→Prop):List Oper→Nat→Act→Prop
 | [],_,a=>Q a
 | o::rest,i,a=>if Region.wanted o (yielded ops a.tmps) then ∃ v,allowed P md ops Cf Ct p i o a v∧wpQ P md ops Cf Ct p Q rest (i+1) (a.put o.dst v) else i≠p∧wpQ P md ops Cf Ct p Q rest (i+1) (a.put o.dst undef)
theorem wpQ_nil {Q:Act→Prop} {i:Nat} {a:Act} (h:Q a):wpQ P md ops Cf Ct p Q [] i a:=h
theorem wpQ_step {Q:Act→Prop} {a:Act} {o:Oper} {rest:List Oper} {i:Nat}
 (h:∀ K:Act→Prop,(∀ a,wpQ P md ops Cf Ct p Q rest (i+1) a→K a)→if Region.wanted o (yielded ops a.tmps) then ∃ v,allowed P md ops Cf Ct p i o a v∧K (a.put o.dst v) else i≠p∧K (a.put o.dst undef)) :
 wpQ P md ops Cf Ct p Q (o::rest) i a:=h _ (fun _ h=>h)
theorem qOp_mono {i:Nat} {a:Act} {K K':Act→Prop} (h:∀ a,K a→K' a) (hh:qOp P md ops Cf Ct p i K a):qOp P md ops Cf Ct p i K' a:=by
 unfold qOp at *
 split
 · exact h _ (by simpa [*] using hh)
 · rename_i o ho
   simp only [ho] at hh
   split
   · rename_i hw;simp only [hw,if_true] at hh;exact let ⟨v,h1,h2⟩:=hh;⟨v,h1,h _ h2⟩
   · rename_i hw;simp only [hw] at hh;exact ⟨hh.1,h _ hh.2⟩
def wpAnyQ (P:Program) (md:Region.Mode) (ops:Array Oper) (Cf Ct:World→Prop) (p:Nat) (Q:Act→Prop):Nat→Array Bool→Act→Prop
 | 0,listed,a=>Region.ready md ops listed=[]∧listed.getD p false=true∧Q a
 | fuel+1,listed,a=>
   (Region.ready md ops listed=[]→listed.getD p false=true∧Q a) ∧
   ∀ i∈Region.ready md ops listed,qOp P md ops Cf Ct p i (wpAnyQ P md ops Cf Ct p Q fuel (listed.setIfInBounds i true)) a
def Down (md:Region.Mode) (ops:Array Oper) (listed:Array Bool):Prop:=∀ j o,listed.getD j false=true→ops[j]?=some o→∀ e∈o.after.toList,Region.binds md e=true→listed.getD e.on false=true
theorem dep_listed {listed:Array Bool} (hD:Down md ops listed) {t:Nat}:∀ (f:Nat) (o:Oper),(∀ e∈o.after.toList,Region.binds md e=true→listed.getD e.on false=true)→dep md ops t f o=true→listed.getD t false=true
 | 0,_,_,h=>by simp [dep] at h
 | f+1,o,hall,h=>by
   unfold dep at h
   obtain ⟨e,he,hb⟩:=List.any_eq_true.1 h
   simp only [Bool.and_eq_true,Bool.or_eq_true,beq_iff_eq] at hb
   obtain ⟨h1,h2⟩:=hb
   rcases h2 with h2 | h2
   · rw [←h2];exact hall e he h1
   · cases ho:ops[e.on]? with
     | none=>simp [ho] at h2
     | some o'=>
       simp only [ho] at h2
       exact dep_listed hD f o' (hD e.on o' (hall e he h1) ho) h2
theorem Down.set {i:Nat} {listed:Array Bool} (h:Down md ops listed) (hi:i∈Region.ready md ops listed):Down md ops (listed.setIfInBounds i true):=by
 intro j o hj ho e he hb
 obtain ⟨_,o2,ho2,hall⟩:=mem_ready.1 hi
 by_cases hij:j=i
 · subst hij
   rw [ho2] at ho
   cases ho
   exact getD_mono (hall e (by simpa using he) hb)
 · have e2:(listed.setIfInBounds i true).getD j false=listed.getD j false:=by
    rw [Array.getD_eq_getD_getElem?,Array.getD_eq_getD_getElem?,Array.getElem?_setIfInBounds_ne (fun h=>hij h.symm)]
   exact getD_mono (h j o (by rw [←e2];exact hj) ho e he hb)
theorem wpOp_of_qOp {i:Nat} {a:Act} {K:Act→Prop} {K':Act→World→Prop} {Q':Exit→Act→World→Prop} {w:World} {listed:Array Bool} (hC:cls Cf Ct p listed w) (hkept:Down md ops listed)
 (hi:i∈Region.ready md ops listed) (h:∀ a w',cls Cf Ct p (listed.setIfInBounds i true) w'→K a→K' a w') (hh:qOp P md ops Cf Ct p i K a):wpOp P ops Q' i K' a w:=by
 obtain ⟨hun,o,ho,hall⟩:=mem_ready.1 hi
 have hlt:i<listed.size:=by
  rcases Nat.lt_or_ge i listed.size with h' | h'
  · exact h'
  · rw [Array.getD_eq_getD_getElem?,Array.getElem?_eq_none h'] at hun;cases hun
 have hset:i≠p→(listed.setIfInBounds i true).getD p false=listed.getD p false:=fun hne=>by
  rw [Array.getD_eq_getD_getElem?,Array.getD_eq_getD_getElem?,Array.getElem?_setIfInBounds_ne hne]
 have hsetp:(listed.setIfInBounds i true).getD i false=true:=by
  rw [Array.getD_eq_getD_getElem?,Array.getElem?_setIfInBounds_self_of_lt hlt];rfl
 have hunf:listed.getD i false=false:=by
  rw [Array.getD_eq_getD_getElem?,Array.getElem?_eq_getElem hlt] at hun ⊢;exact hun
 unfold qOp at hh
 unfold wpOp
 simp only [ho] at hh ⊢
 split
 · rename_i hw
   simp only [hw,if_true] at hh
   obtain ⟨v,hv,hK⟩:=hh
   unfold allowed at hv
   split at hv
   · rename_i hip
     subst hip
     have hCf:Cf w:=by unfold cls at hC;rw [hunf] at hC;simpa using hC
     exact .inl (wp_of_oat (C':=Ct) (fun a' w' hw' hk=>h a' w' (by unfold cls;rw [hsetp];simpa using hw') hk) (hv w hCf) hK)
   · rename_i hne
     by_cases hb:listed.getD p false=true
     · have hCt:Ct w:=by unfold cls at hC;rw [hb] at hC;simpa using hC
       rcases hv.2 with hft | hv2
       · exfalso
         have hpi:listed.getD i false=true:=by
          unfold fst at hft
          split at hft
          · rename_i op hop
            exact dep_listed hkept 4 op (hkept p op hb hop) hft
          · cases hft
         rw [hunf] at hpi;cases hpi
       · exact .inl (wp_of_oat (C':=Ct) (fun a' w' hw' hk=>h a' w' (by unfold cls;rw [hset hne,hb];simpa using hw') hk) (hv2 w hCt) hK)
     · have hCf:Cf w:=by unfold cls at hC;simpa [hb] using hC
       rcases hv.1 with hwt | hf
       · exfalso
         exact hb (dep_listed hkept 4 o (fun e he h=>hall e (by simpa using he) h) hwt)
       · exact .inl (wp_of_oat (C':=Cf) (fun a' w' hw' hk=>h a' w' (by unfold cls;rw [hset hne];simpa [hb] using hw') hk) (hf w hCf) hK)
 · rename_i hw
   simp only [hw] at hh
   exact h _ _ (by unfold cls at hC ⊢;rw [hset hh.1];exact hC) hh.2
theorem wpAny_of_quiet {Q:Act→Prop} {Q':Exit→Act→World→Prop} (hQ:∀ a w,Ct w→Q a→Q' .normal a w):∀ (fuel:Nat) (listed:Array Bool) (a:Act) (w:World),cls Cf Ct p listed w→Down md ops listed →
 wpAnyQ P md ops Cf Ct p Q fuel listed a→wpAny P md ops Q' fuel listed a w
 | 0,l,_,_,hw,_,h=>⟨h.1,hQ _ _ (by unfold cls at hw;rw [h.2.1] at hw;simpa using hw) h.2.2⟩
 | fuel+1,l,_,_,hw,hk0,h=>⟨fun h0=>hQ _ _ (by unfold cls at hw;rw [(h.1 h0).1] at hw;simpa using hw) (h.1 h0).2,fun i hi=>wpOp_of_qOp hw hk0 hi (fun a' w' hw' hk=>wpAny_of_quiet hQ fuel _ a' w' hw' (hk0.set hi) hk) (h.2 i hi)⟩
def YieldsIn (P:Program) (md:Region.Mode) (ops:Array Oper) (Cf Ct:World→Prop) (p i:Nat) (o:Oper) (v:Value) (a:Act):Prop:=
 (Region.wanted o (yielded ops a.tmps)=true∧allowed P md ops Cf Ct p i o a v) ∨
 (Region.wanted o (yielded ops a.tmps)=false∧i≠p∧v=undef)
theorem YieldsIn.qOp {i:Nat} {o:Oper} {v:Value} {a:Act} (hi:ops[i]?=some o) (hy:YieldsIn P md ops Cf Ct p i o v a) {K:Act→Prop} (h:K (a.put o.dst v)):qOp P md ops Cf Ct p i K a:=by
 unfold QT.qOp
 simp only [hi]
 rcases hy with ⟨hw,hv⟩ | ⟨hw,hne,rfl⟩
 · simp only [hw,if_true];exact ⟨v,hv,h⟩
 · simp only [hw,Bool.false_eq_true,if_false];exact ⟨hne,h⟩
theorem YieldsIn.of_same {i:Nat} {o:Oper} {v:Value} {a a':Act} (hy:YieldsIn P md ops Cf Ct p i o v a) (he:execOp a'.eval o=execOp a.eval o)
 (hw:Region.wanted o (yielded ops a'.tmps)=Region.wanted o (yielded ops a.tmps)):YieldsIn P md ops Cf Ct p i o v a':=by
 unfold YieldsIn allowed oat at *
 rw [he,hw]
 exact hy
theorem yieldsIn_of_qOp {i:Nat} {o:Oper} {a:Act} {K:Act→Prop} (hi:ops[i]?=some o) (h:qOp P md ops Cf Ct p i K a):∃ v,YieldsIn P md ops Cf Ct p i o v a∧K (a.put o.dst v):=by
 unfold qOp at h
 simp only [hi] at h
 by_cases hw:Region.wanted o (yielded ops a.tmps)=true
 · simp only [hw,if_true] at h
   obtain ⟨v,h1,h2⟩:=h
   exact ⟨v,.inl ⟨hw,h1⟩,h2⟩
 · simp only [hw] at h
   exact ⟨undef,.inr ⟨by simpa using hw,h.1,rfl⟩,h.2⟩
theorem qOp_put {i j:Nat} {oi oj:Oper} {v:Value} (hj:ops[j]?=some oj) (hap:oi.apart ops oj=true)
 (hsi:∀ cs b,oi.op≠.select cs b) (hsj:∀ cs b,oj.op≠.select cs b) {K:Act→Prop} {a:Act}
 (hy:YieldsIn P md ops Cf Ct p i oi v a) (h:qOp P md ops Cf Ct p j K (a.put oi.dst v)) :
 qOp P md ops Cf Ct p j (fun a'=>YieldsIn P md ops Cf Ct p i oi v a'∧K (a'.put oi.dst v)) a:=by
 obtain ⟨h1,h2,h3⟩:=Oper.apart_spec hap
 have keep:∀ (a:Act),YieldsIn P md ops Cf Ct p i oi v a→∀ u,YieldsIn P md ops Cf Ct p i oi v (a.put oj.dst u):=fun a hy u=>
  hy.of_same (execOp_put oi hsi a oj.dst u h3) (wanted_put oi a oj.dst u h3)
 unfold qOp at *
 simp only [hj] at *
 rw [wanted_put oj a oi.dst v h1] at h
 split
 · rename_i hw
   simp only [hw,if_true] at h
   obtain ⟨u,hu,hn⟩:=h
   refine ⟨u,?_,keep a hy u,by rw [←Act.put_comm a v u h2];exact hn⟩
   unfold allowed oat at *
   rwa [execOp_put oj hsj a oi.dst v h1] at hu
 · rename_i hw
   simp only [hw] at h
   exact ⟨h.1,keep a hy _,by rw [←Act.put_comm a v undef h2];exact h.2⟩
theorem wpAnyQ_first {Q:Act→Prop} {i:Nat} {oi:Oper} {v:Value} (hi:ops[i]?=some oi) (hsel:∀ (j:Nat) (o:Oper) cs b,ops[j]?=some o→o.op≠.select cs b) :
 ∀ (fuel:Nat) (listed:Array Bool) (a:Act),
  (∀ j oj,ops[j]?=some oj→j≠i→listed.getD j true=false→(∀ e∈oj.after,Region.binds md e=true→e.on≠i)→oi.apart ops oj=true) →
  i∈Region.ready md ops listed→YieldsIn P md ops Cf Ct p i oi v a →
  wpAnyQ P md ops Cf Ct p Q fuel (listed.setIfInBounds i true) (a.put oi.dst v)→wpAnyQ P md ops Cf Ct p Q (fuel+1) listed a:=by
 intro fuel
 induction fuel with
 | zero=>
   intro listed a _ hr hy H
   refine ⟨fun h=>(by rw [h] at hr;cases hr),fun j hj=>?_⟩
   by_cases hji:j=i
   · subst hji;exact hy.qOp hi H
   · have:=ready_mono hj hji
     rw [H.1] at this
     cases this
 | succ fuel ih=>
   intro listed a hfree hr hy H
   refine ⟨fun h=>(by rw [h] at hr;cases hr),fun j hj=>?_⟩
   by_cases hji:j=i
   · subst hji;exact hy.qOp hi H
   · have h1:=H.2 j (ready_mono hj hji)
     obtain ⟨hjun,oj,hoj,hall⟩:=mem_ready.1 hj
     have hnot:∀ e∈oj.after,Region.binds md e=true→e.on≠i:=fun e he hb heq=>by
      have h1:=hall e he hb
      have h0:=(mem_ready.1 hr).1
      rw [heq] at h1
      rcases Nat.lt_or_ge i listed.size with h' | h'
      · simp [h'] at h0 h1;rw [h0] at h1;cases h1
      · simp [Array.getElem?_eq_none h'] at h1
     have h2:=qOp_put hoj (hfree j oj hoj hji hjun hnot) (fun cs b=>hsel i oi cs b hi) (fun cs b=>hsel j oj cs b hoj) hy h1
     have hfree':∀ k ok,ops[k]?=some ok→k≠i→(listed.setIfInBounds j true).getD k true=false →
      (∀ e∈ok.after,Region.binds md e=true→e.on≠i)→oi.apart ops ok=true:=fun k ok hk hki hun hno=>by
      refine hfree k ok hk hki ?_ hno
      by_cases hjk:j=k
      · subst hjk;exact hjun
      · rw [getD_set_ne true hjk] at hun;exact hun
     refine qOp_mono (fun a' h3=>ih (listed.setIfInBounds j true) a' hfree' (ready_mono hr (Ne.symm hji)) h3.1 ?_) h2
     rw [Array.setIfInBounds_comm _ _ hji]
     exact h3.2
def lexFromP (md:Region.Mode) (ops:Array Oper) (p:Nat):Nat→Nat→Array Bool→Bool
 | 0,_,listed=>(Region.ready md ops listed).isEmpty&&listed.getD p false
 | fuel+1,k,listed=>(Region.ready md ops listed).contains k&&Region.free md ops listed k&&lexFromP md ops p fuel (k+1) (listed.setIfInBounds k true)
def lexBP (md:Region.Mode) (ops:Array Oper) (p:Nat):Bool:=Region.noSelect ops&&lexFromP md ops p ops.size 0 (Array.replicate ops.size false)
theorem wpAnyQ_lex {Q:Act→Prop} (hs:Region.noSelect ops=true):∀ (l:List Oper) (k:Nat) (listed:Array Bool) (a:Act),(∀ j,l[j]?=ops[k+j]?) →
 lexFromP md ops p l.length k listed=true→wpQ P md ops Cf Ct p Q l k a→wpAnyQ P md ops Cf Ct p Q l.length listed a
 | [],_,_,_,_,hB,h=>by
   simp only [List.length_nil,lexFromP,Bool.and_eq_true] at hB
   exact ⟨by simpa using hB.1,hB.2,h⟩
 | o::l,k,listed,a,hl,hB,h=>by
   have h0:ops[k]?=some o:=by simpa using (hl 0).symm
   simp only [List.length_cons,lexFromP,Bool.and_eq_true] at hB
   obtain ⟨⟨hr,hf⟩,hB'⟩:=hB
   have hst:qOp P md ops Cf Ct p k (wpQ P md ops Cf Ct p Q l (k+1)) a:=by unfold qOp;simp only [h0];exact h
   obtain ⟨v,hy,hK⟩:=yieldsIn_of_qOp h0 hst
   exact wpAnyQ_first h0 (Region.noSelect_spec hs) l.length listed a (Region.free_spec h0 hf) (by simpa using hr) hy
    (wpAnyQ_lex hs l (k+1) _ _ (fun j=>by have:=hl (j+1);simpa [Nat.add_assoc,Nat.add_comm 1 j] using this) hB' hK)
theorem wp_region_p (p:Nat) (Cf Ct:World→Prop) {id:Nat} {Q:Exit→Act→World→Prop} {a:Act} {w:World} {l:List Oper} (hm:P.follows .mixedOrders=true) (hB:lexBP .any l.toArray p=true)
 (hC:Cf w.drew) (h:wpQ P .any l.toArray Cf Ct p (fun a'=>∀ w',Ct w'→Q .normal a' w') l 0 a):(Code.region id l.toArray true).wp P Q a w:=by
 simp only [lexBP,Bool.and_eq_true] at hB
 refine wp_region_any hm (wpAny_of_quiet (Cf:=Cf) (Ct:=Ct) (p:=p) (Q:=fun a'=>∀ w',Ct w'→Q .normal a' w') (fun _ w' hw' h=>h w' hw') _ _ _ _ ?_ ?_ ?_)
 · have e:(Array.replicate l.toArray.size false).getD p false=false:=by
    rw [Array.getD_eq_getD_getElem?,Array.getElem?_replicate];split<;>rfl
   unfold cls;rw [e];simpa using hC
 · intro j o hj _
   have e:(Array.replicate l.toArray.size false).getD j false=false:=by
    rw [Array.getD_eq_getD_getElem?,Array.getElem?_replicate];split<;>rfl
   rw [e] at hj;cases hj
 · have:=wpAnyQ_lex (Cf:=Cf) (Ct:=Ct) (p:=p) (md:=.any) hB.1 l 0 (Array.replicate l.toArray.size false) a (by simp) (by simpa using hB.2) h
   simpa using this
theorem al_ok {i:Nat} {o:Oper} {a:Act} {v:Value} (hne:(i==p)=false) (hf:∀ w,Cf w→oat P o a Cf w v) (ht:∀ w,Ct w→oat P o a Ct w v):allowed P md ops Cf Ct p i o a v:=by
 unfold allowed
 rw [if_neg (by simpa using hne)]
 exact ⟨.inr hf,.inr ht⟩
theorem al_dep {i:Nat} {o:Oper} {a:Act} {v:Value} (hne:(i==p)=false) (hd:waits md ops p o=true) (ht:∀ w,Ct w→oat P o a Ct w v):allowed P md ops Cf Ct p i o a v:=by
 unfold allowed
 rw [if_neg (by simpa using hne)]
 exact ⟨.inl hd,.inr ht⟩
theorem al_bef {i:Nat} {o:Oper} {a:Act} {v:Value} (hne:(i==p)=false) (hd:fst md ops p i=true) (hf:∀ w,Cf w→oat P o a Cf w v):allowed P md ops Cf Ct p i o a v:=by
 unfold allowed
 rw [if_neg (by simpa using hne)]
 exact ⟨.inr hf,.inl hd⟩
theorem al_p {i:Nat} {o:Oper} {a:Act} {v:Value} (he:(i==p)=true) (hp:∀ w,Cf w→oat P o a Ct w v):allowed P md ops Cf Ct p i o a v:=by
 unfold allowed
 rw [if_pos (by simpa using he)]
 exact hp
end QT
namespace Rd
open QP (upon oat cls getD_mono)
open QT (waits fst Down dep_listed lexBP wpAnyQ_lex)
set_option linter.unusedVariables false
variable {P:Program} {l n:Nat} {ops:Array Oper} {md:Region.Mode} {Cf Ct:World→Prop} {p:Nat}
def noDefer (ops:Array Oper):Bool:=ops.toList.all fun o=>match o.op with | .defer _=>false | _=>true
theorem noDefer_spec (h:noDefer ops=true) {i:Nat} {o:Oper} (ho:ops[i]?=some o):∀ c,o.op≠.defer c:=by
 intro c hc
 unfold noDefer at h
 rw [List.all_eq_true] at h
 have hm:o∈ops.toList:=by
  rw [←Array.getElem?_toList] at ho
  exact List.mem_of_getElem? ho
 have:=h o hm
 rw [hc] at this;cases this
theorem oper_of_oat {o:Oper} {a:Act} {C':World→Prop} {v:Value} {K:Act→Prop} {K':Act→World→Prop} {Q':Exit→Act→World→Prop} {w:World} (hnd:∀ c,o.op≠.defer c) (h:∀ a w',C' w'→K a→K' a w')
 (h3:oat P o a C' w v) (h2:K (a.put o.dst v)):o.wpIn (Fence.wide.inRound l) n P a w K' Q':=by
 unfold oat at h3
 unfold Oper.wpIn
 refine ⟨fun _ _=>trivial,?_⟩
 rw [show (Fence.wide.inRound l).round=some l from rfl,Oper.semAt_eq _ _ _ hnd]
 generalize (execOp a.eval o).run P w=r at *
 cases r with
 | ok x w'=>
   cases x<;>simp only [upon] at h3<;>simp only [Oper.uponIn]
   case value u=>
    obtain ⟨e1,e2⟩:=h3
    rw [e2]
    exact h _ _ e1 h2
   case skip=>
    obtain ⟨e1,e2⟩:=h3
    rw [←e2]
    exact h _ _ e1 h2
   case enter f args=>
    exact ⟨fun h=>absurd h (by simp [Fence.wide]),CallsIn.inRound l ((callsIn_wide.2 h3).mono fun e w'' ⟨he,hw''⟩=>by subst he;exact h _ _ hw'' h2)⟩
 | halt x w'=>simp only [upon] at h3
theorem wpOpIn_of_qOp (hnd:∀ (i:Nat) (o:Oper),ops[i]?=some o→∀ c,o.op≠.defer c) {i:Nat} {a:Act} {K:Act→Prop} {K':Act→World→Prop} {Q':Exit→Act→World→Prop} {w:World} {listed:Array Bool} (hC:cls Cf Ct p listed w) (hkept:Down md ops listed)
 (hi:i∈Region.ready md ops listed) (h:∀ a w',cls Cf Ct p (listed.setIfInBounds i true) w'→K a→K' a w') (hh:QT.qOp P md ops Cf Ct p i K a):wpOpIn (Fence.wide.inRound l) n P ops Q' i K' a w:=by
 obtain ⟨hun,o,ho,hall⟩:=mem_ready.1 hi
 have hlt:i<listed.size:=by
  rcases Nat.lt_or_ge i listed.size with h' | h'
  · exact h'
  · rw [Array.getD_eq_getD_getElem?,Array.getElem?_eq_none h'] at hun;cases hun
 have hset:i≠p→(listed.setIfInBounds i true).getD p false=listed.getD p false:=fun hne=>by
  rw [Array.getD_eq_getD_getElem?,Array.getD_eq_getD_getElem?,Array.getElem?_setIfInBounds_ne hne]
 have hsetp:(listed.setIfInBounds i true).getD i false=true:=by
  rw [Array.getD_eq_getD_getElem?,Array.getElem?_setIfInBounds_self_of_lt hlt];rfl
 have hunf:listed.getD i false=false:=by
  rw [Array.getD_eq_getD_getElem?,Array.getElem?_eq_getElem hlt] at hun ⊢;exact hun
 unfold QT.qOp at hh
 unfold wpOpIn
 simp only [ho] at hh ⊢
 split
 · rename_i hw
   simp only [hw,if_true] at hh
   obtain ⟨v,hv,hK⟩:=hh
   unfold QT.allowed at hv
   split at hv
   · rename_i hip
     subst hip
     have hCf:Cf w:=by unfold cls at hC;rw [hunf] at hC;simpa using hC
     exact (oper_of_oat (hnd _ _ ho) (C':=Ct) (fun a' w' hw' hk=>h a' w' (by unfold cls;rw [hsetp];simpa using hw') hk) (hv w hCf) hK)
   · rename_i hne
     by_cases hb:listed.getD p false=true
     · have hCt:Ct w:=by unfold cls at hC;rw [hb] at hC;simpa using hC
       rcases hv.2 with hft | hv2
       · exfalso
         have hpi:listed.getD i false=true:=by
          unfold fst at hft
          split at hft
          · rename_i op hop
            exact dep_listed hkept 4 op (hkept p op hb hop) hft
          · cases hft
         rw [hunf] at hpi;cases hpi
       · exact (oper_of_oat (hnd _ _ ho) (C':=Ct) (fun a' w' hw' hk=>h a' w' (by unfold cls;rw [hset hne,hb];simpa using hw') hk) (hv2 w hCt) hK)
     · have hCf:Cf w:=by unfold cls at hC;simpa [hb] using hC
       rcases hv.1 with hwt | hf
       · exfalso
         exact hb (dep_listed hkept 4 o (fun e he h=>hall e (by simpa using he) h) hwt)
       · exact (oper_of_oat (hnd _ _ ho) (C':=Cf) (fun a' w' hw' hk=>h a' w' (by unfold cls;rw [hset hne];simpa [hb] using hw') hk) (hf w hCf) hK)
 · rename_i hw
   simp only [hw] at hh
   exact ⟨fun _ _=>trivial,h _ _ (by unfold cls at hC ⊢;rw [hset hh.1];exact hC) hh.2⟩
theorem wpAnyIn_of_quiet (hnd:∀ (i:Nat) (o:Oper),ops[i]?=some o→∀ c,o.op≠.defer c) {Q:Act→Prop} {Q':Exit→Act→World→Prop} (hQ:∀ a w,Ct w→Q a→Q' .normal a w):∀ (fuel:Nat) (listed:Array Bool) (a:Act) (w:World),cls Cf Ct p listed w→Down md ops listed →
 QT.wpAnyQ P md ops Cf Ct p Q fuel listed a→wpAnyIn (Fence.wide.inRound l) n P md ops Q' fuel listed a w
 | 0,l',_,_,hw,_,h=>⟨h.1,hQ _ _ (by unfold cls at hw;rw [h.2.1] at hw;simpa using hw) h.2.2⟩
 | fuel+1,l',_,_,hw,hk0,h=>⟨fun h0=>hQ _ _ (by unfold cls at hw;rw [(h.1 h0).1] at hw;simpa using hw) (h.1 h0).2,fun i hi=>wpOpIn_of_qOp hnd hw hk0 hi (fun a' w' hw' hk=>wpAnyIn_of_quiet hnd hQ fuel _ a' w' hw' (hk0.set hi) hk) (h.2 i hi)⟩
theorem wpIn_region_p (p:Nat) (Cf Ct:World→Prop) {id:Nat} {Q:Exit→Act→World→Prop} {a:Act} {w:World} {L:List Oper} (hnd:noDefer L.toArray=true) (hm:P.follows .mixedOrders=true) (hB:lexBP .any L.toArray p=true)
 (hC:Cf w.drew) (h:QT.wpQ P .any L.toArray Cf Ct p (fun a'=>∀ w',Ct w'→Q .normal a' w') L 0 a):(Code.region id L.toArray true).wpIn (Fence.wide.inRound l) n P Q a w:=by
 simp only [lexBP,Bool.and_eq_true] at hB
 refine wpIn_region_any hm (wpAnyIn_of_quiet (fun i o h=>noDefer_spec hnd h) (Cf:=Cf) (Ct:=Ct) (p:=p) (Q:=fun a'=>∀ w',Ct w'→Q .normal a' w') (fun _ w' hw' h=>h w' hw') _ _ _ _ ?_ ?_ ?_)
 · have e:(Array.replicate L.toArray.size false).getD p false=false:=by
    rw [Array.getD_eq_getD_getElem?,Array.getElem?_replicate];split<;>rfl
   unfold cls;rw [e];simpa using hC
 · intro j o hj _
   have e:(Array.replicate L.toArray.size false).getD j false=false:=by
    rw [Array.getD_eq_getD_getElem?,Array.getElem?_replicate];split<;>rfl
   rw [e] at hj;cases hj
 · have:=QT.wpAnyQ_lex (Cf:=Cf) (Ct:=Ct) (p:=p) (md:=.any) hB.1 L 0 (Array.replicate L.toArray.size false) a (by simp) (by simpa using hB.2) h
   simpa using this
theorem oper_skip {o:Oper} {a:Act} {w w':World} {K:Act→World→Prop} {Q:Exit→Act→World→Prop} (hnd:∀ c,o.op≠.defer c) (hr:(execOp a.eval o).run P w=.ok .skip w') (h:K (a.put o.dst undef) w'):o.wpIn (Fence.wide.inRound l) n P a w K Q:=by
 unfold Oper.wpIn
 refine ⟨fun _ _=>trivial,?_⟩
 rw [show (Fence.wide.inRound l).round=some l from rfl,Oper.semAt_eq _ _ _ hnd,hr]
 exact h
theorem list_store_row {rest:List Oper} {o:Oper} {a:Act} {w:World} {Q:Exit→Act→World→Prop} (hgd:o.guard=none) (ty:TypeId) (x y:Operand) (ho:o.op=.store ty x y)
 (g:Nat) (cells:Array Value) (hx:a.eval x=.pointer (some ⟨g,0,none⟩)) (hy:a.eval y=.agg cells)
 (t:TypeId) (old:Array Value) (hg:w.heap[g]?=some (.cells old t (0,0))) (hi:(P.info? ty).map (·.size)=some cells.size) (hold:old.size=cells.size) (h1:cells.all (·.oneCell')=true)
 (h:wpListIn (Fence.wide.inRound l) n P ops Q rest (a.put o.dst undef) (w.setRow g cells)):wpListIn (Fence.wide.inRound l) n P ops Q (o::rest) a w:=
 wpListIn_plain hgd fun K hK=>oper_skip (w':=w.setRow g cells) (by intro c hc;rw [ho] at hc;cases hc) (by
  unfold execOp
  simp only [ho,hx,hy,Instr.storeAt,Instr.sureAddr,Sem.run_bind,Sem.run_pure,Result.andThen_ok,run_storeVar_row w g t ty old cells hg hi hold h1]) (hK _ _ h)
theorem wideo_value {o:Oper} {a:Act} {w w':World} {v:Value} {K:Act→World→Prop} {Q:Exit→Act→World→Prop} (hnd:∀ c,o.op≠.defer c) (hr:(execOp a.eval o).run P w=.ok (.value v) w') (h:K (a.put o.dst v) w'):o.wpIn Fence.wide n P a w K Q:=by
 unfold Oper.wpIn
 refine ⟨fun _ _=>trivial,?_⟩
 rw [Oper.semAt_eq _ _ _ hnd,hr]
 exact h
theorem wideo_skip {o:Oper} {a:Act} {w w':World} {K:Act→World→Prop} {Q:Exit→Act→World→Prop} (hnd:∀ c,o.op≠.defer c) (hr:(execOp a.eval o).run P w=.ok .skip w') (h:K (a.put o.dst undef) w'):o.wpIn Fence.wide n P a w K Q:=by
 unfold Oper.wpIn
 refine ⟨fun _ _=>trivial,?_⟩
 rw [Oper.semAt_eq _ _ _ hnd,hr]
 exact h
theorem wide_load_row {rest:List Oper} {o:Oper} {a:Act} {w:World} {Q:Exit→Act→World→Prop} (hgd:o.guard=none) (ty:TypeId) (x:Operand) (ho:o.op=.load ty x)
 (g:Nat) (hx:a.eval x=.pointer (some ⟨g,0,none⟩)) (t:TypeId) (cs:Array Value) (fr:Nat × Nat) (d:TypeDesc) (hg:w.heap[g]?=some (.cells cs t fr))
 (hu:P.underlying ty=some d) (hd:(match d with | .struct _ | .array _ _=>true | _=>false)=true) (hi:(P.info? ty).map (·.size)=some cs.size)
 (h:wpListIn Fence.wide n P ops Q rest (a.put o.dst (.agg cs)) w):wpListIn Fence.wide n P ops Q (o::rest) a w:=
 wpListIn_plain hgd fun K hK=>wideo_value (w':=w) (v:=.agg cs) (by intro c hc;rw [ho] at hc;cases hc) (by
  unfold execOp
  simp only [ho,hx,Instr.loadAt,Instr.sureAddr,Sem.run_bind,Sem.run_pure,Result.andThen_ok,run_loadVar_row w g t ty cs fr d hg hu hd hi]) (hK _ _ h)
theorem wide_store_row {rest:List Oper} {o:Oper} {a:Act} {w:World} {Q:Exit→Act→World→Prop} (hgd:o.guard=none) (ty:TypeId) (x y:Operand) (ho:o.op=.store ty x y)
 (g:Nat) (cells:Array Value) (hx:a.eval x=.pointer (some ⟨g,0,none⟩)) (hy:a.eval y=.agg cells)
 (t:TypeId) (old:Array Value) (hg:w.heap[g]?=some (.cells old t (0,0))) (hi:(P.info? ty).map (·.size)=some cells.size) (hold:old.size=cells.size) (h1:cells.all (·.oneCell')=true)
 (h:wpListIn Fence.wide n P ops Q rest (a.put o.dst undef) (w.setRow g cells)):wpListIn Fence.wide n P ops Q (o::rest) a w:=
 wpListIn_plain hgd fun K hK=>wideo_skip (w':=w.setRow g cells) (by intro c hc;rw [ho] at hc;cases hc) (by
  unfold execOp
  simp only [ho,hx,hy,Instr.storeAt,Instr.sureAddr,Sem.run_bind,Sem.run_pure,Result.andThen_ok,run_storeVar_row w g t ty old cells hg hi hold h1]) (hK _ _ h)
end Rd
end Go.Proofs.YtdebnbgjgkbmaaaGreatDoor
namespace Go.Proofs.YtdebnbgjgkbmaaaGreatDoor.RowK
open Go.ChangeShapes Go.WideShapes Go.ChangeAt Go.RowKit
open Go.ChangeMaps (open_string shut_string)
theorem own:ownKnob Tryz.prog.godebug=none:=by kernel_rfl
theorem laidOut:laidOutB Tryz.prog=true:=by kernel_rfl
section
variable {H:Type} {enc:TypeId × Value→H} {P:Program} {w:World}
theorem laid_get {laid:List (String × DataW Unit)} {ps:List MemPlace} {n:String} {d:DataW Unit} (h:DataW.LaidVars P w laid ps) (hm:(n,d)∈laid) :
 ∃ g t cs fuel p,P.globalNamed n=some g∧(P.globals[g]?).map (·.type)=some t∧w.var? P n=some cs∧DataW.trod (fun _=>()) P w 0 (fun _=>true) false fuel t cs.toList=some (d,p):=by
 induction laid generalizing ps with
 | nil=>cases hm
 | cons x r ih=>
   obtain ⟨n',d'⟩:=x
   obtain ⟨g,t,cs,fuel,p,q,h1,h2,h3,h4,h5,_⟩:=h
   rcases List.mem_cons.1 hm with e | e
   · cases e;exact ⟨g,t,cs,fuel,p,h1,h2,h3,h4⟩
   · exact ih h5 e
theorem tab_get {laid:List (String × DataW Unit)} {n:String} {k:IntKind} {zs:List Int} {g:Nat} {t e:TypeId} {len:Nat}
 (h:laidMet P laid w) (hm:(n,Lib.tabData k zs)∈laid) (hg:P.globalNamed n=some g) (hty:(P.globals[g]?).map (·.type)=some t)
 (ht:P.underlying t=some (.array len e)) (he:P.underlying e=some (.int k)) (hce:P.cellsOf e=1) (hct:P.cellsOf t=len):Lib.TabIs P w n k zs:=by
 obtain ⟨ps,hv,_⟩:=h
 obtain ⟨g',t',cs,fuel,p,hg',ht',hvar,hd⟩:=laid_get hv hm
 obtain rfl:=Option.some.inj (hg.symm.trans hg')
 obtain rfl:=Option.some.inj (hty.symm.trans ht')
 unfold Lib.TabIs
 rw [hvar,← Lib.cells_of_tab ht he hce hct hd]
end
theorem wf_u8 {a:Int} (h:(Lit.int .u8 a).wf=true):0≤a∧a≤255:=by simpa [Lit.wf,IntKind.min,IntKind.max,IntKind.signed,IntKind.bits] using h
theorem wf_u16 {a:Int} (h:(Lit.int .u16 a).wf=true):0≤a∧a≤65535:=by simpa [Lit.wf,IntKind.min,IntKind.max,IntKind.signed,IntKind.bits] using h
end Go.Proofs.YtdebnbgjgkbmaaaGreatDoor.RowK
namespace Go.Proofs.YtdebnbgjgkbmaaaGreatDoor
open Go.RowKit
set_option linter.unusedVariables false
def bytesI (n:Nat) (f:Nat→Int):ByteArray:=strOfNums ((List.range n).map f)
theorem bytesI_size (n:Nat) (f:Nat→Int):(bytesI n f).size=n:=by unfold bytesI;rw [strOfNums_size];simp
def bk (k:ByteArray) (i:Nat):Int:=(Sha.byte k i:Nat)
def hstr (F:Nat→Nat):ByteArray:=bytesI 32 fun i=>(F i:Nat)
theorem hstr_size (F:Nat→Nat):(hstr F).size=32:=bytesI_size _ _
def keyOf (k:ByteArray):ByteArray:=if 64<k.size then hstr (Sha.sum k) else k
theorem sum_lt (t:ByteArray) (i:Nat):Sha.sum t i<256:=Nat.mod_lt _ (by decide)
def ofH (F:Nat→Nat):Nat→Nat:=Sha.sum (hstr F)
theorem ofH_lt (F:Nat→Nat) (i:Nat):ofH F i<256:=sum_lt _ i
theorem conv_rowI {w:World} {g n:Nat} {t:TypeId} {f:Nat→Int} (h:M.RowAt w g t (M.rowF .u8 n f)):(convert 55 9 (.slice (some ⟨g,0,none⟩) n n)).run Tryz.prog w=.ok (.string (bytesI n f)) w:=
 run_convert_bytes_arg (P:=Tryz.prog) w 55 5 Tryz.underlying55 Tryz.underlying5 g 0 n n ((List.range n).map f) (by simp) (fun i hi=>by
  have e:((List.range n).map f).getD i 0=f i:=by rw [List.getD_eq_getElem?_getD,List.getElem?_map,List.getElem?_range hi];rfl
  rw [Nat.zero_add,h.cell i,M.rowF_get hi,e]) 9 Tryz.underlying9
theorem conv_row8 {w:World} {g:Nat} {t:TypeId} {F:Nat→Nat} (h:M.RowAt w g t (r8 32 F)):(convert 55 9 (.slice (some ⟨g,0,none⟩) 32 32)).run Tryz.prog w=.ok (.string (hstr F)) w:=conv_rowI h
open Go.RowKit
set_option linter.unusedVariables false
structure KB (n:Nat) (w:World) (L:List (Nat × TypeId × Array Value)) (v:World):Prop where
 rows:∀ x∈L,v.heap[x.1]?=some (.cells x.2.2 x.2.1 (0,0))
 below:Below n w v
 ge:n≤v.heap.size
section
variable {n:Nat} {w v v':World} {L L':List (Nat × TypeId × Array Value)}
theorem KB.start (w:World):KB w.heap.size w [] w:=⟨fun x h=>by simp at h,Below.refl _ _,Nat.le_refl _⟩
theorem KB.row (c:KB n w L v) (g:Nat) (t:TypeId) (C:Array Value) (h:(g,t,C)∈L):v.heap[g]?=some (.cells C t (0,0)):=c.rows _ h
theorem KB.drew (c:KB n w L v):KB n w L v.drew:=⟨c.rows,c.below.drew,c.ge⟩
theorem KB.drewN (c:KB n w L v) (k:Nat):KB n w L (v.drewN k):=⟨c.rows,M.below_drewN c.below k,c.ge⟩
theorem KB.sub (c:KB n w L v) (h:∀ x∈L',x∈L):KB n w L' v:=⟨fun x hx=>c.rows x (h x hx),c.below,c.ge⟩
theorem KB.same (c:KB n w L v) (hb:Below v.heap.size v v'):KB n w L v':=
 ⟨fun x hx=>M.RowAt.call (c.rows x hx) hb,c.below.trans (hb.mono c.ge),Nat.le_trans c.ge hb.size⟩
theorem KB.alloc (c:KB n w L v) (o:Obj):KB n w L (v.alloc o):=c.same ((Below.refl _ _).alloc (Nat.le_refl _) o)
theorem KB.new (c:KB n w L v) (t:TypeId) (Z:Array Value):KB n w ((v.heap.size,t,Z)::L) (v.alloc (.cells Z t)):=
 ⟨fun x hx=>by
   rcases List.mem_cons.1 hx with e | e
   · subst e;exact M.RowAt.new v t Z
   · exact (c.alloc _).rows x e,(c.alloc _).below,(c.alloc _).ge⟩
theorem KB.setRow {g:Nat} {t:TypeId} {Z:Array Value} (c:KB n w ((g,t,Z)::L) v) (hne:∀ x∈L,x.1≠g) (hg:n≤g) (D:Array Value):KB n w ((g,t,D)::L) (v.setRow g D):=
 ⟨fun x hx=>by
   rcases List.mem_cons.1 hx with e | e
   · subst e;exact M.RowAt.setRow (c.rows (g,t,Z) List.mem_cons_self) D
   · exact M.RowAt.farRow (c.rows x (List.mem_cons_of_mem _ e)) (fun h=>hne x e h.symm) D,M.below_setRow c.below hg,by simpa using c.ge⟩
theorem KB.set {g:Nat} {t:TypeId} {Z:Array Value} (c:KB n w ((g,t,Z)::L) v) (hne:∀ x∈L,x.1≠g) (hg:n≤g) (i:Nat) (u:Value):KB n w ((g,t,Z.setIfInBounds i u)::L) (v.setCell ⟨g,i,none⟩ u):=
 ⟨fun x hx=>by
   rcases List.mem_cons.1 hx with e | e
   · subst e;exact M.RowAt.set (c.rows (g,t,Z) List.mem_cons_self) i u
   · exact M.RowAt.far (c.rows x (List.mem_cons_of_mem _ e)) (p:=⟨g,i,none⟩) (fun h=>hne x e h.symm) u,c.below.setCell (p:=⟨g,i,none⟩) hg u,by simpa [World.setCell] using c.ge⟩
theorem KB.lt (c:KB n w L v) {x:Nat × TypeId × Array Value} (hx:x∈L):x.1<v.heap.size:=M.RowAt.lt (c.rows x hx)
theorem KB.box (c:KB n w L v) (t:TypeId) (Z D:Array Value):∃ g V U,v.heap.size=g∧v.alloc (.cells Z t)=V∧V.heap[g]?=some (.cells Z t (0,0))∧V.setRow g D=U∧KB n w ((g,t,D)::L) U∧n≤g∧∀ x∈L,x.1<g:=
 ⟨_,_,_,rfl,rfl,M.RowAt.new v t Z,rfl,(c.new t Z).setRow (fun x hx=>Nat.ne_of_lt (c.lt hx)) c.ge D,c.ge,fun x hx=>c.lt hx⟩
end
open Go.RowKit
set_option linter.unusedVariables false
def flipH (F:Nat→Nat) (a:Nat):Nat→Nat:=fun j=>if j=a/8 then F j ^^^ 2 ^ (a%8) else F j
theorem xor_pow (y a:Nat) (hy:y<256):bits .xor .u8 (y:Int) ((2:Int) ^ (a%8)%256)=((y ^^^ 2 ^ (a%8):Nat):Int):=by
 have hp:2 ^ (a%8)<256:=Nat.lt_of_le_of_lt (Nat.pow_le_pow_right (by decide) (show a%8≤7 by omega)) (by decide)
 have e:((2:Int) ^ (a%8)%256)=((2 ^ (a%8):Nat):Int):=by
  have:(2:Int) ^ (a%8)=((2 ^ (a%8):Nat):Int):=by norm_cast
  rw [this];exact Int.emod_eq_of_lt (Int.natCast_nonneg _) (Int.ofNat_lt.2 hp)
 rw [e]
 exact u8_xor_nat y (2 ^ (a%8)) hy hp
theorem flipH_set (F:Nat→Nat) (a:Nat) (h:a<256) (v:Int) (hv:v=((F (a/8) ^^^ 2 ^ (a%8):Nat):Int)):(r8 32 F).setIfInBounds (a/8) (.int .u8 v)=r8 32 (flipH F a):=
 M.rowF_set (g:=fun i=>((flipH F a i:Nat):Int)) v (by omega) (fun j _=>by
  unfold flipH
  by_cases he:j=a/8
  · rw [if_pos he,if_pos he,hv,he]
  · rw [if_neg he,if_neg he])
open Go.RowKit
theorem ret_bool {a b:Bool} (h:a=b):Ending.returned (.bool a)=.returned (.bool b):=by rw [h]
def isN (i:Int):Bool:=decide (0≤i)&&decide (i<65536)
def place (i:Int):Nat:=if isN i then min (Lib.ctz 64 i.toNat) 16 else 0
open Go.RowKit Go.Shelf
set_option linter.unusedVariables false
attribute [local go_sem] Oper.semAt_some
def onesL (i d:Nat):Nat→List Nat
 | 0=>[]
 | j+1=>onesL i d j++(if i/2 ^ (d-1-j)%2=1 then [d-1-j] else [])
theorem onesL_len (i d j:Nat):(onesL i d j).length≤j:=by
 induction j with
 | zero=>simp [onesL]
 | succ j ih=>unfold onesL;rw [List.length_append];split<;>simp<;>omega
theorem onesL_yes {i d j:Nat} (h:i/2 ^ (d-1-j)%2=1):onesL i d (j+1)=onesL i d j++[d-1-j]:=by show _++_=_;rw [if_pos h]
theorem onesL_no {i d j:Nat} (h:¬ i/2 ^ (d-1-j)%2=1):onesL i d (j+1)=onesL i d j:=by show _++_=_;rw [if_neg h];simp
def step1 (F:Nat→Nat) (b:Nat):Nat→Nat:=ofH (flipH F b)
def walkH (F:Nat→Nat) (i d:Nat):Nat→Nat:=(onesL i d d).foldl step1 F
theorem ones_any (i d:Int) (w:World) :
 Calls Tryz.prog 206 #[.int .i64 i,.int .i64 d] w fun e w'=>e=.returned (.func (.func 277) #[] #[.pointer (some ⟨w.heap.size+1,0,none⟩),.pointer (some ⟨w.heap.size,0,none⟩)])∧w'=(w.alloc (.cells #[.int .i64 i] 3)).alloc (.cells #[.int .i64 d] 3):=by
 have hmf:∀ (fn:Fn) (first cap:Array Value) (w:World),(Instr.makeFunc fn first cap).run Tryz.prog w=.ok (.func fn first cap) w:=fun _ _ _ _=>rfl
 go_enter Tryz.func206,Tryz.ntmps206
 go_wp2
 go_ret
 exact ⟨rfl,rfl⟩
abbrev B16:={ b:Nat // b<16 }
def KeepI (bi:Nat) (W W':World):Prop:=∀ v,W.cell? ⟨bi,0,none⟩=some v→W'.cell? ⟨bi,0,none⟩=some v
theorem KeepI.t {bi:Nat} {A B C:World} (h:KeepI bi A B) (k:KeepI bi B C):KeepI bi A C:=fun v hv=>k v (h v hv)
theorem KeepI.b {bi:Nat} {w:World} (W:World) (l:Nat) (o o':Obj) (_:w.heap.size≤l) (h:W.heap[l]?=some o) (hc:o.isCells=false) (_:o.isWalk=false):KeepI bi W (W.putObj l o'):=
 fun v hv=>cell_kept hv (grownBy_putObj' W l o') (fun r e=>by cases e;exact ⟨o,h,hc⟩)
theorem i64_and1 (n:Int):bits .and .i64 n 1=n%2:=by
 have h1:(BitVec.ofInt 64 1).toNat=2 ^ 1-1:=by decide
 have key:(BitVec.ofInt 64 n &&& BitVec.ofInt 64 1).toNat=(n%((2 ^ 64:Nat):Int)).toNat%2 ^ 1:=by
  rw [BitVec.toNat_and,BitVec.toNat_ofInt,h1,Nat.and_two_pow_sub_one_eq_mod]
 show IntKind.i64.wrap ((BitVec.ofInt 64 n &&& BitVec.ofInt 64 1).toNat:Nat)=n%2
 rw [key,IntKind.wrap_i64]
 omega
theorem bit_yes {i b:Nat} (h:i/2 ^ b%2=1):bits .and .i64 ((i:Int)/2 ^ b) 1=1:=by
 rw [i64_and1,show ((i:Int)/2 ^ b)=((i/2 ^ b:Nat):Int) by norm_cast];omega
theorem bit_no {i b:Nat} (h:¬ i/2 ^ b%2=1):bits .and .i64 ((i:Int)/2 ^ b) 1=0:=by
 rw [i64_and1,show ((i:Int)/2 ^ b)=((i/2 ^ b:Nat):Int) by norm_cast];omega
set_option maxRecDepth 100000 in
set_option maxHeartbeats 2000000 in
theorem ones_stops (n:Nat) (hn:1≤n) (bi bd i d:Nat) (hi:i<65536) (hd:d≤16) (w0:World) (hbi:w0.cell? ⟨bi,0,none⟩=some (.int .i64 (i:Nat))) (hbd:w0.cell? ⟨bd,0,none⟩=some (.int .i64 (d:Nat))) :
 SeqStopsK (α:=B16) Fence.wide n Tryz.prog 277 #[.pointer (some ⟨bd,0,none⟩),.pointer (some ⟨bi,0,none⟩)] (fun x=>#[.int .i64 (x.1:Nat)]) (KeepI bi) (fun xs=>xs.map (·.1)=onesL i d d) (fun _=>True) 17 w0:=by
 intro l J Jx W hW hJ hJx hY h0
 have hbi':W.cell? ⟨bi,0,none⟩=some (.int .i64 (i:Nat)):=by rw [hW.cell (World.block_lt_of_cell? w0 _ hbi)];exact hbi
 have hbd':W.cell? ⟨bd,0,none⟩=some (.int .i64 (d:Nat)):=by rw [hW.cell (World.block_lt_of_cell? w0 _ hbd)];exact hbd
 clear hbi hbd hW
 refine callsIn_of_wp Tryz.func277 rfl trivial ?_ rfl
 simp only [Tryz.ntmps277,List.size_toArray,List.length_cons,List.length_nil,Nat.reduceAdd,Nat.reduceSub,Array.replicate_succ,Array.replicate_zero,List.push_toArray,List.append_toArray,List.nil_append,List.cons_append]
 gi_wp2
 gi_loopw [4] (fun p wr=>∃ (j:Nat) (pre:List B16),j≤d∧p=.int .i64 ((d:Int)-1-j)∧pre.map (·.1)=onesL i d j∧wr.cell? ⟨bi,0,none⟩=some (.int .i64 (i:Nat))∧J pre wr)
  (fun p wr=>(intOf p+1).toNat)
 case atStart=>exact ⟨0,[],by omega,by simp,rfl,hbi',h0⟩
 case round=>
  clear h0 hbi' hbd'
  obtain ⟨j,pre,hj,rfl,hpre,hci,hJs⟩:=hrel
  by_cases hlt:j<d
  · obtain ⟨b,hb⟩:∃ b,d-1-j=b:=⟨_,rfl⟩
    have e:(d:Int)-1-j=(b:Int):=by omega
    have hb16:b<16:=by omega
    have hlen:=onesL_len i d j
    have hpl:pre.length=(onesL i d j).length:=by rw [←hpre,List.length_map]
    have HB:=Lib.hid hb;have HE:=Lib.hid e;have HP:=Lib.hid hpre;have HPL:=Lib.hid hpl
    rw [e]
    clear hb e hpre hpl
    by_cases hbit:i/2 ^ b%2=1
    · have hy1:=onesL_yes (i:=i) (d:=d) (j:=j) (by rw [HB.out];exact hbit)
      have hand:=bit_yes hbit
      have HY1:=Lib.hid hy1
      obtain ⟨fn,tmps,assign,body,hy,hR⟩:=hY pre ⟨b,hb16⟩ wr hJs (by have:=HPL.out;omega)
      dsimp only at hy
      clear hy1 hbit
      gi_wp2
      refine hR.mono ?_
      rintro e W3 (⟨rfl,hJ3,hk3⟩ | ⟨rfl,hJx3⟩)
      · have hc3:=hk3 _ hci
        gi_wp2
        go_roundw
        case rel=>exact ⟨j+1,pre++[⟨b,hb16⟩],by omega,by have:=HE.out;congr 1;push_cast;omega,by rw [List.map_append,HP.out,HY1.out,HB.out];rfl,hc3,hJ3⟩
        case measure=>simp [intOf]
      · gi_wp2
        refine bodyPost_ret (results_none rfl _ _ _) rfl ?_
        exact ⟨⟨_,rfl⟩,.inr ⟨pre++[⟨b,hb16⟩],trivial,hJx3⟩⟩
    · have hn1:=onesL_no (i:=i) (d:=d) (j:=j) (by rw [HB.out];exact hbit)
      have hand:=bit_no hbit
      have HN1:=Lib.hid hn1
      clear hn1 hbit
      gi_wp2
      refine ⟨fun _ h=>(by cases h),?_⟩
      gi_wp2
      go_roundw
      case rel=>exact ⟨j+1,pre,by omega,by have:=HE.out;congr 1;push_cast;omega,by rw [HP.out,HN1.out],hci,hJs⟩
      case measure=>simp [intOf]
  · obtain rfl:j=d:=by omega
    have hz:(j:Int)-1-j=-1:=by omega
    rw [hz]
    clear hz
    gi_wp2
    go_end0
    exact ⟨⟨_,rfl⟩,.inl ⟨pre,hpre,hJs⟩⟩
open Go.RowKit Go.Shelf
set_option linter.unusedVariables false
attribute [local go_sem] Oper.semAt_some
structure RB (n:Nat) (w W:World) (bi:Nat) (L:List (Nat × TypeId × Array Value)) (v:World):Prop where
 kb:KB n w L v
 ko:KeepsOthers W v
 ki:KeepI bi W v
section
variable {n bi:Nat} {w W v v':World} {L:List (Nat × TypeId × Array Value)}
theorem RB.drew (c:RB n w W bi L v):RB n w W bi L v.drew:=⟨c.kb.drew,c.ko.trans (KeepsOthers.drew _),c.ki⟩
theorem RB.same (c:RB n w W bi L v) (hb:Below v.heap.size v v'):RB n w W bi L v':=
 ⟨c.kb.same hb,c.ko.trans ⟨hb.size,fun k o h _=>by rw [hb.block k (Array.getElem?_eq_some_iff.1 h).1];exact h⟩,fun x hx=>by
   have h:=c.ki x hx
   rw [hb.cell (World.block_lt_of_cell? v _ h)];exact h⟩
theorem RB.set {g:Nat} {t:TypeId} {Z:Array Value} (c:RB n w W bi ((g,t,Z)::L) v) (hne:∀ x∈L,x.1≠g) (hg:n≤g) (hbi:bi≠g) (i:Nat) (u:Value):RB n w W bi ((g,t,Z.setIfInBounds i u)::L) (v.setCell ⟨g,i,none⟩ u):=
 ⟨c.kb.set hne hg i u,c.ko.trans (KeepsOthers.setCell _ _ _),fun x hx=>by
   rw [World.cell?_setCell_other _ _ _ _ (fun h=>hbi (by cases h;rfl))];exact c.ki x hx⟩
theorem RB.setRow {g:Nat} {t:TypeId} {Z:Array Value} (c:RB n w W bi ((g,t,Z)::L) v) (hne:∀ x∈L,x.1≠g) (hg:n≤g) (hbi:bi≠g) (D:Array Value):RB n w W bi ((g,t,D)::L) (v.setRow g D):=
 ⟨c.kb.setRow hne hg D,c.ko.trans ⟨by simp,fun k o h hc=>by
   by_cases e:k=g
   · subst e
     have:=c.kb.rows (k,t,Z) List.mem_cons_self
     simp only at this
     rw [this] at h;cases h;cases hc
   · simp only [World.setRow,Array.getElem?_modify];rw [if_neg (fun h=>e h.symm)];exact h⟩,fun x hx=>by
   have h:=c.ki x hx
   unfold World.cell? at *
   simp only [World.setRow,Array.getElem?_modify]
   rw [if_neg (fun h=>hbi h.symm)];exact h⟩
theorem KB.grown {row:Option Nat} (c:KB n w L v) (hg:v.grownBy v' row) (hr:∀ r,row=some r→n≤r∧∃ o:Obj,v.heap[r]?=some o∧o.isCells=false):KB n w L v':=
 ⟨fun x hx=>by
   have h:=c.rows x hx
   rw [hg.block x.1 (Array.getElem?_eq_some_iff.1 h).1 (fun e=>by
    obtain ⟨_,o,ho,hc⟩:=hr x.1 e.symm
    rw [h] at ho;cases ho;cases hc)]
   exact h,c.below.grown hg c.ge (fun k e=>(hr k e).1),Nat.le_trans c.ge hg.size⟩
end
theorem own_kb {β:Type} {n B:Nat} {w:World} (L:β→List (Nat × TypeId × Array Value)) (hB:n≤B):OwnFrom B (fun (s:β) W=>KB n w (L s) W):=
 fun s W W' row hs hg hr=>hs.grown hg (fun r e=>⟨Nat.le_trans hB (hr r e).1,(hr r e).2⟩)
theorem wrap_pow (b:Nat):IntKind.u8.wrap (2 ^ min ((b:Int).tmod 8).toNat 8)=(2:Int) ^ (b%8)%256:=by
 have e:((b:Int).tmod 8).toNat=b%8:=by rw [Int.tmod_eq_emod_of_nonneg (by omega)];omega
 rw [e,Nat.min_eq_left (by omega),IntKind.wrap_u8]
def accB (F:Nat→Nat) (pre:List B16):Nat→Nat:=(pre.map (·.1)).foldl step1 F
theorem accB_snoc (F:Nat→Nat) (pre:List B16) (x:B16):accB F (pre++[x])=ofH (flipH (accB F pre) x.1):=by simp [accB,step1]
theorem accB_lt {F:Nat→Nat} (hF:∀ i,F i<256) (pre:List B16):∀ i,accB F pre i<256:=by
 intro i
 rcases List.eq_nil_or_concat pre with h | ⟨l,x,h⟩
 · subst h;exact hF i
 · rw [h,List.concat_eq_append,accB_snoc];exact ofH_lt _ _
set_option maxRecDepth 100000 in
set_option maxHeartbeats 4000000 in
theorem chain_any (F:Nat→Nat) (i d:Nat) (w:World) (ht:Tabs w) (hF:∀ j,F j<256) (hi:i<65536) (hd:d≤16) :
 Calls Tryz.prog 131 #[.agg (r8 32 F),.int .i64 (i:Nat),.int .i64 (d:Nat)] w fun e w'=>e=.returned (.agg (r8 32 (walkH F i d)))∧Below w.heap.size w w':=by
 obtain ⟨n,hn⟩:∃ n,w.heap.size=n:=⟨_,rfl⟩
 have HN:=Lib.hid hn
 have h1n:4<n:=hn▸ht.lt
 have tb:=fun v (hb:Below n w v)=>ht.below hb h1n
 have TB:=Lib.hid tb
 have kb0:=((((KB.start w).new 47 (r8 32 F)).new 47 Z32).alloc (.cells #[.int .i64 (i:Nat)] 3)).alloc (.cells #[.int .i64 (d:Nat)] 3)
 rw [World.size_alloc,hn] at kb0
 have ci:((((w.alloc (.cells (r8 32 F) 47)).alloc (.cells Z32 47)).alloc (.cells #[.int .i64 (i:Nat)] 3)).alloc (.cells #[.int .i64 (d:Nat)] 3)).cell? ⟨n+1+1,0,none⟩=some (.int .i64 (i:Nat)):=by
  have:=((M.RowAt.new ((w.alloc (.cells (r8 32 F) 47)).alloc (.cells Z32 47)) 3 #[.int .i64 (i:Nat)]).alloc (.cells #[.int .i64 (d:Nat)] 3)).cell 0
  rw [World.size_alloc,World.size_alloc,hn] at this
  exact this
 have cd:((((w.alloc (.cells (r8 32 F) 47)).alloc (.cells Z32 47)).alloc (.cells #[.int .i64 (i:Nat)] 3)).alloc (.cells #[.int .i64 (d:Nat)] 3)).cell? ⟨n+1+1+1,0,none⟩=some (.int .i64 (d:Nat)):=by
  have:=(M.RowAt.new (((w.alloc (.cells (r8 32 F) 47)).alloc (.cells Z32 47)).alloc (.cells #[.int .i64 (i:Nat)] 3)) 3 #[.int .i64 (d:Nat)]).cell 0
  rw [World.size_alloc,World.size_alloc,World.size_alloc,hn] at this
  exact this
 have hsz:((((w.alloc (.cells (r8 32 F) 47)).alloc (.cells Z32 47)).alloc (.cells #[.int .i64 (i:Nat)] 3)).alloc (.cells #[.int .i64 (d:Nat)] 3)).heap.size=n+1+1+1+1:=by
  rw [World.size_alloc,World.size_alloc,World.size_alloc,World.size_alloc,hn]
 have hwk:∀ xs:List B16,xs.map (·.1)=onesL i d d→accB F xs=walkH F i d:=fun xs h=>by unfold accB walkH;rw [h]
 have hacc:=fun pre=>accB_lt hF pre
 have hnil:accB F []=F:=rfl
 have HWK:=Lib.hid hwk
 have HACC:=Lib.hid hacc
 obtain ⟨G,hG⟩:∃ G,walkH F i d=G:=⟨_,rfl⟩
 have HG:=Lib.hid hG
 obtain ⟨C,hC⟩:∃ C,r8 32 F=C:=⟨_,rfl⟩
 have hC0:r8 32 (accB F [])=C:=hC
 rw [hC] at kb0 ci cd hsz
 rw [hC,hG]
 have HC0:=Lib.hid hC0
 obtain ⟨W0,hW0⟩:∃ W0,(((w.alloc (.cells C 47)).alloc (.cells Z32 47)).alloc (.cells #[.int .i64 (i:Nat)] 3)).alloc (.cells #[.int .i64 (d:Nat)] 3)=W0:=⟨_,rfl⟩
 rw [hW0] at kb0 ci cd hsz
 have hW0':(((w.alloc (.cells C 47)).alloc (.cells #[.int .u8 0,.int .u8 0,.int .u8 0,.int .u8 0,.int .u8 0,.int .u8 0,.int .u8 0,.int .u8 0,.int .u8 0,.int .u8 0,.int .u8 0,.int .u8 0,.int .u8 0,.int .u8 0,.int .u8 0,.int .u8 0,.int .u8 0,.int .u8 0,.int .u8 0,.int .u8 0,.int .u8 0,.int .u8 0,.int .u8 0,.int .u8 0,.int .u8 0,.int .u8 0,.int .u8 0,.int .u8 0,.int .u8 0,.int .u8 0,.int .u8 0,.int .u8 0] 47)).alloc (.cells #[.int .i64 (i:Nat)] 3)).alloc (.cells #[.int .i64 (d:Nat)] 3)=W0:=hW0
 have HW0:=Lib.hid hW0'
 have hstops:=ones_stops 7 (by decide) (n+1+1) (n+1+1+1) i d hi hd W0 ci cd
 have HST:=Lib.hid hstops
 clear hW0 hW0' hC hC0 hG hwk hacc hnil ht tb ci cd hstops
 refine (callsIn_wide (n:=8)).1 ?_
 refine callsIn_of_wp_marks Tryz.func131 rfl trivial ?_ rfl
 simp only [Tryz.ntmps131,List.size_toArray,List.length_cons,List.length_nil,Nat.reduceAdd,Nat.reduceSub,Array.replicate_succ,Array.replicate_zero,List.push_toArray,List.append_toArray,List.nil_append,List.cons_append]
 gi_wp2_with fail
 refine ⟨trivial,?_⟩
 refine (callsIn_wide.2 (ones_any _ _ _)).mono ?_
 rintro e w' ⟨rfl,rfl⟩
 rw [World.size_alloc,World.size_alloc,hn]
 rw [HW0.out]
 clear hn
 gi_wp2
 refine wpIn_rangeFunc_ownF rfl (by decide) (gf:=277) (lb:=#[.pointer (some ⟨n+1+1+1,0,none⟩),.pointer (some ⟨n+1+1,0,none⟩)]) rfl trivial (enters_of Tryz.func277 (by kernel_rfl) rfl)
  HST.out KeepI.t KeepI.b (Below.refl _ _) (fun _=>rfl)
  (fun pre W=>KB n w [(n,47,r8 32 (accB F pre)),(n+1,47,Z32)] W)
  (fun _ _ _=>False)
  (own_kb _ (by rw [hsz];omega))
  (fun _ _ _ _ _ hs _ _=>hs)
  (by rw [HC0.out];exact kb0.sub (by simp))
  (fun x=>{ tmps:=#[.agg C,.int .i64 (i:Nat),.int .i64 (d:Nat),.pointer (some ⟨n,0,none⟩),undef,undef,.pointer (some ⟨n+1,0,none⟩),.int .i64 (x.1:Nat),.int .i64 (i:Nat),.int .i64 (d:Nat),.func (.func 277) #[] #[.pointer (some ⟨n+1+1+1,0,none⟩),.pointer (some ⟨n+1+1,0,none⟩)],.int .i64 (x.1:Nat),undef,undef,undef,undef,undef,undef,undef,undef,undef,undef,undef,undef,undef],defers:=[] }) ?assign ?body ?done ?stop
 case assign=>
  intro l x W K hK
  gi_wp2
  exact hK
 case body=>
  rintro l pre ⟨b,hb⟩ W hI _
  have hlt:=HACC.out pre
  have hsn:=accB_snoc F pre ⟨b,hb⟩
  simp only at hsn
  obtain ⟨A,hA⟩:∃ A,accB F pre=A:=⟨_,rfl⟩
  rw [hA] at hsn hlt hI
  have HSN:=Lib.hid hsn
  clear hsn kb0 hsz hA
  have hof:Sha.sum (hstr (flipH A b))=ofH (flipH A b):=rfl
  have cs:=fun v (h:Below n w v)=>sum_any (hstr (flipH A b)) v (TB.out v h) (by rw [hstr_size];decide)
  rw [hof] at cs
  have hcv:=fun v g (h:M.RowAt v g 47 (r8 32 (flipH A b)))=>conv_row8 h
  have a8:=hlt (b/8)
  have st:=flipH_set A b (by omega) _ (xor_pow (A (b/8)) b a8)
  have ca:(r8 32 A)[b/8]?=some (.int .u8 (A (b/8):Nat)):=M.rowF_get (by omega)
  have rb0:RB n w W (n+1+1) [(n,47,r8 32 A),(n+1,47,Z32)] W:=⟨hI,KeepsOthers.refl _,fun v h=>h⟩
  have iO:=r8_info (ofH (flipH A b));have oO:=r8_one (ofH (flipH A b))
  have zO:(r8 32 (flipH A b)).size=(r8 32 (ofH (flipH A b))).size:=by rw [r8_size,r8_size]
  obtain ⟨O,hO⟩:∃ O,r8 32 (ofH (flipH A b))=O:=⟨_,rfl⟩
  rw [hO] at cs iO oO zO
  have HO:=Lib.hid hO
  clear hO
  generalize r8 32 (flipH A b)=T at *
  generalize hstr (flipH A b)=Y at *
  generalize r8 32 A=R at *
  generalize A (b/8)=y at *
  have setc:∀ v,RB n w W (n+1+1) [(n,47,R),(n+1,47,Z32)] v→RB n w W (n+1+1) [(n,47,T),(n+1,47,Z32)] (v.setCell ⟨n,b/8,none⟩ (.int .u8 (bits .xor .u8 (y:Int) ((2:Int) ^ (b%8)%256)))):=fun v c=>by
   have:=c.set (fun x hx=>by simp at hx;subst hx;show n+1≠n;omega) (Nat.le_refl _) (by omega) (b/8) (.int .u8 (bits .xor .u8 (y:Int) ((2:Int) ^ (b%8)%256)))
   rw [st] at this;exact this
  have cellc:∀ v,RB n w W (n+1+1) [(n,47,R),(n+1,47,Z32)] v→v.cell? ⟨n,b/8,none⟩=some (.int .u8 (y:Nat))∧v.frozen? ⟨n,b/8,none⟩=false:=fun v c=>
   ⟨(M.RowAt.cell (c.kb.rows (n,47,R) List.mem_cons_self) (b/8)).trans ca,M.RowAt.frozen (c.kb.rows (n,47,R) List.mem_cons_self) (b/8)⟩
  have SETC:=Lib.hid setc;have CELLC:=Lib.hid cellc;have CS:=Lib.hid cs;have HCV:=Lib.hid hcv
  have w1:IntKind.i64.wrap ((b:Int)/8)=(b:Int)/8:=IntWalk.i64_in _ (by omega)
  have w2:(0:Int)≤(b:Int)/8:=by omega
  have w3:(b:Int)/8<32:=by omega
  have w4:((b:Int)/8).toNat=b/8:=by omega
  clear cs hcv st ca setc cellc hI hof hlt a8
  gi_wp2_with fail
  refine Rd.wpIn_region_p 9 (RB n w W (n+1+1) [(n,47,R),(n+1,47,Z32)]) (RB n w W (n+1+1) [(n,47,T),(n+1,47,Z32)]) (by kernel_rfl) (by kernel_rfl) (by kernel_rfl) rb0.drew ?_
  iterate 10
   (refine QT.wpQ_step (fun K hK=>?_)
    go_simp
    first
     | (refine hK _ ?_;clear hK K)
     | (refine ⟨?_,hK _ ?_⟩;decide;clear hK K)
     | ((first | (apply Exists.intro;refine ⟨?_,hK _ ?_⟩) | refine ⟨⟨undef,?_⟩,hK _ ?_⟩)
        first
         | (apply QT.al_p;decide;(focus (intro wq hq;(first | (obtain ⟨hc1,hf1⟩:=CELLC.out _ hq) | skip);first | (fail) | (unfold QP.oat;go_simp;first | done | exact ⟨by assumption,rfl⟩ | exact rfl | assumption | ((rw [wrap_pow];exact SETC.out _ hq))))))
         | (apply QT.al_dep;decide;decide;(focus (intro wq hq;(first | (obtain ⟨hc1,hf1⟩:=CELLC.out _ hq) | skip);first | (fail) | (unfold QP.oat;go_simp;first | done | exact ⟨by assumption,rfl⟩ | exact rfl | assumption | ((rw [wrap_pow];exact SETC.out _ hq))))))
         | (apply QT.al_bef;decide;decide;(focus (intro wq hq;(first | (obtain ⟨hc1,hf1⟩:=CELLC.out _ hq) | skip);first | (fail) | (unfold QP.oat;go_simp;first | done | exact ⟨by assumption,rfl⟩ | exact rfl | assumption | ((rw [wrap_pow];exact SETC.out _ hq))))))
         | (apply QT.al_ok;decide;(focus (intro wq hq;(first | (obtain ⟨hc1,hf1⟩:=CELLC.out _ hq) | skip);first | (fail) | (unfold QP.oat;go_simp;first | done | exact ⟨by assumption,rfl⟩ | exact rfl | assumption | ((rw [wrap_pow];exact SETC.out _ hq)))));(focus (intro wq hq;(first | (obtain ⟨hc1,hf1⟩:=CELLC.out _ hq) | skip);first | (fail) | (unfold QP.oat;go_simp;first | done | exact ⟨by assumption,rfl⟩ | exact rfl | assumption | ((rw [wrap_pow];exact SETC.out _ hq))))))
        clear hK K))
  refine QT.wpQ_nil ?_
  intro wz bz
  have hcv:=HCV.out _ _ (bz.kb.rows (n,47,T) List.mem_cons_self)
  gi_wp2_with fail
  refine ⟨trivial,?_⟩
  refine (CallsIn.inRound l (callsIn_wide.2 (CS.out _ bz.kb.below))).mono ?_
  rintro e w3 ⟨rfl,gq⟩
  have b3:=bz.same gq
  have rT:w3.heap[n]?=some (.cells T 47 (0,0)):=b3.kb.rows (n,47,T) List.mem_cons_self
  have b4:=b3.setRow (fun x hx=>by simp at hx;subst hx;show n+1≠n;omega) (Nat.le_refl _) (by omega) O
  clear gq bz hcv b3
  gi_wp2_with (refine Rd.list_store_row ?_ (x:=.tmp 3) (y:=.tmp 23) (cells:=O) (old:=T) (t:=47) (ty:=47) (g:=n) ?_ ?_ ?_ rT iO zO oO ?_;rfl;rfl;rfl;rfl)
  exact ⟨b4.ko,b4.ki,by show KB n w [(n,47,r8 32 (accB F (pre++[⟨b,hb⟩]))),(n+1,47,Z32)] _;rw [HSN.out,HO.out];exact b4.kb⟩
 case done=>
  rintro D xs W hD hxs hI hK
  have hx:accB F xs=G:=(HWK.out xs hxs).trans HG.out
  rw [hx] at hI
  have hb1:=belowK_b (w:=w) (n₀:=n) (by rw [HN.out];exact Nat.le_refl _)
  have rG:W.heap[n]?=some (.cells (r8 32 G) 47 (0,0)):=hI.rows (n,47,r8 32 G) List.mem_cons_self
  have rZ:W.heap[n+1]?=some (.cells Z32 47 (0,0)):=hI.rows (n+1,47,Z32) (by simp)
  have kz:KB n w [(n+1,47,Z32),(n,47,r8 32 G)] W:=hI.sub (by simp)
  have ks:=kz.setRow (fun x hx=>by simp at hx;subst hx;show n≠n+1;omega) (by omega) (r8 32 G)
  have iG:=r8_info G;have zG:=r8_zero G;have oG:=r8_one G
  have hK':(W.setRow (n+1) (r8 32 G)).heap[D]?=some (.deferred (some [])):=by
   simp only [World.setRow,Array.getElem?_modify]
   rw [if_neg (fun e=>by rw [←e,rZ] at hK;cases hK)];exact hK
  have HK':=Lib.hid hK'
  clear hK hK' hb1 hx hI kz
  gi_wp2_with (first
   | (refine Rd.wide_load_row ?_ (x:=.tmp 3) (ty:=47) (g:=n) (cs:=r8 32 G) (t:=47) (fr:=(0,0)) ?_ ?_ _ rG und28 rfl iG ?_;rfl;rfl;rfl)
   | (refine Rd.wide_store_row ?_ (x:=.tmp 6) (y:=.tmp 24) (cells:=r8 32 G) (old:=Z32) (t:=47) (ty:=47) (g:=n+1) ?_ ?_ ?_ rZ iG zG oG ?_;rfl;rfl;rfl;rfl))
  refine ⟨by simp,.inl ⟨_,_,rfl,run_takeDeferred HK'.out,?_⟩⟩
  have kp:=ks.grown (grownBy_putObj' _ D (.deferred none)) (fun r e=>by cases e;exact ⟨by rw [hsz] at hD;omega,_,HK'.out,rfl⟩)
  have q6:((W.setRow (n+1) (r8 32 G)).putObj D (.deferred none)).heap[n+1]?=some (.cells (r8 32 G) 47 (0,0)):=kp.rows (n+1,47,r8 32 G) List.mem_cons_self
  have hload:=run_loadVar_row (P:=Tryz.prog) _ (n+1) 47 47 (r8 32 G) (0,0) _ q6 und28 rfl iG
  refine ⟨.agg (r8 32 G),?_,rfl,by rw [HN.out];exact kp.below⟩
  simp [results,Tryz.f131,asAddr,Act.put,hload]
 case stop=>
  rintro D c pre W _ _ h _
  exact h.elim
namespace SX
open Go Go.RowKit
set_option linter.unusedVariables false
noncomputable def byteV (v:Value):Option Nat:=match v with | .int .u8 (.ofNat n)=>Bool.rec (motive:=fun _=>Option Nat) none (some n) (Nat.blt n 256) | _=>none
noncomputable def natsV:List Value→Option (List Nat):=List.rec (motive:=fun _=>Option (List Nat)) (some []) (fun v _ ih=>Option.rec (motive:=fun _=>Option (List Nat)) none (fun n=>Option.rec (motive:=fun _=>Option (List Nat)) none (fun l=>some (List.cons n l)) ih) (byteV v))
theorem byteV_some {v:Value} {n:Nat} (h:byteV v=some n):v=.int .u8 (.ofNat n)∧n<256:=by
 unfold byteV at h
 split at h
 · rename_i m
   cases hb:Nat.blt m 256 with
   | false=>rw [hb] at h;cases h
   | true=>rw [hb] at h;cases h;exact ⟨rfl,blt_lt hb⟩
 · cases h
theorem natsV_some:∀ {vs:List Value} {l:List Nat},natsV vs=some l→vs=l.map (fun n=>Value.int .u8 (.ofNat n))∧∀ x∈l,x<256
 | [],l,h=>by cases h;exact ⟨rfl,fun x hx=>by cases hx⟩
 | v::vs,l,h=>by
   have h':Option.rec (motive:=fun _=>Option (List Nat)) none (fun n=>Option.rec (motive:=fun _=>Option (List Nat)) none (fun l=>some (List.cons n l)) (natsV vs)) (byteV v)=some l:=h
   cases hb:byteV v with
   | none=>rw [hb] at h';cases h'
   | some n=>
     rw [hb] at h'
     cases hn:natsV vs with
     | none=>rw [hn] at h';cases h'
     | some m=>
       rw [hn] at h'
       cases h'
       obtain ⟨e1,e2⟩:=natsV_some hn
       obtain ⟨rfl,hlt⟩:=byteV_some hb
       refine ⟨by rw [List.map_cons,← e1],fun x hx=>?_⟩
       rcases List.mem_cons.1 hx with rfl | hx
       · exact hlt
       · exact e2 x hx
noncomputable def flipG (m:Nat):List Nat→Nat→List Nat:=List.rec (motive:=fun _=>Nat→List Nat) (fun _=>[]) (fun x xs ih k=>Nat.rec (motive:=fun _=>List Nat) (List.cons (Nat.xor x m) xs) (fun j _=>List.cons x (ih j)) k)
theorem flipG_get (m:Nat):∀ (l:List Nat) (k j:Nat),(flipG m l k)[j]?=if j=k then (l[j]?).map (· ^^^ m) else l[j]?
 | [],k,j=>by
   show ([]:List Nat)[j]?=_
   split<;>rfl
 | x::l,0,j=>by
   show ((x ^^^ m)::l)[j]?=_
   cases j with
   | zero=>rfl
   | succ j=>rw [if_neg (by omega)];rfl
 | x::l,k+1,j=>by
   show (x::flipG m l k)[j]?=_
   cases j with
   | zero=>rw [if_neg (by omega)];rfl
   | succ j=>
     rw [List.getElem?_cons_succ,List.getElem?_cons_succ,flipG_get m l k j]
     by_cases e:j=k
     · rw [if_pos e,if_pos (by omega)]
     · rw [if_neg e,if_neg (by omega)]
theorem flipG_row (F:Nat→Nat) (b:Nat):flipG (2 ^ (b%8)) ((List.range 32).map F) (b/8)=(List.range 32).map (flipH F b):=by
 apply List.ext_getElem?
 intro j
 rw [flipG_get,List.getElem?_map,List.getElem?_map]
 unfold flipH
 by_cases hj:j<32
 · rw [List.getElem?_range hj]
   by_cases e:j=b/8
   · rw [if_pos e];simp only [Option.map_some];rw [if_pos e]
   · rw [if_neg e];simp only [Option.map_some];rw [if_neg e]
 · rw [List.getElem?_eq_none (by simp;omega)];simp
noncomputable def strB (l:List Nat):ByteArray:=⟨⟨l.map UInt8.ofNat⟩⟩
theorem strB_row (F:Nat→Nat):strB ((List.range 32).map F)=hstr F:=by
 unfold strB hstr bytesI strOfNums
 rw [List.map_map,List.map_map];rfl
def onesD (i:Nat):Nat→List Nat
 | 0=>[]
 | b+1=>(if i/2 ^ b%2=1 then [b] else [])++onesD i b
theorem onesD_eq (i d:Nat):∀ j,j≤d→onesL i d j++onesD i (d-j)=onesD i d
 | 0,_=>rfl
 | j+1,h=>by
   rw [←onesD_eq i d j (by omega)]
   show (onesL i d j++_)++_=_
   rw [List.append_assoc,show d-j=(d-(j+1))+1 by omega]
   show onesL i d j++(_++_)=onesL i d j++(_++onesD i (d-(j+1)))
   rw [show d-1-j=d-(j+1) by omega]
noncomputable def chainF {R:Type} (i:Nat) (k:List Nat→R):Nat→List Nat→R:=Nat.rec (motive:=fun _=>List Nat→R) k (fun b ih l=>Nat.rec (motive:=fun _=>R) (ih l) (fun _ _=>frcL (flipG (Nat.pow 2 (Nat.mod b 8)) l (Nat.div b 8)) fun l=>shaF (strB l) ih) (Nat.mod (Nat.div i (Nat.pow 2 b)) 2))
theorem chainF_eq {R:Type} (i:Nat) (k:List Nat→R):∀ (b:Nat) (F:Nat→Nat),chainF i k b ((List.range 32).map F)=k ((List.range 32).map ((onesD i b).foldl step1 F))
 | 0,F=>rfl
 | b+1,F=>by
   have h':chainF i k (b+1) ((List.range 32).map F)=Nat.rec (motive:=fun _=>R) (chainF i k b ((List.range 32).map F)) (fun _ _=>frcL (flipG (2 ^ (b%8)) ((List.range 32).map F) (b/8)) fun l=>shaF (strB l) (chainF i k b)) (i/2 ^ b%2):=rfl
   rw [h']
   show _=k ((List.range 32).map (((if i/2 ^ b%2=1 then [b] else [])++onesD i b).foldl step1 F))
   rcases Nat.mod_two_eq_zero_or_one (i/2 ^ b) with e | e
   · rw [e,if_neg (by decide)]
     exact chainF_eq i k b F
   · rw [e,if_pos rfl]
     show frcL _ _=_
     rw [frcL_eq,shaF_eq,flipG_row,strB_row]
     exact chainF_eq i k b (ofH (flipH F b))
noncomputable def hkChain2 (cs:List Value) (i d:Nat) (h:Hp) (nx:Nat):XR:=Option.rec (motive:=fun _=>XR) (.bad "chain") (fun l=>Bool.rec (motive:=fun _=>XR) (.bad "chain") (frcL l fun l=>chainF i (fun l=>.ok (aggB l) h nx) d l) (and (Nat.beq l.length 32) (and (Nat.blt i 65536) (Nat.ble d 16)))) (natsV cs)
noncomputable def hkChain (args:List Value) (h:Hp) (nx:Nat):XR:=match args with | [.agg cs,.int .i64 (.ofNat i),.int .i64 (.ofNat d)]=>hkChain2 cs.toList i d h nx | _=>.bad "chain"
theorem byteV_cl {σ:Sig} {ρ:Rho} {l:List Nat} {L:List Value} (h:CL σ ρ (l.map fun n=>Value.int .u8 (.ofNat n)) L):L=l.map fun n=>Value.int .u8 (.ofNat n):=by
 apply List.ext_getElem?
 intro i
 have hl:=h.1
 by_cases hi:i<L.length
 · have hi':i<(l.map fun n=>Value.int .u8 (.ofNat n)).length:=by omega
   have hv:=(h.2 i _ _ (List.getElem?_eq_getElem hi') (List.getElem?_eq_getElem hi)).1
   rw [List.getElem?_eq_getElem hi,List.getElem?_eq_getElem hi']
   have e:(l.map fun n=>Value.int .u8 (.ofNat n))[i]=.int .u8 (.ofNat (l[i]'(by simpa using hi'))):=by simp
   rw [e] at hv ⊢
   rw [VR.int_inv hv]
 · rw [List.getElem?_eq_none (by omega),List.getElem?_eq_none (by omega)]
theorem chain_ok {C:Cfg} (hP:C.E.P=Tryz.prog) (g:GlTabs C.E.gl) {σ:Sig} {ρ:Rho} {args:List Value} {h:Hp} {nx:Nat} {v:Value} {h':Hp} {nx':Nat} {w:World} {args':Array Value} (e:hkChain args h nx=.ok v h' nx') (s:Sim σ C.E.gl ρ h nx w) (hv:VL σ ρ args args'.toList) :
 Calls C.E.P 131 args' w fun e w'=>∃ v',e=.returned v'∧Did C.E σ ρ h nx w v h' nx' v' w':=by
 unfold hkChain at e
 split at e
 · rename_i cs i d
   obtain ⟨x0,l0,e0,h0,hv⟩:=hv.inv
   obtain ⟨x1,l1,e1,h1,hv⟩:=hv.inv
   obtain ⟨x2,e2,h2⟩:=hv.one
   obtain ⟨cs',rfl,hcl⟩:=h0.agg_inv
   obtain rfl:=VR.int_inv h1
   obtain rfl:=VR.int_inv h2
   subst e2;subst e1
   unfold hkChain2 at e
   cases hn:natsV cs.toList with
   | none=>rw [hn] at e;cases e
   | some l=>
     rw [hn] at e
     obtain ⟨hcs,hlt⟩:=natsV_some hn
     have e:Bool.rec (motive:=fun _=>XR) (.bad "chain") (frcL l fun l=>chainF i (fun l=>.ok (aggB l) h nx) d l) (and (Nat.beq l.length 32) (and (Nat.blt i 65536) (Nat.ble d 16)))=XR.ok v h' nx':=e
     cases hb:and (Nat.beq l.length 32) (and (Nat.blt i 65536) (Nat.ble d 16)) with
     | false=>rw [hb] at e;cases e
     | true=>
       rw [hb] at e
       have hb:(Nat.beq l.length 32&&(Nat.blt i 65536&&Nat.ble d 16))=true:=hb
       simp only [Bool.and_eq_true] at hb
       obtain ⟨b1,b2,b3⟩:=hb
       have b1:=Nat.eq_of_beq_eq_true b1
       have b2:=blt_lt b2
       have b3:=Nat.le_of_ble_eq_true b3
       have hF:l=(List.range 32).map fun j=>l.getD j 0:=by
        apply List.ext_getElem?
        intro j
        rw [List.getElem?_map]
        by_cases hj:j<32
        · rw [List.getElem?_range hj,List.getElem?_eq_getElem (show j<l.length by omega)]
          simp [List.getD,List.getElem?_eq_getElem (show j<l.length by omega)]
        · rw [List.getElem?_eq_none (show l.length≤j by omega),List.getElem?_eq_none (by simp;omega)];rfl
       have hF2:∀ j,l.getD j 0<256:=fun j=>by
        by_cases hj:j<l.length
        · rw [List.getD,List.getElem?_eq_getElem hj];exact hlt _ (List.getElem_mem hj)
        · rw [List.getD,List.getElem?_eq_none (by omega)];decide
       have e:frcL l (fun l=>chainF i (fun l=>XR.ok (aggB l) h nx) d l)=.ok v h' nx':=e
       rw [frcL_eq] at e
       rw [hcs] at hcl
       have hc2:Value.agg cs'=.agg (r8 32 fun j=>l.getD j 0):=by
        rw [←aggB_r8,← hF]
        unfold aggB
        refine congrArg Value.agg ?_
        apply Array.ext'
        rw [byteV_cl hcl]
       have ha:args'=#[.agg (r8 32 fun j=>l.getD j 0),.int .i64 (i:Nat),.int .i64 (d:Nat)]:=by
        apply Array.ext';rw [e0,hc2];rfl
       subst ha
       rw [hF,chainF_eq] at e
       have ho:onesD i d=onesL i d d:=by rw [←onesD_eq i d d (Nat.le_refl _),Nat.sub_self];simp [onesD]
       rw [ho,aggB_r8] at e
       injection e with q1 q2 q3
       subst q1;subst q2;subst q3
       rw [hP]
       refine (chain_any (fun j=>l.getD j 0) i d w (g.tabs s) hF2 b2 b3).mono ?_
       rintro e w' ⟨rfl,hb⟩
       exact ⟨_,rfl,did_below s hb (by rw [←aggB_r8];exact flat1_aggB _)⟩
 · cases e
end SX
end Go.Proofs.YtdebnbgjgkbmaaaGreatDoor
namespace Go.Proofs.YtdebnbgjgkbmaaaGreatDoor.Oc
open Go.RowKit
set_option linter.unusedVariables false
theorem RD.call {n:Nat} {w0:World} {r:Addr} {s cur c:ByteArray} {ev:Int} {W W':World} (h:RD n w0 r s cur ev W) (hb:Below W.heap.size (W.setCell r (.string c)) W'):RD n w0 r s c ev W':=by
 have h':=h.setR c
 have hr:=h.rlt
 have hn:n+1+1+1<W.heap.size:=World.block_lt_of_cell? W _ h.b2
 exact ⟨hr,by rw [hb.cell (by show n<_;omega)];exact h'.e,by rw [hb.frozen (by show n<_;omega)];exact h'.ef,
  by rw [hb.cell (by show n+1+1<_;omega)];exact h'.b1,by rw [hb.cell (by show n+1+1+1<_;omega)];exact h'.b2,by rw [hb.cell (by show n+1<_;omega)];exact h'.b3,
  h'.atc.below hb (by omega),h'.below.trans (hb.mono (by omega))⟩
theorem extract_all (s:ByteArray):s.extract 0 s.size=s:=by
 apply ByteArray.ext;simp
end Go.Proofs.YtdebnbgjgkbmaaaGreatDoor.Oc
namespace Go.Proofs.YtdebnbgjgkbmaaaGreatDoor.Oc
open Go.RowKit
set_option linter.unusedVariables false
def Z32:Array Value:=#[.int .u8 0,.int .u8 0,.int .u8 0,.int .u8 0,.int .u8 0,.int .u8 0,.int .u8 0,.int .u8 0,.int .u8 0,.int .u8 0,.int .u8 0,.int .u8 0,.int .u8 0,.int .u8 0,.int .u8 0,.int .u8 0,.int .u8 0,.int .u8 0,.int .u8 0,.int .u8 0,.int .u8 0,.int .u8 0,.int .u8 0,.int .u8 0,.int .u8 0,.int .u8 0,.int .u8 0,.int .u8 0,.int .u8 0,.int .u8 0,.int .u8 0,.int .u8 0]
theorem z32_eq:hashV (List.replicate 32 0)=.agg Z32:=by rfl
structure RH (n:Nat) (w0:World) (r:Addr) (s cur:ByteArray) (ev:Int) (C:Array Value) (W:World):Prop where
 rlt:r.block<n
 e:W.cell? ⟨n+1,0,none⟩=some (.int .i64 ev)
 ef:W.frozen? ⟨n+1,0,none⟩=false
 b1:W.cell? ⟨n+1+1+1,0,none⟩=some (.pointer (some ⟨n+1,0,none⟩))
 b2:W.cell? ⟨n+1+1+1+1,0,none⟩=some (.string s)
 b3:W.cell? ⟨n+1+1,0,none⟩=some (.pointer (some r))
 atc:At W r cur
 row:W.heap[n]?=some (.cells C 47 (0,0))
 below:Below n (w0.setCell r (.string cur)) W
theorem RH.ofRD {n:Nat} {w:World} {r:Addr} {s cur:ByteArray} {ev:Int} {C:Array Value} {W:World} (hn:w.heap.size=n) (hr:r.block<n) (h:RD (n+1) (w.alloc (.cells C 47)) r s cur ev W):RH n w r s cur ev C W:=by
 subst hn
 have b0:Below w.heap.size w (w.alloc (.cells C 47)):=(Below.refl _ _).alloc (Nat.le_refl _) _
 refine ⟨hr,h.e,h.ef,h.b1,h.b2,h.b3,h.atc,?_,(below_set b0 r _).trans (h.below.mono (by omega))⟩
 rw [h.below.block _ (by omega),Below.heap_setCell _ _ _ _ (by omega)]
 exact heap_alloc_new w _
theorem RH.setE {n:Nat} {w0:World} {r:Addr} {s cur:ByteArray} {ev:Int} {C:Array Value} {W:World} (h:RH n w0 r s cur ev C W) (v:Int):RH n w0 r s cur v C (W.setCell ⟨n+1,0,none⟩ (.int .i64 v)):=by
 have hr:=h.rlt
 exact ⟨hr,cell_set h.e,frozen_set h.ef,cell_other h.b1 (by show n+1≠n+1+1+1;omega),cell_other h.b2 (by show n+1≠n+1+1+1+1;omega),cell_other h.b3 (by show n+1≠n+1+1;omega),
  ⟨cell_other h.atc.cell (by show n+1≠r.block;omega),frozen_set h.atc.open'⟩,by rw [Below.heap_setCell _ _ _ _ (by show n≠n+1;omega)];exact h.row,h.below.setCell (by show n≤n+1;omega) _⟩
theorem RH.setR {n:Nat} {w0:World} {r:Addr} {s cur:ByteArray} {ev:Int} {C:Array Value} {W:World} (h:RH n w0 r s cur ev C W) (c:ByteArray):RH n w0 r s c ev C (W.setCell r (.string c)):=by
 have hr:=h.rlt
 refine ⟨hr,cell_other h.e (by show r.block≠n+1;omega),frozen_set h.ef,cell_other h.b1 (by show r.block≠n+1+1+1;omega),cell_other h.b2 (by show r.block≠n+1+1+1+1;omega),cell_other h.b3 (by show r.block≠n+1+1;omega),
  ⟨cell_set h.atc.cell,frozen_set h.atc.open'⟩,by rw [Below.heap_setCell _ _ _ _ (by omega)];exact h.row,?_⟩
 have hb:=below_set h.below r (.string c)
 have e:=set_set w0 r (.string cur) (.string c)
 rw [e] at hb;exact hb
theorem setRow_block (w:World) (g k:Nat) (cs:Array Value) (h:k≠g):(w.setRow g cs).heap[k]?=w.heap[k]?:=by
 simp only [World.setRow,Array.getElem?_modify]
 rw [if_neg (fun e=>h e.symm)]
theorem setRow_cell (w:World) (g:Nat) (a:Addr) (cs:Array Value) (h:a.block≠g):(w.setRow g cs).cell? a=w.cell? a:=by
 unfold World.cell?;rw [setRow_block w g a.block cs h]
theorem setRow_frozen (w:World) (g:Nat) (a:Addr) (cs:Array Value) (h:a.block≠g):(w.setRow g cs).frozen? a=w.frozen? a:=by
 unfold World.frozen?;rw [setRow_block w g a.block cs h]
theorem RH.setRow {n:Nat} {w0:World} {r:Addr} {s cur:ByteArray} {ev:Int} {C:Array Value} {W:World} (h:RH n w0 r s cur ev C W) (C':Array Value):RH n w0 r s cur ev C' (W.setRow n C'):=by
 have hr:=h.rlt
 refine ⟨hr,?_,?_,?_,?_,?_,⟨?_,?_⟩,setRow_heap W n C C' 47 _ h.row,?_⟩
 · rw [setRow_cell _ _ _ _ (by show n+1≠n;omega)];exact h.e
 · rw [setRow_frozen _ _ _ _ (by show n+1≠n;omega)];exact h.ef
 · rw [setRow_cell _ _ _ _ (by show n+1+1+1≠n;omega)];exact h.b1
 · rw [setRow_cell _ _ _ _ (by show n+1+1+1+1≠n;omega)];exact h.b2
 · rw [setRow_cell _ _ _ _ (by show n+1+1≠n;omega)];exact h.b3
 · rw [setRow_cell _ _ _ _ (by omega)];exact h.atc.cell
 · rw [setRow_frozen _ _ _ _ (by omega)];exact h.atc.open'
 · exact ⟨h.below.os,h.below.tape,h.below.output,by simpa using h.below.size,fun k hk=>by rw [setRow_block _ _ _ _ (by omega)];exact h.below.block k hk⟩
theorem RH.drew {n:Nat} {w0:World} {r:Addr} {s cur:ByteArray} {ev:Int} {C:Array Value} {W:World} (h:RH n w0 r s cur ev C W):RH n w0 r s cur ev C W.drew:=
 ⟨h.rlt,h.e,h.ef,h.b1,h.b2,h.b3,⟨h.atc.cell,h.atc.open'⟩,h.row,h.below.drew⟩
theorem back1_rh0 {n:Nat} {w0:World} {r:Addr} {s cur:ByteArray} {C:Array Value} {W:World} (u:FrameMode) (h:RH n w0 r s cur 0 C W) :
 CallsD Tryz.prog 202 #[.pointer (some ⟨n+1+1+1,0,none⟩),.pointer (some ⟨n+1+1+1+1,0,none⟩),.pointer (some ⟨n+1+1,0,none⟩)] u W fun e u' w'=>u'=u∧(e=.returned (.tuple #[])∧RH n w0 r s cur 0 C w'):=
 (back1_ok _ _ _ r ⟨n+1,0,none⟩ u W h.b1 h.e).mono fun e u' w' ⟨h1,h2,h3⟩=>⟨h1,h2,h3▸h⟩
theorem back1_rh1 {n:Nat} {w0:World} {r:Addr} {s cur:ByteArray} {C:Array Value} {W:World} {ev:Int} (u:FrameMode) (h:RH n w0 r s cur ev C W) (hz:(ev==0)=false) :
 CallsD Tryz.prog 202 #[.pointer (some ⟨n+1+1+1,0,none⟩),.pointer (some ⟨n+1+1+1+1,0,none⟩),.pointer (some ⟨n+1+1,0,none⟩)] u W fun e u' w'=>u'=u∧(e=.returned (.tuple #[])∧RH n w0 r s s ev C w'):=
 (back1_err _ _ _ r ⟨n+1,0,none⟩ ev s cur u W h.b1 h.e hz (by simpa using hz) h.b2 h.b3 h.atc.cell h.atc.open').mono fun e u' w' ⟨h1,h2,h3⟩=>⟨h1,h2,h3▸h.setR s⟩
set_option maxRecDepth 100000 in
set_option maxHeartbeats 1000000 in
theorem rdhash_short (r:Addr) (s:ByteArray) (w:World) (h:At w r s) (hs:s.size<32) :
 Calls Tryz.prog 237 #[.pointer (some r)] w fun e w'=>e=.returned (.tuple #[hashV (List.replicate 32 0),.int .i64 10])∧Below w.heap.size (w.setCell r (.string s)) w':=by
 have hlt:=World.block_lt_of_cell? w _ h.cell
 have b0:Below w.heap.size w (w.alloc (.cells Z32 47)):=(Below.refl _ _).alloc (Nat.le_refl _) _
 have h0:=h.below b0 hlt
 have hrow:=heap_alloc_new w (.cells Z32 47)
 have hz:(w.alloc (.cells Z32 47)).heap.size=w.heap.size+1:=by simp
 have hb:=back_rd r s _ h0
 rw [hz] at hb
 have HB:=Lib.hid hb
 have hT:=fun w' h'=>take_short r s 32 w' h' (by omega) (by omega) (by omega)
 have HT:=Lib.hid hT
 rw [z32_eq]
 clear hb hT
 obtain ⟨n,hn⟩:∃ n,w.heap.size=n:=⟨_,rfl⟩
 rw [hn] at hrow hz HB hlt
 obtain ⟨w0,hw0⟩:∃ w0,w.alloc (.cells Z32 47)=w0:=⟨_,rfl⟩
 rw [hw0] at b0 h0 hrow hz HB
 go_enter_defers Tryz.func237,Tryz.ntmps237
 go_wp2_with fail
 rw [show w.alloc (.cells #[.int .u8 0,.int .u8 0,.int .u8 0,.int .u8 0,.int .u8 0,.int .u8 0,.int .u8 0,.int .u8 0,.int .u8 0,.int .u8 0,.int .u8 0,.int .u8 0,.int .u8 0,.int .u8 0,.int .u8 0,.int .u8 0,.int .u8 0,.int .u8 0,.int .u8 0,.int .u8 0,.int .u8 0,.int .u8 0,.int .u8 0,.int .u8 0,.int .u8 0,.int .u8 0,.int .u8 0,.int .u8 0,.int .u8 0,.int .u8 0,.int .u8 0,.int .u8 0] 47)=w0 from hw0]
 refine (HB.out).mono ?_
 rintro e w1 ⟨rfl,h1⟩
 go_wp2_with fail
 refine (HT.out w1 h1.atc).mono ?_
 rintro e w2 ⟨rfl,rfl⟩
 have h1':=RH.ofRD hn hlt (hw0▸h1)
 clear h1
 have c1:=h1'.e
 have c2:=h1'.ef
 have h2:=h1'.setE 10
 have c3:=h2.e
 have c4:=h2.ef
 have h3:=h2.setRow Z32
 have r2:=h2.row
 have c5:=h3.e
 have c6:=h3.ef
 have h4:=h3.setE 10
 have i33:(Tryz.prog.info? 47).map (·.size)=some Z32.size:=by kernel_rfl
 have hone:Z32.all (·.oneCell')=true:=by kernel_rfl
 go_wp2_with (refine wpList_store_row (x:=.tmp 2) (y:=.tmp 14) (cells:=Z32) (old:=Z32) (t:=47) (ty:=47) (g:=n) ?_ ?_ ?_ ?_ r2 i33 rfl hone ?_;rfl;rfl;rfl;rfl)
 generalize ((w1.setCell ⟨n+1,0,none⟩ (.int .i64 10)).setRow n Z32).setCell ⟨n+1,0,none⟩ (.int .i64 10)=w3 at *
 refine leaves_cons (f:=202) (args:=#[.pointer (some ⟨n+1+1+1,0,none⟩),.pointer (some ⟨n+1+1+1+1,0,none⟩),.pointer (some ⟨n+1+1,0,none⟩)]) (by simp) (by simp [go_sem]) ?_
 refine (back1_rh1 .returning h4 (by decide)).mono ?_
 rintro e u' w4 ⟨rfl,rfl,h5⟩
 have c7:=h5.e
 have hload:=run_loadVar_row (P:=Tryz.prog) w4 n 47 47 Z32 (0,0) _ h5.row Tryz.underlying47 rfl i33
 have hloadE:(loadVar 26 ⟨n+1,0,none⟩).run Tryz.prog w4=.ok (.int .i64 10) w4:=by simp [go_sem,c7]
 simp [Leaves,settle,results,Tryz.results237,asAddr,hload,hloadE]
 rw [hn]
 exact h5.below
def bytesOf (T:ByteArray):List Int:=T.data.toList.map fun b=>(b.toNat:Int)
set_option maxRecDepth 100000 in
set_option maxHeartbeats 1000000 in
theorem rdhash_ok (r:Addr) (s:ByteArray) (w:World) (h:At w r s) (hs:s.size≤4611686018427387904) (h32:32≤s.size) :
 Calls Tryz.prog 237 #[.pointer (some r)] w fun e w'=>e=.returned (.tuple #[hashV (bytesOf (s.extract 0 32)),.int .i64 0])∧Below w.heap.size (w.setCell r (.string (s.extract 32 s.size))) w':=by
 have hlt:=World.block_lt_of_cell? w _ h.cell
 have b0:Below w.heap.size w (w.alloc (.cells Z32 47)):=(Below.refl _ _).alloc (Nat.le_refl _) _
 have h0:=h.below b0 hlt
 have hz:(w.alloc (.cells Z32 47)).heap.size=w.heap.size+1:=by simp
 have hb:=back_rd r s _ h0
 rw [hz] at hb
 have HB:=Lib.hid hb
 have hT:=fun w' h'=>take_ok r s 32 w' h' hs h32
 have hTs:(s.extract 0 32).size=32:=by simp;omega
 obtain ⟨C,hC⟩:∃ C,(Z32.toList.take 0++Lib.byteCells (s.extract 0 32).data.toList++Z32.toList.drop (0+(s.extract 0 32).size)).toArray=C:=⟨_,rfl⟩
 have hCv:hashV (bytesOf (s.extract 0 32))=.agg C:=by
  rw [←hC,hTs]
  simp [hashV,bytesOf,ints,Lib.byteCells,Z32]
  rfl
 have hCs:C.size=32:=by rw [←hC];simp [Lib.byteCells_length,Z32];omega
 have hCo:C.all (·.oneCell')=true:=by
  rw [←hC,hTs];simp only [List.all_toArray,List.all_append,Bool.and_eq_true];exact ⟨⟨rfl,List.all_eq_true.2 (Lib.byteCells_one _)⟩,rfl⟩
 rw [hCv]
 generalize s.extract 0 32=T at *
 generalize s.extract 32 s.size=R at *
 have HT:=Lib.hid hT
 have cpy:=fun (W:World) (hg:W.heap[w.heap.size]?=some (.cells Z32 47 (0,0))) (ty:TypeId)=>
  Lib.run_copy_row_string (P:=Tryz.prog) W 55 9 ty 5 w.heap.size 0 32 32 T Z32 47 Tryz.underlying55 (by kernel_rfl) hg (by omega) (by rw [hTs];decide)
 rw [hC] at cpy
 have CPY:=Lib.hid cpy
 clear hb hT hTs hC hCv cpy
 obtain ⟨n,hn⟩:∃ n,w.heap.size=n:=⟨_,rfl⟩
 rw [hn] at hz HB hlt CPY
 obtain ⟨w0,hw0⟩:∃ w0,w.alloc (.cells Z32 47)=w0:=⟨_,rfl⟩
 rw [hw0] at b0 h0 hz HB
 have i33:(Tryz.prog.info? 47).map (·.size)=some C.size:=by rw [hCs];kernel_rfl
 go_enter_defers Tryz.func237,Tryz.ntmps237
 go_wp2_with fail
 rw [show w.alloc (.cells #[.int .u8 0,.int .u8 0,.int .u8 0,.int .u8 0,.int .u8 0,.int .u8 0,.int .u8 0,.int .u8 0,.int .u8 0,.int .u8 0,.int .u8 0,.int .u8 0,.int .u8 0,.int .u8 0,.int .u8 0,.int .u8 0,.int .u8 0,.int .u8 0,.int .u8 0,.int .u8 0,.int .u8 0,.int .u8 0,.int .u8 0,.int .u8 0,.int .u8 0,.int .u8 0,.int .u8 0,.int .u8 0,.int .u8 0,.int .u8 0,.int .u8 0,.int .u8 0] 47)=w0 from hw0]
 refine (HB.out).mono ?_
 rintro e w1 ⟨rfl,h1⟩
 go_wp2_with fail
 refine (HT.out w1 h1.atc).mono ?_
 rintro e w2 ⟨rfl,rfl⟩
 have h1':=(RH.ofRD hn hlt (hw0▸h1)).setR R
 clear h1
 generalize w1.setCell r (.string R)=w2 at *
 have c1:=h1'.e
 have c2:=h1'.ef
 have h2:=h1'.setE 0
 have c3:=h2.e
 have c4:=h2.ef
 have r2:=h2.row
 have h3:=h2.setRow C
 have r3:=h3.row
 have h4:=h3.setRow C
 have c5:=h4.e
 have c6:=h4.ef
 have h5:=h4.setE 0
 have CR:=CPY.out _ r2
 go_wp2_with (first
  | (at_builtin;(refine Go.Proofs.wpList_copy_runI _ ?_ (.tmp 16) (.tmp 17) 55 9 ?_ (.slice (some ⟨n,0,none⟩) 32 32) (.string T) ?_ ?_ (CR _) ?_;rfl;rfl;rfl;rfl))
  | (refine wpList_load_row (x:=.tmp 2) (ty:=47) (g:=n) (cs:=C) (t:=47) (fr:=(0,0)) ?_ ?_ ?_ _ r3 Tryz.underlying47 rfl i33 ?_;rfl;rfl;rfl)
  | (refine wpList_store_row (x:=.tmp 2) (y:=.tmp 19) (cells:=C) (old:=C) (t:=47) (ty:=47) (g:=n) ?_ ?_ ?_ ?_ r3 i33 rfl hCo ?_;rfl;rfl;rfl;rfl))
 generalize (((w2.setCell ⟨n+1,0,none⟩ (.int .i64 0)).setRow n C).setRow n C).setCell ⟨n+1,0,none⟩ (.int .i64 0)=w3 at *
 refine leaves_cons (f:=202) (args:=#[.pointer (some ⟨n+1+1+1,0,none⟩),.pointer (some ⟨n+1+1+1+1,0,none⟩),.pointer (some ⟨n+1+1,0,none⟩)]) (by simp) (by simp [go_sem]) ?_
 refine (back1_rh0 .returning h5).mono ?_
 rintro e u' w4 ⟨rfl,rfl,h6⟩
 have c7:=h6.e
 have hload:=run_loadVar_row (P:=Tryz.prog) w4 n 47 47 C (0,0) _ h6.row Tryz.underlying47 rfl i33
 have hloadE:(loadVar 26 ⟨n+1,0,none⟩).run Tryz.prog w4=.ok (.int .i64 0) w4:=by simp [go_sem,c7]
 simp [Leaves,settle,results,Tryz.results237,asAddr,hload,hloadE]
 rw [hn]
 exact h6.below
def rhH (s:ByteArray):List Int:=if s.size<32 then List.replicate 32 0 else bytesOf (s.extract 0 32)
def rhE (s:ByteArray):Int:=if s.size<32 then 10 else 0
def rhS (s:ByteArray):ByteArray:=if s.size<32 then s else s.extract 32 s.size
theorem rdhash_any (r:Addr) (s:ByteArray) (w:World) (h:At w r s) (hs:s.size≤4611686018427387904) :
 Calls Tryz.prog 237 #[.pointer (some r)] w fun e w'=>e=.returned (.tuple #[hashV (rhH s),.int .i64 (rhE s)])∧Below w.heap.size (w.setCell r (.string (rhS s))) w':=by
 unfold rhH rhE rhS
 by_cases h1:s.size<32
 · rw [if_pos h1,if_pos h1,if_pos h1];exact rdhash_short r s w h h1
 · rw [if_neg h1,if_neg h1,if_neg h1];exact rdhash_ok r s w h hs (by omega)
end Go.Proofs.YtdebnbgjgkbmaaaGreatDoor.Oc
namespace Go.Proofs.YtdebnbgjgkbmaaaGreatDoor.Oc
set_option linter.unusedVariables false
theorem mod_mul_div {n P Q:Int} (hp:0<P):n%(P*Q)/P=n/P%Q:=by
 have h1:n%(P*Q)=n+P*(-(Q*(n/P/Q))):=by
  rw [Int.emod_def,Int.ediv_ediv_of_nonneg (Int.le_of_lt hp),Int.mul_neg,← Int.mul_assoc];omega
 rw [h1,Int.add_mul_ediv_left _ _ (Int.ne_of_gt hp),Int.emod_def];omega
def u8s (l:List Int):List UInt8:=l.map fun n=>UInt8.ofNat n.toNat
end Go.Proofs.YtdebnbgjgkbmaaaGreatDoor.Oc
namespace Go.Proofs.YtdebnbgjgkbmaaaGreatDoor.Oc
open Go.RowKit
set_option linter.unusedVariables false
theorem nil_append (s:ByteArray):(⟨#[]⟩:ByteArray)++s=s:=by apply ByteArray.ext;simp
end Go.Proofs.YtdebnbgjgkbmaaaGreatDoor.Oc
namespace Go.Proofs.YtdebnbgjgkbmaaaGreatDoor.Oc
set_option linter.unusedVariables false
theorem mod_split (N:Int) (k:Nat):N%256 ^ (k+1)=N/256 ^ k%256*256 ^ k+N%256 ^ k:=by
 have hp:(0:Int)<256 ^ k:=Int.pow_pos (by decide)
 have h1:N%(256 ^ k*256)/256 ^ k=N/256 ^ k%256:=mod_mul_div hp
 have h2:N%(256 ^ k*256)%256 ^ k=N%256 ^ k:=Int.emod_emod_of_dvd N ⟨256,rfl⟩
 have h3:=Int.mul_ediv_add_emod (N%(256 ^ k*256)) (256 ^ k)
 rw [Int.pow_succ]
 rw [h1,h2] at h3
 rw [←h3,Int.mul_comm (256 ^ k)]
theorem val_low_acc (N:Int):∀ (k:Nat) (a:Int),(u8s (low N k)).foldl (fun a b=>a*256+(b.toNat:Int)) a=a*256 ^ k+N%256 ^ k
 | 0,a=>by simp [low,u8s]
 | k+1,a=>by
   have h0:=Int.emod_nonneg (N/256 ^ k) (b:=256) (by decide)
   have h1:=Int.emod_lt_of_pos (N/256 ^ k) (b:=256) (by decide)
   have hx:((UInt8.ofNat (N/256 ^ k%256).toNat).toNat:Int)=N/256 ^ k%256:=by rw [UInt8.toNat_ofNat'];omega
   show (u8s (low N k)).foldl (fun a b=>a*256+(b.toNat:Int)) (a*256+((UInt8.ofNat (N/256 ^ k%256).toNat).toNat:Int))=_
   rw [val_low_acc N k,hx,mod_split,Int.add_mul,Int.pow_succ,Int.mul_comm (256 ^ k) 256,← Int.mul_assoc,Int.add_assoc]
theorem val_low (N:Int) (k:Nat) (h0:0≤N) (h1:N<256 ^ k):val (u8s (low N k))=N:=by
 unfold val;rw [val_low_acc,Int.emod_eq_of_lt h0 h1];omega
theorem str_list (l:List Int):(strOfNums l).data.toList=u8s l:=by simp [strOfNums,u8s]
theorem back_of (A R:ByteArray):(A++R).extract A.size (A.size+R.size)=R:=by
 apply ByteArray.ext;apply Array.ext'
 simp
 rw [List.drop_eq_nil_of_le (by simp),List.take_nil,List.nil_append]
 exact List.take_of_length_le (by simp)
theorem rdN_low (N:Int) (k:Nat) (R:ByteArray) (h0:0≤N) (h1:N<256 ^ k) (k1:1≤k) (k8:k≤8) :
 rdN (strOfNums (low N k)++R) k=N∧rdE (strOfNums (low N k)++R) k=0∧rdS (strOfNums (low N k)++R) k=R:=by
 have hs:(strOfNums (low N k)).size=k:=by rw [strOfNums_size,low_len]
 have hsz:(strOfNums (low N k)++R).size=k+R.size:=by rw [ByteArray.size_append,hs]
 refine ⟨?_,?_,?_⟩
 · unfold rdN
   rw [if_neg (by omega),Int.toNat_natCast]
   have e:(strOfNums (low N k)++R).data.toList.take k=u8s (low N k):=by
    rw [ByteArray.data_append,Array.toList_append,str_list,List.take_append_of_le_length (by simp [u8s,low_len])]
    exact List.take_of_length_le (by simp [u8s,low_len])
   rw [e,val_low N k h0 h1]
 · unfold rdE
   rw [if_neg (by omega),if_neg (by omega)]
 · unfold rdS
   rw [if_neg (by omega),Int.toNat_natCast,hsz]
   have e:=back_of (strOfNums (low N k)) R
   rw [hs] at e
   exact e
theorem rh_hash (hl:List Int) (h:hl.length=32) (hin:∀ n∈hl,0≤n∧n≤255) :
 rhH (strOfNums hl)=hl∧rhE (strOfNums hl)=0∧rhS (strOfNums hl)=⟨#[]⟩:=by
 have e:(strOfNums hl).size=32:=by rw [strOfNums_size,h]
 refine ⟨?_,?_,?_⟩
 · unfold rhH;rw [if_neg (by omega)]
   have:(strOfNums hl).extract 0 32=strOfNums hl:=by
    have:=extract_all (strOfNums hl);rwa [e] at this
   rw [this]
   unfold bytesOf
   rw [str_list,u8s,List.map_map]
   conv=>rhs;rw [←List.map_id hl]
   apply List.map_congr_left
   intro n hn
   have:=hin n hn
   simp [UInt8.toNat_ofNat']
   omega
 · unfold rhE;rw [if_neg (by omega)]
 · unfold rhS;rw [if_neg (by omega),e];apply ByteArray.ext;simp
end Go.Proofs.YtdebnbgjgkbmaaaGreatDoor.Oc
namespace Go.Proofs.YtdebnbgjgkbmaaaGreatDoor
open Go.RowKit
set_option linter.unusedVariables false
def spl:Array Value→Nat→List Value→Array Value
 | cs,_,[]=>cs
 | cs,o,v::r=>spl (cs.setIfInBounds o v) (o+1) r
theorem spl_get:∀ (vs:List Value) (cs:Array Value) (o i:Nat),o+vs.length≤cs.size→(spl cs o vs)[i]?=if o≤i∧i<o+vs.length then vs[i-o]? else cs[i]?
 | [],cs,o,i,_=>by
   show cs[i]?=_
   rw [if_neg (by simp)]
 | v::r,cs,o,i,h=>by
   have hl:(v::r).length=r.length+1:=rfl
   rw [hl] at h
   show (spl (cs.setIfInBounds o v) (o+1) r)[i]?=_
   rw [spl_get r _ _ i (by simp;omega),hl]
   by_cases h1:o+1≤i∧i<o+1+r.length
   · rw [if_pos h1,if_pos (by omega),show i-o=(i-(o+1))+1 by omega,List.getElem?_cons_succ]
   · rw [if_neg h1]
     by_cases h2:i=o
     · subst h2
       rw [if_pos (by omega),Nat.sub_self,List.getElem?_cons_zero,Array.getElem?_setIfInBounds_self_of_lt (by omega)]
     · rw [if_neg (by omega),Array.getElem?_setIfInBounds_ne (fun e=>h2 e.symm)]
theorem row_setCells {g:Nat} {t:TypeId}:∀ (vs:List Value) (cs:Array Value) (o:Nat) (w:World),M.RowAt w g t cs→M.RowAt (w.setCells g o vs) g t (spl cs o vs)
 | [],_,_,_,h=>h
 | v::r,cs,o,w,h=>by
   have:=M.RowAt.set h o v
   rw [World.setCells]
   exact row_setCells r _ _ _ this
theorem row_setCells_far {g k:Nat} {t:TypeId} {cs:Array Value} (hk:g≠k):∀ (vs:List Value) (o:Nat) (w:World),M.RowAt w k t cs→M.RowAt (w.setCells g o vs) k t cs
 | [],_,_,h=>h
 | v::r,o,w,h=>by
   rw [World.setCells]
   exact row_setCells_far hk r _ _ (M.RowAt.far h (p:=⟨g,o,none⟩) hk v)
theorem size_setCells {g:Nat}:∀ (vs:List Value) (o:Nat) (w:World),(w.setCells g o vs).heap.size=w.heap.size
 | [],_,_=>rfl
 | v::r,o,w=>by rw [World.setCells,size_setCells r];simp [World.setCell]
theorem but_setCells {g:Nat} {w:World}:∀ (vs:List Value) (o:Nat) (v:World),M.But g w v→M.But g w (v.setCells g o vs)
 | [],_,_,h=>h
 | u::r,o,v,h=>by
   rw [World.setCells]
   exact but_setCells r _ _ (h.set (p:=⟨g,o,none⟩) (.inl rfl) u)
section
variable {w v v':World} {B:Nat} {tB t:TypeId} {C Z:Array Value} {L L':List (Nat × TypeId × Array Value)} {g:Nat}
end
section
variable {w v v':World} {B:Nat} {tB t:TypeId} {C Z:Array Value} {L:List (Nat × TypeId × Array Value)} {g:Nat}
end
end Go.Proofs.YtdebnbgjgkbmaaaGreatDoor
namespace Go.Proofs.YtdebnbgjgkbmaaaGreatDoor.Wi
open Go.Proofs.YtdebnbgjgkbmaaaGreatDoor.Oc
open Go.RowKit
set_option linter.unusedVariables false
structure Msg where
 kind:Int
 chan:Int
 id:Int
 amount:Int
 hash:List Int
 expiry:Int
 number:Int
def Msg.cells (m:Msg):List Value:=.int .i64 m.kind::.int .u32 m.chan::.int .u64 m.id::.int .u64 m.amount::(ints m.hash++[.int .i64 m.expiry,.int .i64 m.number])
def Msg.row (m:Msg):Array Value:=m.cells.toArray
structure Msg.ok (m:Msg):Prop where
 h32:m.hash.length=32
 hb:∀ x∈m.hash,0≤x∧x≤255
 k0:-9223372036854775808≤m.kind
 k1:m.kind≤9223372036854775807
 c0:0≤m.chan
 c1:m.chan≤4294967295
 i0:0≤m.id
 i1:m.id≤18446744073709551615
 a0:0≤m.amount
 a1:m.amount≤18446744073709551615
 e0:-9223372036854775808≤m.expiry
 e1:m.expiry≤9223372036854775807
 n0:-9223372036854775808≤m.number
 n1:m.number≤9223372036854775807
def z32:List Int:=List.replicate 32 0
def Msg.none (k:Int):Msg:=⟨k,0,0,0,z32,0,0⟩
theorem ints_len' (l:List Int):(ints l).length=l.length:=by simp [ints]
section
variable {m:Msg}
theorem Msg.len (h:m.hash.length=32):m.cells.length=38:=by simp [Msg.cells,ints_len',h]
theorem Msg.size (h:m.hash.length=32):m.row.size=38:=by rw [Msg.row,List.size_toArray,Msg.len h]
theorem Msg.g0:m.row[0]?=some (.int .i64 m.kind):=by simp [Msg.row,Msg.cells]
theorem Msg.g1:m.row[1]?=some (.int .u32 m.chan):=by simp [Msg.row,Msg.cells]
theorem Msg.g2:m.row[2]?=some (.int .u64 m.id):=by simp [Msg.row,Msg.cells]
theorem Msg.g3:m.row[3]?=some (.int .u64 m.amount):=by simp [Msg.row,Msg.cells]
theorem Msg.gh (h:m.hash.length=32) {j:Nat} (hj:j<32):m.row[4+j]?=(ints m.hash)[j]?:=by
 rw [Msg.row,List.getElem?_toArray,Msg.cells,show 4+j=j+1+1+1+1 by omega]
 simp only [List.getElem?_cons_succ]
 rw [List.getElem?_append_left (by rw [ints_len',h];exact hj)]
theorem Msg.g36 (h:m.hash.length=32):m.row[36]?=some (.int .i64 m.expiry):=by
 rw [Msg.row,List.getElem?_toArray,Msg.cells]
 simp only [List.getElem?_cons_succ]
 rw [List.getElem?_append_right (by rw [ints_len',h];decide),ints_len',h];rfl
theorem Msg.g37 (h:m.hash.length=32):m.row[37]?=some (.int .i64 m.number):=by
 rw [Msg.row,List.getElem?_toArray,Msg.cells]
 simp only [List.getElem?_cons_succ]
 rw [List.getElem?_append_right (by rw [ints_len',h];decide),ints_len',h];rfl
theorem Msg.s1 (v:Int):m.row.setIfInBounds 1 (.int .u32 v)={ m with chan:=v }.row:=by simp [Msg.row,Msg.cells]
theorem Msg.s2 (v:Int):m.row.setIfInBounds 2 (.int .u64 v)={ m with id:=v }.row:=by simp [Msg.row,Msg.cells]
theorem Msg.s3 (v:Int):m.row.setIfInBounds 3 (.int .u64 v)={ m with amount:=v }.row:=by simp [Msg.row,Msg.cells]
theorem Msg.s0 (v:Int):m.row.setIfInBounds 0 (.int .i64 v)={ m with kind:=v }.row:=by simp [Msg.row,Msg.cells]
theorem Msg.s36 (h:m.hash.length=32) (v:Int):m.row.setIfInBounds 36 (.int .i64 v)={ m with expiry:=v }.row:=by
 have hl:(ints m.hash).length=32:=by rw [ints_len',h]
 simp only [Msg.row,Msg.cells,List.setIfInBounds_toArray,List.set_cons_succ]
 rw [List.set_append_right _ _ (by rw [hl];decide),hl];rfl
theorem Msg.s37 (h:m.hash.length=32) (v:Int):m.row.setIfInBounds 37 (.int .i64 v)={ m with number:=v }.row:=by
 have hl:(ints m.hash).length=32:=by rw [ints_len',h]
 simp only [Msg.row,Msg.cells,List.setIfInBounds_toArray,List.set_cons_succ]
 rw [List.set_append_right _ _ (by rw [hl];decide),hl];rfl
theorem Msg.sh (h:m.hash.length=32) {l:List Int} (hl:l.length=32):spl m.row 4 (ints l)={ m with hash:=l }.row:=by
 apply Array.ext_getElem?
 intro i
 rw [spl_get _ _ _ _ (by rw [ints_len',hl,Msg.size h];decide),ints_len',hl]
 by_cases hi:4≤i∧i<4+32
 · rw [if_pos hi]
   obtain ⟨j,rfl⟩:∃ j,i=4+j:=⟨i-4,by omega⟩
   rw [Msg.gh (m:={ m with hash:=l }) hl (by omega),show 4+j-4=j by omega]
 · rw [if_neg hi]
   by_cases h4:i<4
   · match i,h4 with
     | 0,_=>rw [Msg.g0,Msg.g0]
     | 1,_=>rw [Msg.g1,Msg.g1]
     | 2,_=>rw [Msg.g2,Msg.g2]
     | 3,_=>rw [Msg.g3,Msg.g3]
   · by_cases h36:i=36
     · subst h36;rw [Msg.g36 h,Msg.g36 (m:={ m with hash:=l }) hl]
     · by_cases h37:i=37
       · subst h37;rw [Msg.g37 h,Msg.g37 (m:={ m with hash:=l }) hl]
       · rw [Array.getElem?_eq_none (by rw [Msg.size h];omega),Array.getElem?_eq_none (by rw [Msg.size (m:={ m with hash:=l }) hl];omega)]
theorem Msg.one:m.row.all (·.oneCell')=true:=by
 refine Array.all_eq_true_iff_forall_mem.2 fun v hv=>?_
 simp only [Msg.row,Msg.cells,List.mem_toArray,List.mem_cons,List.mem_append,ints,List.mem_map,List.not_mem_nil,or_false] at hv
 rcases hv with rfl | rfl | rfl | rfl | ⟨_,_,rfl⟩ | rfl | rfl<;>rfl
theorem Msg.info (h:m.hash.length=32):(Tryz.prog.info? 59).map (·.size)=some m.row.size:=by rw [Msg.size h];kernel_rfl
theorem Msg.range {w:World} {b:Nat} {t:TypeId} (hr:M.RowAt w b t m.row) (h:m.hash.length=32):w.rangeAt b 4 (ints m.hash):=fun j v hv=>by
 have hj:j<32:=by have:=(List.getElem?_eq_some_iff.1 hv).1;rwa [ints_len',h] at this
 rw [hr.cell,Msg.gh h hj];exact hv
theorem Msg.there {w:World} {b:Nat} {t:TypeId} (hr:M.RowAt w b t m.row) (h:m.hash.length=32):w.there b 4 32:=fun i hi=>by
 have:w.cell? ⟨b,4+i,Option.none⟩=some (.int .u8 (m.hash[i]'(by omega))):=by
  rw [hr.cell,Msg.gh h hi];simp [ints,List.getElem?_eq_getElem (show i<m.hash.length by omega)]
 exact ⟨by rw [this];rfl,hr.frozen _⟩
end
inductive Fld where
 | chan | id | amount | hash | expiry | number
def fieldsOf (k:Int):Option (List Fld):=
 if k=1 then some [.chan,.amount] else if k=2 then some [.chan] else if k=8 then some [.chan] else if k=3 then some [.chan,.id,.amount,.hash,.expiry]
 else if k=4 then some [.chan,.id,.hash] else if k=5 then some [.chan,.id,.number] else if k=6 then some [.chan,.number,.hash] else if k=7 then some [.chan,.number,.hash]
 else if k=9 then some [.chan,.number,.id] else none
def Msg.zero (m:Msg):Fld→Msg
 | .chan=>{ m with chan:=0 }
 | .id=>{ m with id:=0 }
 | .amount=>{ m with amount:=0 }
 | .hash=>{ m with hash:=z32 }
 | .expiry=>{ m with expiry:=0 }
 | .number=>{ m with number:=0 }
theorem Msg.zero32 {m:Msg} (h:m.hash.length=32) (f:Fld):(m.zero f).hash.length=32:=by
 cases f<;>first | exact h | rfl
def FV (lo:Nat) (W:World):Fld→Value→Prop
 | .hash,v=>v=.func (.func 195) #[] #[]
 | .chan,v=>∃ a b,v=.func (.func 306) #[] #[.pointer (some ⟨a,0,Option.none⟩),.pointer (some ⟨b,0,Option.none⟩)]∧lo≤a∧lo≤b∧M.RowAt W a 379 #[.func (.func 268) #[] #[]]∧M.RowAt W b 3 #[.int .i64 4]
 | .id,v=>∃ a b,v=.func (.func 265) #[] #[.pointer (some ⟨a,0,Option.none⟩),.pointer (some ⟨b,0,Option.none⟩)]∧lo≤a∧lo≤b∧M.RowAt W a 315 #[.func (.func 189) #[] #[]]∧M.RowAt W b 3 #[.int .i64 8]
 | .amount,v=>∃ a b,v=.func (.func 265) #[] #[.pointer (some ⟨a,0,Option.none⟩),.pointer (some ⟨b,0,Option.none⟩)]∧lo≤a∧lo≤b∧M.RowAt W a 315 #[.func (.func 190) #[] #[]]∧M.RowAt W b 3 #[.int .i64 8]
 | .expiry,v=>∃ a b,v=.func (.func 266) #[] #[.pointer (some ⟨a,0,Option.none⟩),.pointer (some ⟨b,0,Option.none⟩)]∧lo≤a∧lo≤b∧M.RowAt W a 318 #[.func (.func 192) #[] #[]]∧M.RowAt W b 3 #[.int .i64 4]
 | .number,v=>∃ a b,v=.func (.func 266) #[] #[.pointer (some ⟨a,0,Option.none⟩),.pointer (some ⟨b,0,Option.none⟩)]∧lo≤a∧lo≤b∧M.RowAt W a 318 #[.func (.func 193) #[] #[]]∧M.RowAt W b 3 #[.int .i64 2]
def okT (t:Nat):Bool:=[3,312,315,318,379,212,26,320].contains t
def Kp (lo:Nat) (w w':World):Prop:=∀ g t C,okT t=true→lo≤g→M.RowAt w g t C→M.RowAt w' g t C
theorem Kp.refl (lo:Nat) (w:World):Kp lo w w:=fun _ _ _ _ _ h=>h
theorem Kp.trans {lo:Nat} {w w' w'':World} (h:Kp lo w w') (h':Kp lo w' w''):Kp lo w w'':=fun g t C ht hg hr=>h' g t C ht hg (h g t C ht hg hr)
theorem Kp.of_but {lo b:Nat} {w w':World} (h:M.But b w w') (hb:b<lo):Kp lo w w':=fun g t C _ hg hr=>h.row hr (by omega)
theorem Kp.of_butT {lo b:Nat} {w w':World} {tb:TypeId} {D:Array Value} (h:M.But b w w') (hb:M.RowAt w b tb D) (ht:okT tb=false):Kp lo w w':=fun g t C hT _ hr=>h.row hr (fun e=>by
 subst e
 have e2:=Option.some.inj (Eq.trans (Eq.symm hr) hb)
 have e3:t=tb:=by injection e2
 rw [e3,ht] at hT;cases hT)
theorem Kp.of_below {lo:Nat} {w w':World} (h:Below w.heap.size w w'):Kp lo w w':=fun g t C _ hg hr=>hr.call h
theorem FV.kept {lo:Nat} {W W':World} {f:Fld} {v:Value} (h:FV lo W f v) (hk:Kp lo W W'):FV lo W' f v:=by
 cases f
 all_goals first
  | exact h
  | (obtain ⟨a,b,h1,h2,h3,h4,h5⟩:=h;exact ⟨a,b,h1,h2,h3,hk _ _ _ rfl h2 h4,hk _ _ _ rfl h3 h5⟩)
def FL (lo:Nat) (W:World) (v:Value) (l:List Fld):Prop:=
 ∃ (g cap:Nat) (C:Array Value),v=.slice (some ⟨g,0,Option.none⟩) l.length cap∧lo≤g∧M.RowAt W g 312 C∧∀ (i:Nat) (f:Fld),l[i]?=some f→∃ u,C[i]?=some u∧FV lo W f u
theorem FL.kept {lo:Nat} {W W':World} {v:Value} {l:List Fld} (h:FL lo W v l) (hk:Kp lo W W'):FL lo W' v l:=by
 obtain ⟨g,cap,C,h1,h2,h3,h4⟩:=h
 exact ⟨g,cap,C,h1,h2,hk _ _ _ rfl h2 h3,fun i f hf=>by obtain ⟨u,hu,hv⟩:=h4 i f hf;exact ⟨u,hu,hv.kept hk⟩⟩
theorem FV.mono {lo lo':Nat} {W:World} {f:Fld} {v:Value} (h:FV lo W f v) (hl:lo'≤lo):FV lo' W f v:=by
 cases f
 all_goals first
  | exact h
  | (obtain ⟨a,b,h1,h2,h3,h4,h5⟩:=h;exact ⟨a,b,h1,by omega,by omega,h4,h5⟩)
theorem FL.mono {lo lo':Nat} {W:World} {v:Value} {l:List Fld} (h:FL lo W v l) (hl:lo'≤lo):FL lo' W v l:=by
 obtain ⟨g,cap,C,h1,h2,h3,h4⟩:=h
 exact ⟨g,cap,C,h1,by omega,h3,fun i f hf=>by obtain ⟨u,hu,hv⟩:=h4 i f hf;exact ⟨u,hu,hv.mono hl⟩⟩
end Go.Proofs.YtdebnbgjgkbmaaaGreatDoor.Wi
namespace Go.Proofs.YtdebnbgjgkbmaaaGreatDoor.Wi
open Go.Proofs.YtdebnbgjgkbmaaaGreatDoor.Oc
open Go.RowKit
set_option linter.unusedVariables false
theorem mkf (fn:Fn) (first cap:Array Value) (w:World):(Instr.makeFunc fn first cap).run Tryz.prog w=.ok (.func fn first cap) w:=rfl
theorem num57 (wd:Int) (fo:FuncId) (w:World):Calls Tryz.prog 188 #[.int .i64 wd,.func (.func fo) #[] #[]] w fun e w'=>e=.returned (Value.func (Fn.func 265) #[] #[.pointer (some ⟨w.heap.size+1,0,none⟩),.pointer (some ⟨w.heap.size,0,none⟩)])∧w'=(w.alloc (.cells #[.int .i64 wd] 3)).alloc (.cells #[.func (.func fo) #[] #[]] 315):=by
 have hmf:=mkf
 go_enter Tryz.func188,Tryz.ntmps188
 go_wp2
 go_ret
 exact ⟨rfl,rfl⟩
theorem num60 (wd:Int) (fo:FuncId) (w:World):Calls Tryz.prog 191 #[.int .i64 wd,.func (.func fo) #[] #[]] w fun e w'=>e=.returned (Value.func (Fn.func 266) #[] #[.pointer (some ⟨w.heap.size+1,0,none⟩),.pointer (some ⟨w.heap.size,0,none⟩)])∧w'=(w.alloc (.cells #[.int .i64 wd] 3)).alloc (.cells #[.func (.func fo) #[] #[]] 318):=by
 have hmf:=mkf
 go_enter Tryz.func191,Tryz.ntmps191
 go_wp2
 go_ret
 exact ⟨rfl,rfl⟩
theorem num68 (wd:Int) (fo:FuncId) (w:World):Calls Tryz.prog 267 #[.int .i64 wd,.func (.func fo) #[] #[]] w fun e w'=>e=.returned (Value.func (Fn.func 306) #[] #[.pointer (some ⟨w.heap.size+1,0,none⟩),.pointer (some ⟨w.heap.size,0,none⟩)])∧w'=(w.alloc (.cells #[.int .i64 wd] 3)).alloc (.cells #[.func (.func fo) #[] #[]] 379):=by
 have hmf:=mkf
 go_enter Tryz.func267,Tryz.ntmps267
 go_wp2
 go_ret
 exact ⟨rfl,rfl⟩
theorem info94:(Tryz.prog.info? 312).map (fun i=>(i.zero,i.size,i.bytes))=some (some Value.nilFunc,1,8):=by kernel_rfl
def FR (lo:Nat) (W:World) (v:Value) (l:List Fld) (C:Array Value):Prop:=
 (l=[]∧v=.slice none 0 0)∨∃ g,v=.slice (some ⟨g,0,none⟩) l.length l.length∧M.RowAt W g 312 C∧C.size=l.length∧l≠[]∧(∀ u∈C.toList,u.oneCell'=true)∧∀ (i:Nat) (f:Fld),l[i]?=some f→∃ u,C[i]?=some u∧FV lo W f u
set_option maxRecDepth 100000 in
set_option maxHeartbeats 2000000 in
theorem list_any {lo:Nat} {w:World} {v:Value} {l:List Fld} {C:Array Value} (h:FR lo w v l C) (hlo:lo≤w.heap.size) (h8:l.length≤8) :
 Calls Tryz.prog 194 #[v] w fun e w'=>∃ v',e=.returned (.tuple #[v',.bool true])∧FL lo w' v' (.chan::l)∧Below w.heap.size w w':=by
 obtain ⟨n,hn⟩:∃ n,w.heap.size=n:=⟨_,rfl⟩
 have kb:=((KB.start w).new 3 #[.int .i64 4]).new 379 #[.func (.func 268) #[] #[]]
 have k3:=kb.new 312 #[(Value.func (Fn.func 306) #[] #[.pointer (some ⟨n+1,0,none⟩),.pointer (some ⟨n,0,none⟩)])]
 rw [World.size_alloc,World.size_alloc,hn] at k3
 rw [World.size_alloc,hn] at kb
 have nm:=num68 4 268 w
 rw [hn] at nm
 obtain ⟨V,hV⟩:∃ V,(w.alloc (.cells #[.int .i64 4] 3)).alloc (.cells #[.func (.func 268) #[] #[]] 379)=V:=⟨_,rfl⟩
 have sV:V.heap.size=n+2:=by rw [←hV];simp [hn]
 rw [hV] at nm k3 kb
 obtain ⟨V2,hV2⟩:∃ V2,V.alloc (.cells #[(Value.func (Fn.func 306) #[] #[.pointer (some ⟨n+1,0,none⟩),.pointer (some ⟨n,0,none⟩)])] 312)=V2:=⟨_,rfl⟩
 rw [hV2] at k3
 have sV2:V2.heap.size=n+3:=by rw [←hV2];simp [sV]
 have r0:M.RowAt V2 (n+1+1) 312 #[(Value.func (Fn.func 306) #[] #[.pointer (some ⟨n+1,0,none⟩),.pointer (some ⟨n,0,none⟩)])]:=k3.row _ _ _ (by simp)
 have rw1:M.RowAt V2 n 3 #[.int .i64 4]:=k3.row _ _ _ (by simp)
 have rw2:M.RowAt V2 (n+1) 379 #[.func (.func 268) #[] #[]]:=k3.row _ _ _ (by simp)
 have own0:V2.ownsRow (n+2) 312 1 (.slice (some ⟨n+2,0,none⟩) 1 1) 1 [(Value.func (Fn.func 306) #[] #[.pointer (some ⟨n+1,0,none⟩),.pointer (some ⟨n,0,none⟩)])]:=⟨rfl,.inr ⟨n+2,1,_,rfl,Nat.le_refl _,r0,Nat.le_refl _,by unfold maxLen;omega,rfl,rfl⟩⟩
 have b2:Below n w V2:=hn▸k3.below
 have key:∃ v6 W,((v=.slice none 0 0∧v6=.slice (some ⟨n+2,0,none⟩) 1 1∧W=V2)∨(∃ g,v=.slice (some ⟨g,0,none⟩) l.length l.length∧(Builtin.append_ #[202,202] 202 #[.slice (some ⟨n+2,0,none⟩) 1 1,v]).run Tryz.prog V2=.ok v6 W))∧FL lo W v6 (.chan::l)∧Below n w W:=by
  rcases h with ⟨rfl,rfl⟩ | ⟨g,rfl,hr,hs,hne,h1,hf⟩
  · refine ⟨_,_,.inl ⟨rfl,rfl,rfl⟩,⟨n+2,1,_,rfl,by omega,r0,fun i f hi=>?_⟩,b2⟩
    match i,hi with
    | 0,hi=>
      obtain rfl:Fld.chan=f:=by simpa using hi
      exact ⟨_,rfl,n+1,n,rfl,by omega,by omega,rw2,rw1⟩
  · obtain ⟨i0,hi,hz,hsz,hby⟩:=info_parts info94
    have hg:g<n:=hn▸hr.lt
    have hrV:M.RowAt V2 g 312 C:=hr.below b2 hg
    obtain ⟨v6,W,hrun,hown,hgr,_⟩:=run_append_own (P:=Tryz.prog) V2 (n+2) 202 202 312 i0 .nilFunc 1 8 Tryz.underlying202 hi hz hsz hby rfl (by decide) _ 1 _ own0 ⟨g,0,none⟩ l.length l.length C.toList (by simp [hs]) (fun j u hu=>by
     rw [Addr.add_mid,Nat.zero_add,hrV.cell];simpa using hu) h1 (by unfold maxLen;omega) (by omega) (by omega)
    have bW:Below n w W:=b2.trans ⟨hgr.os,hgr.tape,hgr.output,hgr.size,fun k hk=>hgr.block k (by omega) (by simp [Value.ownBlock];omega)⟩
    have kpW:∀ {k t D},k≠n+2→M.RowAt V2 k t D→M.RowAt W k t D:=fun {k t D} hk hr=>by
     have:=hr.lt
     unfold M.RowAt;rw [hgr.block k this (by simp [Value.ownBlock];omega)];exact hr
    refine ⟨v6,W,.inr ⟨g,rfl,hrun⟩,?_,bW⟩
    rcases hown.2 with ⟨_,h0⟩ | ⟨g6,cap,cur,rfl,hlo6,hrow6,_⟩
    · omega
    · refine ⟨g6,cap,cur,by rw [List.length_cons,Nat.add_comm],by omega,hrow6,fun i f hi=>?_⟩
      have hc:=fun j (hj:j<(1+l.length)*1)=>hown.cellAt j (by simpa using hj)
      match i,hi with
      | 0,hi=>
        obtain rfl:Fld.chan=f:=by simpa using hi
        refine ⟨(Value.func (Fn.func 306) #[] #[.pointer (some ⟨n+1,0,none⟩),.pointer (some ⟨n,0,none⟩)]),?_,n+1,n,rfl,by omega,by omega,kpW (by omega) rw2,kpW (by omega) rw1⟩
        have:=hc 0 (by omega)
        rw [M.RowAt.cell hrow6] at this
        rw [this];rfl
      | i+1,hi=>
        have hi':l[i]?=some f:=by simpa using hi
        have hil:i<l.length:=(List.getElem?_eq_some_iff.1 hi').1
        obtain ⟨u,hu,hv⟩:=hf i f hi'
        refine ⟨u,?_,hv.kept (fun q t D _ hq hD=>?_)⟩
        · have:=hc (i+1) (by omega)
          rw [M.RowAt.cell hrow6] at this
          rw [this]
          simpa using hu
        · have hqn:q<n:=hn▸hD.lt
          exact hD.below bW hqn
 obtain ⟨v6,W,hcase,hfl,hbl⟩:=key
 obtain ⟨A6,c6,hv6⟩:∃ A c,v6=.slice A (l.length+1) c:=by
  obtain ⟨g,cap,C,h1,_⟩:=hfl;exact ⟨_,_,h1⟩
 have HN:=Lib.hid hn;have NM:=Lib.hid nm;have SV:=Lib.hid sV;have HV2:=Lib.hid hV2
 have FIN:=Lib.hid (And.intro hfl hbl)
 clear hn nm sV hV2 hV kb k3 r0 rw1 rw2 own0 b2 hfl hbl h sV2
 rw [HN.out]
 rcases hcase with ⟨rfl,h6,rfl⟩ | ⟨g,rfl,hrun⟩
 · rw [h6] at FIN
   clear hv6 h6
   go_enter Tryz.func194,Tryz.ntmps194
   go_wp2_with fail
   refine (NM.out).mono ?_
   rintro e w1 ⟨rfl,rfl⟩
   go_wp2_with (first | (rw [SV.out,HV2.out]) | fail)
   go_ret2
   exact ⟨_,rfl,FIN.out⟩
 · rw [hv6] at hrun FIN
   have HR:=Lib.hid hrun
   clear hrun hv6
   generalize l.length=m at *
   go_enter Tryz.func194,Tryz.ntmps194
   go_wp2_with fail
   refine (NM.out).mono ?_
   rintro e w1 ⟨rfl,rfl⟩
   go_wp2_with (first | (rw [SV.out,HV2.out]) | (at_builtin;refine Go.Lib.wpList_append_run_sl _ rfl (.tmp 7) (.tmp 8) 202 rfl _ _ rfl rfl HR.out ?_) | fail)
   go_ret2
   exact ⟨_,rfl,FIN.out⟩
end Go.Proofs.YtdebnbgjgkbmaaaGreatDoor.Wi
namespace Go.Proofs.YtdebnbgjgkbmaaaGreatDoor.Wi
open Go.Proofs.YtdebnbgjgkbmaaaGreatDoor.Oc
open Go.RowKit
set_option linter.unusedVariables false
theorem FV.one {lo:Nat} {W:World} {f:Fld} {v:Value} (h:FV lo W f v):v.oneCell'=true:=by
 cases f
 all_goals first
  | (obtain ⟨a,b,rfl,_⟩:=h;rfl)
  | (have h':v=_:=h;rw [h'];rfl)
theorem fr_of {lo:Nat} (ps:List (Fld × Value)) (hne:ps≠[]) {W:World} (hp:∀ p∈ps,FV lo W p.1 p.2) :
 FR lo (W.alloc (.cells (ps.map (·.2)).toArray 312)) (.slice (some ⟨W.heap.size,0,none⟩) ps.length ps.length) (ps.map (·.1)) (ps.map (·.2)).toArray:=by
 refine .inr ⟨W.heap.size,by simp,M.RowAt.new W 312 _,by simp,by simpa using hne,fun u hu=>?_,fun i f hi=>?_⟩
 · obtain ⟨p,hp',rfl⟩:=List.mem_map.1 (by simpa using hu:u∈ps.map (·.2))
   exact (hp p hp').one
 · rw [List.getElem?_map] at hi
   cases hpi:ps[i]? with
   | none=>rw [hpi] at hi;cases hi
   | some p=>
     rw [hpi] at hi
     obtain rfl:p.1=f:=by simpa using hi
     refine ⟨p.2,by simp [hpi],(hp p (List.mem_of_getElem? hpi)).kept (fun g t C _ _ hr=>hr.alloc _)⟩
set_option maxRecDepth 100000 in
set_option maxHeartbeats 4000000 in
theorem fields_any (k:Int) (w:World):Calls Tryz.prog 101 #[.int .i64 k] w fun e w'=>
 match fieldsOf k with
 | some l=>∃ v',e=.returned (.tuple #[v',.bool true])∧FL w.heap.size w' v' l∧Below w.heap.size w w'
 | none=>e=.returned (.tuple #[.slice none 0 0,.bool false])∧Below w.heap.size w w':=by
 obtain ⟨n,hn⟩:∃ n,w.heap.size=n:=⟨_,rfl⟩
 have n1:=num57 8 189 w
 rw [hn] at n1 ⊢
 have K0:=KB.start w
 rw [hn] at K0
 have K1:=(K0.new 3 #[.int .i64 8]).new 315 #[.func (.func 189) #[] #[]]
 rw [World.size_alloc,hn] at K1
 obtain ⟨w1,hw1⟩:∃ w1,(w.alloc (.cells #[.int .i64 8] 3)).alloc (.cells #[.func (.func 189) #[] #[]] 315)=w1:=⟨_,rfl⟩
 have s1:w1.heap.size=n+2:=by rw [←hw1];simp [hn]
 rw [hw1] at n1 K1
 have n2:=num57 8 190 w1
 rw [s1] at n2
 have K2:=(K1.new 3 #[.int .i64 8]).new 315 #[.func (.func 190) #[] #[]]
 rw [World.size_alloc,s1] at K2
 obtain ⟨w2,hw2⟩:∃ w2,(w1.alloc (.cells #[.int .i64 8] 3)).alloc (.cells #[.func (.func 190) #[] #[]] 315)=w2:=⟨_,rfl⟩
 have s2:w2.heap.size=n+4:=by rw [←hw2];simp [s1]
 rw [hw2] at n2 K2
 have n3:=num60 4 192 w2
 rw [s2] at n3
 have K3:=(K2.new 3 #[.int .i64 4]).new 318 #[.func (.func 192) #[] #[]]
 rw [World.size_alloc,s2] at K3
 obtain ⟨w3,hw3⟩:∃ w3,(w2.alloc (.cells #[.int .i64 4] 3)).alloc (.cells #[.func (.func 192) #[] #[]] 318)=w3:=⟨_,rfl⟩
 have s3:w3.heap.size=n+6:=by rw [←hw3];simp [s2]
 rw [hw3] at n3 K3
 have n4:=num60 2 193 w3
 rw [s3] at n4
 have K4:=(K3.new 3 #[.int .i64 2]).new 318 #[.func (.func 193) #[] #[]]
 rw [World.size_alloc,s3] at K4
 obtain ⟨w4,hw4⟩:∃ w4,(w3.alloc (.cells #[.int .i64 2] 3)).alloc (.cells #[.func (.func 193) #[] #[]] 318)=w4:=⟨_,rfl⟩
 have s4:w4.heap.size=n+8:=by rw [←hw4];simp [s3]
 rw [hw4] at n4 K4
 have fId:FV n w4 .id (Value.func (Fn.func 265) #[] #[.pointer (some ⟨n+1,0,none⟩),.pointer (some ⟨n,0,none⟩)]):=⟨n+1,n,rfl,by omega,by omega,K4.row _ _ _ (by simp),K4.row _ _ _ (by simp)⟩
 have fAm:FV n w4 .amount (Value.func (Fn.func 265) #[] #[.pointer (some ⟨n+2+1,0,none⟩),.pointer (some ⟨n+2,0,none⟩)]):=⟨n+2+1,n+2,rfl,by omega,by omega,K4.row _ _ _ (by simp),K4.row _ _ _ (by simp)⟩
 have fEx:FV n w4 .expiry (Value.func (Fn.func 266) #[] #[.pointer (some ⟨n+4+1,0,none⟩),.pointer (some ⟨n+4,0,none⟩)]):=⟨n+4+1,n+4,rfl,by omega,by omega,K4.row _ _ _ (by simp),K4.row _ _ _ (by simp)⟩
 have fNu:FV n w4 .number (Value.func (Fn.func 266) #[] #[.pointer (some ⟨n+6+1,0,none⟩),.pointer (some ⟨n+6,0,none⟩)]):=⟨n+6+1,n+6,rfl,by omega,by omega,K4.row _ _ _ (by simp),K4.row _ _ _ (by simp)⟩
 have fHa:FV n w4 .hash (.func (.func 195) #[] #[]):=rfl
 have bel:=K4.below
 have HN:=Lib.hid hn;have N1:=Lib.hid n1;have N2:=Lib.hid n2;have N3:=Lib.hid n3;have N4:=Lib.hid n4;have S4:=Lib.hid s4
 have BEL:=Lib.hid bel
 have FID:=Lib.hid fId;have FAM:=Lib.hid fAm;have FEX:=Lib.hid fEx;have FNU:=Lib.hid fNu;have FHA:=Lib.hid fHa
 clear n1 n2 n3 n4 K0 K1 K2 K3 K4 hw1 hw2 hw3 hw4 s1 s2 s3 s4 hn bel fId fAm fEx fNu fHa
 by_cases q1:k=1
 · subst q1
   show Calls _ _ _ _ fun e w'=>∃ v',e=.returned (.tuple #[v',.bool true])∧FL n w' v' [Fld.chan,Fld.amount]∧Below n w w'
   have fr:=fr_of (lo:=n) [(Fld.amount,(Value.func (Fn.func 265) #[] #[.pointer (some ⟨n+2+1,0,none⟩),.pointer (some ⟨n+2,0,none⟩)]))] (by simp) (W:=w4) (fun p hp=>by
    simp only [List.mem_cons,List.not_mem_nil,or_false] at hp
    rcases hp with rfl
    · exact FAM.out)
   obtain ⟨W,hW⟩:∃ W,w4.alloc (.cells #[(Value.func (Fn.func 265) #[] #[.pointer (some ⟨n+2+1,0,none⟩),.pointer (some ⟨n+2,0,none⟩)])] 312)=W:=⟨_,rfl⟩
   have bW:Below n w W:=by rw [←hW];exact BEL.out.alloc (by rw [S4.out];omega) _
   have gW:n≤W.heap.size:=by rw [←hW];have:=S4.out;simp;omega
   simp only [List.map] at fr
   rw [hW,S4.out] at fr
   have LA:=Lib.hid (list_any fr gW (by simp))
   have HW:=Lib.hid hW;have BW:=Lib.hid bW;have GW:=Lib.hid gW
   clear fr hW bW gW
   go_enter Tryz.func101,Tryz.ntmps101
   go_wp2_with fail
   refine (N1.out).mono ?_
   rintro e w1 ⟨rfl,rfl⟩
   go_wp2_with fail
   refine (N2.out).mono ?_
   rintro e w2 ⟨rfl,rfl⟩
   go_wp2_with fail
   refine (N3.out).mono ?_
   rintro e w3 ⟨rfl,rfl⟩
   go_wp2_with fail
   refine (N4.out).mono ?_
   rintro e w4 ⟨rfl,rfl⟩
   go_wp2_with (first | (rw [S4.out,HW.out]) | fail)
   refine (LA.out).mono ?_
   rintro e w5 ⟨v5,rfl,q1,q2⟩
   have FIN:=Lib.hid (And.intro q1 (BW.out.trans (q2.mono GW.out)))
   clear q1 q2
   go_wp2
   go_ret2
   exact ⟨_,rfl,FIN.out⟩
 have e1:(k==1)=false:=by simpa using q1
 by_cases q2:k=2
 · subst q2
   show Calls _ _ _ _ fun e w'=>∃ v',e=.returned (.tuple #[v',.bool true])∧FL n w' v' [Fld.chan]∧Below n w w'
   have gW:n≤w4.heap.size:=by have:=S4.out;omega
   have LA:=Lib.hid (list_any (lo:=n) (w:=w4) (l:=[]) (C:=#[]) (.inl ⟨rfl,rfl⟩) gW (by simp))
   have BW:=BEL;have GW:=Lib.hid gW
   clear gW
   go_enter Tryz.func101,Tryz.ntmps101
   go_wp2_with fail
   refine (N1.out).mono ?_
   rintro e w1 ⟨rfl,rfl⟩
   go_wp2_with fail
   refine (N2.out).mono ?_
   rintro e w2 ⟨rfl,rfl⟩
   go_wp2_with fail
   refine (N3.out).mono ?_
   rintro e w3 ⟨rfl,rfl⟩
   go_wp2_with fail
   refine (N4.out).mono ?_
   rintro e w4 ⟨rfl,rfl⟩
   go_wp2_with fail
   refine (LA.out).mono ?_
   rintro e w5 ⟨v5,rfl,q1,q2⟩
   have FIN:=Lib.hid (And.intro q1 (BW.out.trans (q2.mono GW.out)))
   clear q1 q2
   go_wp2
   go_ret2
   exact ⟨_,rfl,FIN.out⟩
 have e2:(k==2)=false:=by simpa using q2
 by_cases q8:k=8
 · subst q8
   show Calls _ _ _ _ fun e w'=>∃ v',e=.returned (.tuple #[v',.bool true])∧FL n w' v' [Fld.chan]∧Below n w w'
   have gW:n≤w4.heap.size:=by have:=S4.out;omega
   have LA:=Lib.hid (list_any (lo:=n) (w:=w4) (l:=[]) (C:=#[]) (.inl ⟨rfl,rfl⟩) gW (by simp))
   have BW:=BEL;have GW:=Lib.hid gW
   clear gW
   go_enter Tryz.func101,Tryz.ntmps101
   go_wp2_with fail
   refine (N1.out).mono ?_
   rintro e w1 ⟨rfl,rfl⟩
   go_wp2_with fail
   refine (N2.out).mono ?_
   rintro e w2 ⟨rfl,rfl⟩
   go_wp2_with fail
   refine (N3.out).mono ?_
   rintro e w3 ⟨rfl,rfl⟩
   go_wp2_with fail
   refine (N4.out).mono ?_
   rintro e w4 ⟨rfl,rfl⟩
   go_wp2_with fail
   refine (LA.out).mono ?_
   rintro e w5 ⟨v5,rfl,q1,q2⟩
   have FIN:=Lib.hid (And.intro q1 (BW.out.trans (q2.mono GW.out)))
   clear q1 q2
   go_wp2
   go_ret2
   exact ⟨_,rfl,FIN.out⟩
 have e8:(k==8)=false:=by simpa using q8
 by_cases q3:k=3
 · subst q3
   show Calls _ _ _ _ fun e w'=>∃ v',e=.returned (.tuple #[v',.bool true])∧FL n w' v' [Fld.chan,Fld.id,Fld.amount,Fld.hash,Fld.expiry]∧Below n w w'
   have fr:=fr_of (lo:=n) [(Fld.id,(Value.func (Fn.func 265) #[] #[.pointer (some ⟨n+1,0,none⟩),.pointer (some ⟨n,0,none⟩)])),(Fld.amount,(Value.func (Fn.func 265) #[] #[.pointer (some ⟨n+2+1,0,none⟩),.pointer (some ⟨n+2,0,none⟩)])),(Fld.hash,(Value.func (Fn.func 195) #[] #[])),(Fld.expiry,(Value.func (Fn.func 266) #[] #[.pointer (some ⟨n+4+1,0,none⟩),.pointer (some ⟨n+4,0,none⟩)]))] (by simp) (W:=w4) (fun p hp=>by
    simp only [List.mem_cons,List.not_mem_nil,or_false] at hp
    rcases hp with rfl | rfl | rfl | rfl
    · exact FID.out
    · exact FAM.out
    · exact FHA.out
    · exact FEX.out)
   obtain ⟨W,hW⟩:∃ W,w4.alloc (.cells #[(Value.func (Fn.func 265) #[] #[.pointer (some ⟨n+1,0,none⟩),.pointer (some ⟨n,0,none⟩)]),(Value.func (Fn.func 265) #[] #[.pointer (some ⟨n+2+1,0,none⟩),.pointer (some ⟨n+2,0,none⟩)]),(Value.func (Fn.func 195) #[] #[]),(Value.func (Fn.func 266) #[] #[.pointer (some ⟨n+4+1,0,none⟩),.pointer (some ⟨n+4,0,none⟩)])] 312)=W:=⟨_,rfl⟩
   have bW:Below n w W:=by rw [←hW];exact BEL.out.alloc (by rw [S4.out];omega) _
   have gW:n≤W.heap.size:=by rw [←hW];have:=S4.out;simp;omega
   simp only [List.map] at fr
   rw [hW,S4.out] at fr
   have LA:=Lib.hid (list_any fr gW (by simp))
   have HW:=Lib.hid hW;have BW:=Lib.hid bW;have GW:=Lib.hid gW
   clear fr hW bW gW
   go_enter Tryz.func101,Tryz.ntmps101
   go_wp2_with fail
   refine (N1.out).mono ?_
   rintro e w1 ⟨rfl,rfl⟩
   go_wp2_with fail
   refine (N2.out).mono ?_
   rintro e w2 ⟨rfl,rfl⟩
   go_wp2_with fail
   refine (N3.out).mono ?_
   rintro e w3 ⟨rfl,rfl⟩
   go_wp2_with fail
   refine (N4.out).mono ?_
   rintro e w4 ⟨rfl,rfl⟩
   go_wp2_with (first | (rw [S4.out,HW.out]) | fail)
   refine (LA.out).mono ?_
   rintro e w5 ⟨v5,rfl,q1,q2⟩
   have FIN:=Lib.hid (And.intro q1 (BW.out.trans (q2.mono GW.out)))
   clear q1 q2
   go_wp2
   go_ret2
   exact ⟨_,rfl,FIN.out⟩
 have e3:(k==3)=false:=by simpa using q3
 by_cases q4:k=4
 · subst q4
   show Calls _ _ _ _ fun e w'=>∃ v',e=.returned (.tuple #[v',.bool true])∧FL n w' v' [Fld.chan,Fld.id,Fld.hash]∧Below n w w'
   have fr:=fr_of (lo:=n) [(Fld.id,(Value.func (Fn.func 265) #[] #[.pointer (some ⟨n+1,0,none⟩),.pointer (some ⟨n,0,none⟩)])),(Fld.hash,(Value.func (Fn.func 195) #[] #[]))] (by simp) (W:=w4) (fun p hp=>by
    simp only [List.mem_cons,List.not_mem_nil,or_false] at hp
    rcases hp with rfl | rfl
    · exact FID.out
    · exact FHA.out)
   obtain ⟨W,hW⟩:∃ W,w4.alloc (.cells #[(Value.func (Fn.func 265) #[] #[.pointer (some ⟨n+1,0,none⟩),.pointer (some ⟨n,0,none⟩)]),(Value.func (Fn.func 195) #[] #[])] 312)=W:=⟨_,rfl⟩
   have bW:Below n w W:=by rw [←hW];exact BEL.out.alloc (by rw [S4.out];omega) _
   have gW:n≤W.heap.size:=by rw [←hW];have:=S4.out;simp;omega
   simp only [List.map] at fr
   rw [hW,S4.out] at fr
   have LA:=Lib.hid (list_any fr gW (by simp))
   have HW:=Lib.hid hW;have BW:=Lib.hid bW;have GW:=Lib.hid gW
   clear fr hW bW gW
   go_enter Tryz.func101,Tryz.ntmps101
   go_wp2_with fail
   refine (N1.out).mono ?_
   rintro e w1 ⟨rfl,rfl⟩
   go_wp2_with fail
   refine (N2.out).mono ?_
   rintro e w2 ⟨rfl,rfl⟩
   go_wp2_with fail
   refine (N3.out).mono ?_
   rintro e w3 ⟨rfl,rfl⟩
   go_wp2_with fail
   refine (N4.out).mono ?_
   rintro e w4 ⟨rfl,rfl⟩
   go_wp2_with (first | (rw [S4.out,HW.out]) | fail)
   refine (LA.out).mono ?_
   rintro e w5 ⟨v5,rfl,q1,q2⟩
   have FIN:=Lib.hid (And.intro q1 (BW.out.trans (q2.mono GW.out)))
   clear q1 q2
   go_wp2
   go_ret2
   exact ⟨_,rfl,FIN.out⟩
 have e4:(k==4)=false:=by simpa using q4
 by_cases q5:k=5
 · subst q5
   show Calls _ _ _ _ fun e w'=>∃ v',e=.returned (.tuple #[v',.bool true])∧FL n w' v' [Fld.chan,Fld.id,Fld.number]∧Below n w w'
   have fr:=fr_of (lo:=n) [(Fld.id,(Value.func (Fn.func 265) #[] #[.pointer (some ⟨n+1,0,none⟩),.pointer (some ⟨n,0,none⟩)])),(Fld.number,(Value.func (Fn.func 266) #[] #[.pointer (some ⟨n+6+1,0,none⟩),.pointer (some ⟨n+6,0,none⟩)]))] (by simp) (W:=w4) (fun p hp=>by
    simp only [List.mem_cons,List.not_mem_nil,or_false] at hp
    rcases hp with rfl | rfl
    · exact FID.out
    · exact FNU.out)
   obtain ⟨W,hW⟩:∃ W,w4.alloc (.cells #[(Value.func (Fn.func 265) #[] #[.pointer (some ⟨n+1,0,none⟩),.pointer (some ⟨n,0,none⟩)]),(Value.func (Fn.func 266) #[] #[.pointer (some ⟨n+6+1,0,none⟩),.pointer (some ⟨n+6,0,none⟩)])] 312)=W:=⟨_,rfl⟩
   have bW:Below n w W:=by rw [←hW];exact BEL.out.alloc (by rw [S4.out];omega) _
   have gW:n≤W.heap.size:=by rw [←hW];have:=S4.out;simp;omega
   simp only [List.map] at fr
   rw [hW,S4.out] at fr
   have LA:=Lib.hid (list_any fr gW (by simp))
   have HW:=Lib.hid hW;have BW:=Lib.hid bW;have GW:=Lib.hid gW
   clear fr hW bW gW
   go_enter Tryz.func101,Tryz.ntmps101
   go_wp2_with fail
   refine (N1.out).mono ?_
   rintro e w1 ⟨rfl,rfl⟩
   go_wp2_with fail
   refine (N2.out).mono ?_
   rintro e w2 ⟨rfl,rfl⟩
   go_wp2_with fail
   refine (N3.out).mono ?_
   rintro e w3 ⟨rfl,rfl⟩
   go_wp2_with fail
   refine (N4.out).mono ?_
   rintro e w4 ⟨rfl,rfl⟩
   go_wp2_with (first | (rw [S4.out,HW.out]) | fail)
   refine (LA.out).mono ?_
   rintro e w5 ⟨v5,rfl,q1,q2⟩
   have FIN:=Lib.hid (And.intro q1 (BW.out.trans (q2.mono GW.out)))
   clear q1 q2
   go_wp2
   go_ret2
   exact ⟨_,rfl,FIN.out⟩
 have e5:(k==5)=false:=by simpa using q5
 by_cases q6:k=6
 · subst q6
   show Calls _ _ _ _ fun e w'=>∃ v',e=.returned (.tuple #[v',.bool true])∧FL n w' v' [Fld.chan,Fld.number,Fld.hash]∧Below n w w'
   have fr:=fr_of (lo:=n) [(Fld.number,(Value.func (Fn.func 266) #[] #[.pointer (some ⟨n+6+1,0,none⟩),.pointer (some ⟨n+6,0,none⟩)])),(Fld.hash,(Value.func (Fn.func 195) #[] #[]))] (by simp) (W:=w4) (fun p hp=>by
    simp only [List.mem_cons,List.not_mem_nil,or_false] at hp
    rcases hp with rfl | rfl
    · exact FNU.out
    · exact FHA.out)
   obtain ⟨W,hW⟩:∃ W,w4.alloc (.cells #[(Value.func (Fn.func 266) #[] #[.pointer (some ⟨n+6+1,0,none⟩),.pointer (some ⟨n+6,0,none⟩)]),(Value.func (Fn.func 195) #[] #[])] 312)=W:=⟨_,rfl⟩
   have bW:Below n w W:=by rw [←hW];exact BEL.out.alloc (by rw [S4.out];omega) _
   have gW:n≤W.heap.size:=by rw [←hW];have:=S4.out;simp;omega
   simp only [List.map] at fr
   rw [hW,S4.out] at fr
   have LA:=Lib.hid (list_any fr gW (by simp))
   have HW:=Lib.hid hW;have BW:=Lib.hid bW;have GW:=Lib.hid gW
   clear fr hW bW gW
   go_enter Tryz.func101,Tryz.ntmps101
   go_wp2_with fail
   refine (N1.out).mono ?_
   rintro e w1 ⟨rfl,rfl⟩
   go_wp2_with fail
   refine (N2.out).mono ?_
   rintro e w2 ⟨rfl,rfl⟩
   go_wp2_with fail
   refine (N3.out).mono ?_
   rintro e w3 ⟨rfl,rfl⟩
   go_wp2_with fail
   refine (N4.out).mono ?_
   rintro e w4 ⟨rfl,rfl⟩
   go_wp2_with (first | (rw [S4.out,HW.out]) | fail)
   refine (LA.out).mono ?_
   rintro e w5 ⟨v5,rfl,q1,q2⟩
   have FIN:=Lib.hid (And.intro q1 (BW.out.trans (q2.mono GW.out)))
   clear q1 q2
   go_wp2
   go_ret2
   exact ⟨_,rfl,FIN.out⟩
 have e6:(k==6)=false:=by simpa using q6
 by_cases q7:k=7
 · subst q7
   show Calls _ _ _ _ fun e w'=>∃ v',e=.returned (.tuple #[v',.bool true])∧FL n w' v' [Fld.chan,Fld.number,Fld.hash]∧Below n w w'
   have fr:=fr_of (lo:=n) [(Fld.number,(Value.func (Fn.func 266) #[] #[.pointer (some ⟨n+6+1,0,none⟩),.pointer (some ⟨n+6,0,none⟩)])),(Fld.hash,(Value.func (Fn.func 195) #[] #[]))] (by simp) (W:=w4) (fun p hp=>by
    simp only [List.mem_cons,List.not_mem_nil,or_false] at hp
    rcases hp with rfl | rfl
    · exact FNU.out
    · exact FHA.out)
   obtain ⟨W,hW⟩:∃ W,w4.alloc (.cells #[(Value.func (Fn.func 266) #[] #[.pointer (some ⟨n+6+1,0,none⟩),.pointer (some ⟨n+6,0,none⟩)]),(Value.func (Fn.func 195) #[] #[])] 312)=W:=⟨_,rfl⟩
   have bW:Below n w W:=by rw [←hW];exact BEL.out.alloc (by rw [S4.out];omega) _
   have gW:n≤W.heap.size:=by rw [←hW];have:=S4.out;simp;omega
   simp only [List.map] at fr
   rw [hW,S4.out] at fr
   have LA:=Lib.hid (list_any fr gW (by simp))
   have HW:=Lib.hid hW;have BW:=Lib.hid bW;have GW:=Lib.hid gW
   clear fr hW bW gW
   go_enter Tryz.func101,Tryz.ntmps101
   go_wp2_with fail
   refine (N1.out).mono ?_
   rintro e w1 ⟨rfl,rfl⟩
   go_wp2_with fail
   refine (N2.out).mono ?_
   rintro e w2 ⟨rfl,rfl⟩
   go_wp2_with fail
   refine (N3.out).mono ?_
   rintro e w3 ⟨rfl,rfl⟩
   go_wp2_with fail
   refine (N4.out).mono ?_
   rintro e w4 ⟨rfl,rfl⟩
   go_wp2_with (first | (rw [S4.out,HW.out]) | fail)
   refine (LA.out).mono ?_
   rintro e w5 ⟨v5,rfl,q1,q2⟩
   have FIN:=Lib.hid (And.intro q1 (BW.out.trans (q2.mono GW.out)))
   clear q1 q2
   go_wp2
   go_ret2
   exact ⟨_,rfl,FIN.out⟩
 have e7:(k==7)=false:=by simpa using q7
 by_cases q9:k=9
 · subst q9
   show Calls _ _ _ _ fun e w'=>∃ v',e=.returned (.tuple #[v',.bool true])∧FL n w' v' [Fld.chan,Fld.number,Fld.id]∧Below n w w'
   have fr:=fr_of (lo:=n) [(Fld.number,(Value.func (Fn.func 266) #[] #[.pointer (some ⟨n+6+1,0,none⟩),.pointer (some ⟨n+6,0,none⟩)])),(Fld.id,(Value.func (Fn.func 265) #[] #[.pointer (some ⟨n+1,0,none⟩),.pointer (some ⟨n,0,none⟩)]))] (by simp) (W:=w4) (fun p hp=>by
    simp only [List.mem_cons,List.not_mem_nil,or_false] at hp
    rcases hp with rfl | rfl
    · exact FNU.out
    · exact FID.out)
   obtain ⟨W,hW⟩:∃ W,w4.alloc (.cells #[(Value.func (Fn.func 266) #[] #[.pointer (some ⟨n+6+1,0,none⟩),.pointer (some ⟨n+6,0,none⟩)]),(Value.func (Fn.func 265) #[] #[.pointer (some ⟨n+1,0,none⟩),.pointer (some ⟨n,0,none⟩)])] 312)=W:=⟨_,rfl⟩
   have bW:Below n w W:=by rw [←hW];exact BEL.out.alloc (by rw [S4.out];omega) _
   have gW:n≤W.heap.size:=by rw [←hW];have:=S4.out;simp;omega
   simp only [List.map] at fr
   rw [hW,S4.out] at fr
   have LA:=Lib.hid (list_any fr gW (by simp))
   have HW:=Lib.hid hW;have BW:=Lib.hid bW;have GW:=Lib.hid gW
   clear fr hW bW gW
   go_enter Tryz.func101,Tryz.ntmps101
   go_wp2_with fail
   refine (N1.out).mono ?_
   rintro e w1 ⟨rfl,rfl⟩
   go_wp2_with fail
   refine (N2.out).mono ?_
   rintro e w2 ⟨rfl,rfl⟩
   go_wp2_with fail
   refine (N3.out).mono ?_
   rintro e w3 ⟨rfl,rfl⟩
   go_wp2_with fail
   refine (N4.out).mono ?_
   rintro e w4 ⟨rfl,rfl⟩
   go_wp2_with (first | (rw [S4.out,HW.out]) | fail)
   refine (LA.out).mono ?_
   rintro e w5 ⟨v5,rfl,q1,q2⟩
   have FIN:=Lib.hid (And.intro q1 (BW.out.trans (q2.mono GW.out)))
   clear q1 q2
   go_wp2
   go_ret2
   exact ⟨_,rfl,FIN.out⟩
 have e9:(k==9)=false:=by simpa using q9
 have hno:fieldsOf k=none:=by unfold fieldsOf;rw [if_neg q1,if_neg q2,if_neg q8,if_neg q3,if_neg q4,if_neg q5,if_neg q6,if_neg q7,if_neg q9]
 rw [hno]
 simp only
 go_enter Tryz.func101,Tryz.ntmps101
 go_wp2_with fail
 refine (N1.out).mono ?_
 rintro e w1 ⟨rfl,rfl⟩
 go_wp2_with fail
 refine (N2.out).mono ?_
 rintro e w2 ⟨rfl,rfl⟩
 go_wp2_with fail
 refine (N3.out).mono ?_
 rintro e w3 ⟨rfl,rfl⟩
 go_wp2_with fail
 refine (N4.out).mono ?_
 rintro e w4 ⟨rfl,rfl⟩
 go_wp2
 go_ret2
 exact ⟨rfl,BEL.out⟩
end Go.Proofs.YtdebnbgjgkbmaaaGreatDoor.Wi
namespace Go.Proofs.YtdebnbgjgkbmaaaGreatDoor.Wi
open Go.Proofs.YtdebnbgjgkbmaaaGreatDoor.Oc
open Go.RowKit
set_option linter.unusedVariables false
def Did (b:Nat) (R:Array Value) (W:World) (e:Ending) (W':World):Prop:=e=.returned (.tuple #[])∧M.RowAt W' b 59 R∧M.But b W W'
set_option maxRecDepth 100000 in
theorem z_id (m:Msg) (h32:m.hash.length=32) (a c b:Nat) (W:World) (ra:M.RowAt W a 315 #[.func (.func 189) #[] #[]]) (rb:M.RowAt W b 59 m.row) :
 Calls Tryz.prog 265 #[.agg #[.pointer none,.pointer none],.pointer (some ⟨b,0,none⟩),.pointer (some ⟨a,0,none⟩),.pointer (some ⟨c,0,none⟩)] W (Did b (m.zero .id).row W):=by
 obtain ⟨q,hq⟩:∃ q,W.heap.size=q:=⟨_,rfl⟩
 obtain ⟨V,hV⟩:∃ V,W.alloc (.cells #[.pointer none,.pointer none] 212)=V:=⟨_,rfl⟩
 have rn:M.RowAt V q 212 #[.pointer none,.pointer none]:=by rw [←hV,← hq];exact M.RowAt.new W 212 _
 have ra':M.RowAt V a 315 #[.func (.func 189) #[] #[]]:=by rw [←hV];exact ra.alloc _
 have rb':M.RowAt V b 59 m.row:=by rw [←hV];exact rb.alloc _
 have bV:M.But b W V:=by rw [←hV];exact (M.But.refl _ _).alloc _
 have c0:=(ra'.cell 0).trans rfl
 have n0:=(rn.cell 0).trans rfl;have n1:=(rn.cell 1).trans rfl
 have m0:=(rb'.cell 2).trans (Msg.g2)
 have f0:=rb'.frozen 2
 have fin:Did b (m.zero .id).row W (.returned (.tuple #[])) (V.setCell ⟨b,2,none⟩ (.int .u64 0)):=⟨rfl,by
  have:=rb'.set 2 (.int .u64 0)
  rw [Msg.s2 0] at this;exact this,bV.set (p:=⟨b,2,none⟩) (.inl rfl) _⟩
 have FIN:=Lib.hid fin;have HQ:=Lib.hid hq;have HV:=Lib.hid hV
 clear fin hq hV rn ra' rb' bV ra rb
 go_enter Tryz.func265,Tryz.ntmps265
 go_wp2_with (first | (rw [HQ.out,HV.out]) | go_in)
 go_end0
 exact FIN.out
set_option maxRecDepth 100000 in
theorem z_amount (m:Msg) (h32:m.hash.length=32) (a c b:Nat) (W:World) (ra:M.RowAt W a 315 #[.func (.func 190) #[] #[]]) (rb:M.RowAt W b 59 m.row) :
 Calls Tryz.prog 265 #[.agg #[.pointer none,.pointer none],.pointer (some ⟨b,0,none⟩),.pointer (some ⟨a,0,none⟩),.pointer (some ⟨c,0,none⟩)] W (Did b (m.zero .amount).row W):=by
 obtain ⟨q,hq⟩:∃ q,W.heap.size=q:=⟨_,rfl⟩
 obtain ⟨V,hV⟩:∃ V,W.alloc (.cells #[.pointer none,.pointer none] 212)=V:=⟨_,rfl⟩
 have rn:M.RowAt V q 212 #[.pointer none,.pointer none]:=by rw [←hV,← hq];exact M.RowAt.new W 212 _
 have ra':M.RowAt V a 315 #[.func (.func 190) #[] #[]]:=by rw [←hV];exact ra.alloc _
 have rb':M.RowAt V b 59 m.row:=by rw [←hV];exact rb.alloc _
 have bV:M.But b W V:=by rw [←hV];exact (M.But.refl _ _).alloc _
 have c0:=(ra'.cell 0).trans rfl
 have n0:=(rn.cell 0).trans rfl;have n1:=(rn.cell 1).trans rfl
 have m0:=(rb'.cell 3).trans (Msg.g3)
 have f0:=rb'.frozen 3
 have fin:Did b (m.zero .amount).row W (.returned (.tuple #[])) (V.setCell ⟨b,3,none⟩ (.int .u64 0)):=⟨rfl,by
  have:=rb'.set 3 (.int .u64 0)
  rw [Msg.s3 0] at this;exact this,bV.set (p:=⟨b,3,none⟩) (.inl rfl) _⟩
 have FIN:=Lib.hid fin;have HQ:=Lib.hid hq;have HV:=Lib.hid hV
 clear fin hq hV rn ra' rb' bV ra rb
 go_enter Tryz.func265,Tryz.ntmps265
 go_wp2_with (first | (rw [HQ.out,HV.out]) | go_in)
 go_end0
 exact FIN.out
set_option maxRecDepth 100000 in
theorem z_expiry (m:Msg) (h32:m.hash.length=32) (a c b:Nat) (W:World) (ra:M.RowAt W a 318 #[.func (.func 192) #[] #[]]) (rb:M.RowAt W b 59 m.row) :
 Calls Tryz.prog 266 #[.agg #[.pointer none,.pointer none],.pointer (some ⟨b,0,none⟩),.pointer (some ⟨a,0,none⟩),.pointer (some ⟨c,0,none⟩)] W (Did b (m.zero .expiry).row W):=by
 obtain ⟨q,hq⟩:∃ q,W.heap.size=q:=⟨_,rfl⟩
 obtain ⟨V,hV⟩:∃ V,W.alloc (.cells #[.pointer none,.pointer none] 212)=V:=⟨_,rfl⟩
 have rn:M.RowAt V q 212 #[.pointer none,.pointer none]:=by rw [←hV,← hq];exact M.RowAt.new W 212 _
 have ra':M.RowAt V a 318 #[.func (.func 192) #[] #[]]:=by rw [←hV];exact ra.alloc _
 have rb':M.RowAt V b 59 m.row:=by rw [←hV];exact rb.alloc _
 have bV:M.But b W V:=by rw [←hV];exact (M.But.refl _ _).alloc _
 have c0:=(ra'.cell 0).trans rfl
 have n0:=(rn.cell 0).trans rfl;have n1:=(rn.cell 1).trans rfl
 have m0:=(rb'.cell 36).trans (Msg.g36 h32)
 have f0:=rb'.frozen 36
 have fin:Did b (m.zero .expiry).row W (.returned (.tuple #[])) (V.setCell ⟨b,36,none⟩ (.int .i64 0)):=⟨rfl,by
  have:=rb'.set 36 (.int .i64 0)
  rw [Msg.s36 h32 0] at this;exact this,bV.set (p:=⟨b,36,none⟩) (.inl rfl) _⟩
 have FIN:=Lib.hid fin;have HQ:=Lib.hid hq;have HV:=Lib.hid hV
 clear fin hq hV rn ra' rb' bV ra rb
 go_enter Tryz.func266,Tryz.ntmps266
 go_wp2_with (first | (rw [HQ.out,HV.out]) | go_in)
 go_end0
 exact FIN.out
set_option maxRecDepth 100000 in
theorem z_number (m:Msg) (h32:m.hash.length=32) (a c b:Nat) (W:World) (ra:M.RowAt W a 318 #[.func (.func 193) #[] #[]]) (rb:M.RowAt W b 59 m.row) :
 Calls Tryz.prog 266 #[.agg #[.pointer none,.pointer none],.pointer (some ⟨b,0,none⟩),.pointer (some ⟨a,0,none⟩),.pointer (some ⟨c,0,none⟩)] W (Did b (m.zero .number).row W):=by
 obtain ⟨q,hq⟩:∃ q,W.heap.size=q:=⟨_,rfl⟩
 obtain ⟨V,hV⟩:∃ V,W.alloc (.cells #[.pointer none,.pointer none] 212)=V:=⟨_,rfl⟩
 have rn:M.RowAt V q 212 #[.pointer none,.pointer none]:=by rw [←hV,← hq];exact M.RowAt.new W 212 _
 have ra':M.RowAt V a 318 #[.func (.func 193) #[] #[]]:=by rw [←hV];exact ra.alloc _
 have rb':M.RowAt V b 59 m.row:=by rw [←hV];exact rb.alloc _
 have bV:M.But b W V:=by rw [←hV];exact (M.But.refl _ _).alloc _
 have c0:=(ra'.cell 0).trans rfl
 have n0:=(rn.cell 0).trans rfl;have n1:=(rn.cell 1).trans rfl
 have m0:=(rb'.cell 37).trans (Msg.g37 h32)
 have f0:=rb'.frozen 37
 have fin:Did b (m.zero .number).row W (.returned (.tuple #[])) (V.setCell ⟨b,37,none⟩ (.int .i64 0)):=⟨rfl,by
  have:=rb'.set 37 (.int .i64 0)
  rw [Msg.s37 h32 0] at this;exact this,bV.set (p:=⟨b,37,none⟩) (.inl rfl) _⟩
 have FIN:=Lib.hid fin;have HQ:=Lib.hid hq;have HV:=Lib.hid hV
 clear fin hq hV rn ra' rb' bV ra rb
 go_enter Tryz.func266,Tryz.ntmps266
 go_wp2_with (first | (rw [HQ.out,HV.out]) | go_in)
 go_end0
 exact FIN.out
set_option maxRecDepth 100000 in
theorem z_chan (m:Msg) (h32:m.hash.length=32) (a c b:Nat) (W:World) (ra:M.RowAt W a 379 #[.func (.func 268) #[] #[]]) (rb:M.RowAt W b 59 m.row) :
 Calls Tryz.prog 306 #[.agg #[.pointer none,.pointer none],.pointer (some ⟨b,0,none⟩),.pointer (some ⟨a,0,none⟩),.pointer (some ⟨c,0,none⟩)] W (Did b (m.zero .chan).row W):=by
 obtain ⟨q,hq⟩:∃ q,W.heap.size=q:=⟨_,rfl⟩
 obtain ⟨V,hV⟩:∃ V,W.alloc (.cells #[.pointer none,.pointer none] 212)=V:=⟨_,rfl⟩
 have rn:M.RowAt V q 212 #[.pointer none,.pointer none]:=by rw [←hV,← hq];exact M.RowAt.new W 212 _
 have ra':M.RowAt V a 379 #[.func (.func 268) #[] #[]]:=by rw [←hV];exact ra.alloc _
 have rb':M.RowAt V b 59 m.row:=by rw [←hV];exact rb.alloc _
 have bV:M.But b W V:=by rw [←hV];exact (M.But.refl _ _).alloc _
 have c0:=(ra'.cell 0).trans rfl
 have n0:=(rn.cell 0).trans rfl;have n1:=(rn.cell 1).trans rfl
 have m0:=(rb'.cell 1).trans (Msg.g1)
 have f0:=rb'.frozen 1
 have fin:Did b (m.zero .chan).row W (.returned (.tuple #[])) (V.setCell ⟨b,1,none⟩ (.int .u32 0)):=⟨rfl,by
  have:=rb'.set 1 (.int .u32 0)
  rw [Msg.s1 0] at this;exact this,bV.set (p:=⟨b,1,none⟩) (.inl rfl) _⟩
 have FIN:=Lib.hid fin;have HQ:=Lib.hid hq;have HV:=Lib.hid hV
 clear fin hq hV rn ra' rb' bV ra rb
 go_enter Tryz.func306,Tryz.ntmps306
 go_wp2_with (first | (rw [HQ.out,HV.out]) | go_in)
 go_end0
 exact FIN.out
theorem zz32:(ints z32).toArray=Z32:=by rfl
theorem z32_info:(Tryz.prog.info? 47).map (·.size)=some Z32.size:=by kernel_rfl
theorem z32_one:Z32.all (·.oneCell')=true:=by kernel_rfl
set_option maxRecDepth 100000 in
theorem z_hash (m:Msg) (h32:m.hash.length=32) (b:Nat) (W:World) (rb:M.RowAt W b 59 m.row) :
 Calls Tryz.prog 195 #[.agg #[.pointer none,.pointer none],.pointer (some ⟨b,0,none⟩)] W (Did b (m.zero .hash).row W):=by
 obtain ⟨q,hq⟩:∃ q,W.heap.size=q:=⟨_,rfl⟩
 obtain ⟨V,hV⟩:∃ V,W.alloc (.cells #[.pointer none,.pointer none] 212)=V:=⟨_,rfl⟩
 have rn:M.RowAt V q 212 #[.pointer none,.pointer none]:=by rw [←hV,← hq];exact M.RowAt.new W 212 _
 have rb':M.RowAt V b 59 m.row:=by rw [←hV];exact rb.alloc _
 have bV:M.But b W V:=by rw [←hV];exact (M.But.refl _ _).alloc _
 have n0:=(rn.cell 0).trans rfl;have n1:=(rn.cell 1).trans rfl
 have th:V.there b 4 Z32.size:=Msg.there rb' h32
 have fin:Did b (m.zero .hash).row W (.returned (.tuple #[])) (V.setCells b 4 Z32.toList):=⟨rfl,by
  have:=row_setCells Z32.toList m.row 4 V rb'
  rw [←zz32] at this ⊢
  simp only at this ⊢
  rw [Msg.sh h32 (l:=z32) rfl] at this;exact this,but_setCells _ _ _ bV⟩
 have FIN:=Lib.hid fin;have HQ:=Lib.hid hq;have HV:=Lib.hid hV;have TH:=Lib.hid th
 have zi:=z32_info;have zo:=z32_one
 clear fin hq hV rn rb' bV rb th
 go_enter Tryz.func195,Tryz.ntmps195
 go_wp2_with (first | (rw [HQ.out,HV.out]) | (refine wpList_store_mid (x:=.tmp 9) (y:=.tmp 7) (b:=b) (o:=4) (cells:=Z32) (ty:=47) ?_ ?_ ?_ ?_ TH.out zi zo ?_;rfl;rfl;rfl;rfl) | fail)
 go_end0
 exact FIN.out
end Go.Proofs.YtdebnbgjgkbmaaaGreatDoor.Wi
namespace Go.Proofs.YtdebnbgjgkbmaaaGreatDoor.Wi
open Go.Proofs.YtdebnbgjgkbmaaaGreatDoor.Oc
open Go.RowKit Go.Shelf
set_option linter.unusedVariables false
set_option maxRecDepth 100000 in
set_option maxHeartbeats 2000000 in
theorem through_any {b g n cap lo:Nat} (p1 p2:Option Addr) (fk:Nat→FuncId) (caps:Nat→Array Value) (St:Nat→World→Prop) (Bd:Ending→World→Prop) (hn:n≤8) (en:∀ k,k<n→Enters Tryz.prog (fk k))
 (hlist:∀ k W,k<n→St k W→W.cell? ⟨g,k,none⟩=some (.func (.func (fk k)) #[] (caps k)))
 (hsame:∀ k W W',St k W→Below W.heap.size W W'→St k W')
 (step:∀ k,k<n→∀ W,St k W→Calls Tryz.prog (fk k) (#[.agg #[.pointer p1,.pointer p2],.pointer (some ⟨b,0,none⟩)]++caps k) W fun e W'=>(e=.returned (.tuple #[])∧St (k+1) W'∧Kp lo W W')∨(Bd e W'∧∃ c,e=.panicked c))
 (W:World) (h0:St 0 W) (hlo:lo≤W.heap.size) :
 Calls Tryz.prog 107 #[.agg #[.pointer p1,.pointer p2],.slice (some ⟨g,0,none⟩) n cap,.pointer (some ⟨b,0,none⟩)] W fun e W'=>(e=.returned (.tuple #[])∧St n W')∨(Bd e W'∧∃ c,e=.panicked c):=by
 obtain ⟨q,hq⟩:∃ q,W.heap.size=q:=⟨_,rfl⟩
 obtain ⟨V,hV⟩:∃ V,W.alloc (.cells #[.pointer p1,.pointer p2] 212)=V:=⟨_,rfl⟩
 have rn:M.RowAt V q 212 #[.pointer p1,.pointer p2]:=by rw [←hV,← hq];exact M.RowAt.new W 212 _
 have s0:St 0 V:=hsame 0 W V h0 (by rw [←hV];exact (Below.refl _ _).alloc (Nat.le_refl _) _)
 have HQ:=Lib.hid hq;have HV:=Lib.hid hV;have RN:=Lib.hid rn;have S0:=Lib.hid s0
 have EN:=Lib.hid en;have HL:=Lib.hid hlist;have STEP:=Lib.hid step;have LQ:=Lib.hid (hq▸hlo:lo≤q)
 clear en hlist step hsame h0 hlo hq hV rn s0
 go_enter Tryz.func107,Tryz.ntmps107
 go_wp2_with (rw [HQ.out,HV.out])
 go_loopg [10] n (fun m i X=>∃ (k:Nat),m+k=n∧i=.int .i64 k∧St k X∧M.RowAt X q 212 #[.pointer p1,.pointer p2])
 case atStart=>exact ⟨0,by omega,rfl,S0.out,RN.out⟩
 case round=>
  obtain ⟨k,hm,rfl,st,rq⟩:=hrel
  have HM:=Lib.hid hm
  clear hm
  by_cases hlt:k<n
  · have c0:=HL.out k _ hlt st
    have q0:=(rq.cell 0).trans rfl;have q1:=(rq.cell 1).trans rfl
    have en:=EN.out k hlt
    have SK:=Lib.hid (STEP.out k hlt _ st)
    have RQ:=Lib.hid rq
    clear st rq
    generalize hfk:fk k=f at *
    generalize hcaps:caps k=cs at *
    go_wp2_with (first | (rw [en,Oper.upon_enter];refine (SK.out).mono ?_;rintro e w2 (⟨rfl,st2,kp2⟩ | ⟨hb,c,rfl⟩)) | fail)
    · go_roundg (n-(k+1))
      case measure=>have:=HM.out;omega
      case rel=>exact ⟨k+1,by have:=HM.out;omega,by go_num,st2,kp2 _ _ _ rfl LQ.out RQ.out⟩
    · exact ⟨rfl,.inr ⟨hb,c,rfl⟩⟩
  · obtain rfl:k=n:=by have:=HM.out;omega
    go_wp2
    go_end0
    exact .inl ⟨rfl,st⟩
end Go.Proofs.YtdebnbgjgkbmaaaGreatDoor.Wi
namespace Go.Proofs.YtdebnbgjgkbmaaaGreatDoor.Wi
open Go.Proofs.YtdebnbgjgkbmaaaGreatDoor.Oc
open Go.RowKit
set_option linter.unusedVariables false
theorem mapM_some' {α β:Type} {f:α→Option β} {g:α→β}:∀ {l:List α},(∀ x∈l,f x=some (g x))→l.mapM f=some (l.map g)
 | [],_=>rfl
 | x::r,h=>by
   rw [List.mapM_cons,h x (by simp),mapM_some' (fun y hy=>h y (by simp [hy]))]
   rfl
theorem flat_single {α β:Type} (f:α→β):∀ l:List α,(l.map fun i=>[f i]).flatten=l.map f
 | []=>rfl
 | x::r=>by simp [flat_single f r]
def hlits (l:List Int):List Lit:=l.map (Lit.int .u8)
theorem byte_lits (d:Nat) (x:Int) (h0:0≤x) (h1:x≤255):Tryz.prog.keyLits (d+1) 5 [.int .u8 x]=some [Lit.int .u8 x]:=by
 have hw:(Lit.int .u8 x).wf=true:=by simp [Lit.wf,IntKind.min,IntKind.max,IntKind.signed,IntKind.bits];omega
 unfold Program.keyLits
 rw [Tryz.underlying5]
 simp [hw]
theorem hash_lits (d:Nat) (l:List Int) (h:l.length=32) (hb:∀ x∈l,0≤x∧x≤255):Tryz.prog.keyLits (d+2) 47 (ints l)=some (hlits l):=by
 have c33:Tryz.prog.cellsOf 47=32:=by kernel_rfl
 have c5:Tryz.prog.cellsOf 5=1:=by kernel_rfl
 unfold Program.keyLits
 rw [Tryz.underlying47]
 simp only [c33,c5,ints_len',h,if_true]
 rw [mapM_some' (g:=fun i=>[Lit.int .u8 (l.getD i 0)]) (fun i hi=>?_)]
 · simp only [Option.map_some,Option.some.injEq]
   rw [flat_single]
   apply List.ext_getElem?
   intro j
   unfold hlits
   by_cases hj:j<32
   · rw [List.getElem?_map,List.getElem?_map,List.getElem?_range hj,List.getElem?_eq_getElem (show j<l.length by omega)]
     simp [List.getD,List.getElem?_eq_getElem (show j<l.length by omega)]
   · rw [List.getElem?_eq_none (by simp;omega),List.getElem?_eq_none (by simp;omega)]
 · have hi':i<32:=List.mem_range.1 hi
   have hl:i<l.length:=by omega
   have:((ints l).drop (i*1)).take 1=[.int .u8 (l.getD i 0)]:=by
    rw [Nat.mul_one]
    rw [List.drop_eq_getElem_cons (by rw [ints_len'];exact hl)]
    simp [ints,List.getElem?_eq_getElem hl]
   rw [this]
   obtain ⟨h0,h1⟩:=hb (l.getD i 0) (by rw [List.getD_eq_getElem?_getD,List.getElem?_eq_getElem hl];exact List.getElem_mem hl)
   exact byte_lits d _ h0 h1
theorem hlits_inj {l l':List Int} (h:hlits l=hlits l'):l=l':=by
 unfold hlits at h
 induction l generalizing l' with
 | nil=>cases l' with
   | nil=>rfl
   | cons y r=>simp at h
 | cons x r ih=>cases l' with
   | nil=>simp at h
   | cons y r'=>
     simp only [List.map_cons,List.cons.injEq,Lit.int.injEq,true_and] at h
     rw [h.1,ih h.2]
theorem int_lits (d t:Nat) (k:IntKind) (ht:Tryz.prog.underlying t=some (.int k)) (x:Int) (hw:(Lit.int k x).wf=true):Tryz.prog.keyLits (d+1) t [.int k x]=some [Lit.int k x]:=by
 unfold Program.keyLits
 rw [ht]
 simp [hw]
def Msg.lits (m:Msg):List Lit:=[.int .i64 m.kind,.int .u32 m.chan,.int .u64 m.id,.int .u64 m.amount]++hlits m.hash++[.int .i64 m.expiry,.int .i64 m.number]
theorem Msg.lits_inj {m m':Msg} (h:m.hash.length=32) (h':m'.hash.length=32) (e:m.lits=m'.lits):m=m':=by
 unfold Msg.lits at e
 have e1:=List.append_inj e (by simp [hlits,h,h'])
 have e2:=List.append_inj e1.1 rfl
 have e3:=hlits_inj e2.2
 have e4:=e2.1
 have e5:=e1.2
 simp only [List.cons.injEq,Lit.int.injEq,true_and,and_true] at e4 e5
 cases m;cases m'
 simp only at e3 e4 e5
 obtain ⟨rfl,rfl,rfl,rfl⟩:=e4
 obtain ⟨rfl,rfl⟩:=e5
 rw [e3]
theorem wf64 {x:Int} (h0:-9223372036854775808≤x) (h1:x≤9223372036854775807):(Lit.int .i64 x).wf=true:=by simp [Lit.wf,IntKind.min,IntKind.max,IntKind.signed,IntKind.bits];omega
theorem wfu64 {x:Int} (h0:0≤x) (h1:x≤18446744073709551615):(Lit.int .u64 x).wf=true:=by simp [Lit.wf,IntKind.min,IntKind.max,IntKind.signed,IntKind.bits];omega
theorem wfu32 {x:Int} (h0:0≤x) (h1:x≤4294967295):(Lit.int .u32 x).wf=true:=by simp [Lit.wf,IntKind.min,IntKind.max,IntKind.signed,IntKind.bits];omega
set_option maxRecDepth 100000 in
theorem msg_lits (t:Nat) (ht:t=59) (m:Msg) (h:m.ok):Tryz.prog.keyLits 9 t m.cells=some m.lits:=by
 have c62:Tryz.prog.cellsOf 59=38:=by kernel_rfl
 have c3:Tryz.prog.cellsOf 3=1:=by kernel_rfl
 have c60:Tryz.prog.cellsOf 40=1:=by kernel_rfl
 have c22:Tryz.prog.cellsOf 27=1:=by kernel_rfl
 have c33:Tryz.prog.cellsOf 47=32:=by kernel_rfl
 have l0:=int_lits 7 3 .i64 Tryz.underlying3 m.kind (wf64 h.k0 h.k1)
 have l1:=int_lits 7 40 .u32 Tryz.underlying40 m.chan (wfu32 h.c0 h.c1)
 have l2:=int_lits 7 27 .u64 Tryz.underlying27 m.id (wfu64 h.i0 h.i1)
 have l3:=int_lits 7 27 .u64 Tryz.underlying27 m.amount (wfu64 h.a0 h.a1)
 have l4:=hash_lits 6 m.hash h.h32 h.hb
 have l5:=int_lits 7 3 .i64 Tryz.underlying3 m.expiry (wf64 h.e0 h.e1)
 have l6:=int_lits 7 3 .i64 Tryz.underlying3 m.number (wf64 h.n0 h.n1)
 have hl:m.cells.length=38:=Msg.len h.h32
 have dh:((m.cells.drop 4).take 32)=ints m.hash:=by
  show ((ints m.hash++[Value.int .i64 m.expiry,.int .i64 m.number])).take 32=_
  rw [List.take_left' (by rw [ints_len',h.h32])]
 have d36:(m.cells.drop 36).take 1=[.int .i64 m.expiry]:=by
  show ((ints m.hash++[Value.int .i64 m.expiry,.int .i64 m.number]).drop 32).take 1=_
  rw [List.drop_left' (by rw [ints_len',h.h32])];rfl
 have d37:(m.cells.drop 37).take 1=[.int .i64 m.number]:=by
  show ((ints m.hash++[Value.int .i64 m.expiry,.int .i64 m.number]).drop 33).take 1=_
  rw [show (33:Nat)=(ints m.hash).length+1 by rw [ints_len',h.h32],List.drop_length_add_append];rfl
 have d0:m.cells.take 1=[.int .i64 m.kind]:=rfl
 have d1:m.cells.tail.take 1=[.int .u32 m.chan]:=rfl
 have d2:(m.cells.drop 2).take 1=[.int .u64 m.id]:=rfl
 have d3:(m.cells.drop 3).take 1=[.int .u64 m.amount]:=rfl
 subst ht
 · unfold Program.keyLits
   rw [Tryz.underlying59]
   simp only [c62,hl,true_and]
   simp [c3,c60,c22,c33,d0,d1,d2,d3,dh,d36,d37,l0,l1,l2,l3,l4,l5,l6,Msg.lits]
theorem formed_row (t:Nat) (ht:t=59) (m:Msg) (h:m.hash.length=32):(Value.agg m.row).formed Tryz.prog t=true:=by
 have c62:Tryz.prog.cellsOf 59=38:=by kernel_rfl
 subst ht
 · simp [Value.formed,Tryz.underlying59,c62,Msg.size h]
theorem msg_eql (t:Nat) (ht:t=59) (m m':Msg) (h:m.ok) (h':m'.ok) (b:Bool) (hb:b=true↔m=m') (W:World):(Op.equalIn 10000 t (.agg m.row) (.agg m'.row)).run Tryz.prog W=.ok b W:=by
 have hk:Tryz.prog.keyTypeAt 9 t=true:=by subst ht;kernel_rfl
 obtain ⟨r,hr,hiff⟩:=run_equalIn_deep (P:=Tryz.prog) 9991 9 t hk W 9 9 (.agg m.row) (.agg m'.row) m.lits m'.lits (formed_row t ht m h.h32) (formed_row t ht m' h'.h32)
  (by show Tryz.prog.keyLits 9 t m.row.toList=_;rw [Msg.row];exact msg_lits t ht m h) (by show Tryz.prog.keyLits 9 t m'.row.toList=_;rw [Msg.row];exact msg_lits t ht m' h')
 rw [hr]
 have:r=b:=by
  rw [Bool.eq_iff_iff,hiff,hb]
  exact ⟨Msg.lits_inj h.h32 h'.h32,fun e=>by rw [e]⟩
 rw [this]
end Go.Proofs.YtdebnbgjgkbmaaaGreatDoor.Wi
namespace Go.Proofs.YtdebnbgjgkbmaaaGreatDoor.Wi
open Go.Proofs.YtdebnbgjgkbmaaaGreatDoor.Oc
open Go.RowKit Go.Shelf
set_option linter.unusedVariables false
section
variable {P:Program} {ops:Array Oper} {rest:List Oper} {o:Oper} {a:Act} {w:World} {Q:Exit→Act→World→Prop}
theorem wpList_eql (hw:Region.wanted o (yielded ops a.tmps)=true) (ty t:TypeId) (x y:Operand) (ho:o.op=.binOp .eql ty x y t) (A B:Array Value) (hx:a.eval x=.agg A) (hy:a.eval y=.agg B) (b:Bool)
 (hG:P.eqGuardType P.depth ty=false) (he:∀ W,(Op.equalIn 10000 ty (.agg A) (.agg B)).run P W=.ok b W) (h:wpList P ops Q rest (a.put o.dst (.bool b)) w):wpList P ops Q (o::rest) a w:=
 wpList_step fun K hK=>by
  rw [if_pos hw]
  unfold Oper.wp execOp
  simp only [ho,hx,hy]
  have e1:(eqGuard .eql ty x y (.agg A) (.agg B)).run P w=.ok () w:=by
   unfold eqGuard
   simp [go_sem,hG]
  simp [e1,go_sem,he w]
  exact hK _ _ h
end
def fnOf:Fld→FuncId
 | .hash=>195
 | .chan=>306
 | .id=>265
 | .amount=>265
 | .expiry=>266
 | .number=>266
theorem enters64:Enters Tryz.prog 195:=enters_of Tryz.func195 (by kernel_rfl) rfl
theorem enters66:Enters Tryz.prog 265:=enters_of Tryz.func265 (by kernel_rfl) rfl
theorem enters67:Enters Tryz.prog 266:=enters_of Tryz.func266 (by kernel_rfl) rfl
theorem enters70:Enters Tryz.prog 306:=enters_of Tryz.func306 (by kernel_rfl) rfl
theorem enters_fn (f:Fld):Enters Tryz.prog (fnOf f):=by
 cases f
 · exact enters70
 · exact enters66
 · exact enters66
 · exact enters64
 · exact enters67
 · exact enters67
def capsV:Value→Array Value
 | .func _ _ c=>c
 | _=>#[]
theorem FV.shape {lo:Nat} {W:World} {f:Fld} {v:Value} (h:FV lo W f v):v=.func (.func (fnOf f)) #[] (capsV v):=by
 cases f
 all_goals first
  | (obtain ⟨a,b,rfl,_⟩:=h;rfl)
  | (have h':v=_:=h;rw [h'];rfl)
theorem through_list {b lo:Nat} (p1 p2:Option Addr) (fl:List Fld) (h8:fl.length≤8) (v:Value) (W:World) (hFL:FL lo W v fl) (hlo:lo≤W.heap.size) (St:Nat→World→Prop) (Bd:Ending→World→Prop) (h0:St 0 W)
 (hsame:∀ k X X',St k X→Below X.heap.size X X'→St k X')
 (step:∀ k f,fl[k]?=some f→∀ X u,FV lo X f u→St k X→Calls Tryz.prog (fnOf f) (#[.agg #[.pointer p1,.pointer p2],.pointer (some ⟨b,0,none⟩)]++capsV u) X fun e X'=>(e=.returned (.tuple #[])∧St (k+1) X'∧Kp lo X X')∨(Bd e X'∧∃ c,e=.panicked c)) :
 Calls Tryz.prog 107 #[.agg #[.pointer p1,.pointer p2],v,.pointer (some ⟨b,0,none⟩)] W fun e W'=>(e=.returned (.tuple #[])∧St fl.length W')∨(Bd e W'∧∃ c,e=.panicked c):=by
 obtain ⟨g,cap,C,rfl,hg,hr,hf⟩:=hFL
 have key:=through_any (b:=b) (g:=g) (n:=fl.length) (cap:=cap) (lo:=lo) p1 p2 (fun k=>match fl[k]? with | some f=>fnOf f | none=>64) (fun k=>match C[k]? with | some u=>capsV u | none=>#[])
  (fun k X=>St k X∧M.RowAt X g 312 C∧∀ (i:Nat) (f:Fld),fl[i]?=some f→∃ u,C[i]?=some u∧FV lo X f u) Bd h8
  (fun k hk=>by
    rw [List.getElem?_eq_getElem hk];exact enters_fn _)
  (fun k X hk hst=>by
    obtain ⟨u,hu,hv⟩:=hst.2.2 k _ (List.getElem?_eq_getElem hk)
    rw [hst.2.1.cell]
    simp only [hu,List.getElem?_eq_getElem hk]
    exact congrArg some hv.shape)
  (fun k X X' hst hb=>⟨hsame k X X' hst.1 hb,hst.2.1.call hb,fun i f hi=>by
    obtain ⟨u,hu,hv⟩:=hst.2.2 i f hi
    exact ⟨u,hu,hv.kept (Kp.of_below hb)⟩⟩)
  (fun k hk X hst=>by
    obtain ⟨u,hu,hv⟩:=hst.2.2 k _ (List.getElem?_eq_getElem hk)
    simp only [hu,List.getElem?_eq_getElem hk]
    refine (step k _ (List.getElem?_eq_getElem hk) X u hv hst.1).mono ?_
    rintro e X' (⟨rfl,h1,h2⟩ | h)
    · exact .inl ⟨rfl,⟨h1,h2 _ _ _ rfl hg hst.2.1,fun i f hi=>by
       obtain ⟨u',hu',hv'⟩:=hst.2.2 i f hi
       exact ⟨u',hu',hv'.kept h2⟩⟩,h2⟩
    · exact .inr h)
  W ⟨h0,hr,hf⟩ hlo
 refine key.mono ?_
 rintro e W' (⟨rfl,h1⟩ | h)
 · exact .inl ⟨rfl,h1.1⟩
 · exact .inr h
def zeroAll (m:Msg) (fl:List Fld):Msg:=fl.foldl Msg.zero m
theorem zero_len (m:Msg) (h:m.hash.length=32):∀ fl,(zeroAll m fl).hash.length=32:=by
 intro fl
 induction fl generalizing m with
 | nil=>exact h
 | cons f r ih=>exact ih _ (Msg.zero32 h f)
theorem zero_take {fl:List Fld} {k:Nat} {f:Fld} (h:fl[k]?=some f) (m:Msg):zeroAll m (fl.take (k+1))=(zeroAll m (fl.take k)).zero f:=by
 rw [List.take_add_one,h];simp [zeroAll,List.foldl_append]
theorem zero_step {lo b:Nat} {f:Fld} {u:Value} {X:World} (h:FV lo X f u) (m:Msg) (h32:m.hash.length=32) (rb:M.RowAt X b 59 m.row) :
 Calls Tryz.prog (fnOf f) (#[.agg #[.pointer none,.pointer none],.pointer (some ⟨b,0,none⟩)]++capsV u) X (Did b (m.zero f).row X):=by
 cases f
 · obtain ⟨a,c,rfl,_,_,ra,_⟩:=h;exact z_chan m h32 a c b X ra rb
 · obtain ⟨a,c,rfl,_,_,ra,_⟩:=h;exact z_id m h32 a c b X ra rb
 · obtain ⟨a,c,rfl,_,_,ra,_⟩:=h;exact z_amount m h32 a c b X ra rb
 · have h':u=.func (.func 195) #[] #[]:=h
   subst h'
   exact z_hash m h32 b X rb
 · obtain ⟨a,c,rfl,_,_,ra,_⟩:=h;exact z_expiry m h32 a c b X ra rb
 · obtain ⟨a,c,rfl,_,_,ra,_⟩:=h;exact z_number m h32 a c b X ra rb
theorem zero_through {b lo:Nat} (fl:List Fld) (h8:fl.length≤8) (v:Value) (W:World) (hFL:FL lo W v fl) (hlo:lo≤W.heap.size) (hb:b<lo) (m:Msg) (h32:m.hash.length=32) (rb:M.RowAt W b 59 m.row) :
 Calls Tryz.prog 107 #[.agg #[.pointer none,.pointer none],v,.pointer (some ⟨b,0,none⟩)] W (Did b (zeroAll m fl).row W):=by
 refine (through_list (b:=b) none none fl h8 v W hFL hlo (fun k X=>M.RowAt X b 59 (zeroAll m (fl.take k)).row∧M.But b W X) (fun _ _=>False) ⟨rb,M.But.refl _ _⟩ (fun k X X' hst hbl=>⟨hst.1.call hbl,hst.2.trans (M.But.ofBelow b hbl)⟩) (fun k f hf X u hv hst=>?_)).mono ?_
 · refine (zero_step hv (zeroAll m (fl.take k)) (zero_len m h32 _) hst.1).mono ?_
   rintro e X' ⟨rfl,h1,h2⟩
   exact .inl ⟨rfl,⟨by rw [zero_take hf];exact h1,hst.2.trans h2⟩,Kp.of_but h2 hb⟩
 · rintro e W' (⟨rfl,h1,h2⟩ | ⟨h,_⟩)
   · rw [List.take_length] at h1
     exact ⟨rfl,h1,h2⟩
   · exact h.elim
structure MayP (m:Msg) (fl:List Fld):Prop where
 e0:0≤m.expiry
 e1:m.expiry≤1073741824
 n0:0≤m.number
 n1:m.number≤65535
 a1:m.amount≤1125899906842624
 z:zeroAll m fl=Msg.none m.kind
def May (m:Msg):Prop:=∃ fl,fieldsOf m.kind=some fl∧MayP m fl
theorem fields_len {k:Int} {fl:List Fld} (h:fieldsOf k=some fl):fl.length≤8:=by
 unfold fieldsOf at h
 repeat' (split at h)
 all_goals first | (cases h;done) | (cases h;decide)
end Go.Proofs.YtdebnbgjgkbmaaaGreatDoor.Wi
namespace Go.Proofs.YtdebnbgjgkbmaaaGreatDoor.Wi
open Go.Proofs.YtdebnbgjgkbmaaaGreatDoor.Oc
open Go.RowKit Go.Shelf
set_option linter.unusedVariables false
theorem none_row (k:Int):(Msg.none k).row=#[.int .i64 k,.int .u32 0,.int .u64 0,.int .u64 0,.int .u8 0,.int .u8 0,.int .u8 0,.int .u8 0,.int .u8 0,.int .u8 0,.int .u8 0,.int .u8 0,.int .u8 0,.int .u8 0,.int .u8 0,.int .u8 0,.int .u8 0,.int .u8 0,.int .u8 0,.int .u8 0,.int .u8 0,.int .u8 0,.int .u8 0,.int .u8 0,.int .u8 0,.int .u8 0,.int .u8 0,.int .u8 0,.int .u8 0,.int .u8 0,.int .u8 0,.int .u8 0,.int .u8 0,.int .u8 0,.int .u8 0,.int .u8 0,.int .i64 0,.int .i64 0]:=by rfl
theorem y0:(0:Int)≤0:=by decide
theorem y1:(0:Int)≤4294967295:=by decide
theorem y2:(0:Int)≤18446744073709551615:=by decide
theorem y3:(-9223372036854775808:Int)≤0:=by decide
theorem y4:(0:Int)≤9223372036854775807:=by decide
theorem z_in {x:Int} (hx:x∈z32):0≤x∧x≤255:=by
 have:x=0:=List.eq_of_mem_replicate hx
 omega
theorem none_ok {m:Msg} (h:m.ok):(Msg.none m.kind).ok:=⟨rfl,fun x hx=>z_in hx,h.k0,h.k1,y0,y1,y0,y2,y0,y2,y3,y4,y3,y4⟩
theorem zero_ok {m:Msg} (h:m.ok) (f:Fld):(m.zero f).ok:=by
 obtain ⟨a0,a1,a2,a3,a4,a5,a6,a7,a8,a9,b0,b1,b2,b3⟩:=h
 cases f
 · exact ⟨a0,a1,a2,a3,y0,y1,a6,a7,a8,a9,b0,b1,b2,b3⟩
 · exact ⟨a0,a1,a2,a3,a4,a5,y0,y2,a8,a9,b0,b1,b2,b3⟩
 · exact ⟨a0,a1,a2,a3,a4,a5,a6,a7,y0,y2,b0,b1,b2,b3⟩
 · exact ⟨rfl,fun x hx=>z_in hx,a2,a3,a4,a5,a6,a7,a8,a9,b0,b1,b2,b3⟩
 · exact ⟨a0,a1,a2,a3,a4,a5,a6,a7,a8,a9,y3,y4,b2,b3⟩
 · exact ⟨a0,a1,a2,a3,a4,a5,a6,a7,a8,a9,b0,b1,y3,y4⟩
theorem zeroAll_ok {m:Msg} (h:m.ok):∀ fl,(zeroAll m fl).ok:=by
 intro fl
 induction fl generalizing m with
 | nil=>exact h
 | cons f r ih=>exact ih (zero_ok h f)
theorem zero_kind (m:Msg):∀ fl,(zeroAll m fl).kind=m.kind:=by
 intro fl
 induction fl generalizing m with
 | nil=>rfl
 | cons f r ih=>show (zeroAll (m.zero f) r).kind=_;rw [ih];cases f<;>rfl
theorem guard62:Tryz.prog.eqGuardType Tryz.prog.depth 59=false:=by kernel_rfl
set_option maxRecDepth 100000 in
set_option maxHeartbeats 4000000 in
theorem may_any (m:Msg) (h:m.ok) (b:Bool) (hb:b=true↔May m) (w:World):Calls Tryz.prog 100 #[.agg m.row] w fun e w'=>e=.returned (.bool b)∧Below w.heap.size w w':=by
 obtain ⟨n,hn⟩:∃ n,w.heap.size=n:=⟨_,rfl⟩
 obtain ⟨V,hV⟩:∃ V,w.alloc (.cells m.row 59)=V:=⟨_,rfl⟩
 have rV:M.RowAt V n 59 m.row:=by rw [←hV,← hn];exact M.RowAt.new w 59 _
 have bV:Below n w V:=by rw [←hV,← hn];exact (Below.refl _ w).alloc (Nat.le_refl _) _
 have sV:V.heap.size=n+1:=by rw [←hV];simp [hn]
 have fa:=fields_any m.kind V
 rw [sV] at fa
 rw [hn]
 have cell:=fun (W:World) (hr:M.RowAt W n 59 m.row)=>And.intro ((hr.cell 0).trans Msg.g0) (And.intro ((hr.cell 3).trans Msg.g3) (And.intro ((hr.cell 36).trans (Msg.g36 h.h32)) ((hr.cell 37).trans (Msg.g37 h.h32))))
 have c0:=(cell V rV).1
 have HN:=Lib.hid hn;have HV:=Lib.hid hV;have CELL:=Lib.hid cell;have RV:=Lib.hid rV;have BV:=Lib.hid bV;have HB:=Lib.hid hb;have HO:=Lib.hid h
 have SV:=Lib.hid sV
 cases hf:fieldsOf m.kind with
 | none=>
   rw [hf] at fa
   simp only at fa
   have FA:=Lib.hid fa
   obtain rfl:b=false:=by
    cases b with
    | false=>rfl
    | true=>
      obtain ⟨fl,h1,_⟩:=hb.1 rfl
      rw [hf] at h1;cases h1
   clear fa hf hb h cell rV bV sV hV hn
   generalize m.row=X at *
   generalize m.kind=kd at *
   go_enter Tryz.func100,Tryz.ntmps100
   go_wp2_with (first | (rw [HN.out,HV.out]) | fail)
   refine (FA.out).mono ?_
   rintro e w1 ⟨rfl,b1⟩
   have BF:=Lib.hid (BV.out.trans (b1.mono (by omega)))
   clear b1
   go_wp2
   go_ret
   exact ⟨rfl,BF.out⟩
 | some fl=>
   rw [hf] at fa
   simp only at fa
   have FA:=Lib.hid fa
   have HF:=Lib.hid hf
   have hno:∀ P:Prop,(MayP m fl→P)→¬ P→b=false:=fun P hp hn=>by
    cases hbb:b with
    | false=>rfl
    | true=>
      obtain ⟨fl',h1,h2⟩:=hb.1 hbb
      rw [hf] at h1;cases h1
      exact absurd (hp h2) hn
   have HNO:=Lib.hid hno
   clear fa hf hb cell rV bV sV hV hn hno h
   by_cases p0:m.expiry<0
   · obtain rfl:=HNO.out (0≤m.expiry) (fun q=>q.e0) (by omega)
     have d0:decide (m.expiry<0)=true:=by simpa using p0
     clear p0
     clear HB HNO HF
     generalize m.row=X at *
     generalize m.kind=kd at *
     generalize m.expiry=ex at *
     generalize m.number=nu at *
     generalize m.amount=am at *
     go_enter Tryz.func100,Tryz.ntmps100
     go_wp2_with (first | (rw [HN.out,HV.out]) | fail)
     refine (FA.out).mono ?_
     rintro e w1 ⟨v,rfl,fl1,b1⟩
     obtain ⟨x0,x3,x36,x37⟩:=CELL.out w1 (RV.out.below b1 (by omega))
     have BF:=Lib.hid (BV.out.trans (b1.mono (by omega)))
     clear b1 fl1
     go_wp2
     go_ret
     exact ⟨rfl,BF.out⟩
   · have d0:decide (m.expiry<0)=false:=by simpa using p0
     by_cases p1:m.expiry≤1073741824
     · have d1:decide ((1073741824:Int)<m.expiry)=false:=by simpa using p1
       by_cases p2:m.number<0
       · obtain rfl:=HNO.out (0≤m.number) (fun q=>q.n0) (by omega)
         have d2:decide (m.number<0)=true:=by simpa using p2
         clear p0 p1 p2
         clear HB HNO HF
         generalize m.row=X at *
         generalize m.kind=kd at *
         generalize m.expiry=ex at *
         generalize m.number=nu at *
         generalize m.amount=am at *
         go_enter Tryz.func100,Tryz.ntmps100
         go_wp2_with (first | (rw [HN.out,HV.out]) | fail)
         refine (FA.out).mono ?_
         rintro e w1 ⟨v,rfl,fl1,b1⟩
         obtain ⟨x0,x3,x36,x37⟩:=CELL.out w1 (RV.out.below b1 (by omega))
         have BF:=Lib.hid (BV.out.trans (b1.mono (by omega)))
         clear b1 fl1
         go_wp2
         go_ret
         exact ⟨rfl,BF.out⟩
       · have d2:decide (m.number<0)=false:=by simpa using p2
         by_cases p3:m.number≤65535
         · have d3:decide ((65535:Int)<m.number)=false:=by simpa using p3
           by_cases p4:m.amount≤1125899906842624
           · have d4:decide ((1125899906842624:Int)<m.amount)=false:=by simpa using p4
             have hbz:b=true↔zeroAll m fl=Msg.none m.kind:=by
              rw [HB.out]
              constructor
              · rintro ⟨fl',h1,h2⟩
                rw [HF.out] at h1;cases h1
                exact h2.z
              · intro hz
                exact ⟨fl,HF.out,⟨by omega,p1,by omega,p3,p4,hz⟩⟩
             have eq:=msg_eql 59 rfl (zeroAll m fl) (Msg.none m.kind) (zeroAll_ok HO.out fl) (none_ok HO.out) b hbz
             rw [none_row] at eq
             have EQ:=Lib.hid eq
             have TH:=Lib.hid (fun v W hFL hlo rb=>zero_through (b:=n) (lo:=n+1) fl (fields_len HF.out) v W hFL hlo (by omega) m HO.out.h32 rb)
             have iX:=Msg.info (zero_len m HO.out.h32 fl)
             have kz:=zero_kind m fl
             have cz:=fun (W:World) (hr:M.RowAt W n 59 (zeroAll m fl).row)=>(hr.cell 0).trans Msg.g0
             rw [kz] at cz
             have CZ:=Lib.hid cz
             clear p0 p1 p2 p3 p4 eq hbz kz cz HB HNO
             generalize (zeroAll m fl).row=Z at *
             clear HF
             generalize m.row=X at *
             generalize m.kind=kd at *
             generalize m.expiry=ex at *
             generalize m.number=nu at *
             generalize m.amount=am at *
             go_enter Tryz.func100,Tryz.ntmps100
             go_wp2_with (first | (rw [HN.out,HV.out]) | fail)
             refine (FA.out).mono ?_
             rintro e w1 ⟨v,rfl,fl1,b1⟩
             obtain ⟨x0,x3,x36,x37⟩:=CELL.out w1 (RV.out.below b1 (by omega))
             have T1:=Lib.hid (TH.out v w1 fl1 (by have:=b1.size;have:=SV.out;omega) (RV.out.below b1 (by omega)))
             have BF:=Lib.hid (BV.out.trans (b1.mono (by omega)))
             obtain ⟨A1,L1,C1,rfl⟩:∃ A L C,v=.slice A L C:=by obtain ⟨g,cap,C,hv,_⟩:=fl1;exact ⟨_,_,_,hv⟩
             clear b1 fl1 TH
             go_wp2_with fail
             refine (T1.out).mono ?_
             rintro e w2 ⟨rfl,r2,but2⟩
             have rz:=r2
             have cz:=CZ.out w2 r2
             have B2:=Lib.hid (show Below n w w2 from but2.below BF.out (Nat.le_refl _) (by have:=BF.out.size;have:=HN.out;omega))
             clear T1 but2 r2
             go_wp2_with (first
              | (refine wpList_load_row (x:=.tmp 1) (ty:=59) (g:=n) (cs:=Z) (t:=59) (fr:=(0,0)) ?_ ?_ ?_ _ rz Tryz.underlying59 rfl iX ?_;rfl;rfl;rfl)
              | (refine wpList_eql (x:=.tmp 41) (y:=.tmp 44) (ty:=59) (t:=59) (A:=Z) ?_ ?_ _ ?_ ?_ b guard62 EQ.out ?_;rfl;rfl;rfl;rfl)
              | fail)
             go_ret
             exact ⟨rfl,B2.out⟩
           · obtain rfl:=HNO.out (m.amount≤1125899906842624) (fun q=>q.a1) p4
             have d4:decide ((1125899906842624:Int)<m.amount)=true:=by simpa using p4
             clear p0 p1 p2 p3 p4
             clear HB HNO HF
             generalize m.row=X at *
             generalize m.kind=kd at *
             generalize m.expiry=ex at *
             generalize m.number=nu at *
             generalize m.amount=am at *
             go_enter Tryz.func100,Tryz.ntmps100
             go_wp2_with (first | (rw [HN.out,HV.out]) | fail)
             refine (FA.out).mono ?_
             rintro e w1 ⟨v,rfl,fl1,b1⟩
             obtain ⟨x0,x3,x36,x37⟩:=CELL.out w1 (RV.out.below b1 (by omega))
             have BF:=Lib.hid (BV.out.trans (b1.mono (by omega)))
             clear b1 fl1
             go_wp2
             go_ret
             exact ⟨rfl,BF.out⟩
         · obtain rfl:=HNO.out (m.number≤65535) (fun q=>q.n1) p3
           have d3:decide ((65535:Int)<m.number)=true:=by simpa using p3
           clear p0 p1 p2 p3
           clear HB HNO HF
           generalize m.row=X at *
           generalize m.kind=kd at *
           generalize m.expiry=ex at *
           generalize m.number=nu at *
           generalize m.amount=am at *
           go_enter Tryz.func100,Tryz.ntmps100
           go_wp2_with (first | (rw [HN.out,HV.out]) | fail)
           refine (FA.out).mono ?_
           rintro e w1 ⟨v,rfl,fl1,b1⟩
           obtain ⟨x0,x3,x36,x37⟩:=CELL.out w1 (RV.out.below b1 (by omega))
           have BF:=Lib.hid (BV.out.trans (b1.mono (by omega)))
           clear b1 fl1
           go_wp2
           go_ret
           exact ⟨rfl,BF.out⟩
     · obtain rfl:=HNO.out (m.expiry≤1073741824) (fun q=>q.e1) p1
       have d1:decide ((1073741824:Int)<m.expiry)=true:=by simpa using p1
       clear p0 p1
       clear HB HNO HF
       generalize m.row=X at *
       generalize m.kind=kd at *
       generalize m.expiry=ex at *
       generalize m.number=nu at *
       generalize m.amount=am at *
       go_enter Tryz.func100,Tryz.ntmps100
       go_wp2_with (first | (rw [HN.out,HV.out]) | fail)
       refine (FA.out).mono ?_
       rintro e w1 ⟨v,rfl,fl1,b1⟩
       obtain ⟨x0,x3,x36,x37⟩:=CELL.out w1 (RV.out.below b1 (by omega))
       have BF:=Lib.hid (BV.out.trans (b1.mono (by omega)))
       clear b1 fl1
       go_wp2
       go_ret
       exact ⟨rfl,BF.out⟩
end Go.Proofs.YtdebnbgjgkbmaaaGreatDoor.Wi
