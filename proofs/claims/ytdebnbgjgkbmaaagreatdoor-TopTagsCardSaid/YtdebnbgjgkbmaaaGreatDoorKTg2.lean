import Derived.ArgAppend
import Derived.Below
import Derived.BigQuiet
import Derived.Calls
import Derived.ChangeKeysEq
import Derived.ChangeOld
import Derived.Deep.AppendLies
import Derived.Deep.AppendSrc
import Derived.Deep.CutRange
import Derived.Deep.DeepCutAuto
import Derived.Deep.DeepHandedRow
import Derived.Deep.LoopGhost
import Derived.Deep.MidRow
import Derived.Deep.Onto
import Derived.Deep.QuietTactic
import Derived.Deep.RegionHeld3
import Derived.Deep.RegionWith
import Derived.Deep.Slices
import Derived.Deep.WholeRow
import Derived.DeepKeys
import Derived.DeepKeys3
import Derived.DeepKeys4
import Derived.Defers
import Derived.Great.Walk
import Derived.KernelRfl
import Derived.Laws.AppendOwn
import Derived.Laws.Bits64b
import Derived.Laws.BitsAllLaws
import Derived.Laws.BytesArg
import Derived.Laws.BytesString
import Derived.Laws.EntriesVeiled
import Derived.Laws.MakeOwn
import Derived.Laws.OwnMore
import Derived.Laws.Rows
import Derived.Laws.Tables
import Derived.Lib.BufferWrite
import Derived.Lib.Builder
import Derived.Lib.ConvBytes
import Derived.Lib.FrozenHead2
import Derived.Lib.Hide
import Derived.Lib.LaidTab
import Derived.Lib.SlFresh
import Derived.Lib.Strings
import Derived.Lib.TrailingZeros
import Derived.Lib.UnsafeStr
import Derived.LoopIn
import Derived.LoopNIn
import Derived.Maps.Keyed
import Derived.OpenShut
import Derived.Orders
import Derived.Outline
import Derived.OwnWalk
import Derived.OwnWalkIn
import Derived.ProofKit
import Derived.RangeFuncBound
import Derived.RangeFuncCalls
import Derived.RangeFuncFrom
import Derived.RangeFuncLeaves
import Derived.RangeFuncNested
import Derived.Recover
import Derived.Shelf.Abstract
import Derived.Shelf.RegionOpen
import Derived.Shelf.RegionOpenPlain
import Derived.Shelf.Spec.SlicesInsert
import Derived.Shelf.Strings.OnBuilder
import Derived.ShutString
import Derived.StillTailTactics
import Derived.TacticsInMore
import Derived.Test.YtdebnbgjgkbmaaaGreatDoorProg
import Derived.Test.YtdebnbgjgkbmaaaGreatDoorRows
import Derived.WalkKit
import Derived.WalkLawsBesides
import Derived.WalkSpells
import Derived.Test.YtdebnbgjgkbmaaaGreatDoorKTg1
namespace Go.Proofs.YtdebnbgjgkbmaaaGreatDoor
namespace Vw
open Go.RowKit
set_option linter.unusedVariables false
set_option maxRecDepth 100000 in
theorem ins_empty (pa:Option Addr) (k cap a:Nat) (w:World) (hk:a≤1000):Calls Tryz.prog 272 #[.slice pa k cap,.int .i64 a,.int .i64 a,FV] w fun e w'=>e=.returned (.tuple #[])∧w'=w:=by
 obtain ⟨a1,ha1⟩:∃ a1,a+1=a1:=⟨_,rfl⟩
 have hw:IntKind.i64.wrap ((a:Int)+1)=(a1:Int):=by rw [IntKind.wrap_i64];omega
 have d1:decide (a1<a)=false:=by simp;omega
 have d1i:decide ((a1:Int)<(a:Int))=false:=by simp;omega
 clear ha1
 go_enter Tryz.func272,Tryz.ntmps272
 go_wp2
 go_loopg [8] 0 (fun gm i W=>i=.int .i64 a1∧W=w)
 case atStart=>exact ⟨by first | rfl | go_num,rfl⟩
 case round=>
  obtain ⟨rfl,rfl⟩:=hrel
  go_wp2
  go_end0
  exact ⟨rfl,rfl⟩
theorem ins_gen (g cap a b k:Nat) (S:List It) (T:List Value) (w:World) (h:IR w g S T) (hS:S.length=k) (h1:a≤b) (h2:b≤k) (hk2:k≤1000) :
 Calls Tryz.prog 272 #[.slice (some ⟨g,0,none⟩) k cap,.int .i64 (a:Nat),.int .i64 (b:Nat),FV] w fun e w'=>e=.returned (.tuple #[])∧∃ S',S'.Perm S∧IR w' g S' T∧M.But g w w':=by
 by_cases hab:a=b
 · subst hab
   refine (ins_empty _ k cap a w (by omega)).mono ?_
   rintro e w' ⟨rfl,rfl⟩
   exact ⟨rfl,S,List.Perm.refl _,h,M.But.refl g _⟩
 · have e:S=S.take a++(S.drop a).take (b-a)++S.drop b:=by
    rw [List.append_assoc]
    have h3:(S.drop a).drop (b-a)=S.drop b:=by rw [List.drop_drop,show a+(b-a)=b by omega]
    rw [←h3,List.take_append_drop,List.take_append_drop]
   have hl1:(S.take a).length=a:=by simp;omega
   have hl2:((S.drop a).take (b-a)).length=b-a:=by simp;omega
   have hl:(S.take a++(S.drop a).take (b-a)++S.drop b).length=k:=by rw [←e];exact hS
   have h':IR w g (S.take a++(S.drop a).take (b-a)++S.drop b) T:=by rw [←e];exact h
   have c:=ins_any g cap (S.take a) ((S.drop a).take (b-a)) (S.drop b) T w h' (by omega) (by intro h0;rw [h0] at hl2;simp at hl2;omega)
   rw [hl,hl1,hl2,show a+(b-a)=b by omega] at c
   refine c.mono ?_
   rintro e' w' ⟨rfl,S',p1,p2,p3,p4⟩
   refine ⟨rfl,_,?_,p3,p4⟩
   have:(S.take a++S'++S.drop b).Perm (S.take a++(S.drop a).take (b-a)++S.drop b):=(List.Perm.append_left _ p1).append_right _
   rw [←e] at this
   exact this
set_option maxRecDepth 100000 in
set_option maxHeartbeats 4000000 in
theorem stable_gen (g cap k:Nat) (S:List It) (T:List Value) (w:World) (h:IR w g S T) (hS:S.length=k) (hk2:k≤1000) :
 Calls Tryz.prog 200 #[.slice (some ⟨g,0,none⟩) k cap,.int .i64 (k:Nat),FV] w fun e w'=>e=.returned (.tuple #[])∧∃ S',S'.Perm S∧IR w' g S' T∧M.But g w w':=by
 have H:=Lib.hid h;have HS:=Lib.hid hS
 have INS:=Lib.hid (fun (S1:List It) (hl:S1.length=k) (a b:Nat) (h1:a≤b) (h2:b≤k) v hv=>ins_gen g cap a b k S1 T v hv hl h1 h2 hk2)
 have SM:=Lib.hid (fun (S1:List It) (hl:S1.length=k) (a m b:Nat) (h1:a<m) (h2:m<b) (h3:b≤k) v hv=>sm_any g cap k T hk2 (b-a) a m b S1 v (Nat.le_refl _) h1 h2 h3 hl hv)
 clear h hS
 go_enter Tryz.func200,Tryz.ntmps200
 go_wp2
 go_loopg [7,8] k (fun gm x y W=>∃ (a b:Nat) (S1:List It),gm+a=k∧b=a+20∧a≤k∧x=.int .i64 a∧y=.int .i64 b∧S1.Perm S∧IR W g S1 T∧M.But g w W)
 case atStart=>exact ⟨0,20,S,rfl,rfl,Nat.zero_le _,rfl,rfl,List.Perm.refl _,H.out,M.But.refl g w⟩
 case round=>
  obtain ⟨a,b,S1,hgm,hb,hak,rfl,rfl,hp,ir,but⟩:=hrel
  have HL:=Lib.hid (hp.length_eq.trans HS.out);have HP:=Lib.hid hp;have IRH:=Lib.hid ir;have BUTH:=Lib.hid but;have HGM:=Lib.hid hgm;have HBA:=Lib.hid hb;have HAK:=Lib.hid hak
  clear hp ir but hgm
  by_cases hbk:b≤k
  · have d1:decide (b≤k)=true:=by simp;omega
    have d1i:decide ((b:Int)≤(k:Int))=true:=by simp;omega
    obtain ⟨b2,hb2⟩:∃ b2,b+20=b2:=⟨_,rfl⟩
    have hw:IntKind.i64.wrap ((b:Int)+20)=(b2:Int):=by rw [IntKind.wrap_i64];omega
    have C:=Lib.hid (INS.out S1 HL.out a b (by omega) hbk wr IRH.out)
    have HN:=Lib.hid (show gk-20+b=k∧b2=b+20∧gk-20<gk by have:=HGM.out;omega)
    clear hb hb2 hak
    go_wp2_with fail
    refine (C.out).mono ?_
    rintro e w1 ⟨rfl,S',p1,p2,p3⟩
    have P2:=Lib.hid p2;have P3:=Lib.hid p3
    clear p2 p3
    go_wp2
    go_roundg (gk-20)
    case measure=>exact HN.out.2.2
    case rel=>exact ⟨b,b2,S',HN.out.1,HN.out.2.1,hbk,rfl,rfl,p1.trans HP.out,P2.out,BUTH.out.trans P3.out⟩
  · have d1:decide (b≤k)=false:=by simp;omega
    have d1i:decide ((b:Int)≤(k:Int))=false:=by simp;omega
    have C:=Lib.hid (INS.out S1 HL.out a k hak (Nat.le_refl _) wr IRH.out)
    clear hb hbk
    go_wp2_with fail
    refine (C.out).mono ?_
    rintro e w1 ⟨rfl,S2,p1,p2,p3⟩
    have P1:=Lib.hid (p1.trans HP.out);have P2:=Lib.hid p2;have P3:=Lib.hid (BUTH.out.trans p3)
    clear p1 p2 p3 HL HP IRH BUTH HGM HBA HAK hak C
    go_wp2
    go_loopg [6,7,8,9] 5000 (fun gm x y z t W=>∃ (s:Nat) (S3:List It),gm+s=5020∧20≤s∧s≤2000∧x=.int .i64 s∧S3.Perm S∧IR W g S3 T∧M.But g w W)
    case atStart=>exact ⟨20,S2,rfl,Nat.le_refl _,by decide,rfl,P1.out,P2.out,P3.out⟩
    case round=>
     clear P1 P2 P3
     obtain ⟨s,S3,hgm,hs1,hs2,rfl,hp,ir,but⟩:=hrel
     have HP:=Lib.hid hp;have IRH:=Lib.hid ir;have BUTH:=Lib.hid but;have HGM:=Lib.hid hgm;have HS2:=Lib.hid (And.intro hs1 hs2)
     clear hp ir but hgm
     by_cases hsk:s<k
     · have d1:decide (s<k)=true:=by simp;omega
       have d1i:decide ((s:Int)<(k:Int))=true:=by simp;omega
       obtain ⟨s2,hs2e⟩:∃ s2,2*s=s2:=⟨_,rfl⟩
       have hw:IntKind.i64.wrap (2*(s:Int))=(s2:Int):=by rw [IntKind.wrap_i64];omega
       have hw':IntKind.i64.wrap ((s:Int)*2)=(s2:Int):=by rw [IntKind.wrap_i64];omega
       have HE:=Lib.hid hs2e
       obtain ⟨wo,rfl⟩:∃ wo:World,wo=wr:=⟨_,rfl⟩
       clear hs1 hs2 hs2e
       go_wp2
       go_loopg [7,8] k (fun gm x y W=>∃ (a b:Nat) (S1:List It),gm+a=k∧b=a+s2∧a≤k∧x=.int .i64 a∧y=.int .i64 b∧S1.Perm S∧IR W g S1 T∧M.But g w W)
       case atStart=>exact ⟨0,s2,S3,rfl,by omega,Nat.zero_le _,rfl,rfl,HP.out,IRH.out,BUTH.out⟩
       case round=>
        clear HP IRH BUTH
        obtain ⟨a,b,S1,hgm,hb,hak,rfl,rfl,hp,ir,but⟩:=hrel
        have HL:=Lib.hid (hp.length_eq.trans HS.out);have HP:=Lib.hid hp;have IRH:=Lib.hid ir;have BUTH:=Lib.hid but;have HGM2:=Lib.hid hgm
        obtain ⟨m,hm⟩:∃ m,a+s=m:=⟨_,rfl⟩
        have h6:=HS2.out
        have h7:=HE.out
        have hwm:IntKind.i64.wrap ((a:Int)+(s:Int))=(m:Int):=by rw [IntKind.wrap_i64];omega
        clear hp ir but hgm
        by_cases hbk:b≤k
        · have d2:decide (b≤k)=true:=by simp;omega
          have d2i:decide ((b:Int)≤(k:Int))=true:=by simp;omega
          obtain ⟨b2,hb2⟩:∃ b2,b+s2=b2:=⟨_,rfl⟩
          have hwb:IntKind.i64.wrap ((b:Int)+(s2:Int))=(b2:Int):=by rw [IntKind.wrap_i64];omega
          have C:=Lib.hid (SM.out S1 HL.out a m b (by omega) (by omega) hbk _ IRH.out)
          have C':Hid (Calls Tryz.prog 273 #[.slice (some ⟨g,0,none⟩) k cap,.int .i64 (a:Nat),.int .i64 (m:Nat),.int .i64 (b:Nat),FV] _ _):=Lib.hid (show Calls _ _ _ _ _ from C.out)
          have HN:=Lib.hid (show gk-s2+b=k∧b2=b+s2∧gk-s2<gk by have:=HGM2.out;omega)
          clear hb hb2 hak hm h6 h7 C
          go_wp2_with fail
          refine (C'.out).mono ?_
          rintro e w1 ⟨rfl,S',p1,p2,p3⟩
          have P2:=Lib.hid p2;have P3:=Lib.hid p3
          clear p2 p3
          go_wp2
          go_roundg (gk-s2)
          case measure=>exact HN.out.2.2
          case rel=>exact ⟨b,b2,S',HN.out.1,HN.out.2.1,hbk,rfl,rfl,p1.trans HP.out,P2.out,BUTH.out.trans P3.out⟩
        · have d2:decide (b≤k)=false:=by simp;omega
          have d2i:decide ((b:Int)≤(k:Int))=false:=by simp;omega
          have HN:=Lib.hid (show 5020-s2+s2=5020∧20≤s2∧s2≤2000 by omega)
          have HM2:=Lib.hid (show 5020-s2<5020-s by omega)
          by_cases hmk:m<k
          · have d3:decide (m<k)=true:=by simp;omega
            have d3i:decide ((m:Int)<(k:Int))=true:=by simp;omega
            have C:=Lib.hid (SM.out S1 HL.out a m k (by omega) hmk (Nat.le_refl _) _ IRH.out)
            have C':Hid (Calls Tryz.prog 273 #[.slice (some ⟨g,0,none⟩) k cap,.int .i64 (a:Nat),.int .i64 (m:Nat),.int .i64 (k:Nat),FV] _ _):=Lib.hid (show Calls _ _ _ _ _ from C.out)
            clear hb hak hm h6 h7 C hbk
            go_wp2_with fail
            refine (C'.out).mono ?_
            rintro e w1 ⟨rfl,S',p1,p2,p3⟩
            have P2:=Lib.hid p2;have P3:=Lib.hid p3
            clear p2 p3
            go_wp2
            go_roundg (5020-s2)
            case measure=>have:=HM2.out;have:=HGM.out;omega
            case rel=>exact ⟨s2,S',HN.out.1,HN.out.2.1,HN.out.2.2,rfl,p1.trans HP.out,P2.out,BUTH.out.trans P3.out⟩
          · have d3:decide (m<k)=false:=by simp;omega
            have d3i:decide ((m:Int)<(k:Int))=false:=by simp;omega
            clear hb hak hm h6 h7 hbk
            go_wp2
            go_roundg (5020-s2)
            case measure=>have:=HM2.out;have:=HGM.out;omega
            case rel=>exact ⟨s2,S1,HN.out.1,HN.out.2.1,HN.out.2.2,rfl,HP.out,IRH.out,BUTH.out⟩
     · have d1:decide (s<k)=false:=by simp;omega
       have d1i:decide ((s:Int)<(k:Int))=false:=by simp;omega
       clear hs1 hs2
       go_wp2
       go_end0
       exact ⟨rfl,S3,HP.out,IRH.out,BUTH.out⟩
theorem sort_gen (g cap k:Nat) (S:List It) (T:List Value) (w:World) (h:IR w g S T) (hS:S.length=k) (hk2:k≤1000) :
 Calls Tryz.prog 122 #[.slice (some ⟨g,0,none⟩) k cap,FV] w fun e w'=>e=.returned (.tuple #[])∧∃ S',S'.Perm S∧IR w' g S' T∧M.But g w w':=by
 have ST:=Lib.hid (stable_gen g cap k S T w h hS hk2)
 clear h hS hk2
 go_enter Tryz.func122,Tryz.ntmps122
 go_wp2_with fail
 refine (ST.out).mono ?_
 rintro e w1 ⟨rfl,S',h1,h3,h4⟩
 have H3:=Lib.hid h3;have H4:=Lib.hid h4
 clear h3 h4
 go_wp2
 go_end0
 exact ⟨rfl,S',h1,H3.out,H4.out⟩
theorem own_sortg {n k:Nat} {w:World} {u:Value} {S:List It} (h:w.ownsRow n 222 36 u k (flatI S)) (hk:S.length=k) (h1000:k≤1000) :
 Calls Tryz.prog 122 #[u,FV] w fun e w'=>e=.returned (.tuple #[])∧∃ S',S'.Perm S∧(k<20→SortedI S')∧w'.ownsRow n 222 36 u k (flatI S')∧w.grownBy w' u.ownBlock:=by
 by_cases h20:k<20
 · refine (own_sort h hk h20).mono ?_
   rintro e w' ⟨rfl,S',p1,p2,p3,p4⟩
   exact ⟨rfl,S',p1,fun _=>p2,p3,p4⟩
 · rcases h.2 with ⟨rfl,h0⟩ | ⟨g,cap,cur,rfl,hb,hg,hle,hmx,hsz,htk⟩
   · omega
   · have ir:IR w g S (cur.toList.drop (k*36)):=by
      show w.heap[g]?=_
      rw [hg,← htk,List.take_append_drop]
     refine (sort_gen g cap k S _ w ir hk h1000).mono ?_
     rintro e w' ⟨rfl,S',hp,hi,hbt⟩
     refine ⟨rfl,S',hp,fun hh=>absurd hh h20,⟨by rw [flatI_len,hp.length_eq,hk],.inr ⟨g,cap,_,rfl,hb,hi,hle,hmx,?_,?_⟩⟩,but_grownT hbt⟩
     · have:cur.toList.length=cap*36:=by rw [Array.length_toList];exact hsz
       have hl:=Nat.mul_le_mul_right 36 hle
       simp [flatI_len,hp.length_eq,this,hk]
       omega
     · show (flatI S'++_).take _=_
       rw [List.take_left' (by rw [flatI_len,hp.length_eq,hk])]
end Vw
open Oc
open Go.RowKit
set_option linter.unusedVariables false
theorem fold_get_o (o:Nat):∀ (l:List Value) (Z:Array Value) (j:Nat),o+j+l.length≤Z.size →
 (List.foldl (fun (cs:Array Value) (x:Value × Nat)=>cs.setIfInBounds (o+x.2) x.1) Z (l.zipIdx j)).size=Z.size ∧
 ∀ i,(List.foldl (fun (cs:Array Value) (x:Value × Nat)=>cs.setIfInBounds (o+x.2) x.1) Z (l.zipIdx j))[i]?=if o+j≤i∧i<o+j+l.length then l[i-(o+j)]? else Z[i]?
 | [],Z,j,_=>⟨rfl,fun i=>by rw [if_neg (by simp)];rfl⟩
 | x::l,Z,j,h=>by
   rw [List.length_cons] at h
   have ih:=fold_get_o o l (Z.setIfInBounds (o+j) x) (j+1) (by simp;omega)
   rw [List.zipIdx_cons,List.foldl_cons]
   refine ⟨by rw [ih.1];simp,fun i=>?_⟩
   rw [ih.2 i,List.length_cons]
   by_cases h1:o+(j+1)≤i∧i<o+(j+1)+l.length
   · rw [if_pos h1,if_pos (by omega)]
     have:i-(o+j)=(i-(o+(j+1)))+1:=by omega
     rw [this,List.getElem?_cons_succ]
   · rw [if_neg h1]
     by_cases h2:i=o+j
     · subst h2
       rw [if_pos (by omega),Nat.sub_self,Array.getElem?_setIfInBounds_self_of_lt (by omega)];rfl
     · rw [if_neg (by omega),Array.getElem?_setIfInBounds_ne (by omega)]
theorem fold_mid (A B C Z:Array Value) (o k:Nat) (hC:C.size=k) (ho:A.size=o) (hZ:Z.size=o+k+B.size) (hA:∀ i,i<o→Z[i]?=A[i]?) (hB:∀ i,i<B.size→Z[o+k+i]?=B[i]?) :
 Array.foldl (fun (cs:Array Value) (x:Value × Nat)=>cs.setIfInBounds (o+x.2) x.1) Z C.zipIdx 0 k=A++C++B:=by
 have e:Array.foldl (fun (cs:Array Value) (x:Value × Nat)=>cs.setIfInBounds (o+x.2) x.1) Z C.zipIdx 0 k=Array.foldl (fun (cs:Array Value) (x:Value × Nat)=>cs.setIfInBounds (o+x.2) x.1) Z C.zipIdx:=by
  have:k=C.zipIdx.size:=by simp [hC]
  rw [this]
 rw [e,← Array.foldl_toList,Array.toList_zipIdx]
 have hl:C.toList.length=k:=by rw [Array.length_toList,hC]
 have hg:=fold_get_o o C.toList Z 0 (by omega)
 apply Array.ext_getElem?
 intro i
 rw [hg.2 i,hl,Nat.add_zero]
 by_cases h1:i<o
 · rw [if_neg (by omega),hA i h1,Array.getElem?_append_left (by simp;omega),Array.getElem?_append_left (by omega)]
 · by_cases h2:i<o+k
   · rw [if_pos (by omega),Array.getElem?_append_left (by simp;omega),Array.getElem?_append_right (by omega),ho,Array.getElem?_toList]
   · rw [if_neg (by omega),Array.getElem?_append_right (by simp;omega)]
     have hs:(A++C).size=o+k:=by simp [ho,hC]
     rw [hs]
     by_cases h3:i-(o+k)<B.size
     · have:=hB (i-(o+k)) h3
       rw [show o+k+(i-(o+k))=i by omega] at this
       exact this
     · rw [Array.getElem?_eq_none (by omega),Array.getElem?_eq_none (by omega)]
namespace Vw
open Oc
open Go.RowKit
set_option linter.unusedVariables false
structure OW (n:Nat) (w:World) (p7 p8 lo re:Nat) (u:Value) (I:List It) (v:World):Prop where
 tw:TW n w [(0,.row p7 27 #[.int .u64 lo]),(1,.row p8 27 #[.int .u64 re]),(2,.row (n+1) 78 #[.int .u64 0,.int .u64 0,.slice none 0 0]),(3,.own 222 36 u I.length (flatI I))] v
theorem ow_mid {n p7 p8 lo:Nat} {w U:World} {X:Ths} (t:TW n w X U) (m0:((0:Nat),Th.row p7 27 #[.int .u64 0])∈X) (m1:((1:Nat),Th.row p8 27 #[.int .u64 0])∈X) (m2:((2:Nat),Th.row (n+1) 78 #[.int .u64 0,.int .u64 0,.slice none 0 0])∈X) :
 TW n w [(1,.row p8 27 #[.int .u64 0]),(0,.row p7 27 #[.int .u64 lo]),(2,.row (n+1) 78 #[.int .u64 0,.int .u64 0,.slice none 0 0])] (U.setCell ⟨p7,0,none⟩ (.int .u64 lo)):=by
 have t1:=t.sub (X':=[(0,.row p7 27 #[.int .u64 0]),(1,.row p8 27 #[.int .u64 0]),(2,.row (n+1) 78 #[.int .u64 0,.int .u64 0,.slice none 0 0])]) (fun y hy=>by
  simp only [List.mem_cons,List.not_mem_nil,or_false] at hy
  rcases hy with rfl | rfl | rfl
  · exact m0
  · exact m1
  · exact m2)
 have t2:=t1.setCell (fun y hy=>by
  simp only [List.mem_cons,List.not_mem_nil,or_false] at hy
  rcases hy with rfl | rfl
  · show (1:Nat)≠0;decide
  · show (2:Nat)≠0;decide) 0 (.int .u64 lo)
 exact t2.sub (fun y hy=>by
  simp only [List.mem_cons,List.not_mem_nil,or_false] at hy ⊢
  rcases hy with rfl | rfl | rfl
  · exact .inr (.inl rfl)
  · exact .inl rfl
  · exact .inr (.inr rfl))
theorem ow_start {n p7 p8 lo re:Nat} {w U:World} (t:TW n w [(1,.row p8 27 #[.int .u64 0]),(0,.row p7 27 #[.int .u64 lo]),(2,.row (n+1) 78 #[.int .u64 0,.int .u64 0,.slice none 0 0])] U):OW n w p7 p8 lo re (.slice none 0 0) [] (U.setCell ⟨p8,0,none⟩ (.int .u64 re)):=by
 have t2:=t.setCell (fun y hy=>by
  simp only [List.mem_cons,List.not_mem_nil,or_false] at hy
  rcases hy with rfl | rfl
  · show (0:Nat)≠1;decide
  · show (2:Nat)≠1;decide) 0 (.int .u64 re)
 have t3:=t2.nilOwn (a:=3) (fun y hy=>by
  simp only [List.mem_cons,List.not_mem_nil,or_false] at hy
  rcases hy with rfl | rfl | rfl
  · show (1:Nat)≠3;decide
  · show (0:Nat)≠3;decide
  · show (2:Nat)≠3;decide) 222 36
 exact ⟨t3.sub (fun y hy=>by
  simp only [List.mem_cons,List.not_mem_nil,or_false] at hy ⊢
  rcases hy with rfl | rfl | rfl | rfl
  · exact .inr (.inr (.inl rfl))
  · exact .inr (.inl rfl)
  · exact .inr (.inr (.inr rfl))
  · exact .inl rfl)⟩
def Z36:Array Value:=#[.bool false,.int .u64 0,.int .u64 0,.int .u8 0,.int .u8 0,.int .u8 0,.int .u8 0,.int .u8 0,.int .u8 0,.int .u8 0,.int .u8 0,.int .u8 0,.int .u8 0,.int .u8 0,.int .u8 0,.int .u8 0,.int .u8 0,.int .u8 0,.int .u8 0,.int .u8 0,.int .u8 0,.int .u8 0,.int .u8 0,.int .u8 0,.int .u8 0,.int .u8 0,.int .u8 0,.int .u8 0,.int .u8 0,.int .u8 0,.int .u8 0,.int .u8 0,.int .u8 0,.int .u8 0,.int .u8 0,.int .i64 0]
theorem info222:(Tryz.prog.info? 222).map (fun i=>(i.zero,i.size,decide (i.bytes≤1000)))=some (some (.agg Z36),36,true):=by kernel_rfl
theorem wpList_build_v {P:Program} {ops:Array Oper} {rest:List Oper} {o:Oper} {a:Act} {w:World} {Q:Exit→Act→World→Prop} (hgd:o.guard=none) (t:TypeId) (i j:Nat) (x y:Operand) (ho:o.op=.build t #[(i,x),(j,y)]) (Z:Array Value)
 (hz:(Instr.build t #[(i,a.eval x),(j,a.eval y)]).run P w=.ok (.agg Z) w) (h:wpList P ops Q rest (a.put o.dst (.agg Z)) w):wpList P ops Q (o::rest) a w:=
 wpList_plain hgd fun _ hK=>by
  unfold Oper.wp execOp
  simp only [ho,List.map_toArray,List.map_cons,List.map_nil,Sem.run_bind,Sem.run_pure,Result.andThen_ok,hz]
  exact hK _ _ h
theorem fold222 (b:Bool) (H:Array Value) (hH:H.size=35):Array.foldl (fun (cs:Array Value) (x:Value × Nat)=>cs.setIfInBounds (1+x.2) x.1) #[.bool b,.int .u64 0,.int .u64 0,.int .u8 0,.int .u8 0,.int .u8 0,.int .u8 0,.int .u8 0,.int .u8 0,.int .u8 0,.int .u8 0,.int .u8 0,.int .u8 0,.int .u8 0,.int .u8 0,.int .u8 0,.int .u8 0,.int .u8 0,.int .u8 0,.int .u8 0,.int .u8 0,.int .u8 0,.int .u8 0,.int .u8 0,.int .u8 0,.int .u8 0,.int .u8 0,.int .u8 0,.int .u8 0,.int .u8 0,.int .u8 0,.int .u8 0,.int .u8 0,.int .u8 0,.int .u8 0,.int .i64 0] H.zipIdx 0 35=#[.bool b]++H:=by
 have:=fold_mid #[.bool b] #[] H #[.bool b,.int .u64 0,.int .u64 0,.int .u8 0,.int .u8 0,.int .u8 0,.int .u8 0,.int .u8 0,.int .u8 0,.int .u8 0,.int .u8 0,.int .u8 0,.int .u8 0,.int .u8 0,.int .u8 0,.int .u8 0,.int .u8 0,.int .u8 0,.int .u8 0,.int .u8 0,.int .u8 0,.int .u8 0,.int .u8 0,.int .u8 0,.int .u8 0,.int .u8 0,.int .u8 0,.int .u8 0,.int .u8 0,.int .u8 0,.int .u8 0,.int .u8 0,.int .u8 0,.int .u8 0,.int .u8 0,.int .i64 0] 1 35 hH rfl rfl (fun i hi=>by
  match i,hi with
  | 0,_=>rfl) (fun i hi=>absurd hi (by simp))
 rw [this];simp
set_option maxHeartbeats 4000000 in
theorem build222 (b:Bool) (H:Array Value) (hH:H.size=35) (W:World):(Instr.build 222 #[(0,.bool b),(1,.agg H)]).run Tryz.prog W=.ok (.agg (#[.bool b]++H)) W:=by
 have hf:=fold222 b H hH
 go_simp
def itOf (ours:Bool) (x:LV):It:=⟨x.own==ours,x.id,x.am,x.F,x.ex⟩
def itsOf (ours:Bool) (l:List LV):List It:=(l.filter (pHas ours)).map (itOf ours)
def gvT (ours:Bool) (x:LV):Bool:=if pOut ours x&&x.paid then !x.own else x.own
theorem itOf_row (ours:Bool) (x:LV):(itOf ours x).row=#[.bool (x.own==ours)]++x.h:=by
 unfold It.row LV.h itOf
 generalize r8 32 x.F=R
 rw [←Array.append_assoc,← Array.append_assoc]
 simp
theorem itsOf_snoc (ours:Bool) (l:List LV) {j:Nat} {x:LV} (hj:j<l.length) (hx:l[j]=x):itsOf ours (l.take (j+1))=itsOf ours (l.take j)++(if pHas ours x then [itOf ours x] else []):=by
 unfold itsOf
 rw [List.take_succ_eq_append_getElem hj,List.filter_append,List.map_append,hx]
 cases h:pHas ours x<;>simp [h]
theorem itsOf_le (ours:Bool) (l:List LV):(itsOf ours l).length≤l.length:=by unfold itsOf;rw [List.length_map];exact List.length_filter_le _ _
def LAo (w:World) (ad:Option Addr) (ls:List LV):Prop:=∀ i x,ls[i]?=some x→∃ g off,ad=some ⟨g,off,none⟩∧g<w.heap.size∧w.rangeAt g (off+i*38) x.cells.toList
def gvPm (b:Nat × Nat) (us:Bool) (m:Nat):Nat × Nat:=if us then ((b.1+m)%18446744073709551616,b.2) else (b.1,(b.2+m)%18446744073709551616)
def gvLm (ours:Bool) (b:Nat × Nat) (l:List LV):Nat × Nat:=l.foldl (fun b x=>if pHas ours x then b else gvPm b (gvT ours x) x.am) b
theorem gvLm_snoc (ours:Bool) (b:Nat × Nat) (l:List LV) {j:Nat} {x:LV} (hj:j<l.length) (hx:l[j]=x):gvLm ours b (l.take (j+1))=if pHas ours x then gvLm ours b (l.take j) else gvPm (gvLm ours b (l.take j)) (gvT ours x) x.am:=by
 unfold gvLm
 rw [List.take_succ_eq_append_getElem hj,List.foldl_append,hx];rfl
theorem gvLm_lt (ours:Bool):∀ (l:List LV) (b:Nat × Nat),b.1<18446744073709551616→b.2<18446744073709551616→(gvLm ours b l).1<18446744073709551616∧(gvLm ours b l).2<18446744073709551616
 | [],b,h1,h2=>⟨h1,h2⟩
 | x::l,b,h1,h2=>by
   show (gvLm ours (if pHas ours x then b else gvPm b (gvT ours x) x.am) l).1<_∧(gvLm ours (if pHas ours x then b else gvPm b (gvT ours x) x.am) l).2<_
   split
   · exact gvLm_lt ours l b h1 h2
   · refine gvLm_lt ours l _ ?_ ?_
     · unfold gvPm;split
       · exact Nat.mod_lt _ (by decide)
       · exact h1
     · unfold gvPm;split
       · exact h2
       · exact Nat.mod_lt _ (by decide)
theorem OW.c7 {n p7 p8 lo re:Nat} {w v:World} {u:Value} {I:List It} (h:OW n w p7 p8 lo re u I v):v.cell? ⟨p7,0,none⟩=some (.int .u64 lo)∧v.frozen? ⟨p7,0,none⟩=false:=by
 have r:=h.tw.row (a:=0) (g:=p7) (t:=27) (cs:=#[.int .u64 lo]) List.mem_cons_self
 exact ⟨r.cell 0,r.frozen 0⟩
theorem OW.c8 {n p7 p8 lo re:Nat} {w v:World} {u:Value} {I:List It} (h:OW n w p7 p8 lo re u I v):v.cell? ⟨p8,0,none⟩=some (.int .u64 re)∧v.frozen? ⟨p8,0,none⟩=false:=by
 have r:=h.tw.row (a:=1) (g:=p8) (t:=27) (cs:=#[.int .u64 re]) (List.mem_cons_of_mem _ List.mem_cons_self)
 exact ⟨r.cell 0,r.frozen 0⟩
theorem OW.set7 {n p7 p8 lo re:Nat} {w v:World} {u:Value} {I:List It} (h:OW n w p7 p8 lo re u I v) (x:Nat):OW n w p7 p8 x re u I (v.setCell ⟨p7,0,none⟩ (.int .u64 x)):=
 ⟨h.tw.setCell (fun y hy=>by
   simp only [List.mem_cons,List.not_mem_nil,or_false] at hy
   rcases hy with rfl | rfl | rfl
   · show (1:Nat)≠0;decide
   · show (2:Nat)≠0;decide
   · show (3:Nat)≠0;decide) 0 (.int .u64 x)⟩
theorem OW.set8 {n p7 p8 lo re:Nat} {w v:World} {u:Value} {I:List It} (h:OW n w p7 p8 lo re u I v) (x:Nat):OW n w p7 p8 lo x u I (v.setCell ⟨p8,0,none⟩ (.int .u64 x)):=by
 have t1:=h.tw.sub (X':=[(1,.row p8 27 #[.int .u64 re]),(0,.row p7 27 #[.int .u64 lo]),(2,.row (n+1) 78 #[.int .u64 0,.int .u64 0,.slice none 0 0]),(3,.own 222 36 u I.length (flatI I))]) (fun y hy=>by
  simp only [List.mem_cons,List.not_mem_nil,or_false] at hy ⊢
  rcases hy with e | e | e | e
  · exact .inr (.inl e)
  · exact .inl e
  · exact .inr (.inr (.inl e))
  · exact .inr (.inr (.inr e)))
 have t2:=t1.setCell (fun y hy=>by
  simp only [List.mem_cons,List.not_mem_nil,or_false] at hy
  rcases hy with rfl | rfl | rfl
  · show (0:Nat)≠1;decide
  · show (2:Nat)≠1;decide
  · show (3:Nat)≠1;decide) 0 (.int .u64 x)
 exact ⟨t2.sub (fun y hy=>by
  simp only [List.mem_cons,List.not_mem_nil,or_false] at hy ⊢
  rcases hy with e | e | e | e
  · exact .inr (.inl e)
  · exact .inl e
  · exact .inr (.inr (.inl e))
  · exact .inr (.inr (.inr e)))⟩
theorem OW.same {n p7 p8 lo re:Nat} {w v v':World} {u:Value} {I:List It} (h:OW n w p7 p8 lo re u I v) (hb:Below v.heap.size v v'):OW n w p7 p8 lo re u I v':=⟨h.tw.same hb⟩
theorem OW.own {n p7 p8 lo re:Nat} {w v:World} {u:Value} {I:List It} (h:OW n w p7 p8 lo re u I v):v.ownsRow n 222 36 u I.length (flatI I):=
 h.tw.own (a:=3) (List.mem_cons_of_mem _ (List.mem_cons_of_mem _ (List.mem_cons_of_mem _ List.mem_cons_self)))
theorem OW.grow {n p7 p8 lo re:Nat} {w v v':World} {u u':Value} {I J:List It} (h:OW n w p7 p8 lo re u I v) (ho:v'.ownsRow n 222 36 u' J.length (flatI J)) (hg:v.grownBy v' u.ownBlock) (hs:u'.ownBlock=u.ownBlock∨∀ g,u'.ownBlock=some g→v.heap.size≤g):OW n w p7 p8 lo re u' J v':=by
 have t1:=h.tw.sub (X':=[(3,.own 222 36 u I.length (flatI I)),(0,.row p7 27 #[.int .u64 lo]),(1,.row p8 27 #[.int .u64 re]),(2,.row (n+1) 78 #[.int .u64 0,.int .u64 0,.slice none 0 0])]) (fun y hy=>by
  simp only [List.mem_cons,List.not_mem_nil,or_false] at hy ⊢
  rcases hy with e | e | e | e
  · exact .inr (.inr (.inr e))
  · exact .inl e
  · exact .inr (.inl e)
  · exact .inr (.inr (.inl e)))
 have t2:=t1.grow (fun y hy=>by
  simp only [List.mem_cons,List.not_mem_nil,or_false] at hy
  rcases hy with rfl | rfl | rfl
  · show (0:Nat)≠3;decide
  · show (1:Nat)≠3;decide
  · show (2:Nat)≠3;decide) ho hg hs
 exact ⟨t2.sub (fun y hy=>by
  simp only [List.mem_cons,List.not_mem_nil,or_false] at hy ⊢
  rcases hy with e | e | e | e
  · exact .inr (.inl e)
  · exact .inr (.inr (.inl e))
  · exact .inr (.inr (.inr e))
  · exact .inl e)⟩
theorem OW.give {n p7 p8 lo re:Nat} {w v:World} {u:Value} {I:List It} (h:OW n w p7 p8 lo re u I v) (us:Bool) (am:Nat) :
 Calls Tryz.prog 120 #[.bool us,.int .u64 am,.pointer (some ⟨p7,0,none⟩),.pointer (some ⟨p8,0,none⟩)] v fun e v'=>e=.returned (.tuple #[])∧OW n w p7 p8 (gvPm (lo,re) us am).1 (gvPm (lo,re) us am).2 u I v':=by
 cases us with
 | true=>
   refine (give_usm p7 p8 lo am v h.c7.1 h.c7.2).mono ?_
   rintro e v' ⟨rfl,rfl⟩
   exact ⟨rfl,h.set7 _⟩
 | false=>
   refine (give_themm p7 p8 re am v h.c8.1 h.c8.2).mono ?_
   rintro e v' ⟨rfl,rfl⟩
   exact ⟨rfl,h.set8 _⟩
theorem OW.setR {n p7 p8 lo re:Nat} {w v:World} {u:Value} {I:List It} (h:OW n w p7 p8 lo re u I v) (cs:Array Value):M.RowAt (v.setRow (n+1) cs) (n+1) 78 cs∧(v.setRow (n+1) cs).ownsRow n 222 36 u I.length (flatI I)∧Below n w (v.setRow (n+1) cs):=by
 have t1:=h.tw.sub (X':=[(2,.row (n+1) 78 #[.int .u64 0,.int .u64 0,.slice none 0 0]),(3,.own 222 36 u I.length (flatI I))]) (fun y hy=>by
  simp only [List.mem_cons,List.not_mem_nil,or_false] at hy ⊢
  rcases hy with e | e
  · exact .inr (.inr (.inl e))
  · exact .inr (.inr (.inr e)))
 have t2:=t1.setRow (fun y hy=>by
  simp only [List.mem_cons,List.not_mem_nil,or_false] at hy
  rcases hy with rfl
  show (3:Nat)≠2;decide) cs
 exact ⟨t2.row List.mem_cons_self,t2.own (a:=3) (List.mem_cons_of_mem _ List.mem_cons_self),t2.bel⟩
set_option maxRecDepth 100000 in
set_option maxHeartbeats 8000000 in
theorem of_gen (ours:Bool) (loc rem:Nat) (ad:Option Addr) (cap:Nat) (ls:List LV) (w:World) (hl:LAo w ad ls) (h20:ls.length≤1000) (ht:Ht.HT w) :
 Calls Tryz.prog 33 #[.bool ours,.agg #[.int .u64 loc,.int .u64 rem],.slice ad ls.length cap] w fun e w'=>∃ S u,e=.returned (.agg #[.int .u64 (if ours then (gvLm ours (loc,rem) ls).1 else (gvLm ours (loc,rem) ls).2:Nat),.int .u64 (if ours then (gvLm ours (loc,rem) ls).2 else (gvLm ours (loc,rem) ls).1:Nat),u])∧S.Perm (itsOf ours ls)∧(ls.length<20→SortedI S)∧w'.ownsRow w.heap.size 222 36 u S.length (flatI S)∧Below w.heap.size w w':=by
 obtain ⟨n,hn⟩:∃ n,w.heap.size=n:=⟨_,rfl⟩
 obtain ⟨i0,hi,hi0,hi1,hi2⟩:=info_parts3 info222
 have hn8:8≤n:=hn▸ht.size
 have PL:=Lib.hid (fun (x:LV) u (hb:Below n w u)=>place_gen ours x u (ht.belowN hb hn8))
 obtain ⟨k,hk0⟩:∃ k,ls.length=k:=⟨_,rfl⟩
 rw [hk0] at h20
 rw [hk0]
 have HK:=Lib.hid hk0
 clear hk0 hn8
 have t0:TW n w [] w:=hn▸TW.start w
 have t1:=t0.newRow (a:=5) (fun y hy=>by cases hy) 74 #[.int .u64 loc,.int .u64 rem]
 rw [hn] at t1
 have s1:(w.alloc (.cells #[.int .u64 loc,.int .u64 rem] 74)).heap.size=n+1:=by rw [World.size_alloc,hn]
 have t2:=t1.newRow (a:=2) (by intro y hy;simp at hy;subst hy;show (5:Nat)≠2;decide) 78 #[.int .u64 0,.int .u64 0,.slice none 0 0]
 rw [s1] at t2
 have s2:((w.alloc (.cells #[.int .u64 loc,.int .u64 rem] 74)).alloc (.cells #[.int .u64 0,.int .u64 0,.slice none 0 0] 78)).heap.size=n+2:=by rw [World.size_alloc,s1]
 obtain ⟨V,hV⟩:∃ V,(w.alloc (.cells #[.int .u64 loc,.int .u64 rem] 74)).alloc (.cells #[.int .u64 0,.int .u64 0,.slice none 0 0] 78)=V:=⟨_,rfl⟩
 rw [hV] at t2 s2
 have HN:=Lib.hid hn;have HV:=Lib.hid hV;have T2:=Lib.hid t2;have HL:=Lib.hid hl;have HT:=Lib.hid ht
 clear hn t0 t1 t2 s1 s2 hV hl ht
 go_enter Tryz.func33,Tryz.ntmps33
 go_wp2_with (first | (rw [HN.out,HV.out]) | fail)
 refine QF.wp_region_f [4,5,6,7] (.q 0<|.q 1<|.q 2<|.q 3<|.two 4 (.one 5<|.one 6<|.one 7<|.nil) 5 (.one 4<|.one 6<|.one 7<|.nil)) (by kernel_rfl) (by kernel_rfl) (fun u d=>?_)
 have tu:=T2.out.same (d.below (n:=V.heap.size))
 have rb:=tu.row (a:=5) (g:=n) (t:=74) (cs:=#[.int .u64 loc,.int .u64 rem]) (by simp)
 have c0:=rb.cell 0
 have c1:=rb.cell 1
 iterate 4
  (first
   | (apply QF.wpF_load
      (focus rfl)
      (focus rfl)
      (focus rfl)
      (focus rfl)
      (focus (assumption))
      (focus (intro u hu;go_simp))
      intro K hK
      go_simp
      refine hK _ ?_
      clear hK K)
   | (apply QF.wpF_pure
      (focus rfl)
      intro K hK
      go_simp
      first
       | (refine hK _ ?_;clear hK K)
       | (apply Exists.intro
          refine ⟨fun u=>?_,hK _ ?_⟩
          (focus (unfold QP.oat;go_simp;first | done | exact ⟨rfl,rfl⟩ | exact rfl))
          clear hK K)))
 obtain ⟨z,hz⟩:∃ z,u.heap.size=z:=⟨_,rfl⟩
 obtain ⟨U1,hU1⟩:∃ U,u.alloc (.cells #[.int .u64 0] 27)=U:=⟨_,rfl⟩
 obtain ⟨U2,hU2⟩:∃ U,U1.alloc (.cells #[.int .u64 0] 27)=U:=⟨_,rfl⟩
 have s1:U1.heap.size=z+1:=by rw [←hU1,World.size_alloc,hz]
 have newA:∀ a,a<2→New a [((2:Nat),Th.row (n+1) 78 #[.int .u64 0,.int .u64 0,.slice none 0 0]),(5,.row n 74 #[.int .u64 loc,.int .u64 rem])]:=fun a ha y hy=>by
  simp at hy
  rcases hy with rfl | rfl
  · show (2:Nat)≠a;omega
  · show (5:Nat)≠a;omega
 have nz0:z≠n:=by have:=World.new_ne u ⟨n,0,none⟩ c0;rw [hz] at this;exact this
 have nz1:z+1≠n:=by have:=World.block_lt_of_cell? u ⟨n,0,none⟩ c0;rw [hz] at this;show z+1≠n;have h:n<z:=this;omega
 have NA:=Lib.hid newA
 have TU:=Lib.hid tu
 have HZZ:=Lib.hid hz;have HU1:=Lib.hid hU1;have HU2:=Lib.hid hU2;have S1:=Lib.hid s1
 clear tu rb newA hz hU1 hU2 s1 d
 refine QF.wpF_two ?_ ?_
 · skip
   have t3:=TU.out.newRow (a:=0) (NA.out 0 (by decide)) 27 #[.int .u64 0]
   rw [HZZ.out,HU1.out] at t3
   have t4:=t3.newRow (a:=1) (by intro y hy;rcases List.mem_cons.1 hy with rfl | hy;(show (0:Nat)≠1;decide);exact NA.out 1 (by decide) y hy) 27 #[.int .u64 0]
   rw [S1.out,HU2.out] at t4
   have ce0:U1.cell? ⟨n,0,none⟩=some (.int .u64 loc):=(t3.row (a:=5) (g:=n) (t:=74) (cs:=#[.int .u64 loc,.int .u64 rem]) (by simp)).cell 0
   have ce1:U1.cell? ⟨n,1,none⟩=some (.int .u64 rem):=(t3.row (a:=5) (g:=n) (t:=74) (cs:=#[.int .u64 loc,.int .u64 rem]) (by simp)).cell 1
   have cf0:U2.cell? ⟨n,0,none⟩=some (.int .u64 loc):=(t4.row (a:=5) (g:=n) (t:=74) (cs:=#[.int .u64 loc,.int .u64 rem]) (by simp)).cell 0
   have cf1:U2.cell? ⟨n,1,none⟩=some (.int .u64 rem):=(t4.row (a:=5) (g:=n) (t:=74) (cs:=#[.int .u64 loc,.int .u64 rem]) (by simp)).cell 1
   have T4:=Lib.hid t4
   clear t3 t4
   apply QF.wpF_one
   (focus rfl)
   go_wp2
   rw [HZZ.out,HU1.out]
   refine QF.eff_ok rfl ?_ ?_
   · (repeat (first | exact QC.obl_nil | refine QC.obl_is (by assumption) ?_ | (apply QC.obl_dep;(focus decide))))
   apply QF.wpF_one
   (focus rfl)
   go_wp2
   rw [S1.out,HU2.out]
   refine QF.eff_ok rfl ?_ ?_
   · (repeat (first | exact QC.obl_nil | refine QC.obl_is (by assumption) ?_ | (apply QC.obl_dep;(focus decide))))
   have tm:=ow_mid (p7:=z) (p8:=(z+1)) (lo:=loc) T4.out (by simp) (by simp) (by simp)
   have k7:=(T4.out.row (a:=0) (g:=z) (t:=27) (cs:=#[.int .u64 0]) (by simp)).cell 0
   have f7:=(T4.out.row (a:=0) (g:=z) (t:=27) (cs:=#[.int .u64 0]) (by simp)).frozen 0
   obtain ⟨U3,hU3⟩:∃ U,U2.setCell ⟨z,0,none⟩ (.int .u64 loc)=U:=⟨_,rfl⟩
   rw [hU3] at tm
   have cg30:U3.cell? ⟨n,0,none⟩=some (.int .u64 loc):=by rw [←hU3,World.cell?_setCell_far _ _ _ _ (by show z≠n;first | exact nz0 | exact nz1)];exact cf0
   have cg31:U3.cell? ⟨n,1,none⟩=some (.int .u64 rem):=by rw [←hU3,World.cell?_setCell_far _ _ _ _ (by show z≠n;first | exact nz0 | exact nz1)];exact cf1
   have k8:=(tm.row (a:=1) (g:=(z+1)) (t:=27) (cs:=#[.int .u64 0]) (by simp)).cell 0
   have f8:=(tm.row (a:=1) (g:=(z+1)) (t:=27) (cs:=#[.int .u64 0]) (by simp)).frozen 0
   have ow:=ow_start (re:=rem) tm
   obtain ⟨U4,hU4⟩:∃ U,U3.setCell ⟨(z+1),0,none⟩ (.int .u64 rem)=U:=⟨_,rfl⟩
   rw [hU4] at ow
   have cg40:U4.cell? ⟨n,0,none⟩=some (.int .u64 loc):=by rw [←hU4,World.cell?_setCell_far _ _ _ _ (by show (z+1)≠n;first | exact nz0 | exact nz1)];exact cg30
   have cg41:U4.cell? ⟨n,1,none⟩=some (.int .u64 rem):=by rw [←hU4,World.cell?_setCell_far _ _ _ _ (by show (z+1)≠n;first | exact nz0 | exact nz1)];exact cg31
   have OW0:=Lib.hid ow;have HU3:=Lib.hid hU3;have HU4:=Lib.hid hU4
   clear tm hU3 hU4 ow
   apply QF.wpF_one
   (focus rfl)
   go_wp2
   rw [HU3.out]
   refine QF.eff_ok rfl ?_ ?_
   · (repeat (first | exact QC.obl_nil | refine QC.obl_is (by assumption) ?_ | (apply QC.obl_dep;(focus decide))))
   apply QF.wpF_one
   (focus rfl)
   go_wp2
   rw [HU4.out]
   refine QF.eff_ok rfl ?_ ?_
   · (repeat (first | exact QC.obl_nil | refine QC.obl_is (by assumption) ?_ | (apply QC.obl_dep;(focus decide))))
   refine QF.wpF_nil ?_
   clear k7 f7 k8 f8 c0 c1 ce0 ce1 cf0 cf1 cg30 cg31 cg40 cg41 T4 HU1 HU2 HU3 HU4 TU
   go_wp2
   go_loopg [10,22] k (fun gk it i v=>∃ (j:Nat) (aj:Option Addr) (lj cj:Nat),gk+j=k∧it=.slice aj lj cj∧i=.int .i64 j∧Hid (lj=(itsOf ours (ls.take j)).length)∧OW n w z (z+1) (gvLm ours (loc,rem) (ls.take j)).1 (gvLm ours (loc,rem) (ls.take j)).2 (.slice aj lj cj) (itsOf ours (ls.take j)) v)
   case atStart=>exact ⟨0,none,0,0,by omega,rfl,rfl,Lib.hid rfl,OW0.out⟩
   case round=>
    obtain ⟨j,aj,lj,cj,hg,rfl,rfl,hlj,oj⟩:=hrel
    have OJ:=Lib.hid oj
    clear oj OW0
    by_cases hlt:j<k
    · have hj:j<ls.length:=by rw [HK.out];exact hlt
      have HREL:=Lib.hid (show k-(j+1)+(j+1)=k by omega)
      have HMEA:=Lib.hid (show k-(j+1)<gk by omega)
      have hj1:IntKind.i64.wrap ((j:Int)+1)=((j+1:Nat):Int):=by rw [IntKind.wrap_i64];omega
      obtain ⟨x,hx⟩:∃ x,ls[j]=x:=⟨_,rfl⟩
      obtain ⟨g,go,rfl,hgl,hr⟩:=HL.out j x (by rw [←hx];exact List.getElem?_eq_getElem hj)
      have hr2:wr.rangeAt g (go+j*38) x.cells.toList:=fun i y hy=>by rw [OJ.out.tw.bel.cell (show g<n by rw [←HN.out];exact hgl)];exact hr i y hy
      have iCl:=iCl x;have iC:=iC x;have oC:=oC x;have zC:=zC x
      have c35:=x.c35;have c37:=x.c37;have c1':=x.c1
      have HSN:=Lib.hid (itsOf_snoc ours ls hj hx)
      have HGS:=Lib.hid (gvLm_snoc ours (loc,rem) ls hj hx)
      have hle:lj≤1000:=by have h1:=itsOf_le ours (ls.take j);rw [List.length_take] at h1;have:=hlj.out;omega
      have PX:=Lib.hid (PL.out x)
      have HROW:=Lib.hid (itOf_row ours x)
      have HLJ:=hlj
      have O2:=Lib.hid (OJ.out.same ((Below.refl _ _).alloc (Nat.le_refl _) (.cells x.cells 164)))
      have hh35:x.h.size=35:=x.h_size
      have hCH:x.cells=x.h++#[.bool x.own,.int .i64 x.st,.bool x.paid]:=rfl
      clear hg hx hj hlj hgl hr
      generalize gvLm ours (loc,rem) (ls.take j)=B at *
      obtain ⟨lo,re⟩:=B
      generalize itsOf ours (ls.take j)=I at *
      cases hP:pHas ours x with
      | true=>
        rw [hP] at PX HGS HSN
        rw [if_pos rfl] at HGS HSN
        have HCX:=Lib.hid (show x.cells=x.h++#[.bool x.own,.int .i64 x.st,.bool x.paid] from rfl)
        generalize hO:pOut ours x=O at *
        generalize hR:(itOf ours x).row=R at *
        have iR:R.size=36:=by rw [←hR];exact It.size _
        have oR:=(itOf ours x).one
        rw [hR] at oR
        have HR:=Lib.hid hR
        generalize x.h=H at *
        generalize x.own=o at *
        generalize x.paid=pd at *
        generalize hC:x.cells=C at *
        clear hC hP hO hR hCH
        obtain ⟨q,hq⟩:∃ q,wr.heap.size=q:=⟨_,rfl⟩
        have HQ:=Lib.hid hq
        obtain ⟨V,hV⟩:∃ V,wr.alloc (.cells #[.int .u64 0,.int .u64 0,.int .u8 0,.int .u8 0,.int .u8 0,.int .u8 0,.int .u8 0,.int .u8 0,.int .u8 0,.int .u8 0,.int .u8 0,.int .u8 0,.int .u8 0,.int .u8 0,.int .u8 0,.int .u8 0,.int .u8 0,.int .u8 0,.int .u8 0,.int .u8 0,.int .u8 0,.int .u8 0,.int .u8 0,.int .u8 0,.int .u8 0,.int .u8 0,.int .u8 0,.int .u8 0,.int .u8 0,.int .u8 0,.int .u8 0,.int .u8 0,.int .u8 0,.int .u8 0,.int .i64 0,.bool false,.int .i64 0,.bool false] 164)=V:=⟨_,rfl⟩
        have HV:=Lib.hid hV
        have rV:V.heap[q]?=some (.cells Z38 164 (0,0)):=by rw [←hV,← hq];exact heap_alloc_new wr (.cells Z38 164)
        have eU:V.setRow q C=wr.alloc (.cells C 164):=by rw [←hV,← hq];exact World.setRow_alloc_new wr Z38 C 164
        have RQ:=Lib.hid (show M.RowAt (wr.alloc (.cells C 164)) q 164 C from hq▸M.RowAt.new wr 164 C)
        have HU:=Lib.hid eU
        clear hq hV eU
        have HQ0:=Lib.hid (show (wr.alloc (.cells C 164)).heap[q]?=some (.cells C 164 (0,0)) from RQ.out)
        go_wp2_with (first | (refine wpList_load_mid (x:=.tmp 24) (ty:=164) (b:=g) (o:=go+j*38) (cs:=C.toList) ?_ ?_ ?_ _ hr2 Tryz.underlying164 rfl iCl ?_;rfl;rfl;rfl;rw [Array.toArray_toList]) | (rw [HQ.out,HV.out];refine wpList_store_row (x:=.tmp 12) (y:=.tmp 25) (cells:=C) (old:=Z38) (t:=164) (ty:=164) (g:=q) ?_ ?_ ?_ ?_ rV iC zC oC ?_;rfl;rfl;rfl;rfl;rw [HU.out]) | ((with_reducible refine wpList_load_row (x:=.tmp 12) (ty:=164) (g:=q) (cs:=C) (t:=164) (fr:=(0,0)) ?_ ?_ ?_ _ HQ0.out Tryz.underlying164 rfl iC ?_);rfl;rfl;rfl) | fail)
        refine (PX.out _ O2.out.tw.bel).mono ?_
        rintro e w1 ⟨rfl,b1⟩
        have O3:=Lib.hid (O2.out.same b1)
        have R1:=Lib.hid (M.RowAt.call RQ.out b1)
        have r35:=(R1.out.cell 35).trans c35
        have hr162:w1.rangeAt q 0 H.toList:=fun i y hy=>by
         rw [R1.out.cell,Nat.zero_add,HCX.out,Array.getElem?_append_left (by have:=(List.getElem?_eq_some_iff.1 hy).1;simpa using this),← Array.getElem?_toList];exact hy
        have iH:(Tryz.prog.info? 162).map (·.size)=some H.toList.length:=by rw [Array.length_toList,hh35];kernel_rfl
        have B222:=Lib.hid (fun W=>build222 (o==ours) H hh35 W)
        have O4:=Lib.hid (O3.out.same ((Below.refl _ _).alloc (Nat.le_refl _) (.cells R 222)))
        have OWK:Hid ((w1.alloc (.cells R 222)).ownsRow n 222 36 (.slice aj lj cj) lj (flatI I)):=Lib.hid (by have h:=O4.out.own;rw [←HLJ.out] at h;exact h)
        have GE:=Lib.hid O4.out.tw.ge
        have HCC:Hid (∀ i y,R.toList[i]?=some y→(w1.alloc (.cells R 222)).cell? ((⟨w1.heap.size,0,none⟩:Addr).add i)=some y):=Lib.hid (fun i y hy=>by
         rw [Addr.add_mid,Nat.zero_add,(M.RowAt.new w1 222 R).cell i,← Array.getElem?_toList];exact hy)
        have H1C:Hid (∀ y∈R.toList,y.oneCell'=true):=Lib.hid (fun y hy=>by rw [Array.all_eq_true'] at oR;exact oR y (by simpa using hy))
        have HSZ:=Lib.hid iR
        have BO:=Lib.hid (fill_one (z:=.agg Z36) hi1 (by decide) (by decide) R iR)
        rw [←HROW.out] at B222
        clear b1 c35 c37 c1' iR oR
        go_wp2_with (first | (refine wpList_load_mid (x:=.tmp 46) (ty:=162) (b:=q) (o:=0) (cs:=H.toList) ?_ ?_ ?_ _ hr162 Tryz.underlying162 rfl iH ?_;rfl;rfl;rfl;rw [Array.toArray_toList]) | ((with_reducible refine wpList_build_v (t:=222) (i:=0) (j:=1) (x:=.tmp 45) (y:=.tmp 47) ?_ ?_ R ?_ ?_);rfl;rfl;exact B222.out _) | (refine wpList_buildSlice ?_ 76 222 1 #[(0,.tmp 48)] ?_ R i0 (.agg Z36) Tryz.underlying76 hi hi0 ?_ ?_ ?_ ?_;rfl;rfl;exact BO.out.1;exact BO.out.2.1;(refine Eq.trans (congrArg (Instr.fill _ _) ?_) BO.out.2.2;rw [Array.toList_map];rfl)) | (at_builtin;refine wpList_append_sep2 _ rfl (.tmp 41) (.tmp 49) 76 rfl n 222 i0 _ 36 i0.bytes Tryz.underlying76 hi hi0 hi1 rfl rfl (by decide) (.slice aj lj cj) lj (flatI I) ?a1 OWK.out ⟨w1.heap.size,0,none⟩ 1 1 R.toList ?a2 ?a3 HCC.out ?a4 (by decide) ?a5 ?a6 GE.out ?_) | fail)
        case a3=>exact HSZ.out
        case a4=>exact fun y hy=>H1C.out y (by simpa using hy)
        case a5=>unfold maxLen;omega
        case a6=>
         have:(lj+1)*i0.bytes≤1001*1000:=Nat.mul_le_mul (by omega) hi2
         omega
        intro l' w5 ho hgr hs5
        obtain ⟨ak',ck',rfl⟩:=own_form ho
        have O5:Hid (OW n w z (z+1) lo re (.slice ak' (lj+1) ck') (I++[itOf ours x]) w5):=Lib.hid (O4.out.grow (by rw [List.length_append,← HLJ.out,flatI_app,flatI_cons,HR.out];simpa [flatI] using ho) hgr (hs5.imp id (fun h g e=>by have:=h g e;simp;omega)))
        clear ho hgr hs5
        go_wp2
        go_roundg (k-(j+1))
        case rel=>exact ⟨j+1,ak',lj+1,ck',HREL.out,rfl,by first | rfl | go_num,Lib.hid (by rw [HSN.out,List.length_append,HLJ.out];rfl),by rw [HGS.out,HSN.out];exact O5.out⟩
        case measure=>exact HMEA.out
      | false=>
        rw [hP] at PX HGS HSN
        rw [if_neg (by decide),List.append_nil] at HSN
        rw [if_neg (by decide)] at HGS
        have HGT:=Lib.hid (show gvT ours x=if pOut ours x&&x.paid then !x.own else x.own from rfl)
        generalize pOut ours x=O at *
        generalize gvT ours x=US at *
        generalize x.am=am at *
        generalize x.own=o at *
        generalize x.paid=pd at *
        generalize x.cells=C at *
        clear hP hCH HROW hh35
        cases O<;>cases pd
        all_goals
         simp only [Bool.and_true,Bool.and_false,if_true,if_false,Bool.false_eq_true] at HGT
         obtain ⟨q,hq⟩:∃ q,wr.heap.size=q:=⟨_,rfl⟩
         have HQ:=Lib.hid hq
         obtain ⟨V,hV⟩:∃ V,wr.alloc (.cells #[.int .u64 0,.int .u64 0,.int .u8 0,.int .u8 0,.int .u8 0,.int .u8 0,.int .u8 0,.int .u8 0,.int .u8 0,.int .u8 0,.int .u8 0,.int .u8 0,.int .u8 0,.int .u8 0,.int .u8 0,.int .u8 0,.int .u8 0,.int .u8 0,.int .u8 0,.int .u8 0,.int .u8 0,.int .u8 0,.int .u8 0,.int .u8 0,.int .u8 0,.int .u8 0,.int .u8 0,.int .u8 0,.int .u8 0,.int .u8 0,.int .u8 0,.int .u8 0,.int .u8 0,.int .u8 0,.int .i64 0,.bool false,.int .i64 0,.bool false] 164)=V:=⟨_,rfl⟩
         have HV:=Lib.hid hV
         have rV:V.heap[q]?=some (.cells Z38 164 (0,0)):=by rw [←hV,← hq];exact heap_alloc_new wr (.cells Z38 164)
         have eU:V.setRow q C=wr.alloc (.cells C 164):=by rw [←hV,← hq];exact World.setRow_alloc_new wr Z38 C 164
         have RQ:=Lib.hid (show M.RowAt (wr.alloc (.cells C 164)) q 164 C from hq▸M.RowAt.new wr 164 C)
         have HU:=Lib.hid eU
         clear hq hV eU
         have HQ0:=Lib.hid (show (wr.alloc (.cells C 164)).heap[q]?=some (.cells C 164 (0,0)) from RQ.out)
         go_wp2_with (first | (refine wpList_load_mid (x:=.tmp 24) (ty:=164) (b:=g) (o:=go+j*38) (cs:=C.toList) ?_ ?_ ?_ _ hr2 Tryz.underlying164 rfl iCl ?_;rfl;rfl;rfl;rw [Array.toArray_toList]) | (rw [HQ.out,HV.out];refine wpList_store_row (x:=.tmp 12) (y:=.tmp 25) (cells:=C) (old:=Z38) (t:=164) (ty:=164) (g:=q) ?_ ?_ ?_ ?_ rV iC zC oC ?_;rfl;rfl;rfl;rfl;rw [HU.out]) | ((with_reducible refine wpList_load_row (x:=.tmp 12) (ty:=164) (g:=q) (cs:=C) (t:=164) (fr:=(0,0)) ?_ ?_ ?_ _ HQ0.out Tryz.underlying164 rfl iC ?_);rfl;rfl;rfl) | fail)
         refine (PX.out _ O2.out.tw.bel).mono ?_
         rintro e w1 ⟨rfl,b1⟩
         have O3:=Lib.hid (O2.out.same b1)
         have R1:=Lib.hid (M.RowAt.call RQ.out b1)
         have r35:=(R1.out.cell 35).trans c35
         have r37:=(R1.out.cell 37).trans c37
         have r1:=(R1.out.cell 1).trans c1'
         clear b1 c35 c37 c1'
         go_wp2_with fail
         rw [←HGT.out]
         refine (O3.out.give US am).mono ?_
         rintro e w2 ⟨rfl,o4⟩
         have O4:=Lib.hid o4
         clear o4
         go_wp2
         go_roundg (k-(j+1))
         case rel=>exact ⟨j+1,aj,lj,cj,HREL.out,rfl,by first | rfl | go_num,Lib.hid (by rw [HSN.out];exact HLJ.out),by rw [HGS.out,HSN.out];exact O4.out⟩
         case measure=>exact HMEA.out
    · have hj:j=k:=by omega
      subst hj
      have OF:=OJ.out
      have hl2:=hlj.out
      rw [List.take_of_length_le (by rw [HK.out];omega)] at OF hl2
      have hI:=itsOf_le ours ls
      rw [HK.out] at hI
      have OWS:=OF.own
      rw [←hl2] at OWS
      have SO:=Lib.hid (own_sortg OWS hl2.symm (by omega))
      have OFH:=Lib.hid OF
      have HL2:=Lib.hid hl2
      have C7:=OF.c7
      clear hg hlt hlj OF hl2 hI OWS OJ
      go_wp2_with fail
      refine (SO.out).mono ?_
      rintro e w1 ⟨rfl,S,hp,hs,ho,hgr⟩
      have O6:=OFH.out.grow (J:=S) (by rw [hp.length_eq,← HL2.out];exact ho) hgr (.inl rfl)
      have c7:=O6.c7.1;have c8:=O6.c8.1
      have rw2:=O6.tw.row (a:=2) (g:=n+1) (t:=78) (cs:=#[.int .u64 0,.int .u64 0,.slice none 0 0]) (by simp)
      have HRW:Hid (w1.heap[n+1]?=some (.cells #[.int .u64 0,.int .u64 0,.slice none 0 0] 78 (0,0))):=Lib.hid rw2
      have HSR:=Lib.hid (fun cs=>O6.setR cs)
      have HP:=Lib.hid hp;have HS:=Lib.hid hs
      clear OFH C7 hp hs ho hgr O6 rw2 SO
      obtain ⟨lo,hlo⟩:∃ y,(gvLm ours (loc,rem) ls).1=y:=⟨_,rfl⟩
      obtain ⟨re,hre⟩:∃ y,(gvLm ours (loc,rem) ls).2=y:=⟨_,rfl⟩
      rw [hlo] at c7
      rw [hre] at c8
      have HLO:=Lib.hid hlo;have HRE:=Lib.hid hre
      clear hlo hre
      have I78:Hid ((Tryz.prog.info? 78).map (·.size)=some 3):=Lib.hid (by kernel_rfl)
      have O78:∀ a b:Nat,Hid ((#[.int .u64 a,.int .u64 b,.slice aj lj cj]:Array Value).all (·.oneCell')=true):=fun a b=>Lib.hid (by simp [Value.oneCell'])
      cases ours
      · go_wp2_with (first | (refine wpList_store_row (x:=.tmp 6) (y:=.tmp 76) (cells:=#[.int .u64 re,.int .u64 lo,.slice aj lj cj]) (old:=#[.int .u64 0,.int .u64 0,.slice none 0 0]) (t:=78) (ty:=78) (g:=n+1) ?_ ?_ ?_ ?_ HRW.out I78.out rfl (O78 _ _).out ?_;rfl;rfl;rfl;rfl) | fail)
        obtain ⟨r0,how,hbl⟩:=HSR.out #[.int .u64 re,.int .u64 lo,.slice aj lj cj]
        have hload:=run_loadVar_row (P:=Tryz.prog) _ (n+1) 78 78 #[.int .u64 re,.int .u64 lo,.slice aj lj cj] (0,0) _ r0 Tryz.underlying78 rfl I78.out
        refine bodyPost_ret (v:=.agg #[.int .u64 re,.int .u64 lo,.slice aj lj cj]) (by simp [results,Tryz.results33,asAddr,hload]) rfl ?_
        refine ⟨S,.slice aj lj cj,?_,HP.out,fun h=>HS.out (by have h1:=itsOf_le false ls;have h2:=HL2.out;have h3:=HK.out;omega),HN.out▸how,HN.out▸hbl⟩
        rw [HLO.out,HRE.out]
      · go_wp2_with (first | (refine wpList_store_row (x:=.tmp 6) (y:=.tmp 72) (cells:=#[.int .u64 lo,.int .u64 re,.slice aj lj cj]) (old:=#[.int .u64 0,.int .u64 0,.slice none 0 0]) (t:=78) (ty:=78) (g:=n+1) ?_ ?_ ?_ ?_ HRW.out I78.out rfl (O78 _ _).out ?_;rfl;rfl;rfl;rfl) | fail)
        obtain ⟨r0,how,hbl⟩:=HSR.out #[.int .u64 lo,.int .u64 re,.slice aj lj cj]
        have hload:=run_loadVar_row (P:=Tryz.prog) _ (n+1) 78 78 #[.int .u64 lo,.int .u64 re,.slice aj lj cj] (0,0) _ r0 Tryz.underlying78 rfl I78.out
        refine bodyPost_ret (v:=.agg #[.int .u64 lo,.int .u64 re,.slice aj lj cj]) (by simp [results,Tryz.results33,asAddr,hload]) rfl ?_
        refine ⟨S,.slice aj lj cj,?_,HP.out,fun h=>HS.out (by have h1:=itsOf_le true ls;have h2:=HL2.out;have h3:=HK.out;omega),HN.out▸how,HN.out▸hbl⟩
        rw [HLO.out,HRE.out]
 · skip
   have t3:=TU.out.newRow (a:=1) (NA.out 1 (by decide)) 27 #[.int .u64 0]
   rw [HZZ.out,HU1.out] at t3
   have t4:=t3.newRow (a:=0) (by intro y hy;rcases List.mem_cons.1 hy with rfl | hy;(show (1:Nat)≠0;decide);exact NA.out 0 (by decide) y hy) 27 #[.int .u64 0]
   rw [S1.out,HU2.out] at t4
   have ce0:U1.cell? ⟨n,0,none⟩=some (.int .u64 loc):=(t3.row (a:=5) (g:=n) (t:=74) (cs:=#[.int .u64 loc,.int .u64 rem]) (by simp)).cell 0
   have ce1:U1.cell? ⟨n,1,none⟩=some (.int .u64 rem):=(t3.row (a:=5) (g:=n) (t:=74) (cs:=#[.int .u64 loc,.int .u64 rem]) (by simp)).cell 1
   have cf0:U2.cell? ⟨n,0,none⟩=some (.int .u64 loc):=(t4.row (a:=5) (g:=n) (t:=74) (cs:=#[.int .u64 loc,.int .u64 rem]) (by simp)).cell 0
   have cf1:U2.cell? ⟨n,1,none⟩=some (.int .u64 rem):=(t4.row (a:=5) (g:=n) (t:=74) (cs:=#[.int .u64 loc,.int .u64 rem]) (by simp)).cell 1
   have T4:=Lib.hid t4
   clear t3 t4
   apply QF.wpF_one
   (focus rfl)
   go_wp2
   rw [HZZ.out,HU1.out]
   refine QF.eff_ok rfl ?_ ?_
   · (repeat (first | exact QC.obl_nil | refine QC.obl_is (by assumption) ?_ | (apply QC.obl_dep;(focus decide))))
   apply QF.wpF_one
   (focus rfl)
   go_wp2
   rw [S1.out,HU2.out]
   refine QF.eff_ok rfl ?_ ?_
   · (repeat (first | exact QC.obl_nil | refine QC.obl_is (by assumption) ?_ | (apply QC.obl_dep;(focus decide))))
   have tm:=ow_mid (p7:=(z+1)) (p8:=z) (lo:=loc) T4.out (by simp) (by simp) (by simp)
   have k7:=(T4.out.row (a:=0) (g:=(z+1)) (t:=27) (cs:=#[.int .u64 0]) (by simp)).cell 0
   have f7:=(T4.out.row (a:=0) (g:=(z+1)) (t:=27) (cs:=#[.int .u64 0]) (by simp)).frozen 0
   obtain ⟨U3,hU3⟩:∃ U,U2.setCell ⟨(z+1),0,none⟩ (.int .u64 loc)=U:=⟨_,rfl⟩
   rw [hU3] at tm
   have cg30:U3.cell? ⟨n,0,none⟩=some (.int .u64 loc):=by rw [←hU3,World.cell?_setCell_far _ _ _ _ (by show (z+1)≠n;first | exact nz0 | exact nz1)];exact cf0
   have cg31:U3.cell? ⟨n,1,none⟩=some (.int .u64 rem):=by rw [←hU3,World.cell?_setCell_far _ _ _ _ (by show (z+1)≠n;first | exact nz0 | exact nz1)];exact cf1
   have k8:=(tm.row (a:=1) (g:=z) (t:=27) (cs:=#[.int .u64 0]) (by simp)).cell 0
   have f8:=(tm.row (a:=1) (g:=z) (t:=27) (cs:=#[.int .u64 0]) (by simp)).frozen 0
   have ow:=ow_start (re:=rem) tm
   obtain ⟨U4,hU4⟩:∃ U,U3.setCell ⟨z,0,none⟩ (.int .u64 rem)=U:=⟨_,rfl⟩
   rw [hU4] at ow
   have cg40:U4.cell? ⟨n,0,none⟩=some (.int .u64 loc):=by rw [←hU4,World.cell?_setCell_far _ _ _ _ (by show z≠n;first | exact nz0 | exact nz1)];exact cg30
   have cg41:U4.cell? ⟨n,1,none⟩=some (.int .u64 rem):=by rw [←hU4,World.cell?_setCell_far _ _ _ _ (by show z≠n;first | exact nz0 | exact nz1)];exact cg31
   have OW0:=Lib.hid ow;have HU3:=Lib.hid hU3;have HU4:=Lib.hid hU4
   clear tm hU3 hU4 ow
   apply QF.wpF_one
   (focus rfl)
   go_wp2
   rw [HU3.out]
   refine QF.eff_ok rfl ?_ ?_
   · (repeat (first | exact QC.obl_nil | refine QC.obl_is (by assumption) ?_ | (apply QC.obl_dep;(focus decide))))
   apply QF.wpF_one
   (focus rfl)
   go_wp2
   rw [HU4.out]
   refine QF.eff_ok rfl ?_ ?_
   · (repeat (first | exact QC.obl_nil | refine QC.obl_is (by assumption) ?_ | (apply QC.obl_dep;(focus decide))))
   refine QF.wpF_nil ?_
   clear k7 f7 k8 f8 c0 c1 ce0 ce1 cf0 cf1 cg30 cg31 cg40 cg41 T4 HU1 HU2 HU3 HU4 TU
   go_wp2
   go_loopg [10,22] k (fun gk it i v=>∃ (j:Nat) (aj:Option Addr) (lj cj:Nat),gk+j=k∧it=.slice aj lj cj∧i=.int .i64 j∧Hid (lj=(itsOf ours (ls.take j)).length)∧OW n w (z+1) z (gvLm ours (loc,rem) (ls.take j)).1 (gvLm ours (loc,rem) (ls.take j)).2 (.slice aj lj cj) (itsOf ours (ls.take j)) v)
   case atStart=>exact ⟨0,none,0,0,by omega,rfl,rfl,Lib.hid rfl,OW0.out⟩
   case round=>
    obtain ⟨j,aj,lj,cj,hg,rfl,rfl,hlj,oj⟩:=hrel
    have OJ:=Lib.hid oj
    clear oj OW0
    by_cases hlt:j<k
    · have hj:j<ls.length:=by rw [HK.out];exact hlt
      have HREL:=Lib.hid (show k-(j+1)+(j+1)=k by omega)
      have HMEA:=Lib.hid (show k-(j+1)<gk by omega)
      have hj1:IntKind.i64.wrap ((j:Int)+1)=((j+1:Nat):Int):=by rw [IntKind.wrap_i64];omega
      obtain ⟨x,hx⟩:∃ x,ls[j]=x:=⟨_,rfl⟩
      obtain ⟨g,go,rfl,hgl,hr⟩:=HL.out j x (by rw [←hx];exact List.getElem?_eq_getElem hj)
      have hr2:wr.rangeAt g (go+j*38) x.cells.toList:=fun i y hy=>by rw [OJ.out.tw.bel.cell (show g<n by rw [←HN.out];exact hgl)];exact hr i y hy
      have iCl:=iCl x;have iC:=iC x;have oC:=oC x;have zC:=zC x
      have c35:=x.c35;have c37:=x.c37;have c1':=x.c1
      have HSN:=Lib.hid (itsOf_snoc ours ls hj hx)
      have HGS:=Lib.hid (gvLm_snoc ours (loc,rem) ls hj hx)
      have hle:lj≤1000:=by have h1:=itsOf_le ours (ls.take j);rw [List.length_take] at h1;have:=hlj.out;omega
      have PX:=Lib.hid (PL.out x)
      have HROW:=Lib.hid (itOf_row ours x)
      have HLJ:=hlj
      have O2:=Lib.hid (OJ.out.same ((Below.refl _ _).alloc (Nat.le_refl _) (.cells x.cells 164)))
      have hh35:x.h.size=35:=x.h_size
      have hCH:x.cells=x.h++#[.bool x.own,.int .i64 x.st,.bool x.paid]:=rfl
      clear hg hx hj hlj hgl hr
      generalize gvLm ours (loc,rem) (ls.take j)=B at *
      obtain ⟨lo,re⟩:=B
      generalize itsOf ours (ls.take j)=I at *
      cases hP:pHas ours x with
      | true=>
        rw [hP] at PX HGS HSN
        rw [if_pos rfl] at HGS HSN
        have HCX:=Lib.hid (show x.cells=x.h++#[.bool x.own,.int .i64 x.st,.bool x.paid] from rfl)
        generalize hO:pOut ours x=O at *
        generalize hR:(itOf ours x).row=R at *
        have iR:R.size=36:=by rw [←hR];exact It.size _
        have oR:=(itOf ours x).one
        rw [hR] at oR
        have HR:=Lib.hid hR
        generalize x.h=H at *
        generalize x.own=o at *
        generalize x.paid=pd at *
        generalize hC:x.cells=C at *
        clear hC hP hO hR hCH
        obtain ⟨q,hq⟩:∃ q,wr.heap.size=q:=⟨_,rfl⟩
        have HQ:=Lib.hid hq
        obtain ⟨V,hV⟩:∃ V,wr.alloc (.cells #[.int .u64 0,.int .u64 0,.int .u8 0,.int .u8 0,.int .u8 0,.int .u8 0,.int .u8 0,.int .u8 0,.int .u8 0,.int .u8 0,.int .u8 0,.int .u8 0,.int .u8 0,.int .u8 0,.int .u8 0,.int .u8 0,.int .u8 0,.int .u8 0,.int .u8 0,.int .u8 0,.int .u8 0,.int .u8 0,.int .u8 0,.int .u8 0,.int .u8 0,.int .u8 0,.int .u8 0,.int .u8 0,.int .u8 0,.int .u8 0,.int .u8 0,.int .u8 0,.int .u8 0,.int .u8 0,.int .i64 0,.bool false,.int .i64 0,.bool false] 164)=V:=⟨_,rfl⟩
        have HV:=Lib.hid hV
        have rV:V.heap[q]?=some (.cells Z38 164 (0,0)):=by rw [←hV,← hq];exact heap_alloc_new wr (.cells Z38 164)
        have eU:V.setRow q C=wr.alloc (.cells C 164):=by rw [←hV,← hq];exact World.setRow_alloc_new wr Z38 C 164
        have RQ:=Lib.hid (show M.RowAt (wr.alloc (.cells C 164)) q 164 C from hq▸M.RowAt.new wr 164 C)
        have HU:=Lib.hid eU
        clear hq hV eU
        have HQ0:=Lib.hid (show (wr.alloc (.cells C 164)).heap[q]?=some (.cells C 164 (0,0)) from RQ.out)
        go_wp2_with (first | (refine wpList_load_mid (x:=.tmp 24) (ty:=164) (b:=g) (o:=go+j*38) (cs:=C.toList) ?_ ?_ ?_ _ hr2 Tryz.underlying164 rfl iCl ?_;rfl;rfl;rfl;rw [Array.toArray_toList]) | (rw [HQ.out,HV.out];refine wpList_store_row (x:=.tmp 12) (y:=.tmp 25) (cells:=C) (old:=Z38) (t:=164) (ty:=164) (g:=q) ?_ ?_ ?_ ?_ rV iC zC oC ?_;rfl;rfl;rfl;rfl;rw [HU.out]) | ((with_reducible refine wpList_load_row (x:=.tmp 12) (ty:=164) (g:=q) (cs:=C) (t:=164) (fr:=(0,0)) ?_ ?_ ?_ _ HQ0.out Tryz.underlying164 rfl iC ?_);rfl;rfl;rfl) | fail)
        refine (PX.out _ O2.out.tw.bel).mono ?_
        rintro e w1 ⟨rfl,b1⟩
        have O3:=Lib.hid (O2.out.same b1)
        have R1:=Lib.hid (M.RowAt.call RQ.out b1)
        have r35:=(R1.out.cell 35).trans c35
        have hr162:w1.rangeAt q 0 H.toList:=fun i y hy=>by
         rw [R1.out.cell,Nat.zero_add,HCX.out,Array.getElem?_append_left (by have:=(List.getElem?_eq_some_iff.1 hy).1;simpa using this),← Array.getElem?_toList];exact hy
        have iH:(Tryz.prog.info? 162).map (·.size)=some H.toList.length:=by rw [Array.length_toList,hh35];kernel_rfl
        have B222:=Lib.hid (fun W=>build222 (o==ours) H hh35 W)
        have O4:=Lib.hid (O3.out.same ((Below.refl _ _).alloc (Nat.le_refl _) (.cells R 222)))
        have OWK:Hid ((w1.alloc (.cells R 222)).ownsRow n 222 36 (.slice aj lj cj) lj (flatI I)):=Lib.hid (by have h:=O4.out.own;rw [←HLJ.out] at h;exact h)
        have GE:=Lib.hid O4.out.tw.ge
        have HCC:Hid (∀ i y,R.toList[i]?=some y→(w1.alloc (.cells R 222)).cell? ((⟨w1.heap.size,0,none⟩:Addr).add i)=some y):=Lib.hid (fun i y hy=>by
         rw [Addr.add_mid,Nat.zero_add,(M.RowAt.new w1 222 R).cell i,← Array.getElem?_toList];exact hy)
        have H1C:Hid (∀ y∈R.toList,y.oneCell'=true):=Lib.hid (fun y hy=>by rw [Array.all_eq_true'] at oR;exact oR y (by simpa using hy))
        have HSZ:=Lib.hid iR
        have BO:=Lib.hid (fill_one (z:=.agg Z36) hi1 (by decide) (by decide) R iR)
        rw [←HROW.out] at B222
        clear b1 c35 c37 c1' iR oR
        go_wp2_with (first | (refine wpList_load_mid (x:=.tmp 46) (ty:=162) (b:=q) (o:=0) (cs:=H.toList) ?_ ?_ ?_ _ hr162 Tryz.underlying162 rfl iH ?_;rfl;rfl;rfl;rw [Array.toArray_toList]) | ((with_reducible refine wpList_build_v (t:=222) (i:=0) (j:=1) (x:=.tmp 45) (y:=.tmp 47) ?_ ?_ R ?_ ?_);rfl;rfl;exact B222.out _) | (refine wpList_buildSlice ?_ 76 222 1 #[(0,.tmp 48)] ?_ R i0 (.agg Z36) Tryz.underlying76 hi hi0 ?_ ?_ ?_ ?_;rfl;rfl;exact BO.out.1;exact BO.out.2.1;(refine Eq.trans (congrArg (Instr.fill _ _) ?_) BO.out.2.2;rw [Array.toList_map];rfl)) | (at_builtin;refine wpList_append_sep2 _ rfl (.tmp 41) (.tmp 49) 76 rfl n 222 i0 _ 36 i0.bytes Tryz.underlying76 hi hi0 hi1 rfl rfl (by decide) (.slice aj lj cj) lj (flatI I) ?qa1 OWK.out ⟨w1.heap.size,0,none⟩ 1 1 R.toList ?qa2 ?qa3 HCC.out ?qa4 (by decide) ?qa5 ?qa6 GE.out ?_) | fail)
        case qa3=>exact HSZ.out
        case qa4=>exact fun y hy=>H1C.out y (by simpa using hy)
        case qa5=>unfold maxLen;omega
        case qa6=>
         have:(lj+1)*i0.bytes≤1001*1000:=Nat.mul_le_mul (by omega) hi2
         omega
        intro l' w5 ho hgr hs5
        obtain ⟨ak',ck',rfl⟩:=own_form ho
        have O5:Hid (OW n w (z+1) z lo re (.slice ak' (lj+1) ck') (I++[itOf ours x]) w5):=Lib.hid (O4.out.grow (by rw [List.length_append,← HLJ.out,flatI_app,flatI_cons,HR.out];simpa [flatI] using ho) hgr (hs5.imp id (fun h g e=>by have:=h g e;simp;omega)))
        clear ho hgr hs5
        go_wp2
        go_roundg (k-(j+1))
        case rel=>exact ⟨j+1,ak',lj+1,ck',HREL.out,rfl,by first | rfl | go_num,Lib.hid (by rw [HSN.out,List.length_append,HLJ.out];rfl),by rw [HGS.out,HSN.out];exact O5.out⟩
        case measure=>exact HMEA.out
      | false=>
        rw [hP] at PX HGS HSN
        rw [if_neg (by decide),List.append_nil] at HSN
        rw [if_neg (by decide)] at HGS
        have HGT:=Lib.hid (show gvT ours x=if pOut ours x&&x.paid then !x.own else x.own from rfl)
        generalize pOut ours x=O at *
        generalize gvT ours x=US at *
        generalize x.am=am at *
        generalize x.own=o at *
        generalize x.paid=pd at *
        generalize x.cells=C at *
        clear hP hCH HROW hh35
        cases O<;>cases pd
        all_goals
         simp only [Bool.and_true,Bool.and_false,if_true,if_false,Bool.false_eq_true] at HGT
         obtain ⟨q,hq⟩:∃ q,wr.heap.size=q:=⟨_,rfl⟩
         have HQ:=Lib.hid hq
         obtain ⟨V,hV⟩:∃ V,wr.alloc (.cells #[.int .u64 0,.int .u64 0,.int .u8 0,.int .u8 0,.int .u8 0,.int .u8 0,.int .u8 0,.int .u8 0,.int .u8 0,.int .u8 0,.int .u8 0,.int .u8 0,.int .u8 0,.int .u8 0,.int .u8 0,.int .u8 0,.int .u8 0,.int .u8 0,.int .u8 0,.int .u8 0,.int .u8 0,.int .u8 0,.int .u8 0,.int .u8 0,.int .u8 0,.int .u8 0,.int .u8 0,.int .u8 0,.int .u8 0,.int .u8 0,.int .u8 0,.int .u8 0,.int .u8 0,.int .u8 0,.int .i64 0,.bool false,.int .i64 0,.bool false] 164)=V:=⟨_,rfl⟩
         have HV:=Lib.hid hV
         have rV:V.heap[q]?=some (.cells Z38 164 (0,0)):=by rw [←hV,← hq];exact heap_alloc_new wr (.cells Z38 164)
         have eU:V.setRow q C=wr.alloc (.cells C 164):=by rw [←hV,← hq];exact World.setRow_alloc_new wr Z38 C 164
         have RQ:=Lib.hid (show M.RowAt (wr.alloc (.cells C 164)) q 164 C from hq▸M.RowAt.new wr 164 C)
         have HU:=Lib.hid eU
         clear hq hV eU
         have HQ0:=Lib.hid (show (wr.alloc (.cells C 164)).heap[q]?=some (.cells C 164 (0,0)) from RQ.out)
         go_wp2_with (first | (refine wpList_load_mid (x:=.tmp 24) (ty:=164) (b:=g) (o:=go+j*38) (cs:=C.toList) ?_ ?_ ?_ _ hr2 Tryz.underlying164 rfl iCl ?_;rfl;rfl;rfl;rw [Array.toArray_toList]) | (rw [HQ.out,HV.out];refine wpList_store_row (x:=.tmp 12) (y:=.tmp 25) (cells:=C) (old:=Z38) (t:=164) (ty:=164) (g:=q) ?_ ?_ ?_ ?_ rV iC zC oC ?_;rfl;rfl;rfl;rfl;rw [HU.out]) | ((with_reducible refine wpList_load_row (x:=.tmp 12) (ty:=164) (g:=q) (cs:=C) (t:=164) (fr:=(0,0)) ?_ ?_ ?_ _ HQ0.out Tryz.underlying164 rfl iC ?_);rfl;rfl;rfl) | fail)
         refine (PX.out _ O2.out.tw.bel).mono ?_
         rintro e w1 ⟨rfl,b1⟩
         have O3:=Lib.hid (O2.out.same b1)
         have R1:=Lib.hid (M.RowAt.call RQ.out b1)
         have r35:=(R1.out.cell 35).trans c35
         have r37:=(R1.out.cell 37).trans c37
         have r1:=(R1.out.cell 1).trans c1'
         clear b1 c35 c37 c1'
         go_wp2_with fail
         rw [←HGT.out]
         refine (O3.out.give US am).mono ?_
         rintro e w2 ⟨rfl,o4⟩
         have O4:=Lib.hid o4
         clear o4
         go_wp2
         go_roundg (k-(j+1))
         case rel=>exact ⟨j+1,aj,lj,cj,HREL.out,rfl,by first | rfl | go_num,Lib.hid (by rw [HSN.out];exact HLJ.out),by rw [HGS.out,HSN.out];exact O4.out⟩
         case measure=>exact HMEA.out
    · have hj:j=k:=by omega
      subst hj
      have OF:=OJ.out
      have hl2:=hlj.out
      rw [List.take_of_length_le (by rw [HK.out];omega)] at OF hl2
      have hI:=itsOf_le ours ls
      rw [HK.out] at hI
      have OWS:=OF.own
      rw [←hl2] at OWS
      have SO:=Lib.hid (own_sortg OWS hl2.symm (by omega))
      have OFH:=Lib.hid OF
      have HL2:=Lib.hid hl2
      have C7:=OF.c7
      clear hg hlt hlj OF hl2 hI OWS OJ
      go_wp2_with fail
      refine (SO.out).mono ?_
      rintro e w1 ⟨rfl,S,hp,hs,ho,hgr⟩
      have O6:=OFH.out.grow (J:=S) (by rw [hp.length_eq,← HL2.out];exact ho) hgr (.inl rfl)
      have c7:=O6.c7.1;have c8:=O6.c8.1
      have rw2:=O6.tw.row (a:=2) (g:=n+1) (t:=78) (cs:=#[.int .u64 0,.int .u64 0,.slice none 0 0]) (by simp)
      have HRW:Hid (w1.heap[n+1]?=some (.cells #[.int .u64 0,.int .u64 0,.slice none 0 0] 78 (0,0))):=Lib.hid rw2
      have HSR:=Lib.hid (fun cs=>O6.setR cs)
      have HP:=Lib.hid hp;have HS:=Lib.hid hs
      clear OFH C7 hp hs ho hgr O6 rw2 SO
      obtain ⟨lo,hlo⟩:∃ y,(gvLm ours (loc,rem) ls).1=y:=⟨_,rfl⟩
      obtain ⟨re,hre⟩:∃ y,(gvLm ours (loc,rem) ls).2=y:=⟨_,rfl⟩
      rw [hlo] at c7
      rw [hre] at c8
      have HLO:=Lib.hid hlo;have HRE:=Lib.hid hre
      clear hlo hre
      have I78:Hid ((Tryz.prog.info? 78).map (·.size)=some 3):=Lib.hid (by kernel_rfl)
      have O78:∀ a b:Nat,Hid ((#[.int .u64 a,.int .u64 b,.slice aj lj cj]:Array Value).all (·.oneCell')=true):=fun a b=>Lib.hid (by simp [Value.oneCell'])
      cases ours
      · go_wp2_with (first | (refine wpList_store_row (x:=.tmp 6) (y:=.tmp 76) (cells:=#[.int .u64 re,.int .u64 lo,.slice aj lj cj]) (old:=#[.int .u64 0,.int .u64 0,.slice none 0 0]) (t:=78) (ty:=78) (g:=n+1) ?_ ?_ ?_ ?_ HRW.out I78.out rfl (O78 _ _).out ?_;rfl;rfl;rfl;rfl) | fail)
        obtain ⟨r0,how,hbl⟩:=HSR.out #[.int .u64 re,.int .u64 lo,.slice aj lj cj]
        have hload:=run_loadVar_row (P:=Tryz.prog) _ (n+1) 78 78 #[.int .u64 re,.int .u64 lo,.slice aj lj cj] (0,0) _ r0 Tryz.underlying78 rfl I78.out
        refine bodyPost_ret (v:=.agg #[.int .u64 re,.int .u64 lo,.slice aj lj cj]) (by simp [results,Tryz.results33,asAddr,hload]) rfl ?_
        refine ⟨S,.slice aj lj cj,?_,HP.out,fun h=>HS.out (by have h1:=itsOf_le false ls;have h2:=HL2.out;have h3:=HK.out;omega),HN.out▸how,HN.out▸hbl⟩
        rw [HLO.out,HRE.out]
      · go_wp2_with (first | (refine wpList_store_row (x:=.tmp 6) (y:=.tmp 72) (cells:=#[.int .u64 lo,.int .u64 re,.slice aj lj cj]) (old:=#[.int .u64 0,.int .u64 0,.slice none 0 0]) (t:=78) (ty:=78) (g:=n+1) ?_ ?_ ?_ ?_ HRW.out I78.out rfl (O78 _ _).out ?_;rfl;rfl;rfl;rfl) | fail)
        obtain ⟨r0,how,hbl⟩:=HSR.out #[.int .u64 lo,.int .u64 re,.slice aj lj cj]
        have hload:=run_loadVar_row (P:=Tryz.prog) _ (n+1) 78 78 #[.int .u64 lo,.int .u64 re,.slice aj lj cj] (0,0) _ r0 Tryz.underlying78 rfl I78.out
        refine bodyPost_ret (v:=.agg #[.int .u64 lo,.int .u64 re,.slice aj lj cj]) (by simp [results,Tryz.results33,asAddr,hload]) rfl ?_
        refine ⟨S,.slice aj lj cj,?_,HP.out,fun h=>HS.out (by have h1:=itsOf_le true ls;have h2:=HL2.out;have h3:=HK.out;omega),HN.out▸how,HN.out▸hbl⟩
        rw [HLO.out,HRE.out]
end Vw
open Oc
set_option linter.unusedVariables false
theorem mod_mul_div {n P Q:Int} (hp:0<P):n%(P*Q)/P=n/P%Q:=by
 have h1:n%(P*Q)=n+P*(-(Q*(n/P/Q))):=by
  rw [Int.emod_def,Int.ediv_ediv_of_nonneg (Int.le_of_lt hp),Int.mul_neg,← Int.mul_assoc];omega
 rw [h1,Int.add_mul_ediv_left _ _ (Int.ne_of_gt hp),Int.emod_def];omega
def u8s (l:List Int):List UInt8:=l.map fun n=>UInt8.ofNat n.toNat
theorem mod_split (N:Int) (k:Nat):N%256 ^ (k+1)=N/256 ^ k%256*256 ^ k+N%256 ^ k:=by
 have hp:(0:Int)<256 ^ k:=Int.pow_pos (by decide)
 have h1:N%(256 ^ k*256)/256 ^ k=N/256 ^ k%256:=mod_mul_div hp
 have h2:N%(256 ^ k*256)%256 ^ k=N%256 ^ k:=Int.emod_emod_of_dvd N ⟨256,rfl⟩
 have h3:=Int.mul_ediv_add_emod (N%(256 ^ k*256)) (256 ^ k)
 rw [Int.pow_succ]
 rw [h1,h2] at h3
 rw [←h3,Int.mul_comm (256 ^ k)]
theorem val_low_acc (N:Int):∀ (k:Nat) (a:Int),(u8s (low N k)).foldl (fun a b=>a*256+(b.toNat:Int)) a=a*256 ^ k+N%256 ^ k
 | 0,a=>by simp [low,u8s]
 | k+1,a=>by
   have h0:=Int.emod_nonneg (N/256 ^ k) (b:=256) (by decide)
   have h1:=Int.emod_lt_of_pos (N/256 ^ k) (b:=256) (by decide)
   have hx:((UInt8.ofNat (N/256 ^ k%256).toNat).toNat:Int)=N/256 ^ k%256:=by rw [UInt8.toNat_ofNat'];omega
   show (u8s (low N k)).foldl (fun a b=>a*256+(b.toNat:Int)) (a*256+((UInt8.ofNat (N/256 ^ k%256).toNat).toNat:Int))=_
   rw [val_low_acc N k,hx,mod_split,Int.add_mul,Int.pow_succ,Int.mul_comm (256 ^ k) 256,← Int.mul_assoc,Int.add_assoc]
theorem val_low (N:Int) (k:Nat) (h0:0≤N) (h1:N<256 ^ k):val (u8s (low N k))=N:=by
 unfold val;rw [val_low_acc,Int.emod_eq_of_lt h0 h1];omega
theorem str_list (l:List Int):(strOfNums l).data.toList=u8s l:=by simp [strOfNums,u8s]
theorem back_of (A R:ByteArray):(A++R).extract A.size (A.size+R.size)=R:=by
 apply ByteArray.ext;apply Array.ext'
 simp
 rw [List.drop_eq_nil_of_le (by simp),List.take_nil,List.nil_append]
 exact List.take_of_length_le (by simp)
theorem rdN_low (N:Int) (k:Nat) (R:ByteArray) (h0:0≤N) (h1:N<256 ^ k) (k1:1≤k) (k8:k≤8) :
 rdN (strOfNums (low N k)++R) k=N∧rdE (strOfNums (low N k)++R) k=0∧rdS (strOfNums (low N k)++R) k=R:=by
 have hs:(strOfNums (low N k)).size=k:=by rw [strOfNums_size,low_len]
 have hsz:(strOfNums (low N k)++R).size=k+R.size:=by rw [ByteArray.size_append,hs]
 refine ⟨?_,?_,?_⟩
 · unfold rdN
   rw [if_neg (by omega),Int.toNat_natCast]
   have e:(strOfNums (low N k)++R).data.toList.take k=u8s (low N k):=by
    rw [ByteArray.data_append,Array.toList_append,str_list,List.take_append_of_le_length (by simp [u8s,low_len])]
    exact List.take_of_length_le (by simp [u8s,low_len])
   rw [e,val_low N k h0 h1]
 · unfold rdE
   rw [if_neg (by omega),if_neg (by omega)]
 · unfold rdS
   rw [if_neg (by omega),Int.toNat_natCast,hsz]
   have e:=back_of (strOfNums (low N k)) R
   rw [hs] at e
   exact e
theorem empty_app (A:ByteArray):ByteArray.empty++A=A:=by simp
open Oc
open Go.RowKit
set_option linter.unusedVariables false
theorem wnum (n k:Nat) (a:Addr) (s:ByteArray) (w:World) (hn:((n:Nat):Int)<256 ^ k) (h64:n<18446744073709551616) (h1:1≤k) (h8:k≤8) (hs:s.size≤4611686018427387904) (h:At w a s) :
 Calls Tryz.prog 105 #[.pointer (some a),.int .u64 n,.int .i64 k] w fun e w'=>e=.returned (.int .i64 0)∧Below w.heap.size (w.setCell a (.string (s++strOfNums (low n k)))) w':=by
 have hz:(n:Int)/2 ^ (8*(k:Int)).toNat=0:=by rw [pow8];exact Int.ediv_eq_zero_of_lt (by omega) hn
 have hc:¬ ((k:Int)<1∨8<(k:Int)∨(n:Int)/2 ^ (8*(k:Int)).toNat≠0):=by rw [hz];omega
 have r:=number_any n k a s w (by omega) (by omega) hs h
 have e1:numE n k=0:=by unfold numE;rw [if_neg hc]
 have e2:numB n k=low n k:=by unfold numB;rw [if_neg hc,Int.toNat_natCast,top_low]
 rw [e1,e2] at r
 exact r
namespace Vw
open Oc
open Go.RowKit
set_option linter.unusedVariables false
def fl (F:Nat→Nat):List Int:=(List.range 32).map fun i=>(F i:Int)
theorem fl_len (F:Nat→Nat):(fl F).length=32:=by unfold fl;simp
theorem fl_row (F:Nat→Nat):hashV (fl F)=.agg (r8 32 F):=by
 unfold hashV ints fl r8 M.rowF
 rw [List.map_map];rfl
def exU (x:It):Nat:=(IntKind.u64.wrap x.ex).toNat
theorem exU_eq (x:It):IntKind.u64.wrap x.ex=(exU x:Int):=by
 unfold exU;rw [IntKind.wrap_u64];omega
theorem exU_lt (x:It):exU x<18446744073709551616:=by
 unfold exU;rw [IntKind.wrap_u64];omega
def txH (ch num o t k:Nat):ByteArray:=((((.empty++strOfNums (low ch 4))++strOfNums (low num 8))++strOfNums (low o 8))++strOfNums (low t 8))++strOfNums (low (k%65536:Nat) 2)
def txI (s:ByteArray) (x:It):ByteArray:=((((s++strOfNums (low ((1-rk x:Nat):Int) 1))++strOfNums (low x.id 8))++strOfNums (low x.am 8))++strOfNums (fl x.F))++strOfNums (low (exU x) 8)
def txt (ch num o t:Nat) (L:List It):ByteArray:=L.foldl txI (txH ch num o t L.length)
theorem txH_size (ch num o t k:Nat):(txH ch num o t k).size=30:=by unfold txH;simp [strOfNums_size,low_len]
theorem txI_size (s:ByteArray) (x:It):(txI s x).size=s.size+57:=by unfold txI;simp [strOfNums_size,low_len,fl_len]
theorem fold_size:∀ (L:List It) (s:ByteArray),(L.foldl txI s).size=s.size+57*L.length
 | [],s=>by simp
 | x::L,s=>by rw [List.foldl_cons,fold_size L,txI_size];simp;omega
theorem txt_size (ch num o t:Nat) (L:List It):(txt ch num o t L).size=30+57*L.length:=by unfold txt;rw [fold_size,txH_size]
theorem IR.at_i' {v:World} {g i:Nat} {L:List It} {T:List Value} (h:IR v g L T) (hi:i<L.length):v.rangeAt g (i*36) (L[i]).row.toList:=by
 have e:L=L.take i++L[i]::L.drop (i+1):=by rw [←List.drop_eq_getElem_cons hi,List.take_append_drop]
 have:=h.at_ e
 rwa [show (L.take i).length=i by simp;omega] at this
def IAt (w:World) (ad:Option Addr) (L:List It):Prop:=∀ i x,L[i]?=some x→∃ g,ad=some ⟨g,0,none⟩∧g<w.heap.size∧w.rangeAt g (i*36) x.row.toList
theorem IAt.below {w w':World} {n:Nat} {ad:Option Addr} {L:List It} (h:IAt w ad L) (hb:Below n w w') (hn:w.heap.size≤n):IAt w' ad L:=fun i x hx=>by
 obtain ⟨g,e,hg,hr⟩:=h i x hx
 exact ⟨g,e,Nat.lt_of_lt_of_le hg hb.size,fun j v hv=>by rw [hb.cell (show g<n by omega)];exact hr j v hv⟩
theorem IAt.of {w:World} {b k c:Nat} {ad:Option Addr} {L:List It} (h:w.ownsRow b 222 36 (.slice ad k c) k (flatI L)):IAt w ad L:=fun i x hx=>by
 have hi:i<L.length:=(List.getElem?_eq_some_iff.1 hx).1
 rcases h.2 with ⟨e,h0⟩ | ⟨g,cap,cur,e,hb,hg,hle,hmx,hsz,htk⟩
 · have h1:=h.1
   rw [h0,flatI_len] at h1
   omega
 · cases e
   have ir:IR w g L (cur.toList.drop (k*36)):=by
    show w.heap[g]?=_
    rw [hg,← htk,List.take_append_drop]
   refine ⟨g,rfl,ir.lt,?_⟩
   have:=ir.at_i' hi
   rwa [show L[i]=x from (List.getElem?_eq_some_iff.1 hx).2] at this
structure Wt (n:Nat) (w:World) (V:Array Value) (s:ByteArray) (v:World):Prop where
 tw:TW n w [(0,.row (n+1) 207 #[.string s]),(1,.row n 78 V)] v
section
variable {n:Nat} {w v v':World} {V:Array Value} {s:ByteArray}
theorem Wt.at (h:Wt n w V s v):At v ⟨n+1,0,none⟩ s:=by
 have r:=h.tw.row (a:=0) List.mem_cons_self
 exact ⟨r.cell 0,r.frozen 0⟩
theorem Wt.view (h:Wt n w V s v):M.RowAt v n 78 V:=h.tw.row (a:=1) (List.mem_cons_of_mem _ List.mem_cons_self)
theorem Wt.next {s':ByteArray} (h:Wt n w V s v) (hb:Below v.heap.size (v.setCell ⟨n+1,0,none⟩ (.string s')) v'):Wt n w V s' v':=by
 have t:=h.tw.setCell (fun y hy=>by
  simp only [List.mem_cons,List.not_mem_nil,or_false] at hy
  rcases hy with rfl
  show (1:Nat)≠0;decide) 0 (.string s')
 have hz:(v.setCell ⟨n+1,0,none⟩ (.string s')).heap.size=v.heap.size:=by simp
 exact ⟨t.same (hz▸hb)⟩
theorem Wt.same (h:Wt n w V s v) (hb:Below v.heap.size v v'):Wt n w V s v':=⟨h.tw.same hb⟩
theorem Wt.num (h:Wt n w V s v) (m k:Nat) (hn:((m:Nat):Int)<256 ^ k) (h64:m<18446744073709551616) (h1:1≤k) (h8:k≤8) (hs:s.size≤1000000) :
 Calls Tryz.prog 105 #[.pointer (some ⟨n+1,0,none⟩),.int .u64 m,.int .i64 k] v fun e v'=>e=.returned (.int .i64 0)∧Wt n w V (s++strOfNums (low m k)) v':=by
 refine (wnum m k ⟨n+1,0,none⟩ s v hn h64 h1 h8 (by omega) h.at).mono ?_
 rintro e v' ⟨rfl,hb⟩
 exact ⟨rfl,h.next hb⟩
theorem Wt.hash (h:Wt n w V s v) (F:Nat→Nat) (hs:s.size≤1000000) :
 Calls Tryz.prog 125 #[.pointer (some ⟨n+1,0,none⟩),.agg (r8 32 F)] v fun e v'=>e=.returned (.tuple #[])∧Wt n w V (s++strOfNums (fl F)) v':=by
 rw [←fl_row]
 refine (whash_any (fl F) ⟨n+1,0,none⟩ s v (fl_len F) (by omega) h.at).mono ?_
 rintro e v' ⟨rfl,hb⟩
 exact ⟨rfl,h.next hb⟩
end
structure Wq (n:Nat) (w:World) (V:Array Value) (q:Nat) (C:Array Value) (s:ByteArray) (v:World):Prop where
 tw:TW n w [(2,.row q 222 C),(0,.row (n+1) 207 #[.string s]),(1,.row n 78 V)] v
section
variable {n q:Nat} {w v v':World} {V C:Array Value} {s:ByteArray}
theorem Wq.wt (h:Wq n w V q C s v):Wt n w V s v:=⟨h.tw.sub (fun y hy=>List.mem_cons_of_mem _ hy)⟩
theorem Wq.box (h:Wq n w V q C s v):M.RowAt v q 222 C:=h.tw.row (a:=2) List.mem_cons_self
theorem Wq.next {s':ByteArray} (h:Wq n w V q C s v) (hb:Below v.heap.size (v.setCell ⟨n+1,0,none⟩ (.string s')) v'):Wq n w V q C s' v':=by
 have t0:=h.tw.sub (X':=[(0,.row (n+1) 207 #[.string s]),(2,.row q 222 C),(1,.row n 78 V)]) (fun y hy=>by
  simp only [List.mem_cons,List.not_mem_nil,or_false] at hy ⊢
  rcases hy with e | e | e
  · exact .inr (.inl e)
  · exact .inl e
  · exact .inr (.inr e))
 have t:=t0.setCell (fun y hy=>by
  simp only [List.mem_cons,List.not_mem_nil,or_false] at hy
  rcases hy with rfl | rfl
  · show (2:Nat)≠0;decide
  · show (1:Nat)≠0;decide) 0 (.string s')
 have hz:(v.setCell ⟨n+1,0,none⟩ (.string s')).heap.size=v.heap.size:=by simp
 exact ⟨(t.same (hz▸hb)).sub (fun y hy=>by
  simp only [List.mem_cons,List.not_mem_nil,or_false] at hy ⊢
  rcases hy with e | e | e
  · exact .inr (.inl e)
  · exact .inl e
  · exact .inr (.inr e))⟩
theorem Wq.same (h:Wq n w V q C s v) (hb:Below v.heap.size v v'):Wq n w V q C s v':=⟨h.tw.same hb⟩
theorem Wq.num (h:Wq n w V q C s v) (m k:Nat) (hn:((m:Nat):Int)<256 ^ k) (h64:m<18446744073709551616) (h1:1≤k) (h8:k≤8) (hs:s.size≤1000000) :
 Calls Tryz.prog 105 #[.pointer (some ⟨n+1,0,none⟩),.int .u64 m,.int .i64 k] v fun e v'=>e=.returned (.int .i64 0)∧Wq n w V q C (s++strOfNums (low m k)) v':=by
 refine (wnum m k ⟨n+1,0,none⟩ s v hn h64 h1 h8 (by omega) h.wt.at).mono ?_
 rintro e v' ⟨rfl,hb⟩
 exact ⟨rfl,h.next hb⟩
theorem Wq.hash (h:Wq n w V q C s v) (F:Nat→Nat) (hs:s.size≤1000000) :
 Calls Tryz.prog 125 #[.pointer (some ⟨n+1,0,none⟩),.agg (r8 32 F)] v fun e v'=>e=.returned (.tuple #[])∧Wq n w V q C (s++strOfNums (fl F)) v':=by
 rw [←fl_row]
 refine (whash_any (fl F) ⟨n+1,0,none⟩ s v (fl_len F) (by omega) h.wt.at).mono ?_
 rintro e v' ⟨rfl,hb⟩
 exact ⟨rfl,h.next hb⟩
end
def Y36:Array Value:=#[.bool false,.int .u64 0,.int .u64 0,.int .u8 0,.int .u8 0,.int .u8 0,.int .u8 0,.int .u8 0,.int .u8 0,.int .u8 0,.int .u8 0,.int .u8 0,.int .u8 0,.int .u8 0,.int .u8 0,.int .u8 0,.int .u8 0,.int .u8 0,.int .u8 0,.int .u8 0,.int .u8 0,.int .u8 0,.int .u8 0,.int .u8 0,.int .u8 0,.int .u8 0,.int .u8 0,.int .u8 0,.int .u8 0,.int .u8 0,.int .u8 0,.int .u8 0,.int .u8 0,.int .u8 0,.int .u8 0,.int .i64 0]
theorem p8 (m:Nat) (h:m<18446744073709551616):((m:Nat):Int)<256 ^ 8:=by
 have:(256:Int) ^ 8=18446744073709551616:=by decide
 omega
set_option maxRecDepth 100000 in
set_option maxHeartbeats 8000000 in
theorem text_any (ch num o t:Nat) (ad:Option Addr) (cap:Nat) (L:List It) (w:World) (hI:IAt w ad L) (hch:ch<4294967296) (hnum:num≤1000000000) (ho:o<18446744073709551616) (ht:t<18446744073709551616) (hL:∀ x∈L,x.id<18446744073709551616∧x.am<18446744073709551616) (hk:L.length≤1000) :
 Calls Tryz.prog 34 #[.int .u32 ch,.int .i64 num,.agg #[.int .u64 o,.int .u64 t,.slice ad L.length cap]] w fun e w'=>e=.returned (.string (txt ch num o t L))∧Below w.heap.size w w':=by
 obtain ⟨n,hn⟩:∃ n,w.heap.size=n:=⟨_,rfl⟩
 obtain ⟨k,hkk⟩:∃ k,L.length=k:=⟨_,rfl⟩
 have hT:txt ch num o t L=L.foldl txI (txH ch num o t k):=by unfold txt;rw [hkk]
 rw [hkk] at hk ⊢
 have t0:=(TW.start w).newRow (a:=1) (fun y hy=>by cases hy) 78 #[.int .u64 o,.int .u64 t,.slice ad k cap]
 have t1:=t0.newRow (a:=0) (fun y hy=>by
  simp only [List.mem_cons,List.not_mem_nil,or_false] at hy
  rcases hy with rfl
  show (1:Nat)≠0;decide) 207 #[.string .empty]
 rw [show (w.alloc (.cells #[.int .u64 o,.int .u64 t,.slice ad k cap] 78)).heap.size=n+1 by simp [hn],hn] at t1
 obtain ⟨w1,hw1⟩:∃ w1,(w.alloc (.cells #[.int .u64 o,.int .u64 t,.slice ad k cap] 78)).alloc (.cells #[.string ⟨#[]⟩] 207)=w1:=⟨_,rfl⟩
 have h1:Wt n w #[.int .u64 o,.int .u64 t,.slice ad k cap] .empty w1:=⟨hw1▸t1⟩
 have hm1:IntKind.u64.wrap (ch:Int)=(ch:Int):=by rw [IntKind.wrap_u64];omega
 have hm2:IntKind.u64.wrap (num:Int)=(num:Int):=by rw [IntKind.wrap_u64];omega
 have hm3:IntKind.u64.wrap (((k%65536:Nat):Nat):Int)=((k%65536:Nat):Int):=by rw [IntKind.wrap_u64];omega
 have hm4:((k:Nat):Int).tmod 65536=((k%65536:Nat):Int):=by rw [Int.tmod_eq_emod_of_nonneg (by omega)];omega
 have e256:(256:Int) ^ 2=65536:=by decide
 have e4:(256:Int) ^ 4=4294967296:=by decide
 have C1:=Lib.hid (fun v s (h:Wt n w #[.int .u64 o,.int .u64 t,.slice ad k cap] s v) (hs:s.size≤1000000)=>h.num ch 4 (by rw [e4];omega) (by omega) (by decide) (by decide) hs)
 have C2:=Lib.hid (fun v s (h:Wt n w #[.int .u64 o,.int .u64 t,.slice ad k cap] s v) (hs:s.size≤1000000)=>h.num num 8 (p8 num (by omega)) (by omega) (by decide) (by decide) hs)
 have C3:=Lib.hid (fun v s (h:Wt n w #[.int .u64 o,.int .u64 t,.slice ad k cap] s v) (hs:s.size≤1000000)=>h.num o 8 (p8 o ho) ho (by decide) (by decide) hs)
 have C4:=Lib.hid (fun v s (h:Wt n w #[.int .u64 o,.int .u64 t,.slice ad k cap] s v) (hs:s.size≤1000000)=>h.num t 8 (p8 t ht) ht (by decide) (by decide) hs)
 have C5:=Lib.hid (fun v s (h:Wt n w #[.int .u64 o,.int .u64 t,.slice ad k cap] s v) (hs:s.size≤1000000)=>h.num (k%65536) 2 (by rw [e256];omega) (by omega) (by decide) (by decide) hs)
 have HI:=Lib.hid hI;have HN:=Lib.hid hn;have HK:=Lib.hid hkk;have HT:=Lib.hid hT;have HV:=Lib.hid hw1;have H1:=Lib.hid h1;have HLL:=Lib.hid hL
 have HTX:=Lib.hid (show txH ch num o t k=((((.empty++strOfNums (low ch 4))++strOfNums (low num 8))++strOfNums (low o 8))++strOfNums (low t 8))++strOfNums (low (k%65536:Nat) 2) from rfl)
 have HK2:=Lib.hid hk
 have hk2:k≤9223372036854775807:=by omega
 clear hI hn hkk hT hw1 h1 hL t0 t1 hch hnum ho ht e256 e4 hk
 go_enter Tryz.func34,Tryz.ntmps34
 go_wp2_with fail
 rw [HV.out,HN.out]
 refine (C1.out _ _ H1.out (by decide)).mono ?_
 rintro e v1 ⟨rfl,a1⟩
 have A1:=Lib.hid a1
 clear a1
 go_wp2_with fail
 refine (C2.out _ _ A1.out (by simp [strOfNums_size,low_len])).mono ?_
 rintro e v2 ⟨rfl,a2⟩
 have A2:=Lib.hid a2
 have x0:=a2.view.cell 0
 clear a2
 go_wp2_with fail
 refine (C3.out _ _ A2.out (by simp [strOfNums_size,low_len])).mono ?_
 rintro e v3 ⟨rfl,a3⟩
 have A3:=Lib.hid a3
 have x1:=a3.view.cell 1
 clear a3 x0
 go_wp2_with fail
 refine (C4.out _ _ A3.out (by simp [strOfNums_size,low_len])).mono ?_
 rintro e v4 ⟨rfl,a4⟩
 have A4:=Lib.hid a4
 have x2:=a4.view.cell 2
 clear a4 x1
 go_wp2_with fail
 refine (C5.out _ _ A4.out (by simp [strOfNums_size,low_len])).mono ?_
 rintro e v5 ⟨rfl,a5⟩
 rw [←HTX.out] at a5
 have A5:=Lib.hid a5
 have x3:=a5.view.cell 2
 clear a5 x2
 go_wp2
 go_loopg [38] k (fun gm x W=>∃ j,gm=k-j∧j≤k∧x=.int .i64 j∧Wt n w #[.int .u64 o,.int .u64 t,.slice ad k cap] ((L.take j).foldl txI (txH ch num o t k)) W)
 case atStart=>exact ⟨0,rfl,Nat.zero_le _,rfl,A5.out⟩
 case round=>
  clear x3
  obtain ⟨j,hgm,hj,rfl,wt⟩:=hrel
  have WTJ:=Lib.hid wt;have HGM:=Lib.hid hgm
  clear wt hgm
  by_cases hjk:j<k
  · obtain ⟨x,hx⟩:∃ x,L[j]?=some x:=⟨_,List.getElem?_eq_getElem (by rw [HK.out];exact hjk)⟩
    obtain ⟨g,rfl,hg,hr⟩:=HI.out j x hx
    have d1:decide ((j:Int)<(k:Int))=true:=by simp;omega
    have hi1:(j:Int)<(k:Int):=by omega
    have hi2:(0:Int)≤(j:Int):=by omega
    have hs:=fold_size (L.take j) (txH ch num o t k)
    rw [txH_size] at hs
    have hlen:(L.take j).length≤1000:=by simp;have:=HK.out;have:=HK2.out;omega
    have hxm:x∈L:=List.mem_of_getElem? hx
    obtain ⟨xi,xa⟩:=HLL.out x hxm
    have hnext:(L.take (j+1)).foldl txI (txH ch num o t k)=txI ((L.take j).foldl txI (txH ch num o t k)) x:=by
     have hlt:j<L.length:=by rw [HK.out];exact hjk
     rw [List.take_succ_eq_append_getElem hlt,List.foldl_append,(List.getElem?_eq_some_iff.1 hx).2];rfl
    obtain ⟨sj,hsj⟩:∃ sj,(L.take j).foldl txI (txH ch num o t k)=sj:=⟨_,rfl⟩
    rw [hsj] at hs hnext
    have HS:Hid (sj.size≤60000):=Lib.hid (by omega)
    have HNX:=Lib.hid hnext
    have WT1:Hid (Wt n w #[.int .u64 o,.int .u64 t,.slice (some ⟨g,0,none⟩) k cap] sj wr):=Lib.hid (hsj▸WTJ.out)
    have hgn:g<n:=HN.out▸hg
    have rr:wr.rangeAt g (j*36) x.row.toList:=fun i v hv=>by rw [WTJ.out.tw.bel.cell (show g<n from hgn)];exact hr i v hv
    have hrr:rk x≤1:=by unfold rk;split<;>omega
    have hw1:IntKind.u64.wrap (1-((rk x:Nat):Int))=((1-rk x:Nat):Int):=by rw [IntKind.wrap_u64];omega
    have hwx:=exU_eq x
    have e1:(256:Int) ^ 1=256:=by decide
    have D1:=Lib.hid (fun v s (h:Wt n w #[.int .u64 o,.int .u64 t,.slice (some ⟨g,0,none⟩) k cap] s v) (hs:s.size≤1000000)=>h.num (1-rk x) 1 (by rw [e1];omega) (by omega) (by decide) (by decide) hs)
    have D2:=Lib.hid (fun v s (h:Wt n w #[.int .u64 o,.int .u64 t,.slice (some ⟨g,0,none⟩) k cap] s v) (hs:s.size≤1000000)=>h.num x.id 8 (p8 _ xi) xi (by decide) (by decide) hs)
    have D3:=Lib.hid (fun v s (h:Wt n w #[.int .u64 o,.int .u64 t,.slice (some ⟨g,0,none⟩) k cap] s v) (hs:s.size≤1000000)=>h.num x.am 8 (p8 _ xa) xa (by decide) (by decide) hs)
    have D4:=Lib.hid (fun v s (h:Wt n w #[.int .u64 o,.int .u64 t,.slice (some ⟨g,0,none⟩) k cap] s v) (hs:s.size≤1000000)=>h.hash x.F hs)
    have D5:=Lib.hid (fun v s (h:Wt n w #[.int .u64 o,.int .u64 t,.slice (some ⟨g,0,none⟩) k cap] s v) (hs:s.size≤1000000)=>h.num (exU x) 8 (p8 _ (exU_lt x)) (exU_lt x) (by decide) (by decide) hs)
    have RK:=Lib.hid (fun v=>rank_any x v)
    have HTI:=Lib.hid (show txI sj x=((((sj++strOfNums (low ((1-rk x:Nat):Int) 1))++strOfNums (low x.id 8))++strOfNums (low x.am 8))++strOfNums (fl x.F))++strOfNums (low (exU x) 8) from rfl)
    have hME:=Lib.hid (show k-(j+1)<gk∧j+1≤k by have:=HGM.out;omega)
    have I36:Hid ((Tryz.prog.info? 222).map (·.size)=some x.row.toList.length):=Lib.hid (by rw [Array.length_toList];exact x.info)
    have I36':Hid ((Tryz.prog.info? 222).map (·.size)=some x.row.size):=Lib.hid x.info
    have ZX:Hid (Y36.size=x.row.size):=Lib.hid (by rw [x.size];rfl)
    have OX:Hid (x.row.all (·.oneCell')=true):=Lib.hid x.one
    have q0:=x.c0;have q1:=x.c1;have q2:=x.c2;have q35:=x.c35
    have qF:∀ i,i<32→x.row[3+i]?=(r8 32 x.F)[i]?:=fun i hi=>by
     unfold It.row
     rw [Array.getElem?_append_left (by simp [M.rowF_size];omega),Array.getElem?_append_right (by simp)]
     simp
    have i32:Hid ((Tryz.prog.info? 47).map (·.size)=some (r8 32 x.F).toList.length):=Lib.hid (by rw [Array.length_toList,M.rowF_size];kernel_rfl)
    have s32:(r8 32 x.F).size=32:=by rw [M.rowF_size]
    obtain ⟨q,hq⟩:∃ q,wr.heap.size=q:=⟨_,rfl⟩
    have HQ:=Lib.hid hq
    obtain ⟨V,hV⟩:∃ V,wr.alloc (.cells #[.bool false,.int .u64 0,.int .u64 0,.int .u8 0,.int .u8 0,.int .u8 0,.int .u8 0,.int .u8 0,.int .u8 0,.int .u8 0,.int .u8 0,.int .u8 0,.int .u8 0,.int .u8 0,.int .u8 0,.int .u8 0,.int .u8 0,.int .u8 0,.int .u8 0,.int .u8 0,.int .u8 0,.int .u8 0,.int .u8 0,.int .u8 0,.int .u8 0,.int .u8 0,.int .u8 0,.int .u8 0,.int .u8 0,.int .u8 0,.int .u8 0,.int .u8 0,.int .u8 0,.int .u8 0,.int .u8 0,.int .i64 0] 222)=V:=⟨_,rfl⟩
    have HV2:=Lib.hid hV
    have rV:V.heap[q]?=some (.cells Y36 222 (0,0)):=by rw [←hV,← hq];exact heap_alloc_new wr (.cells Y36 222)
    have eU:V.setRow q x.row=wr.alloc (.cells x.row 222):=by rw [←hV,← hq];exact World.setRow_alloc_new wr Y36 x.row 222
    have tq:=WT1.out.tw.newRow (a:=2) (fun y hy=>by
     simp only [List.mem_cons,List.not_mem_nil,or_false] at hy
     rcases hy with rfl | rfl
     · show (0:Nat)≠2;decide
     · show (1:Nat)≠2;decide) 222 x.row
    rw [hq,← eU] at tq
    have WQ:=Lib.hid (show Wq n w #[.int .u64 o,.int .u64 t,.slice (some ⟨g,0,none⟩) k cap] q x.row sj (V.setRow q x.row) from ⟨tq⟩)
    have RQ:=WQ.out.box
    unfold M.RowAt at RQ
    have HRF:Hid (∀ v,M.RowAt v q 222 x.row→v.rangeAt q 3 (r8 32 x.F).toList):=Lib.hid (fun v hv i u hu=>by
     have hi:i<32:=by
      have:=(List.getElem?_eq_some_iff.1 hu).1
      rw [Array.length_toList,s32] at this;exact this
     rw [hv.cell (3+i),qF i hi,← Array.getElem?_toList];exact hu)
    have E1:=Lib.hid (fun v s (h:Wq n w #[.int .u64 o,.int .u64 t,.slice (some ⟨g,0,none⟩) k cap] q x.row s v) (hs:s.size≤1000000)=>h.num (1-rk x) 1 (by rw [e1];omega) (by omega) (by decide) (by decide) hs)
    have E2:=Lib.hid (fun v s (h:Wq n w #[.int .u64 o,.int .u64 t,.slice (some ⟨g,0,none⟩) k cap] q x.row s v) (hs:s.size≤1000000)=>h.num x.id 8 (p8 _ xi) xi (by decide) (by decide) hs)
    have E3:=Lib.hid (fun v s (h:Wq n w #[.int .u64 o,.int .u64 t,.slice (some ⟨g,0,none⟩) k cap] q x.row s v) (hs:s.size≤1000000)=>h.num x.am 8 (p8 _ xa) xa (by decide) (by decide) hs)
    have E4:=Lib.hid (fun v s (h:Wq n w #[.int .u64 o,.int .u64 t,.slice (some ⟨g,0,none⟩) k cap] q x.row s v) (hs:s.size≤1000000)=>h.hash x.F hs)
    have E5:=Lib.hid (fun v s (h:Wq n w #[.int .u64 o,.int .u64 t,.slice (some ⟨g,0,none⟩) k cap] q x.row s v) (hs:s.size≤1000000)=>h.num (exU x) 8 (p8 _ (exU_lt x)) (exU_lt x) (by decide) (by decide) hs)
    have HFL:=Lib.hid (fl_len x.F)
    generalize r8 32 x.F=FF at *
    generalize x.row=C at *
    generalize rk x=rx at *
    generalize exU x=xu at *
    generalize x.id=xid at *
    generalize x.am=xam at *
    generalize x.ex=xex at *
    generalize fl x.F=ff at *
    clear hnext hs hsj hlen hx hg hq hV eU tq D1 D2 D3 D4 D5 hr qF s32
    go_wp2_with (first | (refine wpList_load_mid (x:=.tmp 40) (ty:=222) (b:=g) (o:=j*36) (cs:=C.toList) ?_ ?_ ?_ _ rr Tryz.underlying222 rfl I36.out ?_;rfl;rfl;rfl;rw [Array.toArray_toList]) | (rw [HQ.out,HV2.out];refine wpList_store_row (x:=.tmp 9) (y:=.tmp 41) (cells:=C) (old:=Y36) (t:=222) (ty:=222) (g:=q) ?_ ?_ ?_ ?_ rV I36'.out ZX.out OX.out ?_;rfl;rfl;rfl;rfl) | ((with_reducible refine wpList_load_row (x:=.tmp 9) (ty:=222) (g:=q) (cs:=C) (t:=222) (fr:=(0,0)) ?_ ?_ ?_ _ RQ Tryz.underlying222 rfl I36'.out ?_);rfl;rfl;rfl) | fail)
    refine (RK.out _).mono ?_
    rintro e x1 ⟨rfl,b1⟩
    have X1:=Lib.hid (WQ.out.same b1)
    clear b1 RQ rr rV q0
    go_wp2_with fail
    refine (E1.out _ _ X1.out (by have:=HS.out;omega)).mono ?_
    rintro e x2 ⟨rfl,a1⟩
    have X2:=Lib.hid a1
    have c1:=(a1.box.cell 1).trans q1
    have z1:Hid ((sj++strOfNums (low ((1-rx:Nat):Int) 1)).size≤1000000):=Lib.hid (by have:=HS.out;simp [strOfNums_size,low_len];omega)
    clear a1
    go_wp2_with fail
    refine (E2.out _ _ X2.out z1.out).mono ?_
    rintro e x3 ⟨rfl,a2⟩
    have X3:=Lib.hid a2
    have c2:=(a2.box.cell 2).trans q2
    have z2:Hid ((sj++strOfNums (low ((1-rx:Nat):Int) 1)++strOfNums (low xid 8)).size≤1000000):=Lib.hid (by have:=HS.out;simp [strOfNums_size,low_len];omega)
    clear a2 c1
    go_wp2_with fail
    refine (E3.out _ _ X3.out z2.out).mono ?_
    rintro e x4 ⟨rfl,a3⟩
    have X4:=Lib.hid a3
    have rf:=HRF.out _ a3.box
    have z3:Hid ((sj++strOfNums (low ((1-rx:Nat):Int) 1)++strOfNums (low xid 8)++strOfNums (low xam 8)).size≤1000000):=Lib.hid (by have:=HS.out;simp [strOfNums_size,low_len];omega)
    clear a3 c2
    go_wp2_with (first | (refine wpList_load_mid (x:=.tmp 59) (ty:=47) (b:=q) (o:=3) (cs:=FF.toList) ?_ ?_ ?_ _ rf Tryz.underlying47 rfl i32.out ?_;rfl;rfl;rfl;rw [Array.toArray_toList]) | fail)
    refine (E4.out _ _ X4.out z3.out).mono ?_
    rintro e x5 ⟨rfl,a4⟩
    have X5:=Lib.hid a4
    have c35:=(a4.box.cell 35).trans q35
    have z4:Hid ((sj++strOfNums (low ((1-rx:Nat):Int) 1)++strOfNums (low xid 8)++strOfNums (low xam 8)++strOfNums ff).size≤1000000):=Lib.hid (by have:=HS.out;have:=HFL.out;simp [strOfNums_size,low_len];omega)
    clear a4 rf
    go_wp2_with fail
    refine (E5.out _ _ X5.out z4.out).mono ?_
    rintro e x6 ⟨rfl,a5⟩
    rw [←HTI.out,← HNX.out] at a5
    have X6:=Lib.hid a5
    clear a5 c35
    go_wp2
    go_roundg (k-(j+1))
    case measure=>exact hME.out.1
    case rel=>exact ⟨j+1,rfl,hME.out.2,by first | rfl | go_num,X6.out.wt⟩
  · have hjj:j=k:=by omega
    subst hjj
    have d1:decide ((j:Int)<(j:Int))=false:=by simp
    have WT2:=WTJ.out
    rw [List.take_of_length_le (by rw [HK.out];exact Nat.le_refl _),← HT.out] at WT2
    have WB:=Lib.hid (fun v s (h:Wt n w #[.int .u64 o,.int .u64 t,.slice ad j cap] s v)=>wbytes_any ⟨n+1,0,none⟩ s v h.at)
    have W2:=Lib.hid WT2
    clear WT2
    go_wp2_with fail
    refine (WB.out _ _ W2.out).mono ?_
    rintro e v6 ⟨rfl,rfl⟩
    go_wp2
    go_ret
    exact ⟨rfl,HN.out▸W2.out.tw.bel⟩
end Vw
namespace Vw
open Oc
open Go.RowKit
set_option linter.unusedVariables false
set_option maxRecDepth 100000 in
set_option maxHeartbeats 4000000 in
theorem vtag_any (key:ByteArray) (ch num o t:Nat) (ad:Option Addr) (cap:Nat) (L:List It) (w:World) (tb:Tabs w) (hkey:key.size≤1000000) (hI:IAt w ad L) (hch:ch<4294967296) (hnum:num≤1000000000) (ho:o<18446744073709551616) (ht:t<18446744073709551616) (hL:∀ x∈L,x.id<18446744073709551616∧x.am<18446744073709551616) (hk:L.length≤1000) :
 Calls Tryz.prog 38 #[.string key,.int .u32 ch,.int .i64 num,.agg #[.int .u64 o,.int .u64 t,.slice ad L.length cap]] w fun e w'=>e=.returned (.agg (r8 32 (mac key (txt ch num o t L))))∧Below w.heap.size w w':=by
 obtain ⟨n,hn⟩:∃ n,w.heap.size=n:=⟨_,rfl⟩
 have HN:=Lib.hid hn
 have h1n:4<n:=hn▸tb.lt
 have hTs:=txt_size ch num o t L
 have ra:=M.RowAt.new w 78 #[.int .u64 o,.int .u64 t,.slice ad L.length cap]
 have rb:=ra.alloc (.cells Z32 47)
 have rc:=M.RowAt.new (w.alloc (.cells #[.int .u64 o,.int .u64 t,.slice ad L.length cap] 78)) 47 Z32
 have bc:Below n w ((w.alloc (.cells #[.int .u64 o,.int .u64 t,.slice ad L.length cap] 78)).alloc (.cells Z32 47)):=by
  subst hn;exact ((Below.refl _ _).alloc (Nat.le_refl _) _).alloc (by simp) _
 rw [World.size_alloc,hn] at rc
 rw [hn] at rb
 have c0:=rb.cell 0;have c1:=rb.cell 1;have c2:=rb.cell 2
 have cx:=fun v (hb:Below n w v)=>text_any ch num o t ad cap L v (hI.below hb (by omega)) hch hnum ho ht hL hk
 have cs:=fun v (hb:Below n w v)=>tag_any key (txt ch num o t L) v (tb.below hb h1n) hkey (by rw [hTs];omega)
 have iD:=r8_info (mac key (txt ch num o t L));have zD:=r8_zero (mac key (txt ch num o t L));have oD:=r8_one (mac key (txt ch num o t L))
 generalize r8 32 (mac key (txt ch num o t L))=D at *
 generalize txt ch num o t L=T at *
 generalize L.length=k at *
 obtain ⟨V,hV⟩:∃ V,(w.alloc (.cells #[.int .u64 o,.int .u64 t,.slice ad k cap] 78)).alloc (.cells Z32 47)=V:=⟨_,rfl⟩
 rw [hV] at rc bc c0 c1 c2
 have hV':(w.alloc (.cells #[.int .u64 o,.int .u64 t,.slice ad k cap] 78)).alloc (.cells #[.int .u8 0,.int .u8 0,.int .u8 0,.int .u8 0,.int .u8 0,.int .u8 0,.int .u8 0,.int .u8 0,.int .u8 0,.int .u8 0,.int .u8 0,.int .u8 0,.int .u8 0,.int .u8 0,.int .u8 0,.int .u8 0,.int .u8 0,.int .u8 0,.int .u8 0,.int .u8 0,.int .u8 0,.int .u8 0,.int .u8 0,.int .u8 0,.int .u8 0,.int .u8 0,.int .u8 0,.int .u8 0,.int .u8 0,.int .u8 0,.int .u8 0,.int .u8 0] 47)=V:=hV
 have CX:=Lib.hid cx;have CS:=Lib.hid cs;have HV:=Lib.hid hV'
 clear cx cs hV hV' ra rb tb h1n hI hch hnum ho ht hL hk hTs hkey
 go_enter Tryz.func38,Tryz.ntmps38
 go_wp2_with (first | (rw [HV.out]) | fail)
 refine (CX.out _ bc).mono ?_
 rintro e w1 ⟨rfl,gq⟩
 have r1:=rc.call gq
 have b1:=bc.trans (gq.mono (by have:=rc.lt;omega))
 clear gq rc bc c0 c1 c2
 go_wp2_with fail
 refine (CS.out _ b1).mono ?_
 rintro e w2 ⟨rfl,gq⟩
 have r2:=r1.call gq
 have b2:=b1.trans (gq.mono (by have:=r1.lt;omega))
 have q1:=r2.setRow D
 have bW:=M.below_setRow (g:=n+1) (cs:=D) b2 (by omega)
 unfold M.RowAt at r2
 clear gq r1 b1
 go_wp2_with (refine wpList_store_row (x:=.tmp 8) (y:=.tmp 14) (cells:=D) (old:=Z32) (t:=47) (ty:=47) (g:=n+1) ?_ ?_ ?_ ?_ r2 iD zD oD ?_;rfl;rfl;rfl;rfl)
 have hload:=run_loadVar_row (P:=Tryz.prog) _ (n+1) 47 47 D (0,0) _ q1 und28 rfl iD
 refine bodyPost_ret (v:=.agg D) (by simp [results,Tryz.results38,asAddr,Act.put,hload]) rfl ⟨rfl,?_⟩
 rw [HN.out]
 exact bW
end Vw
end Go.Proofs.YtdebnbgjgkbmaaaGreatDoor
namespace Go.Proofs.YtdebnbgjgkbmaaaGreatDoor.RowK
open Go.ChangeShapes Go.WideShapes Go.ChangeAt Go.RowKit Go.Deep
set_option linter.unusedVariables false
def SlAt {α:Type} (w:World) (size:Nat) (cells:α→List Value) (A:Option Addr) (l:List α):Prop:=
 l=[]∨∃ b off,A=some ⟨b,off,none⟩∧b<w.heap.size∧∀ i x,l[i]?=some x→w.rangeAt b (off+i*size) (cells x)
section
variable {H:Type} {enc:TypeId × Value→H} {P:Program} {w:World} {base:Nat} {sp:Nat→Bool} {held:Bool}
theorem list_of_fn {α:Type} (p:Nat→α→Prop):∀ n:Nat,(∀ i,i<n→∃ x,p i x)→∃ l:List α,l.length=n∧∀ i x,l[i]?=some x→p i x:=by
 intro n
 induction n with
 | zero=>exact fun _=>⟨[],rfl,by simp⟩
 | succ n ih=>
   intro h
   obtain ⟨l,h1,h2⟩:=ih (fun i hi=>h i (by omega))
   obtain ⟨x,hx⟩:=h n (by omega)
   refine ⟨l++[x],by simp [h1],fun i y hy=>?_⟩
   rcases Nat.lt_or_ge i n with hlt | hge
   · rw [List.getElem?_append_left (by omega)] at hy;exact h2 i y hy
   · rw [List.getElem?_append_right (by omega)] at hy
     have h0:i-l.length=0:=by
      rcases Nat.eq_zero_or_pos (i-l.length) with h0 | h0
      · exact h0
      · rw [List.getElem?_eq_none (by simp;omega)] at hy;cases hy
     rw [h0] at hy
     simp at hy
     subst hy
     have:i=n:=by omega
     subst this;exact hx
theorem sl_of_cells {α:Type} {cells:α→List Value} {ok:α→Prop} {t e:TypeId} {fuel:Nat} {A:Option Addr} {len cap size:Nat} {x:DataW H × List MemPlace} (ht:P.underlying t=some (.slice e)) (hsz:P.cellsOf e=size) (hpos:0<size)
 (hel:∀ n cs y,cs.length=size→DataW.trod enc P w base sp held n e cs=some y→∃ x,cs=cells x∧ok x)
 (h:DataW.trod enc P w base sp held fuel t [.slice A len cap]=some x):∃ l:List α,l.length=len∧len≤cap∧cap≤maxLen∧(∀ x∈l,ok x)∧SlAt w size cells A l:=by
 rcases open_slice ht h with ⟨h0,_⟩ | ⟨a,len',cap',m,n,D,Pl,hcs,hb,hl,hm,hmm,hx,hi⟩
 · simp at h0
   obtain ⟨rfl,rfl,rfl⟩:=h0
   exact ⟨[],rfl,Nat.le_refl _,by simp,by simp,.inl rfl⟩
 · simp at hcs
   obtain ⟨rfl,rfl,rfl⟩:=hcs
   rw [hsz] at hi
   have hle:len≤m:=by rw [hmm];split<;>omega
   obtain ⟨l,hll,hlp⟩:=list_of_fn (fun i x=>ok x∧∃ cs',w.cells? base (a.add (i*size)) size=some cs'∧cs'=cells x) len (fun i hilt=>by
    obtain ⟨cs',h1,h2⟩:=hi i (by omega)
    obtain ⟨_,h3,_⟩:=World.cells?_some h1
    obtain ⟨x,h4,h5⟩:=hel n cs' _ h3 h2
    exact ⟨x,h5,cs',h1,h4⟩)
   refine ⟨l,hll,hl,hm,fun x hx=>?_,?_⟩
   · obtain ⟨i,hi',he⟩:=List.mem_iff_getElem.1 hx
     exact (hlp i x (by rw [←he];exact List.getElem?_eq_getElem hi')).1
   · rcases l with _ | ⟨y,r⟩
     · exact .inl rfl
     · right
       obtain ⟨_,cs0,h1,_⟩:=hlp 0 y rfl
       obtain ⟨_,h3,h4⟩:=World.cells?_some h1
       have hc0:=h4 0 hpos
       have hsp:a.spot=none:=by
        obtain ⟨b,off,spot⟩:=a
        have hc1:cs0[0]?=some (cs0[0]'(by omega)):=List.getElem?_eq_getElem (by omega)
        rw [hc1] at hc0
        simpa [Addr.add] using World.cell?_spot hc0
       obtain ⟨b,off,spot⟩:=a
       subst hsp
       refine ⟨b,off,rfl,?_,fun i x hx j v hv=>?_⟩
       · have hc1:cs0[0]?=some (cs0[0]'(by omega)):=List.getElem?_eq_getElem (by omega)
         rw [hc1] at hc0
         have:=World.block_lt_of_cell? w _ hc0
         simpa [Addr.add] using this
       · obtain ⟨_,cs',h1,h2⟩:=hlp i x hx
         obtain ⟨_,h3,h4⟩:=World.cells?_some h1
         have hj:j<size:=by
          rw [←h2] at hv
          have:=(List.getElem?_eq_some_iff.1 hv).1
          omega
         have h5:=h4 j hj
         rw [add_add,Addr.add_mid] at h5
         rw [show off+i*size+j=off+(i*size+j) by omega,h5,h2,hv]
theorem sl_of_trod {α:Type} (cells:α→List Value) (ok:α→Prop) {r:Reach} {b0:Nat} {t e:TypeId} {size:Nat} {v:Value} {d:DataW H} {p:List MemPlace} (ht:P.underlying t=some (.slice e)) (hsz:P.cellsOf e=size) (hpos:0<size)
 (hel:∀ n cs y,cs.length=size→DataW.trod enc P w base sp held n e cs=some y→∃ x,cs=cells x∧ok x)
 (hval:Value.okWide P w r b0 t v) (h:DataW.Trod enc P w base sp held t v d p) :
 ∃ (A:Option Addr) (cap:Nat) (l:List α),v=.slice A l.length cap∧l.length≤cap∧cap≤maxLen∧(∀ x∈l,ok x)∧SlAt w size cells A l:=by
 obtain ⟨A,len,cap,rfl⟩:=okWide_slice ht hval
 obtain ⟨fuel,hf⟩:=h
 obtain ⟨l,h1,h2,h3,h4,h5⟩:=sl_of_cells (cells:=cells) (ok:=ok) ht hsz hpos hel (A:=A) (len:=len) (cap:=cap) hf
 subst h1
 exact ⟨A,cap,l,rfl,h2,h3,h4,h5⟩
theorem field_of {e:TypeId} {fs:Array Field} {n:Nat} {cs:List Value} {y:DataW H × List MemPlace} (ht:P.underlying e=some (.struct fs)) (h:DataW.trod enc P w base sp held n e cs=some y) (j:Nat) {f:Field} (hj:fs[j]?=some f) :
 ∃ n' y',DataW.trod enc P w base sp held n' f.type ((cs.drop f.offset).take (P.cellsOf f.type))=some y':=by
 obtain ⟨xs,n',_,_,_,hl,hf⟩:=DataW.trod_struct ht h
 have hjl:j<fs.size:=(Array.getElem?_eq_some_iff.1 hj).1
 exact ⟨n',_,(hf j f hj).trans (List.getElem?_eq_getElem (by omega))⟩
theorem int_of {t:TypeId} {k:IntKind} {n:Nat} {cs:List Value} {y:DataW H × List MemPlace} (ht:P.underlying t=some (.int k)) (h:DataW.trod enc P w base sp held n t cs=some y):∃ z,cs=[.int k z]∧(Lit.int k z).wf=true:=by
 obtain ⟨z,h1,_,h2⟩:=DataW.trod_int ht h
 exact ⟨z,h1,h2⟩
theorem arr_of {t e:TypeId} {k:IntKind} {m n:Nat} {cs:List Value} {y:DataW H × List MemPlace} (ht:P.underlying t=some (.array n e)) (he:P.underlying e=some (.int k)) (hce:P.cellsOf e=1) (hct:P.cellsOf t=n)
 (h:DataW.trod enc P w base sp held m t cs=some y):∃ zs:List Int,zs.length=n∧(∀ z∈zs,(Lit.int k z).wf=true)∧cs=zs.map (Value.int k):=by
 obtain ⟨xs,m',_,_,hcl,hxl,hall⟩:=DataW.trod_array ht h
 have hone:∀ i,i<n→∃ z,cs[i]?=some (.int k z)∧(Lit.int k z).wf=true:=by
  intro i hi
  have h1:=hall i hi
  rw [hce,Nat.mul_one,List.getElem?_eq_getElem (by omega)] at h1
  obtain ⟨z,h2,_,h3⟩:=DataW.trod_int he h1
  refine ⟨z,?_,h3⟩
  have:=congrArg (·[0]?) h2
  simpa [List.getElem?_take,List.getElem?_drop] using this
 obtain ⟨zs,h1,h2⟩:=list_of_fn (fun i z=>cs[i]?=some (.int k z)∧(Lit.int k z).wf=true) n hone
 refine ⟨zs,h1,fun z hz=>?_,?_⟩
 · obtain ⟨i,hi,he⟩:=List.mem_iff_getElem.1 hz
   exact (h2 i z (by rw [←he];exact List.getElem?_eq_getElem hi)).2
 · apply List.ext_getElem?
   intro i
   rcases Nat.lt_or_ge i n with hlt | hge
   · have hz:zs[i]?=some (zs[i]'(by omega)):=List.getElem?_eq_getElem (by omega)
     rw [(h2 i _ hz).1,List.getElem?_map,hz];rfl
   · rw [List.getElem?_eq_none (by omega),List.getElem?_eq_none (by simp;omega)]
end
section
variable {α:Type} {w w':World} {size:Nat} {cells:α→List Value} {A:Option Addr} {l:List α}
theorem SlAt.below {B:Nat} (h:SlAt w size cells A l) (hB:w.heap.size≤B) (hb:Below B w w'):SlAt w' size cells A l:=by
 rcases h with h | ⟨b,off,h1,h2,h3⟩
 · exact .inl h
 · refine .inr ⟨b,off,h1,by have:=hb.size;omega,fun i x hx j v hv=>?_⟩
   rw [hb.cell (show b<B by omega)]
   exact h3 i x hx j v hv
theorem SlAt.at_ (h:SlAt w size cells A l) {i:Nat} (hi:i<l.length):∃ b off,A=some ⟨b,off,none⟩∧b<w.heap.size∧∀ i x,l[i]?=some x→w.rangeAt b (off+i*size) (cells x):=by
 rcases h with h | h
 · subst h;simp at hi
 · exact h
end
end Go.Proofs.YtdebnbgjgkbmaaaGreatDoor.RowK
namespace Go.Proofs.YtdebnbgjgkbmaaaGreatDoor
namespace Tg
open Oc Vw
open Go.RowKit Go.Shelf
set_option linter.unusedVariables false
theorem rd_low (m k:Nat) (R:ByteArray) (h1:1≤k) (h8:k≤8) (hm:((m:Nat):Int)<256 ^ k):rdN (strOfNums (low m k)++R) k=m∧rdE (strOfNums (low m k)++R) k=0∧rdS (strOfNums (low m k)++R) k=R:=by
 have hz:(strOfNums (low m k)).size=k:=by rw [strOfNums_size,low_len]
 have hs:(strOfNums (low m k)++R).size=k+R.size:=by rw [ByteArray.size_append,hz]
 have c1:¬ ((k:Int)<1∨8<(k:Int)∨((strOfNums (low m k)++R).size:Int)<(k:Int)):=by rw [hs];omega
 have c2:¬ ((k:Int)<1∨8<(k:Int)):=by omega
 have c3:¬ (((strOfNums (low m k)++R).size:Int)<(k:Int)):=by rw [hs];omega
 refine ⟨?_,?_,?_⟩
 · unfold rdN
   rw [if_neg c1,Int.toNat_natCast,ByteArray.data_append,Array.toList_append,strOfNums_data,List.take_left' (by rw [List.length_map,low_len])]
   exact val_low m k (by omega) hm
 · unfold rdE;rw [if_neg c2,if_neg c3]
 · unfold rdS
   rw [if_neg c1,Int.toNat_natCast,hs]
   have:=back_of (strOfNums (low m k)) R
   rw [hz] at this;exact this
def itB (x:It):ByteArray:=strOfNums (low ((1-rk x:Nat):Int) 1)++(strOfNums (low x.id 8)++(strOfNums (low x.am 8)++(strOfNums (fl x.F)++strOfNums (low (exU x) 8))))
def itsB (L:List It):ByteArray:=L.foldr (fun x t=>itB x++t) .empty
theorem txI_eq (s:ByteArray) (x:It):txI s x=s++itB x:=by unfold txI itB;simp only [ByteArray.append_assoc]
theorem fold_eq:∀ (L:List It) (s:ByteArray),L.foldl txI s=s++itsB L
 | [],s=>by show s=s++.empty;simp
 | x::L,s=>by
   rw [List.foldl_cons,fold_eq L,txI_eq]
   show s++itB x++itsB L=s++(itB x++itsB L)
   rw [ByteArray.append_assoc]
def tx5 (L:List It):ByteArray:=strOfNums (low ((L.length%65536:Nat):Int) 2)++itsB L
def tx4 (t:Nat) (L:List It):ByteArray:=strOfNums (low t 8)++tx5 L
def tx3 (o t:Nat) (L:List It):ByteArray:=strOfNums (low o 8)++tx4 t L
def tx2 (num o t:Nat) (L:List It):ByteArray:=strOfNums (low num 8)++tx3 o t L
theorem txt_parts (ch num o t:Nat) (L:List It):txt ch num o t L=strOfNums (low ch 4)++tx2 num o t L:=by
 unfold txt
 rw [fold_eq]
 unfold txH tx2 tx3 tx4 tx5
 simp [ByteArray.append_assoc]
theorem itsB_size (L:List It):(itsB L).size=57*L.length:=by
 have h:=fold_size L .empty
 rw [fold_eq] at h
 simpa using h
section
variable {H:Type} {enc:TypeId × Value→H} {w:World} {base:Nat} {sp:Nat→Bool} {held:Bool}
theorem bool_of {t:TypeId} {n:Nat} {cs:List Value} {y:DataW H × List MemPlace} (ht:Tryz.prog.underlying t=some .bool) (h:DataW.trod enc Tryz.prog w base sp held n t cs=some y):∃ b,cs=[.bool b]:=by
 obtain ⟨b,h1,_⟩:=DataW.trod_bool ht h
 exact ⟨b,h1⟩
theorem wfu8 {x:Int} (h:(Lit.int .u8 x).wf=true):0≤x∧x≤255:=by simpa [Lit.wf,IntKind.min,IntKind.max,IntKind.signed,IntKind.bits] using h
set_option maxRecDepth 100000 in
theorem live_of_cells (n:Nat) (cs:List Value) (y:DataW H × List MemPlace) (hl:cs.length=38) (h:DataW.trod enc Tryz.prog w base sp held n 164 cs=some y):∃ x:LV,cs=x.cells.toList∧x.id<18446744073709551616∧x.am<18446744073709551616:=by
 obtain ⟨n0,y0,h0⟩:=RowK.field_of Tryz.underlying164 h 0 rfl
 obtain ⟨n1,y1,h1⟩:=RowK.field_of Tryz.underlying164 h 1 rfl
 obtain ⟨n2,y2,h2⟩:=RowK.field_of Tryz.underlying164 h 2 rfl
 obtain ⟨n3,y3,h3⟩:=RowK.field_of Tryz.underlying164 h 3 rfl
 obtain ⟨m0,z0,k0⟩:=RowK.field_of Tryz.underlying162 h0 0 rfl
 obtain ⟨m1,z1,k1⟩:=RowK.field_of Tryz.underlying162 h0 1 rfl
 obtain ⟨m2,z2,k2⟩:=RowK.field_of Tryz.underlying162 h0 2 rfl
 obtain ⟨m3,z3,k3⟩:=RowK.field_of Tryz.underlying162 h0 3 rfl
 have c3:Tryz.prog.cellsOf 3=1:=by kernel_rfl
 have c4:Tryz.prog.cellsOf 4=1:=by kernel_rfl
 have c27:Tryz.prog.cellsOf 27=1:=by kernel_rfl
 have c47:Tryz.prog.cellsOf 47=32:=by kernel_rfl
 have c162:Tryz.prog.cellsOf 162=35:=by kernel_rfl
 obtain ⟨i,e0,g0⟩:=RowK.int_of Tryz.underlying27 k0
 obtain ⟨a,e1,g1⟩:=RowK.int_of Tryz.underlying27 k1
 obtain ⟨zs,l2,g2,e2⟩:=RowK.arr_of Tryz.underlying47 Tryz.underlying5 (by kernel_rfl) c47 k2
 obtain ⟨ex,e3,g3⟩:=RowK.int_of Tryz.underlying3 k3
 obtain ⟨ow,e4⟩:=bool_of Tryz.underlying4 h1
 obtain ⟨st,e5,g5⟩:=RowK.int_of Tryz.underlying3 h2
 obtain ⟨pd,e6⟩:=bool_of Tryz.underlying4 h3
 have e0:(((cs.drop 0).take (Tryz.prog.cellsOf 162)).drop 0).take (Tryz.prog.cellsOf 27)=_:=e0
 have e1:(((cs.drop 0).take (Tryz.prog.cellsOf 162)).drop 1).take (Tryz.prog.cellsOf 27)=_:=e1
 have e2:(((cs.drop 0).take (Tryz.prog.cellsOf 162)).drop 2).take (Tryz.prog.cellsOf 47)=_:=e2
 have e3:(((cs.drop 0).take (Tryz.prog.cellsOf 162)).drop 34).take (Tryz.prog.cellsOf 3)=_:=e3
 have e4:(cs.drop 35).take (Tryz.prog.cellsOf 4)=_:=e4
 have e5:(cs.drop 36).take (Tryz.prog.cellsOf 3)=_:=e5
 have e6:(cs.drop 37).take (Tryz.prog.cellsOf 4)=_:=e6
 rw [c162] at e0 e1 e2 e3
 rw [c27] at e0 e1
 rw [c47] at e2
 rw [c3] at e3 e5
 rw [c4] at e4 e6
 simp only [List.drop_zero] at e0 e1 e2 e3
 rw [List.take_take] at e0
 rw [List.drop_take,List.take_take] at e1 e2 e3
 rw [show min 1 35=1 from rfl] at e0
 rw [show min 1 (35-1)=1 from rfl] at e1
 rw [show min 32 (35-2)=32 from rfl] at e2
 rw [show min 1 (35-34)=1 from rfl] at e3
 have w0:=RowK.wf_u64 g0
 have w1:=RowK.wf_u64 g1
 refine ⟨⟨i.toNat,a.toNat,fun j=>(zs.getD j 0).toNat,ex,ow,st,pd⟩,?_,by show i.toNat<_;omega,by show a.toNat<_;omega⟩
 have hF:r8 32 (fun j=>(zs.getD j 0).toNat)=(zs.map (Value.int .u8)).toArray:=by
  rw [M.rowF_list l2]
  refine M.rowF_congr fun j hj=>?_
  have:zs.getD j 0∈zs:=by
   rw [List.getD_eq_getElem?_getD,List.getElem?_eq_getElem (by omega)]
   exact List.getElem_mem _
  have:=wfu8 (g2 _ this)
  show (((zs.getD j 0).toNat:Nat):Int)=zs.getD j 0
  omega
 have hi:((i.toNat:Nat):Int)=i:=by omega
 have ha:((a.toNat:Nat):Int)=a:=by omega
 unfold LV.cells LV.h
 rw [hF,hi,ha]
 have split:∀ (l:List Value) (a b:Nat),(l.drop a).take b++l.drop (a+b)=l.drop a:=fun l a b=>by
  rw [←List.drop_drop,List.take_append_drop]
 have s0:=split cs 0 1;have s1:=split cs 1 1;have s2:=split cs 2 32;have s3:=split cs 34 1;have s4:=split cs 35 1;have s5:=split cs 36 1;have s6:=split cs 37 1
 rw [List.drop_zero] at s0
 rw [e0] at s0
 rw [e1] at s1
 rw [e2] at s2
 rw [e3] at s3
 rw [e4] at s4
 rw [e5] at s5
 rw [e6] at s6
 have s7:cs.drop 38=[]:=List.drop_eq_nil_of_le (by omega)
 rw [show (37:Nat)+1=38 from rfl,s7] at s6
 rw [show (36:Nat)+1=37 from rfl,← s6] at s5
 rw [show (35:Nat)+1=36 from rfl,← s5] at s4
 rw [show (34:Nat)+1=35 from rfl,← s4] at s3
 rw [show (2:Nat)+32=34 from rfl,← s3] at s2
 rw [show (1:Nat)+1=2 from rfl,← s2] at s1
 rw [show (0:Nat)+1=1 from rfl,← s1] at s0
 rw [←s0]
 simp
set_option maxRecDepth 100000 in
theorem base_of_trod {r:Reach} {b0:Nat} {v:Value} {d:DataW H} {p:List MemPlace} (hval:Value.okWide Tryz.prog w r b0 74 v) (h:DataW.Trod enc Tryz.prog w base sp held 74 v d p):∃ lo re:Nat,v=.agg #[.int .u64 lo,.int .u64 re]∧lo<18446744073709551616∧re<18446744073709551616:=by
 have hv:∃ cs:Array Value,v=.agg cs∧cs.size=2:=by
  simp only [Value.okWide,Tryz.underlying74] at hval
  obtain ⟨cs,h1,h2,_⟩:=hval
  exact ⟨cs,h1,by rw [h2];kernel_rfl⟩
 obtain ⟨cs,rfl,hs⟩:=hv
 obtain ⟨fuel,hf⟩:=h
 have hc:(Value.agg cs).cells=cs:=rfl
 rw [hc] at hf
 obtain ⟨n0,y0,h0⟩:=RowK.field_of Tryz.underlying74 hf 0 rfl
 obtain ⟨n1,y1,h1⟩:=RowK.field_of Tryz.underlying74 hf 1 rfl
 have c27:Tryz.prog.cellsOf 27=1:=by kernel_rfl
 obtain ⟨i,e0,g0⟩:=RowK.int_of Tryz.underlying27 h0
 obtain ⟨a,e1,g1⟩:=RowK.int_of Tryz.underlying27 h1
 have e0:(cs.toList.drop 0).take (Tryz.prog.cellsOf 27)=_:=e0
 have e1:(cs.toList.drop 1).take (Tryz.prog.cellsOf 27)=_:=e1
 rw [c27] at e0 e1
 have w0:=RowK.wf_u64 g0
 have w1:=RowK.wf_u64 g1
 refine ⟨i.toNat,a.toNat,?_,by omega,by omega⟩
 have hi:((i.toNat:Nat):Int)=i:=by omega
 have ha:((a.toNat:Nat):Int)=a:=by omega
 rw [hi,ha]
 have hl:cs.toList.length=2:=by rw [Array.length_toList,hs]
 have:cs.toList=[.int .u64 i,.int .u64 a]:=by
  match hc:cs.toList,hl with
  | [x,y],_=>
    rw [hc] at e0 e1
    simp at e0 e1
    rw [e0,e1]
 rw [←this]
end
end Tg
namespace Tg
open Oc Vw
open Go.RowKit
set_option linter.unusedVariables false
structure Tr (n q r:Nat) (w:World) (V:Array Value) (s:ByteArray) (u:Value) (S:List It) (v:World):Prop where
 tw:TW n w [(0,.row r 228 #[.string s]),(1,.row q 78 V),(2,.own 222 36 u S.length (flatI S))] v
section
variable {n q r:Nat} {w v v':World} {V:Array Value} {s:ByteArray} {u:Value} {S:List It}
theorem Tr.at (h:Tr n q r w V s u S v):At v ⟨r,0,none⟩ s:=by
 have rr:=h.tw.row (a:=0) List.mem_cons_self
 exact ⟨rr.cell 0,rr.frozen 0⟩
theorem Tr.view (h:Tr n q r w V s u S v):M.RowAt v q 78 V:=h.tw.row (a:=1) (List.mem_cons_of_mem _ List.mem_cons_self)
theorem Tr.items {ad:Option Addr} {c:Nat} (h:Tr n q r w V s (.slice ad S.length c) S v):IAt v ad S:=IAt.of (h.tw.own (a:=2) (List.mem_cons_of_mem _ (List.mem_cons_of_mem _ List.mem_cons_self)))
theorem Tr.next {s':ByteArray} (h:Tr n q r w V s u S v) (hb:Below v.heap.size (v.setCell ⟨r,0,none⟩ (.string s')) v'):Tr n q r w V s' u S v':=by
 have t:=h.tw.setCell (fun y hy=>by
  simp only [List.mem_cons,List.not_mem_nil,or_false] at hy
  rcases hy with rfl | rfl
  · show (1:Nat)≠0;decide
  · show (2:Nat)≠0;decide) 0 (.string s')
 have hz:(v.setCell ⟨r,0,none⟩ (.string s')).heap.size=v.heap.size:=by simp
 exact ⟨t.same (hz▸hb)⟩
theorem Tr.same (h:Tr n q r w V s u S v) (hb:Below v.heap.size v v'):Tr n q r w V s u S v':=⟨h.tw.same hb⟩
theorem Tr.read (m k:Nat) (R:ByteArray) (h:Tr n q r w V (strOfNums (low m k)++R) u S v) (h1:1≤k) (h8:k≤8) (hm:((m:Nat):Int)<256 ^ k) (hs:(strOfNums (low m k)++R).size≤1000000) :
 Calls Tryz.prog 36 #[.pointer (some ⟨r,0,none⟩),.int .i64 k] v fun e v'=>e=.returned (.tuple #[.int .u64 m,.int .i64 0])∧Tr n q r w V R u S v':=by
 obtain ⟨r1,r2,r3⟩:=rd_low m k R h1 h8 hm
 have c:=rdnum_any ⟨r,0,none⟩ (strOfNums (low m k)++R) k v h.at (by omega)
 rw [r1,r2,r3] at c
 refine c.mono ?_
 rintro e v' ⟨rfl,hb⟩
 exact ⟨rfl,h.next hb⟩
end
def K1:ByteArray:=⟨#[107]⟩
set_option maxRecDepth 100000 in
set_option maxHeartbeats 16000000 in
theorem tags_walk (ch nm lo re:Nat) (ad:Option Addr) (cap k:Nat) (ls:List LV) (w:World) (hch:ch<4294967296) (hnm:nm<65536) (hlo:lo<18446744073709551616) (hre:re<18446744073709551616) (hl:LAo w ad ls) (hk:ls.length=k) (h40:k≤40) (hls:∀ x∈ls,x.id<18446744073709551616∧x.am<18446744073709551616)
 (tb:Tabs w) (ht:Ht.HT w) (sh:∀ v,Below w.heap.size w v→Calls Tryz.prog 17 #[] v fun e w'=>e=.returned (.bool true)∧Below v.heap.size v w') :
 Calls Tryz.prog 7 #[.int .u32 ch,.int .u16 nm,.agg #[.int .u64 lo,.int .u64 re],.slice ad k cap] w fun e w'=>e=.returned (.bool true)∧Below w.heap.size w w':=by
 obtain ⟨n,hn⟩:∃ n,w.heap.size=n:=⟨_,rfl⟩
 have hn8:8≤n:=hn▸ht.size
 have h1n:4<n:=by omega
 obtain ⟨w1,hw1⟩:∃ w1,w.alloc (.cells #[.int .u64 lo,.int .u64 re] 74)=w1:=⟨_,rfl⟩
 have rb:M.RowAt w1 n 74 #[.int .u64 lo,.int .u64 re]:=hw1▸hn▸M.RowAt.new w 74 #[.int .u64 lo,.int .u64 re]
 have b1:Below n w w1:=hw1▸hn▸(Below.refl _ _).alloc (Nat.le_refl _) _
 have hs1:n<w1.heap.size:=rb.lt
 have SH:=Lib.hid (show ∀ v,Below n w v→Calls Tryz.prog 17 #[] v fun e w'=>e=.returned (.bool true)∧Below v.heap.size v w' from hn▸sh)
 obtain ⟨o,hoo⟩:∃ o,(gvLm true (lo,re) ls).1=o:=⟨_,rfl⟩
 obtain ⟨t,htt⟩:∃ t,(gvLm true (lo,re) ls).2=t:=⟨_,rfl⟩
 have hOF:∀ v,Below n w v→Calls Tryz.prog 33 #[.bool true,.agg #[.int .u64 lo,.int .u64 re],.slice ad k cap] v fun e w'=>∃ (S:List It) (a:Option Addr) (c:Nat),e=.returned (.agg #[.int .u64 o,.int .u64 t,.slice a S.length c])∧S.length≤k∧(∀ x∈S,x.id<18446744073709551616∧x.am<18446744073709551616)∧w'.ownsRow v.heap.size 222 36 (.slice a S.length c) S.length (flatI S)∧Below v.heap.size v w':=fun v hb=>by
  have c:=of_gen true lo re ad cap ls v (fun i x hx=>by
   obtain ⟨g,off,e1,e2,e3⟩:=hl i x hx
   exact ⟨g,off,e1,Nat.lt_of_lt_of_le e2 hb.size,fun j y hy=>by rw [hb.cell (show g<n from hn▸e2)];exact e3 j y hy⟩) (by omega) (ht.belowN hb (by omega))
  rw [hk] at c
  refine c.mono ?_
  rintro e w' ⟨S,u,rfl,h1,h2,h3,h4⟩
  obtain ⟨a,cc,rfl⟩:=own_form h3
  refine ⟨S,a,cc,by rw [hoo,htt];rfl,by rw [h1.length_eq,← hk];exact itsOf_le true ls,fun x hx=>?_,h3,h4⟩
  have hx2:=h1.mem_iff.1 hx
  unfold itsOf at hx2
  obtain ⟨y,hy,rfl⟩:=List.mem_map.1 hx2
  exact hls y (List.mem_filter.1 hy).1
 have OF:=Lib.hid hOF
 have hlt:=gvLm_lt true ls (lo,re) hlo hre
 rw [hoo,htt] at hlt
 have TXT:=Lib.hid (fun (o t c:Nat) (a:Option Addr) (S:List It) v (hi:IAt v a S) (ho:o<18446744073709551616) (h2:t<18446744073709551616) (hL:∀ x∈S,x.id<18446744073709551616∧x.am<18446744073709551616) (hk:S.length≤1000)=>text_any ch nm o t a c S v hi hch (by omega) ho h2 hL hk)
 have VTG:=Lib.hid (fun (o t c:Nat) (a:Option Addr) (S:List It) v (hb:Below n w v) (hi:IAt v a S) (ho:o<18446744073709551616) (h2:t<18446744073709551616) (hL:∀ x∈S,x.id<18446744073709551616∧x.am<18446744073709551616) (hk:S.length≤1000)=>vtag_any K1 ch nm o t a c S v (tb.below hb h1n) (by decide) hi hch (by omega) ho h2 hL hk)
 have TAG:=Lib.hid (fun (T:ByteArray) v (hb:Below n w v) (hs:T.size≤1000000)=>tag_any K1 T v (tb.below hb h1n) (by decide) hs)
 have HN:=Lib.hid hn;have HV:=Lib.hid hw1;have B1:=Lib.hid b1;have HK:=Lib.hid hk;have HLT:=Lib.hid hlt;have HB:=Lib.hid (And.intro hch hnm);have HS1:=Lib.hid hs1
 have d0:decide (40<k)=false:=by simp;omega
 have d0i:decide ((40:Int)<(k:Int))=false:=by simp;omega
 have hc1:IntKind.u64.wrap (ch:Int)=(ch:Int):=by rw [IntKind.wrap_u64];omega
 have hc2:IntKind.i64.wrap (nm:Int)=(nm:Int):=by rw [IntKind.wrap_i64];omega
 have hc3:IntKind.u64.wrap (nm:Int)=(nm:Int):=by rw [IntKind.wrap_u64];omega
 have H40:=Lib.hid h40
 have HRB:=Lib.hid rb
 clear hOF hoo htt hl hk h40 hls tb ht sh hn hn8 h1n hw1 b1 hlt hch hnm hlo hre hs1 rb
 go_enter Tryz.func7,Tryz.ntmps7
 go_wp2_with fail
 rw [HV.out,HN.out]
 refine (SH.out _ B1.out).mono ?_
 rintro e w2 ⟨rfl,g2⟩
 have b2:=B1.out.trans (g2.mono (Nat.le_of_lt HS1.out))
 have r2:=HRB.out.call g2
 have c0:=r2.cell 0;have c1:=r2.cell 1
 have S2:=Lib.hid (show n<w2.heap.size from r2.lt)
 have B2:=Lib.hid b2
 clear g2 b2 r2
 have TW2:=Lib.hid (show TW n w [] w2 from (HN.out▸(TW.start w)).same (HN.out▸B2.out))
 go_wp2_with fail
 refine (OF.out w2 B2.out).mono ?_
 rintro e w3 ⟨S,a,c,rfl,p1,p2,p3,p4⟩
 obtain ⟨ks,hks⟩:∃ ks,S.length=ks:=⟨_,rfl⟩
 rw [hks] at p1 p3 ⊢
 have t3:TW n w [(2,.own 222 36 (.slice a ks c) ks (flatI S))] w3:=TW2.out.copied (fun y hy=>by cases hy) p3 p4
 have B3:=Lib.hid t3.bel
 obtain ⟨q,hq⟩:∃ q,w3.heap.size=q:=⟨_,rfl⟩
 obtain ⟨V,hV⟩:∃ V,w3.alloc (.cells #[.int .u64 0,.int .u64 0,.slice none 0 0] 78)=V:=⟨_,rfl⟩
 have rV:V.heap[q]?=some (.cells #[.int .u64 0,.int .u64 0,.slice none 0 0] 78 (0,0)):=by rw [←hV,← hq];exact heap_alloc_new w3 (.cells #[.int .u64 0,.int .u64 0,.slice none 0 0] 78)
 have eU:V.setRow q #[.int .u64 o,.int .u64 t,.slice a ks c]=w3.alloc (.cells #[.int .u64 o,.int .u64 t,.slice a ks c] 78):=by rw [←hV,← hq];exact World.setRow_alloc_new w3 #[.int .u64 0,.int .u64 0,.slice none 0 0] #[.int .u64 o,.int .u64 t,.slice a ks c] 78
 have t4:=t3.newRow (a:=1) (fun y hy=>by
  simp only [List.mem_cons,List.not_mem_nil,or_false] at hy
  rcases hy with rfl
  show (2:Nat)≠1;decide) 78 #[.int .u64 o,.int .u64 t,.slice a ks c]
 rw [hq,← eU] at t4
 obtain ⟨U,hU⟩:∃ U,V.setRow q #[.int .u64 o,.int .u64 t,.slice a ks c]=U:=⟨_,rfl⟩
 rw [hU] at t4
 have T4:=Lib.hid t4
 have rq:=t4.row (a:=1) List.mem_cons_self
 have x0:=rq.cell 0;have x1:=rq.cell 1;have x2:=rq.cell 2
 have IT4:=Lib.hid (IAt.of (t4.own (a:=2) (List.mem_cons_of_mem _ List.mem_cons_self)))
 have HQ:=Lib.hid hq;have HV3:=Lib.hid hV;have HU:=Lib.hid hU;have HKS:=Lib.hid hks;have P1:=Lib.hid p1;have P2:=Lib.hid p2
 have I78:Hid ((Tryz.prog.info? 78).map (·.size)=some (#[.int .u64 o,.int .u64 t,.slice a ks c]:Array Value).size):=Lib.hid (by show _=some 3;kernel_rfl)
 have O78:Hid ((#[.int .u64 o,.int .u64 t,.slice a ks c]:Array Value).all (·.oneCell')=true):=Lib.hid (by simp [Value.oneCell'])
 have BT:=Lib.hid t4.bel
 clear hks p1 p2 p3 p4 t3 hq hV eU t4 hU rq c0 c1
 go_wp2_with (first | (rw [HQ.out,HV3.out];refine wpList_store_row (x:=.tmp 9) (y:=.tmp 32) (cells:=#[.int .u64 o,.int .u64 t,.slice a ks c]) (old:=#[.int .u64 0,.int .u64 0,.slice none 0 0]) (t:=78) (ty:=78) (g:=q) ?_ ?_ ?_ ?_ rV I78.out rfl O78.out ?_;rfl;rfl;rfl;rfl;rw [HU.out]) | fail)
 have TX:=TXT.out o t c a S U IT4.out HLT.out.1 HLT.out.2 P2.out (by rw [HKS.out];have:=P1.out;have:=H40.out;omega)
 rw [HKS.out] at TX
 refine TX.mono ?_
 rintro e w4 ⟨rfl,g4⟩
 clear TX rV x0 x1 x2
 have t5:=T4.out.same g4
 have B5:=Lib.hid t5.bel
 obtain ⟨r,hr⟩:∃ r,w4.heap.size=r:=⟨_,rfl⟩
 obtain ⟨T,hT⟩:∃ T,txt ch nm o t S=T:=⟨_,rfl⟩
 have hTs:T.size≤1000000:=by rw [←hT,txt_size,HKS.out];have:=P1.out;have:=H40.out;omega
 have t6:=t5.newRow (a:=0) (fun y hy=>by
  simp only [List.mem_cons,List.not_mem_nil,or_false] at hy
  rcases hy with rfl | rfl
  · show (1:Nat)≠0;decide
  · show (2:Nat)≠0;decide) 228 #[.string T]
 rw [hr] at t6
 have hps:T=strOfNums (low ch 4)++tx2 nm o t S:=by rw [←hT];exact txt_parts ch nm o t S
 have hsz:T.size=30+57*ks:=by rw [←hT,txt_size,HKS.out]
 have W6:=Lib.hid (show Tr n q r w #[.int .u64 o,.int .u64 t,.slice a ks c] (strOfNums (low ch 4)++tx2 nm o t S) (.slice a ks c) S (w4.alloc (.cells #[.string T] 228)) from ⟨by rw [←hps,HKS.out];exact t6⟩)
 have e4:(256:Int) ^ 4=4294967296:=by decide
 have e2:(256:Int) ^ 2=65536:=by decide
 have hs2:(tx2 nm o t S).size≤30000:=by have:=congrArg ByteArray.size hps;rw [ByteArray.size_append,strOfNums_size,low_len] at this;have:=P1.out;have:=H40.out;omega
 have s3:tx2 nm o t S=strOfNums (low nm 8)++tx3 o t S:=rfl
 have s4:tx3 o t S=strOfNums (low o 8)++tx4 t S:=rfl
 have s5:tx4 t S=strOfNums (low t 8)++tx5 S:=rfl
 have s6:tx5 S=strOfNums (low ((ks%65536:Nat):Int) 2)++itsB S:=by unfold tx5;rw [HKS.out]
 have z3:=congrArg ByteArray.size s3;have z4:=congrArg ByteArray.size s4;have z5:=congrArg ByteArray.size s5;have z6:=congrArg ByteArray.size s6
 rw [ByteArray.size_append,strOfNums_size,low_len] at z3 z4 z5 z6
 have hb1:=HB.out.1;have hb2:=HB.out.2;have hlt1:=HLT.out.1;have hlt2:=HLT.out.2
 have RD1:=Lib.hid (fun v (h:Tr n q r w #[.int .u64 o,.int .u64 t,.slice a ks c] (strOfNums (low ch 4)++tx2 nm o t S) (.slice a ks c) S v)=>Tr.read ch 4 (tx2 nm o t S) h (by decide) (by decide) (by rw [e4];omega) (by rw [ByteArray.size_append,strOfNums_size,low_len];omega))
 have RD2:=Lib.hid (fun v (h:Tr n q r w #[.int .u64 o,.int .u64 t,.slice a ks c] (tx2 nm o t S) (.slice a ks c) S v)=>Tr.read nm 8 (tx3 o t S) (s3▸h) (by decide) (by decide) (p8 nm (by omega)) (by rw [←s3];omega))
 have RD3:=Lib.hid (fun v (h:Tr n q r w #[.int .u64 o,.int .u64 t,.slice a ks c] (tx3 o t S) (.slice a ks c) S v)=>Tr.read o 8 (tx4 t S) (s4▸h) (by decide) (by decide) (p8 o hlt1) (by rw [←s4];omega))
 have RD4:=Lib.hid (fun v (h:Tr n q r w #[.int .u64 o,.int .u64 t,.slice a ks c] (tx4 t S) (.slice a ks c) S v)=>Tr.read t 8 (tx5 S) (s5▸h) (by decide) (by decide) (p8 t hlt2) (by rw [←s5];omega))
 have hk3:ks%65536=ks:=Nat.mod_eq_of_lt (by have:=P1.out;have:=H40.out;omega)
 have RD5:=Lib.hid (fun v (h:Tr n q r w #[.int .u64 o,.int .u64 t,.slice a ks c] (tx5 S) (.slice a ks c) S v)=>Tr.read ks 2 (itsB S) (by rw [s6,hk3] at h;exact h) (by decide) (by decide) (by rw [e2];have:=P1.out;have:=H40.out;omega) (by rw [hk3] at s6;rw [←s6];omega))
 have hIB:(itsB S).size=57*ks:=by rw [itsB_size,HKS.out]
 have LE:=Lib.hid (fun v (h:Tr n q r w #[.int .u64 o,.int .u64 t,.slice a ks c] (itsB S) (.slice a ks c) S v)=>by
  have c:=left_any ⟨r,0,none⟩ (itsB S) v h.at
  rw [hIB] at c;exact c)
 have HT2:=Lib.hid hT;have HTS:=Lib.hid hTs;have HR:=Lib.hid hr
 obtain ⟨kk,hkk⟩:∃ kk,57*ks=kk:=⟨_,rfl⟩
 rw [hkk] at LE
 have hwk:IntKind.i64.wrap (57*(ks:Int))=(kk:Int):=by rw [IntKind.wrap_i64];have:=P1.out;have:=H40.out;omega
 have hwu:IntKind.u64.wrap (ks:Int)=(ks:Int):=by rw [IntKind.wrap_u64];have:=P1.out;have:=H40.out;omega
 obtain ⟨W,hW⟩:∃ W,w4.alloc (.cells #[.string T] 228)=W:=⟨_,rfl⟩
 rw [hW] at W6
 have HW:=Lib.hid hW
 have iD:=r8_info (mac K1 T)
 have heq:∀ W,(Op.equalIn 10000 47 (.agg (r8 32 (mac K1 T))) (.agg (r8 32 (mac K1 T)))).run Tryz.prog W=.ok true W:=fun W=>by
  have:=r8_cmp (mac K1 T) (mac K1 T) W
  rw [eqH_self] at this;exact this
 have TAG2:=Lib.hid (fun v (hb:Below n w v)=>TAG.out T v hb hTs)
 have VTG2:=Lib.hid (fun v (h:Tr n q r w #[.int .u64 o,.int .u64 t,.slice a ks c] (itsB S) (.slice a ks c) S v)=>by
  have c:=VTG.out o t c a S v h.tw.bel (Tr.items (HKS.out.symm▸h)) hlt1 hlt2 P2.out (by rw [HKS.out];have:=P1.out;have:=H40.out;omega)
  rw [HKS.out,hT] at c;exact c)
 generalize r8 32 (mac K1 T)=D at *
 clear hr hT hTs t5 t6 hps hsz e4 e2 hs2 s3 s4 s5 s6 z3 z4 z5 z6 hb1 hb2 hlt1 hlt2 hk3 hIB hkk hW g4 iD
 generalize tx2 nm o t S=X2 at *
 generalize tx3 o t S=X3 at *
 generalize tx4 t S=X4 at *
 generalize tx5 S=X5 at *
 generalize itsB S=X6 at *
 rw [HT2.out]
 have NWW:=Lib.hid (new_any T w4)
 rw [HR.out,HW.out] at NWW
 go_wp2_with fail
 refine (NWW.out).mono ?_
 rintro e w6 ⟨rfl,rfl⟩
 go_wp2_with fail
 refine (RD1.out _ W6.out).mono ?_
 rintro e w7 ⟨rfl,a7⟩
 have A7:=Lib.hid a7
 clear a7
 go_wp2_with fail
 refine (RD2.out _ A7.out).mono ?_
 rintro e w8 ⟨rfl,a8⟩
 have A8:=Lib.hid a8
 clear a8
 go_wp2_with fail
 refine (RD3.out _ A8.out).mono ?_
 rintro e w9 ⟨rfl,a9⟩
 have A9:=Lib.hid a9
 clear a9
 go_wp2_with fail
 refine (RD4.out _ A9.out).mono ?_
 rintro e w10 ⟨rfl,a10⟩
 have A10:=Lib.hid a10
 clear a10
 go_wp2_with fail
 refine (RD5.out _ A10.out).mono ?_
 rintro e w11 ⟨rfl,a11⟩
 have A11:=Lib.hid a11
 clear a11
 have HEQ:=Lib.hid heq
 clear heq
 go_wp2
 refine QC.wp_region_d [52,64,66] [0,1,2,3,4,5,6,7,8,9,10,11,12,13,14,15,16,17,18,19,20,21,22,23,24,25,26,27,28,29,30,31,32,33,34,35,36,37,38,39,40,41,42,43,44,45,46,47,48,49,50,51,53,54,55,56,52,57,58,59,60,61,62,63,65,64,66,67,68,69] (by kernel_rfl) (by kernel_rfl) (fun u d=>?_)
 have AU:=Lib.hid (A11.out.same (d.below (n:=w11.heap.size)))
 have y0:u.cell? ⟨q,0,none⟩=some (.int .u64 o):=AU.out.view.cell 0
 have y1:u.cell? ⟨q,1,none⟩=some (.int .u64 t):=AU.out.view.cell 1
 have y2:u.cell? ⟨q,2,none⟩=some (.slice a ks c):=AU.out.view.cell 2
 clear d
 iterate 56
  (first
   | (apply QC.wpC_load
      (focus rfl)
      (focus decide)
      (focus rfl)
      (focus rfl)
      (focus rfl)
      (focus (assumption))
      (focus (intro u hu;go_simp))
      intro K hK
      go_simp
      refine hK _ ?_
      clear hK K)
   | (apply QC.wpC_pure
      (focus rfl)
      (focus decide)
      intro K hK
      go_simp
      first
       | (refine hK _ ?_;clear hK K)
       | (apply Exists.intro
          refine ⟨fun u=>?_,hK _ ?_⟩
          (focus (unfold QP.oat;go_simp;first | done | exact ⟨rfl,rfl⟩ | exact rfl))
          clear hK K)))
 apply QC.wpC_eff
 (focus rfl)
 (focus decide)
 go_wp2_with fail
 refine (LE.out _ AU.out).mono ?_
 rintro e w12 ⟨rfl,rfl⟩
 go_wp2
 refine QC.eff_ok rfl ?_ ?_
 · (repeat (first | exact QC.obl_nil | refine QC.obl_is (by assumption) ?_ | (apply QC.obl_dep;(focus decide))))
 iterate 6
  (first
   | (apply QC.wpC_load
      (focus rfl)
      (focus decide)
      (focus rfl)
      (focus rfl)
      (focus rfl)
      (focus (assumption))
      (focus (intro u hu;go_simp))
      intro K hK
      go_simp
      refine hK _ ?_
      clear hK K)
   | (apply QC.wpC_pure
      (focus rfl)
      (focus decide)
      intro K hK
      go_simp
      first
       | (refine hK _ ?_;clear hK K)
       | (apply Exists.intro
          refine ⟨fun u=>?_,hK _ ?_⟩
          (focus (unfold QP.oat;go_simp;first | done | exact ⟨rfl,rfl⟩ | exact rfl))
          clear hK K)))
 refine QC.wpC_rest (fun v=>M.RowAt v q 78 #[.int .u64 o,.int .u64 t,.slice a ks c]) (.agg #[.int .u64 o,.int .u64 t,.slice a ks c]) rfl (by decide) (by first | rfl | go_simp) AU.out.view ?_ ?_
 · intro x hx
   exact QP.oat_load_row (ty:=78) (x:=.tmp 9) rfl (g:=q) rfl (t:=78) (cs:=#[.int .u64 o,.int .u64 t,.slice a ks c]) (fr:=(0,0)) _ hx Tryz.underlying78 rfl I78.out rfl
 iterate 1
  (first
   | (apply QC.wpC_load
      (focus rfl)
      (focus decide)
      (focus rfl)
      (focus rfl)
      (focus rfl)
      (focus (assumption))
      (focus (intro u hu;go_simp))
      intro K hK
      go_simp
      refine hK _ ?_
      clear hK K)
   | (apply QC.wpC_pure
      (focus rfl)
      (focus decide)
      intro K hK
      go_simp
      first
       | (refine hK _ ?_;clear hK K)
       | (apply Exists.intro
          refine ⟨fun u=>?_,hK _ ?_⟩
          (focus (unfold QP.oat;go_simp;first | done | exact ⟨rfl,rfl⟩ | exact rfl))
          clear hK K)))
 apply QC.wpC_eff
 (focus rfl)
 (focus decide)
 go_wp2_with fail
 refine (VTG2.out _ AU.out).mono ?_
 rintro e w13 ⟨rfl,g13⟩
 have A13:=Lib.hid (AU.out.same g13)
 have y0':w13.cell? ⟨q,0,none⟩=some (.int .u64 o):=A13.out.view.cell 0
 have y1':w13.cell? ⟨q,1,none⟩=some (.int .u64 t):=A13.out.view.cell 1
 have y2':w13.cell? ⟨q,2,none⟩=some (.slice a ks c):=A13.out.view.cell 2
 clear g13
 go_wp2
 refine QC.eff_ok rfl ?_ ?_
 · (repeat (first | exact QC.obl_nil | refine QC.obl_is (by assumption) ?_ | (apply QC.obl_dep;(focus decide))))
 clear y0 y1 y2
 apply QC.wpC_eff
 (focus rfl)
 (focus decide)
 go_wp2_with fail
 refine (TAG2.out _ A13.out.tw.bel).mono ?_
 rintro e w14 ⟨rfl,g14⟩
 have A14:=Lib.hid (A13.out.same g14)
 have y0:w14.cell? ⟨q,0,none⟩=some (.int .u64 o):=A14.out.view.cell 0
 have y1:w14.cell? ⟨q,1,none⟩=some (.int .u64 t):=A14.out.view.cell 1
 have y2:w14.cell? ⟨q,2,none⟩=some (.slice a ks c):=A14.out.view.cell 2
 clear g14
 go_wp2
 refine QC.eff_ok rfl ?_ ?_
 · (repeat (first | exact QC.obl_nil | refine QC.obl_is (by assumption) ?_ | (apply QC.obl_dep;(focus decide))))
 clear y0' y1' y2'
 refine QC.wpC_rest (fun _=>True) (.bool true) rfl (by decide) (by first | rfl | go_simp) trivial ?_ ?_
 · intro x hx
   exact oat_eql 47 47 (.tmp 129) (.tmp 131) rfl D D (by first | rfl | go_simp) (by first | rfl | go_simp) true guard28 (HEQ.out x) rfl
 iterate 2
  (first
   | (apply QC.wpC_load
      (focus rfl)
      (focus decide)
      (focus rfl)
      (focus rfl)
      (focus rfl)
      (focus (assumption))
      (focus (intro u hu;go_simp))
      intro K hK
      go_simp
      refine hK _ ?_
      clear hK K)
   | (apply QC.wpC_pure
      (focus rfl)
      (focus decide)
      intro K hK
      go_simp
      first
       | (refine hK _ ?_;clear hK K)
       | (apply Exists.intro
          refine ⟨fun u=>?_,hK _ ?_⟩
          (focus (unfold QP.oat;go_simp;first | done | exact ⟨rfl,rfl⟩ | exact rfl))
          clear hK K)))
 refine QC.wpC_nil ?_
 go_wp2
 go_ret
 exact ⟨rfl,HN.out▸A14.out.tw.bel⟩
set_option maxRecDepth 100000 in
theorem tags_many (ch nm lo re:Nat) (ad:Option Addr) (cap k:Nat) (w:World) (h40:40<k) (hn4:4<w.heap.size) (sh:∀ v,Below w.heap.size w v→Calls Tryz.prog 17 #[] v fun e w'=>e=.returned (.bool true)∧Below v.heap.size v w') :
 Calls Tryz.prog 7 #[.int .u32 ch,.int .u16 nm,.agg #[.int .u64 lo,.int .u64 re],.slice ad k cap] w fun e w'=>e=.returned (.bool true)∧Below w.heap.size w w':=by
 obtain ⟨n,hn⟩:∃ n,w.heap.size=n:=⟨_,rfl⟩
 obtain ⟨w1,hw1⟩:∃ w1,w.alloc (.cells #[.int .u64 lo,.int .u64 re] 74)=w1:=⟨_,rfl⟩
 have rb:M.RowAt w1 n 74 #[.int .u64 lo,.int .u64 re]:=hw1▸hn▸M.RowAt.new w 74 #[.int .u64 lo,.int .u64 re]
 have b1:Below n w w1:=hw1▸hn▸(Below.refl _ _).alloc (Nat.le_refl _) _
 have hs1:n<w1.heap.size:=rb.lt
 have SH:=Lib.hid (sh w1 (hn▸b1))
 have d0:decide (40<k)=true:=by simp;omega
 have d0i:decide ((40:Int)<(k:Int))=true:=by simp;omega
 have HV:=Lib.hid hw1;have HN:=Lib.hid hn;have B1:=Lib.hid b1;have HS1:=Lib.hid hs1
 clear sh rb b1 hs1 hw1 hn h40 hn4
 go_enter Tryz.func7,Tryz.ntmps7
 go_wp2_with fail
 rw [HV.out]
 refine (SH.out).mono ?_
 rintro e w2 ⟨rfl,g2⟩
 have B2:=Lib.hid (B1.out.trans (g2.mono (Nat.le_of_lt HS1.out)))
 clear g2
 go_wp2
 go_ret
 exact ⟨rfl,HN.out▸B2.out⟩
end Tg
end Go.Proofs.YtdebnbgjgkbmaaaGreatDoor
namespace Go.Proofs.YtdebnbgjgkbmaaaGreatDoor.Oc
open Go.RowKit
set_option linter.unusedVariables false
structure CK (n g:Nat) (w:World) (C:Array Value) (p:ByteArray) (v:World):Prop where
 ng:n<g
 row:v.heap[n]?=some (.cells C 47 (0,0))
 atw:At v ⟨g,0,none⟩ p
 below:Below n w v
theorem CK.lt {n g:Nat} {w:World} {C:Array Value} {p:ByteArray} {v:World} (h:CK n g w C p v):g<v.heap.size:=World.block_lt_of_cell? v _ h.atw.cell
theorem CK.same {n g:Nat} {w:World} {C:Array Value} {p:ByteArray} {v v':World} (h:CK n g w C p v) (hb:Below v.heap.size v v'):CK n g w C p v':=by
 have hl:=h.lt;have hg:=h.ng
 exact ⟨hg,by rw [hb.block _ (by omega)];exact h.row,h.atw.below hb hl,h.below.trans (hb.mono (by omega))⟩
end Go.Proofs.YtdebnbgjgkbmaaaGreatDoor.Oc
namespace Go.Proofs.YtdebnbgjgkbmaaaGreatDoor
open Go.RowKit
set_option linter.unusedVariables false
set_option maxRecDepth 1000000 in
theorem tags_lst:SX.Lst Rows.topTagsRow.laid:=by
 refine ⟨?_,?_,?_,?_,?_⟩<;>simp [Rows.topTagsRow]
theorem ht_of {w:World} (g:SX.Glb w):Ht.HT w:=by
 refine ⟨g.lt,fun k hk=>(g.r7.cell (10+k)).trans ?_,fun k hk=>(g.r7.cell k).trans ?_,(g.r3.cell 0).trans rfl,(g.r3.cell 1).trans rfl,(g.r3.cell 2).trans rfl,(g.r3.cell 3).trans rfl⟩
 · match k,hk with
   | 0,_=>rfl
   | 1,_=>rfl
   | 2,_=>rfl
   | 3,_=>rfl
   | 4,_=>rfl
   | 5,_=>rfl
   | 6,_=>rfl
   | 7,_=>rfl
   | 8,_=>rfl
   | 9,_=>rfl
 · match k,hk with
   | 0,_=>rfl
   | 1,_=>rfl
   | 2,_=>rfl
   | 3,_=>rfl
   | 4,_=>rfl
   | 5,_=>rfl
   | 6,_=>rfl
   | 7,_=>rfl
   | 8,_=>rfl
   | 9,_=>rfl
set_option maxRecDepth 1000000 in
theorem walk_TopTags {H:Type} {enc:TypeId × Value→H} {W:World} {base:Nat} (a0:Int) (w0:(Lit.int .u32 a0).wf=true) (a1:Int) (w1:(Lit.int .u16 a1).wf=true) (v2:Value) (d2:DataW H) (p2:List MemPlace) (hval2:Value.okWide Tryz.prog W .any base 74 v2) (h2:DataW.Trod enc Tryz.prog W 0 (fun _=>true) true 74 v2 d2 p2)
 (v3:Value) (d3:DataW H) (p3:List MemPlace) (hval3:Value.okWide Tryz.prog W .any base 75 v3) (h3:DataW.Trod enc Tryz.prog W 0 (fun _=>true) true 75 v3 d3 p3) (hsh:W.ShapedOpen Tryz.prog) (hL:laidMetH Tryz.prog Rows.topTagsRow.laid W) :
 Calls Tryz.prog 7 #[.int .u32 a0,.int .u16 a1,v2,v3] W fun e W'=>e=.returned (.bool true)∧Below W.heap.size W W':=by
 have g:=SX.glb_of hsh hL tags_lst
 have sh:=fun v (hb:Below W.heap.size W v)=>SX.shown_any v (g.below hb g.lt)
 have c0:=RowK.wf_u32 w0
 have c1:=RowK.wf_u16 w1
 obtain ⟨ch,rfl⟩:∃ n:Nat,a0=(n:Int):=⟨a0.toNat,by omega⟩
 obtain ⟨nm,rfl⟩:∃ n:Nat,a1=(n:Int):=⟨a1.toNat,by omega⟩
 obtain ⟨lo,re,rfl,hlo,hre⟩:=Tg.base_of_trod hval2 h2
 obtain ⟨A,cap,l,rfl,hle,hmx,hok,hat⟩:=RowK.sl_of_trod (fun x:LV=>x.cells.toList) (fun x=>x.id<18446744073709551616∧x.am<18446744073709551616) (size:=38) Tryz.underlying75 (by kernel_rfl) (by decide) (fun n cs y hcs h=>by
  obtain ⟨x,e1,e2,e3⟩:=Tg.live_of_cells n cs y hcs h
  exact ⟨x,e1,e2,e3⟩) hval3 h3
 by_cases h40:l.length≤40
 · refine Tg.tags_walk ch nm lo re A cap l.length l W (by omega) (by omega) hlo hre (fun i x hx=>?_) rfl h40 hok g.tabs (ht_of g) sh
   have hi:i<l.length:=(List.getElem?_eq_some_iff.1 hx).1
   obtain ⟨b,off,e1,e2,e3⟩:=hat.at_ hi
   exact ⟨b,off,e1,e2,e3 i x hx⟩
 · exact Tg.tags_many ch nm lo re A cap l.length W (by omega) (by have:=g.lt;omega) sh
end Go.Proofs.YtdebnbgjgkbmaaaGreatDoor
namespace Go.Proofs.YtdebnbgjgkbmaaaGreatDoor.Wit9d6a22
set_option maxRecDepth 100000
noncomputable def laidWorld (os:Os):World:=
 { World.holding Tryz.prog os ⟨#[],#[],[]⟩ with heap:=(((((((((((((World.holding Tryz.prog os ⟨#[],#[],[]⟩).heap).modify 5 fun
   | .cells _ t frozen=>.cells #[.int .u8 0,.int .u8 1,.int .u8 28,.int .u8 2,.int .u8 29,.int .u8 14,.int .u8 24,.int .u8 3,.int .u8 30,.int .u8 22,.int .u8 20,.int .u8 15,.int .u8 25,.int .u8 17,.int .u8 4,.int .u8 8,.int .u8 31,.int .u8 27,.int .u8 13,.int .u8 23,.int .u8 21,.int .u8 19,.int .u8 16,.int .u8 7,.int .u8 26,.int .u8 12,.int .u8 18,.int .u8 6,.int .u8 11,.int .u8 5,.int .u8 10,.int .u8 9] t frozen
   | o=>o)).modify 6 fun
   | .cells _ t frozen=>.cells #[.int .u8 0,.int .u8 1,.int .u8 56,.int .u8 2,.int .u8 57,.int .u8 49,.int .u8 28,.int .u8 3,.int .u8 61,.int .u8 58,.int .u8 42,.int .u8 50,.int .u8 38,.int .u8 29,.int .u8 17,.int .u8 4,.int .u8 62,.int .u8 47,.int .u8 59,.int .u8 36,.int .u8 45,.int .u8 43,.int .u8 51,.int .u8 22,.int .u8 53,.int .u8 39,.int .u8 33,.int .u8 30,.int .u8 24,.int .u8 18,.int .u8 12,.int .u8 5,.int .u8 63,.int .u8 55,.int .u8 48,.int .u8 27,.int .u8 60,.int .u8 41,.int .u8 37,.int .u8 16,.int .u8 46,.int .u8 35,.int .u8 44,.int .u8 21,.int .u8 52,.int .u8 32,.int .u8 23,.int .u8 11,.int .u8 54,.int .u8 26,.int .u8 40,.int .u8 15,.int .u8 34,.int .u8 20,.int .u8 31,.int .u8 10,.int .u8 25,.int .u8 14,.int .u8 19,.int .u8 9,.int .u8 13,.int .u8 8,.int .u8 7,.int .u8 6] t frozen
   | o=>o)).modify 0 fun
   | .cells _ t frozen=>.cells #[.int .u32 1779033703,.int .u32 3144134277,.int .u32 1013904242,.int .u32 2773480762,.int .u32 1359893119,.int .u32 2600822924,.int .u32 528734635,.int .u32 1541459225] t frozen
   | o=>o)).modify 4 fun
   | .cells _ t frozen=>.cells #[.int .u32 1116352408,.int .u32 1899447441,.int .u32 3049323471,.int .u32 3921009573,.int .u32 961987163,.int .u32 1508970993,.int .u32 2453635748,.int .u32 2870763221,.int .u32 3624381080,.int .u32 310598401,.int .u32 607225278,.int .u32 1426881987,.int .u32 1925078388,.int .u32 2162078206,.int .u32 2614888103,.int .u32 3248222580,.int .u32 3835390401,.int .u32 4022224774,.int .u32 264347078,.int .u32 604807628,.int .u32 770255983,.int .u32 1249150122,.int .u32 1555081692,.int .u32 1996064986,.int .u32 2554220882,.int .u32 2821834349,.int .u32 2952996808,.int .u32 3210313671,.int .u32 3336571891,.int .u32 3584528711,.int .u32 113926993,.int .u32 338241895,.int .u32 666307205,.int .u32 773529912,.int .u32 1294757372,.int .u32 1396182291,.int .u32 1695183700,.int .u32 1986661051,.int .u32 2177026350,.int .u32 2456956037,.int .u32 2730485921,.int .u32 2820302411,.int .u32 3259730800,.int .u32 3345764771,.int .u32 3516065817,.int .u32 3600352804,.int .u32 4094571909,.int .u32 275423344,.int .u32 430227734,.int .u32 506948616,.int .u32 659060556,.int .u32 883997877,.int .u32 958139571,.int .u32 1322822218,.int .u32 1537002063,.int .u32 1747873779,.int .u32 1955562222,.int .u32 2024104815,.int .u32 2227730452,.int .u32 2361852424,.int .u32 2428436474,.int .u32 2756734187,.int .u32 3204031479,.int .u32 3329325298] t frozen
   | o=>o)).modify 7 fun
   | .cells _ t frozen=>.cells #[.int .i64 3,.int .i64 4,.int .i64 1,.int .i64 2,.int .i64 0,.int .i64 1,.int .i64 2,.int .i64 3,.int .i64 4,.int .i64 0,.int .i64 1,.int .i64 2,.int .i64 3,.int .i64 4,.int .i64 0,.int .i64 3,.int .i64 4,.int .i64 1,.int .i64 2,.int .i64 0] t frozen
   | o=>o)).modify 3 fun
   | .cells _ t frozen=>.cells #[.int .i64 1,.int .i64 7,.int .i64 3,.int .i64 5] t frozen
   | o=>o) }
theorem vars (os:Os) (args:Array Value):((laidWorld os).forCall (fun _ _=>0) ⟨#[],args,[]⟩).variablesB Tryz.checked.prog=true:=by kernel_rfl
theorem rest (os:Os) (args:Array Value):(((laidWorld os).forCall (fun _ _=>0) ⟨#[],args,[]⟩).heap.toList.drop Tryz.checked.prog.globals.size).take ((begin Tryz.checked.prog (fun _ _=>0) default).world.heap.size-Tryz.checked.prog.globals.size) =
 (begin Tryz.checked.prog (fun _ _=>0) default).world.heap.toList.drop Tryz.checked.prog.globals.size:=by kernel_rfl
def laid:List (String × DataW Unit):=[("math/bits.deBruijn32tab",Rows.laid_math_bits_deBruijn32tab),("math/bits.deBruijn64tab",Rows.laid_math_bits_deBruijn64tab),("remitter/digest.begin",Rows.laid_remitter_digest_begin),("remitter/digest.table",Rows.laid_remitter_digest_table),("remitter/htlc.events",Rows.laid_remitter_htlc_events),("remitter/htlc.spans",Rows.laid_remitter_htlc_spans)]
theorem met (os:Os) (args:Array Value):laidMet Tryz.prog laid ((laidWorld os).forCall (fun _ _=>0) ⟨#[],args,[]⟩).memory:=
 laidMet_of_run' 8 (by kernel_rfl) (by kernel_rfl)
end Go.Proofs.YtdebnbgjgkbmaaaGreatDoor.Wit9d6a22
