import Derived.ArgAppend
import Derived.Below
import Derived.BigQuiet
import Derived.Calls
import Derived.ChangeKeysEq
import Derived.ChangeOld
import Derived.Deep.AppendLies
import Derived.Deep.AppendSrc
import Derived.Deep.DeepHandedRow
import Derived.Deep.LoopGhost
import Derived.Deep.MidRow
import Derived.Deep.Onto
import Derived.Deep.QuietTactic
import Derived.Deep.RegionHeld3
import Derived.Deep.RegionWith
import Derived.Deep.WholeRow
import Derived.DeepKeys
import Derived.DeepKeys3
import Derived.Defers
import Derived.Laws.AppendOwn
import Derived.Laws.Bits64b
import Derived.Laws.BitsAllLaws
import Derived.Laws.BytesArg
import Derived.Laws.BytesString
import Derived.Laws.EntriesVeiled
import Derived.Laws.MakeOwn
import Derived.Laws.OwnMore
import Derived.Laws.Rows
import Derived.Laws.Tables
import Derived.Lib.BufferWrite
import Derived.Lib.Builder
import Derived.Lib.ConvBytes
import Derived.Lib.FrozenHead2
import Derived.Lib.Hide
import Derived.Lib.LaidTab
import Derived.Lib.SlFresh
import Derived.Lib.Strings
import Derived.Lib.TrailingZeros
import Derived.Lib.UnsafeStr
import Derived.LoopIn
import Derived.LoopNIn
import Derived.Maps.Keyed
import Derived.OpenShut
import Derived.Orders
import Derived.Outline
import Derived.OwnWalk
import Derived.OwnWalkIn
import Derived.ProofKit
import Derived.RangeFuncBound
import Derived.RangeFuncCalls
import Derived.RangeFuncFrom
import Derived.RangeFuncLeaves
import Derived.RangeFuncNested
import Derived.Recover
import Derived.Shelf.Abstract
import Derived.Shelf.RegionOpen
import Derived.Shelf.RegionOpenPlain
import Derived.Shelf.Spec.SlicesInsert
import Derived.ShutString
import Derived.StillTailTactics
import Derived.TacticsInMore
import Derived.Test.YtdebnbgjgkbmaaaGreatDoorRows
import Derived.WalkKit
import Derived.WalkLawsBesides
import Derived.WalkSpells
import Derived.Test.YtdebnbgjgkbmaaaGreatDoorK2
namespace Go.Proofs.YtdebnbgjgkbmaaaGreatDoor.Oc
open Go.RowKit
set_option linter.unusedVariables false
def val (l:List UInt8):Int:=l.foldl (fun a b=>a*256+(b.toNat:Int)) 0
theorem val_snoc (l:List UInt8) (b:UInt8):val (l++[b])=val l*256+(b.toNat:Int):=by simp [val]
theorem val_acc (l:List UInt8) (a:Int) (h:0≤a):0≤l.foldl (fun a b=>a*256+(b.toNat:Int)) a∧l.foldl (fun a b=>a*256+(b.toNat:Int)) a<(a+1)*256 ^ l.length:=by
 induction l generalizing a with
 | nil=>simp;omega
 | cons b r ih=>
   have hb:=b.toNat_lt
   obtain ⟨h1,h2⟩:=ih (a*256+(b.toNat:Int)) (by omega)
   refine ⟨h1,?_⟩
   have e:(a+1)*256 ^ (r.length+1)=(a+1)*256*256 ^ r.length:=by rw [Int.pow_succ,Int.mul_comm (256 ^ r.length) 256,← Int.mul_assoc]
   rw [List.foldl_cons,List.length_cons,e]
   have h3:(a*256+(b.toNat:Int)+1)*256 ^ r.length≤(a+1)*256*256 ^ r.length:=
    Int.mul_le_mul_of_nonneg_right (by omega) (Int.pow_nonneg (by decide))
   omega
theorem val_nonneg (l:List UInt8):0≤val l:=(val_acc l 0 (by decide)).1
theorem val_lt (l:List UInt8):val l<256 ^ l.length:=by
 have:=(val_acc l 0 (by decide)).2
 simpa [val] using this
theorem val_le (l:List UInt8) (h:l.length≤7):val l≤72057594037927935:=by
 have h1:=val_lt l
 have h2:(256:Int) ^ l.length≤256 ^ 7:=by
  have:(256:Nat) ^ l.length≤256 ^ 7:=Nat.pow_le_pow_right (by decide) h
  have e:∀ k:Nat,((256:Int) ^ k)=((256 ^ k:Nat):Int):=fun k=>by simp
  rw [e,e];exact Int.ofNat_le.2 this
 have h3:(256:Int) ^ 7=72057594037927936:=by decide
 omega
theorem or_byte (x b:Int) (x0:0≤x) (x1:x≤72057594037927935) (b0:0≤b) (b1:b≤255):bits .or .u64 (x*256) b=x*256+b:=
 bits_join .u64 64 (by decide) (fun n a c=>by rw [IntKind.wrap_u64];omega) 8 _ _ (by omega) (by omega) (by omega) (by omega) (by omega) (by omega)
theorem take_snoc (s:ByteArray) (k:Nat) (h:k<s.size):s.data.toList.take (k+1)=s.data.toList.take k++[s[k]]:=by
 rw [List.take_succ_eq_append_getElem (by simpa using h)];rfl
set_option maxRecDepth 100000 in
set_option maxHeartbeats 1000000 in
theorem rdnum_short (r:Addr) (s:ByteArray) (wd:Int) (w:World) (h:At w r s) (hs:s.size≤4611686018427387904) (h1:1≤wd) (h8:wd≤8) (hw:(s.size:Int)<wd) :
 Calls Tryz.prog 36 #[.pointer (some r),.int .i64 wd] w fun e w'=>e=.returned (.tuple #[.int .u64 0,.int .i64 10])∧Below w.heap.size (w.setCell r (.string s)) w':=by
 have HB:=Lib.hid (back_rd r s w h)
 generalize hn:w.heap.size=n at *
 go_enter_defers Tryz.func36,Tryz.ntmps36
 go_wp2_with fail
 refine (HB.out).mono ?_
 rintro e w1 ⟨rfl,h1'⟩
 go_wp2_with fail
 refine (take_short r s wd w1 h1'.atc hs hw (by omega)).mono ?_
 rintro e w2 ⟨rfl,rfl⟩
 have c1:=h1'.e
 have c2:=h1'.ef
 have h2:=h1'.setE 10
 have c3:=h2.e
 have c4:=h2.ef
 go_wp2
 go_region
 go_wp2
 have h3:=(h2.setE 10).drew
 generalize ((w1.setCell ⟨n,0,none⟩ (.int .i64 10)).setCell ⟨n,0,none⟩ (.int .i64 10)).drew=w3 at *
 refine leaves_cons (f:=202) (args:=#[.pointer (some ⟨n+1+1,0,none⟩),.pointer (some ⟨n+1+1+1,0,none⟩),.pointer (some ⟨n+1,0,none⟩)]) (by simp) (by simp [go_sem]) ?_
 refine (back1_rd1 .returning h3 (by decide)).mono ?_
 rintro e u' w4 ⟨rfl,rfl,h4⟩
 have c5:=h4.e
 simp [Leaves,settle,results,Tryz.results36,go_sem,c5]
 exact h4.below
set_option maxRecDepth 100000 in
set_option maxHeartbeats 1000000 in
theorem rdnum_ok (r:Addr) (s:ByteArray) (k0:Nat) (w:World) (h:At w r s) (hs:s.size≤4611686018427387904) (h1:1≤k0) (h8:k0≤8) (hw:k0≤s.size) :
 Calls Tryz.prog 36 #[.pointer (some r),.int .i64 k0] w fun e w'=>e=.returned (.tuple #[.int .u64 (val (s.data.toList.take k0)),.int .i64 0])∧Below w.heap.size (w.setCell r (.string (s.extract k0 s.size))) w':=by
 have HB:=Lib.hid (back_rd r s w h)
 have hT:(s.extract 0 k0).data.toList=s.data.toList.take k0:=by simp
 have hTs:(s.extract 0 k0).size=k0:=by simp;omega
 have tk:=fun w1 h'=>take_ok r s k0 w1 h' hs hw
 rw [←hT]
 generalize s.extract 0 k0=T at *
 have TK:=Lib.hid tk
 generalize hn:w.heap.size=n at *
 have H1:=Lib.hid h1;have H8:=Lib.hid h8
 have g1:1≤(k0:Int):=by omega
 have g8:(k0:Int)≤8:=by omega
 clear h1 h8 tk hT
 subst hTs
 go_enter_defers Tryz.func36,Tryz.ntmps36
 go_wp2_with fail
 refine (HB.out).mono ?_
 rintro e w1 ⟨rfl,h1'⟩
 go_wp2_with fail
 refine (TK.out w1 h1'.atc).mono ?_
 rintro e w2 ⟨rfl,rfl⟩
 have h2:=h1'.setR (s.extract T.size s.size)
 generalize w1.setCell r (.string (s.extract T.size s.size))=w2 at *
 have h3:=h2.setE 0
 have c1:=h2.e
 have c2:=h2.ef
 have c3:=h3.e
 have c4:=h3.ef
 go_wp2
 generalize w2.setCell ⟨n,0,none⟩ (.int .i64 0)=w3 at *
 go_loop [4,27] (fun x i=>∃ k:Nat,k≤T.size∧i=.int .i64 k∧x=.int .u64 (val (T.data.toList.take k))) (fun _ i=>T.size-(intOf i).toNat)
 case atStart=>exact ⟨0,by omega,rfl,rfl⟩
 case round=>
  obtain ⟨k,hk,rfl,rfl⟩:=hrel
  by_cases hlt:k<T.size
  · have hv0:=val_nonneg (T.data.toList.take k)
    have hv1:=val_le (T.data.toList.take k) (by simp;have:=H8.out;omega)
    have hsn:=val_snoc (T.data.toList.take k) T[k]
    rw [←take_snoc T k hlt] at hsn
    have hb:=T[k].toNat_lt
    have hor:=or_byte (val (T.data.toList.take k)) (T[k].toNat:Int) hv0 hv1 (by omega) (by omega)
    have HS:=Lib.hid hsn;clear hsn
    generalize val (T.data.toList.take k)=x at *
    go_wp2
    go_round
    case rel=>exact ⟨k+1,by omega,by go_num,by rw [HS.out]⟩
    case measure=>simp [intOf];omega
  · obtain rfl:k=T.size:=by omega
    have e1:T.data.toList.take T.size=T.data.toList:=List.take_of_length_le (by simp)
    have h4:=h3.setE 0
    go_wp2
    generalize w3.setCell ⟨n,0,none⟩ (.int .i64 0)=w4 at *
    refine leaves_cons (f:=202) (args:=#[.pointer (some ⟨n+1+1,0,none⟩),.pointer (some ⟨n+1+1+1,0,none⟩),.pointer (some ⟨n+1,0,none⟩)]) (by simp) (by simp [go_sem]) ?_
    refine (back1_rd0 .returning h4).mono ?_
    rintro e u' w5 ⟨rfl,rfl,h5⟩
    have c5:=h5.e
    simp [Leaves,settle,results,Tryz.results36,go_sem,c5]
    exact h5.below
def rdN (s:ByteArray) (wd:Int):Int:=if wd<1∨8<wd∨(s.size:Int)<wd then 0 else val (s.data.toList.take wd.toNat)
def rdE (s:ByteArray) (wd:Int):Int:=if wd<1∨8<wd then 1 else if (s.size:Int)<wd then 10 else 0
def rdS (s:ByteArray) (wd:Int):ByteArray:=if wd<1∨8<wd∨(s.size:Int)<wd then s else s.extract wd.toNat s.size
theorem rdnum_any (r:Addr) (s:ByteArray) (wd:Int) (w:World) (h:At w r s) (hs:s.size≤4611686018427387904) :
 Calls Tryz.prog 36 #[.pointer (some r),.int .i64 wd] w fun e w'=>e=.returned (.tuple #[.int .u64 (rdN s wd),.int .i64 (rdE s wd)])∧Below w.heap.size (w.setCell r (.string (rdS s wd))) w':=by
 unfold rdN rdE rdS
 by_cases h1:wd<1∨8<wd
 · have h2:wd<1∨8<wd∨(s.size:Int)<wd:=by omega
   rw [if_pos h1,if_pos h2,if_pos h2]
   exact rdnum_bad r s wd w h h1
 · by_cases h3:(s.size:Int)<wd
   · have h2:wd<1∨8<wd∨(s.size:Int)<wd:=by omega
     rw [if_neg h1,if_pos h2,if_pos h2,if_pos h3]
     exact rdnum_short r s wd w h hs (by omega) (by omega) h3
   · have h2:¬ (wd<1∨8<wd∨(s.size:Int)<wd):=by omega
     rw [if_neg h1,if_neg h2,if_neg h2,if_neg h3]
     obtain ⟨k,rfl⟩:=Int.eq_ofNat_of_zero_le (a:=wd) (by omega)
     rw [Int.toNat_natCast]
     exact rdnum_ok r s k w h hs (by omega) (by omega) (by omega)
open Go.RowKit
set_option linter.unusedVariables false
theorem new_any (s:ByteArray) (w:World) :
 Calls Tryz.prog 35 #[.string s] w fun e w'=>e=.returned (.pointer (some ⟨w.heap.size,0,none⟩))∧w'=w.alloc (.cells #[.string s] 228):=by
 go_enter Tryz.func35,Tryz.ntmps35
 go_wp2
 go_ret
 exact ⟨rfl,rfl⟩
theorem empty_iff (s:ByteArray):s.toList.isEmpty=decide (s.size=0):=by
 rw [ByteArray.toList_eq,Lib.size_eq]
 cases s.data.toList<;>simp
theorem end_any (r:Addr) (s:ByteArray) (w:World) (h:At w r s) :
 Calls Tryz.prog 118 #[.pointer (some r)] w fun e w'=>e=.returned (.int .i64 (if s.size=0 then 0 else 11))∧w=w':=by
 have hc:=h.cell
 clear h
 by_cases hz:s.size=0
 · rw [if_pos hz]
   have he:(!s.toList.isEmpty)=false:=by rw [empty_iff];simp [hz]
   clear hz
   go_enter Tryz.func118,Tryz.ntmps118
   go_wp2
   go_ret
   exact ⟨rfl,rfl⟩
 · rw [if_neg hz]
   have he:(!s.toList.isEmpty)=true:=by rw [empty_iff];simp [hz]
   clear hz
   go_enter Tryz.func118,Tryz.ntmps118
   go_wp2
   go_ret
   exact ⟨rfl,rfl⟩
end Go.Proofs.YtdebnbgjgkbmaaaGreatDoor.Oc
namespace Go.Proofs.YtdebnbgjgkbmaaaGreatDoor
open Go.RowKit
set_option linter.unusedVariables false
abbrev r64 (n:Nat) (f:Nat→Nat):Array Value:=M.rowF .u64 n fun i=>(f i:Nat)
abbrev stX (s:Sha.St):Array Value:=r64 8 s.get
def Y8:Array Value:=#[.int .u64 0,.int .u64 0,.int .u64 0,.int .u64 0,.int .u64 0,.int .u64 0,.int .u64 0,.int .u64 0]
end Go.Proofs.YtdebnbgjgkbmaaaGreatDoor
namespace Go.Proofs.YtdebnbgjgkbmaaaGreatDoor
open Go.RowKit
set_option linter.unusedVariables false
structure CX (n:Nat) (w:World) (s:Sha.St) (W:Nat→Nat) (v:World):Prop where
 r0:M.RowAt v n 347 (stX s)
 r1:M.RowAt v (n+1) 347 Y8
 r2:M.RowAt v (n+1+1) 395 (r64 64 W)
 below:Below n w v
section
variable {n:Nat} {w:World} {s:Sha.St} {W W':Nat→Nat} {v v':World}
theorem CX.drew (h:CX n w s W v):CX n w s W v.drew:=⟨h.r0,h.r1,h.r2,h.below.drew⟩
theorem CX.same (h:CX n w s W v) (hb:Below v.heap.size v v'):CX n w s W v':=
 ⟨h.r0.call hb,h.r1.call hb,h.r2.call hb,h.below.trans (hb.mono (by have:=h.r0.lt;omega))⟩
theorem CX.set (h:CX n w s W v) (i x:Nat) (hi:i<64) (hW:∀ j,j<64→W' j=if j=i then x else W j) :
 CX n w s W' (v.setCell ⟨n+1+1,i,none⟩ (.int .u64 (x:Nat))):=by
 refine ⟨h.r0.far (by show n+1+1≠n;omega) _,h.r1.far (by show n+1+1≠n+1;omega) _,?_,h.below.setCell (by show n≤n+1+1;omega) _⟩
 have:=h.r2.set i (.int .u64 (x:Nat))
 rw [M.rowF_set (g:=fun i=>((W' i:Nat):Int)) _ hi (fun j hj=>by rw [hW j hj];split<;>rfl)] at this
 exact this
end
end Go.Proofs.YtdebnbgjgkbmaaaGreatDoor
namespace Go.Proofs.YtdebnbgjgkbmaaaGreatDoor
open Go.RowKit
set_option linter.unusedVariables false
theorem und28:Tryz.prog.underlying 47=some (.array 32 5):=u28
def BV:Array Value:=#[.int .u64 1779033703,.int .u64 3144134277,.int .u64 1013904242,.int .u64 2773480762,.int .u64 1359893119,.int .u64 2600822924,.int .u64 528734635,.int .u64 1541459225]
structure CS (n:Nat) (w:World) (R:Array Value) (h:Sha.St) (v:World):Prop where
 r:v.heap[n]?=some (.cells R 47 (0,0))
 h:v.heap[n+1]?=some (.cells (stX h) 347 (0,0))
 below:Below n w v
section
variable {n:Nat} {w:World} {R R':Array Value} {h h':Sha.St} {v v':World}
theorem CS.drew (c:CS n w R h v):CS n w R h v.drew:=⟨c.r,c.h,c.below.drew⟩
theorem CS.same (c:CS n w R h v) (hb:Below v.heap.size v v'):CS n w R h v':=
 ⟨M.RowAt.call c.r hb,M.RowAt.call c.h hb,c.below.trans (hb.mono (by have:=M.RowAt.lt c.r;omega))⟩
end
end Go.Proofs.YtdebnbgjgkbmaaaGreatDoor
namespace Go.Proofs.YtdebnbgjgkbmaaaGreatDoor
open Go.RowKit
set_option linter.unusedVariables false
section
variable {n:Nat} {w0 v v':World} {a jb m:Nat} {B:ByteArray} {X X':Ths} {p buf:Value}
theorem info43:(Tryz.prog.info? 291).map (·.size)=some 2:=by kernel_rfl
theorem lies43:liesAt Tryz.prog Tryz.prog.depth 293 (6/Tryz.prog.cellsOf 293) 0 291 1=true:=by kernel_rfl
set_option maxHeartbeats 1000000 in
set_option maxRecDepth 100000 in
theorem cc_fresh (b:Nat) (w:World) (h0:w.cell? ⟨b,0,none⟩=some (.pointer none)) (hsh:w.shape? b=some (293,6)) (hfz:w.frozen? ⟨b,0,none⟩=false) :
 Calls Tryz.prog 250 #[.pointer (some ⟨b,0,none⟩)] w fun e w'=>e=.returned (.tuple #[])∧w'=w.setCell ⟨b,0,none⟩ (.pointer (some ⟨b,0,none⟩)):=by
 obtain ⟨j,hj,hjs⟩:=Option.map_eq_some_iff.1 info43
 go_enter Tryz.func250,Tryz.ntmps250
 go_wp2
 rw [Lib.run_to_unsafe w ⟨b,0,none⟩ Tryz.underlying289 Tryz.underlying411 hj (by rw [hjs];decide) hsh (show 0<6 by decide)]
 simp only [Result.andThen]
 rw [Oper.upon_value]
 go_wp2
 rw [run_callFunc_extern Tryz.func297 (by kernel_rfl) (by kernel_rfl) (by kernel_rfl) (e:=Extern.AbiNoEscape.same) (by kernel_rfl)]
 rw [Lib.run_noEscape]
 simp only [Result.andThen]
 rw [Oper.upon_value]
 go_wp2
 rw [Lib.run_from_unsafe w ⟨b,0,none⟩ Tryz.underlying411 Tryz.underlying289 hj hsh lies43]
 simp only [Result.andThen]
 rw [Oper.upon_value]
 go_wp2
 go_end0
 exact ⟨rfl,rfl⟩
end
end Go.Proofs.YtdebnbgjgkbmaaaGreatDoor
namespace Go.Proofs.YtdebnbgjgkbmaaaGreatDoor
namespace SX
open Go Go.RowKit
set_option linter.unusedVariables false
theorem i291:(Tryz.prog.info? 291).map (·.size)=some 2:=by kernel_rfl
theorem lies291:liesAt Tryz.prog Tryz.prog.depth 291 (2/Tryz.prog.cellsOf 291) 0 291 1=true:=by kernel_rfl
set_option maxHeartbeats 1000000 in
set_option maxRecDepth 100000 in
theorem cc_fresh2 (b t m:Nat) (w:World) (ht:(t=293∧m=6)∨(t=291∧m=2)) (h0:w.cell? ⟨b,0,none⟩=some (.pointer none)) (hsh:w.shape? b=some (t,m)) (hfz:w.frozen? ⟨b,0,none⟩=false) :
 Calls Tryz.prog 250 #[.pointer (some ⟨b,0,none⟩)] w fun e w'=>e=.returned (.tuple #[])∧w'=w.setCell ⟨b,0,none⟩ (.pointer (some ⟨b,0,none⟩)):=by
 rcases ht with ⟨rfl,rfl⟩ | ⟨rfl,rfl⟩
 · exact cc_fresh b w h0 hsh hfz
 · obtain ⟨j,hj,hjs⟩:=Option.map_eq_some_iff.1 i291
   go_enter Tryz.func250,Tryz.ntmps250
   go_wp2
   rw [Lib.run_to_unsafe w ⟨b,0,none⟩ Tryz.underlying289 Tryz.underlying411 hj (by rw [hjs];decide) hsh (show 0<2 by decide)]
   simp only [Result.andThen]
   rw [Oper.upon_value]
   go_wp2
   rw [run_callFunc_extern Tryz.func297 (by kernel_rfl) (by kernel_rfl) (by kernel_rfl) (e:=Extern.AbiNoEscape.same) (by kernel_rfl)]
   rw [Lib.run_noEscape]
   simp only [Result.andThen]
   rw [Oper.upon_value]
   go_wp2
   rw [Lib.run_from_unsafe w ⟨b,0,none⟩ Tryz.underlying411 Tryz.underlying289 hj hsh lies291]
   simp only [Result.andThen]
   rw [Oper.upon_value]
   go_wp2
   go_end0
   exact ⟨rfl,rfl⟩
theorem cc_used_at (b o:Nat) (w:World) (h0:w.cell? ⟨b,o,none⟩=some (.pointer (some ⟨b,o,none⟩))) :
 Calls Tryz.prog 250 #[.pointer (some ⟨b,o,none⟩)] w fun e w'=>e=.returned (.tuple #[])∧w=w':=by
 obtain ⟨j,hj,hjs⟩:=Option.map_eq_some_iff.1 info43
 have hne:=fun w:World=>Lib.run_neq_ptr_same (P:=Tryz.prog) w ⟨b,o,none⟩ Tryz.underlying289 hj
 go_enter Tryz.func250,Tryz.ntmps250
 go_wp2
 go_end0
 exact ⟨rfl,rfl⟩
noncomputable def markOk (t m:Nat):Bool:=or (and (Nat.beq t 293) (Nat.beq m 6)) (and (Nat.beq t 291) (Nat.beq m 2))
noncomputable def cc2 (h:Hp) (nx b:Nat) (cs:List Value):XR:=match cs with
 | .pointer (some a)::_=>Bool.rec (motive:=fun _=>XR) (.bad "check: copied") (.ok (.tuple #[]) h nx) (eqA a ⟨b,0,none⟩)
 | .iface t (.pointer (some a))::r=>Bool.rec (motive:=fun _=>XR) (.bad "check: place") (.ok (.tuple #[]) (TT.set DH h b (.cells (.pointer (some ⟨b,0,none⟩)::r))) nx) (and (eqA a ⟨b,Nat.succ r.length,none⟩) (markOk t (Nat.succ r.length)))
 | _=>.bad "check: cells"
noncomputable def cc1 (h:Hp) (nx b:Nat) (o:Option Blk):XR:=match o with | some (.cells cs)=>cc2 h nx b cs | _=>.bad "check: block"
noncomputable def hkCc (args:List Value) (h:Hp) (nx:Nat):XR:=match args with
 | [.pointer (some a)]=>Bool.rec (motive:=fun _=>XR) (.bad "check: part") (fN a.block fun b=>cc1 h nx b (TT.get DH h b)) (and (eqA a ⟨a.block,0,none⟩) (Nat.blt a.block 65536))
 | _=>.bad "check"
theorem nest_true {a b c:Bool} (h:Bool.rec (motive:=fun _=>Bool) false (Bool.rec (motive:=fun _=>Bool) false c b) a=true):a=true∧b=true∧c=true:=by
 cases a<;>cases b<;>cases c<;>first | exact ⟨rfl,rfl,rfl⟩ | cases h
theorem eqA_eq {a b:Addr} (h:eqA a b=true):a=b:=by
 obtain ⟨x,y,z⟩:=a
 obtain ⟨x',y',z'⟩:=b
 unfold eqA at h
 obtain ⟨h1,h2,h3⟩:=nest_true h
 obtain rfl:=Nat.eq_of_beq_eq_true h1
 obtain rfl:=Nat.eq_of_beq_eq_true h2
 cases z with
 | none=>
   cases z' with
   | none=>rfl
   | some c=>cases h3
 | some c=>cases z'<;>cases h3
theorem VR.tnil_inv {σ:Sig} {ρ:Rho} {t n m:Nat} {sp:Option Nat} {x':Value} (h:VR σ ρ (.iface t (.pointer (some ⟨n,m,sp⟩))) x'):x'=.pointer none∧∃ p,ρ n=some p∧p.t=t∧p.n=m:=by
 cases h with
 | tnil n t m p e1 e2 e3=>exact ⟨rfl,p,e1,e2,e3⟩
theorem cc_ok {C:Cfg} (hP:C.E.P=Tryz.prog) {σ:Sig} {ρ:Rho} {args:List Value} {h:Hp} {nx:Nat} {v:Value} {h':Hp} {nx':Nat} {w:World} {args':Array Value} (e:hkCc args h nx=.ok v h' nx') (s:Sim σ C.E.gl ρ h nx w) (hv:VL σ ρ args args'.toList) :
 Calls C.E.P 250 args' w fun e w'=>∃ v',e=.returned v'∧Did C.E σ ρ h nx w v h' nx' v' w':=by
 unfold hkCc at e
 split at e
 · rename_i a
   obtain ⟨x',hx,hxv⟩:=hv.one
   cases hb:and (eqA a ⟨a.block,0,none⟩) (Nat.blt a.block 65536) with
   | false=>rw [hb] at e;cases e
   | true=>
     rw [hb] at e
     have hb:(eqA a ⟨a.block,0,none⟩&&Nat.blt a.block 65536)=true:=hb
     rw [Bool.and_eq_true] at hb
     have ha:=eqA_eq hb.1
     have hlt:a.block<65536:=blt_lt hb.2
     obtain ⟨n,off,sp⟩:=a
     injection ha with q1 q2 q3
     subst q2;subst q3
     have e:fN n (fun b=>cc1 h nx b (TT.get DH h b))=.ok v h' nx':=e
     rw [fN_eq] at e
     obtain ⟨p,hp,_,rfl⟩:=hxv.ptr_inv
     have hn:=s.at hp
     have harg:args'=#[.pointer (some ⟨p.b,p.o+0,none⟩)]:=by apply Array.ext';exact hx
     subst harg
     unfold cc1 at e
     split at e
     · rename_i cs hg
       obtain ⟨p',hp',hr⟩:=s.live n hn _ hg
       rw [hp] at hp';cases hp'
       obtain ⟨sh,fz,hlen,L,hcl,hrange⟩:=(show CR σ ρ cs p w from hr)
       unfold cc2 at e
       split at e
       · rename_i a r
         cases hq:eqA a ⟨n,0,none⟩ with
         | false=>rw [hq] at e;cases e
         | true=>
           rw [hq] at e
           obtain rfl:=eqA_eq hq
           injection e with q1 q2 q3
           subst q1;subst q2;subst q3
           have hL:L≠[]:=fun e=>by rw [e] at hcl;have:=hcl.1;simp at this
           obtain ⟨y,L,rfl⟩:=List.exists_cons_of_ne_nil hL
           have hy:=(hcl.2 0 _ y rfl rfl).1
           obtain ⟨p2,hp2,_,rfl⟩:=hy.ptr_inv
           rw [hp] at hp2;cases hp2
           have hc:=hrange 0 _ rfl
           rw [hP]
           have hc:w.cell? ⟨p.b,p.o+0,none⟩=some (.pointer (some ⟨p.b,p.o+0,none⟩)):=hc
           refine (cc_used_at p.b (p.o+0) w hc).mono ?_
           rintro e w' ⟨rfl,rfl⟩
           exact ⟨_,rfl,ρ,.tuple _ _ rfl (fun i x x' a _=>by simp at a),s,Ext.refl⟩
       · rename_i t a r
         cases hq:and (eqA a ⟨n,Nat.succ r.length,none⟩) (markOk t (Nat.succ r.length)) with
         | false=>rw [hq] at e;cases e
         | true=>
           rw [hq] at e
           have hq:(eqA a ⟨n,Nat.succ r.length,none⟩&&markOk t (Nat.succ r.length))=true:=hq
           rw [Bool.and_eq_true] at hq
           obtain rfl:=eqA_eq hq.1
           injection e with q1 q2 q3
           subst q1;subst q2;subst q3
           have hL:L≠[]:=fun e=>by rw [e] at hcl;have:=hcl.1;simp at this
           obtain ⟨y,L,rfl⟩:=List.exists_cons_of_ne_nil hL
           have hy:=(hcl.2 0 _ y rfl rfl).1
           obtain ⟨rfl,p2,hp2,ht,hm⟩:=hy.tnil_inv
           rw [hp] at hp2;cases hp2
           have ho:p.o=0:=by simp only [List.length_cons] at hlen;omega
           have hc:=hrange 0 _ rfl
           rw [ho] at hc ⊢
           have hmk:(p.t=293∧p.n=6)∨(p.t=291∧p.n=2):=by
            have h2:=hq.2
            rw [ht,hm]
            have h2:((Nat.beq t 293&&Nat.beq (Nat.succ r.length) 6)||(Nat.beq t 291&&Nat.beq (Nat.succ r.length) 2))=true:=h2
            simp only [Bool.or_eq_true,Bool.and_eq_true] at h2
            rcases h2 with ⟨a,b⟩ | ⟨a,b⟩
            · exact .inl ⟨Nat.eq_of_beq_eq_true a,Nat.eq_of_beq_eq_true b⟩
            · exact .inr ⟨Nat.eq_of_beq_eq_true a,Nat.eq_of_beq_eq_true b⟩
           rw [hP]
           refine (cc_fresh2 p.b p.t p.n w hmk hc sh (fz 0 (by omega))).mono ?_
           rintro e w' ⟨rfl,rfl⟩
           have hput:=CR.put (w:=w) (p:=p) (cs:=.iface t (.pointer (some ⟨n,Nat.succ r.length,none⟩))::r) hr (off:=0) (ys:=[.pointer (some ⟨n,0,none⟩)]) (ys':=[.pointer (some ⟨p.b,0,none⟩)])
            (CL.cons (by have:=VR.ptr (σ:=σ) n 0 p hp;rw [ho] at this;exact this) rfl rfl CL.nil) (by simp)
           rw [ho] at hput
           obtain ⟨s2,x2⟩:=s.upd hn hp (by rw [hg];rfl) (b:=.cells (.pointer (some ⟨n,0,none⟩)::r)) (w':=w.setCells p.b 0 [.pointer (some ⟨p.b,0,none⟩)]) hput (fun k hk=>heap_setCells _ _ _ k hk) (size_setCells _ _ _)
           exact ⟨_,rfl,ρ,.tuple _ _ rfl (fun i x x' a _=>by simp at a),s2,x2⟩
       · cases e
     · cases e
 · cases e
end SX
end Go.Proofs.YtdebnbgjgkbmaaaGreatDoor
namespace Go.Proofs.YtdebnbgjgkbmaaaGreatDoor
namespace QT
open QP (upon oat wp_of_oat cls getD_mono)
set_option linter.unusedVariables false
variable {P:Program} {ops:Array Oper} {md:Region.Mode} {Cf Ct:World→Prop} {p:Nat}
def dep (md:Region.Mode) (ops:Array Oper) (t:Nat):Nat→Oper→Bool
 | 0,_=>false
 | f+1,o=>o.after.toList.any fun e=>Region.binds md e&&(e.on==t||match ops[e.on]? with | some o'=>dep md ops t f o' | none=>false)
def waits (md:Region.Mode) (ops:Array Oper) (p:Nat) (o:Oper):Bool:=dep md ops p 4 o
def fst (md:Region.Mode) (ops:Array Oper) (p j:Nat):Bool:=match ops[p]? with | some o=>dep md ops j 4 o | none=>false
def allowed (P:Program) (md:Region.Mode) (ops:Array Oper) (Cf Ct:World→Prop) (p i:Nat) (o:Oper) (a:Act) (v:Value):Prop:=
 if i=p then ∀ w,Cf w→oat P o a Ct w v
 else (waits md ops p o=true∨∀ w,Cf w→oat P o a Cf w v)∧(fst md ops p i=true∨∀ w,Ct w→oat P o a Ct w v)
def qOp (P:Program) (md:Region.Mode) (ops:Array Oper) (Cf Ct:World→Prop) (p i:Nat) (K:Act→Prop) (a:Act):Prop:=
 match ops[i]? with
 | none=>K a
 | some o=>if Region.wanted o (yielded ops a.tmps) then ∃ v,allowed P md ops Cf Ct p i o a v∧K (a.put o.dst v) else i≠p∧K (a.put o.dst undef)
def wpQ (P:Program) (md:Region.Mode) (ops:Array Oper) (Cf Ct:World→Prop) (p:Nat) (Q:Act→Prop):List Oper→Nat→Act→Prop
 | [],_,a=>Q a
 | o::rest,i,a=>if Region.wanted o (yielded ops a.tmps) then ∃ v,allowed P md ops Cf Ct p i o a v∧wpQ P md ops Cf Ct p Q rest (i+1) (a.put o.dst v) else i≠p∧wpQ P md ops Cf Ct p Q rest (i+1) (a.put o.dst undef)
theorem wpQ_nil {Q:Act→Prop} {i:Nat} {a:Act} (h:Q a):wpQ P md ops Cf Ct p Q [] i a:=h
theorem wpQ_step {Q:Act→Prop} {a:Act} {o:Oper} {rest:List Oper} {i:Nat}
 (h:∀ K:Act→Prop,(∀ a,wpQ P md ops Cf Ct p Q rest (i+1) a→K a)→if Region.wanted o (yielded ops a.tmps) then ∃ v,allowed P md ops Cf Ct p i o a v∧K (a.put o.dst v) else i≠p∧K (a.put o.dst undef)) :
 wpQ P md ops Cf Ct p Q (o::rest) i a:=h _ (fun _ h=>h)
theorem qOp_mono {i:Nat} {a:Act} {K K':Act→Prop} (h:∀ a,K a→K' a) (hh:qOp P md ops Cf Ct p i K a):qOp P md ops Cf Ct p i K' a:=by
 unfold qOp at *
 split
 · exact h _ (by simpa [*] using hh)
 · rename_i o ho
   simp only [ho] at hh
   split
   · rename_i hw;simp only [hw,if_true] at hh;exact let ⟨v,h1,h2⟩:=hh;⟨v,h1,h _ h2⟩
   · rename_i hw;simp only [hw] at hh;exact ⟨hh.1,h _ hh.2⟩
def wpAnyQ (P:Program) (md:Region.Mode) (ops:Array Oper) (Cf Ct:World→Prop) (p:Nat) (Q:Act→Prop):Nat→Array Bool→Act→Prop
 | 0,listed,a=>Region.ready md ops listed=[]∧listed.getD p false=true∧Q a
 | fuel+1,listed,a=>
   (Region.ready md ops listed=[]→listed.getD p false=true∧Q a) ∧
   ∀ i∈Region.ready md ops listed,qOp P md ops Cf Ct p i (wpAnyQ P md ops Cf Ct p Q fuel (listed.setIfInBounds i true)) a
def Down (md:Region.Mode) (ops:Array Oper) (listed:Array Bool):Prop:=∀ j o,listed.getD j false=true→ops[j]?=some o→∀ e∈o.after.toList,Region.binds md e=true→listed.getD e.on false=true
theorem dep_listed {listed:Array Bool} (hD:Down md ops listed) {t:Nat}:∀ (f:Nat) (o:Oper),(∀ e∈o.after.toList,Region.binds md e=true→listed.getD e.on false=true)→dep md ops t f o=true→listed.getD t false=true
 | 0,_,_,h=>by simp [dep] at h
 | f+1,o,hall,h=>by
   unfold dep at h
   obtain ⟨e,he,hb⟩:=List.any_eq_true.1 h
   simp only [Bool.and_eq_true,Bool.or_eq_true,beq_iff_eq] at hb
   obtain ⟨h1,h2⟩:=hb
   rcases h2 with h2 | h2
   · rw [←h2];exact hall e he h1
   · cases ho:ops[e.on]? with
     | none=>simp [ho] at h2
     | some o'=>
       simp only [ho] at h2
       exact dep_listed hD f o' (hD e.on o' (hall e he h1) ho) h2
theorem Down.set {i:Nat} {listed:Array Bool} (h:Down md ops listed) (hi:i∈Region.ready md ops listed):Down md ops (listed.setIfInBounds i true):=by
 intro j o hj ho e he hb
 obtain ⟨_,o2,ho2,hall⟩:=mem_ready.1 hi
 by_cases hij:j=i
 · subst hij
   rw [ho2] at ho
   cases ho
   exact getD_mono (hall e (by simpa using he) hb)
 · have e2:(listed.setIfInBounds i true).getD j false=listed.getD j false:=by
    rw [Array.getD_eq_getD_getElem?,Array.getD_eq_getD_getElem?,Array.getElem?_setIfInBounds_ne (fun h=>hij h.symm)]
   exact getD_mono (h j o (by rw [←e2];exact hj) ho e he hb)
theorem wpOp_of_qOp {i:Nat} {a:Act} {K:Act→Prop} {K':Act→World→Prop} {Q':Exit→Act→World→Prop} {w:World} {listed:Array Bool} (hC:cls Cf Ct p listed w) (hkept:Down md ops listed)
 (hi:i∈Region.ready md ops listed) (h:∀ a w',cls Cf Ct p (listed.setIfInBounds i true) w'→K a→K' a w') (hh:qOp P md ops Cf Ct p i K a):wpOp P ops Q' i K' a w:=by
 obtain ⟨hun,o,ho,hall⟩:=mem_ready.1 hi
 have hlt:i<listed.size:=by
  rcases Nat.lt_or_ge i listed.size with h' | h'
  · exact h'
  · rw [Array.getD_eq_getD_getElem?,Array.getElem?_eq_none h'] at hun;cases hun
 have hset:i≠p→(listed.setIfInBounds i true).getD p false=listed.getD p false:=fun hne=>by
  rw [Array.getD_eq_getD_getElem?,Array.getD_eq_getD_getElem?,Array.getElem?_setIfInBounds_ne hne]
 have hsetp:(listed.setIfInBounds i true).getD i false=true:=by
  rw [Array.getD_eq_getD_getElem?,Array.getElem?_setIfInBounds_self_of_lt hlt];rfl
 have hunf:listed.getD i false=false:=by
  rw [Array.getD_eq_getD_getElem?,Array.getElem?_eq_getElem hlt] at hun ⊢;exact hun
 unfold qOp at hh
 unfold wpOp
 simp only [ho] at hh ⊢
 split
 · rename_i hw
   simp only [hw,if_true] at hh
   obtain ⟨v,hv,hK⟩:=hh
   unfold allowed at hv
   split at hv
   · rename_i hip
     subst hip
     have hCf:Cf w:=by unfold cls at hC;rw [hunf] at hC;simpa using hC
     exact .inl (wp_of_oat (C':=Ct) (fun a' w' hw' hk=>h a' w' (by unfold cls;rw [hsetp];simpa using hw') hk) (hv w hCf) hK)
   · rename_i hne
     by_cases hb:listed.getD p false=true
     · have hCt:Ct w:=by unfold cls at hC;rw [hb] at hC;simpa using hC
       rcases hv.2 with hft | hv2
       · exfalso
         have hpi:listed.getD i false=true:=by
          unfold fst at hft
          split at hft
          · rename_i op hop
            exact dep_listed hkept 4 op (hkept p op hb hop) hft
          · cases hft
         rw [hunf] at hpi;cases hpi
       · exact .inl (wp_of_oat (C':=Ct) (fun a' w' hw' hk=>h a' w' (by unfold cls;rw [hset hne,hb];simpa using hw') hk) (hv2 w hCt) hK)
     · have hCf:Cf w:=by unfold cls at hC;simpa [hb] using hC
       rcases hv.1 with hwt | hf
       · exfalso
         exact hb (dep_listed hkept 4 o (fun e he h=>hall e (by simpa using he) h) hwt)
       · exact .inl (wp_of_oat (C':=Cf) (fun a' w' hw' hk=>h a' w' (by unfold cls;rw [hset hne];simpa [hb] using hw') hk) (hf w hCf) hK)
 · rename_i hw
   simp only [hw] at hh
   exact h _ _ (by unfold cls at hC ⊢;rw [hset hh.1];exact hC) hh.2
theorem wpAny_of_quiet {Q:Act→Prop} {Q':Exit→Act→World→Prop} (hQ:∀ a w,Ct w→Q a→Q' .normal a w):∀ (fuel:Nat) (listed:Array Bool) (a:Act) (w:World),cls Cf Ct p listed w→Down md ops listed →
 wpAnyQ P md ops Cf Ct p Q fuel listed a→wpAny P md ops Q' fuel listed a w
 | 0,l,_,_,hw,_,h=>⟨h.1,hQ _ _ (by unfold cls at hw;rw [h.2.1] at hw;simpa using hw) h.2.2⟩
 | fuel+1,l,_,_,hw,hk0,h=>⟨fun h0=>hQ _ _ (by unfold cls at hw;rw [(h.1 h0).1] at hw;simpa using hw) (h.1 h0).2,fun i hi=>wpOp_of_qOp hw hk0 hi (fun a' w' hw' hk=>wpAny_of_quiet hQ fuel _ a' w' hw' (hk0.set hi) hk) (h.2 i hi)⟩
def YieldsIn (P:Program) (md:Region.Mode) (ops:Array Oper) (Cf Ct:World→Prop) (p i:Nat) (o:Oper) (v:Value) (a:Act):Prop:=
 (Region.wanted o (yielded ops a.tmps)=true∧allowed P md ops Cf Ct p i o a v) ∨
 (Region.wanted o (yielded ops a.tmps)=false∧i≠p∧v=undef)
theorem YieldsIn.qOp {i:Nat} {o:Oper} {v:Value} {a:Act} (hi:ops[i]?=some o) (hy:YieldsIn P md ops Cf Ct p i o v a) {K:Act→Prop} (h:K (a.put o.dst v)):qOp P md ops Cf Ct p i K a:=by
 unfold QT.qOp
 simp only [hi]
 rcases hy with ⟨hw,hv⟩ | ⟨hw,hne,rfl⟩
 · simp only [hw,if_true];exact ⟨v,hv,h⟩
 · simp only [hw,Bool.false_eq_true,if_false];exact ⟨hne,h⟩
theorem YieldsIn.of_same {i:Nat} {o:Oper} {v:Value} {a a':Act} (hy:YieldsIn P md ops Cf Ct p i o v a) (he:execOp a'.eval o=execOp a.eval o)
 (hw:Region.wanted o (yielded ops a'.tmps)=Region.wanted o (yielded ops a.tmps)):YieldsIn P md ops Cf Ct p i o v a':=by
 unfold YieldsIn allowed oat at *
 rw [he,hw]
 exact hy
theorem yieldsIn_of_qOp {i:Nat} {o:Oper} {a:Act} {K:Act→Prop} (hi:ops[i]?=some o) (h:qOp P md ops Cf Ct p i K a):∃ v,YieldsIn P md ops Cf Ct p i o v a∧K (a.put o.dst v):=by
 unfold qOp at h
 simp only [hi] at h
 by_cases hw:Region.wanted o (yielded ops a.tmps)=true
 · simp only [hw,if_true] at h
   obtain ⟨v,h1,h2⟩:=h
   exact ⟨v,.inl ⟨hw,h1⟩,h2⟩
 · simp only [hw] at h
   exact ⟨undef,.inr ⟨by simpa using hw,h.1,rfl⟩,h.2⟩
theorem qOp_put {i j:Nat} {oi oj:Oper} {v:Value} (hj:ops[j]?=some oj) (hap:oi.apart ops oj=true)
 (hsi:∀ cs b,oi.op≠.select cs b) (hsj:∀ cs b,oj.op≠.select cs b) {K:Act→Prop} {a:Act}
 (hy:YieldsIn P md ops Cf Ct p i oi v a) (h:qOp P md ops Cf Ct p j K (a.put oi.dst v)) :
 qOp P md ops Cf Ct p j (fun a'=>YieldsIn P md ops Cf Ct p i oi v a'∧K (a'.put oi.dst v)) a:=by
 obtain ⟨h1,h2,h3⟩:=Oper.apart_spec hap
 have keep:∀ (a:Act),YieldsIn P md ops Cf Ct p i oi v a→∀ u,YieldsIn P md ops Cf Ct p i oi v (a.put oj.dst u):=fun a hy u=>
  hy.of_same (execOp_put oi hsi a oj.dst u h3) (wanted_put oi a oj.dst u h3)
 unfold qOp at *
 simp only [hj] at *
 rw [wanted_put oj a oi.dst v h1] at h
 split
 · rename_i hw
   simp only [hw,if_true] at h
   obtain ⟨u,hu,hn⟩:=h
   refine ⟨u,?_,keep a hy u,by rw [←Act.put_comm a v u h2];exact hn⟩
   unfold allowed oat at *
   rwa [execOp_put oj hsj a oi.dst v h1] at hu
 · rename_i hw
   simp only [hw] at h
   exact ⟨h.1,keep a hy _,by rw [←Act.put_comm a v undef h2];exact h.2⟩
theorem wpAnyQ_first {Q:Act→Prop} {i:Nat} {oi:Oper} {v:Value} (hi:ops[i]?=some oi) (hsel:∀ (j:Nat) (o:Oper) cs b,ops[j]?=some o→o.op≠.select cs b) :
 ∀ (fuel:Nat) (listed:Array Bool) (a:Act),
  (∀ j oj,ops[j]?=some oj→j≠i→listed.getD j true=false→(∀ e∈oj.after,Region.binds md e=true→e.on≠i)→oi.apart ops oj=true) →
  i∈Region.ready md ops listed→YieldsIn P md ops Cf Ct p i oi v a →
  wpAnyQ P md ops Cf Ct p Q fuel (listed.setIfInBounds i true) (a.put oi.dst v)→wpAnyQ P md ops Cf Ct p Q (fuel+1) listed a:=by
 intro fuel
 induction fuel with
 | zero=>
   intro listed a _ hr hy H
   refine ⟨fun h=>(by rw [h] at hr;cases hr),fun j hj=>?_⟩
   by_cases hji:j=i
   · subst hji;exact hy.qOp hi H
   · have:=ready_mono hj hji
     rw [H.1] at this
     cases this
 | succ fuel ih=>
   intro listed a hfree hr hy H
   refine ⟨fun h=>(by rw [h] at hr;cases hr),fun j hj=>?_⟩
   by_cases hji:j=i
   · subst hji;exact hy.qOp hi H
   · have h1:=H.2 j (ready_mono hj hji)
     obtain ⟨hjun,oj,hoj,hall⟩:=mem_ready.1 hj
     have hnot:∀ e∈oj.after,Region.binds md e=true→e.on≠i:=fun e he hb heq=>by
      have h1:=hall e he hb
      have h0:=(mem_ready.1 hr).1
      rw [heq] at h1
      rcases Nat.lt_or_ge i listed.size with h' | h'
      · simp [h'] at h0 h1;rw [h0] at h1;cases h1
      · simp [Array.getElem?_eq_none h'] at h1
     have h2:=qOp_put hoj (hfree j oj hoj hji hjun hnot) (fun cs b=>hsel i oi cs b hi) (fun cs b=>hsel j oj cs b hoj) hy h1
     have hfree':∀ k ok,ops[k]?=some ok→k≠i→(listed.setIfInBounds j true).getD k true=false →
      (∀ e∈ok.after,Region.binds md e=true→e.on≠i)→oi.apart ops ok=true:=fun k ok hk hki hun hno=>by
      refine hfree k ok hk hki ?_ hno
      by_cases hjk:j=k
      · subst hjk;exact hjun
      · rw [getD_set_ne true hjk] at hun;exact hun
     refine qOp_mono (fun a' h3=>ih (listed.setIfInBounds j true) a' hfree' (ready_mono hr (Ne.symm hji)) h3.1 ?_) h2
     rw [Array.setIfInBounds_comm _ _ hji]
     exact h3.2
def lexFromP (md:Region.Mode) (ops:Array Oper) (p:Nat):Nat→Nat→Array Bool→Bool
 | 0,_,listed=>(Region.ready md ops listed).isEmpty&&listed.getD p false
 | fuel+1,k,listed=>(Region.ready md ops listed).contains k&&Region.free md ops listed k&&lexFromP md ops p fuel (k+1) (listed.setIfInBounds k true)
def lexBP (md:Region.Mode) (ops:Array Oper) (p:Nat):Bool:=Region.noSelect ops&&lexFromP md ops p ops.size 0 (Array.replicate ops.size false)
theorem wpAnyQ_lex {Q:Act→Prop} (hs:Region.noSelect ops=true):∀ (l:List Oper) (k:Nat) (listed:Array Bool) (a:Act),(∀ j,l[j]?=ops[k+j]?) →
 lexFromP md ops p l.length k listed=true→wpQ P md ops Cf Ct p Q l k a→wpAnyQ P md ops Cf Ct p Q l.length listed a
 | [],_,_,_,_,hB,h=>by
   simp only [List.length_nil,lexFromP,Bool.and_eq_true] at hB
   exact ⟨by simpa using hB.1,hB.2,h⟩
 | o::l,k,listed,a,hl,hB,h=>by
   have h0:ops[k]?=some o:=by simpa using (hl 0).symm
   simp only [List.length_cons,lexFromP,Bool.and_eq_true] at hB
   obtain ⟨⟨hr,hf⟩,hB'⟩:=hB
   have hst:qOp P md ops Cf Ct p k (wpQ P md ops Cf Ct p Q l (k+1)) a:=by unfold qOp;simp only [h0];exact h
   obtain ⟨v,hy,hK⟩:=yieldsIn_of_qOp h0 hst
   exact wpAnyQ_first h0 (Region.noSelect_spec hs) l.length listed a (Region.free_spec h0 hf) (by simpa using hr) hy
    (wpAnyQ_lex hs l (k+1) _ _ (fun j=>by have:=hl (j+1);simpa [Nat.add_assoc,Nat.add_comm 1 j] using this) hB' hK)
theorem wp_region_p (p:Nat) (Cf Ct:World→Prop) {id:Nat} {Q:Exit→Act→World→Prop} {a:Act} {w:World} {l:List Oper} (hm:P.follows .mixedOrders=true) (hB:lexBP .any l.toArray p=true)
 (hC:Cf w.drew) (h:wpQ P .any l.toArray Cf Ct p (fun a'=>∀ w',Ct w'→Q .normal a' w') l 0 a):(Code.region id l.toArray true).wp P Q a w:=by
 simp only [lexBP,Bool.and_eq_true] at hB
 refine wp_region_any hm (wpAny_of_quiet (Cf:=Cf) (Ct:=Ct) (p:=p) (Q:=fun a'=>∀ w',Ct w'→Q .normal a' w') (fun _ w' hw' h=>h w' hw') _ _ _ _ ?_ ?_ ?_)
 · have e:(Array.replicate l.toArray.size false).getD p false=false:=by
    rw [Array.getD_eq_getD_getElem?,Array.getElem?_replicate];split<;>rfl
   unfold cls;rw [e];simpa using hC
 · intro j o hj _
   have e:(Array.replicate l.toArray.size false).getD j false=false:=by
    rw [Array.getD_eq_getD_getElem?,Array.getElem?_replicate];split<;>rfl
   rw [e] at hj;cases hj
 · have:=wpAnyQ_lex (Cf:=Cf) (Ct:=Ct) (p:=p) (md:=.any) hB.1 l 0 (Array.replicate l.toArray.size false) a (by simp) (by simpa using hB.2) h
   simpa using this
theorem al_ok {i:Nat} {o:Oper} {a:Act} {v:Value} (hne:(i==p)=false) (hf:∀ w,Cf w→oat P o a Cf w v) (ht:∀ w,Ct w→oat P o a Ct w v):allowed P md ops Cf Ct p i o a v:=by
 unfold allowed
 rw [if_neg (by simpa using hne)]
 exact ⟨.inr hf,.inr ht⟩
theorem al_dep {i:Nat} {o:Oper} {a:Act} {v:Value} (hne:(i==p)=false) (hd:waits md ops p o=true) (ht:∀ w,Ct w→oat P o a Ct w v):allowed P md ops Cf Ct p i o a v:=by
 unfold allowed
 rw [if_neg (by simpa using hne)]
 exact ⟨.inl hd,.inr ht⟩
theorem al_bef {i:Nat} {o:Oper} {a:Act} {v:Value} (hne:(i==p)=false) (hd:fst md ops p i=true) (hf:∀ w,Cf w→oat P o a Cf w v):allowed P md ops Cf Ct p i o a v:=by
 unfold allowed
 rw [if_neg (by simpa using hne)]
 exact ⟨.inr hf,.inl hd⟩
theorem al_p {i:Nat} {o:Oper} {a:Act} {v:Value} (he:(i==p)=true) (hp:∀ w,Cf w→oat P o a Ct w v):allowed P md ops Cf Ct p i o a v:=by
 unfold allowed
 rw [if_pos (by simpa using he)]
 exact hp
end QT
end Go.Proofs.YtdebnbgjgkbmaaaGreatDoor
namespace Go.Proofs.YtdebnbgjgkbmaaaGreatDoor
namespace Rd
open QP (upon oat cls getD_mono)
open QT (waits fst Down dep_listed lexBP wpAnyQ_lex)
set_option linter.unusedVariables false
variable {P:Program} {l n:Nat} {ops:Array Oper} {md:Region.Mode} {Cf Ct:World→Prop} {p:Nat}
def noDefer (ops:Array Oper):Bool:=ops.toList.all fun o=>match o.op with | .defer _=>false | _=>true
theorem noDefer_spec (h:noDefer ops=true) {i:Nat} {o:Oper} (ho:ops[i]?=some o):∀ c,o.op≠.defer c:=by
 intro c hc
 unfold noDefer at h
 rw [List.all_eq_true] at h
 have hm:o∈ops.toList:=by
  rw [←Array.getElem?_toList] at ho
  exact List.mem_of_getElem? ho
 have:=h o hm
 rw [hc] at this;cases this
theorem oper_of_oat {o:Oper} {a:Act} {C':World→Prop} {v:Value} {K:Act→Prop} {K':Act→World→Prop} {Q':Exit→Act→World→Prop} {w:World} (hnd:∀ c,o.op≠.defer c) (h:∀ a w',C' w'→K a→K' a w')
 (h3:oat P o a C' w v) (h2:K (a.put o.dst v)):o.wpIn (Fence.wide.inRound l) n P a w K' Q':=by
 unfold oat at h3
 unfold Oper.wpIn
 refine ⟨fun _ _=>trivial,?_⟩
 rw [show (Fence.wide.inRound l).round=some l from rfl,Oper.semAt_eq _ _ _ hnd]
 generalize (execOp a.eval o).run P w=r at *
 cases r with
 | ok x w'=>
   cases x<;>simp only [upon] at h3<;>simp only [Oper.uponIn]
   case value u=>
    obtain ⟨e1,e2⟩:=h3
    rw [e2]
    exact h _ _ e1 h2
   case skip=>
    obtain ⟨e1,e2⟩:=h3
    rw [←e2]
    exact h _ _ e1 h2
   case enter f args=>
    exact ⟨fun h=>absurd h (by simp [Fence.wide]),CallsIn.inRound l ((callsIn_wide.2 h3).mono fun e w'' ⟨he,hw''⟩=>by subst he;exact h _ _ hw'' h2)⟩
 | halt x w'=>simp only [upon] at h3
theorem wpOpIn_of_qOp (hnd:∀ (i:Nat) (o:Oper),ops[i]?=some o→∀ c,o.op≠.defer c) {i:Nat} {a:Act} {K:Act→Prop} {K':Act→World→Prop} {Q':Exit→Act→World→Prop} {w:World} {listed:Array Bool} (hC:cls Cf Ct p listed w) (hkept:Down md ops listed)
 (hi:i∈Region.ready md ops listed) (h:∀ a w',cls Cf Ct p (listed.setIfInBounds i true) w'→K a→K' a w') (hh:QT.qOp P md ops Cf Ct p i K a):wpOpIn (Fence.wide.inRound l) n P ops Q' i K' a w:=by
 obtain ⟨hun,o,ho,hall⟩:=mem_ready.1 hi
 have hlt:i<listed.size:=by
  rcases Nat.lt_or_ge i listed.size with h' | h'
  · exact h'
  · rw [Array.getD_eq_getD_getElem?,Array.getElem?_eq_none h'] at hun;cases hun
 have hset:i≠p→(listed.setIfInBounds i true).getD p false=listed.getD p false:=fun hne=>by
  rw [Array.getD_eq_getD_getElem?,Array.getD_eq_getD_getElem?,Array.getElem?_setIfInBounds_ne hne]
 have hsetp:(listed.setIfInBounds i true).getD i false=true:=by
  rw [Array.getD_eq_getD_getElem?,Array.getElem?_setIfInBounds_self_of_lt hlt];rfl
 have hunf:listed.getD i false=false:=by
  rw [Array.getD_eq_getD_getElem?,Array.getElem?_eq_getElem hlt] at hun ⊢;exact hun
 unfold QT.qOp at hh
 unfold wpOpIn
 simp only [ho] at hh ⊢
 split
 · rename_i hw
   simp only [hw,if_true] at hh
   obtain ⟨v,hv,hK⟩:=hh
   unfold QT.allowed at hv
   split at hv
   · rename_i hip
     subst hip
     have hCf:Cf w:=by unfold cls at hC;rw [hunf] at hC;simpa using hC
     exact (oper_of_oat (hnd _ _ ho) (C':=Ct) (fun a' w' hw' hk=>h a' w' (by unfold cls;rw [hsetp];simpa using hw') hk) (hv w hCf) hK)
   · rename_i hne
     by_cases hb:listed.getD p false=true
     · have hCt:Ct w:=by unfold cls at hC;rw [hb] at hC;simpa using hC
       rcases hv.2 with hft | hv2
       · exfalso
         have hpi:listed.getD i false=true:=by
          unfold fst at hft
          split at hft
          · rename_i op hop
            exact dep_listed hkept 4 op (hkept p op hb hop) hft
          · cases hft
         rw [hunf] at hpi;cases hpi
       · exact (oper_of_oat (hnd _ _ ho) (C':=Ct) (fun a' w' hw' hk=>h a' w' (by unfold cls;rw [hset hne,hb];simpa using hw') hk) (hv2 w hCt) hK)
     · have hCf:Cf w:=by unfold cls at hC;simpa [hb] using hC
       rcases hv.1 with hwt | hf
       · exfalso
         exact hb (dep_listed hkept 4 o (fun e he h=>hall e (by simpa using he) h) hwt)
       · exact (oper_of_oat (hnd _ _ ho) (C':=Cf) (fun a' w' hw' hk=>h a' w' (by unfold cls;rw [hset hne];simpa [hb] using hw') hk) (hf w hCf) hK)
 · rename_i hw
   simp only [hw] at hh
   exact ⟨fun _ _=>trivial,h _ _ (by unfold cls at hC ⊢;rw [hset hh.1];exact hC) hh.2⟩
theorem wpAnyIn_of_quiet (hnd:∀ (i:Nat) (o:Oper),ops[i]?=some o→∀ c,o.op≠.defer c) {Q:Act→Prop} {Q':Exit→Act→World→Prop} (hQ:∀ a w,Ct w→Q a→Q' .normal a w):∀ (fuel:Nat) (listed:Array Bool) (a:Act) (w:World),cls Cf Ct p listed w→Down md ops listed →
 QT.wpAnyQ P md ops Cf Ct p Q fuel listed a→wpAnyIn (Fence.wide.inRound l) n P md ops Q' fuel listed a w
 | 0,l',_,_,hw,_,h=>⟨h.1,hQ _ _ (by unfold cls at hw;rw [h.2.1] at hw;simpa using hw) h.2.2⟩
 | fuel+1,l',_,_,hw,hk0,h=>⟨fun h0=>hQ _ _ (by unfold cls at hw;rw [(h.1 h0).1] at hw;simpa using hw) (h.1 h0).2,fun i hi=>wpOpIn_of_qOp hnd hw hk0 hi (fun a' w' hw' hk=>wpAnyIn_of_quiet hnd hQ fuel _ a' w' hw' (hk0.set hi) hk) (h.2 i hi)⟩
theorem wpIn_region_p (p:Nat) (Cf Ct:World→Prop) {id:Nat} {Q:Exit→Act→World→Prop} {a:Act} {w:World} {L:List Oper} (hnd:noDefer L.toArray=true) (hm:P.follows .mixedOrders=true) (hB:lexBP .any L.toArray p=true)
 (hC:Cf w.drew) (h:QT.wpQ P .any L.toArray Cf Ct p (fun a'=>∀ w',Ct w'→Q .normal a' w') L 0 a):(Code.region id L.toArray true).wpIn (Fence.wide.inRound l) n P Q a w:=by
 simp only [lexBP,Bool.and_eq_true] at hB
 refine wpIn_region_any hm (wpAnyIn_of_quiet (fun i o h=>noDefer_spec hnd h) (Cf:=Cf) (Ct:=Ct) (p:=p) (Q:=fun a'=>∀ w',Ct w'→Q .normal a' w') (fun _ w' hw' h=>h w' hw') _ _ _ _ ?_ ?_ ?_)
 · have e:(Array.replicate L.toArray.size false).getD p false=false:=by
    rw [Array.getD_eq_getD_getElem?,Array.getElem?_replicate];split<;>rfl
   unfold cls;rw [e];simpa using hC
 · intro j o hj _
   have e:(Array.replicate L.toArray.size false).getD j false=false:=by
    rw [Array.getD_eq_getD_getElem?,Array.getElem?_replicate];split<;>rfl
   rw [e] at hj;cases hj
 · have:=QT.wpAnyQ_lex (Cf:=Cf) (Ct:=Ct) (p:=p) (md:=.any) hB.1 L 0 (Array.replicate L.toArray.size false) a (by simp) (by simpa using hB.2) h
   simpa using this
theorem oper_skip {o:Oper} {a:Act} {w w':World} {K:Act→World→Prop} {Q:Exit→Act→World→Prop} (hnd:∀ c,o.op≠.defer c) (hr:(execOp a.eval o).run P w=.ok .skip w') (h:K (a.put o.dst undef) w'):o.wpIn (Fence.wide.inRound l) n P a w K Q:=by
 unfold Oper.wpIn
 refine ⟨fun _ _=>trivial,?_⟩
 rw [show (Fence.wide.inRound l).round=some l from rfl,Oper.semAt_eq _ _ _ hnd,hr]
 exact h
theorem list_store_row {rest:List Oper} {o:Oper} {a:Act} {w:World} {Q:Exit→Act→World→Prop} (hgd:o.guard=none) (ty:TypeId) (x y:Operand) (ho:o.op=.store ty x y)
 (g:Nat) (cells:Array Value) (hx:a.eval x=.pointer (some ⟨g,0,none⟩)) (hy:a.eval y=.agg cells)
 (t:TypeId) (old:Array Value) (hg:w.heap[g]?=some (.cells old t (0,0))) (hi:(P.info? ty).map (·.size)=some cells.size) (hold:old.size=cells.size) (h1:cells.all (·.oneCell')=true)
 (h:wpListIn (Fence.wide.inRound l) n P ops Q rest (a.put o.dst undef) (w.setRow g cells)):wpListIn (Fence.wide.inRound l) n P ops Q (o::rest) a w:=
 wpListIn_plain hgd fun K hK=>oper_skip (w':=w.setRow g cells) (by intro c hc;rw [ho] at hc;cases hc) (by
  unfold execOp
  simp only [ho,hx,hy,Instr.storeAt,Instr.sureAddr,Sem.run_bind,Sem.run_pure,Result.andThen_ok,run_storeVar_row w g t ty old cells hg hi hold h1]) (hK _ _ h)
theorem wideo_value {o:Oper} {a:Act} {w w':World} {v:Value} {K:Act→World→Prop} {Q:Exit→Act→World→Prop} (hnd:∀ c,o.op≠.defer c) (hr:(execOp a.eval o).run P w=.ok (.value v) w') (h:K (a.put o.dst v) w'):o.wpIn Fence.wide n P a w K Q:=by
 unfold Oper.wpIn
 refine ⟨fun _ _=>trivial,?_⟩
 rw [Oper.semAt_eq _ _ _ hnd,hr]
 exact h
theorem wideo_skip {o:Oper} {a:Act} {w w':World} {K:Act→World→Prop} {Q:Exit→Act→World→Prop} (hnd:∀ c,o.op≠.defer c) (hr:(execOp a.eval o).run P w=.ok .skip w') (h:K (a.put o.dst undef) w'):o.wpIn Fence.wide n P a w K Q:=by
 unfold Oper.wpIn
 refine ⟨fun _ _=>trivial,?_⟩
 rw [Oper.semAt_eq _ _ _ hnd,hr]
 exact h
theorem wide_load_row {rest:List Oper} {o:Oper} {a:Act} {w:World} {Q:Exit→Act→World→Prop} (hgd:o.guard=none) (ty:TypeId) (x:Operand) (ho:o.op=.load ty x)
 (g:Nat) (hx:a.eval x=.pointer (some ⟨g,0,none⟩)) (t:TypeId) (cs:Array Value) (fr:Nat × Nat) (d:TypeDesc) (hg:w.heap[g]?=some (.cells cs t fr))
 (hu:P.underlying ty=some d) (hd:(match d with | .struct _ | .array _ _=>true | _=>false)=true) (hi:(P.info? ty).map (·.size)=some cs.size)
 (h:wpListIn Fence.wide n P ops Q rest (a.put o.dst (.agg cs)) w):wpListIn Fence.wide n P ops Q (o::rest) a w:=
 wpListIn_plain hgd fun K hK=>wideo_value (w':=w) (v:=.agg cs) (by intro c hc;rw [ho] at hc;cases hc) (by
  unfold execOp
  simp only [ho,hx,Instr.loadAt,Instr.sureAddr,Sem.run_bind,Sem.run_pure,Result.andThen_ok,run_loadVar_row w g t ty cs fr d hg hu hd hi]) (hK _ _ h)
theorem wide_store_row {rest:List Oper} {o:Oper} {a:Act} {w:World} {Q:Exit→Act→World→Prop} (hgd:o.guard=none) (ty:TypeId) (x y:Operand) (ho:o.op=.store ty x y)
 (g:Nat) (cells:Array Value) (hx:a.eval x=.pointer (some ⟨g,0,none⟩)) (hy:a.eval y=.agg cells)
 (t:TypeId) (old:Array Value) (hg:w.heap[g]?=some (.cells old t (0,0))) (hi:(P.info? ty).map (·.size)=some cells.size) (hold:old.size=cells.size) (h1:cells.all (·.oneCell')=true)
 (h:wpListIn Fence.wide n P ops Q rest (a.put o.dst undef) (w.setRow g cells)):wpListIn Fence.wide n P ops Q (o::rest) a w:=
 wpListIn_plain hgd fun K hK=>wideo_skip (w':=w.setRow g cells) (by intro c hc;rw [ho] at hc;cases hc) (by
  unfold execOp
  simp only [ho,hx,hy,Instr.storeAt,Instr.sureAddr,Sem.run_bind,Sem.run_pure,Result.andThen_ok,run_storeVar_row w g t ty old cells hg hi hold h1]) (hK _ _ h)
end Rd
end Go.Proofs.YtdebnbgjgkbmaaaGreatDoor
namespace Go.Proofs.YtdebnbgjgkbmaaaGreatDoor.RowK
open Go.ChangeShapes Go.WideShapes Go.ChangeAt Go.RowKit
open Go.ChangeMaps (open_string shut_string)
theorem own:ownKnob Tryz.prog.godebug=none:=by kernel_rfl
theorem laidOut:laidOutB Tryz.prog=true:=by kernel_rfl
section
variable {H:Type} {enc:TypeId × Value→H} {P:Program} {w:World}
theorem laid_get {laid:List (String × DataW Unit)} {ps:List MemPlace} {n:String} {d:DataW Unit} (h:DataW.LaidVars P w laid ps) (hm:(n,d)∈laid) :
 ∃ g t cs fuel p,P.globalNamed n=some g∧(P.globals[g]?).map (·.type)=some t∧w.var? P n=some cs∧DataW.trod (fun _=>()) P w 0 (fun _=>true) false fuel t cs.toList=some (d,p):=by
 induction laid generalizing ps with
 | nil=>cases hm
 | cons x r ih=>
   obtain ⟨n',d'⟩:=x
   obtain ⟨g,t,cs,fuel,p,q,h1,h2,h3,h4,h5,_⟩:=h
   rcases List.mem_cons.1 hm with e | e
   · cases e;exact ⟨g,t,cs,fuel,p,h1,h2,h3,h4⟩
   · exact ih h5 e
theorem tab_get {laid:List (String × DataW Unit)} {n:String} {k:IntKind} {zs:List Int} {g:Nat} {t e:TypeId} {len:Nat}
 (h:laidMet P laid w) (hm:(n,Lib.tabData k zs)∈laid) (hg:P.globalNamed n=some g) (hty:(P.globals[g]?).map (·.type)=some t)
 (ht:P.underlying t=some (.array len e)) (he:P.underlying e=some (.int k)) (hce:P.cellsOf e=1) (hct:P.cellsOf t=len):Lib.TabIs P w n k zs:=by
 obtain ⟨ps,hv,_⟩:=h
 obtain ⟨g',t',cs,fuel,p,hg',ht',hvar,hd⟩:=laid_get hv hm
 obtain rfl:=Option.some.inj (hg.symm.trans hg')
 obtain rfl:=Option.some.inj (hty.symm.trans ht')
 unfold Lib.TabIs
 rw [hvar,← Lib.cells_of_tab ht he hce hct hd]
end
end Go.Proofs.YtdebnbgjgkbmaaaGreatDoor.RowK
namespace Go.Proofs.YtdebnbgjgkbmaaaGreatDoor
open Go.RowKit
set_option linter.unusedVariables false
def bytesI (n:Nat) (f:Nat→Int):ByteArray:=strOfNums ((List.range n).map f)
theorem bytesI_size (n:Nat) (f:Nat→Int):(bytesI n f).size=n:=by unfold bytesI;rw [strOfNums_size];simp
def bk (k:ByteArray) (i:Nat):Int:=(Sha.byte k i:Nat)
def hstr (F:Nat→Nat):ByteArray:=bytesI 32 fun i=>(F i:Nat)
theorem hstr_size (F:Nat→Nat):(hstr F).size=32:=bytesI_size _ _
def keyOf (k:ByteArray):ByteArray:=if 64<k.size then hstr (Sha.sum k) else k
theorem sum_lt (t:ByteArray) (i:Nat):Sha.sum t i<256:=Nat.mod_lt _ (by decide)
def ofH (F:Nat→Nat):Nat→Nat:=Sha.sum (hstr F)
theorem ofH_lt (F:Nat→Nat) (i:Nat):ofH F i<256:=sum_lt _ i
theorem conv_rowI {w:World} {g n:Nat} {t:TypeId} {f:Nat→Int} (h:M.RowAt w g t (M.rowF .u8 n f)):(convert 55 9 (.slice (some ⟨g,0,none⟩) n n)).run Tryz.prog w=.ok (.string (bytesI n f)) w:=
 run_convert_bytes_arg (P:=Tryz.prog) w 55 5 Tryz.underlying55 Tryz.underlying5 g 0 n n ((List.range n).map f) (by simp) (fun i hi=>by
  have e:((List.range n).map f).getD i 0=f i:=by rw [List.getD_eq_getElem?_getD,List.getElem?_map,List.getElem?_range hi];rfl
  rw [Nat.zero_add,h.cell i,M.rowF_get hi,e]) 9 Tryz.underlying9
theorem conv_row8 {w:World} {g:Nat} {t:TypeId} {F:Nat→Nat} (h:M.RowAt w g t (r8 32 F)):(convert 55 9 (.slice (some ⟨g,0,none⟩) 32 32)).run Tryz.prog w=.ok (.string (hstr F)) w:=conv_rowI h
end Go.Proofs.YtdebnbgjgkbmaaaGreatDoor
namespace Go.Proofs.YtdebnbgjgkbmaaaGreatDoor
open Go.RowKit
set_option linter.unusedVariables false
structure KB (n:Nat) (w:World) (L:List (Nat × TypeId × Array Value)) (v:World):Prop where
 rows:∀ x∈L,v.heap[x.1]?=some (.cells x.2.2 x.2.1 (0,0))
 below:Below n w v
 ge:n≤v.heap.size
section
variable {n:Nat} {w v v':World} {L L':List (Nat × TypeId × Array Value)}
theorem KB.start (w:World):KB w.heap.size w [] w:=⟨fun x h=>by simp at h,Below.refl _ _,Nat.le_refl _⟩
theorem KB.row (c:KB n w L v) (g:Nat) (t:TypeId) (C:Array Value) (h:(g,t,C)∈L):v.heap[g]?=some (.cells C t (0,0)):=c.rows _ h
theorem KB.drew (c:KB n w L v):KB n w L v.drew:=⟨c.rows,c.below.drew,c.ge⟩
theorem KB.sub (c:KB n w L v) (h:∀ x∈L',x∈L):KB n w L' v:=⟨fun x hx=>c.rows x (h x hx),c.below,c.ge⟩
theorem KB.same (c:KB n w L v) (hb:Below v.heap.size v v'):KB n w L v':=
 ⟨fun x hx=>M.RowAt.call (c.rows x hx) hb,c.below.trans (hb.mono c.ge),Nat.le_trans c.ge hb.size⟩
theorem KB.alloc (c:KB n w L v) (o:Obj):KB n w L (v.alloc o):=c.same ((Below.refl _ _).alloc (Nat.le_refl _) o)
theorem KB.new (c:KB n w L v) (t:TypeId) (Z:Array Value):KB n w ((v.heap.size,t,Z)::L) (v.alloc (.cells Z t)):=
 ⟨fun x hx=>by
   rcases List.mem_cons.1 hx with e | e
   · subst e;exact M.RowAt.new v t Z
   · exact (c.alloc _).rows x e,(c.alloc _).below,(c.alloc _).ge⟩
theorem KB.setRow {g:Nat} {t:TypeId} {Z:Array Value} (c:KB n w ((g,t,Z)::L) v) (hne:∀ x∈L,x.1≠g) (hg:n≤g) (D:Array Value):KB n w ((g,t,D)::L) (v.setRow g D):=
 ⟨fun x hx=>by
   rcases List.mem_cons.1 hx with e | e
   · subst e;exact M.RowAt.setRow (c.rows (g,t,Z) List.mem_cons_self) D
   · exact M.RowAt.farRow (c.rows x (List.mem_cons_of_mem _ e)) (fun h=>hne x e h.symm) D,M.below_setRow c.below hg,by simpa using c.ge⟩
theorem KB.set {g:Nat} {t:TypeId} {Z:Array Value} (c:KB n w ((g,t,Z)::L) v) (hne:∀ x∈L,x.1≠g) (hg:n≤g) (i:Nat) (u:Value):KB n w ((g,t,Z.setIfInBounds i u)::L) (v.setCell ⟨g,i,none⟩ u):=
 ⟨fun x hx=>by
   rcases List.mem_cons.1 hx with e | e
   · subst e;exact M.RowAt.set (c.rows (g,t,Z) List.mem_cons_self) i u
   · exact M.RowAt.far (c.rows x (List.mem_cons_of_mem _ e)) (p:=⟨g,i,none⟩) (fun h=>hne x e h.symm) u,c.below.setCell (p:=⟨g,i,none⟩) hg u,by simpa [World.setCell] using c.ge⟩
theorem KB.lt (c:KB n w L v) {x:Nat × TypeId × Array Value} (hx:x∈L):x.1<v.heap.size:=M.RowAt.lt (c.rows x hx)
theorem KB.box (c:KB n w L v) (t:TypeId) (Z D:Array Value):∃ g V U,v.heap.size=g∧v.alloc (.cells Z t)=V∧V.heap[g]?=some (.cells Z t (0,0))∧V.setRow g D=U∧KB n w ((g,t,D)::L) U∧n≤g∧∀ x∈L,x.1<g:=
 ⟨_,_,_,rfl,rfl,M.RowAt.new v t Z,rfl,(c.new t Z).setRow (fun x hx=>Nat.ne_of_lt (c.lt hx)) c.ge D,c.ge,fun x hx=>c.lt hx⟩
end
end Go.Proofs.YtdebnbgjgkbmaaaGreatDoor
namespace Go.Proofs.YtdebnbgjgkbmaaaGreatDoor
open Go.RowKit
set_option linter.unusedVariables false
def flipH (F:Nat→Nat) (a:Nat):Nat→Nat:=fun j=>if j=a/8 then F j ^^^ 2 ^ (a%8) else F j
theorem xor_pow (y a:Nat) (hy:y<256):bits .xor .u8 (y:Int) ((2:Int) ^ (a%8)%256)=((y ^^^ 2 ^ (a%8):Nat):Int):=by
 have hp:2 ^ (a%8)<256:=Nat.lt_of_le_of_lt (Nat.pow_le_pow_right (by decide) (show a%8≤7 by omega)) (by decide)
 have e:((2:Int) ^ (a%8)%256)=((2 ^ (a%8):Nat):Int):=by
  have:(2:Int) ^ (a%8)=((2 ^ (a%8):Nat):Int):=by norm_cast
  rw [this];exact Int.emod_eq_of_lt (Int.natCast_nonneg _) (Int.ofNat_lt.2 hp)
 rw [e]
 exact u8_xor_nat y (2 ^ (a%8)) hy hp
theorem flipH_set (F:Nat→Nat) (a:Nat) (h:a<256) (v:Int) (hv:v=((F (a/8) ^^^ 2 ^ (a%8):Nat):Int)):(r8 32 F).setIfInBounds (a/8) (.int .u8 v)=r8 32 (flipH F a):=
 M.rowF_set (g:=fun i=>((flipH F a i:Nat):Int)) v (by omega) (fun j _=>by
  unfold flipH
  by_cases he:j=a/8
  · rw [if_pos he,if_pos he,hv,he]
  · rw [if_neg he,if_neg he])
end Go.Proofs.YtdebnbgjgkbmaaaGreatDoor
namespace Go.Proofs.YtdebnbgjgkbmaaaGreatDoor
open Go.RowKit
theorem ret_bool {a b:Bool} (h:a=b):Ending.returned (.bool a)=.returned (.bool b):=by rw [h]
def isN (i:Int):Bool:=decide (0≤i)&&decide (i<65536)
def place (i:Int):Nat:=if isN i then min (Lib.ctz 64 i.toNat) 16 else 0
end Go.Proofs.YtdebnbgjgkbmaaaGreatDoor
namespace Go.Proofs.YtdebnbgjgkbmaaaGreatDoor
open Go.RowKit Go.Shelf
set_option linter.unusedVariables false
attribute [local go_sem] Oper.semAt_some
def onesL (i d:Nat):Nat→List Nat
 | 0=>[]
 | j+1=>onesL i d j++(if i/2 ^ (d-1-j)%2=1 then [d-1-j] else [])
theorem onesL_len (i d j:Nat):(onesL i d j).length≤j:=by
 induction j with
 | zero=>simp [onesL]
 | succ j ih=>unfold onesL;rw [List.length_append];split<;>simp<;>omega
theorem onesL_yes {i d j:Nat} (h:i/2 ^ (d-1-j)%2=1):onesL i d (j+1)=onesL i d j++[d-1-j]:=by show _++_=_;rw [if_pos h]
theorem onesL_no {i d j:Nat} (h:¬ i/2 ^ (d-1-j)%2=1):onesL i d (j+1)=onesL i d j:=by show _++_=_;rw [if_neg h];simp
def step1 (F:Nat→Nat) (b:Nat):Nat→Nat:=ofH (flipH F b)
def walkH (F:Nat→Nat) (i d:Nat):Nat→Nat:=(onesL i d d).foldl step1 F
theorem ones_any (i d:Int) (w:World) :
 Calls Tryz.prog 206 #[.int .i64 i,.int .i64 d] w fun e w'=>e=.returned (.func (.func 277) #[] #[.pointer (some ⟨w.heap.size+1,0,none⟩),.pointer (some ⟨w.heap.size,0,none⟩)])∧w'=(w.alloc (.cells #[.int .i64 i] 3)).alloc (.cells #[.int .i64 d] 3):=by
 have hmf:∀ (fn:Fn) (first cap:Array Value) (w:World),(Instr.makeFunc fn first cap).run Tryz.prog w=.ok (.func fn first cap) w:=fun _ _ _ _=>rfl
 go_enter Tryz.func206,Tryz.ntmps206
 go_wp2
 go_ret
 exact ⟨rfl,rfl⟩
abbrev B16:={ b:Nat // b<16 }
def KeepI (bi:Nat) (W W':World):Prop:=∀ v,W.cell? ⟨bi,0,none⟩=some v→W'.cell? ⟨bi,0,none⟩=some v
theorem KeepI.t {bi:Nat} {A B C:World} (h:KeepI bi A B) (k:KeepI bi B C):KeepI bi A C:=fun v hv=>k v (h v hv)
theorem KeepI.b {bi:Nat} {w:World} (W:World) (l:Nat) (o o':Obj) (_:w.heap.size≤l) (h:W.heap[l]?=some o) (hc:o.isCells=false) (_:o.isWalk=false):KeepI bi W (W.putObj l o'):=
 fun v hv=>cell_kept hv (grownBy_putObj' W l o') (fun r e=>by cases e;exact ⟨o,h,hc⟩)
theorem i64_and1 (n:Int):bits .and .i64 n 1=n%2:=by
 have h1:(BitVec.ofInt 64 1).toNat=2 ^ 1-1:=by decide
 have key:(BitVec.ofInt 64 n &&& BitVec.ofInt 64 1).toNat=(n%((2 ^ 64:Nat):Int)).toNat%2 ^ 1:=by
  rw [BitVec.toNat_and,BitVec.toNat_ofInt,h1,Nat.and_two_pow_sub_one_eq_mod]
 show IntKind.i64.wrap ((BitVec.ofInt 64 n &&& BitVec.ofInt 64 1).toNat:Nat)=n%2
 rw [key,IntKind.wrap_i64]
 omega
theorem bit_yes {i b:Nat} (h:i/2 ^ b%2=1):bits .and .i64 ((i:Int)/2 ^ b) 1=1:=by
 rw [i64_and1,show ((i:Int)/2 ^ b)=((i/2 ^ b:Nat):Int) by norm_cast];omega
theorem bit_no {i b:Nat} (h:¬ i/2 ^ b%2=1):bits .and .i64 ((i:Int)/2 ^ b) 1=0:=by
 rw [i64_and1,show ((i:Int)/2 ^ b)=((i/2 ^ b:Nat):Int) by norm_cast];omega
set_option maxRecDepth 100000 in
set_option maxHeartbeats 2000000 in
theorem ones_stops (n:Nat) (hn:1≤n) (bi bd i d:Nat) (hi:i<65536) (hd:d≤16) (w0:World) (hbi:w0.cell? ⟨bi,0,none⟩=some (.int .i64 (i:Nat))) (hbd:w0.cell? ⟨bd,0,none⟩=some (.int .i64 (d:Nat))) :
 SeqStopsK (α:=B16) Fence.wide n Tryz.prog 277 #[.pointer (some ⟨bd,0,none⟩),.pointer (some ⟨bi,0,none⟩)] (fun x=>#[.int .i64 (x.1:Nat)]) (KeepI bi) (fun xs=>xs.map (·.1)=onesL i d d) (fun _=>True) 17 w0:=by
 intro l J Jx W hW hJ hJx hY h0
 have hbi':W.cell? ⟨bi,0,none⟩=some (.int .i64 (i:Nat)):=by rw [hW.cell (World.block_lt_of_cell? w0 _ hbi)];exact hbi
 have hbd':W.cell? ⟨bd,0,none⟩=some (.int .i64 (d:Nat)):=by rw [hW.cell (World.block_lt_of_cell? w0 _ hbd)];exact hbd
 clear hbi hbd hW
 refine callsIn_of_wp Tryz.func277 rfl trivial ?_ rfl
 simp only [Tryz.ntmps277,List.size_toArray,List.length_cons,List.length_nil,Nat.reduceAdd,Nat.reduceSub,Array.replicate_succ,Array.replicate_zero,List.push_toArray,List.append_toArray,List.nil_append,List.cons_append]
 gi_wp2
 gi_loopw [4] (fun p wr=>∃ (j:Nat) (pre:List B16),j≤d∧p=.int .i64 ((d:Int)-1-j)∧pre.map (·.1)=onesL i d j∧wr.cell? ⟨bi,0,none⟩=some (.int .i64 (i:Nat))∧J pre wr)
  (fun p wr=>(intOf p+1).toNat)
 case atStart=>exact ⟨0,[],by omega,by simp,rfl,hbi',h0⟩
 case round=>
  clear h0 hbi' hbd'
  obtain ⟨j,pre,hj,rfl,hpre,hci,hJs⟩:=hrel
  by_cases hlt:j<d
  · obtain ⟨b,hb⟩:∃ b,d-1-j=b:=⟨_,rfl⟩
    have e:(d:Int)-1-j=(b:Int):=by omega
    have hb16:b<16:=by omega
    have hlen:=onesL_len i d j
    have hpl:pre.length=(onesL i d j).length:=by rw [←hpre,List.length_map]
    have HB:=Lib.hid hb;have HE:=Lib.hid e;have HP:=Lib.hid hpre;have HPL:=Lib.hid hpl
    rw [e]
    clear hb e hpre hpl
    by_cases hbit:i/2 ^ b%2=1
    · have hy1:=onesL_yes (i:=i) (d:=d) (j:=j) (by rw [HB.out];exact hbit)
      have hand:=bit_yes hbit
      have HY1:=Lib.hid hy1
      obtain ⟨fn,tmps,assign,body,hy,hR⟩:=hY pre ⟨b,hb16⟩ wr hJs (by have:=HPL.out;omega)
      dsimp only at hy
      clear hy1 hbit
      gi_wp2
      refine hR.mono ?_
      rintro e W3 (⟨rfl,hJ3,hk3⟩ | ⟨rfl,hJx3⟩)
      · have hc3:=hk3 _ hci
        gi_wp2
        go_roundw
        case rel=>exact ⟨j+1,pre++[⟨b,hb16⟩],by omega,by have:=HE.out;congr 1;push_cast;omega,by rw [List.map_append,HP.out,HY1.out,HB.out];rfl,hc3,hJ3⟩
        case measure=>simp [intOf]
      · gi_wp2
        refine bodyPost_ret (results_none rfl _ _ _) rfl ?_
        exact ⟨⟨_,rfl⟩,.inr ⟨pre++[⟨b,hb16⟩],trivial,hJx3⟩⟩
    · have hn1:=onesL_no (i:=i) (d:=d) (j:=j) (by rw [HB.out];exact hbit)
      have hand:=bit_no hbit
      have HN1:=Lib.hid hn1
      clear hn1 hbit
      gi_wp2
      refine ⟨fun _ h=>(by cases h),?_⟩
      gi_wp2
      go_roundw
      case rel=>exact ⟨j+1,pre,by omega,by have:=HE.out;congr 1;push_cast;omega,by rw [HP.out,HN1.out],hci,hJs⟩
      case measure=>simp [intOf]
  · obtain rfl:j=d:=by omega
    have hz:(j:Int)-1-j=-1:=by omega
    rw [hz]
    clear hz
    gi_wp2
    go_end0
    exact ⟨⟨_,rfl⟩,.inl ⟨pre,hpre,hJs⟩⟩
end Go.Proofs.YtdebnbgjgkbmaaaGreatDoor
namespace Go.Proofs.YtdebnbgjgkbmaaaGreatDoor
open Go.RowKit Go.Shelf
set_option linter.unusedVariables false
attribute [local go_sem] Oper.semAt_some
structure RB (n:Nat) (w W:World) (bi:Nat) (L:List (Nat × TypeId × Array Value)) (v:World):Prop where
 kb:KB n w L v
 ko:KeepsOthers W v
 ki:KeepI bi W v
section
variable {n bi:Nat} {w W v v':World} {L:List (Nat × TypeId × Array Value)}
theorem RB.drew (c:RB n w W bi L v):RB n w W bi L v.drew:=⟨c.kb.drew,c.ko.trans (KeepsOthers.drew _),c.ki⟩
theorem RB.same (c:RB n w W bi L v) (hb:Below v.heap.size v v'):RB n w W bi L v':=
 ⟨c.kb.same hb,c.ko.trans ⟨hb.size,fun k o h _=>by rw [hb.block k (Array.getElem?_eq_some_iff.1 h).1];exact h⟩,fun x hx=>by
   have h:=c.ki x hx
   rw [hb.cell (World.block_lt_of_cell? v _ h)];exact h⟩
theorem RB.set {g:Nat} {t:TypeId} {Z:Array Value} (c:RB n w W bi ((g,t,Z)::L) v) (hne:∀ x∈L,x.1≠g) (hg:n≤g) (hbi:bi≠g) (i:Nat) (u:Value):RB n w W bi ((g,t,Z.setIfInBounds i u)::L) (v.setCell ⟨g,i,none⟩ u):=
 ⟨c.kb.set hne hg i u,c.ko.trans (KeepsOthers.setCell _ _ _),fun x hx=>by
   rw [World.cell?_setCell_other _ _ _ _ (fun h=>hbi (by cases h;rfl))];exact c.ki x hx⟩
theorem RB.setRow {g:Nat} {t:TypeId} {Z:Array Value} (c:RB n w W bi ((g,t,Z)::L) v) (hne:∀ x∈L,x.1≠g) (hg:n≤g) (hbi:bi≠g) (D:Array Value):RB n w W bi ((g,t,D)::L) (v.setRow g D):=
 ⟨c.kb.setRow hne hg D,c.ko.trans ⟨by simp,fun k o h hc=>by
   by_cases e:k=g
   · subst e
     have:=c.kb.rows (k,t,Z) List.mem_cons_self
     simp only at this
     rw [this] at h;cases h;cases hc
   · simp only [World.setRow,Array.getElem?_modify];rw [if_neg (fun h=>e h.symm)];exact h⟩,fun x hx=>by
   have h:=c.ki x hx
   unfold World.cell? at *
   simp only [World.setRow,Array.getElem?_modify]
   rw [if_neg (fun h=>hbi h.symm)];exact h⟩
theorem KB.grown {row:Option Nat} (c:KB n w L v) (hg:v.grownBy v' row) (hr:∀ r,row=some r→n≤r∧∃ o:Obj,v.heap[r]?=some o∧o.isCells=false):KB n w L v':=
 ⟨fun x hx=>by
   have h:=c.rows x hx
   rw [hg.block x.1 (Array.getElem?_eq_some_iff.1 h).1 (fun e=>by
    obtain ⟨_,o,ho,hc⟩:=hr x.1 e.symm
    rw [h] at ho;cases ho;cases hc)]
   exact h,c.below.grown hg c.ge (fun k e=>(hr k e).1),Nat.le_trans c.ge hg.size⟩
end
theorem own_kb {β:Type} {n B:Nat} {w:World} (L:β→List (Nat × TypeId × Array Value)) (hB:n≤B):OwnFrom B (fun (s:β) W=>KB n w (L s) W):=
 fun s W W' row hs hg hr=>hs.grown hg (fun r e=>⟨Nat.le_trans hB (hr r e).1,(hr r e).2⟩)
theorem wrap_pow (b:Nat):IntKind.u8.wrap (2 ^ min ((b:Int).tmod 8).toNat 8)=(2:Int) ^ (b%8)%256:=by
 have e:((b:Int).tmod 8).toNat=b%8:=by rw [Int.tmod_eq_emod_of_nonneg (by omega)];omega
 rw [e,Nat.min_eq_left (by omega),IntKind.wrap_u8]
def accB (F:Nat→Nat) (pre:List B16):Nat→Nat:=(pre.map (·.1)).foldl step1 F
theorem accB_snoc (F:Nat→Nat) (pre:List B16) (x:B16):accB F (pre++[x])=ofH (flipH (accB F pre) x.1):=by simp [accB,step1]
theorem accB_lt {F:Nat→Nat} (hF:∀ i,F i<256) (pre:List B16):∀ i,accB F pre i<256:=by
 intro i
 rcases List.eq_nil_or_concat pre with h | ⟨l,x,h⟩
 · subst h;exact hF i
 · rw [h,List.concat_eq_append,accB_snoc];exact ofH_lt _ _
set_option maxRecDepth 100000 in
set_option maxHeartbeats 4000000 in
theorem chain_any (F:Nat→Nat) (i d:Nat) (w:World) (ht:Tabs w) (hF:∀ j,F j<256) (hi:i<65536) (hd:d≤16) :
 Calls Tryz.prog 131 #[.agg (r8 32 F),.int .i64 (i:Nat),.int .i64 (d:Nat)] w fun e w'=>e=.returned (.agg (r8 32 (walkH F i d)))∧Below w.heap.size w w':=by
 obtain ⟨n,hn⟩:∃ n,w.heap.size=n:=⟨_,rfl⟩
 have HN:=Lib.hid hn
 have h1n:4<n:=hn▸ht.lt
 have tb:=fun v (hb:Below n w v)=>ht.below hb h1n
 have TB:=Lib.hid tb
 have kb0:=((((KB.start w).new 47 (r8 32 F)).new 47 Z32).alloc (.cells #[.int .i64 (i:Nat)] 3)).alloc (.cells #[.int .i64 (d:Nat)] 3)
 rw [World.size_alloc,hn] at kb0
 have ci:((((w.alloc (.cells (r8 32 F) 47)).alloc (.cells Z32 47)).alloc (.cells #[.int .i64 (i:Nat)] 3)).alloc (.cells #[.int .i64 (d:Nat)] 3)).cell? ⟨n+1+1,0,none⟩=some (.int .i64 (i:Nat)):=by
  have:=((M.RowAt.new ((w.alloc (.cells (r8 32 F) 47)).alloc (.cells Z32 47)) 3 #[.int .i64 (i:Nat)]).alloc (.cells #[.int .i64 (d:Nat)] 3)).cell 0
  rw [World.size_alloc,World.size_alloc,hn] at this
  exact this
 have cd:((((w.alloc (.cells (r8 32 F) 47)).alloc (.cells Z32 47)).alloc (.cells #[.int .i64 (i:Nat)] 3)).alloc (.cells #[.int .i64 (d:Nat)] 3)).cell? ⟨n+1+1+1,0,none⟩=some (.int .i64 (d:Nat)):=by
  have:=(M.RowAt.new (((w.alloc (.cells (r8 32 F) 47)).alloc (.cells Z32 47)).alloc (.cells #[.int .i64 (i:Nat)] 3)) 3 #[.int .i64 (d:Nat)]).cell 0
  rw [World.size_alloc,World.size_alloc,World.size_alloc,hn] at this
  exact this
 have hsz:((((w.alloc (.cells (r8 32 F) 47)).alloc (.cells Z32 47)).alloc (.cells #[.int .i64 (i:Nat)] 3)).alloc (.cells #[.int .i64 (d:Nat)] 3)).heap.size=n+1+1+1+1:=by
  rw [World.size_alloc,World.size_alloc,World.size_alloc,World.size_alloc,hn]
 have hwk:∀ xs:List B16,xs.map (·.1)=onesL i d d→accB F xs=walkH F i d:=fun xs h=>by unfold accB walkH;rw [h]
 have hacc:=fun pre=>accB_lt hF pre
 have hnil:accB F []=F:=rfl
 have HWK:=Lib.hid hwk
 have HACC:=Lib.hid hacc
 obtain ⟨G,hG⟩:∃ G,walkH F i d=G:=⟨_,rfl⟩
 have HG:=Lib.hid hG
 obtain ⟨C,hC⟩:∃ C,r8 32 F=C:=⟨_,rfl⟩
 have hC0:r8 32 (accB F [])=C:=hC
 rw [hC] at kb0 ci cd hsz
 rw [hC,hG]
 have HC0:=Lib.hid hC0
 obtain ⟨W0,hW0⟩:∃ W0,(((w.alloc (.cells C 47)).alloc (.cells Z32 47)).alloc (.cells #[.int .i64 (i:Nat)] 3)).alloc (.cells #[.int .i64 (d:Nat)] 3)=W0:=⟨_,rfl⟩
 rw [hW0] at kb0 ci cd hsz
 have hW0':(((w.alloc (.cells C 47)).alloc (.cells #[.int .u8 0,.int .u8 0,.int .u8 0,.int .u8 0,.int .u8 0,.int .u8 0,.int .u8 0,.int .u8 0,.int .u8 0,.int .u8 0,.int .u8 0,.int .u8 0,.int .u8 0,.int .u8 0,.int .u8 0,.int .u8 0,.int .u8 0,.int .u8 0,.int .u8 0,.int .u8 0,.int .u8 0,.int .u8 0,.int .u8 0,.int .u8 0,.int .u8 0,.int .u8 0,.int .u8 0,.int .u8 0,.int .u8 0,.int .u8 0,.int .u8 0,.int .u8 0] 47)).alloc (.cells #[.int .i64 (i:Nat)] 3)).alloc (.cells #[.int .i64 (d:Nat)] 3)=W0:=hW0
 have HW0:=Lib.hid hW0'
 have hstops:=ones_stops 7 (by decide) (n+1+1) (n+1+1+1) i d hi hd W0 ci cd
 have HST:=Lib.hid hstops
 clear hW0 hW0' hC hC0 hG hwk hacc hnil ht tb ci cd hstops
 refine (callsIn_wide (n:=8)).1 ?_
 refine callsIn_of_wp_marks Tryz.func131 rfl trivial ?_ rfl
 simp only [Tryz.ntmps131,List.size_toArray,List.length_cons,List.length_nil,Nat.reduceAdd,Nat.reduceSub,Array.replicate_succ,Array.replicate_zero,List.push_toArray,List.append_toArray,List.nil_append,List.cons_append]
 gi_wp2_with fail
 refine ⟨trivial,?_⟩
 refine (callsIn_wide.2 (ones_any _ _ _)).mono ?_
 rintro e w' ⟨rfl,rfl⟩
 rw [World.size_alloc,World.size_alloc,hn]
 rw [HW0.out]
 clear hn
 gi_wp2
 refine wpIn_rangeFunc_ownF rfl (by decide) (gf:=277) (lb:=#[.pointer (some ⟨n+1+1+1,0,none⟩),.pointer (some ⟨n+1+1,0,none⟩)]) rfl trivial (enters_of Tryz.func277 (by kernel_rfl) rfl)
  HST.out KeepI.t KeepI.b (Below.refl _ _) (fun _=>rfl)
  (fun pre W=>KB n w [(n,47,r8 32 (accB F pre)),(n+1,47,Z32)] W)
  (fun _ _ _=>False)
  (own_kb _ (by rw [hsz];omega))
  (fun _ _ _ _ _ hs _ _=>hs)
  (by rw [HC0.out];exact kb0.sub (by simp))
  (fun x=>{ tmps:=#[.agg C,.int .i64 (i:Nat),.int .i64 (d:Nat),.pointer (some ⟨n,0,none⟩),undef,undef,.pointer (some ⟨n+1,0,none⟩),.int .i64 (x.1:Nat),.int .i64 (i:Nat),.int .i64 (d:Nat),.func (.func 277) #[] #[.pointer (some ⟨n+1+1+1,0,none⟩),.pointer (some ⟨n+1+1,0,none⟩)],.int .i64 (x.1:Nat),undef,undef,undef,undef,undef,undef,undef,undef,undef,undef,undef,undef,undef],defers:=[] }) ?assign ?body ?done ?stop
 case assign=>
  intro l x W K hK
  gi_wp2
  exact hK
 case body=>
  rintro l pre ⟨b,hb⟩ W hI _
  have hlt:=HACC.out pre
  have hsn:=accB_snoc F pre ⟨b,hb⟩
  simp only at hsn
  obtain ⟨A,hA⟩:∃ A,accB F pre=A:=⟨_,rfl⟩
  rw [hA] at hsn hlt hI
  have HSN:=Lib.hid hsn
  clear hsn kb0 hsz hA
  have hof:Sha.sum (hstr (flipH A b))=ofH (flipH A b):=rfl
  have cs:=fun v (h:Below n w v)=>sum_any (hstr (flipH A b)) v (TB.out v h) (by rw [hstr_size];decide)
  rw [hof] at cs
  have hcv:=fun v g (h:M.RowAt v g 47 (r8 32 (flipH A b)))=>conv_row8 h
  have a8:=hlt (b/8)
  have st:=flipH_set A b (by omega) _ (xor_pow (A (b/8)) b a8)
  have ca:(r8 32 A)[b/8]?=some (.int .u8 (A (b/8):Nat)):=M.rowF_get (by omega)
  have rb0:RB n w W (n+1+1) [(n,47,r8 32 A),(n+1,47,Z32)] W:=⟨hI,KeepsOthers.refl _,fun v h=>h⟩
  have iO:=r8_info (ofH (flipH A b));have oO:=r8_one (ofH (flipH A b))
  have zO:(r8 32 (flipH A b)).size=(r8 32 (ofH (flipH A b))).size:=by rw [r8_size,r8_size]
  obtain ⟨O,hO⟩:∃ O,r8 32 (ofH (flipH A b))=O:=⟨_,rfl⟩
  rw [hO] at cs iO oO zO
  have HO:=Lib.hid hO
  clear hO
  generalize r8 32 (flipH A b)=T at *
  generalize hstr (flipH A b)=Y at *
  generalize r8 32 A=R at *
  generalize A (b/8)=y at *
  have setc:∀ v,RB n w W (n+1+1) [(n,47,R),(n+1,47,Z32)] v→RB n w W (n+1+1) [(n,47,T),(n+1,47,Z32)] (v.setCell ⟨n,b/8,none⟩ (.int .u8 (bits .xor .u8 (y:Int) ((2:Int) ^ (b%8)%256)))):=fun v c=>by
   have:=c.set (fun x hx=>by simp at hx;subst hx;show n+1≠n;omega) (Nat.le_refl _) (by omega) (b/8) (.int .u8 (bits .xor .u8 (y:Int) ((2:Int) ^ (b%8)%256)))
   rw [st] at this;exact this
  have cellc:∀ v,RB n w W (n+1+1) [(n,47,R),(n+1,47,Z32)] v→v.cell? ⟨n,b/8,none⟩=some (.int .u8 (y:Nat))∧v.frozen? ⟨n,b/8,none⟩=false:=fun v c=>
   ⟨(M.RowAt.cell (c.kb.rows (n,47,R) List.mem_cons_self) (b/8)).trans ca,M.RowAt.frozen (c.kb.rows (n,47,R) List.mem_cons_self) (b/8)⟩
  have SETC:=Lib.hid setc;have CELLC:=Lib.hid cellc;have CS:=Lib.hid cs;have HCV:=Lib.hid hcv
  have w1:IntKind.i64.wrap ((b:Int)/8)=(b:Int)/8:=IntWalk.i64_in _ (by omega)
  have w2:(0:Int)≤(b:Int)/8:=by omega
  have w3:(b:Int)/8<32:=by omega
  have w4:((b:Int)/8).toNat=b/8:=by omega
  clear cs hcv st ca setc cellc hI hof hlt a8
  gi_wp2_with fail
  refine Rd.wpIn_region_p 9 (RB n w W (n+1+1) [(n,47,R),(n+1,47,Z32)]) (RB n w W (n+1+1) [(n,47,T),(n+1,47,Z32)]) (by kernel_rfl) (by kernel_rfl) (by kernel_rfl) rb0.drew ?_
  iterate 10
   (refine QT.wpQ_step (fun K hK=>?_)
    go_simp
    first
     | (refine hK _ ?_;clear hK K)
     | (refine ⟨?_,hK _ ?_⟩;decide;clear hK K)
     | ((first | (apply Exists.intro;refine ⟨?_,hK _ ?_⟩) | refine ⟨⟨undef,?_⟩,hK _ ?_⟩)
        first
         | (apply QT.al_p;decide;(focus (intro wq hq;(first | (obtain ⟨hc1,hf1⟩:=CELLC.out _ hq) | skip);first | (fail) | (unfold QP.oat;go_simp;first | done | exact ⟨by assumption,rfl⟩ | exact rfl | assumption | ((rw [wrap_pow];exact SETC.out _ hq))))))
         | (apply QT.al_dep;decide;decide;(focus (intro wq hq;(first | (obtain ⟨hc1,hf1⟩:=CELLC.out _ hq) | skip);first | (fail) | (unfold QP.oat;go_simp;first | done | exact ⟨by assumption,rfl⟩ | exact rfl | assumption | ((rw [wrap_pow];exact SETC.out _ hq))))))
         | (apply QT.al_bef;decide;decide;(focus (intro wq hq;(first | (obtain ⟨hc1,hf1⟩:=CELLC.out _ hq) | skip);first | (fail) | (unfold QP.oat;go_simp;first | done | exact ⟨by assumption,rfl⟩ | exact rfl | assumption | ((rw [wrap_pow];exact SETC.out _ hq))))))
         | (apply QT.al_ok;decide;(focus (intro wq hq;(first | (obtain ⟨hc1,hf1⟩:=CELLC.out _ hq) | skip);first | (fail) | (unfold QP.oat;go_simp;first | done | exact ⟨by assumption,rfl⟩ | exact rfl | assumption | ((rw [wrap_pow];exact SETC.out _ hq)))));(focus (intro wq hq;(first | (obtain ⟨hc1,hf1⟩:=CELLC.out _ hq) | skip);first | (fail) | (unfold QP.oat;go_simp;first | done | exact ⟨by assumption,rfl⟩ | exact rfl | assumption | ((rw [wrap_pow];exact SETC.out _ hq))))))
        clear hK K))
  refine QT.wpQ_nil ?_
  intro wz bz
  have hcv:=HCV.out _ _ (bz.kb.rows (n,47,T) List.mem_cons_self)
  gi_wp2_with fail
  refine ⟨trivial,?_⟩
  refine (CallsIn.inRound l (callsIn_wide.2 (CS.out _ bz.kb.below))).mono ?_
  rintro e w3 ⟨rfl,gq⟩
  have b3:=bz.same gq
  have rT:w3.heap[n]?=some (.cells T 47 (0,0)):=b3.kb.rows (n,47,T) List.mem_cons_self
  have b4:=b3.setRow (fun x hx=>by simp at hx;subst hx;show n+1≠n;omega) (Nat.le_refl _) (by omega) O
  clear gq bz hcv b3
  gi_wp2_with (refine Rd.list_store_row ?_ (x:=.tmp 3) (y:=.tmp 23) (cells:=O) (old:=T) (t:=47) (ty:=47) (g:=n) ?_ ?_ ?_ rT iO zO oO ?_;rfl;rfl;rfl;rfl)
  exact ⟨b4.ko,b4.ki,by show KB n w [(n,47,r8 32 (accB F (pre++[⟨b,hb⟩]))),(n+1,47,Z32)] _;rw [HSN.out,HO.out];exact b4.kb⟩
 case done=>
  rintro D xs W hD hxs hI hK
  have hx:accB F xs=G:=(HWK.out xs hxs).trans HG.out
  rw [hx] at hI
  have hb1:=belowK_b (w:=w) (n₀:=n) (by rw [HN.out];exact Nat.le_refl _)
  have rG:W.heap[n]?=some (.cells (r8 32 G) 47 (0,0)):=hI.rows (n,47,r8 32 G) List.mem_cons_self
  have rZ:W.heap[n+1]?=some (.cells Z32 47 (0,0)):=hI.rows (n+1,47,Z32) (by simp)
  have kz:KB n w [(n+1,47,Z32),(n,47,r8 32 G)] W:=hI.sub (by simp)
  have ks:=kz.setRow (fun x hx=>by simp at hx;subst hx;show n≠n+1;omega) (by omega) (r8 32 G)
  have iG:=r8_info G;have zG:=r8_zero G;have oG:=r8_one G
  have hK':(W.setRow (n+1) (r8 32 G)).heap[D]?=some (.deferred (some [])):=by
   simp only [World.setRow,Array.getElem?_modify]
   rw [if_neg (fun e=>by rw [←e,rZ] at hK;cases hK)];exact hK
  have HK':=Lib.hid hK'
  clear hK hK' hb1 hx hI kz
  gi_wp2_with (first
   | (refine Rd.wide_load_row ?_ (x:=.tmp 3) (ty:=47) (g:=n) (cs:=r8 32 G) (t:=47) (fr:=(0,0)) ?_ ?_ _ rG und28 rfl iG ?_;rfl;rfl;rfl)
   | (refine Rd.wide_store_row ?_ (x:=.tmp 6) (y:=.tmp 24) (cells:=r8 32 G) (old:=Z32) (t:=47) (ty:=47) (g:=n+1) ?_ ?_ ?_ rZ iG zG oG ?_;rfl;rfl;rfl;rfl))
  refine ⟨by simp,.inl ⟨_,_,rfl,run_takeDeferred HK'.out,?_⟩⟩
  have kp:=ks.grown (grownBy_putObj' _ D (.deferred none)) (fun r e=>by cases e;exact ⟨by rw [hsz] at hD;omega,_,HK'.out,rfl⟩)
  have q6:((W.setRow (n+1) (r8 32 G)).putObj D (.deferred none)).heap[n+1]?=some (.cells (r8 32 G) 47 (0,0)):=kp.rows (n+1,47,r8 32 G) List.mem_cons_self
  have hload:=run_loadVar_row (P:=Tryz.prog) _ (n+1) 47 47 (r8 32 G) (0,0) _ q6 und28 rfl iG
  refine ⟨.agg (r8 32 G),?_,rfl,by rw [HN.out];exact kp.below⟩
  simp [results,Tryz.f131,asAddr,Act.put,hload]
 case stop=>
  rintro D c pre W _ _ h _
  exact h.elim
end Go.Proofs.YtdebnbgjgkbmaaaGreatDoor
namespace Go.Proofs.YtdebnbgjgkbmaaaGreatDoor
namespace SX
open Go Go.RowKit
set_option linter.unusedVariables false
noncomputable def byteV (v:Value):Option Nat:=match v with | .int .u8 (.ofNat n)=>Bool.rec (motive:=fun _=>Option Nat) none (some n) (Nat.blt n 256) | _=>none
noncomputable def natsV:List Value→Option (List Nat):=List.rec (motive:=fun _=>Option (List Nat)) (some []) (fun v _ ih=>Option.rec (motive:=fun _=>Option (List Nat)) none (fun n=>Option.rec (motive:=fun _=>Option (List Nat)) none (fun l=>some (List.cons n l)) ih) (byteV v))
theorem byteV_some {v:Value} {n:Nat} (h:byteV v=some n):v=.int .u8 (.ofNat n)∧n<256:=by
 unfold byteV at h
 split at h
 · rename_i m
   cases hb:Nat.blt m 256 with
   | false=>rw [hb] at h;cases h
   | true=>rw [hb] at h;cases h;exact ⟨rfl,blt_lt hb⟩
 · cases h
theorem natsV_some:∀ {vs:List Value} {l:List Nat},natsV vs=some l→vs=l.map (fun n=>Value.int .u8 (.ofNat n))∧∀ x∈l,x<256
 | [],l,h=>by cases h;exact ⟨rfl,fun x hx=>by cases hx⟩
 | v::vs,l,h=>by
   have h':Option.rec (motive:=fun _=>Option (List Nat)) none (fun n=>Option.rec (motive:=fun _=>Option (List Nat)) none (fun l=>some (List.cons n l)) (natsV vs)) (byteV v)=some l:=h
   cases hb:byteV v with
   | none=>rw [hb] at h';cases h'
   | some n=>
     rw [hb] at h'
     cases hn:natsV vs with
     | none=>rw [hn] at h';cases h'
     | some m=>
       rw [hn] at h'
       cases h'
       obtain ⟨e1,e2⟩:=natsV_some hn
       obtain ⟨rfl,hlt⟩:=byteV_some hb
       refine ⟨by rw [List.map_cons,← e1],fun x hx=>?_⟩
       rcases List.mem_cons.1 hx with rfl | hx
       · exact hlt
       · exact e2 x hx
noncomputable def flipG (m:Nat):List Nat→Nat→List Nat:=List.rec (motive:=fun _=>Nat→List Nat) (fun _=>[]) (fun x xs ih k=>Nat.rec (motive:=fun _=>List Nat) (List.cons (Nat.xor x m) xs) (fun j _=>List.cons x (ih j)) k)
theorem flipG_get (m:Nat):∀ (l:List Nat) (k j:Nat),(flipG m l k)[j]?=if j=k then (l[j]?).map (· ^^^ m) else l[j]?
 | [],k,j=>by
   show ([]:List Nat)[j]?=_
   split<;>rfl
 | x::l,0,j=>by
   show ((x ^^^ m)::l)[j]?=_
   cases j with
   | zero=>rfl
   | succ j=>rw [if_neg (by omega)];rfl
 | x::l,k+1,j=>by
   show (x::flipG m l k)[j]?=_
   cases j with
   | zero=>rw [if_neg (by omega)];rfl
   | succ j=>
     rw [List.getElem?_cons_succ,List.getElem?_cons_succ,flipG_get m l k j]
     by_cases e:j=k
     · rw [if_pos e,if_pos (by omega)]
     · rw [if_neg e,if_neg (by omega)]
theorem flipG_row (F:Nat→Nat) (b:Nat):flipG (2 ^ (b%8)) ((List.range 32).map F) (b/8)=(List.range 32).map (flipH F b):=by
 apply List.ext_getElem?
 intro j
 rw [flipG_get,List.getElem?_map,List.getElem?_map]
 unfold flipH
 by_cases hj:j<32
 · rw [List.getElem?_range hj]
   by_cases e:j=b/8
   · rw [if_pos e];simp only [Option.map_some];rw [if_pos e]
   · rw [if_neg e];simp only [Option.map_some];rw [if_neg e]
 · rw [List.getElem?_eq_none (by simp;omega)];simp
noncomputable def strB (l:List Nat):ByteArray:=⟨⟨l.map UInt8.ofNat⟩⟩
theorem strB_row (F:Nat→Nat):strB ((List.range 32).map F)=hstr F:=by
 unfold strB hstr bytesI strOfNums
 rw [List.map_map,List.map_map];rfl
def onesD (i:Nat):Nat→List Nat
 | 0=>[]
 | b+1=>(if i/2 ^ b%2=1 then [b] else [])++onesD i b
theorem onesD_eq (i d:Nat):∀ j,j≤d→onesL i d j++onesD i (d-j)=onesD i d
 | 0,_=>rfl
 | j+1,h=>by
   rw [←onesD_eq i d j (by omega)]
   show (onesL i d j++_)++_=_
   rw [List.append_assoc,show d-j=(d-(j+1))+1 by omega]
   show onesL i d j++(_++_)=onesL i d j++(_++onesD i (d-(j+1)))
   rw [show d-1-j=d-(j+1) by omega]
noncomputable def chainF {R:Type} (i:Nat) (k:List Nat→R):Nat→List Nat→R:=Nat.rec (motive:=fun _=>List Nat→R) k (fun b ih l=>Nat.rec (motive:=fun _=>R) (ih l) (fun _ _=>frcL (flipG (Nat.pow 2 (Nat.mod b 8)) l (Nat.div b 8)) fun l=>shaF (strB l) ih) (Nat.mod (Nat.div i (Nat.pow 2 b)) 2))
theorem chainF_eq {R:Type} (i:Nat) (k:List Nat→R):∀ (b:Nat) (F:Nat→Nat),chainF i k b ((List.range 32).map F)=k ((List.range 32).map ((onesD i b).foldl step1 F))
 | 0,F=>rfl
 | b+1,F=>by
   have h':chainF i k (b+1) ((List.range 32).map F)=Nat.rec (motive:=fun _=>R) (chainF i k b ((List.range 32).map F)) (fun _ _=>frcL (flipG (2 ^ (b%8)) ((List.range 32).map F) (b/8)) fun l=>shaF (strB l) (chainF i k b)) (i/2 ^ b%2):=rfl
   rw [h']
   show _=k ((List.range 32).map (((if i/2 ^ b%2=1 then [b] else [])++onesD i b).foldl step1 F))
   rcases Nat.mod_two_eq_zero_or_one (i/2 ^ b) with e | e
   · rw [e,if_neg (by decide)]
     exact chainF_eq i k b F
   · rw [e,if_pos rfl]
     show frcL _ _=_
     rw [frcL_eq,shaF_eq,flipG_row,strB_row]
     exact chainF_eq i k b (ofH (flipH F b))
noncomputable def hkChain2 (cs:List Value) (i d:Nat) (h:Hp) (nx:Nat):XR:=Option.rec (motive:=fun _=>XR) (.bad "chain") (fun l=>Bool.rec (motive:=fun _=>XR) (.bad "chain") (frcL l fun l=>chainF i (fun l=>.ok (aggB l) h nx) d l) (and (Nat.beq l.length 32) (and (Nat.blt i 65536) (Nat.ble d 16)))) (natsV cs)
noncomputable def hkChain (args:List Value) (h:Hp) (nx:Nat):XR:=match args with | [.agg cs,.int .i64 (.ofNat i),.int .i64 (.ofNat d)]=>hkChain2 cs.toList i d h nx | _=>.bad "chain"
theorem byteV_cl {σ:Sig} {ρ:Rho} {l:List Nat} {L:List Value} (h:CL σ ρ (l.map fun n=>Value.int .u8 (.ofNat n)) L):L=l.map fun n=>Value.int .u8 (.ofNat n):=by
 apply List.ext_getElem?
 intro i
 have hl:=h.1
 by_cases hi:i<L.length
 · have hi':i<(l.map fun n=>Value.int .u8 (.ofNat n)).length:=by omega
   have hv:=(h.2 i _ _ (List.getElem?_eq_getElem hi') (List.getElem?_eq_getElem hi)).1
   rw [List.getElem?_eq_getElem hi,List.getElem?_eq_getElem hi']
   have e:(l.map fun n=>Value.int .u8 (.ofNat n))[i]=.int .u8 (.ofNat (l[i]'(by simpa using hi'))):=by simp
   rw [e] at hv ⊢
   rw [VR.int_inv hv]
 · rw [List.getElem?_eq_none (by omega),List.getElem?_eq_none (by omega)]
theorem chain_ok {C:Cfg} (hP:C.E.P=Tryz.prog) (g:GlTabs C.E.gl) {σ:Sig} {ρ:Rho} {args:List Value} {h:Hp} {nx:Nat} {v:Value} {h':Hp} {nx':Nat} {w:World} {args':Array Value} (e:hkChain args h nx=.ok v h' nx') (s:Sim σ C.E.gl ρ h nx w) (hv:VL σ ρ args args'.toList) :
 Calls C.E.P 131 args' w fun e w'=>∃ v',e=.returned v'∧Did C.E σ ρ h nx w v h' nx' v' w':=by
 unfold hkChain at e
 split at e
 · rename_i cs i d
   obtain ⟨x0,l0,e0,h0,hv⟩:=hv.inv
   obtain ⟨x1,l1,e1,h1,hv⟩:=hv.inv
   obtain ⟨x2,e2,h2⟩:=hv.one
   obtain ⟨cs',rfl,hcl⟩:=h0.agg_inv
   obtain rfl:=VR.int_inv h1
   obtain rfl:=VR.int_inv h2
   subst e2;subst e1
   unfold hkChain2 at e
   cases hn:natsV cs.toList with
   | none=>rw [hn] at e;cases e
   | some l=>
     rw [hn] at e
     obtain ⟨hcs,hlt⟩:=natsV_some hn
     have e:Bool.rec (motive:=fun _=>XR) (.bad "chain") (frcL l fun l=>chainF i (fun l=>.ok (aggB l) h nx) d l) (and (Nat.beq l.length 32) (and (Nat.blt i 65536) (Nat.ble d 16)))=XR.ok v h' nx':=e
     cases hb:and (Nat.beq l.length 32) (and (Nat.blt i 65536) (Nat.ble d 16)) with
     | false=>rw [hb] at e;cases e
     | true=>
       rw [hb] at e
       have hb:(Nat.beq l.length 32&&(Nat.blt i 65536&&Nat.ble d 16))=true:=hb
       simp only [Bool.and_eq_true] at hb
       obtain ⟨b1,b2,b3⟩:=hb
       have b1:=Nat.eq_of_beq_eq_true b1
       have b2:=blt_lt b2
       have b3:=Nat.le_of_ble_eq_true b3
       have hF:l=(List.range 32).map fun j=>l.getD j 0:=by
        apply List.ext_getElem?
        intro j
        rw [List.getElem?_map]
        by_cases hj:j<32
        · rw [List.getElem?_range hj,List.getElem?_eq_getElem (show j<l.length by omega)]
          simp [List.getD,List.getElem?_eq_getElem (show j<l.length by omega)]
        · rw [List.getElem?_eq_none (show l.length≤j by omega),List.getElem?_eq_none (by simp;omega)];rfl
       have hF2:∀ j,l.getD j 0<256:=fun j=>by
        by_cases hj:j<l.length
        · rw [List.getD,List.getElem?_eq_getElem hj];exact hlt _ (List.getElem_mem hj)
        · rw [List.getD,List.getElem?_eq_none (by omega)];decide
       have e:frcL l (fun l=>chainF i (fun l=>XR.ok (aggB l) h nx) d l)=.ok v h' nx':=e
       rw [frcL_eq] at e
       rw [hcs] at hcl
       have hc2:Value.agg cs'=.agg (r8 32 fun j=>l.getD j 0):=by
        rw [←aggB_r8,← hF]
        unfold aggB
        refine congrArg Value.agg ?_
        apply Array.ext'
        rw [byteV_cl hcl]
       have ha:args'=#[.agg (r8 32 fun j=>l.getD j 0),.int .i64 (i:Nat),.int .i64 (d:Nat)]:=by
        apply Array.ext';rw [e0,hc2];rfl
       subst ha
       rw [hF,chainF_eq] at e
       have ho:onesD i d=onesL i d d:=by rw [←onesD_eq i d d (Nat.le_refl _),Nat.sub_self];simp [onesD]
       rw [ho,aggB_r8] at e
       injection e with q1 q2 q3
       subst q1;subst q2;subst q3
       rw [hP]
       refine (chain_any (fun j=>l.getD j 0) i d w (g.tabs s) hF2 b2 b3).mono ?_
       rintro e w' ⟨rfl,hb⟩
       exact ⟨_,rfl,did_below s hb (by rw [←aggB_r8];exact flat1_aggB _)⟩
 · cases e
end SX
end Go.Proofs.YtdebnbgjgkbmaaaGreatDoor
namespace Go.Proofs.YtdebnbgjgkbmaaaGreatDoor.Oc
open Go.RowKit
set_option linter.unusedVariables false
theorem RD.call {n:Nat} {w0:World} {r:Addr} {s cur c:ByteArray} {ev:Int} {W W':World} (h:RD n w0 r s cur ev W) (hb:Below W.heap.size (W.setCell r (.string c)) W'):RD n w0 r s c ev W':=by
 have h':=h.setR c
 have hr:=h.rlt
 have hn:n+1+1+1<W.heap.size:=World.block_lt_of_cell? W _ h.b2
 exact ⟨hr,by rw [hb.cell (by show n<_;omega)];exact h'.e,by rw [hb.frozen (by show n<_;omega)];exact h'.ef,
  by rw [hb.cell (by show n+1+1<_;omega)];exact h'.b1,by rw [hb.cell (by show n+1+1+1<_;omega)];exact h'.b2,by rw [hb.cell (by show n+1<_;omega)];exact h'.b3,
  h'.atc.below hb (by omega),h'.below.trans (hb.mono (by omega))⟩
theorem extract_all (s:ByteArray):s.extract 0 s.size=s:=by
 apply ByteArray.ext;simp
open Go.RowKit
set_option linter.unusedVariables false
def Z32:Array Value:=#[.int .u8 0,.int .u8 0,.int .u8 0,.int .u8 0,.int .u8 0,.int .u8 0,.int .u8 0,.int .u8 0,.int .u8 0,.int .u8 0,.int .u8 0,.int .u8 0,.int .u8 0,.int .u8 0,.int .u8 0,.int .u8 0,.int .u8 0,.int .u8 0,.int .u8 0,.int .u8 0,.int .u8 0,.int .u8 0,.int .u8 0,.int .u8 0,.int .u8 0,.int .u8 0,.int .u8 0,.int .u8 0,.int .u8 0,.int .u8 0,.int .u8 0,.int .u8 0]
theorem z32_eq:hashV (List.replicate 32 0)=.agg Z32:=by rfl
structure RH (n:Nat) (w0:World) (r:Addr) (s cur:ByteArray) (ev:Int) (C:Array Value) (W:World):Prop where
 rlt:r.block<n
 e:W.cell? ⟨n+1,0,none⟩=some (.int .i64 ev)
 ef:W.frozen? ⟨n+1,0,none⟩=false
 b1:W.cell? ⟨n+1+1+1,0,none⟩=some (.pointer (some ⟨n+1,0,none⟩))
 b2:W.cell? ⟨n+1+1+1+1,0,none⟩=some (.string s)
 b3:W.cell? ⟨n+1+1,0,none⟩=some (.pointer (some r))
 atc:At W r cur
 row:W.heap[n]?=some (.cells C 47 (0,0))
 below:Below n (w0.setCell r (.string cur)) W
theorem RH.ofRD {n:Nat} {w:World} {r:Addr} {s cur:ByteArray} {ev:Int} {C:Array Value} {W:World} (hn:w.heap.size=n) (hr:r.block<n) (h:RD (n+1) (w.alloc (.cells C 47)) r s cur ev W):RH n w r s cur ev C W:=by
 subst hn
 have b0:Below w.heap.size w (w.alloc (.cells C 47)):=(Below.refl _ _).alloc (Nat.le_refl _) _
 refine ⟨hr,h.e,h.ef,h.b1,h.b2,h.b3,h.atc,?_,(below_set b0 r _).trans (h.below.mono (by omega))⟩
 rw [h.below.block _ (by omega),Below.heap_setCell _ _ _ _ (by omega)]
 exact heap_alloc_new w _
theorem RH.setE {n:Nat} {w0:World} {r:Addr} {s cur:ByteArray} {ev:Int} {C:Array Value} {W:World} (h:RH n w0 r s cur ev C W) (v:Int):RH n w0 r s cur v C (W.setCell ⟨n+1,0,none⟩ (.int .i64 v)):=by
 have hr:=h.rlt
 exact ⟨hr,cell_set h.e,frozen_set h.ef,cell_other h.b1 (by show n+1≠n+1+1+1;omega),cell_other h.b2 (by show n+1≠n+1+1+1+1;omega),cell_other h.b3 (by show n+1≠n+1+1;omega),
  ⟨cell_other h.atc.cell (by show n+1≠r.block;omega),frozen_set h.atc.open'⟩,by rw [Below.heap_setCell _ _ _ _ (by show n≠n+1;omega)];exact h.row,h.below.setCell (by show n≤n+1;omega) _⟩
theorem RH.setR {n:Nat} {w0:World} {r:Addr} {s cur:ByteArray} {ev:Int} {C:Array Value} {W:World} (h:RH n w0 r s cur ev C W) (c:ByteArray):RH n w0 r s c ev C (W.setCell r (.string c)):=by
 have hr:=h.rlt
 refine ⟨hr,cell_other h.e (by show r.block≠n+1;omega),frozen_set h.ef,cell_other h.b1 (by show r.block≠n+1+1+1;omega),cell_other h.b2 (by show r.block≠n+1+1+1+1;omega),cell_other h.b3 (by show r.block≠n+1+1;omega),
  ⟨cell_set h.atc.cell,frozen_set h.atc.open'⟩,by rw [Below.heap_setCell _ _ _ _ (by omega)];exact h.row,?_⟩
 have hb:=below_set h.below r (.string c)
 have e:=set_set w0 r (.string cur) (.string c)
 rw [e] at hb;exact hb
theorem setRow_block (w:World) (g k:Nat) (cs:Array Value) (h:k≠g):(w.setRow g cs).heap[k]?=w.heap[k]?:=by
 simp only [World.setRow,Array.getElem?_modify]
 rw [if_neg (fun e=>h e.symm)]
theorem setRow_cell (w:World) (g:Nat) (a:Addr) (cs:Array Value) (h:a.block≠g):(w.setRow g cs).cell? a=w.cell? a:=by
 unfold World.cell?;rw [setRow_block w g a.block cs h]
theorem setRow_frozen (w:World) (g:Nat) (a:Addr) (cs:Array Value) (h:a.block≠g):(w.setRow g cs).frozen? a=w.frozen? a:=by
 unfold World.frozen?;rw [setRow_block w g a.block cs h]
theorem RH.setRow {n:Nat} {w0:World} {r:Addr} {s cur:ByteArray} {ev:Int} {C:Array Value} {W:World} (h:RH n w0 r s cur ev C W) (C':Array Value):RH n w0 r s cur ev C' (W.setRow n C'):=by
 have hr:=h.rlt
 refine ⟨hr,?_,?_,?_,?_,?_,⟨?_,?_⟩,setRow_heap W n C C' 47 _ h.row,?_⟩
 · rw [setRow_cell _ _ _ _ (by show n+1≠n;omega)];exact h.e
 · rw [setRow_frozen _ _ _ _ (by show n+1≠n;omega)];exact h.ef
 · rw [setRow_cell _ _ _ _ (by show n+1+1+1≠n;omega)];exact h.b1
 · rw [setRow_cell _ _ _ _ (by show n+1+1+1+1≠n;omega)];exact h.b2
 · rw [setRow_cell _ _ _ _ (by show n+1+1≠n;omega)];exact h.b3
 · rw [setRow_cell _ _ _ _ (by omega)];exact h.atc.cell
 · rw [setRow_frozen _ _ _ _ (by omega)];exact h.atc.open'
 · exact ⟨h.below.os,h.below.tape,h.below.output,by simpa using h.below.size,fun k hk=>by rw [setRow_block _ _ _ _ (by omega)];exact h.below.block k hk⟩
theorem RH.drew {n:Nat} {w0:World} {r:Addr} {s cur:ByteArray} {ev:Int} {C:Array Value} {W:World} (h:RH n w0 r s cur ev C W):RH n w0 r s cur ev C W.drew:=
 ⟨h.rlt,h.e,h.ef,h.b1,h.b2,h.b3,⟨h.atc.cell,h.atc.open'⟩,h.row,h.below.drew⟩
theorem back1_rh0 {n:Nat} {w0:World} {r:Addr} {s cur:ByteArray} {C:Array Value} {W:World} (u:FrameMode) (h:RH n w0 r s cur 0 C W) :
 CallsD Tryz.prog 202 #[.pointer (some ⟨n+1+1+1,0,none⟩),.pointer (some ⟨n+1+1+1+1,0,none⟩),.pointer (some ⟨n+1+1,0,none⟩)] u W fun e u' w'=>u'=u∧(e=.returned (.tuple #[])∧RH n w0 r s cur 0 C w'):=
 (back1_ok _ _ _ r ⟨n+1,0,none⟩ u W h.b1 h.e).mono fun e u' w' ⟨h1,h2,h3⟩=>⟨h1,h2,h3▸h⟩
theorem back1_rh1 {n:Nat} {w0:World} {r:Addr} {s cur:ByteArray} {C:Array Value} {W:World} {ev:Int} (u:FrameMode) (h:RH n w0 r s cur ev C W) (hz:(ev==0)=false) :
 CallsD Tryz.prog 202 #[.pointer (some ⟨n+1+1+1,0,none⟩),.pointer (some ⟨n+1+1+1+1,0,none⟩),.pointer (some ⟨n+1+1,0,none⟩)] u W fun e u' w'=>u'=u∧(e=.returned (.tuple #[])∧RH n w0 r s s ev C w'):=
 (back1_err _ _ _ r ⟨n+1,0,none⟩ ev s cur u W h.b1 h.e hz (by simpa using hz) h.b2 h.b3 h.atc.cell h.atc.open').mono fun e u' w' ⟨h1,h2,h3⟩=>⟨h1,h2,h3▸h.setR s⟩
set_option maxRecDepth 100000 in
set_option maxHeartbeats 1000000 in
theorem rdhash_short (r:Addr) (s:ByteArray) (w:World) (h:At w r s) (hs:s.size<32) :
 Calls Tryz.prog 237 #[.pointer (some r)] w fun e w'=>e=.returned (.tuple #[hashV (List.replicate 32 0),.int .i64 10])∧Below w.heap.size (w.setCell r (.string s)) w':=by
 have hlt:=World.block_lt_of_cell? w _ h.cell
 have b0:Below w.heap.size w (w.alloc (.cells Z32 47)):=(Below.refl _ _).alloc (Nat.le_refl _) _
 have h0:=h.below b0 hlt
 have hrow:=heap_alloc_new w (.cells Z32 47)
 have hz:(w.alloc (.cells Z32 47)).heap.size=w.heap.size+1:=by simp
 have hb:=back_rd r s _ h0
 rw [hz] at hb
 have HB:=Lib.hid hb
 have hT:=fun w' h'=>take_short r s 32 w' h' (by omega) (by omega) (by omega)
 have HT:=Lib.hid hT
 rw [z32_eq]
 clear hb hT
 obtain ⟨n,hn⟩:∃ n,w.heap.size=n:=⟨_,rfl⟩
 rw [hn] at hrow hz HB hlt
 obtain ⟨w0,hw0⟩:∃ w0,w.alloc (.cells Z32 47)=w0:=⟨_,rfl⟩
 rw [hw0] at b0 h0 hrow hz HB
 go_enter_defers Tryz.func237,Tryz.ntmps237
 go_wp2_with fail
 rw [show w.alloc (.cells #[.int .u8 0,.int .u8 0,.int .u8 0,.int .u8 0,.int .u8 0,.int .u8 0,.int .u8 0,.int .u8 0,.int .u8 0,.int .u8 0,.int .u8 0,.int .u8 0,.int .u8 0,.int .u8 0,.int .u8 0,.int .u8 0,.int .u8 0,.int .u8 0,.int .u8 0,.int .u8 0,.int .u8 0,.int .u8 0,.int .u8 0,.int .u8 0,.int .u8 0,.int .u8 0,.int .u8 0,.int .u8 0,.int .u8 0,.int .u8 0,.int .u8 0,.int .u8 0] 47)=w0 from hw0]
 refine (HB.out).mono ?_
 rintro e w1 ⟨rfl,h1⟩
 go_wp2_with fail
 refine (HT.out w1 h1.atc).mono ?_
 rintro e w2 ⟨rfl,rfl⟩
 have h1':=RH.ofRD hn hlt (hw0▸h1)
 clear h1
 have c1:=h1'.e
 have c2:=h1'.ef
 have h2:=h1'.setE 10
 have c3:=h2.e
 have c4:=h2.ef
 have h3:=h2.setRow Z32
 have r2:=h2.row
 have c5:=h3.e
 have c6:=h3.ef
 have h4:=h3.setE 10
 have i33:(Tryz.prog.info? 47).map (·.size)=some Z32.size:=by kernel_rfl
 have hone:Z32.all (·.oneCell')=true:=by kernel_rfl
 go_wp2_with (refine wpList_store_row (x:=.tmp 2) (y:=.tmp 14) (cells:=Z32) (old:=Z32) (t:=47) (ty:=47) (g:=n) ?_ ?_ ?_ ?_ r2 i33 rfl hone ?_;rfl;rfl;rfl;rfl)
 generalize ((w1.setCell ⟨n+1,0,none⟩ (.int .i64 10)).setRow n Z32).setCell ⟨n+1,0,none⟩ (.int .i64 10)=w3 at *
 refine leaves_cons (f:=202) (args:=#[.pointer (some ⟨n+1+1+1,0,none⟩),.pointer (some ⟨n+1+1+1+1,0,none⟩),.pointer (some ⟨n+1+1,0,none⟩)]) (by simp) (by simp [go_sem]) ?_
 refine (back1_rh1 .returning h4 (by decide)).mono ?_
 rintro e u' w4 ⟨rfl,rfl,h5⟩
 have c7:=h5.e
 have hload:=run_loadVar_row (P:=Tryz.prog) w4 n 47 47 Z32 (0,0) _ h5.row Tryz.underlying47 rfl i33
 have hloadE:(loadVar 26 ⟨n+1,0,none⟩).run Tryz.prog w4=.ok (.int .i64 10) w4:=by simp [go_sem,c7]
 simp [Leaves,settle,results,Tryz.results237,asAddr,hload,hloadE]
 rw [hn]
 exact h5.below
def bytesOf (T:ByteArray):List Int:=T.data.toList.map fun b=>(b.toNat:Int)
set_option maxRecDepth 100000 in
set_option maxHeartbeats 1000000 in
theorem rdhash_ok (r:Addr) (s:ByteArray) (w:World) (h:At w r s) (hs:s.size≤4611686018427387904) (h32:32≤s.size) :
 Calls Tryz.prog 237 #[.pointer (some r)] w fun e w'=>e=.returned (.tuple #[hashV (bytesOf (s.extract 0 32)),.int .i64 0])∧Below w.heap.size (w.setCell r (.string (s.extract 32 s.size))) w':=by
 have hlt:=World.block_lt_of_cell? w _ h.cell
 have b0:Below w.heap.size w (w.alloc (.cells Z32 47)):=(Below.refl _ _).alloc (Nat.le_refl _) _
 have h0:=h.below b0 hlt
 have hz:(w.alloc (.cells Z32 47)).heap.size=w.heap.size+1:=by simp
 have hb:=back_rd r s _ h0
 rw [hz] at hb
 have HB:=Lib.hid hb
 have hT:=fun w' h'=>take_ok r s 32 w' h' hs h32
 have hTs:(s.extract 0 32).size=32:=by simp;omega
 obtain ⟨C,hC⟩:∃ C,(Z32.toList.take 0++Lib.byteCells (s.extract 0 32).data.toList++Z32.toList.drop (0+(s.extract 0 32).size)).toArray=C:=⟨_,rfl⟩
 have hCv:hashV (bytesOf (s.extract 0 32))=.agg C:=by
  rw [←hC,hTs]
  simp [hashV,bytesOf,ints,Lib.byteCells,Z32]
  rfl
 have hCs:C.size=32:=by rw [←hC];simp [Lib.byteCells_length,Z32];omega
 have hCo:C.all (·.oneCell')=true:=by
  rw [←hC,hTs];simp only [List.all_toArray,List.all_append,Bool.and_eq_true];exact ⟨⟨rfl,List.all_eq_true.2 (Lib.byteCells_one _)⟩,rfl⟩
 rw [hCv]
 generalize s.extract 0 32=T at *
 generalize s.extract 32 s.size=R at *
 have HT:=Lib.hid hT
 have cpy:=fun (W:World) (hg:W.heap[w.heap.size]?=some (.cells Z32 47 (0,0))) (ty:TypeId)=>
  Lib.run_copy_row_string (P:=Tryz.prog) W 55 9 ty 5 w.heap.size 0 32 32 T Z32 47 Tryz.underlying55 (by kernel_rfl) hg (by omega) (by rw [hTs];decide)
 rw [hC] at cpy
 have CPY:=Lib.hid cpy
 clear hb hT hTs hC hCv cpy
 obtain ⟨n,hn⟩:∃ n,w.heap.size=n:=⟨_,rfl⟩
 rw [hn] at hz HB hlt CPY
 obtain ⟨w0,hw0⟩:∃ w0,w.alloc (.cells Z32 47)=w0:=⟨_,rfl⟩
 rw [hw0] at b0 h0 hz HB
 have i33:(Tryz.prog.info? 47).map (·.size)=some C.size:=by rw [hCs];kernel_rfl
 go_enter_defers Tryz.func237,Tryz.ntmps237
 go_wp2_with fail
 rw [show w.alloc (.cells #[.int .u8 0,.int .u8 0,.int .u8 0,.int .u8 0,.int .u8 0,.int .u8 0,.int .u8 0,.int .u8 0,.int .u8 0,.int .u8 0,.int .u8 0,.int .u8 0,.int .u8 0,.int .u8 0,.int .u8 0,.int .u8 0,.int .u8 0,.int .u8 0,.int .u8 0,.int .u8 0,.int .u8 0,.int .u8 0,.int .u8 0,.int .u8 0,.int .u8 0,.int .u8 0,.int .u8 0,.int .u8 0,.int .u8 0,.int .u8 0,.int .u8 0,.int .u8 0] 47)=w0 from hw0]
 refine (HB.out).mono ?_
 rintro e w1 ⟨rfl,h1⟩
 go_wp2_with fail
 refine (HT.out w1 h1.atc).mono ?_
 rintro e w2 ⟨rfl,rfl⟩
 have h1':=(RH.ofRD hn hlt (hw0▸h1)).setR R
 clear h1
 generalize w1.setCell r (.string R)=w2 at *
 have c1:=h1'.e
 have c2:=h1'.ef
 have h2:=h1'.setE 0
 have c3:=h2.e
 have c4:=h2.ef
 have r2:=h2.row
 have h3:=h2.setRow C
 have r3:=h3.row
 have h4:=h3.setRow C
 have c5:=h4.e
 have c6:=h4.ef
 have h5:=h4.setE 0
 have CR:=CPY.out _ r2
 go_wp2_with (first
  | (at_builtin;(refine Go.Proofs.wpList_copy_runI _ ?_ (.tmp 16) (.tmp 17) 55 9 ?_ (.slice (some ⟨n,0,none⟩) 32 32) (.string T) ?_ ?_ (CR _) ?_;rfl;rfl;rfl;rfl))
  | (refine wpList_load_row (x:=.tmp 2) (ty:=47) (g:=n) (cs:=C) (t:=47) (fr:=(0,0)) ?_ ?_ ?_ _ r3 Tryz.underlying47 rfl i33 ?_;rfl;rfl;rfl)
  | (refine wpList_store_row (x:=.tmp 2) (y:=.tmp 19) (cells:=C) (old:=C) (t:=47) (ty:=47) (g:=n) ?_ ?_ ?_ ?_ r3 i33 rfl hCo ?_;rfl;rfl;rfl;rfl))
 generalize (((w2.setCell ⟨n+1,0,none⟩ (.int .i64 0)).setRow n C).setRow n C).setCell ⟨n+1,0,none⟩ (.int .i64 0)=w3 at *
 refine leaves_cons (f:=202) (args:=#[.pointer (some ⟨n+1+1+1,0,none⟩),.pointer (some ⟨n+1+1+1+1,0,none⟩),.pointer (some ⟨n+1+1,0,none⟩)]) (by simp) (by simp [go_sem]) ?_
 refine (back1_rh0 .returning h5).mono ?_
 rintro e u' w4 ⟨rfl,rfl,h6⟩
 have c7:=h6.e
 have hload:=run_loadVar_row (P:=Tryz.prog) w4 n 47 47 C (0,0) _ h6.row Tryz.underlying47 rfl i33
 have hloadE:(loadVar 26 ⟨n+1,0,none⟩).run Tryz.prog w4=.ok (.int .i64 0) w4:=by simp [go_sem,c7]
 simp [Leaves,settle,results,Tryz.results237,asAddr,hload,hloadE]
 rw [hn]
 exact h6.below
def rhH (s:ByteArray):List Int:=if s.size<32 then List.replicate 32 0 else bytesOf (s.extract 0 32)
def rhE (s:ByteArray):Int:=if s.size<32 then 10 else 0
def rhS (s:ByteArray):ByteArray:=if s.size<32 then s else s.extract 32 s.size
theorem rdhash_any (r:Addr) (s:ByteArray) (w:World) (h:At w r s) (hs:s.size≤4611686018427387904) :
 Calls Tryz.prog 237 #[.pointer (some r)] w fun e w'=>e=.returned (.tuple #[hashV (rhH s),.int .i64 (rhE s)])∧Below w.heap.size (w.setCell r (.string (rhS s))) w':=by
 unfold rhH rhE rhS
 by_cases h1:s.size<32
 · rw [if_pos h1,if_pos h1,if_pos h1];exact rdhash_short r s w h h1
 · rw [if_neg h1,if_neg h1,if_neg h1];exact rdhash_ok r s w h hs (by omega)
set_option linter.unusedVariables false
theorem mod_mul_div {n P Q:Int} (hp:0<P):n%(P*Q)/P=n/P%Q:=by
 have h1:n%(P*Q)=n+P*(-(Q*(n/P/Q))):=by
  rw [Int.emod_def,Int.ediv_ediv_of_nonneg (Int.le_of_lt hp),Int.mul_neg,← Int.mul_assoc];omega
 rw [h1,Int.add_mul_ediv_left _ _ (Int.ne_of_gt hp),Int.emod_def];omega
def u8s (l:List Int):List UInt8:=l.map fun n=>UInt8.ofNat n.toNat
open Go.RowKit
set_option linter.unusedVariables false
theorem nil_append (s:ByteArray):(⟨#[]⟩:ByteArray)++s=s:=by apply ByteArray.ext;simp
set_option linter.unusedVariables false
theorem mod_split (N:Int) (k:Nat):N%256 ^ (k+1)=N/256 ^ k%256*256 ^ k+N%256 ^ k:=by
 have hp:(0:Int)<256 ^ k:=Int.pow_pos (by decide)
 have h1:N%(256 ^ k*256)/256 ^ k=N/256 ^ k%256:=mod_mul_div hp
 have h2:N%(256 ^ k*256)%256 ^ k=N%256 ^ k:=Int.emod_emod_of_dvd N ⟨256,rfl⟩
 have h3:=Int.mul_ediv_add_emod (N%(256 ^ k*256)) (256 ^ k)
 rw [Int.pow_succ]
 rw [h1,h2] at h3
 rw [←h3,Int.mul_comm (256 ^ k)]
theorem val_low_acc (N:Int):∀ (k:Nat) (a:Int),(u8s (low N k)).foldl (fun a b=>a*256+(b.toNat:Int)) a=a*256 ^ k+N%256 ^ k
 | 0,a=>by simp [low,u8s]
 | k+1,a=>by
   have h0:=Int.emod_nonneg (N/256 ^ k) (b:=256) (by decide)
   have h1:=Int.emod_lt_of_pos (N/256 ^ k) (b:=256) (by decide)
   have hx:((UInt8.ofNat (N/256 ^ k%256).toNat).toNat:Int)=N/256 ^ k%256:=by rw [UInt8.toNat_ofNat'];omega
   show (u8s (low N k)).foldl (fun a b=>a*256+(b.toNat:Int)) (a*256+((UInt8.ofNat (N/256 ^ k%256).toNat).toNat:Int))=_
   rw [val_low_acc N k,hx,mod_split,Int.add_mul,Int.pow_succ,Int.mul_comm (256 ^ k) 256,← Int.mul_assoc,Int.add_assoc]
theorem val_low (N:Int) (k:Nat) (h0:0≤N) (h1:N<256 ^ k):val (u8s (low N k))=N:=by
 unfold val;rw [val_low_acc,Int.emod_eq_of_lt h0 h1];omega
theorem str_list (l:List Int):(strOfNums l).data.toList=u8s l:=by simp [strOfNums,u8s]
theorem back_of (A R:ByteArray):(A++R).extract A.size (A.size+R.size)=R:=by
 apply ByteArray.ext;apply Array.ext'
 simp
 rw [List.drop_eq_nil_of_le (by simp),List.take_nil,List.nil_append]
 exact List.take_of_length_le (by simp)
theorem rdN_low (N:Int) (k:Nat) (R:ByteArray) (h0:0≤N) (h1:N<256 ^ k) (k1:1≤k) (k8:k≤8) :
 rdN (strOfNums (low N k)++R) k=N∧rdE (strOfNums (low N k)++R) k=0∧rdS (strOfNums (low N k)++R) k=R:=by
 have hs:(strOfNums (low N k)).size=k:=by rw [strOfNums_size,low_len]
 have hsz:(strOfNums (low N k)++R).size=k+R.size:=by rw [ByteArray.size_append,hs]
 refine ⟨?_,?_,?_⟩
 · unfold rdN
   rw [if_neg (by omega),Int.toNat_natCast]
   have e:(strOfNums (low N k)++R).data.toList.take k=u8s (low N k):=by
    rw [ByteArray.data_append,Array.toList_append,str_list,List.take_append_of_le_length (by simp [u8s,low_len])]
    exact List.take_of_length_le (by simp [u8s,low_len])
   rw [e,val_low N k h0 h1]
 · unfold rdE
   rw [if_neg (by omega),if_neg (by omega)]
 · unfold rdS
   rw [if_neg (by omega),Int.toNat_natCast,hsz]
   have e:=back_of (strOfNums (low N k)) R
   rw [hs] at e
   exact e
theorem rh_hash (hl:List Int) (h:hl.length=32) (hin:∀ n∈hl,0≤n∧n≤255) :
 rhH (strOfNums hl)=hl∧rhE (strOfNums hl)=0∧rhS (strOfNums hl)=⟨#[]⟩:=by
 have e:(strOfNums hl).size=32:=by rw [strOfNums_size,h]
 refine ⟨?_,?_,?_⟩
 · unfold rhH;rw [if_neg (by omega)]
   have:(strOfNums hl).extract 0 32=strOfNums hl:=by
    have:=extract_all (strOfNums hl);rwa [e] at this
   rw [this]
   unfold bytesOf
   rw [str_list,u8s,List.map_map]
   conv=>rhs;rw [←List.map_id hl]
   apply List.map_congr_left
   intro n hn
   have:=hin n hn
   simp [UInt8.toNat_ofNat']
   omega
 · unfold rhE;rw [if_neg (by omega)]
 · unfold rhS;rw [if_neg (by omega),e];apply ByteArray.ext;simp
end Go.Proofs.YtdebnbgjgkbmaaaGreatDoor.Oc
namespace Go.Proofs.YtdebnbgjgkbmaaaGreatDoor
open Go.RowKit
set_option linter.unusedVariables false
def spl:Array Value→Nat→List Value→Array Value
 | cs,_,[]=>cs
 | cs,o,v::r=>spl (cs.setIfInBounds o v) (o+1) r
theorem spl_get:∀ (vs:List Value) (cs:Array Value) (o i:Nat),o+vs.length≤cs.size→(spl cs o vs)[i]?=if o≤i∧i<o+vs.length then vs[i-o]? else cs[i]?
 | [],cs,o,i,_=>by
   show cs[i]?=_
   rw [if_neg (by simp)]
 | v::r,cs,o,i,h=>by
   have hl:(v::r).length=r.length+1:=rfl
   rw [hl] at h
   show (spl (cs.setIfInBounds o v) (o+1) r)[i]?=_
   rw [spl_get r _ _ i (by simp;omega),hl]
   by_cases h1:o+1≤i∧i<o+1+r.length
   · rw [if_pos h1,if_pos (by omega),show i-o=(i-(o+1))+1 by omega,List.getElem?_cons_succ]
   · rw [if_neg h1]
     by_cases h2:i=o
     · subst h2
       rw [if_pos (by omega),Nat.sub_self,List.getElem?_cons_zero,Array.getElem?_setIfInBounds_self_of_lt (by omega)]
     · rw [if_neg (by omega),Array.getElem?_setIfInBounds_ne (fun e=>h2 e.symm)]
theorem row_setCells {g:Nat} {t:TypeId}:∀ (vs:List Value) (cs:Array Value) (o:Nat) (w:World),M.RowAt w g t cs→M.RowAt (w.setCells g o vs) g t (spl cs o vs)
 | [],_,_,_,h=>h
 | v::r,cs,o,w,h=>by
   have:=M.RowAt.set h o v
   rw [World.setCells]
   exact row_setCells r _ _ _ this
theorem row_setCells_far {g k:Nat} {t:TypeId} {cs:Array Value} (hk:g≠k):∀ (vs:List Value) (o:Nat) (w:World),M.RowAt w k t cs→M.RowAt (w.setCells g o vs) k t cs
 | [],_,_,h=>h
 | v::r,o,w,h=>by
   rw [World.setCells]
   exact row_setCells_far hk r _ _ (M.RowAt.far h (p:=⟨g,o,none⟩) hk v)
theorem size_setCells {g:Nat}:∀ (vs:List Value) (o:Nat) (w:World),(w.setCells g o vs).heap.size=w.heap.size
 | [],_,_=>rfl
 | v::r,o,w=>by rw [World.setCells,size_setCells r];simp [World.setCell]
theorem but_setCells {g:Nat} {w:World}:∀ (vs:List Value) (o:Nat) (v:World),M.But g w v→M.But g w (v.setCells g o vs)
 | [],_,_,h=>h
 | u::r,o,v,h=>by
   rw [World.setCells]
   exact but_setCells r _ _ (h.set (p:=⟨g,o,none⟩) (.inl rfl) u)
section
variable {w v v':World} {B:Nat} {tB t:TypeId} {C Z:Array Value} {L L':List (Nat × TypeId × Array Value)} {g:Nat}
end
section
variable {w v v':World} {B:Nat} {tB t:TypeId} {C Z:Array Value} {L:List (Nat × TypeId × Array Value)} {g:Nat}
end
end Go.Proofs.YtdebnbgjgkbmaaaGreatDoor
namespace Go.Proofs.YtdebnbgjgkbmaaaGreatDoor.Wi
open Go.Proofs.YtdebnbgjgkbmaaaGreatDoor.Oc
open Go.RowKit
set_option linter.unusedVariables false
structure Msg where
 kind:Int
 chan:Int
 id:Int
 amount:Int
 hash:List Int
 expiry:Int
 number:Int
def Msg.cells (m:Msg):List Value:=.int .i64 m.kind::.int .u32 m.chan::.int .u64 m.id::.int .u64 m.amount::(ints m.hash++[.int .i64 m.expiry,.int .i64 m.number])
def Msg.row (m:Msg):Array Value:=m.cells.toArray
structure Msg.ok (m:Msg):Prop where
 h32:m.hash.length=32
 hb:∀ x∈m.hash,0≤x∧x≤255
 k0:-9223372036854775808≤m.kind
 k1:m.kind≤9223372036854775807
 c0:0≤m.chan
 c1:m.chan≤4294967295
 i0:0≤m.id
 i1:m.id≤18446744073709551615
 a0:0≤m.amount
 a1:m.amount≤18446744073709551615
 e0:-9223372036854775808≤m.expiry
 e1:m.expiry≤9223372036854775807
 n0:-9223372036854775808≤m.number
 n1:m.number≤9223372036854775807
def z32:List Int:=List.replicate 32 0
def Msg.none (k:Int):Msg:=⟨k,0,0,0,z32,0,0⟩
theorem ints_len' (l:List Int):(ints l).length=l.length:=by simp [ints]
section
variable {m:Msg}
theorem Msg.len (h:m.hash.length=32):m.cells.length=38:=by simp [Msg.cells,ints_len',h]
theorem Msg.size (h:m.hash.length=32):m.row.size=38:=by rw [Msg.row,List.size_toArray,Msg.len h]
theorem Msg.g0:m.row[0]?=some (.int .i64 m.kind):=by simp [Msg.row,Msg.cells]
theorem Msg.g1:m.row[1]?=some (.int .u32 m.chan):=by simp [Msg.row,Msg.cells]
theorem Msg.g2:m.row[2]?=some (.int .u64 m.id):=by simp [Msg.row,Msg.cells]
theorem Msg.g3:m.row[3]?=some (.int .u64 m.amount):=by simp [Msg.row,Msg.cells]
theorem Msg.gh (h:m.hash.length=32) {j:Nat} (hj:j<32):m.row[4+j]?=(ints m.hash)[j]?:=by
 rw [Msg.row,List.getElem?_toArray,Msg.cells,show 4+j=j+1+1+1+1 by omega]
 simp only [List.getElem?_cons_succ]
 rw [List.getElem?_append_left (by rw [ints_len',h];exact hj)]
theorem Msg.g36 (h:m.hash.length=32):m.row[36]?=some (.int .i64 m.expiry):=by
 rw [Msg.row,List.getElem?_toArray,Msg.cells]
 simp only [List.getElem?_cons_succ]
 rw [List.getElem?_append_right (by rw [ints_len',h];decide),ints_len',h];rfl
theorem Msg.g37 (h:m.hash.length=32):m.row[37]?=some (.int .i64 m.number):=by
 rw [Msg.row,List.getElem?_toArray,Msg.cells]
 simp only [List.getElem?_cons_succ]
 rw [List.getElem?_append_right (by rw [ints_len',h];decide),ints_len',h];rfl
theorem Msg.s1 (v:Int):m.row.setIfInBounds 1 (.int .u32 v)={ m with chan:=v }.row:=by simp [Msg.row,Msg.cells]
theorem Msg.s2 (v:Int):m.row.setIfInBounds 2 (.int .u64 v)={ m with id:=v }.row:=by simp [Msg.row,Msg.cells]
theorem Msg.s3 (v:Int):m.row.setIfInBounds 3 (.int .u64 v)={ m with amount:=v }.row:=by simp [Msg.row,Msg.cells]
theorem Msg.s0 (v:Int):m.row.setIfInBounds 0 (.int .i64 v)={ m with kind:=v }.row:=by simp [Msg.row,Msg.cells]
theorem Msg.s36 (h:m.hash.length=32) (v:Int):m.row.setIfInBounds 36 (.int .i64 v)={ m with expiry:=v }.row:=by
 have hl:(ints m.hash).length=32:=by rw [ints_len',h]
 simp only [Msg.row,Msg.cells,List.setIfInBounds_toArray,List.set_cons_succ]
 rw [List.set_append_right _ _ (by rw [hl];decide),hl];rfl
theorem Msg.s37 (h:m.hash.length=32) (v:Int):m.row.setIfInBounds 37 (.int .i64 v)={ m with number:=v }.row:=by
 have hl:(ints m.hash).length=32:=by rw [ints_len',h]
 simp only [Msg.row,Msg.cells,List.setIfInBounds_toArray,List.set_cons_succ]
 rw [List.set_append_right _ _ (by rw [hl];decide),hl];rfl
theorem Msg.sh (h:m.hash.length=32) {l:List Int} (hl:l.length=32):spl m.row 4 (ints l)={ m with hash:=l }.row:=by
 apply Array.ext_getElem?
 intro i
 rw [spl_get _ _ _ _ (by rw [ints_len',hl,Msg.size h];decide),ints_len',hl]
 by_cases hi:4≤i∧i<4+32
 · rw [if_pos hi]
   obtain ⟨j,rfl⟩:∃ j,i=4+j:=⟨i-4,by omega⟩
   rw [Msg.gh (m:={ m with hash:=l }) hl (by omega),show 4+j-4=j by omega]
 · rw [if_neg hi]
   by_cases h4:i<4
   · match i,h4 with
     | 0,_=>rw [Msg.g0,Msg.g0]
     | 1,_=>rw [Msg.g1,Msg.g1]
     | 2,_=>rw [Msg.g2,Msg.g2]
     | 3,_=>rw [Msg.g3,Msg.g3]
   · by_cases h36:i=36
     · subst h36;rw [Msg.g36 h,Msg.g36 (m:={ m with hash:=l }) hl]
     · by_cases h37:i=37
       · subst h37;rw [Msg.g37 h,Msg.g37 (m:={ m with hash:=l }) hl]
       · rw [Array.getElem?_eq_none (by rw [Msg.size h];omega),Array.getElem?_eq_none (by rw [Msg.size (m:={ m with hash:=l }) hl];omega)]
theorem Msg.one:m.row.all (·.oneCell')=true:=by
 refine Array.all_eq_true_iff_forall_mem.2 fun v hv=>?_
 simp only [Msg.row,Msg.cells,List.mem_toArray,List.mem_cons,List.mem_append,ints,List.mem_map,List.not_mem_nil,or_false] at hv
 rcases hv with rfl | rfl | rfl | rfl | ⟨_,_,rfl⟩ | rfl | rfl<;>rfl
theorem Msg.info (h:m.hash.length=32):(Tryz.prog.info? 59).map (·.size)=some m.row.size:=by rw [Msg.size h];kernel_rfl
theorem Msg.range {w:World} {b:Nat} {t:TypeId} (hr:M.RowAt w b t m.row) (h:m.hash.length=32):w.rangeAt b 4 (ints m.hash):=fun j v hv=>by
 have hj:j<32:=by have:=(List.getElem?_eq_some_iff.1 hv).1;rwa [ints_len',h] at this
 rw [hr.cell,Msg.gh h hj];exact hv
theorem Msg.there {w:World} {b:Nat} {t:TypeId} (hr:M.RowAt w b t m.row) (h:m.hash.length=32):w.there b 4 32:=fun i hi=>by
 have:w.cell? ⟨b,4+i,Option.none⟩=some (.int .u8 (m.hash[i]'(by omega))):=by
  rw [hr.cell,Msg.gh h hi];simp [ints,List.getElem?_eq_getElem (show i<m.hash.length by omega)]
 exact ⟨by rw [this];rfl,hr.frozen _⟩
end
inductive Fld where
 | chan | id | amount | hash | expiry | number
def fieldsOf (k:Int):Option (List Fld):=
 if k=1 then some [.chan,.amount] else if k=2 then some [.chan] else if k=8 then some [.chan] else if k=3 then some [.chan,.id,.amount,.hash,.expiry]
 else if k=4 then some [.chan,.id,.hash] else if k=5 then some [.chan,.id,.number] else if k=6 then some [.chan,.number,.hash] else if k=7 then some [.chan,.number,.hash]
 else if k=9 then some [.chan,.number,.id] else none
def Msg.zero (m:Msg):Fld→Msg
 | .chan=>{ m with chan:=0 }
 | .id=>{ m with id:=0 }
 | .amount=>{ m with amount:=0 }
 | .hash=>{ m with hash:=z32 }
 | .expiry=>{ m with expiry:=0 }
 | .number=>{ m with number:=0 }
theorem Msg.zero32 {m:Msg} (h:m.hash.length=32) (f:Fld):(m.zero f).hash.length=32:=by
 cases f<;>first | exact h | rfl
def FV (lo:Nat) (W:World):Fld→Value→Prop
 | .hash,v=>v=.func (.func 195) #[] #[]
 | .chan,v=>∃ a b,v=.func (.func 306) #[] #[.pointer (some ⟨a,0,Option.none⟩),.pointer (some ⟨b,0,Option.none⟩)]∧lo≤a∧lo≤b∧M.RowAt W a 379 #[.func (.func 268) #[] #[]]∧M.RowAt W b 3 #[.int .i64 4]
 | .id,v=>∃ a b,v=.func (.func 265) #[] #[.pointer (some ⟨a,0,Option.none⟩),.pointer (some ⟨b,0,Option.none⟩)]∧lo≤a∧lo≤b∧M.RowAt W a 315 #[.func (.func 189) #[] #[]]∧M.RowAt W b 3 #[.int .i64 8]
 | .amount,v=>∃ a b,v=.func (.func 265) #[] #[.pointer (some ⟨a,0,Option.none⟩),.pointer (some ⟨b,0,Option.none⟩)]∧lo≤a∧lo≤b∧M.RowAt W a 315 #[.func (.func 190) #[] #[]]∧M.RowAt W b 3 #[.int .i64 8]
 | .expiry,v=>∃ a b,v=.func (.func 266) #[] #[.pointer (some ⟨a,0,Option.none⟩),.pointer (some ⟨b,0,Option.none⟩)]∧lo≤a∧lo≤b∧M.RowAt W a 318 #[.func (.func 192) #[] #[]]∧M.RowAt W b 3 #[.int .i64 4]
 | .number,v=>∃ a b,v=.func (.func 266) #[] #[.pointer (some ⟨a,0,Option.none⟩),.pointer (some ⟨b,0,Option.none⟩)]∧lo≤a∧lo≤b∧M.RowAt W a 318 #[.func (.func 193) #[] #[]]∧M.RowAt W b 3 #[.int .i64 2]
def okT (t:Nat):Bool:=[3,312,315,318,379,212,26,320].contains t
def Kp (lo:Nat) (w w':World):Prop:=∀ g t C,okT t=true→lo≤g→M.RowAt w g t C→M.RowAt w' g t C
theorem Kp.refl (lo:Nat) (w:World):Kp lo w w:=fun _ _ _ _ _ h=>h
theorem Kp.trans {lo:Nat} {w w' w'':World} (h:Kp lo w w') (h':Kp lo w' w''):Kp lo w w'':=fun g t C ht hg hr=>h' g t C ht hg (h g t C ht hg hr)
theorem Kp.of_but {lo b:Nat} {w w':World} (h:M.But b w w') (hb:b<lo):Kp lo w w':=fun g t C _ hg hr=>h.row hr (by omega)
theorem Kp.of_butT {lo b:Nat} {w w':World} {tb:TypeId} {D:Array Value} (h:M.But b w w') (hb:M.RowAt w b tb D) (ht:okT tb=false):Kp lo w w':=fun g t C hT _ hr=>h.row hr (fun e=>by
 subst e
 have e2:=Option.some.inj (Eq.trans (Eq.symm hr) hb)
 have e3:t=tb:=by injection e2
 rw [e3,ht] at hT;cases hT)
theorem Kp.of_below {lo:Nat} {w w':World} (h:Below w.heap.size w w'):Kp lo w w':=fun g t C _ hg hr=>hr.call h
theorem FV.kept {lo:Nat} {W W':World} {f:Fld} {v:Value} (h:FV lo W f v) (hk:Kp lo W W'):FV lo W' f v:=by
 cases f
 all_goals first
  | exact h
  | (obtain ⟨a,b,h1,h2,h3,h4,h5⟩:=h;exact ⟨a,b,h1,h2,h3,hk _ _ _ rfl h2 h4,hk _ _ _ rfl h3 h5⟩)
def FL (lo:Nat) (W:World) (v:Value) (l:List Fld):Prop:=
 ∃ (g cap:Nat) (C:Array Value),v=.slice (some ⟨g,0,Option.none⟩) l.length cap∧lo≤g∧M.RowAt W g 312 C∧∀ (i:Nat) (f:Fld),l[i]?=some f→∃ u,C[i]?=some u∧FV lo W f u
theorem FL.kept {lo:Nat} {W W':World} {v:Value} {l:List Fld} (h:FL lo W v l) (hk:Kp lo W W'):FL lo W' v l:=by
 obtain ⟨g,cap,C,h1,h2,h3,h4⟩:=h
 exact ⟨g,cap,C,h1,h2,hk _ _ _ rfl h2 h3,fun i f hf=>by obtain ⟨u,hu,hv⟩:=h4 i f hf;exact ⟨u,hu,hv.kept hk⟩⟩
theorem FV.mono {lo lo':Nat} {W:World} {f:Fld} {v:Value} (h:FV lo W f v) (hl:lo'≤lo):FV lo' W f v:=by
 cases f
 all_goals first
  | exact h
  | (obtain ⟨a,b,h1,h2,h3,h4,h5⟩:=h;exact ⟨a,b,h1,by omega,by omega,h4,h5⟩)
theorem FL.mono {lo lo':Nat} {W:World} {v:Value} {l:List Fld} (h:FL lo W v l) (hl:lo'≤lo):FL lo' W v l:=by
 obtain ⟨g,cap,C,h1,h2,h3,h4⟩:=h
 exact ⟨g,cap,C,h1,by omega,h3,fun i f hf=>by obtain ⟨u,hu,hv⟩:=h4 i f hf;exact ⟨u,hu,hv.mono hl⟩⟩
end Go.Proofs.YtdebnbgjgkbmaaaGreatDoor.Wi
namespace Go.Proofs.YtdebnbgjgkbmaaaGreatDoor.Wi
open Go.Proofs.YtdebnbgjgkbmaaaGreatDoor.Oc
open Go.RowKit
set_option linter.unusedVariables false
theorem mkf (fn:Fn) (first cap:Array Value) (w:World):(Instr.makeFunc fn first cap).run Tryz.prog w=.ok (.func fn first cap) w:=rfl
theorem num57 (wd:Int) (fo:FuncId) (w:World):Calls Tryz.prog 188 #[.int .i64 wd,.func (.func fo) #[] #[]] w fun e w'=>e=.returned (Value.func (Fn.func 265) #[] #[.pointer (some ⟨w.heap.size+1,0,none⟩),.pointer (some ⟨w.heap.size,0,none⟩)])∧w'=(w.alloc (.cells #[.int .i64 wd] 3)).alloc (.cells #[.func (.func fo) #[] #[]] 315):=by
 have hmf:=mkf
 go_enter Tryz.func188,Tryz.ntmps188
 go_wp2
 go_ret
 exact ⟨rfl,rfl⟩
theorem num60 (wd:Int) (fo:FuncId) (w:World):Calls Tryz.prog 191 #[.int .i64 wd,.func (.func fo) #[] #[]] w fun e w'=>e=.returned (Value.func (Fn.func 266) #[] #[.pointer (some ⟨w.heap.size+1,0,none⟩),.pointer (some ⟨w.heap.size,0,none⟩)])∧w'=(w.alloc (.cells #[.int .i64 wd] 3)).alloc (.cells #[.func (.func fo) #[] #[]] 318):=by
 have hmf:=mkf
 go_enter Tryz.func191,Tryz.ntmps191
 go_wp2
 go_ret
 exact ⟨rfl,rfl⟩
theorem num68 (wd:Int) (fo:FuncId) (w:World):Calls Tryz.prog 267 #[.int .i64 wd,.func (.func fo) #[] #[]] w fun e w'=>e=.returned (Value.func (Fn.func 306) #[] #[.pointer (some ⟨w.heap.size+1,0,none⟩),.pointer (some ⟨w.heap.size,0,none⟩)])∧w'=(w.alloc (.cells #[.int .i64 wd] 3)).alloc (.cells #[.func (.func fo) #[] #[]] 379):=by
 have hmf:=mkf
 go_enter Tryz.func267,Tryz.ntmps267
 go_wp2
 go_ret
 exact ⟨rfl,rfl⟩
theorem info94:(Tryz.prog.info? 312).map (fun i=>(i.zero,i.size,i.bytes))=some (some Value.nilFunc,1,8):=by kernel_rfl
def FR (lo:Nat) (W:World) (v:Value) (l:List Fld) (C:Array Value):Prop:=
 (l=[]∧v=.slice none 0 0)∨∃ g,v=.slice (some ⟨g,0,none⟩) l.length l.length∧M.RowAt W g 312 C∧C.size=l.length∧l≠[]∧(∀ u∈C.toList,u.oneCell'=true)∧∀ (i:Nat) (f:Fld),l[i]?=some f→∃ u,C[i]?=some u∧FV lo W f u
set_option maxRecDepth 100000 in
set_option maxHeartbeats 2000000 in
theorem list_any {lo:Nat} {w:World} {v:Value} {l:List Fld} {C:Array Value} (h:FR lo w v l C) (hlo:lo≤w.heap.size) (h8:l.length≤8) :
 Calls Tryz.prog 194 #[v] w fun e w'=>∃ v',e=.returned (.tuple #[v',.bool true])∧FL lo w' v' (.chan::l)∧Below w.heap.size w w':=by
 obtain ⟨n,hn⟩:∃ n,w.heap.size=n:=⟨_,rfl⟩
 have kb:=((KB.start w).new 3 #[.int .i64 4]).new 379 #[.func (.func 268) #[] #[]]
 have k3:=kb.new 312 #[(Value.func (Fn.func 306) #[] #[.pointer (some ⟨n+1,0,none⟩),.pointer (some ⟨n,0,none⟩)])]
 rw [World.size_alloc,World.size_alloc,hn] at k3
 rw [World.size_alloc,hn] at kb
 have nm:=num68 4 268 w
 rw [hn] at nm
 obtain ⟨V,hV⟩:∃ V,(w.alloc (.cells #[.int .i64 4] 3)).alloc (.cells #[.func (.func 268) #[] #[]] 379)=V:=⟨_,rfl⟩
 have sV:V.heap.size=n+2:=by rw [←hV];simp [hn]
 rw [hV] at nm k3 kb
 obtain ⟨V2,hV2⟩:∃ V2,V.alloc (.cells #[(Value.func (Fn.func 306) #[] #[.pointer (some ⟨n+1,0,none⟩),.pointer (some ⟨n,0,none⟩)])] 312)=V2:=⟨_,rfl⟩
 rw [hV2] at k3
 have sV2:V2.heap.size=n+3:=by rw [←hV2];simp [sV]
 have r0:M.RowAt V2 (n+1+1) 312 #[(Value.func (Fn.func 306) #[] #[.pointer (some ⟨n+1,0,none⟩),.pointer (some ⟨n,0,none⟩)])]:=k3.row _ _ _ (by simp)
 have rw1:M.RowAt V2 n 3 #[.int .i64 4]:=k3.row _ _ _ (by simp)
 have rw2:M.RowAt V2 (n+1) 379 #[.func (.func 268) #[] #[]]:=k3.row _ _ _ (by simp)
 have own0:V2.ownsRow (n+2) 312 1 (.slice (some ⟨n+2,0,none⟩) 1 1) 1 [(Value.func (Fn.func 306) #[] #[.pointer (some ⟨n+1,0,none⟩),.pointer (some ⟨n,0,none⟩)])]:=⟨rfl,.inr ⟨n+2,1,_,rfl,Nat.le_refl _,r0,Nat.le_refl _,by unfold maxLen;omega,rfl,rfl⟩⟩
 have b2:Below n w V2:=hn▸k3.below
 have key:∃ v6 W,((v=.slice none 0 0∧v6=.slice (some ⟨n+2,0,none⟩) 1 1∧W=V2)∨(∃ g,v=.slice (some ⟨g,0,none⟩) l.length l.length∧(Builtin.append_ #[202,202] 202 #[.slice (some ⟨n+2,0,none⟩) 1 1,v]).run Tryz.prog V2=.ok v6 W))∧FL lo W v6 (.chan::l)∧Below n w W:=by
  rcases h with ⟨rfl,rfl⟩ | ⟨g,rfl,hr,hs,hne,h1,hf⟩
  · refine ⟨_,_,.inl ⟨rfl,rfl,rfl⟩,⟨n+2,1,_,rfl,by omega,r0,fun i f hi=>?_⟩,b2⟩
    match i,hi with
    | 0,hi=>
      obtain rfl:Fld.chan=f:=by simpa using hi
      exact ⟨_,rfl,n+1,n,rfl,by omega,by omega,rw2,rw1⟩
  · obtain ⟨i0,hi,hz,hsz,hby⟩:=info_parts info94
    have hg:g<n:=hn▸hr.lt
    have hrV:M.RowAt V2 g 312 C:=hr.below b2 hg
    obtain ⟨v6,W,hrun,hown,hgr,_⟩:=run_append_own (P:=Tryz.prog) V2 (n+2) 202 202 312 i0 .nilFunc 1 8 Tryz.underlying202 hi hz hsz hby rfl (by decide) _ 1 _ own0 ⟨g,0,none⟩ l.length l.length C.toList (by simp [hs]) (fun j u hu=>by
     rw [Addr.add_mid,Nat.zero_add,hrV.cell];simpa using hu) h1 (by unfold maxLen;omega) (by omega) (by omega)
    have bW:Below n w W:=b2.trans ⟨hgr.os,hgr.tape,hgr.output,hgr.size,fun k hk=>hgr.block k (by omega) (by simp [Value.ownBlock];omega)⟩
    have kpW:∀ {k t D},k≠n+2→M.RowAt V2 k t D→M.RowAt W k t D:=fun {k t D} hk hr=>by
     have:=hr.lt
     unfold M.RowAt;rw [hgr.block k this (by simp [Value.ownBlock];omega)];exact hr
    refine ⟨v6,W,.inr ⟨g,rfl,hrun⟩,?_,bW⟩
    rcases hown.2 with ⟨_,h0⟩ | ⟨g6,cap,cur,rfl,hlo6,hrow6,_⟩
    · omega
    · refine ⟨g6,cap,cur,by rw [List.length_cons,Nat.add_comm],by omega,hrow6,fun i f hi=>?_⟩
      have hc:=fun j (hj:j<(1+l.length)*1)=>hown.cellAt j (by simpa using hj)
      match i,hi with
      | 0,hi=>
        obtain rfl:Fld.chan=f:=by simpa using hi
        refine ⟨(Value.func (Fn.func 306) #[] #[.pointer (some ⟨n+1,0,none⟩),.pointer (some ⟨n,0,none⟩)]),?_,n+1,n,rfl,by omega,by omega,kpW (by omega) rw2,kpW (by omega) rw1⟩
        have:=hc 0 (by omega)
        rw [M.RowAt.cell hrow6] at this
        rw [this];rfl
      | i+1,hi=>
        have hi':l[i]?=some f:=by simpa using hi
        have hil:i<l.length:=(List.getElem?_eq_some_iff.1 hi').1
        obtain ⟨u,hu,hv⟩:=hf i f hi'
        refine ⟨u,?_,hv.kept (fun q t D _ hq hD=>?_)⟩
        · have:=hc (i+1) (by omega)
          rw [M.RowAt.cell hrow6] at this
          rw [this]
          simpa using hu
        · have hqn:q<n:=hn▸hD.lt
          exact hD.below bW hqn
 obtain ⟨v6,W,hcase,hfl,hbl⟩:=key
 obtain ⟨A6,c6,hv6⟩:∃ A c,v6=.slice A (l.length+1) c:=by
  obtain ⟨g,cap,C,h1,_⟩:=hfl;exact ⟨_,_,h1⟩
 have HN:=Lib.hid hn;have NM:=Lib.hid nm;have SV:=Lib.hid sV;have HV2:=Lib.hid hV2
 have FIN:=Lib.hid (And.intro hfl hbl)
 clear hn nm sV hV2 hV kb k3 r0 rw1 rw2 own0 b2 hfl hbl h sV2
 rw [HN.out]
 rcases hcase with ⟨rfl,h6,rfl⟩ | ⟨g,rfl,hrun⟩
 · rw [h6] at FIN
   clear hv6 h6
   go_enter Tryz.func194,Tryz.ntmps194
   go_wp2_with fail
   refine (NM.out).mono ?_
   rintro e w1 ⟨rfl,rfl⟩
   go_wp2_with (first | (rw [SV.out,HV2.out]) | fail)
   go_ret2
   exact ⟨_,rfl,FIN.out⟩
 · rw [hv6] at hrun FIN
   have HR:=Lib.hid hrun
   clear hrun hv6
   generalize l.length=m at *
   go_enter Tryz.func194,Tryz.ntmps194
   go_wp2_with fail
   refine (NM.out).mono ?_
   rintro e w1 ⟨rfl,rfl⟩
   go_wp2_with (first | (rw [SV.out,HV2.out]) | (at_builtin;refine Go.Lib.wpList_append_run_sl _ rfl (.tmp 7) (.tmp 8) 202 rfl _ _ rfl rfl HR.out ?_) | fail)
   go_ret2
   exact ⟨_,rfl,FIN.out⟩
end Go.Proofs.YtdebnbgjgkbmaaaGreatDoor.Wi
namespace Go.Proofs.YtdebnbgjgkbmaaaGreatDoor.Wi
open Go.Proofs.YtdebnbgjgkbmaaaGreatDoor.Oc
open Go.RowKit
set_option linter.unusedVariables false
theorem FV.one {lo:Nat} {W:World} {f:Fld} {v:Value} (h:FV lo W f v):v.oneCell'=true:=by
 cases f
 all_goals first
  | (obtain ⟨a,b,rfl,_⟩:=h;rfl)
  | (have h':v=_:=h;rw [h'];rfl)
theorem fr_of {lo:Nat} (ps:List (Fld × Value)) (hne:ps≠[]) {W:World} (hp:∀ p∈ps,FV lo W p.1 p.2) :
 FR lo (W.alloc (.cells (ps.map (·.2)).toArray 312)) (.slice (some ⟨W.heap.size,0,none⟩) ps.length ps.length) (ps.map (·.1)) (ps.map (·.2)).toArray:=by
 refine .inr ⟨W.heap.size,by simp,M.RowAt.new W 312 _,by simp,by simpa using hne,fun u hu=>?_,fun i f hi=>?_⟩
 · obtain ⟨p,hp',rfl⟩:=List.mem_map.1 (by simpa using hu:u∈ps.map (·.2))
   exact (hp p hp').one
 · rw [List.getElem?_map] at hi
   cases hpi:ps[i]? with
   | none=>rw [hpi] at hi;cases hi
   | some p=>
     rw [hpi] at hi
     obtain rfl:p.1=f:=by simpa using hi
     refine ⟨p.2,by simp [hpi],(hp p (List.mem_of_getElem? hpi)).kept (fun g t C _ _ hr=>hr.alloc _)⟩
set_option maxRecDepth 100000 in
set_option maxHeartbeats 4000000 in
theorem fields_any (k:Int) (w:World):Calls Tryz.prog 101 #[.int .i64 k] w fun e w'=>
 match fieldsOf k with
 | some l=>∃ v',e=.returned (.tuple #[v',.bool true])∧FL w.heap.size w' v' l∧Below w.heap.size w w'
 | none=>e=.returned (.tuple #[.slice none 0 0,.bool false])∧Below w.heap.size w w':=by
 obtain ⟨n,hn⟩:∃ n,w.heap.size=n:=⟨_,rfl⟩
 have n1:=num57 8 189 w
 rw [hn] at n1 ⊢
 have K0:=KB.start w
 rw [hn] at K0
 have K1:=(K0.new 3 #[.int .i64 8]).new 315 #[.func (.func 189) #[] #[]]
 rw [World.size_alloc,hn] at K1
 obtain ⟨w1,hw1⟩:∃ w1,(w.alloc (.cells #[.int .i64 8] 3)).alloc (.cells #[.func (.func 189) #[] #[]] 315)=w1:=⟨_,rfl⟩
 have s1:w1.heap.size=n+2:=by rw [←hw1];simp [hn]
 rw [hw1] at n1 K1
 have n2:=num57 8 190 w1
 rw [s1] at n2
 have K2:=(K1.new 3 #[.int .i64 8]).new 315 #[.func (.func 190) #[] #[]]
 rw [World.size_alloc,s1] at K2
 obtain ⟨w2,hw2⟩:∃ w2,(w1.alloc (.cells #[.int .i64 8] 3)).alloc (.cells #[.func (.func 190) #[] #[]] 315)=w2:=⟨_,rfl⟩
 have s2:w2.heap.size=n+4:=by rw [←hw2];simp [s1]
 rw [hw2] at n2 K2
 have n3:=num60 4 192 w2
 rw [s2] at n3
 have K3:=(K2.new 3 #[.int .i64 4]).new 318 #[.func (.func 192) #[] #[]]
 rw [World.size_alloc,s2] at K3
 obtain ⟨w3,hw3⟩:∃ w3,(w2.alloc (.cells #[.int .i64 4] 3)).alloc (.cells #[.func (.func 192) #[] #[]] 318)=w3:=⟨_,rfl⟩
 have s3:w3.heap.size=n+6:=by rw [←hw3];simp [s2]
 rw [hw3] at n3 K3
 have n4:=num60 2 193 w3
 rw [s3] at n4
 have K4:=(K3.new 3 #[.int .i64 2]).new 318 #[.func (.func 193) #[] #[]]
 rw [World.size_alloc,s3] at K4
 obtain ⟨w4,hw4⟩:∃ w4,(w3.alloc (.cells #[.int .i64 2] 3)).alloc (.cells #[.func (.func 193) #[] #[]] 318)=w4:=⟨_,rfl⟩
 have s4:w4.heap.size=n+8:=by rw [←hw4];simp [s3]
 rw [hw4] at n4 K4
 have fId:FV n w4 .id (Value.func (Fn.func 265) #[] #[.pointer (some ⟨n+1,0,none⟩),.pointer (some ⟨n,0,none⟩)]):=⟨n+1,n,rfl,by omega,by omega,K4.row _ _ _ (by simp),K4.row _ _ _ (by simp)⟩
 have fAm:FV n w4 .amount (Value.func (Fn.func 265) #[] #[.pointer (some ⟨n+2+1,0,none⟩),.pointer (some ⟨n+2,0,none⟩)]):=⟨n+2+1,n+2,rfl,by omega,by omega,K4.row _ _ _ (by simp),K4.row _ _ _ (by simp)⟩
 have fEx:FV n w4 .expiry (Value.func (Fn.func 266) #[] #[.pointer (some ⟨n+4+1,0,none⟩),.pointer (some ⟨n+4,0,none⟩)]):=⟨n+4+1,n+4,rfl,by omega,by omega,K4.row _ _ _ (by simp),K4.row _ _ _ (by simp)⟩
 have fNu:FV n w4 .number (Value.func (Fn.func 266) #[] #[.pointer (some ⟨n+6+1,0,none⟩),.pointer (some ⟨n+6,0,none⟩)]):=⟨n+6+1,n+6,rfl,by omega,by omega,K4.row _ _ _ (by simp),K4.row _ _ _ (by simp)⟩
 have fHa:FV n w4 .hash (.func (.func 195) #[] #[]):=rfl
 have bel:=K4.below
 have HN:=Lib.hid hn;have N1:=Lib.hid n1;have N2:=Lib.hid n2;have N3:=Lib.hid n3;have N4:=Lib.hid n4;have S4:=Lib.hid s4
 have BEL:=Lib.hid bel
 have FID:=Lib.hid fId;have FAM:=Lib.hid fAm;have FEX:=Lib.hid fEx;have FNU:=Lib.hid fNu;have FHA:=Lib.hid fHa
 clear n1 n2 n3 n4 K0 K1 K2 K3 K4 hw1 hw2 hw3 hw4 s1 s2 s3 s4 hn bel fId fAm fEx fNu fHa
 by_cases q1:k=1
 · subst q1
   show Calls _ _ _ _ fun e w'=>∃ v',e=.returned (.tuple #[v',.bool true])∧FL n w' v' [Fld.chan,Fld.amount]∧Below n w w'
   have fr:=fr_of (lo:=n) [(Fld.amount,(Value.func (Fn.func 265) #[] #[.pointer (some ⟨n+2+1,0,none⟩),.pointer (some ⟨n+2,0,none⟩)]))] (by simp) (W:=w4) (fun p hp=>by
    simp only [List.mem_cons,List.not_mem_nil,or_false] at hp
    rcases hp with rfl
    · exact FAM.out)
   obtain ⟨W,hW⟩:∃ W,w4.alloc (.cells #[(Value.func (Fn.func 265) #[] #[.pointer (some ⟨n+2+1,0,none⟩),.pointer (some ⟨n+2,0,none⟩)])] 312)=W:=⟨_,rfl⟩
   have bW:Below n w W:=by rw [←hW];exact BEL.out.alloc (by rw [S4.out];omega) _
   have gW:n≤W.heap.size:=by rw [←hW];have:=S4.out;simp;omega
   simp only [List.map] at fr
   rw [hW,S4.out] at fr
   have LA:=Lib.hid (list_any fr gW (by simp))
   have HW:=Lib.hid hW;have BW:=Lib.hid bW;have GW:=Lib.hid gW
   clear fr hW bW gW
   go_enter Tryz.func101,Tryz.ntmps101
   go_wp2_with fail
   refine (N1.out).mono ?_
   rintro e w1 ⟨rfl,rfl⟩
   go_wp2_with fail
   refine (N2.out).mono ?_
   rintro e w2 ⟨rfl,rfl⟩
   go_wp2_with fail
   refine (N3.out).mono ?_
   rintro e w3 ⟨rfl,rfl⟩
   go_wp2_with fail
   refine (N4.out).mono ?_
   rintro e w4 ⟨rfl,rfl⟩
   go_wp2_with (first | (rw [S4.out,HW.out]) | fail)
   refine (LA.out).mono ?_
   rintro e w5 ⟨v5,rfl,q1,q2⟩
   have FIN:=Lib.hid (And.intro q1 (BW.out.trans (q2.mono GW.out)))
   clear q1 q2
   go_wp2
   go_ret2
   exact ⟨_,rfl,FIN.out⟩
 have e1:(k==1)=false:=by simpa using q1
 by_cases q2:k=2
 · subst q2
   show Calls _ _ _ _ fun e w'=>∃ v',e=.returned (.tuple #[v',.bool true])∧FL n w' v' [Fld.chan]∧Below n w w'
   have gW:n≤w4.heap.size:=by have:=S4.out;omega
   have LA:=Lib.hid (list_any (lo:=n) (w:=w4) (l:=[]) (C:=#[]) (.inl ⟨rfl,rfl⟩) gW (by simp))
   have BW:=BEL;have GW:=Lib.hid gW
   clear gW
   go_enter Tryz.func101,Tryz.ntmps101
   go_wp2_with fail
   refine (N1.out).mono ?_
   rintro e w1 ⟨rfl,rfl⟩
   go_wp2_with fail
   refine (N2.out).mono ?_
   rintro e w2 ⟨rfl,rfl⟩
   go_wp2_with fail
   refine (N3.out).mono ?_
   rintro e w3 ⟨rfl,rfl⟩
   go_wp2_with fail
   refine (N4.out).mono ?_
   rintro e w4 ⟨rfl,rfl⟩
   go_wp2_with fail
   refine (LA.out).mono ?_
   rintro e w5 ⟨v5,rfl,q1,q2⟩
   have FIN:=Lib.hid (And.intro q1 (BW.out.trans (q2.mono GW.out)))
   clear q1 q2
   go_wp2
   go_ret2
   exact ⟨_,rfl,FIN.out⟩
 have e2:(k==2)=false:=by simpa using q2
 by_cases q8:k=8
 · subst q8
   show Calls _ _ _ _ fun e w'=>∃ v',e=.returned (.tuple #[v',.bool true])∧FL n w' v' [Fld.chan]∧Below n w w'
   have gW:n≤w4.heap.size:=by have:=S4.out;omega
   have LA:=Lib.hid (list_any (lo:=n) (w:=w4) (l:=[]) (C:=#[]) (.inl ⟨rfl,rfl⟩) gW (by simp))
   have BW:=BEL;have GW:=Lib.hid gW
   clear gW
   go_enter Tryz.func101,Tryz.ntmps101
   go_wp2_with fail
   refine (N1.out).mono ?_
   rintro e w1 ⟨rfl,rfl⟩
   go_wp2_with fail
   refine (N2.out).mono ?_
   rintro e w2 ⟨rfl,rfl⟩
   go_wp2_with fail
   refine (N3.out).mono ?_
   rintro e w3 ⟨rfl,rfl⟩
   go_wp2_with fail
   refine (N4.out).mono ?_
   rintro e w4 ⟨rfl,rfl⟩
   go_wp2_with fail
   refine (LA.out).mono ?_
   rintro e w5 ⟨v5,rfl,q1,q2⟩
   have FIN:=Lib.hid (And.intro q1 (BW.out.trans (q2.mono GW.out)))
   clear q1 q2
   go_wp2
   go_ret2
   exact ⟨_,rfl,FIN.out⟩
 have e8:(k==8)=false:=by simpa using q8
 by_cases q3:k=3
 · subst q3
   show Calls _ _ _ _ fun e w'=>∃ v',e=.returned (.tuple #[v',.bool true])∧FL n w' v' [Fld.chan,Fld.id,Fld.amount,Fld.hash,Fld.expiry]∧Below n w w'
   have fr:=fr_of (lo:=n) [(Fld.id,(Value.func (Fn.func 265) #[] #[.pointer (some ⟨n+1,0,none⟩),.pointer (some ⟨n,0,none⟩)])),(Fld.amount,(Value.func (Fn.func 265) #[] #[.pointer (some ⟨n+2+1,0,none⟩),.pointer (some ⟨n+2,0,none⟩)])),(Fld.hash,(Value.func (Fn.func 195) #[] #[])),(Fld.expiry,(Value.func (Fn.func 266) #[] #[.pointer (some ⟨n+4+1,0,none⟩),.pointer (some ⟨n+4,0,none⟩)]))] (by simp) (W:=w4) (fun p hp=>by
    simp only [List.mem_cons,List.not_mem_nil,or_false] at hp
    rcases hp with rfl | rfl | rfl | rfl
    · exact FID.out
    · exact FAM.out
    · exact FHA.out
    · exact FEX.out)
   obtain ⟨W,hW⟩:∃ W,w4.alloc (.cells #[(Value.func (Fn.func 265) #[] #[.pointer (some ⟨n+1,0,none⟩),.pointer (some ⟨n,0,none⟩)]),(Value.func (Fn.func 265) #[] #[.pointer (some ⟨n+2+1,0,none⟩),.pointer (some ⟨n+2,0,none⟩)]),(Value.func (Fn.func 195) #[] #[]),(Value.func (Fn.func 266) #[] #[.pointer (some ⟨n+4+1,0,none⟩),.pointer (some ⟨n+4,0,none⟩)])] 312)=W:=⟨_,rfl⟩
   have bW:Below n w W:=by rw [←hW];exact BEL.out.alloc (by rw [S4.out];omega) _
   have gW:n≤W.heap.size:=by rw [←hW];have:=S4.out;simp;omega
   simp only [List.map] at fr
   rw [hW,S4.out] at fr
   have LA:=Lib.hid (list_any fr gW (by simp))
   have HW:=Lib.hid hW;have BW:=Lib.hid bW;have GW:=Lib.hid gW
   clear fr hW bW gW
   go_enter Tryz.func101,Tryz.ntmps101
   go_wp2_with fail
   refine (N1.out).mono ?_
   rintro e w1 ⟨rfl,rfl⟩
   go_wp2_with fail
   refine (N2.out).mono ?_
   rintro e w2 ⟨rfl,rfl⟩
   go_wp2_with fail
   refine (N3.out).mono ?_
   rintro e w3 ⟨rfl,rfl⟩
   go_wp2_with fail
   refine (N4.out).mono ?_
   rintro e w4 ⟨rfl,rfl⟩
   go_wp2_with (first | (rw [S4.out,HW.out]) | fail)
   refine (LA.out).mono ?_
   rintro e w5 ⟨v5,rfl,q1,q2⟩
   have FIN:=Lib.hid (And.intro q1 (BW.out.trans (q2.mono GW.out)))
   clear q1 q2
   go_wp2
   go_ret2
   exact ⟨_,rfl,FIN.out⟩
 have e3:(k==3)=false:=by simpa using q3
 by_cases q4:k=4
 · subst q4
   show Calls _ _ _ _ fun e w'=>∃ v',e=.returned (.tuple #[v',.bool true])∧FL n w' v' [Fld.chan,Fld.id,Fld.hash]∧Below n w w'
   have fr:=fr_of (lo:=n) [(Fld.id,(Value.func (Fn.func 265) #[] #[.pointer (some ⟨n+1,0,none⟩),.pointer (some ⟨n,0,none⟩)])),(Fld.hash,(Value.func (Fn.func 195) #[] #[]))] (by simp) (W:=w4) (fun p hp=>by
    simp only [List.mem_cons,List.not_mem_nil,or_false] at hp
    rcases hp with rfl | rfl
    · exact FID.out
    · exact FHA.out)
   obtain ⟨W,hW⟩:∃ W,w4.alloc (.cells #[(Value.func (Fn.func 265) #[] #[.pointer (some ⟨n+1,0,none⟩),.pointer (some ⟨n,0,none⟩)]),(Value.func (Fn.func 195) #[] #[])] 312)=W:=⟨_,rfl⟩
   have bW:Below n w W:=by rw [←hW];exact BEL.out.alloc (by rw [S4.out];omega) _
   have gW:n≤W.heap.size:=by rw [←hW];have:=S4.out;simp;omega
   simp only [List.map] at fr
   rw [hW,S4.out] at fr
   have LA:=Lib.hid (list_any fr gW (by simp))
   have HW:=Lib.hid hW;have BW:=Lib.hid bW;have GW:=Lib.hid gW
   clear fr hW bW gW
   go_enter Tryz.func101,Tryz.ntmps101
   go_wp2_with fail
   refine (N1.out).mono ?_
   rintro e w1 ⟨rfl,rfl⟩
   go_wp2_with fail
   refine (N2.out).mono ?_
   rintro e w2 ⟨rfl,rfl⟩
   go_wp2_with fail
   refine (N3.out).mono ?_
   rintro e w3 ⟨rfl,rfl⟩
   go_wp2_with fail
   refine (N4.out).mono ?_
   rintro e w4 ⟨rfl,rfl⟩
   go_wp2_with (first | (rw [S4.out,HW.out]) | fail)
   refine (LA.out).mono ?_
   rintro e w5 ⟨v5,rfl,q1,q2⟩
   have FIN:=Lib.hid (And.intro q1 (BW.out.trans (q2.mono GW.out)))
   clear q1 q2
   go_wp2
   go_ret2
   exact ⟨_,rfl,FIN.out⟩
 have e4:(k==4)=false:=by simpa using q4
 by_cases q5:k=5
 · subst q5
   show Calls _ _ _ _ fun e w'=>∃ v',e=.returned (.tuple #[v',.bool true])∧FL n w' v' [Fld.chan,Fld.id,Fld.number]∧Below n w w'
   have fr:=fr_of (lo:=n) [(Fld.id,(Value.func (Fn.func 265) #[] #[.pointer (some ⟨n+1,0,none⟩),.pointer (some ⟨n,0,none⟩)])),(Fld.number,(Value.func (Fn.func 266) #[] #[.pointer (some ⟨n+6+1,0,none⟩),.pointer (some ⟨n+6,0,none⟩)]))] (by simp) (W:=w4) (fun p hp=>by
    simp only [List.mem_cons,List.not_mem_nil,or_false] at hp
    rcases hp with rfl | rfl
    · exact FID.out
    · exact FNU.out)
   obtain ⟨W,hW⟩:∃ W,w4.alloc (.cells #[(Value.func (Fn.func 265) #[] #[.pointer (some ⟨n+1,0,none⟩),.pointer (some ⟨n,0,none⟩)]),(Value.func (Fn.func 266) #[] #[.pointer (some ⟨n+6+1,0,none⟩),.pointer (some ⟨n+6,0,none⟩)])] 312)=W:=⟨_,rfl⟩
   have bW:Below n w W:=by rw [←hW];exact BEL.out.alloc (by rw [S4.out];omega) _
   have gW:n≤W.heap.size:=by rw [←hW];have:=S4.out;simp;omega
   simp only [List.map] at fr
   rw [hW,S4.out] at fr
   have LA:=Lib.hid (list_any fr gW (by simp))
   have HW:=Lib.hid hW;have BW:=Lib.hid bW;have GW:=Lib.hid gW
   clear fr hW bW gW
   go_enter Tryz.func101,Tryz.ntmps101
   go_wp2_with fail
   refine (N1.out).mono ?_
   rintro e w1 ⟨rfl,rfl⟩
   go_wp2_with fail
   refine (N2.out).mono ?_
   rintro e w2 ⟨rfl,rfl⟩
   go_wp2_with fail
   refine (N3.out).mono ?_
   rintro e w3 ⟨rfl,rfl⟩
   go_wp2_with fail
   refine (N4.out).mono ?_
   rintro e w4 ⟨rfl,rfl⟩
   go_wp2_with (first | (rw [S4.out,HW.out]) | fail)
   refine (LA.out).mono ?_
   rintro e w5 ⟨v5,rfl,q1,q2⟩
   have FIN:=Lib.hid (And.intro q1 (BW.out.trans (q2.mono GW.out)))
   clear q1 q2
   go_wp2
   go_ret2
   exact ⟨_,rfl,FIN.out⟩
 have e5:(k==5)=false:=by simpa using q5
 by_cases q6:k=6
 · subst q6
   show Calls _ _ _ _ fun e w'=>∃ v',e=.returned (.tuple #[v',.bool true])∧FL n w' v' [Fld.chan,Fld.number,Fld.hash]∧Below n w w'
   have fr:=fr_of (lo:=n) [(Fld.number,(Value.func (Fn.func 266) #[] #[.pointer (some ⟨n+6+1,0,none⟩),.pointer (some ⟨n+6,0,none⟩)])),(Fld.hash,(Value.func (Fn.func 195) #[] #[]))] (by simp) (W:=w4) (fun p hp=>by
    simp only [List.mem_cons,List.not_mem_nil,or_false] at hp
    rcases hp with rfl | rfl
    · exact FNU.out
    · exact FHA.out)
   obtain ⟨W,hW⟩:∃ W,w4.alloc (.cells #[(Value.func (Fn.func 266) #[] #[.pointer (some ⟨n+6+1,0,none⟩),.pointer (some ⟨n+6,0,none⟩)]),(Value.func (Fn.func 195) #[] #[])] 312)=W:=⟨_,rfl⟩
   have bW:Below n w W:=by rw [←hW];exact BEL.out.alloc (by rw [S4.out];omega) _
   have gW:n≤W.heap.size:=by rw [←hW];have:=S4.out;simp;omega
   simp only [List.map] at fr
   rw [hW,S4.out] at fr
   have LA:=Lib.hid (list_any fr gW (by simp))
   have HW:=Lib.hid hW;have BW:=Lib.hid bW;have GW:=Lib.hid gW
   clear fr hW bW gW
   go_enter Tryz.func101,Tryz.ntmps101
   go_wp2_with fail
   refine (N1.out).mono ?_
   rintro e w1 ⟨rfl,rfl⟩
   go_wp2_with fail
   refine (N2.out).mono ?_
   rintro e w2 ⟨rfl,rfl⟩
   go_wp2_with fail
   refine (N3.out).mono ?_
   rintro e w3 ⟨rfl,rfl⟩
   go_wp2_with fail
   refine (N4.out).mono ?_
   rintro e w4 ⟨rfl,rfl⟩
   go_wp2_with (first | (rw [S4.out,HW.out]) | fail)
   refine (LA.out).mono ?_
   rintro e w5 ⟨v5,rfl,q1,q2⟩
   have FIN:=Lib.hid (And.intro q1 (BW.out.trans (q2.mono GW.out)))
   clear q1 q2
   go_wp2
   go_ret2
   exact ⟨_,rfl,FIN.out⟩
 have e6:(k==6)=false:=by simpa using q6
 by_cases q7:k=7
 · subst q7
   show Calls _ _ _ _ fun e w'=>∃ v',e=.returned (.tuple #[v',.bool true])∧FL n w' v' [Fld.chan,Fld.number,Fld.hash]∧Below n w w'
   have fr:=fr_of (lo:=n) [(Fld.number,(Value.func (Fn.func 266) #[] #[.pointer (some ⟨n+6+1,0,none⟩),.pointer (some ⟨n+6,0,none⟩)])),(Fld.hash,(Value.func (Fn.func 195) #[] #[]))] (by simp) (W:=w4) (fun p hp=>by
    simp only [List.mem_cons,List.not_mem_nil,or_false] at hp
    rcases hp with rfl | rfl
    · exact FNU.out
    · exact FHA.out)
   obtain ⟨W,hW⟩:∃ W,w4.alloc (.cells #[(Value.func (Fn.func 266) #[] #[.pointer (some ⟨n+6+1,0,none⟩),.pointer (some ⟨n+6,0,none⟩)]),(Value.func (Fn.func 195) #[] #[])] 312)=W:=⟨_,rfl⟩
   have bW:Below n w W:=by rw [←hW];exact BEL.out.alloc (by rw [S4.out];omega) _
   have gW:n≤W.heap.size:=by rw [←hW];have:=S4.out;simp;omega
   simp only [List.map] at fr
   rw [hW,S4.out] at fr
   have LA:=Lib.hid (list_any fr gW (by simp))
   have HW:=Lib.hid hW;have BW:=Lib.hid bW;have GW:=Lib.hid gW
   clear fr hW bW gW
   go_enter Tryz.func101,Tryz.ntmps101
   go_wp2_with fail
   refine (N1.out).mono ?_
   rintro e w1 ⟨rfl,rfl⟩
   go_wp2_with fail
   refine (N2.out).mono ?_
   rintro e w2 ⟨rfl,rfl⟩
   go_wp2_with fail
   refine (N3.out).mono ?_
   rintro e w3 ⟨rfl,rfl⟩
   go_wp2_with fail
   refine (N4.out).mono ?_
   rintro e w4 ⟨rfl,rfl⟩
   go_wp2_with (first | (rw [S4.out,HW.out]) | fail)
   refine (LA.out).mono ?_
   rintro e w5 ⟨v5,rfl,q1,q2⟩
   have FIN:=Lib.hid (And.intro q1 (BW.out.trans (q2.mono GW.out)))
   clear q1 q2
   go_wp2
   go_ret2
   exact ⟨_,rfl,FIN.out⟩
 have e7:(k==7)=false:=by simpa using q7
 by_cases q9:k=9
 · subst q9
   show Calls _ _ _ _ fun e w'=>∃ v',e=.returned (.tuple #[v',.bool true])∧FL n w' v' [Fld.chan,Fld.number,Fld.id]∧Below n w w'
   have fr:=fr_of (lo:=n) [(Fld.number,(Value.func (Fn.func 266) #[] #[.pointer (some ⟨n+6+1,0,none⟩),.pointer (some ⟨n+6,0,none⟩)])),(Fld.id,(Value.func (Fn.func 265) #[] #[.pointer (some ⟨n+1,0,none⟩),.pointer (some ⟨n,0,none⟩)]))] (by simp) (W:=w4) (fun p hp=>by
    simp only [List.mem_cons,List.not_mem_nil,or_false] at hp
    rcases hp with rfl | rfl
    · exact FNU.out
    · exact FID.out)
   obtain ⟨W,hW⟩:∃ W,w4.alloc (.cells #[(Value.func (Fn.func 266) #[] #[.pointer (some ⟨n+6+1,0,none⟩),.pointer (some ⟨n+6,0,none⟩)]),(Value.func (Fn.func 265) #[] #[.pointer (some ⟨n+1,0,none⟩),.pointer (some ⟨n,0,none⟩)])] 312)=W:=⟨_,rfl⟩
   have bW:Below n w W:=by rw [←hW];exact BEL.out.alloc (by rw [S4.out];omega) _
   have gW:n≤W.heap.size:=by rw [←hW];have:=S4.out;simp;omega
   simp only [List.map] at fr
   rw [hW,S4.out] at fr
   have LA:=Lib.hid (list_any fr gW (by simp))
   have HW:=Lib.hid hW;have BW:=Lib.hid bW;have GW:=Lib.hid gW
   clear fr hW bW gW
   go_enter Tryz.func101,Tryz.ntmps101
   go_wp2_with fail
   refine (N1.out).mono ?_
   rintro e w1 ⟨rfl,rfl⟩
   go_wp2_with fail
   refine (N2.out).mono ?_
   rintro e w2 ⟨rfl,rfl⟩
   go_wp2_with fail
   refine (N3.out).mono ?_
   rintro e w3 ⟨rfl,rfl⟩
   go_wp2_with fail
   refine (N4.out).mono ?_
   rintro e w4 ⟨rfl,rfl⟩
   go_wp2_with (first | (rw [S4.out,HW.out]) | fail)
   refine (LA.out).mono ?_
   rintro e w5 ⟨v5,rfl,q1,q2⟩
   have FIN:=Lib.hid (And.intro q1 (BW.out.trans (q2.mono GW.out)))
   clear q1 q2
   go_wp2
   go_ret2
   exact ⟨_,rfl,FIN.out⟩
 have e9:(k==9)=false:=by simpa using q9
 have hno:fieldsOf k=none:=by unfold fieldsOf;rw [if_neg q1,if_neg q2,if_neg q8,if_neg q3,if_neg q4,if_neg q5,if_neg q6,if_neg q7,if_neg q9]
 rw [hno]
 simp only
 go_enter Tryz.func101,Tryz.ntmps101
 go_wp2_with fail
 refine (N1.out).mono ?_
 rintro e w1 ⟨rfl,rfl⟩
 go_wp2_with fail
 refine (N2.out).mono ?_
 rintro e w2 ⟨rfl,rfl⟩
 go_wp2_with fail
 refine (N3.out).mono ?_
 rintro e w3 ⟨rfl,rfl⟩
 go_wp2_with fail
 refine (N4.out).mono ?_
 rintro e w4 ⟨rfl,rfl⟩
 go_wp2
 go_ret2
 exact ⟨rfl,BEL.out⟩
end Go.Proofs.YtdebnbgjgkbmaaaGreatDoor.Wi
namespace Go.Proofs.YtdebnbgjgkbmaaaGreatDoor.Wi
open Go.Proofs.YtdebnbgjgkbmaaaGreatDoor.Oc
open Go.RowKit
set_option linter.unusedVariables false
def Did (b:Nat) (R:Array Value) (W:World) (e:Ending) (W':World):Prop:=e=.returned (.tuple #[])∧M.RowAt W' b 59 R∧M.But b W W'
set_option maxRecDepth 100000 in
theorem z_id (m:Msg) (h32:m.hash.length=32) (a c b:Nat) (W:World) (ra:M.RowAt W a 315 #[.func (.func 189) #[] #[]]) (rb:M.RowAt W b 59 m.row) :
 Calls Tryz.prog 265 #[.agg #[.pointer none,.pointer none],.pointer (some ⟨b,0,none⟩),.pointer (some ⟨a,0,none⟩),.pointer (some ⟨c,0,none⟩)] W (Did b (m.zero .id).row W):=by
 obtain ⟨q,hq⟩:∃ q,W.heap.size=q:=⟨_,rfl⟩
 obtain ⟨V,hV⟩:∃ V,W.alloc (.cells #[.pointer none,.pointer none] 212)=V:=⟨_,rfl⟩
 have rn:M.RowAt V q 212 #[.pointer none,.pointer none]:=by rw [←hV,← hq];exact M.RowAt.new W 212 _
 have ra':M.RowAt V a 315 #[.func (.func 189) #[] #[]]:=by rw [←hV];exact ra.alloc _
 have rb':M.RowAt V b 59 m.row:=by rw [←hV];exact rb.alloc _
 have bV:M.But b W V:=by rw [←hV];exact (M.But.refl _ _).alloc _
 have c0:=(ra'.cell 0).trans rfl
 have n0:=(rn.cell 0).trans rfl;have n1:=(rn.cell 1).trans rfl
 have m0:=(rb'.cell 2).trans (Msg.g2)
 have f0:=rb'.frozen 2
 have fin:Did b (m.zero .id).row W (.returned (.tuple #[])) (V.setCell ⟨b,2,none⟩ (.int .u64 0)):=⟨rfl,by
  have:=rb'.set 2 (.int .u64 0)
  rw [Msg.s2 0] at this;exact this,bV.set (p:=⟨b,2,none⟩) (.inl rfl) _⟩
 have FIN:=Lib.hid fin;have HQ:=Lib.hid hq;have HV:=Lib.hid hV
 clear fin hq hV rn ra' rb' bV ra rb
 go_enter Tryz.func265,Tryz.ntmps265
 go_wp2_with (first | (rw [HQ.out,HV.out]) | go_in)
 go_end0
 exact FIN.out
set_option maxRecDepth 100000 in
theorem z_amount (m:Msg) (h32:m.hash.length=32) (a c b:Nat) (W:World) (ra:M.RowAt W a 315 #[.func (.func 190) #[] #[]]) (rb:M.RowAt W b 59 m.row) :
 Calls Tryz.prog 265 #[.agg #[.pointer none,.pointer none],.pointer (some ⟨b,0,none⟩),.pointer (some ⟨a,0,none⟩),.pointer (some ⟨c,0,none⟩)] W (Did b (m.zero .amount).row W):=by
 obtain ⟨q,hq⟩:∃ q,W.heap.size=q:=⟨_,rfl⟩
 obtain ⟨V,hV⟩:∃ V,W.alloc (.cells #[.pointer none,.pointer none] 212)=V:=⟨_,rfl⟩
 have rn:M.RowAt V q 212 #[.pointer none,.pointer none]:=by rw [←hV,← hq];exact M.RowAt.new W 212 _
 have ra':M.RowAt V a 315 #[.func (.func 190) #[] #[]]:=by rw [←hV];exact ra.alloc _
 have rb':M.RowAt V b 59 m.row:=by rw [←hV];exact rb.alloc _
 have bV:M.But b W V:=by rw [←hV];exact (M.But.refl _ _).alloc _
 have c0:=(ra'.cell 0).trans rfl
 have n0:=(rn.cell 0).trans rfl;have n1:=(rn.cell 1).trans rfl
 have m0:=(rb'.cell 3).trans (Msg.g3)
 have f0:=rb'.frozen 3
 have fin:Did b (m.zero .amount).row W (.returned (.tuple #[])) (V.setCell ⟨b,3,none⟩ (.int .u64 0)):=⟨rfl,by
  have:=rb'.set 3 (.int .u64 0)
  rw [Msg.s3 0] at this;exact this,bV.set (p:=⟨b,3,none⟩) (.inl rfl) _⟩
 have FIN:=Lib.hid fin;have HQ:=Lib.hid hq;have HV:=Lib.hid hV
 clear fin hq hV rn ra' rb' bV ra rb
 go_enter Tryz.func265,Tryz.ntmps265
 go_wp2_with (first | (rw [HQ.out,HV.out]) | go_in)
 go_end0
 exact FIN.out
set_option maxRecDepth 100000 in
theorem z_expiry (m:Msg) (h32:m.hash.length=32) (a c b:Nat) (W:World) (ra:M.RowAt W a 318 #[.func (.func 192) #[] #[]]) (rb:M.RowAt W b 59 m.row) :
 Calls Tryz.prog 266 #[.agg #[.pointer none,.pointer none],.pointer (some ⟨b,0,none⟩),.pointer (some ⟨a,0,none⟩),.pointer (some ⟨c,0,none⟩)] W (Did b (m.zero .expiry).row W):=by
 obtain ⟨q,hq⟩:∃ q,W.heap.size=q:=⟨_,rfl⟩
 obtain ⟨V,hV⟩:∃ V,W.alloc (.cells #[.pointer none,.pointer none] 212)=V:=⟨_,rfl⟩
 have rn:M.RowAt V q 212 #[.pointer none,.pointer none]:=by rw [←hV,← hq];exact M.RowAt.new W 212 _
 have ra':M.RowAt V a 318 #[.func (.func 192) #[] #[]]:=by rw [←hV];exact ra.alloc _
 have rb':M.RowAt V b 59 m.row:=by rw [←hV];exact rb.alloc _
 have bV:M.But b W V:=by rw [←hV];exact (M.But.refl _ _).alloc _
 have c0:=(ra'.cell 0).trans rfl
 have n0:=(rn.cell 0).trans rfl;have n1:=(rn.cell 1).trans rfl
 have m0:=(rb'.cell 36).trans (Msg.g36 h32)
 have f0:=rb'.frozen 36
 have fin:Did b (m.zero .expiry).row W (.returned (.tuple #[])) (V.setCell ⟨b,36,none⟩ (.int .i64 0)):=⟨rfl,by
  have:=rb'.set 36 (.int .i64 0)
  rw [Msg.s36 h32 0] at this;exact this,bV.set (p:=⟨b,36,none⟩) (.inl rfl) _⟩
 have FIN:=Lib.hid fin;have HQ:=Lib.hid hq;have HV:=Lib.hid hV
 clear fin hq hV rn ra' rb' bV ra rb
 go_enter Tryz.func266,Tryz.ntmps266
 go_wp2_with (first | (rw [HQ.out,HV.out]) | go_in)
 go_end0
 exact FIN.out
set_option maxRecDepth 100000 in
theorem z_number (m:Msg) (h32:m.hash.length=32) (a c b:Nat) (W:World) (ra:M.RowAt W a 318 #[.func (.func 193) #[] #[]]) (rb:M.RowAt W b 59 m.row) :
 Calls Tryz.prog 266 #[.agg #[.pointer none,.pointer none],.pointer (some ⟨b,0,none⟩),.pointer (some ⟨a,0,none⟩),.pointer (some ⟨c,0,none⟩)] W (Did b (m.zero .number).row W):=by
 obtain ⟨q,hq⟩:∃ q,W.heap.size=q:=⟨_,rfl⟩
 obtain ⟨V,hV⟩:∃ V,W.alloc (.cells #[.pointer none,.pointer none] 212)=V:=⟨_,rfl⟩
 have rn:M.RowAt V q 212 #[.pointer none,.pointer none]:=by rw [←hV,← hq];exact M.RowAt.new W 212 _
 have ra':M.RowAt V a 318 #[.func (.func 193) #[] #[]]:=by rw [←hV];exact ra.alloc _
 have rb':M.RowAt V b 59 m.row:=by rw [←hV];exact rb.alloc _
 have bV:M.But b W V:=by rw [←hV];exact (M.But.refl _ _).alloc _
 have c0:=(ra'.cell 0).trans rfl
 have n0:=(rn.cell 0).trans rfl;have n1:=(rn.cell 1).trans rfl
 have m0:=(rb'.cell 37).trans (Msg.g37 h32)
 have f0:=rb'.frozen 37
 have fin:Did b (m.zero .number).row W (.returned (.tuple #[])) (V.setCell ⟨b,37,none⟩ (.int .i64 0)):=⟨rfl,by
  have:=rb'.set 37 (.int .i64 0)
  rw [Msg.s37 h32 0] at this;exact this,bV.set (p:=⟨b,37,none⟩) (.inl rfl) _⟩
 have FIN:=Lib.hid fin;have HQ:=Lib.hid hq;have HV:=Lib.hid hV
 clear fin hq hV rn ra' rb' bV ra rb
 go_enter Tryz.func266,Tryz.ntmps266
 go_wp2_with (first | (rw [HQ.out,HV.out]) | go_in)
 go_end0
 exact FIN.out
set_option maxRecDepth 100000 in
theorem z_chan (m:Msg) (h32:m.hash.length=32) (a c b:Nat) (W:World) (ra:M.RowAt W a 379 #[.func (.func 268) #[] #[]]) (rb:M.RowAt W b 59 m.row) :
 Calls Tryz.prog 306 #[.agg #[.pointer none,.pointer none],.pointer (some ⟨b,0,none⟩),.pointer (some ⟨a,0,none⟩),.pointer (some ⟨c,0,none⟩)] W (Did b (m.zero .chan).row W):=by
 obtain ⟨q,hq⟩:∃ q,W.heap.size=q:=⟨_,rfl⟩
 obtain ⟨V,hV⟩:∃ V,W.alloc (.cells #[.pointer none,.pointer none] 212)=V:=⟨_,rfl⟩
 have rn:M.RowAt V q 212 #[.pointer none,.pointer none]:=by rw [←hV,← hq];exact M.RowAt.new W 212 _
 have ra':M.RowAt V a 379 #[.func (.func 268) #[] #[]]:=by rw [←hV];exact ra.alloc _
 have rb':M.RowAt V b 59 m.row:=by rw [←hV];exact rb.alloc _
 have bV:M.But b W V:=by rw [←hV];exact (M.But.refl _ _).alloc _
 have c0:=(ra'.cell 0).trans rfl
 have n0:=(rn.cell 0).trans rfl;have n1:=(rn.cell 1).trans rfl
 have m0:=(rb'.cell 1).trans (Msg.g1)
 have f0:=rb'.frozen 1
 have fin:Did b (m.zero .chan).row W (.returned (.tuple #[])) (V.setCell ⟨b,1,none⟩ (.int .u32 0)):=⟨rfl,by
  have:=rb'.set 1 (.int .u32 0)
  rw [Msg.s1 0] at this;exact this,bV.set (p:=⟨b,1,none⟩) (.inl rfl) _⟩
 have FIN:=Lib.hid fin;have HQ:=Lib.hid hq;have HV:=Lib.hid hV
 clear fin hq hV rn ra' rb' bV ra rb
 go_enter Tryz.func306,Tryz.ntmps306
 go_wp2_with (first | (rw [HQ.out,HV.out]) | go_in)
 go_end0
 exact FIN.out
theorem zz32:(ints z32).toArray=Z32:=by rfl
theorem z32_info:(Tryz.prog.info? 47).map (·.size)=some Z32.size:=by kernel_rfl
theorem z32_one:Z32.all (·.oneCell')=true:=by kernel_rfl
set_option maxRecDepth 100000 in
theorem z_hash (m:Msg) (h32:m.hash.length=32) (b:Nat) (W:World) (rb:M.RowAt W b 59 m.row) :
 Calls Tryz.prog 195 #[.agg #[.pointer none,.pointer none],.pointer (some ⟨b,0,none⟩)] W (Did b (m.zero .hash).row W):=by
 obtain ⟨q,hq⟩:∃ q,W.heap.size=q:=⟨_,rfl⟩
 obtain ⟨V,hV⟩:∃ V,W.alloc (.cells #[.pointer none,.pointer none] 212)=V:=⟨_,rfl⟩
 have rn:M.RowAt V q 212 #[.pointer none,.pointer none]:=by rw [←hV,← hq];exact M.RowAt.new W 212 _
 have rb':M.RowAt V b 59 m.row:=by rw [←hV];exact rb.alloc _
 have bV:M.But b W V:=by rw [←hV];exact (M.But.refl _ _).alloc _
 have n0:=(rn.cell 0).trans rfl;have n1:=(rn.cell 1).trans rfl
 have th:V.there b 4 Z32.size:=Msg.there rb' h32
 have fin:Did b (m.zero .hash).row W (.returned (.tuple #[])) (V.setCells b 4 Z32.toList):=⟨rfl,by
  have:=row_setCells Z32.toList m.row 4 V rb'
  rw [←zz32] at this ⊢
  simp only at this ⊢
  rw [Msg.sh h32 (l:=z32) rfl] at this;exact this,but_setCells _ _ _ bV⟩
 have FIN:=Lib.hid fin;have HQ:=Lib.hid hq;have HV:=Lib.hid hV;have TH:=Lib.hid th
 have zi:=z32_info;have zo:=z32_one
 clear fin hq hV rn rb' bV rb th
 go_enter Tryz.func195,Tryz.ntmps195
 go_wp2_with (first | (rw [HQ.out,HV.out]) | (refine wpList_store_mid (x:=.tmp 9) (y:=.tmp 7) (b:=b) (o:=4) (cells:=Z32) (ty:=47) ?_ ?_ ?_ ?_ TH.out zi zo ?_;rfl;rfl;rfl;rfl) | fail)
 go_end0
 exact FIN.out
end Go.Proofs.YtdebnbgjgkbmaaaGreatDoor.Wi
namespace Go.Proofs.YtdebnbgjgkbmaaaGreatDoor.Wi
open Go.Proofs.YtdebnbgjgkbmaaaGreatDoor.Oc
open Go.RowKit Go.Shelf
set_option linter.unusedVariables false
set_option maxRecDepth 100000 in
set_option maxHeartbeats 2000000 in
theorem through_any {b g n cap lo:Nat} (p1 p2:Option Addr) (fk:Nat→FuncId) (caps:Nat→Array Value) (St:Nat→World→Prop) (Bd:Ending→World→Prop) (hn:n≤8) (en:∀ k,k<n→Enters Tryz.prog (fk k))
 (hlist:∀ k W,k<n→St k W→W.cell? ⟨g,k,none⟩=some (.func (.func (fk k)) #[] (caps k)))
 (hsame:∀ k W W',St k W→Below W.heap.size W W'→St k W')
 (step:∀ k,k<n→∀ W,St k W→Calls Tryz.prog (fk k) (#[.agg #[.pointer p1,.pointer p2],.pointer (some ⟨b,0,none⟩)]++caps k) W fun e W'=>(e=.returned (.tuple #[])∧St (k+1) W'∧Kp lo W W')∨(Bd e W'∧∃ c,e=.panicked c))
 (W:World) (h0:St 0 W) (hlo:lo≤W.heap.size) :
 Calls Tryz.prog 107 #[.agg #[.pointer p1,.pointer p2],.slice (some ⟨g,0,none⟩) n cap,.pointer (some ⟨b,0,none⟩)] W fun e W'=>(e=.returned (.tuple #[])∧St n W')∨(Bd e W'∧∃ c,e=.panicked c):=by
 obtain ⟨q,hq⟩:∃ q,W.heap.size=q:=⟨_,rfl⟩
 obtain ⟨V,hV⟩:∃ V,W.alloc (.cells #[.pointer p1,.pointer p2] 212)=V:=⟨_,rfl⟩
 have rn:M.RowAt V q 212 #[.pointer p1,.pointer p2]:=by rw [←hV,← hq];exact M.RowAt.new W 212 _
 have s0:St 0 V:=hsame 0 W V h0 (by rw [←hV];exact (Below.refl _ _).alloc (Nat.le_refl _) _)
 have HQ:=Lib.hid hq;have HV:=Lib.hid hV;have RN:=Lib.hid rn;have S0:=Lib.hid s0
 have EN:=Lib.hid en;have HL:=Lib.hid hlist;have STEP:=Lib.hid step;have LQ:=Lib.hid (hq▸hlo:lo≤q)
 clear en hlist step hsame h0 hlo hq hV rn s0
 go_enter Tryz.func107,Tryz.ntmps107
 go_wp2_with (rw [HQ.out,HV.out])
 go_loopg [10] n (fun m i X=>∃ (k:Nat),m+k=n∧i=.int .i64 k∧St k X∧M.RowAt X q 212 #[.pointer p1,.pointer p2])
 case atStart=>exact ⟨0,by omega,rfl,S0.out,RN.out⟩
 case round=>
  obtain ⟨k,hm,rfl,st,rq⟩:=hrel
  have HM:=Lib.hid hm
  clear hm
  by_cases hlt:k<n
  · have c0:=HL.out k _ hlt st
    have q0:=(rq.cell 0).trans rfl;have q1:=(rq.cell 1).trans rfl
    have en:=EN.out k hlt
    have SK:=Lib.hid (STEP.out k hlt _ st)
    have RQ:=Lib.hid rq
    clear st rq
    generalize hfk:fk k=f at *
    generalize hcaps:caps k=cs at *
    go_wp2_with (first | (rw [en,Oper.upon_enter];refine (SK.out).mono ?_;rintro e w2 (⟨rfl,st2,kp2⟩ | ⟨hb,c,rfl⟩)) | fail)
    · go_roundg (n-(k+1))
      case measure=>have:=HM.out;omega
      case rel=>exact ⟨k+1,by have:=HM.out;omega,by go_num,st2,kp2 _ _ _ rfl LQ.out RQ.out⟩
    · exact ⟨rfl,.inr ⟨hb,c,rfl⟩⟩
  · obtain rfl:k=n:=by have:=HM.out;omega
    go_wp2
    go_end0
    exact .inl ⟨rfl,st⟩
end Go.Proofs.YtdebnbgjgkbmaaaGreatDoor.Wi
namespace Go.Proofs.YtdebnbgjgkbmaaaGreatDoor.Wi
open Go.Proofs.YtdebnbgjgkbmaaaGreatDoor.Oc
open Go.RowKit
set_option linter.unusedVariables false
theorem mapM_some' {α β:Type} {f:α→Option β} {g:α→β}:∀ {l:List α},(∀ x∈l,f x=some (g x))→l.mapM f=some (l.map g)
 | [],_=>rfl
 | x::r,h=>by
   rw [List.mapM_cons,h x (by simp),mapM_some' (fun y hy=>h y (by simp [hy]))]
   rfl
theorem flat_single {α β:Type} (f:α→β):∀ l:List α,(l.map fun i=>[f i]).flatten=l.map f
 | []=>rfl
 | x::r=>by simp [flat_single f r]
def hlits (l:List Int):List Lit:=l.map (Lit.int .u8)
theorem byte_lits (d:Nat) (x:Int) (h0:0≤x) (h1:x≤255):Tryz.prog.keyLits (d+1) 5 [.int .u8 x]=some [Lit.int .u8 x]:=by
 have hw:(Lit.int .u8 x).wf=true:=by simp [Lit.wf,IntKind.min,IntKind.max,IntKind.signed,IntKind.bits];omega
 unfold Program.keyLits
 rw [Tryz.underlying5]
 simp [hw]
theorem hash_lits (d:Nat) (l:List Int) (h:l.length=32) (hb:∀ x∈l,0≤x∧x≤255):Tryz.prog.keyLits (d+2) 47 (ints l)=some (hlits l):=by
 have c33:Tryz.prog.cellsOf 47=32:=by kernel_rfl
 have c5:Tryz.prog.cellsOf 5=1:=by kernel_rfl
 unfold Program.keyLits
 rw [Tryz.underlying47]
 simp only [c33,c5,ints_len',h,if_true]
 rw [mapM_some' (g:=fun i=>[Lit.int .u8 (l.getD i 0)]) (fun i hi=>?_)]
 · simp only [Option.map_some,Option.some.injEq]
   rw [flat_single]
   apply List.ext_getElem?
   intro j
   unfold hlits
   by_cases hj:j<32
   · rw [List.getElem?_map,List.getElem?_map,List.getElem?_range hj,List.getElem?_eq_getElem (show j<l.length by omega)]
     simp [List.getD,List.getElem?_eq_getElem (show j<l.length by omega)]
   · rw [List.getElem?_eq_none (by simp;omega),List.getElem?_eq_none (by simp;omega)]
 · have hi':i<32:=List.mem_range.1 hi
   have hl:i<l.length:=by omega
   have:((ints l).drop (i*1)).take 1=[.int .u8 (l.getD i 0)]:=by
    rw [Nat.mul_one]
    rw [List.drop_eq_getElem_cons (by rw [ints_len'];exact hl)]
    simp [ints,List.getElem?_eq_getElem hl]
   rw [this]
   obtain ⟨h0,h1⟩:=hb (l.getD i 0) (by rw [List.getD_eq_getElem?_getD,List.getElem?_eq_getElem hl];exact List.getElem_mem hl)
   exact byte_lits d _ h0 h1
theorem hlits_inj {l l':List Int} (h:hlits l=hlits l'):l=l':=by
 unfold hlits at h
 induction l generalizing l' with
 | nil=>cases l' with
   | nil=>rfl
   | cons y r=>simp at h
 | cons x r ih=>cases l' with
   | nil=>simp at h
   | cons y r'=>
     simp only [List.map_cons,List.cons.injEq,Lit.int.injEq,true_and] at h
     rw [h.1,ih h.2]
theorem int_lits (d t:Nat) (k:IntKind) (ht:Tryz.prog.underlying t=some (.int k)) (x:Int) (hw:(Lit.int k x).wf=true):Tryz.prog.keyLits (d+1) t [.int k x]=some [Lit.int k x]:=by
 unfold Program.keyLits
 rw [ht]
 simp [hw]
def Msg.lits (m:Msg):List Lit:=[.int .i64 m.kind,.int .u32 m.chan,.int .u64 m.id,.int .u64 m.amount]++hlits m.hash++[.int .i64 m.expiry,.int .i64 m.number]
theorem Msg.lits_inj {m m':Msg} (h:m.hash.length=32) (h':m'.hash.length=32) (e:m.lits=m'.lits):m=m':=by
 unfold Msg.lits at e
 have e1:=List.append_inj e (by simp [hlits,h,h'])
 have e2:=List.append_inj e1.1 rfl
 have e3:=hlits_inj e2.2
 have e4:=e2.1
 have e5:=e1.2
 simp only [List.cons.injEq,Lit.int.injEq,true_and,and_true] at e4 e5
 cases m;cases m'
 simp only at e3 e4 e5
 obtain ⟨rfl,rfl,rfl,rfl⟩:=e4
 obtain ⟨rfl,rfl⟩:=e5
 rw [e3]
theorem wf64 {x:Int} (h0:-9223372036854775808≤x) (h1:x≤9223372036854775807):(Lit.int .i64 x).wf=true:=by simp [Lit.wf,IntKind.min,IntKind.max,IntKind.signed,IntKind.bits];omega
theorem wfu64 {x:Int} (h0:0≤x) (h1:x≤18446744073709551615):(Lit.int .u64 x).wf=true:=by simp [Lit.wf,IntKind.min,IntKind.max,IntKind.signed,IntKind.bits];omega
theorem wfu32 {x:Int} (h0:0≤x) (h1:x≤4294967295):(Lit.int .u32 x).wf=true:=by simp [Lit.wf,IntKind.min,IntKind.max,IntKind.signed,IntKind.bits];omega
set_option maxRecDepth 100000 in
theorem msg_lits (t:Nat) (ht:t=59) (m:Msg) (h:m.ok):Tryz.prog.keyLits 9 t m.cells=some m.lits:=by
 have c62:Tryz.prog.cellsOf 59=38:=by kernel_rfl
 have c3:Tryz.prog.cellsOf 3=1:=by kernel_rfl
 have c60:Tryz.prog.cellsOf 40=1:=by kernel_rfl
 have c22:Tryz.prog.cellsOf 27=1:=by kernel_rfl
 have c33:Tryz.prog.cellsOf 47=32:=by kernel_rfl
 have l0:=int_lits 7 3 .i64 Tryz.underlying3 m.kind (wf64 h.k0 h.k1)
 have l1:=int_lits 7 40 .u32 Tryz.underlying40 m.chan (wfu32 h.c0 h.c1)
 have l2:=int_lits 7 27 .u64 Tryz.underlying27 m.id (wfu64 h.i0 h.i1)
 have l3:=int_lits 7 27 .u64 Tryz.underlying27 m.amount (wfu64 h.a0 h.a1)
 have l4:=hash_lits 6 m.hash h.h32 h.hb
 have l5:=int_lits 7 3 .i64 Tryz.underlying3 m.expiry (wf64 h.e0 h.e1)
 have l6:=int_lits 7 3 .i64 Tryz.underlying3 m.number (wf64 h.n0 h.n1)
 have hl:m.cells.length=38:=Msg.len h.h32
 have dh:((m.cells.drop 4).take 32)=ints m.hash:=by
  show ((ints m.hash++[Value.int .i64 m.expiry,.int .i64 m.number])).take 32=_
  rw [List.take_left' (by rw [ints_len',h.h32])]
 have d36:(m.cells.drop 36).take 1=[.int .i64 m.expiry]:=by
  show ((ints m.hash++[Value.int .i64 m.expiry,.int .i64 m.number]).drop 32).take 1=_
  rw [List.drop_left' (by rw [ints_len',h.h32])];rfl
 have d37:(m.cells.drop 37).take 1=[.int .i64 m.number]:=by
  show ((ints m.hash++[Value.int .i64 m.expiry,.int .i64 m.number]).drop 33).take 1=_
  rw [show (33:Nat)=(ints m.hash).length+1 by rw [ints_len',h.h32],List.drop_length_add_append];rfl
 have d0:m.cells.take 1=[.int .i64 m.kind]:=rfl
 have d1:m.cells.tail.take 1=[.int .u32 m.chan]:=rfl
 have d2:(m.cells.drop 2).take 1=[.int .u64 m.id]:=rfl
 have d3:(m.cells.drop 3).take 1=[.int .u64 m.amount]:=rfl
 subst ht
 · unfold Program.keyLits
   rw [Tryz.underlying59]
   simp only [c62,hl,true_and]
   simp [c3,c60,c22,c33,d0,d1,d2,d3,dh,d36,d37,l0,l1,l2,l3,l4,l5,l6,Msg.lits]
theorem formed_row (t:Nat) (ht:t=59) (m:Msg) (h:m.hash.length=32):(Value.agg m.row).formed Tryz.prog t=true:=by
 have c62:Tryz.prog.cellsOf 59=38:=by kernel_rfl
 subst ht
 · simp [Value.formed,Tryz.underlying59,c62,Msg.size h]
theorem msg_eql (t:Nat) (ht:t=59) (m m':Msg) (h:m.ok) (h':m'.ok) (b:Bool) (hb:b=true↔m=m') (W:World):(Op.equalIn 10000 t (.agg m.row) (.agg m'.row)).run Tryz.prog W=.ok b W:=by
 have hk:Tryz.prog.keyTypeAt 9 t=true:=by subst ht;kernel_rfl
 obtain ⟨r,hr,hiff⟩:=run_equalIn_deep (P:=Tryz.prog) 9991 9 t hk W 9 9 (.agg m.row) (.agg m'.row) m.lits m'.lits (formed_row t ht m h.h32) (formed_row t ht m' h'.h32)
  (by show Tryz.prog.keyLits 9 t m.row.toList=_;rw [Msg.row];exact msg_lits t ht m h) (by show Tryz.prog.keyLits 9 t m'.row.toList=_;rw [Msg.row];exact msg_lits t ht m' h')
 rw [hr]
 have:r=b:=by
  rw [Bool.eq_iff_iff,hiff,hb]
  exact ⟨Msg.lits_inj h.h32 h'.h32,fun e=>by rw [e]⟩
 rw [this]
end Go.Proofs.YtdebnbgjgkbmaaaGreatDoor.Wi
namespace Go.Proofs.YtdebnbgjgkbmaaaGreatDoor.Wi
open Go.Proofs.YtdebnbgjgkbmaaaGreatDoor.Oc
open Go.RowKit Go.Shelf
set_option linter.unusedVariables false
section
variable {P:Program} {ops:Array Oper} {rest:List Oper} {o:Oper} {a:Act} {w:World} {Q:Exit→Act→World→Prop}
theorem wpList_eql (hw:Region.wanted o (yielded ops a.tmps)=true) (ty t:TypeId) (x y:Operand) (ho:o.op=.binOp .eql ty x y t) (A B:Array Value) (hx:a.eval x=.agg A) (hy:a.eval y=.agg B) (b:Bool)
 (hG:P.eqGuardType P.depth ty=false) (he:∀ W,(Op.equalIn 10000 ty (.agg A) (.agg B)).run P W=.ok b W) (h:wpList P ops Q rest (a.put o.dst (.bool b)) w):wpList P ops Q (o::rest) a w:=
 wpList_step fun K hK=>by
  rw [if_pos hw]
  unfold Oper.wp execOp
  simp only [ho,hx,hy]
  have e1:(eqGuard .eql ty x y (.agg A) (.agg B)).run P w=.ok () w:=by
   unfold eqGuard
   simp [go_sem,hG]
  simp [e1,go_sem,he w]
  exact hK _ _ h
end
def fnOf:Fld→FuncId
 | .hash=>195
 | .chan=>306
 | .id=>265
 | .amount=>265
 | .expiry=>266
 | .number=>266
theorem enters64:Enters Tryz.prog 195:=enters_of Tryz.func195 (by kernel_rfl) rfl
theorem enters66:Enters Tryz.prog 265:=enters_of Tryz.func265 (by kernel_rfl) rfl
theorem enters67:Enters Tryz.prog 266:=enters_of Tryz.func266 (by kernel_rfl) rfl
theorem enters70:Enters Tryz.prog 306:=enters_of Tryz.func306 (by kernel_rfl) rfl
theorem enters_fn (f:Fld):Enters Tryz.prog (fnOf f):=by
 cases f
 · exact enters70
 · exact enters66
 · exact enters66
 · exact enters64
 · exact enters67
 · exact enters67
def capsV:Value→Array Value
 | .func _ _ c=>c
 | _=>#[]
theorem FV.shape {lo:Nat} {W:World} {f:Fld} {v:Value} (h:FV lo W f v):v=.func (.func (fnOf f)) #[] (capsV v):=by
 cases f
 all_goals first
  | (obtain ⟨a,b,rfl,_⟩:=h;rfl)
  | (have h':v=_:=h;rw [h'];rfl)
theorem through_list {b lo:Nat} (p1 p2:Option Addr) (fl:List Fld) (h8:fl.length≤8) (v:Value) (W:World) (hFL:FL lo W v fl) (hlo:lo≤W.heap.size) (St:Nat→World→Prop) (Bd:Ending→World→Prop) (h0:St 0 W)
 (hsame:∀ k X X',St k X→Below X.heap.size X X'→St k X')
 (step:∀ k f,fl[k]?=some f→∀ X u,FV lo X f u→St k X→Calls Tryz.prog (fnOf f) (#[.agg #[.pointer p1,.pointer p2],.pointer (some ⟨b,0,none⟩)]++capsV u) X fun e X'=>(e=.returned (.tuple #[])∧St (k+1) X'∧Kp lo X X')∨(Bd e X'∧∃ c,e=.panicked c)) :
 Calls Tryz.prog 107 #[.agg #[.pointer p1,.pointer p2],v,.pointer (some ⟨b,0,none⟩)] W fun e W'=>(e=.returned (.tuple #[])∧St fl.length W')∨(Bd e W'∧∃ c,e=.panicked c):=by
 obtain ⟨g,cap,C,rfl,hg,hr,hf⟩:=hFL
 have key:=through_any (b:=b) (g:=g) (n:=fl.length) (cap:=cap) (lo:=lo) p1 p2 (fun k=>match fl[k]? with | some f=>fnOf f | none=>64) (fun k=>match C[k]? with | some u=>capsV u | none=>#[])
  (fun k X=>St k X∧M.RowAt X g 312 C∧∀ (i:Nat) (f:Fld),fl[i]?=some f→∃ u,C[i]?=some u∧FV lo X f u) Bd h8
  (fun k hk=>by
    rw [List.getElem?_eq_getElem hk];exact enters_fn _)
  (fun k X hk hst=>by
    obtain ⟨u,hu,hv⟩:=hst.2.2 k _ (List.getElem?_eq_getElem hk)
    rw [hst.2.1.cell]
    simp only [hu,List.getElem?_eq_getElem hk]
    exact congrArg some hv.shape)
  (fun k X X' hst hb=>⟨hsame k X X' hst.1 hb,hst.2.1.call hb,fun i f hi=>by
    obtain ⟨u,hu,hv⟩:=hst.2.2 i f hi
    exact ⟨u,hu,hv.kept (Kp.of_below hb)⟩⟩)
  (fun k hk X hst=>by
    obtain ⟨u,hu,hv⟩:=hst.2.2 k _ (List.getElem?_eq_getElem hk)
    simp only [hu,List.getElem?_eq_getElem hk]
    refine (step k _ (List.getElem?_eq_getElem hk) X u hv hst.1).mono ?_
    rintro e X' (⟨rfl,h1,h2⟩ | h)
    · exact .inl ⟨rfl,⟨h1,h2 _ _ _ rfl hg hst.2.1,fun i f hi=>by
       obtain ⟨u',hu',hv'⟩:=hst.2.2 i f hi
       exact ⟨u',hu',hv'.kept h2⟩⟩,h2⟩
    · exact .inr h)
  W ⟨h0,hr,hf⟩ hlo
 refine key.mono ?_
 rintro e W' (⟨rfl,h1⟩ | h)
 · exact .inl ⟨rfl,h1.1⟩
 · exact .inr h
def zeroAll (m:Msg) (fl:List Fld):Msg:=fl.foldl Msg.zero m
theorem zero_len (m:Msg) (h:m.hash.length=32):∀ fl,(zeroAll m fl).hash.length=32:=by
 intro fl
 induction fl generalizing m with
 | nil=>exact h
 | cons f r ih=>exact ih _ (Msg.zero32 h f)
theorem zero_take {fl:List Fld} {k:Nat} {f:Fld} (h:fl[k]?=some f) (m:Msg):zeroAll m (fl.take (k+1))=(zeroAll m (fl.take k)).zero f:=by
 rw [List.take_add_one,h];simp [zeroAll,List.foldl_append]
theorem zero_step {lo b:Nat} {f:Fld} {u:Value} {X:World} (h:FV lo X f u) (m:Msg) (h32:m.hash.length=32) (rb:M.RowAt X b 59 m.row) :
 Calls Tryz.prog (fnOf f) (#[.agg #[.pointer none,.pointer none],.pointer (some ⟨b,0,none⟩)]++capsV u) X (Did b (m.zero f).row X):=by
 cases f
 · obtain ⟨a,c,rfl,_,_,ra,_⟩:=h;exact z_chan m h32 a c b X ra rb
 · obtain ⟨a,c,rfl,_,_,ra,_⟩:=h;exact z_id m h32 a c b X ra rb
 · obtain ⟨a,c,rfl,_,_,ra,_⟩:=h;exact z_amount m h32 a c b X ra rb
 · have h':u=.func (.func 195) #[] #[]:=h
   subst h'
   exact z_hash m h32 b X rb
 · obtain ⟨a,c,rfl,_,_,ra,_⟩:=h;exact z_expiry m h32 a c b X ra rb
 · obtain ⟨a,c,rfl,_,_,ra,_⟩:=h;exact z_number m h32 a c b X ra rb
theorem zero_through {b lo:Nat} (fl:List Fld) (h8:fl.length≤8) (v:Value) (W:World) (hFL:FL lo W v fl) (hlo:lo≤W.heap.size) (hb:b<lo) (m:Msg) (h32:m.hash.length=32) (rb:M.RowAt W b 59 m.row) :
 Calls Tryz.prog 107 #[.agg #[.pointer none,.pointer none],v,.pointer (some ⟨b,0,none⟩)] W (Did b (zeroAll m fl).row W):=by
 refine (through_list (b:=b) none none fl h8 v W hFL hlo (fun k X=>M.RowAt X b 59 (zeroAll m (fl.take k)).row∧M.But b W X) (fun _ _=>False) ⟨rb,M.But.refl _ _⟩ (fun k X X' hst hbl=>⟨hst.1.call hbl,hst.2.trans (M.But.ofBelow b hbl)⟩) (fun k f hf X u hv hst=>?_)).mono ?_
 · refine (zero_step hv (zeroAll m (fl.take k)) (zero_len m h32 _) hst.1).mono ?_
   rintro e X' ⟨rfl,h1,h2⟩
   exact .inl ⟨rfl,⟨by rw [zero_take hf];exact h1,hst.2.trans h2⟩,Kp.of_but h2 hb⟩
 · rintro e W' (⟨rfl,h1,h2⟩ | ⟨h,_⟩)
   · rw [List.take_length] at h1
     exact ⟨rfl,h1,h2⟩
   · exact h.elim
structure MayP (m:Msg) (fl:List Fld):Prop where
 e0:0≤m.expiry
 e1:m.expiry≤1073741824
 n0:0≤m.number
 n1:m.number≤65535
 a1:m.amount≤1125899906842624
 z:zeroAll m fl=Msg.none m.kind
def May (m:Msg):Prop:=∃ fl,fieldsOf m.kind=some fl∧MayP m fl
theorem fields_len {k:Int} {fl:List Fld} (h:fieldsOf k=some fl):fl.length≤8:=by
 unfold fieldsOf at h
 repeat' (split at h)
 all_goals first | (cases h;done) | (cases h;decide)
end Go.Proofs.YtdebnbgjgkbmaaaGreatDoor.Wi
namespace Go.Proofs.YtdebnbgjgkbmaaaGreatDoor.Wi
open Go.Proofs.YtdebnbgjgkbmaaaGreatDoor.Oc
open Go.RowKit Go.Shelf
set_option linter.unusedVariables false
theorem none_row (k:Int):(Msg.none k).row=#[.int .i64 k,.int .u32 0,.int .u64 0,.int .u64 0,.int .u8 0,.int .u8 0,.int .u8 0,.int .u8 0,.int .u8 0,.int .u8 0,.int .u8 0,.int .u8 0,.int .u8 0,.int .u8 0,.int .u8 0,.int .u8 0,.int .u8 0,.int .u8 0,.int .u8 0,.int .u8 0,.int .u8 0,.int .u8 0,.int .u8 0,.int .u8 0,.int .u8 0,.int .u8 0,.int .u8 0,.int .u8 0,.int .u8 0,.int .u8 0,.int .u8 0,.int .u8 0,.int .u8 0,.int .u8 0,.int .u8 0,.int .u8 0,.int .i64 0,.int .i64 0]:=by rfl
theorem y0:(0:Int)≤0:=by decide
theorem y1:(0:Int)≤4294967295:=by decide
theorem y2:(0:Int)≤18446744073709551615:=by decide
theorem y3:(-9223372036854775808:Int)≤0:=by decide
theorem y4:(0:Int)≤9223372036854775807:=by decide
theorem z_in {x:Int} (hx:x∈z32):0≤x∧x≤255:=by
 have:x=0:=List.eq_of_mem_replicate hx
 omega
theorem none_ok {m:Msg} (h:m.ok):(Msg.none m.kind).ok:=⟨rfl,fun x hx=>z_in hx,h.k0,h.k1,y0,y1,y0,y2,y0,y2,y3,y4,y3,y4⟩
theorem zero_ok {m:Msg} (h:m.ok) (f:Fld):(m.zero f).ok:=by
 obtain ⟨a0,a1,a2,a3,a4,a5,a6,a7,a8,a9,b0,b1,b2,b3⟩:=h
 cases f
 · exact ⟨a0,a1,a2,a3,y0,y1,a6,a7,a8,a9,b0,b1,b2,b3⟩
 · exact ⟨a0,a1,a2,a3,a4,a5,y0,y2,a8,a9,b0,b1,b2,b3⟩
 · exact ⟨a0,a1,a2,a3,a4,a5,a6,a7,y0,y2,b0,b1,b2,b3⟩
 · exact ⟨rfl,fun x hx=>z_in hx,a2,a3,a4,a5,a6,a7,a8,a9,b0,b1,b2,b3⟩
 · exact ⟨a0,a1,a2,a3,a4,a5,a6,a7,a8,a9,y3,y4,b2,b3⟩
 · exact ⟨a0,a1,a2,a3,a4,a5,a6,a7,a8,a9,b0,b1,y3,y4⟩
theorem zeroAll_ok {m:Msg} (h:m.ok):∀ fl,(zeroAll m fl).ok:=by
 intro fl
 induction fl generalizing m with
 | nil=>exact h
 | cons f r ih=>exact ih (zero_ok h f)
theorem zero_kind (m:Msg):∀ fl,(zeroAll m fl).kind=m.kind:=by
 intro fl
 induction fl generalizing m with
 | nil=>rfl
 | cons f r ih=>show (zeroAll (m.zero f) r).kind=_;rw [ih];cases f<;>rfl
theorem guard62:Tryz.prog.eqGuardType Tryz.prog.depth 59=false:=by kernel_rfl
set_option maxRecDepth 100000 in
set_option maxHeartbeats 4000000 in
theorem may_any (m:Msg) (h:m.ok) (b:Bool) (hb:b=true↔May m) (w:World):Calls Tryz.prog 100 #[.agg m.row] w fun e w'=>e=.returned (.bool b)∧Below w.heap.size w w':=by
 obtain ⟨n,hn⟩:∃ n,w.heap.size=n:=⟨_,rfl⟩
 obtain ⟨V,hV⟩:∃ V,w.alloc (.cells m.row 59)=V:=⟨_,rfl⟩
 have rV:M.RowAt V n 59 m.row:=by rw [←hV,← hn];exact M.RowAt.new w 59 _
 have bV:Below n w V:=by rw [←hV,← hn];exact (Below.refl _ w).alloc (Nat.le_refl _) _
 have sV:V.heap.size=n+1:=by rw [←hV];simp [hn]
 have fa:=fields_any m.kind V
 rw [sV] at fa
 rw [hn]
 have cell:=fun (W:World) (hr:M.RowAt W n 59 m.row)=>And.intro ((hr.cell 0).trans Msg.g0) (And.intro ((hr.cell 3).trans Msg.g3) (And.intro ((hr.cell 36).trans (Msg.g36 h.h32)) ((hr.cell 37).trans (Msg.g37 h.h32))))
 have c0:=(cell V rV).1
 have HN:=Lib.hid hn;have HV:=Lib.hid hV;have CELL:=Lib.hid cell;have RV:=Lib.hid rV;have BV:=Lib.hid bV;have HB:=Lib.hid hb;have HO:=Lib.hid h
 have SV:=Lib.hid sV
 cases hf:fieldsOf m.kind with
 | none=>
   rw [hf] at fa
   simp only at fa
   have FA:=Lib.hid fa
   obtain rfl:b=false:=by
    cases b with
    | false=>rfl
    | true=>
      obtain ⟨fl,h1,_⟩:=hb.1 rfl
      rw [hf] at h1;cases h1
   clear fa hf hb h cell rV bV sV hV hn
   generalize m.row=X at *
   generalize m.kind=kd at *
   go_enter Tryz.func100,Tryz.ntmps100
   go_wp2_with (first | (rw [HN.out,HV.out]) | fail)
   refine (FA.out).mono ?_
   rintro e w1 ⟨rfl,b1⟩
   have BF:=Lib.hid (BV.out.trans (b1.mono (by omega)))
   clear b1
   go_wp2
   go_ret
   exact ⟨rfl,BF.out⟩
 | some fl=>
   rw [hf] at fa
   simp only at fa
   have FA:=Lib.hid fa
   have HF:=Lib.hid hf
   have hno:∀ P:Prop,(MayP m fl→P)→¬ P→b=false:=fun P hp hn=>by
    cases hbb:b with
    | false=>rfl
    | true=>
      obtain ⟨fl',h1,h2⟩:=hb.1 hbb
      rw [hf] at h1;cases h1
      exact absurd (hp h2) hn
   have HNO:=Lib.hid hno
   clear fa hf hb cell rV bV sV hV hn hno h
   by_cases p0:m.expiry<0
   · obtain rfl:=HNO.out (0≤m.expiry) (fun q=>q.e0) (by omega)
     have d0:decide (m.expiry<0)=true:=by simpa using p0
     clear p0
     clear HB HNO HF
     generalize m.row=X at *
     generalize m.kind=kd at *
     generalize m.expiry=ex at *
     generalize m.number=nu at *
     generalize m.amount=am at *
     go_enter Tryz.func100,Tryz.ntmps100
     go_wp2_with (first | (rw [HN.out,HV.out]) | fail)
     refine (FA.out).mono ?_
     rintro e w1 ⟨v,rfl,fl1,b1⟩
     obtain ⟨x0,x3,x36,x37⟩:=CELL.out w1 (RV.out.below b1 (by omega))
     have BF:=Lib.hid (BV.out.trans (b1.mono (by omega)))
     clear b1 fl1
     go_wp2
     go_ret
     exact ⟨rfl,BF.out⟩
   · have d0:decide (m.expiry<0)=false:=by simpa using p0
     by_cases p1:m.expiry≤1073741824
     · have d1:decide ((1073741824:Int)<m.expiry)=false:=by simpa using p1
       by_cases p2:m.number<0
       · obtain rfl:=HNO.out (0≤m.number) (fun q=>q.n0) (by omega)
         have d2:decide (m.number<0)=true:=by simpa using p2
         clear p0 p1 p2
         clear HB HNO HF
         generalize m.row=X at *
         generalize m.kind=kd at *
         generalize m.expiry=ex at *
         generalize m.number=nu at *
         generalize m.amount=am at *
         go_enter Tryz.func100,Tryz.ntmps100
         go_wp2_with (first | (rw [HN.out,HV.out]) | fail)
         refine (FA.out).mono ?_
         rintro e w1 ⟨v,rfl,fl1,b1⟩
         obtain ⟨x0,x3,x36,x37⟩:=CELL.out w1 (RV.out.below b1 (by omega))
         have BF:=Lib.hid (BV.out.trans (b1.mono (by omega)))
         clear b1 fl1
         go_wp2
         go_ret
         exact ⟨rfl,BF.out⟩
       · have d2:decide (m.number<0)=false:=by simpa using p2
         by_cases p3:m.number≤65535
         · have d3:decide ((65535:Int)<m.number)=false:=by simpa using p3
           by_cases p4:m.amount≤1125899906842624
           · have d4:decide ((1125899906842624:Int)<m.amount)=false:=by simpa using p4
             have hbz:b=true↔zeroAll m fl=Msg.none m.kind:=by
              rw [HB.out]
              constructor
              · rintro ⟨fl',h1,h2⟩
                rw [HF.out] at h1;cases h1
                exact h2.z
              · intro hz
                exact ⟨fl,HF.out,⟨by omega,p1,by omega,p3,p4,hz⟩⟩
             have eq:=msg_eql 59 rfl (zeroAll m fl) (Msg.none m.kind) (zeroAll_ok HO.out fl) (none_ok HO.out) b hbz
             rw [none_row] at eq
             have EQ:=Lib.hid eq
             have TH:=Lib.hid (fun v W hFL hlo rb=>zero_through (b:=n) (lo:=n+1) fl (fields_len HF.out) v W hFL hlo (by omega) m HO.out.h32 rb)
             have iX:=Msg.info (zero_len m HO.out.h32 fl)
             have kz:=zero_kind m fl
             have cz:=fun (W:World) (hr:M.RowAt W n 59 (zeroAll m fl).row)=>(hr.cell 0).trans Msg.g0
             rw [kz] at cz
             have CZ:=Lib.hid cz
             clear p0 p1 p2 p3 p4 eq hbz kz cz HB HNO
             generalize (zeroAll m fl).row=Z at *
             clear HF
             generalize m.row=X at *
             generalize m.kind=kd at *
             generalize m.expiry=ex at *
             generalize m.number=nu at *
             generalize m.amount=am at *
             go_enter Tryz.func100,Tryz.ntmps100
             go_wp2_with (first | (rw [HN.out,HV.out]) | fail)
             refine (FA.out).mono ?_
             rintro e w1 ⟨v,rfl,fl1,b1⟩
             obtain ⟨x0,x3,x36,x37⟩:=CELL.out w1 (RV.out.below b1 (by omega))
             have T1:=Lib.hid (TH.out v w1 fl1 (by have:=b1.size;have:=SV.out;omega) (RV.out.below b1 (by omega)))
             have BF:=Lib.hid (BV.out.trans (b1.mono (by omega)))
             obtain ⟨A1,L1,C1,rfl⟩:∃ A L C,v=.slice A L C:=by obtain ⟨g,cap,C,hv,_⟩:=fl1;exact ⟨_,_,_,hv⟩
             clear b1 fl1 TH
             go_wp2_with fail
             refine (T1.out).mono ?_
             rintro e w2 ⟨rfl,r2,but2⟩
             have rz:=r2
             have cz:=CZ.out w2 r2
             have B2:=Lib.hid (show Below n w w2 from but2.below BF.out (Nat.le_refl _) (by have:=BF.out.size;have:=HN.out;omega))
             clear T1 but2 r2
             go_wp2_with (first
              | (refine wpList_load_row (x:=.tmp 1) (ty:=59) (g:=n) (cs:=Z) (t:=59) (fr:=(0,0)) ?_ ?_ ?_ _ rz Tryz.underlying59 rfl iX ?_;rfl;rfl;rfl)
              | (refine wpList_eql (x:=.tmp 41) (y:=.tmp 44) (ty:=59) (t:=59) (A:=Z) ?_ ?_ _ ?_ ?_ b guard62 EQ.out ?_;rfl;rfl;rfl;rfl)
              | fail)
             go_ret
             exact ⟨rfl,B2.out⟩
           · obtain rfl:=HNO.out (m.amount≤1125899906842624) (fun q=>q.a1) p4
             have d4:decide ((1125899906842624:Int)<m.amount)=true:=by simpa using p4
             clear p0 p1 p2 p3 p4
             clear HB HNO HF
             generalize m.row=X at *
             generalize m.kind=kd at *
             generalize m.expiry=ex at *
             generalize m.number=nu at *
             generalize m.amount=am at *
             go_enter Tryz.func100,Tryz.ntmps100
             go_wp2_with (first | (rw [HN.out,HV.out]) | fail)
             refine (FA.out).mono ?_
             rintro e w1 ⟨v,rfl,fl1,b1⟩
             obtain ⟨x0,x3,x36,x37⟩:=CELL.out w1 (RV.out.below b1 (by omega))
             have BF:=Lib.hid (BV.out.trans (b1.mono (by omega)))
             clear b1 fl1
             go_wp2
             go_ret
             exact ⟨rfl,BF.out⟩
         · obtain rfl:=HNO.out (m.number≤65535) (fun q=>q.n1) p3
           have d3:decide ((65535:Int)<m.number)=true:=by simpa using p3
           clear p0 p1 p2 p3
           clear HB HNO HF
           generalize m.row=X at *
           generalize m.kind=kd at *
           generalize m.expiry=ex at *
           generalize m.number=nu at *
           generalize m.amount=am at *
           go_enter Tryz.func100,Tryz.ntmps100
           go_wp2_with (first | (rw [HN.out,HV.out]) | fail)
           refine (FA.out).mono ?_
           rintro e w1 ⟨v,rfl,fl1,b1⟩
           obtain ⟨x0,x3,x36,x37⟩:=CELL.out w1 (RV.out.below b1 (by omega))
           have BF:=Lib.hid (BV.out.trans (b1.mono (by omega)))
           clear b1 fl1
           go_wp2
           go_ret
           exact ⟨rfl,BF.out⟩
     · obtain rfl:=HNO.out (m.expiry≤1073741824) (fun q=>q.e1) p1
       have d1:decide ((1073741824:Int)<m.expiry)=true:=by simpa using p1
       clear p0 p1
       clear HB HNO HF
       generalize m.row=X at *
       generalize m.kind=kd at *
       generalize m.expiry=ex at *
       generalize m.number=nu at *
       generalize m.amount=am at *
       go_enter Tryz.func100,Tryz.ntmps100
       go_wp2_with (first | (rw [HN.out,HV.out]) | fail)
       refine (FA.out).mono ?_
       rintro e w1 ⟨v,rfl,fl1,b1⟩
       obtain ⟨x0,x3,x36,x37⟩:=CELL.out w1 (RV.out.below b1 (by omega))
       have BF:=Lib.hid (BV.out.trans (b1.mono (by omega)))
       clear b1 fl1
       go_wp2
       go_ret
       exact ⟨rfl,BF.out⟩
end Go.Proofs.YtdebnbgjgkbmaaaGreatDoor.Wi
namespace Go.Proofs.YtdebnbgjgkbmaaaGreatDoor.Wi
open Go.Proofs.YtdebnbgjgkbmaaaGreatDoor.Oc
open Go.RowKit Go.Shelf
set_option linter.unusedVariables false
theorem u64_in (x:Int) (h:0≤x∧x≤18446744073709551615):IntKind.u64.wrap x=x:=by
 rw [IntKind.wrap_u64];omega
theorem must_ok (w:World):Calls Tryz.prog 104 #[.int .i64 0] w fun e w'=>e=.returned (.tuple #[])∧w=w':=by
 go_enter Tryz.func104,Tryz.ntmps104
 go_wp2
 go_end0
 exact ⟨rfl,rfl⟩
def DidW (b p:Nat) (R:Array Value) (s:ByteArray) (W:World) (e:Ending) (W':World):Prop:=e=.returned (.tuple #[])∧M.RowAt W' b 59 R∧M.RowAt W' p 207 #[.string s]∧M.But p W W'
theorem row_at {W:World} {p:Nat} {t:TypeId} {s:ByteArray} (h:M.RowAt W p t #[.string s]):At W ⟨p,0,none⟩ s:=⟨(h.cell 0).trans rfl,h.frozen 0⟩
theorem row_written {w w':World} {p:Nat} {t:TypeId} {s u:ByteArray} (h:M.RowAt w p t #[.string s]) (hb:Below w.heap.size (w.setCell ⟨p,0,none⟩ (.string u)) w'):M.RowAt w' p t #[.string u]:=(h.set 0 (.string u)).below hb h.lt
theorem but_written {W W':World} {p:Nat} {x:Value} (h:Below W.heap.size (W.setCell ⟨p,0,none⟩ x) W'):M.But p W W':=
 ((M.But.refl p W).set (p:=⟨p,0,none⟩) (.inl rfl) x).trans (M.But.ofBelow p (by simpa [World.setCell] using h))
theorem numE_ok {n:Int} {wd:Int} (h1:1≤wd) (h8:wd≤8) (h0:0≤n) (h:n<2 ^ (8*wd).toNat):numE n wd=0:=by
 unfold numE
 rw [if_neg]
 rintro (q | q | q)
 · omega
 · omega
 · exact q (Int.ediv_eq_zero_of_lt h0 h)
set_option maxRecDepth 100000 in
set_option maxHeartbeats 2000000 in
theorem w_id (m:Msg) (h32:m.hash.length=32) (a c b p:Nat) (s:ByteArray) (W:World) (ra:M.RowAt W a 315 #[.func (.func 189) #[] #[]]) (rc:M.RowAt W c 3 #[.int .i64 8]) (rb:M.RowAt W b 59 m.row) (hat:M.RowAt W p 207 #[.string s]) (hpb:p≠b)
 (hs:s.size≤4611686018427387904) (h0:0≤m.id) (hw:m.id≤18446744073709551615) (hf:m.id<2 ^ (8*(8:Int)).toNat) :
 Calls Tryz.prog 265 #[.agg #[.pointer (some ⟨p,0,none⟩),.pointer none],.pointer (some ⟨b,0,none⟩),.pointer (some ⟨a,0,none⟩),.pointer (some ⟨c,0,none⟩)] W (DidW b p m.row (s++strOfNums (numB m.id 8)) W):=by
 obtain ⟨q,hq⟩:∃ q,W.heap.size=q:=⟨_,rfl⟩
 obtain ⟨V,hV⟩:∃ V,W.alloc (.cells #[.pointer (some ⟨p,0,none⟩),.pointer none] 212)=V:=⟨_,rfl⟩
 have rn:M.RowAt V q 212 #[.pointer (some ⟨p,0,none⟩),.pointer none]:=by rw [←hV,← hq];exact M.RowAt.new W 212 _
 have ra':M.RowAt V a 315 #[.func (.func 189) #[] #[]]:=by rw [←hV];exact ra.alloc _
 have rc':M.RowAt V c 3 #[.int .i64 8]:=by rw [←hV];exact rc.alloc _
 have rb':M.RowAt V b 59 m.row:=by rw [←hV];exact rb.alloc _
 have bV:M.But p W V:=by rw [←hV];exact (M.But.refl _ _).alloc _
 have atV:M.RowAt V p 207 #[.string s]:=by rw [←hV];exact hat.alloc _
 have a0:=(ra'.cell 0).trans rfl
 have n0:=(rn.cell 0).trans rfl;have n1:=(rn.cell 1).trans rfl
 have c0:=(rc'.cell 0).trans rfl
 have m0:=(rb'.cell 2).trans (Msg.g2)
 have num:∀ x,x=V.drew→Calls Tryz.prog 105 #[.pointer (some ⟨p,0,none⟩),.int .u64 m.id,.int .i64 8] x fun e x'=>e=.returned (.int .i64 0)∧DidW b p m.row (s++strOfNums (numB m.id 8)) W (.returned (.tuple #[])) x':=by
  rintro x rfl
  refine (number_any m.id 8 ⟨p,0,none⟩ s V.drew h0 hw hs (row_at atV.drew)).mono ?_
  rintro e x' ⟨rfl,hb⟩
  rw [numE_ok (by decide) (by decide) h0 hf]
  have hbut:=but_written hb
  exact ⟨rfl,rfl,hbut.row rb'.drew (fun e=>hpb e.symm),row_written atV.drew hb,bV.trans ((M.But.refl p V).drew.trans hbut)⟩
 have mu:=fun x=>must_ok x
 have HQ:=Lib.hid hq;have HV:=Lib.hid hV;have NUM:=Lib.hid num;have MU:=Lib.hid mu
 obtain ⟨U,hU⟩:∃ U,V.drew=U:=⟨_,rfl⟩
 have u0:U.cell? ⟨q,0,none⟩=some (.pointer (some ⟨p,0,none⟩)):=by rw [←hU];exact n0
 have u1:U.cell? ⟨b,2,none⟩=some (.int .u64 m.id):=by rw [←hU];exact m0
 have u2:U.cell? ⟨c,0,none⟩=some (.int .i64 8):=by rw [←hU];exact c0
 rw [hU] at NUM
 have HU:=Lib.hid hU
 generalize DidW b p m.row (s++strOfNums (numB m.id 8)) W=DD at *
 clear hq hV rn ra' rc' rb' bV ra rc rb hat atV num mu hU hw hf h0
 go_enter Tryz.func265,Tryz.ntmps265
 go_wp2_with (first | (rw [HQ.out,HV.out]) | go_in)
 refine QT.wp_region_p 6 (fun x=>x=U) (fun x=>DD (.returned (.tuple #[])) x) (by kernel_rfl) (by kernel_rfl) HU.out ?_
 iterate 8
  (refine QT.wpQ_step (fun K hK=>?_)
   go_simp
   first
    | (refine hK _ ?_;clear hK K)
    | (refine ⟨?_,hK _ ?_⟩;decide;clear hK K)
    | ((first | (apply Exists.intro;refine ⟨?_,hK _ ?_⟩) | refine ⟨⟨undef,?_⟩,hK _ ?_⟩)
       first
        | (apply QT.al_p;decide;(focus (intro wq hq;(first | (have e:=hq;simp only at e;subst e) | skip);first | (fail) | (unfold QP.oat;go_simp;first | done | exact ⟨by assumption,rfl⟩ | exact rfl | assumption | (first | ((with_reducible refine (NUM.out _ rfl).mono ?_);rintro e w' ⟨rfl,h'⟩;exact ⟨rfl,h'⟩) | ((with_reducible refine (MU.out _).mono ?_);rintro e w' ⟨rfl,rfl⟩;exact ⟨rfl,hq⟩))))))
        | (apply QT.al_dep;decide;decide;(focus (intro wq hq;(first | (have e:=hq;simp only at e;subst e) | skip);first | (fail) | (unfold QP.oat;go_simp;first | done | exact ⟨by assumption,rfl⟩ | exact rfl | assumption | (first | ((with_reducible refine (NUM.out _ rfl).mono ?_);rintro e w' ⟨rfl,h'⟩;exact ⟨rfl,h'⟩) | ((with_reducible refine (MU.out _).mono ?_);rintro e w' ⟨rfl,rfl⟩;exact ⟨rfl,hq⟩))))))
        | (apply QT.al_bef;decide;decide;(focus (intro wq hq;(first | (have e:=hq;simp only at e;subst e) | skip);first | (fail) | (unfold QP.oat;go_simp;first | done | exact ⟨by assumption,rfl⟩ | exact rfl | assumption | (first | ((with_reducible refine (NUM.out _ rfl).mono ?_);rintro e w' ⟨rfl,h'⟩;exact ⟨rfl,h'⟩) | ((with_reducible refine (MU.out _).mono ?_);rintro e w' ⟨rfl,rfl⟩;exact ⟨rfl,hq⟩))))))
        | (apply QT.al_ok;decide;(focus (intro wq hq;(first | (have e:=hq;simp only at e;subst e) | skip);first | (fail) | (unfold QP.oat;go_simp;first | done | exact ⟨by assumption,rfl⟩ | exact rfl | assumption | (first | ((with_reducible refine (NUM.out _ rfl).mono ?_);rintro e w' ⟨rfl,h'⟩;exact ⟨rfl,h'⟩) | ((with_reducible refine (MU.out _).mono ?_);rintro e w' ⟨rfl,rfl⟩;exact ⟨rfl,hq⟩)))));(focus (intro wq hq;(first | (have e:=hq;simp only at e;subst e) | skip);first | (fail) | (unfold QP.oat;go_simp;first | done | exact ⟨by assumption,rfl⟩ | exact rfl | assumption | (first | ((with_reducible refine (NUM.out _ rfl).mono ?_);rintro e w' ⟨rfl,h'⟩;exact ⟨rfl,h'⟩) | ((with_reducible refine (MU.out _).mono ?_);rintro e w' ⟨rfl,rfl⟩;exact ⟨rfl,hq⟩))))))
       clear hK K))
 refine QT.wpQ_nil ?_
 intro wz bz
 go_wp2
 go_end0
 exact bz
set_option maxRecDepth 100000 in
set_option maxHeartbeats 2000000 in
theorem w_amount (m:Msg) (h32:m.hash.length=32) (a c b p:Nat) (s:ByteArray) (W:World) (ra:M.RowAt W a 315 #[.func (.func 190) #[] #[]]) (rc:M.RowAt W c 3 #[.int .i64 8]) (rb:M.RowAt W b 59 m.row) (hat:M.RowAt W p 207 #[.string s]) (hpb:p≠b)
 (hs:s.size≤4611686018427387904) (h0:0≤m.amount) (hw:m.amount≤18446744073709551615) (hf:m.amount<2 ^ (8*(8:Int)).toNat) :
 Calls Tryz.prog 265 #[.agg #[.pointer (some ⟨p,0,none⟩),.pointer none],.pointer (some ⟨b,0,none⟩),.pointer (some ⟨a,0,none⟩),.pointer (some ⟨c,0,none⟩)] W (DidW b p m.row (s++strOfNums (numB m.amount 8)) W):=by
 obtain ⟨q,hq⟩:∃ q,W.heap.size=q:=⟨_,rfl⟩
 obtain ⟨V,hV⟩:∃ V,W.alloc (.cells #[.pointer (some ⟨p,0,none⟩),.pointer none] 212)=V:=⟨_,rfl⟩
 have rn:M.RowAt V q 212 #[.pointer (some ⟨p,0,none⟩),.pointer none]:=by rw [←hV,← hq];exact M.RowAt.new W 212 _
 have ra':M.RowAt V a 315 #[.func (.func 190) #[] #[]]:=by rw [←hV];exact ra.alloc _
 have rc':M.RowAt V c 3 #[.int .i64 8]:=by rw [←hV];exact rc.alloc _
 have rb':M.RowAt V b 59 m.row:=by rw [←hV];exact rb.alloc _
 have bV:M.But p W V:=by rw [←hV];exact (M.But.refl _ _).alloc _
 have atV:M.RowAt V p 207 #[.string s]:=by rw [←hV];exact hat.alloc _
 have a0:=(ra'.cell 0).trans rfl
 have n0:=(rn.cell 0).trans rfl;have n1:=(rn.cell 1).trans rfl
 have c0:=(rc'.cell 0).trans rfl
 have m0:=(rb'.cell 3).trans (Msg.g3)
 have num:∀ x,x=V.drew→Calls Tryz.prog 105 #[.pointer (some ⟨p,0,none⟩),.int .u64 m.amount,.int .i64 8] x fun e x'=>e=.returned (.int .i64 0)∧DidW b p m.row (s++strOfNums (numB m.amount 8)) W (.returned (.tuple #[])) x':=by
  rintro x rfl
  refine (number_any m.amount 8 ⟨p,0,none⟩ s V.drew h0 hw hs (row_at atV.drew)).mono ?_
  rintro e x' ⟨rfl,hb⟩
  rw [numE_ok (by decide) (by decide) h0 hf]
  have hbut:=but_written hb
  exact ⟨rfl,rfl,hbut.row rb'.drew (fun e=>hpb e.symm),row_written atV.drew hb,bV.trans ((M.But.refl p V).drew.trans hbut)⟩
 have mu:=fun x=>must_ok x
 have HQ:=Lib.hid hq;have HV:=Lib.hid hV;have NUM:=Lib.hid num;have MU:=Lib.hid mu
 obtain ⟨U,hU⟩:∃ U,V.drew=U:=⟨_,rfl⟩
 have u0:U.cell? ⟨q,0,none⟩=some (.pointer (some ⟨p,0,none⟩)):=by rw [←hU];exact n0
 have u1:U.cell? ⟨b,3,none⟩=some (.int .u64 m.amount):=by rw [←hU];exact m0
 have u2:U.cell? ⟨c,0,none⟩=some (.int .i64 8):=by rw [←hU];exact c0
 rw [hU] at NUM
 have HU:=Lib.hid hU
 generalize DidW b p m.row (s++strOfNums (numB m.amount 8)) W=DD at *
 clear hq hV rn ra' rc' rb' bV ra rc rb hat atV num mu hU hw hf h0
 go_enter Tryz.func265,Tryz.ntmps265
 go_wp2_with (first | (rw [HQ.out,HV.out]) | go_in)
 refine QT.wp_region_p 6 (fun x=>x=U) (fun x=>DD (.returned (.tuple #[])) x) (by kernel_rfl) (by kernel_rfl) HU.out ?_
 iterate 8
  (refine QT.wpQ_step (fun K hK=>?_)
   go_simp
   first
    | (refine hK _ ?_;clear hK K)
    | (refine ⟨?_,hK _ ?_⟩;decide;clear hK K)
    | ((first | (apply Exists.intro;refine ⟨?_,hK _ ?_⟩) | refine ⟨⟨undef,?_⟩,hK _ ?_⟩)
       first
        | (apply QT.al_p;decide;(focus (intro wq hq;(first | (have e:=hq;simp only at e;subst e) | skip);first | (fail) | (unfold QP.oat;go_simp;first | done | exact ⟨by assumption,rfl⟩ | exact rfl | assumption | (first | ((with_reducible refine (NUM.out _ rfl).mono ?_);rintro e w' ⟨rfl,h'⟩;exact ⟨rfl,h'⟩) | ((with_reducible refine (MU.out _).mono ?_);rintro e w' ⟨rfl,rfl⟩;exact ⟨rfl,hq⟩))))))
        | (apply QT.al_dep;decide;decide;(focus (intro wq hq;(first | (have e:=hq;simp only at e;subst e) | skip);first | (fail) | (unfold QP.oat;go_simp;first | done | exact ⟨by assumption,rfl⟩ | exact rfl | assumption | (first | ((with_reducible refine (NUM.out _ rfl).mono ?_);rintro e w' ⟨rfl,h'⟩;exact ⟨rfl,h'⟩) | ((with_reducible refine (MU.out _).mono ?_);rintro e w' ⟨rfl,rfl⟩;exact ⟨rfl,hq⟩))))))
        | (apply QT.al_bef;decide;decide;(focus (intro wq hq;(first | (have e:=hq;simp only at e;subst e) | skip);first | (fail) | (unfold QP.oat;go_simp;first | done | exact ⟨by assumption,rfl⟩ | exact rfl | assumption | (first | ((with_reducible refine (NUM.out _ rfl).mono ?_);rintro e w' ⟨rfl,h'⟩;exact ⟨rfl,h'⟩) | ((with_reducible refine (MU.out _).mono ?_);rintro e w' ⟨rfl,rfl⟩;exact ⟨rfl,hq⟩))))))
        | (apply QT.al_ok;decide;(focus (intro wq hq;(first | (have e:=hq;simp only at e;subst e) | skip);first | (fail) | (unfold QP.oat;go_simp;first | done | exact ⟨by assumption,rfl⟩ | exact rfl | assumption | (first | ((with_reducible refine (NUM.out _ rfl).mono ?_);rintro e w' ⟨rfl,h'⟩;exact ⟨rfl,h'⟩) | ((with_reducible refine (MU.out _).mono ?_);rintro e w' ⟨rfl,rfl⟩;exact ⟨rfl,hq⟩)))));(focus (intro wq hq;(first | (have e:=hq;simp only at e;subst e) | skip);first | (fail) | (unfold QP.oat;go_simp;first | done | exact ⟨by assumption,rfl⟩ | exact rfl | assumption | (first | ((with_reducible refine (NUM.out _ rfl).mono ?_);rintro e w' ⟨rfl,h'⟩;exact ⟨rfl,h'⟩) | ((with_reducible refine (MU.out _).mono ?_);rintro e w' ⟨rfl,rfl⟩;exact ⟨rfl,hq⟩))))))
       clear hK K))
 refine QT.wpQ_nil ?_
 intro wz bz
 go_wp2
 go_end0
 exact bz
set_option maxRecDepth 100000 in
set_option maxHeartbeats 2000000 in
theorem w_expiry (m:Msg) (h32:m.hash.length=32) (a c b p:Nat) (s:ByteArray) (W:World) (ra:M.RowAt W a 318 #[.func (.func 192) #[] #[]]) (rc:M.RowAt W c 3 #[.int .i64 4]) (rb:M.RowAt W b 59 m.row) (hat:M.RowAt W p 207 #[.string s]) (hpb:p≠b)
 (hs:s.size≤4611686018427387904) (h0:0≤m.expiry) (hw:m.expiry≤18446744073709551615) (hf:m.expiry<2 ^ (8*(4:Int)).toNat) :
 Calls Tryz.prog 266 #[.agg #[.pointer (some ⟨p,0,none⟩),.pointer none],.pointer (some ⟨b,0,none⟩),.pointer (some ⟨a,0,none⟩),.pointer (some ⟨c,0,none⟩)] W (DidW b p m.row (s++strOfNums (numB m.expiry 4)) W):=by
 obtain ⟨q,hq⟩:∃ q,W.heap.size=q:=⟨_,rfl⟩
 obtain ⟨V,hV⟩:∃ V,W.alloc (.cells #[.pointer (some ⟨p,0,none⟩),.pointer none] 212)=V:=⟨_,rfl⟩
 have rn:M.RowAt V q 212 #[.pointer (some ⟨p,0,none⟩),.pointer none]:=by rw [←hV,← hq];exact M.RowAt.new W 212 _
 have ra':M.RowAt V a 318 #[.func (.func 192) #[] #[]]:=by rw [←hV];exact ra.alloc _
 have rc':M.RowAt V c 3 #[.int .i64 4]:=by rw [←hV];exact rc.alloc _
 have rb':M.RowAt V b 59 m.row:=by rw [←hV];exact rb.alloc _
 have bV:M.But p W V:=by rw [←hV];exact (M.But.refl _ _).alloc _
 have atV:M.RowAt V p 207 #[.string s]:=by rw [←hV];exact hat.alloc _
 have a0:=(ra'.cell 0).trans rfl
 have n0:=(rn.cell 0).trans rfl;have n1:=(rn.cell 1).trans rfl
 have c0:=(rc'.cell 0).trans rfl
 have m0:=(rb'.cell 36).trans (Msg.g36 h32)
 have num:∀ x,x=V.drew→Calls Tryz.prog 105 #[.pointer (some ⟨p,0,none⟩),.int .u64 m.expiry,.int .i64 4] x fun e x'=>e=.returned (.int .i64 0)∧DidW b p m.row (s++strOfNums (numB m.expiry 4)) W (.returned (.tuple #[])) x':=by
  rintro x rfl
  refine (number_any m.expiry 4 ⟨p,0,none⟩ s V.drew h0 hw hs (row_at atV.drew)).mono ?_
  rintro e x' ⟨rfl,hb⟩
  rw [numE_ok (by decide) (by decide) h0 hf]
  have hbut:=but_written hb
  exact ⟨rfl,rfl,hbut.row rb'.drew (fun e=>hpb e.symm),row_written atV.drew hb,bV.trans ((M.But.refl p V).drew.trans hbut)⟩
 have mu:=fun x=>must_ok x
 have cw:IntKind.u64.wrap m.expiry=m.expiry:=u64_in _ (by omega)
 have HQ:=Lib.hid hq;have HV:=Lib.hid hV;have NUM:=Lib.hid num;have MU:=Lib.hid mu
 obtain ⟨U,hU⟩:∃ U,V.drew=U:=⟨_,rfl⟩
 have u0:U.cell? ⟨q,0,none⟩=some (.pointer (some ⟨p,0,none⟩)):=by rw [←hU];exact n0
 have u1:U.cell? ⟨b,36,none⟩=some (.int .i64 m.expiry):=by rw [←hU];exact m0
 have u2:U.cell? ⟨c,0,none⟩=some (.int .i64 4):=by rw [←hU];exact c0
 rw [hU] at NUM
 have HU:=Lib.hid hU
 generalize DidW b p m.row (s++strOfNums (numB m.expiry 4)) W=DD at *
 clear hq hV rn ra' rc' rb' bV ra rc rb hat atV num mu hU hw hf h0
 go_enter Tryz.func266,Tryz.ntmps266
 go_wp2_with (first | (rw [HQ.out,HV.out]) | go_in)
 refine QT.wp_region_p 7 (fun x=>x=U) (fun x=>DD (.returned (.tuple #[])) x) (by kernel_rfl) (by kernel_rfl) HU.out ?_
 iterate 9
  (refine QT.wpQ_step (fun K hK=>?_)
   go_simp
   first
    | (refine hK _ ?_;clear hK K)
    | (refine ⟨?_,hK _ ?_⟩;decide;clear hK K)
    | ((first | (apply Exists.intro;refine ⟨?_,hK _ ?_⟩) | refine ⟨⟨undef,?_⟩,hK _ ?_⟩)
       first
        | (apply QT.al_p;decide;(focus (intro wq hq;(first | (have e:=hq;simp only at e;subst e) | skip);first | (fail) | (unfold QP.oat;go_simp;first | done | exact ⟨by assumption,rfl⟩ | exact rfl | assumption | (first | ((with_reducible refine (NUM.out _ rfl).mono ?_);rintro e w' ⟨rfl,h'⟩;exact ⟨rfl,h'⟩) | ((with_reducible refine (MU.out _).mono ?_);rintro e w' ⟨rfl,rfl⟩;exact ⟨rfl,hq⟩))))))
        | (apply QT.al_dep;decide;decide;(focus (intro wq hq;(first | (have e:=hq;simp only at e;subst e) | skip);first | (fail) | (unfold QP.oat;go_simp;first | done | exact ⟨by assumption,rfl⟩ | exact rfl | assumption | (first | ((with_reducible refine (NUM.out _ rfl).mono ?_);rintro e w' ⟨rfl,h'⟩;exact ⟨rfl,h'⟩) | ((with_reducible refine (MU.out _).mono ?_);rintro e w' ⟨rfl,rfl⟩;exact ⟨rfl,hq⟩))))))
        | (apply QT.al_bef;decide;decide;(focus (intro wq hq;(first | (have e:=hq;simp only at e;subst e) | skip);first | (fail) | (unfold QP.oat;go_simp;first | done | exact ⟨by assumption,rfl⟩ | exact rfl | assumption | (first | ((with_reducible refine (NUM.out _ rfl).mono ?_);rintro e w' ⟨rfl,h'⟩;exact ⟨rfl,h'⟩) | ((with_reducible refine (MU.out _).mono ?_);rintro e w' ⟨rfl,rfl⟩;exact ⟨rfl,hq⟩))))))
        | (apply QT.al_ok;decide;(focus (intro wq hq;(first | (have e:=hq;simp only at e;subst e) | skip);first | (fail) | (unfold QP.oat;go_simp;first | done | exact ⟨by assumption,rfl⟩ | exact rfl | assumption | (first | ((with_reducible refine (NUM.out _ rfl).mono ?_);rintro e w' ⟨rfl,h'⟩;exact ⟨rfl,h'⟩) | ((with_reducible refine (MU.out _).mono ?_);rintro e w' ⟨rfl,rfl⟩;exact ⟨rfl,hq⟩)))));(focus (intro wq hq;(first | (have e:=hq;simp only at e;subst e) | skip);first | (fail) | (unfold QP.oat;go_simp;first | done | exact ⟨by assumption,rfl⟩ | exact rfl | assumption | (first | ((with_reducible refine (NUM.out _ rfl).mono ?_);rintro e w' ⟨rfl,h'⟩;exact ⟨rfl,h'⟩) | ((with_reducible refine (MU.out _).mono ?_);rintro e w' ⟨rfl,rfl⟩;exact ⟨rfl,hq⟩))))))
       clear hK K))
 refine QT.wpQ_nil ?_
 intro wz bz
 go_wp2
 go_end0
 exact bz
set_option maxRecDepth 100000 in
set_option maxHeartbeats 2000000 in
theorem w_number (m:Msg) (h32:m.hash.length=32) (a c b p:Nat) (s:ByteArray) (W:World) (ra:M.RowAt W a 318 #[.func (.func 193) #[] #[]]) (rc:M.RowAt W c 3 #[.int .i64 2]) (rb:M.RowAt W b 59 m.row) (hat:M.RowAt W p 207 #[.string s]) (hpb:p≠b)
 (hs:s.size≤4611686018427387904) (h0:0≤m.number) (hw:m.number≤18446744073709551615) (hf:m.number<2 ^ (8*(2:Int)).toNat) :
 Calls Tryz.prog 266 #[.agg #[.pointer (some ⟨p,0,none⟩),.pointer none],.pointer (some ⟨b,0,none⟩),.pointer (some ⟨a,0,none⟩),.pointer (some ⟨c,0,none⟩)] W (DidW b p m.row (s++strOfNums (numB m.number 2)) W):=by
 obtain ⟨q,hq⟩:∃ q,W.heap.size=q:=⟨_,rfl⟩
 obtain ⟨V,hV⟩:∃ V,W.alloc (.cells #[.pointer (some ⟨p,0,none⟩),.pointer none] 212)=V:=⟨_,rfl⟩
 have rn:M.RowAt V q 212 #[.pointer (some ⟨p,0,none⟩),.pointer none]:=by rw [←hV,← hq];exact M.RowAt.new W 212 _
 have ra':M.RowAt V a 318 #[.func (.func 193) #[] #[]]:=by rw [←hV];exact ra.alloc _
 have rc':M.RowAt V c 3 #[.int .i64 2]:=by rw [←hV];exact rc.alloc _
 have rb':M.RowAt V b 59 m.row:=by rw [←hV];exact rb.alloc _
 have bV:M.But p W V:=by rw [←hV];exact (M.But.refl _ _).alloc _
 have atV:M.RowAt V p 207 #[.string s]:=by rw [←hV];exact hat.alloc _
 have a0:=(ra'.cell 0).trans rfl
 have n0:=(rn.cell 0).trans rfl;have n1:=(rn.cell 1).trans rfl
 have c0:=(rc'.cell 0).trans rfl
 have m0:=(rb'.cell 37).trans (Msg.g37 h32)
 have num:∀ x,x=V.drew→Calls Tryz.prog 105 #[.pointer (some ⟨p,0,none⟩),.int .u64 m.number,.int .i64 2] x fun e x'=>e=.returned (.int .i64 0)∧DidW b p m.row (s++strOfNums (numB m.number 2)) W (.returned (.tuple #[])) x':=by
  rintro x rfl
  refine (number_any m.number 2 ⟨p,0,none⟩ s V.drew h0 hw hs (row_at atV.drew)).mono ?_
  rintro e x' ⟨rfl,hb⟩
  rw [numE_ok (by decide) (by decide) h0 hf]
  have hbut:=but_written hb
  exact ⟨rfl,rfl,hbut.row rb'.drew (fun e=>hpb e.symm),row_written atV.drew hb,bV.trans ((M.But.refl p V).drew.trans hbut)⟩
 have mu:=fun x=>must_ok x
 have cw:IntKind.u64.wrap m.number=m.number:=u64_in _ (by omega)
 have HQ:=Lib.hid hq;have HV:=Lib.hid hV;have NUM:=Lib.hid num;have MU:=Lib.hid mu
 obtain ⟨U,hU⟩:∃ U,V.drew=U:=⟨_,rfl⟩
 have u0:U.cell? ⟨q,0,none⟩=some (.pointer (some ⟨p,0,none⟩)):=by rw [←hU];exact n0
 have u1:U.cell? ⟨b,37,none⟩=some (.int .i64 m.number):=by rw [←hU];exact m0
 have u2:U.cell? ⟨c,0,none⟩=some (.int .i64 2):=by rw [←hU];exact c0
 rw [hU] at NUM
 have HU:=Lib.hid hU
 generalize DidW b p m.row (s++strOfNums (numB m.number 2)) W=DD at *
 clear hq hV rn ra' rc' rb' bV ra rc rb hat atV num mu hU hw hf h0
 go_enter Tryz.func266,Tryz.ntmps266
 go_wp2_with (first | (rw [HQ.out,HV.out]) | go_in)
 refine QT.wp_region_p 7 (fun x=>x=U) (fun x=>DD (.returned (.tuple #[])) x) (by kernel_rfl) (by kernel_rfl) HU.out ?_
 iterate 9
  (refine QT.wpQ_step (fun K hK=>?_)
   go_simp
   first
    | (refine hK _ ?_;clear hK K)
    | (refine ⟨?_,hK _ ?_⟩;decide;clear hK K)
    | ((first | (apply Exists.intro;refine ⟨?_,hK _ ?_⟩) | refine ⟨⟨undef,?_⟩,hK _ ?_⟩)
       first
        | (apply QT.al_p;decide;(focus (intro wq hq;(first | (have e:=hq;simp only at e;subst e) | skip);first | (fail) | (unfold QP.oat;go_simp;first | done | exact ⟨by assumption,rfl⟩ | exact rfl | assumption | (first | ((with_reducible refine (NUM.out _ rfl).mono ?_);rintro e w' ⟨rfl,h'⟩;exact ⟨rfl,h'⟩) | ((with_reducible refine (MU.out _).mono ?_);rintro e w' ⟨rfl,rfl⟩;exact ⟨rfl,hq⟩))))))
        | (apply QT.al_dep;decide;decide;(focus (intro wq hq;(first | (have e:=hq;simp only at e;subst e) | skip);first | (fail) | (unfold QP.oat;go_simp;first | done | exact ⟨by assumption,rfl⟩ | exact rfl | assumption | (first | ((with_reducible refine (NUM.out _ rfl).mono ?_);rintro e w' ⟨rfl,h'⟩;exact ⟨rfl,h'⟩) | ((with_reducible refine (MU.out _).mono ?_);rintro e w' ⟨rfl,rfl⟩;exact ⟨rfl,hq⟩))))))
        | (apply QT.al_bef;decide;decide;(focus (intro wq hq;(first | (have e:=hq;simp only at e;subst e) | skip);first | (fail) | (unfold QP.oat;go_simp;first | done | exact ⟨by assumption,rfl⟩ | exact rfl | assumption | (first | ((with_reducible refine (NUM.out _ rfl).mono ?_);rintro e w' ⟨rfl,h'⟩;exact ⟨rfl,h'⟩) | ((with_reducible refine (MU.out _).mono ?_);rintro e w' ⟨rfl,rfl⟩;exact ⟨rfl,hq⟩))))))
        | (apply QT.al_ok;decide;(focus (intro wq hq;(first | (have e:=hq;simp only at e;subst e) | skip);first | (fail) | (unfold QP.oat;go_simp;first | done | exact ⟨by assumption,rfl⟩ | exact rfl | assumption | (first | ((with_reducible refine (NUM.out _ rfl).mono ?_);rintro e w' ⟨rfl,h'⟩;exact ⟨rfl,h'⟩) | ((with_reducible refine (MU.out _).mono ?_);rintro e w' ⟨rfl,rfl⟩;exact ⟨rfl,hq⟩)))));(focus (intro wq hq;(first | (have e:=hq;simp only at e;subst e) | skip);first | (fail) | (unfold QP.oat;go_simp;first | done | exact ⟨by assumption,rfl⟩ | exact rfl | assumption | (first | ((with_reducible refine (NUM.out _ rfl).mono ?_);rintro e w' ⟨rfl,h'⟩;exact ⟨rfl,h'⟩) | ((with_reducible refine (MU.out _).mono ?_);rintro e w' ⟨rfl,rfl⟩;exact ⟨rfl,hq⟩))))))
       clear hK K))
 refine QT.wpQ_nil ?_
 intro wz bz
 go_wp2
 go_end0
 exact bz
set_option maxRecDepth 100000 in
set_option maxHeartbeats 2000000 in
theorem w_chan (m:Msg) (h32:m.hash.length=32) (a c b p:Nat) (s:ByteArray) (W:World) (ra:M.RowAt W a 379 #[.func (.func 268) #[] #[]]) (rc:M.RowAt W c 3 #[.int .i64 4]) (rb:M.RowAt W b 59 m.row) (hat:M.RowAt W p 207 #[.string s]) (hpb:p≠b)
 (hs:s.size≤4611686018427387904) (h0:0≤m.chan) (hw:m.chan≤18446744073709551615) (hf:m.chan<2 ^ (8*(4:Int)).toNat) :
 Calls Tryz.prog 306 #[.agg #[.pointer (some ⟨p,0,none⟩),.pointer none],.pointer (some ⟨b,0,none⟩),.pointer (some ⟨a,0,none⟩),.pointer (some ⟨c,0,none⟩)] W (DidW b p m.row (s++strOfNums (numB m.chan 4)) W):=by
 obtain ⟨q,hq⟩:∃ q,W.heap.size=q:=⟨_,rfl⟩
 obtain ⟨V,hV⟩:∃ V,W.alloc (.cells #[.pointer (some ⟨p,0,none⟩),.pointer none] 212)=V:=⟨_,rfl⟩
 have rn:M.RowAt V q 212 #[.pointer (some ⟨p,0,none⟩),.pointer none]:=by rw [←hV,← hq];exact M.RowAt.new W 212 _
 have ra':M.RowAt V a 379 #[.func (.func 268) #[] #[]]:=by rw [←hV];exact ra.alloc _
 have rc':M.RowAt V c 3 #[.int .i64 4]:=by rw [←hV];exact rc.alloc _
 have rb':M.RowAt V b 59 m.row:=by rw [←hV];exact rb.alloc _
 have bV:M.But p W V:=by rw [←hV];exact (M.But.refl _ _).alloc _
 have atV:M.RowAt V p 207 #[.string s]:=by rw [←hV];exact hat.alloc _
 have a0:=(ra'.cell 0).trans rfl
 have n0:=(rn.cell 0).trans rfl;have n1:=(rn.cell 1).trans rfl
 have c0:=(rc'.cell 0).trans rfl
 have m0:=(rb'.cell 1).trans (Msg.g1)
 have num:∀ x,x=V.drew→Calls Tryz.prog 105 #[.pointer (some ⟨p,0,none⟩),.int .u64 m.chan,.int .i64 4] x fun e x'=>e=.returned (.int .i64 0)∧DidW b p m.row (s++strOfNums (numB m.chan 4)) W (.returned (.tuple #[])) x':=by
  rintro x rfl
  refine (number_any m.chan 4 ⟨p,0,none⟩ s V.drew h0 hw hs (row_at atV.drew)).mono ?_
  rintro e x' ⟨rfl,hb⟩
  rw [numE_ok (by decide) (by decide) h0 hf]
  have hbut:=but_written hb
  exact ⟨rfl,rfl,hbut.row rb'.drew (fun e=>hpb e.symm),row_written atV.drew hb,bV.trans ((M.But.refl p V).drew.trans hbut)⟩
 have mu:=fun x=>must_ok x
 have cw:IntKind.u64.wrap m.chan=m.chan:=u64_in _ (by omega)
 have HQ:=Lib.hid hq;have HV:=Lib.hid hV;have NUM:=Lib.hid num;have MU:=Lib.hid mu
 obtain ⟨U,hU⟩:∃ U,V.drew=U:=⟨_,rfl⟩
 have u0:U.cell? ⟨q,0,none⟩=some (.pointer (some ⟨p,0,none⟩)):=by rw [←hU];exact n0
 have u1:U.cell? ⟨b,1,none⟩=some (.int .u32 m.chan):=by rw [←hU];exact m0
 have u2:U.cell? ⟨c,0,none⟩=some (.int .i64 4):=by rw [←hU];exact c0
 rw [hU] at NUM
 have HU:=Lib.hid hU
 generalize DidW b p m.row (s++strOfNums (numB m.chan 4)) W=DD at *
 clear hq hV rn ra' rc' rb' bV ra rc rb hat atV num mu hU hw hf h0
 go_enter Tryz.func306,Tryz.ntmps306
 go_wp2_with (first | (rw [HQ.out,HV.out]) | go_in)
 refine QT.wp_region_p 7 (fun x=>x=U) (fun x=>DD (.returned (.tuple #[])) x) (by kernel_rfl) (by kernel_rfl) HU.out ?_
 iterate 9
  (refine QT.wpQ_step (fun K hK=>?_)
   go_simp
   first
    | (refine hK _ ?_;clear hK K)
    | (refine ⟨?_,hK _ ?_⟩;decide;clear hK K)
    | ((first | (apply Exists.intro;refine ⟨?_,hK _ ?_⟩) | refine ⟨⟨undef,?_⟩,hK _ ?_⟩)
       first
        | (apply QT.al_p;decide;(focus (intro wq hq;(first | (have e:=hq;simp only at e;subst e) | skip);first | (fail) | (unfold QP.oat;go_simp;first | done | exact ⟨by assumption,rfl⟩ | exact rfl | assumption | (first | ((with_reducible refine (NUM.out _ rfl).mono ?_);rintro e w' ⟨rfl,h'⟩;exact ⟨rfl,h'⟩) | ((with_reducible refine (MU.out _).mono ?_);rintro e w' ⟨rfl,rfl⟩;exact ⟨rfl,hq⟩))))))
        | (apply QT.al_dep;decide;decide;(focus (intro wq hq;(first | (have e:=hq;simp only at e;subst e) | skip);first | (fail) | (unfold QP.oat;go_simp;first | done | exact ⟨by assumption,rfl⟩ | exact rfl | assumption | (first | ((with_reducible refine (NUM.out _ rfl).mono ?_);rintro e w' ⟨rfl,h'⟩;exact ⟨rfl,h'⟩) | ((with_reducible refine (MU.out _).mono ?_);rintro e w' ⟨rfl,rfl⟩;exact ⟨rfl,hq⟩))))))
        | (apply QT.al_bef;decide;decide;(focus (intro wq hq;(first | (have e:=hq;simp only at e;subst e) | skip);first | (fail) | (unfold QP.oat;go_simp;first | done | exact ⟨by assumption,rfl⟩ | exact rfl | assumption | (first | ((with_reducible refine (NUM.out _ rfl).mono ?_);rintro e w' ⟨rfl,h'⟩;exact ⟨rfl,h'⟩) | ((with_reducible refine (MU.out _).mono ?_);rintro e w' ⟨rfl,rfl⟩;exact ⟨rfl,hq⟩))))))
        | (apply QT.al_ok;decide;(focus (intro wq hq;(first | (have e:=hq;simp only at e;subst e) | skip);first | (fail) | (unfold QP.oat;go_simp;first | done | exact ⟨by assumption,rfl⟩ | exact rfl | assumption | (first | ((with_reducible refine (NUM.out _ rfl).mono ?_);rintro e w' ⟨rfl,h'⟩;exact ⟨rfl,h'⟩) | ((with_reducible refine (MU.out _).mono ?_);rintro e w' ⟨rfl,rfl⟩;exact ⟨rfl,hq⟩)))));(focus (intro wq hq;(first | (have e:=hq;simp only at e;subst e) | skip);first | (fail) | (unfold QP.oat;go_simp;first | done | exact ⟨by assumption,rfl⟩ | exact rfl | assumption | (first | ((with_reducible refine (NUM.out _ rfl).mono ?_);rintro e w' ⟨rfl,h'⟩;exact ⟨rfl,h'⟩) | ((with_reducible refine (MU.out _).mono ?_);rintro e w' ⟨rfl,rfl⟩;exact ⟨rfl,hq⟩))))))
       clear hK K))
 refine QT.wpQ_nil ?_
 intro wz bz
 go_wp2
 go_end0
 exact bz
set_option maxRecDepth 100000 in
set_option maxHeartbeats 2000000 in
theorem w_hash (m:Msg) (h32:m.hash.length=32) (b p:Nat) (s:ByteArray) (W:World) (rb:M.RowAt W b 59 m.row) (hat:M.RowAt W p 207 #[.string s]) (hpb:p≠b) (hs:s.size≤4611686018427387904) :
 Calls Tryz.prog 195 #[.agg #[.pointer (some ⟨p,0,none⟩),.pointer none],.pointer (some ⟨b,0,none⟩)] W (DidW b p m.row (s++strOfNums m.hash) W):=by
 obtain ⟨q,hq⟩:∃ q,W.heap.size=q:=⟨_,rfl⟩
 obtain ⟨V,hV⟩:∃ V,W.alloc (.cells #[.pointer (some ⟨p,0,none⟩),.pointer none] 212)=V:=⟨_,rfl⟩
 have rn:M.RowAt V q 212 #[.pointer (some ⟨p,0,none⟩),.pointer none]:=by rw [←hV,← hq];exact M.RowAt.new W 212 _
 have rb':M.RowAt V b 59 m.row:=by rw [←hV];exact rb.alloc _
 have bV:M.But p W V:=by rw [←hV];exact (M.But.refl _ _).alloc _
 have atV:M.RowAt V p 207 #[.string s]:=by rw [←hV];exact hat.alloc _
 have n0:=(rn.cell 0).trans rfl
 have num:∀ x,x=V.drew→Calls Tryz.prog 125 #[.pointer (some ⟨p,0,none⟩),hashV m.hash] x fun e x'=>e=.returned (.tuple #[])∧DidW b p m.row (s++strOfNums m.hash) W (.returned (.tuple #[])) x':=by
  rintro x rfl
  refine (whash_any m.hash ⟨p,0,none⟩ s V.drew h32 hs (row_at atV.drew)).mono ?_
  rintro e x' ⟨rfl,hb⟩
  have hbut:=but_written hb
  exact ⟨rfl,rfl,hbut.row rb'.drew (fun e=>hpb e.symm),row_written atV.drew hb,bV.trans ((M.But.refl p V).drew.trans hbut)⟩
 have HQ:=Lib.hid hq;have HV:=Lib.hid hV;have NUM:=Lib.hid num
 obtain ⟨U,hU⟩:∃ U,V.drew=U:=⟨_,rfl⟩
 have u0:U.cell? ⟨q,0,none⟩=some (.pointer (some ⟨p,0,none⟩)):=by rw [←hU];exact n0
 have rg:∀ x,x=U→x.rangeAt b 4 (ints m.hash):=by rintro x rfl;rw [←hU];exact Msg.range rb'.drew h32
 have cu:∀ x,x=U→x.cell? ⟨q,0,none⟩=some (.pointer (some ⟨p,0,none⟩)):=by rintro x rfl;exact u0
 have iH:(Tryz.prog.info? 47).map (·.size)=some (ints m.hash).length:=by rw [ints_len',h32];kernel_rfl
 rw [hU] at NUM
 have HU:=Lib.hid hU;have RG:=Lib.hid rg;have CU:=Lib.hid cu
 unfold hashV at NUM
 generalize DidW b p m.row (s++strOfNums m.hash) W=DD at *
 generalize ints m.hash=H at *
 clear hq hV rn rb' bV rb hat atV num hU rg cu
 go_enter Tryz.func195,Tryz.ntmps195
 go_wp2_with (first | (rw [HQ.out,HV.out]) | fail)
 refine QP.wp_region_p 6 (fun x=>x=U) (fun x=>DD (.returned (.tuple #[])) x) (by kernel_rfl) (by kernel_rfl) HU.out ?_
 iterate 7
  (refine QP.wpQ_step (fun K hK=>?_)
   go_simp
   first
    | (refine hK _ ?_;clear hK K)
    | (refine ⟨?_,hK _ ?_⟩;decide;clear hK K)
    | ((first | (apply Exists.intro;refine ⟨?_,hK _ ?_⟩) | refine ⟨⟨undef,?_⟩,hK _ ?_⟩)
       first
        | (apply QP.al_p;decide;(focus (intro wq hq;(first | (have y0:=CU.out _ hq) | skip);first | ((refine QP.oat_load_mid (ty:=47) (x:=.tmp 18) (b:=b) (off:=4) (cs:=H) ?_ ?_ _ (RG.out _ hq) Tryz.underlying47 rfl iH hq;rfl;rfl)) | (unfold QP.oat;go_simp;first | done | exact ⟨by assumption,rfl⟩ | exact rfl | assumption | (first | ((with_reducible refine (NUM.out _ hq).mono ?_);rintro e w' ⟨rfl,h'⟩;exact ⟨rfl,h'⟩) | ((with_reducible refine (NUM.out _ rfl).mono ?_);rintro e w' ⟨rfl,h'⟩;exact ⟨rfl,h'⟩))))))
        | (apply QP.al_dep;decide;decide;(focus (intro wq hq;(first | (have y0:=CU.out _ hq) | skip);first | ((refine QP.oat_load_mid (ty:=47) (x:=.tmp 18) (b:=b) (off:=4) (cs:=H) ?_ ?_ _ (RG.out _ hq) Tryz.underlying47 rfl iH hq;rfl;rfl)) | (unfold QP.oat;go_simp;first | done | exact ⟨by assumption,rfl⟩ | exact rfl | assumption | (first | ((with_reducible refine (NUM.out _ hq).mono ?_);rintro e w' ⟨rfl,h'⟩;exact ⟨rfl,h'⟩) | ((with_reducible refine (NUM.out _ rfl).mono ?_);rintro e w' ⟨rfl,h'⟩;exact ⟨rfl,h'⟩))))))
        | (apply QP.al_bef;decide;decide;(focus (intro wq hq;(first | (have y0:=CU.out _ hq) | skip);first | ((refine QP.oat_load_mid (ty:=47) (x:=.tmp 18) (b:=b) (off:=4) (cs:=H) ?_ ?_ _ (RG.out _ hq) Tryz.underlying47 rfl iH hq;rfl;rfl)) | (unfold QP.oat;go_simp;first | done | exact ⟨by assumption,rfl⟩ | exact rfl | assumption | (first | ((with_reducible refine (NUM.out _ hq).mono ?_);rintro e w' ⟨rfl,h'⟩;exact ⟨rfl,h'⟩) | ((with_reducible refine (NUM.out _ rfl).mono ?_);rintro e w' ⟨rfl,h'⟩;exact ⟨rfl,h'⟩))))))
        | (apply QP.al_ok;decide;(focus (intro wq hq;(first | (have y0:=CU.out _ hq) | skip);first | ((refine QP.oat_load_mid (ty:=47) (x:=.tmp 18) (b:=b) (off:=4) (cs:=H) ?_ ?_ _ (RG.out _ hq) Tryz.underlying47 rfl iH hq;rfl;rfl)) | (unfold QP.oat;go_simp;first | done | exact ⟨by assumption,rfl⟩ | exact rfl | assumption | (first | ((with_reducible refine (NUM.out _ hq).mono ?_);rintro e w' ⟨rfl,h'⟩;exact ⟨rfl,h'⟩) | ((with_reducible refine (NUM.out _ rfl).mono ?_);rintro e w' ⟨rfl,h'⟩;exact ⟨rfl,h'⟩)))));(focus (intro wq hq;(first | (have y0:=CU.out _ hq) | skip);first | ((refine QP.oat_load_mid (ty:=47) (x:=.tmp 18) (b:=b) (off:=4) (cs:=H) ?_ ?_ _ (RG.out _ hq) Tryz.underlying47 rfl iH hq;rfl;rfl)) | (unfold QP.oat;go_simp;first | done | exact ⟨by assumption,rfl⟩ | exact rfl | assumption | (first | ((with_reducible refine (NUM.out _ hq).mono ?_);rintro e w' ⟨rfl,h'⟩;exact ⟨rfl,h'⟩) | ((with_reducible refine (NUM.out _ rfl).mono ?_);rintro e w' ⟨rfl,h'⟩;exact ⟨rfl,h'⟩))))))
       clear hK K))
 refine QP.wpQ_nil ?_
 intro wz bz
 go_wp2
 go_end0
 exact bz
end Go.Proofs.YtdebnbgjgkbmaaaGreatDoor.Wi
namespace Go.Proofs.YtdebnbgjgkbmaaaGreatDoor.Wi
open Go.Proofs.YtdebnbgjgkbmaaaGreatDoor.Oc
open Go.RowKit Go.Shelf
set_option linter.unusedVariables false
def flt (ev:Int):PanicEntry:={ v:=.iface 322 (.agg #[.int .i64 ev]),recovered:=false }
theorem must_err (ev:Int) (hz:(ev==0)=false) (w:World):Calls Tryz.prog 104 #[.int .i64 ev] w fun e w'=>e=.panicked [flt ev]∧w=w':=by
 have hz':(ev != 0)=true:=by simpa using hz
 go_enter Tryz.func104,Tryz.ntmps104
 go_wp2
 exact ⟨rfl,rfl,rfl⟩
theorem ta_nil (w:World):(Instr.typeAssert .nilIface 20 322 true).run Tryz.prog w=.ok (.tuple #[.agg #[.int .i64 0],.bool false]) w:=by kernel_rfl
theorem ta_flt (ev:Int) (w:World):(Instr.typeAssert (.iface 322 (.agg #[.int .i64 ev])) 20 322 true).run Tryz.prog w=.ok (.tuple #[.agg #[.int .i64 ev],.bool true]) w:=by kernel_rfl
set_option maxRecDepth 100000 in
theorem tr_idle (p:Nat) (w:World) :
 CallsD Tryz.prog 196 #[.pointer (some ⟨p,0,none⟩)] .returning w fun e u' w'=>e=.returned (.tuple #[])∧u'=.returning∧Below w.heap.size w w':=by
 have t0:=ta_nil
 refine callsD_of_wpS Tryz.func196 rfl fun c₀ cs hu=>?_
 change Code.wpS Tryz.prog _ _ { tmps:=#[.pointer (some ⟨p,0,none⟩),undef,undef,undef,undef,undef,undef,undef,undef,undef,undef],defers:=[] } (c₀::cs) w
 apply wpS_seq
 apply wpS_region
 simp [wpOpsS,go_sem,recoverD,hu,Exit.thenS,t0]
 apply wpS_seq
 apply wpS_region
 simp [wpOpsS,go_sem,Exit.thenS]
 refine wpS_cond (t:=false) (by simp [Act.eval]) ?_
 simp only [Bool.false_eq_true,if_false]
 refine wpS_of_wp (wp_skip ?_)
 have hb:=(Below.refl w.heap.size w).alloc (Nat.le_refl _) (.cells #[.int .i64 0] 322)
 cases c₀
 simp_all [bodyPostS,results,Tryz.results196]
set_option maxRecDepth 100000 in
theorem tr_caught (p:Nat) (ev x:Int) (older:List PanicEntry) (w:World) (hc:w.cell? ⟨p,0,none⟩=some (.int .i64 x)) (hz:w.frozen? ⟨p,0,none⟩=false) :
 CallsD Tryz.prog 196 #[.pointer (some ⟨p,0,none⟩)] (.panicking (flt ev::older)) w fun e u' w'=>
  e=.returned (.tuple #[])∧u'=.panicking ({ flt ev with recovered:=true }::older)∧w'=(w.alloc (.cells #[.int .i64 ev] 322)).setCell ⟨p,0,none⟩ (.int .i64 ev):=by
 have t0:=ta_flt ev
 obtain ⟨V,hV⟩:∃ V,w.alloc (.cells #[.int .i64 ev] 322)=V:=⟨_,rfl⟩
 have c1:V.cell? ⟨p,0,none⟩=some (.int .i64 x):=by
  rw [←hV,((Below.refl w.heap.size w).alloc (Nat.le_refl _) _).cell (World.block_lt_of_cell? w _ hc)];exact hc
 have c2:V.frozen? ⟨p,0,none⟩=false:=by
  rw [←hV,((Below.refl w.heap.size w).alloc (Nat.le_refl _) _).frozen (World.block_lt_of_cell? w _ hc)];exact hz
 have c3:V.cell? ⟨w.heap.size,0,none⟩=some (.int .i64 ev):=by rw [←hV];exact ((M.RowAt.new w 322 #[.int .i64 ev]).cell 0).trans rfl
 refine callsD_of_wpS Tryz.func196 rfl fun c₀ cs hu=>?_
 change Code.wpS Tryz.prog _ _ { tmps:=#[.pointer (some ⟨p,0,none⟩),undef,undef,undef,undef,undef,undef,undef,undef,undef,undef],defers:=[] } (c₀::cs) w
 apply wpS_seq
 apply wpS_region
 simp [wpOpsS,go_sem,recoverD,hu,Exit.thenS,t0,flt,hV]
 apply wpS_seq
 apply wpS_region
 simp [wpOpsS,go_sem,Exit.thenS]
 refine wpS_cond (t:=true) (by simp [Act.eval]) ?_
 simp only [if_true]
 apply wpS_region
 simp [wpOpsS,go_sem,c1,c2,c3,bodyPostS,results,Tryz.results196]
end Go.Proofs.YtdebnbgjgkbmaaaGreatDoor.Wi
namespace Go.Proofs.YtdebnbgjgkbmaaaGreatDoor.Wi
open Go.Proofs.YtdebnbgjgkbmaaaGreatDoor.Oc
open Go.RowKit Go.Shelf
set_option linter.unusedVariables false
set_option maxRecDepth 100000 in
set_option maxHeartbeats 4000000 in
theorem try_any {g n cap:Nat} (fk:Nat→FuncId) (caps:Nat→Array Value) (W:World) (St:Nat→World→Prop) (Bd:Int→World→Prop) (hn:n≤8) (en:∀ k,k<n→Enters Tryz.prog (fk k))
 (hlist:∀ k X,k<n→St k X→X.cell? ⟨g,k,none⟩=some (.func (.func (fk k)) #[] (caps k)))
 (hst:∀ k X X' q,(k=0∨k=n)→W.heap.size≤q→M.But q X X'→St k X→St k X') (hbd:∀ ev X X' q,W.heap.size≤q→M.But q X X'→Bd ev X→Bd ev X')
 (step:∀ k,k<n→∀ X,St k X→Calls Tryz.prog (fk k) (caps k) X fun e X'=>(e=.returned (.tuple #[])∧St (k+1) X'∧Kp W.heap.size X X')∨(∃ ev,e=.panicked [flt ev]∧(ev==0)=false∧Bd ev X'∧Kp W.heap.size X X'))
 (h0:St 0 W) :
 Calls Tryz.prog 102 #[.slice (some ⟨g,0,none⟩) n cap] W fun e W'=>(e=.returned (.int .i64 0)∧St n W')∨(∃ ev,e=.returned (.int .i64 ev)∧(ev==0)=false∧Bd ev W'):=by
 obtain ⟨q,hq⟩:∃ q,W.heap.size=q:=⟨_,rfl⟩
 obtain ⟨V,hV⟩:∃ V,W.alloc (.cells #[.int .i64 0] 26)=V:=⟨_,rfl⟩
 have rn:M.RowAt V q 26 #[.int .i64 0]:=by rw [←hV,← hq];exact M.RowAt.new W 26 _
 rw [hq] at hst hbd step
 have s0:St 0 V:=hst 0 W V q (.inl rfl) (Nat.le_refl _) (by rw [←hV];exact (M.But.refl _ _).alloc _) h0
 have HQ:=Lib.hid hq;have HV:=Lib.hid hV;have RN:=Lib.hid rn;have S0:=Lib.hid s0
 have EN:=Lib.hid en;have HL:=Lib.hid hlist;have STEP:=Lib.hid step;have HST:=Lib.hid hst;have HBD:=Lib.hid hbd
 have hmf:=mkf
 clear en hlist step hst hbd h0 hq hV rn s0
 go_enter_defers Tryz.func102,Tryz.ntmps102
 go_wp2_with (rw [HQ.out,HV.out])
 go_loopg [8] n (fun m i X=>∃ (k:Nat),m+k=n∧i=.int .i64 k∧St k X∧M.RowAt X q 26 #[.int .i64 0])
 case atStart=>exact ⟨0,by omega,rfl,S0.out,RN.out⟩
 case round=>
  obtain ⟨k,hm,rfl,st,rq⟩:=hrel
  have HM:=Lib.hid hm
  clear hm
  by_cases hlt:k<n
  · have c0:=HL.out k _ hlt st
    have en:=EN.out k hlt
    have SK:=Lib.hid (STEP.out k hlt _ st)
    have RQ:=Lib.hid rq
    clear st rq
    generalize hfk:fk k=f at *
    generalize hcaps:caps k=cs at *
    go_wp2_with (first | (rw [en,Oper.upon_enter];refine (SK.out).mono ?_;rintro e w2 (⟨rfl,st2,kp2⟩ | ⟨ev,rfl,hz,hb,kp2⟩)) | fail)
    · go_roundg (n-(k+1))
      case measure=>have:=HM.out;omega
      case rel=>exact ⟨k+1,by have:=HM.out;omega,by go_num,st2,kp2 _ _ _ rfl (Nat.le_refl _) RQ.out⟩
    · have rq2:=kp2 _ _ _ rfl (Nat.le_refl _) RQ.out
      refine leaves_cons (f:=196) (args:=#[.pointer (some ⟨q,0,none⟩)]) (by simp) (by simp [go_sem]) ?_
      refine (tr_caught q ev 0 [] w2 ((rq2.cell 0).trans rfl) (rq2.frozen 0)).mono ?_
      rintro e u' w3 ⟨rfl,rfl,rfl⟩
      have r3:=(rq2.alloc (.cells #[.int .i64 ev] 322)).set 0 (.int .i64 ev)
      have c3:=(r3.cell 0).trans rfl
      have hb3:=HBD.out ev w2 _ q (Nat.le_refl _) (((M.But.refl q w2).alloc (.cells #[.int .i64 ev] 322)).set (p:=⟨q,0,none⟩) (.inl rfl) (.int .i64 ev)) hb
      obtain ⟨w4,hw4⟩:∃ w4,(w2.alloc (.cells #[.int .i64 ev] 322)).setCell ⟨q,0,none⟩ (.int .i64 ev)=w4:=⟨_,rfl⟩
      rw [hw4] at c3 hb3 ⊢
      have HB3:=Lib.hid hb3;have HZ:=Lib.hid hz
      clear r3 rq2 hw4 hb3 hb hz kp2
      simp [Leaves,settle,results,Tryz.results102,go_sem,c3]
      exact .inr ⟨by simpa using HZ.out,HB3.out⟩
  · obtain rfl:k=n:=by have:=HM.out;omega
    have f0:=rq.frozen 0
    have c0:=rq.cell 0
    have r2:=rq.set 0 (.int .i64 0)
    have c2:=(r2.cell 0).trans rfl
    have st2:=HST.out _ _ _ q (.inr rfl) (Nat.le_refl _) ((M.But.refl q _).set (p:=⟨q,0,none⟩) (.inl rfl) (.int .i64 0)) st
    have ST2:=Lib.hid st2;have R2:=Lib.hid r2
    clear rq st st2 r2
    obtain ⟨w2,hw2⟩:∃ w2,wr.setCell ⟨q,0,none⟩ (.int .i64 0)=w2:=⟨_,rfl⟩
    rw [hw2] at c2 ST2 R2
    have HW2:=Lib.hid hw2
    clear hw2
    go_wp2_with (first | (rw [HW2.out]) | fail)
    refine leaves_cons (f:=196) (args:=#[.pointer (some ⟨q,0,none⟩)]) (by simp) (by simp [go_sem]) ?_
    refine (tr_idle q w2).mono ?_
    rintro e u' w3 ⟨rfl,rfl,b3⟩
    have st3:=HST.out _ _ w3 q (.inr rfl) (Nat.le_refl _) (M.But.ofBelow q b3) ST2.out
    have c3:=((R2.out.call b3).cell 0).trans rfl
    have ST3:=Lib.hid st3
    clear st3 b3 c2
    simp [Leaves,settle,results,Tryz.results102,go_sem,c3]
    exact ST3.out
end Go.Proofs.YtdebnbgjgkbmaaaGreatDoor.Wi
namespace Go.Proofs.YtdebnbgjgkbmaaaGreatDoor.Wi
open Go.Proofs.YtdebnbgjgkbmaaaGreatDoor.Oc
open Go.RowKit Go.Shelf
set_option linter.unusedVariables false
def fbytes (m:Msg):Fld→ByteArray
 | .chan=>strOfNums (numB m.chan 4)
 | .id=>strOfNums (numB m.id 8)
 | .amount=>strOfNums (numB m.amount 8)
 | .hash=>strOfNums m.hash
 | .expiry=>strOfNums (numB m.expiry 4)
 | .number=>strOfNums (numB m.number 2)
def cat (m:Msg) (s:ByteArray) (fl:List Fld):ByteArray:=fl.foldl (fun s f=>s++fbytes m f) s
theorem cat_take {fl:List Fld} {k:Nat} {f:Fld} (h:fl[k]?=some f) (m:Msg) (s:ByteArray):cat m s (fl.take (k+1))=cat m s (fl.take k)++fbytes m f:=by
 rw [List.take_add_one,h];simp [cat,List.foldl_append]
theorem str_size (l:List Int):(strOfNums l).size=l.length:=by
 simp [strOfNums,ByteArray.size]
theorem num_len (n wd:Int) (h0:0≤wd):(numB n wd).length≤wd.toNat:=by
 unfold numB
 split
 · exact Nat.zero_le _
 · simp [top]
theorem fbytes_le (m:Msg) (h:m.hash.length=32) (f:Fld):(fbytes m f).size≤32:=by
 cases f
 all_goals (simp only [fbytes];rw [str_size])
 · exact Nat.le_trans (num_len _ _ (by decide)) (by decide)
 · exact Nat.le_trans (num_len _ _ (by decide)) (by decide)
 · exact Nat.le_trans (num_len _ _ (by decide)) (by decide)
 · omega
 · exact Nat.le_trans (num_len _ _ (by decide)) (by decide)
 · exact Nat.le_trans (num_len _ _ (by decide)) (by decide)
theorem cat_le (m:Msg) (h:m.hash.length=32):∀ (fl:List Fld) (s:ByteArray),(cat m s fl).size≤s.size+32*fl.length
 | [],s=>Nat.le_refl _
 | f::r,s=>by
   have h1:=cat_le m h r (s++fbytes m f)
   have h2:=fbytes_le m h f
   rw [ByteArray.size_append] at h1
   show (cat m (s++fbytes m f) r).size≤_
   rw [List.length_cons];omega
structure Fits (m:Msg):Prop where
 e0:0≤m.expiry
 e1:m.expiry≤1073741824
 n0:0≤m.number
 n1:m.number≤65535
theorem w_step {lo b p:Nat} {f:Fld} {u:Value} {X:World} (h:FV lo X f u) (m:Msg) (ho:m.ok) (ft:Fits m) (s:ByteArray) (hs:s.size≤1000000) (rb:M.RowAt X b 59 m.row) (hat:M.RowAt X p 207 #[.string s]) (hpb:p≠b) :
 Calls Tryz.prog (fnOf f) (#[.agg #[.pointer (some ⟨p,0,none⟩),.pointer none],.pointer (some ⟨b,0,none⟩)]++capsV u) X (DidW b p m.row (s++fbytes m f) X):=by
 have e0:=ft.e0;have e1:=ft.e1;have n0:=ft.n0;have n1:=ft.n1
 cases f
 · obtain ⟨a,c,rfl,_,_,ra,rc⟩:=h;exact w_chan m ho.h32 a c b p s X ra rc rb hat hpb (by omega) ho.c0 (by have:=ho.c1;omega) (by have:=ho.c1;show m.chan<4294967296;omega)
 · obtain ⟨a,c,rfl,_,_,ra,rc⟩:=h;exact w_id m ho.h32 a c b p s X ra rc rb hat hpb (by omega) ho.i0 ho.i1 (by have:=ho.i1;show m.id<18446744073709551616;omega)
 · obtain ⟨a,c,rfl,_,_,ra,rc⟩:=h;exact w_amount m ho.h32 a c b p s X ra rc rb hat hpb (by omega) ho.a0 ho.a1 (by have:=ho.a1;show m.amount<18446744073709551616;omega)
 · have h':u=.func (.func 195) #[] #[]:=h
   subst h'
   exact w_hash m ho.h32 b p s X rb hat hpb (by omega)
 · obtain ⟨a,c,rfl,_,_,ra,rc⟩:=h;exact w_expiry m ho.h32 a c b p s X ra rc rb hat hpb (by omega) e0 (by omega) (by show m.expiry<4294967296;omega)
 · obtain ⟨a,c,rfl,_,_,ra,rc⟩:=h;exact w_number m ho.h32 a c b p s X ra rc rb hat hpb (by omega) n0 (by omega) (by show m.number<65536;omega)
theorem At.call {w w':World} {p:Nat} {s:ByteArray} (h:At w ⟨p,0,none⟩ s) (hb:Below w.heap.size w w'):At w' ⟨p,0,none⟩ s:=
 h.below hb (World.block_lt_of_cell? w _ h.cell)
theorem w_through {b p lo:Nat} (fl:List Fld) (h8:fl.length≤8) (v:Value) (W:World) (hFL:FL lo W v fl) (hlo:lo≤W.heap.size) (hpb:p≠b) (m:Msg) (ho:m.ok) (ft:Fits m) (s:ByteArray) (hs:s.size≤1000) (rb:M.RowAt W b 59 m.row) (hat:M.RowAt W p 207 #[.string s]) :
 Calls Tryz.prog 107 #[.agg #[.pointer (some ⟨p,0,none⟩),.pointer none],v,.pointer (some ⟨b,0,none⟩)] W (DidW b p m.row (cat m s fl) W):=by
 refine (through_list (b:=b) (some ⟨p,0,none⟩) none fl h8 v W hFL hlo (fun k X=>M.RowAt X b 59 m.row∧M.RowAt X p 207 #[.string (cat m s (fl.take k))]∧M.But p W X) (fun _ _=>False) ⟨rb,hat,M.But.refl _ _⟩ (fun k X X' hst hbl=>⟨hst.1.call hbl,hst.2.1.call hbl,hst.2.2.trans (M.But.ofBelow p hbl)⟩) (fun k f hf X u hv hst=>?_)).mono ?_
 · have hc:=cat_le m ho.h32 (fl.take k) s
   rw [List.length_take] at hc
   refine (w_step hv m ho ft _ (by omega) hst.1 hst.2.1 hpb).mono ?_
   rintro e X' ⟨rfl,h1,h2,h3⟩
   exact .inl ⟨rfl,⟨h1,by rw [cat_take hf];exact h2,hst.2.2.trans h3⟩,Kp.of_butT h3 hst.2.1 rfl⟩
 · rintro e W' (⟨rfl,h1,h2,h3⟩ | ⟨h,_⟩)
   · rw [List.take_length] at h2
     exact ⟨rfl,h1,h2,h3⟩
   · exact h.elim
set_option maxRecDepth 100000 in
theorem enc1 (m:Msg) (ho:m.ok) (hk:1≤m.kind∧m.kind≤9) (wb p b:Nat) (s:ByteArray) (hs:s.size≤1000) (W:World) (rw':M.RowAt W wb 205 #[.pointer (some ⟨p,0,none⟩)]) (rb:M.RowAt W b 59 m.row) (rp:M.RowAt W p 207 #[.string s]) (hpb:p≠b) :
 Calls Tryz.prog 103 #[.pointer (some ⟨wb,0,none⟩),.pointer (some ⟨b,0,none⟩)] W (DidW b p m.row (s++strOfNums (numB m.kind 1)) W):=by
 have c0:=(rw'.cell 0).trans rfl
 have c1:=(rb.cell 0).trans Msg.g0
 have hw:IntKind.u64.wrap m.kind=m.kind:=u64_in _ (by omega)
 have num:=number_any m.kind 1 ⟨p,0,none⟩ s W (by omega) (by omega) (by omega) (row_at rp)
 rw [numE_ok (by decide) (by decide) (by omega) (by show m.kind<256;omega)] at num
 have fin:∀ w',Below W.heap.size (W.setCell ⟨p,0,none⟩ (.string (s++strOfNums (numB m.kind 1)))) w'→DidW b p m.row (s++strOfNums (numB m.kind 1)) W (.returned (.tuple #[])) w':=fun w' hb=>
  ⟨rfl,(but_written hb).row rb (fun e=>hpb e.symm),row_written rp hb,but_written hb⟩
 have NUM:=Lib.hid num;have FIN:=Lib.hid fin
 generalize DidW b p m.row (s++strOfNums (numB m.kind 1)) W=DD at *
 generalize m.kind=k at *
 clear num fin rw' rb rp hs hpb hk ho
 go_enter Tryz.func103,Tryz.ntmps103
 go_wp2_with fail
 refine (NUM.out).mono ?_
 rintro e w1 ⟨rfl,hb⟩
 have DN:=Lib.hid (FIN.out _ hb)
 clear hb
 go_wp2_with fail
 refine (must_ok _).mono ?_
 rintro e w2 ⟨rfl,rfl⟩
 go_wp2
 go_end0
 exact DN.out
set_option maxRecDepth 100000 in
theorem enc2 {lo:Nat} (fl:List Fld) (h8:fl.length≤8) (v:Value) (m:Msg) (ho:m.ok) (ft:Fits m) (wb lb p b:Nat) (s:ByteArray) (hs:s.size≤1000) (W:World) (hFL:FL lo W v fl) (hlo:lo≤W.heap.size) (rw':M.RowAt W wb 205 #[.pointer (some ⟨p,0,none⟩)]) (rl:M.RowAt W lb 202 #[v]) (rb:M.RowAt W b 59 m.row) (rp:M.RowAt W p 207 #[.string s]) (hpb:p≠b) :
 Calls Tryz.prog 106 #[.pointer (some ⟨wb,0,none⟩),.pointer (some ⟨lb,0,none⟩),.pointer (some ⟨b,0,none⟩)] W (DidW b p m.row (cat m s fl) W):=by
 have c0:=(rw'.cell 0).trans rfl
 have c1:=(rl.cell 0).trans rfl
 have th:=w_through fl h8 v W hFL hlo hpb m ho ft s hs rb rp
 obtain ⟨A,L,C,rfl⟩:∃ A L C,v=.slice A L C:=by obtain ⟨g,cap,C,hv,_⟩:=hFL;exact ⟨_,_,_,hv⟩
 have TH:=Lib.hid (th.mono (R':=fun e w'=>e=.returned (.tuple #[])∧DidW b p m.row (cat m s fl) W (.returned (.tuple #[])) w') fun e w' h=>⟨h.1,by obtain rfl:=h.1;exact h⟩)
 generalize DidW b p m.row (cat m s fl) W=DD at *
 clear th rw' rl rb rp hs hpb ho ft hFL h8 hlo
 go_enter Tryz.func106,Tryz.ntmps106
 go_wp2_with fail
 refine (TH.out).mono ?_
 rintro e w1 ⟨rfl,hd⟩
 have HD:=Lib.hid hd
 clear hd
 go_wp2
 go_end0
 exact HD.out
structure EB (w w2:World) (n l:Nat) (R:Array Value) (v:Value) (s:ByteArray) (X:World):Prop where
 rb:M.RowAt X n 59 R
 rl:M.RowAt X l 202 #[v]
 rp:M.RowAt X (l+1) 207 #[.string s]
 rw:M.RowAt X (l+2) 205 #[.pointer (some ⟨l+1,0,none⟩)]
 rg:M.RowAt X (l+3) 1 #[.func (.func 103) #[] #[.pointer (some ⟨l+2,0,none⟩),.pointer (some ⟨n,0,none⟩)],.func (.func 106) #[] #[.pointer (some ⟨l+2,0,none⟩),.pointer (some ⟨l,0,none⟩),.pointer (some ⟨n,0,none⟩)]]
 ka:∀ g t C,okT t=true→M.RowAt w2 g t C→M.RowAt X g t C
 bel:Below n w X
 nl:n<l
 wl:w2.heap.size=l
theorem EB.but {w w2 X X':World} {n l q:Nat} {R:Array Value} {v:Value} {s:ByteArray} (h:EB w w2 n l R v s X) (hq:l+4≤q) (hb:M.But q X X'):EB w w2 n l R v s X':=
 have h1:=h.nl
 have h2:=h.wl
 ⟨hb.row h.rb (by omega),hb.row h.rl (by omega),hb.row h.rp (by omega),hb.row h.rw (by omega),hb.row h.rg (by omega),fun g t C ht hr=>hb.row (h.ka g t C ht hr) (by have:=hr.lt;omega),hb.below h.bel (by omega) (by have:=h.rg.lt;omega),h.nl,h.wl⟩
theorem EB.did {w w2 X X':World} {n l:Nat} {R:Array Value} {v:Value} {s s':ByteArray} {e:Ending} (h:EB w w2 n l R v s X) (hd:DidW n (l+1) R s' X e X'):EB w w2 n l R v s' X'∧∀ q,Kp q X X':=by
 obtain ⟨_,h1,h2,h3⟩:=hd
 have hk:∀ q,Kp q X X':=fun q=>Kp.of_butT h3 h.rp rfl
 have hnl:=h.nl
 exact ⟨⟨h1,h3.row h.rl (by omega),h2,h3.row h.rw (by omega),h3.row h.rg (by omega),fun g t C ht hr=>hk 0 g t C ht (Nat.zero_le _) (h.ka g t C ht hr),h3.below h.bel (by omega) (by have:=h.rg.lt;omega),h.nl,h.wl⟩,hk⟩
theorem enters45:Enters Tryz.prog 103:=enters_of Tryz.func103 (by kernel_rfl) rfl
theorem enters47:Enters Tryz.prog 106:=enters_of Tryz.func106 (by kernel_rfl) rfl
def kindB (m:Msg):ByteArray:=⟨#[]⟩++strOfNums (numB m.kind 1)
theorem enc_try {w w2 W:World} {n l lo:Nat} {m:Msg} {v:Value} (ho:m.ok) (ft:Fits m) (hkk:1≤m.kind∧m.kind≤9) (fl:List Fld) (h8:fl.length≤8) (hFL:FL lo w2 v fl) (hlo:lo≤w2.heap.size) (h:EB w w2 n l m.row v ⟨#[]⟩ W) :
 Calls Tryz.prog 102 #[.slice (some ⟨l+3,0,none⟩) 2 2] W fun e W'=>e=.returned (.int .i64 0)∧EB w w2 n l m.row v (cat m (kindB m) fl) W':=by
 have hsz:l+4≤W.heap.size:=h.rg.lt
 have hks:(kindB m).size≤100:=by
  unfold kindB
  rw [ByteArray.size_append,str_size]
  have:=num_len m.kind 1 (by decide)
  show 0+_≤100
  omega
 refine (try_any (g:=l+3) (n:=2) (cap:=2) (fun k=>if k=0 then 103 else 106) (fun k=>if k=0 then #[.pointer (some ⟨l+2,0,none⟩),.pointer (some ⟨n,0,none⟩)] else #[.pointer (some ⟨l+2,0,none⟩),.pointer (some ⟨l,0,none⟩),.pointer (some ⟨n,0,none⟩)]) W
  (fun k X=>EB w w2 n l m.row v (if k=0 then ⟨#[]⟩ else if k=1 then kindB m else cat m (kindB m) fl) X) (fun _ _=>False) (by decide) (fun k hk=>?_) (fun k X hk hX=>?_) (fun k X X' q _ hq hb hX=>hX.but (by omega) hb) (fun _ _ _ _ _ _ hf=>hf) (fun k hk X hX=>?_) h).mono ?_
 · match k,hk with
   | 0,_=>exact enters45
   | 1,_=>exact enters47
 · match k,hk with
   | 0,_=>exact (hX.rg.cell 0).trans rfl
   | 1,_=>exact (hX.rg.cell 1).trans rfl
 · match k,hk with
   | 0,_=>
     refine (enc1 m ho hkk (l+2) (l+1) n ⟨#[]⟩ (by decide) X hX.rw hX.rb hX.rp (by have:=hX.nl;omega)).mono ?_
     rintro e X' hd
     obtain rfl:=hd.1
     obtain ⟨h1,h2⟩:=hX.did hd
     exact .inl ⟨rfl,h1,h2 _⟩
   | 1,_=>
     refine (enc2 fl h8 v m ho ft (l+2) l (l+1) n (kindB m) (by omega) X (hFL.kept (fun g t C ht _ hr=>hX.ka g t C ht hr)) (by have:=hX.rg.lt;have:=hX.wl;omega) hX.rw hX.rl hX.rb hX.rp (by have:=hX.nl;omega)).mono ?_
     rintro e X' hd
     obtain rfl:=hd.1
     obtain ⟨h1,h2⟩:=hX.did hd
     exact .inl ⟨rfl,h1,h2 _⟩
 · rintro e W' (⟨rfl,h1⟩ | ⟨_,_,_,hf⟩)
   · exact ⟨rfl,h1⟩
   · exact hf.elim
end Go.Proofs.YtdebnbgjgkbmaaaGreatDoor.Wi
namespace Go.Proofs.YtdebnbgjgkbmaaaGreatDoor.Wi
open Go.Proofs.YtdebnbgjgkbmaaaGreatDoor.Oc
open Go.RowKit Go.Shelf
set_option linter.unusedVariables false
theorem may_kind {m:Msg} {fl:List Fld} (h:fieldsOf m.kind=some fl):1≤m.kind∧m.kind≤9:=by
 by_cases hk:1≤m.kind∧m.kind≤9
 · exact hk
 · unfold fieldsOf at h
   rw [if_neg (by omega),if_neg (by omega),if_neg (by omega),if_neg (by omega),if_neg (by omega),if_neg (by omega),if_neg (by omega),if_neg (by omega),if_neg (by omega)] at h
   cases h
def encB (m:Msg) (fl:List Fld):ByteArray:=cat m (kindB m) fl
set_option maxRecDepth 100000 in
set_option maxHeartbeats 4000000 in
theorem enc_yes (m:Msg) (ho:m.ok) (fl:List Fld) (hf:fieldsOf m.kind=some fl) (hm:MayP m fl) (w:World) :
 Calls Tryz.prog 27 #[.agg m.row] w fun e w'=>e=.returned (.tuple #[.string (encB m fl),.int .i64 0])∧Below w.heap.size w w':=by
 obtain ⟨n,hn⟩:∃ n,w.heap.size=n:=⟨_,rfl⟩
 obtain ⟨V,hV⟩:∃ V,w.alloc (.cells m.row 59)=V:=⟨_,rfl⟩
 have rV:M.RowAt V n 59 m.row:=by rw [←hV,← hn];exact M.RowAt.new w 59 _
 have bV:Below n w V:=by rw [←hV,← hn];exact (Below.refl _ w).alloc (Nat.le_refl _) _
 have sV:V.heap.size=n+1:=by rw [←hV];simp [hn]
 have may:=may_any m ho true ⟨fun _=>⟨fl,hf,hm⟩,fun _=>rfl⟩ V
 have fa:=fun x=>fields_any m.kind x
 rw [hf] at fa
 simp only at fa
 have cell:=fun (W:World) (hr:M.RowAt W n 59 m.row)=>(hr.cell 0).trans Msg.g0
 have iX:=Msg.info ho.h32
 have et:=fun (w2 W:World) (l lo:Nat) (v:Value)=>enc_try (w:=w) (w2:=w2) (W:=W) (n:=n) (l:=l) (lo:=lo) (v:=v) ho ⟨hm.e0,hm.e1,hm.n0,hm.n1⟩ (may_kind hf) fl (fields_len hf)
 have HN:=Lib.hid hn;have HV:=Lib.hid hV;have CELL:=Lib.hid cell;have RV:=Lib.hid rV;have BV:=Lib.hid bV
 have SV:=Lib.hid sV;have MAY:=Lib.hid may;have FA:=Lib.hid fa;have ET:=Lib.hid et
 rw [hn]
 clear may fa cell bV sV hV hn hm hf ho et
 have hmf:=mkf
 generalize m.row=R at *
 generalize m.kind=kd at *
 go_enter Tryz.func27,Tryz.ntmps27
 go_wp2_with (first | (rw [HN.out,HV.out]) | (refine wpList_load_row (x:=.tmp 1) (ty:=59) (g:=n) (cs:=R) (t:=59) (fr:=(0,0)) ?_ ?_ ?_ _ rV Tryz.underlying59 rfl iX ?_;rfl;rfl;rfl) | fail)
 refine (MAY.out).mono ?_
 rintro e w1 ⟨rfl,b1⟩
 have r1:=RV.out.call b1
 have c1:=CELL.out w1 r1
 have B1:=Lib.hid (BV.out.trans (b1.mono (by have:=SV.out;omega)))
 have Z1:=Lib.hid (show n+1≤w1.heap.size by have:=SV.out;have:=b1.size;omega)
 have R1:=Lib.hid r1
 clear b1 r1 rV
 go_wp2_with fail
 refine (FA.out w1).mono ?_
 rintro e w2 ⟨v,rfl,fl2,b2⟩
 obtain ⟨l,hl⟩:∃ l,w2.heap.size=l:=⟨_,rfl⟩
 have hnl:n<l:=by have:=Z1.out;have:=b2.size;omega
 have r2:=R1.out.call b2
 have B2:=B1.out.trans (b2.mono (by have:=Z1.out;omega))
 have hlo2:=b2.size
 obtain ⟨A1,L1,C1,rfl⟩:∃ A L C,v=.slice A L C:=by obtain ⟨g,cap,C,hv,_⟩:=fl2;exact ⟨_,_,_,hv⟩
 obtain ⟨w3,hw3⟩:∃ w3,w2.alloc (.cells #[.slice A1 L1 C1] 202)=w3:=⟨_,rfl⟩
 have s3:w3.heap.size=l+1:=by rw [←hw3];simp [hl]
 obtain ⟨w4,hw4⟩:∃ w4,w3.alloc (.cells #[.string ⟨#[]⟩] 207)=w4:=⟨_,rfl⟩
 have s4:w4.heap.size=l+2:=by rw [←hw4];simp [s3]
 obtain ⟨w5,hw5⟩:∃ w5,w4.alloc (.cells #[.pointer (some ⟨l+1,0,none⟩)] 205)=w5:=⟨_,rfl⟩
 have s5:w5.heap.size=l+3:=by rw [←hw5];simp [s4]
 obtain ⟨w6,hw6⟩:∃ w6,w5.alloc (.cells #[.func (.func 103) #[] #[.pointer (some ⟨l+2,0,none⟩),.pointer (some ⟨n,0,none⟩)],.func (.func 106) #[] #[.pointer (some ⟨l+2,0,none⟩),.pointer (some ⟨l,0,none⟩),.pointer (some ⟨n,0,none⟩)]] 1)=w6:=⟨_,rfl⟩
 have b6:Below w2.heap.size w2 w6:=by
  rw [←hw6,← hw5,← hw4,← hw3]
  exact ((((Below.refl _ w2).alloc (Nat.le_refl _) _).alloc (by simp) _).alloc (by simp;omega) _).alloc (by simp;omega) _
 have rl6:M.RowAt w6 l 202 #[.slice A1 L1 C1]:=by
  rw [←hw6,← hw5,← hw4]
  exact ((by rw [←hw3,← hl];exact M.RowAt.new w2 202 _:M.RowAt w3 l 202 _).alloc _ |>.alloc _).alloc _
 have rp6:M.RowAt w6 (l+1) 207 #[.string ⟨#[]⟩]:=by
  rw [←hw6,← hw5]
  exact ((by rw [←hw4,← s3];exact M.RowAt.new w3 207 _:M.RowAt w4 (l+1) 207 _).alloc _).alloc _
 have rw6:M.RowAt w6 (l+2) 205 #[.pointer (some ⟨l+1,0,none⟩)]:=by
  rw [←hw6]
  exact (by rw [←hw5,← s4];exact M.RowAt.new w4 205 _:M.RowAt w5 (l+2) 205 _).alloc _
 have rg6:M.RowAt w6 (l+3) 1 #[.func (.func 103) #[] #[.pointer (some ⟨l+2,0,none⟩),.pointer (some ⟨n,0,none⟩)],.func (.func 106) #[] #[.pointer (some ⟨l+2,0,none⟩),.pointer (some ⟨l,0,none⟩),.pointer (some ⟨n,0,none⟩)]]:=by
  rw [←hw6,← s5];exact M.RowAt.new w5 1 _
 have eb:EB w w2 n l R (.slice A1 L1 C1) ⟨#[]⟩ w6:=⟨r2.call b6,rl6,rp6,rw6,rg6,fun g t C _ hr=>hr.call b6,B2.trans (b6.mono (by omega)),hnl,hl⟩
 have T6:=Lib.hid (ET.out w2 w6 l w1.heap.size _ fl2 hlo2 eb)
 have HL:=Lib.hid hl;have HW3:=Lib.hid hw3;have HW4:=Lib.hid hw4;have HW5:=Lib.hid hw5;have HW6:=Lib.hid hw6
 have S3:=Lib.hid s3;have S4:=Lib.hid s4;have S5:=Lib.hid s5
 clear hl hw3 hw4 hw5 hw6 s3 s4 s5 eb rl6 rp6 rw6 rg6 b6 B2 r2 b2 fl2 hlo2 hnl
 go_wp2_with (first | (rw [HL.out,HW3.out]) | (rw [S3.out,HW4.out]) | (rw [S4.out,HW5.out]) | (rw [S5.out,HW6.out]) | fail)
 refine (T6.out).mono ?_
 rintro e w7 ⟨rfl,eb7⟩
 have c7:=(eb7.rw.cell 0).trans rfl
 have BY:=Lib.hid (wbytes_any _ _ w7 (row_at eb7.rp))
 have B7:=Lib.hid eb7.bel
 clear eb7
 go_wp2_with fail
 refine (BY.out).mono ?_
 rintro e w8 ⟨rfl,rfl⟩
 go_wp2
 go_ret2
 exact ⟨rfl,B7.out⟩
end Go.Proofs.YtdebnbgjgkbmaaaGreatDoor.Wi
