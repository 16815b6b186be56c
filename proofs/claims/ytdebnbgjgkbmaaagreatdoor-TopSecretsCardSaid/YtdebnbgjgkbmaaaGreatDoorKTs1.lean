import Derived.ArgAppend
import Derived.Below
import Derived.BigQuiet
import Derived.Calls
import Derived.ChangeKeysEq
import Derived.ChangeOld
import Derived.Deep.AppendLies
import Derived.Deep.AppendSrc
import Derived.Deep.DeepHandedRow
import Derived.Deep.LoopGhost
import Derived.Deep.MidRow
import Derived.Deep.Onto
import Derived.Deep.QuietTactic
import Derived.Deep.RegionHeld3
import Derived.Deep.RegionWith
import Derived.Deep.WholeRow
import Derived.DeepKeys
import Derived.DeepKeys3
import Derived.DeepKeys4
import Derived.Defers
import Derived.KernelRfl
import Derived.Laws.AppendOwn
import Derived.Laws.Bits64b
import Derived.Laws.BitsAllLaws
import Derived.Laws.BytesArg
import Derived.Laws.BytesString
import Derived.Laws.EntriesVeiled
import Derived.Laws.MakeOwn
import Derived.Laws.OwnMore
import Derived.Laws.Rows
import Derived.Laws.Tables
import Derived.Lib.BufferWrite
import Derived.Lib.Builder
import Derived.Lib.ConvBytes
import Derived.Lib.FrozenHead2
import Derived.Lib.Hide
import Derived.Lib.LaidTab
import Derived.Lib.SlFresh
import Derived.Lib.Strings
import Derived.Lib.TrailingZeros
import Derived.Lib.UnsafeStr
import Derived.LoopIn
import Derived.LoopNIn
import Derived.Maps.Keyed
import Derived.OpenShut
import Derived.Orders
import Derived.Outline
import Derived.OwnWalk
import Derived.OwnWalkIn
import Derived.ProofKit
import Derived.RangeFuncBound
import Derived.RangeFuncCalls
import Derived.RangeFuncFrom
import Derived.RangeFuncLeaves
import Derived.RangeFuncNested
import Derived.Recover
import Derived.Shelf.Abstract
import Derived.Shelf.RegionOpen
import Derived.Shelf.RegionOpenPlain
import Derived.Shelf.Spec.SlicesInsert
import Derived.Shelf.Strings.OnBuilder
import Derived.ShutString
import Derived.StillTailTactics
import Derived.TacticsInMore
import Derived.Test.YtdebnbgjgkbmaaaGreatDoorProg
import Derived.Test.YtdebnbgjgkbmaaaGreatDoorRows
import Derived.WalkKit
import Derived.WalkLawsBesides
import Derived.WalkSpells
import Derived.Test.YtdebnbgjgkbmaaaGreatDoorK4
namespace Go.Proofs.YtdebnbgjgkbmaaaGreatDoor
namespace Sha
set_option linter.unusedVariables false
theorem big0_lt {x:Nat} (h:x<4294967296):big0 x<4294967296:=xor_lt (xor_lt (rot_lt h (by omega)) (rot_lt h (by omega))) (rot_lt h (by omega))
theorem maj_lt {a b c:Nat} (h:a<4294967296) (hb:b<4294967296):maj a b c<4294967296:=xor_lt (xor_lt (and_lt h) (and_lt h)) (and_lt hb)
end Sha
open Go.RowKit
set_option linter.unusedVariables false
theorem rot_zero (x:Nat):Sha.rot x 0=x:=by unfold Sha.rot;rw [Nat.pow_zero,Nat.mod_one,Nat.zero_mul,Nat.div_one,Nat.add_zero]
theorem rot_succ (x n:Nat) (hn:n<32):Sha.rot x n/2+Sha.rot x n%2*2147483648=Sha.rot x (n+1):=by
 unfold Sha.rot
 have hp:0<2 ^ n:=Nat.two_pow_pos n
 have e1:2 ^ (32-n)=2*2 ^ (31-n):=by rw [show 32-n=31-n+1 by omega,Nat.pow_succ,Nat.mul_comm]
 have e2:x/2 ^ (n+1)=x/2 ^ n/2:=by rw [Nat.pow_succ,Nat.div_div_eq_div_mul]
 have e3:x%2 ^ (n+1)=x%2 ^ n+2 ^ n*(x/2 ^ n%2):=by rw [Nat.pow_succ];exact Nat.mod_mul
 have e4:2 ^ n*2 ^ (31-n)=2147483648:=by rw [←Nat.pow_add,show n+(31-n)=31 by omega]
 rw [e1,e2,e3,show 32-(n+1)=31-n by omega]
 generalize x/2 ^ n=q at *
 generalize x%2 ^ n=r at *
 generalize 2 ^ (31-n)=P at *
 have h1:(r+2 ^ n*(q%2))*P=r*P+q%2*2147483648:=by
  rw [Nat.add_mul,Nat.mul_comm (2 ^ n) (q%2),Nat.mul_assoc,e4]
 have h2:r*(2*P)=2*(r*P):=by rw [Nat.mul_left_comm]
 rw [h1,h2]
 generalize r*P=m
 omega
set_option maxRecDepth 100000 in
set_option maxHeartbeats 1000000 in
theorem turn_any (x n:Nat) (w:World) (hx:x<4294967296) (hn:n≤32) :
 Calls Tryz.prog 285 #[.int .u64 (x:Nat),.int .i64 (n:Nat)] w fun e w'=>e=.returned (.int .u64 (Sha.rot x n:Nat))∧w=w':=by
 go_enter Tryz.func285,Tryz.ntmps285
 go_wp2
 go_loop [0,5] (fun a i=>∃ k:Nat,k≤n∧i=.int .i64 k∧a=.int .u64 (Sha.rot x k:Nat)) (fun _ i=>n-(intOf i).toNat)
 case atStart=>exact ⟨0,by omega,rfl,by rw [rot_zero]⟩
 case round=>
  obtain ⟨k,hk,rfl,rfl⟩:=hrel
  by_cases hlt:k<n
  · have hs:=rot_succ x k (by omega)
    have hr:=Sha.rot_lt hx (show k≤32 by omega)
    have HS:=Lib.hid hs;clear hs
    generalize Sha.rot x k=r at *
    go_wp2
    go_round
    case rel=>exact ⟨k+1,by omega,by go_num,by rw [←HS.out];congr 1⟩
    case measure=>simp [intOf];omega
  · obtain rfl:k=n:=by omega
    go_wp2
    go_ret
    exact ⟨rfl,rfl⟩
set_option maxRecDepth 100000 in
set_option maxHeartbeats 1000000 in
theorem shift_any (x n:Nat) (w:World) (hx:x<18446744073709551616) (hn:n≤64) :
 Calls Tryz.prog 221 #[.int .u64 (x:Nat),.int .i64 (n:Nat)] w fun e w'=>e=.returned (.int .u64 (x/2 ^ n:Nat))∧w=w':=by
 go_enter Tryz.func221,Tryz.ntmps221
 go_wp2
 go_loop [0,5] (fun a i=>∃ k:Nat,k≤n∧i=.int .i64 k∧a=.int .u64 (x/2 ^ k:Nat)) (fun _ i=>n-(intOf i).toNat)
 case atStart=>exact ⟨0,by omega,rfl,by rw [Nat.pow_zero,Nat.div_one]⟩
 case round=>
  obtain ⟨k,hk,rfl,rfl⟩:=hrel
  by_cases hlt:k<n
  · have hs:x/2 ^ k/2=x/2 ^ (k+1):=by rw [Nat.pow_succ,Nat.div_div_eq_div_mul]
    have hr:x/2 ^ k<18446744073709551616:=Nat.lt_of_le_of_lt (Nat.div_le_self _ _) hx
    have HS:=Lib.hid hs;clear hs
    generalize x/2 ^ k=r at *
    go_wp2
    go_round
    case rel=>exact ⟨k+1,by omega,by go_num,by rw [←HS.out];congr 1⟩
    case measure=>simp [intOf];omega
  · obtain rfl:k=n:=by omega
    go_wp2
    go_ret
    exact ⟨rfl,rfl⟩
open Go.RowKit
set_option linter.unusedVariables false
def MarkRow (w:World) (base:Nat) (e:TypeId) (v:Value) (n:Nat) (xs:List Value):Prop:=
 xs.length=n∧∃ g cap cur lo hi,v=.slice (some ⟨g,0,none⟩) n cap∧base≤g∧w.heap[g]?=some (.cells cur e (lo,hi))∧(cap≤lo∨hi=0)∧n≤cap∧cap≤maxLen∧cap≤cur.size∧cur.toList.take n=xs
theorem MarkRow.alloc {w:World} {base n:Nat} {e:TypeId} {v:Value} {xs:List Value} (h:MarkRow w base e v n xs) (o:Obj):MarkRow (w.alloc o) base e v n xs:=by
 obtain ⟨h0,g,cap,cur,lo,hi,h1,h2,h3,h4⟩:=h
 refine ⟨h0,g,cap,cur,lo,hi,h1,h2,?_,h4⟩
 have hl:=(Array.getElem?_eq_some_iff.1 h3).1
 rw [Below.heap_alloc w o g hl];exact h3
theorem MarkRow.form {w:World} {base n:Nat} {e:TypeId} {v:Value} {xs:List Value} (h:MarkRow w base e v n xs):∃ g cap,v=.slice (some ⟨g,0,none⟩) n cap:=by
 obtain ⟨_,g,cap,_,_,_,h1,_⟩:=h
 exact ⟨g,cap,h1⟩
theorem MarkRow.lt {w:World} {base n:Nat} {e:TypeId} {v:Value} {xs:List Value} (h:MarkRow w base e v n xs):∀ k,v.ownBlock=some k→base≤k∧k<w.heap.size:=by
 obtain ⟨_,g,cap,cur,_,_,rfl,h2,h3,_⟩:=h
 intro k hk
 have:g=k:=by simpa [Value.ownBlock] using hk
 subst this
 exact ⟨h2,(Array.getElem?_eq_some_iff.1 h3).1⟩
theorem MarkRow.ofBytes {w:World} {base:Nat} (s:ByteArray) (hb:base≤w.heap.size) (hs:s.size≤maxLen):MarkRow (Lib.bytesWorld w 5 s) base 5 (.slice (some ⟨w.heap.size,0,none⟩) s.size (grownCap w s.size 0 5)) s.size (s.data.toList.map fun b=>.int .u8 b.toNat):=by
 have hge:=grownCap_ge w s.size 0 5
 refine ⟨by simp,w.heap.size,_,_,_,_,rfl,hb,Lib.bytesWorld_at_new w 5 s,?_,hge,grownCap_le_maxLen w s.size 0 5 hs,?_,?_⟩
 · left;simp [Lib.bytesCells];have:s.data.size=s.size:=rfl;omega
 · simp [Lib.bytesCells];have:s.data.size=s.size:=rfl;omega
 · simp [Lib.bytesCells]
section
variable {P:Program}
theorem run_append_room1 (w:World) (t ty e:TypeId) (i:TypeInfo) (ht:P.underlying t=some (.slice e)) (hi:P.info? e=some i) (hsz:i.size=1) (g n cap:Nat) (k:IntKind) (x:Int) (a:Addr) (c:Nat)
 (hx:w.cell? a=some (.int k x)) (u:Value) (hc:w.cell? ⟨g,n,none⟩=some u) (hf:w.frozen? ⟨g,n,none⟩=false) (hroom:n+1≤cap) :
 (Builtin.append_ #[t,t] ty #[.slice (some ⟨g,0,none⟩) n cap,.slice (some a) 1 c]).run P w=.ok (.slice (some ⟨g,0,none⟩) (n+1) cap) (w.setCell ⟨g,n,none⟩ (.int k x)):=by
 simp [Builtin.append_,run_underlying ht,sizeOf,typeInfo,hi,Builtin.lenOf,hroom,hsz,hx,Addr.add_lit,storeCells,go_sem,hc,hf]
theorem run_append_mark (w:World) (base:Nat) (t ty e:TypeId) (i:TypeInfo) (z:Value) (ht:P.underlying t=some (.slice e)) (hi:P.info? e=some i) (hz:i.zero=some z) (hsize:i.size=1) (hby:i.bytes=1) (hzs:z.cells.size=1)
 (v:Value) (n:Nat) (xs:List Value) (hown:MarkRow w base e v n xs) (a:Addr) (c:Nat) (k:IntKind) (x:Int) (hx:w.cell? a=some (.int k x)) (hn:n+1≤140737488355328) (hbase:base≤w.heap.size) :
 ∃ v' w',(Builtin.append_ #[t,t] ty #[v,.slice (some a) 1 c]).run P w=.ok v' w'∧MarkRow w' base e v' (n+1) (xs++[.int k x])∧w.grownBy w' v.ownBlock:=by
 obtain ⟨hl,g,cap,cur,lo,hi',rfl,hbg,hg,hfr,hnc,hcm,hcs,htk⟩:=hown
 have hcell:∀ j,j<n→w.cell? ⟨g,j,none⟩=xs[j]?:=fun j hj=>by
  unfold World.cell?
  rw [hg]
  simp only [Option.isSome_none,Bool.false_eq_true,if_false]
  rw [←htk,List.getElem?_take_of_lt hj,Array.getElem?_toList]
 by_cases hroom:n+1≤cap
 · have hc:∃ u,w.cell? ⟨g,n,none⟩=some u:=by
    unfold World.cell?
    rw [hg]
    simp only [Option.isSome_none,Bool.false_eq_true,if_false]
    exact ⟨_,Array.getElem?_eq_getElem (by omega)⟩
   obtain ⟨u,hc⟩:=hc
   have hf:w.frozen? ⟨g,n,none⟩=false:=by
    unfold World.frozen?
    rw [hg]
    simp only [Bool.and_eq_false_iff,decide_eq_false_iff_not]
    omega
   refine ⟨_,_,run_append_room1 w t ty e i ht hi hsize g n cap k x a c hx u hc hf hroom,⟨by simp [hl],g,cap,cur.setIfInBounds n (.int k x),lo,hi',rfl,hbg,?_,hfr,hroom,hcm,by simpa using hcs,?_⟩,⟨rfl,rfl,rfl,by simp [World.setCell],fun j _ hj=>?_⟩⟩
   · simp [World.setCell,Array.getElem?_modify,hg]
   · have hlt:n<cur.size:=by omega
     rw [Array.toList_setIfInBounds,List.take_set,List.take_succ_eq_append_getElem (by simpa using hlt),htk]
     rw [List.set_append_right _ _ (by omega),hl,Nat.sub_self]
     rfl
   · simp only [World.setCell,Array.getElem?_modify]
     rw [if_neg (fun h=>hj (by simp [Value.ownBlock,h]))]
 · have hge:=grownCap_ge w (n+1) cap e
   have hr:=run_append_grow (P:=P) w t ty e i z ht hi hz ⟨g,0,none⟩ n cap xs (by rw [hsize,hl,Nat.mul_one]) (fun j v hv=>by
    rw [Addr.add_mid,Nat.zero_add,hcell j (by have:=(List.getElem?_eq_some_iff.1 hv).1;omega)];exact hv)
    a 1 c [.int k x] (by simp [hsize]) (fun j v hv=>by
     match j with
     | 0=>simp at hv;subst hv;simpa [Addr.add] using hx
     | j+1=>simp at hv) (by omega) (by omega) (by
     have:=growslice_fits (need:=n+1) (old:=cap) (bytes:=1) (by omega) (by omega)
     rw [hby];exact this)
   refine ⟨_,_,hr,⟨by simp [hl],w.heap.size,_,_,0,0,rfl,hbase,heap_alloc_new w.drew _,.inr rfl,hge,grownCap_le_maxLen w (n+1) cap e (by unfold maxLen;omega),?_,?_⟩,⟨rfl,rfl,rfl,by simp,fun j hj _=>Below.heap_alloc w.drew _ j hj⟩⟩
   · simp only [Array.size_append,List.size_toArray,size_zeroCells,hzs,hl,List.length_cons,List.length_nil]
     omega
   · simp only [Array.toList_append,List.append_assoc]
     rw [←List.append_assoc]
     exact List.take_left' (by simp [hl])
theorem wpList_append_mark (w:World) {ops:Array Oper} {rest:List Oper} {o:Oper} {a:Act} {Q:Exit→Act→World→Prop} (hgd:o.guard=none) (s x:Operand) (t:TypeId)
 (ho:o.op=.call { callee:=.builtin .append,args:=#[s,x],argTypes:=#[t,t] })
 (base:Nat) (e:TypeId) (i:TypeInfo) (z:Value) (ht:P.underlying t=some (.slice e)) (hi:P.info? e=some i) (hz:i.zero=some z) (hsize:i.size=1) (hby:i.bytes=1) (hzs:z.cells.size=1)
 (v:Value) (n:Nat) (xs:List Value) (hs:a.eval s=v) (hown:MarkRow w base e v n xs) (ad:Addr) (c:Nat) (k:IntKind) (y:Int) (hx:a.eval x=.slice (some ad) 1 c) (hc:w.cell? ad=some (.int k y)) (hn:n+1≤140737488355328) (hbase:base≤w.heap.size)
 (hK:∀ v' w',MarkRow w' base e v' (n+1) (xs++[.int k y])→w.grownBy w' v.ownBlock→wpList P ops Q rest (a.put o.dst v') w'):wpList P ops Q (o::rest) a w:=by
 refine wpList_plain hgd fun K hK'=>?_
 obtain ⟨v',w',hrun,r1,r2⟩:=run_append_mark (P:=P) w base t o.type e i z ht hi hz hsize hby hzs v n xs hown ad c k y hc hn hbase
 unfold Oper.wp
 simp [execOp,ho,resolve,invoke,builtin,hs,hx,hrun,Result.andThen]
 exact hK' _ _ (hK v' w' r1 r2)
end
theorem conv_mark {w:World} {base n:Nat} {v:Value} {l:List Nat} (h:MarkRow w base 5 v n (bytesV l)):(convert 55 9 v).run Tryz.prog w=.ok (.string (Sha.bytesOfL l)) w:=by
 obtain ⟨hlen,g,cap,cur,lo,hi,rfl,hb,hg,hf,hn,hm,hs,ht⟩:=h
 have hll:l.length=n:=by simpa [bytesV_len] using hlen
 have e:=run_convert_bytes_arg (P:=Tryz.prog) w 55 5 Tryz.underlying55 Tryz.underlying5 g 0 n cap (l.map fun (n:Nat)=>(n:Int)) (by simp [hll]) (fun i hi=>?_) 9 Tryz.underlying9
 · rw [strOf_bytes] at e;exact e
 · unfold World.cell?
   rw [hg]
   simp only [Option.isSome_none,Bool.false_eq_true,if_false]
   have e:=congrArg (·[i]?) ht
   simp only [List.getElem?_take_of_lt hi,bytesV,List.getElem?_map] at e
   rw [Nat.zero_add,← Array.getElem?_toList,e]
   have hi':i<l.length:=by omega
   simp [List.getD,List.getElem?_eq_getElem hi']
open Go.RowKit
set_option linter.unusedVariables false
theorem shift_int (x:Nat) (k:Int) (w:World) (hx:x<18446744073709551616) (h0:0≤k) (hk:k≤64) :
 Calls Tryz.prog 221 #[.int .u64 (x:Nat),.int .i64 k] w fun e w'=>e=.returned (.int .u64 (x/2 ^ k.toNat:Nat))∧w=w':=by
 obtain ⟨n,rfl⟩:=Int.eq_ofNat_of_zero_le h0
 exact shift_any x n w hx (by omega)
theorem bytesOfL_app (a b:List Nat):Sha.bytesOfL (a++b)=Sha.bytesOfL a++Sha.bytesOfL b:=by
 apply ByteArray.ext;simp [Sha.bytesOfL]
def natsOf (s:ByteArray):List Nat:=s.data.toList.map (·.toNat)
theorem bytesOfL_nats (s:ByteArray):Sha.bytesOfL (natsOf s)=s:=by
 apply ByteArray.ext
 simp only [Sha.bytesOfL,natsOf,List.map_map]
 have:((fun n=>UInt8.ofNat n)∘fun (x:UInt8)=>x.toNat)=id:=by funext x;simp
 rw [this,List.map_id]
theorem natsOf_len (s:ByteArray):(natsOf s).length=s.size:=by simp [natsOf]
theorem pad_eq (s:ByteArray):Sha.pad s=Sha.bytesOfL (natsOf s++(128::(List.replicate (Sha.zeros s.size) 0++len8 s.size 8))):=by
 rw [bytesOfL_app,bytesOfL_nats];rfl
theorem new_one (w:World) (E:TypeId) (u:Value):(w.alloc (.cells #[u] E)).cell? ⟨w.heap.size,0,none⟩=some u:=(M.RowAt.new w E #[u]).cell 0
set_option maxRecDepth 100000 in
set_option maxHeartbeats 2000000 in
theorem rpad_any (s:ByteArray) (w:World) (hs:s.size≤1000000000000) :
 Calls Tryz.prog 219 #[.string s] w fun e w'=>e=.returned (.string (Sha.pad s))∧Below w.heap.size w w':=by
 obtain ⟨i0,hi,hz0,hz1,hz2⟩:=info_parts info5
 obtain ⟨B,hB⟩:∃ B,w.heap.size=B:=⟨_,rfl⟩
 have hcs:=fun W=>Lib.run_convert_string_bytes (P:=Tryz.prog) W 9 55 5 s Tryz.underlying9 Tryz.underlying55 Tryz.underlying5
 have o0:=MarkRow.ofBytes (w:=w) (base:=B) s (by omega) (by unfold maxLen;omega)
 have o1:MarkRow (Lib.bytesWorld w 5 s) B 5 (.slice (some ⟨w.heap.size,0,none⟩) s.size (grownCap w s.size 0 5)) s.size (bytesV (natsOf s)):=by
  have e:(s.data.toList.map fun b=>Value.int .u8 b.toNat)=bytesV (natsOf s):=by simp [bytesV,natsOf]
  rw [←e];exact o0
 have b1:Below B w (Lib.bytesWorld w 5 s):=by
  refine ⟨rfl,rfl,rfl,by rw [Lib.bytesWorld_size];omega,fun k hk=>Lib.bytesWorld_at_old w 5 s k (by omega)⟩
 have hz1w:(Lib.bytesWorld w 5 s).heap.size=B+1:=by rw [Lib.bytesWorld_size,hB]
 have HB:=Lib.hid hB
 have zl:=zeros_lt s.size
 have hp:=pad_eq s
 rw [hp]
 clear hB o0 hp
 have nl:=natsOf_len s
 go_enter Tryz.func219,Tryz.ntmps219
 go_wp2_with (at_builtin;refine wpList_append_mark _ rfl (.tmp 11) (.tmp 12) 55 rfl B 5 i0 (.int .u8 0) Tryz.underlying55 hi hz0 hz1 hz2 rfl _ (s.size) (bytesV (natsOf s)) rfl (o1.alloc _) ⟨B+1,0,none⟩ 1 .u8 (128) rfl ?c1 ?c2 ?c3 ?_)
 case c1=>rw [←hz1w];exact new_one _ _ _
 case c2=>omega
 case c3=>simp;omega
 intro v1 w1 p1 g1
 have q1:Below B w w1:=(b1.alloc (by omega) _).grown g1 (by simp;omega) (fun k hk=>(o1.lt k hk).1)
 have hex:∃ g cap,v1=.slice (some ⟨g,0,none⟩) (s.size+1+0) cap:=p1.form
 have e1:bytesV (natsOf s)++[.int .u8 128]=bytesV (natsOf s++128::List.replicate 0 0):=by simp [bytesV]
 rw [e1] at p1
 clear e1 hcs o1 b1 hz1w g1
 obtain ⟨z,hz⟩:∃ z,Sha.zeros s.size=z:=⟨_,rfl⟩
 have HZ:=Lib.hid hz
 rw [hz] at zl
 clear hz
 go_wp2
 go_loopg [4] z (fun m v wr=>∃ (j g cap:Nat),m+j=z∧v=.slice (some ⟨g,0,none⟩) (s.size+1+j) cap∧MarkRow wr B 5 v (s.size+1+j) (bytesV (natsOf s++128::List.replicate j 0))∧Below B w wr)
 case atStart=>
  obtain ⟨g,cap,hv⟩:=hex
  exact ⟨0,g,cap,by omega,hv,p1,q1⟩
 case round=>
  clear p1 q1 hex
  obtain ⟨j,g,cap,hm,hv,hown,hb⟩:=hrel
  subst hv
  have hsz:=hb.size
  have hBr:B≤wr.heap.size:=by have:=HB.out;omega
  by_cases hlt:j<z
  · have hne:(((s.size:Int)+1+(j:Int))%64 != 56)=true:=by
     have:=HZ.out
     unfold Sha.zeros at this
     rw [bne_iff_ne];omega
    go_wp2_with (at_builtin;refine wpList_append_mark _ rfl (.tmp 18) (.tmp 19) 55 rfl B 5 i0 (.int .u8 0) Tryz.underlying55 hi hz0 hz1 hz2 rfl _ (s.size+1+j) (bytesV (natsOf s++128::List.replicate j 0)) rfl (hown.alloc _) ⟨wr.heap.size,0,none⟩ 1 .u8 (0) rfl ?c1 ?c2 ?c3 ?_)
    case c1=>exact new_one _ _ _
    case c2=>omega
    case c3=>simp;omega
    intro v' w1 hown1 hg1
    have hb1:Below B w w1:=(hb.alloc hBr _).grown hg1 (by simp;omega) (fun k hk=>(hown.lt k hk).1)
    have hl:bytesV (natsOf s++128::List.replicate j 0)++[.int .u8 0]=bytesV (natsOf s++128::List.replicate (j+1) 0):=by rw [rep_succ];simp [bytesV]
    rw [hl] at hown1
    clear hl
    go_wp2
    go_roundg (z-(j+1))
    case measure=>omega
    case rel=>
     obtain ⟨g',cap',hv⟩:=hown1.form
     exact ⟨j+1,g',cap',by omega,hv,hown1,hb1⟩
  · obtain rfl:j=z:=by omega
    have hne:(((s.size:Int)+1+(j:Int))%64 != 56)=false:=by
     have:=HZ.out
     unfold Sha.zeros at this
     rw [bne_eq_false_iff_eq];omega
    go_wp2
    go_loopg [4,5] 8 (fun m v i wr=>∃ (k g cap:Nat) (I:Int),m+k=8∧Hid (I=7-k)∧-1≤I∧I≤7∧i=.int .i64 I∧v=.slice (some ⟨g,0,none⟩) (s.size+1+j+k) cap∧MarkRow wr B 5 v (s.size+1+j+k) (bytesV (natsOf s++128::(List.replicate j 0++len8 s.size k)))∧Below B w wr)
    case atStart=>exact ⟨0,g,cap,7,by omega,by unfold Hid;omega,by omega,by omega,rfl,rfl,by simpa [len8] using hown,hb⟩
    case round=>
     clear hown hb hsz hBr hne hm
     obtain ⟨k,g2,cap2,I,hm,hI,i0',i7,rfl,hv,hown,hb⟩:=hrel
     subst hv
     have hsz:=hb.size
     have hBr:B≤wr.heap.size:=by have:=HB.out;omega
     by_cases hlt:0≤I
     · have sh:=shift_int (s.size*8) (8*I) wr (by omega) (by omega) (by omega)
       rw [Int.natCast_mul] at sh
       have SH:=Lib.hid sh
       clear sh
       go_wp2_with fail
       refine (SH.out).mono ?_
       rintro e w2 ⟨rfl,rfl⟩
       have ev:((s.size*8/2 ^ (8*I).toNat:Nat):Int)%256=((8*s.size/2 ^ (56-8*k)%256:Nat):Int):=by
        have:(8*I).toNat=56-8*k:=by have:=hI;unfold Hid at this;omega
        rw [this,Nat.mul_comm s.size 8];norm_cast
       have hle:s.size*8/2 ^ (8*I).toNat<18446744073709551616:=Nat.lt_of_le_of_lt (Nat.div_le_self _ _) (by omega)
       have EV:=Lib.hid ev
       clear ev
       generalize s.size*8/2 ^ (8*I).toNat=y at *
       go_wp2_with (at_builtin;refine wpList_append_mark _ rfl (.tmp 25) (.tmp 32) 55 rfl B 5 i0 (.int .u8 0) Tryz.underlying55 hi hz0 hz1 hz2 rfl _ (s.size+1+j+k) (bytesV (natsOf s++128::(List.replicate j 0++len8 s.size k))) rfl (hown.alloc _) ⟨wr.heap.size,0,none⟩ 1 .u8 ((y:Int)%256) rfl ?c1 ?c2 ?c3 ?_)
       case c1=>exact new_one _ _ _
       case c2=>omega
       case c3=>simp;omega
       intro v' w1 hown1 hg1
       have hb1:Below B w w1:=(hb.alloc hBr _).grown hg1 (by simp;omega) (fun k hk=>(hown.lt k hk).1)
       have hl:bytesV (natsOf s++128::(List.replicate j 0++len8 s.size k))++[.int .u8 ((y:Int)%256)]=bytesV (natsOf s++128::(List.replicate j 0++len8 s.size (k+1))):=by
        rw [len8_succ,EV.out];simp [bytesV]
       rw [hl] at hown1
       clear hl
       go_wp2
       have hI':I=7-(k:Int):=hI
       go_roundg (8-(k+1))
       case measure=>omega
       case rel=>
        obtain ⟨g',cap',hv⟩:=hown1.form
        exact ⟨k+1,g',cap',I-1,by omega,by unfold Hid at *;omega,by omega,by omega,rfl,hv,hown1,hb1⟩
     · obtain rfl:I=-1:=by omega
       obtain rfl:k=8:=by unfold Hid at hI;omega
       have hcv:=conv_mark hown
       clear hI
       go_wp2
       go_ret
       exact ⟨by rw [HZ.out];rfl,by rw [HB.out];exact hb⟩
namespace SX
open Go Go.RowKit
set_option linter.unusedVariables false
section
variable {σ:Sig} {gl:Hp} {ρ ρ':Rho} {h h':Hp} {nx:Nat} {w:World}
end
section
variable {C:Cfg} {cl:Clr} {σ:Sig} {n m:Nat} {ρ:Rho} {h h':Hp} {nx nx':Nat} {w:World}
end
section
variable {C:Cfg} {cl:Clr} {σ:Sig} {n m:Nat} {ρ:Rho} {h h':Hp} {nx nx':Nat} {w:World} {keep:List Nat} {bs:List Blk} {vs:List Value}
theorem does_snap {c:Code} {f:KX} (hf:Does C σ n c f) {Q:Exit→Act→World→Prop} {tm:Sl} {nx2:Nat} {a:Act} (hk:ltH keep=true) (e:snapC n keep (f tm h nx)=.ok vs bs nx2) (R:TmR σ ρ n tm a) (s:Sim σ C.E.gl ρ h nx w)
 (hQ:NextK C σ ρ n h nx w (mkT vs) (mkH keep bs) nx2 (Q .normal)):c.wp C.E.P Q a w:=by
 obtain ⟨tm0,h0,e0,e1,rfl⟩:=snapC_some e
 refine hf Q ρ tm h nx a w _ _ _ _ e0 R s ?_
 intro ρ' a' w' R' s' x'
 obtain ⟨s2,x2⟩:=s'.less (h':=mkH keep bs) (pickB_mk keep h0 bs (ltH_mem hk) e1)
 exact hQ ρ' a' w' R'.vals s2 (x'.trans x2)
end
end SX
open Go.RowKit
set_option linter.unusedVariables false
def Y64:Array Value:=#[.int .u64 0,.int .u64 0,.int .u64 0,.int .u64 0,.int .u64 0,.int .u64 0,.int .u64 0,.int .u64 0,.int .u64 0,.int .u64 0,.int .u64 0,.int .u64 0,.int .u64 0,.int .u64 0,.int .u64 0,.int .u64 0,.int .u64 0,.int .u64 0,.int .u64 0,.int .u64 0,.int .u64 0,.int .u64 0,.int .u64 0,.int .u64 0,.int .u64 0,.int .u64 0,.int .u64 0,.int .u64 0,.int .u64 0,.int .u64 0,.int .u64 0,.int .u64 0,.int .u64 0,.int .u64 0,.int .u64 0,.int .u64 0,.int .u64 0,.int .u64 0,.int .u64 0,.int .u64 0,.int .u64 0,.int .u64 0,.int .u64 0,.int .u64 0,.int .u64 0,.int .u64 0,.int .u64 0,.int .u64 0,.int .u64 0,.int .u64 0,.int .u64 0,.int .u64 0,.int .u64 0,.int .u64 0,.int .u64 0,.int .u64 0,.int .u64 0,.int .u64 0,.int .u64 0,.int .u64 0,.int .u64 0,.int .u64 0,.int .u64 0,.int .u64 0]
theorem y64_r:Y64=r64 64 (fun _=>0):=by rfl
theorem stX_cell {u:World} {m:Nat} {t:TypeId} {s:Sha.St} (h:M.RowAt u m t (stX s)) (j:Nat) (hj:j<8):u.cell? ⟨m,j,none⟩=some (.int .u64 (s.get j:Nat)):=(h.cell j).trans (M.rowF_get hj)
theorem big {a:Nat} (h:a<4294967296):a<18446744073709551616:=by omega
theorem sig0_64 {x:Nat} (hx:x<4294967296):bits .xor .u64 (bits .xor .u64 ((Sha.rot x 7:Nat):Int) ((Sha.rot x 18:Nat):Int)) ((x/2 ^ 3:Nat):Int)=((Sha.sig0 x:Nat):Int):=by
 have a:=Sha.rot_lt hx (show 7≤32 by omega)
 have b:=Sha.rot_lt hx (show 18≤32 by omega)
 rw [u64_xor_nat _ _ (big a) (big b),u64_xor_nat _ _ (big (Sha.xor_lt a b)) (big (Nat.lt_of_le_of_lt (Nat.div_le_self _ _) hx))];rfl
theorem sig1_64 {x:Nat} (hx:x<4294967296):bits .xor .u64 (bits .xor .u64 ((Sha.rot x 17:Nat):Int) ((Sha.rot x 19:Nat):Int)) ((x/2 ^ 10:Nat):Int)=((Sha.sig1 x:Nat):Int):=by
 have a:=Sha.rot_lt hx (show 17≤32 by omega)
 have b:=Sha.rot_lt hx (show 19≤32 by omega)
 rw [u64_xor_nat _ _ (big a) (big b),u64_xor_nat _ _ (big (Sha.xor_lt a b)) (big (Nat.lt_of_le_of_lt (Nat.div_le_self _ _) hx))];rfl
theorem big1_64 {x:Nat} (hx:x<4294967296):bits .xor .u64 (bits .xor .u64 ((Sha.rot x 6:Nat):Int) ((Sha.rot x 11:Nat):Int)) ((Sha.rot x 25:Nat):Int)=((Sha.big1 x:Nat):Int):=by
 have a:=Sha.rot_lt hx (show 6≤32 by omega)
 have b:=Sha.rot_lt hx (show 11≤32 by omega)
 have c:=Sha.rot_lt hx (show 25≤32 by omega)
 rw [u64_xor_nat _ _ (big a) (big b),u64_xor_nat _ _ (big (Sha.xor_lt a b)) (big c)];rfl
theorem big0_64 {x:Nat} (hx:x<4294967296):bits .xor .u64 (bits .xor .u64 ((Sha.rot x 2:Nat):Int) ((Sha.rot x 13:Nat):Int)) ((Sha.rot x 22:Nat):Int)=((Sha.big0 x:Nat):Int):=by
 have a:=Sha.rot_lt hx (show 2≤32 by omega)
 have b:=Sha.rot_lt hx (show 13≤32 by omega)
 have c:=Sha.rot_lt hx (show 22≤32 by omega)
 rw [u64_xor_nat _ _ (big a) (big b),u64_xor_nat _ _ (big (Sha.xor_lt a b)) (big c)];rfl
theorem ch_64 {e f g:Nat} (he:e<4294967296) (hf:f<4294967296) (hg:g<4294967296) :
 bits .xor .u64 (bits .and .u64 (e:Int) (f:Int)) (bits .and .u64 (4294967295-(e:Int)) (g:Int))=((Sha.ch e f g:Nat):Int):=by
 have e1:(4294967295-(e:Int))=((4294967295-e:Nat):Int):=by omega
 rw [e1,u64_and_nat e f (big he) (big hf),u64_and_nat _ g (by omega) (big hg),u64_xor_nat _ _ (big (Sha.and_lt he)) (big (Sha.and_lt (by omega)))];rfl
theorem maj_64 {a b c:Nat} (ha:a<4294967296) (hb:b<4294967296) (hc:c<4294967296) :
 bits .xor .u64 (bits .xor .u64 (bits .and .u64 (a:Int) (b:Int)) (bits .and .u64 (a:Int) (c:Int))) (bits .and .u64 (b:Int) (c:Int))=((Sha.maj a b c:Nat):Int):=by
 rw [u64_and_nat a b (big ha) (big hb),u64_and_nat a c (big ha) (big hc),u64_and_nat b c (big hb) (big hc),u64_xor_nat _ _ (big (Sha.and_lt ha)) (big (Sha.and_lt ha)),u64_xor_nat _ _ (big (Sha.xor_lt (Sha.and_lt ha) (Sha.and_lt ha))) (big (Sha.and_lt hb))];rfl
def KV:Array Value:=#[.int .u64 1116352408,.int .u64 1899447441,.int .u64 3049323471,.int .u64 3921009573,.int .u64 961987163,.int .u64 1508970993,.int .u64 2453635748,.int .u64 2870763221,.int .u64 3624381080,.int .u64 310598401,.int .u64 607225278,.int .u64 1426881987,.int .u64 1925078388,.int .u64 2162078206,.int .u64 2614888103,.int .u64 3248222580,.int .u64 3835390401,.int .u64 4022224774,.int .u64 264347078,.int .u64 604807628,.int .u64 770255983,.int .u64 1249150122,.int .u64 1555081692,.int .u64 1996064986,.int .u64 2554220882,.int .u64 2821834349,.int .u64 2952996808,.int .u64 3210313671,.int .u64 3336571891,.int .u64 3584528711,.int .u64 113926993,.int .u64 338241895,.int .u64 666307205,.int .u64 773529912,.int .u64 1294757372,.int .u64 1396182291,.int .u64 1695183700,.int .u64 1986661051,.int .u64 2177026350,.int .u64 2456956037,.int .u64 2730485921,.int .u64 2820302411,.int .u64 3259730800,.int .u64 3345764771,.int .u64 3516065817,.int .u64 3600352804,.int .u64 4094571909,.int .u64 275423344,.int .u64 430227734,.int .u64 506948616,.int .u64 659060556,.int .u64 883997877,.int .u64 958139571,.int .u64 1322822218,.int .u64 1537002063,.int .u64 1747873779,.int .u64 1955562222,.int .u64 2024104815,.int .u64 2227730452,.int .u64 2361852424,.int .u64 2428436474,.int .u64 2756734187,.int .u64 3204031479,.int .u64 3329325298]
theorem kv_r:KV=r64 64 Sha.k:=by kernel_rfl
set_option maxRecDepth 100000 in
set_option maxHeartbeats 1000000 in
theorem K_any (w:World):Calls Tryz.prog 286 #[] w fun e w'=>e=.returned (.agg (r64 64 Sha.k))∧Below w.heap.size w w':=by
 rw [←kv_r]
 obtain ⟨n,hn⟩:∃ n,w.heap.size=n:=⟨_,rfl⟩
 have HN:=Lib.hid hn
 have r0:=heap_alloc_new w (.cells Y64 395)
 have iK:(Tryz.prog.info? 395).map (·.size)=some KV.size:=by kernel_rfl
 have zK:Y64.size=KV.size:=rfl
 have oK:KV.all (·.oneCell')=true:=by kernel_rfl
 rw [hn] at r0
 have q6:=M.RowAt.setRow r0 KV
 have b6:Below n w ((w.alloc (.cells Y64 395)).setRow n KV):=M.below_setRow (hn▸(Below.refl _ _).alloc (Nat.le_refl _) _) (Nat.le_refl _)
 obtain ⟨v1,hv1⟩:∃ v1,(w.alloc (.cells #[.int .u64 0,.int .u64 0,.int .u64 0,.int .u64 0,.int .u64 0,.int .u64 0,.int .u64 0,.int .u64 0,.int .u64 0,.int .u64 0,.int .u64 0,.int .u64 0,.int .u64 0,.int .u64 0,.int .u64 0,.int .u64 0,.int .u64 0,.int .u64 0,.int .u64 0,.int .u64 0,.int .u64 0,.int .u64 0,.int .u64 0,.int .u64 0,.int .u64 0,.int .u64 0,.int .u64 0,.int .u64 0,.int .u64 0,.int .u64 0,.int .u64 0,.int .u64 0,.int .u64 0,.int .u64 0,.int .u64 0,.int .u64 0,.int .u64 0,.int .u64 0,.int .u64 0,.int .u64 0,.int .u64 0,.int .u64 0,.int .u64 0,.int .u64 0,.int .u64 0,.int .u64 0,.int .u64 0,.int .u64 0,.int .u64 0,.int .u64 0,.int .u64 0,.int .u64 0,.int .u64 0,.int .u64 0,.int .u64 0,.int .u64 0,.int .u64 0,.int .u64 0,.int .u64 0,.int .u64 0,.int .u64 0,.int .u64 0,.int .u64 0,.int .u64 0] 395)).setRow n KV=v1:=⟨_,rfl⟩
 have q6:M.RowAt v1 n 395 KV:=hv1▸q6
 have b6:Below n w v1:=hv1▸b6
 have HV:=Lib.hid hv1
 clear hv1
 go_enter Tryz.func286,Tryz.ntmps286
 go_wp2_with (refine wpList_store_row (x:=.tmp 0) (y:=.tmp 1) (cells:=KV) (old:=Y64) (t:=395) (ty:=395) (g:=n) ?_ ?_ ?_ ?_ r0 iK zK oK ?_;rfl;rfl;rfl;rfl)
 rw [HV.out]
 have u91:Tryz.prog.underlying 395=some (.array 64 27):=by kernel_rfl
 have hload:=run_loadVar_row (P:=Tryz.prog) _ n 395 395 KV (0,0) _ q6 u91 rfl iK
 refine bodyPost_ret (v:=.agg KV) (by simp [results,Tryz.results286,asAddr,hload]) rfl ⟨rfl,?_⟩
 exact b6
open Go.RowKit
set_option linter.unusedVariables false
section
variable {n:Nat} {w:World} {s:Sha.St} {W W':Nat→Nat} {v v':World}
end
theorem t1_64 {s:Sha.St} (h:s.ok) {K X:Nat} (hK:K<4294967296) (hX:X<4294967296) :
 IntKind.u64.wrap ((s.h:Int)+(Sha.big1 s.e:Nat))=(s.h:Int)+(Sha.big1 s.e:Nat) ∧
 IntKind.u64.wrap ((s.h:Int)+(Sha.big1 s.e:Nat)+(Sha.ch s.e s.f s.g:Nat))=(s.h:Int)+(Sha.big1 s.e:Nat)+(Sha.ch s.e s.f s.g:Nat) ∧
 IntKind.u64.wrap ((s.h:Int)+(Sha.big1 s.e:Nat)+(Sha.ch s.e s.f s.g:Nat)+(K:Int))=(s.h:Int)+(Sha.big1 s.e:Nat)+(Sha.ch s.e s.f s.g:Nat)+(K:Int) ∧
 IntKind.u64.wrap ((s.h:Int)+(Sha.big1 s.e:Nat)+(Sha.ch s.e s.f s.g:Nat)+(K:Int)+(X:Int))=(s.h:Int)+(Sha.big1 s.e:Nat)+(Sha.ch s.e s.f s.g:Nat)+(K:Int)+(X:Int) ∧
 ((s.h:Int)+(Sha.big1 s.e:Nat)+(Sha.ch s.e s.f s.g:Nat)+(K:Int)+(X:Int)).tmod 4294967296=((Sha.t1 s K X:Nat):Int):=by
 have h1:=Sha.ch_lt (f:=s.f) (g:=s.g) h.e
 have h2:=Sha.big1_lt h.e
 have h3:=h.h
 unfold Sha.t1
 generalize Sha.ch s.e s.f s.g=c at *
 generalize Sha.big1 s.e=b at *
 refine ⟨?_,?_,?_,?_,?_⟩
 · rw [IntKind.wrap_u64];omega
 · rw [IntKind.wrap_u64];omega
 · rw [IntKind.wrap_u64];omega
 · rw [IntKind.wrap_u64];omega
 · rw [Int.tmod_eq_emod_of_nonneg (by omega)];omega
theorem t2_64 {s:Sha.St} (h:s.ok):(((Sha.big0 s.a:Nat):Int)+(Sha.maj s.a s.b s.c:Nat))%18446744073709551616=((Sha.big0 s.a:Nat):Int)+(Sha.maj s.a s.b s.c:Nat)∧(((Sha.big0 s.a:Nat):Int)+(Sha.maj s.a s.b s.c:Nat))%4294967296=((Sha.t2 s:Nat):Int):=by
 have h1:=Sha.maj_lt (c:=s.c) h.a h.b
 have h2:=Sha.big0_lt h.a
 unfold Sha.t2
 generalize Sha.maj s.a s.b s.c=c at *
 generalize Sha.big0 s.a=b at *
 omega
theorem small_sum {a b:Nat} (ha:a<4294967296) (hb:b<4294967296):((a:Int)+(b:Int))%18446744073709551616=(a:Int)+(b:Int)∧((a:Int)+(b:Int))%4294967296=(((a+b)%4294967296:Nat):Int):=by omega
theorem not_64 {e:Nat} (h:e<4294967296):(4294967295-(e:Int))%18446744073709551616=4294967295-(e:Int):=by omega
theorem info91 (A:Array Value) (h:A.size=64):(Tryz.prog.info? 395).map (·.size)=some A.size:=by rw [h];kernel_rfl
theorem info37 (A:Array Value) (h:A.size=8):(Tryz.prog.info? 347).map (·.size)=some A.size:=by rw [h];kernel_rfl
theorem und37:Tryz.prog.underlying 347=some (.array 8 27):=by kernel_rfl
set_option maxRecDepth 100000 in
set_option maxHeartbeats 4000000 in
theorem rcompress_any (s:Sha.St) (b:ByteArray) (w:World) (hs:s.ok) (hb:b.size=64) :
 Calls Tryz.prog 220 #[.agg (stX s),.string b] w fun e w'=>e=.returned (.tuple #[.agg (stX (Sha.compress s b)),.bool true])∧Below w.heap.size w w':=by
 obtain ⟨n,hn⟩:∃ n,w.heap.size=n:=⟨_,rfl⟩
 have c0:M.RowAt (((w.alloc (.cells (stX s) 347)).alloc (.cells Y8 347)).alloc (.cells Y64 395)) n 347 (stX s)∧M.RowAt (((w.alloc (.cells (stX s) 347)).alloc (.cells Y8 347)).alloc (.cells Y64 395)) (n+1) 347 Y8 ∧
  M.RowAt (((w.alloc (.cells (stX s) 347)).alloc (.cells Y8 347)).alloc (.cells Y64 395)) (n+1+1) 395 Y64∧Below n w (((w.alloc (.cells (stX s) 347)).alloc (.cells Y8 347)).alloc (.cells Y64 395)):=by
  subst hn
  have a1:=M.RowAt.new w 347 (stX s)
  have a2:=M.RowAt.new (w.alloc (.cells (stX s) 347)) 347 Y8
  have a3:=M.RowAt.new ((w.alloc (.cells (stX s) 347)).alloc (.cells Y8 347)) 395 Y64
  rw [World.size_alloc] at a2 a3
  rw [World.size_alloc] at a3
  exact ⟨(a1.alloc _).alloc _,a2.alloc _,a3,(((Below.refl _ _).alloc (Nat.le_refl _) _).alloc (by simp) _).alloc (by simp;omega) _⟩
 have hp0:Sha.pw b 0=fun _=>0:=by funext j;exact Sha.pw_zero b 0 j (by omega)
 obtain ⟨C,hC⟩:∃ C,stX s=C:=⟨_,rfl⟩
 obtain ⟨a1,a2,a3,a4⟩:=c0
 have rr:=a3
 have b1:=a1.farRow (b:=n+1+1) (by omega) Y64
 have b2:=a2.farRow (b:=n+1+1) (by omega) Y64
 have b3:=a3.setRow Y64
 have b4:=M.below_setRow (g:=n+1+1) (cs:=Y64) a4 (by omega)
 rw [y64_r,← show r64 64 (Sha.pw b 0)=r64 64 (fun _=>0) by rw [hp0]] at b3
 have i91:(Tryz.prog.info? 395).map (·.size)=some Y64.size:=by kernel_rfl
 have o91:Y64.all (·.oneCell')=true:=by kernel_rfl
 have rL:(((w.alloc (.cells C 347)).alloc (.cells #[.int .u64 0,.int .u64 0,.int .u64 0,.int .u64 0,.int .u64 0,.int .u64 0,.int .u64 0,.int .u64 0] 347)).alloc (.cells #[.int .u64 0,.int .u64 0,.int .u64 0,.int .u64 0,.int .u64 0,.int .u64 0,.int .u64 0,.int .u64 0,.int .u64 0,.int .u64 0,.int .u64 0,.int .u64 0,.int .u64 0,.int .u64 0,.int .u64 0,.int .u64 0,.int .u64 0,.int .u64 0,.int .u64 0,.int .u64 0,.int .u64 0,.int .u64 0,.int .u64 0,.int .u64 0,.int .u64 0,.int .u64 0,.int .u64 0,.int .u64 0,.int .u64 0,.int .u64 0,.int .u64 0,.int .u64 0,.int .u64 0,.int .u64 0,.int .u64 0,.int .u64 0,.int .u64 0,.int .u64 0,.int .u64 0,.int .u64 0,.int .u64 0,.int .u64 0,.int .u64 0,.int .u64 0,.int .u64 0,.int .u64 0,.int .u64 0,.int .u64 0,.int .u64 0,.int .u64 0,.int .u64 0,.int .u64 0,.int .u64 0,.int .u64 0,.int .u64 0,.int .u64 0,.int .u64 0,.int .u64 0,.int .u64 0,.int .u64 0,.int .u64 0,.int .u64 0,.int .u64 0,.int .u64 0] 395)).heap[n+1+1]?=some (.cells Y64 395 (0,0)):=by rw [←hC];exact rr
 obtain ⟨v0,hv0⟩:∃ v0,(((w.alloc (.cells C 347)).alloc (.cells #[.int .u64 0,.int .u64 0,.int .u64 0,.int .u64 0,.int .u64 0,.int .u64 0,.int .u64 0,.int .u64 0] 347)).alloc (.cells #[.int .u64 0,.int .u64 0,.int .u64 0,.int .u64 0,.int .u64 0,.int .u64 0,.int .u64 0,.int .u64 0,.int .u64 0,.int .u64 0,.int .u64 0,.int .u64 0,.int .u64 0,.int .u64 0,.int .u64 0,.int .u64 0,.int .u64 0,.int .u64 0,.int .u64 0,.int .u64 0,.int .u64 0,.int .u64 0,.int .u64 0,.int .u64 0,.int .u64 0,.int .u64 0,.int .u64 0,.int .u64 0,.int .u64 0,.int .u64 0,.int .u64 0,.int .u64 0,.int .u64 0,.int .u64 0,.int .u64 0,.int .u64 0,.int .u64 0,.int .u64 0,.int .u64 0,.int .u64 0,.int .u64 0,.int .u64 0,.int .u64 0,.int .u64 0,.int .u64 0,.int .u64 0,.int .u64 0,.int .u64 0,.int .u64 0,.int .u64 0,.int .u64 0,.int .u64 0,.int .u64 0,.int .u64 0,.int .u64 0,.int .u64 0,.int .u64 0,.int .u64 0,.int .u64 0,.int .u64 0,.int .u64 0,.int .u64 0,.int .u64 0,.int .u64 0] 395)).setRow (n+1+1) Y64=v0:=⟨_,rfl⟩
 have e0:(((w.alloc (.cells (stX s) 347)).alloc (.cells Y8 347)).alloc (.cells Y64 395)).setRow (n+1+1) Y64=v0:=by rw [hC,← hv0];rfl
 have e0':(((w.alloc (.cells (stX s) 347)).alloc (.cells Y8 347)).alloc (.cells Y64 395)).setRow (n+1+1) (r64 64 (Sha.pw b 0))=v0:=by rw [←e0,y64_r,hp0]
 have c0:CX n w s (Sha.pw b 0) v0:=by
  rw [e0] at b1 b2 b4
  refine ⟨b1,b2,?_,b4⟩
  have:=M.RowAt.setRow a3 (r64 64 (Sha.pw b 0))
  rw [e0'] at this
  exact this
 have HC:=Lib.hid hC;have HV:=Lib.hid hv0;have HB:=Lib.hid hb;have HN:=Lib.hid hn
 have RL:=Lib.hid rL
 rw [hC]
 clear hC hv0 e0 e0' hp0 a1 a2 a3 a4 b1 b2 b3 b4 rr rL
 go_enter Tryz.func220,Tryz.ntmps220
 go_wp2_with (refine wpList_store_row (x:=.tmp 6) (y:=.tmp 28) (cells:=Y64) (old:=Y64) (t:=395) (ty:=395) (g:=n+1+1) ?_ ?_ ?_ ?_ RL.out i91 rfl o91 ?_;rfl;rfl;rfl;rfl;rw [HV.out])
 clear hb hn
 go_loopg [7] 16 (fun m i wr=>∃ k:Nat,m+k=16∧i=.int .i64 k∧CX n w s (Sha.pw b (4*k)) wr)
 case atStart=>exact ⟨0,by omega,rfl,c0⟩
 case round=>
  clear c0
  obtain ⟨i,hm,rfl,ci0⟩:=hrel
  by_cases hlt:i<16
  · have hi16:(i:Int)<16:=by omega
    go_wp2
    go_loopg [8] 4 (fun m j wr=>∃ k:Nat,m+k=4∧j=.int .i64 k∧CX n w s (Sha.pw b (4*i+k)) wr)
    case atStart=>exact ⟨0,by omega,rfl,ci0⟩
    case round=>
     clear ci0
     obtain ⟨k,hmk,rfl,ci⟩:=hrel
     by_cases hk:k<4
     · obtain ⟨q,hq⟩:∃ q,4*i+k=q:=⟨_,rfl⟩
       rw [hq] at ci
       have hqi:q/4=i:=by omega
       have q2:=ci.r2.cell i
       rw [M.rowF_get (show i<64 by omega)] at q2
       have hbk:q<b.size:=by rw [HB.out];omega
       have hlw:=Sha.pw_lt3 b q
       rw [hqi] at hlw
       have hby:=b[q].toNat_lt
       have g0:IntKind.i64.wrap (4*(i:Int))=4*(i:Int):=IntWalk.i64_in _ (by omega)
       have g1:IntKind.i64.wrap (4*(i:Int)+(k:Int))=(q:Int):=by rw [IntWalk.i64_in _ (by omega)];omega
       have g2:(0:Int)≤(q:Int):=by omega
       have g3:(q:Int)<64:=by omega
       have g4:(i:Int)<64:=by omega
       have w5:IntKind.u64.wrap ((Sha.pw b q i:Nat)*256)=(Sha.pw b q i:Nat)*256:=by rw [IntKind.wrap_u64];omega
       have w6:IntKind.u64.wrap (b[q].toNat:Int)=(b[q].toNat:Int):=by rw [IntKind.wrap_u64];omega
       have w7:IntKind.u64.wrap ((Sha.pw b q i:Nat)*256+(b[q].toNat:Int))=((Sha.pw b (q+1) i:Nat):Int):=by
        have h:=Sha.pw_next b q
        rw [hqi,Sha.byte_at b q hbk] at h
        rw [h,IntKind.wrap_u64];omega
       have w8:((Sha.pw b q i:Nat)*256+(b[q].toNat:Int))=((Sha.pw b (q+1) i:Nat):Int):=by
        have h:=Sha.pw_next b q
        rw [hqi,Sha.byte_at b q hbk] at h
        rw [h];omega
       have ci2:=ci.drew
       have q3:=ci2.r2.frozen i
       have q4:=ci2.r2.cell i
       rw [M.rowF_get (show i<64 by omega)] at q4
       have ci3:=ci2.set i (Sha.pw b (q+1) i) (by omega) (W':=Sha.pw b (q+1)) (fun j _=>by
        split
        · rename_i h;rw [h]
        · rename_i h;exact Sha.pw_same b q j (by rw [hqi];exact h))
       have HQ:=Lib.hid hq
       clear hqi hq
       generalize Sha.pw b (q+1) i=P at *
       generalize Sha.pw b q i=P0 at *
       go_wp2_with fail
       go_still_tail 14,(by kernel_rfl)
       change wpList _ _ _ _ _ wr.drew
       generalize wr.drew=wd at *
       go_wp2
       go_roundg (4-(k+1))
       case measure=>omega
       case rel=>exact ⟨k+1,by omega,by go_num,by rw [show 4*i+(k+1)=q+1 by have:=HQ.out;omega];exact ci3⟩
     · obtain rfl:k=4:=by omega
       rw [show 4*i+4=4*(i+1) by omega] at ci
       go_wp2
       go_roundg (16-(i+1))
       case measure=>omega
       case rel=>exact ⟨i+1,by omega,by go_num,ci⟩
  · obtain rfl:i=16:=by omega
    have c2:CX n w s (Sha.W b (16-16)) wr:=by
     have e:Sha.pw b (4*16)=Sha.W b 0:=by funext j;exact (Sha.W_zero b j).symm
     rw [e] at ci0;exact ci0
    clear ci0 hm hlt
    go_wp2
    go_loopg [9] 48 (fun m i wr=>∃ k:Nat,m+k=64∧16≤k∧i=.int .i64 k∧CX n w s (Sha.W b (k-16)) wr)
    case atStart=>exact ⟨16,by omega,by omega,rfl,c2⟩
    case round=>
     clear c2
     obtain ⟨k,hm,h16,rfl,ci⟩:=hrel
     by_cases hlt:k<64
     · obtain ⟨i,hi⟩:∃ i,k=16+i:=⟨k-16,by omega⟩
       rw [show k-16=i by omega] at ci
       have q1:=ci.r2.cell (i+1)
       have q2:=ci.r2.cell (i+14)
       rw [M.rowF_get (show i+1<64 by omega)] at q1
       rw [M.rowF_get (show i+14<64 by omega)] at q2
       have w2:(0:Int)≤(k:Int)-15:=by omega
       have w3:(k:Int)-15<64:=by omega
       have w4:((k:Int)-15).toNat=i+1:=by omega
       have x2:(0:Int)≤(k:Int)-2:=by omega
       have x3:(k:Int)-2<64:=by omega
       have x4:((k:Int)-2).toNat=i+14:=by omega
       have w5:(15:Int)≤k:=by omega
       have x5:(2:Int)≤k:=by omega
       have HI:=Lib.hid hi
       clear hi
       have l1:=Sha.W_lt b i (i+1)
       have l2:=Sha.W_lt b i (i+14)
       have nx:=Sha.W_next b i
       obtain ⟨x,hx⟩:∃ x,Sha.W b i (i+1)=x:=⟨_,rfl⟩
       obtain ⟨y,hy⟩:∃ y,Sha.W b i (i+14)=y:=⟨_,rfl⟩
       rw [hx] at q1 l1 nx
       rw [hy] at q2 l2 nx
       have NX:=Lib.hid nx;have LX:=Lib.hid l1;have LY:=Lib.hid l2
       clear nx hx hy l1 l2
       have t1:=fun W=>turn_any x 7 W LX.out (by decide)
       have t2:=fun W=>turn_any x 18 W LX.out (by decide)
       have t3:=fun W=>shift_any x 3 W (big LX.out) (by decide)
       have t4:=fun W=>turn_any y 17 W LY.out (by decide)
       have t5:=fun W=>turn_any y 19 W LY.out (by decide)
       have t6:=fun W=>shift_any y 10 W (big LY.out) (by decide)
       have hA:=sig0_64 LX.out
       have hB:=sig1_64 LY.out
       have la:=Sha.sig0_lt LX.out
       have lb:=Sha.sig1_lt LY.out
       generalize Sha.rot x 7=r1 at *
       generalize Sha.rot x 18=r2 at *
       generalize x/2 ^ 3=r3 at *
       generalize Sha.rot y 17=r4 at *
       generalize Sha.rot y 19=r5 at *
       generalize y/2 ^ 10=r6 at *
       generalize Sha.sig0 x=S0 at *
       generalize Sha.sig1 y=S1 at *
       have T1:=Lib.hid t1;have T2:=Lib.hid t2;have T3:=Lib.hid t3;have T4:=Lib.hid t4;have T5:=Lib.hid t5;have T6:=Lib.hid t6
       have SA:=Lib.hid la;have SB:=Lib.hid lb
       clear t1 t2 t3 t4 t5 t6 la lb
       go_wp2_with fail
       refine (T1.out _).mono ?_
       rintro e w1 ⟨rfl,rfl⟩
       go_wp2_with fail
       refine (T2.out _).mono ?_
       rintro e w1 ⟨rfl,rfl⟩
       go_wp2_with fail
       refine (T3.out _).mono ?_
       rintro e w1 ⟨rfl,rfl⟩
       go_wp2_with fail
       refine (T4.out _).mono ?_
       rintro e w1 ⟨rfl,rfl⟩
       go_wp2_with fail
       refine (T5.out _).mono ?_
       rintro e w1 ⟨rfl,rfl⟩
       go_wp2_with fail
       refine (T6.out _).mono ?_
       rintro e w1 ⟨rfl,rfl⟩
       clear q1 q2 w2 w3 w4 w5 x2 x3 x4 x5
       have w1:IntKind.i64.wrap ((k:Int)-16)=(k:Int)-16:=IntWalk.i64_in _ (by omega)
       have w2:(0:Int)≤(k:Int)-16:=by omega
       have w3':(k:Int)-16<64:=by omega
       have w4':((k:Int)-16).toNat=i:=by have:=HI.out;omega
       have w5:(16:Int)≤k:=by omega
       have x1:IntKind.i64.wrap ((k:Int)-7)=(k:Int)-7:=IntWalk.i64_in _ (by omega)
       have x2:(0:Int)≤(k:Int)-7:=by omega
       have x3:(k:Int)-7<64:=by omega
       have x4:((k:Int)-7).toNat=i+9:=by have:=HI.out;omega
       have x5:(7:Int)≤k:=by omega
       have hi64:i<48:=by have:=HI.out;omega
       have q1:=ci.r2.cell i
       have q2:=ci.r2.cell (i+9)
       rw [M.rowF_get (show i<64 by omega)] at q1
       rw [M.rowF_get (show i+9<64 by omega)] at q2
       have nx:=NX.out
       have ci4:=ci.drew
       have f5:=ci4.r2.frozen k
       have q5:=ci4.r2.cell k
       rw [M.rowF_get hlt] at q5
       have ci5:=ci4.set k (Sha.W b (i+1) (16+i)) hlt (W':=Sha.W b (i+1)) (fun j _=>by
        split
        · rename_i h;rw [h,HI.out]
        · rename_i h;exact Sha.W_same b i j (by have:=HI.out;omega))
       have lp:=Sha.W_lt b i i
       have lq:=Sha.W_lt b i (i+9)
       generalize Sha.W b (i+1) (16+i)=N at *
       generalize Sha.W b i (i+9)=q at *
       generalize Sha.W b i i=p at *
       have s0l:=SA.out
       have s1l:=SB.out
       have u1:IntKind.u64.wrap ((p:Int)+(S0:Int))=(p:Int)+(S0:Int):=by rw [IntKind.wrap_u64];omega
       have u2:IntKind.u64.wrap ((p:Int)+(S0:Int)+(q:Int))=(p:Int)+(S0:Int)+(q:Int):=by rw [IntKind.wrap_u64];omega
       have u3:IntKind.u64.wrap ((p:Int)+(S0:Int)+(q:Int)+(S1:Int))=(p:Int)+(S0:Int)+(q:Int)+(S1:Int):=by rw [IntKind.wrap_u64];omega
       have hsum:((p:Int)+(S0:Int)+(q:Int)+(S1:Int)).tmod 4294967296=(N:Int):=by
        rw [Int.tmod_eq_emod_of_nonneg (by omega)];omega
       have hsum2:((p:Int)+(S0:Int)+(q:Int)+(S1:Int))%4294967296=(N:Int):=by omega
       clear nx s0l s1l NX lp lq
       go_wp2_with fail
       go_still_tail 16,(by kernel_rfl)
       change wpList _ _ _ _ _ wr.drew
       generalize wr.drew=w5 at *
       go_wp2
       go_roundg (64-(k+1))
       case measure=>omega
       case rel=>exact ⟨k+1,by omega,by omega,by go_num,by rw [show k+1-16=i+1 by have:=HI.out;omega];exact ci5⟩
     · obtain rfl:k=64:=by omega
       have cw:CX n w s (Sha.W b 48) wr:=ci
       clear ci hm hlt h16
       obtain ⟨WF,hWF⟩:∃ WF,Sha.W b 48=WF:=⟨_,rfl⟩
       have hWl:∀ j,WF j<4294967296:=fun j=>by rw [←hWF];exact Sha.W_lt b 48 j
       rw [hWF] at cw
       have HWF:=Lib.hid hWF;have HWl:=Lib.hid hWl
       clear hWF hWl
       go_wp2_with fail
       refine (K_any _).mono ?_
       rintro e w1 ⟨rfl,g1⟩
       have cw1:=cw.same g1
       clear cw g1
       obtain ⟨m,hm⟩:∃ m,w1.heap.size=m:=⟨_,rfl⟩
       have hnm:n+1+1<m:=by have:=cw1.r2.lt;omega
       have sK:(r64 64 Sha.k).size=64:=M.rowF_size
       have oK:(r64 64 Sha.k).all (·.oneCell')=true:=M.rowF_one
       have cw2:=cw1.same ((Below.refl _ w1).alloc (Nat.le_refl _) (.cells (r64 64 Sha.k) 395))
       have p2:=M.RowAt.new w1 395 (r64 64 Sha.k)
       have e9:=World.setRow_alloc_new w1 Y64 (r64 64 Sha.k) 395
       have r9:=heap_alloc_new w1 (.cells Y64 395)
       have hz2:(w1.alloc (.cells (r64 64 Sha.k) 395)).heap.size=m+1:=by simp;exact hm
       rw [hm] at p2 e9 r9
       rw [←e9] at cw2 p2 hz2
       have iK:=info91 _ sK
       obtain ⟨KK,hKK⟩:∃ KK,r64 64 Sha.k=KK:=⟨_,rfl⟩
       rw [hKK] at iK oK sK cw2 p2 hz2 ⊢
       have zK:Y64.size=KK.size:=by rw [sK];rfl
       obtain ⟨v1,hv1⟩:∃ v1,(w1.alloc (.cells #[.int .u64 0,.int .u64 0,.int .u64 0,.int .u64 0,.int .u64 0,.int .u64 0,.int .u64 0,.int .u64 0,.int .u64 0,.int .u64 0,.int .u64 0,.int .u64 0,.int .u64 0,.int .u64 0,.int .u64 0,.int .u64 0,.int .u64 0,.int .u64 0,.int .u64 0,.int .u64 0,.int .u64 0,.int .u64 0,.int .u64 0,.int .u64 0,.int .u64 0,.int .u64 0,.int .u64 0,.int .u64 0,.int .u64 0,.int .u64 0,.int .u64 0,.int .u64 0,.int .u64 0,.int .u64 0,.int .u64 0,.int .u64 0,.int .u64 0,.int .u64 0,.int .u64 0,.int .u64 0,.int .u64 0,.int .u64 0,.int .u64 0,.int .u64 0,.int .u64 0,.int .u64 0,.int .u64 0,.int .u64 0,.int .u64 0,.int .u64 0,.int .u64 0,.int .u64 0,.int .u64 0,.int .u64 0,.int .u64 0,.int .u64 0,.int .u64 0,.int .u64 0,.int .u64 0,.int .u64 0,.int .u64 0,.int .u64 0,.int .u64 0,.int .u64 0] 395)).setRow m KK=v1:=⟨_,rfl⟩
       have cw2:CX n w s WF v1:=hv1▸cw2
       have p2:M.RowAt v1 m 395 KK:=hv1▸p2
       have hz2:v1.heap.size=m+1:=hv1▸hz2
       have HV1:=Lib.hid hv1;have HKK:=Lib.hid hKK
       clear e9 hv1 hKK cw1
       have sC:(stX s).size=8:=M.rowF_size
       have oC:(stX s).all (·.oneCell')=true:=M.rowF_one
       have r0:=cw2.r0
       have cw3:=cw2.same ((Below.refl _ v1).alloc (Nat.le_refl _) (.cells (stX s) 347))
       have p3:=p2.alloc (.cells (stX s) 347)
       have q3:=M.RowAt.new v1 347 (stX s)
       have e8:=World.setRow_alloc_new v1 Y8 (stX s) 347
       have r8':=heap_alloc_new v1 (.cells Y8 347)
       rw [hz2] at q3 e8 r8'
       rw [←e8] at cw3 p3 q3
       rw [HC.out] at r0 sC oC cw3 p3 q3
       have iC:=info37 _ sC
       have zC:Y8.size=C.size:=by rw [sC];rfl
       obtain ⟨v2,hv2⟩:∃ v2,(v1.alloc (.cells #[.int .u64 0,.int .u64 0,.int .u64 0,.int .u64 0,.int .u64 0,.int .u64 0,.int .u64 0,.int .u64 0] 347)).setRow (m+1) C=v2:=⟨_,rfl⟩
       have cw3:CX n w s WF v2:=hv2▸cw3
       have p3:M.RowAt v2 m 395 KK:=hv2▸p3
       have q3:M.RowAt v2 (m+1) 347 C:=hv2▸q3
       have HV2:=Lib.hid hv2
       unfold M.RowAt at r0
       clear e8 hv2 cw2 p2 sK
       go_wp2_with (first
        | (refine wpList_store_row (x:=.tmp 14) (y:=.tmp 95) (cells:=KK) (old:=Y64) (t:=395) (ty:=395) (g:=m) ?_ ?_ ?_ ?_ r9 iK zK oK ?_;rfl;rfl;rfl;rfl;rw [HV1.out])
        | (refine wpList_load_row (x:=.tmp 2) (ty:=347) (g:=n) (cs:=C) (t:=347) (fr:=(0,0)) ?_ ?_ ?_ _ r0 und37 rfl iC ?_;rfl;rfl;rfl)
        | (refine wpList_store_row (x:=.tmp 15) (y:=.tmp 96) (cells:=C) (old:=Y8) (t:=347) (ty:=347) (g:=m+1) ?_ ?_ ?_ ?_ r8' iC zC oC ?_;rfl;rfl;rfl;rfl;rw [HV2.out]))
       rw [←HC.out] at q3
       rw [←HKK.out] at p3
       clear r0 r8' r9 hz2 hm
       go_loopg [16] 64 (fun m' i v=>∃ k:Nat,m'+k=64∧i=.int .i64 k∧CX n w s WF v∧M.RowAt v m 395 (r64 64 Sha.k)∧M.RowAt v (m+1) 347 (stX (Sha.run WF s k)))
       case atStart=>exact ⟨0,by omega,rfl,cw3,p3,q3⟩
       case round=>
        clear cw3 p3 q3
        obtain ⟨k,hm',rfl,ci,pk,pm⟩:=hrel
        by_cases hlt:k<64
        · have hrs:Sha.run WF s (k+1)=Sha.step (Sha.run WF s k) (Sha.k k) (WF k):=rfl
          have hok:=Sha.run_ok (W:=WF) hs k
          obtain ⟨st,hst⟩:∃ st,Sha.run WF s k=st:=⟨_,rfl⟩
          rw [hst] at pm hrs hok
          have HRS:=Lib.hid hrs;have HOK:=Lib.hid hok
          clear hrs hst hok
          have ck:=(pk.cell k).trans (M.rowF_get hlt)
          have cx:=(ci.r2.cell k).trans (M.rowF_get hlt)
          have q0:wr.cell? ⟨m+1,0,none⟩=some (.int .u64 (st.a:Nat)):=stX_cell pm 0 (by decide)
          have q1:wr.cell? ⟨m+1,1,none⟩=some (.int .u64 (st.b:Nat)):=stX_cell pm 1 (by decide)
          have q2:wr.cell? ⟨m+1,2,none⟩=some (.int .u64 (st.c:Nat)):=stX_cell pm 2 (by decide)
          have q4:wr.cell? ⟨m+1,4,none⟩=some (.int .u64 (st.e:Nat)):=stX_cell pm 4 (by decide)
          have q5:wr.cell? ⟨m+1,5,none⟩=some (.int .u64 (st.f:Nat)):=stX_cell pm 5 (by decide)
          have q6:wr.cell? ⟨m+1,6,none⟩=some (.int .u64 (st.g:Nat)):=stX_cell pm 6 (by decide)
          have q7:wr.cell? ⟨m+1,7,none⟩=some (.int .u64 (st.h:Nat)):=stX_cell pm 7 (by decide)
          have hch:=ch_64 HOK.out.e HOK.out.f HOK.out.g
          have hmj:=maj_64 HOK.out.a HOK.out.b HOK.out.c
          have hn6:=not_64 HOK.out.e
          have t6:∀ W,Calls Tryz.prog 285 #[.int .u64 (st.e:Nat),.int .i64 6] W fun e w'=>e=.returned (.int .u64 (Sha.rot st.e 6:Nat))∧W=w':=fun W=>turn_any st.e 6 W HOK.out.e (by decide)
          have t11:∀ W,Calls Tryz.prog 285 #[.int .u64 (st.e:Nat),.int .i64 11] W fun e w'=>e=.returned (.int .u64 (Sha.rot st.e 11:Nat))∧W=w':=fun W=>turn_any st.e 11 W HOK.out.e (by decide)
          have t25:∀ W,Calls Tryz.prog 285 #[.int .u64 (st.e:Nat),.int .i64 25] W fun e w'=>e=.returned (.int .u64 (Sha.rot st.e 25:Nat))∧W=w':=fun W=>turn_any st.e 25 W HOK.out.e (by decide)
          have t2':∀ W,Calls Tryz.prog 285 #[.int .u64 (st.a:Nat),.int .i64 2] W fun e w'=>e=.returned (.int .u64 (Sha.rot st.a 2:Nat))∧W=w':=fun W=>turn_any st.a 2 W HOK.out.a (by decide)
          have t13:∀ W,Calls Tryz.prog 285 #[.int .u64 (st.a:Nat),.int .i64 13] W fun e w'=>e=.returned (.int .u64 (Sha.rot st.a 13:Nat))∧W=w':=fun W=>turn_any st.a 13 W HOK.out.a (by decide)
          have t22:∀ W,Calls Tryz.prog 285 #[.int .u64 (st.a:Nat),.int .i64 22] W fun e w'=>e=.returned (.int .u64 (Sha.rot st.a 22:Nat))∧W=w':=fun W=>turn_any st.a 22 W HOK.out.a (by decide)
          have hb1:=big1_64 HOK.out.e
          have hb0:=big0_64 HOK.out.a
          have hkk:=Sha.k_lt k
          obtain ⟨X,hX⟩:∃ X,WF k=X:=⟨_,rfl⟩
          have hxl:X<4294967296:=by rw [←hX];exact HWl.out k
          rw [hX] at cx
          have HX:=Lib.hid hX
          obtain ⟨KI,hKI⟩:∃ KI,Sha.k k=KI:=⟨_,rfl⟩
          rw [hKI] at ck hkk
          have HKI:=Lib.hid hKI
          clear hX hKI
          obtain ⟨s1,s2,s3,s4,s5⟩:=t1_64 HOK.out hkk hxl
          obtain ⟨s6,s7⟩:=t2_64 HOK.out
          obtain ⟨T1,hT1⟩:∃ T,Sha.t1 st KI X=T:=⟨_,rfl⟩
          obtain ⟨T2,hT2⟩:∃ T,Sha.t2 st=T:=⟨_,rfl⟩
          have l1:T1<4294967296:=by rw [←hT1];exact Nat.mod_lt _ (by decide)
          have l2:T2<4294967296:=by rw [←hT2];exact Nat.mod_lt _ (by decide)
          obtain ⟨f1,f2⟩:=small_sum l1 l2
          obtain ⟨f3,f4⟩:=small_sum HOK.out.d l1
          obtain ⟨NA,hNA⟩:∃ N,(T1+T2)%4294967296=N:=⟨_,rfl⟩
          obtain ⟨NE,hNE⟩:∃ N,(st.d+T1)%4294967296=N:=⟨_,rfl⟩
          have hN:Sha.step st KI X=⟨NA,st.a,st.b,st.c,NE,st.e,st.f,st.g⟩:=by
           unfold Sha.step;rw [hT1,hT2,hNA,hNE]
          rw [hT1] at s5
          rw [hT2] at s7
          rw [hNA] at f2
          rw [hNE] at f4
          have HNN:=Lib.hid hN
          clear hN hNA hNE hT1 hT2 l1 l2 hkk hxl
          generalize Sha.ch st.e st.f st.g=ch at *
          generalize Sha.maj st.a st.b st.c=mj at *
          generalize Sha.big1 st.e=B1 at *
          generalize Sha.big0 st.a=B0 at *
          generalize Sha.rot st.e 6=r6 at *
          generalize Sha.rot st.e 11=r11 at *
          generalize Sha.rot st.e 25=r25 at *
          generalize Sha.rot st.a 2=r2 at *
          generalize Sha.rot st.a 13=r13 at *
          generalize Sha.rot st.a 22=r22 at *
          have D6:=Lib.hid t6;have D11:=Lib.hid t11;have D25:=Lib.hid t25;have D2:=Lib.hid t2';have D13:=Lib.hid t13;have D22:=Lib.hid t22
          clear t6 t11 t25 t2' t13 t22
          obtain ⟨Cf,hCf⟩:∃ C:World→Prop,C=fun w'=>w'=wr.drew:=⟨_,rfl⟩
          have HCf:=Lib.hid hCf
          have cf0:Cf wr.drew:=by rw [hCf]
          clear hCf
          go_wp2_with fail
          refine QP.wp_region_p 22 Cf Cf (by kernel_rfl) (by kernel_rfl) cf0 ?_
          iterate 23
           (refine QP.wpQ_step (fun K hK=>?_)
            go_simp
            first
             | (refine hK _ ?_;clear hK K)
             | (refine ⟨?_,hK _ ?_⟩;decide;clear hK K)
             | ((first | (apply Exists.intro;refine ⟨?_,hK _ ?_⟩) | refine ⟨⟨undef,?_⟩,hK _ ?_⟩)
                first
                 | (apply QP.al_p;decide;(focus (intro wq hq;(rw [HCf.out] at hq;subst hq);(unfold QP.oat;go_simp;first | done | exact ⟨by assumption,rfl⟩ | exact rfl | assumption | (first | exact ⟨cf0,rfl⟩ | ((with_reducible refine (D6.out _).mono ?_);rintro e w' ⟨rfl,rfl⟩;exact ⟨rfl,cf0⟩) | ((with_reducible refine (D11.out _).mono ?_);rintro e w' ⟨rfl,rfl⟩;exact ⟨rfl,cf0⟩) | ((with_reducible refine (D25.out _).mono ?_);rintro e w' ⟨rfl,rfl⟩;exact ⟨rfl,cf0⟩))))))
                 | (apply QP.al_dep;decide;decide;(focus (intro wq hq;(rw [HCf.out] at hq;subst hq);(unfold QP.oat;go_simp;first | done | exact ⟨by assumption,rfl⟩ | exact rfl | assumption | (first | exact ⟨cf0,rfl⟩ | ((with_reducible refine (D6.out _).mono ?_);rintro e w' ⟨rfl,rfl⟩;exact ⟨rfl,cf0⟩) | ((with_reducible refine (D11.out _).mono ?_);rintro e w' ⟨rfl,rfl⟩;exact ⟨rfl,cf0⟩) | ((with_reducible refine (D25.out _).mono ?_);rintro e w' ⟨rfl,rfl⟩;exact ⟨rfl,cf0⟩))))))
                 | (apply QP.al_bef;decide;decide;(focus (intro wq hq;(rw [HCf.out] at hq;subst hq);(unfold QP.oat;go_simp;first | done | exact ⟨by assumption,rfl⟩ | exact rfl | assumption | (first | exact ⟨cf0,rfl⟩ | ((with_reducible refine (D6.out _).mono ?_);rintro e w' ⟨rfl,rfl⟩;exact ⟨rfl,cf0⟩) | ((with_reducible refine (D11.out _).mono ?_);rintro e w' ⟨rfl,rfl⟩;exact ⟨rfl,cf0⟩) | ((with_reducible refine (D25.out _).mono ?_);rintro e w' ⟨rfl,rfl⟩;exact ⟨rfl,cf0⟩))))))
                 | (apply QP.al_ok;decide;(focus (intro wq hq;(rw [HCf.out] at hq;subst hq);(unfold QP.oat;go_simp;first | done | exact ⟨by assumption,rfl⟩ | exact rfl | assumption | (first | exact ⟨cf0,rfl⟩ | ((with_reducible refine (D6.out _).mono ?_);rintro e w' ⟨rfl,rfl⟩;exact ⟨rfl,cf0⟩) | ((with_reducible refine (D11.out _).mono ?_);rintro e w' ⟨rfl,rfl⟩;exact ⟨rfl,cf0⟩) | ((with_reducible refine (D25.out _).mono ?_);rintro e w' ⟨rfl,rfl⟩;exact ⟨rfl,cf0⟩)))));(focus (intro wq hq;(rw [HCf.out] at hq;subst hq);(unfold QP.oat;go_simp;first | done | exact ⟨by assumption,rfl⟩ | exact rfl | assumption | (first | exact ⟨cf0,rfl⟩ | ((with_reducible refine (D6.out _).mono ?_);rintro e w' ⟨rfl,rfl⟩;exact ⟨rfl,cf0⟩) | ((with_reducible refine (D11.out _).mono ?_);rintro e w' ⟨rfl,rfl⟩;exact ⟨rfl,cf0⟩) | ((with_reducible refine (D25.out _).mono ?_);rintro e w' ⟨rfl,rfl⟩;exact ⟨rfl,cf0⟩))))))
                clear hK K))
          refine QP.wpQ_nil ?_
          intro wz hz
          rw [HCf.out] at hz
          subst hz
          have q3:wr.cell? ⟨m+1,3,none⟩=some (.int .u64 (st.d:Nat)):=stX_cell pm 3 (by decide)
          have ci4:=ci.drew
          have pm4:=pm.drew
          have pk4:=pk.drew
          clear ci pm pk hch hb1 hn6 s1 s2 s3 s4 s5 ck cx q7
          go_wp2_with fail
          refine (D2.out _).mono ?_
          rintro e w1 ⟨rfl,rfl⟩
          go_wp2_with fail
          refine (D13.out _).mono ?_
          rintro e w1 ⟨rfl,rfl⟩
          go_wp2_with fail
          refine (D22.out _).mono ?_
          rintro e w1 ⟨rfl,rfl⟩
          obtain ⟨D,hD⟩:∃ D,stX ⟨NA,st.a,st.b,st.c,NE,st.e,st.f,st.g⟩=D:=⟨_,rfl⟩
          have sD:D.size=8:=by rw [←hD];exact M.rowF_size
          have oD:D.all (·.oneCell')=true:=by rw [←hD];exact M.rowF_one
          have iD:=info37 _ sD
          have zD:(stX st).size=D.size:=by rw [sD];exact M.rowF_size
          have pm5:=pm4.setRow D
          have pk5:=pk4.farRow (b:=m+1) (by omega) D
          have ci5:CX n w s WF (wr.drew.setRow (m+1) D):=
           ⟨ci4.r0.farRow (by omega) _,ci4.r1.farRow (by omega) _,ci4.r2.farRow (by omega) _,M.below_setRow ci4.below (by omega)⟩
          have rr:=pm4
          unfold M.RowAt at rr
          have hDl:D=#[.int .u64 (NA:Int),.int .u64 (st.a:Int),.int .u64 (st.b:Int),.int .u64 (st.c:Int),.int .u64 (NE:Int),.int .u64 (st.e:Int),.int .u64 (st.f:Int),.int .u64 (st.g:Int)]:=by rw [←hD];rfl
          have HDL:=Lib.hid hDl;have HD:=Lib.hid hD
          clear hD hDl
          go_wp2_with (refine wpList_store_row (x:=.tmp 15) (y:=.tmp 184) (cells:=D) (old:=stX st) (t:=347) (ty:=347) (g:=m+1) ?_ ?_ ?_ ?_ rr iD zD oD ?_;rfl;rfl;rfl;(rw [HDL.out];rfl))
          go_roundg (64-(k+1))
          case measure=>omega
          case rel=>exact ⟨k+1,by omega,by go_num,ci5,pk5,by rw [HRS.out,HX.out,HKI.out,HNN.out,HD.out];exact pm5⟩
        · obtain rfl:k=64:=by omega
          obtain ⟨rv,hrv⟩:∃ rv,Sha.run WF s 64=rv:=⟨_,rfl⟩
          have hcp:Sha.compress s b=Sha.add s rv:=by rw [←hrv,← HWF.out];rfl
          rw [hrv] at pm
          have hvok:=Sha.run_ok (W:=WF) hs 64
          rw [hrv] at hvok
          have HCP:=Lib.hid hcp
          have cc:∃ f:Nat→Nat,(∀ j,j<8→f j=if j<0 then (Sha.add s rv).get j else s.get j)∧M.RowAt wr n 347 (r64 8 f)∧M.RowAt wr (n+1) 347 Y8∧M.RowAt wr (m+1) 347 (stX rv)∧Below n w wr:=
           ⟨s.get,fun j _=>rfl,ci.r0,ci.r1,pm,ci.below⟩
          have HVOK:=Lib.hid hvok
          clear ci pm pk hrv hcp hvok hlt
          go_wp2
          go_loopg [23] 8 (fun m' i v=>∃ (k:Nat) (f:Nat→Nat),m'+k=8∧i=.int .i64 k∧(∀ j,j<8→f j=if j<k then (Sha.add s rv).get j else s.get j)∧M.RowAt v n 347 (r64 8 f)∧M.RowAt v (n+1) 347 Y8∧M.RowAt v (m+1) 347 (stX rv)∧Below n w v)
          case atStart=>
           obtain ⟨f,h1,h2⟩:=cc
           exact ⟨0,f,by omega,rfl,h1,h2⟩
          case round=>
           clear cc hm'
           obtain ⟨k,f,hm',rfl,hf,c0,c1,c2,cb⟩:=hrel
           by_cases hlt:k<8
           · have HF:=Lib.hid hf
             clear hf
             have e1:=(c0.cell k).trans (M.rowF_get hlt)
             have e2:=stX_cell c2 k hlt
             have fk:f k=s.get k:=by rw [HF.out k hlt,if_neg (by omega)]
             rw [fk] at e1
             have hg:=Sha.add_get s rv k hlt
             have l1:=Sha.St.get_lt hs k
             have l2:=Sha.St.get_lt HVOK.out k
             have d0:=c0.drew;have d1:=c1.drew;have d2:=c2.drew
             have db:=cb.drew
             have d5:=d0.frozen k
             have d6:=(d0.cell k).trans (M.rowF_get hlt)
             rw [fk] at d6
             have e3:=d0.set k (.int .u64 ((Sha.add s rv).get k:Nat))
             rw [M.rowF_set (g:=fun j=>((if j=k then (Sha.add s rv).get k else f j:Nat):Int)) _ hlt (fun j _=>by split<;>rfl)] at e3
             have e4:=d1.far (p:=⟨n,k,none⟩) (by show n≠n+1;omega) (.int .u64 ((Sha.add s rv).get k:Nat))
             have e5:=d2.far (p:=⟨n,k,none⟩) (by show n≠m+1;omega) (.int .u64 ((Sha.add s rv).get k:Nat))
             have e6:Below n w (wr.drew.setCell ⟨n,k,none⟩ (.int .u64 ((Sha.add s rv).get k:Nat))):=db.setCell (Nat.le_refl _) _
             have hF2:∀ j,j<8→(if j=k then (Sha.add s rv).get k else f j)=if j<k+1 then (Sha.add s rv).get j else s.get j:=fun j hj=>by
              by_cases h:j=k
              · rw [if_pos h,if_pos (by omega),h]
              · rw [if_neg h,HF.out j hj]
                by_cases h2:j<k
                · rw [if_pos h2,if_pos (by omega)]
                · rw [if_neg h2,if_neg (by omega)]
             have HF2:=Lib.hid hF2
             obtain ⟨F2,hF2'⟩:∃ F2:Nat→Nat,(fun j=>if j=k then (Sha.add s rv).get k else f j)=F2:=⟨_,rfl⟩
             have e3:M.RowAt (wr.drew.setCell ⟨n,k,none⟩ (.int .u64 ((Sha.add s rv).get k:Nat))) n 347 (r64 8 F2):=by rw [←hF2'];exact e3
             have hF3:∀ j,j<8→F2 j=if j<k+1 then (Sha.add s rv).get j else s.get j:=fun j hj=>by rw [←hF2'];exact HF2.out j hj
             have HF3:=Lib.hid hF3
             clear hF2 hF2' hF3 fk HF2 d0 d1 d2 db
             generalize (Sha.add s rv).get k=N at *
             generalize s.get k=x at *
             generalize rv.get k=y at *
             have hs1:IntKind.u64.wrap ((x:Int)+(y:Int))=(x:Int)+(y:Int):=by rw [IntKind.wrap_u64];omega
             have hs0:((x:Int)+(y:Int))%18446744073709551616=(x:Int)+(y:Int):=by omega
             have hs3:((x:Int)+(y:Int)).tmod 4294967296=(N:Int):=by rw [Int.tmod_eq_emod_of_nonneg (by omega)];omega
             have hs2:((x:Int)+(y:Int))%4294967296=(N:Int):=by omega
             clear hg l1 l2
             have HE3:=Lib.hid e3;have HE4:=Lib.hid e4;have HE5:=Lib.hid e5;have HE6:=Lib.hid e6
             clear e3 e4 e5 e6 c0 c1 c2 cb
             go_wp2_with fail
             go_still_tail 10,(by kernel_rfl)
             change wpList _ _ _ _ _ wr.drew
             generalize wr.drew=w5 at *
             go_wp2
             go_roundg (8-(k+1))
             case measure=>omega
             case rel=>exact ⟨k+1,F2,by omega,by go_num,HF3.out,HE3.out,HE4.out,HE5.out,HE6.out⟩
           · obtain rfl:k=8:=by omega
             have hfin:r64 8 f=stX (Sha.add s rv):=M.rowF_congr (fun j hj=>by rw [hf j hj,if_pos hj])
             rw [hfin] at c0
             have HCF:Hid (stX (Sha.add s rv)=stX (Sha.compress s b)):=Lib.hid (by rw [HCP.out])
             obtain ⟨D,hD⟩:∃ D,stX (Sha.add s rv)=D:=⟨_,rfl⟩
             have sD:D.size=8:=by rw [←hD];exact M.rowF_size
             have zD:Y8.size=D.size:=by rw [sD];rfl
             have oD:D.all (·.oneCell')=true:=by rw [←hD];exact M.rowF_one
             have iD:=info37 _ sD
             have HD:=Lib.hid hD
             rw [hD] at c0
             have q6:=c1.setRow D
             have b6:=M.below_setRow (g:=n+1) (cs:=D) cb (by omega)
             unfold M.RowAt at c0 c1
             clear hf hfin hD
             go_wp2_with (first
              | (refine wpList_load_row (x:=.tmp 2) (ty:=347) (g:=n) (cs:=D) (t:=347) (fr:=(0,0)) ?_ ?_ ?_ _ c0 und37 rfl iD ?_;rfl;rfl;rfl)
              | (refine wpList_store_row (x:=.tmp 4) (y:=.tmp 199) (cells:=D) (old:=Y8) (t:=347) (ty:=347) (g:=n+1) ?_ ?_ ?_ ?_ c1 iD zD oD ?_;rfl;rfl;rfl;rfl))
             have hload:=run_loadVar_row (P:=Tryz.prog) _ (n+1) 347 347 D (0,0) _ q6 und37 rfl iD
             refine bodyPost_ret (v:=.tuple #[.agg D,.bool true]) (by simp [results,Tryz.results220,asAddr,hload]) rfl ⟨by rw [←HD.out,HCF.out],?_⟩
             rw [HN.out]
             exact b6
open Go.RowKit
set_option linter.unusedVariables false
theorem bv_r:BV=stX Sha.begin0:=by kernel_rfl
section
variable {n:Nat} {w:World} {R R':Array Value} {h h':Sha.St} {v v':World}
theorem CS.setH (c:CS n w R h v):CS n w R h' (v.setRow (n+1) (stX h')):=
 ⟨M.RowAt.farRow c.r (by omega) _,M.RowAt.setRow c.h _,M.below_setRow c.below (by omega)⟩
end
theorem cut_mid (b:ByteArray) (i:Nat):(b.extract i (i+64)).size=min 64 (b.size-i):=by simp;omega
theorem set8 {n g:Nat} {w v:World} {R:Array Value} {h:Sha.St} (c:CS n w R h v) (hg:n+1<g) (r:M.RowAt v g 347 Y8) (s2:Sha.St) :
 CS n w R h ((((((((v.setCell ⟨g,0,none⟩ (.int .u64 (s2.a:Nat))).setCell ⟨g,1,none⟩ (.int .u64 (s2.b:Nat))).setCell ⟨g,2,none⟩ (.int .u64 (s2.c:Nat))).setCell ⟨g,3,none⟩ (.int .u64 (s2.d:Nat))).setCell ⟨g,4,none⟩ (.int .u64 (s2.e:Nat))).setCell ⟨g,5,none⟩ (.int .u64 (s2.f:Nat))).setCell ⟨g,6,none⟩ (.int .u64 (s2.g:Nat))).setCell ⟨g,7,none⟩ (.int .u64 (s2.h:Nat)))∧M.RowAt ((((((((v.setCell ⟨g,0,none⟩ (.int .u64 (s2.a:Nat))).setCell ⟨g,1,none⟩ (.int .u64 (s2.b:Nat))).setCell ⟨g,2,none⟩ (.int .u64 (s2.c:Nat))).setCell ⟨g,3,none⟩ (.int .u64 (s2.d:Nat))).setCell ⟨g,4,none⟩ (.int .u64 (s2.e:Nat))).setCell ⟨g,5,none⟩ (.int .u64 (s2.f:Nat))).setCell ⟨g,6,none⟩ (.int .u64 (s2.g:Nat))).setCell ⟨g,7,none⟩ (.int .u64 (s2.h:Nat))) g 347 (stX s2):=by
 have key:∀ (v:World) (i:Nat) (u:Value),CS n w R h v→CS n w R h (v.setCell ⟨g,i,none⟩ u):=fun v i u c=>
  ⟨M.RowAt.far c.r (by show g≠n;omega) u,M.RowAt.far c.h (by show g≠n+1;omega) u,c.below.setCell (by show n≤g;omega) u⟩
 refine ⟨key _ _ _ (key _ _ _ (key _ _ _ (key _ _ _ (key _ _ _ (key _ _ _ (key _ _ _ (key _ _ _ c))))))),?_⟩
 have e:((((((((Y8.setIfInBounds 0 (.int .u64 (s2.a:Nat))).setIfInBounds 1 (.int .u64 (s2.b:Nat))).setIfInBounds 2 (.int .u64 (s2.c:Nat))).setIfInBounds 3 (.int .u64 (s2.d:Nat))).setIfInBounds 4 (.int .u64 (s2.e:Nat))).setIfInBounds 5 (.int .u64 (s2.f:Nat))).setIfInBounds 6 (.int .u64 (s2.g:Nat))).setIfInBounds 7 (.int .u64 (s2.h:Nat)))=stX s2:=by
  have l:stX s2=#[.int .u64 (s2.a:Nat),.int .u64 (s2.b:Nat),.int .u64 (s2.c:Nat),.int .u64 (s2.d:Nat),.int .u64 (s2.e:Nat),.int .u64 (s2.f:Nat),.int .u64 (s2.g:Nat),.int .u64 (s2.h:Nat)]:=rfl
  rw [l];simp [Y8]
 rw [←e]
 exact ((((((((r.set 0 (.int .u64 (s2.a:Nat))).set 1 (.int .u64 (s2.b:Nat))).set 2 (.int .u64 (s2.c:Nat))).set 3 (.int .u64 (s2.d:Nat))).set 4 (.int .u64 (s2.e:Nat))).set 5 (.int .u64 (s2.f:Nat))).set 6 (.int .u64 (s2.g:Nat))).set 7 (.int .u64 (s2.h:Nat)))
theorem bcell {W w1:World} (hb:Below W.heap.size W w1):(∀ b o,b<W.heap.size→w1.cell? ⟨b,o,none⟩=W.cell? ⟨b,o,none⟩)∧(∀ b o,b<W.heap.size→w1.frozen? ⟨b,o,none⟩=W.frozen? ⟨b,o,none⟩):=
 ⟨fun b o h=>hb.cell (p:=⟨b,o,none⟩) h,fun b o h=>hb.frozen (p:=⟨b,o,none⟩) h⟩
set_option maxRecDepth 100000 in
set_option maxHeartbeats 4000000 in
theorem rsum_any (t:ByteArray) (w:World) (hts:t.size≤100000000000) :
 Calls Tryz.prog 149 #[.string t] w fun e w'=>e=.returned (.agg (r8 32 (Sha.sum t)))∧Below w.heap.size w w':=by
 obtain ⟨n,hn⟩:∃ n,w.heap.size=n:=⟨_,rfl⟩
 have HN:=Lib.hid hn
 have c0:CS n w Z32 Sha.begin0 (((w.alloc (.cells Z32 47)).alloc (.cells Y8 347)).setRow (n+1) (stX Sha.begin0)):=by
  subst hn
  have a1:=M.RowAt.new w 47 Z32
  have a2:=M.RowAt.new (w.alloc (.cells Z32 47)) 347 Y8
  rw [World.size_alloc] at a2
  exact ⟨(a1.alloc _).farRow (by omega) _,a2.setRow _,M.below_setRow (((Below.refl _ _).alloc (Nat.le_refl _) _).alloc (by simp) _) (by omega)⟩
 have r1:((w.alloc (.cells Z32 47)).alloc (.cells Y8 347)).heap[n+1]?=some (.cells Y8 347 (0,0)):=by
  subst hn
  have a2:=M.RowAt.new (w.alloc (.cells Z32 47)) 347 Y8
  rw [World.size_alloc] at a2
  exact a2
 rw [←bv_r] at c0
 have r1':((w.alloc (.cells #[.int .u8 0,.int .u8 0,.int .u8 0,.int .u8 0,.int .u8 0,.int .u8 0,.int .u8 0,.int .u8 0,.int .u8 0,.int .u8 0,.int .u8 0,.int .u8 0,.int .u8 0,.int .u8 0,.int .u8 0,.int .u8 0,.int .u8 0,.int .u8 0,.int .u8 0,.int .u8 0,.int .u8 0,.int .u8 0,.int .u8 0,.int .u8 0,.int .u8 0,.int .u8 0,.int .u8 0,.int .u8 0,.int .u8 0,.int .u8 0,.int .u8 0,.int .u8 0] 47)).alloc (.cells #[.int .u64 0,.int .u64 0,.int .u64 0,.int .u64 0,.int .u64 0,.int .u64 0,.int .u64 0,.int .u64 0] 347)).heap[n+1]?=some (.cells Y8 347 (0,0)):=r1
 obtain ⟨v0,hv0⟩:∃ v0,((w.alloc (.cells #[.int .u8 0,.int .u8 0,.int .u8 0,.int .u8 0,.int .u8 0,.int .u8 0,.int .u8 0,.int .u8 0,.int .u8 0,.int .u8 0,.int .u8 0,.int .u8 0,.int .u8 0,.int .u8 0,.int .u8 0,.int .u8 0,.int .u8 0,.int .u8 0,.int .u8 0,.int .u8 0,.int .u8 0,.int .u8 0,.int .u8 0,.int .u8 0,.int .u8 0,.int .u8 0,.int .u8 0,.int .u8 0,.int .u8 0,.int .u8 0,.int .u8 0,.int .u8 0] 47)).alloc (.cells #[.int .u64 0,.int .u64 0,.int .u64 0,.int .u64 0,.int .u64 0,.int .u64 0,.int .u64 0,.int .u64 0] 347)).setRow (n+1) BV=v0:=⟨_,rfl⟩
 have c0:CS n w Z32 Sha.begin0 v0:=hv0▸c0
 have iB:=info37 BV rfl
 have oB:BV.all (·.oneCell')=true:=by kernel_rfl
 have n1:=fun v=>rpad_any t v (by omega)
 have hps:=Sha.pad_size t
 have hz:=zeros_lt t.size
 have hpw:=Sha.pad_whole t
 obtain ⟨P,hP⟩:∃ P,Sha.pad t=P:=⟨_,rfl⟩
 rw [hP] at n1 hps hpw
 have hwd:Sha.words t=Sha.blk Sha.begin0 P (P.size/64):=by rw [←hP];rfl
 have N1:=Lib.hid n1;have HV:=Lib.hid hv0;have R1:=Lib.hid r1';have HWD:=Lib.hid hwd
 have hPs:P.size≤1000000000000:=by omega
 clear n1 hv0 r1 r1' hwd hP hps
 go_enter Tryz.func149,Tryz.ntmps149
 go_wp2_with (refine wpList_store_row (x:=.tmp 3) (y:=.tmp 10) (cells:=BV) (old:=Y8) (t:=347) (ty:=347) (g:=n+1) ?_ ?_ ?_ ?_ R1.out iB rfl oB ?_;rfl;rfl;rfl;rfl;rw [HV.out])
 refine (N1.out _).mono ?_
 rintro e v1 ⟨rfl,g1⟩
 have c1:=c0.same g1
 clear c0 g1 hn hz
 go_wp2
 go_loopg [5] (P.size/64) (fun m i v=>∃ (k:Nat),m+k=P.size/64∧i=.int .i64 (64*(k:Int))∧CS n w Z32 (Sha.blk Sha.begin0 P k) v)
 case atStart=>exact ⟨0,by omega,rfl,c1⟩
 case round=>
  clear c1
  obtain ⟨k,hm,rfl,cs⟩:=hrel
  by_cases hlt:k<P.size/64
  · have hk1:64*(k:Int)<P.size:=by omega
    have g1:IntKind.i64.wrap (64*(k:Int)+64)=64*(k:Int)+64:=IntWalk.i64_in _ (by omega)
    have g2:(64*(k:Int)).toNat=64*k:=by omega
    have g3:(64*(k:Int)+64).toNat=64*k+64:=by omega
    have g4:(0:Int)≤64*(k:Int):=by omega
    have g5:64*(k:Int)+64≤P.size:=by omega
    have g6:64*(k:Int)≤64*(k:Int)+64:=by omega
    have g7:(0:Int)≤64*(k:Int)+64:=by omega
    have hok:=Sha.blk_ok Sha.begin0_ok P k
    have hcm:Sha.blk Sha.begin0 P (k+1)=Sha.compress (Sha.blk Sha.begin0 P k) (P.extract (64*k) (64*k+64)):=rfl
    have hXs:(P.extract (64*k) (64*k+64)).size=64:=by rw [cut_mid];omega
    obtain ⟨sk,hsk⟩:∃ sk,Sha.blk Sha.begin0 P k=sk:=⟨_,rfl⟩
    rw [hsk] at cs hok hcm
    obtain ⟨X,hX⟩:∃ X,P.extract (64*k) (64*k+64)=X:=⟨_,rfl⟩
    rw [hX] at hXs hcm
    have cx:=fun v=>rcompress_any sk X v hok hXs
    obtain ⟨s2,hs2⟩:∃ s2,Sha.compress sk X=s2:=⟨_,rfl⟩
    rw [hs2] at cx hcm
    have cx:∀ v,Calls Tryz.prog 220 #[.agg #[.int .u64 (sk.a:Nat),.int .u64 (sk.b:Nat),.int .u64 (sk.c:Nat),.int .u64 (sk.d:Nat),.int .u64 (sk.e:Nat),.int .u64 (sk.f:Nat),.int .u64 (sk.g:Nat),.int .u64 (sk.h:Nat)],.string X] v fun e w'=>e=.returned (.tuple #[.agg #[.int .u64 (s2.a:Nat),.int .u64 (s2.b:Nat),.int .u64 (s2.c:Nat),.int .u64 (s2.d:Nat),.int .u64 (s2.e:Nat),.int .u64 (s2.f:Nat),.int .u64 (s2.g:Nat),.int .u64 (s2.h:Nat)],.bool true])∧Below v.heap.size v w':=cx
    clear hs2
    have CX:=Lib.hid cx;have HX:=Lib.hid hX;have HCM:=Lib.hid hcm
    clear cx hX hcm hXs hok hsk
    have hnlt:=M.RowAt.lt cs.h
    have iS2:=info37 (stX s2) M.rowF_size
    have zS:(stX sk).size=(stX s2).size:=by rw [M.rowF_size,M.rowF_size]
    have oS:(stX s2).all (·.oneCell')=true:=M.rowF_one
    have q0:wr.cell? ⟨n+1,0,none⟩=some (.int .u64 (sk.a:Nat)):=stX_cell cs.h 0 (by decide)
    have q1:wr.cell? ⟨n+1,1,none⟩=some (.int .u64 (sk.b:Nat)):=stX_cell cs.h 1 (by decide)
    have q2:wr.cell? ⟨n+1,2,none⟩=some (.int .u64 (sk.c:Nat)):=stX_cell cs.h 2 (by decide)
    have q3:wr.cell? ⟨n+1,3,none⟩=some (.int .u64 (sk.d:Nat)):=stX_cell cs.h 3 (by decide)
    have q4:wr.cell? ⟨n+1,4,none⟩=some (.int .u64 (sk.e:Nat)):=stX_cell cs.h 4 (by decide)
    have q5:wr.cell? ⟨n+1,5,none⟩=some (.int .u64 (sk.f:Nat)):=stX_cell cs.h 5 (by decide)
    have q6:wr.cell? ⟨n+1,6,none⟩=some (.int .u64 (sk.g:Nat)):=stX_cell cs.h 6 (by decide)
    have q7:wr.cell? ⟨n+1,7,none⟩=some (.int .u64 (sk.h:Nat)):=stX_cell cs.h 7 (by decide)
    go_wp2_with fail
    go_region_with (first | (go_at_call 220;rw [HX.out];refine (CX.out _).mono ?_;rintro e w' ⟨rfl,gq⟩;obtain ⟨hc,hf⟩:=bcell gq))
    · have csV:=(cs.drew.same gq).same ((Below.refl _ w').alloc (Nat.le_refl _) (.cells #[.int .u64 (s2.a:Nat),.int .u64 (s2.b:Nat),.int .u64 (s2.c:Nat),.int .u64 (s2.d:Nat),.int .u64 (s2.e:Nat),.int .u64 (s2.f:Nat),.int .u64 (s2.g:Nat),.int .u64 (s2.h:Nat)] 347))
      have rV:M.RowAt (w'.alloc (.cells #[.int .u64 (s2.a:Nat),.int .u64 (s2.b:Nat),.int .u64 (s2.c:Nat),.int .u64 (s2.d:Nat),.int .u64 (s2.e:Nat),.int .u64 (s2.f:Nat),.int .u64 (s2.g:Nat),.int .u64 (s2.h:Nat)] 347)) w'.heap.size 347 (stX s2):=M.RowAt.new w' 347 _
      generalize w'.alloc (.cells #[.int .u64 (s2.a:Nat),.int .u64 (s2.b:Nat),.int .u64 (s2.c:Nat),.int .u64 (s2.d:Nat),.int .u64 (s2.e:Nat),.int .u64 (s2.f:Nat),.int .u64 (s2.g:Nat),.int .u64 (s2.h:Nat)] 347)=V at *
      generalize w'.heap.size=g at *
      unfold M.RowAt at rV
      have hS:=csV.h
      have csW:CS n w Z32 s2 (V.setRow (n+1) (stX s2)):=csV.setH
      clear gq hc hf
      go_wp2_with (first
       | (refine wpList_load_row (x:=.tmp 6) (ty:=347) (g:=g) (cs:=stX s2) (t:=347) (fr:=(0,0)) ?_ ?_ ?_ _ rV und37 rfl iS2 ?_;rfl;rfl;rfl)
       | (refine wpList_store_row (x:=.tmp 3) (y:=.tmp 29) (cells:=stX s2) (old:=stX sk) (t:=347) (ty:=347) (g:=n+1) ?_ ?_ ?_ ?_ hS iS2 zS oS ?_;rfl;rfl;rfl;rfl))
      go_roundg (P.size/64-(k+1))
      case measure=>omega
      case rel=>exact ⟨k+1,by omega,by congr 1,by rw [HCM.out];exact csW⟩
    · have cs1:=((cs.same ((Below.refl _ wr).alloc (Nat.le_refl _) (.cells #[.int .u64 0,.int .u64 0,.int .u64 0,.int .u64 0,.int .u64 0,.int .u64 0,.int .u64 0,.int .u64 0] 347))).drew).same gq
      have r1:M.RowAt w' wr.heap.size 347 Y8:=(M.RowAt.new wr 347 Y8).drew.below gq (by simp)
      obtain ⟨csV,rV⟩:=set8 cs1 hnlt r1 s2
      generalize ((((((((w'.setCell ⟨wr.heap.size,0,none⟩ (.int .u64 (s2.a:Nat))).setCell ⟨wr.heap.size,1,none⟩ (.int .u64 (s2.b:Nat))).setCell ⟨wr.heap.size,2,none⟩ (.int .u64 (s2.c:Nat))).setCell ⟨wr.heap.size,3,none⟩ (.int .u64 (s2.d:Nat))).setCell ⟨wr.heap.size,4,none⟩ (.int .u64 (s2.e:Nat))).setCell ⟨wr.heap.size,5,none⟩ (.int .u64 (s2.f:Nat))).setCell ⟨wr.heap.size,6,none⟩ (.int .u64 (s2.g:Nat))).setCell ⟨wr.heap.size,7,none⟩ (.int .u64 (s2.h:Nat)))=V at *
      generalize wr.heap.size=g at *
      unfold M.RowAt at rV
      have hS:=csV.h
      have csW:CS n w Z32 s2 (V.setRow (n+1) (stX s2)):=csV.setH
      clear gq hc hf
      go_wp2_with (first
       | (refine wpList_load_row (x:=.tmp 6) (ty:=347) (g:=g) (cs:=stX s2) (t:=347) (fr:=(0,0)) ?_ ?_ ?_ _ rV und37 rfl iS2 ?_;rfl;rfl;rfl)
       | (refine wpList_store_row (x:=.tmp 3) (y:=.tmp 29) (cells:=stX s2) (old:=stX sk) (t:=347) (ty:=347) (g:=n+1) ?_ ?_ ?_ ?_ hS iS2 zS oS ?_;rfl;rfl;rfl;rfl))
      go_roundg (P.size/64-(k+1))
      case measure=>omega
      case rel=>exact ⟨k+1,by omega,by congr 1,by rw [HCM.out];exact csW⟩
    · have cs1:=((cs.same ((Below.refl _ wr).alloc (Nat.le_refl _) (.cells #[.int .u64 0,.int .u64 0,.int .u64 0,.int .u64 0,.int .u64 0,.int .u64 0,.int .u64 0,.int .u64 0] 347))).drew).same gq
      have r1:M.RowAt w' wr.heap.size 347 Y8:=(M.RowAt.new wr 347 Y8).drew.below gq (by simp)
      obtain ⟨csV,rV⟩:=set8 cs1 hnlt r1 s2
      generalize ((((((((w'.setCell ⟨wr.heap.size,0,none⟩ (.int .u64 (s2.a:Nat))).setCell ⟨wr.heap.size,1,none⟩ (.int .u64 (s2.b:Nat))).setCell ⟨wr.heap.size,2,none⟩ (.int .u64 (s2.c:Nat))).setCell ⟨wr.heap.size,3,none⟩ (.int .u64 (s2.d:Nat))).setCell ⟨wr.heap.size,4,none⟩ (.int .u64 (s2.e:Nat))).setCell ⟨wr.heap.size,5,none⟩ (.int .u64 (s2.f:Nat))).setCell ⟨wr.heap.size,6,none⟩ (.int .u64 (s2.g:Nat))).setCell ⟨wr.heap.size,7,none⟩ (.int .u64 (s2.h:Nat)))=V at *
      generalize wr.heap.size=g at *
      unfold M.RowAt at rV
      have hS:=csV.h
      have csW:CS n w Z32 s2 (V.setRow (n+1) (stX s2)):=csV.setH
      clear gq hc hf
      go_wp2_with (first
       | (refine wpList_load_row (x:=.tmp 6) (ty:=347) (g:=g) (cs:=stX s2) (t:=347) (fr:=(0,0)) ?_ ?_ ?_ _ rV und37 rfl iS2 ?_;rfl;rfl;rfl)
       | (refine wpList_store_row (x:=.tmp 3) (y:=.tmp 29) (cells:=stX s2) (old:=stX sk) (t:=347) (ty:=347) (g:=n+1) ?_ ?_ ?_ ?_ hS iS2 zS oS ?_;rfl;rfl;rfl;rfl))
      go_roundg (P.size/64-(k+1))
      case measure=>omega
      case rel=>exact ⟨k+1,by omega,by congr 1,by rw [HCM.out];exact csW⟩
  · obtain rfl:k=P.size/64:=by omega
    have hk1:¬ 64*((P.size/64:Nat):Int)<P.size:=by omega
    rw [←HWD.out] at cs
    have hwok:=Sha.words_ok t
    have hsm:∀ i,Sha.sum t i=(Sha.words t).get (i/4)/2 ^ (24-8*(i%4))%256:=fun i=>rfl
    obtain ⟨W,hW⟩:∃ W,Sha.words t=W:=⟨_,rfl⟩
    rw [hW] at cs hwok hsm
    obtain ⟨F,hF⟩:∃ F,Sha.sum t=F:=⟨_,rfl⟩
    rw [hF] at hsm
    have HF:=Lib.hid hF;have HSM:=Lib.hid hsm;have HWOK:=Lib.hid hwok
    clear hW hF hsm hwok
    obtain ⟨m,hm'⟩:∃ m,wr.heap.size=m:=⟨_,rfl⟩
    have hnm:n+1<m:=by have:=M.RowAt.lt cs.h;omega
    have c1:=cs.same ((Below.refl _ wr).alloc (Nat.le_refl _) (.cells Z32 47))
    have p1:=M.RowAt.new wr 47 Z32
    have r9:=heap_alloc_new wr (.cells Z32 47)
    have e9:=World.setRow_alloc_new wr Z32 Z32 47
    rw [hm'] at p1 r9 e9
    rw [←e9] at c1 p1
    have i28:=r8_info (fun _=>0)
    rw [z32_r8] at i28
    have o28:Z32.all (·.oneCell')=true:=by kernel_rfl
    obtain ⟨v1,hv1⟩:∃ v1,(wr.alloc (.cells #[.int .u8 0,.int .u8 0,.int .u8 0,.int .u8 0,.int .u8 0,.int .u8 0,.int .u8 0,.int .u8 0,.int .u8 0,.int .u8 0,.int .u8 0,.int .u8 0,.int .u8 0,.int .u8 0,.int .u8 0,.int .u8 0,.int .u8 0,.int .u8 0,.int .u8 0,.int .u8 0,.int .u8 0,.int .u8 0,.int .u8 0,.int .u8 0,.int .u8 0,.int .u8 0,.int .u8 0,.int .u8 0,.int .u8 0,.int .u8 0,.int .u8 0,.int .u8 0] 47)).setRow m Z32=v1:=⟨_,rfl⟩
    have c1:CS n w Z32 W v1:=hv1▸c1
    have p1:M.RowAt v1 m 47 Z32:=hv1▸p1
    have HV1:=Lib.hid hv1
    clear hv1 e9 cs hm
    generalize ((P.size/64:Nat):Int)=Q at *
    go_wp2_with (refine wpList_store_row (x:=.tmp 8) (y:=.tmp 30) (cells:=Z32) (old:=Z32) (t:=47) (ty:=47) (g:=m) ?_ ?_ ?_ ?_ r9 i28 rfl o28 ?_;rfl;rfl;rfl;rfl;rw [HV1.out])
    rw [←upto_zero F] at p1
    clear r9 hm'
    go_loopg [9] 32 (fun m' i v=>∃ k:Nat,m'+k=32∧i=.int .i64 k∧CS n w Z32 W v∧M.RowAt v m 47 (r8 32 (upto F k)))
    case atStart=>exact ⟨0,by omega,rfl,c1,p1⟩
    case round=>
     clear c1 p1
     obtain ⟨k,hm,rfl,cs,p2⟩:=hrel
     by_cases hlt:k<32
     · have q0:wr.cell? ⟨n+1,k/4,none⟩=some (.int .u64 (W.get (k/4):Nat)):=stX_cell cs.h (k/4) (by omega)
       have q2:=(p2.cell k).trans (M.rowF_get hlt)
       rw [upto_at] at q2
       have f2:=p2.frozen k
       have w4:((k:Int)/4).toNat=k/4:=by omega
       have hx:=Sha.St.get_lt HWOK.out (k/4)
       have e1:=HSM.out k
       generalize W.get (k/4)=x at *
       have sh:=fun v=>shift_int x (24-8*((k:Int)%4)) v (by omega) (by omega) (by omega)
       have hto:(24-8*((k:Int)%4)).toNat=24-8*(k%4):=by omega
       rw [hto] at sh
       obtain ⟨y,hy⟩:∃ y,x/2 ^ (24-8*(k%4))=y:=⟨_,rfl⟩
       rw [hy] at sh e1
       have SH:=Lib.hid sh
       have ev:(y:Int)%256=((F k:Nat):Int):=by rw [e1];omega
       have EV:=Lib.hid ev
       have r2:=p2.set k (.int .u8 ((y:Int)%256))
       rw [ev,upto_set _ _ _ hlt,← ev] at r2
       have rc:CS n w Z32 W (wr.setCell ⟨m,k,none⟩ (.int .u8 ((y:Int)%256))):=
        ⟨M.RowAt.far cs.r (by show m≠n;omega) _,M.RowAt.far cs.h (by show m≠n+1;omega) _,cs.below.setCell (by show n≤m;omega) _⟩
       have RC:=Lib.hid rc;have R2:=Lib.hid r2
       clear ev rc r2 sh hx hy e1 hto
       go_wp2_with fail
       refine (SH.out _).mono ?_
       rintro e w2 ⟨rfl,rfl⟩
       go_wp2
       go_roundg (32-(k+1))
       case measure=>omega
       case rel=>exact ⟨k+1,by omega,by go_num,RC.out,R2.out⟩
     · obtain rfl:k=32:=by omega
       rw [upto_all] at p2
       obtain ⟨D,hD⟩:∃ D,r8 32 F=D:=⟨_,rfl⟩
       have zD:Z32.size=D.size:=by rw [←hD];exact r8_zero F
       have oD:D.all (·.oneCell')=true:=by rw [←hD];exact M.rowF_one
       have iD:(Tryz.prog.info? 47).map (·.size)=some D.size:=by rw [←hD];exact r8_info F
       have HD:=Lib.hid hD
       rw [hD] at p2
       have pr:=cs.r
       have q6:=M.RowAt.setRow pr D
       have b6:=M.below_setRow (g:=n) (cs:=D) cs.below (Nat.le_refl _)
       unfold M.RowAt at p2
       clear hD
       go_wp2_with (first
        | (refine wpList_load_row (x:=.tmp 8) (ty:=47) (g:=m) (cs:=D) (t:=47) (fr:=(0,0)) ?_ ?_ ?_ _ p2 und28 rfl iD ?_;rfl;rfl;rfl)
        | (refine wpList_store_row (x:=.tmp 2) (y:=.tmp 48) (cells:=D) (old:=Z32) (t:=47) (ty:=47) (g:=n) ?_ ?_ ?_ ?_ pr iD zD oD ?_;rfl;rfl;rfl;rfl))
       have hload:=run_loadVar_row (P:=Tryz.prog) _ n 47 47 D (0,0) _ q6 und28 rfl iD
       refine bodyPost_ret (v:=.agg D) (by simp [results,Tryz.results149,asAddr,Act.put,hload]) rfl ⟨by rw [←HD.out,HF.out],?_⟩
       rw [HN.out]
       exact b6
end Go.Proofs.YtdebnbgjgkbmaaaGreatDoor
namespace Go.Proofs.YtdebnbgjgkbmaaaGreatDoor.RowK
open Go.ChangeShapes Go.WideShapes Go.ChangeAt Go.RowKit
open Go.ChangeMaps (open_string shut_string)
section
variable {H:Type} {enc:TypeId × Value→H} {P:Program} {w:World}
end
theorem wf_u8 {a:Int} (h:(Lit.int .u8 a).wf=true):0≤a∧a≤255:=by simpa [Lit.wf,IntKind.min,IntKind.max,IntKind.signed,IntKind.bits] using h
end Go.Proofs.YtdebnbgjgkbmaaaGreatDoor.RowK
namespace Go.Proofs.YtdebnbgjgkbmaaaGreatDoor
namespace SX
open Go Go.RowKit
set_option linter.unusedVariables false
set_option maxRecDepth 1000000
noncomputable def opV_step (C:Cfg) (cl:Clr) (all:List Oper) (o:Oper) (_:List Oper) (k:KX) (tm:Sl) (h:Hp) (nx:Nat):CX:=Bool.rec (motive:=fun _=>CX) (op_skip o k tm h nx) (after cl o tm k h nx (op1 C tm h nx o.op)) (wanted all tm o)
noncomputable def opsV (C:Cfg) (cl:Clr) (all:List Oper) (l:List Oper):KX:=List.rec (motive:=fun _=>KX) okN (opV_step C cl all) l
section
variable {C:Cfg} {cl:Clr} {σ:Sig} {n:Nat} {ρ:Rho} {tm tm2:Sl} {h h2:Hp} {nx nx2:Nat} {w:World} {a:Act} {keep:List Nat} {bs:List Blk} {vs:List Value}
theorem opsV_pre (hC:CfgOk C) (hcl:CallOk C σ cl) {ops:Array Oper} {l2:List Oper} {Q:Exit→Act→World→Prop}:∀ (l:List Oper) (ρ:Rho) (tm:Sl) (h:Hp) (nx:Nat) (a:Act) (w:World),(∀ o∈l,operOk C.E n ops.toList o=true)→TmR σ ρ n tm a→Sim σ C.E.gl ρ h nx w →
 opsV C cl ops.toList l tm h nx=.ok .normal tm2 h2 nx2→NextK C σ ρ n h nx w tm2 h2 nx2 (fun a w=>wpList C.E.P ops Q l2 a w)→wpList C.E.P ops Q (l++l2) a w
 | [],ρ,tm,h,nx,a,w,_,R,s,he,hQ=>by
   have he:okN tm h nx=.ok .normal tm2 h2 nx2:=he
   unfold okN at he
   injection he with e1 e2 e3 e4
   subst e2;subst e3;subst e4
   exact hQ ρ a w R s Ext.refl
 | o::l,ρ,tm,h,nx,a,w,hall,R,s,he,hQ=>by
   have ho:=hall o List.mem_cons_self
   have hall':∀ o∈l,operOk C.E n ops.toList o=true:=fun o h=>hall o (List.mem_cons_of_mem _ h)
   have he:opV_step C cl ops.toList o l (opsV C cl ops.toList l) tm h nx=.ok .normal tm2 h2 nx2:=he
   unfold opV_step at he
   have hw:=wanted_ok R ho
   rw [List.cons_append]
   unfold wpList
   rw [←hw]
   cases hb:wanted ops.toList tm o with
   | false=>
     rw [hb] at he
     have he:op_skip o (opsV C cl ops.toList l) tm h nx=.ok .normal tm2 h2 nx2:=he
     unfold op_skip at he
     obtain ⟨tm',e1,R'⟩:=R.putO ho (undef_ok (σ:=σ) (ρ:=ρ)) (go1 (opsV C cl ops.toList l) h nx)
     rw [e1] at he
     rw [if_neg (by decide)]
     exact opsV_pre hC hcl l ρ tm' h nx _ w hall' R' s he hQ
   | true=>
     rw [hb] at he
     obtain ⟨tm',h',nx',e1,hwp⟩:=after_ok hC hcl R s ho (show after cl o tm (opsV C cl ops.toList l) h nx (op1 C tm h nx o.op)=.ok .normal tm2 h2 nx2 from he)
     rw [if_pos rfl]
     refine .inl (hwp _ _ fun ρ' a' w' R' s' x'=>?_)
     exact opsV_pre hC hcl l ρ' tm' h' nx' a' w' hall' R' s' e1 fun ρ2 a2 w2 R2 s2 x2=>hQ ρ2 a2 w2 R2 s2 (x'.trans x2)
theorem opsV_snap (hC:CfgOk C) (hcl:CallOk C σ cl) {ops:Array Oper} {l l2:List Oper} {Q:Exit→Act→World→Prop} (hall:l.all (operOk C.E n ops.toList)=true) (hk:ltH keep=true) (e:snapC n keep (opsV C cl ops.toList l tm h nx)=.ok vs bs nx2) (R:TmR σ ρ n tm a) (s:Sim σ C.E.gl ρ h nx w)
 (hQ:NextK C σ ρ n h nx w (mkT vs) (mkH keep bs) nx2 (fun a w=>wpList C.E.P ops Q l2 a w)):wpList C.E.P ops Q (l++l2) a w:=by
 obtain ⟨tm0,h0,e0,e1,rfl⟩:=snapC_some e
 refine opsV_pre hC hcl l ρ tm h nx a w (fun o ho=>List.all_eq_true.1 hall o ho) R s e0 ?_
 intro ρ' a' w' R' s' x'
 obtain ⟨s2,x2⟩:=s'.less (h':=mkH keep bs) (pickB_mk keep h0 bs (ltH_mem hk) e1)
 exact hQ ρ' a' w' R'.vals s2 (x'.trans x2)
theorem round_snap {x y z u:Code} {fx fy fz fu:KX} (hx:Does C σ n x fx) (hy:Does C σ n y fy) (hz:Does C σ n z fz) (hu:Does C σ n u fu) {Q:Exit→Act→World→Prop} {kp1 kp2:List Nat} {bs1 bs2:List Blk} {vs1 vs2:List Value} {nx1:Nat} (hk1:ltH kp1=true) (hk2:ltH kp2=true)
 (e1:snapC n kp1 (seqR fy (fx tm h nx))=.ok vs1 bs1 nx1) (e2:snapC n kp2 (seqR fu (fz (mkT vs1) (mkH kp1 bs1) nx1))=.ok vs2 bs2 nx2) (R:TmR σ ρ n tm a) (s:Sim σ C.E.gl ρ h nx w) (hQ:NextK C σ ρ n h nx w (mkT vs2) (mkH kp2 bs2) nx2 (Q .normal)) :
 (Code.seq (.block 1 (.seq x (.seq y z))) u).wp C.E.P Q a w:=by
 obtain ⟨tm9,h9,f0,f1,rfl⟩:=snapC_some e1
 obtain ⟨tm8,h8,nx8,g0,f0⟩:=seqR_normal f0
 obtain ⟨tm7,h7,g1,g2,rfl⟩:=snapC_some e2
 obtain ⟨tm6,h6,nx6,g3,g1⟩:=seqR_normal g1
 refine wp_seq (wp_block (wp_seq (hx _ ρ tm h nx a w _ _ _ _ g0 R s ?_)))
 intro ρ2 a2 w2 R2 s2 x2
 refine wp_seq (hy _ ρ2 tm8 h8 nx8 a2 w2 _ _ _ _ f0 R2 s2 ?_)
 intro ρ3 a3 w3 R3 s3 x3
 obtain ⟨s4,x4⟩:=s3.less (h':=mkH kp1 bs1) (pickB_mk kp1 h9 bs1 (ltH_mem hk1) f1)
 refine hz _ ρ3 _ _ _ a3 w3 _ _ _ _ g3 R3.vals s4 ?_
 intro ρ5 a5 w5 R5 s5 x5
 refine hu _ ρ5 tm6 h6 nx6 a5 w5 _ _ _ _ g1 R5 s5 ?_
 intro ρ6 a6 w6 R6 s6 x6
 obtain ⟨s7,x7⟩:=s6.less (h':=mkH kp2 bs2) (pickB_mk kp2 h7 bs2 (ltH_mem hk2) g2)
 exact hQ ρ6 a6 w6 R6.vals s7 (((((x2.trans x3).trans x4).trans x5).trans x6).trans x7)
theorem op_known {ops:Array Oper} {l:List Oper} {o:Oper} {f:FuncId} {v:Value} {Q:Exit→Act→World→Prop} (ho:operOk C.E n ops.toList o=true) (hw:wanted ops.toList tm o=true) (he:(execOp a.eval o).run C.E.P w=.ok (.enter f #[]) w) (R:TmR σ ρ n tm a)
 (hc:Calls C.E.P f #[] w fun e w'=>e=.returned v∧Below w.heap.size w w') (hn:∀ w',Below w.heap.size w w'→wpList C.E.P ops Q l (a.put o.dst v) w'):wpList C.E.P ops Q (o::l) a w:=by
 unfold wpList
 rw [←wanted_ok R ho,hw,if_pos rfl]
 refine .inl (wp_c he hc ?_)
 rintro e w' ⟨rfl,hb⟩
 exact ⟨v,rfl,hn w' hb⟩
end
theorem rsum_ok {C:Cfg} (hP:C.E.P=Tryz.prog) {σ:Sig} {ρ:Rho} {args:List Value} {h:Hp} {nx:Nat} {v:Value} {h':Hp} {nx':Nat} {w:World} {args':Array Value} (e:hkSum args h nx=.ok v h' nx') (s:Sim σ C.E.gl ρ h nx w) (hv:VL σ ρ args args'.toList) :
 Calls C.E.P 149 args' w fun e w'=>∃ v',e=.returned v'∧Did C.E σ ρ h nx w v h' nx' v' w':=by
 unfold hkSum at e
 split at e
 · rename_i t
   obtain ⟨x',hx,hxv⟩:=hv.one
   obtain rfl:=VR.string_inv hxv
   have ha:args'=#[.string t]:=by apply Array.ext';exact hx
   subst ha
   unfold hkSum1 at e
   cases hb:Nat.ble t.data.toList.length 100000000000 with
   | false=>rw [hb] at e;cases e
   | true=>
     rw [hb] at e
     have hs:t.size≤100000000000:=by have:=Nat.le_of_ble_eq_true hb;rwa [Array.length_toList] at this
     have e:shaF t (fun l=>XR.ok (aggB l) h nx)=.ok v h' nx':=e
     rw [shaF_eq,aggB_r8] at e
     injection e with e1 e2 e3
     subst e1;subst e2;subst e3
     rw [hP]
     refine (rsum_any t w hs).mono ?_
     rintro e w' ⟨rfl,hb⟩
     exact ⟨_,rfl,did_below s hb (by rw [←aggB_r8];exact flat1_aggB _)⟩
 · cases e
noncomputable def hk2 (f:FuncId):HkF:=hkIf (Nat.beq f 149) (hkPut hkSum) (hk1 f)
theorem hk2_ok (σ:Sig):HkOk C1 σ hk2:=by
 intro f k hk cl hcl ρ args h nx v h' nx' w args' e s hv
 unfold hk2 at hk
 rcases hkIf_some hk with ⟨hb,hx⟩ | hk
 · obtain rfl:=Nat.eq_of_beq_eq_true hb
   obtain rfl:=hkPut_some hx
   exact rsum_ok rfl e s hv
 · exact hk1_ok σ f k hk cl hcl ρ args h nx v h' nx' w args' e s hv
noncomputable def cl2:Clr:=callF C1 hk2 10000 60
theorem cl2_ok (σ:Sig):CallOk C1 σ cl2:=callF_ok cfg1 fns1 (hk2_ok σ) 10000 60
noncomputable def okRet (t:Nat) (r:SX.CX):Bool:=match r with | .ok .ret tm _ _=>(match tmG tm t with | .bool b=>b | _=>false) | _=>false
theorem okRet_eq {t:Nat} {r:SX.CX} (h:okRet t r=true):r=.ok .ret (tmOf r) (hOf r) (nxOf r)∧tmG (tmOf r) t=.bool true:=by
 unfold okRet at h
 split at h
 · split at h
   · rename_i b hb
     subst h
     exact ⟨rfl,hb⟩
   · cases h
 · cases h
noncomputable def bd13:Code:=(Tryz.f13.body).getD .skip
noncomputable def rs13:Code:=sR (sR (sR bd13))
noncomputable def c13a:Code:=sL bd13
noncomputable def c13b:Code:=sL (sR bd13)
noncomputable def c13r:Code:=sL (sL (sR (sR bd13)))
noncomputable def c13c:Code:=sR (sL (sR (sR bd13)))
noncomputable def c13d:Code:=sL rs13
noncomputable def c13e:Code:=sL (sR rs13)
noncomputable def c13f:Code:=sL (sL (sR (sR rs13)))
noncomputable def l13:Code:=lO (bO (sR (sL (sR (sR rs13)))))
noncomputable def c13h:Code:=sL (sL l13)
noncomputable def c13t:Code:=sR l13
noncomputable def b13:Code:=bO (sL c13t)
noncomputable def c13i:Code:=sL b13
noncomputable def c13j:Code:=sL (sR b13)
noncomputable def c13x:Code:=sR (sR b13)
noncomputable def c13v:Code:=sR c13t
noncomputable def z13:Code:=sR (sR (sR rs13))
noncomputable def c13y:Code:=sL z13
noncomputable def c13k:Code:=sL (sR z13)
noncomputable def c13w:Code:=sR (sR z13)
noncomputable def rOps (c:Code):Array Oper:=match c with | .region _ ops _=>ops | _=>#[]
noncomputable def rId (c:Code):Nat:=match c with | .region i _ _=>i | _=>0
noncomputable def o13r:Array Oper:=rOps c13r
noncomputable def o13h:Array Oper:=rOps c13h
noncomputable def o13k:Array Oper:=rOps c13k
noncomputable def r1:List Oper:=o13r.toList.take 3
noncomputable def r3:List Oper:=o13r.toList.drop 4
noncomputable def r2:Oper:=(o13r.toList.drop 3).headD default
theorem body13:Tryz.f13.body=some (.seq c13a (.seq c13b (.seq (.seq (.region (rId c13r) o13r false) c13c) (.seq c13d (.seq c13e (.seq (.seq c13f (.block 0 (.loop (.seq (.seq (.region (rId c13h) o13h false) (.cond (.tmp 37) .skip (.exit 0))) (.seq (.block 1 (.seq c13i (.seq c13j c13x))) c13v))))) (.seq c13y (.seq (.region (rId c13k) o13k false) c13w)))))))):=by kernel_rfl
theorem r_eq:o13r.toList=r1++r2::r3:=by kernel_rfl
theorem ok13a:codeOk C1.E 143 c13a=true:=by kernel_rfl
theorem ok13b:codeOk C1.E 143 c13b=true:=by kernel_rfl
theorem ok13c:codeOk C1.E 143 c13c=true:=by kernel_rfl
theorem ok13d:codeOk C1.E 143 c13d=true:=by kernel_rfl
theorem ok13e:codeOk C1.E 143 c13e=true:=by kernel_rfl
theorem ok13f:codeOk C1.E 143 c13f=true:=by kernel_rfl
theorem ok13y:codeOk C1.E 143 c13y=true:=by kernel_rfl
theorem ok13i:codeOk C1.E 143 c13i=true:=by kernel_rfl
theorem ok13j:codeOk C1.E 143 c13j=true:=by kernel_rfl
theorem ok13x:codeOk C1.E 143 c13x=true:=by kernel_rfl
theorem ok13v:codeOk C1.E 143 c13v=true:=by kernel_rfl
theorem ok13w:codeOk C1.E 143 c13w=true:=by kernel_rfl
theorem all_h:o13h.toList.all (operOk C1.E 143 o13h.toList)=true:=by kernel_rfl
theorem all_k:o13k.toList.all (operOk C1.E 143 o13k.toList)=true:=by kernel_rfl
theorem all_r1:r1.all (operOk C1.E 143 o13r.toList)=true:=by kernel_rfl
theorem all_r2:operOk C1.E 143 o13r.toList r2=true:=by kernel_rfl
theorem all_r3:r3.all (operOk C1.E 143 o13r.toList)=true:=by kernel_rfl
noncomputable def cF (c:Code):KX:=codeF C1 cl2 1000 c
end SX
end Go.Proofs.YtdebnbgjgkbmaaaGreatDoor
