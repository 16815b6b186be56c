import Derived.ArgAppend
import Derived.Below
import Derived.BigQuiet
import Derived.Calls
import Derived.ChangeKeysEq
import Derived.ChangeOld
import Derived.Deep.AppendLies
import Derived.Deep.CutRange
import Derived.Deep.DeepCutAuto
import Derived.Deep.DeepHandedRow
import Derived.Deep.LoopGhost
import Derived.Deep.MidRow
import Derived.Deep.Onto
import Derived.Deep.QuietTactic
import Derived.Deep.RegionHeld3
import Derived.Deep.RegionWith
import Derived.Deep.WholeRow
import Derived.Defers
import Derived.Great.Walk
import Derived.Laws.Bits64b
import Derived.Laws.BitsAllLaws
import Derived.Laws.BytesArg
import Derived.Laws.EntriesVeiled
import Derived.Laws.Rows
import Derived.Laws.Tables
import Derived.Lib.BufferWrite
import Derived.Lib.Builder
import Derived.Lib.ConvBytes
import Derived.Lib.FrozenHead2
import Derived.Lib.Hide
import Derived.Lib.LaidTab
import Derived.Lib.Strings
import Derived.Lib.UnsafeStr
import Derived.OpenShut
import Derived.Orders
import Derived.Outline
import Derived.OwnWalk
import Derived.ProofKit
import Derived.Shelf.RegionOpenPlain
import Derived.Shelf.Spec.SlicesInsert
import Derived.ShutString
import Derived.StillTailTactics
import Derived.Test.YtdebnbgjgkbmaaaGreatDoorRows
import Derived.WalkKit
import Derived.WalkLawsBesides
import Derived.WalkSpells
import Derived.Test.YtdebnbgjgkbmaaaGreatDoorK4
namespace Go.Proofs.YtdebnbgjgkbmaaaGreatDoor.Ht.Pl
def ours (own:Bool) (s:Int):Bool:=decide (lo own≤s)&&decide (s≤hi own)
def above (own:Bool) (s:Int):Bool:=(decide (0≤s)&&decide (s≤9))&&decide (hi own<s)
end Go.Proofs.YtdebnbgjgkbmaaaGreatDoor.Ht.Pl
namespace Go.Proofs.YtdebnbgjgkbmaaaGreatDoor.Ht
open Go.RowKit
theorem ours_any (own:Bool) (s:Int) (w:World) (h:HT w) :
 Calls Tryz.prog 198 #[.int .i64 s,.bool own] w fun e w'=>e=.returned (.bool (Pl.ours own s))∧Below w.heap.size w w':=by
 have c0:=h.sp0
 have c1:=h.sp1
 have c2:=h.sp2
 have c3:=h.sp3
 clear h
 cases own
 all_goals
  go_enter Tryz.func198,Tryz.ntmps198
  go_wp2
  all_goals go_ret
  all_goals exact ⟨ret_bool (by simp [Pl.ours,Pl.lo,Pl.hi];omega),(Below.refl _ _).alloc (Nat.le_refl _) _⟩
theorem theirs_any (own:Bool) (s:Int) (w:World) (h:HT w) :
 Calls Tryz.prog 199 #[.int .i64 s,.bool own] w fun e w'=>e=.returned (.bool (Pl.ours (!own) s))∧Below w.heap.size w w':=by
 cases own
 all_goals
  go_enter Tryz.func199,Tryz.ntmps199
  go_wp2_with (go_at_call 198;refine (ours_any _ s _ h).mono ?_;rintro e w' ⟨rfl,hb⟩)
  go_ret
  exact ⟨rfl,hb⟩
theorem row_any (b:Bool) (w:World) :
 Calls Tryz.prog 271 #[.bool b] w fun e w'=>e=.returned (.int .i64 (if b then 1 else 0))∧w'=w:=by
 cases b
 all_goals
  go_enter Tryz.func271,Tryz.ntmps271
  go_wp2
  go_ret
  exact ⟨rfl,rfl⟩
end Go.Proofs.YtdebnbgjgkbmaaaGreatDoor.Ht
namespace Go.Proofs.YtdebnbgjgkbmaaaGreatDoor.Oc
open Go.RowKit
set_option linter.unusedVariables false
theorem left_any (r:Addr) (s:ByteArray) (w:World) (h:At w r s) :
 Calls Tryz.prog 37 #[.pointer (some r)] w fun e w'=>e=.returned (.int .i64 s.size)∧w=w':=by
 have hc:=h.cell
 clear h
 go_enter Tryz.func37,Tryz.ntmps37
 go_wp2
 go_ret
 exact ⟨rfl,rfl⟩
end Go.Proofs.YtdebnbgjgkbmaaaGreatDoor.Oc
namespace Go.Proofs.YtdebnbgjgkbmaaaGreatDoor
namespace QR
set_option linter.unusedVariables false
variable {P:Program}
def upd (L:Nat→Bool) (i:Nat):Nat→Bool:=fun j=>if j=i then true else L j
def updV (V:Nat→Value) (i:Nat) (v:Value):Nat→Value:=fun j=>if j=i then v else V j
def putAll (L:Nat→Bool) (V:Nat→Value):List Oper→Nat→Act→Act
 | [],_,a=>a
 | o::r,k,a=>putAll L V r (k+1) (if L k then a.put o.dst (V k) else a)
def apartB:List Oper→Bool
 | []=>true
 | o::r=>(r.all fun x=>match o.dst with | some d=>x.dst != some d | none=>true)&&apartB r
theorem putAll_comm {L:Nat→Bool} {V:Nat→Value} {x:Option Tmp} {v:Value}:∀ (l:List Oper) (k:Nat) (a:Act),(∀ o∈l,∀ d,x=some d→o.dst≠some d)→(putAll L V l k a).put x v=putAll L V l k (a.put x v)
 | [],_,_,_=>rfl
 | o::r,k,a,h=>by
   unfold putAll
   rw [putAll_comm r (k+1) _ (fun o' ho'=>h o' (List.mem_cons_of_mem _ ho'))]
   split
   · rw [Act.put_comm a v (V k) (h o List.mem_cons_self)]
   · rfl
theorem putAll_congr {L L':Nat→Bool} {V V':Nat→Value}:∀ (l:List Oper) (k:Nat) (a:Act),(∀ j,k≤j→j<k+l.length→L j=L' j∧V j=V' j)→putAll L V l k a=putAll L' V' l k a
 | [],_,_,_=>rfl
 | o::r,k,a,h=>by
   unfold putAll
   obtain ⟨h1,h2⟩:=h k (Nat.le_refl _) (by simp)
   rw [h1,h2]
   exact putAll_congr r (k+1) _ (fun j hj hj2=>h j (by omega) (by simp at hj2 ⊢;omega))
theorem putAll_step {L:Nat→Bool} {V:Nat→Value} {v:Value} {i:Nat} {o:Oper}:∀ (l:List Oper) (k:Nat) (a:Act),apartB l=true→k≤i→l[i-k]?=some o→L i=false→(putAll L V l k a).put o.dst v=putAll (upd L i) (updV V i v) l k a
 | [],_,_,_,_,h,_=>by simp at h
 | x::r,k,a,hap,hk,ho,hL=>by
   unfold apartB at hap
   rw [Bool.and_eq_true] at hap
   unfold putAll
   by_cases hki:k=i
   · subst hki
     rw [Nat.sub_self] at ho
     obtain rfl:x=o:=by simpa using ho
     rw [hL,if_neg (by decide),putAll_comm r (k+1) a (fun o' ho' d hd=>?_)]
     · have e1:upd L k k=true:=if_pos rfl
       have e2:updV V k v k=v:=if_pos rfl
       rw [e1,e2,if_pos rfl]
       exact putAll_congr r (k+1) _ (fun j hj _=>⟨(if_neg (by omega)).symm,(if_neg (by omega)).symm⟩)
     · have:=List.all_eq_true.1 hap.1 o' ho'
       rw [hd] at this
       simpa using this
   · have hk':k<i:=by omega
     have e1:upd L i k=L k:=if_neg hki
     have e2:updV V i v k=V k:=if_neg hki
     rw [e1,e2]
     have ho':r[i-(k+1)]?=some o:=by rw [show i-k=(i-(k+1))+1 by omega] at ho;simpa using ho
     exact putAll_step r (k+1) _ hap.2 hk' ho' hL
theorem eval_put_ne {a:Act} {x:Option Tmp} {v:Value} {d:Tmp} (h:x≠some d):(a.put x v).eval (.tmp d)=a.eval (.tmp d):=by
 cases x with
 | none=>rfl
 | some e=>
   have hne:e≠d:=fun h'=>h (by rw [h'])
   unfold Act.put Act.eval
   simp [Array.getElem?_setIfInBounds_ne hne]
theorem eval_base {L:Nat→Bool} {V:Nat→Value} {d:Tmp}:∀ (l:List Oper) (k:Nat) (a:Act),(l.all fun o=>o.dst != some d)=true→(putAll L V l k a).eval (.tmp d)=a.eval (.tmp d)
 | [],_,_,_=>rfl
 | o::r,k,a,h=>by
   rw [List.all_cons,Bool.and_eq_true] at h
   unfold putAll
   rw [eval_base r (k+1) _ h.2]
   split
   · exact eval_put_ne (by simpa using h.1)
   · rfl
theorem size_put (a:Act) (x:Option Tmp) (v:Value):(a.put x v).tmps.size=a.tmps.size:=by
 cases x<;>simp [Act.put]
theorem size_putAll {L:Nat→Bool} {V:Nat→Value}:∀ (l:List Oper) (k:Nat) (a:Act),(putAll L V l k a).tmps.size=a.tmps.size
 | [],_,_=>rfl
 | o::r,k,a=>by
   unfold putAll
   rw [size_putAll r]
   split
   · exact size_put _ _ _
   · rfl
theorem eval_put_eq {a:Act} {v:Value} {d:Tmp} (h:d<a.tmps.size):(a.put (some d) v).eval (.tmp d)=v:=by
 unfold Act.put Act.eval
 simp [Array.getD_eq_getD_getElem?,Array.getElem?_setIfInBounds_self_of_lt h]
theorem eval_at {L:Nat→Bool} {V:Nat→Value} {d:Tmp} {o:Oper} {i:Nat}:∀ (l:List Oper) (k:Nat) (a:Act),apartB l=true→d<a.tmps.size→k≤i→l[i-k]?=some o→o.dst=some d→L i=true→(putAll L V l k a).eval (.tmp d)=V i
 | [],_,_,_,_,_,h,_,_=>by simp at h
 | x::r,k,a,hap,hd,hk,ho,hdst,hL=>by
   unfold apartB at hap
   rw [Bool.and_eq_true] at hap
   unfold putAll
   by_cases hki:k=i
   · subst hki
     rw [Nat.sub_self] at ho
     obtain rfl:x=o:=by simpa using ho
     rw [hL,if_pos rfl,eval_base r (k+1) _ (List.all_eq_true.2 fun o' ho'=>by
      have:=List.all_eq_true.1 hap.1 o' ho'
      rw [hdst] at this
      exact this),hdst]
     exact eval_put_eq hd
   · have ho':r[i-(k+1)]?=some o:=by rw [show i-k=(i-(k+1))+1 by omega] at ho;simpa using ho
     refine eval_at r (k+1) _ hap.2 ?_ (by omega) ho' hdst hL
     split
     · rw [size_put];exact hd
     · exact hd
def lf (listed:Array Bool):Nat→Bool:=fun j=>listed.getD j false
theorem lf_set {listed:Array Bool} {i:Nat} (h:i<listed.size):lf (listed.setIfInBounds i true)=upd (lf listed) i:=by
 funext j
 unfold lf upd
 simp only [Array.getD_eq_getD_getElem?,Array.getElem?_setIfInBounds]
 by_cases hij:i=j
 · subst hij;simp [h]
 · rw [if_neg hij,if_neg (fun e=>hij e.symm)]
def cnt (n:Nat) (listed:Array Bool):Nat:=((List.range n).filter fun i=>!(lf listed i)).length
theorem cnt_set {n:Nat} {listed:Array Bool} {i:Nat} (h:i<listed.size) (hn:i<n) (hf:lf listed i=false):cnt n (listed.setIfInBounds i true)<cnt n listed:=by
 unfold cnt
 rw [lf_set h]
 have e:(List.range n).filter (fun j=>!(upd (lf listed) i j))=((List.range n).filter fun j=>!(lf listed j)).filter (fun j=>decide (j≠i)):=by
  rw [List.filter_filter]
  apply List.filter_congr
  intro j _
  unfold upd
  by_cases hj:j=i
  · simp [hj]
  · simp [hj]
 rw [e]
 refine List.length_filter_lt_length_iff_exists.2 ⟨i,List.mem_filter.2 ⟨List.mem_range.2 hn,by simp [hf]⟩,by simp⟩
end QR
end Go.Proofs.YtdebnbgjgkbmaaaGreatDoor
namespace Go.Proofs.YtdebnbgjgkbmaaaGreatDoor
open Go.RowKit
namespace M
set_option linter.unusedVariables false
section
variable {w w':World} {g:Nat} {t:TypeId} {cs:Array Value}
end
section
variable {B B':Nat} {w0 w w':World}
end
section
variable {g:Nat} {w w' w'':World}
end
section
variable {k:IntKind} {n:Nat} {f g:Nat→Int}
theorem rowF_list {l:List Int} (h:l.length=n):(l.map (Value.int k)).toArray=rowF k n (fun i=>l.getD i 0):=by
 apply Array.ext_getElem?
 intro i
 by_cases hi:i<n
 · rw [rowF_get hi];simp [List.getD,List.getElem?_eq_getElem (show i<l.length by omega)]
 · rw [rowF_out (by omega),Array.getElem?_eq_none (by simp;omega)]
end
end M
end Go.Proofs.YtdebnbgjgkbmaaaGreatDoor
namespace Go.Proofs.YtdebnbgjgkbmaaaGreatDoor
namespace QC
open Go.RowKit
open QP (upon oat wp_of_oat)
open QT (dep)
open QR (upd updV putAll apartB putAll_congr putAll_step lf lf_set cnt cnt_set size_put)
set_option linter.unusedVariables false
variable {P:Program}
def Y (P:Program) (ops:Array Oper) (o:Oper) (a:Act) (v:Value) (w:World):Prop:=
 (Region.wanted o (yielded ops a.tmps)=true∧oat P o a (fun u=>u=w) w v)∨(Region.wanted o (yielded ops a.tmps)=false∧v=undef)
abbrev Fl:=List (Nat × (World→Prop))
def wpC (P:Program) (ops:Array Oper) (E:List Nat) (Q:Exit→Act→World→Prop):List Nat→Fl→Act→World→Prop
 | [],_,a,w=>Q .normal a w
 | i::r,F,a,w=>∃ o,ops[i]?=some o ∧
   if E.contains i then
    wpList P ops (fun e a' w'=>e=.normal∧a'.defers=a.defers∧(∀ x∈F,dep .any ops x.1 30 o=true∨x.2 w')∧wpC P ops E Q r F a' w') [o] a w
   else ∃ v,((∀ u,Y P ops o a v u)∧wpC P ops E Q r F (a.put o.dst v) w)∨(∃ R:World→Prop,R w∧(∀ u,R u→Y P ops o a v u)∧wpC P ops E Q r ((i,R)::F) (a.put o.dst v) w)
def aft (o:Oper) (j:Nat):Bool:=o.after.toList.any fun e=>Region.binds .any e&&e.on==j
def lexB (l:List Oper):Bool:=(List.range l.length).all fun i=>match l[i]? with | some o=>o.after.toList.all fun e=>!Region.binds .any e||decide (e.on<i) | none=>true
def readB (l:List Oper):Bool:=l.all fun o=>(List.range l.length).all fun j=>match l[j]? with | some x=>(match x.dst with | some d=>!(o.looksAt l.toArray).contains d||aft o j | none=>true) | none=>true
def ordB (l:List Oper) (E:List Nat):List Nat→List Nat→Bool
 | [],done=>(List.range l.length).all fun i=>done.contains i
 | i::r,done=>!done.contains i&&(match l[i]? with | some o=>o.after.toList.all fun e=>!Region.binds .any e||done.contains e.on | none=>false) &&
   (!E.contains i||r.all fun k=>match l[k]? with | some o=>dep .any l.toArray i 30 o | none=>false)&&ordB l E r (i::done)
def okC (l:List Oper) (E:List Nat) (ord:List Nat):Bool:=apartB l&&lexB l&&readB l&&Region.noSelect l.toArray&&ordB l E ord []
theorem tmps_congr {L L':Nat→Bool} {V V':Nat→Value} {t:Tmp}:∀ (l:List Oper) (k:Nat) (a a':Act),a.tmps[t]?=a'.tmps[t]?→a.tmps.size=a'.tmps.size→(∀ j o,l[j]?=some o→o.dst=some t→L (k+j)=L' (k+j)∧V (k+j)=V' (k+j)) →
 (putAll L V l k a).tmps[t]?=(putAll L' V' l k a').tmps[t]?
 | [],_,_,_,h,_,_=>h
 | o::r,k,a,a',h,hs,hl=>by
   unfold putAll
   refine tmps_congr r (k+1) _ _ ?_ ?_ (fun j o' ho' hd=>by have:=hl (j+1) o' (by simpa using ho') hd;simpa [Nat.add_assoc,Nat.add_comm 1 j] using this)
   · by_cases hd:o.dst=some t
     · obtain ⟨e1,e2⟩:=hl 0 o rfl hd
       simp only [Nat.add_zero] at e1 e2
       rw [e1,e2]
       split
       · rw [hd];unfold Act.put;simp [Array.getElem?_setIfInBounds,hs]
       · exact h
     · have keep:∀ (b:Bool) (x:Value) (c:Act),(if b=true then c.put o.dst x else c).tmps[t]?=c.tmps[t]?:=fun b x c=>by
        split
        · cases hx:o.dst with
          | none=>rfl
          | some d=>
            have hne:d≠t:=fun e=>hd (by rw [hx,e])
            unfold Act.put;simp [Array.getElem?_setIfInBounds_ne hne]
        · rfl
       rw [keep,keep];exact h
   · have keep:∀ (b:Bool) (x:Value) (c:Act),(if b=true then c.put o.dst x else c).tmps.size=c.tmps.size:=fun b x c=>by
      split
      · exact size_put _ _ _
      · rfl
     rw [keep,keep];exact hs
theorem exec_congr {ops:Array Oper} {a a':Act} (o:Oper) (hs:∀ cs b,o.op≠.select cs b) (h:∀ t∈o.looksAt ops,a.tmps[t]?=a'.tmps[t]?):execOp a.eval o=execOp a'.eval o:=by
 refine execOp_congr o hs fun x hx=>?_
 cases x with
 | tmp t=>
   have:=h t (List.mem_append_left _ (List.mem_filterMap.2 ⟨.tmp t,by simpa using hx,rfl⟩))
   show a.tmps.getD t undef=a'.tmps.getD t undef
   rw [Array.getD_eq_getD_getElem?,Array.getD_eq_getD_getElem?,this]
 | _=>rfl
theorem wanted_congr {ops:Array Oper} {a a':Act} (o:Oper) (h:∀ t∈o.looksAt ops,a.tmps[t]?=a'.tmps[t]?):Region.wanted o (yielded ops a.tmps)=Region.wanted o (yielded ops a'.tmps):=by
 unfold Region.wanted
 cases hg:o.guard with
 | none=>rfl
 | some gw=>
   obtain ⟨g,want⟩:=gw
   have hy:yielded ops a.tmps g=yielded ops a'.tmps g:=by
    unfold yielded
    cases ht:(ops[g]?).bind (·.dst) with
    | none=>rfl
    | some t=>rw [Option.bind_some,Option.bind_some,h t (by simp [Oper.looksAt,hg,ht])]
   simp only [hy]
theorem Y_congr {ops:Array Oper} {a a':Act} {o:Oper} {v:Value} {w:World} (hs:∀ cs b,o.op≠.select cs b) (h:∀ t∈o.looksAt ops,a.tmps[t]?=a'.tmps[t]?) (hy:Y P ops o a v w):Y P ops o a' v w:=by
 unfold Y oat at *
 rw [←exec_congr o hs h,← wanted_congr o h];exact hy
theorem wp_region_g {id:Nat} {Q:Exit→Act→World→Prop} {a0:Act} {w0:World} {l:List Oper} (I:(Nat→Bool)→(Nat→Value)→World→Prop) (hm:P.follows .mixedOrders=true) (hap:apartB l=true)
 (hlex:∀ i o,l[i]?=some o→∀ e∈o.after.toList,Region.binds .any e=true→e.on<i)
 (h0:∀ V,I (fun _=>false) V w0.drew)
 (hstep:∀ i o,l[i]?=some o→∀ L V w,I L V w→L i=false→(∀ j o',l[j]?=some o'→L j=true→∀ e∈o'.after.toList,Region.binds .any e=true→L e.on=true) →
   (∀ e∈o.after.toList,Region.binds .any e=true→L e.on=true)→∀ a,a=putAll L V l 0 a0→∀ K:Act→World→Prop,(∀ v w',I (upd L i) (updV V i v) w'→K (a.put o.dst v) w')→if Region.wanted o (yielded l.toArray a.tmps) then o.wp P a w K Q else K (a.put o.dst undef) w)
 (hend:∀ L V w,(∀ i,i<l.length→L i=true)→I L V w→Q .normal (putAll L V l 0 a0) w):(Code.region id l.toArray true).wp P Q a0 w0:=by
 have key:∀ (fuel:Nat) (listed:Array Bool) (V:Nat→Value) (w:World),listed.size=l.length→cnt l.length listed≤fuel→I (lf listed) V w →
  (∀ j o',l[j]?=some o'→lf listed j=true→∀ e∈o'.after.toList,Region.binds .any e=true→lf listed e.on=true) →
  wpAny P .any l.toArray Q fuel listed (putAll (lf listed) V l 0 a0) w:=by
  have full:∀ (listed:Array Bool),listed.size=l.length→Region.ready .any l.toArray listed=[]→∀ i,i<l.length→lf listed i=true:=by
   intro listed hs hr i
   induction i using Nat.strongRecOn with
   | _ i ih=>
     intro hi
     rcases hb:lf listed i with _ | _
     · exfalso
       have ho:l[i]?=some (l[i]):=List.getElem?_eq_getElem hi
       have hmem:i∈Region.ready .any l.toArray listed:=by
        refine mem_ready.2 ⟨?_,l[i],by simp,fun e he hbd=>?_⟩
        · unfold lf at hb
          rw [Array.getD_eq_getD_getElem?,Array.getElem?_eq_getElem (by omega)] at hb ⊢
          exact hb
        · have hlt:=hlex i _ ho e (by simpa using he) hbd
          exact ih e.on (by omega) (by omega)
       rw [hr] at hmem;cases hmem
     · rfl
  intro fuel
  induction fuel with
  | zero=>
    intro listed V w hs hc hI hd
    have hall:∀ i,i<l.length→lf listed i=true:=fun i hi=>by
     rcases hb:lf listed i with _ | _
     · exfalso
       have:0<cnt l.length listed:=List.length_pos_iff.2 (List.ne_nil_of_mem (List.mem_filter.2 ⟨List.mem_range.2 hi,by simp [hb]⟩))
       omega
     · rfl
    refine ⟨?_,hend _ V w hall hI⟩
    rcases hr:Region.ready .any l.toArray listed with _ | ⟨i,r⟩
    · rfl
    · exfalso
      have hmem:i∈Region.ready .any l.toArray listed:=by rw [hr];exact List.mem_cons_self
      obtain ⟨h1,o,ho,_⟩:=mem_ready.1 hmem
      have hi:i<l.length:=by have:=(Array.getElem?_eq_some_iff.1 ho).1;simpa using this
      have:=hall i hi
      unfold lf at this
      rw [Array.getD_eq_getD_getElem?,Array.getElem?_eq_getElem (by omega)] at this h1
      simp at this h1
      rw [this] at h1;cases h1
  | succ fuel ih=>
    intro listed V w hs hc hI hd
    refine ⟨fun hr=>hend _ V w (full listed hs hr) hI,fun i hi=>?_⟩
    obtain ⟨h1,o,ho,hdep⟩:=mem_ready.1 hi
    have hol:l[i]?=some o:=by simpa using ho
    have hil:i<l.length:=(List.getElem?_eq_some_iff.1 hol).1
    have hLi:lf listed i=false:=by
     unfold lf
     rw [Array.getD_eq_getD_getElem?,Array.getElem?_eq_getElem (by omega)] at h1 ⊢
     exact h1
    have nxt:∀ v w',I (upd (lf listed) i) (updV V i v) w'→wpAny P .any l.toArray Q fuel (listed.setIfInBounds i true) ((putAll (lf listed) V l 0 a0).put o.dst v) w':=fun v w' hI'=>by
     rw [putAll_step l 0 a0 hap (Nat.zero_le _) (by simpa using hol) hLi,← lf_set (by omega)]
     rw [←lf_set (by omega)] at hI'
     refine ih _ _ w' (by simpa using hs) (by have:=cnt_set (n:=l.length) (listed:=listed) (i:=i) (by omega) hil hLi;omega) hI' (fun j o' hj hl e he hb=>?_)
     rw [lf_set (by omega)] at hl ⊢
     unfold upd at hl ⊢
     by_cases hji:j=i
     · subst hji
       obtain rfl:o'=o:=Option.some.inj (hj.symm.trans hol)
       split
       · rfl
       · exact hdep e (by simpa using he) hb
     · rw [if_neg hji] at hl
       split
       · rfl
       · exact hd j o' hj hl e he hb
    have:=hstep i o hol (lf listed) V w hI hLi hd (fun e he hb=>hdep e (by simpa using he) hb) _ rfl _ nxt
    unfold wpOp
    simp only [ho]
    split
    · rename_i hw;rw [if_pos hw] at this;exact .inl this
    · rename_i hw;rw [if_neg hw] at this;exact this
 refine wp_region_any hm ?_
 have e0:lf (Array.replicate l.length false)=fun _=>false:=by
  funext j;unfold lf;rw [Array.getD_eq_getD_getElem?,Array.getElem?_replicate];split<;>rfl
 have h1:=key l.toArray.size (Array.replicate l.length false) (fun _=>undef) w0.drew (by simp) (by unfold cnt;have:=List.length_filter_le (fun i=>!(lf (Array.replicate l.length false) i)) (List.range l.length);simpa using this) (by rw [e0];exact h0 _) (fun j o' _ hl=>by rw [e0] at hl;cases hl)
 have e1:putAll (lf (Array.replicate l.length false)) (fun _=>undef) l 0 a0=a0:=by
  rw [e0]
  have:∀ (r:List Oper) (k:Nat) (a:Act),putAll (fun _=>false) (fun _=>undef) r k a=a:=fun r=>by
   induction r with
   | nil=>intros;rfl
   | cons o r ih=>intro k a;unfold putAll;rw [if_neg (by decide)];exact ih _ _
  exact this l 0 a0
 rw [e1] at h1
 simpa using h1
def Rob (P:Program) (l:List Oper) (E:List Nat) (F:Fl) (aW:Act) (w:World) (k:Nat) (v:Value):Prop:=
 E.contains k=false∧∃ o,l[k]?=some o∧((∀ u,Y P l.toArray o aW v u)∨∃ R,(k,R)∈F∧R w∧∀ u,R u→Y P l.toArray o aW v u)
def dn (done:List Nat):Nat→Bool:=fun k=>done.contains k
structure St (P:Program) (l:List Oper) (E:List Nat) (Q:Exit→Act→World→Prop) (a0:Act) (L:Nat→Bool) (V:Nat→Value) (w:World) (W:Nat→Value) (ord done:List Nat) (F:Fl):Prop where
 ag:∀ k,L k=true→W k=V k
 od:ordB l E ord done=true
 sub:∀ k,L k=true→dn done k=true
 eff:∀ k,dn done k=true→E.contains k=true→L k=true
 dep:∀ k o,dn done k=true→l[k]?=some o→∀ e∈o.after.toList,Region.binds .any e=true→dn done e.on=true
 rob:∀ k,dn done k=true→L k=false→Rob P l E F (putAll (dn done) W l 0 a0) w k (W k)
 wp:wpC P l.toArray E Q ord F (putAll (dn done) W l 0 a0) w
theorem dn_cons {i:Nat} {done:List Nat} (h:dn done i=false):dn (i::done)=upd (dn done) i:=by
 funext j;unfold dn upd
 by_cases hj:j=i
 · subst hj;simp
 · rw [if_neg hj];simp [hj]
theorem aft_of {l:List Oper} (hr:readB l=true) {o:Oper} {k:Nat} (ho:l[k]?=some o) {t:Tmp} (ht:t∈o.looksAt l.toArray) {j:Nat} {x:Oper} (hx:l[j]?=some x) (hd:x.dst=some t):∃ e∈o.after.toList,Region.binds .any e=true∧e.on=j:=by
 unfold readB at hr
 have h1:=List.all_eq_true.1 hr o (List.mem_of_getElem? ho)
 have h2:=List.all_eq_true.1 h1 j (List.mem_range.2 (List.getElem?_eq_some_iff.1 hx).1)
 simp only [hx,hd,Bool.or_eq_true,Bool.not_eq_true'] at h2
 rcases h2 with h2 | h2
 · simp [ht] at h2
 · unfold aft at h2
   obtain ⟨e,he,hb⟩:=List.any_eq_true.1 h2
   simp only [Bool.and_eq_true,beq_iff_eq] at hb
   exact ⟨e,he,hb.1,hb.2⟩
theorem dep_all {l:List Oper} {L:Nat→Bool} (hD:∀ j o',l[j]?=some o'→L j=true→∀ e∈o'.after.toList,Region.binds .any e=true→L e.on=true) {t:Nat}:∀ (f:Nat) (o:Oper),(∀ e∈o.after.toList,Region.binds .any e=true→L e.on=true)→dep .any l.toArray t f o=true→L t=true
 | 0,_,_,h=>by simp [dep] at h
 | f+1,o,hall,h=>by
   unfold dep at h
   obtain ⟨e,he,hb⟩:=List.any_eq_true.1 h
   simp only [Bool.and_eq_true,Bool.or_eq_true,beq_iff_eq] at hb
   obtain ⟨h1,h2⟩:=hb
   rcases h2 with h2 | h2
   · rw [←h2];exact hall e he h1
   · cases ho:l.toArray[e.on]? with
     | none=>simp [ho] at h2
     | some o'=>
       simp only [ho] at h2
       have ho':l[e.on]?=some o':=by simpa using ho
       exact dep_all hD f o' (hD e.on o' ho' (hall e he h1)) h2
section
variable {l:List Oper} {E:List Nat} {Q:Exit→Act→World→Prop} {a0:Act} {L:Nat→Bool} {V W:Nat→Value} {w:World} {ord done:List Nat} {F:Fl}
theorem ordB_cons {i:Nat} {r:List Nat} (h:ordB l E (i::r) done=true):dn done i=false∧(∀ o,l[i]?=some o→∀ e∈o.after.toList,Region.binds .any e=true→dn done e.on=true)∧(∃ o,l[i]?=some o) ∧
 (E.contains i=true→∀ k∈r,∃ o,l[k]?=some o∧dep .any l.toArray i 30 o=true)∧ordB l E r (i::done)=true:=by
 unfold ordB at h
 simp only [Bool.and_eq_true,Bool.not_eq_true',Bool.or_eq_true] at h
 obtain ⟨⟨⟨h1,h2⟩,h3⟩,h4⟩:=h
 refine ⟨h1,fun o ho e he hb=>?_,?_,fun hE k hk=>?_,h4⟩
 · simp only [ho] at h2
   have:=List.all_eq_true.1 h2 e he
   simpa [hb,dn] using this
 · cases ho:l[i]? with
   | none=>simp [ho] at h2
   | some o=>exact ⟨o,rfl⟩
 · rcases h3 with h3 | h3
   · rw [hE] at h3;cases h3
   · have:=List.all_eq_true.1 h3 k hk
     cases hk:l[k]? with
     | none=>simp [hk] at this
     | some o=>exact ⟨o,rfl,by simpa [hk] using this⟩
theorem ordB_mem {i:Nat} (hi:i<l.length):∀ (ord done:List Nat),ordB l E ord done=true→dn done i=false→i∈ord
 | [],done,h,hd=>by
   unfold ordB at h
   have:=List.all_eq_true.1 h i (List.mem_range.2 hi)
   unfold dn at hd;rw [hd] at this;cases this
 | j::r,done,h,hd=>by
   obtain ⟨h1,_,_,_,h5⟩:=ordB_cons h
   by_cases hij:i=j
   · subst hij;exact List.mem_cons_self
   · refine List.mem_cons_of_mem _ (ordB_mem hi r _ h5 ?_)
     rw [dn_cons h1];unfold upd;rw [if_neg hij];exact hd
theorem agree (hr:readB l=true) {k:Nat} {o:Oper} (ho:l[k]?=some o) {L':Nat→Bool} {V':Nat→Value} (h:∀ e∈o.after.toList,Region.binds .any e=true→L e.on=L' e.on∧V e.on=V' e.on):∀ t∈o.looksAt l.toArray,(putAll L V l 0 a0).tmps[t]?=(putAll L' V' l 0 a0).tmps[t]?:=fun t ht=>
 tmps_congr l 0 _ _ rfl rfl fun j x hx hd=>by
  obtain ⟨e,he,hb,hj⟩:=aft_of hr ho ht hx hd
  have:=h e he hb
  rw [hj] at this;simpa using this
theorem St.quiet {i:Nat} {r:List Nat} (hap:apartB l=true) (hr:readB l=true) (hsel:∀ o∈l,∀ cs b,o.op≠.select cs b) (s:St P l E Q a0 L V w W (i::r) done F) (hE:E.contains i=false):∃ W' F',St P l E Q a0 L V w W' r (i::done) F':=by
 obtain ⟨h1,h2,⟨o,ho⟩,_,h5⟩:=ordB_cons s.od
 have hLi:L i=false:=by
  cases hb:L i
  · rfl
  · have:=s.sub i hb;rw [h1] at this;cases this
 have hwp:=s.wp
 obtain ⟨o',ho',hwp⟩:=hwp
 obtain rfl:o'=o:=Option.some.inj (by rw [←ho,← ho'];simp)
 rw [hE,if_neg (by decide)] at hwp
 obtain ⟨v,hwp⟩:=hwp
 have eput:(putAll (dn done) W l 0 a0).put o'.dst v=putAll (dn (i::done)) (updV W i v) l 0 a0:=by
  rw [putAll_step l 0 a0 hap (Nat.zero_le _) (by simpa using ho) h1,dn_cons h1]
 have Ymv:∀ k x v' u,l[k]?=some x→(∀ e∈x.after.toList,Region.binds .any e=true→dn done e.on=true)→Y P l.toArray x (putAll (dn done) W l 0 a0) v' u→Y P l.toArray x (putAll (dn (i::done)) (updV W i v) l 0 a0) v' u:=fun k x v' u hx hdep hy=>
  Y_congr (hsel x (List.mem_of_getElem? hx)) (agree hr hx (fun e he hb=>by
   have hd:=hdep e he hb
   have hne:e.on≠i:=fun he=>by rw [he,h1] at hd;cases hd
   rw [dn_cons h1]
   exact ⟨(if_neg hne).symm,(if_neg hne).symm⟩)) hy
 have mk:∀ F':Fl,(∀ x∈F,x∈F')→Rob P l E F' (putAll (dn (i::done)) (updV W i v) l 0 a0) w i v→wpC P l.toArray E Q r F' ((putAll (dn done) W l 0 a0).put o'.dst v) w→∃ W' F',St P l E Q a0 L V w W' r (i::done) F':=fun F' hF hrob hw=>by
  refine ⟨updV W i v,F',⟨fun k hk=>?_,h5,fun k hk=>?_,fun k hk hEk=>?_,fun k x hk hx e he hb=>?_,fun k hk hLk=>?_,by rw [←eput];exact hw⟩⟩
  · have hne:k≠i:=fun e=>by rw [e,hLi] at hk;cases hk
    show (if k=i then v else W k)=V k
    rw [if_neg hne];exact s.ag k hk
  · rw [dn_cons h1];unfold upd
    split
    · rfl
    · exact s.sub k hk
  · rw [dn_cons h1] at hk;unfold upd at hk
    by_cases hki:k=i
    · subst hki;rw [hE] at hEk;cases hEk
    · rw [if_neg hki] at hk;exact s.eff k hk hEk
  · rw [dn_cons h1] at hk ⊢;unfold upd at hk ⊢
    split
    · rfl
    · by_cases hki:k=i
      · subst hki
        obtain rfl:x=o':=Option.some.inj (hx.symm.trans ho)
        exact h2 x ho e he hb
      · rw [if_neg hki] at hk;exact s.dep k x hk hx e he hb
  · by_cases hki:k=i
    · subst hki
      show Rob P l E F' _ w k (if k=k then v else W k)
      rw [if_pos rfl];exact hrob
    · rw [dn_cons h1] at hk;unfold upd at hk;rw [if_neg hki] at hk
      obtain ⟨g1,x,hx,g2⟩:=s.rob k hk hLk
      show Rob P l E F' _ w k (if k=i then v else W k)
      rw [if_neg hki]
      refine ⟨g1,x,hx,?_⟩
      rcases g2 with g2 | ⟨R,g2,g3,g4⟩
      · exact .inl fun u=>Ymv k x _ u hx (fun e he hb=>s.dep k x hk hx e he hb) (g2 u)
      · exact .inr ⟨R,hF _ g2,g3,fun u hu=>Ymv k x _ u hx (fun e he hb=>s.dep k x hk hx e he hb) (g4 u hu)⟩
 rcases hwp with ⟨hy,hw⟩ | ⟨R,hR,hy,hw⟩
 · exact mk F (fun x hx=>hx) ⟨hE,o',ho,.inl fun u=>Ymv i o' v u ho (fun e he hb=>h2 o' ho e he hb) (hy u)⟩ hw
 · exact mk ((i,R)::F) (fun x hx=>List.mem_cons_of_mem _ hx) ⟨hE,o',ho,.inr ⟨R,List.mem_cons_self,hR,fun u hu=>Ymv i o' v u ho (fun e he hb=>h2 o' ho e he hb) (hy u hu)⟩⟩ hw
theorem St.adv (hap:apartB l=true) (hr:readB l=true) (hsel:∀ o∈l,∀ cs b,o.op≠.select cs b) {i:Nat} (hi:i<l.length):∀ (ord done:List Nat) (W:Nat→Value) (F:Fl),St P l E Q a0 L V w W ord done F →
 ∃ W' ord' done' F',St P l E Q a0 L V w W' ord' done' F'∧(dn done' i=true∨∃ p r,ord'=p::r∧E.contains p=true)
 | [],done,W,F,s=>by
   cases hd:dn done i
   · have:=ordB_mem hi [] done s.od hd;cases this
   · exact ⟨W,[],done,F,s,.inl hd⟩
 | p::r,done,W,F,s=>by
   cases hE:E.contains p
   · obtain ⟨W',F',s'⟩:=s.quiet hap hr hsel hE
     exact St.adv hap hr hsel hi r (p::done) W' F' s'
   · exact ⟨W,p::r,done,F,s,.inr ⟨p,r,rfl,hE⟩⟩
theorem St.finish (hap:apartB l=true) (hr:readB l=true) (hsel:∀ o∈l,∀ cs b,o.op≠.select cs b) (hL:∀ i,i<l.length→L i=true):∀ (ord done:List Nat) (W:Nat→Value) (F:Fl),St P l E Q a0 L V w W ord done F→Q .normal (putAll L V l 0 a0) w
 | [],done,W,F,s=>by
   have h:=s.wp
   have e:putAll (dn done) W l 0 a0=putAll L V l 0 a0:=putAll_congr l 0 a0 fun j _ hj=>by
    have hLj:=hL j (by omega)
    exact ⟨by rw [s.sub j hLj,hLj],s.ag j hLj⟩
   rw [←e];exact h
 | p::r,done,W,F,s=>by
   obtain ⟨h1,_,⟨o,ho⟩,_,_⟩:=ordB_cons s.od
   have:=s.sub p (hL p (List.getElem?_eq_some_iff.1 ho).1)
   rw [h1] at this;cases this
end
theorem wp_region_c {id:Nat} {Q:Exit→Act→World→Prop} {a:Act} {w:World} {l:List Oper} (E ord:List Nat) (hm:P.follows .mixedOrders=true) (hB:okC l E ord=true)
 (h:wpC P l.toArray E Q ord [] a w.drew):(Code.region id l.toArray true).wp P Q a w:=by
 unfold okC at hB
 simp only [Bool.and_eq_true] at hB
 obtain ⟨⟨⟨⟨hap,hlx⟩,hr⟩,hns⟩,hord⟩:=hB
 have hsel:∀ o∈l,∀ cs b,o.op≠.select cs b:=fun o ho cs b=>by
  obtain ⟨j,hj⟩:=List.getElem?_of_mem ho
  exact Region.noSelect_spec hns j o cs b (by simpa using hj)
 have hlex:∀ i o,l[i]?=some o→∀ e∈o.after.toList,Region.binds .any e=true→e.on<i:=fun i o ho e he hb=>by
  have h1:=List.all_eq_true.1 hlx i (List.mem_range.2 (List.getElem?_eq_some_iff.1 ho).1)
  simp only [ho] at h1
  have:=List.all_eq_true.1 h1 e he
  simpa [hb] using this
 have p0:∀ V:Nat→Value,putAll (dn []) V l 0 a=a:=fun V=>by
  have:∀ (r:List Oper) (k:Nat) (a:Act),putAll (dn []) V r k a=a:=fun r=>by
   induction r with
   | nil=>intros;rfl
   | cons o r ih=>intro k a;unfold putAll;rw [if_neg (by unfold dn;simp)];exact ih _ _
  exact this l 0 a
 refine wp_region_g (fun L V w=>∃ W ord done F,St P l E Q a L V w W ord done F) hm hap hlex (fun V=>⟨V,ord,[],[],⟨fun k hk=>(by cases hk),hord,fun k hk=>(by cases hk),fun k hk=>(by simp [dn] at hk),fun k o hk=>(by simp [dn] at hk),fun k hk=>(by simp [dn] at hk),by rw [p0];exact h⟩⟩) ?_ (fun L V w hL ⟨W,ord,done,F,s⟩=>s.finish hap hr hsel hL _ _ _ _)
 intro i o ho L V u ⟨W,ord,done,F,s⟩ hLi hD hdp aA haA K hK
 have hi:i<l.length:=(List.getElem?_eq_some_iff.1 ho).1
 obtain ⟨W,ord,done,F,s,hcase⟩:=s.adv hap hr hsel hi
 have hso:=hsel o (List.mem_of_getElem? ho)
 have cong:∀ t∈o.looksAt l.toArray,(putAll (dn done) W l 0 a).tmps[t]?=aA.tmps[t]?:=by
  rw [haA]
  exact agree hr ho fun e he hb=>by
   have:=hdp e he hb
   exact ⟨by rw [s.sub _ this,this],s.ag _ this⟩
 cases hdi:dn done i
 ·
  rcases hcase with hc | ⟨p,r,rfl,hE⟩
  · rw [hdi] at hc;cases hc
  obtain ⟨h1,h2,⟨op,hop⟩,h4,h5⟩:=ordB_cons s.od
  have hmem:=ordB_mem hi _ _ s.od hdi
  have hip:i=p:=by
   rcases List.mem_cons.1 hmem with e | hmem
   · exact e
   · obtain ⟨x,hx,hdx⟩:=h4 hE i hmem
     obtain rfl:x=o:=Option.some.inj (hx.symm.trans ho)
     have:=s.sub p (dep_all hD 30 x hdp hdx)
     rw [h1] at this;cases this
  subst hip
  obtain ⟨o',ho',hwp⟩:=s.wp
  obtain rfl:o'=o:=Option.some.inj (by rw [←ho,← ho'];simp)
  rw [hE,if_pos rfl] at hwp
  have nxt:∀ v w',(∀ x∈F,dep .any l.toArray x.1 30 o'=true∨x.2 w')→wpC P l.toArray E Q r F ((putAll (dn done) W l 0 a).put o'.dst v) w'→K (aA.put o'.dst v) w':=fun v w' hF hw=>by
   have eput:(putAll (dn done) W l 0 a).put o'.dst v=putAll (dn (i::done)) (updV W i v) l 0 a:=by
    rw [putAll_step l 0 a hap (Nat.zero_le _) (by simpa using ho) h1,dn_cons h1]
   refine hK v w' ⟨updV W i v,r,i::done,F,⟨fun k hk=>?_,h5,fun k hk=>?_,fun k hk hEk=>?_,fun k x hk hx e he hb=>?_,fun k hk hLk=>?_,by rw [←eput];exact hw⟩⟩
   · unfold upd at hk;unfold updV
     split
     · rfl
     · rename_i hne;rw [if_neg hne] at hk;exact s.ag k hk
   · rw [dn_cons h1];unfold upd at hk ⊢
     split
     · rfl
     · rename_i hne;rw [if_neg hne] at hk;exact s.sub k hk
   · rw [dn_cons h1] at hk;unfold upd at hk ⊢
     split
     · rfl
     · rename_i hne;rw [if_neg hne] at hk;exact s.eff k hk hEk
   · rw [dn_cons h1] at hk ⊢;unfold upd at hk ⊢
     split
     · rfl
     · by_cases hki:k=i
       · subst hki
         obtain rfl:x=o':=Option.some.inj (hx.symm.trans ho)
         exact h2 x ho e he hb
       · rw [if_neg hki] at hk;exact s.dep k x hk hx e he hb
   · unfold upd at hLk
     have hki:k≠i:=fun e=>by rw [if_pos e] at hLk;cases hLk
     rw [if_neg hki] at hLk
     rw [dn_cons h1] at hk;unfold upd at hk;rw [if_neg hki] at hk
     obtain ⟨g1,x,hx,g2⟩:=s.rob k hk hLk
     show Rob P l E F _ w' k (if k=i then v else W k)
     rw [if_neg hki]
     have Ymv:∀ u,Y P l.toArray x (putAll (dn done) W l 0 a) (W k) u→Y P l.toArray x (putAll (dn (i::done)) (updV W i v) l 0 a) (W k) u:=fun u hy=>
      Y_congr (hsel x (List.mem_of_getElem? hx)) (agree hr hx (fun e he hb=>by
       have hd:=s.dep k x hk hx e he hb
       have hne:e.on≠i:=fun he=>by rw [he,h1] at hd;cases hd
       rw [dn_cons h1]
       exact ⟨(if_neg hne).symm,(if_neg hne).symm⟩)) hy
     refine ⟨g1,x,hx,?_⟩
     rcases g2 with g2 | ⟨R,g2,g3,g4⟩
     · exact .inl fun u=>Ymv u (g2 u)
     · refine .inr ⟨R,g2,?_,fun u hu=>Ymv u (g4 u hu)⟩
       rcases hF _ g2 with hh | hh
       · have:=dep_all hD 30 o' hdp hh
         rw [hLk] at this;cases this
       · exact hh
  unfold wpList at hwp
  rw [wanted_congr o' cong] at hwp
  split
  · rename_i hwt
    rw [if_pos hwt] at hwp
    rcases hwp with hwp | ⟨_,_,_,hout,_⟩
    · unfold Oper.wp at hwp ⊢
      rw [exec_congr o' hso cong] at hwp
      generalize (execOp aA.eval o').run P u=res at *
      cases res with
      | ok n w'=>
        cases n<;>simp only [Oper.upon] at hwp ⊢
        case value v=>exact nxt v w' hwp.2.2.1 hwp.2.2.2
        case skip=>exact nxt undef w' hwp.2.2.1 hwp.2.2.2
        case defer d=>
         have he:=hwp.2.1
         have hp:∀ (b:Act) (t:Option Tmp) (v:Value),(b.put t v).defers=b.defers:=fun b t v=>by cases t<;>rfl
         rw [hp] at he
         have:=congrArg List.length he
         simp at this
        case enter f args=>
         refine Calls.mono hwp fun e w'' he=>?_
         cases e with
         | returned v=>exact nxt v w'' he.2.2.1 he.2.2.2
         | panicked c=>cases he.1
         | outgrown=>obtain ⟨_,_,h,_⟩:=he;cases h
        case row row args=>exact Rows.mono hwp fun v w'' he=>nxt v w'' he.2.2.1 he.2.2.2
      | halt x w'=>
        cases x<;>simp only [Oper.upon] at hwp
        case panic v=>cases hwp.1
    · cases hout
  · rename_i hwt
    rw [if_neg hwt] at hwp
    exact nxt undef u hwp.2.2.1 hwp.2.2.2
 ·
  obtain ⟨g1,x,hx,g2⟩:=s.rob i hdi hLi
  obtain rfl:x=o:=Option.some.inj (hx.symm.trans ho)
  have hy:Y P l.toArray x (putAll (dn done) W l 0 a) (W i) u:=by
   rcases g2 with g2 | ⟨R,_,g3,g4⟩
   · exact g2 u
   · exact g4 u g3
  have hy:=Y_congr hso cong hy
  have nxt:K (aA.put x.dst (W i)) u:=hK (W i) u ⟨W,ord,done,F,⟨fun k hk=>by
   unfold upd at hk;unfold updV
   by_cases hki:k=i
   · rw [if_pos hki,hki]
   · rw [if_neg hki] at hk;rw [if_neg hki];exact s.ag k hk,s.od,fun k hk=>by
   unfold upd at hk
   by_cases hki:k=i
   · rw [hki];exact hdi
   · rw [if_neg hki] at hk;exact s.sub k hk,fun k hk hEk=>by
   unfold upd
   split
   · rfl
   · exact s.eff k hk hEk,s.dep,fun k hk hLk=>by
   unfold upd at hLk
   by_cases hki:k=i
   · rw [if_pos hki] at hLk;cases hLk
   · rw [if_neg hki] at hLk;exact s.rob k hk hLk,s.wp⟩⟩
  rcases hy with ⟨hw,hy⟩ | ⟨hw,hv⟩
  · rw [if_pos hw]
    refine wp_of_oat (C':=fun u'=>u'=u) (K:=fun a'=>a'=aA.put x.dst (W i)) (fun a' w' e1 e2=>?_) hy rfl
    rw [e1,e2];exact nxt
  · rw [if_neg (by rw [hw];decide)]
    rw [←hv];exact nxt
section
variable {ops:Array Oper} {E:List Nat} {Q:Exit→Act→World→Prop} {i:Nat} {r:List Nat} {F:Fl} {a:Act} {w:World} {o:Oper}
theorem wpC_nil (h:Q .normal a w):wpC P ops E Q [] F a w:=h
theorem wpC_pure (ho:ops.toList[i]?=some o) (hE:E.contains i=false)
 (h:∀ K:Act→Prop,(∀ a,wpC P ops E Q r F a w→K a)→if Region.wanted o (yielded ops a.tmps) then ∃ v,(∀ u,oat P o a (fun x=>x=u) u v)∧K (a.put o.dst v) else K (a.put o.dst undef)):wpC P ops E Q (i::r) F a w:=by
 have:=h _ (fun _ h=>h)
 refine ⟨o,by rw [←Array.getElem?_toList];exact ho,?_⟩
 rw [hE,if_neg (by decide)]
 split at this
 · rename_i hw
   obtain ⟨v,h1,h2⟩:=this
   exact ⟨v,.inl ⟨fun u=>.inl ⟨hw,h1 u⟩,h2⟩⟩
 · rename_i hw
   exact ⟨undef,.inl ⟨fun u=>.inr ⟨by simpa using hw,rfl⟩,this⟩⟩
theorem wpC_rest (R:World→Prop) (v:Value) (ho:ops.toList[i]?=some o) (hE:E.contains i=false) (hw:Region.wanted o (yielded ops a.tmps)=true) (hR:R w) (hy:∀ u,R u→oat P o a (fun x=>x=u) u v)
 (h:wpC P ops E Q r ((i,R)::F) (a.put o.dst v) w):wpC P ops E Q (i::r) F a w:=by
 refine ⟨o,by rw [←Array.getElem?_toList];exact ho,?_⟩
 rw [hE,if_neg (by decide)]
 exact ⟨v,.inr ⟨R,hR,fun u hu=>.inl ⟨hw,hy u hu⟩,h⟩⟩
theorem wpC_load {ty:TypeId} {x:Operand} {p:Addr} {v:Value} (ho:ops.toList[i]?=some o) (hE:E.contains i=false) (hop:o.op=.load ty x) (hw:Region.wanted o (yielded ops a.tmps)=true) (hx:a.eval x=.pointer (some p)) (hc:w.cell? p=some v)
 (hl:∀ u:World,u.cell? p=some v→(Instr.loadAt ty (.pointer (some p))).run P u=.ok v u)
 (h:∀ K:Act→Prop,(∀ a,wpC P ops E Q r ((i,fun u=>u.cell? p=some v)::F) a w→K a)→K (a.put o.dst v)):wpC P ops E Q (i::r) F a w:=by
 refine wpC_rest (fun u=>u.cell? p=some v) v ho hE hw hc (fun u hu=>?_) (h _ fun _ h=>h)
 unfold oat execOp
 simp only [hop,hx,Sem.run_bind,Sem.run_pure,Result.andThen_ok,hl u hu]
 exact ⟨rfl,rfl⟩
def effQ (P:Program) (ops:Array Oper) (E:List Nat) (Q:Exit→Act→World→Prop) (r:List Nat) (F:Fl) (o:Oper) (a:Act) (e:Exit) (a':Act) (w':World):Prop:=
 e=.normal∧a'.defers=a.defers∧(∀ x∈F,dep .any ops x.1 30 o=true∨x.2 w')∧wpC P ops E Q r F a' w'
theorem eff_ok {a':Act} {w':World} (hd:a'.defers=a.defers) (hF:∀ x∈F,dep .any ops x.1 30 o=true∨x.2 w') (h:wpC P ops E Q r F a' w'):effQ P ops E Q r F o a .normal a' w':=⟨rfl,hd,hF,h⟩
theorem wpC_eff (ho:ops.toList[i]?=some o) (hE:E.contains i=true)
 (h:wpList P ops (effQ P ops E Q r F o a) [o] a w):wpC P ops E Q (i::r) F a w:=by
 refine ⟨o,by rw [←Array.getElem?_toList];exact ho,?_⟩
 rw [hE,if_pos rfl];exact h
theorem obl_nil {w':World}:∀ x∈([]:Fl),dep .any ops x.1 30 o=true∨x.2 w':=fun x hx=>by cases hx
theorem obl_dep {w':World} {j:Nat} {R:World→Prop} (h:dep .any ops j 30 o=true) (hF:∀ x∈F,dep .any ops x.1 30 o=true∨x.2 w'):∀ x∈((j,R)::F:Fl),dep .any ops x.1 30 o=true∨x.2 w':=fun x hx=>by
 rcases List.mem_cons.1 hx with e | e
 · subst e;exact .inl h
 · exact hF x e
theorem obl_is {w':World} {j:Nat} {R:World→Prop} (h:R w') (hF:∀ x∈F,dep .any ops x.1 30 o=true∨x.2 w'):∀ x∈((j,R)::F:Fl),dep .any ops x.1 30 o=true∨x.2 w':=fun x hx=>by
 rcases List.mem_cons.1 hx with e | e
 · subst e;exact .inr h
 · exact hF x e
end
structure Dr (w u:World):Prop where
 heap:u.heap=w.heap
 os:u.os=w.os
 tape:u.tape=w.tape
 output:u.output=w.output
section
variable {w u v:World}
theorem Dr.refl (w:World):Dr w w:=⟨rfl,rfl,rfl,rfl⟩
theorem Dr.drew (w:World):Dr w w.drew:=⟨rfl,rfl,rfl,rfl⟩
theorem Dr.trans (h:Dr w u) (h':Dr u v):Dr w v:=⟨h'.heap.trans h.heap,h'.os.trans h.os,h'.tape.trans h.tape,h'.output.trans h.output⟩
theorem Dr.cell (h:Dr w u) (p:Addr):u.cell? p=w.cell? p:=by unfold World.cell?;rw [h.heap]
theorem Dr.frozen (h:Dr w u) (p:Addr):u.frozen? p=w.frozen? p:=by unfold World.frozen?;rw [h.heap]
theorem Dr.row (h:Dr w u) {g:Nat} {t:TypeId} {cs:Array Value} (hr:M.RowAt w g t cs):M.RowAt u g t cs:=by unfold M.RowAt at *;rw [h.heap];exact hr
theorem Dr.below {n:Nat} (h:Dr w u):Below n w u:=⟨h.os,h.tape,h.output,by rw [h.heap];exact Nat.le_refl _,fun k _=>by rw [h.heap]⟩
theorem Dr.size (h:Dr w u):u.heap.size=w.heap.size:=by rw [h.heap]
end
theorem wp_region_d {id:Nat} {Q:Exit→Act→World→Prop} {a:Act} {w:World} {l:List Oper} (E ord:List Nat) (hm:P.follows .mixedOrders=true) (hB:okC l E ord=true)
 (h:∀ u,Dr w u→wpC P l.toArray E Q ord [] a u):(Code.region id l.toArray true).wp P Q a w:=wp_region_c E ord hm hB (h _ (Dr.drew w))
end QC
end Go.Proofs.YtdebnbgjgkbmaaaGreatDoor
namespace Go.Proofs.YtdebnbgjgkbmaaaGreatDoor
open Go.RowKit
set_option linter.unusedVariables false
section
variable {n:Nat} {w:World} {R R':Array Value} {h h':Sha.St} {v v':World}
end
theorem set8 {n g:Nat} {w v:World} {R:Array Value} {h:Sha.St} (c:CS n w R h v) (hg:n+1<g) (r:M.RowAt v g 347 Y8) (s2:Sha.St) :
 CS n w R h ((((((((v.setCell ⟨g,0,none⟩ (.int .u64 (s2.a:Nat))).setCell ⟨g,1,none⟩ (.int .u64 (s2.b:Nat))).setCell ⟨g,2,none⟩ (.int .u64 (s2.c:Nat))).setCell ⟨g,3,none⟩ (.int .u64 (s2.d:Nat))).setCell ⟨g,4,none⟩ (.int .u64 (s2.e:Nat))).setCell ⟨g,5,none⟩ (.int .u64 (s2.f:Nat))).setCell ⟨g,6,none⟩ (.int .u64 (s2.g:Nat))).setCell ⟨g,7,none⟩ (.int .u64 (s2.h:Nat)))∧M.RowAt ((((((((v.setCell ⟨g,0,none⟩ (.int .u64 (s2.a:Nat))).setCell ⟨g,1,none⟩ (.int .u64 (s2.b:Nat))).setCell ⟨g,2,none⟩ (.int .u64 (s2.c:Nat))).setCell ⟨g,3,none⟩ (.int .u64 (s2.d:Nat))).setCell ⟨g,4,none⟩ (.int .u64 (s2.e:Nat))).setCell ⟨g,5,none⟩ (.int .u64 (s2.f:Nat))).setCell ⟨g,6,none⟩ (.int .u64 (s2.g:Nat))).setCell ⟨g,7,none⟩ (.int .u64 (s2.h:Nat))) g 347 (stX s2):=by
 have key:∀ (v:World) (i:Nat) (u:Value),CS n w R h v→CS n w R h (v.setCell ⟨g,i,none⟩ u):=fun v i u c=>
  ⟨M.RowAt.far c.r (by show g≠n;omega) u,M.RowAt.far c.h (by show g≠n+1;omega) u,c.below.setCell (by show n≤g;omega) u⟩
 refine ⟨key _ _ _ (key _ _ _ (key _ _ _ (key _ _ _ (key _ _ _ (key _ _ _ (key _ _ _ (key _ _ _ c))))))),?_⟩
 have e:((((((((Y8.setIfInBounds 0 (.int .u64 (s2.a:Nat))).setIfInBounds 1 (.int .u64 (s2.b:Nat))).setIfInBounds 2 (.int .u64 (s2.c:Nat))).setIfInBounds 3 (.int .u64 (s2.d:Nat))).setIfInBounds 4 (.int .u64 (s2.e:Nat))).setIfInBounds 5 (.int .u64 (s2.f:Nat))).setIfInBounds 6 (.int .u64 (s2.g:Nat))).setIfInBounds 7 (.int .u64 (s2.h:Nat)))=stX s2:=by
  have l:stX s2=#[.int .u64 (s2.a:Nat),.int .u64 (s2.b:Nat),.int .u64 (s2.c:Nat),.int .u64 (s2.d:Nat),.int .u64 (s2.e:Nat),.int .u64 (s2.f:Nat),.int .u64 (s2.g:Nat),.int .u64 (s2.h:Nat)]:=rfl
  rw [l];simp [Y8]
 rw [←e]
 exact ((((((((r.set 0 (.int .u64 (s2.a:Nat))).set 1 (.int .u64 (s2.b:Nat))).set 2 (.int .u64 (s2.c:Nat))).set 3 (.int .u64 (s2.d:Nat))).set 4 (.int .u64 (s2.e:Nat))).set 5 (.int .u64 (s2.f:Nat))).set 6 (.int .u64 (s2.g:Nat))).set 7 (.int .u64 (s2.h:Nat)))
end Go.Proofs.YtdebnbgjgkbmaaaGreatDoor
namespace Go.Proofs.YtdebnbgjgkbmaaaGreatDoor.RowK
open Go.ChangeShapes Go.WideShapes Go.ChangeAt Go.RowKit
open Go.ChangeMaps (open_string shut_string)
section
variable {H:Type} {enc:TypeId × Value→H} {P:Program} {w:World}
end
theorem wf_u16 {a:Int} (h:(Lit.int .u16 a).wf=true):0≤a∧a≤65535:=by simpa [Lit.wf,IntKind.min,IntKind.max,IntKind.signed,IntKind.bits] using h
theorem wf_u64 {a:Int} (h:(Lit.int .u64 a).wf=true):0≤a∧a≤18446744073709551615:=by simpa [Lit.wf,IntKind.min,IntKind.max,IntKind.signed,IntKind.bits] using h
theorem wf_u32 {a:Int} (h:(Lit.int .u32 a).wf=true):0≤a∧a≤4294967295:=by simpa [Lit.wf,IntKind.min,IntKind.max,IntKind.signed,IntKind.bits] using h
end Go.Proofs.YtdebnbgjgkbmaaaGreatDoor.RowK
namespace Go.Proofs.YtdebnbgjgkbmaaaGreatDoor
open Go.RowKit
set_option linter.unusedVariables false
theorem bytesI_congr {n:Nat} {f g:Nat→Int} (h:∀ i,i<n→f i=g i):bytesI n f=bytesI n g:=by
 unfold bytesI;congr 1;exact List.map_congr_left (fun i hi=>h i (List.mem_range.1 hi))
theorem bk_lt (k:ByteArray) (i:Nat):0≤bk k i∧bk k i≤255:=by have:=Sha.byte_lt k i;unfold bk;omega
theorem bk_out (k:ByteArray) (i:Nat) (h:k.size≤i):bk k i=0:=by
 unfold bk Sha.byte
 rw [List.getD_eq_getElem?_getD,List.getElem?_eq_none (by simpa using h)];rfl
def mixF (k:ByteArray) (x:Int) (i:Nat):Int:=bits .xor .u8 (bk k i) x
def mixS (k:ByteArray) (x:Int):ByteArray:=bytesI 64 (mixF k x)
theorem mixS_size (k:ByteArray) (x:Int):(mixS k x).size=64:=bytesI_size _ _
theorem keyOf_size (k:ByteArray):(keyOf k).size≤64:=by unfold keyOf;split;rw [hstr_size];decide;omega
def macIn (k s:ByteArray):Nat→Nat:=Sha.sum (mixS k 54++s)
def mac (k s:ByteArray):Nat→Nat:=Sha.sum (mixS (keyOf k) 92++hstr (macIn (keyOf k) s))
def eqH (F G:Nat→Nat):Bool:=(List.range 32).all fun i=>F i==G i
theorem eqH_self (F:Nat→Nat):eqH F F=true:=by unfold eqH;simp
theorem eqItems_r8c (F G:Nat→Nat) (W:World):∀ (is:List Nat),(∀ i∈is,i<32)→(Op.eqItems 9999 5 1 (r8 32 F) (r8 32 G) is).run Tryz.prog W=.ok (is.all fun i=>F i==G i) W
 | [],_=>rfl
 | i::is,h=>by
   have hi:=h i (by simp)
   have ih:=eqItems_r8c F G W is (fun j hj=>h j (by simp [hj]))
   have hf:(r8 32 F)[i]?=some (.int .u8 (F i:Nat)):=M.rowF_get hi
   have hg:(r8 32 G)[i]?=some (.int .u8 (G i:Nat)):=M.rowF_get hi
   by_cases he:F i=G i
   · simp [Op.eqItems,part,ih,hf,hg,go_sem,he]
   · have he':¬ ((F i:Nat):Int)=((G i:Nat):Int):=by omega
     simp [Op.eqItems,part,hf,hg,go_sem,he,he']
set_option maxRecDepth 100000 in
theorem r8_cmp (F G:Nat→Nat) (W:World):(Op.equalIn 10000 47 (.agg (r8 32 F)) (.agg (r8 32 G))).run Tryz.prog W=.ok (eqH F G) W:=by
 have hi:∃ i,Tryz.prog.info? 5=some i:=⟨_,rfl⟩
 obtain ⟨i,hi⟩:=hi
 have hc:Tryz.prog.cellsOf 5=1:=by kernel_rfl
 have h:=run_equalIn_array (P:=Tryz.prog) (w:=W) 9999 (r8 32 F) (r8 32 G) und28 hi
 rw [hc] at h
 exact h.trans (eqItems_r8c F G W _ (fun j hj=>List.mem_range.1 hj))
end Go.Proofs.YtdebnbgjgkbmaaaGreatDoor
namespace Go.Proofs.YtdebnbgjgkbmaaaGreatDoor
open Go.RowKit
set_option linter.unusedVariables false
abbrev b8 (n:Nat) (f:Nat→Int):Array Value:=M.rowF .u8 n f
def Z64:Array Value:=#[.int .u8 0,.int .u8 0,.int .u8 0,.int .u8 0,.int .u8 0,.int .u8 0,.int .u8 0,.int .u8 0,.int .u8 0,.int .u8 0,.int .u8 0,.int .u8 0,.int .u8 0,.int .u8 0,.int .u8 0,.int .u8 0,.int .u8 0,.int .u8 0,.int .u8 0,.int .u8 0,.int .u8 0,.int .u8 0,.int .u8 0,.int .u8 0,.int .u8 0,.int .u8 0,.int .u8 0,.int .u8 0,.int .u8 0,.int .u8 0,.int .u8 0,.int .u8 0,.int .u8 0,.int .u8 0,.int .u8 0,.int .u8 0,.int .u8 0,.int .u8 0,.int .u8 0,.int .u8 0,.int .u8 0,.int .u8 0,.int .u8 0,.int .u8 0,.int .u8 0,.int .u8 0,.int .u8 0,.int .u8 0,.int .u8 0,.int .u8 0,.int .u8 0,.int .u8 0,.int .u8 0,.int .u8 0,.int .u8 0,.int .u8 0,.int .u8 0,.int .u8 0,.int .u8 0,.int .u8 0,.int .u8 0,.int .u8 0,.int .u8 0,.int .u8 0]
theorem und94:Tryz.prog.underlying 233=some (.array 64 5):=by kernel_rfl
theorem b64_info (f:Nat→Int):(Tryz.prog.info? 233).map (·.size)=some (b8 64 f).size:=by rw [M.rowF_size];kernel_rfl
theorem b64_zero (f:Nat→Int):Z64.size=(b8 64 f).size:=by rw [M.rowF_size];rfl
theorem b8_one (n:Nat) (f:Nat→Int):(b8 n f).all (·.oneCell')=true:=M.rowF_one
def upMix (k:ByteArray) (x:Int) (i:Nat):Nat→Int:=fun j=>if j<i then mixF k x j else bk k j
set_option maxRecDepth 100000 in
set_option maxHeartbeats 2000000 in
theorem mix_any (kb:Nat) (k:ByteArray) (x:Int) (w:World) (hk:M.RowAt w kb 233 (b8 64 (bk k))) (hx0:0≤x) (hx:x≤255) :
 Calls Tryz.prog 129 #[.int .u8 x,.pointer (some ⟨kb,0,none⟩)] w fun e w'=>e=.returned (.string (mixS k x))∧Below w.heap.size w w':=by
 obtain ⟨n,hn⟩:∃ n,w.heap.size=n:=⟨_,rfl⟩
 have HN:=Lib.hid hn
 obtain ⟨V,hV⟩:∃ V,w.alloc (.cells #[.int .u8 0,.int .u8 0,.int .u8 0,.int .u8 0,.int .u8 0,.int .u8 0,.int .u8 0,.int .u8 0,.int .u8 0,.int .u8 0,.int .u8 0,.int .u8 0,.int .u8 0,.int .u8 0,.int .u8 0,.int .u8 0,.int .u8 0,.int .u8 0,.int .u8 0,.int .u8 0,.int .u8 0,.int .u8 0,.int .u8 0,.int .u8 0,.int .u8 0,.int .u8 0,.int .u8 0,.int .u8 0,.int .u8 0,.int .u8 0,.int .u8 0,.int .u8 0,.int .u8 0,.int .u8 0,.int .u8 0,.int .u8 0,.int .u8 0,.int .u8 0,.int .u8 0,.int .u8 0,.int .u8 0,.int .u8 0,.int .u8 0,.int .u8 0,.int .u8 0,.int .u8 0,.int .u8 0,.int .u8 0,.int .u8 0,.int .u8 0,.int .u8 0,.int .u8 0,.int .u8 0,.int .u8 0,.int .u8 0,.int .u8 0,.int .u8 0,.int .u8 0,.int .u8 0,.int .u8 0,.int .u8 0,.int .u8 0,.int .u8 0,.int .u8 0] 233)=V:=⟨_,rfl⟩
 have rV:M.RowAt (w.alloc (.cells #[.int .u8 0,.int .u8 0,.int .u8 0,.int .u8 0,.int .u8 0,.int .u8 0,.int .u8 0,.int .u8 0,.int .u8 0,.int .u8 0,.int .u8 0,.int .u8 0,.int .u8 0,.int .u8 0,.int .u8 0,.int .u8 0,.int .u8 0,.int .u8 0,.int .u8 0,.int .u8 0,.int .u8 0,.int .u8 0,.int .u8 0,.int .u8 0,.int .u8 0,.int .u8 0,.int .u8 0,.int .u8 0,.int .u8 0,.int .u8 0,.int .u8 0,.int .u8 0,.int .u8 0,.int .u8 0,.int .u8 0,.int .u8 0,.int .u8 0,.int .u8 0,.int .u8 0,.int .u8 0,.int .u8 0,.int .u8 0,.int .u8 0,.int .u8 0,.int .u8 0,.int .u8 0,.int .u8 0,.int .u8 0,.int .u8 0,.int .u8 0,.int .u8 0,.int .u8 0,.int .u8 0,.int .u8 0,.int .u8 0,.int .u8 0,.int .u8 0,.int .u8 0,.int .u8 0,.int .u8 0,.int .u8 0,.int .u8 0,.int .u8 0,.int .u8 0] 233)) w.heap.size 233 Z64:=M.RowAt.new w 233 _
 have bV:Below n w (w.alloc (.cells #[.int .u8 0,.int .u8 0,.int .u8 0,.int .u8 0,.int .u8 0,.int .u8 0,.int .u8 0,.int .u8 0,.int .u8 0,.int .u8 0,.int .u8 0,.int .u8 0,.int .u8 0,.int .u8 0,.int .u8 0,.int .u8 0,.int .u8 0,.int .u8 0,.int .u8 0,.int .u8 0,.int .u8 0,.int .u8 0,.int .u8 0,.int .u8 0,.int .u8 0,.int .u8 0,.int .u8 0,.int .u8 0,.int .u8 0,.int .u8 0,.int .u8 0,.int .u8 0,.int .u8 0,.int .u8 0,.int .u8 0,.int .u8 0,.int .u8 0,.int .u8 0,.int .u8 0,.int .u8 0,.int .u8 0,.int .u8 0,.int .u8 0,.int .u8 0,.int .u8 0,.int .u8 0,.int .u8 0,.int .u8 0,.int .u8 0,.int .u8 0,.int .u8 0,.int .u8 0,.int .u8 0,.int .u8 0,.int .u8 0,.int .u8 0,.int .u8 0,.int .u8 0,.int .u8 0,.int .u8 0,.int .u8 0,.int .u8 0,.int .u8 0,.int .u8 0] 233)):=hn▸(Below.refl _ _).alloc (Nat.le_refl _) _
 rw [hV] at rV bV
 rw [hn] at rV
 have rW:=M.RowAt.setRow rV (b8 64 (bk k))
 have bW:=M.below_setRow (g:=n) (cs:=b8 64 (bk k)) bV (Nat.le_refl _)
 have iK:=b64_info (bk k)
 have zK:=b64_zero (bk k)
 have oK:=b8_one 64 (bk k)
 have e0:b8 64 (bk k)=b8 64 (upMix k x 0):=M.rowF_congr (fun i _=>by unfold upMix;rw [if_neg (by omega)])
 obtain ⟨C,hC⟩:∃ C,b8 64 (bk k)=C:=⟨_,rfl⟩
 rw [hC] at hk iK zK oK rW bW
 obtain ⟨U,hU⟩:∃ U,V.setRow n C=U:=⟨_,rfl⟩
 rw [hU] at rW bW
 have rW:M.RowAt U n 233 (b8 64 (upMix k x 0)):=by rw [←e0,hC];exact rW
 have HV:=Lib.hid hV;have HU:=Lib.hid hU
 unfold M.RowAt at hk rV
 clear hV hU e0 hC
 go_enter Tryz.func129,Tryz.ntmps129
 go_wp2_with (first
  | (rw [HV.out];refine wpList_store_row (x:=.tmp 4) (y:=.tmp 6) (cells:=C) (old:=Z64) (t:=233) (ty:=233) (g:=n) ?_ ?_ ?_ ?_ rV iK zK oK ?_;rfl;rfl;rfl;rfl;rw [HU.out])
  | (refine wpList_load_row (x:=.tmp 1) (ty:=233) (g:=kb) (cs:=C) (t:=233) (fr:=(0,0)) ?_ ?_ ?_ _ hk und94 rfl iK ?_;rfl;rfl;rfl)
  | fail)
 clear hn
 go_loopg [7] 64 (fun m i v=>∃ j:Nat,m+j=64∧i=.int .i64 j∧M.RowAt v n 233 (b8 64 (upMix k x j))∧Below n w v)
 case atStart=>exact ⟨0,by omega,rfl,rW,bW⟩
 case round=>
  clear rW bW hk rV
  obtain ⟨j,hm,rfl,hr,hb⟩:=hrel
  by_cases hlt:j<64
  · have q:=(hr.cell j).trans (M.rowF_get hlt)
    have f:=hr.frozen j
    have ej:upMix k x j j=bk k j:=by unfold upMix;rw [if_neg (by omega)]
    rw [ej] at q
    have hbk:=bk_lt k j
    have r2:=hr.set j (.int .u8 (bits .xor .u8 (bk k j) x))
    rw [M.rowF_set (g:=upMix k x (j+1)) _ hlt (fun i hi=>by
     unfold upMix
     by_cases he:i=j
     · subst he;rw [if_pos rfl,if_pos (by omega)];rfl
     · rw [if_neg he]
       by_cases hl:i<j
       · rw [if_pos hl,if_pos (by omega)]
       · rw [if_neg hl,if_neg (by omega)])] at r2
    have rb:Below n w (wr.setCell ⟨n,j,none⟩ (.int .u8 (bits .xor .u8 (bk k j) x))):=hb.setCell (by show n≤n;omega) _
    generalize bk k j=y at *
    have R2:=Lib.hid r2;have RB:=Lib.hid rb
    clear r2 rb ej
    go_wp2
    go_roundg (64-(j+1))
    case measure=>omega
    case rel=>exact ⟨j+1,by omega,by go_num,R2.out,RB.out⟩
  · obtain rfl:j=64:=by omega
    have hcv:=conv_rowI hr
    have e1:bytesI 64 (upMix k x 64)=mixS k x:=bytesI_congr (fun i hi=>by unfold upMix;rw [if_pos hi])
    rw [e1] at hcv
    obtain ⟨X,hX⟩:∃ X,mixS k x=X:=⟨_,rfl⟩
    rw [hX] at hcv
    have HX:=Lib.hid hX
    clear hX e1
    go_wp2
    go_ret
    exact ⟨by rw [HX.out];rfl,by rw [HN.out];exact hb⟩
end Go.Proofs.YtdebnbgjgkbmaaaGreatDoor
namespace Go.Proofs.YtdebnbgjgkbmaaaGreatDoor
open Go.RowKit
set_option linter.unusedVariables false
theorem key_row (K:ByteArray) (h:K.size≤64):(Z64.toList.take 0++Lib.byteCells K.data.toList++Z64.toList.drop (0+K.size)).toArray=b8 64 (bk K):=by
 have hz:Z64=((List.replicate 64 (Value.int .u8 0))).toArray:=by rfl
 have hk:K.data.toList.length=K.size:=by simp
 apply Array.ext_getElem?
 intro i
 rw [hz]
 simp only [List.take_zero,List.nil_append,Nat.zero_add,List.getElem?_toArray]
 by_cases hi:i<64
 · rw [M.rowF_get hi]
   by_cases hik:i<K.size
   · rw [List.getElem?_append_left (by rw [Lib.byteCells_length];omega)]
     have e:bk K i=(K[i].toNat:Int):=by unfold bk;rw [Sha.byte_at K i hik]
     rw [e]
     simp [Lib.byteCells,List.getElem?_eq_getElem (show i<K.data.toList.length by omega)]
     rfl
   · rw [List.getElem?_append_right (by rw [Lib.byteCells_length];omega),bk_out K i (by omega)]
     rw [Lib.byteCells_length,hk,List.getElem?_drop,show K.size+(i-K.size)=i by omega]
     rw [List.getElem?_replicate,if_pos hi]
 · rw [M.rowF_out (by omega)]
   rw [List.getElem?_eq_none]
   simp [Lib.byteCells_length];omega
structure TC (n kb i:Nat) (w:World) (R:Array Value) (K:ByteArray) (I:Nat→Nat) (v:World):Prop where
 rn:v.heap[n]?=some (.cells R 47 (0,0))
 rk:M.RowAt v kb 233 (b8 64 (bk K))
 ri:M.RowAt v i 47 (r8 32 I)
 below:Below n w v
section
variable {n kb i:Nat} {w v v':World} {R R':Array Value} {K:ByteArray} {I:Nat→Nat}
theorem TC.drew (c:TC n kb i w R K I v):TC n kb i w R K I v.drew:=⟨c.rn,c.rk.drew,c.ri.drew,c.below.drew⟩
theorem TC.same (c:TC n kb i w R K I v) (hb:Below v.heap.size v v'):TC n kb i w R K I v':=
 ⟨M.RowAt.call c.rn hb,c.rk.call hb,c.ri.call hb,c.below.trans (hb.mono (by have:=M.RowAt.lt c.rn;omega))⟩
theorem TC.set (h1:n≠kb) (h2:n≠i) (c:TC n kb i w R K I v):TC n kb i w R' K I (v.setRow n R'):=
 ⟨M.RowAt.setRow c.rn _,c.rk.farRow h1 _,c.ri.farRow h2 _,M.below_setRow c.below (Nat.le_refl _)⟩
end
section
variable {n i:Nat} {w v v':World} {R R':Array Value} {I:Nat→Nat}
end
set_option maxRecDepth 100000 in
set_option maxHeartbeats 4000000 in
theorem tag_short (k s:ByteArray) (w:World) (ht:Tabs w) (hk:k.size≤64) (hkz:k.size≤1000000) (hs:s.size≤1000000) :
 Calls Tryz.prog 39 #[.string k,.string s] w fun e w'=>e=.returned (.agg (r8 32 (mac k s)))∧Below w.heap.size w w':=by
 obtain ⟨n,hn⟩:∃ n,w.heap.size=n:=⟨_,rfl⟩
 have HN:=Lib.hid hn
 have h1n:4<n:=hn▸ht.lt
 have T1:∀ v,Below n w v→Tabs v:=fun v hv=>ht.below hv h1n
 have hK:keyOf k=k:=by unfold keyOf;rw [if_neg (by omega)]
 have hKs:(k).size≤64:=by rw [←hK];exact keyOf_size k
 have hmac:mac k s=Sha.sum (mixS (keyOf k) 92++hstr (macIn (keyOf k) s)):=rfl
 rw [hK] at hmac
 have hm1:(mixS k 54).size=64:=mixS_size _ _
 have hm2:(mixS k 92).size=64:=mixS_size _ _
 have hsz1:(mixS k 54++s).size=(mixS k 54).size+s.size:=ByteArray.size_append
 have hi1:macIn k s=Sha.sum (mixS k 54++s):=rfl
 have hsz2:(mixS k 92++hstr (macIn k s)).size=(mixS k 92).size+(hstr (macIn k s)).size:=ByteArray.size_append
 have hh:(hstr (macIn k s)).size=32:=hstr_size _
 have c1:=fun kb v (h:M.RowAt v kb 233 (b8 64 (bk k)))=>mix_any kb k 54 v h (by decide) (by decide)
 have c2:=fun kb v (h:M.RowAt v kb 233 (b8 64 (bk k)))=>mix_any kb k 92 v h (by decide) (by decide)
 have d1:=fun v (hb:Below n w v)=>sum_any (mixS k 54++s) v (T1 v hb) (by omega)
 have d2:=fun v (hb:Below n w v)=>sum_any (mixS k 92++hstr (macIn k s)) v (T1 v hb) (by omega)
 have kr:=key_row k (by omega)
 have cr:=fun v kb (h:M.RowAt v kb 233 Z64) ty=>Lib.run_copy_row_string (P:=Tryz.prog) v 55 9 ty 5 kb 0 64 64 k Z64 233 Tryz.underlying55 (by kernel_rfl) h (by omega) (by show 0+k.size≤64;omega)
 rw [kr] at cr
 have hmf:∀ (fn:Fn) (first cap:Array Value) (w:World),(Instr.makeFunc fn first cap).run Tryz.prog w=.ok (.func fn first cap) w:=fun _ _ _ _=>rfl
 rw [←hmac] at d2
 rw [←hi1] at d1
 have hcv:∀ v g,M.RowAt v g 47 (r8 32 (macIn k s))→(convert 55 9 (.slice (some ⟨g,0,none⟩) 32 32)).run Tryz.prog v=.ok (.string (hstr (macIn k s))) v:=fun v g h=>conv_row8 h
 have hl1:(mixS k 54).size+s.size≤10000000:=by omega
 have hl2:¬ (9223372036854775807<(mixS k 92).size+(hstr (macIn k s)).size):=by omega
 generalize mixS k 92=X2 at *
 generalize mixS k 54=X1 at *
 generalize hstr (macIn k s)=Y at *
 obtain ⟨I,hI⟩:∃ I,macIn k s=I:=⟨_,rfl⟩
 rw [hI] at d1 hcv
 obtain ⟨F,hF⟩:∃ F,mac k s=F:=⟨_,rfl⟩
 rw [hF] at d2 ⊢
 have iI:=r8_info I;have zI:=r8_zero I;have oI:=r8_one I
 have iF:=r8_info F;have zF:=r8_zero F;have oF:=r8_one F
 have C1:=Lib.hid c1;have C2:=Lib.hid c2;have D1:=Lib.hid d1;have D2:=Lib.hid d2;have HCV:=Lib.hid hcv
 have CR:=Lib.hid cr
 obtain ⟨v0,hv0⟩:∃ v0,w.alloc (.cells #[.int .u8 0,.int .u8 0,.int .u8 0,.int .u8 0,.int .u8 0,.int .u8 0,.int .u8 0,.int .u8 0,.int .u8 0,.int .u8 0,.int .u8 0,.int .u8 0,.int .u8 0,.int .u8 0,.int .u8 0,.int .u8 0,.int .u8 0,.int .u8 0,.int .u8 0,.int .u8 0,.int .u8 0,.int .u8 0,.int .u8 0,.int .u8 0,.int .u8 0,.int .u8 0,.int .u8 0,.int .u8 0,.int .u8 0,.int .u8 0,.int .u8 0,.int .u8 0] 47)=v0:=⟨_,rfl⟩
 have r0:=M.RowAt.new w 47 #[.int .u8 0,.int .u8 0,.int .u8 0,.int .u8 0,.int .u8 0,.int .u8 0,.int .u8 0,.int .u8 0,.int .u8 0,.int .u8 0,.int .u8 0,.int .u8 0,.int .u8 0,.int .u8 0,.int .u8 0,.int .u8 0,.int .u8 0,.int .u8 0,.int .u8 0,.int .u8 0,.int .u8 0,.int .u8 0,.int .u8 0,.int .u8 0,.int .u8 0,.int .u8 0,.int .u8 0,.int .u8 0,.int .u8 0,.int .u8 0,.int .u8 0,.int .u8 0]
 have b0:=(Below.refl w.heap.size w).alloc (Nat.le_refl _) (.cells #[.int .u8 0,.int .u8 0,.int .u8 0,.int .u8 0,.int .u8 0,.int .u8 0,.int .u8 0,.int .u8 0,.int .u8 0,.int .u8 0,.int .u8 0,.int .u8 0,.int .u8 0,.int .u8 0,.int .u8 0,.int .u8 0,.int .u8 0,.int .u8 0,.int .u8 0,.int .u8 0,.int .u8 0,.int .u8 0,.int .u8 0,.int .u8 0,.int .u8 0,.int .u8 0,.int .u8 0,.int .u8 0,.int .u8 0,.int .u8 0,.int .u8 0,.int .u8 0] 47)
 rw [hv0] at r0 b0
 rw [hn] at r0 b0
 have HV0:=Lib.hid hv0
 clear c1 c2 d1 d2 hcv cr kr T1 h1n ht hmac hi1 hm1 hm2 hsz1 hsz2 hh hI hF hv0 hK hKs
 have hk2:¬ (64:Int)<k.size:=by omega
 go_enter Tryz.func39,Tryz.ntmps39
 have hUs:=r0.lt
 have hkb:v0.heap.size=n+1:=by rw [←HV0.out,World.size_alloc,HN.out]
 have rk:=M.RowAt.new v0 233 #[.int .u8 0,.int .u8 0,.int .u8 0,.int .u8 0,.int .u8 0,.int .u8 0,.int .u8 0,.int .u8 0,.int .u8 0,.int .u8 0,.int .u8 0,.int .u8 0,.int .u8 0,.int .u8 0,.int .u8 0,.int .u8 0,.int .u8 0,.int .u8 0,.int .u8 0,.int .u8 0,.int .u8 0,.int .u8 0,.int .u8 0,.int .u8 0,.int .u8 0,.int .u8 0,.int .u8 0,.int .u8 0,.int .u8 0,.int .u8 0,.int .u8 0,.int .u8 0,.int .u8 0,.int .u8 0,.int .u8 0,.int .u8 0,.int .u8 0,.int .u8 0,.int .u8 0,.int .u8 0,.int .u8 0,.int .u8 0,.int .u8 0,.int .u8 0,.int .u8 0,.int .u8 0,.int .u8 0,.int .u8 0,.int .u8 0,.int .u8 0,.int .u8 0,.int .u8 0,.int .u8 0,.int .u8 0,.int .u8 0,.int .u8 0,.int .u8 0,.int .u8 0,.int .u8 0,.int .u8 0,.int .u8 0,.int .u8 0,.int .u8 0,.int .u8 0]
 have bk1:=b0.alloc (by omega) (.cells #[.int .u8 0,.int .u8 0,.int .u8 0,.int .u8 0,.int .u8 0,.int .u8 0,.int .u8 0,.int .u8 0,.int .u8 0,.int .u8 0,.int .u8 0,.int .u8 0,.int .u8 0,.int .u8 0,.int .u8 0,.int .u8 0,.int .u8 0,.int .u8 0,.int .u8 0,.int .u8 0,.int .u8 0,.int .u8 0,.int .u8 0,.int .u8 0,.int .u8 0,.int .u8 0,.int .u8 0,.int .u8 0,.int .u8 0,.int .u8 0,.int .u8 0,.int .u8 0,.int .u8 0,.int .u8 0,.int .u8 0,.int .u8 0,.int .u8 0,.int .u8 0,.int .u8 0,.int .u8 0,.int .u8 0,.int .u8 0,.int .u8 0,.int .u8 0,.int .u8 0,.int .u8 0,.int .u8 0,.int .u8 0,.int .u8 0,.int .u8 0,.int .u8 0,.int .u8 0,.int .u8 0,.int .u8 0,.int .u8 0,.int .u8 0,.int .u8 0,.int .u8 0,.int .u8 0,.int .u8 0,.int .u8 0,.int .u8 0,.int .u8 0,.int .u8 0] 233)
 have rn3:=r0.alloc (.cells #[.int .u8 0,.int .u8 0,.int .u8 0,.int .u8 0,.int .u8 0,.int .u8 0,.int .u8 0,.int .u8 0,.int .u8 0,.int .u8 0,.int .u8 0,.int .u8 0,.int .u8 0,.int .u8 0,.int .u8 0,.int .u8 0,.int .u8 0,.int .u8 0,.int .u8 0,.int .u8 0,.int .u8 0,.int .u8 0,.int .u8 0,.int .u8 0,.int .u8 0,.int .u8 0,.int .u8 0,.int .u8 0,.int .u8 0,.int .u8 0,.int .u8 0,.int .u8 0,.int .u8 0,.int .u8 0,.int .u8 0,.int .u8 0,.int .u8 0,.int .u8 0,.int .u8 0,.int .u8 0,.int .u8 0,.int .u8 0,.int .u8 0,.int .u8 0,.int .u8 0,.int .u8 0,.int .u8 0,.int .u8 0,.int .u8 0,.int .u8 0,.int .u8 0,.int .u8 0,.int .u8 0,.int .u8 0,.int .u8 0,.int .u8 0,.int .u8 0,.int .u8 0,.int .u8 0,.int .u8 0,.int .u8 0,.int .u8 0,.int .u8 0,.int .u8 0] 233)
 obtain ⟨VK,hVK⟩:∃ VK,v0.alloc (.cells #[.int .u8 0,.int .u8 0,.int .u8 0,.int .u8 0,.int .u8 0,.int .u8 0,.int .u8 0,.int .u8 0,.int .u8 0,.int .u8 0,.int .u8 0,.int .u8 0,.int .u8 0,.int .u8 0,.int .u8 0,.int .u8 0,.int .u8 0,.int .u8 0,.int .u8 0,.int .u8 0,.int .u8 0,.int .u8 0,.int .u8 0,.int .u8 0,.int .u8 0,.int .u8 0,.int .u8 0,.int .u8 0,.int .u8 0,.int .u8 0,.int .u8 0,.int .u8 0,.int .u8 0,.int .u8 0,.int .u8 0,.int .u8 0,.int .u8 0,.int .u8 0,.int .u8 0,.int .u8 0,.int .u8 0,.int .u8 0,.int .u8 0,.int .u8 0,.int .u8 0,.int .u8 0,.int .u8 0,.int .u8 0,.int .u8 0,.int .u8 0,.int .u8 0,.int .u8 0,.int .u8 0,.int .u8 0,.int .u8 0,.int .u8 0,.int .u8 0,.int .u8 0,.int .u8 0,.int .u8 0,.int .u8 0,.int .u8 0,.int .u8 0,.int .u8 0] 233)=VK:=⟨_,rfl⟩
 rw [hVK] at rk bk1 rn3
 rw [hkb] at rk hUs
 have crk:=fun ty=>CR.out _ _ rk ty
 have rk2:=rk.setRow (b8 64 (bk k))
 have rn4:=rn3.farRow (b:=n+1) (by omega) (b8 64 (bk k))
 have bk2:=M.below_setRow (g:=n+1) (cs:=b8 64 (bk k)) bk1 (by omega)
 obtain ⟨UK,hUK⟩:∃ UK,VK.setRow (n+1) (b8 64 (bk k))=UK:=⟨_,rfl⟩
 rw [hUK] at crk rk2 rn4 bk2
 have HKB:=Lib.hid hkb;have HVK:=Lib.hid hVK;have CRK:=Lib.hid crk
 clear hkb hVK hUK crk rk bk1 rn3
 go_wp2_with (first
  | (rw [HV0.out,HVK.out];(refine Go.Proofs.wpList_copy_runI _ ?_ (.tmp 16) (.tmp 17) 55 9 ?_ (.slice (some ⟨n+1,0,none⟩) 64 64) (.string k) ?_ ?_ (CRK.out _) ?_;rfl;rfl;rfl;rfl)))
 refine (C1.out _ _ rk2).mono ?_
 rintro e w2 ⟨rfl,gq⟩
 have rn5:=rn4.call gq
 have rk3:=rk2.call gq
 have b5:=bk2.trans (gq.mono (by have:=rn4.lt;omega))
 clear gq rn4 bk2 rk2
 go_wp2_with fail
 refine (D1.out _ b5).mono ?_
 rintro e w3 ⟨rfl,gq⟩
 have rn6:=rn5.call gq
 have rk4:=rk3.call gq
 have b6:=b5.trans (gq.mono (by have:=rn5.lt;omega))
 clear gq rn5 b5 rk3
 have hn6:=rn6.lt
 have hk6:=rk4.lt
 obtain ⟨i,hi⟩:∃ i,w3.heap.size=i:=⟨_,rfl⟩
 have ri:=M.RowAt.new w3 47 #[.int .u8 0,.int .u8 0,.int .u8 0,.int .u8 0,.int .u8 0,.int .u8 0,.int .u8 0,.int .u8 0,.int .u8 0,.int .u8 0,.int .u8 0,.int .u8 0,.int .u8 0,.int .u8 0,.int .u8 0,.int .u8 0,.int .u8 0,.int .u8 0,.int .u8 0,.int .u8 0,.int .u8 0,.int .u8 0,.int .u8 0,.int .u8 0,.int .u8 0,.int .u8 0,.int .u8 0,.int .u8 0,.int .u8 0,.int .u8 0,.int .u8 0,.int .u8 0]
 have b7:=b6.alloc (by omega) (.cells #[.int .u8 0,.int .u8 0,.int .u8 0,.int .u8 0,.int .u8 0,.int .u8 0,.int .u8 0,.int .u8 0,.int .u8 0,.int .u8 0,.int .u8 0,.int .u8 0,.int .u8 0,.int .u8 0,.int .u8 0,.int .u8 0,.int .u8 0,.int .u8 0,.int .u8 0,.int .u8 0,.int .u8 0,.int .u8 0,.int .u8 0,.int .u8 0,.int .u8 0,.int .u8 0,.int .u8 0,.int .u8 0,.int .u8 0,.int .u8 0,.int .u8 0,.int .u8 0] 47)
 have rn7:=rn6.alloc (.cells #[.int .u8 0,.int .u8 0,.int .u8 0,.int .u8 0,.int .u8 0,.int .u8 0,.int .u8 0,.int .u8 0,.int .u8 0,.int .u8 0,.int .u8 0,.int .u8 0,.int .u8 0,.int .u8 0,.int .u8 0,.int .u8 0,.int .u8 0,.int .u8 0,.int .u8 0,.int .u8 0,.int .u8 0,.int .u8 0,.int .u8 0,.int .u8 0,.int .u8 0,.int .u8 0,.int .u8 0,.int .u8 0,.int .u8 0,.int .u8 0,.int .u8 0,.int .u8 0] 47)
 have rk7:=rk4.alloc (.cells #[.int .u8 0,.int .u8 0,.int .u8 0,.int .u8 0,.int .u8 0,.int .u8 0,.int .u8 0,.int .u8 0,.int .u8 0,.int .u8 0,.int .u8 0,.int .u8 0,.int .u8 0,.int .u8 0,.int .u8 0,.int .u8 0,.int .u8 0,.int .u8 0,.int .u8 0,.int .u8 0,.int .u8 0,.int .u8 0,.int .u8 0,.int .u8 0,.int .u8 0,.int .u8 0,.int .u8 0,.int .u8 0,.int .u8 0,.int .u8 0,.int .u8 0,.int .u8 0] 47)
 obtain ⟨VI,hVI⟩:∃ VI,w3.alloc (.cells #[.int .u8 0,.int .u8 0,.int .u8 0,.int .u8 0,.int .u8 0,.int .u8 0,.int .u8 0,.int .u8 0,.int .u8 0,.int .u8 0,.int .u8 0,.int .u8 0,.int .u8 0,.int .u8 0,.int .u8 0,.int .u8 0,.int .u8 0,.int .u8 0,.int .u8 0,.int .u8 0,.int .u8 0,.int .u8 0,.int .u8 0,.int .u8 0,.int .u8 0,.int .u8 0,.int .u8 0,.int .u8 0,.int .u8 0,.int .u8 0,.int .u8 0,.int .u8 0] 47)=VI:=⟨_,rfl⟩
 rw [hVI] at ri b7 rn7 rk7
 rw [hi] at ri hn6 hk6
 have ri2:=ri.setRow (r8 32 I)
 have rn8:=rn7.farRow (b:=i) (by omega) (r8 32 I)
 have rk8:=rk7.farRow (b:=i) (by omega) (r8 32 I)
 have b8:=M.below_setRow (g:=i) (cs:=r8 32 I) b7 (by omega)
 obtain ⟨UI,hUI⟩:∃ UI,VI.setRow i (r8 32 I)=UI:=⟨_,rfl⟩
 rw [hUI] at ri2 rn8 b8 rk8
 have tc:TC n (n+1) i w Z32 k I UI:=⟨rn8,rk8,ri2,b8⟩
 have HI:=Lib.hid hi;have HVI:=Lib.hid hVI;have HUI:=Lib.hid hUI
 unfold M.RowAt at ri
 clear hi hVI hUI rn6 b6 b7 rn7 ri2 rn8 b8 rk4 rk7 rk8
 go_wp2_with (rw [HI.out,HVI.out];refine wpList_store_row (x:=.tmp 8) (y:=.tmp 24) (cells:=r8 32 I) (old:=Z32) (t:=47) (ty:=47) (g:=i) ?_ ?_ ?_ ?_ ri iI zI oI ?_;rfl;rfl;rfl;rfl;rw [HUI.out])
 refine QP.wp_region_p 6 (TC n (n+1) i w Z32 k I) (TC n (n+1) i w (r8 32 F) k I) (by kernel_rfl) (by kernel_rfl) tc.drew ?_
 iterate 7
  (refine QP.wpQ_step (fun K hK=>?_)
   go_simp
   first
    | (refine hK _ ?_;clear hK K)
    | (refine ⟨?_,hK _ ?_⟩;decide;clear hK K)
    | ((first | (apply Exists.intro;refine ⟨?_,hK _ ?_⟩) | refine ⟨⟨undef,?_⟩,hK _ ?_⟩)
       first
        | (apply QP.al_p;decide;(focus (intro wq hq;(first | (have hcv:=HCV.out _ _ hq.ri) | skip);first | ((refine QP.oat_store_row (ty:=47) (x:=.tmp 4) (y:=.tmp 30) (g:=n) (cells:=r8 32 F) (t:=47) (old:=Z32) ?_ ?_ ?_ hq.rn iF zF oF (hq.set (by omega) (by omega));rfl;rfl;rfl)) | (unfold QP.oat;go_simp;first | done | exact ⟨by assumption,rfl⟩ | exact rfl | assumption | (first | ((with_reducible refine (C2.out _ _ hq.rk).mono ?_);rintro e w' ⟨rfl,gq⟩;exact ⟨rfl,hq.same gq⟩) | ((with_reducible refine (D2.out _ hq.below).mono ?_);rintro e w' ⟨rfl,gq⟩;exact ⟨rfl,hq.same gq⟩))))))
        | (apply QP.al_dep;decide;decide;(focus (intro wq hq;(first | (have hcv:=HCV.out _ _ hq.ri) | skip);first | ((refine QP.oat_store_row (ty:=47) (x:=.tmp 4) (y:=.tmp 30) (g:=n) (cells:=r8 32 F) (t:=47) (old:=Z32) ?_ ?_ ?_ hq.rn iF zF oF (hq.set (by omega) (by omega));rfl;rfl;rfl)) | (unfold QP.oat;go_simp;first | done | exact ⟨by assumption,rfl⟩ | exact rfl | assumption | (first | ((with_reducible refine (C2.out _ _ hq.rk).mono ?_);rintro e w' ⟨rfl,gq⟩;exact ⟨rfl,hq.same gq⟩) | ((with_reducible refine (D2.out _ hq.below).mono ?_);rintro e w' ⟨rfl,gq⟩;exact ⟨rfl,hq.same gq⟩))))))
        | (apply QP.al_bef;decide;decide;(focus (intro wq hq;(first | (have hcv:=HCV.out _ _ hq.ri) | skip);first | ((refine QP.oat_store_row (ty:=47) (x:=.tmp 4) (y:=.tmp 30) (g:=n) (cells:=r8 32 F) (t:=47) (old:=Z32) ?_ ?_ ?_ hq.rn iF zF oF (hq.set (by omega) (by omega));rfl;rfl;rfl)) | (unfold QP.oat;go_simp;first | done | exact ⟨by assumption,rfl⟩ | exact rfl | assumption | (first | ((with_reducible refine (C2.out _ _ hq.rk).mono ?_);rintro e w' ⟨rfl,gq⟩;exact ⟨rfl,hq.same gq⟩) | ((with_reducible refine (D2.out _ hq.below).mono ?_);rintro e w' ⟨rfl,gq⟩;exact ⟨rfl,hq.same gq⟩))))))
        | (apply QP.al_ok;decide;(focus (intro wq hq;(first | (have hcv:=HCV.out _ _ hq.ri) | skip);first | ((refine QP.oat_store_row (ty:=47) (x:=.tmp 4) (y:=.tmp 30) (g:=n) (cells:=r8 32 F) (t:=47) (old:=Z32) ?_ ?_ ?_ hq.rn iF zF oF (hq.set (by omega) (by omega));rfl;rfl;rfl)) | (unfold QP.oat;go_simp;first | done | exact ⟨by assumption,rfl⟩ | exact rfl | assumption | (first | ((with_reducible refine (C2.out _ _ hq.rk).mono ?_);rintro e w' ⟨rfl,gq⟩;exact ⟨rfl,hq.same gq⟩) | ((with_reducible refine (D2.out _ hq.below).mono ?_);rintro e w' ⟨rfl,gq⟩;exact ⟨rfl,hq.same gq⟩)))));(focus (intro wq hq;(first | (have hcv:=HCV.out _ _ hq.ri) | skip);first | ((refine QP.oat_store_row (ty:=47) (x:=.tmp 4) (y:=.tmp 30) (g:=n) (cells:=r8 32 F) (t:=47) (old:=Z32) ?_ ?_ ?_ hq.rn iF zF oF (hq.set (by omega) (by omega));rfl;rfl;rfl)) | (unfold QP.oat;go_simp;first | done | exact ⟨by assumption,rfl⟩ | exact rfl | assumption | (first | ((with_reducible refine (C2.out _ _ hq.rk).mono ?_);rintro e w' ⟨rfl,gq⟩;exact ⟨rfl,hq.same gq⟩) | ((with_reducible refine (D2.out _ hq.below).mono ?_);rintro e w' ⟨rfl,gq⟩;exact ⟨rfl,hq.same gq⟩))))))
       clear hK K))
 refine QP.wpQ_nil ?_
 intro wz bz
 go_wp2
 have hload:=run_loadVar_row (P:=Tryz.prog) _ n 47 47 (r8 32 F) (0,0) _ bz.rn u28 rfl iF
 refine bodyPost_ret (v:=.agg (r8 32 F)) (by simp [results,Tryz.results39,asAddr,hload]) rfl ⟨rfl,?_⟩
 rw [HN.out]
 exact bz.below
set_option maxRecDepth 100000 in
set_option maxHeartbeats 4000000 in
theorem tag_long (k s:ByteArray) (w:World) (ht:Tabs w) (hk:64<k.size) (hkz:k.size≤1000000) (hs:s.size≤1000000) :
 Calls Tryz.prog 39 #[.string k,.string s] w fun e w'=>e=.returned (.agg (r8 32 (mac k s)))∧Below w.heap.size w w':=by
 obtain ⟨n,hn⟩:∃ n,w.heap.size=n:=⟨_,rfl⟩
 have HN:=Lib.hid hn
 have h1n:4<n:=hn▸ht.lt
 have T1:∀ v,Below n w v→Tabs v:=fun v hv=>ht.below hv h1n
 have hK:keyOf k=hstr (Sha.sum k):=by unfold keyOf;rw [if_pos hk]
 have hKs:(hstr (Sha.sum k)).size≤64:=by rw [←hK];exact keyOf_size k
 have hmac:mac k s=Sha.sum (mixS (keyOf k) 92++hstr (macIn (keyOf k) s)):=rfl
 rw [hK] at hmac
 have ck:=fun v (hb:Below n w v)=>sum_any k v (T1 v hb) (by omega)
 have iS:=r8_info (Sha.sum k)
 have zS:=r8_zero (Sha.sum k)
 have oS:=r8_one (Sha.sum k)
 have hcv0:∀ v g,M.RowAt v g 47 (r8 32 (Sha.sum k))→(convert 55 9 (.slice (some ⟨g,0,none⟩) 32 32)).run Tryz.prog v=.ok (.string (hstr (Sha.sum k))) v:=fun v g h=>conv_row8 h
 generalize hstr (Sha.sum k)=K at *
 generalize r8 32 (Sha.sum k)=S0 at *
 have CK:=Lib.hid ck;have HCV0:=Lib.hid hcv0
 clear ck hcv0
 have hm1:(mixS K 54).size=64:=mixS_size _ _
 have hm2:(mixS K 92).size=64:=mixS_size _ _
 have hsz1:(mixS K 54++s).size=(mixS K 54).size+s.size:=ByteArray.size_append
 have hi1:macIn K s=Sha.sum (mixS K 54++s):=rfl
 have hsz2:(mixS K 92++hstr (macIn K s)).size=(mixS K 92).size+(hstr (macIn K s)).size:=ByteArray.size_append
 have hh:(hstr (macIn K s)).size=32:=hstr_size _
 have c1:=fun kb v (h:M.RowAt v kb 233 (b8 64 (bk K)))=>mix_any kb K 54 v h (by decide) (by decide)
 have c2:=fun kb v (h:M.RowAt v kb 233 (b8 64 (bk K)))=>mix_any kb K 92 v h (by decide) (by decide)
 have d1:=fun v (hb:Below n w v)=>sum_any (mixS K 54++s) v (T1 v hb) (by omega)
 have d2:=fun v (hb:Below n w v)=>sum_any (mixS K 92++hstr (macIn K s)) v (T1 v hb) (by omega)
 have kr:=key_row K (by omega)
 have cr:=fun v kb (h:M.RowAt v kb 233 Z64) ty=>Lib.run_copy_row_string (P:=Tryz.prog) v 55 9 ty 5 kb 0 64 64 K Z64 233 Tryz.underlying55 (by kernel_rfl) h (by omega) (by show 0+K.size≤64;omega)
 rw [kr] at cr
 have hmf:∀ (fn:Fn) (first cap:Array Value) (w:World),(Instr.makeFunc fn first cap).run Tryz.prog w=.ok (.func fn first cap) w:=fun _ _ _ _=>rfl
 rw [←hmac] at d2
 rw [←hi1] at d1
 have hcv:∀ v g,M.RowAt v g 47 (r8 32 (macIn K s))→(convert 55 9 (.slice (some ⟨g,0,none⟩) 32 32)).run Tryz.prog v=.ok (.string (hstr (macIn K s))) v:=fun v g h=>conv_row8 h
 have hl1:(mixS K 54).size+s.size≤10000000:=by omega
 have hl2:¬ (9223372036854775807<(mixS K 92).size+(hstr (macIn K s)).size):=by omega
 generalize mixS K 92=X2 at *
 generalize mixS K 54=X1 at *
 generalize hstr (macIn K s)=Y at *
 obtain ⟨I,hI⟩:∃ I,macIn K s=I:=⟨_,rfl⟩
 rw [hI] at d1 hcv
 obtain ⟨F,hF⟩:∃ F,mac k s=F:=⟨_,rfl⟩
 rw [hF] at d2 ⊢
 have iI:=r8_info I;have zI:=r8_zero I;have oI:=r8_one I
 have iF:=r8_info F;have zF:=r8_zero F;have oF:=r8_one F
 have C1:=Lib.hid c1;have C2:=Lib.hid c2;have D1:=Lib.hid d1;have D2:=Lib.hid d2;have HCV:=Lib.hid hcv
 have CR:=Lib.hid cr
 obtain ⟨v0,hv0⟩:∃ v0,w.alloc (.cells #[.int .u8 0,.int .u8 0,.int .u8 0,.int .u8 0,.int .u8 0,.int .u8 0,.int .u8 0,.int .u8 0,.int .u8 0,.int .u8 0,.int .u8 0,.int .u8 0,.int .u8 0,.int .u8 0,.int .u8 0,.int .u8 0,.int .u8 0,.int .u8 0,.int .u8 0,.int .u8 0,.int .u8 0,.int .u8 0,.int .u8 0,.int .u8 0,.int .u8 0,.int .u8 0,.int .u8 0,.int .u8 0,.int .u8 0,.int .u8 0,.int .u8 0,.int .u8 0] 47)=v0:=⟨_,rfl⟩
 have r0:=M.RowAt.new w 47 #[.int .u8 0,.int .u8 0,.int .u8 0,.int .u8 0,.int .u8 0,.int .u8 0,.int .u8 0,.int .u8 0,.int .u8 0,.int .u8 0,.int .u8 0,.int .u8 0,.int .u8 0,.int .u8 0,.int .u8 0,.int .u8 0,.int .u8 0,.int .u8 0,.int .u8 0,.int .u8 0,.int .u8 0,.int .u8 0,.int .u8 0,.int .u8 0,.int .u8 0,.int .u8 0,.int .u8 0,.int .u8 0,.int .u8 0,.int .u8 0,.int .u8 0,.int .u8 0]
 have b0:=(Below.refl w.heap.size w).alloc (Nat.le_refl _) (.cells #[.int .u8 0,.int .u8 0,.int .u8 0,.int .u8 0,.int .u8 0,.int .u8 0,.int .u8 0,.int .u8 0,.int .u8 0,.int .u8 0,.int .u8 0,.int .u8 0,.int .u8 0,.int .u8 0,.int .u8 0,.int .u8 0,.int .u8 0,.int .u8 0,.int .u8 0,.int .u8 0,.int .u8 0,.int .u8 0,.int .u8 0,.int .u8 0,.int .u8 0,.int .u8 0,.int .u8 0,.int .u8 0,.int .u8 0,.int .u8 0,.int .u8 0,.int .u8 0] 47)
 rw [hv0] at r0 b0
 rw [hn] at r0 b0
 have HV0:=Lib.hid hv0
 clear c1 c2 d1 d2 hcv cr kr T1 h1n ht hmac hi1 hm1 hm2 hsz1 hsz2 hh hI hF hv0 hK hKs
 have hk2:(64:Int)<k.size:=by omega
 go_enter Tryz.func39,Tryz.ntmps39
 go_wp2_with fail
 rw [HV0.out]
 refine (CK.out _ b0).mono ?_
 rintro e w1 ⟨rfl,gq⟩
 have r1:=r0.call gq
 have b1:=b0.trans (gq.mono (by have:=r0.lt;omega))
 clear r0 b0 gq
 have hge:=r1.lt
 obtain ⟨g,hg⟩:∃ g,w1.heap.size=g:=⟨_,rfl⟩
 have rg:=M.RowAt.new w1 47 #[.int .u8 0,.int .u8 0,.int .u8 0,.int .u8 0,.int .u8 0,.int .u8 0,.int .u8 0,.int .u8 0,.int .u8 0,.int .u8 0,.int .u8 0,.int .u8 0,.int .u8 0,.int .u8 0,.int .u8 0,.int .u8 0,.int .u8 0,.int .u8 0,.int .u8 0,.int .u8 0,.int .u8 0,.int .u8 0,.int .u8 0,.int .u8 0,.int .u8 0,.int .u8 0,.int .u8 0,.int .u8 0,.int .u8 0,.int .u8 0,.int .u8 0,.int .u8 0]
 have bg:=b1.alloc (by omega) (.cells #[.int .u8 0,.int .u8 0,.int .u8 0,.int .u8 0,.int .u8 0,.int .u8 0,.int .u8 0,.int .u8 0,.int .u8 0,.int .u8 0,.int .u8 0,.int .u8 0,.int .u8 0,.int .u8 0,.int .u8 0,.int .u8 0,.int .u8 0,.int .u8 0,.int .u8 0,.int .u8 0,.int .u8 0,.int .u8 0,.int .u8 0,.int .u8 0,.int .u8 0,.int .u8 0,.int .u8 0,.int .u8 0,.int .u8 0,.int .u8 0,.int .u8 0,.int .u8 0] 47)
 have rn:=r1.alloc (.cells #[.int .u8 0,.int .u8 0,.int .u8 0,.int .u8 0,.int .u8 0,.int .u8 0,.int .u8 0,.int .u8 0,.int .u8 0,.int .u8 0,.int .u8 0,.int .u8 0,.int .u8 0,.int .u8 0,.int .u8 0,.int .u8 0,.int .u8 0,.int .u8 0,.int .u8 0,.int .u8 0,.int .u8 0,.int .u8 0,.int .u8 0,.int .u8 0,.int .u8 0,.int .u8 0,.int .u8 0,.int .u8 0,.int .u8 0,.int .u8 0,.int .u8 0,.int .u8 0] 47)
 obtain ⟨V,hV⟩:∃ V,w1.alloc (.cells #[.int .u8 0,.int .u8 0,.int .u8 0,.int .u8 0,.int .u8 0,.int .u8 0,.int .u8 0,.int .u8 0,.int .u8 0,.int .u8 0,.int .u8 0,.int .u8 0,.int .u8 0,.int .u8 0,.int .u8 0,.int .u8 0,.int .u8 0,.int .u8 0,.int .u8 0,.int .u8 0,.int .u8 0,.int .u8 0,.int .u8 0,.int .u8 0,.int .u8 0,.int .u8 0,.int .u8 0,.int .u8 0,.int .u8 0,.int .u8 0,.int .u8 0,.int .u8 0] 47)=V:=⟨_,rfl⟩
 rw [hV] at rg bg rn
 rw [hg] at rg hge
 have rW:=rg.setRow S0
 have rn2:=rn.farRow (b:=g) (by omega) S0
 have bW:=M.below_setRow (g:=g) (cs:=S0) bg (by omega)
 obtain ⟨U,hU⟩:∃ U,V.setRow g S0=U:=⟨_,rfl⟩
 rw [hU] at rW rn2 bW
 have hc0:=HCV0.out _ _ rW
 have HG:=Lib.hid hg;have HV:=Lib.hid hV;have HU:=Lib.hid hU
 unfold M.RowAt at rg
 clear hg hV hU r1 b1 rn bg rW
 have hUs:=rn2.lt
 obtain ⟨kb,hkb⟩:∃ kb,U.heap.size=kb:=⟨_,rfl⟩
 have rk:=M.RowAt.new U 233 #[.int .u8 0,.int .u8 0,.int .u8 0,.int .u8 0,.int .u8 0,.int .u8 0,.int .u8 0,.int .u8 0,.int .u8 0,.int .u8 0,.int .u8 0,.int .u8 0,.int .u8 0,.int .u8 0,.int .u8 0,.int .u8 0,.int .u8 0,.int .u8 0,.int .u8 0,.int .u8 0,.int .u8 0,.int .u8 0,.int .u8 0,.int .u8 0,.int .u8 0,.int .u8 0,.int .u8 0,.int .u8 0,.int .u8 0,.int .u8 0,.int .u8 0,.int .u8 0,.int .u8 0,.int .u8 0,.int .u8 0,.int .u8 0,.int .u8 0,.int .u8 0,.int .u8 0,.int .u8 0,.int .u8 0,.int .u8 0,.int .u8 0,.int .u8 0,.int .u8 0,.int .u8 0,.int .u8 0,.int .u8 0,.int .u8 0,.int .u8 0,.int .u8 0,.int .u8 0,.int .u8 0,.int .u8 0,.int .u8 0,.int .u8 0,.int .u8 0,.int .u8 0,.int .u8 0,.int .u8 0,.int .u8 0,.int .u8 0,.int .u8 0,.int .u8 0]
 have bk1:=bW.alloc (by omega) (.cells #[.int .u8 0,.int .u8 0,.int .u8 0,.int .u8 0,.int .u8 0,.int .u8 0,.int .u8 0,.int .u8 0,.int .u8 0,.int .u8 0,.int .u8 0,.int .u8 0,.int .u8 0,.int .u8 0,.int .u8 0,.int .u8 0,.int .u8 0,.int .u8 0,.int .u8 0,.int .u8 0,.int .u8 0,.int .u8 0,.int .u8 0,.int .u8 0,.int .u8 0,.int .u8 0,.int .u8 0,.int .u8 0,.int .u8 0,.int .u8 0,.int .u8 0,.int .u8 0,.int .u8 0,.int .u8 0,.int .u8 0,.int .u8 0,.int .u8 0,.int .u8 0,.int .u8 0,.int .u8 0,.int .u8 0,.int .u8 0,.int .u8 0,.int .u8 0,.int .u8 0,.int .u8 0,.int .u8 0,.int .u8 0,.int .u8 0,.int .u8 0,.int .u8 0,.int .u8 0,.int .u8 0,.int .u8 0,.int .u8 0,.int .u8 0,.int .u8 0,.int .u8 0,.int .u8 0,.int .u8 0,.int .u8 0,.int .u8 0,.int .u8 0,.int .u8 0] 233)
 have rn3:=rn2.alloc (.cells #[.int .u8 0,.int .u8 0,.int .u8 0,.int .u8 0,.int .u8 0,.int .u8 0,.int .u8 0,.int .u8 0,.int .u8 0,.int .u8 0,.int .u8 0,.int .u8 0,.int .u8 0,.int .u8 0,.int .u8 0,.int .u8 0,.int .u8 0,.int .u8 0,.int .u8 0,.int .u8 0,.int .u8 0,.int .u8 0,.int .u8 0,.int .u8 0,.int .u8 0,.int .u8 0,.int .u8 0,.int .u8 0,.int .u8 0,.int .u8 0,.int .u8 0,.int .u8 0,.int .u8 0,.int .u8 0,.int .u8 0,.int .u8 0,.int .u8 0,.int .u8 0,.int .u8 0,.int .u8 0,.int .u8 0,.int .u8 0,.int .u8 0,.int .u8 0,.int .u8 0,.int .u8 0,.int .u8 0,.int .u8 0,.int .u8 0,.int .u8 0,.int .u8 0,.int .u8 0,.int .u8 0,.int .u8 0,.int .u8 0,.int .u8 0,.int .u8 0,.int .u8 0,.int .u8 0,.int .u8 0,.int .u8 0,.int .u8 0,.int .u8 0,.int .u8 0] 233)
 obtain ⟨VK,hVK⟩:∃ VK,U.alloc (.cells #[.int .u8 0,.int .u8 0,.int .u8 0,.int .u8 0,.int .u8 0,.int .u8 0,.int .u8 0,.int .u8 0,.int .u8 0,.int .u8 0,.int .u8 0,.int .u8 0,.int .u8 0,.int .u8 0,.int .u8 0,.int .u8 0,.int .u8 0,.int .u8 0,.int .u8 0,.int .u8 0,.int .u8 0,.int .u8 0,.int .u8 0,.int .u8 0,.int .u8 0,.int .u8 0,.int .u8 0,.int .u8 0,.int .u8 0,.int .u8 0,.int .u8 0,.int .u8 0,.int .u8 0,.int .u8 0,.int .u8 0,.int .u8 0,.int .u8 0,.int .u8 0,.int .u8 0,.int .u8 0,.int .u8 0,.int .u8 0,.int .u8 0,.int .u8 0,.int .u8 0,.int .u8 0,.int .u8 0,.int .u8 0,.int .u8 0,.int .u8 0,.int .u8 0,.int .u8 0,.int .u8 0,.int .u8 0,.int .u8 0,.int .u8 0,.int .u8 0,.int .u8 0,.int .u8 0,.int .u8 0,.int .u8 0,.int .u8 0,.int .u8 0,.int .u8 0] 233)=VK:=⟨_,rfl⟩
 rw [hVK] at rk bk1 rn3
 rw [hkb] at rk hUs
 have crk:=fun ty=>CR.out _ _ rk ty
 have rk2:=rk.setRow (b8 64 (bk K))
 have rn4:=rn3.farRow (b:=kb) (by omega) (b8 64 (bk K))
 have bk2:=M.below_setRow (g:=kb) (cs:=b8 64 (bk K)) bk1 (by omega)
 obtain ⟨UK,hUK⟩:∃ UK,VK.setRow kb (b8 64 (bk K))=UK:=⟨_,rfl⟩
 rw [hUK] at crk rk2 rn4 bk2
 have HKB:=Lib.hid hkb;have HVK:=Lib.hid hVK;have CRK:=Lib.hid crk
 clear hkb hVK hUK crk rk bk1 rn3 rn2 bW
 go_wp2_with (first
  | (rw [HG.out,HV.out];refine wpList_store_row (x:=.tmp 5) (y:=.tmp 13) (cells:=S0) (old:=Z32) (t:=47) (ty:=47) (g:=g) ?_ ?_ ?_ ?_ rg iS zS oS ?_;rfl;rfl;rfl;rfl;rw [HU.out])
  | (rw [HKB.out,HVK.out];(refine Go.Proofs.wpList_copy_runI _ ?_ (.tmp 16) (.tmp 17) 55 9 ?_ (.slice (some ⟨kb,0,none⟩) 64 64) (.string K) ?_ ?_ (CRK.out _) ?_;rfl;rfl;rfl;rfl)))
 refine (C1.out _ _ rk2).mono ?_
 rintro e w2 ⟨rfl,gq⟩
 have rn5:=rn4.call gq
 have rk3:=rk2.call gq
 have b5:=bk2.trans (gq.mono (by have:=rn4.lt;omega))
 clear gq rn4 bk2 rk2
 go_wp2_with fail
 refine (D1.out _ b5).mono ?_
 rintro e w3 ⟨rfl,gq⟩
 have rn6:=rn5.call gq
 have rk4:=rk3.call gq
 have b6:=b5.trans (gq.mono (by have:=rn5.lt;omega))
 clear gq rn5 b5 rk3
 have hn6:=rn6.lt
 have hk6:=rk4.lt
 obtain ⟨i,hi⟩:∃ i,w3.heap.size=i:=⟨_,rfl⟩
 have ri:=M.RowAt.new w3 47 #[.int .u8 0,.int .u8 0,.int .u8 0,.int .u8 0,.int .u8 0,.int .u8 0,.int .u8 0,.int .u8 0,.int .u8 0,.int .u8 0,.int .u8 0,.int .u8 0,.int .u8 0,.int .u8 0,.int .u8 0,.int .u8 0,.int .u8 0,.int .u8 0,.int .u8 0,.int .u8 0,.int .u8 0,.int .u8 0,.int .u8 0,.int .u8 0,.int .u8 0,.int .u8 0,.int .u8 0,.int .u8 0,.int .u8 0,.int .u8 0,.int .u8 0,.int .u8 0]
 have b7:=b6.alloc (by omega) (.cells #[.int .u8 0,.int .u8 0,.int .u8 0,.int .u8 0,.int .u8 0,.int .u8 0,.int .u8 0,.int .u8 0,.int .u8 0,.int .u8 0,.int .u8 0,.int .u8 0,.int .u8 0,.int .u8 0,.int .u8 0,.int .u8 0,.int .u8 0,.int .u8 0,.int .u8 0,.int .u8 0,.int .u8 0,.int .u8 0,.int .u8 0,.int .u8 0,.int .u8 0,.int .u8 0,.int .u8 0,.int .u8 0,.int .u8 0,.int .u8 0,.int .u8 0,.int .u8 0] 47)
 have rn7:=rn6.alloc (.cells #[.int .u8 0,.int .u8 0,.int .u8 0,.int .u8 0,.int .u8 0,.int .u8 0,.int .u8 0,.int .u8 0,.int .u8 0,.int .u8 0,.int .u8 0,.int .u8 0,.int .u8 0,.int .u8 0,.int .u8 0,.int .u8 0,.int .u8 0,.int .u8 0,.int .u8 0,.int .u8 0,.int .u8 0,.int .u8 0,.int .u8 0,.int .u8 0,.int .u8 0,.int .u8 0,.int .u8 0,.int .u8 0,.int .u8 0,.int .u8 0,.int .u8 0,.int .u8 0] 47)
 have rk7:=rk4.alloc (.cells #[.int .u8 0,.int .u8 0,.int .u8 0,.int .u8 0,.int .u8 0,.int .u8 0,.int .u8 0,.int .u8 0,.int .u8 0,.int .u8 0,.int .u8 0,.int .u8 0,.int .u8 0,.int .u8 0,.int .u8 0,.int .u8 0,.int .u8 0,.int .u8 0,.int .u8 0,.int .u8 0,.int .u8 0,.int .u8 0,.int .u8 0,.int .u8 0,.int .u8 0,.int .u8 0,.int .u8 0,.int .u8 0,.int .u8 0,.int .u8 0,.int .u8 0,.int .u8 0] 47)
 obtain ⟨VI,hVI⟩:∃ VI,w3.alloc (.cells #[.int .u8 0,.int .u8 0,.int .u8 0,.int .u8 0,.int .u8 0,.int .u8 0,.int .u8 0,.int .u8 0,.int .u8 0,.int .u8 0,.int .u8 0,.int .u8 0,.int .u8 0,.int .u8 0,.int .u8 0,.int .u8 0,.int .u8 0,.int .u8 0,.int .u8 0,.int .u8 0,.int .u8 0,.int .u8 0,.int .u8 0,.int .u8 0,.int .u8 0,.int .u8 0,.int .u8 0,.int .u8 0,.int .u8 0,.int .u8 0,.int .u8 0,.int .u8 0] 47)=VI:=⟨_,rfl⟩
 rw [hVI] at ri b7 rn7 rk7
 rw [hi] at ri hn6 hk6
 have ri2:=ri.setRow (r8 32 I)
 have rn8:=rn7.farRow (b:=i) (by omega) (r8 32 I)
 have rk8:=rk7.farRow (b:=i) (by omega) (r8 32 I)
 have b8:=M.below_setRow (g:=i) (cs:=r8 32 I) b7 (by omega)
 obtain ⟨UI,hUI⟩:∃ UI,VI.setRow i (r8 32 I)=UI:=⟨_,rfl⟩
 rw [hUI] at ri2 rn8 b8 rk8
 have tc:TC n kb i w Z32 K I UI:=⟨rn8,rk8,ri2,b8⟩
 have HI:=Lib.hid hi;have HVI:=Lib.hid hVI;have HUI:=Lib.hid hUI
 unfold M.RowAt at ri
 clear hi hVI hUI rn6 b6 b7 rn7 ri2 rn8 b8 rk4 rk7 rk8
 go_wp2_with (rw [HI.out,HVI.out];refine wpList_store_row (x:=.tmp 8) (y:=.tmp 24) (cells:=r8 32 I) (old:=Z32) (t:=47) (ty:=47) (g:=i) ?_ ?_ ?_ ?_ ri iI zI oI ?_;rfl;rfl;rfl;rfl;rw [HUI.out])
 refine QP.wp_region_p 6 (TC n kb i w Z32 K I) (TC n kb i w (r8 32 F) K I) (by kernel_rfl) (by kernel_rfl) tc.drew ?_
 iterate 7
  (refine QP.wpQ_step (fun K hK=>?_)
   go_simp
   first
    | (refine hK _ ?_;clear hK K)
    | (refine ⟨?_,hK _ ?_⟩;decide;clear hK K)
    | ((first | (apply Exists.intro;refine ⟨?_,hK _ ?_⟩) | refine ⟨⟨undef,?_⟩,hK _ ?_⟩)
       first
        | (apply QP.al_p;decide;(focus (intro wq hq;(first | (have hcv:=HCV.out _ _ hq.ri) | skip);first | ((refine QP.oat_store_row (ty:=47) (x:=.tmp 4) (y:=.tmp 30) (g:=n) (cells:=r8 32 F) (t:=47) (old:=Z32) ?_ ?_ ?_ hq.rn iF zF oF (hq.set (by omega) (by omega));rfl;rfl;rfl)) | (unfold QP.oat;go_simp;first | done | exact ⟨by assumption,rfl⟩ | exact rfl | assumption | (first | ((with_reducible refine (C2.out _ _ hq.rk).mono ?_);rintro e w' ⟨rfl,gq⟩;exact ⟨rfl,hq.same gq⟩) | ((with_reducible refine (D2.out _ hq.below).mono ?_);rintro e w' ⟨rfl,gq⟩;exact ⟨rfl,hq.same gq⟩))))))
        | (apply QP.al_dep;decide;decide;(focus (intro wq hq;(first | (have hcv:=HCV.out _ _ hq.ri) | skip);first | ((refine QP.oat_store_row (ty:=47) (x:=.tmp 4) (y:=.tmp 30) (g:=n) (cells:=r8 32 F) (t:=47) (old:=Z32) ?_ ?_ ?_ hq.rn iF zF oF (hq.set (by omega) (by omega));rfl;rfl;rfl)) | (unfold QP.oat;go_simp;first | done | exact ⟨by assumption,rfl⟩ | exact rfl | assumption | (first | ((with_reducible refine (C2.out _ _ hq.rk).mono ?_);rintro e w' ⟨rfl,gq⟩;exact ⟨rfl,hq.same gq⟩) | ((with_reducible refine (D2.out _ hq.below).mono ?_);rintro e w' ⟨rfl,gq⟩;exact ⟨rfl,hq.same gq⟩))))))
        | (apply QP.al_bef;decide;decide;(focus (intro wq hq;(first | (have hcv:=HCV.out _ _ hq.ri) | skip);first | ((refine QP.oat_store_row (ty:=47) (x:=.tmp 4) (y:=.tmp 30) (g:=n) (cells:=r8 32 F) (t:=47) (old:=Z32) ?_ ?_ ?_ hq.rn iF zF oF (hq.set (by omega) (by omega));rfl;rfl;rfl)) | (unfold QP.oat;go_simp;first | done | exact ⟨by assumption,rfl⟩ | exact rfl | assumption | (first | ((with_reducible refine (C2.out _ _ hq.rk).mono ?_);rintro e w' ⟨rfl,gq⟩;exact ⟨rfl,hq.same gq⟩) | ((with_reducible refine (D2.out _ hq.below).mono ?_);rintro e w' ⟨rfl,gq⟩;exact ⟨rfl,hq.same gq⟩))))))
        | (apply QP.al_ok;decide;(focus (intro wq hq;(first | (have hcv:=HCV.out _ _ hq.ri) | skip);first | ((refine QP.oat_store_row (ty:=47) (x:=.tmp 4) (y:=.tmp 30) (g:=n) (cells:=r8 32 F) (t:=47) (old:=Z32) ?_ ?_ ?_ hq.rn iF zF oF (hq.set (by omega) (by omega));rfl;rfl;rfl)) | (unfold QP.oat;go_simp;first | done | exact ⟨by assumption,rfl⟩ | exact rfl | assumption | (first | ((with_reducible refine (C2.out _ _ hq.rk).mono ?_);rintro e w' ⟨rfl,gq⟩;exact ⟨rfl,hq.same gq⟩) | ((with_reducible refine (D2.out _ hq.below).mono ?_);rintro e w' ⟨rfl,gq⟩;exact ⟨rfl,hq.same gq⟩)))));(focus (intro wq hq;(first | (have hcv:=HCV.out _ _ hq.ri) | skip);first | ((refine QP.oat_store_row (ty:=47) (x:=.tmp 4) (y:=.tmp 30) (g:=n) (cells:=r8 32 F) (t:=47) (old:=Z32) ?_ ?_ ?_ hq.rn iF zF oF (hq.set (by omega) (by omega));rfl;rfl;rfl)) | (unfold QP.oat;go_simp;first | done | exact ⟨by assumption,rfl⟩ | exact rfl | assumption | (first | ((with_reducible refine (C2.out _ _ hq.rk).mono ?_);rintro e w' ⟨rfl,gq⟩;exact ⟨rfl,hq.same gq⟩) | ((with_reducible refine (D2.out _ hq.below).mono ?_);rintro e w' ⟨rfl,gq⟩;exact ⟨rfl,hq.same gq⟩))))))
       clear hK K))
 refine QP.wpQ_nil ?_
 intro wz bz
 go_wp2
 have hload:=run_loadVar_row (P:=Tryz.prog) _ n 47 47 (r8 32 F) (0,0) _ bz.rn u28 rfl iF
 refine bodyPost_ret (v:=.agg (r8 32 F)) (by simp [results,Tryz.results39,asAddr,hload]) rfl ⟨rfl,?_⟩
 rw [HN.out]
 exact bz.below
theorem tag_any (k s:ByteArray) (w:World) (ht:Tabs w) (hkz:k.size≤1000000) (hs:s.size≤1000000) :
 Calls Tryz.prog 39 #[.string k,.string s] w fun e w'=>e=.returned (.agg (r8 32 (mac k s)))∧Below w.heap.size w w':=by
 by_cases h:64<k.size
 · exact tag_long k s w ht h hkz hs
 · exact tag_short k s w ht (by omega) hkz hs
end Go.Proofs.YtdebnbgjgkbmaaaGreatDoor
namespace Go.Proofs.YtdebnbgjgkbmaaaGreatDoor
open Go.RowKit
set_option linter.unusedVariables false
theorem oat_eql {P:Program} {o:Oper} {a:Act} {w:World} {C':World→Prop} (ty t:TypeId) (x y:Operand) (ho:o.op=.binOp .eql ty x y t) (A B:Array Value) (hx:a.eval x=.agg A) (hy:a.eval y=.agg B) (b:Bool)
 (hG:P.eqGuardType P.depth ty=false) (h:(Op.equalIn 10000 ty (.agg A) (.agg B)).run P w=.ok b w) (hC:C' w):QP.oat P o a C' w (.bool b):=by
 unfold QP.oat execOp
 simp only [ho,hx,hy]
 have e1:(eqGuard .eql ty x y (.agg A) (.agg B)).run P w=.ok () w:=by
  unfold eqGuard
  simp [go_sem,hG]
 simp [e1,go_sem,h,hC]
theorem guard28:Tryz.prog.eqGuardType Tryz.prog.depth 47=false:=by kernel_rfl
structure BT (n:Nat) (w:World) (R S:Array Value) (v:World):Prop where
 r:v.heap[n]?=some (.cells R 47 (0,0))
 s:v.heap[n+1]?=some (.cells S 47 (0,0))
 below:Below n w v
theorem BT.drew {n:Nat} {w:World} {R S:Array Value} {v:World} (c:BT n w R S v):BT n w R S v.drew:=⟨c.r,c.s,c.below.drew⟩
theorem BT.same {n:Nat} {w:World} {R S:Array Value} {v v':World} (c:BT n w R S v) (hb:Below v.heap.size v v'):BT n w R S v':=
 ⟨M.RowAt.call c.r hb,M.RowAt.call c.s hb,c.below.trans (hb.mono (by have:=M.RowAt.lt c.r;omega))⟩
end Go.Proofs.YtdebnbgjgkbmaaaGreatDoor
namespace Go.Proofs.YtdebnbgjgkbmaaaGreatDoor
open Oc
open Go.RowKit
set_option linter.unusedVariables false
theorem Ht.HT.belowN {w w':World} {n:Nat} (h:Ht.HT w) (b:Below n w w') (hn:7<n):Ht.HT w':=by
 have s:=h.size
 refine ⟨Nat.le_trans s b.size,fun k hk=>?_,fun k hk=>?_,?_,?_,?_,?_⟩
 · rw [b.cell (by show 7<_;omega)];exact h.evT k hk
 · rw [b.cell (by show 7<_;omega)];exact h.evF k hk
 · rw [b.cell (by show 3<_;omega)];exact h.sp0
 · rw [b.cell (by show 3<_;omega)];exact h.sp1
 · rw [b.cell (by show 3<_;omega)];exact h.sp2
 · rw [b.cell (by show 3<_;omega)];exact h.sp3
theorem setl1_any (own:Bool) (s:Int) (b:Nat) (w:World) (h:Ht.HT w) (h0:0≤s) (h1:s≤9) (hc:w.cell? ⟨b,0,none⟩=some (.int .i64 s)) :
 Calls Tryz.prog 269 #[.bool own,.pointer (some ⟨b,0,none⟩)] w fun e w'=>e=.returned (.bool (Ht.Pl.above own s))∧QC.Dr w w':=by
 have hm:Ht.Pl.may s=true:=by simp [Ht.Pl.may];omega
 have MAY:=Lib.hid (fun u=>Ht.may_any s u)
 rw [hm] at MAY
 have ROW:=Lib.hid (fun u=>Ht.row_any own u)
 have s0:=h.sp1;have s1:=h.sp3
 have H0:=Lib.hid s0;have H1:=Lib.hid s1;have HC:=Lib.hid hc
 have HA:=Lib.hid (show Ht.Pl.above own s=decide (Ht.Pl.hi own<s) by unfold Ht.Pl.above;simp;omega)
 clear h hm s0 s1 hc
 have hi2:Ht.Pl.hi true=5:=rfl
 have hi1:Ht.Pl.hi false=7:=rfl
 cases own
 all_goals
  rw [HA.out]
  go_enter Tryz.func269,Tryz.ntmps269
  go_wp2
  refine QC.wp_region_d [1,5] [0,1,2,3,4,5,6,7,8,9,10,11] (by kernel_rfl) (by kernel_rfl) (fun u d=>?_)
  have D:=Lib.hid d
  have cu:=(d.cell ⟨b,0,none⟩).trans HC.out
  have cs0:=(d.cell ⟨3,1,none⟩).trans H0.out
  have cs1:=(d.cell ⟨3,3,none⟩).trans H1.out
  clear d
  iterate 1
   (first
    | (apply QC.wpC_load
       (focus rfl)
       (focus decide)
       (focus rfl)
       (focus rfl)
       (focus rfl)
       (focus (assumption))
       (focus (intro u hu;go_simp))
       intro K hK
       go_simp
       refine hK _ ?_
       clear hK K)
    | (apply QC.wpC_pure
       (focus rfl)
       (focus decide)
       intro K hK
       go_simp
       first
        | (refine hK _ ?_;clear hK K)
        | (apply Exists.intro
           refine ⟨fun u=>?_,hK _ ?_⟩
           (focus (unfold QP.oat;go_simp;first | done | exact ⟨rfl,rfl⟩ | exact rfl))
           clear hK K)))
  apply QC.wpC_eff
  (focus rfl)
  (focus decide)
  go_wp2_with fail
  refine (MAY.out _).mono ?_
  rintro e u2 ⟨rfl,rfl⟩
  go_wp2
  refine QC.eff_ok rfl ?_ ?_
  · (repeat (first | exact QC.obl_nil | refine QC.obl_is (by assumption) ?_ | (apply QC.obl_dep;(focus decide))))
  iterate 3
   (first
    | (apply QC.wpC_load
       (focus rfl)
       (focus decide)
       (focus rfl)
       (focus rfl)
       (focus rfl)
       (focus (assumption))
       (focus (intro u hu;go_simp))
       intro K hK
       go_simp
       refine hK _ ?_
       clear hK K)
    | (apply QC.wpC_pure
       (focus rfl)
       (focus decide)
       intro K hK
       go_simp
       first
        | (refine hK _ ?_;clear hK K)
        | (apply Exists.intro
           refine ⟨fun u=>?_,hK _ ?_⟩
           (focus (unfold QP.oat;go_simp;first | done | exact ⟨rfl,rfl⟩ | exact rfl))
           clear hK K)))
  apply QC.wpC_eff
  (focus rfl)
  (focus decide)
  go_wp2_with fail
  refine (ROW.out _).mono ?_
  rintro e u2 ⟨rfl,rfl⟩
  go_wp2
  refine QC.eff_ok rfl ?_ ?_
  · (repeat (first | exact QC.obl_nil | refine QC.obl_is (by assumption) ?_ | (apply QC.obl_dep;(focus decide))))
  iterate 6
   (first
    | (apply QC.wpC_load
       (focus rfl)
       (focus decide)
       (focus rfl)
       (focus rfl)
       (focus rfl)
       (focus (assumption))
       (focus (intro u hu;go_simp))
       intro K hK
       go_simp
       refine hK _ ?_
       clear hK K)
    | (apply QC.wpC_pure
       (focus rfl)
       (focus decide)
       intro K hK
       go_simp
       first
        | (refine hK _ ?_;clear hK K)
        | (apply Exists.intro
           refine ⟨fun u=>?_,hK _ ?_⟩
           (focus (unfold QP.oat;go_simp;first | done | exact ⟨rfl,rfl⟩ | exact rfl))
           clear hK K)))
  refine QC.wpC_nil ?_
  go_wp2
  go_ret
  exact ⟨rfl,D.out⟩
structure LV where
 id:Nat
 am:Nat
 F:Nat→Nat
 ex:Int
 own:Bool
 st:Int
 paid:Bool
def LV.h (x:LV):Array Value:=#[.int .u64 x.id,.int .u64 x.am]++r8 32 x.F++#[.int .i64 x.ex]
def LV.cells (x:LV):Array Value:=x.h++#[.bool x.own,.int .i64 x.st,.bool x.paid]
theorem LV.h_size (x:LV):x.h.size=35:=by unfold LV.h;simp [M.rowF_size]
theorem LV.size (x:LV):x.cells.size=38:=by unfold LV.cells;rw [Array.size_append,LV.h_size];rfl
theorem LV.c35 (x:LV):x.cells[35]?=some (.bool x.own):=by
 unfold LV.cells;rw [Array.getElem?_append_right (by rw [LV.h_size];decide),LV.h_size];rfl
theorem LV.c36 (x:LV):x.cells[36]?=some (.int .i64 x.st):=by
 unfold LV.cells;rw [Array.getElem?_append_right (by rw [LV.h_size];decide),LV.h_size];rfl
theorem LV.c37 (x:LV):x.cells[37]?=some (.bool x.paid):=by
 unfold LV.cells;rw [Array.getElem?_append_right (by rw [LV.h_size];decide),LV.h_size];rfl
def LV.ok (x:LV):Prop:=0≤x.st∧x.st≤9
def pHas (ours:Bool) (x:LV):Bool:=Ht.Pl.ours (if ours then x.own else !x.own) x.st
def pOut (ours:Bool) (x:LV):Bool:=Ht.Pl.above (if ours then x.own else !x.own) x.st
end Go.Proofs.YtdebnbgjgkbmaaaGreatDoor
namespace Go.Proofs.YtdebnbgjgkbmaaaGreatDoor
namespace Vw
open Go.RowKit
set_option linter.unusedVariables false
structure It where
 off:Bool
 id:Nat
 am:Nat
 F:Nat→Nat
 ex:Int
def It.row (x:It):Array Value:=#[.bool x.off,.int .u64 x.id,.int .u64 x.am]++r8 32 x.F++#[.int .i64 x.ex]
theorem It.size (x:It):x.row.size=36:=by unfold It.row;simp [M.rowF_size]
theorem It.c0 (x:It):x.row[0]?=some (.bool x.off):=by
 unfold It.row;rw [Array.getElem?_append_left (by simp [M.rowF_size]),Array.getElem?_append_left (by simp)];rfl
theorem It.c1 (x:It):x.row[1]?=some (.int .u64 x.id):=by
 unfold It.row;rw [Array.getElem?_append_left (by simp [M.rowF_size]),Array.getElem?_append_left (by simp)];rfl
theorem It.c2 (x:It):x.row[2]?=some (.int .u64 x.am):=by
 unfold It.row;rw [Array.getElem?_append_left (by simp [M.rowF_size]),Array.getElem?_append_left (by simp)];rfl
theorem It.c35 (x:It):x.row[35]?=some (.int .i64 x.ex):=by
 unfold It.row;rw [Array.getElem?_append_right (by simp [M.rowF_size])];simp [M.rowF_size]
theorem It.one (x:It):x.row.all (·.oneCell')=true:=by
 unfold It.row
 rw [Array.all_append,Array.all_append,M.rowF_one]
 simp [Value.oneCell']
theorem It.info (x:It):(Tryz.prog.info? 222).map (·.size)=some x.row.size:=by rw [It.size];kernel_rfl
def rk (x:It):Nat:=if x.off then 0 else 1
set_option maxRecDepth 100000 in
theorem rank_any (x:It) (w:World):Calls Tryz.prog 124 #[.agg x.row] w fun e w'=>e=.returned (.int .u64 (rk x:Nat))∧Below w.heap.size w w':=by
 obtain ⟨n,hn⟩:∃ n,w.heap.size=n:=⟨_,rfl⟩
 obtain ⟨V,hV⟩:∃ V,w.alloc (.cells x.row 222)=V:=⟨_,rfl⟩
 have rV:M.RowAt V n 222 x.row:=by rw [←hV,← hn];exact M.RowAt.new w 222 _
 have bV:Below n w V:=by rw [←hV,← hn];exact (Below.refl _ _).alloc (Nat.le_refl _) _
 have c0:=(rV.cell 0).trans x.c0
 have HN:=Lib.hid hn;have HV:=Lib.hid hV;have BV:=Lib.hid bV
 have hrk:rk x=if x.off then 0 else 1:=rfl
 rw [hrk]
 generalize x.off=o at *
 generalize x.row=C at *
 clear hn hV rV bV hrk
 cases o with
 | true=>
   go_enter Tryz.func124,Tryz.ntmps124
   go_wp2_with (first | (rw [HN.out,HV.out]) | fail)
   go_ret
   exact ⟨rfl,HN.out.symm▸BV.out⟩
 | false=>
   go_enter Tryz.func124,Tryz.ntmps124
   go_wp2_with (first | (rw [HN.out,HV.out]) | fail)
   go_ret
   exact ⟨rfl,HN.out.symm▸BV.out⟩
def cmpN (a b:Nat):Int:=if a<b then -1 else if b<a then 1 else 0
theorem nan_any (a:Nat) (w:World):Calls Tryz.prog 308 #[.int .u64 a] w fun e w'=>e=.returned (.bool false)∧w=w':=by
 have h1:((a:Int) != (a:Int))=false:=by simp
 go_enter Tryz.func308,Tryz.ntmps308
 go_wp2
 go_ret
 exact ⟨by simp,rfl⟩
theorem cmp_any (a b:Nat) (w:World):Calls Tryz.prog 274 #[.int .u64 a,.int .u64 b] w fun e w'=>e=.returned (.int .i64 (cmpN a b))∧w=w':=by
 have N1:=Lib.hid (fun v=>nan_any a v)
 have N2:=Lib.hid (fun v=>nan_any b v)
 unfold cmpN
 by_cases h1:a<b
 · rw [if_pos h1]
   go_enter Tryz.func274,Tryz.ntmps274
   go_wp2_with (first | ((with_reducible refine (N1.out _).mono ?_);rintro e w' ⟨rfl,rfl⟩) | ((with_reducible refine (N2.out _).mono ?_);rintro e w' ⟨rfl,rfl⟩) | fail)
   go_ret
   exact ⟨rfl,rfl⟩
 · rw [if_neg h1]
   by_cases h2:b<a
   · rw [if_pos h2]
     go_enter Tryz.func274,Tryz.ntmps274
     go_wp2_with (first | ((with_reducible refine (N1.out _).mono ?_);rintro e w' ⟨rfl,rfl⟩) | ((with_reducible refine (N2.out _).mono ?_);rintro e w' ⟨rfl,rfl⟩) | fail)
     go_ret
     exact ⟨rfl,rfl⟩
   · rw [if_neg h2]
     go_enter Tryz.func274,Tryz.ntmps274
     go_wp2_with (first | ((with_reducible refine (N1.out _).mono ?_);rintro e w' ⟨rfl,rfl⟩) | ((with_reducible refine (N2.out _).mono ?_);rintro e w' ⟨rfl,rfl⟩) | fail)
     go_ret
     exact ⟨rfl,rfl⟩
def cmpR (p q p' q':Nat):Int:=if cmpN p q=0 then cmpN p' q' else cmpN p q
set_option maxRecDepth 100000 in
set_option maxHeartbeats 2000000 in
theorem compare_any (g p q p' q':Nat) (w:World) (h:M.RowAt w g 328 #[.int .u64 p,.int .u64 q,.int .u64 p',.int .u64 q']):Calls Tryz.prog 201 #[.slice (some ⟨g,0,none⟩) 2 2] w fun e w'=>e=.returned (.int .i64 (cmpR p q p' q'))∧Below w.heap.size w w':=by
 obtain ⟨n,hn⟩:∃ n,w.heap.size=n:=⟨_,rfl⟩
 have hgn:g<n:=hn▸h.lt
 have HN:=Lib.hid hn
 have C1:=Lib.hid (fun v=>cmp_any p q v)
 have C2:=Lib.hid (fun v=>cmp_any p' q' v)
 have H:=Lib.hid h
 have hR:cmpR p q p' q'=if cmpN p q=0 then cmpN p' q' else cmpN p q:=rfl
 rw [hR]
 generalize cmpN p q=a at *
 generalize cmpN p' q'=b at *
 clear hn h hR
 go_enter Tryz.func201,Tryz.ntmps201
 go_wp2
 go_loopg [8] 2 (fun m i v=>∃ k:Nat,m+k=2∧i=.int .i64 k∧(k=0∨a=0)∧(k≤1∨b=0)∧Below n w v)
 case atStart=>exact ⟨0,rfl,rfl,.inl rfl,.inl (by decide),HN.out▸Below.refl _ _⟩
 case round=>
  obtain ⟨k,hm,rfl,hk,hk2,bel⟩:=hrel
  have hsz:=bel.size
  have rw':=M.RowAt.below H.out bel hgn
  have hv:n≤wr.heap.size:=by have:=HN.out;omega
  obtain ⟨z,hq⟩:∃ z,wr.heap.size=z:=⟨_,rfl⟩
  have HQ:=Lib.hid hq
  have BEL:=Lib.hid bel;have HV:=Lib.hid hv
  match k,hm,hk,hk2 with
  | 0,hm,_,_=>
    have c0:=rw'.cell 0
    have c1:=rw'.cell 1
    clear rw' bel hv hsz
    by_cases ha:a=0
    · subst ha
      go_wp2_with (first | ((with_reducible refine (C1.out _).mono ?_);rintro e w' ⟨rfl,rfl⟩) | fail)
      go_roundg 1
      case measure=>omega
      case rel=>exact ⟨1,by omega,by go_num,by first | exact .inr rfl | simp,.inl (Nat.le_refl _),BEL.out.alloc HV.out _⟩
    · go_wp2_with (first | ((with_reducible refine (C1.out _).mono ?_);rintro e w' ⟨rfl,rfl⟩) | fail)
      go_ret
      exact ⟨by first | rfl | rw [if_neg ha],HN.out.symm▸BEL.out.alloc HV.out _⟩
  | 1,hm,hk,_=>
    have c0:=rw'.cell 2
    have c1:=rw'.cell 3
    obtain rfl:a=0:=hk.resolve_left (by decide)
    clear rw' bel hv hsz hk
    by_cases hb:b=0
    · subst hb
      go_wp2_with (first | ((with_reducible refine (C2.out _).mono ?_);rintro e w' ⟨rfl,rfl⟩) | fail)
      go_roundg 0
      case measure=>omega
      case rel=>exact ⟨2,by omega,by go_num,by first | exact .inr rfl | simp,by first | exact .inr rfl | simp,BEL.out.alloc HV.out _⟩
    · go_wp2_with (first | ((with_reducible refine (C2.out _).mono ?_);rintro e w' ⟨rfl,rfl⟩) | fail)
      go_ret
      exact ⟨by first | rfl | rw [if_pos rfl],HN.out.symm▸BEL.out.alloc HV.out _⟩
  | 2,hm,hk,hk2=>
    obtain rfl:a=0:=hk.resolve_left (by decide)
    obtain rfl:b=0:=hk2.resolve_left (by decide)
    clear rw' bel hv hsz hk hk2
    go_wp2
    go_ret
    exact ⟨by first | rfl | rw [if_pos rfl],HN.out.symm▸BEL.out⟩
  | k+3,hm,_,_=>omega
def ordI (x y:It):Int:=cmpR (rk x) (rk y) x.id y.id
set_option maxRecDepth 100000 in
set_option maxHeartbeats 4000000 in
theorem order_any (x y:It) (w:World):Calls Tryz.prog 123 #[.agg x.row,.agg y.row] w fun e w'=>e=.returned (.int .i64 (ordI x y))∧Below w.heap.size w w':=by
 obtain ⟨n,hn⟩:∃ n,w.heap.size=n:=⟨_,rfl⟩
 have ra:=(M.RowAt.new w 222 x.row).alloc (.cells y.row 222)
 have rb:=M.RowAt.new (w.alloc (.cells x.row 222)) 222 y.row
 rw [World.size_alloc,hn] at rb
 rw [hn] at ra
 obtain ⟨V,hV⟩:∃ V,(w.alloc (.cells x.row 222)).alloc (.cells y.row 222)=V:=⟨_,rfl⟩
 have bV:Below n w V:=by rw [←hV];subst hn;exact ((Below.refl _ _).alloc (Nat.le_refl _) _).alloc (by simp) _
 rw [hV] at ra rb
 have RX:=Lib.hid (fun v=>rank_any x v)
 have RY:=Lib.hid (fun v=>rank_any y v)
 have CP:=Lib.hid (fun g v h=>compare_any g (rk x) (rk y) x.id y.id v h)
 have hor:ordI x y=cmpR (rk x) (rk y) x.id y.id:=rfl
 rw [hor]
 have iX:=x.info;have iY:=y.info
 have x1:=x.c1;have y1:=y.c1
 generalize cmpR (rk x) (rk y) x.id y.id=r at *
 generalize rk x=kx at *
 generalize rk y=ky at *
 generalize x.id=ix at *
 generalize y.id=iy at *
 generalize x.row=X at *
 generalize y.row=Y at *
 have HN:=Lib.hid hn;have HV:=Lib.hid hV;have RA:=Lib.hid ra;have RB:=Lib.hid rb;have BV:=Lib.hid bV
 clear hn hV ra rb bV hor
 go_enter Tryz.func123,Tryz.ntmps123
 go_wp2_with (first | (rw [HN.out,HV.out]) | fail)
 refine QC.wp_region_d [1,3,12,13] [0,2,5,6,7,8,9,10,11,1,3,4,12,13,14] (by kernel_rfl) (by kernel_rfl) (fun u d=>?_)
 have ha:=M.RowAt.call RA.out (d.below (n:=V.heap.size))
 have hb:=M.RowAt.call RB.out (d.below (n:=V.heap.size))
 have bu:=BV.out.trans (d.below (n:=n))
 have ca:=(ha.cell 1).trans x1
 have cb:=(hb.cell 1).trans y1
 have BU:=Lib.hid bu
 clear d bu
 refine QC.wpC_rest (fun u=>M.RowAt u n 222 X) (.agg X) rfl (by decide) rfl ha ?_ ?_
 · intro v hv
   exact QP.oat_load_row (ty:=222) (x:=.tmp 2) rfl (g:=n) rfl (t:=222) (cs:=X) (fr:=(0,0)) _ hv Tryz.underlying222 rfl iX rfl
 refine QC.wpC_rest (fun u=>M.RowAt u (n+1) 222 Y) (.agg Y) rfl (by decide) rfl hb ?_ ?_
 · intro v hv
   exact QP.oat_load_row (ty:=222) (x:=.tmp 3) rfl (g:=n+1) rfl (t:=222) (cs:=Y) (fr:=(0,0)) _ hv Tryz.underlying222 rfl iY rfl
 iterate 7
  (first
   | (apply QC.wpC_load
      (focus rfl)
      (focus decide)
      (focus rfl)
      (focus rfl)
      (focus rfl)
      (focus (assumption))
      (focus (intro u hu;go_simp))
      intro K hK
      go_simp
      refine hK _ ?_
      clear hK K)
   | (apply QC.wpC_pure
      (focus rfl)
      (focus decide)
      intro K hK
      go_simp
      first
       | (refine hK _ ?_;clear hK K)
       | (apply Exists.intro
          refine ⟨fun u=>?_,hK _ ?_⟩
          (focus (unfold QP.oat;go_simp;first | done | exact ⟨rfl,rfl⟩ | exact rfl))
          clear hK K)))
 apply QC.wpC_eff
 (focus rfl)
 (focus decide)
 go_wp2_with fail
 refine (RX.out _).mono ?_
 rintro e w1 ⟨rfl,g1⟩
 have ha1:=ha.call g1
 have hb1:=hb.call g1
 have ca1:=(ha1.cell 1).trans x1
 have cb1:=(hb1.cell 1).trans y1
 have BU1:=Lib.hid (BU.out.trans (g1.mono (by have:=ha.lt;have:=hb.lt;omega)))
 go_wp2
 refine QC.eff_ok rfl ?_ ?_
 · (repeat (first | exact QC.obl_nil | refine QC.obl_is (by assumption) ?_ | (apply QC.obl_dep;(focus decide))))
 clear g1 ha hb ca cb BU
 apply QC.wpC_eff
 (focus rfl)
 (focus decide)
 go_wp2_with fail
 refine (RY.out _).mono ?_
 rintro e w2 ⟨rfl,g2⟩
 have ha2:=ha1.call g2
 have hb2:=hb1.call g2
 have ca2:=(ha2.cell 1).trans x1
 have cb2:=(hb2.cell 1).trans y1
 have BU2:=Lib.hid (BU1.out.trans (g2.mono (by have:=ha1.lt;have:=hb1.lt;omega)))
 go_wp2
 refine QC.eff_ok rfl ?_ ?_
 · (repeat (first | exact QC.obl_nil | refine QC.obl_is (by assumption) ?_ | (apply QC.obl_dep;(focus decide))))
 clear g2 ha1 hb1 ca1 cb1 BU1
 iterate 1
  (first
   | (apply QC.wpC_load
      (focus rfl)
      (focus decide)
      (focus rfl)
      (focus rfl)
      (focus rfl)
      (focus (assumption))
      (focus (intro u hu;go_simp))
      intro K hK
      go_simp
      refine hK _ ?_
      clear hK K)
   | (apply QC.wpC_pure
      (focus rfl)
      (focus decide)
      intro K hK
      go_simp
      first
       | (refine hK _ ?_;clear hK K)
       | (apply Exists.intro
          refine ⟨fun u=>?_,hK _ ?_⟩
          (focus (unfold QP.oat;go_simp;first | done | exact ⟨rfl,rfl⟩ | exact rfl))
          clear hK K)))
 obtain ⟨z,hz⟩:∃ z,w2.heap.size=z:=⟨_,rfl⟩
 obtain ⟨W,hW⟩:∃ W,w2.alloc (.cells #[.int .u64 (kx:Nat),.int .u64 (ky:Nat),.int .u64 (ix:Nat),.int .u64 (iy:Nat)] 328)=W:=⟨_,rfl⟩
 have rW:M.RowAt W z 328 #[.int .u64 (kx:Nat),.int .u64 (ky:Nat),.int .u64 (ix:Nat),.int .u64 (iy:Nat)]:=by rw [←hW,← hz];exact M.RowAt.new w2 328 _
 have ha3:M.RowAt W n 222 X:=by rw [←hW];exact ha2.alloc _
 have hb3:M.RowAt W (n+1) 222 Y:=by rw [←hW];exact hb2.alloc _
 have ca3:=(ha3.cell 1).trans x1
 have cb3:=(hb3.cell 1).trans y1
 have BU3:=Lib.hid (show Below n w W by rw [←hW];exact BU2.out.alloc (by have:=hb2.lt;omega) _)
 have HZ:=Lib.hid hz;have HW:=Lib.hid hW
 clear hz hW
 apply QC.wpC_eff
 (focus rfl)
 (focus decide)
 go_wp2
 rw [HZ.out,HW.out]
 refine QC.eff_ok rfl ?_ ?_
 · (repeat (first | exact QC.obl_nil | refine QC.obl_is (by assumption) ?_ | (apply QC.obl_dep;(focus decide))))
 clear ha2 hb2 ca2 cb2 BU2
 apply QC.wpC_eff
 (focus rfl)
 (focus decide)
 go_wp2_with fail
 refine (CP.out _ _ rW).mono ?_
 rintro e w3 ⟨rfl,g3⟩
 have ha4:=ha3.call g3
 have hb4:=hb3.call g3
 have ca4:=(ha4.cell 1).trans x1
 have cb4:=(hb4.cell 1).trans y1
 have BU4:=Lib.hid (BU3.out.trans (g3.mono (by have:=rW.lt;have:=hb3.lt;omega)))
 go_wp2
 refine QC.eff_ok rfl ?_ ?_
 · (repeat (first | exact QC.obl_nil | refine QC.obl_is (by assumption) ?_ | (apply QC.obl_dep;(focus decide))))
 iterate 1
  (first
   | (apply QC.wpC_load
      (focus rfl)
      (focus decide)
      (focus rfl)
      (focus rfl)
      (focus rfl)
      (focus (assumption))
      (focus (intro u hu;go_simp))
      intro K hK
      go_simp
      refine hK _ ?_
      clear hK K)
   | (apply QC.wpC_pure
      (focus rfl)
      (focus decide)
      intro K hK
      go_simp
      first
       | (refine hK _ ?_;clear hK K)
       | (apply Exists.intro
          refine ⟨fun u=>?_,hK _ ?_⟩
          (focus (unfold QP.oat;go_simp;first | done | exact ⟨rfl,rfl⟩ | exact rfl))
          clear hK K)))
 refine QC.wpC_nil ?_
 clear g3 ha3 hb3 ca3 cb3 BU3 ha4 hb4 ca4 cb4
 go_wp2
 go_ret
 exact ⟨rfl,HN.out.symm▸BU4.out⟩
end Vw
end Go.Proofs.YtdebnbgjgkbmaaaGreatDoor
namespace Go.Proofs.YtdebnbgjgkbmaaaGreatDoor
namespace Vw
open Go.RowKit
set_option linter.unusedVariables false
def flatI (L:List It):List Value:=L.flatMap fun x=>x.row.toList
theorem flatI_len (L:List It):(flatI L).length=L.length*36:=by
 unfold flatI
 induction L with
 | nil=>rfl
 | cons x l ih=>rw [List.flatMap_cons,List.length_append,ih,Array.length_toList,It.size,List.length_cons];omega
theorem flatI_app (L M:List It):flatI (L++M)=flatI L++flatI M:=by unfold flatI;rw [List.flatMap_append]
theorem flatI_cons (x:It) (M:List It):flatI (x::M)=x.row.toList++flatI M:=by unfold flatI;rw [List.flatMap_cons]
theorem spl_mid (P X Y Q:List Value) (h:X.length=Y.length):spl (P++(Y++Q)).toArray P.length X=(P++(X++Q)).toArray:=by
 apply Array.ext'
 apply List.ext_getElem?
 intro i
 rw [Array.getElem?_toList,Array.getElem?_toList,spl_get X _ _ _ (by simp;omega)]
 simp only [List.getElem?_toArray]
 by_cases h1:P.length≤i∧i<P.length+X.length
 · rw [if_pos h1,List.getElem?_append_right h1.1,List.getElem?_append_left (by omega)]
 · rw [if_neg h1]
   rcases Nat.lt_or_ge i P.length with h2 | h2
   · rw [List.getElem?_append_left h2,List.getElem?_append_left h2]
   · rw [List.getElem?_append_right h2,List.getElem?_append_right h2,List.getElem?_append_right (by omega),List.getElem?_append_right (by omega),h]
def IR (v:World) (g:Nat) (L:List It) (T:List Value):Prop:=M.RowAt v g 222 (flatI L++T).toArray
section
variable {v v':World} {g:Nat} {L:List It} {T:List Value}
theorem IR.at_ (h:IR v g L T) {A B:List It} {x:It} (e:L=A++x::B):v.rangeAt g (A.length*36) x.row.toList:=fun j u hu=>by
 have hj:j<x.row.toList.length:=(List.getElem?_eq_some_iff.1 hu).1
 rw [M.RowAt.cell h,List.getElem?_toArray,e,flatI_app,flatI_cons,List.append_assoc,List.append_assoc,List.getElem?_append_right (by rw [flatI_len];omega),flatI_len,Nat.add_sub_cancel_left,List.getElem?_append_left hj]
 exact hu
theorem IR.there (h:IR v g L T) {i:Nat} (hi:i<L.length):v.there g (i*36) 36:=fun j hj=>by
 refine ⟨?_,M.RowAt.frozen h _⟩
 rw [M.RowAt.cell h,List.getElem?_toArray,List.getElem?_eq_getElem (by rw [List.length_append,flatI_len];have:(i+1)*36≤L.length*36:=Nat.mul_le_mul_right _ hi;omega)]
 rfl
theorem IR.store (h:IR v g L T) {A B:List It} {x:It} (e:L=A++x::B) (y:It):IR (v.setCells g (A.length*36) y.row.toList) g (A++y::B) T:=by
 have:=row_setCells y.row.toList _ (A.length*36) v h
 unfold IR
 have e2:spl (flatI L++T).toArray (A.length*36) y.row.toList=(flatI (A++y::B)++T).toArray:=by
  rw [e,flatI_app,flatI_cons,flatI_app,flatI_cons,List.append_assoc,List.append_assoc,List.append_assoc,List.append_assoc,← flatI_len]
  exact spl_mid _ _ _ _ (by rw [Array.length_toList,Array.length_toList,It.size,It.size])
 rw [e2] at this
 exact this
theorem IR.same (h:IR v g L T) (hb:Below v.heap.size v v'):IR v' g L T:=M.RowAt.call h hb
theorem IR.lt (h:IR v g L T):g<v.heap.size:=M.RowAt.lt h
end
def ltI (x y:It):Bool:=decide (ordI x y<0)
theorem cmpN_neg {a b:Nat}:cmpN a b<0↔a<b:=by
 unfold cmpN;split
 · constructor<;>intro<;>first | assumption | decide
 · split
   · constructor
     · intro h;exact absurd h (by decide)
     · intro h;omega
   · constructor
     · intro h;exact absurd h (by decide)
     · intro h;omega
theorem cmpN_zero {a b:Nat}:cmpN a b=0↔a=b:=by
 unfold cmpN;split
 · constructor
   · intro h;exact absurd h (by decide)
   · intro h;omega
 · split
   · constructor
     · intro h;exact absurd h (by decide)
     · intro h;omega
   · constructor
     · intro _;omega
     · intro _;rfl
theorem ltI_iff {x y:It}:ltI x y=true↔rk x<rk y∨(rk x=rk y∧x.id<y.id):=by
 unfold ltI ordI cmpR
 rw [decide_eq_true_iff]
 by_cases h:cmpN (rk x) (rk y)=0
 · rw [if_pos h,cmpN_neg]
   have:=cmpN_zero.1 h
   omega
 · rw [if_neg h,cmpN_neg]
   have:rk x≠rk y:=fun e=>h (cmpN_zero.2 e)
   omega
def SortedI (L:List It):Prop:=L.Pairwise fun x y=>ltI y x=false
theorem ltI_false {x y:It}:ltI x y=false↔¬ (rk x<rk y∨(rk x=rk y∧x.id<y.id)):=by rw [←ltI_iff];cases ltI x y<;>simp
theorem sorted_ins {A B:List It} {x:It} (h:SortedI (A++B)) (hB:∀ y∈B,ltI x y=true) (hA:∀ p∈A.getLast?,ltI x p=false):SortedI (A++x::B):=by
 unfold SortedI at *
 rw [List.pairwise_append] at h ⊢
 obtain ⟨h1,h2,h3⟩:=h
 refine ⟨h1,List.pairwise_cons.2 ⟨fun y hy=>?_,h2⟩,fun a ha y hy=>?_⟩
 · have:=ltI_iff.1 (hB y hy)
   rw [ltI_false];omega
 · rcases List.mem_cons.1 hy with rfl | hy
   · rcases List.eq_nil_or_concat A with rfl | ⟨A',p,rfl⟩
     · cases ha
     · rw [List.concat_eq_append] at *
       have hp:=hA p (by simp)
       rcases List.mem_append.1 ha with ha | ha
       · have h4:=(List.pairwise_append.1 h1).2.2 a ha p (by simp)
         rw [ltI_false] at hp h4 ⊢
         omega
       · rw [List.mem_singleton] at ha;subst ha;exact hp
   · exact h3 a ha y hy
abbrev FV:Value:=.func (.func 123) #[] #[]
end Vw
end Go.Proofs.YtdebnbgjgkbmaaaGreatDoor
namespace Go.Proofs.YtdebnbgjgkbmaaaGreatDoor
namespace Vw
open Go.RowKit
set_option linter.unusedVariables false
set_option maxRecDepth 100000 in
set_option maxHeartbeats 8000000 in
theorem ins_any (g cap:Nat) (P S Q:List It) (T:List Value) (w:World) (h:IR w g (P++S++Q) T) (hk2:(P++S++Q).length≤1000) (hS:S≠[]) :
 Calls Tryz.prog 272 #[.slice (some ⟨g,0,none⟩) (P++S++Q).length cap,.int .i64 (P.length:Nat),.int .i64 ((P.length+S.length:Nat):Int),FV] w fun e w'=>e=.returned (.tuple #[])∧∃ S',S'.Perm S∧SortedI S'∧IR w' g (P++S'++Q) T∧M.But g w w':=by
 obtain ⟨n,hn⟩:∃ n,w.heap.size=n:=⟨_,rfl⟩
 obtain ⟨k,hk⟩:∃ k,(P++S++Q).length=k:=⟨_,rfl⟩
 rw [hk] at hk2 ⊢
 have hlen:P.length+S.length+Q.length=k:=by rw [←hk];simp;omega
 obtain ⟨b,hb⟩:∃ b,P.length+S.length=b:=⟨_,rfl⟩
 rw [hb]
 have H:=Lib.hid h;have HN:=Lib.hid hn;have HK:=Lib.hid hlen;have HB:=Lib.hid hb
 have OR:=Lib.hid (fun x y v=>order_any x y v)
 obtain ⟨a,ha⟩:∃ a,P.length=a:=⟨_,rfl⟩
 rw [ha]
 have HA:=Lib.hid ha
 have hS1:1≤S.length:=by cases S with | nil=>exact absurd rfl hS | cons _ _=>simp
 have HS1:=Lib.hid hS1
 have hab:a+1≤b:=by omega
 have hbk:b≤k:=by omega
 clear h hn hk hb ha hlen hS1
 go_enter Tryz.func272,Tryz.ntmps272
 go_wp2
 go_loopg [8] (b-(a+1)) (fun gm i W=>∃ (q:Nat) (S1 S2:List It),gm+q=b∧q≤b∧i=.int .i64 q∧S1.length+a=q∧(S1++S2).Perm S∧SortedI S1∧IR W g (P++(S1++S2)++Q) T∧M.But g w W)
 case atStart=>
  cases S with
  | nil=>exact absurd rfl hS
  | cons x S0=>exact ⟨a+1,[x],S0,by omega,hab,by go_num,by simp;omega,List.Perm.refl _,by simp [SortedI],by simpa using H.out,M.But.refl g w⟩
 case round=>
  obtain ⟨q,S1,S2,hgm,hqb,rfl,hq1,hperm,hsort,ir,but⟩:=hrel
  have HGM:=Lib.hid hgm
  by_cases hq:q<b
  · obtain ⟨x,S3,rfl⟩:∃ x S3,S2=x::S3:=by
     cases S2 with
     | nil=>
       have:=hperm.length_eq
       have h1:=HB.out;have h2:=HA.out
       simp at this;omega
     | cons x S3=>exact ⟨x,S3,rfl⟩
    have HP:=Lib.hid hperm;have HS:=Lib.hid hsort;have IR0:=Lib.hid ir;have BUT0:=Lib.hid but
    clear hperm hsort ir but
    go_wp2
    go_loopg [9] S1.length (fun gi j W=>∃ (A1 A2:List It),gi=A1.length∧j=.int .i64 ((a+A1.length:Nat):Int)∧A1++A2=S1∧(∀ y∈A2,ltI x y=true)∧IR W g (P++(A1++x::A2++S3)++Q) T∧M.But g w W)
    case atStart=>exact ⟨S1,[],rfl,by congr 2;omega,by simp,by simp,by simpa using IR0.out,BUT0.out⟩
    case round=>
     clear IR0 BUT0
     obtain ⟨A1,A2,rfl,rfl,hAA,hlt,ir,but⟩:=hrel
     have IRH:=Lib.hid ir;have BUTH:=Lib.hid but;have HLT:=Lib.hid hlt;have HAA:=Lib.hid hAA
     have hend:(∀ p∈A1.getLast?,ltI x p=false)→∀ W,M.But g wr W→IR W g (P++(A1++x::A2++S3)++Q) T→∃ (q':Nat) (T1 T2:List It),b-(q+1)+q'=b∧q'≤b∧Value.int .i64 ((q:Int)+1)=.int .i64 q'∧T1.length+a=q'∧(T1++T2).Perm S∧SortedI T1∧IR W g (P++(T1++T2)++Q) T∧M.But g w W:=fun hA W hb2 hir=>by
      refine ⟨q+1,A1++x::A2,S3,by omega,by omega,by go_num,?_,?_,sorted_ins (by rw [HAA.out];exact HS.out) HLT.out hA,hir,BUTH.out.trans hb2⟩
      · have:=congrArg List.length HAA.out;simp at this ⊢;omega
      · refine List.Perm.trans ?_ HP.out
        rw [←HAA.out]
        simp only [List.append_assoc,List.cons_append]
        exact List.Perm.append_left A1 (List.perm_middle.symm)
     have HEND:=Lib.hid hend
     have hgw:g<wr.heap.size:=IR.lt ir
     clear ir but hlt hAA hend
     rcases List.eq_nil_or_concat A1 with rfl | ⟨A3,p,rfl⟩
     · simp only [List.length_nil,Nat.add_zero]
       go_wp2
       refine QC.wp_region_d [14] [0,1,2,3,4,5,6,7,8,9,10,11,12,13,14,15,16] (by kernel_rfl) (by kernel_rfl) (fun u d=>?_)
       have hbu:M.But g wr u:=M.But.ofBelow g (d.below (n:=wr.heap.size))
       have IRU:=Lib.hid (IRH.out.same (d.below (n:=wr.heap.size)))
       have HBU:=Lib.hid hbu
       clear d hbu
       iterate 14
        (first
         | (apply QC.wpC_load
            (focus rfl)
            (focus decide)
            (focus rfl)
            (focus rfl)
            (focus rfl)
            (focus (assumption))
            (focus (intro u hu;go_simp))
            intro K hK
            go_simp
            refine hK _ ?_
            clear hK K)
         | (apply QC.wpC_pure
            (focus rfl)
            (focus decide)
            intro K hK
            go_simp
            first
             | (refine hK _ ?_;clear hK K)
             | (apply Exists.intro
                refine ⟨fun u=>?_,hK _ ?_⟩
                (focus (unfold QP.oat;go_simp;first | done | exact ⟨rfl,rfl⟩ | exact rfl))
                clear hK K)))
       apply QC.wpC_eff
       (focus rfl)
       (focus decide)
       go_wp2
       refine QC.eff_ok rfl ?_ ?_
       · (repeat (first | exact QC.obl_nil | refine QC.obl_is (by assumption) ?_ | (apply QC.obl_dep;(focus decide))))
       iterate 2
        (first
         | (apply QC.wpC_load
            (focus rfl)
            (focus decide)
            (focus rfl)
            (focus rfl)
            (focus rfl)
            (focus (assumption))
            (focus (intro u hu;go_simp))
            intro K hK
            go_simp
            refine hK _ ?_
            clear hK K)
         | (apply QC.wpC_pure
            (focus rfl)
            (focus decide)
            intro K hK
            go_simp
            first
             | (refine hK _ ?_;clear hK K)
             | (apply Exists.intro
                refine ⟨fun u=>?_,hK _ ?_⟩
                (focus (unfold QP.oat;go_simp;first | done | exact ⟨rfl,rfl⟩ | exact rfl))
                clear hK K)))
       refine QC.wpC_nil ?_
       go_wp2
       go_roundg (b-(q+1))
       case measure=>have:=HGM.out;omega
       case rel=>exact HEND.out (by simp) _ HBU.out IRU.out
     · rw [List.concat_eq_append] at *
       obtain ⟨m,hm⟩:∃ m,a+A3.length=m:=⟨_,rfl⟩
       obtain ⟨j,hj⟩:∃ j,m+1=j:=⟨_,rfl⟩
       have hjl:a+(A3++[p]).length=j:=by rw [List.length_append];simp;omega
       rw [hjl]
       have e1:P++((A3++[p])++x::A2++S3)++Q=(P++A3++[p])++x::(A2++S3++Q):=by simp
       have e2:P++((A3++[p])++x::A2++S3)++Q=(P++A3)++p::(x::(A2++S3++Q)):=by simp
       have l1:(P++A3++[p]).length=j:=by have:=HA.out;simp;omega
       have l2:(P++A3).length=m:=by have:=HA.out;simp;omega
       have hlw:(P++((A3++[p])++x::A2++S3)++Q).length=k:=by
        have h1:=HK.out;have h2:=HP.out.length_eq;have h3:=congrArg List.length HAA.out
        simp at h2 h3 ⊢
        omega
       have hjk:j<k:=by rw [←hlw,e1];simp;have:=HA.out;omega
       have d1:decide ((a:Int)<(j:Int))=true:=by simp;omega
       have haj:a<j:=by omega
       have hi1:(j:Int)<(k:Int):=by omega
       have hi2:(0:Int)≤(j:Int):=by omega
       have hi3:(m:Int)<(k:Int):=by omega
       have hi4:(0:Int)≤(m:Int):=by omega
       have hw:IntKind.i64.wrap ((j:Int)-1)=(m:Int):=by rw [IntKind.wrap_i64];omega
       have E1:=Lib.hid e1;have E2:=Lib.hid e2;have L1:=Lib.hid l1;have L2:=Lib.hid l2;have HM:=Lib.hid hm;have HJ:=Lib.hid hj
       obtain ⟨XL,hXL⟩:∃ XL,x.row.toList=XL:=⟨_,rfl⟩
       obtain ⟨PL,hPL⟩:∃ PL,p.row.toList=PL:=⟨_,rfl⟩
       have hxr:x.row=XL.toArray:=by rw [←hXL,Array.toArray_toList]
       have hpr:p.row=PL.toArray:=by rw [←hPL,Array.toArray_toList]
       have xl:(Tryz.prog.info? 222).map (·.size)=some XL.length:=by rw [←hXL,Array.length_toList];exact x.info
       have pl:(Tryz.prog.info? 222).map (·.size)=some PL.length:=by rw [←hPL,Array.length_toList];exact p.info
       have OX:=Lib.hid (fun v=>by
        have:=OR.out x p v
        rw [hxr,hpr] at this;exact this)
       have HXL:=Lib.hid hXL;have HPL:=Lib.hid hPL;have XR:=Lib.hid hxr;have PR:=Lib.hid hpr
       clear hXL hPL hxr hpr
       clear e1 e2 l1 l2 hm hj hjl hlw hjk
       go_wp2
       refine QC.wp_region_d [14] [0,1,2,3,4,5,6,7,8,9,10,11,12,13,14,15,16] (by kernel_rfl) (by kernel_rfl) (fun u d=>?_)
       have hbu:M.But g wr u:=M.But.ofBelow g (d.below (n:=wr.heap.size))
       have iru:=IRH.out.same (d.below (n:=wr.heap.size))
       have rx:=iru.at_ E1.out
       have rp:=iru.at_ E2.out
       rw [L1.out,HXL.out] at rx
       rw [L2.out,HPL.out] at rp
       have IRU:=Lib.hid iru
       have HBU:=Lib.hid hbu
       clear d hbu iru
       iterate 8
        (first
         | (apply QC.wpC_load
            (focus rfl)
            (focus decide)
            (focus rfl)
            (focus rfl)
            (focus rfl)
            (focus (assumption))
            (focus (intro u hu;go_simp))
            intro K hK
            go_simp
            refine hK _ ?_
            clear hK K)
         | (apply QC.wpC_pure
            (focus rfl)
            (focus decide)
            intro K hK
            go_simp
            first
             | (refine hK _ ?_;clear hK K)
             | (apply Exists.intro
                refine ⟨fun u=>?_,hK _ ?_⟩
                (focus (unfold QP.oat;go_simp;first | done | exact ⟨rfl,rfl⟩ | exact rfl))
                clear hK K)))
       refine QC.wpC_rest (fun u=>u.rangeAt g (j*36) XL) (.agg XL.toArray) rfl (by decide) (by first | rfl | go_simp) rx ?_ ?_
       · intro v hv
         exact QP.oat_load_mid (ty:=222) (x:=.tmp 25) rfl (b:=g) (off:=j*36) (by go_num) (cs:=XL) _ hv Tryz.underlying222 rfl xl rfl
       iterate 4
        (first
         | (apply QC.wpC_load
            (focus rfl)
            (focus decide)
            (focus rfl)
            (focus rfl)
            (focus rfl)
            (focus (assumption))
            (focus (intro u hu;go_simp))
            intro K hK
            go_simp
            refine hK _ ?_
            clear hK K)
         | (apply QC.wpC_pure
            (focus rfl)
            (focus decide)
            intro K hK
            go_simp
            first
             | (refine hK _ ?_;clear hK K)
             | (apply Exists.intro
                refine ⟨fun u=>?_,hK _ ?_⟩
                (focus (unfold QP.oat;go_simp;first | done | exact ⟨rfl,rfl⟩ | exact rfl))
                clear hK K)))
       refine QC.wpC_rest (fun u=>u.rangeAt g (m*36) PL) (.agg PL.toArray) rfl (by decide) (by first | rfl | go_simp) rp ?_ ?_
       · intro v hv
         exact QP.oat_load_mid (ty:=222) (x:=.tmp 30) rfl (b:=g) (off:=m*36) (by go_num) (cs:=PL) _ hv Tryz.underlying222 rfl pl rfl
       apply QC.wpC_eff
       (focus rfl)
       (focus decide)
       go_wp2_with fail
       refine (OX.out _).mono ?_
       rintro e w3 ⟨rfl,g3⟩
       have ir3:=IRU.out.same g3
       have rx3:=ir3.at_ E1.out
       have rp3:=ir3.at_ E2.out
       rw [L1.out,HXL.out] at rx3
       rw [L2.out,HPL.out] at rp3
       have IR3:=Lib.hid ir3
       have B3:=Lib.hid (HBU.out.trans (M.But.ofBelow g g3))
       clear g3 ir3
       go_wp2
       refine QC.eff_ok rfl ?_ ?_
       · (repeat (first | exact QC.obl_nil | refine QC.obl_is (by assumption) ?_ | (apply QC.obl_dep;(focus decide))))
       clear rx rp rx3 rp3
       cases hlx:ltI x p with
       | false=>
         have hd:decide (ordI x p<0)=false:=hlx
         iterate 2
          (first
           | (apply QC.wpC_load
              (focus rfl)
              (focus decide)
              (focus rfl)
              (focus rfl)
              (focus rfl)
              (focus (assumption))
              (focus (intro u hu;go_simp))
              intro K hK
              go_simp
              refine hK _ ?_
              clear hK K)
           | (apply QC.wpC_pure
              (focus rfl)
              (focus decide)
              intro K hK
              go_simp
              first
               | (refine hK _ ?_;clear hK K)
               | (apply Exists.intro
                  refine ⟨fun u=>?_,hK _ ?_⟩
                  (focus (unfold QP.oat;go_simp;first | done | exact ⟨rfl,rfl⟩ | exact rfl))
                  clear hK K)))
         refine QC.wpC_nil ?_
         go_wp2
         go_roundg (b-(q+1))
         case measure=>have:=HGM.out;omega
         case rel=>exact HEND.out (by intro y hy;simp at hy;subst hy;exact hlx) _ B3.out IR3.out
       | true=>
         have hd:decide (ordI x p<0)=true:=hlx
         iterate 2
          (first
           | (apply QC.wpC_load
              (focus rfl)
              (focus decide)
              (focus rfl)
              (focus rfl)
              (focus rfl)
              (focus (assumption))
              (focus (intro u hu;go_simp))
              intro K hK
              go_simp
              refine hK _ ?_
              clear hK K)
           | (apply QC.wpC_pure
              (focus rfl)
              (focus decide)
              intro K hK
              go_simp
              first
               | (refine hK _ ?_;clear hK K)
               | (apply Exists.intro
                  refine ⟨fun u=>?_,hK _ ?_⟩
                  (focus (unfold QP.oat;go_simp;first | done | exact ⟨rfl,rfl⟩ | exact rfl))
                  clear hK K)))
         refine QC.wpC_nil ?_
         go_wp2
         refine QC.wp_region_d [15,17] [0,1,2,3,4,5,6,7,8,9,10,11,12,13,14,15,16,17] (by kernel_rfl) (by kernel_rfl) (fun u2 d=>?_)
         have iru:=IR3.out.same (d.below (n:=w3.heap.size))
         have rx:=iru.at_ E1.out
         have rp:=iru.at_ E2.out
         rw [L1.out,HXL.out] at rx
         rw [L2.out,HPL.out] at rp
         have hbu:=B3.out.trans (M.But.ofBelow g (d.below (n:=w3.heap.size)))
         have th1:=iru.there (i:=j) (by rw [E1.out,← L1.out];simp)
         have irs:=iru.store E1.out p
         rw [L1.out,HPL.out] at irs
         have es:(P++A3++[p])++p::(A2++S3++Q)=(P++A3)++p::(p::(A2++S3++Q)):=by simp
         obtain ⟨V1,hV1⟩:∃ V1,u2.setCells g (j*36) PL=V1:=⟨_,rfl⟩
         rw [hV1] at irs
         have hb1:M.But g wr V1:=by rw [←hV1];exact but_setCells _ _ _ hbu
         have th2:=irs.there (i:=m) (by rw [es,← L2.out];simp)
         have irs2:=irs.store es x
         rw [L2.out,HXL.out] at irs2
         obtain ⟨V2,hV2⟩:∃ V2,V1.setCells g (m*36) XL=V2:=⟨_,rfl⟩
         rw [hV2] at irs2
         have hb2:M.But g wr V2:=by rw [←hV2];exact but_setCells _ _ _ hb1
         have xs:XL.toArray.size=36:=by rw [←XR.out];exact x.size
         have ps:PL.toArray.size=36:=by rw [←PR.out];exact p.size
         have xo:XL.toArray.all (·.oneCell')=true:=by rw [←XR.out];exact x.one
         have po:PL.toArray.all (·.oneCell')=true:=by rw [←PR.out];exact p.one
         have xi:(Tryz.prog.info? 222).map (·.size)=some XL.toArray.size:=by rw [←XR.out];exact x.info
         have pi:(Tryz.prog.info? 222).map (·.size)=some PL.toArray.size:=by rw [←PR.out];exact p.info
         have th1:u2.there g (j*36) PL.toArray.size:=by rw [ps];exact th1
         have th2:V1.there g (m*36) XL.toArray.size:=by rw [xs];exact th2
         have HV1:=Lib.hid hV1;have HV2:=Lib.hid hV2;have IR5:=Lib.hid irs2;have B5:=Lib.hid hb2
         clear d iru hbu irs es hb1 irs2 hb2 hV1 hV2 xs ps
         iterate 9
          (first
           | (apply QC.wpC_load
              (focus rfl)
              (focus decide)
              (focus rfl)
              (focus rfl)
              (focus rfl)
              (focus (assumption))
              (focus (intro u hu;go_simp))
              intro K hK
              go_simp
              refine hK _ ?_
              clear hK K)
           | (apply QC.wpC_pure
              (focus rfl)
              (focus decide)
              intro K hK
              go_simp
              first
               | (refine hK _ ?_;clear hK K)
               | (apply Exists.intro
                  refine ⟨fun u=>?_,hK _ ?_⟩
                  (focus (unfold QP.oat;go_simp;first | done | exact ⟨rfl,rfl⟩ | exact rfl))
                  clear hK K)))
         refine QC.wpC_rest (fun u=>u.rangeAt g (m*36) PL) (.agg PL.toArray) rfl (by decide) (by first | rfl | go_simp) rp ?_ ?_
         · intro v hv
           exact QP.oat_load_mid (ty:=222) (x:=.tmp 45) rfl (b:=g) (off:=m*36) (by go_num) (cs:=PL) _ hv Tryz.underlying222 rfl pl rfl
         iterate 3
          (first
           | (apply QC.wpC_load
              (focus rfl)
              (focus decide)
              (focus rfl)
              (focus rfl)
              (focus rfl)
              (focus (assumption))
              (focus (intro u hu;go_simp))
              intro K hK
              go_simp
              refine hK _ ?_
              clear hK K)
           | (apply QC.wpC_pure
              (focus rfl)
              (focus decide)
              intro K hK
              go_simp
              first
               | (refine hK _ ?_;clear hK K)
               | (apply Exists.intro
                  refine ⟨fun u=>?_,hK _ ?_⟩
                  (focus (unfold QP.oat;go_simp;first | done | exact ⟨rfl,rfl⟩ | exact rfl))
                  clear hK K)))
         refine QC.wpC_rest (fun u=>u.rangeAt g (j*36) XL) (.agg XL.toArray) rfl (by decide) (by first | rfl | go_simp) rx ?_ ?_
         · intro v hv
           exact QP.oat_load_mid (ty:=222) (x:=.tmp 49) rfl (b:=g) (off:=j*36) (by go_num) (cs:=XL) _ hv Tryz.underlying222 rfl xl rfl
         iterate 1
          (first
           | (apply QC.wpC_load
              (focus rfl)
              (focus decide)
              (focus rfl)
              (focus rfl)
              (focus rfl)
              (focus (assumption))
              (focus (intro u hu;go_simp))
              intro K hK
              go_simp
              refine hK _ ?_
              clear hK K)
           | (apply QC.wpC_pure
              (focus rfl)
              (focus decide)
              intro K hK
              go_simp
              first
               | (refine hK _ ?_;clear hK K)
               | (apply Exists.intro
                  refine ⟨fun u=>?_,hK _ ?_⟩
                  (focus (unfold QP.oat;go_simp;first | done | exact ⟨rfl,rfl⟩ | exact rfl))
                  clear hK K)))
         apply QC.wpC_eff
         (focus rfl)
         (focus decide)
         refine wpList_store_mid rfl 222 (.tmp 51) (.tmp 46) rfl g (j*36) PL.toArray rfl rfl th1 pi po ?_
         rw [HV1.out]
         go_wp2
         refine QC.eff_ok rfl ?_ ?_
         · (repeat (first | exact QC.obl_nil | refine QC.obl_is (by assumption) ?_ | (apply QC.obl_dep;(focus decide))))
         iterate 1
          (first
           | (apply QC.wpC_load
              (focus rfl)
              (focus decide)
              (focus rfl)
              (focus rfl)
              (focus rfl)
              (focus (assumption))
              (focus (intro u hu;go_simp))
              intro K hK
              go_simp
              refine hK _ ?_
              clear hK K)
           | (apply QC.wpC_pure
              (focus rfl)
              (focus decide)
              intro K hK
              go_simp
              first
               | (refine hK _ ?_;clear hK K)
               | (apply Exists.intro
                  refine ⟨fun u=>?_,hK _ ?_⟩
                  (focus (unfold QP.oat;go_simp;first | done | exact ⟨rfl,rfl⟩ | exact rfl))
                  clear hK K)))
         apply QC.wpC_eff
         (focus rfl)
         (focus decide)
         refine wpList_store_mid rfl 222 (.tmp 52) (.tmp 50) rfl g (m*36) XL.toArray rfl rfl th2 xi xo ?_
         rw [HV2.out]
         go_wp2
         refine QC.eff_ok rfl ?_ ?_
         · (repeat (first | exact QC.obl_nil | refine QC.obl_is (by assumption) ?_ | (apply QC.obl_dep;(focus decide))))
         refine QC.wpC_nil ?_
         clear rx rp th1 th2
         go_wp2
         go_roundg A3.length
         case measure=>simp
         case rel=>
          refine ⟨A3,p::A2,rfl,by rw [HM.out],by rw [←HAA.out];simp,fun y hy=>?_,by have:=IR5.out;simpa using this,BUTH.out.trans B5.out⟩
          rcases List.mem_cons.1 hy with rfl | hy
          · exact hlx
          · exact HLT.out y hy
  · have hqe:q=b:=by omega
    subst hqe
    have hS2:S2=[]:=by
     have:=hperm.length_eq
     have h1:=HB.out;have h2:=HA.out
     simp at this
     exact List.length_eq_zero_iff.1 (by omega)
    subst hS2
    rw [List.append_nil] at hperm ir
    have IR0:=Lib.hid ir;have BUT0:=Lib.hid but
    clear ir but
    go_wp2
    go_end0
    exact ⟨rfl,S1,hperm,hsort,IR0.out,BUT0.out⟩
end Vw
end Go.Proofs.YtdebnbgjgkbmaaaGreatDoor
namespace Go.Proofs.YtdebnbgjgkbmaaaGreatDoor
namespace Vw
open Go.RowKit
set_option linter.unusedVariables false
set_option maxRecDepth 100000 in
theorem ins_nil (pa:Option Addr) (cap:Nat) (w:World):Calls Tryz.prog 272 #[.slice pa 0 cap,.int .i64 0,.int .i64 0,FV] w fun e w'=>e=.returned (.tuple #[])∧w'=w:=by
 go_enter Tryz.func272,Tryz.ntmps272
 go_wp2
 go_loopg [8] 0 (fun gm i W=>i=.int .i64 1∧W=w)
 case atStart=>exact ⟨by go_num,rfl⟩
 case round=>
  obtain ⟨rfl,rfl⟩:=hrel
  go_wp2
  go_end0
  exact ⟨rfl,rfl⟩
set_option maxRecDepth 100000 in
theorem stable_small (g cap:Nat) (S:List It) (T:List Value) (w:World) (h:IR w g S T) (hS:S≠[]) (hk:S.length<20) :
 Calls Tryz.prog 200 #[.slice (some ⟨g,0,none⟩) S.length cap,.int .i64 (S.length:Nat),FV] w fun e w'=>e=.returned (.tuple #[])∧∃ S',S'.Perm S∧SortedI S'∧IR w' g S' T∧M.But g w w':=by
 have IN:=Lib.hid (by
  have:=ins_any g cap [] S [] T w (by simpa using h) (by simp;omega) hS
  simp only [List.nil_append,List.append_nil,List.length_nil,Nat.zero_add] at this
  exact this)
 obtain ⟨k,hkk⟩:∃ k,S.length=k:=⟨_,rfl⟩
 rw [hkk] at IN hk ⊢
 have d1:decide ((20:Int)≤(k:Int))=false:=by simp;omega
 have d2:decide ((20:Int)<(k:Int))=false:=by simp;omega
 clear h hS hkk
 go_enter Tryz.func200,Tryz.ntmps200
 go_wp2
 go_loopg [7,8] 0 (fun gm i j W=>i=.int .i64 0∧j=.int .i64 20∧W=w)
 case atStart=>exact ⟨rfl,rfl,rfl⟩
 case round=>
  obtain ⟨rfl,rfl,rfl⟩:=hrel
  go_wp2_with fail
  refine (IN.out).mono ?_
  rintro e w1 ⟨rfl,S',h1,h2,h3,h4⟩
  have H3:=Lib.hid h3;have H4:=Lib.hid h4
  clear h3 h4 IN
  go_wp2
  go_loopg [6] 0 (fun gm i W=>i=.int .i64 20∧W=w1)
  case atStart=>exact ⟨rfl,rfl⟩
  case round=>
   obtain ⟨rfl,rfl⟩:=hrel
   go_wp2
   go_end0
   exact ⟨rfl,S',h1,h2,H3.out,H4.out⟩
set_option maxRecDepth 100000 in
theorem stable_nil (pa:Option Addr) (cap:Nat) (w:World):Calls Tryz.prog 200 #[.slice pa 0 cap,.int .i64 0,FV] w fun e w'=>e=.returned (.tuple #[])∧w'=w:=by
 have IN:=Lib.hid (ins_nil pa cap w)
 go_enter Tryz.func200,Tryz.ntmps200
 go_wp2
 go_loopg [7,8] 0 (fun gm i j W=>i=.int .i64 0∧j=.int .i64 20∧W=w)
 case atStart=>exact ⟨rfl,rfl,rfl⟩
 case round=>
  obtain ⟨rfl,rfl,rfl⟩:=hrel
  go_wp2_with fail
  refine (IN.out).mono ?_
  rintro e w1 ⟨rfl,rfl⟩
  go_wp2
  go_loopg [6] 0 (fun gm i W=>i=.int .i64 20∧W=w1)
  case atStart=>exact ⟨rfl,rfl⟩
  case round=>
   obtain ⟨rfl,rfl⟩:=hrel
   go_wp2
   go_end0
   exact ⟨rfl,rfl⟩
theorem sort_nil (pa:Option Addr) (cap:Nat) (w:World):Calls Tryz.prog 122 #[.slice pa 0 cap,FV] w fun e w'=>e=.returned (.tuple #[])∧w'=w:=by
 have ST:=Lib.hid (stable_nil pa cap w)
 go_enter Tryz.func122,Tryz.ntmps122
 go_wp2_with fail
 refine (ST.out).mono ?_
 rintro e w1 ⟨rfl,rfl⟩
 go_wp2
 go_end0
 exact ⟨rfl,rfl⟩
theorem sort_small (g cap:Nat) (S:List It) (T:List Value) (w:World) (h:IR w g S T) (hS:S≠[]) (hk:S.length<20) :
 Calls Tryz.prog 122 #[.slice (some ⟨g,0,none⟩) S.length cap,FV] w fun e w'=>e=.returned (.tuple #[])∧∃ S',S'.Perm S∧SortedI S'∧IR w' g S' T∧M.But g w w':=by
 have ST:=Lib.hid (stable_small g cap S T w h hS hk)
 clear h hS hk
 generalize S.length=k at *
 go_enter Tryz.func122,Tryz.ntmps122
 go_wp2_with fail
 refine (ST.out).mono ?_
 rintro e w1 ⟨rfl,S',h1,h2,h3,h4⟩
 have H3:=Lib.hid h3;have H4:=Lib.hid h4
 clear h3 h4
 go_wp2
 go_end0
 exact ⟨rfl,S',h1,h2,H3.out,H4.out⟩
end Vw
end Go.Proofs.YtdebnbgjgkbmaaaGreatDoor
namespace Go.Proofs.YtdebnbgjgkbmaaaGreatDoor
namespace Vw
open Go.RowKit
set_option linter.unusedVariables false
theorem split2 {L:List It} {i j:Nat} (hij:i<j) (hj:j<L.length):∃ A x B y C,L=A++x::(B++y::C)∧A.length=i∧(A++x::B).length=j:=by
 refine ⟨L.take i,L[i]'(by omega),(L.drop (i+1)).take (j-(i+1)),L[j],L.drop (j+1),?_,by simp;omega,by simp;omega⟩
 have h1:L=L.take i++L.drop i:=(List.take_append_drop i L).symm
 have h2:L.drop i=L[i]'(by omega)::L.drop (i+1):=List.drop_eq_getElem_cons (by omega)
 have h3:L.drop (i+1)=(L.drop (i+1)).take (j-(i+1))++(L.drop (i+1)).drop (j-(i+1)):=(List.take_append_drop _ _).symm
 have h4:(L.drop (i+1)).drop (j-(i+1))=L[j]::L.drop (j+1):=by
  rw [List.drop_drop,show i+1+(j-(i+1))=j by omega]
  exact List.drop_eq_getElem_cons hj
 rw [←h4,← h3,← h2,← h1]
theorem perm_swap2 {A B C:List It} {x y:It}:(A++y::(B++x::C)).Perm (A++x::(B++y::C)):=by
 refine List.Perm.append_left A ?_
 have h1:(y::(B++x::C)).Perm (y::x::(B++C)):=List.Perm.cons y List.perm_middle
 have h2:(x::(B++y::C)).Perm (x::y::(B++C)):=List.Perm.cons x List.perm_middle
 exact h1.trans ((List.Perm.swap x y _).trans h2.symm)
structure Sw (v:World) (g i j:Nat) (S:List It) (T:List Value) (XL YL:List Value):Prop where
 rx:v.rangeAt g (i*36) XL
 ry:v.rangeAt g (j*36) YL
 tx:v.there g (i*36) XL.toArray.size
 ty:v.there g (j*36) YL.toArray.size
 ix:(Tryz.prog.info? 222).map (·.size)=some XL.toArray.size
 iy:(Tryz.prog.info? 222).map (·.size)=some YL.toArray.size
 ox:XL.toArray.all (·.oneCell')=true
 oy:YL.toArray.all (·.oneCell')=true
 up:(v.setCells g (i*36) YL).there g (j*36) XL.toArray.size
 dn:(v.setCells g (j*36) XL).there g (i*36) YL.toArray.size
 ixl:(Tryz.prog.info? 222).map (·.size)=some XL.length
 iyl:(Tryz.prog.info? 222).map (·.size)=some YL.length
 tx':v.there g (i*36) YL.toArray.size
 ty':v.there g (j*36) XL.toArray.size
 ex:∃ S',S'.Perm S∧(∀ n w,M.But g w v→w.heap.size=n→(IR ((v.setCells g (i*36) YL).setCells g (j*36) XL) g S' T∧M.But g w ((v.setCells g (i*36) YL).setCells g (j*36) XL))∧(IR ((v.setCells g (j*36) XL).setCells g (i*36) YL) g S' T∧M.But g w ((v.setCells g (j*36) XL).setCells g (i*36) YL)))
theorem sw_of {v:World} {g i j:Nat} {S:List It} {T:List Value} (h:IR v g S T) (hij:i<j) (hj:j<S.length):∃ x y:It,Sw v g i j S T x.row.toList y.row.toList:=by
 obtain ⟨A,x,B,y,C,e,l1,l2⟩:=split2 hij hj
 have e2:S=(A++x::B)++y::C:=by rw [e];simp
 have rx:=h.at_ e
 have ry:=h.at_ e2
 rw [l1] at rx
 rw [l2] at ry
 have z:∀ u:It,u.row.toList.toArray.size=36:=fun u=>by rw [Array.toArray_toList];exact u.size
 have tx:=h.there (i:=i) (by omega)
 have ty:=h.there (i:=j) hj
 have s1:=h.store e y
 have s1':=h.store e2 x
 rw [l1] at s1
 rw [l2] at s1'
 have f1:A++y::(B++y::C)=(A++y::B)++y::C:=by simp
 have f2:(A++x::B)++x::C=A++x::(B++x::C):=by simp
 have up:=s1.there (i:=j) (by rw [f1];simp;simp at l2;omega)
 have dn:=s1'.there (i:=i) (by rw [f2];simp;omega)
 have s2:=s1.store f1 x
 have s2':=s1'.store f2 y
 rw [show (A++y::B).length=j by simp at l2 ⊢;omega] at s2
 rw [l1] at s2'
 have f3:(A++y::B)++x::C=A++y::(B++x::C):=by simp
 rw [f3] at s2
 refine ⟨x,y,rx,ry,by rw [z];exact tx,by rw [z];exact ty,by rw [Array.toArray_toList];exact x.info,by rw [Array.toArray_toList];exact y.info,by rw [Array.toArray_toList];exact x.one,by rw [Array.toArray_toList];exact y.one,by rw [z];exact up,by rw [z];exact dn,by rw [Array.length_toList];exact x.info,by rw [Array.length_toList];exact y.info,by rw [z];exact tx,by rw [z];exact ty,
  A++y::(B++x::C),by rw [e];exact perm_swap2,fun n w hb hn=>⟨⟨s2,but_setCells _ _ _ (but_setCells _ _ _ hb)⟩,s2',but_setCells _ _ _ (but_setCells _ _ _ hb)⟩⟩
set_option maxRecDepth 100000 in
set_option maxHeartbeats 8000000 in
theorem swap_any (g cap a b n k:Nat) (S:List It) (T:List Value) (w:World) (h:IR w g S T) (hS:S.length=k) (h1:a+n≤b) (h2:b+n≤k) (hk2:k≤1000) :
 Calls Tryz.prog 324 #[.slice (some ⟨g,0,none⟩) k cap,.int .i64 (a:Nat),.int .i64 (b:Nat),.int .i64 (n:Nat),FV] w fun e w'=>e=.returned (.tuple #[])∧∃ S',S'.Perm S∧IR w' g S' T∧M.But g w w':=by
 have H:=Lib.hid h;have HS:=Lib.hid hS
 clear h hS
 go_enter Tryz.func324,Tryz.ntmps324
 go_wp2
 go_loopg [10] n (fun gm i W=>∃ (q:Nat) (S1:List It),gm+q=n∧q≤n∧i=.int .i64 q∧S1.Perm S∧IR W g S1 T∧M.But g w W)
 case atStart=>exact ⟨0,S,by omega,by omega,rfl,List.Perm.refl _,H.out,M.But.refl g w⟩
 case round=>
  obtain ⟨q,S1,hgm,hqn,rfl,hp,ir,but⟩:=hrel
  by_cases hq:q<n
  · obtain ⟨i,hi⟩:∃ i,a+q=i:=⟨_,rfl⟩
    obtain ⟨j,hj⟩:∃ j,b+q=j:=⟨_,rfl⟩
    have hlS:=hp.length_eq
    rw [HS.out] at hlS
    have hw1:IntKind.i64.wrap ((a:Int)+(q:Int))=(i:Int):=by rw [IntKind.wrap_i64];omega
    have hw2:IntKind.i64.wrap ((b:Int)+(q:Int))=(j:Int):=by rw [IntKind.wrap_i64];omega
    have hi1:(j:Int)<(k:Int):=by omega
    have hi2:(0:Int)≤(j:Int):=by omega
    have hi3:(i:Int)<(k:Int):=by omega
    have hi4:(0:Int)≤(i:Int):=by omega
    have d1:decide ((q:Int)<(n:Int))=true:=by simp;omega
    have HP:=Lib.hid hp;have IRH:=Lib.hid ir;have BUTH:=Lib.hid but
    have HL:=Lib.hid (show i<j∧j<S1.length by omega)
    have HGM:=Lib.hid (show n-(q+1)+(q+1)=n by omega)
    have HME:=Lib.hid (show n-(q+1)<gk by omega)
    clear hp ir but hlS hi hj hgm
    go_wp2
    refine QC.wp_region_d [21,23] [0,1,2,3,4,5,6,7,8,9,10,11,12,13,14,15,16,17,18,19,20,21,22,23] (by kernel_rfl) (by kernel_rfl) (fun u d=>?_)
    have iru:=IRH.out.same (d.below (n:=wr.heap.size))
    have hbu:=BUTH.out.trans (M.But.ofBelow g (d.below (n:=wr.heap.size)))
    obtain ⟨x,y,sw⟩:=sw_of iru HL.out.1 HL.out.2
    obtain ⟨XL,hXL⟩:∃ XL,x.row.toList=XL:=⟨_,rfl⟩
    obtain ⟨YL,hYL⟩:∃ YL,y.row.toList=YL:=⟨_,rfl⟩
    rw [hXL,hYL] at sw
    obtain ⟨V1,hV1⟩:∃ V1,u.setCells g (i*36) YL=V1:=⟨_,rfl⟩
    obtain ⟨V2,hV2⟩:∃ V2,V1.setCells g (j*36) XL=V2:=⟨_,rfl⟩
    have th2:=sw.up
    rw [hV1] at th2
    obtain ⟨S',hp',hq'⟩:=sw.ex
    have hq':=(hq' _ _ hbu rfl).1
    rw [hV1,hV2] at hq'
    have HV1:=Lib.hid hV1;have HV2:=Lib.hid hV2;have HQ:=Lib.hid hq';have HP2:=Lib.hid (hp'.trans HP.out)
    have rx:=sw.rx;have ry:=sw.ry;have xi:=sw.ix;have yi:=sw.iy;have xo:=sw.ox;have yo:=sw.oy;have xl:=sw.ixl;have yl:=sw.iyl;have th1:=sw.tx'
    clear sw d iru hbu hV1 hV2 hq' hp' hXL hYL
    iterate 13
     (first
      | (apply QC.wpC_load
         (focus rfl)
         (focus decide)
         (focus rfl)
         (focus rfl)
         (focus rfl)
         (focus (assumption))
         (focus (intro u hu;go_simp))
         intro K hK
         go_simp
         refine hK _ ?_
         clear hK K)
      | (apply QC.wpC_pure
         (focus rfl)
         (focus decide)
         intro K hK
         go_simp
         first
          | (refine hK _ ?_;clear hK K)
          | (apply Exists.intro
             refine ⟨fun u=>?_,hK _ ?_⟩
             (focus (unfold QP.oat;go_simp;first | done | exact ⟨rfl,rfl⟩ | exact rfl))
             clear hK K)))
    refine QC.wpC_rest (fun u=>u.rangeAt g (j*36) YL) (.agg YL.toArray) rfl (by decide) (by first | rfl | go_simp) ry ?_ ?_
    · intro v hv
      exact QP.oat_load_mid (ty:=222) (x:=.tmp 28) rfl (b:=g) (off:=j*36) (by go_num) (cs:=YL) _ hv Tryz.underlying222 rfl yl rfl
    iterate 5
     (first
      | (apply QC.wpC_load
         (focus rfl)
         (focus decide)
         (focus rfl)
         (focus rfl)
         (focus rfl)
         (focus (assumption))
         (focus (intro u hu;go_simp))
         intro K hK
         go_simp
         refine hK _ ?_
         clear hK K)
      | (apply QC.wpC_pure
         (focus rfl)
         (focus decide)
         intro K hK
         go_simp
         first
          | (refine hK _ ?_;clear hK K)
          | (apply Exists.intro
             refine ⟨fun u=>?_,hK _ ?_⟩
             (focus (unfold QP.oat;go_simp;first | done | exact ⟨rfl,rfl⟩ | exact rfl))
             clear hK K)))
    refine QC.wpC_rest (fun u=>u.rangeAt g (i*36) XL) (.agg XL.toArray) rfl (by decide) (by first | rfl | go_simp) rx ?_ ?_
    · intro v hv
      exact QP.oat_load_mid (ty:=222) (x:=.tmp 34) rfl (b:=g) (off:=i*36) (by go_num) (cs:=XL) _ hv Tryz.underlying222 rfl xl rfl
    iterate 1
     (first
      | (apply QC.wpC_load
         (focus rfl)
         (focus decide)
         (focus rfl)
         (focus rfl)
         (focus rfl)
         (focus (assumption))
         (focus (intro u hu;go_simp))
         intro K hK
         go_simp
         refine hK _ ?_
         clear hK K)
      | (apply QC.wpC_pure
         (focus rfl)
         (focus decide)
         intro K hK
         go_simp
         first
          | (refine hK _ ?_;clear hK K)
          | (apply Exists.intro
             refine ⟨fun u=>?_,hK _ ?_⟩
             (focus (unfold QP.oat;go_simp;first | done | exact ⟨rfl,rfl⟩ | exact rfl))
             clear hK K)))
    apply QC.wpC_eff
    (focus rfl)
    (focus decide)
    refine wpList_store_mid rfl 222 (.tmp 36) (.tmp 29) rfl g (i*36) YL.toArray rfl rfl th1 yi yo ?_
    rw [HV1.out]
    go_wp2
    refine QC.eff_ok rfl ?_ ?_
    · (repeat (first | exact QC.obl_nil | refine QC.obl_is (by assumption) ?_ | (apply QC.obl_dep;(focus decide))))
    iterate 1
     (first
      | (apply QC.wpC_load
         (focus rfl)
         (focus decide)
         (focus rfl)
         (focus rfl)
         (focus rfl)
         (focus (assumption))
         (focus (intro u hu;go_simp))
         intro K hK
         go_simp
         refine hK _ ?_
         clear hK K)
      | (apply QC.wpC_pure
         (focus rfl)
         (focus decide)
         intro K hK
         go_simp
         first
          | (refine hK _ ?_;clear hK K)
          | (apply Exists.intro
             refine ⟨fun u=>?_,hK _ ?_⟩
             (focus (unfold QP.oat;go_simp;first | done | exact ⟨rfl,rfl⟩ | exact rfl))
             clear hK K)))
    apply QC.wpC_eff
    (focus rfl)
    (focus decide)
    refine wpList_store_mid rfl 222 (.tmp 37) (.tmp 35) rfl g (j*36) XL.toArray rfl rfl th2 xi xo ?_
    rw [HV2.out]
    go_wp2
    refine QC.eff_ok rfl ?_ ?_
    · (repeat (first | exact QC.obl_nil | refine QC.obl_is (by assumption) ?_ | (apply QC.obl_dep;(focus decide))))
    refine QC.wpC_nil ?_
    clear rx ry th1 th2
    go_wp2
    go_roundg (n-(q+1))
    case measure=>exact HME.out
    case rel=>exact ⟨q+1,S',HGM.out,by omega,by go_num,HP2.out,HQ.out.1,HQ.out.2⟩
  · have hqe:q=n:=by omega
    subst hqe
    have d1:decide ((q:Int)<(q:Int))=false:=by simp
    have HP:=Lib.hid hp;have IRH:=Lib.hid ir;have BUTH:=Lib.hid but
    clear hp ir but
    go_wp2
    go_end0
    exact ⟨rfl,S1,HP.out,IRH.out,BUTH.out⟩
set_option maxRecDepth 100000 in
set_option maxHeartbeats 8000000 in
theorem rot_any (g cap a m b k:Nat) (S:List It) (T:List Value) (w:World) (h:IR w g S T) (hS:S.length=k) (h1:a<m) (h2:m<b) (h3:b≤k) (hk2:k≤1000) :
 Calls Tryz.prog 307 #[.slice (some ⟨g,0,none⟩) k cap,.int .i64 (a:Nat),.int .i64 (m:Nat),.int .i64 (b:Nat),FV] w fun e w'=>e=.returned (.tuple #[])∧∃ S',S'.Perm S∧IR w' g S' T∧M.But g w w':=by
 have H:=Lib.hid h;have HS:=Lib.hid hS
 have SW:=Lib.hid (fun (S1:List It) (hl:S1.length=k) (a b n:Nat) (h1:a+n≤b) (h2:b+n≤k) v hv=>swap_any g cap a b n k S1 T v hv hl h1 h2 hk2)
 obtain ⟨i0,hi0⟩:∃ i0,i0+a=m:=⟨m-a,by omega⟩
 obtain ⟨j0,hj0⟩:∃ j0,j0+m=b:=⟨b-m,by omega⟩
 have hw1:IntKind.i64.wrap ((m:Int)-(a:Int))=(i0:Int):=by rw [IntKind.wrap_i64];omega
 have hw2:IntKind.i64.wrap ((b:Int)-(m:Int))=(j0:Int):=by rw [IntKind.wrap_i64];omega
 have HB:=Lib.hid (show 0<i0∧0<j0∧i0≤m∧m+j0≤k by omega)
 clear h hS hi0 hj0
 go_enter Tryz.func307,Tryz.ntmps307
 go_wp2
 go_loopg [10,11] (i0+j0) (fun gm x y W=>∃ (i j:Nat) (S1:List It),gm=i+j∧0<i∧0<j∧i≤m∧m+j≤k∧x=.int .i64 i∧y=.int .i64 j∧S1.Perm S∧IR W g S1 T∧M.But g w W)
 case atStart=>exact ⟨i0,j0,S,rfl,HB.out.1,HB.out.2.1,HB.out.2.2.1,HB.out.2.2.2,rfl,rfl,List.Perm.refl _,H.out,M.But.refl g w⟩
 case round=>
  clear hw1 hw2 HB
  obtain ⟨i,j,S1,hgm,hi0,hj0,him,hjk,rfl,rfl,hp,ir,but⟩:=hrel
  have hlS:=hp.length_eq
  rw [HS.out] at hlS
  obtain ⟨p,hpm⟩:∃ p,p+i=m:=⟨m-i,by omega⟩
  have hwi:IntKind.i64.wrap ((m:Int)-(i:Int))=(p:Int):=by rw [IntKind.wrap_i64];omega
  have HL:=Lib.hid hlS;have HP:=Lib.hid hp;have IRH:=Lib.hid ir;have BUTH:=Lib.hid but;have HGM:=Lib.hid hgm
  have HLE:=Lib.hid (show i≤m∧m+j≤k∧0<i∧0<j∧p+i=m∧m≤1000∧m+j≤1000 by omega)
  clear hlS hp ir but hgm hpm him hjk hi0 hj0 h1 h2 h3 hk2
  rcases Nat.lt_trichotomy i j with hlt | heq | hlt
  · obtain ⟨r,hr⟩:∃ r,r+i=j:=⟨j-i,by omega⟩
    obtain ⟨q,hq⟩:∃ q,q=m+j:=⟨_,rfl⟩
    obtain ⟨t,ht⟩:∃ t,t=m+r:=⟨_,rfl⟩
    have hl2:=HLE.out
    have d1:((i:Int) != (j:Int))=true:=by simp;omega
    have d2:decide (j<i)=false:=by simp;omega
    have d3:¬ (j<i):=by omega
    have d4:¬ (i=j):=by omega
    have hwj:IntKind.i64.wrap ((m:Int)+(j:Int))=(q:Int):=by rw [IntKind.wrap_i64];omega
    have hwj2:IntKind.i64.wrap ((q:Int)-(i:Int))=(t:Int):=by rw [IntKind.wrap_i64];omega
    have hwji:IntKind.i64.wrap ((j:Int)-(i:Int))=(r:Int):=by rw [IntKind.wrap_i64];omega
    have C:=Lib.hid (SW.out S1 HL.out p t i (by omega) (by omega) wr IRH.out)
    have HN:=Lib.hid (show i+r<gk∧0<r∧m+r≤k by have:=HGM.out;omega)
    clear hl2 hr hq ht
    go_wp2_with fail
    refine (C.out).mono ?_
    rintro e w1 ⟨rfl,S',p1,p2,p3⟩
    have P2:=Lib.hid p2;have P3:=Lib.hid p3
    clear p2 p3
    go_wp2
    go_roundg (i+r)
    case measure=>exact HN.out.1
    case rel=>exact ⟨i,r,S',rfl,HLE.out.2.2.1,HN.out.2.1,HLE.out.1,HN.out.2.2,rfl,rfl,p1.trans HP.out,P2.out,BUTH.out.trans P3.out⟩
  · subst heq
    have hl2:=HLE.out
    have d1:((i:Int) != (i:Int))=false:=by simp
    have C:=Lib.hid (SW.out S1 HL.out p m i (by omega) (by omega) wr IRH.out)
    clear hl2
    go_wp2_with fail
    refine (C.out).mono ?_
    rintro e w1 ⟨rfl,S',p1,p2,p3⟩
    have P2:=Lib.hid p2;have P3:=Lib.hid p3
    clear p2 p3
    go_wp2
    go_end0
    exact ⟨rfl,S',p1.trans HP.out,P2.out,BUTH.out.trans P3.out⟩
  · obtain ⟨r,hr⟩:∃ r,r+j=i:=⟨i-j,by omega⟩
    have hl2:=HLE.out
    have d1:((i:Int) != (j:Int))=true:=by simp;omega
    have d2:decide (j<i)=true:=by simp;omega
    have d3:j<i:=hlt
    have d4:¬ (i=j):=by omega
    have hwij:IntKind.i64.wrap ((i:Int)-(j:Int))=(r:Int):=by rw [IntKind.wrap_i64];omega
    have C:=Lib.hid (SW.out S1 HL.out p m j (by omega) (by omega) wr IRH.out)
    have HN:=Lib.hid (show r+j<gk∧0<r∧r≤m by have:=HGM.out;omega)
    clear hl2 hr
    go_wp2_with fail
    refine (C.out).mono ?_
    rintro e w1 ⟨rfl,S',p1,p2,p3⟩
    have P2:=Lib.hid p2;have P3:=Lib.hid p3
    clear p2 p3
    go_wp2
    go_roundg (r+j)
    case measure=>exact HN.out.1
    case rel=>exact ⟨r,j,S',rfl,HN.out.2.1,HLE.out.2.2.2.1,HN.out.2.2,HLE.out.2.1,rfl,rfl,p1.trans HP.out,P2.out,BUTH.out.trans P3.out⟩
end Vw
end Go.Proofs.YtdebnbgjgkbmaaaGreatDoor
namespace Go.Proofs.YtdebnbgjgkbmaaaGreatDoor
namespace Vw
open Go.RowKit
set_option linter.unusedVariables false
structure Cp (v:World) (g i j:Nat) (XL YL:List Value):Prop where
 rx:v.rangeAt g (i*36) XL
 ry:v.rangeAt g (j*36) YL
 xl:(Tryz.prog.info? 222).map (·.size)=some XL.length
 yl:(Tryz.prog.info? 222).map (·.size)=some YL.length
 c:∀ u,Calls Tryz.prog 123 #[.agg XL.toArray,.agg YL.toArray] u fun e u'=>(∃ z:Int,e=.returned (.int .i64 z))∧Below u.heap.size u u'
theorem IR.at_i {v:World} {g i:Nat} {L:List It} {T:List Value} (h:IR v g L T) (hi:i<L.length):v.rangeAt g (i*36) (L[i]).row.toList:=by
 have e:L=L.take i++L[i]::L.drop (i+1):=by rw [←List.drop_eq_getElem_cons hi,List.take_append_drop]
 have:=h.at_ e
 rwa [show (L.take i).length=i by simp;omega] at this
theorem cp_of {v:World} {g i j:Nat} {S:List It} {T:List Value} (h:IR v g S T) (hi:i<S.length) (hj:j<S.length):∃ XL YL,Cp v g i j XL YL:=by
 have r1:=h.at_i hi
 have r2:=h.at_i hj
 obtain ⟨x,hx⟩:∃ x,S[i]=x:=⟨_,rfl⟩
 obtain ⟨y,hy⟩:∃ y,S[j]=y:=⟨_,rfl⟩
 rw [hx] at r1
 rw [hy] at r2
 have c:=fun u=>order_any x y u
 have ix:=x.info
 have iy:=y.info
 obtain ⟨XL,hXL⟩:∃ XL,x.row.toList=XL:=⟨_,rfl⟩
 obtain ⟨YL,hYL⟩:∃ YL,y.row.toList=YL:=⟨_,rfl⟩
 have hxr:x.row=XL.toArray:=by rw [←hXL,Array.toArray_toList]
 have hyr:y.row=YL.toArray:=by rw [←hYL,Array.toArray_toList]
 have c:∀ u,Calls Tryz.prog 123 #[.agg XL.toArray,.agg YL.toArray] u fun e w'=>e=.returned (.int .i64 (ordI x y))∧Below u.heap.size u w':=fun u=>by
  have:=c u
  rw [hxr,hyr] at this;exact this
 rw [hxr] at ix
 rw [hyr] at iy
 rw [hXL] at r1
 rw [hYL] at r2
 generalize ordI x y=z at c
 exact ⟨XL,YL,r1,r2,ix,iy,fun u=>(c u).mono fun e u' hh=>⟨⟨z,hh.1⟩,hh.2⟩⟩
theorem half_i {i j h:Nat} (hh:(i+j)/2=h) (hb:i+j<100000):IntKind.i64.wrap ((i:Int)+(j:Int))=(i:Int)+(j:Int)∧IntKind.u64.wrap ((i:Int)+(j:Int))=(i:Int)+(j:Int)∧((i:Int)+(j:Int))/2=(h:Int)∧IntKind.u64.wrap (h:Int)=(h:Int)∧IntKind.i64.wrap (h:Int)=(h:Int):=by
 refine ⟨?_,?_,?_,?_,?_⟩
 · rw [IntKind.wrap_i64];omega
 · rw [IntKind.wrap_u64];omega
 · omega
 · rw [IntKind.wrap_u64];omega
 · rw [IntKind.wrap_i64];omega
set_option maxRecDepth 100000 in
set_option maxHeartbeats 16000000 in
theorem sm_one (g cap a m b k:Nat) (S:List It) (T:List Value) (w:World) (h:IR w g S T) (hS:S.length=k) (h1:m=a+1) (h2:m<b) (h3:b≤k) (hk2:k≤1000) :
 Calls Tryz.prog 273 #[.slice (some ⟨g,0,none⟩) k cap,.int .i64 (a:Nat),.int .i64 (m:Nat),.int .i64 (b:Nat),FV] w fun e w'=>e=.returned (.tuple #[])∧∃ S',S'.Perm S∧IR w' g S' T∧M.But g w w':=by
 have H:=Lib.hid h;have HS:=Lib.hid hS
 have hw1:IntKind.i64.wrap ((m:Int)-(a:Int))=1:=by rw [IntKind.wrap_i64];omega
 have hak1:(a:Int)<(k:Int):=by omega
 have hak2:(0:Int)≤(a:Int):=by omega
 have HB:=Lib.hid (show m=a+1∧m<b∧b≤k∧k≤1000 from ⟨h1,h2,h3,hk2⟩)
 clear h hS h1
 go_enter Tryz.func273,Tryz.ntmps273
 go_wp2
 go_loopg [10,11] (b-m) (fun gm x y W=>∃ (i j:Nat),gm=j-i∧m≤i∧i≤j∧j≤b∧x=.int .i64 i∧y=.int .i64 j∧IR W g S T∧M.But g w W)
 case atStart=>exact ⟨m,b,rfl,Nat.le_refl _,by omega,Nat.le_refl _,rfl,rfl,H.out,M.But.refl g w⟩
 case round=>
  obtain ⟨i,j,hgm,hmi,hij,hjb,rfl,rfl,ir,but⟩:=hrel
  have IRH:=Lib.hid ir;have BUTH:=Lib.hid but;have HGM:=Lib.hid hgm
  clear ir but hgm
  have HMI:=Lib.hid hmi;have HJB:=Lib.hid hjb
  by_cases hlt:i<j
  · have d1:decide ((i:Int)<(j:Int))=true:=by simp;omega
    have d1n:decide (i<j)=true:=by simp;omega
    have d1p:i<j:=by omega
    obtain ⟨h,hh⟩:∃ h,(i+j)/2=h:=⟨_,rfl⟩
    obtain ⟨e1,e2,e3,e4,e5⟩:=half_i hh (by omega)
    have hx1:(h:Int)<(k:Int):=by omega
    have hx2:(0:Int)≤(h:Int):=by omega
    have hlh:i≤h∧h<j:=by omega
    have HH:=Lib.hid hlh
    clear hh
    have HLI:=Lib.hid (show h<S.length∧a<S.length by have:=HB.out;have h5:=HS.out;have h6:=HMI.out;omega)
    clear hmi hjb hij hlh
    go_wp2
    refine QC.wp_region_d [9] [0,1,2,3,4,5,6,7,8,9,10] (by kernel_rfl) (by kernel_rfl) (fun u d=>?_)
    have iru:=IRH.out.same (d.below (n:=wr.heap.size))
    have hbu:=BUTH.out.trans (M.But.ofBelow g (d.below (n:=wr.heap.size)))
    obtain ⟨XL,YL,cp⟩:=cp_of iru HLI.out.1 HLI.out.2
    have IRU:=Lib.hid iru;have HBU:=Lib.hid hbu
    have rx:=cp.rx;have ry:=cp.ry;have xl:=cp.xl;have yl:=cp.yl;have OX:=Lib.hid cp.c
    clear cp d iru hbu
    iterate 4
     (first
      | (apply QC.wpC_load
         (focus rfl)
         (focus decide)
         (focus rfl)
         (focus rfl)
         (focus rfl)
         (focus (assumption))
         (focus (intro u hu;go_simp))
         intro K hK
         go_simp
         refine hK _ ?_
         clear hK K)
      | (apply QC.wpC_pure
         (focus rfl)
         (focus decide)
         intro K hK
         go_simp
         first
          | (refine hK _ ?_;clear hK K)
          | (apply Exists.intro
             refine ⟨fun u=>?_,hK _ ?_⟩
             (focus (unfold QP.oat;go_simp;first | done | exact ⟨rfl,rfl⟩ | exact rfl))
             clear hK K)))
    refine QC.wpC_rest (fun u=>u.rangeAt g (h*36) XL) (.agg XL.toArray) rfl (by decide) (by first | rfl | go_simp) rx ?_ ?_
    · intro v hv
      exact QP.oat_load_mid (ty:=222) (x:=.tmp 43) rfl (b:=g) (off:=h*36) (by go_num) (cs:=XL) _ hv Tryz.underlying222 rfl xl rfl
    iterate 3
     (first
      | (apply QC.wpC_load
         (focus rfl)
         (focus decide)
         (focus rfl)
         (focus rfl)
         (focus rfl)
         (focus (assumption))
         (focus (intro u hu;go_simp))
         intro K hK
         go_simp
         refine hK _ ?_
         clear hK K)
      | (apply QC.wpC_pure
         (focus rfl)
         (focus decide)
         intro K hK
         go_simp
         first
          | (refine hK _ ?_;clear hK K)
          | (apply Exists.intro
             refine ⟨fun u=>?_,hK _ ?_⟩
             (focus (unfold QP.oat;go_simp;first | done | exact ⟨rfl,rfl⟩ | exact rfl))
             clear hK K)))
    refine QC.wpC_rest (fun u=>u.rangeAt g (a*36) YL) (.agg YL.toArray) rfl (by decide) (by first | rfl | go_simp) ry ?_ ?_
    · intro v hv
      exact QP.oat_load_mid (ty:=222) (x:=.tmp 47) rfl (b:=g) (off:=a*36) (by go_num) (cs:=YL) _ hv Tryz.underlying222 rfl yl rfl
    apply QC.wpC_eff
    (focus rfl)
    (focus decide)
    go_wp2_with fail
    refine (OX.out _).mono ?_
    rintro e w3 ⟨⟨z,rfl⟩,g3⟩
    have IR3:=Lib.hid (IRU.out.same g3)
    have B3:=Lib.hid (HBU.out.trans (M.But.ofBelow g g3))
    have hm3:True:=trivial
    clear g3 rx ry
    go_wp2
    refine QC.eff_ok rfl ?_ ?_
    · (repeat (first | exact QC.obl_nil | refine QC.obl_is (by assumption) ?_ | (apply QC.obl_dep;(focus decide))))
    cases hz:decide (z<0) with
    | false=>
      iterate 1
       (first
        | (apply QC.wpC_load
           (focus rfl)
           (focus decide)
           (focus rfl)
           (focus rfl)
           (focus rfl)
           (focus (assumption))
           (focus (intro u hu;go_simp))
           intro K hK
           go_simp
           refine hK _ ?_
           clear hK K)
        | (apply QC.wpC_pure
           (focus rfl)
           (focus decide)
           intro K hK
           go_simp
           first
            | (refine hK _ ?_;clear hK K)
            | (apply Exists.intro
               refine ⟨fun u=>?_,hK _ ?_⟩
               (focus (unfold QP.oat;go_simp;first | done | exact ⟨rfl,rfl⟩ | exact rfl))
               clear hK K)))
      refine QC.wpC_nil ?_
      go_wp2
      go_roundg (h-i)
      case measure=>have h1:=HGM.out;have h2:=HH.out;omega
      case rel=>exact ⟨i,h,rfl,HMI.out,HH.out.1,by have h1:=HJB.out;have h2:=HH.out;omega,rfl,rfl,IR3.out,B3.out⟩
    | true=>
      iterate 1
       (first
        | (apply QC.wpC_load
           (focus rfl)
           (focus decide)
           (focus rfl)
           (focus rfl)
           (focus rfl)
           (focus (assumption))
           (focus (intro u hu;go_simp))
           intro K hK
           go_simp
           refine hK _ ?_
           clear hK K)
        | (apply QC.wpC_pure
           (focus rfl)
           (focus decide)
           intro K hK
           go_simp
           first
            | (refine hK _ ?_;clear hK K)
            | (apply Exists.intro
               refine ⟨fun u=>?_,hK _ ?_⟩
               (focus (unfold QP.oat;go_simp;first | done | exact ⟨rfl,rfl⟩ | exact rfl))
               clear hK K)))
      refine QC.wpC_nil ?_
      go_wp2
      go_roundg (j-(h+1))
      case measure=>have h1:=HGM.out;have h2:=HH.out;omega
      case rel=>exact ⟨h+1,j,rfl,by have h1:=HMI.out;have h2:=HH.out;omega,HH.out.2,HJB.out,by go_num,rfl,IR3.out,B3.out⟩
  · have hije:i=j:=by omega
    subst hije
    have d1:decide ((i:Int)<(i:Int))=false:=by simp
    clear hlt hij hjb
    have hwi:IntKind.i64.wrap ((i:Int)-1)=((i-1:Nat):Int):=by rw [IntKind.wrap_i64];have:=HB.out;have:=HJB.out;have:=HMI.out;omega
    obtain ⟨e,he⟩:∃ e,i-1=e:=⟨_,rfl⟩
    rw [he] at hwi
    have HE:=Lib.hid (show a≤e∧e<k∧e+1≤b by have:=HB.out;have h6:=HMI.out;have h7:=HJB.out;omega)
    clear he hmi
    go_wp2
    go_loopg [13] (e-a) (fun gm x W=>∃ (q:Nat) (S1:List It),gm=e-q∧a≤q∧q≤e∧x=.int .i64 q∧S1.Perm S∧IR W g S1 T∧M.But g w W)
    case atStart=>exact ⟨a,S,rfl,Nat.le_refl _,HE.out.1,rfl,List.Perm.refl _,IRH.out,BUTH.out⟩
    case round=>
     clear IRH BUTH
     obtain ⟨q,S1,hgm,haq,hqe,rfl,hp,ir,but⟩:=hrel
     have hlS:=hp.length_eq
     rw [HS.out] at hlS
     have IRH:=Lib.hid ir;have BUTH:=Lib.hid but;have HP:=Lib.hid hp
     by_cases hq:q<e
     · obtain ⟨q1,hq1⟩:∃ q1,q+1=q1:=⟨_,rfl⟩
       have hek:=HE.out.2.1
       have d1:decide ((q:Int)<(e:Int))=true:=by simp;omega
       have d1n:decide (q<e)=true:=by simp;omega
       have d1p:q<e:=by omega
       have hw2:IntKind.i64.wrap ((q:Int)+1)=(q1:Int):=by rw [IntKind.wrap_i64];omega
       have hi1:(q1:Int)<(k:Int):=by omega
       have hi2:(0:Int)≤(q1:Int):=by omega
       have hi3:(q:Int)<(k:Int):=by omega
       have hi4:(0:Int)≤(q:Int):=by omega
       have HLI:=Lib.hid (show q<q1∧q1<S1.length by omega)
       have HN:=Lib.hid (show e-q1<gk∧a≤q1∧q1≤e by omega)
       clear ir but hp hlS hgm haq hqe hq1 hek
       go_wp2
       refine QC.wp_region_d [15,17] [0,1,2,3,4,5,6,7,8,9,10,11,12,13,14,15,16,17] (by kernel_rfl) (by kernel_rfl) (fun u d=>?_)
       have iru:=IRH.out.same (d.below (n:=wr.heap.size))
       have hbu:=BUTH.out.trans (M.But.ofBelow g (d.below (n:=wr.heap.size)))
       obtain ⟨x,y,sw⟩:=sw_of iru HLI.out.1 HLI.out.2
       obtain ⟨XL,hXL⟩:∃ XL,x.row.toList=XL:=⟨_,rfl⟩
       obtain ⟨YL,hYL⟩:∃ YL,y.row.toList=YL:=⟨_,rfl⟩
       rw [hXL,hYL] at sw
       obtain ⟨V1,hV1⟩:∃ V1,u.setCells g (q*36) YL=V1:=⟨_,rfl⟩
       obtain ⟨V2,hV2⟩:∃ V2,V1.setCells g (q1*36) XL=V2:=⟨_,rfl⟩
       have th2:=sw.up
       rw [hV1] at th2
       obtain ⟨S',hp',hq'⟩:=sw.ex
       have hq':=(hq' _ _ hbu rfl).1
       rw [hV1,hV2] at hq'
       have HV1:=Lib.hid hV1;have HV2:=Lib.hid hV2;have HQ:=Lib.hid hq';have HP2:=Lib.hid (hp'.trans HP.out)
       have rx:=sw.rx;have ry:=sw.ry;have xi:=sw.ix;have yi:=sw.iy;have xo:=sw.ox;have yo:=sw.oy;have xl:=sw.ixl;have yl:=sw.iyl;have th1:=sw.tx'
       clear sw d iru hbu hV1 hV2 hq' hp' hXL hYL
       iterate 9
        (first
         | (apply QC.wpC_load
            (focus rfl)
            (focus decide)
            (focus rfl)
            (focus rfl)
            (focus rfl)
            (focus (assumption))
            (focus (intro u hu;go_simp))
            intro K hK
            go_simp
            refine hK _ ?_
            clear hK K)
         | (apply QC.wpC_pure
            (focus rfl)
            (focus decide)
            intro K hK
            go_simp
            first
             | (refine hK _ ?_;clear hK K)
             | (apply Exists.intro
                refine ⟨fun u=>?_,hK _ ?_⟩
                (focus (unfold QP.oat;go_simp;first | done | exact ⟨rfl,rfl⟩ | exact rfl))
                clear hK K)))
       refine QC.wpC_rest (fun u=>u.rangeAt g (q1*36) YL) (.agg YL.toArray) rfl (by decide) (by first | rfl | go_simp) ry ?_ ?_
       · intro v hv
         exact QP.oat_load_mid (ty:=222) (x:=.tmp 69) rfl (b:=g) (off:=q1*36) (by go_num) (cs:=YL) _ hv Tryz.underlying222 rfl yl rfl
       iterate 3
        (first
         | (apply QC.wpC_load
            (focus rfl)
            (focus decide)
            (focus rfl)
            (focus rfl)
            (focus rfl)
            (focus (assumption))
            (focus (intro u hu;go_simp))
            intro K hK
            go_simp
            refine hK _ ?_
            clear hK K)
         | (apply QC.wpC_pure
            (focus rfl)
            (focus decide)
            intro K hK
            go_simp
            first
             | (refine hK _ ?_;clear hK K)
             | (apply Exists.intro
                refine ⟨fun u=>?_,hK _ ?_⟩
                (focus (unfold QP.oat;go_simp;first | done | exact ⟨rfl,rfl⟩ | exact rfl))
                clear hK K)))
       refine QC.wpC_rest (fun u=>u.rangeAt g (q*36) XL) (.agg XL.toArray) rfl (by decide) (by first | rfl | go_simp) rx ?_ ?_
       · intro v hv
         exact QP.oat_load_mid (ty:=222) (x:=.tmp 73) rfl (b:=g) (off:=q*36) (by go_num) (cs:=XL) _ hv Tryz.underlying222 rfl xl rfl
       iterate 1
        (first
         | (apply QC.wpC_load
            (focus rfl)
            (focus decide)
            (focus rfl)
            (focus rfl)
            (focus rfl)
            (focus (assumption))
            (focus (intro u hu;go_simp))
            intro K hK
            go_simp
            refine hK _ ?_
            clear hK K)
         | (apply QC.wpC_pure
            (focus rfl)
            (focus decide)
            intro K hK
            go_simp
            first
             | (refine hK _ ?_;clear hK K)
             | (apply Exists.intro
                refine ⟨fun u=>?_,hK _ ?_⟩
                (focus (unfold QP.oat;go_simp;first | done | exact ⟨rfl,rfl⟩ | exact rfl))
                clear hK K)))
       apply QC.wpC_eff
       (focus rfl)
       (focus decide)
       refine wpList_store_mid rfl 222 (.tmp 75) (.tmp 70) rfl g (q*36) YL.toArray rfl rfl th1 yi yo ?_
       rw [HV1.out]
       go_wp2
       refine QC.eff_ok rfl ?_ ?_
       · (repeat (first | exact QC.obl_nil | refine QC.obl_is (by assumption) ?_ | (apply QC.obl_dep;(focus decide))))
       iterate 1
        (first
         | (apply QC.wpC_load
            (focus rfl)
            (focus decide)
            (focus rfl)
            (focus rfl)
            (focus rfl)
            (focus (assumption))
            (focus (intro u hu;go_simp))
            intro K hK
            go_simp
            refine hK _ ?_
            clear hK K)
         | (apply QC.wpC_pure
            (focus rfl)
            (focus decide)
            intro K hK
            go_simp
            first
             | (refine hK _ ?_;clear hK K)
             | (apply Exists.intro
                refine ⟨fun u=>?_,hK _ ?_⟩
                (focus (unfold QP.oat;go_simp;first | done | exact ⟨rfl,rfl⟩ | exact rfl))
                clear hK K)))
       apply QC.wpC_eff
       (focus rfl)
       (focus decide)
       refine wpList_store_mid rfl 222 (.tmp 76) (.tmp 74) rfl g (q1*36) XL.toArray rfl rfl th2 xi xo ?_
       rw [HV2.out]
       go_wp2
       refine QC.eff_ok rfl ?_ ?_
       · (repeat (first | exact QC.obl_nil | refine QC.obl_is (by assumption) ?_ | (apply QC.obl_dep;(focus decide))))
       refine QC.wpC_nil ?_
       clear rx ry th1 th2
       go_wp2
       go_roundg (e-q1)
       case measure=>exact HN.out.1
       case rel=>exact ⟨q1,S',rfl,HN.out.2.1,HN.out.2.2,by first | rfl | go_num,HP2.out,HQ.out.1,HQ.out.2⟩
     · have hqe2:q=e:=by omega
       subst hqe2
       have d1:decide ((q:Int)<(q:Int))=false:=by simp
       clear ir but hp hlS hgm haq hqe
       go_wp2
       refine bodyPost_ret (results_none rfl _ _ _) rfl ?_
       exact ⟨rfl,S1,HP.out,IRH.out,BUTH.out⟩
set_option maxRecDepth 100000 in
set_option maxHeartbeats 16000000 in
theorem sm_two (g cap a m b k:Nat) (S:List It) (T:List Value) (w:World) (h:IR w g S T) (hS:S.length=k) (h0:a+1<m) (h1:b=m+1) (h3:b≤k) (hk2:k≤1000) :
 Calls Tryz.prog 273 #[.slice (some ⟨g,0,none⟩) k cap,.int .i64 (a:Nat),.int .i64 (m:Nat),.int .i64 (b:Nat),FV] w fun e w'=>e=.returned (.tuple #[])∧∃ S',S'.Perm S∧IR w' g S' T∧M.But g w w':=by
 have H:=Lib.hid h;have HS:=Lib.hid hS
 have hw0:IntKind.i64.wrap ((m:Int)-(a:Int))=((m-a:Nat):Int):=by rw [IntKind.wrap_i64];omega
 have d0:(((m-a:Nat):Int)==1)=false:=by simp;omega
 have hw1:IntKind.i64.wrap ((b:Int)-(m:Int))=1:=by rw [IntKind.wrap_i64];omega
 have hmk1:(m:Int)<(k:Int):=by omega
 have hmk2:(0:Int)≤(m:Int):=by omega
 have HB:=Lib.hid (show a+1<m∧b=m+1∧b≤k∧k≤1000 from ⟨h0,h1,h3,hk2⟩)
 clear h hS h1 h0
 go_enter Tryz.func273,Tryz.ntmps273
 go_wp2
 go_loopg [14,15] (m-a) (fun gm x y W=>∃ (i j:Nat),gm=j-i∧a≤i∧i≤j∧j≤m∧x=.int .i64 i∧y=.int .i64 j∧IR W g S T∧M.But g w W)
 case atStart=>exact ⟨a,m,rfl,Nat.le_refl _,by have:=HB.out;omega,Nat.le_refl _,rfl,rfl,H.out,M.But.refl g w⟩
 case round=>
  obtain ⟨i,j,hgm,hmi,hij,hjb,rfl,rfl,ir,but⟩:=hrel
  have IRH:=Lib.hid ir;have BUTH:=Lib.hid but;have HGM:=Lib.hid hgm
  clear ir but hgm
  have HMI:=Lib.hid hmi;have HJB:=Lib.hid hjb
  by_cases hlt:i<j
  · have d1:decide ((i:Int)<(j:Int))=true:=by simp;omega
    have d1n:decide (i<j)=true:=by simp;omega
    have d1p:i<j:=by omega
    have hmk3:=HB.out
    obtain ⟨h,hh⟩:∃ h,(i+j)/2=h:=⟨_,rfl⟩
    obtain ⟨e1,e2,e3,e4,e5⟩:=half_i hh (by omega)
    have hx1:(h:Int)<(k:Int):=by omega
    have hx2:(0:Int)≤(h:Int):=by omega
    have hlh:i≤h∧h<j:=by omega
    have HH:=Lib.hid hlh
    clear hh
    have HLI:=Lib.hid (show m<S.length∧h<S.length by have h5:=HS.out;omega)
    clear hmi hjb hij hlh hmk3
    go_wp2
    refine QC.wp_region_d [9] [0,1,2,3,4,5,6,7,8,9,10,11] (by kernel_rfl) (by kernel_rfl) (fun u d=>?_)
    have iru:=IRH.out.same (d.below (n:=wr.heap.size))
    have hbu:=BUTH.out.trans (M.But.ofBelow g (d.below (n:=wr.heap.size)))
    obtain ⟨XL,YL,cp⟩:=cp_of iru HLI.out.1 HLI.out.2
    have IRU:=Lib.hid iru;have HBU:=Lib.hid hbu
    have rx:=cp.rx;have ry:=cp.ry;have xl:=cp.xl;have yl:=cp.yl;have OX:=Lib.hid cp.c
    clear cp d iru hbu
    iterate 4
     (first
      | (apply QC.wpC_load
         (focus rfl)
         (focus decide)
         (focus rfl)
         (focus rfl)
         (focus rfl)
         (focus (assumption))
         (focus (intro u hu;go_simp))
         intro K hK
         go_simp
         refine hK _ ?_
         clear hK K)
      | (apply QC.wpC_pure
         (focus rfl)
         (focus decide)
         intro K hK
         go_simp
         first
          | (refine hK _ ?_;clear hK K)
          | (apply Exists.intro
             refine ⟨fun u=>?_,hK _ ?_⟩
             (focus (unfold QP.oat;go_simp;first | done | exact ⟨rfl,rfl⟩ | exact rfl))
             clear hK K)))
    refine QC.wpC_rest (fun u=>u.rangeAt g (m*36) XL) (.agg XL.toArray) rfl (by decide) (by first | rfl | go_simp) rx ?_ ?_
    · intro v hv
      exact QP.oat_load_mid (ty:=222) (x:=.tmp 95) rfl (b:=g) (off:=m*36) (by go_num) (cs:=XL) _ hv Tryz.underlying222 rfl xl rfl
    iterate 3
     (first
      | (apply QC.wpC_load
         (focus rfl)
         (focus decide)
         (focus rfl)
         (focus rfl)
         (focus rfl)
         (focus (assumption))
         (focus (intro u hu;go_simp))
         intro K hK
         go_simp
         refine hK _ ?_
         clear hK K)
      | (apply QC.wpC_pure
         (focus rfl)
         (focus decide)
         intro K hK
         go_simp
         first
          | (refine hK _ ?_;clear hK K)
          | (apply Exists.intro
             refine ⟨fun u=>?_,hK _ ?_⟩
             (focus (unfold QP.oat;go_simp;first | done | exact ⟨rfl,rfl⟩ | exact rfl))
             clear hK K)))
    refine QC.wpC_rest (fun u=>u.rangeAt g (h*36) YL) (.agg YL.toArray) rfl (by decide) (by first | rfl | go_simp) ry ?_ ?_
    · intro v hv
      exact QP.oat_load_mid (ty:=222) (x:=.tmp 99) rfl (b:=g) (off:=h*36) (by go_num) (cs:=YL) _ hv Tryz.underlying222 rfl yl rfl
    apply QC.wpC_eff
    (focus rfl)
    (focus decide)
    go_wp2_with fail
    refine (OX.out _).mono ?_
    rintro e w3 ⟨⟨z,rfl⟩,g3⟩
    have IR3:=Lib.hid (IRU.out.same g3)
    have B3:=Lib.hid (HBU.out.trans (M.But.ofBelow g g3))
    have hm3:True:=trivial
    clear g3 rx ry
    go_wp2
    refine QC.eff_ok rfl ?_ ?_
    · (repeat (first | exact QC.obl_nil | refine QC.obl_is (by assumption) ?_ | (apply QC.obl_dep;(focus decide))))
    cases hz:decide (z<0) with
    | false=>
      iterate 2
       (first
        | (apply QC.wpC_load
           (focus rfl)
           (focus decide)
           (focus rfl)
           (focus rfl)
           (focus rfl)
           (focus (assumption))
           (focus (intro u hu;go_simp))
           intro K hK
           go_simp
           refine hK _ ?_
           clear hK K)
        | (apply QC.wpC_pure
           (focus rfl)
           (focus decide)
           intro K hK
           go_simp
           first
            | (refine hK _ ?_;clear hK K)
            | (apply Exists.intro
               refine ⟨fun u=>?_,hK _ ?_⟩
               (focus (unfold QP.oat;go_simp;first | done | exact ⟨rfl,rfl⟩ | exact rfl))
               clear hK K)))
      refine QC.wpC_nil ?_
      go_wp2
      go_roundg (j-(h+1))
      case measure=>have h1:=HGM.out;have h2:=HH.out;omega
      case rel=>exact ⟨h+1,j,rfl,by have h1:=HMI.out;have h2:=HH.out;omega,HH.out.2,HJB.out,by go_num,rfl,IR3.out,B3.out⟩
    | true=>
      iterate 2
       (first
        | (apply QC.wpC_load
           (focus rfl)
           (focus decide)
           (focus rfl)
           (focus rfl)
           (focus rfl)
           (focus (assumption))
           (focus (intro u hu;go_simp))
           intro K hK
           go_simp
           refine hK _ ?_
           clear hK K)
        | (apply QC.wpC_pure
           (focus rfl)
           (focus decide)
           intro K hK
           go_simp
           first
            | (refine hK _ ?_;clear hK K)
            | (apply Exists.intro
               refine ⟨fun u=>?_,hK _ ?_⟩
               (focus (unfold QP.oat;go_simp;first | done | exact ⟨rfl,rfl⟩ | exact rfl))
               clear hK K)))
      refine QC.wpC_nil ?_
      go_wp2
      go_roundg (h-i)
      case measure=>have h1:=HGM.out;have h2:=HH.out;omega
      case rel=>exact ⟨i,h,rfl,HMI.out,HH.out.1,by have h1:=HJB.out;have h2:=HH.out;omega,rfl,rfl,IR3.out,B3.out⟩
  · have hije:i=j:=by omega
    subst hije
    have d1:decide ((i:Int)<(i:Int))=false:=by simp
    clear hlt hij hjb hmi
    go_wp2
    go_loopg [17] (m-i) (fun gm x W=>∃ (q:Nat) (S1:List It),gm=q-i∧i≤q∧q≤m∧x=.int .i64 q∧S1.Perm S∧IR W g S1 T∧M.But g w W)
    case atStart=>exact ⟨m,S,rfl,HJB.out,Nat.le_refl _,rfl,List.Perm.refl _,IRH.out,BUTH.out⟩
    case round=>
     clear IRH BUTH
     obtain ⟨q1,S1,hgm,haq,hqe,rfl,hp,ir,but⟩:=hrel
     have hlS:=hp.length_eq
     rw [HS.out] at hlS
     have IRH:=Lib.hid ir;have BUTH:=Lib.hid but;have HP:=Lib.hid hp
     by_cases hq:i<q1
     · obtain ⟨q,hq1⟩:∃ q,q1-1=q:=⟨_,rfl⟩
       have hek:=HB.out
       have d1:decide ((i:Int)<(q1:Int))=true:=by simp;omega
       have d1n:decide (i<q1)=true:=by simp;omega
       have d1p:i<q1:=by omega
       have hw2:IntKind.i64.wrap ((q1:Int)-1)=(q:Int):=by rw [IntKind.wrap_i64];omega
       have hi1:(q1:Int)<(k:Int):=by omega
       have hi2:(0:Int)≤(q1:Int):=by omega
       have hi3:(q:Int)<(k:Int):=by omega
       have hi4:(0:Int)≤(q:Int):=by omega
       have HLI:=Lib.hid (show q<q1∧q1<S1.length by omega)
       have HN:=Lib.hid (show q-i<gk∧i≤q∧q≤m by omega)
       clear ir but hp hlS hgm haq hqe hq1 hek
       go_wp2
       refine QC.wp_region_d [15,17] [0,1,2,3,4,5,6,7,8,9,10,11,12,13,14,15,16,17] (by kernel_rfl) (by kernel_rfl) (fun u d=>?_)
       have iru:=IRH.out.same (d.below (n:=wr.heap.size))
       have hbu:=BUTH.out.trans (M.But.ofBelow g (d.below (n:=wr.heap.size)))
       obtain ⟨x,y,sw⟩:=sw_of iru HLI.out.1 HLI.out.2
       obtain ⟨XL,hXL⟩:∃ XL,x.row.toList=XL:=⟨_,rfl⟩
       obtain ⟨YL,hYL⟩:∃ YL,y.row.toList=YL:=⟨_,rfl⟩
       rw [hXL,hYL] at sw
       obtain ⟨V1,hV1⟩:∃ V1,u.setCells g (q1*36) XL=V1:=⟨_,rfl⟩
       obtain ⟨V2,hV2⟩:∃ V2,V1.setCells g (q*36) YL=V2:=⟨_,rfl⟩
       have th2:=sw.dn
       rw [hV1] at th2
       obtain ⟨S',hp',hq'⟩:=sw.ex
       have hq':=(hq' _ _ hbu rfl).2
       rw [hV1,hV2] at hq'
       have HV1:=Lib.hid hV1;have HV2:=Lib.hid hV2;have HQ:=Lib.hid hq';have HP2:=Lib.hid (hp'.trans HP.out)
       have rx:=sw.rx;have ry:=sw.ry;have xi:=sw.ix;have yi:=sw.iy;have xo:=sw.ox;have yo:=sw.oy;have xl:=sw.ixl;have yl:=sw.iyl;have th1:=sw.ty'
       clear sw d iru hbu hV1 hV2 hq' hp' hXL hYL
       iterate 9
        (first
         | (apply QC.wpC_load
            (focus rfl)
            (focus decide)
            (focus rfl)
            (focus rfl)
            (focus rfl)
            (focus (assumption))
            (focus (intro u hu;go_simp))
            intro K hK
            go_simp
            refine hK _ ?_
            clear hK K)
         | (apply QC.wpC_pure
            (focus rfl)
            (focus decide)
            intro K hK
            go_simp
            first
             | (refine hK _ ?_;clear hK K)
             | (apply Exists.intro
                refine ⟨fun u=>?_,hK _ ?_⟩
                (focus (unfold QP.oat;go_simp;first | done | exact ⟨rfl,rfl⟩ | exact rfl))
                clear hK K)))
       refine QC.wpC_rest (fun u=>u.rangeAt g (q*36) XL) (.agg XL.toArray) rfl (by decide) (by first | rfl | go_simp) rx ?_ ?_
       · intro v hv
         exact QP.oat_load_mid (ty:=222) (x:=.tmp 121) rfl (b:=g) (off:=q*36) (by go_num) (cs:=XL) _ hv Tryz.underlying222 rfl xl rfl
       iterate 3
        (first
         | (apply QC.wpC_load
            (focus rfl)
            (focus decide)
            (focus rfl)
            (focus rfl)
            (focus rfl)
            (focus (assumption))
            (focus (intro u hu;go_simp))
            intro K hK
            go_simp
            refine hK _ ?_
            clear hK K)
         | (apply QC.wpC_pure
            (focus rfl)
            (focus decide)
            intro K hK
            go_simp
            first
             | (refine hK _ ?_;clear hK K)
             | (apply Exists.intro
                refine ⟨fun u=>?_,hK _ ?_⟩
                (focus (unfold QP.oat;go_simp;first | done | exact ⟨rfl,rfl⟩ | exact rfl))
                clear hK K)))
       refine QC.wpC_rest (fun u=>u.rangeAt g (q1*36) YL) (.agg YL.toArray) rfl (by decide) (by first | rfl | go_simp) ry ?_ ?_
       · intro v hv
         exact QP.oat_load_mid (ty:=222) (x:=.tmp 125) rfl (b:=g) (off:=q1*36) (by go_num) (cs:=YL) _ hv Tryz.underlying222 rfl yl rfl
       iterate 1
        (first
         | (apply QC.wpC_load
            (focus rfl)
            (focus decide)
            (focus rfl)
            (focus rfl)
            (focus rfl)
            (focus (assumption))
            (focus (intro u hu;go_simp))
            intro K hK
            go_simp
            refine hK _ ?_
            clear hK K)
         | (apply QC.wpC_pure
            (focus rfl)
            (focus decide)
            intro K hK
            go_simp
            first
             | (refine hK _ ?_;clear hK K)
             | (apply Exists.intro
                refine ⟨fun u=>?_,hK _ ?_⟩
                (focus (unfold QP.oat;go_simp;first | done | exact ⟨rfl,rfl⟩ | exact rfl))
                clear hK K)))
       apply QC.wpC_eff
       (focus rfl)
       (focus decide)
       refine wpList_store_mid rfl 222 (.tmp 127) (.tmp 122) rfl g (q1*36) XL.toArray rfl rfl th1 xi xo ?_
       rw [HV1.out]
       go_wp2
       refine QC.eff_ok rfl ?_ ?_
       · (repeat (first | exact QC.obl_nil | refine QC.obl_is (by assumption) ?_ | (apply QC.obl_dep;(focus decide))))
       iterate 1
        (first
         | (apply QC.wpC_load
            (focus rfl)
            (focus decide)
            (focus rfl)
            (focus rfl)
            (focus rfl)
            (focus (assumption))
            (focus (intro u hu;go_simp))
            intro K hK
            go_simp
            refine hK _ ?_
            clear hK K)
         | (apply QC.wpC_pure
            (focus rfl)
            (focus decide)
            intro K hK
            go_simp
            first
             | (refine hK _ ?_;clear hK K)
             | (apply Exists.intro
                refine ⟨fun u=>?_,hK _ ?_⟩
                (focus (unfold QP.oat;go_simp;first | done | exact ⟨rfl,rfl⟩ | exact rfl))
                clear hK K)))
       apply QC.wpC_eff
       (focus rfl)
       (focus decide)
       refine wpList_store_mid rfl 222 (.tmp 128) (.tmp 126) rfl g (q*36) YL.toArray rfl rfl th2 yi yo ?_
       rw [HV2.out]
       go_wp2
       refine QC.eff_ok rfl ?_ ?_
       · (repeat (first | exact QC.obl_nil | refine QC.obl_is (by assumption) ?_ | (apply QC.obl_dep;(focus decide))))
       refine QC.wpC_nil ?_
       clear rx ry th1 th2
       go_wp2
       go_roundg (q-i)
       case measure=>exact HN.out.1
       case rel=>exact ⟨q,S',rfl,HN.out.2.1,HN.out.2.2,by first | rfl | go_num,HP2.out,HQ.out.1,HQ.out.2⟩
     · have hqe2:q1=i:=by omega
       subst hqe2
       have d1:decide ((q1:Int)<(q1:Int))=false:=by simp
       clear ir but hp hlS hgm haq hqe
       go_wp2
       refine bodyPost_ret (results_none rfl _ _ _) rfl ?_
       exact ⟨rfl,S1,HP.out,IRH.out,BUTH.out⟩
end Vw
end Go.Proofs.YtdebnbgjgkbmaaaGreatDoor
namespace Go.Proofs.YtdebnbgjgkbmaaaGreatDoor
namespace Vw
open Go.RowKit
set_option linter.unusedVariables false
def SmOk (g cap k a m b:Nat) (S:List It) (T:List Value) (w:World):Prop:=Calls Tryz.prog 273 #[.slice (some ⟨g,0,none⟩) k cap,.int .i64 (a:Nat),.int .i64 (m:Nat),.int .i64 (b:Nat),FV] w fun e w'=>e=.returned (.tuple #[])∧∃ S',S'.Perm S∧IR w' g S' T∧M.But g w w'
set_option maxRecDepth 100000 in
set_option maxHeartbeats 16000000 in
theorem sm_step (g cap a m b k:Nat) (S:List It) (T:List Value) (w:World) (h:IR w g S T) (hS:S.length=k) (h1:a+1<m) (h2:m+1<b) (h3:b≤k) (hk2:k≤1000)
 (ih:∀ (a' m' b':Nat) (S':List It) (w':World),b'-a'<b-a→a'<m'→m'<b'→b'≤k→S'.length=k→IR w' g S' T→SmOk g cap k a' m' b' S' T w'):SmOk g cap k a m b S T w:=by
 have H:=Lib.hid h;have HS:=Lib.hid hS
 obtain ⟨x0,hx0⟩:∃ x0,x0+a=m:=⟨m-a,by omega⟩
 obtain ⟨y0,hy0⟩:∃ y0,y0+m=b:=⟨b-m,by omega⟩
 obtain ⟨c,hc⟩:∃ c,(a+b)/2=c:=⟨_,rfl⟩
 obtain ⟨e1,e2,e3,e4,e5⟩:=half_i hc (by omega)
 obtain ⟨nn,hnn⟩:∃ nn,nn=c+m:=⟨_,rfl⟩
 obtain ⟨p,hp⟩:∃ p,p+1=nn:=⟨nn-1,by omega⟩
 have hw0:IntKind.i64.wrap ((m:Int)-(a:Int))=(x0:Int):=by rw [IntKind.wrap_i64];omega
 have d0:((x0:Int)==1)=false:=by simp;omega
 have hw1:IntKind.i64.wrap ((b:Int)-(m:Int))=(y0:Int):=by rw [IntKind.wrap_i64];omega
 have d1:((y0:Int)==1)=false:=by simp;omega
 have hw2:IntKind.i64.wrap ((c:Int)+(m:Int))=(nn:Int):=by rw [IntKind.wrap_i64];omega
 have hw3:IntKind.i64.wrap ((nn:Int)-1)=(p:Int):=by rw [IntKind.wrap_i64];omega
 have HB:=Lib.hid (show a+1<m∧m+1<b∧b≤k∧k≤1000∧a<c∧c<b∧2*c≤a+b∧a+b≤2*c+1∧nn=c+m∧p+1=nn by omega)
 have IHH:=Lib.hid ih
 have n0:¬ (x0=1):=by omega
 have n1:¬ (y0=1):=by omega
 clear h hS hx0 hy0 hc h1 h2 h3 ih hnn hp
 unfold SmOk
 go_enter Tryz.func273,Tryz.ntmps273
 go_upto_if 140 with fail
 go_cut [20,21] from 138 to 146 (fun s r wx=>∃ (s0 r0:Nat),s=.int .i64 s0∧r=.int .i64 r0∧a≤s0∧c+m≤b+s0∧s0≤r0∧r0≤m∧r0≤c∧wx=w)
 case first=>
  clear e1 e2 e3 e4 e5 hw3 hw0 hw1 d0 d1
  by_cases hmc:c<m
  · obtain ⟨q,hq⟩:∃ q,q+b=nn:=⟨nn-b,by have:=HB.out;omega⟩
    have hwq:IntKind.i64.wrap ((nn:Int)-(b:Int))=(q:Int):=by rw [IntKind.wrap_i64];have:=HB.out;omega
    have d2:decide ((c:Int)<(m:Int))=true:=by simp;omega
    have d2n:decide (c<m)=true:=by simp;omega
    have HR:=Lib.hid (show a≤q∧c+m≤b+q∧q≤c∧c≤m∧c≤c by have:=HB.out;omega)
    clear hq
    go_wp2
    go_meet
    exact ⟨q,c,rfl,rfl,HR.out.1,HR.out.2.1,HR.out.2.2.1,HR.out.2.2.2.1,HR.out.2.2.2.2,rfl⟩
  · have d2:decide ((c:Int)<(m:Int))=false:=by simp;omega
    have d2n:decide (c<m)=false:=by simp;omega
    have HR:=Lib.hid (show a≤a∧c+m≤b+a∧a≤m∧m≤m∧m≤c by have:=HB.out;omega)
    go_wp2
    go_meet
    exact ⟨a,m,rfl,rfl,HR.out.1,HR.out.2.1,HR.out.2.2.1,HR.out.2.2.2.1,HR.out.2.2.2.2,rfl⟩
 case rest=>
 obtain ⟨s0,r0,rfl,rfl,t1,t2,t3,t4,t5,rfl⟩:=hcut
 obtain ⟨W0,rfl⟩:∃ W0:World,W0=wc:=⟨_,rfl⟩
 have HT0:=Lib.hid (show a≤s0∧c+m≤b+s0∧s0≤r0∧r0≤m∧r0≤c from ⟨t1,t2,t3,t4,t5⟩)
 clear t1 t2 t3 t4 t5 e1 e2 e3 e4 e5
 go_wp2
 go_loopg [20,21] (r0-s0) (fun gm x y W=>∃ (i j:Nat),gm=j-i∧a≤i∧c+m≤b+i∧i≤j∧j≤m∧j≤c∧x=.int .i64 i∧y=.int .i64 j∧IR W g S T∧M.But g W0 W)
 case atStart=>exact ⟨s0,r0,rfl,HT0.out.1,HT0.out.2.1,HT0.out.2.2.1,HT0.out.2.2.2.1,HT0.out.2.2.2.2,rfl,rfl,H.out,M.But.refl g W0⟩
 case round=>
  clear HT0
  obtain ⟨i,j,hgm,t1,t2,t3,t4,t5,rfl,rfl,ir,but⟩:=hrel
  have IRH:=Lib.hid ir;have BUTH:=Lib.hid but;have HGM:=Lib.hid hgm
  have HIJ:=Lib.hid (show a≤i∧c+m≤b+i∧i≤j∧j≤m∧j≤c from ⟨t1,t2,t3,t4,t5⟩)
  clear ir but hgm
  by_cases hlt:i<j
  · have hbk:=HB.out
    have d2:decide ((i:Int)<(j:Int))=true:=by simp;omega
    have d2n:decide (i<j)=true:=by simp;omega
    obtain ⟨h,hh⟩:∃ h,(i+j)/2=h:=⟨_,rfl⟩
    obtain ⟨e1,e2,e3,e4,e5⟩:=half_i hh (by omega)
    obtain ⟨pc,hu⟩:∃ pc,pc+h=p:=⟨p-h,by omega⟩
    have hwu:IntKind.i64.wrap ((p:Int)-(h:Int))=(pc:Int):=by rw [IntKind.wrap_i64];omega
    have hx1:(h:Int)<(k:Int):=by omega
    have hx2:(0:Int)≤(h:Int):=by omega
    have hx3:(pc:Int)<(k:Int):=by omega
    have hx4:(0:Int)≤(pc:Int):=by omega
    have HH:=Lib.hid (show i≤h∧h<j by omega)
    have HLI:=Lib.hid (show pc<S.length∧h<S.length by have h5:=HS.out;omega)
    clear hh hu hbk t1 t2 t3 t4 t5
    go_wp2
    refine QC.wp_region_d [11] [0,1,2,3,4,5,6,7,8,9,10,11,12,13] (by kernel_rfl) (by kernel_rfl) (fun u d=>?_)
    have iru:=IRH.out.same (d.below (n:=wr.heap.size))
    have hbu:=BUTH.out.trans (M.But.ofBelow g (d.below (n:=wr.heap.size)))
    obtain ⟨XL,YL,cp⟩:=cp_of iru HLI.out.1 HLI.out.2
    have IRU:=Lib.hid iru;have HBU:=Lib.hid hbu
    have rx:=cp.rx;have ry:=cp.ry;have xl:=cp.xl;have yl:=cp.yl;have OX:=Lib.hid cp.c
    clear cp d iru hbu
    iterate 6
     (first
      | (apply QC.wpC_load
         (focus rfl)
         (focus decide)
         (focus rfl)
         (focus rfl)
         (focus rfl)
         (focus (assumption))
         (focus (intro u hu;go_simp))
         intro K hK
         go_simp
         refine hK _ ?_
         clear hK K)
      | (apply QC.wpC_pure
         (focus rfl)
         (focus decide)
         intro K hK
         go_simp
         first
          | (refine hK _ ?_;clear hK K)
          | (apply Exists.intro
             refine ⟨fun u=>?_,hK _ ?_⟩
             (focus (unfold QP.oat;go_simp;first | done | exact ⟨rfl,rfl⟩ | exact rfl))
             clear hK K)))
    refine QC.wpC_rest (fun u=>u.rangeAt g (pc*36) XL) (.agg XL.toArray) rfl (by decide) (by first | rfl | go_simp) rx ?_ ?_
    · intro v hv
      exact QP.oat_load_mid (ty:=222) (x:=.tmp 163) rfl (b:=g) (off:=pc*36) (by go_num) (cs:=XL) _ hv Tryz.underlying222 rfl xl rfl
    iterate 3
     (first
      | (apply QC.wpC_load
         (focus rfl)
         (focus decide)
         (focus rfl)
         (focus rfl)
         (focus rfl)
         (focus (assumption))
         (focus (intro u hu;go_simp))
         intro K hK
         go_simp
         refine hK _ ?_
         clear hK K)
      | (apply QC.wpC_pure
         (focus rfl)
         (focus decide)
         intro K hK
         go_simp
         first
          | (refine hK _ ?_;clear hK K)
          | (apply Exists.intro
             refine ⟨fun u=>?_,hK _ ?_⟩
             (focus (unfold QP.oat;go_simp;first | done | exact ⟨rfl,rfl⟩ | exact rfl))
             clear hK K)))
    refine QC.wpC_rest (fun u=>u.rangeAt g (h*36) YL) (.agg YL.toArray) rfl (by decide) (by first | rfl | go_simp) ry ?_ ?_
    · intro v hv
      exact QP.oat_load_mid (ty:=222) (x:=.tmp 167) rfl (b:=g) (off:=h*36) (by go_num) (cs:=YL) _ hv Tryz.underlying222 rfl yl rfl
    apply QC.wpC_eff
    (focus rfl)
    (focus decide)
    go_wp2_with fail
    refine (OX.out _).mono ?_
    rintro e w3 ⟨⟨z,rfl⟩,g3⟩
    have IR3:=Lib.hid (IRU.out.same g3)
    have B3:=Lib.hid (HBU.out.trans (M.But.ofBelow g g3))
    have hm3:True:=trivial
    clear g3 rx ry
    go_wp2
    refine QC.eff_ok rfl ?_ ?_
    · (repeat (first | exact QC.obl_nil | refine QC.obl_is (by assumption) ?_ | (apply QC.obl_dep;(focus decide))))
    cases hz:decide (z<0) with
    | false=>
      iterate 2
       (first
        | (apply QC.wpC_load
           (focus rfl)
           (focus decide)
           (focus rfl)
           (focus rfl)
           (focus rfl)
           (focus (assumption))
           (focus (intro u hu;go_simp))
           intro K hK
           go_simp
           refine hK _ ?_
           clear hK K)
        | (apply QC.wpC_pure
           (focus rfl)
           (focus decide)
           intro K hK
           go_simp
           first
            | (refine hK _ ?_;clear hK K)
            | (apply Exists.intro
               refine ⟨fun u=>?_,hK _ ?_⟩
               (focus (unfold QP.oat;go_simp;first | done | exact ⟨rfl,rfl⟩ | exact rfl))
               clear hK K)))
      refine QC.wpC_nil ?_
      go_wp2
      go_roundg (j-(h+1))
      case measure=>have h1:=HGM.out;have h2:=HH.out;omega
      case rel=>exact ⟨h+1,j,rfl,by have h1:=HIJ.out;have h2:=HH.out;omega,by have h1:=HIJ.out;have h2:=HH.out;omega,HH.out.2,HIJ.out.2.2.2.1,HIJ.out.2.2.2.2,by go_num,rfl,IR3.out,B3.out⟩
    | true=>
      iterate 2
       (first
        | (apply QC.wpC_load
           (focus rfl)
           (focus decide)
           (focus rfl)
           (focus rfl)
           (focus rfl)
           (focus (assumption))
           (focus (intro u hu;go_simp))
           intro K hK
           go_simp
           refine hK _ ?_
           clear hK K)
        | (apply QC.wpC_pure
           (focus rfl)
           (focus decide)
           intro K hK
           go_simp
           first
            | (refine hK _ ?_;clear hK K)
            | (apply Exists.intro
               refine ⟨fun u=>?_,hK _ ?_⟩
               (focus (unfold QP.oat;go_simp;first | done | exact ⟨rfl,rfl⟩ | exact rfl))
               clear hK K)))
      refine QC.wpC_nil ?_
      go_wp2
      go_roundg (h-i)
      case measure=>have h1:=HGM.out;have h2:=HH.out;omega
      case rel=>exact ⟨i,h,rfl,HIJ.out.1,HIJ.out.2.1,HH.out.1,by have h1:=HIJ.out;have h2:=HH.out;omega,by have h1:=HIJ.out;have h2:=HH.out;omega,rfl,rfl,IR3.out,B3.out⟩
  · have hije:j=i:=by omega
    subst hije
    have hbk:=HB.out
    have d2:decide ((j:Int)<(j:Int))=false:=by simp
    obtain ⟨e,he⟩:∃ e,e+j=nn:=⟨nn-j,by omega⟩
    have hwe:IntKind.i64.wrap ((nn:Int)-(j:Int))=(e:Int):=by rw [IntKind.wrap_i64];omega
    have HE:=Lib.hid (show a≤j∧j≤m∧j≤c∧m≤e∧c≤e∧e≤b∧b≤k∧k≤1000∧a<c∧c<b by omega)
    clear he hbk t1 t2 t3 t4 t5 hlt
    go_upto_region 39 with fail
    go_cut [185] from 178 to 185 (fun sv wx=>sv=.bool (decide (j<m)&&decide (m<e))∧wx=wr)
    case first=>
     by_cases hA:j<m
     · have d3:decide (j<m)=true:=by simp;omega
       have d3i:decide ((j:Int)<(m:Int))=true:=by simp;omega
       by_cases hB:m<e
       · have d4:decide (m<e)=true:=by simp;omega
         have d4i:decide ((m:Int)<(e:Int))=true:=by simp;omega
         go_wp2
         go_meet
         exact ⟨by first | rfl | simp [d3,d4],rfl⟩
       · have d4:decide (m<e)=false:=by simp;omega
         have d4i:decide ((m:Int)<(e:Int))=false:=by simp;omega
         go_wp2
         go_meet
         exact ⟨by first | rfl | simp [d3,d4],rfl⟩
     · have d3:decide (j<m)=false:=by simp;omega
       have d3i:decide ((j:Int)<(m:Int))=false:=by simp;omega
       go_wp2
       go_meet
       exact ⟨by first | rfl | simp [d3],rfl⟩
    case rest=>
    obtain ⟨rfl,rfl⟩:=hcut
    have Q1:=Lib.hid (List.Perm.refl S);have Q2:=Lib.hid IRH.out;have Q3:=Lib.hid BUTH.out
    clear IRH BUTH
    obtain ⟨bb,hbb⟩:∃ bb,(decide (j<m)&&decide (m<e))=bb:=⟨_,rfl⟩
    rw [hbb]
    have HBB:=Lib.hid hbb
    clear hbb
    go_upto_if 185 with fail
    go_cut [] from 186 to 191 (fun wx=>∃ S1:List It,S1.Perm S∧IR wx g S1 T∧M.But g W0 wx)
    case first=>
     cases bb with
     | true=>
       have hAB:j<m∧m<e:=by have:=HBB.out;simp at this;exact this
       have RO:=Lib.hid (rot_any g cap j m e k S T _ Q2.out HS.out hAB.1 hAB.2 (by have:=HE.out;omega) (by have:=HE.out;omega))
       go_wp2_with fail
       refine (RO.out).mono ?_
       rintro ee w1 ⟨rfl,S',p1,p2,p3⟩
       have P2:=Lib.hid p2;have P3:=Lib.hid p3
       clear p2 p3
       go_wp2
       go_meet
       exact ⟨S',p1.trans Q1.out,P2.out,Q3.out.trans P3.out⟩
     | false=>
       go_wp2
       go_meet
       exact ⟨_,Q1.out,Q2.out,Q3.out⟩
    case rest=>
    clear Q1 Q2 Q3 HBB
    obtain ⟨S1,q1,q2,q3⟩:=hcut
    have Q1:=Lib.hid q1;have Q2:=Lib.hid q2;have Q3:=Lib.hid q3
    clear q1 q2 q3
    go_upto_region 41 with fail
    go_cut [199] from 192 to 199 (fun sv wx=>sv=.bool (decide (a<j)&&decide (j<c))∧wx=wc)
    case first=>
     by_cases hA:a<j
     · have d3:decide (a<j)=true:=by simp;omega
       have d3i:decide ((a:Int)<(j:Int))=true:=by simp;omega
       by_cases hB:j<c
       · have d4:decide (j<c)=true:=by simp;omega
         have d4i:decide ((j:Int)<(c:Int))=true:=by simp;omega
         go_wp2
         go_meet
         exact ⟨by first | rfl | simp [d3,d4],rfl⟩
       · have d4:decide (j<c)=false:=by simp;omega
         have d4i:decide ((j:Int)<(c:Int))=false:=by simp;omega
         go_wp2
         go_meet
         exact ⟨by first | rfl | simp [d3,d4],rfl⟩
     · have d3:decide (a<j)=false:=by simp;omega
       have d3i:decide ((a:Int)<(j:Int))=false:=by simp;omega
       go_wp2
       go_meet
       exact ⟨by first | rfl | simp [d3],rfl⟩
    case rest=>
    obtain ⟨rfl,rfl⟩:=hcut
    skip
    obtain ⟨bb,hbb⟩:∃ bb,(decide (a<j)&&decide (j<c))=bb:=⟨_,rfl⟩
    rw [hbb]
    have HBB:=Lib.hid hbb
    clear hbb
    go_upto_if 199 with fail
    go_cut [] from 200 to 205 (fun wx=>∃ S1:List It,S1.Perm S∧IR wx g S1 T∧M.But g W0 wx)
    case first=>
     cases bb with
     | true=>
       have hAB:a<j∧j<c:=by have:=HBB.out;simp at this;exact this
       have RO:=Lib.hid (show SmOk g cap k a j c S1 T _ from IHH.out a j c S1 _ (by have:=HE.out;omega) hAB.1 hAB.2 (by have:=HE.out;omega) (Q1.out.length_eq.trans HS.out) Q2.out)
       go_wp2_with fail
       refine (RO.out).mono ?_
       rintro ee w1 ⟨rfl,S',p1,p2,p3⟩
       have P2:=Lib.hid p2;have P3:=Lib.hid p3
       clear p2 p3
       go_wp2
       go_meet
       exact ⟨S',p1.trans Q1.out,P2.out,Q3.out.trans P3.out⟩
     | false=>
       go_wp2
       go_meet
       exact ⟨_,Q1.out,Q2.out,Q3.out⟩
    case rest=>
    clear Q1 Q2 Q3 HBB
    obtain ⟨S1,q1,q2,q3⟩:=hcut
    have Q1:=Lib.hid q1;have Q2:=Lib.hid q2;have Q3:=Lib.hid q3
    clear q1 q2 q3
    by_cases hA:c<e
    · have d3:decide (c<e)=true:=by simp;omega
      have d3i:decide ((c:Int)<(e:Int))=true:=by simp;omega
      by_cases hB:e<b
      · have d4:decide (e<b)=true:=by simp;omega
        have d4i:decide ((e:Int)<(b:Int))=true:=by simp;omega
        have RO:=Lib.hid (show SmOk g cap k c e b S1 T _ from IHH.out c e b S1 _ (by have:=HE.out;omega) hA hB (by have:=HE.out;omega) (Q1.out.length_eq.trans HS.out) Q2.out)
        go_wp2_with fail
        refine (RO.out).mono ?_
        rintro ee w1 ⟨rfl,S',p1,p2,p3⟩
        have P2:=Lib.hid p2;have P3:=Lib.hid p3
        clear p2 p3
        go_wp2
        go_end0
        exact ⟨rfl,S',p1.trans Q1.out,P2.out,Q3.out.trans P3.out⟩
      · have d4:decide (e<b)=false:=by simp;omega
        have d4i:decide ((e:Int)<(b:Int))=false:=by simp;omega
        go_wp2
        go_end0
        exact ⟨rfl,S1,Q1.out,Q2.out,Q3.out⟩
    · have d3:decide (c<e)=false:=by simp;omega
      have d3i:decide ((c:Int)<(e:Int))=false:=by simp;omega
      go_wp2
      go_end0
      exact ⟨rfl,S1,Q1.out,Q2.out,Q3.out⟩
theorem sm_any (g cap k:Nat) (T:List Value) (hk2:k≤1000):∀ (d a m b:Nat) (S:List It) (w:World),b-a≤d→a<m→m<b→b≤k→S.length=k→IR w g S T→SmOk g cap k a m b S T w
 | 0,a,m,b,S,w,hd,h1,h2,h3,hS,h=>by omega
 | d+1,a,m,b,S,w,hd,h1,h2,h3,hS,h=>by
   by_cases c1:m=a+1
   · exact sm_one g cap a m b k S T w h hS c1 h2 h3 hk2
   · by_cases c2:b=m+1
     · exact sm_two g cap a m b k S T w h hS (by omega) c2 h3 hk2
     · exact sm_step g cap a m b k S T w h hS (by omega) (by omega) h3 hk2 (fun a' m' b' S' w' hlt h1' h2' h3' hS' h'=>sm_any g cap k T hk2 d a' m' b' S' w' (by omega) h1' h2' h3' hS' h')
end Vw
end Go.Proofs.YtdebnbgjgkbmaaaGreatDoor
namespace Go.Proofs.YtdebnbgjgkbmaaaGreatDoor
open Go.RowKit
set_option linter.unusedVariables false
structure TW (n:Nat) (w0:World) (X:Ths) (v:World):Prop where
 at_:∀ x∈X,x.2.at n v
 ap:∀ x∈X,∀ y∈X,x.1≠y.1→x.2.blk=none∨x.2.blk≠y.2.blk
 bel:Below n w0 v
 ge:n≤v.heap.size
def New (a:Nat) (X:Ths):Prop:=∀ y∈X,y.1≠a
section
variable {n:Nat} {w0 v v':World} {X X':Ths} {a:Nat} {x x':Th}
theorem below_grownT {w w':World} (h:Below w.heap.size w w') (r:Option Nat):w.grownBy w' r:=⟨h.os,h.tape,h.output,h.size,fun k hk _=>h.block k hk⟩
theorem but_grownT {g:Nat} {w w':World} (h:M.But g w w'):w.grownBy w' (some g):=⟨h.os,h.tape,h.output,h.size,fun k hk hne=>h.block k hk (fun e=>hne (by rw [e]))⟩
theorem TW.start (w:World):TW w.heap.size w [] w:=⟨fun x hx=>(by cases hx),fun x hx=>(by cases hx),Below.refl _ _,Nat.le_refl _⟩
theorem TW.sub (h:TW n w0 X v) (hs:∀ x∈X',x∈X):TW n w0 X' v:=⟨fun x hx=>h.at_ x (hs x hx),fun x hx y hy=>h.ap x (hs x hx) y (hs y hy),h.bel,h.ge⟩
theorem TW.change (h:TW n w0 ((a,x)::X) v) (hn:New a X) (hg:v.grownBy v' x.blk) (hx:x'.at n v') (hb:x'.blk=x.blk∨∀ g,x'.blk=some g→v.heap.size≤g):TW n w0 ((a,x')::X) v':=by
 have hx0:=h.at_ (a,x) List.mem_cons_self
 have apX:∀ y∈X,y.2.blk=none∨y.2.blk≠x.blk:=fun y hy=>h.ap y (List.mem_cons_of_mem _ hy) (a,x) List.mem_cons_self (hn y hy)
 have fresh:∀ y∈X,∀ g,y.2.blk=some g→g<v.heap.size:=fun y hy g e=>(Th.lt (h.at_ y (List.mem_cons_of_mem _ hy)) g e).2
 refine ⟨fun y hy=>?_,fun y hy z hz hne=>?_,?_,Nat.le_trans h.ge hg.size⟩
 · rcases List.mem_cons.1 hy with e | e
   · subst e;exact hx
   · exact Th.keep (h.at_ y (List.mem_cons_of_mem _ e)) hg (apX y e)
 · have key:∀ y∈X,y.2.blk=none∨y.2.blk≠x'.blk:=fun y hy=>by
    rcases hb with e | e
    · rw [e];exact apX y hy
    · cases h1:y.2.blk with
      | none=>exact .inl rfl
      | some g=>exact .inr (fun e2=>by have:=e g e2.symm;have:=fresh y hy g h1;omega)
   rcases List.mem_cons.1 hy with e | e
   · rcases List.mem_cons.1 hz with e2 | e2
     · subst e;subst e2;exact absurd rfl hne
     · subst e
       rcases key z e2 with h1 | h1
       · cases h2:x'.blk with
         | none=>exact .inl rfl
         | some g=>exact .inr (fun e=>by rw [h1] at e;cases e)
       · exact .inr (fun e=>h1 e.symm)
   · rcases List.mem_cons.1 hz with e2 | e2
     · subst e2;exact key y e
     · exact h.ap y (List.mem_cons_of_mem _ e) z (List.mem_cons_of_mem _ e2) hne
 · refine ⟨hg.os.trans h.bel.os,hg.tape.trans h.bel.tape,hg.output.trans h.bel.output,Nat.le_trans h.bel.size hg.size,fun k hk=>(hg.block k (by have:=h.ge;omega) (fun e=>?_)).trans (h.bel.block k hk)⟩
   have:=(Th.lt hx0 k e.symm).1;omega
theorem TW.same (h:TW n w0 X v) (hb:Below v.heap.size v v'):TW n w0 X v':=
 ⟨fun x hx=>Th.keep (h.at_ x hx) (below_grownT hb none) (by cases x.2.blk<;>simp),h.ap,h.bel.trans (hb.mono h.ge),Nat.le_trans h.ge hb.size⟩
theorem TW.alloc (h:TW n w0 X v) (o:Obj):TW n w0 X (v.alloc o):=h.same ((Below.refl _ _).alloc (Nat.le_refl _) o)
theorem TW.drew (h:TW n w0 X v):TW n w0 X v.drew:=h.same ((Below.refl _ _).drew)
theorem TW.add (h:TW n w0 X v) (hn:New a X) (hb:Below v.heap.size v v') (hx:x.at n v') (hf:∀ g,x.blk=some g→v.heap.size≤g):TW n w0 ((a,x)::X) v':=by
 have h':=h.same hb
 have fresh:∀ y∈X,∀ g,y.2.blk=some g→g<v.heap.size:=fun y hy g e=>(Th.lt (h.at_ y hy) g e).2
 have key:∀ y∈X,y.2.blk=none∨y.2.blk≠x.blk:=fun y hy=>by
  cases h1:y.2.blk with
  | none=>exact .inl rfl
  | some g=>exact .inr (fun e2=>by have:=hf g e2.symm;have:=fresh y hy g h1;omega)
 refine ⟨fun y hy=>?_,fun y hy z hz hne=>?_,h'.bel,h'.ge⟩
 · rcases List.mem_cons.1 hy with e | e
   · subst e;exact hx
   · exact h'.at_ y e
 · rcases List.mem_cons.1 hy with e | e
   · rcases List.mem_cons.1 hz with e2 | e2
     · subst e;subst e2;exact absurd rfl hne
     · subst e
       rcases key z e2 with h1 | h1
       · cases h2:x.blk with
         | none=>exact .inl rfl
         | some g=>exact .inr (fun e=>by rw [h1] at e;cases e)
       · exact .inr (fun e=>h1 e.symm)
   · rcases List.mem_cons.1 hz with e2 | e2
     · subst e2;exact key y e
     · exact h.ap y e z e2 hne
theorem TW.newRow (h:TW n w0 X v) (hn:New a X) (t:TypeId) (cs:Array Value):TW n w0 ((a,.row v.heap.size t cs)::X) (v.alloc (.cells cs t)):=
 h.add hn ((Below.refl _ _).alloc (Nat.le_refl _) _) ⟨M.RowAt.new v t cs,h.ge⟩ (fun g e=>by obtain rfl:=Option.some.inj e;exact Nat.le_refl _)
theorem TW.nilOwn (h:TW n w0 X v) (hn:New a X) (t:TypeId) (sz:Nat):TW n w0 ((a,.own t sz (.slice none 0 0) 0 [])::X) v:=
 h.add hn (Below.refl _ _) ⟨by simp,.inl ⟨rfl,rfl⟩⟩ (fun g e=>by cases e)
theorem TW.own_mono {t:TypeId} {sz k m:Nat} {u:Value} {xs:List Value} (ho:v.ownsRow m t sz u k xs) (hm:n≤m):v.ownsRow n t sz u k xs:=by
 refine ⟨ho.1,?_⟩
 rcases ho.2 with hn | ⟨g,cap,cur,e,hb,rest⟩
 · exact .inl hn
 · exact .inr ⟨g,cap,cur,e,Nat.le_trans hm hb,rest⟩
theorem TW.copied {t:TypeId} {sz k:Nat} {u:Value} {xs:List Value} (h:TW n w0 X v) (hn:New a X) (ho:v'.ownsRow v.heap.size t sz u k xs) (hb:Below v.heap.size v v'):TW n w0 ((a,.own t sz u k xs)::X) v':=
 h.add hn hb (TW.own_mono ho h.ge) (fun g e=>(ho.lt g e).1)
theorem TW.row {g:Nat} {t:TypeId} {cs:Array Value} (h:TW n w0 X v) (hm:(a,.row g t cs)∈X):M.RowAt v g t cs:=(h.at_ _ hm).1
theorem TW.own {t:TypeId} {sz k:Nat} {u:Value} {xs:List Value} (h:TW n w0 X v) (hm:(a,.own t sz u k xs)∈X):v.ownsRow n t sz u k xs:=h.at_ _ hm
theorem TW.ownF {t:TypeId} {k:Nat} {u:Value} {xs:List Value} (h:TW n w0 X v) (hm:(a,.ownF t u k xs)∈X):v.ownsRowF n t 1 u k xs:=h.at_ _ hm
theorem TW.setCell {g:Nat} {t:TypeId} {cs:Array Value} (h:TW n w0 ((a,.row g t cs)::X) v) (hn:New a X) (j:Nat) (y:Value):TW n w0 ((a,.row g t (cs.setIfInBounds j y))::X) (v.setCell ⟨g,j,none⟩ y):=
 h.change hn (but_grownT ((M.But.refl g v).set (p:=⟨g,j,none⟩) (.inl rfl) y)) ⟨(h.row List.mem_cons_self).set j y,(h.at_ _ List.mem_cons_self).2⟩ (.inl rfl)
theorem TW.setRow {g:Nat} {t:TypeId} {cs:Array Value} (h:TW n w0 ((a,.row g t cs)::X) v) (hn:New a X) (cs':Array Value):TW n w0 ((a,.row g t cs')::X) (v.setRow g cs'):=
 h.change hn (but_grownT ((M.But.refl g v).setRow (.inl rfl) cs')) ⟨(h.row List.mem_cons_self).setRow cs',(h.at_ _ List.mem_cons_self).2⟩ (.inl rfl)
theorem TW.grow {t:TypeId} {sz k k':Nat} {u u':Value} {xs xs':List Value} (h:TW n w0 ((a,.own t sz u k xs)::X) v) (hn:New a X) (ho:v'.ownsRow n t sz u' k' xs') (hg:v.grownBy v' u.ownBlock) (hs:u'.ownBlock=u.ownBlock∨∀ g,u'.ownBlock=some g→v.heap.size≤g):TW n w0 ((a,.own t sz u' k' xs')::X) v':=
 h.change hn hg ho hs
end
end Go.Proofs.YtdebnbgjgkbmaaaGreatDoor
namespace Go.Proofs.YtdebnbgjgkbmaaaGreatDoor
open Go.RowKit
set_option linter.unusedVariables false
theorem wpList_append_sep {P:Program} (w:World) {ops:Array Oper} {rest:List Oper} {o:Oper} {a:Act} {Q:Exit→Act→World→Prop}
 (hg:o.guard=none) (s x:Operand) (t:TypeId) (hop:o.op=Op.call { callee:=Callee.builtin Builtin.append,args:=#[s,x],argTypes:=#[t,t] })
 (base:Nat) (e:TypeId) (i:TypeInfo) (z:Value) (size bytes:Nat) (h1:P.underlying t=some (.slice e)) (h2:P.info? e=some i) (h3:i.zero=some z) (h4:i.size=size) (h5:i.bytes=bytes) (h6:z.cells.size=size) (h7:0<size)
 (g k cap:Nat) (xs:List Value) (hs:a.eval s=.slice (some ⟨g,0,none⟩) k cap) (hown:w.ownsRow base e size (.slice (some ⟨g,0,none⟩) k cap) k xs)
 (ad:Addr) (m c:Nat) (news:List Value) (hx:a.eval x=.slice (some ad) m c) (hn:news.length=m*size) (hc:∀ j u,news[j]?=some u→w.cell? (ad.add j)=some u) (h1c:∀ u∈news,u.oneCell'=true)
 (b0:0<k+m) (b1:k+m≤maxLen) (b2:(k+m)*bytes≤140737488355328) (hbase:base≤w.heap.size)
 (hK:∀ g' cap' w',w'.ownsRow base e size (.slice (some ⟨g',0,none⟩) (k+m) cap') (k+m) (xs++news)→w.grownBy w' (some g)→(g'=g∨w.heap.size≤g')→wpList P ops Q rest (a.put o.dst (.slice (some ⟨g',0,none⟩) (k+m) cap')) w') :
 wpList P ops Q (o::rest) a w:=by
 by_cases hr:k+m≤cap
 · exact wpList_append_fits w hg s x t hop base e i size h1 h2 h4 g k cap xs hs hown ad m c news hx hn hc h1c hr (fun w' q1 q2=>hK _ _ _ q1 q2 (.inl rfl))
 · refine wpList_append_grows w hg s x t hop e i z size bytes h1 h2 h3 h4 h5 h6 h7 (some ⟨g,0,none⟩) k cap xs hs (by simp) hown.1 (fun b hb j u hu=>by cases hb;exact hown.cells rfl j u hu) ad m c news hx hn hc h1c (by omega) b1 b2 (fun v' w' q1 q2=>?_)
   obtain ⟨g',cap',rfl,q3,q4⟩:=q1.form b0
   exact hK g' cap' w' (q1.mono hbase) ⟨q2.os,q2.tape,q2.output,q2.size,fun j hj _=>q2.block j hj (by simp)⟩ (.inr q3)
theorem wpList_append_sep2 {P:Program} (w:World) {ops:Array Oper} {rest:List Oper} {o:Oper} {a:Act} {Q:Exit→Act→World→Prop}
 (hg:o.guard=none) (s x:Operand) (t:TypeId) (hop:o.op=Op.call { callee:=Callee.builtin Builtin.append,args:=#[s,x],argTypes:=#[t,t] })
 (base:Nat) (e:TypeId) (i:TypeInfo) (z:Value) (size bytes:Nat) (h1:P.underlying t=some (.slice e)) (h2:P.info? e=some i) (h3:i.zero=some z) (h4:i.size=size) (h5:i.bytes=bytes) (h6:z.cells.size=size) (h7:0<size)
 (v:Value) (n:Nat) (xs:List Value) (hs:a.eval s=v) (hown:w.ownsRow base e size v n xs)
 (ad:Addr) (m c:Nat) (news:List Value) (hx:a.eval x=.slice (some ad) m c) (hn:news.length=m*size) (hc:∀ j u,news[j]?=some u→w.cell? (ad.add j)=some u) (h1c:∀ u∈news,u.oneCell'=true)
 (b0:0<m) (b1:n+m≤maxLen) (b2:(n+m)*bytes≤140737488355328) (hbase:base≤w.heap.size)
 (hK:∀ v' w',w'.ownsRow base e size v' (n+m) (xs++news)→w.grownBy w' v.ownBlock→(v'.ownBlock=v.ownBlock∨∀ g,v'.ownBlock=some g→w.heap.size≤g)→wpList P ops Q rest (a.put o.dst v') w') :
 wpList P ops Q (o::rest) a w:=by
 rcases hown.2 with ⟨rfl,rfl⟩ | ⟨g,cap,cur,rfl,_⟩
 · have hx0:xs=[]:=List.length_eq_zero_iff.1 (by have:=hown.1;omega)
   subst hx0
   refine wpList_append_grows w hg s x t hop e i z size bytes h1 h2 h3 h4 h5 h6 h7 none 0 0 [] hs (fun _=>⟨rfl,rfl⟩) (by simp) (fun b hb=>by cases hb) ad m c news hx hn hc h1c (by omega) b1 b2 (fun v' w' q1 q2=>?_)
   exact hK v' w' (q1.mono hbase) q2 (.inr fun g hg=>(q1.lt g hg).1)
 · exact wpList_append_sep w hg s x t hop base e i z size bytes h1 h2 h3 h4 h5 h6 h7 g n cap xs hs hown ad m c news hx hn hc h1c (by omega) b1 b2 hbase fun g' cap' w' q1 q2 q3=>hK _ _ q1 q2 (by
    rcases q3 with rfl | q3
    · exact .inl rfl
    · exact .inr fun b hb=>by cases hb;exact q3)
end Go.Proofs.YtdebnbgjgkbmaaaGreatDoor
namespace Go.Proofs.YtdebnbgjgkbmaaaGreatDoor
open Oc
open Go.RowKit
set_option linter.unusedVariables false
def Z38:Array Value:=#[.int .u64 0,.int .u64 0,.int .u8 0,.int .u8 0,.int .u8 0,.int .u8 0,.int .u8 0,.int .u8 0,.int .u8 0,.int .u8 0,.int .u8 0,.int .u8 0,.int .u8 0,.int .u8 0,.int .u8 0,.int .u8 0,.int .u8 0,.int .u8 0,.int .u8 0,.int .u8 0,.int .u8 0,.int .u8 0,.int .u8 0,.int .u8 0,.int .u8 0,.int .u8 0,.int .u8 0,.int .u8 0,.int .u8 0,.int .u8 0,.int .u8 0,.int .u8 0,.int .u8 0,.int .u8 0,.int .i64 0,.bool false,.int .i64 0,.bool false]
theorem iC (x:LV):(Tryz.prog.info? 164).map (·.size)=some x.cells.size:=by rw [LV.size];kernel_rfl
theorem iCl (x:LV):(Tryz.prog.info? 164).map (·.size)=some x.cells.toList.length:=by rw [Array.length_toList,LV.size];kernel_rfl
theorem oC (x:LV):x.cells.all (·.oneCell')=true:=by
 unfold LV.cells LV.h
 simp only [Array.all_append,Bool.and_eq_true]
 exact ⟨⟨⟨by simp [Value.oneCell'],M.rowF_one⟩,by simp [Value.oneCell']⟩,by simp [Value.oneCell']⟩
theorem zC (x:LV):Z38.size=x.cells.size:=by rw [LV.size];rfl
end Go.Proofs.YtdebnbgjgkbmaaaGreatDoor
namespace Go.Proofs.YtdebnbgjgkbmaaaGreatDoor
open Oc
open Go.RowKit
set_option linter.unusedVariables false
theorem info_parts3 {P:Program} {t:TypeId} {z:Value} {s:Nat} (h:(P.info? t).map (fun i=>(i.zero,i.size,decide (i.bytes≤1000)))=some (some z,s,true)):∃ i,P.info? t=some i∧i.zero=some z∧i.size=s∧i.bytes≤1000:=by
 cases hi:P.info? t with
 | none=>rw [hi] at h;cases h
 | some i=>
   rw [hi] at h
   simp at h
   exact ⟨i,rfl,h.1,h.2.1,h.2.2⟩
def aft (ls:List LV) (ev:Int):List LV:=ls.map fun x=>{ x with st:=Ht.Pl.nxt x.own x.st ev }
theorem own_form {w:World} {b k sz:Nat} {t:TypeId} {u:Value} {xs:List Value} (h:w.ownsRow b t sz u k xs):∃ ad c,u=.slice ad k c:=by
 rcases h.2 with ⟨e,h0⟩ | ⟨g',cap,cur,e,_⟩
 · exact ⟨none,0,by rw [e,h0]⟩
 · exact ⟨_,_,e⟩
end Go.Proofs.YtdebnbgjgkbmaaaGreatDoor
namespace Go.Proofs.YtdebnbgjgkbmaaaGreatDoor
open Oc
open Go.RowKit
set_option linter.unusedVariables false
theorem LV.c0 (x:LV):x.cells[0]?=some (.int .u64 x.id):=by
 unfold LV.cells LV.h
 rw [Array.getElem?_append_left (by simp;omega),Array.getElem?_append_left (by simp;omega),Array.getElem?_append_left (by simp)];rfl
theorem LV.c1 (x:LV):x.cells[1]?=some (.int .u64 x.am):=by
 unfold LV.cells LV.h
 rw [Array.getElem?_append_left (by simp;omega),Array.getElem?_append_left (by simp;omega),Array.getElem?_append_left (by simp)];rfl
end Go.Proofs.YtdebnbgjgkbmaaaGreatDoor
namespace Go.Proofs.YtdebnbgjgkbmaaaGreatDoor
open Oc
open Go.RowKit
set_option linter.unusedVariables false
def chC (hd tl T e:Array Value):Array Value:=hd++tl++T++e
section
variable {hd tl T e:Array Value}
end
structure Ch where
 chan:Nat
 cap:Nat
 ours:Nat
 seed:Nat→Nat
 key:ByteArray
 pkey:ByteArray
 signed:Nat
 heard:Nat
 awaits:Bool
 nOwn:Nat
 nTheirs:Nat
 shutS:Bool
 shutH:Bool
 revoked:Bool
 loc:Nat
 rem:Nat
def Ch.hd (c:Ch):Array Value:=#[.int .u32 c.chan,.int .u64 c.cap,.int .u64 c.ours]++r8 32 c.seed
def Ch.tl (c:Ch) (lv:Value):Array Value:=#[.string c.key,.string c.pkey,.int .i64 c.signed,.int .i64 c.heard,.bool c.awaits,.int .u64 c.nOwn,.int .u64 c.nTheirs,.bool c.shutS,.bool c.shutH,.bool c.revoked,.int .u64 c.loc,.int .u64 c.rem,lv]
def Ch.cells (c:Ch) (lv:Value) (T:Array Value) (nw la:Value):Array Value:=chC c.hd (c.tl lv) T #[nw,la]
section
variable (c:Ch) (lv nw la:Value) (T:Array Value)
end
theorem TW.dr {n:Nat} {w0 v v':World} {X:Ths} (h:TW n w0 X v) (d:QC.Dr v v'):TW n w0 X v':=h.same d.below
section
variable {n:Nat} {w0 v v':World} {a cb kn:Nat} {c:Ch} {ls:List LV} {T:Array Value} {X X':Ths}
end
end Go.Proofs.YtdebnbgjgkbmaaaGreatDoor
namespace Go.Proofs.YtdebnbgjgkbmaaaGreatDoor
open Oc
open Go.RowKit
set_option linter.unusedVariables false
theorem fold_get:∀ (l:List Value) (Z:Array Value) (j:Nat),j+l.length≤Z.size →
 (List.foldl (fun (cs:Array Value) (x:Value × Nat)=>cs.setIfInBounds (0+x.2) x.1) Z (l.zipIdx j)).size=Z.size ∧
 ∀ i,(List.foldl (fun (cs:Array Value) (x:Value × Nat)=>cs.setIfInBounds (0+x.2) x.1) Z (l.zipIdx j))[i]?=if j≤i∧i<j+l.length then l[i-j]? else Z[i]?
 | [],Z,j,_=>⟨rfl,fun i=>by rw [if_neg (by simp)];rfl⟩
 | x::l,Z,j,h=>by
   rw [List.length_cons] at h
   have ih:=fold_get l (Z.setIfInBounds (0+j) x) (j+1) (by simp;omega)
   rw [List.zipIdx_cons,List.foldl_cons]
   refine ⟨by rw [ih.1];simp,fun i=>?_⟩
   rw [ih.2 i,List.length_cons]
   by_cases h1:j+1≤i∧i<j+1+l.length
   · rw [if_pos h1,if_pos (by omega)]
     have:i-j=(i-(j+1))+1:=by omega
     rw [this,List.getElem?_cons_succ]
   · rw [if_neg h1]
     by_cases h2:i=j
     · subst h2
       rw [if_pos (by omega),Nat.sub_self,Nat.zero_add,Array.getElem?_setIfInBounds_self_of_lt (by omega)];rfl
     · rw [if_neg (by omega),Array.getElem?_setIfInBounds_ne (by omega)]
theorem fold_all (C Z:Array Value) (h:Z.size=C.size):Array.foldl (fun (cs:Array Value) (x:Value × Nat)=>cs.setIfInBounds (0+x.2) x.1) Z C.zipIdx=C:=by
 rw [←Array.foldl_toList,Array.toList_zipIdx]
 have hl:C.toList.length=C.size:=Array.length_toList
 have hg:=fold_get C.toList Z 0 (by omega)
 apply Array.ext_getElem?
 intro i
 rw [hg.2 i]
 by_cases hi:i<C.size
 · rw [if_pos (by omega),Nat.sub_zero,Array.getElem?_toList]
 · rw [if_neg (by omega),Array.getElem?_eq_none (by omega),Array.getElem?_eq_none (by omega)]
theorem fill_one {i:TypeInfo} {z:Value} {k:Nat} (h3:i.size=k) (hk:0<k) (hk2:k≤1000) (C:Array Value) (hC:C.size=k) :
 (¬ 1*i.size>2 ^ 24)∧(¬ 1*i.size=0)∧Instr.fill (fun j=>some (j*i.size,i.size)) ((Array.range (1*i.size)).map (z.cells[·%z.cells.size]!)) [(0,.agg C)]=some C:=by
 rw [h3]
 refine ⟨by omega,by omega,?_⟩
 unfold Instr.fill
 simp only [Nat.zero_mul]
 have hc:(Value.agg C).cells=C:=rfl
 rw [hc]
 rw [if_neg (by simp [hC])]
 unfold Instr.fill
 rw [fold_all C _ (by simp [hC])]
end Go.Proofs.YtdebnbgjgkbmaaaGreatDoor
namespace Go.Proofs.YtdebnbgjgkbmaaaGreatDoor
open Go.RowKit
set_option linter.unusedVariables false
section
variable {n:Nat} {w0 v v':World} {a jb m:Nat} {B:ByteArray} {X X':Ths} {p buf:Value}
theorem New.cons {b:Nat} {x:Th} (h:New b X) (hne:a≠b):New b ((a,x)::X):=fun y hy=>by
 rcases List.mem_cons.1 hy with rfl | hy
 · exact hne
 · exact h y hy
end
end Go.Proofs.YtdebnbgjgkbmaaaGreatDoor
namespace Go.Proofs.YtdebnbgjgkbmaaaGreatDoor
open Oc
open Go.RowKit
set_option linter.unusedVariables false
section
variable {n:Nat} {w0 v v':World} {a cb kn:Nat} {c:Ch} {ls:List LV} {T:Array Value} {X X' Y:Ths}
end
def keep (l:List LV):List LV:=l.filter fun x=>x.st != 9
end Go.Proofs.YtdebnbgjgkbmaaaGreatDoor
namespace Go.Proofs.YtdebnbgjgkbmaaaGreatDoor
namespace QF
open Go.RowKit
open QP (upon oat wp_of_oat)
open QT (dep)
open QR (upd updV putAll apartB putAll_congr putAll_step lf lf_set cnt cnt_set size_put)
open QC (Y Fl aft lexB readB dn Rob tmps_congr exec_congr wanted_congr Y_congr wp_region_g dn_cons aft_of dep_all agree)
set_option linter.unusedVariables false
variable {P:Program}
inductive Tr where
 | nil
 | q (i:Nat) (t:Tr)
 | one (i:Nat) (t:Tr)
 | two (i:Nat) (t:Tr) (j:Nat) (u:Tr)
def Tr.rem:Tr→List Nat
 | .nil=>[]
 | .q i t=>i::t.rem
 | .one i t=>i::t.rem
 | .two i t j u=>i::t.rem
def effF (P:Program) (ops:Array Oper) (K:Fl→Act→World→Prop) (F:Fl) (i:Nat) (a:Act) (w:World):Prop:=∃ o,ops[i]?=some o ∧
 wpList P ops (fun e a' w'=>e=.normal∧a'.defers=a.defers∧(∀ x∈F,dep .any ops x.1 30 o=true∨x.2 w')∧K F a' w') [o] a w
def wpF (P:Program) (ops:Array Oper) (Q:Exit→Act→World→Prop):Tr→Fl→Act→World→Prop
 | .nil,_,a,w=>Q .normal a w
 | .q i r,F,a,w=>∃ o,ops[i]?=some o∧∃ v,((∀ u,Y P ops o a v u)∧wpF P ops Q r F (a.put o.dst v) w)∨(∃ R:World→Prop,R w∧(∀ u,R u→Y P ops o a v u)∧wpF P ops Q r ((i,R)::F) (a.put o.dst v) w)
 | .one i r,F,a,w=>effF P ops (wpF P ops Q r) F i a w
 | .two i r j s,F,a,w=>effF P ops (wpF P ops Q r) F i a w∧effF P ops (wpF P ops Q s) F j a w
def headB (l:List Oper) (E done:List Nat) (i:Nat) (e:Bool):Bool:=!done.contains i&&(E.contains i==e)&&(match l[i]? with | some o=>o.after.toList.all fun x=>!Region.binds .any x||done.contains x.on | none=>false)
def depB (l:List Oper) (i k:Nat):Bool:=match l[k]? with | some o=>dep .any l.toArray i 30 o | none=>false
def trB (l:List Oper) (E:List Nat):Tr→List Nat→Bool
 | .nil,done=>(List.range l.length).all fun i=>done.contains i
 | .q i r,done=>headB l E done i false&&trB l E r (i::done)
 | .one i r,done=>headB l E done i true&&(r.rem.all fun k=>depB l i k)&&trB l E r (i::done)
 | .two i r j s,done=>headB l E done i true&&headB l E done j true&&!(i==j)&&(r.rem.all fun k=>k==j||depB l i k||depB l j k)&&trB l E r (i::done)&&trB l E s (j::done)
def okF (l:List Oper) (E:List Nat) (t:Tr):Bool:=apartB l&&lexB l&&readB l&&Region.noSelect l.toArray&&trB l E t []
structure St (P:Program) (l:List Oper) (E:List Nat) (Q:Exit→Act→World→Prop) (a0:Act) (L:Nat→Bool) (V:Nat→Value) (w:World) (W:Nat→Value) (ord:Tr) (done:List Nat) (F:Fl):Prop where
 ag:∀ k,L k=true→W k=V k
 od:trB l E ord done=true
 sub:∀ k,L k=true→dn done k=true
 eff:∀ k,dn done k=true→E.contains k=true→L k=true
 dep:∀ k o,dn done k=true→l[k]?=some o→∀ e∈o.after.toList,Region.binds .any e=true→dn done e.on=true
 rob:∀ k,dn done k=true→L k=false→Rob P l E F (putAll (dn done) W l 0 a0) w k (W k)
 wp:wpF P l.toArray Q ord F (putAll (dn done) W l 0 a0) w
section
variable {l:List Oper} {E:List Nat} {Q:Exit→Act→World→Prop} {a0:Act} {L:Nat→Bool} {V W:Nat→Value} {w:World} {done:List Nat} {F:Fl}
theorem headB_spec {i:Nat} {e:Bool} (h:headB l E done i e=true):dn done i=false∧E.contains i=e∧(∀ o,l[i]?=some o→∀ x∈o.after.toList,Region.binds .any x=true→dn done x.on=true)∧∃ o,l[i]?=some o:=by
 unfold headB at h
 simp only [Bool.and_eq_true,Bool.not_eq_true',beq_iff_eq] at h
 obtain ⟨⟨h1,h2⟩,h3⟩:=h
 refine ⟨h1,h2,fun o ho x hx hb=>?_,?_⟩
 · simp only [ho] at h3
   have:=List.all_eq_true.1 h3 x hx
   simpa [hb,dn] using this
 · cases ho:l[i]? with
   | none=>simp [ho] at h3
   | some o=>exact ⟨o,rfl⟩
theorem depB_spec {i k:Nat} {o:Oper} (h:depB l i k=true) (ho:l[k]?=some o):dep .any l.toArray i 30 o=true:=by
 unfold depB at h;simpa only [ho] using h
theorem trB_mem {i:Nat} (hi:i<l.length):∀ (t:Tr) (done:List Nat),trB l E t done=true→dn done i=false→i∈t.rem
 | .nil,done,h,hd=>by
   unfold trB at h
   have:=List.all_eq_true.1 h i (List.mem_range.2 hi)
   unfold dn at hd;rw [hd] at this;cases this
 | .q j r,done,h,hd=>by
   unfold trB at h
   simp only [Bool.and_eq_true] at h
   by_cases hij:i=j
   · subst hij;exact List.mem_cons_self
   · refine List.mem_cons_of_mem _ (trB_mem hi r _ h.2 ?_)
     rw [dn_cons (headB_spec h.1).1];unfold upd;rw [if_neg hij];exact hd
 | .one j r,done,h,hd=>by
   unfold trB at h
   simp only [Bool.and_eq_true] at h
   by_cases hij:i=j
   · subst hij;exact List.mem_cons_self
   · refine List.mem_cons_of_mem _ (trB_mem hi r _ h.2 ?_)
     rw [dn_cons (headB_spec h.1.1).1];unfold upd;rw [if_neg hij];exact hd
 | .two j r k s,done,h,hd=>by
   unfold trB at h
   simp only [Bool.and_eq_true] at h
   by_cases hij:i=j
   · subst hij;exact List.mem_cons_self
   · refine List.mem_cons_of_mem _ (trB_mem hi r _ h.1.2 ?_)
     rw [dn_cons (headB_spec h.1.1.1.1.1).1];unfold upd;rw [if_neg hij];exact hd
theorem St.quiet {i:Nat} (hap:apartB l=true) (hr:readB l=true) (hsel:∀ o∈l,∀ cs b,o.op≠.select cs b) {r:Tr} (s:St P l E Q a0 L V w W (.q i r) done F):∃ W' F',St P l E Q a0 L V w W' r (i::done) F':=by
 have od:=s.od
 unfold trB at od
 simp only [Bool.and_eq_true] at od
 obtain ⟨h1,hE,h2,⟨o,ho⟩⟩:=headB_spec od.1
 have h5:=od.2
 have hLi:L i=false:=by
  cases hb:L i
  · rfl
  · have:=s.sub i hb;rw [h1] at this;cases this
 have hwp:=s.wp
 obtain ⟨o',ho',hwp⟩:=hwp
 obtain rfl:o'=o:=Option.some.inj (by rw [←ho,← ho'];simp)
 obtain ⟨v,hwp⟩:=hwp
 have eput:(putAll (dn done) W l 0 a0).put o'.dst v=putAll (dn (i::done)) (updV W i v) l 0 a0:=by
  rw [putAll_step l 0 a0 hap (Nat.zero_le _) (by simpa using ho) h1,dn_cons h1]
 have Ymv:∀ k x v' u,l[k]?=some x→(∀ e∈x.after.toList,Region.binds .any e=true→dn done e.on=true)→Y P l.toArray x (putAll (dn done) W l 0 a0) v' u→Y P l.toArray x (putAll (dn (i::done)) (updV W i v) l 0 a0) v' u:=fun k x v' u hx hdep hy=>
  Y_congr (hsel x (List.mem_of_getElem? hx)) (agree hr hx (fun e he hb=>by
   have hd:=hdep e he hb
   have hne:e.on≠i:=fun he=>by rw [he,h1] at hd;cases hd
   rw [dn_cons h1]
   exact ⟨(if_neg hne).symm,(if_neg hne).symm⟩)) hy
 have mk:∀ F':Fl,(∀ x∈F,x∈F')→Rob P l E F' (putAll (dn (i::done)) (updV W i v) l 0 a0) w i v→wpF P l.toArray Q r F' ((putAll (dn done) W l 0 a0).put o'.dst v) w→∃ W' F',St P l E Q a0 L V w W' r (i::done) F':=fun F' hF hrob hw=>by
  refine ⟨updV W i v,F',⟨fun k hk=>?_,h5,fun k hk=>?_,fun k hk hEk=>?_,fun k x hk hx e he hb=>?_,fun k hk hLk=>?_,by rw [←eput];exact hw⟩⟩
  · have hne:k≠i:=fun e=>by rw [e,hLi] at hk;cases hk
    show (if k=i then v else W k)=V k
    rw [if_neg hne];exact s.ag k hk
  · rw [dn_cons h1];unfold upd
    split
    · rfl
    · exact s.sub k hk
  · rw [dn_cons h1] at hk;unfold upd at hk
    by_cases hki:k=i
    · subst hki;rw [hE] at hEk;cases hEk
    · rw [if_neg hki] at hk;exact s.eff k hk hEk
  · rw [dn_cons h1] at hk ⊢;unfold upd at hk ⊢
    split
    · rfl
    · by_cases hki:k=i
      · subst hki
        obtain rfl:x=o':=Option.some.inj (hx.symm.trans ho)
        exact h2 x ho e he hb
      · rw [if_neg hki] at hk;exact s.dep k x hk hx e he hb
  · by_cases hki:k=i
    · subst hki
      show Rob P l E F' _ w k (if k=k then v else W k)
      rw [if_pos rfl];exact hrob
    · rw [dn_cons h1] at hk;unfold upd at hk;rw [if_neg hki] at hk
      obtain ⟨g1,x,hx,g2⟩:=s.rob k hk hLk
      show Rob P l E F' _ w k (if k=i then v else W k)
      rw [if_neg hki]
      refine ⟨g1,x,hx,?_⟩
      rcases g2 with g2 | ⟨R,g2,g3,g4⟩
      · exact .inl fun u=>Ymv k x _ u hx (fun e he hb=>s.dep k x hk hx e he hb) (g2 u)
      · exact .inr ⟨R,hF _ g2,g3,fun u hu=>Ymv k x _ u hx (fun e he hb=>s.dep k x hk hx e he hb) (g4 u hu)⟩
 rcases hwp with ⟨hy,hw⟩ | ⟨R,hR,hy,hw⟩
 · exact mk F (fun x hx=>hx) ⟨hE,o',ho,.inl fun u=>Ymv i o' v u ho (fun e he hb=>h2 o' ho e he hb) (hy u)⟩ hw
 · exact mk ((i,R)::F) (fun x hx=>List.mem_cons_of_mem _ hx) ⟨hE,o',ho,.inr ⟨R,List.mem_cons_self,hR,fun u hu=>Ymv i o' v u ho (fun e he hb=>h2 o' ho e he hb) (hy u hu)⟩⟩ hw
theorem St.adv (hap:apartB l=true) (hr:readB l=true) (hsel:∀ o∈l,∀ cs b,o.op≠.select cs b) {i:Nat} (hi:i<l.length):∀ (t:Tr) (done:List Nat) (W:Nat→Value) (F:Fl),St P l E Q a0 L V w W t done F →
 ∃ W' t' done' F',St P l E Q a0 L V w W' t' done' F'∧(dn done' i=true∨(∃ p r,t'=.one p r)∨∃ p r p' r',t'=.two p r p' r')
 | .nil,done,W,F,s=>by
   cases hd:dn done i
   · have:=trB_mem hi .nil done s.od hd;cases this
   · exact ⟨W,.nil,done,F,s,.inl hd⟩
 | .q p r,done,W,F,s=>by
   obtain ⟨W',F',s'⟩:=s.quiet hap hr hsel
   exact St.adv hap hr hsel hi r (p::done) W' F' s'
 | .one p r,done,W,F,s=>⟨W,.one p r,done,F,s,.inr (.inl ⟨p,r,rfl⟩)⟩
 | .two p r p' r',done,W,F,s=>⟨W,.two p r p' r',done,F,s,.inr (.inr ⟨p,r,p',r',rfl⟩)⟩
theorem head_not {i:Nat} {e:Bool} {ord:Tr} (s:St P l E Q a0 L V w W ord done F) (hL:∀ i,i<l.length→L i=true) (h:headB l E done i e=true):False:=by
 obtain ⟨h1,_,_,o,ho⟩:=headB_spec h
 have:=s.sub i (hL i (List.getElem?_eq_some_iff.1 ho).1)
 rw [h1] at this;cases this
theorem St.finish (hL:∀ i,i<l.length→L i=true):∀ (t:Tr) (done:List Nat) (W:Nat→Value) (F:Fl),St P l E Q a0 L V w W t done F→Q .normal (putAll L V l 0 a0) w
 | .nil,done,W,F,s=>by
   have h:=s.wp
   have e:putAll (dn done) W l 0 a0=putAll L V l 0 a0:=putAll_congr l 0 a0 fun j _ hj=>by
    have hLj:=hL j (by omega)
    exact ⟨by rw [s.sub j hLj,hLj],s.ag j hLj⟩
   rw [←e];exact h
 | .q p r,done,W,F,s=>by
   have od:=s.od
   unfold trB at od
   simp only [Bool.and_eq_true] at od
   exact (head_not s hL od.1).elim
 | .one p r,done,W,F,s=>by
   have od:=s.od
   unfold trB at od
   simp only [Bool.and_eq_true] at od
   exact (head_not s hL od.1.1).elim
 | .two p r p' r',done,W,F,s=>by
   have od:=s.od
   unfold trB at od
   simp only [Bool.and_eq_true] at od
   exact (head_not s hL od.1.1.1.1.1).elim
theorem stNext (hap:apartB l=true) (hr:readB l=true) (hsel:∀ o∈l,∀ cs b,o.op≠.select cs b) {ord r:Tr} (s:St P l E Q a0 L V w W ord done F) {i:Nat} {o':Oper} (ho:l[i]?=some o') (hh:headB l E done i true=true) (h5:trB l E r (i::done)=true)
 (hwp:effF P l.toArray (wpF P l.toArray Q r) F i (putAll (dn done) W l 0 a0) w) (hLi:L i=false) (hD:∀ j o',l[j]?=some o'→L j=true→∀ e∈o'.after.toList,Region.binds .any e=true→L e.on=true)
 (hdp:∀ e∈o'.after.toList,Region.binds .any e=true→L e.on=true) {aA:Act} (haA:aA=putAll L V l 0 a0) {K:Act→World→Prop} (hK:∀ v w',(∃ W t d F,St P l E Q a0 (upd L i) (updV V i v) w' W t d F)→K (aA.put o'.dst v) w') :
 if Region.wanted o' (yielded l.toArray aA.tmps) then o'.wp P aA w K Q else K (aA.put o'.dst undef) w:=by
 obtain ⟨h1,hE,h2,_⟩:=headB_spec hh
 have hso:=hsel o' (List.mem_of_getElem? ho)
 have cong:∀ t∈o'.looksAt l.toArray,(putAll (dn done) W l 0 a0).tmps[t]?=aA.tmps[t]?:=by
  rw [haA]
  exact agree hr ho fun e he hb=>by
   have:=hdp e he hb
   exact ⟨by rw [s.sub _ this,this],s.ag _ this⟩
 obtain ⟨o2,ho2,hwp⟩:=hwp
 obtain rfl:o2=o':=Option.some.inj (by rw [←ho,← ho2];simp)
 have nxt:∀ v w',(∀ x∈F,dep .any l.toArray x.1 30 o2=true∨x.2 w')→wpF P l.toArray Q r F ((putAll (dn done) W l 0 a0).put o2.dst v) w'→K (aA.put o2.dst v) w':=fun v w' hF hw=>by
  have eput:(putAll (dn done) W l 0 a0).put o2.dst v=putAll (dn (i::done)) (updV W i v) l 0 a0:=by
   rw [putAll_step l 0 a0 hap (Nat.zero_le _) (by simpa using ho) h1,dn_cons h1]
  refine hK v w' ⟨updV W i v,r,i::done,F,⟨fun k hk=>?_,h5,fun k hk=>?_,fun k hk hEk=>?_,fun k x hk hx e he hb=>?_,fun k hk hLk=>?_,by rw [←eput];exact hw⟩⟩
  · unfold upd at hk;unfold updV
    split
    · rfl
    · rename_i hne;rw [if_neg hne] at hk;exact s.ag k hk
  · rw [dn_cons h1];unfold upd at hk ⊢
    split
    · rfl
    · rename_i hne;rw [if_neg hne] at hk;exact s.sub k hk
  · rw [dn_cons h1] at hk;unfold upd at hk ⊢
    split
    · rfl
    · rename_i hne;rw [if_neg hne] at hk;exact s.eff k hk hEk
  · rw [dn_cons h1] at hk ⊢;unfold upd at hk ⊢
    split
    · rfl
    · by_cases hki:k=i
      · subst hki
        obtain rfl:x=o2:=Option.some.inj (hx.symm.trans ho)
        exact h2 x ho e he hb
      · rw [if_neg hki] at hk;exact s.dep k x hk hx e he hb
  · unfold upd at hLk
    have hki:k≠i:=fun e=>by rw [if_pos e] at hLk;cases hLk
    rw [if_neg hki] at hLk
    rw [dn_cons h1] at hk;unfold upd at hk;rw [if_neg hki] at hk
    obtain ⟨g1,x,hx,g2⟩:=s.rob k hk hLk
    show Rob P l E F _ w' k (if k=i then v else W k)
    rw [if_neg hki]
    have Ymv:∀ u,Y P l.toArray x (putAll (dn done) W l 0 a0) (W k) u→Y P l.toArray x (putAll (dn (i::done)) (updV W i v) l 0 a0) (W k) u:=fun u hy=>
     Y_congr (hsel x (List.mem_of_getElem? hx)) (agree hr hx (fun e he hb=>by
      have hd:=s.dep k x hk hx e he hb
      have hne:e.on≠i:=fun he=>by rw [he,h1] at hd;cases hd
      rw [dn_cons h1]
      exact ⟨(if_neg hne).symm,(if_neg hne).symm⟩)) hy
    refine ⟨g1,x,hx,?_⟩
    rcases g2 with g2 | ⟨R,g2,g3,g4⟩
    · exact .inl fun u=>Ymv u (g2 u)
    · refine .inr ⟨R,g2,?_,fun u hu=>Ymv u (g4 u hu)⟩
      rcases hF _ g2 with hh | hh
      · have:=dep_all hD 30 o2 hdp hh
        rw [hLk] at this;cases this
      · exact hh
 unfold wpList at hwp
 rw [wanted_congr o2 cong] at hwp
 split
 · rename_i hwt
   rw [if_pos hwt] at hwp
   rcases hwp with hwp | ⟨_,_,_,hout,_⟩
   · unfold Oper.wp at hwp ⊢
     rw [exec_congr o2 hso cong] at hwp
     generalize (execOp aA.eval o2).run P w=res at *
     cases res with
     | ok n w'=>
       cases n<;>simp only [Oper.upon] at hwp ⊢
       case value v=>exact nxt v w' hwp.2.2.1 hwp.2.2.2
       case skip=>exact nxt undef w' hwp.2.2.1 hwp.2.2.2
       case defer d=>
        have he:=hwp.2.1
        have hp:∀ (b:Act) (t:Option Tmp) (v:Value),(b.put t v).defers=b.defers:=fun b t v=>by cases t<;>rfl
        rw [hp] at he
        have:=congrArg List.length he
        simp at this
       case enter f args=>
        refine Calls.mono hwp fun e w'' he=>?_
        cases e with
        | returned v=>exact nxt v w'' he.2.2.1 he.2.2.2
        | panicked c=>cases he.1
        | outgrown=>obtain ⟨_,_,h,_⟩:=he;cases h
       case row row args=>exact Rows.mono hwp fun v w'' he=>nxt v w'' he.2.2.1 he.2.2.2
     | halt x w'=>
       cases x<;>simp only [Oper.upon] at hwp
       case panic v=>cases hwp.1
   · cases hout
 · rename_i hwt
   rw [if_neg hwt] at hwp
   exact nxt undef w hwp.2.2.1 hwp.2.2.2
end
theorem wp_region_f {id:Nat} {Q:Exit→Act→World→Prop} {a:Act} {w:World} {l:List Oper} (E:List Nat) (t:Tr) (hm:P.follows .mixedOrders=true) (hB:okF l E t=true)
 (h:∀ u,QC.Dr w u→wpF P l.toArray Q t [] a u):(Code.region id l.toArray true).wp P Q a w:=by
 have h:=h _ (QC.Dr.drew w)
 unfold okF at hB
 simp only [Bool.and_eq_true] at hB
 obtain ⟨⟨⟨⟨hap,hlx⟩,hr⟩,hns⟩,hord⟩:=hB
 have hsel:∀ o∈l,∀ cs b,o.op≠.select cs b:=fun o ho cs b=>by
  obtain ⟨j,hj⟩:=List.getElem?_of_mem ho
  exact Region.noSelect_spec hns j o cs b (by simpa using hj)
 have hlex:∀ i o,l[i]?=some o→∀ e∈o.after.toList,Region.binds .any e=true→e.on<i:=fun i o ho e he hb=>by
  have h1:=List.all_eq_true.1 hlx i (List.mem_range.2 (List.getElem?_eq_some_iff.1 ho).1)
  simp only [ho] at h1
  have:=List.all_eq_true.1 h1 e he
  simpa [hb] using this
 have p0:∀ V:Nat→Value,putAll (dn []) V l 0 a=a:=fun V=>by
  have:∀ (r:List Oper) (k:Nat) (a:Act),putAll (dn []) V r k a=a:=fun r=>by
   induction r with
   | nil=>intros;rfl
   | cons o r ih=>intro k a;unfold putAll;rw [if_neg (by unfold dn;simp)];exact ih _ _
  exact this l 0 a
 refine wp_region_g (fun L V w=>∃ W ord done F,St P l E Q a L V w W ord done F) hm hap hlex (fun V=>⟨V,t,[],[],⟨fun k hk=>(by cases hk),hord,fun k hk=>(by cases hk),fun k hk=>(by simp [dn] at hk),fun k o hk=>(by simp [dn] at hk),fun k hk=>(by simp [dn] at hk),by rw [p0];exact h⟩⟩) ?_ (fun L V w hL ⟨W,ord,done,F,s⟩=>s.finish hL _ _ _ _)
 intro i o ho L V u ⟨W,ord,done,F,s⟩ hLi hD hdp aA haA K hK
 have hi:i<l.length:=(List.getElem?_eq_some_iff.1 ho).1
 obtain ⟨W,ord,done,F,s,hcase⟩:=s.adv hap hr hsel hi
 have hso:=hsel o (List.mem_of_getElem? ho)
 have cong:∀ t∈o.looksAt l.toArray,(putAll (dn done) W l 0 a).tmps[t]?=aA.tmps[t]?:=by
  rw [haA]
  exact agree hr ho fun e he hb=>by
   have:=hdp e he hb
   exact ⟨by rw [s.sub _ this,this],s.ag _ this⟩
 cases hdi:dn done i
 · have no:∀ p,dn done p=false→depB l p i=true→False:=fun p hp hx=>by
    have:=s.sub p (dep_all hD 30 o hdp (depB_spec hx ho))
    rw [hp] at this;cases this
   rcases hcase with hc | ⟨p,r,rfl⟩ | ⟨p,r,p',r',rfl⟩
   · rw [hdi] at hc;cases hc
   · have od:=s.od
     unfold trB at od
     simp only [Bool.and_eq_true] at od
     obtain ⟨⟨hh,hal⟩,h5⟩:=od
     have hip:i=p:=by
      rcases List.mem_cons.1 (trB_mem hi _ _ s.od hdi) with e | hm
      · exact e
      · exact (no p (headB_spec hh).1 (List.all_eq_true.1 hal i hm)).elim
     subst hip
     exact stNext hap hr hsel s ho hh h5 s.wp hLi hD hdp haA hK
   · have od:=s.od
     unfold trB at od
     simp only [Bool.and_eq_true] at od
     obtain ⟨⟨⟨⟨⟨hh,hh'⟩,_⟩,hal⟩,h5⟩,h5'⟩:=od
     have hip:i=p∨i=p':=by
      rcases List.mem_cons.1 (trB_mem hi _ _ s.od hdi) with e | hm
      · exact .inl e
      · have:=List.all_eq_true.1 hal i hm
        simp only [Bool.or_eq_true,beq_iff_eq] at this
        rcases this with (h1 | h1) | h1
        · exact .inr h1
        · exact (no p (headB_spec hh).1 h1).elim
        · exact (no p' (headB_spec hh').1 h1).elim
     have hwp:=s.wp
     unfold wpF at hwp
     rcases hip with rfl | rfl
     · exact stNext hap hr hsel s ho hh h5 hwp.1 hLi hD hdp haA hK
     · exact stNext hap hr hsel s ho hh' h5' hwp.2 hLi hD hdp haA hK
 ·
  obtain ⟨g1,x,hx,g2⟩:=s.rob i hdi hLi
  obtain rfl:x=o:=Option.some.inj (hx.symm.trans ho)
  have hy:Y P l.toArray x (putAll (dn done) W l 0 a) (W i) u:=by
   rcases g2 with g2 | ⟨R,_,g3,g4⟩
   · exact g2 u
   · exact g4 u g3
  have hy:=Y_congr hso cong hy
  have nxt:K (aA.put x.dst (W i)) u:=hK (W i) u ⟨W,ord,done,F,⟨fun k hk=>by
   unfold upd at hk;unfold updV
   by_cases hki:k=i
   · rw [if_pos hki,hki]
   · rw [if_neg hki] at hk;rw [if_neg hki];exact s.ag k hk,s.od,fun k hk=>by
   unfold upd at hk
   by_cases hki:k=i
   · rw [hki];exact hdi
   · rw [if_neg hki] at hk;exact s.sub k hk,fun k hk hEk=>by
   unfold upd
   split
   · rfl
   · exact s.eff k hk hEk,s.dep,fun k hk hLk=>by
   unfold upd at hLk
   by_cases hki:k=i
   · rw [if_pos hki] at hLk;cases hLk
   · rw [if_neg hki] at hLk;exact s.rob k hk hLk,s.wp⟩⟩
  rcases hy with ⟨hw,hy⟩ | ⟨hw,hv⟩
  · rw [if_pos hw]
    refine wp_of_oat (C':=fun u'=>u'=u) (K:=fun a'=>a'=aA.put x.dst (W i)) (fun a' w' e1 e2=>?_) hy rfl
    rw [e1,e2];exact nxt
  · rw [if_neg (by rw [hw];decide)]
    rw [←hv];exact nxt
section
variable {ops:Array Oper} {Q:Exit→Act→World→Prop} {i j:Nat} {r s:Tr} {F:Fl} {a:Act} {w:World} {o:Oper}
theorem wpF_nil (h:Q .normal a w):wpF P ops Q .nil F a w:=h
theorem wpF_pure (ho:ops.toList[i]?=some o)
 (h:∀ K:Act→Prop,(∀ a,wpF P ops Q r F a w→K a)→if Region.wanted o (yielded ops a.tmps) then ∃ v,(∀ u,oat P o a (fun x=>x=u) u v)∧K (a.put o.dst v) else K (a.put o.dst undef)):wpF P ops Q (.q i r) F a w:=by
 have:=h _ (fun _ h=>h)
 refine ⟨o,by rw [←Array.getElem?_toList];exact ho,?_⟩
 split at this
 · rename_i hw
   obtain ⟨v,h1,h2⟩:=this
   exact ⟨v,.inl ⟨fun u=>.inl ⟨hw,h1 u⟩,h2⟩⟩
 · rename_i hw
   exact ⟨undef,.inl ⟨fun u=>.inr ⟨by simpa using hw,rfl⟩,this⟩⟩
theorem wpF_rest (R:World→Prop) (v:Value) (ho:ops.toList[i]?=some o) (hw:Region.wanted o (yielded ops a.tmps)=true) (hR:R w) (hy:∀ u,R u→oat P o a (fun x=>x=u) u v)
 (h:wpF P ops Q r ((i,R)::F) (a.put o.dst v) w):wpF P ops Q (.q i r) F a w:=
 ⟨o,by rw [←Array.getElem?_toList];exact ho,v,.inr ⟨R,hR,fun u hu=>.inl ⟨hw,hy u hu⟩,h⟩⟩
theorem wpF_load {ty:TypeId} {x:Operand} {p:Addr} {v:Value} (ho:ops.toList[i]?=some o) (hop:o.op=.load ty x) (hw:Region.wanted o (yielded ops a.tmps)=true) (hx:a.eval x=.pointer (some p)) (hc:w.cell? p=some v)
 (hl:∀ u:World,u.cell? p=some v→(Instr.loadAt ty (.pointer (some p))).run P u=.ok v u)
 (h:∀ K:Act→Prop,(∀ a,wpF P ops Q r ((i,fun u=>u.cell? p=some v)::F) a w→K a)→K (a.put o.dst v)):wpF P ops Q (.q i r) F a w:=by
 refine wpF_rest (fun u=>u.cell? p=some v) v ho hw hc (fun u hu=>?_) (h _ fun _ h=>h)
 unfold oat execOp
 simp only [hop,hx,Sem.run_bind,Sem.run_pure,Result.andThen_ok,hl u hu]
 exact ⟨rfl,rfl⟩
def effQ (P:Program) (ops:Array Oper) (Q:Exit→Act→World→Prop) (r:Tr) (F:Fl) (o:Oper) (a:Act) (e:Exit) (a':Act) (w':World):Prop:=
 e=.normal∧a'.defers=a.defers∧(∀ x∈F,dep .any ops x.1 30 o=true∨x.2 w')∧wpF P ops Q r F a' w'
theorem eff_ok {a':Act} {w':World} (hd:a'.defers=a.defers) (hF:∀ x∈F,dep .any ops x.1 30 o=true∨x.2 w') (h:wpF P ops Q r F a' w'):effQ P ops Q r F o a .normal a' w':=⟨rfl,hd,hF,h⟩
theorem wpF_one (ho:ops.toList[i]?=some o) (h:wpList P ops (effQ P ops Q r F o a) [o] a w):wpF P ops Q (.one i r) F a w:=
 ⟨o,by rw [←Array.getElem?_toList];exact ho,h⟩
theorem wpF_two (h1:wpF P ops Q (.one i r) F a w) (h2:wpF P ops Q (.one j s) F a w):wpF P ops Q (.two i r j s) F a w:=⟨h1,h2⟩
end
end QF
end Go.Proofs.YtdebnbgjgkbmaaaGreatDoor
namespace Go.Proofs.YtdebnbgjgkbmaaaGreatDoor
namespace Vw
open Go.RowKit
set_option linter.unusedVariables false
theorem own_sort {n k:Nat} {w:World} {u:Value} {S:List It} (h:w.ownsRow n 222 36 u k (flatI S)) (hk:S.length=k) (h20:k<20) :
 Calls Tryz.prog 122 #[u,FV] w fun e w'=>e=.returned (.tuple #[])∧∃ S',S'.Perm S∧SortedI S'∧w'.ownsRow n 222 36 u k (flatI S')∧w.grownBy w' u.ownBlock:=by
 rcases h.2 with ⟨rfl,rfl⟩ | ⟨g,cap,cur,rfl,hb,hg,hle,hmx,hsz,htk⟩
 · obtain rfl:S=[]:=List.length_eq_zero_iff.1 hk
   refine (sort_nil none 0 w).mono ?_
   rintro e w' ⟨rfl,rfl⟩
   exact ⟨rfl,[],List.Perm.refl _,List.Pairwise.nil,h,below_grownT (Below.refl _ _) _⟩
 · by_cases h0:S=[]
   · subst h0
     obtain rfl:k=0:=hk.symm
     refine (sort_nil (some ⟨g,0,none⟩) cap w).mono ?_
     rintro e w' ⟨rfl,rfl⟩
     exact ⟨rfl,[],List.Perm.refl _,List.Pairwise.nil,h,below_grownT (Below.refl _ _) _⟩
   · have ir:IR w g S (cur.toList.drop (k*36)):=by
      show w.heap[g]?=_
      rw [hg,← htk,List.take_append_drop]
     subst hk
     refine (sort_small g cap S _ w ir h0 h20).mono ?_
     rintro e w' ⟨rfl,S',hp,hs,hi,hbt⟩
     refine ⟨rfl,S',hp,hs,⟨by rw [flatI_len,hp.length_eq],.inr ⟨g,cap,_,rfl,hb,hi,hle,hmx,?_,?_⟩⟩,but_grownT hbt⟩
     · have:cur.toList.length=cap*36:=by rw [Array.length_toList];exact hsz
       have hl:=Nat.mul_le_mul_right 36 hle
       simp [flatI_len,hp.length_eq,this]
       omega
     · show (flatI S'++_).take _=_
       rw [List.take_left' (by rw [flatI_len,hp.length_eq])]
end Vw
end Go.Proofs.YtdebnbgjgkbmaaaGreatDoor
namespace Go.Proofs.YtdebnbgjgkbmaaaGreatDoor
open Oc
open Go.RowKit
set_option linter.unusedVariables false
theorem setl1_out (own:Bool) (s:Int) (b:Nat) (w:World) (hm:Ht.Pl.may s=false) (hc:w.cell? ⟨b,0,none⟩=some (.int .i64 s)) :
 Calls Tryz.prog 269 #[.bool own,.pointer (some ⟨b,0,none⟩)] w fun e w'=>e=.returned (.bool (Ht.Pl.above own s))∧QC.Dr w w':=by
 have MAY:=Lib.hid (fun u=>Ht.may_any s u)
 rw [hm] at MAY
 have HC:=Lib.hid hc
 have HA:=Lib.hid (show Ht.Pl.above own s=false by
  unfold Ht.Pl.above
  unfold Ht.Pl.may at hm
  rw [hm];rfl)
 clear hm hc
 rw [HA.out]
 go_enter Tryz.func269,Tryz.ntmps269
 go_wp2
 refine QC.wp_region_d [1,5] [0,1,2,3,4,5,6,7,8,9,10,11] (by kernel_rfl) (by kernel_rfl) (fun u d=>?_)
 have D:=Lib.hid d
 have cu:=(d.cell ⟨b,0,none⟩).trans HC.out
 clear d
 iterate 1
  (first
   | (apply QC.wpC_load
      (focus rfl)
      (focus decide)
      (focus rfl)
      (focus rfl)
      (focus rfl)
      (focus (assumption))
      (focus (intro u hu;go_simp))
      intro K hK
      go_simp
      refine hK _ ?_
      clear hK K)
   | (apply QC.wpC_pure
      (focus rfl)
      (focus decide)
      intro K hK
      go_simp
      first
       | (refine hK _ ?_;clear hK K)
       | (apply Exists.intro
          refine ⟨fun u=>?_,hK _ ?_⟩
          (focus (unfold QP.oat;go_simp;first | done | exact ⟨rfl,rfl⟩ | exact rfl))
          clear hK K)))
 apply QC.wpC_eff
 (focus rfl)
 (focus decide)
 go_wp2_with fail
 refine (MAY.out _).mono ?_
 rintro e u2 ⟨rfl,rfl⟩
 go_wp2
 refine QC.eff_ok rfl ?_ ?_
 · (repeat (first | exact QC.obl_nil | refine QC.obl_is (by assumption) ?_ | (apply QC.obl_dep;(focus decide))))
 iterate 3
  (first
   | (apply QC.wpC_load
      (focus rfl)
      (focus decide)
      (focus rfl)
      (focus rfl)
      (focus rfl)
      (focus (assumption))
      (focus (intro u hu;go_simp))
      intro K hK
      go_simp
      refine hK _ ?_
      clear hK K)
   | (apply QC.wpC_pure
      (focus rfl)
      (focus decide)
      intro K hK
      go_simp
      first
       | (refine hK _ ?_;clear hK K)
       | (apply Exists.intro
          refine ⟨fun u=>?_,hK _ ?_⟩
          (focus (unfold QP.oat;go_simp;first | done | exact ⟨rfl,rfl⟩ | exact rfl))
          clear hK K)))
 apply QC.wpC_eff
 (focus rfl)
 (focus decide)
 go_wp2
 refine QC.eff_ok rfl ?_ ?_
 · (repeat (first | exact QC.obl_nil | refine QC.obl_is (by assumption) ?_ | (apply QC.obl_dep;(focus decide))))
 iterate 6
  (first
   | (apply QC.wpC_load
      (focus rfl)
      (focus decide)
      (focus rfl)
      (focus rfl)
      (focus rfl)
      (focus (assumption))
      (focus (intro u hu;go_simp))
      intro K hK
      go_simp
      refine hK _ ?_
      clear hK K)
   | (apply QC.wpC_pure
      (focus rfl)
      (focus decide)
      intro K hK
      go_simp
      first
       | (refine hK _ ?_;clear hK K)
       | (apply Exists.intro
          refine ⟨fun u=>?_,hK _ ?_⟩
          (focus (unfold QP.oat;go_simp;first | done | exact ⟨rfl,rfl⟩ | exact rfl))
          clear hK K)))
 refine QC.wpC_nil ?_
 go_wp2
 go_ret
 exact ⟨rfl,D.out⟩
theorem setl1_gen (own:Bool) (s:Int) (b:Nat) (w:World) (h:Ht.HT w) (hc:w.cell? ⟨b,0,none⟩=some (.int .i64 s)) :
 Calls Tryz.prog 269 #[.bool own,.pointer (some ⟨b,0,none⟩)] w fun e w'=>e=.returned (.bool (Ht.Pl.above own s))∧QC.Dr w w':=by
 cases hm:Ht.Pl.may s with
 | false=>exact setl1_out own s b w hm hc
 | true=>
   have:0≤s∧s≤9:=by simpa [Ht.Pl.may] using hm
   exact setl1_any own s b w h this.1 this.2 hc
theorem settled_gen (own:Bool) (s:Int) (w:World) (h:Ht.HT w) :
 Calls Tryz.prog 197 #[.int .i64 s,.bool own] w fun e w'=>e=.returned (.tuple #[.bool (Ht.Pl.above own s),.bool (Ht.Pl.above (!own) s)])∧Below w.heap.size w w':=by
 obtain ⟨n,hn⟩:∃ n,w.heap.size=n:=⟨_,rfl⟩
 have hn8:8≤n:=hn▸h.size
 have r0:=heap_alloc_new w (.cells #[.int .i64 s] 3)
 have c0:(w.alloc (.cells #[.int .i64 s] 3)).cell? ⟨n,0,none⟩=some (.int .i64 s):=by rw [←hn];go_simp
 have b0:Below n w (w.alloc (.cells #[.int .i64 s] 3)):=hn▸(Below.refl _ _).alloc (Nat.le_refl _) _
 have S:=Lib.hid (fun o u (hb:QC.Dr (w.alloc (.cells #[.int .i64 s] 3)) u)=>setl1_gen o s n u (h.belowN (b0.trans hb.below) (by omega)) ((hb.cell _).trans c0))
 have HN:=Lib.hid hn
 have B0:=Lib.hid b0
 have D0:=Lib.hid (QC.Dr.refl (w.alloc (.cells #[.int .i64 s] 3)))
 clear h r0 c0 b0 hn
 go_enter Tryz.func197,Tryz.ntmps197
 go_wp2_with fail
 rw [HN.out]
 refine (S.out own _ D0.out).mono ?_
 rintro e u1 ⟨rfl,d1⟩
 have D1:=Lib.hid d1
 clear d1
 go_wp2_with fail
 refine (S.out (!own) _ D1.out).mono ?_
 rintro e u2 ⟨rfl,d2⟩
 have D2:=Lib.hid (D1.out.trans d2)
 clear d2
 go_wp2
 go_ret2
 exact ⟨rfl,HN.out▸B0.out.trans D2.out.below⟩
theorem place_gen (ours:Bool) (x:LV) (w:World) (h:Ht.HT w) :
 Calls Tryz.prog 121 #[.bool ours,.agg x.cells] w fun e w'=>e=.returned (.tuple #[.bool (pHas ours x),.bool (pOut ours x)])∧Below w.heap.size w w':=by
 obtain ⟨n,hn⟩:∃ n,w.heap.size=n:=⟨_,rfl⟩
 have hn8:8≤n:=hn▸h.size
 have r0:M.RowAt (w.alloc (.cells x.cells 164)) n 164 x.cells:=hn▸M.RowAt.new w 164 x.cells
 have b0:Below n w (w.alloc (.cells x.cells 164)):=hn▸(Below.refl _ _).alloc (Nat.le_refl _) _
 have c1:=(r0.cell 35).trans x.c35
 have c2:=(r0.cell 36).trans x.c36
 have S:=Lib.hid (settled_gen x.own x.st (w.alloc (.cells x.cells 164)) (h.belowN b0 (by omega)))
 have O:=Lib.hid (fun o u (hb:Below n w u)=>Ht.ours_any o x.st u (h.belowN hb (by omega)))
 have Th:=Lib.hid (fun o u (hb:Below n w u)=>Ht.theirs_any o x.st u (h.belowN hb (by omega)))
 have HN:=Lib.hid hn
 have B0:=Lib.hid b0
 have hsz:n<(w.alloc (.cells x.cells 164)).heap.size:=by rw [←hn];simp
 obtain ⟨v,hv⟩:∃ v,w.alloc (.cells x.cells 164)=v:=⟨_,rfl⟩
 rw [hv] at S B0 c1 c2 hsz
 have HV:=Lib.hid hv
 have E1:=Lib.hid (show pHas true x=Ht.Pl.ours x.own x.st from rfl)
 have E2:=Lib.hid (show pHas false x=Ht.Pl.ours (!x.own) x.st from rfl)
 have E3:=Lib.hid (show pOut true x=Ht.Pl.above x.own x.st from rfl)
 have E4:=Lib.hid (show pOut false x=Ht.Pl.above (!x.own) x.st from rfl)
 have HS:=Lib.hid hsz
 have K1:=Lib.hid c1;have K2:=Lib.hid c2
 clear h r0 b0 hn hv hsz
 generalize x.own=o at *
 generalize x.st=s at *
 generalize x.cells=C at *
 have k:=fun (u:World) (hb:Below v.heap.size v u)=>And.intro ((hb.cell (show n<v.heap.size from HS.out)).trans K1.out) ((hb.cell (show n<v.heap.size from HS.out)).trans K2.out)
 have KK:=Lib.hid k
 clear k
 cases ours
 all_goals
  first | rw [E1.out,E3.out] | rw [E2.out,E4.out]
  go_enter Tryz.func121,Tryz.ntmps121
  go_wp2_with (first | (rw [HN.out,HV.out]) | fail)
  refine (S.out).mono ?_
  rintro e u1 ⟨rfl,b1⟩
  have B1:=Lib.hid (B0.out.trans (b1.mono (Nat.le_of_lt HS.out)))
  obtain ⟨k1,k2⟩:=KK.out u1 b1
  clear b1 c1 c2
  go_wp2_with fail
  first | refine (O.out o u1 B1.out).mono ?_ | refine (Th.out o u1 B1.out).mono ?_
  rintro e u2 ⟨rfl,b2⟩
  have B2:=Lib.hid (B1.out.trans (b2.mono (by have:=B1.out.size;have:=HN.out;omega)))
  clear b2
  go_wp2
  go_ret2
  exact ⟨rfl,HN.out▸B2.out⟩
namespace Vw
set_option maxRecDepth 100000 in
theorem give_usm (p q:Nat) (loc am:Nat) (w:World) (h:w.cell? ⟨p,0,none⟩=some (.int .u64 loc)) (hf:w.frozen? ⟨p,0,none⟩=false) :
 Calls Tryz.prog 120 #[.bool true,.int .u64 am,.pointer (some ⟨p,0,none⟩),.pointer (some ⟨q,0,none⟩)] w fun e w'=>e=.returned (.tuple #[])∧w'=w.setCell ⟨p,0,none⟩ (.int .u64 (((loc+am)%18446744073709551616:Nat):Int)):=by
 have hw:IntKind.u64.wrap ((loc:Int)+(am:Int))=(((loc+am)%18446744073709551616:Nat):Int):=by rw [IntKind.wrap_u64];omega
 go_enter Tryz.func120,Tryz.ntmps120
 go_wp2
 go_end0
 exact ⟨rfl,rfl⟩
set_option maxRecDepth 100000 in
theorem give_themm (p q:Nat) (rem am:Nat) (w:World) (h:w.cell? ⟨q,0,none⟩=some (.int .u64 rem)) (hf:w.frozen? ⟨q,0,none⟩=false) :
 Calls Tryz.prog 120 #[.bool false,.int .u64 am,.pointer (some ⟨p,0,none⟩),.pointer (some ⟨q,0,none⟩)] w fun e w'=>e=.returned (.tuple #[])∧w'=w.setCell ⟨q,0,none⟩ (.int .u64 (((rem+am)%18446744073709551616:Nat):Int)):=by
 have hw:IntKind.u64.wrap ((rem:Int)+(am:Int))=(((rem+am)%18446744073709551616:Nat):Int):=by rw [IntKind.wrap_u64];omega
 go_enter Tryz.func120,Tryz.ntmps120
 go_wp2
 go_end0
 exact ⟨rfl,rfl⟩
end Vw
end Go.Proofs.YtdebnbgjgkbmaaaGreatDoor
