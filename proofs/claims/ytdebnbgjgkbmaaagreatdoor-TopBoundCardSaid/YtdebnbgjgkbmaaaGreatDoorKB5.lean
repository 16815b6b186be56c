import Derived.ArgAppend
import Derived.Below
import Derived.BigQuiet
import Derived.Calls
import Derived.ChangeKeysEq
import Derived.ChangeOld
import Derived.Deep.AppendLies
import Derived.Deep.AppendSrc
import Derived.Deep.DeepHandedRow
import Derived.Deep.LoopGhost
import Derived.Deep.MidRow
import Derived.Deep.Onto
import Derived.Deep.QuietTactic
import Derived.Deep.RegionHeld3
import Derived.Deep.RegionWith
import Derived.Deep.WholeRow
import Derived.DeepKeys
import Derived.DeepKeys3
import Derived.DeepKeys4
import Derived.Defers
import Derived.KernelRfl
import Derived.Laws.AppendOwn
import Derived.Laws.Bits64b
import Derived.Laws.BitsAllLaws
import Derived.Laws.BytesArg
import Derived.Laws.BytesString
import Derived.Laws.EntriesVeiled
import Derived.Laws.MakeOwn
import Derived.Laws.OwnMore
import Derived.Laws.Rows
import Derived.Laws.Tables
import Derived.Lib.BufferWrite
import Derived.Lib.Builder
import Derived.Lib.ConvBytes
import Derived.Lib.FrozenHead2
import Derived.Lib.Hide
import Derived.Lib.LaidTab
import Derived.Lib.Mul64
import Derived.Lib.SlFresh
import Derived.Lib.Strings
import Derived.Lib.TrailingZeros
import Derived.Lib.UnsafeStr
import Derived.LoopIn
import Derived.LoopNIn
import Derived.Maps.Keyed
import Derived.OpenShut
import Derived.Orders
import Derived.Outline
import Derived.OwnWalk
import Derived.OwnWalkIn
import Derived.ProofKit
import Derived.RangeFuncBound
import Derived.RangeFuncCalls
import Derived.RangeFuncFrom
import Derived.RangeFuncLeaves
import Derived.RangeFuncNested
import Derived.Recover
import Derived.Shelf.Abstract
import Derived.Shelf.RegionOpen
import Derived.Shelf.RegionOpenPlain
import Derived.Shelf.Spec.SlicesInsert
import Derived.Shelf.Strings.OnBuilder
import Derived.ShutString
import Derived.StillTailTactics
import Derived.TacticsInMore
import Derived.Test.YtdebnbgjgkbmaaaGreatDoorProg
import Derived.Test.YtdebnbgjgkbmaaaGreatDoorRows
import Derived.WalkKit
import Derived.WalkLawsBesides
import Derived.WalkSpells
import Derived.Test.YtdebnbgjgkbmaaaGreatDoorKB4
namespace Go.Proofs.YtdebnbgjgkbmaaaGreatDoor
namespace SX
open Go Go.RowKit
set_option linter.unusedVariables false
noncomputable def cA (h:Hp) (n o:Nat):Option Value:=Option.rec (motive:=fun _=>Option Value) none (fun l=>headL (dropL o l)) (ownL h n)
noncomputable def gaP (v:Option Value):Option (Nat × Nat):=match v with | some (.pointer (some a))=>some (a.block,a.off) | _=>none
noncomputable def gaS (e:Nat) (v:Option Value):Option (Nat × Nat × Nat):=match v with | some (.slice (some a) n es)=>Bool.rec (motive:=fun _=>Option (Nat × Nat × Nat)) none (some (a.block,a.off,n)) (Nat.beq es e) | _=>none
noncomputable def gaF (v:Option Value):Bool:=match v with | some (.bool b)=>Bool.rec (motive:=fun _=>Bool) true false b | _=>false
noncomputable def gaE (v:Option Value):Bool:=match v with | some (.string s)=>Nat.beq s.data.toList.length 0 | _=>false
noncomputable def gaT (v:Value):Bool:=match v with | .string s=>Nat.ble s.data.toList.length 1000000 | _=>false
noncomputable def gaW (v:Option Value):Bool:=match v with | some (.iface _ (.tuple vs))=>allL gaT vs.toList | some v=>gaT v | none=>false
noncomputable def obB {α:Type} (o:Option α) (f:α→Bool):Bool:=Option.rec (motive:=fun _=>Bool) false f o
noncomputable def pN (c s:Nat):Nat:=Nat.casesOn (motive:=fun _=>Nat) s (Nat.casesOn (motive:=fun _=>Nat) c 0 fun _=>1) fun _=>0
noncomputable def ck5 (h:Hp) (l:Nat × Nat):Bool:=and (gaF (cA h l.1 (Nat.add l.2 6))) (gaE (cA h l.1 (Nat.add l.2 3)))
noncomputable def ck4 (h:Hp) (p:Nat) (q:Nat × Nat × Nat):Bool:=and (Nat.blt p q.2.2) (obB (gaP (cA h q.1 (Nat.add (Nat.add q.2.1 (Nat.mul p 2)) 1))) (ck5 h))
noncomputable def ck3 (h:Hp) (p:Nat) (r:Nat × Nat):Bool:=obB (gaS 2 (cA h r.1 (Nat.add r.2 1))) (ck4 h p)
noncomputable def ck2 (h:Hp) (p:Nat) (d:Nat × Nat):Bool:=obB (gaP (cA h d.1 d.2)) (ck3 h p)
noncomputable def ck1 (h:Hp) (nn no c s:Nat):Bool:=obB (gaP (cA h nn (Nat.add no (Nat.add c s)))) (ck2 h (pN c s))
noncomputable def ckW (h:Hp) (gn go c s:Nat):Bool:=gaW (cA h gn (Nat.add (Nat.add go (Nat.mul c 2)) s))
noncomputable def ckC (h:Hp) (nn no gn go c:Nat):Bool:=and (and (ck1 h nn no c 0) (ck1 h nn no c 1)) (and (ckW h gn go c 0) (ckW h gn go c 1))
noncomputable def ckA (h:Hp) (nn no gn go:Nat) (M:Nat):Bool:=Nat.rec (motive:=fun _=>Bool) true (fun c ih=>Bool.rec (motive:=fun _=>Bool) false ih (ckC h nn no gn go c)) M
noncomputable def gw3 (h:Hp) (q:Nat × Nat × Nat) (g:Nat × Nat × Nat):Bool:=and (and (Nat.blt g.2.2 q.2.2) (and (Nat.blt 0 g.2.2) (Nat.ble g.2.2 900))) (ckA h q.1 q.2.1 g.1 g.2.1 g.2.2)
noncomputable def gw2 (h:Hp) (n o:Nat) (q:Nat × Nat × Nat):Bool:=obB (gaS 2 (cA h n (Nat.add o 1))) (gw3 h q)
noncomputable def gaQ (h:Hp) (n o:Nat):Bool:=obB (gaS 1 (cA h n o)) (gw2 h n o)
noncomputable def hkGa (args:List Value) (h:Hp) (nx:Nat):XR:=match args with | [.pointer (some a)]=>Bool.rec (motive:=fun _=>XR) (.bad "gather") (.ok (.tuple #[]) h nx) (gaQ h a.block a.off) | _=>.bad "gather"
section
variable {C:Cfg} {σ:Sig} {ρ:Rho} {h:Hp} {nx:Nat} {w:World}
theorem cA_ok (s:Sim σ C.E.gl ρ h nx w) {n o:Nat} {p:Pl} (hp:ρ n=some p) {v:Value} (e:cA h n o=some v):∃ v',w.cell? ⟨p.b,p.o+o,none⟩=some v'∧VR σ ρ v v'∧w.frozen? ⟨p.b,p.o+o,none⟩=false:=by
 unfold cA at e
 cases hl:ownL h n with
 | none=>rw [hl] at e;cases e
 | some l=>
   rw [hl] at e
   have e:headL (dropL o l)=some v:=e
   obtain ⟨hc,_⟩:=s.own hp hl
   rw [dropL_eq] at e
   have hlt:o<l.length:=by
    rcases Nat.lt_or_ge o l.length with q | q
    · exact q
    · rw [List.drop_eq_nil_of_le q] at e;cases e
   have hg:l[o]?=some v:=by
    rw [←e,← Nat.add_zero o,← List.getElem?_drop]
    cases l.drop (o+0)<;>simp [headL]
   obtain ⟨h1,h2,h3,L,h4,h5⟩:=hc
   have hL:o<L.length:=by have:=h4.1;omega
   have h6:=List.getElem?_eq_getElem hL
   exact ⟨L[o],h5 o _ h6,(h4.2 o v _ hg h6).1,h2 _ (by omega)⟩
theorem gaP_ok (s:Sim σ C.E.gl ρ h nx w) {n o:Nat} {p:Pl} (hp:ρ n=some p) {d:Nat × Nat} (e:gaP (cA h n o)=some d):∃ q,ρ d.1=some q∧w.cell? ⟨p.b,p.o+o,none⟩=some (.pointer (some ⟨q.b,q.o+d.2,none⟩)):=by
 unfold gaP at e
 split at e
 · next a ha=>
   cases e
   obtain ⟨v',h1,h2,h3⟩:=cA_ok s hp ha
   obtain ⟨nm,off,sp⟩:=a
   obtain ⟨q,hq,_,rfl⟩:=h2.ptr_inv
   exact ⟨q,hq,h1⟩
 · cases e
theorem gaS_ok (s:Sim σ C.E.gl ρ h nx w) {n o k:Nat} {p:Pl} (hp:ρ n=some p) {d:Nat × Nat × Nat} (hd:0<d.2.2) (e:gaS k (cA h n o)=some d):∃ q cap,ρ d.1=some q∧w.cell? ⟨p.b,p.o+o,none⟩=some (.slice (some ⟨q.b,q.o+d.2.1,none⟩) d.2.2 cap):=by
 unfold gaS at e
 split at e
 · next a m es ha=>
   cases hb:Nat.beq es k with
   | false=>rw [hb] at e;cases e
   | true=>
     rw [hb] at e
     cases e
     obtain ⟨v',h1,h2,h3⟩:=cA_ok s hp ha
     obtain ⟨nm,off,sp⟩:=a
     obtain ⟨q,off',cap,hq,_,q1,q2,q3,q4,rfl⟩:=h2.slice_inv
     have hd:0<m:=hd
     rw [q3 (by omega)] at h1
     exact ⟨q,cap,hq,h1⟩
 · cases e
theorem obB_some {α:Type} {o:Option α} {f:α→Bool} (e:obB o f=true):∃ x,o=some x∧f x=true:=by
 cases o with
 | none=>cases e
 | some x=>exact ⟨x,rfl,e⟩
theorem pN_eq (c s:Nat):pN c s=Ga.peerN c s:=by
 unfold Ga.peerN
 cases s with
 | zero=>cases c<;>rfl
 | succ s=>rw [if_neg (by omega)];rfl
theorem ck1_ok (s:Sim σ C.E.gl ρ h nx w) {nn no c t:Nat} {p:Pl} (hp:ρ nn=some p) (e:ck1 h nn no c t=true):∃ lb lo,Ga.LkAt w p.b (p.o+no) (c+t) (Ga.peerN c t) lb lo∧w.cell? ⟨lb,lo+6,none⟩=some (.bool false)∧w.cell? ⟨lb,lo+3,none⟩=some (.string ⟨#[]⟩)∧w.frozen? ⟨lb,lo+3,none⟩=false:=by
 obtain ⟨d,e1,e2⟩:=obB_some e
 obtain ⟨r,e3,e4⟩:=obB_some e2
 obtain ⟨q,e5,e6⟩:=obB_some e4
 have e6:(Nat.blt (pN c t) q.2.2&&obB (gaP (cA h q.1 (Nat.add (Nat.add q.2.1 (Nat.mul (pN c t) 2)) 1))) (ck5 h))=true:=e6
 rw [Bool.and_eq_true] at e6
 have hlt:=blt_lt e6.1
 obtain ⟨l,e7,e8⟩:=obB_some e6.2
 have e8:(gaF (cA h l.1 (Nat.add l.2 6))&&gaE (cA h l.1 (Nat.add l.2 3)))=true:=e8
 rw [Bool.and_eq_true] at e8
 obtain ⟨pd,hd,c1⟩:=gaP_ok s hp e1
 obtain ⟨pr,hr,c2⟩:=gaP_ok s hd e3
 obtain ⟨pq,cap,hq,c3⟩:=gaS_ok s hr (by omega) e5
 obtain ⟨pl,hl,c4⟩:=gaP_ok s hq e7
 rw [pN_eq] at hlt c4
 refine ⟨pl.b,pl.o+l.2,⟨pd.b,pd.o+d.2,pr.b,pr.o+r.2,pq.b,pq.o+q.2.1,q.2.2,cap,?_,c2,?_,hlt,?_⟩,?_,?_⟩
 · rw [Nat.add_assoc];exact c1
 · rw [Nat.add_assoc];exact c3
 · rw [show pq.o+q.2.1+Ga.peerN c t*2+1=pq.o+Nat.add (Nat.add q.2.1 (Nat.mul (Ga.peerN c t) 2)) 1 from by show _=pq.o+(q.2.1+Ga.peerN c t*2+1);omega];exact c4
 · have h1:=e8.1
   unfold gaF at h1
   split at h1
   · next b hb=>
     cases b with
     | true=>cases h1
     | false=>
       obtain ⟨v',g1,g2,g3⟩:=cA_ok s hl hb
       obtain rfl:=g2.bool_inv
       rw [Nat.add_assoc];exact g1
   · cases h1
 · have h1:=e8.2
   unfold gaE at h1
   split at h1
   · next t ht=>
     obtain ⟨v',g1,g2,g3⟩:=cA_ok s hl ht
     obtain rfl:=g2.string_inv
     have:t=⟨#[]⟩:=by
      have h2:=List.length_eq_zero_iff.1 (Nat.eq_of_beq_eq_true h1)
      exact str_ext (by rw [h2])
     subst this
     rw [Nat.add_assoc]
     exact ⟨g1,g3⟩
   · cases h1
theorem ckW_ok (s:Sim σ C.E.gl ρ h nx w) {gn go c t:Nat} {p:Pl} (hp:ρ gn=some p) (e:ckW h gn go c t=true):∃ str:ByteArray,w.cell? ⟨p.b,p.o+go+c*2+t,none⟩=some (.string str)∧str.size≤1000000∧w.frozen? ⟨p.b,p.o+go+c*2+t,none⟩=false:=by
 have hT:∀ {v:Value},gaT v=true→∃ str:ByteArray,v=.string str∧str.size≤1000000:=fun {v} hv=>by
  cases v with
  | string str=>exact ⟨str,rfl,by have:=Nat.le_of_ble_eq_true hv;rwa [Array.length_toList] at this⟩
  | _=>cases hv
 have ho:p.o+go+c*2+t=p.o+Nat.add (Nat.add go (Nat.mul c 2)) t:=by show _=p.o+(go+c*2+t);omega
 unfold ckW gaW at e
 rw [ho]
 split at e
 · next tt vs hv=>
   obtain ⟨v',g1,g2,g3⟩:=cA_ok s hp hv
   cases g2 with
   | vec _ _ _ h1 h2=>
     obtain ⟨str,rfl,hs⟩:=hT (allL_mem e _ (List.mem_of_getElem? h1))
     exact ⟨str,g1,hs,g3⟩
 · next v hn hv=>
   obtain ⟨str,rfl,hs⟩:=hT e
   obtain ⟨v',g1,g2,g3⟩:=cA_ok s hp hv
   obtain rfl:=g2.string_inv
   exact ⟨str,g1,hs,g3⟩
 · cases e
theorem ckA_ok {nn no gn go:Nat}:∀ {M:Nat},ckA h nn no gn go M=true→∀ c,c<M→ckC h nn no gn go c=true
 | 0,_,c,hc=>by omega
 | M+1,e,c,hc=>by
   have e:Bool.rec (motive:=fun _=>Bool) false (ckA h nn no gn go M) (ckC h nn no gn go M)=true:=e
   cases hm:ckC h nn no gn go M with
   | false=>rw [hm] at e;cases e
   | true=>
     rw [hm] at e
     by_cases hcm:c=M
     · rw [hcm];exact hm
     · exact ckA_ok (M:=M) e c (by omega)
theorem ga_ok (hP:C.E.P=Tryz.prog) {args:List Value} {v:Value} {h':Hp} {nx':Nat} {args':Array Value} (e:hkGa args h nx=.ok v h' nx') (s:Sim σ C.E.gl ρ h nx w) (hv:VL σ ρ args args'.toList) :
 Calls C.E.P 88 args' w fun e w'=>∃ v',e=.returned v'∧Did C.E σ ρ h nx w v h' nx' v' w':=by
 unfold hkGa at e
 split at e
 · rename_i a
   obtain ⟨x',hx,hxv⟩:=hv.one
   obtain ⟨n,off,sp⟩:=a
   obtain ⟨p,hp,_,rfl⟩:=hxv.ptr_inv
   have ha:args'=#[.pointer (some ⟨p.b,p.o+off,none⟩)]:=by apply Array.ext';exact hx
   subst ha
   cases hq:gaQ h n off with
   | false=>rw [hq] at e;cases e
   | true=>
     rw [hq] at e
     injection e with q1 q2 q3
     subst q1;subst q2;subst q3
     obtain ⟨q,e1,e2⟩:=obB_some hq
     obtain ⟨g,e3,e4⟩:=obB_some e2
     have e4:((Nat.blt g.2.2 q.2.2&&(Nat.blt 0 g.2.2&&Nat.ble g.2.2 900))&&ckA h q.1 q.2.1 g.1 g.2.1 g.2.2)=true:=e4
     simp only [Bool.and_eq_true] at e4
     obtain ⟨⟨i1,i2,i3⟩,i4⟩:=e4
     have i1:=blt_lt i1
     have i2:=blt_lt i2
     have i3:=Nat.le_of_ble_eq_true i3
     obtain ⟨pq,capq,hpq,c1⟩:=gaS_ok s hp (by omega) e1
     obtain ⟨pg,capg,hpg,c2⟩:=gaS_ok s hp i2 e3
     rw [hP]
     refine (Ga.gather_any p.b (p.o+off) pq.b (pq.o+q.2.1) q.2.2 capq pg.b (pg.o+g.2.1) g.2.2 capg w c1 (by rw [Nat.add_assoc];exact c2) i3 i1 ⟨fun c t hc ht=>?_,fun c t hc ht=>?_⟩).mono ?_
     · have hk:((ck1 h q.1 q.2.1 c 0&&ck1 h q.1 q.2.1 c 1)&&(ckW h g.1 g.2.1 c 0&&ckW h g.1 g.2.1 c 1))=true:=ckA_ok i4 c hc
       simp only [Bool.and_eq_true] at hk
       have h01:t=0∨t=1:=by omega
       rcases h01 with rfl | rfl
       · exact ck1_ok s hpq hk.1.1
       · exact ck1_ok s hpq hk.1.2
     · have hk:((ck1 h q.1 q.2.1 c 0&&ck1 h q.1 q.2.1 c 1)&&(ckW h g.1 g.2.1 c 0&&ckW h g.1 g.2.1 c 1))=true:=ckA_ok i4 c hc
       simp only [Bool.and_eq_true] at hk
       have h01:t=0∨t=1:=by omega
       rcases h01 with rfl | rfl
       · exact ckW_ok s hpg hk.2.1
       · exact ckW_ok s hpg hk.2.2
     · rintro e w' ⟨rfl,hb⟩
       exact ⟨_,rfl,did_below s hb (.tuple _ _ rfl (fun i x x' a _=>by simp at a))⟩
 · cases e
end
end SX
namespace SX
open Go
set_option linter.unusedVariables false
noncomputable def qT:Value:=.bool true
noncomputable def qF:Value:=.bool false
noncomputable def qI (n:Nat):Value:=.int .i64 (.ofNat n)
noncomputable def qU (n:Nat):Value:=.int .u64 (.ofNat n)
noncomputable def qB (n:Nat):Value:=.int .u8 (.ofNat n)
noncomputable def qW (n:Nat):Value:=.int .u32 (.ofNat n)
noncomputable def qS (l:List Nat):Value:=.string (strB l)
noncomputable def qP (b o:Nat):Value:=.pointer (some ⟨b,o,none⟩)
noncomputable def qL (b o n c:Nat):Value:=.slice (some ⟨b,o,none⟩) n c
noncomputable def qN (t n m:Nat):Value:=.iface t (.pointer (some ⟨n,m,none⟩))
noncomputable def qR (n:Nat) (v:Value):List Value:=Nat.rec (motive:=fun _=>List Value) [] (fun _ ih=>List.cons v ih) n
noncomputable def qBs (l:List Nat):List Value:=l.map qB
noncomputable def sL (c:Code):Code:=match c with | .seq a _=>a | c=>c
noncomputable def sR (c:Code):Code:=match c with | .seq _ b=>b | c=>c
noncomputable def bO (c:Code):Code:=match c with | .block _ b=>b | c=>c
noncomputable def lO (c:Code):Code:=match c with | .loop b=>b | c=>c
end SX
namespace SX
open Go Go.RowKit
set_option linter.unusedVariables false
abbrev HkF:=Option (Clr→List Value→Hp→Nat→XR)
noncomputable def hkPut (k:List Value→Hp→Nat→XR):HkF:=some fun _=>k
noncomputable def hkIf (b:Bool) (x y:HkF):HkF:=Bool.rec (motive:=fun _=>HkF) y x b
noncomputable def hk1 (f:FuncId):HkF:=
 hkIf (Nat.beq f 128) (hkPut (laneX hkSum)) (hkIf (Nat.beq f 131) (hkPut hkChain) (hkIf (Nat.beq f 250) (hkPut hkCc) (hkIf (Nat.beq f 284) (hkPut hkJn) (hkIf (Nat.beq f 27) (hkPut (laneX hkEnc)) (hkIf (Nat.beq f 31) (hkPut (laneX hkDec)) (hkIf (Nat.beq f 48) (hkPut hkFee) (hkIf (Nat.beq f 88) (hkPut hkGa) none)))))))
theorem hkIf_some {b:Bool} {x y:HkF} {k:Clr→List Value→Hp→Nat→XR} (h:hkIf b x y=some k):(b=true∧x=some k)∨y=some k:=by
 cases b with
 | false=>exact .inr h
 | true=>exact .inl ⟨rfl,h⟩
theorem hkPut_some {g:List Value→Hp→Nat→XR} {k:Clr→List Value→Hp→Nat→XR} (h:hkPut g=some k):k=fun _=>g:=by
 unfold hkPut at h
 exact (Option.some.inj h).symm
theorem hk1_ok (σ:Sig):HkOk C1 σ hk1:=by
 intro f k hk cl hcl ρ args h nx v h' nx' w args' e s hv
 unfold hk1 at hk
 rcases hkIf_some hk with ⟨hb,hx⟩ | hk
 · obtain rfl:=Nat.eq_of_beq_eq_true hb
   obtain rfl:=hkPut_some hx
   exact laneX_ok pure_sum e s hv (fun e hv=>sum_ok rfl glT_tabs e s hv)
 rcases hkIf_some hk with ⟨hb,hx⟩ | hk
 · obtain rfl:=Nat.eq_of_beq_eq_true hb
   obtain rfl:=hkPut_some hx
   exact chain_ok rfl glT_tabs e s hv
 rcases hkIf_some hk with ⟨hb,hx⟩ | hk
 · obtain rfl:=Nat.eq_of_beq_eq_true hb
   obtain rfl:=hkPut_some hx
   exact cc_ok rfl e s hv
 rcases hkIf_some hk with ⟨hb,hx⟩ | hk
 · obtain rfl:=Nat.eq_of_beq_eq_true hb
   obtain rfl:=hkPut_some hx
   exact jn_ok rfl e s hv
 rcases hkIf_some hk with ⟨hb,hx⟩ | hk
 · obtain rfl:=Nat.eq_of_beq_eq_true hb
   obtain rfl:=hkPut_some hx
   exact laneX_ok pure_enc e s hv (fun e hv=>enc_ok rfl e s hv)
 rcases hkIf_some hk with ⟨hb,hx⟩ | hk
 · obtain rfl:=Nat.eq_of_beq_eq_true hb
   obtain rfl:=hkPut_some hx
   exact laneX_ok pure_dec e s hv (fun e hv=>dec_ok rfl e s hv)
 rcases hkIf_some hk with ⟨hb,hx⟩ | hk
 · obtain rfl:=Nat.eq_of_beq_eq_true hb
   obtain rfl:=hkPut_some hx
   exact fee_ok rfl e s hv
 rcases hkIf_some hk with ⟨hb,hx⟩ | hk
 · obtain rfl:=Nat.eq_of_beq_eq_true hb
   obtain rfl:=hkPut_some hx
   exact ga_ok rfl e s hv
 cases hk
noncomputable def cl1:Clr:=callF C1 hk1 10000 60
theorem cl1_ok (σ:Sig):CallOk C1 σ cl1:=callF_ok cfg1 fns1 (hk1_ok σ) 10000 60
end SX
namespace SX
open Go Go.RowKit
set_option linter.unusedVariables false
set_option maxRecDepth 1000000
noncomputable def bd19:Code:=(Tryz.f19.body).getD .skip
noncomputable def c19a:Code:=sL bd19
noncomputable def c19b:Code:=sL (sR bd19)
noncomputable def c19c:Code:=sL (sL (sR (sR bd19)))
noncomputable def c19l:Code:=lO (bO (sR (sL (sR (sR bd19)))))
noncomputable def c19z:Code:=sR (sR (sR bd19))
theorem body19:Tryz.f19.body=some (.seq c19a (.seq c19b (.seq (.seq c19c (.block 0 (.loop c19l))) c19z))):=by kernel_rfl
theorem ok19a:codeOk C1.E 29 c19a=true:=by kernel_rfl
theorem ok19b:codeOk C1.E 29 c19b=true:=by kernel_rfl
theorem ok19c:codeOk C1.E 29 c19c=true:=by kernel_rfl
theorem ok19l:codeOk C1.E 29 c19l=true:=by kernel_rfl
theorem ok19z:codeOk C1.E 29 c19z=true:=by kernel_rfl
noncomputable def fL:KX:=codeF C1 cl1 1000 c19l
end SX
namespace SX
open Go Go.RowKit
set_option linter.unusedVariables false
set_option maxRecDepth 1000000
noncomputable def qTop:Value:=.iface 0 (.int .u8 (.ofNat 0))
noncomputable def qV (l:List Value):Value:=.iface 0 (.tuple ⟨l⟩)
noncomputable def upL (c:Nat):List Value:=(List.range LN).map fun i=>.int .u64 (.ofNat (Nat.add c i))
noncomputable def qVu (c:Nat):Value:=.iface 0 (.tuple ⟨upL c⟩)
noncomputable def qVd (c:Nat):Value:=.iface 0 (.tuple ⟨(List.range LN).map fun i=>.int .u64 (.ofNat (Nat.sub c i))⟩)
noncomputable def bytesN (n m:Nat):List Nat:=(List.range n).map fun i=>Nat.mod (Nat.div m (Nat.pow 256 (Nat.sub (Nat.sub n 1) i))) 256
noncomputable def qX (n m:Nat):Value:=.string (strB (bytesN n m))
noncomputable def qVx (n b d:Nat):Value:=.iface 0 (.tuple ⟨(List.range LN).map fun i=>qX n (Nat.add b (Nat.mul i d))⟩)
noncomputable def qVt (a d M:Nat):Value:=.iface 0 (.tuple ⟨(List.range LN).map fun i=>.int .i64 (.ofNat (Nat.add a (Nat.mul d (Bool.rec (motive:=fun _=>Nat) 0 i (Nat.ble i M)))))⟩)
noncomputable def qTu:Value:=.iface 0 (.int .u64 (.ofNat 0))
noncomputable def qTp:Value:=.iface 0 (.pointer none)
noncomputable def t3 {α:Type} (k:Nat) (a b c:α):α:=Nat.casesOn (motive:=fun _=>α) k a fun j=>Nat.casesOn (motive:=fun _=>α) j b fun _=>c
noncomputable def ln (k a d:Nat):Nat:=Nat.add a (Nat.mul k d)
noncomputable def skipL (f:List Value→List Value) (n:Nat):List Value→List Value:=Nat.rec (motive:=fun _=>List Value→List Value) f (fun _ ih l=>List.casesOn (motive:=fun _=>List Value) l [] fun x r=>List.cons x (ih r)) n
noncomputable def chL (d:List (Nat × Value)):List Value→List Value:=List.rec (motive:=fun _=>List Value→List Value) (fun l=>l) (fun p _ ih l=>skipL (fun l=>List.casesOn (motive:=fun _=>List Value) l [] fun _ r=>List.cons p.2 (ih r)) p.1 l) d
noncomputable def cC (d:List (Nat × Value)) (b:Blk):Blk:=match b with | .cells l=>.cells (chL d l) | b=>b
noncomputable def cN (c:Blk) (_:Blk):Blk:=c
noncomputable def fndB {β:Type} (n:Nat) (z:List Nat→List Blk→β) (y:Blk→List Nat→List Blk→β):List Nat→List Blk→β:=List.rec (motive:=fun _=>List Blk→β) (fun bs=>z [] []) (fun x kp ih bs=>List.casesOn (motive:=fun _=>β) bs (z [] []) fun b r=>Bool.rec (motive:=fun _=>β) (Bool.rec (motive:=fun _=>β) (z (List.cons x kp) (List.cons b r)) (ih r) (Nat.blt x n)) (y b kp r) (Nat.beq x n))
abbrev Ovr:=List (Nat × (Blk→Blk))
noncomputable def ovB {β:Type} (n:Nat) (ov:Ovr) (k:(Blk→Blk)→Ovr→β):β:=List.casesOn (motive:=fun _=>β) ov (k (fun b=>b) []) fun p r=>Bool.rec (motive:=fun _=>β) (k (fun b=>b) (List.cons p r)) (k p.2 r) (Nat.beq p.1 n)
noncomputable def mrg (kp:List Nat):List Nat→List Blk→Ovr→List Blk:=List.rec (motive:=fun _=>List Nat→List Blk→Ovr→List Blk) (fun _ _ _=>[]) (fun n _ ih kp bs ov=>ovB n ov fun f ov=>fndB n (fun kp bs=>List.cons (f (.cells [])) (ih kp bs ov)) (fun b kp bs=>List.cons (f b) (ih kp bs ov)) kp bs) kp
noncomputable def dif (s:SS) (d:List (Nat × Value)) (kp:List Nat) (ov:Ovr) (nx:Nat):SS:=⟨chL d s.vs,kp,mrg kp s.kp s.bs ov,nx⟩
def AtH (C:Cfg) (B:Bas) (σ:Sig) (s:SS) (w:World):Prop:=∃ ρ,Sim σ C.E.gl ρ (mkH s.kp s.bs) s.nx w∧Ext B.ρ B.h B.nx B.w ρ (mkH s.kp s.bs) s.nx w
noncomputable def okR1 (q:QV) (m:Nat) (s:SS) (u v:Value) (h:Hp) (nx:Nat):Bool:=and (eqV v u) (okS2 q 0 m s .nil h nx)
noncomputable def okR (q:QV) (m:Nat) (s:SS) (u:Value) (r:XR):Bool:=XR.rec (motive:=fun _=>Bool) (fun _=>false) (okR1 q m s u) r
theorem sim_keep2 {C:Cfg} {B:Bas} {σ σ':Sig} {m:Nat} {q:QV} (hg:GlOk C) (hB:B.ok) (hm:B.nx≤m) (h16:GN≤m) (hq:QOk σ σ' q) {s:SS} {tm:Sl} {h:Hp} {nx:Nat} {ρ:Rho} {w:World} (hk:okS2 q 0 m s tm h nx=true) (S:Sim σ C.E.gl ρ h nx w) (X:Ext B.ρ B.h B.nx B.w ρ h nx w):∃ ρ2,(∀ n p,n<s.nx→ρ n=some p→ρ2 n=some p)∧Sim σ' C.E.gl ρ2 (mkH s.kp s.bs) s.nx w∧Ext B.ρ B.h B.nx B.w ρ2 (mkH s.kp s.bs) s.nx w:=by
 have hk:((Nat.ble s.nx nx&&(Nat.ble m s.nx&&(ltN s.nx s.kp&&ltH s.kp)))&&(wkL (wkV q) (valsF tm 0) s.vs&&(allL (nbV s.nx) s.vs&&(pkW q h s.kp s.bs&&allK (nbB s.nx) s.bs))))=true:=hk
 simp only [Bool.and_eq_true] at hk
 obtain ⟨⟨k1,k2,k3,k4⟩,k5,k6,k7,k8⟩:=hk
 have k1:=Nat.le_of_ble_eq_true k1
 have k2:=Nat.le_of_ble_eq_true k2
 obtain ⟨S2,X2⟩:=S.weak hq (fun n hn b hb=>(hg n hn b hb).1 q) (pkW_ok s.kp s.bs (ltH_mem k4) k7)
 have S3:=S2.trim (N:=s.nx) (by omega) k1 (fun n hn b hb=>by
  obtain ⟨h1,h2⟩:=mkH_key s.kp s.bs n b (ltH_mem k4) hn hb
  exact ⟨ltN_mem k3 n h1,allK_mem k8 b h2⟩) (fun n hn b hb=>(hg n hn b hb).2 _)
 exact ⟨_,fun n p hn hp=>by unfold rhoC;rw [if_pos hn];exact hp,S3,(X.trans X2).trim hB (by omega) k1⟩
theorem sim_keep {C:Cfg} {B:Bas} {σ σ':Sig} {m:Nat} {q:QV} (hg:GlOk C) (hB:B.ok) (hm:B.nx≤m) (h16:GN≤m) (hq:QOk σ σ' q) {s:SS} {tm:Sl} {h:Hp} {nx:Nat} {ρ:Rho} {w:World} (hk:okS2 q 0 m s tm h nx=true) (S:Sim σ C.E.gl ρ h nx w) (X:Ext B.ρ B.h B.nx B.w ρ h nx w):AtH C B σ' s w:=by
 obtain ⟨ρ2,_,h1,h2⟩:=sim_keep2 hg hB hm h16 hq hk S X
 exact ⟨ρ2,h1,h2⟩
theorem call_at {C:Cfg} {B:Bas} {σ σ':Sig} {m:Nat} {q:QV} {cl:Clr} (hcl:CallOk C σ cl) (hg:GlOk C) (hB:B.ok) (hm:B.nx≤m) (h16:GN≤m) (hq:QOk σ σ' q) {f:FuncId} {args:List Value} {s t:SS} {u:Value} (hu:flat u=true) {args':Array Value} {w:World} (hk:okR q m t u (cl f args (mkH s.kp s.bs) s.nx)=true)
 (hv:∀ ρ,(∀ n p,B.ρ n=some p→ρ n=some p)→VL σ ρ args args'.toList) (h:AtH C B σ s w):Calls C.E.P f args' w fun e w'=>e=.returned u∧AtH C B σ' t w':=by
 obtain ⟨ρ,S,X⟩:=h
 cases hr:cl f args (mkH s.kp s.bs) s.nx with
 | bad e=>rw [hr] at hk;cases hk
 | ok v h0 nx0=>
   rw [hr] at hk
   have hk:(eqV v u&&okS2 q 0 m t .nil h0 nx0)=true:=hk
   rw [Bool.and_eq_true] at hk
   obtain rfl:=eqV_ok hk.1
   refine (hcl ρ f args _ _ _ _ _ w args' hr S (hv ρ X.mono)).mono ?_
   rintro e w' ⟨v',rfl,ρ',q1,q2,q3⟩
   obtain rfl:=flat_eq hu q1
   exact ⟨rfl,sim_keep hg hB hm h16 hq hk.2 q2 (X.trans q3)⟩
section
variable {B:Bas} {σ:Sig} {w:World}
noncomputable def allQ (x y:Value):Bool:=match x with | .iface _ (.tuple vs)=>and (sc y) (allL (same1 y) vs.toList) | _=>false
noncomputable def qSm:QV:=fun x y=>Bool.rec (motive:=fun _=>Bool) (allQ x y) true (and (qSame x y) (oneB y))
noncomputable def tmO (r:SX.CX):Sl:=match r with | .ok _ tm _ _=>tm | .bad _=>.nil
noncomputable def hpO (r:SX.CX):Hp:=match r with | .ok _ _ h _=>h | .bad _=>.nil
noncomputable def nxO (r:SX.CX):Nat:=match r with | .ok _ _ _ n=>n | .bad _=>0
noncomputable def isXt (i:Nat) (r:SX.CX):Bool:=match r with | .ok (.exit j) _ _ _=>Nat.beq j i | _=>false
noncomputable def isRtt (r:SX.CX):Bool:=match r with | .ok .ret _ _ _=>true | _=>false
theorem isXt_eq {i:Nat} {r:SX.CX} (h:isXt i r=true):r=.ok (.exit i) (tmO r) (hpO r) (nxO r):=by
 unfold isXt at h
 split at h
 · rw [Nat.eq_of_beq_eq_true h];rfl
 · cases h
theorem isRtt_eq {r:SX.CX} (h:isRtt r=true):r=.ok .ret (tmO r) (hpO r) (nxO r):=by
 unfold isRtt at h
 split at h
 · rfl
 · cases h
theorem res19t:Tryz.f19.results.toList.all resOk=true:=by kernel_rfl
theorem d19 {c:Code} (hc:codeOk C1.E 29 c=true):Does C1 σ 29 c (codeF C1 cl1 1000 c):=codeF_ok (m:=1000) cfg1 (cl1_ok σ) c hc
noncomputable def rEt (s:SS):SX.CX:=loopF fL 10 (mkT s.vs) (mkH s.kp s.bs) s.nx
noncomputable def rZt (s:SS):SX.CX:=codeF C1 cl1 1000 c19z (tmO (rEt s)) (hpO (rEt s)) (nxO (rEt s))
noncomputable def endOk (m:Nat) (s t:SS):Bool:=and (isXt 0 (rEt s)) (and (isRtt (rZt s)) (and (Option.rec (motive:=fun _=>Bool) false (fun l=>eqVL l [.int .i64 (.ofNat 0)]) (resL C1 (tmO (rZt s)) (hpO (rZt s)) Tryz.f19.results.toList)) (okS2 qSm 0 m t .nil (hpO (rZt s)) (nxO (rZt s)))))
def Rnd (B:Bas) (σ:Sig) (t:SS) (e:Ending) (w':World):Prop:=e=.returned (.int .i64 0)∧AtH C1 B σ t w'
def QR (B:Bas) (σ:Sig) (t:SS):Exit→Act→World→Prop:=bodyPost C1.E.P Tryz.f19 (Rnd B σ t)
def QL (B:Bas) (σ:Sig) (t:SS):Exit→Act→World→Prop:=Exit.inBlock 0 (Exit.then (c19z.wp C1.E.P (QR B σ t)) (QR B σ t))
theorem gl_ok:GlOk C1:=by
 intro n hn b hb
 have hb:TT.get DH glT n=some b:=hb
 rw [glT_get (by show n<65536;have:n<16:=hn;omega)] at hb
 have key:∀ cs:List Value,(∀ v∈cs,∃ k m,v=.int k m)→(∀ q,wkB q (.cells cs) (.cells cs)=true)∧∀ N,nbB N (.cells cs)=true:=by
  intro cs
  induction cs with
  | nil=>intro _;exact ⟨fun q=>rfl,fun N=>rfl⟩
  | cons v cs ih=>
    intro h
    obtain ⟨h1,h2⟩:=ih (fun u hu=>h u (List.mem_cons_of_mem _ hu))
    obtain ⟨k,m,rfl⟩:=h v List.mem_cons_self
    have he:eqV1 (.int k m) (.int k m)=true:=by
     show same1 (.int k m) (.int k m)=true
     unfold same1
     have h3:eq1 (.int k m) (.int k m)=some (eqInt m m):=by
      show Bool.casesOn (motive:=fun _=>Option Bool) (Nat.beq (kindN k) (kindN k)) none (some (eqInt m m))=_
      rw [(beq_iff _ _).2 rfl]
     rw [h3]
     exact (eqInt_iff m m).2 rfl
    refine ⟨fun q=>?_,fun N=>?_⟩
    · show Bool.rec (motive:=fun _=>Bool) false (wkL (wk1 q) cs cs) (wk1 q (.int k m) (.int k m))=true
      rw [show wk1 q (.int k m) (.int k m)=true from he]
      exact h1 q
    · exact h2 N
 have ki:∀ {α:Type} (f:α→Value) (l:List α),(∀ x,∃ k m,f x=.int k m)→∀ v∈l.map f,∃ k m,v=.int k m:=by
  intro α f l hf v hv
  obtain ⟨x,_,rfl⟩:=List.mem_map.1 hv
  exact hf x
 split at hb
 · cases hb;exact key _ (ki _ _ fun x=>⟨_,_,rfl⟩)
 split at hb
 · cases hb;exact key _ (ki _ _ fun x=>⟨_,_,rfl⟩)
 split at hb
 · cases hb;exact key _ (ki _ _ fun x=>⟨_,_,rfl⟩)
 split at hb
 · cases hb
   exact key g3 (fun v hv=>by
    unfold g3 at hv
    simp only [List.mem_cons,List.not_mem_nil,or_false] at hv
    rcases hv with rfl | rfl | rfl | rfl<;>exact ⟨_,_,rfl⟩)
 split at hb
 · cases hb;exact key _ (ki _ _ fun x=>⟨_,_,rfl⟩)
 · cases hb
theorem allQ_some {x y:Value} (h:allQ x y=true):∃ t vs,x=.iface t (.tuple vs)∧sc y=true∧∀ u∈vs.toList,y=u:=by
 unfold allQ at h
 split at h
 · next t vs=>
   have h:(sc y&&allL (same1 y) vs.toList)=true:=h
   rw [Bool.and_eq_true] at h
   exact ⟨t,vs,rfl,h.1,fun u hu=>same1_eq (allL_mem h.2 u hu)⟩
 · cases h
theorem qSm_ok (σ:Sig):QOk σ σ qSm:=by
 intro ρ x y v' h hv
 have h:Bool.rec (motive:=fun _=>Bool) (allQ x y) true (and (qSame x y) (oneB y))=true:=h
 cases hs:and (qSame x y) (oneB y) with
 | true=>exact qSame_ok ρ x y v' hs hv
 | false=>
   rw [hs] at h
   have h:allQ x y=true:=h
   obtain ⟨t,vs,rfl,h1,h2⟩:=allQ_some h
   cases hv with
   | vec _ _ _ h3 h4=>
     obtain rfl:=h2 _ (List.mem_of_getElem? h3)
     exact ⟨sc_refl h1,sc_one h1⟩
theorem piece_at {σ σ':Sig} {q:QV} {s t u:SS} {j m:Nat} (hB:B.ok) (hm:B.nx≤m) (h16:GN≤m) (hq:QOk σ σ' q) {σe:Sig} (hk:okS q 29 m t (iterF fL j (mkT s.vs) (mkH s.kp s.bs) s.nx)=true) (hQ:∀ a w,AtS C1 B σ' 29 t a w→LoopW C1.E.P c19l (QL B σe u) a w):∀ a w,AtS C1 B σ 29 s a w→LoopW C1.E.P c19l (QL B σe u) a w:=
 loop_at gl_ok hB hm h16 hq (d19 ok19l) hk hQ
theorem end_at {s t:SS} {m:Nat} (hB:B.ok) (hm:B.nx≤m) (h16:GN≤m) (hk:endOk m s t=true):∀ a w,AtS C1 B σ 29 s a w→LoopW C1.E.P c19l (QL B σ t) a w:=by
 rintro a w ⟨ρ,R,S,X⟩
 have hk:(isXt 0 (rEt s)&&(isRtt (rZt s)&&((Option.rec (motive:=fun _=>Bool) false (fun l=>eqVL l [.int .i64 (.ofNat 0)]) (resL C1 (tmO (rZt s)) (hpO (rZt s)) Tryz.f19.results.toList))&&okS2 qSm 0 m t .nil (hpO (rZt s)) (nxO (rZt s)))))=true:=hk
 simp only [Bool.and_eq_true] at hk
 obtain ⟨k1,k2,k3,k4⟩:=hk
 refine loop_ok (d19 ok19l) 10 _ _ _ _ _ _ (isXt_eq k1) R S ?_
 intro ρE aE wE RE sE xE
 have key:c19z.wp C1.E.P (QR B σ t) aE wE:=by
  refine d19 ok19z _ _ _ _ _ _ _ _ _ _ _ (isRtt_eq k2) RE sE ?_
  intro ρZ aZ wZ RZ sZ xZ
  cases hr:resL C1 (tmO (rZt s)) (hpO (rZt s)) Tryz.f19.results.toList with
  | none=>rw [hr] at k3;cases k3
  | some l=>
    rw [hr] at k3
    obtain rfl:=eqVL_ok k3
    obtain ⟨u,hu,hvr⟩:=results_ok cfg1 RZ sZ res19t hr
    obtain rfl:=VR.int_inv (show VR σ ρZ (.int .i64 (.ofNat 0)) u from hvr)
    have hA:=sim_keep (tm:=.nil) gl_ok hB hm h16 (qSm_ok σ) k4 sZ (X.trans (xE.trans xZ))
    have q:QR B σ t (exOf .ret) aZ wZ=(aZ.defers=[]∧∃ v,(results Tryz.f19 aZ.tmps).run C1.E.P wZ=.ok v wZ∧Rnd B σ t (.returned v) wZ):=rfl
    rw [q]
    exact ⟨RZ.dfs,_,hu,rfl,hA⟩
 exact key
theorem start_at {σ':Sig} {q:QV} {s t u:SS} {m:Nat} (hB:B.ok) (hm:B.nx≤m) (h16:GN≤m) (hq:QOk σ σ' q) {v':Value} (hv:∀ ρ,(∀ n p,B.ρ n=some p→ρ n=some p)→VR σ ρ (qP 17 0) v')
 (hk:okS q 29 m t (seqR (codeF C1 cl1 1000 c19c) (seqR (codeF C1 cl1 1000 c19b) (codeF C1 cl1 1000 c19a (argsF [qP 17 0,qI 180] 0 .nil) (mkH s.kp s.bs) s.nx)))=true)
 {σe:Sig} (hQ:∀ a w,AtS C1 B σ' 29 t a w→LoopW C1.E.P c19l (QL B σe u) a w) (h:AtH C1 B σ s w):Calls C1.E.P 19 #[v',.int .i64 180] w (Rnd B σe u):=by
 obtain ⟨ρ,S,X⟩:=h
 refine calls_of_wp Tryz.func19 body19 ?_
 have hva:VL σ ρ [qP 17 0,qI 180] (#[v',Value.int .i64 180]:Array Value).toList:=VL.cons (hv ρ X.mono) (VL.cons (VR.int .i64 180) VL.nil)
 have R0:=TmR.start (n:=29) hva (by decide) (by decide)
 obtain ⟨tm0,h0,nx0,e0,h2⟩:=okS_some hk
 obtain ⟨tmb,hb',nxb,eb,ec⟩:=seqR_normal e0
 obtain ⟨tma,ha',nxa,ea,eb⟩:=seqR_normal eb
 refine wp_seq (d19 ok19a _ ρ _ _ _ _ w _ _ _ _ ea R0 S ?_)
 intro ρ1 a1 w1 R1 s1 x1
 refine wp_seq (d19 ok19b _ ρ1 tma ha' nxa a1 w1 _ _ _ _ eb R1 s1 ?_)
 intro ρ2 a2 w2 R2 s2 x2
 refine wp_seq (wp_seq (d19 ok19c _ ρ2 tmb hb' nxb a2 w2 _ _ _ _ ec R2 s2 ?_))
 intro ρ3 a3 w3 R3 s3 x3
 have hA:=okS_at gl_ok hB hm h16 hq h2 R3 s3 (X.trans ((x1.trans x2).trans x3))
 exact wp_block (loopW_wp (hQ a3 w3 hA))
end
end SX
end Go.Proofs.YtdebnbgjgkbmaaaGreatDoor
namespace Go.Proofs.YtdebnbgjgkbmaaaGreatDoor.Ht.Pl
def evt:Bool→Nat→Int
 | true,k=>([1,2,3,4,0,3,4,1,2,0]:List Int).getD k 0
 | false,k=>([3,4,1,2,0,1,2,3,4,0]:List Int).getD k 0
def nxt (own:Bool) (s e:Int):Int:=if (0≤s∧s≤9)∧e≠0∧evt own s.toNat=e then s+1 else s
def lo (own:Bool):Int:=if own then 3 else 1
def hi (own:Bool):Int:=if own then 5 else 7
def may (s:Int):Bool:=decide (0≤s)&&decide (s≤9)
def pos (own:Bool):Nat→Int
 | 0=>0
 | k+1=>nxt own (pos own k) (1+((k%4:Nat):Int))
end Go.Proofs.YtdebnbgjgkbmaaaGreatDoor.Ht.Pl
namespace Go.Proofs.YtdebnbgjgkbmaaaGreatDoor.Ht
open Go.RowKit
structure HT (w:World):Prop where
 size:8≤w.heap.size
 evT:∀ k,k<10→w.cell? ⟨7,10+k,none⟩=some (.int .i64 (Pl.evt true k))
 evF:∀ k,k<10→w.cell? ⟨7,k,none⟩=some (.int .i64 (Pl.evt false k))
 sp0:w.cell? ⟨3,0,none⟩=some (.int .i64 1)
 sp1:w.cell? ⟨3,1,none⟩=some (.int .i64 7)
 sp2:w.cell? ⟨3,2,none⟩=some (.int .i64 3)
 sp3:w.cell? ⟨3,3,none⟩=some (.int .i64 5)
theorem HT.below {w w':World} (h:HT w) (b:Below w.heap.size w w'):HT w':=by
 have s:=h.size
 refine ⟨Nat.le_trans s b.size,fun k hk=>?_,fun k hk=>?_,?_,?_,?_,?_⟩
 · rw [b.cell (by show 7<_;omega)];exact h.evT k hk
 · rw [b.cell (by show 7<_;omega)];exact h.evF k hk
 · rw [b.cell (by show 3<_;omega)];exact h.sp0
 · rw [b.cell (by show 3<_;omega)];exact h.sp1
 · rw [b.cell (by show 3<_;omega)];exact h.sp2
 · rw [b.cell (by show 3<_;omega)];exact h.sp3
theorem ret_bool {a b:Bool} (h:a=b):Ending.returned (.bool a)=.returned (.bool b):=by rw [h]
theorem may_any (s:Int) (w:World) :
 Calls Tryz.prog 270 #[.int .i64 s] w fun e w'=>e=.returned (.bool (Pl.may s))∧w=w':=by
 go_enter Tryz.func270,Tryz.ntmps270
 go_wp2
 · go_ret
   exact ⟨ret_bool (by simp [Pl.may];omega),rfl⟩
 · go_ret
   exact ⟨ret_bool (by simp [Pl.may];omega),rfl⟩
end Go.Proofs.YtdebnbgjgkbmaaaGreatDoor.Ht
namespace Go.Proofs.YtdebnbgjgkbmaaaGreatDoor
namespace SX
open Go Go.RowKit
set_option linter.unusedVariables false
set_option maxRecDepth 100000
structure Glb (w:World):Prop where
 r0:M.RowAt w 0 330 g0.toArray
 r3:M.RowAt w 3 380 g3.toArray
 r4:M.RowAt w 4 427 g4.toArray
 r6:M.RowAt w 6 233 g6.toArray
 r7:M.RowAt w 7 432 g7.toArray
theorem Glb.lt {w:World} (h:Glb w):7<w.heap.size:=h.r7.lt
theorem Glb.below {w w':World} {n:Nat} (h:Glb w) (b:Below n w w') (hn:7<n):Glb w':=by
 have e:∀ g t cs,g≤7→M.RowAt w g t cs→M.RowAt w' g t cs:=fun g t cs hg hr=>by
  unfold M.RowAt at *
  rw [b.block g (by omega)];exact hr
 exact ⟨e 0 _ _ (by omega) h.r0,e 3 _ _ (by omega) h.r3,e 4 _ _ (by omega) h.r4,e 6 _ _ (by omega) h.r6,e 7 _ _ (by omega) h.r7⟩
theorem Glb.tabs {w:World} (h:Glb w):Tabs w:=by
 refine ⟨fun i hi=>?_,fun i hi=>?_⟩
 · rw [h.r0.cell i];unfold g0;rw [List.getElem?_toArray,List.getElem?_map,List.getElem?_range hi];rfl
 · rw [h.r4.cell i];unfold g4;rw [List.getElem?_toArray,List.getElem?_map,List.getElem?_range hi];rfl
theorem shp {W:World} (hsh:W.ShapedOpen Tryz.prog) {g t m:Nat} (hg:g<Tryz.prog.globals.size) (h:(((begin Tryz.prog (fun _ _=>0) default).world.heap[g]?).bind Obj.row?).map (fun p=>(p.1.size,p.2))=some (m,t)):∃ cs:Array Value,W.heap[g]?=some (.cells cs t (0,0))∧cs.size=m:=by
 obtain ⟨⟨zero,t'⟩,h1,h2⟩:=Option.map_eq_some_iff.1 h
 cases h2
 obtain ⟨cs,h3,h4,_⟩:=hsh.1 g zero t' hg h1
 exact ⟨cs,h3,h4⟩
theorem row_of {W:World} {g t m:Nat} {cs:Array Value} {L:List Value} (hb:W.heap[g]?=some (.cells cs t (0,0))) (hs:cs.size=m) (hl:L.length=m) (hc:∀ i,i<m→W.cell? ⟨g,i,none⟩=L[i]?):M.RowAt W g t L.toArray:=by
 have e:cs=L.toArray:=by
  apply Array.ext_getElem?
  intro i
  have h1:L.toArray[i]?=L[i]?:=by simp
  rw [h1]
  by_cases hi:i<m
  · rw [←hc i hi];simp [World.cell?,hb]
  · rw [Array.getElem?_eq_none (by omega),List.getElem?_eq_none (by omega)]
 rw [←e];exact hb
theorem two_rows {w:World} {g t e:Nat} {n:String} {m:Nat} {cs:Array Value} {fuel:Nat} {a b:List Int} {p:List MemPlace}
 (ht:Tryz.prog.underlying t=some (.array 2 e)) (he:Tryz.prog.underlying e=some (.array m 3)) (hce:Tryz.prog.cellsOf e=m) (_hct:Tryz.prog.cellsOf t=m+m) (hla:a.length=m) (hlb:b.length=m)
 (hg:Tryz.prog.globalNamed n=some g) (hv:w.var? Tryz.prog n=some cs)
 (hd:DataW.trod (fun _=>()) Tryz.prog w 0 (fun _=>true) false fuel t cs.toList=some (.agg [Lib.tabData .i64 a,Lib.tabData .i64 b],p)) :
 ∀ k,k<m→w.cell? ⟨g,k,none⟩=some (.int .i64 (a.getD k 0))∧w.cell? ⟨g,m+k,none⟩=some (.int .i64 (b.getD k 0)):=by
 obtain ⟨xs,f,rfl,hx,hcl,hxl,hel⟩:=DataW.trod_array ht hd
 have h5:Tryz.prog.underlying 3=some (.int .i64):=by kernel_rfl
 have hc5:Tryz.prog.cellsOf 3=1:=by kernel_rfl
 rw [hce] at hel
 match xs,hxl,hx,hel with
 | [x0,x1],_,hx,hel=>
   have e0:=hel 0 (by omega)
   have e1:=hel 1 (by omega)
   simp only [List.map_cons,List.map_nil,Prod.mk.injEq,DataW.agg.injEq,List.cons.injEq,and_true] at hx
   obtain ⟨⟨hx0,hx1⟩,_⟩:=hx
   obtain ⟨y0,z0⟩:=x0
   obtain ⟨y1,z1⟩:=x1
   simp only at hx0 hx1
   subst hx0 hx1
   have r0:=Lib.cells_of_tab he h5 hc5 hce e0
   have r1:=Lib.cells_of_tab he h5 hc5 hce e1
   intro k hk
   constructor
   · have hc:=World.var?_cell hg hv k
     rw [hc]
     have:=congrArg (·[k]?) r0
     simp only [Nat.zero_mul,List.drop_zero,List.getElem?_take_of_lt hk,List.getElem?_map] at this
     rw [←Array.getElem?_toList,this]
     have hka:k<a.length:=by omega
     simp [List.getElem?_eq_getElem hka]
   · have hc:=World.var?_cell hg hv (m+k)
     rw [hc]
     have:=congrArg (·[k]?) r1
     simp only [Nat.one_mul,List.getElem?_take_of_lt hk,List.getElem?_map,List.getElem?_drop] at this
     rw [←Array.getElem?_toList,this]
     have hkb:k<b.length:=by omega
     simp [List.getElem?_eq_getElem hkb]
theorem two_of {w:World} {laid:List (String × DataW Unit)} (h:laidMet Tryz.prog laid w) {n:String} {a b:List Int} (hm:(n,DataW.agg [Lib.tabData .i64 a,Lib.tabData .i64 b])∈laid) {g t e m:Nat} (hg:Tryz.prog.globalNamed n=some g) (hty:(Tryz.prog.globals[g]?).map (·.type)=some t)
 (ht:Tryz.prog.underlying t=some (.array 2 e)) (he:Tryz.prog.underlying e=some (.array m 3)) (hce:Tryz.prog.cellsOf e=m) (hct:Tryz.prog.cellsOf t=m+m) (hla:a.length=m) (hlb:b.length=m) :
 ∀ k,k<m→w.cell? ⟨g,k,none⟩=some (.int .i64 (a.getD k 0))∧w.cell? ⟨g,m+k,none⟩=some (.int .i64 (b.getD k 0)):=by
 obtain ⟨ps,hv,_⟩:=h
 obtain ⟨g',t',cs,fuel,p,hg',ht',hvar,hd⟩:=RowK.laid_get hv hm
 obtain rfl:=Option.some.inj (hg.symm.trans hg')
 obtain rfl:=Option.some.inj (hty.symm.trans ht')
 exact two_rows ht he hce hct hla hlb hg hvar hd
structure Lst (laid:List (String × DataW Unit)):Prop where
 b:("remitter/digest.begin",Rows.laid_remitter_digest_begin)∈laid
 t:("remitter/digest.table",Rows.laid_remitter_digest_table)∈laid
 d:("math/bits.deBruijn64tab",Rows.laid_math_bits_deBruijn64tab)∈laid
 e:("remitter/htlc.events",Rows.laid_remitter_htlc_events)∈laid
 s:("remitter/htlc.spans",Rows.laid_remitter_htlc_spans)∈laid
theorem glb_of {w:World} {laid:List (String × DataW Unit)} (hsh:w.ShapedOpen Tryz.prog) (h:laidMet Tryz.prog laid w) (l:Lst laid):Glb w:=by
 obtain ⟨hb,hk,hd,he,hs⟩:=l
 have e1:(Rows.laid_remitter_digest_begin:DataW Unit)=Lib.tabData .u32 ((List.range 8).map fun i=>(Sha.begin0.get i:Int)):=by kernel_rfl
 have e2:(Rows.laid_remitter_digest_table:DataW Unit)=Lib.tabData .u32 ((List.range 64).map fun i=>(Sha.k i:Int)):=by kernel_rfl
 have e3:(Rows.laid_math_bits_deBruijn64tab:DataW Unit)=Lib.tabData .u8 (Lib.deBruijn64tab.map fun (n:Nat)=>(n:Int)):=by kernel_rfl
 have e4:(Rows.laid_remitter_htlc_events:DataW Unit)=.agg [Lib.tabData .i64 [3,4,1,2,0,1,2,3,4,0],Lib.tabData .i64 [1,2,3,4,0,3,4,1,2,0]]:=by kernel_rfl
 have e5:(Rows.laid_remitter_htlc_spans:DataW Unit)=.agg [Lib.tabData .i64 [1,7],Lib.tabData .i64 [3,5]]:=by kernel_rfl
 rw [e1] at hb
 rw [e2] at hk
 rw [e3] at hd
 rw [e4] at he
 rw [e5] at hs
 have g1:Tryz.prog.globalNamed "remitter/digest.begin"=some 0:=by kernel_rfl
 have g2:Tryz.prog.globalNamed "remitter/digest.table"=some 4:=by kernel_rfl
 have g3':Tryz.prog.globalNamed "math/bits.deBruijn64tab"=some 6:=by kernel_rfl
 have g4':Tryz.prog.globalNamed "remitter/htlc.events"=some 7:=by kernel_rfl
 have g5:Tryz.prog.globalNamed "remitter/htlc.spans"=some 3:=by kernel_rfl
 have t1:=RowK.tab_get (t:=330) (e:=40) (len:=8) h hb g1 (by kernel_rfl) (by kernel_rfl) (by kernel_rfl) (by kernel_rfl) (by kernel_rfl)
 have t2:=RowK.tab_get (t:=427) (e:=40) (len:=64) h hk g2 (by kernel_rfl) (by kernel_rfl) (by kernel_rfl) (by kernel_rfl) (by kernel_rfl)
 have t3:=RowK.tab_get (t:=233) (e:=5) (len:=64) h hd g3' (by kernel_rfl) (by kernel_rfl) (by kernel_rfl) (by kernel_rfl) (by kernel_rfl)
 have t4:=two_of (t:=432) (e:=431) (m:=10) h he g4' (by kernel_rfl) (by kernel_rfl) (by kernel_rfl) (by kernel_rfl) (by kernel_rfl) rfl rfl
 have t5:=two_of (t:=380) (e:=169) (m:=2) h hs g5 (by kernel_rfl) (by kernel_rfl) (by kernel_rfl) (by kernel_rfl) (by kernel_rfl) rfl rfl
 obtain ⟨c0,b0,s0⟩:=shp hsh (g:=0) (t:=330) (m:=8) (of_decide_eq_true (by kernel_rfl)) (by kernel_rfl)
 obtain ⟨c4,b4,s4⟩:=shp hsh (g:=4) (t:=427) (m:=64) (of_decide_eq_true (by kernel_rfl)) (by kernel_rfl)
 obtain ⟨c6,b6,s6⟩:=shp hsh (g:=6) (t:=233) (m:=64) (of_decide_eq_true (by kernel_rfl)) (by kernel_rfl)
 obtain ⟨c7,b7,s7⟩:=shp hsh (g:=7) (t:=432) (m:=20) (of_decide_eq_true (by kernel_rfl)) (by kernel_rfl)
 obtain ⟨c3,b3,s3⟩:=shp hsh (g:=3) (t:=380) (m:=4) (of_decide_eq_true (by kernel_rfl)) (by kernel_rfl)
 refine ⟨row_of b0 s0 (by simp [g0]) fun i hi=>?_,row_of b3 s3 rfl fun i hi=>?_,row_of b4 s4 (by simp [g4]) fun i hi=>?_,row_of b6 s6 (by kernel_rfl) fun i hi=>?_,row_of b7 s7 rfl fun i hi=>?_⟩
 · rw [t1.cell g1 i (by simpa using hi)]
   unfold g0
   rw [List.getElem?_map,List.getElem?_range hi]
   simp [List.getD_eq_getElem?_getD,hi]
 · match i,hi with
   | 0,_=>exact (t5 0 (by decide)).1
   | 1,_=>exact (t5 1 (by decide)).1
   | 2,_=>exact (t5 0 (by decide)).2
   | 3,_=>exact (t5 1 (by decide)).2
 · rw [t2.cell g2 i (by simpa using hi)]
   unfold g4
   rw [List.getElem?_map,List.getElem?_range hi]
   simp [List.getD_eq_getElem?_getD,hi]
 · have hl0:Lib.deBruijn64tab.length=64:=by kernel_rfl
   rw [t3.cell g3' i (by rw [List.length_map,hl0];exact hi)]
   unfold g6
   have hl:Lib.deBruijn64tab.length=64:=by kernel_rfl
   rw [List.getElem?_map,List.getElem?_eq_getElem (by omega)]
   simp [List.getD_eq_getElem?_getD,List.getElem?_eq_getElem (show i<Lib.deBruijn64tab.length by omega)]
 · have hh:i<10∨10≤i:=by omega
   rcases hh with h10 | h10
   · rw [(t4 i h10).1]
     match i,h10 with
     | 0,_=>rfl
     | 1,_=>rfl
     | 2,_=>rfl
     | 3,_=>rfl
     | 4,_=>rfl
     | 5,_=>rfl
     | 6,_=>rfl
     | 7,_=>rfl
     | 8,_=>rfl
     | 9,_=>rfl
   · obtain ⟨k,rfl⟩:∃ k,i=10+k:=⟨i-10,by omega⟩
     have hk:k<10:=by omega
     rw [(t4 k hk).2]
     match k,hk with
     | 0,_=>rfl
     | 1,_=>rfl
     | 2,_=>rfl
     | 3,_=>rfl
     | 4,_=>rfl
     | 5,_=>rfl
     | 6,_=>rfl
     | 7,_=>rfl
     | 8,_=>rfl
     | 9,_=>rfl
def rho0:Rho:=fun n=>if n=4 then some ⟨4,0,64,427⟩ else if n=0 then some ⟨0,0,8,330⟩ else if n=7 then some ⟨7,0,20,432⟩ else if n=3 then some ⟨3,0,4,380⟩ else if n=6 then some ⟨6,0,64,233⟩ else none
theorem cr_row {σ:Sig} {ρ:Rho} {w:World} {g t:Nat} {l:List Value} (h:M.RowAt w g t l.toArray) (hf:∀ v∈l,∃ k n,v=.int k n):CR σ ρ l ⟨g,0,l.length,t⟩ w:=by
 have hc:∀ i (v:Value),l[i]?=some v→w.cell? ⟨g,i,none⟩=some v:=fun i v hv=>by rw [h.cell i,List.getElem?_toArray];exact hv
 refine ⟨?_,fun i _=>h.frozen i,by simp,l,⟨rfl,fun i x x' a b=>?_⟩,fun i v hv=>?_⟩
 · unfold World.shape?
   rw [show w.heap[g]?=some (.cells l.toArray t (0,0)) from h];simp
 · rw [a] at b;cases b
   obtain ⟨k,n,rfl⟩:=hf x (List.mem_of_getElem? a)
   exact ⟨.int k n,rfl,rfl⟩
 · rw [Nat.zero_add];exact hc i v hv
theorem sim0 {w:World} (h:Glb w) (σ:Sig):Sim σ glT rho0 .nil 16 w:=by
 have hn:∀ n,TT.get DH (.nil:Hp) n=none:=fun n=>get_nil _ _
 have hno:∀ b,¬ Own rho0 (.nil:Hp) 16 b:=by
  rintro b ⟨n,p,_,e,_⟩
  rw [hn n] at e;cases e
 refine ⟨by decide,fun n hn=>?_,fun n _ _=>hn n,fun n _ b hb=>(by rw [hn n] at hb;cases hb),fun m n p q _ _ e=>(by rw [hn m] at e;cases e),by decide,fun n h16 b hb=>?_⟩
 · unfold rho0
   rw [if_neg (by omega),if_neg (by omega),if_neg (by omega),if_neg (by omega),if_neg (by omega)]
 · have hlt:n<2 ^ DH:=Nat.lt_trans h16 (by decide)
   rw [glT_get hlt] at hb
   unfold rho0
   by_cases e4:n=4
   · subst e4
     rw [if_pos rfl] at hb;cases hb
     exact ⟨_,if_pos rfl,⟨rfl,rfl⟩,(show CR _ _ _ _ _ from (by have:=cr_row (σ:=σ) (ρ:=rho0) h.r4 (fun v hv=>by unfold g4 at hv;obtain ⟨i,_,rfl⟩:=List.mem_map.1 hv;exact ⟨_,_,rfl⟩);exact this)),hno _⟩
   rw [if_neg (fun e=>e4 e.symm)] at hb
   rw [if_neg e4]
   by_cases e0:n=0
   · subst e0
     rw [if_pos rfl] at hb;cases hb
     exact ⟨_,if_pos rfl,⟨rfl,rfl⟩,(show CR _ _ _ _ _ from (by have:=cr_row (σ:=σ) (ρ:=rho0) h.r0 (fun v hv=>by unfold g0 at hv;obtain ⟨i,_,rfl⟩:=List.mem_map.1 hv;exact ⟨_,_,rfl⟩);exact this)),hno _⟩
   rw [if_neg (fun e=>e0 e.symm)] at hb
   rw [if_neg e0]
   by_cases e7:n=7
   · subst e7
     rw [if_pos rfl] at hb;cases hb
     exact ⟨_,if_pos rfl,⟨rfl,rfl⟩,(show CR _ _ _ _ _ from (by have:=cr_row (σ:=σ) (ρ:=rho0) h.r7 (fun v hv=>by unfold g7 at hv;obtain ⟨i,_,rfl⟩:=List.mem_map.1 hv;exact ⟨_,_,rfl⟩);exact this)),hno _⟩
   rw [if_neg (fun e=>e7 e.symm)] at hb
   rw [if_neg e7]
   by_cases e3:n=3
   · subst e3
     rw [if_pos rfl] at hb;cases hb
     exact ⟨_,if_pos rfl,⟨rfl,rfl⟩,(show CR _ _ _ _ _ from (by have:=cr_row (σ:=σ) (ρ:=rho0) h.r3 (fun v hv=>by unfold g3 at hv;simp at hv;rcases hv with rfl | rfl | rfl | rfl<;>exact ⟨_,_,rfl⟩);exact this)),hno _⟩
   rw [if_neg (fun e=>e3 e.symm)] at hb
   rw [if_neg e3]
   by_cases e6:n=6
   · subst e6
     rw [if_pos rfl] at hb;cases hb
     exact ⟨_,if_pos rfl,⟨rfl,rfl⟩,(show CR _ _ _ _ _ from (by have:=cr_row (σ:=σ) (ρ:=rho0) h.r6 (fun v hv=>by unfold g6 at hv;obtain ⟨i,_,rfl⟩:=List.mem_map.1 hv;exact ⟨_,_,rfl⟩);exact this)),hno _⟩
   rw [if_neg (fun e=>e6 e.symm)] at hb
   cases hb
theorem below_of {σ:Sig} {w w':World} {ρ':Rho} {h':Hp} {nx':Nat} (x:Ext rho0 .nil 16 w ρ' h' nx' w'):Below w.heap.size w w':=by
 have hno:∀ b,¬ Own rho0 (.nil:Hp) 16 b:=by
  rintro b ⟨n,p,_,e,_⟩
  have e:(TT.get DH (.nil:Hp) n).isSome=true:=e
  rw [get_nil] at e;cases e
 exact ⟨x.os,x.tape,x.output,x.size,fun k hk=>x.block k hk (hno k)⟩
end SX
namespace SX
open Go Go.RowKit
set_option linter.unusedVariables false
set_option maxRecDepth 1000000
section
variable {B:Bas} {σ σ':Sig} {s:SS} {w w':World}
theorem AtH.below (h:AtH C1 B σ s w) (hb:Below w.heap.size w w'):AtH C1 B σ s w':=by
 obtain ⟨ρ,S,X⟩:=h
 exact ⟨ρ,S.below hb,X.trans (Ext.below hb)⟩
theorem AtH.base (h:AtH C1 B σ s w) (o:Obj):∃ B':Bas,B'.ok∧B'.nx=s.nx∧B'.w=w.alloc o∧AtH C1 B' σ s (w.alloc o)∧(∀ n p,B.ρ n=some p→B'.ρ n=some p)∧Ext B.ρ B.h B.nx B.w B'.ρ B'.h B'.nx B'.w∧¬ Own B'.ρ B'.h B'.nx w.heap.size:=by
 obtain ⟨ρ,S,X⟩:=h
 have hb:Below w.heap.size w (w.alloc o):=(Below.refl _ _).alloc (Nat.le_refl _) _
 refine ⟨⟨ρ,mkH s.kp s.bs,s.nx,w.alloc o⟩,S.dom,rfl,rfl,⟨ρ,S.below hb,Ext.refl⟩,X.mono,X.trans (Ext.below hb),fun ho=>?_⟩
 have:=S.own_lt ho;omega
theorem AtH.row (h:AtH C1 B σ s w) {b:Nat} (hb:b<B.w.heap.size) (ho:¬ Own B.ρ B.h B.nx b):w.heap[b]?=B.w.heap[b]?:=by
 obtain ⟨ρ,S,X⟩:=h
 exact X.block b hb ho
theorem AtH.far (h:AtH C1 B σ s w) {n:Nat} {ρ0:Rho} {h0:Hp} {W:World} (x:Ext ρ0 h0 n W B.ρ B.h B.nx B.w):∃ ρ,Ext ρ0 h0 n W ρ (mkH s.kp s.bs) s.nx w:=by
 obtain ⟨ρ,S,X⟩:=h
 exact ⟨ρ,x.trans X⟩
end
noncomputable def anZ:Value:=.agg ⟨[qI 0,qU 0,.slice none 0 0]⟩
noncomputable def anS (x:Nat):Value:=.agg ⟨[qI 0,qU x,.slice none 0 0]⟩
theorem fl_anZ:flat anZ=true:=by kernel_rfl
theorem fl_anS (x:Nat):flat (anS x)=true:=rfl
noncomputable def rqI (k:Nat):Value:=.agg ⟨[qI 1,qI 3,qI 0,qU 0,qB k,qI 0]⟩
noncomputable def rqP (k:Nat):Value:=.agg ⟨[qI 3,qI 0,qI 0,qVu (ln k 102 100),qB k,qI 50]⟩
noncomputable def rqS:Value:=.agg ⟨[qI 8,qI 0,qI 0,qU 0,qB 0,qI 0]⟩
structure Runs (inv:Bool) (k:Nat) (sL sI sP sF sG:SS):Prop where
 ivo:inv=true→okR qSm sL.nx sI anZ (cl1 18 [qP 17 0,rqI k] (mkH sL.kp sL.bs) sL.nx)=true
 same:inv=false→sI=sL
 pay:okR qSm sL.nx sP anZ (cl1 18 [qP 17 0,rqP k] (mkH sI.kp sI.bs) sI.nx)=true
 rnd:∀ (B:Bas) (σ:Sig) (v':Value) (w:World),B.ok→B.nx=sP.nx→(∀ σ ρ,(∀ n p,B.ρ n=some p→ρ n=some p)→VR σ ρ (qP 17 0) v')→AtH C1 B σ sP w→∃ σ',Calls C1.E.P 19 #[v',.int .i64 180] w (Rnd B σ' sF)
 st:okR qSm sP.nx sG (anS (if inv then 2 else 3)) (cl1 18 [qP 17 0,rqS] (mkH sF.kp sF.bs) sF.nx)=true
 l16:GN≤sL.nx
 p16:GN≤sP.nx
theorem vu_lane (c:Nat) (σ:Sig) {ρ:Rho}:VR σ ρ (qVu c) (.int .u64 ((c+σ.val:Nat):Int)):=by
 refine .vec 0 ⟨upL c⟩ _ ?_ rfl
 show (upL c)[σ.val]?=_
 unfold upL
 rw [List.getElem?_map,List.getElem?_range σ.isLt]
 rfl
section
variable {B:Bas} {σ:Sig} {w:World} {inv:Bool} {k:Nat} {sL sI sP sF sG:SS} {v:Value}
theorem vl_rq {x y':Value} {σ:Sig} {ρ:Rho} {y:Value} (hx:VR σ ρ (qP 17 0) x) (hy:VR σ ρ y y'):VL σ ρ [qP 17 0,y] (#[x,y']:Array Value).toList:=VL.cons hx (VL.cons hy VL.nil)
theorem Runs.askI (r:Runs inv k sL sI sP sF sG) (hi:inv=true) (hB:B.ok) (hn:B.nx=sL.nx) (hv:∀ σ ρ,(∀ n p,B.ρ n=some p→ρ n=some p)→VR σ ρ (qP 17 0) v) (h:AtH C1 B σ sL w) :
 Calls C1.E.P 18 #[v,.agg #[.int .i64 1,.int .i64 3,.int .i64 0,.int .u64 0,.int .u8 (k:Int),.int .i64 0]] w fun e w'=>e=.returned (.agg #[.int .i64 0,.int .u64 0,.slice none 0 0])∧AtH C1 B σ sI w':=
 call_at (cl1_ok σ) gl_ok hB (by omega) r.l16 (qSm_ok σ) fl_anZ (r.ivo hi) (fun ρ hm=>vl_rq (hv σ ρ hm) (flat_refl rfl)) h
theorem Runs.askP (r:Runs inv k sL sI sP sF sG) (hB:B.ok) (hn:B.nx=sL.nx) (hv:∀ σ ρ,(∀ n p,B.ρ n=some p→ρ n=some p)→VR σ ρ (qP 17 0) v) (h:AtH C1 B σ sI w) :
 Calls C1.E.P 18 #[v,.agg #[.int .i64 3,.int .i64 0,.int .i64 0,.int .u64 ((102+k*100+σ.val:Nat):Int),.int .u8 (k:Int),.int .i64 50]] w fun e w'=>e=.returned (.agg #[.int .i64 0,.int .u64 0,.slice none 0 0])∧AtH C1 B σ sP w':=
 call_at (cl1_ok σ) gl_ok hB (by omega) r.l16 (qSm_ok σ) fl_anZ r.pay (fun ρ hm=>vl_rq (hv σ ρ hm) (show VR σ ρ (.agg ⟨[qI 3,qI 0,qI 0,qVu (ln k 102 100),qB k,qI 50]⟩) (.agg ⟨[.int .i64 3,.int .i64 0,.int .i64 0,.int .u64 ((102+k*100+σ.val:Nat):Int),.int .u8 (k:Int),.int .i64 50]⟩) from
  (CL.cons (.int _ _) rfl rfl (CL.cons (.int _ _) rfl rfl (CL.cons (.int _ _) rfl rfl (CL.cons (vu_lane _ σ) rfl rfl (CL.cons (.int _ _) rfl rfl (CL.cons (.int _ _) rfl rfl CL.nil)))))).agg)) h
theorem Runs.askS (r:Runs inv k sL sI sP sF sG) (hB:B.ok) (hn:B.nx=sP.nx) (hv:∀ σ ρ,(∀ n p,B.ρ n=some p→ρ n=some p)→VR σ ρ (qP 17 0) v) (h:AtH C1 B σ sF w) :
 Calls C1.E.P 18 #[v,.agg #[.int .i64 8,.int .i64 0,.int .i64 0,.int .u64 0,.int .u8 0,.int .i64 0]] w fun e w'=>e=.returned (.agg #[.int .i64 0,.int .u64 (if inv then 2 else 3:Nat),.slice none 0 0])∧AtH C1 B σ sG w':=
 call_at (cl1_ok σ) gl_ok hB (by omega) r.p16 (qSm_ok σ) (fl_anS _) r.st (fun ρ hm=>vl_rq (hv σ ρ hm) (flat_refl rfl)) h
end
end SX
namespace SX
open Go Go.RowKit
set_option linter.unusedVariables false
set_option maxRecDepth 1000000
theorem line_at {W:World} (g:Glb W) (σ:Sig) {sL:SS} (h16:16≤sL.nx) (hL:okR qSm 18 sL (qP 17 0) (cl1 16 [] .nil 16)=true) :
 Calls C1.E.P 16 #[] W fun e w'=>∃ (B:Bas) (b o:Nat),e=.returned (.pointer (some ⟨b,o,none⟩))∧B.ok∧B.nx=sL.nx∧B.w=w'∧AtH C1 B σ sL w'∧Ext rho0 .nil 16 W B.ρ B.h B.nx B.w∧∀ σ ρ,(∀ n p,B.ρ n=some p→ρ n=some p)→VR σ ρ (qP 17 0) (.pointer (some ⟨b,o,none⟩)):=by
 cases hr:cl1 16 [] .nil 16 with
 | bad e=>rw [hr] at hL;cases hL
 | ok v h0 nx0=>
   rw [hr] at hL
   have hL:(eqV v (qP 17 0)&&okS2 qSm 0 18 sL .nil h0 nx0)=true:=hL
   rw [Bool.and_eq_true] at hL
   obtain rfl:=eqV_ok hL.1
   refine (cl1_ok σ rho0 16 [] _ _ _ _ _ W #[] hr (sim0 g σ) VL.nil).mono ?_
   rintro e w' ⟨v',rfl,ρ',q1,q2,q3⟩
   obtain ⟨pl,hp,_,rfl⟩:=(show VR σ ρ' (.pointer (some ⟨17,0,none⟩)) v' from q1).ptr_inv
   have hk:=hL.2
   have h18:18≤sL.nx:=by
    have hk:((Nat.ble sL.nx nx0&&(Nat.ble 18 sL.nx&&(ltN sL.nx sL.kp&&ltH sL.kp)))&&(wkL (wkV qSm) (valsF .nil 0) sL.vs&&(allL (nbV sL.nx) sL.vs&&(pkW qSm h0 sL.kp sL.bs&&allK (nbB sL.nx) sL.bs))))=true:=hk
    simp only [Bool.and_eq_true] at hk
    exact Nat.le_of_ble_eq_true hk.1.2.1
   obtain ⟨ρ2,m2,s2,x2⟩:=sim_keep2 (B:=⟨rho0,.nil,16,W⟩) gl_ok (fun n hn=>(sim0 g σ).dom n hn) (by show 16≤18;decide) (by show 16≤18;decide) (qSm_ok σ) hk q2 q3
   have hp2:=m2 17 pl (by omega) hp
   exact ⟨⟨ρ2,mkH sL.kp sL.bs,sL.nx,w'⟩,pl.b,pl.o+0,rfl,s2.dom,rfl,rfl,⟨ρ2,s2,Ext.refl⟩,x2,fun σ ρ hm=>VR.ptr 17 0 pl (hm 17 pl hp2)⟩
theorem field30 (w:World):(Instr.field 30 (.agg #[.int .i64 0,.int .u64 0,.slice none 0 0]) 0).run Tryz.prog w=.ok (.int .i64 0) w:=by kernel_rfl
def R30 (x:Nat):Array Value:=#[.int .i64 0,.int .u64 (x:Int),.slice none 0 0]
set_option maxHeartbeats 4000000 in
theorem bound_walk (n k:Nat) (hn:n<65536) (p:Nat) (hp:p<256) (hk:p%3=k) (inv:Bool) (W:World) (g:Glb W) (hsh:∀ v,Below W.heap.size W v→Calls Tryz.prog 17 #[] v fun e w'=>e=.returned (.bool true)∧Below v.heap.size v w')
 {sL sI sP sF sG:SS} (h16:16≤sL.nx) (hL:okR qSm 18 sL (qP 17 0) (cl1 16 [] .nil 16)=true) (r:Runs inv k sL sI sP sF sG) :
 Calls Tryz.prog 3 #[.int .u16 (n:Int),.int .u8 (p:Int),.bool inv] W fun e w'=>e=.returned (.bool true)∧Below W.heap.size W w':=by
 obtain ⟨σ,hσ⟩:∃ σ:Sig,σ.val=n%50:=⟨⟨n%50,Nat.mod_lt _ (by decide)⟩,rfl⟩
 have LA:=Lib.hid (line_at g σ h16 hL)
 have SHW:=Lib.hid hsh;have R:=Lib.hid r;have HS:=Lib.hid hσ;have HK:=Lib.hid hk;have HN:=Lib.hid hn;have HP:=Lib.hid hp
 have k3:k<3:=by omega
 have K3:=Lib.hid k3
 have hk1:((p:Int)%3)=(k:Int):=by omega
 clear hsh hL r hσ hn hp
 go_enter Tryz.func3,Tryz.ntmps3
 go_wp2_with fail
 refine (LA.out).mono ?_
 rintro e w1 ⟨B,b,o,rfl,hB,hBn,hBw,h1,x1,hv⟩
 have hW1:Below W.heap.size W w1:=by rw [←hBw];exact below_of (σ:=σ) x1
 have HB:=Lib.hid hB;have HBN:=Lib.hid hBn;have HBW:=Lib.hid hBw;have H1:=Lib.hid h1;have X1:=Lib.hid x1;have HV:=Lib.hid hv;have HW1:=Lib.hid hW1
 clear hB hBn hBw h1 x1 hv hW1 LA
 go_wp2_with fail
 refine (SHW.out w1 HW1.out).mono ?_
 rintro e w2 ⟨rfl,hb2⟩
 have H2:=Lib.hid (H1.out.below hb2)
 clear hb2 H1 SHW
 have hw:IntKind.u64.wrap (100*((k:Int)+1)+2+(IntKind.u64.wrap (n:Int)).tmod 50)=((102+k*100+σ.val:Nat):Int):=by
  have h1:IntKind.u64.wrap (n:Int)=(n:Int):=by rw [IntKind.wrap_u64];have:=HN.out;omega
  rw [h1,IntKind.wrap_u64,Int.tmod_eq_emod_of_nonneg (by omega)]
  have:=HS.out
  have:=K3.out
  omega
 cases inv with
 | true=>
   go_wp2_with fail
   refine (R.out.askI rfl HB.out HBN.out HV.out H2.out).mono ?_
   rintro e w3 ⟨rfl,h3⟩
   have H3:=Lib.hid h3
   clear h3 H2
   have hF:=field30 w3
   go_wp2_with fail
   clear hF
   refine (R.out.askP HB.out HBN.out HV.out H3.out).mono ?_
   rintro e w4 ⟨rfl,h4⟩
   obtain ⟨m,hm⟩:∃ m,w4.heap.size=m:=⟨_,rfl⟩
   obtain ⟨B2,c1,c2,c3,c4,c5,c6,c7⟩:=h4.base (.cells #[.int .i64 0,.int .u64 0,.slice none 0 0] 30)
   rw [hm] at c7
   have r4:M.RowAt (w4.alloc (Obj.cells #[Value.int IntKind.i64 0,Value.int IntKind.u64 0,Value.slice none 0 0] 30)) m 30 #[Value.int IntKind.i64 0,Value.int IntKind.u64 0,Value.slice none 0 0]:=hm▸M.RowAt.new w4 30 _
   have HM:=Lib.hid hm
   clear hm h4
   go_wp2_with fail
   rw [HM.out]
   generalize w4.alloc (Obj.cells #[Value.int IntKind.i64 0,Value.int IntKind.u64 0,Value.slice none 0 0] 30)=y4 at *
   have V2:∀ σ ρ,(∀ n p,B2.ρ n=some p→ρ n=some p)→VR σ ρ (qP 17 0) (.pointer (some ⟨b,o,none⟩)):=fun σ ρ hm=>HV.out σ ρ (fun n p e=>hm n p (c5 n p e))
   obtain ⟨σ',hr⟩:=R.out.rnd B2 σ _ y4 c1 c2 V2 c4
   have X2:=Lib.hid (X1.out.trans c6)
   have C1':=Lib.hid c1;have C2':=Lib.hid c2;have C3':=Lib.hid c3;have C7':=Lib.hid c7;have V2':=Lib.hid V2;have HR:=Lib.hid hr
   have ML:m<y4.heap.size:=r4.lt
   have ML':=Lib.hid ML;have R4:=Lib.hid r4
   clear c1 c2 c3 c4 c5 c6 c7 V2 hr X1 ML
   refine (HR.out).mono ?_
   rintro e w5 ⟨rfl,h5⟩
   have r5:M.RowAt w5 m 30 #[Value.int IntKind.i64 0,Value.int IntKind.u64 0,Value.slice none 0 0]:=by
    unfold M.RowAt;rw [h5.row (by rw [C3'.out];exact ML'.out) C7'.out,C3'.out];exact R4.out
   have hc5:w5.cell? ⟨m,1,none⟩=some (.int .u64 0):=(r5.cell 1).trans rfl
   have H5:=Lib.hid h5
   clear h5 HR r4 r5
   go_wp2_with fail
   refine (R.out.askS C1'.out C2'.out V2'.out H5.out).mono ?_
   rintro e w6 ⟨rfl,h6⟩
   have r6:M.RowAt w6 m 30 #[Value.int IntKind.i64 0,Value.int IntKind.u64 0,Value.slice none 0 0]:=by
    unfold M.RowAt;rw [h6.row (by rw [C3'.out];exact ML'.out) C7'.out,C3'.out];exact R4.out
   obtain ⟨ρ6,x6⟩:=h6.far X2.out
   have b6:=below_of (σ:=σ') x6
   obtain ⟨m6,hm6⟩:∃ m6,w6.heap.size=m6:=⟨_,rfl⟩
   have hc7:(w6.alloc (Obj.cells #[Value.int IntKind.i64 0,Value.int IntKind.u64 2,Value.slice none 0 0] 30)).cell? ⟨m6,1,none⟩=some (.int .u64 2):=hm6▸((M.RowAt.new w6 30 #[Value.int IntKind.i64 0,Value.int IntKind.u64 2,Value.slice none 0 0]).cell 1).trans rfl
   have B6:=Lib.hid (b6.alloc b6.size (Obj.cells #[Value.int IntKind.i64 0,Value.int IntKind.u64 2,Value.slice none 0 0] 30))
   have HM6:=Lib.hid hm6
   clear h6 r6 x6 b6 hm6 H5 hc5
   go_wp2_with fail
   rw [HM6.out]
   go_wp2_with fail
   go_ret
   exact ⟨rfl,B6.out⟩
 | false=>
   go_wp2_with fail
   refine (R.out.askP HB.out HBN.out HV.out (by rw [R.out.same rfl];exact H2.out)).mono ?_
   rintro e w4 ⟨rfl,h4⟩
   obtain ⟨m,hm⟩:∃ m,w4.heap.size=m:=⟨_,rfl⟩
   obtain ⟨B2,c1,c2,c3,c4,c5,c6,c7⟩:=h4.base (.cells #[.int .i64 0,.int .u64 0,.slice none 0 0] 30)
   rw [hm] at c7
   have r4:M.RowAt (w4.alloc (Obj.cells #[Value.int IntKind.i64 0,Value.int IntKind.u64 0,Value.slice none 0 0] 30)) m 30 #[Value.int IntKind.i64 0,Value.int IntKind.u64 0,Value.slice none 0 0]:=hm▸M.RowAt.new w4 30 _
   have HM:=Lib.hid hm
   clear hm h4
   go_wp2_with fail
   rw [HM.out]
   generalize w4.alloc (Obj.cells #[Value.int IntKind.i64 0,Value.int IntKind.u64 0,Value.slice none 0 0] 30)=y4 at *
   have V2:∀ σ ρ,(∀ n p,B2.ρ n=some p→ρ n=some p)→VR σ ρ (qP 17 0) (.pointer (some ⟨b,o,none⟩)):=fun σ ρ hm=>HV.out σ ρ (fun n p e=>hm n p (c5 n p e))
   obtain ⟨σ',hr⟩:=R.out.rnd B2 σ _ y4 c1 c2 V2 c4
   have X2:=Lib.hid (X1.out.trans c6)
   have C1':=Lib.hid c1;have C2':=Lib.hid c2;have C3':=Lib.hid c3;have C7':=Lib.hid c7;have V2':=Lib.hid V2;have HR:=Lib.hid hr
   have ML:m<y4.heap.size:=r4.lt
   have ML':=Lib.hid ML;have R4:=Lib.hid r4
   clear c1 c2 c3 c4 c5 c6 c7 V2 hr X1 ML
   refine (HR.out).mono ?_
   rintro e w5 ⟨rfl,h5⟩
   have r5:M.RowAt w5 m 30 #[Value.int IntKind.i64 0,Value.int IntKind.u64 0,Value.slice none 0 0]:=by
    unfold M.RowAt;rw [h5.row (by rw [C3'.out];exact ML'.out) C7'.out,C3'.out];exact R4.out
   have hc5:w5.cell? ⟨m,1,none⟩=some (.int .u64 0):=(r5.cell 1).trans rfl
   have H5:=Lib.hid h5
   clear h5 HR r4 r5
   go_wp2_with fail
   refine (R.out.askS C1'.out C2'.out V2'.out H5.out).mono ?_
   rintro e w6 ⟨rfl,h6⟩
   have r6:M.RowAt w6 m 30 #[Value.int IntKind.i64 0,Value.int IntKind.u64 0,Value.slice none 0 0]:=by
    unfold M.RowAt;rw [h6.row (by rw [C3'.out];exact ML'.out) C7'.out,C3'.out];exact R4.out
   obtain ⟨ρ6,x6⟩:=h6.far X2.out
   have b6:=below_of (σ:=σ') x6
   obtain ⟨m6,hm6⟩:∃ m6,w6.heap.size=m6:=⟨_,rfl⟩
   have hc7:(w6.alloc (Obj.cells #[Value.int IntKind.i64 0,Value.int IntKind.u64 3,Value.slice none 0 0] 30)).cell? ⟨m6,1,none⟩=some (.int .u64 3):=hm6▸((M.RowAt.new w6 30 #[Value.int IntKind.i64 0,Value.int IntKind.u64 3,Value.slice none 0 0]).cell 1).trans rfl
   have B6:=Lib.hid (b6.alloc b6.size (Obj.cells #[Value.int IntKind.i64 0,Value.int IntKind.u64 3,Value.slice none 0 0] 30))
   have HM6:=Lib.hid hm6
   clear h6 r6 x6 b6 hm6 H5 hc5
   go_wp2_with fail
   rw [HM6.out]
   go_wp2_with fail
   go_ret
   exact ⟨rfl,B6.out⟩
end SX
namespace SX
open Go Go.RowKit
set_option linter.unusedVariables false
set_option maxRecDepth 1000000
noncomputable def isNu (x:Value):Bool:=match x with | .int _ _=>true | _=>false
noncomputable def qLn (i:Nat):QV:=fun x y=>match y with
 | .iface _ (.tuple vs)=>and (isNu x) (same1 (nthD undef vs.toList i) x)
 | _=>false
noncomputable def qPk (i:Nat):QV:=fun x y=>match x with
 | .iface _ (.tuple vs)=>and (isNu y) (same1 (nthD undef vs.toList i) y)
 | _=>false
noncomputable def shL:Nat→List Value→List Value→Bool:=Nat.rec (motive:=fun _=>List Value→List Value→Bool) (fun _ _=>true) (fun _ ih l m=>List.casesOn (motive:=fun _=>Bool) l false fun x l=>List.casesOn (motive:=fun _=>Bool) m false fun y m=>and (and (isNu y) (same1 x y)) (ih l m))
noncomputable def tailV (l:List Value):List Value:=List.casesOn (motive:=fun _=>List Value) l [] fun _ r=>r
noncomputable def qSh (M:Nat):QV:=fun x y=>match x,y with
 | .iface _ (.tuple us),.iface _ (.tuple vs)=>shL M us.toList (tailV vs.toList)
 | _,_=>false
theorem isNu_sc {x:Value} (h:isNu x=true):sc x=true:=by cases x<;>first | rfl | cases h
theorem qLn_ok (i:Nat) (σ σ':Sig) (h:σ'.val=i):QOk σ σ' (qLn i):=by
 intro ρ x y v' hq hv
 unfold qLn at hq
 split at hq
 · next t vs=>
   have hq:(isNu x&&same1 (nthD undef vs.toList i) x)=true:=hq
   rw [Bool.and_eq_true] at hq
   have hs:=isNu_sc hq.1
   obtain rfl:=sc_eq hs hv
   have h1:=same1_eq hq.2
   rw [nthD_eq] at h1
   refine ⟨.vec _ _ _ ?_ hs,rfl⟩
   rw [h]
   cases hg:vs.toList[i]? with
   | none=>rw [hg] at h1;rw [←h1] at hs;cases hs
   | some u=>rw [hg] at h1;exact congrArg some h1
 · cases hq
theorem qPk_ok (i:Nat) (σ σ':Sig) (h:σ.val=i):QOk σ σ' (qPk i):=by
 intro ρ x y v' hq hv
 unfold qPk at hq
 split at hq
 · next t vs=>
   have hq:(isNu y&&same1 (nthD undef vs.toList i) y)=true:=hq
   rw [Bool.and_eq_true] at hq
   have h1:=same1_eq hq.2
   rw [nthD_eq] at h1
   cases hv with
   | vec _ _ _ h2 h3=>
     rw [h] at h2
     rw [h2] at h1
     obtain rfl:v'=y:=h1
     exact ⟨sc_refl (isNu_sc hq.1),sc_one (isNu_sc hq.1)⟩
 · cases hq
theorem shL_ok:∀ (n:Nat) (l m:List Value),shL n l m=true→∀ j,j<n→∃ x,l[j]?=some x∧m[j]?=some x∧isNu x=true
 | 0,l,m,h,j,hj=>by omega
 | n+1,[],m,h,j,hj=>by cases h
 | n+1,x::l,[],h,j,hj=>by cases h
 | n+1,x::l,y::m,h,j,hj=>by
   have h:((isNu y&&same1 x y)&&shL n l m)=true:=h
   simp only [Bool.and_eq_true] at h
   obtain rfl:=same1_eq h.1.2
   cases j with
   | zero=>exact ⟨x,rfl,rfl,h.1.1⟩
   | succ j=>
     obtain ⟨z,h1,h2,h3⟩:=shL_ok n l m h.2 j (by omega)
     exact ⟨z,by simpa using h1,by simpa using h2,h3⟩
theorem qSh_ok (M:Nat) (σ σ':Sig) (h:σ'.val=σ.val+1) (hM:σ.val<M):QOk σ σ' (qSh M):=by
 intro ρ x y v' hq hv
 unfold qSh at hq
 split at hq
 · next t us u vs=>
   obtain ⟨z,h1,h2,h3⟩:=shL_ok M _ _ hq σ.val hM
   cases hv with
   | vec _ _ _ h4 h5=>
     rw [h4] at h1
     obtain rfl:=Option.some.inj h1
     refine ⟨.vec _ _ _ ?_ h5,rfl⟩
     rw [h]
     cases hl:vs.toList with
     | nil=>rw [hl] at h2;exact absurd h2 (by simp [tailV])
     | cons a r=>rw [hl] at h2;have h2:r[σ.val]?=some v':=h2;simpa using h2
 · cases hq
noncomputable def stay (s:SS):SX.CX:=.ok .normal (mkT s.vs) (mkH s.kp s.bs) s.nx
theorem mkT_vals {C:Cfg} {B:Bas} {σ σ':Sig} {m:Nat} {q:QV} (hg:GlOk C) (hB:B.ok) (hm:B.nx≤m) (h16:GN≤m) (hq:QOk σ σ' q) {s t:SS} {n:Nat} (hk:okS q n m t (stay s)=true):∀ a w,AtS C B σ n s a w→AtS C B σ' n t a w:=by
 rintro a w ⟨ρ,R,S,X⟩
 obtain ⟨tm,h,nx,e,h2⟩:=okS_some hk
 unfold stay at e
 injection e with e1 e2 e3 e4
 subst e2;subst e3;subst e4
 exact okS_at hg hB hm h16 hq h2 R S X
noncomputable def it3 (s:SS):SX.CX:=iterF fL 3 (mkT s.vs) (mkH s.kp s.bs) s.nx
theorem idle_at {B:Bas} {σ σe:Sig} {s t z u:SS} {m M:Nat} (hB:B.ok) (hm:B.nx≤m) (h16:GN≤m) (hM:M<LN) (h0:okS (qLn 0) 29 m t (stay s)=true) (hs:okS (qSh M) 29 m t (it3 t)=true) (hd:okS (qPk M) 29 m z (it3 t)=true) (he:endOk m z u=true) :
 ∀ a w,AtS C1 B σ 29 s a w→LoopW C1.E.P c19l (QL B σe u) a w:=by
 have hE:∀ a w,AtS C1 B σe 29 z a w→LoopW C1.E.P c19l (QL B σe u) a w:=end_at hB hm h16 he
 have key:∀ d j (hj:j+d=M),∀ a w,AtS C1 B ⟨j,by omega⟩ 29 t a w→LoopW C1.E.P c19l (QL B σe u) a w:=by
  intro d
  induction d with
  | zero=>
    intro j hj
    have hj':j=M:=by omega
    exact piece_at hB hm h16 (qPk_ok M ⟨j,by omega⟩ σe hj') hd hE
  | succ d ih=>
    intro j hj
    exact piece_at hB hm h16 (qSh_ok M ⟨j,by omega⟩ ⟨j+1,by omega⟩ rfl (by show j<M;omega)) hs (ih (j+1) (by omega))
 intro a w hA
 exact key M 0 (by omega) a w (mkT_vals gl_ok hB hm h16 (qLn_ok 0 σ ⟨0,by decide⟩ rfl) h0 a w hA)
end SX
namespace SX
open Go Go.RowKit
set_option linter.unusedVariables false
set_option maxRecDepth 1000000
noncomputable def kpA:List Nat:=[16,17,18,19,20,21,22,23,24,25,26,29,30,31,32,33,34,35,36,37,39,46,47,48,49,51,58,59,60,61,63]
noncomputable def bsA:List Blk:=[.cells ([(qS []),(qS [])]),
 .cells ([(qL 39 0 2 1),(qL 16 0 1 2),(.slice none 0 0)]),
 .map [],
 .map [],
 .cells ([(qU 0),(qU 0),(.map (some 18)),(.map (some 19))]),
 .map [],
 .map [],
 .map [],
 .map [],
 .cells ([(qP 20 0),(qL 51 0 1 2),(.map (some 21)),(.map (some 22)),(.map (some 23)),(.map (some 24)),qF]),
 .cells (List.append [(qP 25 0),(qU 150)] ((qR 17 qF))),
 .map [],
 .map [],
 .cells ([(qU 0),(qU 0),(.map (some 29)),(.map (some 30))]),
 .map [],
 .map [],
 .map [],
 .map [],
 .cells ([(qP 31 0),(qL 63 0 1 2),(.map (some 32)),(.map (some 33)),(.map (some 34)),(.map (some 35)),qF]),
 .cells (List.append [(qP 36 0),(qU 150)] ((qR 17 qF))),
 .cells ([(qP 26 0),(qP 37 0)]),
 .cells (List.append [(qW 1),(qU 100),(qU 50),(qB 0),(qB 1)] (List.append (qR 30 (qB 0)) (List.append [(qS [108,101,102,116]),(qS [114,105,103,104,116]),(qI 0),(qI 0),qF,(qU 0),(qU 0),qF,qF,qF,(qU 50),(qU 50),(.slice none 0 0),qF,(qI 0)] (List.append (qR 32 (qB 0)) (List.append [qF,(qI 0)] (List.append (qR 32 (qB 0)) (List.append [qF,(qI 0)] (List.append (qR 32 (qB 0)) (List.append [qF,(qI 0)] (List.append (qR 32 (qB 0)) (List.append [qF,(qI 0)] (List.append (qR 32 (qB 0)) (List.append [qF,(qI 0)] (List.append (qR 32 (qB 0)) (List.append [qF,(qI 0)] (List.append (qR 32 (qB 0)) (List.append [qF,(qI 0)] (List.append (qR 32 (qB 0)) (List.append [qF,(qI 0)] (List.append (qR 32 (qB 0)) (List.append [qF,(qI 0)] (List.append (qR 32 (qB 0)) (List.append [qF,(qI 0)] (List.append (qR 32 (qB 0)) (List.append [qF,(qI 0)] (List.append (qR 32 (qB 0)) (List.append [qF,(qI 0)] (List.append (qR 32 (qB 0)) (List.append [qF,(qI 0)] (List.append (qR 32 (qB 0)) (List.append [qF,(qI 0)] (List.append (qR 32 (qB 0)) (List.append [qF,(qI 0)] (List.append (qR 32 (qB 0)) (List.append [qF,(qI 0)] (List.append (qR 32 (qB 0)) ([(.slice none 0 0),(.slice none 0 0)]))))))))))))))))))))))))))))))))))))),
 .cells ([(qN 293 47 6),(.slice none 0 0),(qI 0),qF,(qI 0),qF]),
 .cells ([(qS [])]),
 .cells ([(qP 48 0),(qP 46 0),(qP 47 0),(qS []),(.slice none 0 0),(qI 0),qF,qF,qF]),
 .cells ([(qW 1),(qP 49 0)]),
 .cells (List.append [(qW 1),(qU 100),(qU 50),(qB 0),(qB 2)] (List.append (qR 30 (qB 0)) (List.append [(qS [114,105,103,104,116]),(qS [108,101,102,116]),(qI 0),(qI 0),qF,(qU 0),(qU 0),qF,qF,qF,(qU 50),(qU 50),(.slice none 0 0),qF,(qI 0)] (List.append (qR 32 (qB 0)) (List.append [qF,(qI 0)] (List.append (qR 32 (qB 0)) (List.append [qF,(qI 0)] (List.append (qR 32 (qB 0)) (List.append [qF,(qI 0)] (List.append (qR 32 (qB 0)) (List.append [qF,(qI 0)] (List.append (qR 32 (qB 0)) (List.append [qF,(qI 0)] (List.append (qR 32 (qB 0)) (List.append [qF,(qI 0)] (List.append (qR 32 (qB 0)) (List.append [qF,(qI 0)] (List.append (qR 32 (qB 0)) (List.append [qF,(qI 0)] (List.append (qR 32 (qB 0)) (List.append [qF,(qI 0)] (List.append (qR 32 (qB 0)) (List.append [qF,(qI 0)] (List.append (qR 32 (qB 0)) (List.append [qF,(qI 0)] (List.append (qR 32 (qB 0)) (List.append [qF,(qI 0)] (List.append (qR 32 (qB 0)) (List.append [qF,(qI 0)] (List.append (qR 32 (qB 0)) (List.append [qF,(qI 0)] (List.append (qR 32 (qB 0)) (List.append [qF,(qI 0)] (List.append (qR 32 (qB 0)) (List.append [qF,(qI 0)] (List.append (qR 32 (qB 0)) ([(.slice none 0 0),(.slice none 0 0)]))))))))))))))))))))))))))))))))))))),
 .cells ([(qN 293 59 6),(.slice none 0 0),(qI 0),qF,(qI 0),qF]),
 .cells ([(qS [])]),
 .cells ([(qP 60 0),(qP 58 0),(qP 59 0),(qS []),(.slice none 0 0),(qI 0),qF,qF,qF]),
 .cells ([(qW 1),(qP 61 0)])]
noncomputable def kpB:List Nat:=[16,17,18,19,20,21,22,23,24,25,26,29,30,31,32,33,34,35,36,37,39,46,47,48,49,51,58,59,60,61,63,67]
noncomputable def bsB:List Blk:=[.cells ([(qS []),(qS [])]),
 .cells ([(qL 39 0 2 1),(qL 16 0 1 2),(qL 67 0 1 6)]),
 .map [],
 .map [],
 .cells ([(qU 0),(qU 0),(.map (some 18)),(.map (some 19))]),
 .map [],
 .map [],
 .map [],
 .map [],
 .cells ([(qP 20 0),(qL 51 0 1 2),(.map (some 21)),(.map (some 22)),(.map (some 23)),(.map (some 24)),qF]),
 .cells (List.append [(qP 25 0),(qU 150)] ((qR 17 qF))),
 .map [],
 .map [],
 .cells ([(qU 0),(qU 0),(.map (some 29)),(.map (some 30))]),
 .map [((.agg ⟨(qBs [239,154,117,76,182,13,101,253,115,74,12,183,155,70,50,173,187,218,68,13,162,95,243,165,62,196,190,4,32,158,42,225])⟩),(.agg ⟨List.append [(qB 1)] ((qR 31 (qB 42)))⟩))],
 .map [],
 .map [],
 .map [],
 .cells ([(qP 31 0),(qL 63 0 1 2),(.map (some 32)),(.map (some 33)),(.map (some 34)),(.map (some 35)),qF]),
 .cells (List.append [(qP 36 0),(qU 150)] ((qR 17 qF))),
 .cells ([(qP 26 0),(qP 37 0)]),
 .cells (List.append [(qW 1),(qU 100),(qU 50),(qB 0),(qB 1)] (List.append (qR 30 (qB 0)) (List.append [(qS [108,101,102,116]),(qS [114,105,103,104,116]),(qI 0),(qI 0),qF,(qU 0),(qU 0),qF,qF,qF,(qU 50),(qU 50),(.slice none 0 0),qF,(qI 0)] (List.append (qR 32 (qB 0)) (List.append [qF,(qI 0)] (List.append (qR 32 (qB 0)) (List.append [qF,(qI 0)] (List.append (qR 32 (qB 0)) (List.append [qF,(qI 0)] (List.append (qR 32 (qB 0)) (List.append [qF,(qI 0)] (List.append (qR 32 (qB 0)) (List.append [qF,(qI 0)] (List.append (qR 32 (qB 0)) (List.append [qF,(qI 0)] (List.append (qR 32 (qB 0)) (List.append [qF,(qI 0)] (List.append (qR 32 (qB 0)) (List.append [qF,(qI 0)] (List.append (qR 32 (qB 0)) (List.append [qF,(qI 0)] (List.append (qR 32 (qB 0)) (List.append [qF,(qI 0)] (List.append (qR 32 (qB 0)) (List.append [qF,(qI 0)] (List.append (qR 32 (qB 0)) (List.append [qF,(qI 0)] (List.append (qR 32 (qB 0)) (List.append [qF,(qI 0)] (List.append (qR 32 (qB 0)) (List.append [qF,(qI 0)] (List.append (qR 32 (qB 0)) (List.append [qF,(qI 0)] (List.append (qR 32 (qB 0)) (List.append [qF,(qI 0)] (List.append (qR 32 (qB 0)) ([(.slice none 0 0),(.slice none 0 0)]))))))))))))))))))))))))))))))))))))),
 .cells ([(qN 293 47 6),(.slice none 0 0),(qI 0),qF,(qI 0),qF]),
 .cells ([(qS [])]),
 .cells ([(qP 48 0),(qP 46 0),(qP 47 0),(qS []),(.slice none 0 0),(qI 0),qF,qF,qF]),
 .cells ([(qW 1),(qP 49 0)]),
 .cells (List.append [(qW 1),(qU 100),(qU 50),(qB 0),(qB 2)] (List.append (qR 30 (qB 0)) (List.append [(qS [114,105,103,104,116]),(qS [108,101,102,116]),(qI 0),(qI 0),qF,(qU 0),(qU 0),qF,qF,qF,(qU 50),(qU 50),(.slice none 0 0),qF,(qI 0)] (List.append (qR 32 (qB 0)) (List.append [qF,(qI 0)] (List.append (qR 32 (qB 0)) (List.append [qF,(qI 0)] (List.append (qR 32 (qB 0)) (List.append [qF,(qI 0)] (List.append (qR 32 (qB 0)) (List.append [qF,(qI 0)] (List.append (qR 32 (qB 0)) (List.append [qF,(qI 0)] (List.append (qR 32 (qB 0)) (List.append [qF,(qI 0)] (List.append (qR 32 (qB 0)) (List.append [qF,(qI 0)] (List.append (qR 32 (qB 0)) (List.append [qF,(qI 0)] (List.append (qR 32 (qB 0)) (List.append [qF,(qI 0)] (List.append (qR 32 (qB 0)) (List.append [qF,(qI 0)] (List.append (qR 32 (qB 0)) (List.append [qF,(qI 0)] (List.append (qR 32 (qB 0)) (List.append [qF,(qI 0)] (List.append (qR 32 (qB 0)) (List.append [qF,(qI 0)] (List.append (qR 32 (qB 0)) (List.append [qF,(qI 0)] (List.append (qR 32 (qB 0)) (List.append [qF,(qI 0)] (List.append (qR 32 (qB 0)) (List.append [qF,(qI 0)] (List.append (qR 32 (qB 0)) ([(.slice none 0 0),(.slice none 0 0)]))))))))))))))))))))))))))))))))))))),
 .cells ([(qN 293 59 6),(.slice none 0 0),(qI 0),qF,(qI 0),qF]),
 .cells ([(qS [])]),
 .cells ([(qP 60 0),(qP 58 0),(qP 59 0),(qS []),(.slice none 0 0),(qI 0),qF,qF,qF]),
 .cells ([(qW 1),(qP 61 0)]),
 .cells ([(qI 1),(qI 1),(qI 0),(qU 0),(qB 1),(qI 0)])]
noncomputable def kpC:List Nat:=[16,17,18,19,20,21,22,23,24,25,26,29,30,31,32,33,34,35,36,37,39,46,47,48,49,51,58,59,60,61,63,84,144,148,172]
noncomputable def bsC:List Blk:=[.cells ([(qS []),(qS [0,57,3,0,0,0,1,0,0,0,0,0,0,0,0,0,0,0,0,0,0,0,5,239,154,117,76,182,13,101,253,115,74,12,183,155,70,50,173,187,218,68,13,162,95,243,165,62,196,190,4,32,158,42,225,0,0,0,9])]),
 .cells ([(qL 39 0 2 1),(qL 16 0 1 2),(qL 84 0 2 6)]),
 .map [],
 .map [],
 .cells ([(qU 0),(qU 0),(.map (some 18)),(.map (some 19))]),
 .map [],
 .map [],
 .map [],
 .map [((.agg ⟨[(qI 0),(qU 0)]⟩),(.agg ⟨List.append [(qI 1)] ((qR 32 (qB 0)))⟩))],
 .cells ([(qP 20 0),(qL 51 0 1 2),(.map (some 21)),(.map (some 22)),(.map (some 23)),(.map (some 24)),qF]),
 .cells (List.append [(qP 25 0),(qU 150)] ((qR 17 qF))),
 .map [],
 .map [],
 .cells ([(qU 0),(qU 0),(.map (some 29)),(.map (some 30))]),
 .map [((.agg ⟨(qBs [239,154,117,76,182,13,101,253,115,74,12,183,155,70,50,173,187,218,68,13,162,95,243,165,62,196,190,4,32,158,42,225])⟩),(.agg ⟨List.append [(qB 1)] ((qR 31 (qB 42)))⟩))],
 .map [],
 .map [],
 .map [],
 .cells ([(qP 31 0),(qL 63 0 1 2),(.map (some 32)),(.map (some 33)),(.map (some 34)),(.map (some 35)),qF]),
 .cells (List.append [(qP 36 0),(qU 150)] ((qR 17 qF))),
 .cells ([(qP 26 0),(qP 37 0)]),
 .cells (List.append [(qW 1),(qU 100),(qU 50),(qB 0),(qB 1)] (List.append (qR 30 (qB 0)) (List.append [(qS [108,101,102,116]),(qS [114,105,103,104,116]),(qI 0),(qI 0),qF,(qU 1),(qU 0),qF,qF,qF,(qU 45),(qU 50),(qL 144 0 1 38),qF,(qI 0)] (List.append (qR 32 (qB 0)) (List.append [qF,(qI 0)] (List.append (qR 32 (qB 0)) (List.append [qF,(qI 0)] (List.append (qR 32 (qB 0)) (List.append [qF,(qI 0)] (List.append (qR 32 (qB 0)) (List.append [qF,(qI 0)] (List.append (qR 32 (qB 0)) (List.append [qF,(qI 0)] (List.append (qR 32 (qB 0)) (List.append [qF,(qI 0)] (List.append (qR 32 (qB 0)) (List.append [qF,(qI 0)] (List.append (qR 32 (qB 0)) (List.append [qF,(qI 0)] (List.append (qR 32 (qB 0)) (List.append [qF,(qI 0)] (List.append (qR 32 (qB 0)) (List.append [qF,(qI 0)] (List.append (qR 32 (qB 0)) (List.append [qF,(qI 0)] (List.append (qR 32 (qB 0)) (List.append [qF,(qI 0)] (List.append (qR 32 (qB 0)) (List.append [qF,(qI 0)] (List.append (qR 32 (qB 0)) (List.append [qF,(qI 0)] (List.append (qR 32 (qB 0)) (List.append [qF,(qI 0)] (List.append (qR 32 (qB 0)) (List.append [qF,(qI 0)] (List.append (qR 32 (qB 0)) ([(qL 148 0 1 38),(.slice none 0 0)]))))))))))))))))))))))))))))))))))))),
 .cells ([(qP 47 0),(qL 172 0 59 1),(qI 1),qF,(qI 0),qF]),
 .cells ([(qS [])]),
 .cells ([(qP 48 0),(qP 46 0),(qP 47 0),(qS []),(.slice none 0 0),(qI 0),qF,qF,qF]),
 .cells ([(qW 1),(qP 49 0)]),
 .cells (List.append [(qW 1),(qU 100),(qU 50),(qB 0),(qB 2)] (List.append (qR 30 (qB 0)) (List.append [(qS [114,105,103,104,116]),(qS [108,101,102,116]),(qI 0),(qI 0),qF,(qU 0),(qU 0),qF,qF,qF,(qU 50),(qU 50),(.slice none 0 0),qF,(qI 0)] (List.append (qR 32 (qB 0)) (List.append [qF,(qI 0)] (List.append (qR 32 (qB 0)) (List.append [qF,(qI 0)] (List.append (qR 32 (qB 0)) (List.append [qF,(qI 0)] (List.append (qR 32 (qB 0)) (List.append [qF,(qI 0)] (List.append (qR 32 (qB 0)) (List.append [qF,(qI 0)] (List.append (qR 32 (qB 0)) (List.append [qF,(qI 0)] (List.append (qR 32 (qB 0)) (List.append [qF,(qI 0)] (List.append (qR 32 (qB 0)) (List.append [qF,(qI 0)] (List.append (qR 32 (qB 0)) (List.append [qF,(qI 0)] (List.append (qR 32 (qB 0)) (List.append [qF,(qI 0)] (List.append (qR 32 (qB 0)) (List.append [qF,(qI 0)] (List.append (qR 32 (qB 0)) (List.append [qF,(qI 0)] (List.append (qR 32 (qB 0)) (List.append [qF,(qI 0)] (List.append (qR 32 (qB 0)) (List.append [qF,(qI 0)] (List.append (qR 32 (qB 0)) (List.append [qF,(qI 0)] (List.append (qR 32 (qB 0)) (List.append [qF,(qI 0)] (List.append (qR 32 (qB 0)) ([(.slice none 0 0),(.slice none 0 0)]))))))))))))))))))))))))))))))))))))),
 .cells ([(qN 293 59 6),(.slice none 0 0),(qI 0),qF,(qI 0),qF]),
 .cells ([(qS [])]),
 .cells ([(qP 60 0),(qP 58 0),(qP 59 0),(qS []),(.slice none 0 0),(qI 0),qF,qF,qF]),
 .cells ([(qW 1),(qP 61 0)]),
 .cells ([(qI 1),(qI 1),(qI 0),(qU 0),(qB 1),(qI 0),(qI 3),(qI 0),(qI 0),(qU 5),(qB 1),(qI 9)]),
 .cells (List.append [(qU 0),(qU 5)] (List.append (qBs [239,154,117,76,182,13,101,253,115,74,12,183,155,70,50,173,187,218,68,13,162,95,243,165,62,196,190,4,32,158,42,225]) ([(qI 9),qT,(qI 0),qF]))),
 .cells (List.append [(qI 3),(qW 1),(qU 0),(qU 5)] (List.append (qBs [239,154,117,76,182,13,101,253,115,74,12,183,155,70,50,173,187,218,68,13,162,95,243,165,62,196,190,4,32,158,42,225]) ([(qI 9),(qI 0)]))),
 .cells (List.append (qR 9 (qB 0)) (List.append [(qB 45),(qB 1)] (List.append (qR 7 (qB 0)) ((qBs [5,239,154,117,76,182,13,101,253,115,74,12,183,155,70,50,173,187,218,68,13,162,95,243,165,62,196,190,4,32,158,42,225,0,0,0,9,155,194,208,229])))))]
noncomputable def an0:Value:=.agg ⟨[qI 0,qU 0,.slice none 0 0]⟩
noncomputable def rq1:Value:=(.agg ⟨[qI 1,qI 1,qI 0,qU 0,qB 1,qI 0]⟩)
noncomputable def rq2:Value:=(.agg ⟨[qI 3,qI 0,qI 0,qU 5,qB 1,qI 9]⟩)
noncomputable def rq3:Value:=(.agg ⟨[qI 8,qI 0,qI 0,qU 0,qB 0,qI 0]⟩)
theorem lkA:ltH kpA=true:=by kernel_rfl
theorem lkB:ltH kpB=true:=by kernel_rfl
theorem lkC:ltH kpC=true:=by kernel_rfl
theorem runA:snapR kpA (cl1 86 [qI 2,qU 100,qU 0,qU 0] .nil 16)=.ok (qP 17 0) bsA 64:=by kernel_rfl
theorem runB:snapR kpB (cl1 18 [qP 17 0,rq1] (mkH kpA bsA) 64)=.ok an0 bsB 81:=by kernel_rfl
theorem runC:snapR kpC (cl1 18 [qP 17 0,rq2] (mkH kpB bsB) 81)=.ok an0 bsC 177:=by kernel_rfl
end SX
namespace SX
open Go Go.RowKit
set_option linter.unusedVariables false
set_option maxRecDepth 1000000
noncomputable def vs_0:List Value:=List.append [(qP 17 0),(qI 60),(.tuple ⟨[]⟩),(.tuple ⟨[]⟩),(qI 0),(qI 0),(.tuple ⟨[]⟩),(.tuple ⟨[]⟩),(qI 60),(qI 60),(qI 0)] ((qR 18 (.tuple ⟨[]⟩)))
noncomputable def kp_0:List Nat:=[16,17,18,19,20,21,22,23,24,25,26,29,30,31,32,33,34,35,36,37,39,46,47,48,49,51,58,59,60,61,63,84,144,148,172]
noncomputable def bs_0:List Blk:=[.cells ([(qS []),(qS [0,57,3,0,0,0,1,0,0,0,0,0,0,0,0,0,0,0,0,0,0,0,5,239,154,117,76,182,13,101,253,115,74,12,183,155,70,50,173,187,218,68,13,162,95,243,165,62,196,190,4,32,158,42,225,0,0,0,9])]),
 .cells ([(qL 39 0 2 1),(qL 16 0 1 2),(qL 84 0 2 6)]),
 .map [],
 .map [],
 .cells ([(qU 0),(qU 0),(.map (some 18)),(.map (some 19))]),
 .map [],
 .map [],
 .map [],
 .map [((.agg ⟨[(qI 0),(qU 0)]⟩),(.agg ⟨List.append [(qI 1)] ((qR 32 (qB 0)))⟩))],
 .cells ([(qP 20 0),(qL 51 0 1 2),(.map (some 21)),(.map (some 22)),(.map (some 23)),(.map (some 24)),qF]),
 .cells (List.append [(qP 25 0),(qU 150)] ((qR 17 qF))),
 .map [],
 .map [],
 .cells ([(qU 0),(qU 0),(.map (some 29)),(.map (some 30))]),
 .map [((.agg ⟨(qBs [239,154,117,76,182,13,101,253,115,74,12,183,155,70,50,173,187,218,68,13,162,95,243,165,62,196,190,4,32,158,42,225])⟩),(.agg ⟨List.append [(qB 1)] ((qR 31 (qB 42)))⟩))],
 .map [],
 .map [],
 .map [],
 .cells ([(qP 31 0),(qL 63 0 1 2),(.map (some 32)),(.map (some 33)),(.map (some 34)),(.map (some 35)),qF]),
 .cells (List.append [(qP 36 0),(qU 150)] ((qR 17 qF))),
 .cells ([(qP 26 0),(qP 37 0)]),
 .cells (List.append [(qW 1),(qU 100),(qU 50),(qB 0),(qB 1)] (List.append (qR 30 (qB 0)) (List.append [(qS [108,101,102,116]),(qS [114,105,103,104,116]),(qI 0),(qI 0),qF,(qU 1),(qU 0),qF,qF,qF,(qU 45),(qU 50),(qL 144 0 1 38),qF,(qI 0)] (List.append (qR 32 (qB 0)) (List.append [qF,(qI 0)] (List.append (qR 32 (qB 0)) (List.append [qF,(qI 0)] (List.append (qR 32 (qB 0)) (List.append [qF,(qI 0)] (List.append (qR 32 (qB 0)) (List.append [qF,(qI 0)] (List.append (qR 32 (qB 0)) (List.append [qF,(qI 0)] (List.append (qR 32 (qB 0)) (List.append [qF,(qI 0)] (List.append (qR 32 (qB 0)) (List.append [qF,(qI 0)] (List.append (qR 32 (qB 0)) (List.append [qF,(qI 0)] (List.append (qR 32 (qB 0)) (List.append [qF,(qI 0)] (List.append (qR 32 (qB 0)) (List.append [qF,(qI 0)] (List.append (qR 32 (qB 0)) (List.append [qF,(qI 0)] (List.append (qR 32 (qB 0)) (List.append [qF,(qI 0)] (List.append (qR 32 (qB 0)) (List.append [qF,(qI 0)] (List.append (qR 32 (qB 0)) (List.append [qF,(qI 0)] (List.append (qR 32 (qB 0)) (List.append [qF,(qI 0)] (List.append (qR 32 (qB 0)) (List.append [qF,(qI 0)] (List.append (qR 32 (qB 0)) ([(qL 148 0 1 38),(.slice none 0 0)]))))))))))))))))))))))))))))))))))))),
 .cells ([(qP 47 0),(qL 172 0 59 1),(qI 1),qF,(qI 0),qF]),
 .cells ([(qS [])]),
 .cells ([(qP 48 0),(qP 46 0),(qP 47 0),(qS []),(.slice none 0 0),(qI 0),qF,qF,qF]),
 .cells ([(qW 1),(qP 49 0)]),
 .cells (List.append [(qW 1),(qU 100),(qU 50),(qB 0),(qB 2)] (List.append (qR 30 (qB 0)) (List.append [(qS [114,105,103,104,116]),(qS [108,101,102,116]),(qI 0),(qI 0),qF,(qU 0),(qU 0),qF,qF,qF,(qU 50),(qU 50),(.slice none 0 0),qF,(qI 0)] (List.append (qR 32 (qB 0)) (List.append [qF,(qI 0)] (List.append (qR 32 (qB 0)) (List.append [qF,(qI 0)] (List.append (qR 32 (qB 0)) (List.append [qF,(qI 0)] (List.append (qR 32 (qB 0)) (List.append [qF,(qI 0)] (List.append (qR 32 (qB 0)) (List.append [qF,(qI 0)] (List.append (qR 32 (qB 0)) (List.append [qF,(qI 0)] (List.append (qR 32 (qB 0)) (List.append [qF,(qI 0)] (List.append (qR 32 (qB 0)) (List.append [qF,(qI 0)] (List.append (qR 32 (qB 0)) (List.append [qF,(qI 0)] (List.append (qR 32 (qB 0)) (List.append [qF,(qI 0)] (List.append (qR 32 (qB 0)) (List.append [qF,(qI 0)] (List.append (qR 32 (qB 0)) (List.append [qF,(qI 0)] (List.append (qR 32 (qB 0)) (List.append [qF,(qI 0)] (List.append (qR 32 (qB 0)) (List.append [qF,(qI 0)] (List.append (qR 32 (qB 0)) (List.append [qF,(qI 0)] (List.append (qR 32 (qB 0)) (List.append [qF,(qI 0)] (List.append (qR 32 (qB 0)) ([(.slice none 0 0),(.slice none 0 0)]))))))))))))))))))))))))))))))))))))),
 .cells ([(qN 293 59 6),(.slice none 0 0),(qI 0),qF,(qI 0),qF]),
 .cells ([(qS [])]),
 .cells ([(qP 60 0),(qP 58 0),(qP 59 0),(qS []),(.slice none 0 0),(qI 0),qF,qF,qF]),
 .cells ([(qW 1),(qP 61 0)]),
 .cells ([(qI 1),(qI 1),(qI 0),(qU 0),(qB 1),(qI 0),(qI 3),(qI 0),(qI 0),(qU 5),(qB 1),(qI 9)]),
 .cells (List.append [(qU 0),(qU 5)] (List.append (qBs [239,154,117,76,182,13,101,253,115,74,12,183,155,70,50,173,187,218,68,13,162,95,243,165,62,196,190,4,32,158,42,225]) ([(qI 9),qT,(qI 0),qF]))),
 .cells (List.append [(qI 3),(qW 1),(qU 0),(qU 5)] (List.append (qBs [239,154,117,76,182,13,101,253,115,74,12,183,155,70,50,173,187,218,68,13,162,95,243,165,62,196,190,4,32,158,42,225]) ([(qI 9),(qI 0)]))),
 .cells (List.append (qR 9 (qB 0)) (List.append [(qB 45),(qB 1)] (List.append (qR 7 (qB 0)) ((qBs [5,239,154,117,76,182,13,101,253,115,74,12,183,155,70,50,173,187,218,68,13,162,95,243,165,62,196,190,4,32,158,42,225,0,0,0,9,155,194,208,229])))))]
theorem lk_0:ltH kp_0=true:=by kernel_rfl
noncomputable def vs_1:List Value:=[(qP 17 0),(qI 60),(.tuple ⟨[]⟩),(.tuple ⟨[]⟩),(qI 0),(qI 0),(qI 5),(qI 0),(qI 60),(qI 60),(qI 1),qT,(qP 17 0),(qI 6),(qI 6),qF,(qI 5),(qP 17 0),(qI 5),(qI 0),(qI 0),qT,(qI 0),(qI 0),(qL 250 0 2 1),(qI 0),(qI 6),(qI 1),(.tuple ⟨[]⟩)]
noncomputable def kp_1:List Nat:=[16,17,18,19,20,21,22,23,24,25,26,29,30,31,32,33,34,35,36,37,39,46,47,48,49,51,58,59,60,61,63,84,144,148,172,213,237,250]
noncomputable def bs_1:List Blk:=[.cells ([(qS []),(qS [])]),
 .cells ([(qL 39 0 2 1),(qL 16 0 1 2),(qL 84 0 2 6)]),
 .map [],
 .map [],
 .cells ([(qU 0),(qU 0),(.map (some 18)),(.map (some 19))]),
 .map [],
 .map [],
 .map [],
 .map [((.agg ⟨[(qI 0),(qU 0)]⟩),(.agg ⟨List.append [(qI 1)] ((qR 32 (qB 0)))⟩))],
 .cells ([(qP 20 0),(qL 51 0 1 2),(.map (some 21)),(.map (some 22)),(.map (some 23)),(.map (some 24)),qF]),
 .cells (List.append [(qP 25 0),(qU 150)] ((qR 17 qF))),
 .map [],
 .map [],
 .cells ([(qU 0),(qU 0),(.map (some 29)),(.map (some 30))]),
 .map [((.agg ⟨(qBs [239,154,117,76,182,13,101,253,115,74,12,183,155,70,50,173,187,218,68,13,162,95,243,165,62,196,190,4,32,158,42,225])⟩),(.agg ⟨List.append [(qB 1)] ((qR 31 (qB 42)))⟩))],
 .map [],
 .map [],
 .map [],
 .cells ([(qP 31 0),(qL 63 0 1 2),(.map (some 32)),(.map (some 33)),(.map (some 34)),(.map (some 35)),qF]),
 .cells (List.append [(qP 36 0),(qU 150)] ((qR 17 qF))),
 .cells ([(qP 26 0),(qP 37 0)]),
 .cells (List.append [(qW 1),(qU 100),(qU 50),(qB 0),(qB 1)] (List.append (qR 30 (qB 0)) (List.append [(qS [108,101,102,116]),(qS [114,105,103,104,116]),(qI 0),(qI 0),qF,(qU 1),(qU 0),qF,qF,qF,(qU 45),(qU 50),(qL 144 0 1 38),qF,(qI 0)] (List.append (qR 32 (qB 0)) (List.append [qF,(qI 0)] (List.append (qR 32 (qB 0)) (List.append [qF,(qI 0)] (List.append (qR 32 (qB 0)) (List.append [qF,(qI 0)] (List.append (qR 32 (qB 0)) (List.append [qF,(qI 0)] (List.append (qR 32 (qB 0)) (List.append [qF,(qI 0)] (List.append (qR 32 (qB 0)) (List.append [qF,(qI 0)] (List.append (qR 32 (qB 0)) (List.append [qF,(qI 0)] (List.append (qR 32 (qB 0)) (List.append [qF,(qI 0)] (List.append (qR 32 (qB 0)) (List.append [qF,(qI 0)] (List.append (qR 32 (qB 0)) (List.append [qF,(qI 0)] (List.append (qR 32 (qB 0)) (List.append [qF,(qI 0)] (List.append (qR 32 (qB 0)) (List.append [qF,(qI 0)] (List.append (qR 32 (qB 0)) (List.append [qF,(qI 0)] (List.append (qR 32 (qB 0)) (List.append [qF,(qI 0)] (List.append (qR 32 (qB 0)) (List.append [qF,(qI 0)] (List.append (qR 32 (qB 0)) (List.append [qF,(qI 0)] (List.append (qR 32 (qB 0)) ([(qL 148 0 1 38),(.slice none 0 0)]))))))))))))))))))))))))))))))))))))),
 .cells ([(qP 47 0),(qL 172 0 59 1),(qI 1),qF,(qI 0),qF]),
 .cells ([(qS [])]),
 .cells ([(qP 48 0),(qP 46 0),(qP 47 0),(qS []),(.slice none 0 0),(qI 1),qF,qF,qF]),
 .cells ([(qW 1),(qP 49 0)]),
 .cells (List.append [(qW 1),(qU 100),(qU 50),(qB 0),(qB 2)] (List.append (qR 30 (qB 0)) (List.append [(qS [114,105,103,104,116]),(qS [108,101,102,116]),(qI 0),(qI 0),qF,(qU 0),(qU 1),qF,qF,qF,(qU 50),(qU 45),(qL 213 0 1 38),qF,(qI 0)] (List.append (qR 32 (qB 0)) (List.append [qF,(qI 0)] (List.append (qR 32 (qB 0)) (List.append [qF,(qI 0)] (List.append (qR 32 (qB 0)) (List.append [qF,(qI 0)] (List.append (qR 32 (qB 0)) (List.append [qF,(qI 0)] (List.append (qR 32 (qB 0)) (List.append [qF,(qI 0)] (List.append (qR 32 (qB 0)) (List.append [qF,(qI 0)] (List.append (qR 32 (qB 0)) (List.append [qF,(qI 0)] (List.append (qR 32 (qB 0)) (List.append [qF,(qI 0)] (List.append (qR 32 (qB 0)) (List.append [qF,(qI 0)] (List.append (qR 32 (qB 0)) (List.append [qF,(qI 0)] (List.append (qR 32 (qB 0)) (List.append [qF,(qI 0)] (List.append (qR 32 (qB 0)) (List.append [qF,(qI 0)] (List.append (qR 32 (qB 0)) (List.append [qF,(qI 0)] (List.append (qR 32 (qB 0)) (List.append [qF,(qI 0)] (List.append (qR 32 (qB 0)) (List.append [qF,(qI 0)] (List.append (qR 32 (qB 0)) (List.append [qF,(qI 0)] (List.append (qR 32 (qB 0)) ([(.slice none 0 0),(.slice none 0 0)]))))))))))))))))))))))))))))))))))))),
 .cells ([(qP 59 0),(qL 237 0 72 1),(qI 1),qF,(qI 0),qF]),
 .cells ([(qS [])]),
 .cells ([(qP 60 0),(qP 58 0),(qP 59 0),(qS []),(.slice none 0 0),(qI 1),qF,qF,qF]),
 .cells ([(qW 1),(qP 61 0)]),
 .cells ([(qI 1),(qI 1),(qI 0),(qU 0),(qB 1),(qI 0),(qI 3),(qI 0),(qI 0),(qU 5),(qB 1),(qI 9)]),
 .cells (List.append [(qU 0),(qU 5)] (List.append (qBs [239,154,117,76,182,13,101,253,115,74,12,183,155,70,50,173,187,218,68,13,162,95,243,165,62,196,190,4,32,158,42,225]) ([(qI 9),qT,(qI 0),qF]))),
 .cells (List.append [(qI 3),(qW 1),(qU 0),(qU 5)] (List.append (qBs [239,154,117,76,182,13,101,253,115,74,12,183,155,70,50,173,187,218,68,13,162,95,243,165,62,196,190,4,32,158,42,225]) ([(qI 9),(qI 0)]))),
 .cells (List.append (qR 9 (qB 0)) (List.append [(qB 45),(qB 1)] (List.append (qR 7 (qB 0)) ((qBs [5,239,154,117,76,182,13,101,253,115,74,12,183,155,70,50,173,187,218,68,13,162,95,243,165,62,196,190,4,32,158,42,225,0,0,0,9,155,194,208,229]))))),
 .cells (List.append [(qU 0),(qU 5)] (List.append (qBs [239,154,117,76,182,13,101,253,115,74,12,183,155,70,50,173,187,218,68,13,162,95,243,165,62,196,190,4,32,158,42,225]) ([(qI 9),qF,(qI 0),qF]))),
 .cells (List.append (qR 9 (qB 0)) (List.append (qBs [58,6,3,0,0,0,1]) (List.append (qR 15 (qB 0)) ((qBs [5,239,154,117,76,182,13,101,253,115,74,12,183,155,70,50,173,187,218,68,13,162,95,243,165,62,196,190,4,32,158,42,225,0,0,0,9,133,247,113,158]))))),
 .cells ([(qI 0),(qI 0)])]
theorem lk_1:ltH kp_1=true:=by kernel_rfl
theorem run_1:snapC 29 kp_1 (iterF fL 1 (mkT vs_0) (mkH kp_0 bs_0) 177)=.ok vs_1 bs_1 251:=by kernel_rfl
noncomputable def vs_2:List Value:=[(qP 17 0),(qI 60),(.tuple ⟨[]⟩),(.tuple ⟨[]⟩),(qI 0),(qI 0),(qI 5),(qI 0),(qI 60),(qI 60),(qI 2),qT,(qP 17 0),(qI 6),(qI 6),qF,(qI 5),(qP 17 0),(qI 5),(qI 0),(qI 0),qT,(qI 0),(qI 0),(qL 258 0 2 1),(qI 0),(qI 6),(qI 2),(.tuple ⟨[]⟩)]
noncomputable def kp_2:List Nat:=[16,17,18,19,20,21,22,23,24,25,26,29,30,31,32,33,34,35,36,37,39,46,47,48,49,51,58,59,60,61,63,84,144,148,172,213,237,258]
noncomputable def bs_2:List Blk:=[.cells ([(qS []),(qS [])]),
 .cells ([(qL 39 0 2 1),(qL 16 0 1 2),(qL 84 0 2 6)]),
 .map [],
 .map [],
 .cells ([(qU 0),(qU 0),(.map (some 18)),(.map (some 19))]),
 .map [],
 .map [],
 .map [],
 .map [((.agg ⟨[(qI 0),(qU 0)]⟩),(.agg ⟨List.append [(qI 1)] ((qR 32 (qB 0)))⟩))],
 .cells ([(qP 20 0),(qL 51 0 1 2),(.map (some 21)),(.map (some 22)),(.map (some 23)),(.map (some 24)),qF]),
 .cells (List.append [(qP 25 0),(qU 150)] ((qR 17 qF))),
 .map [],
 .map [],
 .cells ([(qU 0),(qU 0),(.map (some 29)),(.map (some 30))]),
 .map [((.agg ⟨(qBs [239,154,117,76,182,13,101,253,115,74,12,183,155,70,50,173,187,218,68,13,162,95,243,165,62,196,190,4,32,158,42,225])⟩),(.agg ⟨List.append [(qB 1)] ((qR 31 (qB 42)))⟩))],
 .map [],
 .map [],
 .map [],
 .cells ([(qP 31 0),(qL 63 0 1 2),(.map (some 32)),(.map (some 33)),(.map (some 34)),(.map (some 35)),qF]),
 .cells (List.append [(qP 36 0),(qU 150)] ((qR 17 qF))),
 .cells ([(qP 26 0),(qP 37 0)]),
 .cells (List.append [(qW 1),(qU 100),(qU 50),(qB 0),(qB 1)] (List.append (qR 30 (qB 0)) (List.append [(qS [108,101,102,116]),(qS [114,105,103,104,116]),(qI 0),(qI 0),qF,(qU 1),(qU 0),qF,qF,qF,(qU 45),(qU 50),(qL 144 0 1 38),qF,(qI 0)] (List.append (qR 32 (qB 0)) (List.append [qF,(qI 0)] (List.append (qR 32 (qB 0)) (List.append [qF,(qI 0)] (List.append (qR 32 (qB 0)) (List.append [qF,(qI 0)] (List.append (qR 32 (qB 0)) (List.append [qF,(qI 0)] (List.append (qR 32 (qB 0)) (List.append [qF,(qI 0)] (List.append (qR 32 (qB 0)) (List.append [qF,(qI 0)] (List.append (qR 32 (qB 0)) (List.append [qF,(qI 0)] (List.append (qR 32 (qB 0)) (List.append [qF,(qI 0)] (List.append (qR 32 (qB 0)) (List.append [qF,(qI 0)] (List.append (qR 32 (qB 0)) (List.append [qF,(qI 0)] (List.append (qR 32 (qB 0)) (List.append [qF,(qI 0)] (List.append (qR 32 (qB 0)) (List.append [qF,(qI 0)] (List.append (qR 32 (qB 0)) (List.append [qF,(qI 0)] (List.append (qR 32 (qB 0)) (List.append [qF,(qI 0)] (List.append (qR 32 (qB 0)) (List.append [qF,(qI 0)] (List.append (qR 32 (qB 0)) (List.append [qF,(qI 0)] (List.append (qR 32 (qB 0)) ([(qL 148 0 1 38),(.slice none 0 0)]))))))))))))))))))))))))))))))))))))),
 .cells ([(qP 47 0),(qL 172 0 59 1),(qI 1),qF,(qI 0),qF]),
 .cells ([(qS [])]),
 .cells ([(qP 48 0),(qP 46 0),(qP 47 0),(qS []),(.slice none 0 0),(qI 2),qF,qF,qF]),
 .cells ([(qW 1),(qP 49 0)]),
 .cells (List.append [(qW 1),(qU 100),(qU 50),(qB 0),(qB 2)] (List.append (qR 30 (qB 0)) (List.append [(qS [114,105,103,104,116]),(qS [108,101,102,116]),(qI 0),(qI 0),qF,(qU 0),(qU 1),qF,qF,qF,(qU 50),(qU 45),(qL 213 0 1 38),qF,(qI 0)] (List.append (qR 32 (qB 0)) (List.append [qF,(qI 0)] (List.append (qR 32 (qB 0)) (List.append [qF,(qI 0)] (List.append (qR 32 (qB 0)) (List.append [qF,(qI 0)] (List.append (qR 32 (qB 0)) (List.append [qF,(qI 0)] (List.append (qR 32 (qB 0)) (List.append [qF,(qI 0)] (List.append (qR 32 (qB 0)) (List.append [qF,(qI 0)] (List.append (qR 32 (qB 0)) (List.append [qF,(qI 0)] (List.append (qR 32 (qB 0)) (List.append [qF,(qI 0)] (List.append (qR 32 (qB 0)) (List.append [qF,(qI 0)] (List.append (qR 32 (qB 0)) (List.append [qF,(qI 0)] (List.append (qR 32 (qB 0)) (List.append [qF,(qI 0)] (List.append (qR 32 (qB 0)) (List.append [qF,(qI 0)] (List.append (qR 32 (qB 0)) (List.append [qF,(qI 0)] (List.append (qR 32 (qB 0)) (List.append [qF,(qI 0)] (List.append (qR 32 (qB 0)) (List.append [qF,(qI 0)] (List.append (qR 32 (qB 0)) (List.append [qF,(qI 0)] (List.append (qR 32 (qB 0)) ([(.slice none 0 0),(.slice none 0 0)]))))))))))))))))))))))))))))))))))))),
 .cells ([(qP 59 0),(qL 237 0 72 1),(qI 1),qF,(qI 0),qF]),
 .cells ([(qS [])]),
 .cells ([(qP 60 0),(qP 58 0),(qP 59 0),(qS []),(.slice none 0 0),(qI 2),qF,qF,qF]),
 .cells ([(qW 1),(qP 61 0)]),
 .cells ([(qI 1),(qI 1),(qI 0),(qU 0),(qB 1),(qI 0),(qI 3),(qI 0),(qI 0),(qU 5),(qB 1),(qI 9)]),
 .cells (List.append [(qU 0),(qU 5)] (List.append (qBs [239,154,117,76,182,13,101,253,115,74,12,183,155,70,50,173,187,218,68,13,162,95,243,165,62,196,190,4,32,158,42,225]) ([(qI 9),qT,(qI 0),qF]))),
 .cells (List.append [(qI 3),(qW 1),(qU 0),(qU 5)] (List.append (qBs [239,154,117,76,182,13,101,253,115,74,12,183,155,70,50,173,187,218,68,13,162,95,243,165,62,196,190,4,32,158,42,225]) ([(qI 9),(qI 0)]))),
 .cells (List.append (qR 9 (qB 0)) (List.append [(qB 45),(qB 1)] (List.append (qR 7 (qB 0)) ((qBs [5,239,154,117,76,182,13,101,253,115,74,12,183,155,70,50,173,187,218,68,13,162,95,243,165,62,196,190,4,32,158,42,225,0,0,0,9,155,194,208,229]))))),
 .cells (List.append [(qU 0),(qU 5)] (List.append (qBs [239,154,117,76,182,13,101,253,115,74,12,183,155,70,50,173,187,218,68,13,162,95,243,165,62,196,190,4,32,158,42,225]) ([(qI 9),qF,(qI 0),qF]))),
 .cells (List.append (qR 9 (qB 0)) (List.append (qBs [58,6,3,0,0,0,1]) (List.append (qR 15 (qB 0)) ((qBs [5,239,154,117,76,182,13,101,253,115,74,12,183,155,70,50,173,187,218,68,13,162,95,243,165,62,196,190,4,32,158,42,225,0,0,0,9,133,247,113,158]))))),
 .cells ([(qI 0),(qI 0)])]
theorem lk_2:ltH kp_2=true:=by kernel_rfl
theorem run_2:snapC 29 kp_2 (iterF fL 1 (mkT vs_1) (mkH kp_1 bs_1) 251)=.ok vs_2 bs_2 259:=by kernel_rfl
noncomputable def vs_3:List Value:=[(qP 17 0),(qI 60),(.tuple ⟨[]⟩),(.tuple ⟨[]⟩),(qI 0),(qI 0),(qI 5),(qI 0),(qI 60),(qI 60),(qI 3),qT,(qP 17 0),(qI 6),(qI 6),qF,(qI 5),(qP 17 0),(qI 5),(qI 0),(qI 0),qT,(qI 0),(qI 0),(qL 465 0 2 1),(qI 0),(qI 6),(qI 3),(.tuple ⟨[]⟩)]
noncomputable def kp_3:List Nat:=[16,17,18,19,20,21,22,23,24,25,26,29,30,31,32,33,34,35,36,37,39,46,47,48,49,51,58,59,60,61,63,84,213,237,278,416,440,465]
noncomputable def bs_3:List Blk:=[.cells ([(qS []),(qS [0,39,6,0,0,0,1,0,1,179,164,227,75,35,65,203,61,71,156,187,235,91,21,100,187,210,202,73,147,111,15,75,78,202,14,204,227,177,184,17,253])]),
 .cells ([(qL 39 0 2 1),(qL 16 0 1 2),(qL 84 0 2 6)]),
 .map [],
 .map [],
 .cells ([(qU 0),(qU 0),(.map (some 18)),(.map (some 19))]),
 .map [],
 .map [],
 .map [],
 .map [((.agg ⟨[(qI 0),(qU 0)]⟩),(.agg ⟨List.append [(qI 1)] ((qR 32 (qB 0)))⟩))],
 .cells ([(qP 20 0),(qL 51 0 1 2),(.map (some 21)),(.map (some 22)),(.map (some 23)),(.map (some 24)),qF]),
 .cells (List.append [(qP 25 0),(qU 150)] ((qR 17 qF))),
 .map [],
 .map [],
 .cells ([(qU 0),(qU 0),(.map (some 29)),(.map (some 30))]),
 .map [((.agg ⟨(qBs [239,154,117,76,182,13,101,253,115,74,12,183,155,70,50,173,187,218,68,13,162,95,243,165,62,196,190,4,32,158,42,225])⟩),(.agg ⟨List.append [(qB 1)] ((qR 31 (qB 42)))⟩))],
 .map [],
 .map [],
 .map [],
 .cells ([(qP 31 0),(qL 63 0 1 2),(.map (some 32)),(.map (some 33)),(.map (some 34)),(.map (some 35)),qF]),
 .cells (List.append [(qP 36 0),(qU 150)] ((qR 17 qF))),
 .cells ([(qP 26 0),(qP 37 0)]),
 .cells (List.append [(qW 1),(qU 100),(qU 50),(qB 0),(qB 1)] (List.append (qR 30 (qB 0)) (List.append [(qS [108,101,102,116]),(qS [114,105,103,104,116]),(qI 1),(qI 0),qT,(qU 1),(qU 0),qF,qF,qF,(qU 45),(qU 50),(qL 278 0 1 38),qF,(qI 0)] (List.append (qR 32 (qB 0)) (List.append [qF,(qI 0)] (List.append (qR 32 (qB 0)) (List.append [qF,(qI 0)] (List.append (qR 32 (qB 0)) (List.append [qF,(qI 0)] (List.append (qR 32 (qB 0)) (List.append [qF,(qI 0)] (List.append (qR 32 (qB 0)) (List.append [qF,(qI 0)] (List.append (qR 32 (qB 0)) (List.append [qF,(qI 0)] (List.append (qR 32 (qB 0)) (List.append [qF,(qI 0)] (List.append (qR 32 (qB 0)) (List.append [qF,(qI 0)] (List.append (qR 32 (qB 0)) (List.append [qF,(qI 0)] (List.append (qR 32 (qB 0)) (List.append [qF,(qI 0)] (List.append (qR 32 (qB 0)) (List.append [qF,(qI 0)] (List.append (qR 32 (qB 0)) (List.append [qF,(qI 0)] (List.append (qR 32 (qB 0)) (List.append [qF,(qI 0)] (List.append (qR 32 (qB 0)) (List.append [qF,(qI 0)] (List.append (qR 32 (qB 0)) (List.append [qF,(qI 0)] (List.append (qR 32 (qB 0)) (List.append [qF,(qI 0)] (List.append (qR 32 (qB 0)) ([(.slice none 0 0),(qL 416 0 2 38)]))))))))))))))))))))))))))))))))))))),
 .cells ([(qP 47 0),(qL 440 0 74 1),(qI 2),qF,(qI 0),qF]),
 .cells ([(qS [])]),
 .cells ([(qP 48 0),(qP 46 0),(qP 47 0),(qS []),(.slice none 0 0),(qI 3),qF,qF,qF]),
 .cells ([(qW 1),(qP 49 0)]),
 .cells (List.append [(qW 1),(qU 100),(qU 50),(qB 0),(qB 2)] (List.append (qR 30 (qB 0)) (List.append [(qS [114,105,103,104,116]),(qS [108,101,102,116]),(qI 0),(qI 0),qF,(qU 0),(qU 1),qF,qF,qF,(qU 50),(qU 45),(qL 213 0 1 38),qF,(qI 0)] (List.append (qR 32 (qB 0)) (List.append [qF,(qI 0)] (List.append (qR 32 (qB 0)) (List.append [qF,(qI 0)] (List.append (qR 32 (qB 0)) (List.append [qF,(qI 0)] (List.append (qR 32 (qB 0)) (List.append [qF,(qI 0)] (List.append (qR 32 (qB 0)) (List.append [qF,(qI 0)] (List.append (qR 32 (qB 0)) (List.append [qF,(qI 0)] (List.append (qR 32 (qB 0)) (List.append [qF,(qI 0)] (List.append (qR 32 (qB 0)) (List.append [qF,(qI 0)] (List.append (qR 32 (qB 0)) (List.append [qF,(qI 0)] (List.append (qR 32 (qB 0)) (List.append [qF,(qI 0)] (List.append (qR 32 (qB 0)) (List.append [qF,(qI 0)] (List.append (qR 32 (qB 0)) (List.append [qF,(qI 0)] (List.append (qR 32 (qB 0)) (List.append [qF,(qI 0)] (List.append (qR 32 (qB 0)) (List.append [qF,(qI 0)] (List.append (qR 32 (qB 0)) (List.append [qF,(qI 0)] (List.append (qR 32 (qB 0)) (List.append [qF,(qI 0)] (List.append (qR 32 (qB 0)) ([(.slice none 0 0),(.slice none 0 0)]))))))))))))))))))))))))))))))))))))),
 .cells ([(qP 59 0),(qL 237 0 72 1),(qI 1),qF,(qI 0),qF]),
 .cells ([(qS [])]),
 .cells ([(qP 60 0),(qP 58 0),(qP 59 0),(qS []),(.slice none 0 0),(qI 3),qF,qF,qF]),
 .cells ([(qW 1),(qP 61 0)]),
 .cells ([(qI 1),(qI 1),(qI 0),(qU 0),(qB 1),(qI 0),(qI 3),(qI 0),(qI 0),(qU 5),(qB 1),(qI 9)]),
 .cells (List.append [(qU 0),(qU 5)] (List.append (qBs [239,154,117,76,182,13,101,253,115,74,12,183,155,70,50,173,187,218,68,13,162,95,243,165,62,196,190,4,32,158,42,225]) ([(qI 9),qF,(qI 0),qF]))),
 .cells (List.append (qR 9 (qB 0)) (List.append (qBs [58,6,3,0,0,0,1]) (List.append (qR 15 (qB 0)) ((qBs [5,239,154,117,76,182,13,101,253,115,74,12,183,155,70,50,173,187,218,68,13,162,95,243,165,62,196,190,4,32,158,42,225,0,0,0,9,133,247,113,158]))))),
 .cells (List.append [(qU 0),(qU 5)] (List.append (qBs [239,154,117,76,182,13,101,253,115,74,12,183,155,70,50,173,187,218,68,13,162,95,243,165,62,196,190,4,32,158,42,225]) ([(qI 9),qT,(qI 1),qF]))),
 .cells (List.append [(qI 3),(qW 1),(qU 0),(qU 5)] (List.append (qBs [239,154,117,76,182,13,101,253,115,74,12,183,155,70,50,173,187,218,68,13,162,95,243,165,62,196,190,4,32,158,42,225]) (List.append [(qI 9),(qI 0),(qI 6),(qW 1),(qU 0),(qU 0)] (List.append (qBs [179,164,227,75,35,65,203,61,71,156,187,235,91,21,100,187,210,202,73,147,111,15,75,78,202,14,204,227,177,184,17,253]) ([(qI 0),(qI 1)]))))),
 .cells (List.append (qR 9 (qB 0)) (List.append [(qB 45),(qB 1)] (List.append (qR 7 (qB 0)) (List.append (qBs [5,239,154,117,76,182,13,101,253,115,74,12,183,155,70,50,173,187,218,68,13,162,95,243,165,62,196,190,4,32,158,42,225,0,0,0,9,155,194,208,229]) (List.append (qR 7 (qB 0)) ((qBs [1,0,1,4,155,93,30,123]))))))),
 .cells ([(qI 0),(qI 0)])]
theorem lk_3:ltH kp_3=true:=by kernel_rfl
theorem run_3:snapC 29 kp_3 (iterF fL 1 (mkT vs_2) (mkH kp_2 bs_2) 259)=.ok vs_3 bs_3 466:=by kernel_rfl
end SX
namespace SX
open Go Go.RowKit
set_option linter.unusedVariables false
set_option maxRecDepth 1000000
noncomputable def vs_6:List Value:=[(qP 17 0),(qI 60),(.tuple ⟨[]⟩),(.tuple ⟨[]⟩),(qI 0),(qI 0),(qI 5),(qI 0),(qI 60),(qI 60),(qI 6),qT,(qP 17 0),(qI 6),(qI 6),qF,(qI 5),(qP 17 0),(qI 5),(qI 0),(qI 0),qT,(qI 0),(qI 0),(qL 986 0 2 1),(qI 0),(qI 6),(qI 6),(.tuple ⟨[]⟩)]
noncomputable def kp_6:List Nat:=[16,17,18,19,20,21,22,23,24,25,26,29,30,31,32,33,34,35,36,37,39,46,47,48,49,51,58,59,60,61,63,84,416,738,762,814,952,976,986]
noncomputable def bs_6:List Blk:=[.cells ([(qS [0,39,6,0,0,0,1,0,1,43,255,198,219,209,208,197,135,241,106,171,108,30,15,208,185,55,36,233,142,109,131,186,10,237,236,30,8,70,78,212,139]),(qS [])]),
 .cells ([(qL 39 0 2 1),(qL 16 0 1 2),(qL 84 0 2 6)]),
 .map [],
 .map [],
 .cells ([(qU 0),(qU 0),(.map (some 18)),(.map (some 19))]),
 .map [],
 .map [],
 .map [],
 .map [((.agg ⟨[(qI 0),(qU 0)]⟩),(.agg ⟨List.append [(qI 1)] ((qR 32 (qB 0)))⟩))],
 .cells ([(qP 20 0),(qL 51 0 1 2),(.map (some 21)),(.map (some 22)),(.map (some 23)),(.map (some 24)),qF]),
 .cells (List.append [(qP 25 0),(qU 150)] ((qR 17 qF))),
 .map [],
 .map [],
 .cells ([(qU 0),(qU 0),(.map (some 29)),(.map (some 30))]),
 .map [((.agg ⟨(qBs [239,154,117,76,182,13,101,253,115,74,12,183,155,70,50,173,187,218,68,13,162,95,243,165,62,196,190,4,32,158,42,225])⟩),(.agg ⟨List.append [(qB 1)] ((qR 31 (qB 42)))⟩))],
 .map [],
 .map [],
 .map [],
 .cells ([(qP 31 0),(qL 63 0 1 2),(.map (some 32)),(.map (some 33)),(.map (some 34)),(.map (some 35)),qF]),
 .cells (List.append [(qP 36 0),(qU 150)] ((qR 17 qF))),
 .cells ([(qP 26 0),(qP 37 0)]),
 .cells (List.append [(qW 1),(qU 100),(qU 50),(qB 0),(qB 1)] (List.append (qR 30 (qB 0)) (List.append [(qS [108,101,102,116]),(qS [114,105,103,104,116]),(qI 1),(qI 0),qF,(qU 1),(qU 0),qF,qF,qF,(qU 45),(qU 50),(qL 738 0 1 38),qT,(qI 65535)] (List.append (qBs [230,106,86,196,60,149,167,152,57,89,193,180,173,201,35,48,79,114,18,75,202,70,226,219,211,48,13,184,236,180,38,85]) (List.append [qF,(qI 0)] (List.append (qR 32 (qB 0)) (List.append [qF,(qI 0)] (List.append (qR 32 (qB 0)) (List.append [qF,(qI 0)] (List.append (qR 32 (qB 0)) (List.append [qF,(qI 0)] (List.append (qR 32 (qB 0)) (List.append [qF,(qI 0)] (List.append (qR 32 (qB 0)) (List.append [qF,(qI 0)] (List.append (qR 32 (qB 0)) (List.append [qF,(qI 0)] (List.append (qR 32 (qB 0)) (List.append [qF,(qI 0)] (List.append (qR 32 (qB 0)) (List.append [qF,(qI 0)] (List.append (qR 32 (qB 0)) (List.append [qF,(qI 0)] (List.append (qR 32 (qB 0)) (List.append [qF,(qI 0)] (List.append (qR 32 (qB 0)) (List.append [qF,(qI 0)] (List.append (qR 32 (qB 0)) (List.append [qF,(qI 0)] (List.append (qR 32 (qB 0)) (List.append [qF,(qI 0)] (List.append (qR 32 (qB 0)) (List.append [qF,(qI 0)] (List.append (qR 32 (qB 0)) (List.append [qF,(qI 0)] (List.append (qR 32 (qB 0)) ([(.slice none 0 0),(qL 416 0 2 38)]))))))))))))))))))))))))))))))))))))),
 .cells ([(qP 47 0),(qL 762 0 128 1),(qI 3),qF,(qI 0),qF]),
 .cells ([(qS [])]),
 .cells ([(qP 48 0),(qP 46 0),(qP 47 0),(qS []),(.slice none 0 0),(qI 6),qF,qF,qF]),
 .cells ([(qW 1),(qP 49 0)]),
 .cells (List.append [(qW 1),(qU 100),(qU 50),(qB 0),(qB 2)] (List.append (qR 30 (qB 0)) (List.append [(qS [114,105,103,104,116]),(qS [108,101,102,116]),(qI 1),(qI 1),qT,(qU 0),(qU 1),qF,qF,qF,(qU 50),(qU 45),(qL 814 0 1 38),qF,(qI 0)] (List.append (qR 32 (qB 0)) (List.append [qF,(qI 0)] (List.append (qR 32 (qB 0)) (List.append [qF,(qI 0)] (List.append (qR 32 (qB 0)) (List.append [qF,(qI 0)] (List.append (qR 32 (qB 0)) (List.append [qF,(qI 0)] (List.append (qR 32 (qB 0)) (List.append [qF,(qI 0)] (List.append (qR 32 (qB 0)) (List.append [qF,(qI 0)] (List.append (qR 32 (qB 0)) (List.append [qF,(qI 0)] (List.append (qR 32 (qB 0)) (List.append [qF,(qI 0)] (List.append (qR 32 (qB 0)) (List.append [qF,(qI 0)] (List.append (qR 32 (qB 0)) (List.append [qF,(qI 0)] (List.append (qR 32 (qB 0)) (List.append [qF,(qI 0)] (List.append (qR 32 (qB 0)) (List.append [qF,(qI 0)] (List.append (qR 32 (qB 0)) (List.append [qF,(qI 0)] (List.append (qR 32 (qB 0)) (List.append [qF,(qI 0)] (List.append (qR 32 (qB 0)) (List.append [qF,(qI 0)] (List.append (qR 32 (qB 0)) (List.append [qF,(qI 0)] (List.append (qR 32 (qB 0)) ([(.slice none 0 0),(qL 952 0 1 38)]))))))))))))))))))))))))))))))))))))),
 .cells ([(qP 59 0),(qL 976 0 141 1),(qI 3),qF,(qI 0),qF]),
 .cells ([(qS [])]),
 .cells ([(qP 60 0),(qP 58 0),(qP 59 0),(qS []),(.slice none 0 0),(qI 6),qF,qF,qF]),
 .cells ([(qW 1),(qP 61 0)]),
 .cells ([(qI 1),(qI 1),(qI 0),(qU 0),(qB 1),(qI 0),(qI 3),(qI 0),(qI 0),(qU 5),(qB 1),(qI 9)]),
 .cells (List.append [(qI 3),(qW 1),(qU 0),(qU 5)] (List.append (qBs [239,154,117,76,182,13,101,253,115,74,12,183,155,70,50,173,187,218,68,13,162,95,243,165,62,196,190,4,32,158,42,225]) (List.append [(qI 9),(qI 0),(qI 6),(qW 1),(qU 0),(qU 0)] (List.append (qBs [179,164,227,75,35,65,203,61,71,156,187,235,91,21,100,187,210,202,73,147,111,15,75,78,202,14,204,227,177,184,17,253]) ([(qI 0),(qI 1)]))))),
 .cells (List.append [(qU 0),(qU 5)] (List.append (qBs [239,154,117,76,182,13,101,253,115,74,12,183,155,70,50,173,187,218,68,13,162,95,243,165,62,196,190,4,32,158,42,225]) ([(qI 9),qT,(qI 2),qF]))),
 .cells (List.append (qR 9 (qB 0)) (List.append [(qB 45),(qB 1)] (List.append (qR 7 (qB 0)) (List.append (qBs [5,239,154,117,76,182,13,101,253,115,74,12,183,155,70,50,173,187,218,68,13,162,95,243,165,62,196,190,4,32,158,42,225,0,0,0,9,155,194,208,229]) (List.append (qR 7 (qB 0)) (List.append (qBs [1,0,1,4,155,93,30,123]) (List.append (qR 7 (qB 0)) ((qBs [2,0,40,6,7,0,0,0,1,0,0,230,106,86,196,60,149,167,152,57,89,193,180,173,201,35,48,79,114,18,75,202,70,226,219,211,48,13,184,236,180,38,85,227,185,33,212]))))))))),
 .cells (List.append [(qU 0),(qU 5)] (List.append (qBs [239,154,117,76,182,13,101,253,115,74,12,183,155,70,50,173,187,218,68,13,162,95,243,165,62,196,190,4,32,158,42,225]) ([(qI 9),qF,(qI 3),qF]))),
 .cells (List.append [(qI 6),(qW 1),(qU 0),(qU 0)] (List.append (qBs [43,255,198,219,209,208,197,135,241,106,171,108,30,15,208,185,55,36,233,142,109,131,186,10,237,236,30,8,70,78,212,139]) ([(qI 0),(qI 1)]))),
 .cells (List.append (qR 9 (qB 0)) (List.append (qBs [58,6,3,0,0,0,1]) (List.append (qR 15 (qB 0)) (List.append (qBs [5,239,154,117,76,182,13,101,253,115,74,12,183,155,70,50,173,187,218,68,13,162,95,243,165,62,196,190,4,32,158,42,225,0,0,0,9,133,247,113,158]) (List.append (qR 7 (qB 0)) (List.append (qBs [1,0,40,6,6,0,0,0,1,0,1,179,164,227,75,35,65,203,61,71,156,187,235,91,21,100,187,210,202,73,147,111,15,75,78,202,14,204,227,177,184,17,253,112,237,130,50]) (List.append (qR 7 (qB 0)) ((qBs [2,0,1,4,172,18,42,0]))))))))),
 .cells ([(qI 0),(qI 0)])]
theorem lk_6:ltH kp_6=true:=by kernel_rfl
theorem run_6:snapC 29 kp_6 (iterF fL 3 (mkT vs_3) (mkH kp_3 bs_3) 466)=.ok vs_6 bs_6 987:=by kernel_rfl
end SX
namespace SX
open Go Go.RowKit
set_option linter.unusedVariables false
set_option maxRecDepth 1000000
noncomputable def vs_9:List Value:=[(qP 17 0),(qI 60),(.tuple ⟨[]⟩),(.tuple ⟨[]⟩),(qI 0),(qI 0),(qI 5),(qI 0),(qI 60),(qI 60),(qI 9),qT,(qP 17 0),(qI 6),(qI 6),qF,(qI 5),(qP 17 0),(qI 5),(qI 0),(qI 0),qT,(qI 0),(qI 0),(qL 1628 0 2 1),(qI 0),(qI 6),(qI 9),(.tuple ⟨[]⟩)]
noncomputable def kp_9:List Nat:=[16,17,18,19,20,21,22,23,24,25,26,29,30,31,32,33,34,35,36,37,39,46,47,48,49,51,58,59,60,61,63,84,416,1169,1449,1511,1594,1618,1628]
noncomputable def bs_9:List Blk:=[.cells ([(qS [0,39,6,0,0,0,1,0,2,51,189,16,79,18,206,89,100,171,230,219,54,119,243,162,212,244,27,25,246,181,162,143,184,242,175,145,202,18,125,253,222]),(qS [])]),
 .cells ([(qL 39 0 2 1),(qL 16 0 1 2),(qL 84 0 2 6)]),
 .map [],
 .map [],
 .cells ([(qU 0),(qU 0),(.map (some 18)),(.map (some 19))]),
 .map [],
 .map [((.agg ⟨(qBs [239,154,117,76,182,13,101,253,115,74,12,183,155,70,50,173,187,218,68,13,162,95,243,165,62,196,190,4,32,158,42,225])⟩),(.agg ⟨List.append [(qB 1)] ((qR 31 (qB 42)))⟩))],
 .map [],
 .map [((.agg ⟨[(qI 0),(qU 0)]⟩),(.agg ⟨List.append [(qI 2),(qB 1)] ((qR 31 (qB 42)))⟩))],
 .cells ([(qP 20 0),(qL 51 0 1 2),(.map (some 21)),(.map (some 22)),(.map (some 23)),(.map (some 24)),qF]),
 .cells (List.append [(qP 25 0),(qU 150)] ((qR 17 qF))),
 .map [],
 .map [],
 .cells ([(qU 0),(qU 0),(.map (some 29)),(.map (some 30))]),
 .map [((.agg ⟨(qBs [239,154,117,76,182,13,101,253,115,74,12,183,155,70,50,173,187,218,68,13,162,95,243,165,62,196,190,4,32,158,42,225])⟩),(.agg ⟨List.append [(qB 1)] ((qR 31 (qB 42)))⟩))],
 .map [],
 .map [],
 .map [],
 .cells ([(qP 31 0),(qL 63 0 1 2),(.map (some 32)),(.map (some 33)),(.map (some 34)),(.map (some 35)),qF]),
 .cells (List.append [(qP 36 0),(qU 150)] ((qR 17 qF))),
 .cells ([(qP 26 0),(qP 37 0)]),
 .cells (List.append [(qW 1),(qU 100),(qU 50),(qB 0),(qB 1)] (List.append (qR 30 (qB 0)) (List.append [(qS [108,101,102,116]),(qS [114,105,103,104,116]),(qI 1),(qI 1),qF,(qU 1),(qU 0),qF,qF,qT,(qU 45),(qU 50),(qL 1169 0 1 38),qT,(qI 65535)] (List.append (qBs [230,106,86,196,60,149,167,152,57,89,193,180,173,201,35,48,79,114,18,75,202,70,226,219,211,48,13,184,236,180,38,85]) (List.append [qF,(qI 0)] (List.append (qR 32 (qB 0)) (List.append [qF,(qI 0)] (List.append (qR 32 (qB 0)) (List.append [qF,(qI 0)] (List.append (qR 32 (qB 0)) (List.append [qF,(qI 0)] (List.append (qR 32 (qB 0)) (List.append [qF,(qI 0)] (List.append (qR 32 (qB 0)) (List.append [qF,(qI 0)] (List.append (qR 32 (qB 0)) (List.append [qF,(qI 0)] (List.append (qR 32 (qB 0)) (List.append [qF,(qI 0)] (List.append (qR 32 (qB 0)) (List.append [qF,(qI 0)] (List.append (qR 32 (qB 0)) (List.append [qF,(qI 0)] (List.append (qR 32 (qB 0)) (List.append [qF,(qI 0)] (List.append (qR 32 (qB 0)) (List.append [qF,(qI 0)] (List.append (qR 32 (qB 0)) (List.append [qF,(qI 0)] (List.append (qR 32 (qB 0)) (List.append [qF,(qI 0)] (List.append (qR 32 (qB 0)) (List.append [qF,(qI 0)] (List.append (qR 32 (qB 0)) (List.append [qF,(qI 0)] (List.append (qR 32 (qB 0)) ([(.slice none 0 0),(qL 416 0 2 38)]))))))))))))))))))))))))))))))))))))),
 .cells ([(qP 47 0),(qL 1449 0 242 1),(qI 5),qF,(qI 0),qF]),
 .cells ([(qS [])]),
 .cells ([(qP 48 0),(qP 46 0),(qP 47 0),(qS []),(.slice none 0 0),(qI 9),qF,qF,qF]),
 .cells ([(qW 1),(qP 49 0)]),
 .cells (List.append [(qW 1),(qU 100),(qU 50),(qB 0),(qB 2)] (List.append (qR 30 (qB 0)) (List.append [(qS [114,105,103,104,116]),(qS [108,101,102,116]),(qI 2),(qI 1),qT,(qU 0),(qU 1),qF,qF,qF,(qU 50),(qU 45),(qL 1511 0 1 38),qT,(qI 65535)] (List.append (qBs [88,177,229,223,227,52,172,193,3,186,251,107,25,88,154,96,116,105,249,213,16,24,213,192,32,212,148,191,95,13,19,83]) (List.append [qF,(qI 0)] (List.append (qR 32 (qB 0)) (List.append [qF,(qI 0)] (List.append (qR 32 (qB 0)) (List.append [qF,(qI 0)] (List.append (qR 32 (qB 0)) (List.append [qF,(qI 0)] (List.append (qR 32 (qB 0)) (List.append [qF,(qI 0)] (List.append (qR 32 (qB 0)) (List.append [qF,(qI 0)] (List.append (qR 32 (qB 0)) (List.append [qF,(qI 0)] (List.append (qR 32 (qB 0)) (List.append [qF,(qI 0)] (List.append (qR 32 (qB 0)) (List.append [qF,(qI 0)] (List.append (qR 32 (qB 0)) (List.append [qF,(qI 0)] (List.append (qR 32 (qB 0)) (List.append [qF,(qI 0)] (List.append (qR 32 (qB 0)) (List.append [qF,(qI 0)] (List.append (qR 32 (qB 0)) (List.append [qF,(qI 0)] (List.append (qR 32 (qB 0)) (List.append [qF,(qI 0)] (List.append (qR 32 (qB 0)) (List.append [qF,(qI 0)] (List.append (qR 32 (qB 0)) (List.append [qF,(qI 0)] (List.append (qR 32 (qB 0)) ([(.slice none 0 0),(qL 1594 0 2 38)]))))))))))))))))))))))))))))))))))))),
 .cells ([(qP 59 0),(qL 1618 0 265 1),(qI 6),qF,(qI 0),qF]),
 .cells ([(qS [])]),
 .cells ([(qP 60 0),(qP 58 0),(qP 59 0),(qS []),(.slice none 0 0),(qI 9),qF,qF,qF]),
 .cells ([(qW 1),(qP 61 0)]),
 .cells ([(qI 1),(qI 1),(qI 0),(qU 0),(qB 1),(qI 0),(qI 3),(qI 0),(qI 0),(qU 5),(qB 1),(qI 9)]),
 .cells (List.append [(qI 3),(qW 1),(qU 0),(qU 5)] (List.append (qBs [239,154,117,76,182,13,101,253,115,74,12,183,155,70,50,173,187,218,68,13,162,95,243,165,62,196,190,4,32,158,42,225]) (List.append [(qI 9),(qI 0),(qI 6),(qW 1),(qU 0),(qU 0)] (List.append (qBs [179,164,227,75,35,65,203,61,71,156,187,235,91,21,100,187,210,202,73,147,111,15,75,78,202,14,204,227,177,184,17,253]) ([(qI 0),(qI 1)]))))),
 .cells (List.append [(qU 0),(qU 5)] (List.append (qBs [239,154,117,76,182,13,101,253,115,74,12,183,155,70,50,173,187,218,68,13,162,95,243,165,62,196,190,4,32,158,42,225]) ([(qI 9),qT,(qI 5),qT]))),
 .cells (List.append (qR 9 (qB 0)) (List.append [(qB 45),(qB 1)] (List.append (qR 7 (qB 0)) (List.append (qBs [5,239,154,117,76,182,13,101,253,115,74,12,183,155,70,50,173,187,218,68,13,162,95,243,165,62,196,190,4,32,158,42,225,0,0,0,9,155,194,208,229]) (List.append (qR 7 (qB 0)) (List.append (qBs [1,0,1,4,155,93,30,123]) (List.append (qR 7 (qB 0)) (List.append (qBs [2,0,40,6,7,0,0,0,1,0,0,230,106,86,196,60,149,167,152,57,89,193,180,173,201,35,48,79,114,18,75,202,70,226,219,211,48,13,184,236,180,38,85,227,185,33,212]) (List.append (qR 7 (qB 0)) (List.append (qBs [3,0,40,6,6,0,0,0,1,0,1,43,255,198,219,209,208,197,135,241,106,171,108,30,15,208,185,55,36,233,142,109,131,186,10,237,236,30,8,70,78,212,139,177,212,146,113]) (List.append (qR 7 (qB 0)) (List.append (qBs [4,0,46,6,4,0,0,0,1]) (List.append (qR 8 (qB 0)) (List.append [(qB 1)] (List.append (qR 31 (qB 42)) ((qBs [4,40,133,212]))))))))))))))))),
 .cells (List.append [(qU 0),(qU 5)] (List.append (qBs [239,154,117,76,182,13,101,253,115,74,12,183,155,70,50,173,187,218,68,13,162,95,243,165,62,196,190,4,32,158,42,225]) ([(qI 9),qF,(qI 6),qT]))),
 .cells (List.append [(qI 4),(qW 1),(qU 0),(qU 0),(qB 1)] (List.append (qR 31 (qB 42)) (List.append [(qI 0),(qI 0),(qI 6),(qW 1),(qU 0),(qU 0)] (List.append (qBs [51,189,16,79,18,206,89,100,171,230,219,54,119,243,162,212,244,27,25,246,181,162,143,184,242,175,145,202,18,125,253,222]) ([(qI 0),(qI 2)]))))),
 .cells (List.append (qR 9 (qB 0)) (List.append (qBs [58,6,3,0,0,0,1]) (List.append (qR 15 (qB 0)) (List.append (qBs [5,239,154,117,76,182,13,101,253,115,74,12,183,155,70,50,173,187,218,68,13,162,95,243,165,62,196,190,4,32,158,42,225,0,0,0,9,133,247,113,158]) (List.append (qR 7 (qB 0)) (List.append (qBs [1,0,40,6,6,0,0,0,1,0,1,179,164,227,75,35,65,203,61,71,156,187,235,91,21,100,187,210,202,73,147,111,15,75,78,202,14,204,227,177,184,17,253,112,237,130,50]) (List.append (qR 7 (qB 0)) (List.append (qBs [2,0,1,4,172,18,42]) (List.append (qR 8 (qB 0)) (List.append (qBs [3,0,40,6,7,0,0,0,1,0,0,88,177,229,223,227,52,172,193,3,186,251,107,25,88,154,96,116,105,249,213,16,24,213,192,32,212,148,191,95,13,19,83,250,163,103,203]) (List.append (qR 7 (qB 0)) (List.append (qBs [4,0,41,2]) (List.append (qR 8 (qB 0)) (List.append [(qB 1)] (List.append (qR 31 (qB 42)) (List.append (qBs [129,155,48,193]) (List.append (qR 7 (qB 0)) ((qBs [5,0,1,4,42,140,225,47]))))))))))))))))))),
 .cells ([(qI 0),(qI 0)])]
theorem lk_9:ltH kp_9=true:=by kernel_rfl
theorem run_9:snapC 29 kp_9 (iterF fL 3 (mkT vs_6) (mkH kp_6 bs_6) 987)=.ok vs_9 bs_9 1629:=by kernel_rfl
noncomputable def vs_12:List Value:=[(qP 17 0),(qI 60),(.tuple ⟨[]⟩),(.tuple ⟨[]⟩),(qI 0),(qI 0),(qI 5),(qI 0),(qI 60),(qI 60),(qI 12),qT,(qP 17 0),(qI 6),(qI 6),qF,(qI 5),(qP 17 0),(qI 5),(qI 0),(qI 0),qT,(qI 0),(qI 0),(qL 2041 0 2 1),(qI 0),(qI 6),(qI 12),(.tuple ⟨[]⟩)]
noncomputable def kp_12:List Nat:=[16,17,18,19,20,21,22,23,24,25,26,29,30,31,32,33,34,35,36,37,39,46,47,48,49,51,58,59,60,61,63,84,1594,1843,1867,1909,1992,2016,2041]
noncomputable def bs_12:List Blk:=[.cells ([(qS []),(qS [0,39,6,0,0,0,1,0,2,242,67,149,245,172,249,31,184,171,237,183,206,22,135,32,197,92,93,135,180,162,85,52,133,25,102,4,2,201,105,177,109])]),
 .cells ([(qL 39 0 2 1),(qL 16 0 1 2),(qL 84 0 2 6)]),
 .map [],
 .map [],
 .cells ([(qU 0),(qU 0),(.map (some 18)),(.map (some 19))]),
 .map [],
 .map [((.agg ⟨(qBs [239,154,117,76,182,13,101,253,115,74,12,183,155,70,50,173,187,218,68,13,162,95,243,165,62,196,190,4,32,158,42,225])⟩),(.agg ⟨List.append [(qB 1)] ((qR 31 (qB 42)))⟩))],
 .map [],
 .map [((.agg ⟨[(qI 0),(qU 0)]⟩),(.agg ⟨List.append [(qI 2),(qB 1)] ((qR 31 (qB 42)))⟩))],
 .cells ([(qP 20 0),(qL 51 0 1 2),(.map (some 21)),(.map (some 22)),(.map (some 23)),(.map (some 24)),qF]),
 .cells (List.append [(qP 25 0),(qU 150)] ((qR 17 qF))),
 .map [],
 .map [],
 .cells ([(qU 0),(qU 0),(.map (some 29)),(.map (some 30))]),
 .map [((.agg ⟨(qBs [239,154,117,76,182,13,101,253,115,74,12,183,155,70,50,173,187,218,68,13,162,95,243,165,62,196,190,4,32,158,42,225])⟩),(.agg ⟨List.append [(qB 1)] ((qR 31 (qB 42)))⟩))],
 .map [],
 .map [],
 .map [],
 .cells ([(qP 31 0),(qL 63 0 1 2),(.map (some 32)),(.map (some 33)),(.map (some 34)),(.map (some 35)),qF]),
 .cells (List.append [(qP 36 0),(qU 150)] ((qR 17 qF))),
 .cells ([(qP 26 0),(qP 37 0)]),
 .cells (List.append [(qW 1),(qU 100),(qU 50),(qB 0),(qB 1)] (List.append (qR 30 (qB 0)) (List.append [(qS [108,101,102,116]),(qS [114,105,103,104,116]),(qI 2),(qI 2),qT,(qU 1),(qU 0),qF,qF,qF,(qU 45),(qU 50),(qL 1909 0 1 38),qT,(qI 65535)] (List.append (qBs [230,106,86,196,60,149,167,152,57,89,193,180,173,201,35,48,79,114,18,75,202,70,226,219,211,48,13,184,236,180,38,85]) (List.append [qF,(qI 0)] (List.append (qR 32 (qB 0)) (List.append [qF,(qI 0)] (List.append (qR 32 (qB 0)) (List.append [qF,(qI 0)] (List.append (qR 32 (qB 0)) (List.append [qF,(qI 0)] (List.append (qR 32 (qB 0)) (List.append [qF,(qI 0)] (List.append (qR 32 (qB 0)) (List.append [qF,(qI 0)] (List.append (qR 32 (qB 0)) (List.append [qF,(qI 0)] (List.append (qR 32 (qB 0)) (List.append [qF,(qI 0)] (List.append (qR 32 (qB 0)) (List.append [qF,(qI 0)] (List.append (qR 32 (qB 0)) (List.append [qF,(qI 0)] (List.append (qR 32 (qB 0)) (List.append [qF,(qI 0)] (List.append (qR 32 (qB 0)) (List.append [qF,(qI 0)] (List.append (qR 32 (qB 0)) (List.append [qF,(qI 0)] (List.append (qR 32 (qB 0)) (List.append [qF,(qI 0)] (List.append (qR 32 (qB 0)) (List.append [qF,(qI 0)] (List.append (qR 32 (qB 0)) (List.append [qF,(qI 0)] (List.append (qR 32 (qB 0)) ([(.slice none 0 0),(qL 1992 0 1 38)]))))))))))))))))))))))))))))))))))))),
 .cells ([(qP 47 0),(qL 2016 0 311 1),(qI 7),qF,(qI 0),qF]),
 .cells ([(qS [])]),
 .cells ([(qP 48 0),(qP 46 0),(qP 47 0),(qS []),(.slice none 0 0),(qI 12),qF,qF,qF]),
 .cells ([(qW 1),(qP 49 0)]),
 .cells (List.append [(qW 1),(qU 100),(qU 50),(qB 0),(qB 2)] (List.append (qR 30 (qB 0)) (List.append [(qS [114,105,103,104,116]),(qS [108,101,102,116]),(qI 2),(qI 1),qF,(qU 0),(qU 1),qF,qF,qF,(qU 50),(qU 45),(qL 1843 0 1 38),qT,(qI 65535)] (List.append (qBs [88,177,229,223,227,52,172,193,3,186,251,107,25,88,154,96,116,105,249,213,16,24,213,192,32,212,148,191,95,13,19,83]) (List.append [qT,(qI 65534)] (List.append (qBs [83,30,15,189,160,53,17,158,82,23,52,207,62,182,203,162,169,82,40,138,90,5,130,174,53,157,247,47,248,199,135,196]) (List.append [qF,(qI 0)] (List.append (qR 32 (qB 0)) (List.append [qF,(qI 0)] (List.append (qR 32 (qB 0)) (List.append [qF,(qI 0)] (List.append (qR 32 (qB 0)) (List.append [qF,(qI 0)] (List.append (qR 32 (qB 0)) (List.append [qF,(qI 0)] (List.append (qR 32 (qB 0)) (List.append [qF,(qI 0)] (List.append (qR 32 (qB 0)) (List.append [qF,(qI 0)] (List.append (qR 32 (qB 0)) (List.append [qF,(qI 0)] (List.append (qR 32 (qB 0)) (List.append [qF,(qI 0)] (List.append (qR 32 (qB 0)) (List.append [qF,(qI 0)] (List.append (qR 32 (qB 0)) (List.append [qF,(qI 0)] (List.append (qR 32 (qB 0)) (List.append [qF,(qI 0)] (List.append (qR 32 (qB 0)) (List.append [qF,(qI 0)] (List.append (qR 32 (qB 0)) (List.append [qF,(qI 0)] (List.append (qR 32 (qB 0)) (List.append [qF,(qI 0)] (List.append (qR 32 (qB 0)) ([(.slice none 0 0),(qL 1594 0 2 38)]))))))))))))))))))))))))))))))))))))),
 .cells ([(qP 59 0),(qL 1867 0 319 1),(qI 7),qF,(qI 0),qF]),
 .cells ([(qS [])]),
 .cells ([(qP 60 0),(qP 58 0),(qP 59 0),(qS []),(.slice none 0 0),(qI 12),qF,qF,qF]),
 .cells ([(qW 1),(qP 61 0)]),
 .cells ([(qI 1),(qI 1),(qI 0),(qU 0),(qB 1),(qI 0),(qI 3),(qI 0),(qI 0),(qU 5),(qB 1),(qI 9)]),
 .cells (List.append [(qI 4),(qW 1),(qU 0),(qU 0),(qB 1)] (List.append (qR 31 (qB 42)) (List.append [(qI 0),(qI 0),(qI 6),(qW 1),(qU 0),(qU 0)] (List.append (qBs [51,189,16,79,18,206,89,100,171,230,219,54,119,243,162,212,244,27,25,246,181,162,143,184,242,175,145,202,18,125,253,222]) ([(qI 0),(qI 2)]))))),
 .cells (List.append [(qU 0),(qU 5)] (List.append (qBs [239,154,117,76,182,13,101,253,115,74,12,183,155,70,50,173,187,218,68,13,162,95,243,165,62,196,190,4,32,158,42,225]) ([(qI 9),qF,(qI 7),qT]))),
 .cells (List.append (qR 9 (qB 0)) (List.append (qBs [58,6,3,0,0,0,1]) (List.append (qR 15 (qB 0)) (List.append (qBs [5,239,154,117,76,182,13,101,253,115,74,12,183,155,70,50,173,187,218,68,13,162,95,243,165,62,196,190,4,32,158,42,225,0,0,0,9,133,247,113,158]) (List.append (qR 7 (qB 0)) (List.append (qBs [1,0,40,6,6,0,0,0,1,0,1,179,164,227,75,35,65,203,61,71,156,187,235,91,21,100,187,210,202,73,147,111,15,75,78,202,14,204,227,177,184,17,253,112,237,130,50]) (List.append (qR 7 (qB 0)) (List.append (qBs [2,0,1,4,172,18,42]) (List.append (qR 8 (qB 0)) (List.append (qBs [3,0,40,6,7,0,0,0,1,0,0,88,177,229,223,227,52,172,193,3,186,251,107,25,88,154,96,116,105,249,213,16,24,213,192,32,212,148,191,95,13,19,83,250,163,103,203]) (List.append (qR 7 (qB 0)) (List.append (qBs [4,0,41,2]) (List.append (qR 8 (qB 0)) (List.append [(qB 1)] (List.append (qR 31 (qB 42)) (List.append (qBs [129,155,48,193]) (List.append (qR 7 (qB 0)) (List.append (qBs [5,0,1,4,42,140,225,47]) (List.append (qR 7 (qB 0)) ((qBs [6,0,40,6,7,0,0,0,1,0,1,83,30,15,189,160,53,17,158,82,23,52,207,62,182,203,162,169,82,40,138,90,5,130,174,53,157,247,47,248,199,135,196,170,227,190,190]))))))))))))))))))))),
 .cells (List.append [(qU 0),(qU 5)] (List.append (qBs [239,154,117,76,182,13,101,253,115,74,12,183,155,70,50,173,187,218,68,13,162,95,243,165,62,196,190,4,32,158,42,225]) ([(qI 9),qT,(qI 8),qT]))),
 .cells (List.append [(qI 6),(qW 1),(qU 0),(qU 0)] (List.append (qBs [242,67,149,245,172,249,31,184,171,237,183,206,22,135,32,197,92,93,135,180,162,85,52,133,25,102,4,2,201,105,177,109]) ([(qI 0),(qI 2)]))),
 .cells (List.append (qR 9 (qB 0)) (List.append [(qB 45),(qB 1)] (List.append (qR 7 (qB 0)) (List.append (qBs [5,239,154,117,76,182,13,101,253,115,74,12,183,155,70,50,173,187,218,68,13,162,95,243,165,62,196,190,4,32,158,42,225,0,0,0,9,155,194,208,229]) (List.append (qR 7 (qB 0)) (List.append (qBs [1,0,1,4,155,93,30,123]) (List.append (qR 7 (qB 0)) (List.append (qBs [2,0,40,6,7,0,0,0,1,0,0,230,106,86,196,60,149,167,152,57,89,193,180,173,201,35,48,79,114,18,75,202,70,226,219,211,48,13,184,236,180,38,85,227,185,33,212]) (List.append (qR 7 (qB 0)) (List.append (qBs [3,0,40,6,6,0,0,0,1,0,1,43,255,198,219,209,208,197,135,241,106,171,108,30,15,208,185,55,36,233,142,109,131,186,10,237,236,30,8,70,78,212,139,177,212,146,113]) (List.append (qR 7 (qB 0)) (List.append (qBs [4,0,46,6,4,0,0,0,1]) (List.append (qR 8 (qB 0)) (List.append [(qB 1)] (List.append (qR 31 (qB 42)) (List.append (qBs [4,40,133,212]) (List.append (qR 7 (qB 0)) (List.append (qBs [5,0,40,6,6,0,0,0,1,0,2,51,189,16,79,18,206,89,100,171,230,219,54,119,243,162,212,244,27,25,246,181,162,143,184,242,175,145,202,18,125,253,222,207,167,73,192]) (List.append (qR 7 (qB 0)) ((qBs [6,0,1,4,95,102,133,224]))))))))))))))))))))),
 .cells ([(qI 0),(qI 0)])]
theorem lk_12:ltH kp_12=true:=by kernel_rfl
theorem run_12:snapC 29 kp_12 (iterF fL 3 (mkT vs_9) (mkH kp_9 bs_9) 1629)=.ok vs_12 bs_12 2042:=by kernel_rfl
end SX
namespace SX
open Go Go.RowKit
set_option linter.unusedVariables false
set_option maxRecDepth 1000000
noncomputable def vs_15:List Value:=[(qP 17 0),(qI 60),(.tuple ⟨[]⟩),(.tuple ⟨[]⟩),(qI 0),(qI 0),(qI 5),(qI 0),(qI 60),(qI 60),(qI 15),qT,(qP 17 0),(qI 6),(qI 6),qF,(qI 5),(qP 17 0),(qI 5),(qI 0),(qI 0),qT,(qI 0),(qI 0),(qL 2326 0 2 1),(qI 0),(qI 6),(qI 15),(.tuple ⟨[]⟩)]
noncomputable def kp_15:List Nat:=[16,17,18,19,20,21,22,23,24,25,26,29,30,31,32,33,34,35,36,37,39,46,47,48,49,51,58,59,60,61,63,84,1594,1992,2197,2281,2326]
noncomputable def bs_15:List Blk:=[.cells ([(qS []),(qS [])]),
 .cells ([(qL 39 0 2 1),(qL 16 0 1 2),(qL 84 0 2 6)]),
 .map [],
 .map [],
 .cells ([(qU 0),(qU 0),(.map (some 18)),(.map (some 19))]),
 .map [],
 .map [((.agg ⟨(qBs [239,154,117,76,182,13,101,253,115,74,12,183,155,70,50,173,187,218,68,13,162,95,243,165,62,196,190,4,32,158,42,225])⟩),(.agg ⟨List.append [(qB 1)] ((qR 31 (qB 42)))⟩))],
 .map [],
 .map [((.agg ⟨[(qI 0),(qU 0)]⟩),(.agg ⟨List.append [(qI 2),(qB 1)] ((qR 31 (qB 42)))⟩))],
 .cells ([(qP 20 0),(qL 51 0 1 2),(.map (some 21)),(.map (some 22)),(.map (some 23)),(.map (some 24)),qF]),
 .cells (List.append [(qP 25 0),(qU 150)] ((qR 17 qF))),
 .map [],
 .map [],
 .cells ([(qU 0),(qU 0),(.map (some 29)),(.map (some 30))]),
 .map [((.agg ⟨(qBs [239,154,117,76,182,13,101,253,115,74,12,183,155,70,50,173,187,218,68,13,162,95,243,165,62,196,190,4,32,158,42,225])⟩),(.agg ⟨List.append [(qB 1)] ((qR 31 (qB 42)))⟩))],
 .map [],
 .map [],
 .map [],
 .cells ([(qP 31 0),(qL 63 0 1 2),(.map (some 32)),(.map (some 33)),(.map (some 34)),(.map (some 35)),qF]),
 .cells (List.append [(qP 36 0),(qU 150)] ((qR 17 qF))),
 .cells ([(qP 26 0),(qP 37 0)]),
 .cells (List.append [(qW 1),(qU 100),(qU 50),(qB 0),(qB 1)] (List.append (qR 30 (qB 0)) (List.append [(qS [108,101,102,116]),(qS [114,105,103,104,116]),(qI 2),(qI 2),qF,(qU 1),(qU 0),qF,qF,qF,(qU 45),(qU 55),(.slice none 0 0),qT,(qI 65535)] (List.append (qBs [230,106,86,196,60,149,167,152,57,89,193,180,173,201,35,48,79,114,18,75,202,70,226,219,211,48,13,184,236,180,38,85]) (List.append [qT,(qI 65534)] (List.append (qBs [147,50,44,176,234,50,226,88,96,179,197,238,29,86,108,206,57,247,68,183,147,29,139,154,246,211,17,85,87,171,249,169]) (List.append [qF,(qI 0)] (List.append (qR 32 (qB 0)) (List.append [qF,(qI 0)] (List.append (qR 32 (qB 0)) (List.append [qF,(qI 0)] (List.append (qR 32 (qB 0)) (List.append [qF,(qI 0)] (List.append (qR 32 (qB 0)) (List.append [qF,(qI 0)] (List.append (qR 32 (qB 0)) (List.append [qF,(qI 0)] (List.append (qR 32 (qB 0)) (List.append [qF,(qI 0)] (List.append (qR 32 (qB 0)) (List.append [qF,(qI 0)] (List.append (qR 32 (qB 0)) (List.append [qF,(qI 0)] (List.append (qR 32 (qB 0)) (List.append [qF,(qI 0)] (List.append (qR 32 (qB 0)) (List.append [qF,(qI 0)] (List.append (qR 32 (qB 0)) (List.append [qF,(qI 0)] (List.append (qR 32 (qB 0)) (List.append [qF,(qI 0)] (List.append (qR 32 (qB 0)) (List.append [qF,(qI 0)] (List.append (qR 32 (qB 0)) (List.append [qF,(qI 0)] (List.append (qR 32 (qB 0)) ([(.slice none 0 0),(qL 1992 0 1 38)]))))))))))))))))))))))))))))))))))))),
 .cells ([(qP 47 0),(qL 2281 0 365 1),(qI 8),qF,(qI 0),qF]),
 .cells ([(qS [])]),
 .cells ([(qP 48 0),(qP 46 0),(qP 47 0),(qS []),(.slice none 0 0),(qI 15),qF,qF,qF]),
 .cells ([(qW 1),(qP 49 0)]),
 .cells (List.append [(qW 1),(qU 100),(qU 50),(qB 0),(qB 2)] (List.append (qR 30 (qB 0)) (List.append [(qS [114,105,103,104,116]),(qS [108,101,102,116]),(qI 2),(qI 2),qF,(qU 0),(qU 1),qF,qF,qT,(qU 55),(qU 45),(.slice none 0 0),qT,(qI 65535)] (List.append (qBs [88,177,229,223,227,52,172,193,3,186,251,107,25,88,154,96,116,105,249,213,16,24,213,192,32,212,148,191,95,13,19,83]) (List.append [qT,(qI 65534)] (List.append (qBs [83,30,15,189,160,53,17,158,82,23,52,207,62,182,203,162,169,82,40,138,90,5,130,174,53,157,247,47,248,199,135,196]) (List.append [qF,(qI 0)] (List.append (qR 32 (qB 0)) (List.append [qF,(qI 0)] (List.append (qR 32 (qB 0)) (List.append [qF,(qI 0)] (List.append (qR 32 (qB 0)) (List.append [qF,(qI 0)] (List.append (qR 32 (qB 0)) (List.append [qF,(qI 0)] (List.append (qR 32 (qB 0)) (List.append [qF,(qI 0)] (List.append (qR 32 (qB 0)) (List.append [qF,(qI 0)] (List.append (qR 32 (qB 0)) (List.append [qF,(qI 0)] (List.append (qR 32 (qB 0)) (List.append [qF,(qI 0)] (List.append (qR 32 (qB 0)) (List.append [qF,(qI 0)] (List.append (qR 32 (qB 0)) (List.append [qF,(qI 0)] (List.append (qR 32 (qB 0)) (List.append [qF,(qI 0)] (List.append (qR 32 (qB 0)) (List.append [qF,(qI 0)] (List.append (qR 32 (qB 0)) (List.append [qF,(qI 0)] (List.append (qR 32 (qB 0)) (List.append [qF,(qI 0)] (List.append (qR 32 (qB 0)) ([(.slice none 0 0),(qL 1594 0 2 38)]))))))))))))))))))))))))))))))))))))),
 .cells ([(qP 59 0),(qL 2197 0 373 1),(qI 8),qF,(qI 0),qF]),
 .cells ([(qS [])]),
 .cells ([(qP 60 0),(qP 58 0),(qP 59 0),(qS []),(.slice none 0 0),(qI 15),qF,qF,qF]),
 .cells ([(qW 1),(qP 61 0)]),
 .cells ([(qI 1),(qI 1),(qI 0),(qU 0),(qB 1),(qI 0),(qI 3),(qI 0),(qI 0),(qU 5),(qB 1),(qI 9)]),
 .cells (List.append [(qI 4),(qW 1),(qU 0),(qU 0),(qB 1)] (List.append (qR 31 (qB 42)) (List.append [(qI 0),(qI 0),(qI 6),(qW 1),(qU 0),(qU 0)] (List.append (qBs [51,189,16,79,18,206,89,100,171,230,219,54,119,243,162,212,244,27,25,246,181,162,143,184,242,175,145,202,18,125,253,222]) ([(qI 0),(qI 2)]))))),
 .cells (List.append [(qI 6),(qW 1),(qU 0),(qU 0)] (List.append (qBs [242,67,149,245,172,249,31,184,171,237,183,206,22,135,32,197,92,93,135,180,162,85,52,133,25,102,4,2,201,105,177,109]) ([(qI 0),(qI 2)]))),
 .cells (List.append (qR 9 (qB 0)) (List.append (qBs [58,6,3,0,0,0,1]) (List.append (qR 15 (qB 0)) (List.append (qBs [5,239,154,117,76,182,13,101,253,115,74,12,183,155,70,50,173,187,218,68,13,162,95,243,165,62,196,190,4,32,158,42,225,0,0,0,9,133,247,113,158]) (List.append (qR 7 (qB 0)) (List.append (qBs [1,0,40,6,6,0,0,0,1,0,1,179,164,227,75,35,65,203,61,71,156,187,235,91,21,100,187,210,202,73,147,111,15,75,78,202,14,204,227,177,184,17,253,112,237,130,50]) (List.append (qR 7 (qB 0)) (List.append (qBs [2,0,1,4,172,18,42]) (List.append (qR 8 (qB 0)) (List.append (qBs [3,0,40,6,7,0,0,0,1,0,0,88,177,229,223,227,52,172,193,3,186,251,107,25,88,154,96,116,105,249,213,16,24,213,192,32,212,148,191,95,13,19,83,250,163,103,203]) (List.append (qR 7 (qB 0)) (List.append (qBs [4,0,41,2]) (List.append (qR 8 (qB 0)) (List.append [(qB 1)] (List.append (qR 31 (qB 42)) (List.append (qBs [129,155,48,193]) (List.append (qR 7 (qB 0)) (List.append (qBs [5,0,1,4,42,140,225,47]) (List.append (qR 7 (qB 0)) (List.append (qBs [6,0,40,6,7,0,0,0,1,0,1,83,30,15,189,160,53,17,158,82,23,52,207,62,182,203,162,169,82,40,138,90,5,130,174,53,157,247,47,248,199,135,196,170,227,190,190]) (List.append (qR 7 (qB 0)) ((qBs [7,0,40,6,6,0,0,0,1,0,2,242,67,149,245,172,249,31,184,171,237,183,206,22,135,32,197,92,93,135,180,162,85,52,133,25,102,4,2,201,105,177,109,252,219,80,59]))))))))))))))))))))))),
 .cells (List.append (qR 9 (qB 0)) (List.append [(qB 45),(qB 1)] (List.append (qR 7 (qB 0)) (List.append (qBs [5,239,154,117,76,182,13,101,253,115,74,12,183,155,70,50,173,187,218,68,13,162,95,243,165,62,196,190,4,32,158,42,225,0,0,0,9,155,194,208,229]) (List.append (qR 7 (qB 0)) (List.append (qBs [1,0,1,4,155,93,30,123]) (List.append (qR 7 (qB 0)) (List.append (qBs [2,0,40,6,7,0,0,0,1,0,0,230,106,86,196,60,149,167,152,57,89,193,180,173,201,35,48,79,114,18,75,202,70,226,219,211,48,13,184,236,180,38,85,227,185,33,212]) (List.append (qR 7 (qB 0)) (List.append (qBs [3,0,40,6,6,0,0,0,1,0,1,43,255,198,219,209,208,197,135,241,106,171,108,30,15,208,185,55,36,233,142,109,131,186,10,237,236,30,8,70,78,212,139,177,212,146,113]) (List.append (qR 7 (qB 0)) (List.append (qBs [4,0,46,6,4,0,0,0,1]) (List.append (qR 8 (qB 0)) (List.append [(qB 1)] (List.append (qR 31 (qB 42)) (List.append (qBs [4,40,133,212]) (List.append (qR 7 (qB 0)) (List.append (qBs [5,0,40,6,6,0,0,0,1,0,2,51,189,16,79,18,206,89,100,171,230,219,54,119,243,162,212,244,27,25,246,181,162,143,184,242,175,145,202,18,125,253,222,207,167,73,192]) (List.append (qR 7 (qB 0)) (List.append (qBs [6,0,1,4,95,102,133,224]) (List.append (qR 7 (qB 0)) ((qBs [7,0,40,6,7,0,0,0,1,0,1,147,50,44,176,234,50,226,88,96,179,197,238,29,86,108,206,57,247,68,183,147,29,139,154,246,211,17,85,87,171,249,169,173,132,107,124]))))))))))))))))))))))),
 .cells ([(qI 0),(qI 0)])]
theorem lk_15:ltH kp_15=true:=by kernel_rfl
theorem run_15:snapC 29 kp_15 (iterF fL 3 (mkT vs_12) (mkH kp_12 bs_12) 2042)=.ok vs_15 bs_15 2327:=by kernel_rfl
noncomputable def vs_20:List Value:=[(qP 17 0),(qI 60),(.tuple ⟨[]⟩),(.tuple ⟨[]⟩),(qI 0),(qI 0),(qI 5),(qI 0),(qI 60),(qI 60),(qI 20),qT,(qP 17 0),(qI 6),(qI 6),qF,(qI 5),(qP 17 0),(qI 5),(qI 0),(qI 0),qT,(qI 0),(qI 0),(qL 2392 0 2 1),(qI 0),(qI 6),(qI 20),(.tuple ⟨[]⟩)]
noncomputable def kp_20:List Nat:=[16,17,18,19,20,21,22,23,24,25,26,29,30,31,32,33,34,35,36,37,39,46,47,48,49,51,58,59,60,61,63,84,1594,1992,2197,2281,2392]
noncomputable def bs_20:List Blk:=[.cells ([(qS []),(qS [])]),
 .cells ([(qL 39 0 2 1),(qL 16 0 1 2),(qL 84 0 2 6)]),
 .map [],
 .map [],
 .cells ([(qU 0),(qU 0),(.map (some 18)),(.map (some 19))]),
 .map [],
 .map [((.agg ⟨(qBs [239,154,117,76,182,13,101,253,115,74,12,183,155,70,50,173,187,218,68,13,162,95,243,165,62,196,190,4,32,158,42,225])⟩),(.agg ⟨List.append [(qB 1)] ((qR 31 (qB 42)))⟩))],
 .map [],
 .map [((.agg ⟨[(qI 0),(qU 0)]⟩),(.agg ⟨List.append [(qI 2),(qB 1)] ((qR 31 (qB 42)))⟩))],
 .cells ([(qP 20 0),(qL 51 0 1 2),(.map (some 21)),(.map (some 22)),(.map (some 23)),(.map (some 24)),qF]),
 .cells (List.append [(qP 25 0),(qU 150)] ((qR 17 qF))),
 .map [],
 .map [],
 .cells ([(qU 0),(qU 0),(.map (some 29)),(.map (some 30))]),
 .map [((.agg ⟨(qBs [239,154,117,76,182,13,101,253,115,74,12,183,155,70,50,173,187,218,68,13,162,95,243,165,62,196,190,4,32,158,42,225])⟩),(.agg ⟨List.append [(qB 1)] ((qR 31 (qB 42)))⟩))],
 .map [],
 .map [],
 .map [],
 .cells ([(qP 31 0),(qL 63 0 1 2),(.map (some 32)),(.map (some 33)),(.map (some 34)),(.map (some 35)),qF]),
 .cells (List.append [(qP 36 0),(qU 150)] ((qR 17 qF))),
 .cells ([(qP 26 0),(qP 37 0)]),
 .cells (List.append [(qW 1),(qU 100),(qU 50),(qB 0),(qB 1)] (List.append (qR 30 (qB 0)) (List.append [(qS [108,101,102,116]),(qS [114,105,103,104,116]),(qI 2),(qI 2),qF,(qU 1),(qU 0),qF,qF,qF,(qU 45),(qU 55),(.slice none 0 0),qT,(qI 65535)] (List.append (qBs [230,106,86,196,60,149,167,152,57,89,193,180,173,201,35,48,79,114,18,75,202,70,226,219,211,48,13,184,236,180,38,85]) (List.append [qT,(qI 65534)] (List.append (qBs [147,50,44,176,234,50,226,88,96,179,197,238,29,86,108,206,57,247,68,183,147,29,139,154,246,211,17,85,87,171,249,169]) (List.append [qF,(qI 0)] (List.append (qR 32 (qB 0)) (List.append [qF,(qI 0)] (List.append (qR 32 (qB 0)) (List.append [qF,(qI 0)] (List.append (qR 32 (qB 0)) (List.append [qF,(qI 0)] (List.append (qR 32 (qB 0)) (List.append [qF,(qI 0)] (List.append (qR 32 (qB 0)) (List.append [qF,(qI 0)] (List.append (qR 32 (qB 0)) (List.append [qF,(qI 0)] (List.append (qR 32 (qB 0)) (List.append [qF,(qI 0)] (List.append (qR 32 (qB 0)) (List.append [qF,(qI 0)] (List.append (qR 32 (qB 0)) (List.append [qF,(qI 0)] (List.append (qR 32 (qB 0)) (List.append [qF,(qI 0)] (List.append (qR 32 (qB 0)) (List.append [qF,(qI 0)] (List.append (qR 32 (qB 0)) (List.append [qF,(qI 0)] (List.append (qR 32 (qB 0)) (List.append [qF,(qI 0)] (List.append (qR 32 (qB 0)) (List.append [qF,(qI 0)] (List.append (qR 32 (qB 0)) ([(.slice none 0 0),(qL 1992 0 1 38)]))))))))))))))))))))))))))))))))))))),
 .cells ([(qP 47 0),(qL 2281 0 365 1),(qI 8),qF,(qI 0),qF]),
 .cells ([(qS [])]),
 .cells ([(qP 48 0),(qP 46 0),(qP 47 0),(qS []),(.slice none 0 0),(qI 20),qF,qF,qF]),
 .cells ([(qW 1),(qP 49 0)]),
 .cells (List.append [(qW 1),(qU 100),(qU 50),(qB 0),(qB 2)] (List.append (qR 30 (qB 0)) (List.append [(qS [114,105,103,104,116]),(qS [108,101,102,116]),(qI 2),(qI 2),qF,(qU 0),(qU 1),qF,qF,qT,(qU 55),(qU 45),(.slice none 0 0),qT,(qI 65535)] (List.append (qBs [88,177,229,223,227,52,172,193,3,186,251,107,25,88,154,96,116,105,249,213,16,24,213,192,32,212,148,191,95,13,19,83]) (List.append [qT,(qI 65534)] (List.append (qBs [83,30,15,189,160,53,17,158,82,23,52,207,62,182,203,162,169,82,40,138,90,5,130,174,53,157,247,47,248,199,135,196]) (List.append [qF,(qI 0)] (List.append (qR 32 (qB 0)) (List.append [qF,(qI 0)] (List.append (qR 32 (qB 0)) (List.append [qF,(qI 0)] (List.append (qR 32 (qB 0)) (List.append [qF,(qI 0)] (List.append (qR 32 (qB 0)) (List.append [qF,(qI 0)] (List.append (qR 32 (qB 0)) (List.append [qF,(qI 0)] (List.append (qR 32 (qB 0)) (List.append [qF,(qI 0)] (List.append (qR 32 (qB 0)) (List.append [qF,(qI 0)] (List.append (qR 32 (qB 0)) (List.append [qF,(qI 0)] (List.append (qR 32 (qB 0)) (List.append [qF,(qI 0)] (List.append (qR 32 (qB 0)) (List.append [qF,(qI 0)] (List.append (qR 32 (qB 0)) (List.append [qF,(qI 0)] (List.append (qR 32 (qB 0)) (List.append [qF,(qI 0)] (List.append (qR 32 (qB 0)) (List.append [qF,(qI 0)] (List.append (qR 32 (qB 0)) (List.append [qF,(qI 0)] (List.append (qR 32 (qB 0)) ([(.slice none 0 0),(qL 1594 0 2 38)]))))))))))))))))))))))))))))))))))))),
 .cells ([(qP 59 0),(qL 2197 0 373 1),(qI 8),qF,(qI 0),qF]),
 .cells ([(qS [])]),
 .cells ([(qP 60 0),(qP 58 0),(qP 59 0),(qS []),(.slice none 0 0),(qI 20),qF,qF,qF]),
 .cells ([(qW 1),(qP 61 0)]),
 .cells ([(qI 1),(qI 1),(qI 0),(qU 0),(qB 1),(qI 0),(qI 3),(qI 0),(qI 0),(qU 5),(qB 1),(qI 9)]),
 .cells (List.append [(qI 4),(qW 1),(qU 0),(qU 0),(qB 1)] (List.append (qR 31 (qB 42)) (List.append [(qI 0),(qI 0),(qI 6),(qW 1),(qU 0),(qU 0)] (List.append (qBs [51,189,16,79,18,206,89,100,171,230,219,54,119,243,162,212,244,27,25,246,181,162,143,184,242,175,145,202,18,125,253,222]) ([(qI 0),(qI 2)]))))),
 .cells (List.append [(qI 6),(qW 1),(qU 0),(qU 0)] (List.append (qBs [242,67,149,245,172,249,31,184,171,237,183,206,22,135,32,197,92,93,135,180,162,85,52,133,25,102,4,2,201,105,177,109]) ([(qI 0),(qI 2)]))),
 .cells (List.append (qR 9 (qB 0)) (List.append (qBs [58,6,3,0,0,0,1]) (List.append (qR 15 (qB 0)) (List.append (qBs [5,239,154,117,76,182,13,101,253,115,74,12,183,155,70,50,173,187,218,68,13,162,95,243,165,62,196,190,4,32,158,42,225,0,0,0,9,133,247,113,158]) (List.append (qR 7 (qB 0)) (List.append (qBs [1,0,40,6,6,0,0,0,1,0,1,179,164,227,75,35,65,203,61,71,156,187,235,91,21,100,187,210,202,73,147,111,15,75,78,202,14,204,227,177,184,17,253,112,237,130,50]) (List.append (qR 7 (qB 0)) (List.append (qBs [2,0,1,4,172,18,42]) (List.append (qR 8 (qB 0)) (List.append (qBs [3,0,40,6,7,0,0,0,1,0,0,88,177,229,223,227,52,172,193,3,186,251,107,25,88,154,96,116,105,249,213,16,24,213,192,32,212,148,191,95,13,19,83,250,163,103,203]) (List.append (qR 7 (qB 0)) (List.append (qBs [4,0,41,2]) (List.append (qR 8 (qB 0)) (List.append [(qB 1)] (List.append (qR 31 (qB 42)) (List.append (qBs [129,155,48,193]) (List.append (qR 7 (qB 0)) (List.append (qBs [5,0,1,4,42,140,225,47]) (List.append (qR 7 (qB 0)) (List.append (qBs [6,0,40,6,7,0,0,0,1,0,1,83,30,15,189,160,53,17,158,82,23,52,207,62,182,203,162,169,82,40,138,90,5,130,174,53,157,247,47,248,199,135,196,170,227,190,190]) (List.append (qR 7 (qB 0)) ((qBs [7,0,40,6,6,0,0,0,1,0,2,242,67,149,245,172,249,31,184,171,237,183,206,22,135,32,197,92,93,135,180,162,85,52,133,25,102,4,2,201,105,177,109,252,219,80,59]))))))))))))))))))))))),
 .cells (List.append (qR 9 (qB 0)) (List.append [(qB 45),(qB 1)] (List.append (qR 7 (qB 0)) (List.append (qBs [5,239,154,117,76,182,13,101,253,115,74,12,183,155,70,50,173,187,218,68,13,162,95,243,165,62,196,190,4,32,158,42,225,0,0,0,9,155,194,208,229]) (List.append (qR 7 (qB 0)) (List.append (qBs [1,0,1,4,155,93,30,123]) (List.append (qR 7 (qB 0)) (List.append (qBs [2,0,40,6,7,0,0,0,1,0,0,230,106,86,196,60,149,167,152,57,89,193,180,173,201,35,48,79,114,18,75,202,70,226,219,211,48,13,184,236,180,38,85,227,185,33,212]) (List.append (qR 7 (qB 0)) (List.append (qBs [3,0,40,6,6,0,0,0,1,0,1,43,255,198,219,209,208,197,135,241,106,171,108,30,15,208,185,55,36,233,142,109,131,186,10,237,236,30,8,70,78,212,139,177,212,146,113]) (List.append (qR 7 (qB 0)) (List.append (qBs [4,0,46,6,4,0,0,0,1]) (List.append (qR 8 (qB 0)) (List.append [(qB 1)] (List.append (qR 31 (qB 42)) (List.append (qBs [4,40,133,212]) (List.append (qR 7 (qB 0)) (List.append (qBs [5,0,40,6,6,0,0,0,1,0,2,51,189,16,79,18,206,89,100,171,230,219,54,119,243,162,212,244,27,25,246,181,162,143,184,242,175,145,202,18,125,253,222,207,167,73,192]) (List.append (qR 7 (qB 0)) (List.append (qBs [6,0,1,4,95,102,133,224]) (List.append (qR 7 (qB 0)) ((qBs [7,0,40,6,7,0,0,0,1,0,1,147,50,44,176,234,50,226,88,96,179,197,238,29,86,108,206,57,247,68,183,147,29,139,154,246,211,17,85,87,171,249,169,173,132,107,124]))))))))))))))))))))))),
 .cells ([(qI 0),(qI 0)])]
theorem lk_20:ltH kp_20=true:=by kernel_rfl
theorem run_20:snapC 29 kp_20 (iterF fL 5 (mkT vs_15) (mkH kp_15 bs_15) 2327)=.ok vs_20 bs_20 2393:=by kernel_rfl
noncomputable def vs_30:List Value:=[(qP 17 0),(qI 60),(.tuple ⟨[]⟩),(.tuple ⟨[]⟩),(qI 0),(qI 0),(qI 5),(qI 0),(qI 60),(qI 60),(qI 30),qT,(qP 17 0),(qI 6),(qI 6),qF,(qI 5),(qP 17 0),(qI 5),(qI 0),(qI 0),qT,(qI 0),(qI 0),(qL 2576 0 2 1),(qI 0),(qI 6),(qI 30),(.tuple ⟨[]⟩)]
noncomputable def kp_30:List Nat:=[16,17,18,19,20,21,22,23,24,25,26,29,30,31,32,33,34,35,36,37,39,46,47,48,49,51,58,59,60,61,63,84,1594,1992,2197,2281,2576]
noncomputable def bs_30:List Blk:=[.cells ([(qS []),(qS [])]),
 .cells ([(qL 39 0 2 1),(qL 16 0 1 2),(qL 84 0 2 6)]),
 .map [],
 .map [],
 .cells ([(qU 0),(qU 0),(.map (some 18)),(.map (some 19))]),
 .map [],
 .map [((.agg ⟨(qBs [239,154,117,76,182,13,101,253,115,74,12,183,155,70,50,173,187,218,68,13,162,95,243,165,62,196,190,4,32,158,42,225])⟩),(.agg ⟨List.append [(qB 1)] ((qR 31 (qB 42)))⟩))],
 .map [],
 .map [((.agg ⟨[(qI 0),(qU 0)]⟩),(.agg ⟨List.append [(qI 2),(qB 1)] ((qR 31 (qB 42)))⟩))],
 .cells ([(qP 20 0),(qL 51 0 1 2),(.map (some 21)),(.map (some 22)),(.map (some 23)),(.map (some 24)),qF]),
 .cells (List.append [(qP 25 0),(qU 150)] ((qR 17 qF))),
 .map [],
 .map [],
 .cells ([(qU 0),(qU 0),(.map (some 29)),(.map (some 30))]),
 .map [((.agg ⟨(qBs [239,154,117,76,182,13,101,253,115,74,12,183,155,70,50,173,187,218,68,13,162,95,243,165,62,196,190,4,32,158,42,225])⟩),(.agg ⟨List.append [(qB 1)] ((qR 31 (qB 42)))⟩))],
 .map [],
 .map [],
 .map [],
 .cells ([(qP 31 0),(qL 63 0 1 2),(.map (some 32)),(.map (some 33)),(.map (some 34)),(.map (some 35)),qF]),
 .cells (List.append [(qP 36 0),(qU 150)] ((qR 17 qF))),
 .cells ([(qP 26 0),(qP 37 0)]),
 .cells (List.append [(qW 1),(qU 100),(qU 50),(qB 0),(qB 1)] (List.append (qR 30 (qB 0)) (List.append [(qS [108,101,102,116]),(qS [114,105,103,104,116]),(qI 2),(qI 2),qF,(qU 1),(qU 0),qF,qF,qF,(qU 45),(qU 55),(.slice none 0 0),qT,(qI 65535)] (List.append (qBs [230,106,86,196,60,149,167,152,57,89,193,180,173,201,35,48,79,114,18,75,202,70,226,219,211,48,13,184,236,180,38,85]) (List.append [qT,(qI 65534)] (List.append (qBs [147,50,44,176,234,50,226,88,96,179,197,238,29,86,108,206,57,247,68,183,147,29,139,154,246,211,17,85,87,171,249,169]) (List.append [qF,(qI 0)] (List.append (qR 32 (qB 0)) (List.append [qF,(qI 0)] (List.append (qR 32 (qB 0)) (List.append [qF,(qI 0)] (List.append (qR 32 (qB 0)) (List.append [qF,(qI 0)] (List.append (qR 32 (qB 0)) (List.append [qF,(qI 0)] (List.append (qR 32 (qB 0)) (List.append [qF,(qI 0)] (List.append (qR 32 (qB 0)) (List.append [qF,(qI 0)] (List.append (qR 32 (qB 0)) (List.append [qF,(qI 0)] (List.append (qR 32 (qB 0)) (List.append [qF,(qI 0)] (List.append (qR 32 (qB 0)) (List.append [qF,(qI 0)] (List.append (qR 32 (qB 0)) (List.append [qF,(qI 0)] (List.append (qR 32 (qB 0)) (List.append [qF,(qI 0)] (List.append (qR 32 (qB 0)) (List.append [qF,(qI 0)] (List.append (qR 32 (qB 0)) (List.append [qF,(qI 0)] (List.append (qR 32 (qB 0)) (List.append [qF,(qI 0)] (List.append (qR 32 (qB 0)) ([(.slice none 0 0),(qL 1992 0 1 38)]))))))))))))))))))))))))))))))))))))),
 .cells ([(qP 47 0),(qL 2281 0 365 1),(qI 8),qF,(qI 0),qF]),
 .cells ([(qS [])]),
 .cells ([(qP 48 0),(qP 46 0),(qP 47 0),(qS []),(.slice none 0 0),(qI 30),qF,qF,qF]),
 .cells ([(qW 1),(qP 49 0)]),
 .cells (List.append [(qW 1),(qU 100),(qU 50),(qB 0),(qB 2)] (List.append (qR 30 (qB 0)) (List.append [(qS [114,105,103,104,116]),(qS [108,101,102,116]),(qI 2),(qI 2),qF,(qU 0),(qU 1),qF,qF,qT,(qU 55),(qU 45),(.slice none 0 0),qT,(qI 65535)] (List.append (qBs [88,177,229,223,227,52,172,193,3,186,251,107,25,88,154,96,116,105,249,213,16,24,213,192,32,212,148,191,95,13,19,83]) (List.append [qT,(qI 65534)] (List.append (qBs [83,30,15,189,160,53,17,158,82,23,52,207,62,182,203,162,169,82,40,138,90,5,130,174,53,157,247,47,248,199,135,196]) (List.append [qF,(qI 0)] (List.append (qR 32 (qB 0)) (List.append [qF,(qI 0)] (List.append (qR 32 (qB 0)) (List.append [qF,(qI 0)] (List.append (qR 32 (qB 0)) (List.append [qF,(qI 0)] (List.append (qR 32 (qB 0)) (List.append [qF,(qI 0)] (List.append (qR 32 (qB 0)) (List.append [qF,(qI 0)] (List.append (qR 32 (qB 0)) (List.append [qF,(qI 0)] (List.append (qR 32 (qB 0)) (List.append [qF,(qI 0)] (List.append (qR 32 (qB 0)) (List.append [qF,(qI 0)] (List.append (qR 32 (qB 0)) (List.append [qF,(qI 0)] (List.append (qR 32 (qB 0)) (List.append [qF,(qI 0)] (List.append (qR 32 (qB 0)) (List.append [qF,(qI 0)] (List.append (qR 32 (qB 0)) (List.append [qF,(qI 0)] (List.append (qR 32 (qB 0)) (List.append [qF,(qI 0)] (List.append (qR 32 (qB 0)) (List.append [qF,(qI 0)] (List.append (qR 32 (qB 0)) ([(.slice none 0 0),(qL 1594 0 2 38)]))))))))))))))))))))))))))))))))))))),
 .cells ([(qP 59 0),(qL 2197 0 373 1),(qI 8),qF,(qI 0),qF]),
 .cells ([(qS [])]),
 .cells ([(qP 60 0),(qP 58 0),(qP 59 0),(qS []),(.slice none 0 0),(qI 30),qF,qF,qF]),
 .cells ([(qW 1),(qP 61 0)]),
 .cells ([(qI 1),(qI 1),(qI 0),(qU 0),(qB 1),(qI 0),(qI 3),(qI 0),(qI 0),(qU 5),(qB 1),(qI 9)]),
 .cells (List.append [(qI 4),(qW 1),(qU 0),(qU 0),(qB 1)] (List.append (qR 31 (qB 42)) (List.append [(qI 0),(qI 0),(qI 6),(qW 1),(qU 0),(qU 0)] (List.append (qBs [51,189,16,79,18,206,89,100,171,230,219,54,119,243,162,212,244,27,25,246,181,162,143,184,242,175,145,202,18,125,253,222]) ([(qI 0),(qI 2)]))))),
 .cells (List.append [(qI 6),(qW 1),(qU 0),(qU 0)] (List.append (qBs [242,67,149,245,172,249,31,184,171,237,183,206,22,135,32,197,92,93,135,180,162,85,52,133,25,102,4,2,201,105,177,109]) ([(qI 0),(qI 2)]))),
 .cells (List.append (qR 9 (qB 0)) (List.append (qBs [58,6,3,0,0,0,1]) (List.append (qR 15 (qB 0)) (List.append (qBs [5,239,154,117,76,182,13,101,253,115,74,12,183,155,70,50,173,187,218,68,13,162,95,243,165,62,196,190,4,32,158,42,225,0,0,0,9,133,247,113,158]) (List.append (qR 7 (qB 0)) (List.append (qBs [1,0,40,6,6,0,0,0,1,0,1,179,164,227,75,35,65,203,61,71,156,187,235,91,21,100,187,210,202,73,147,111,15,75,78,202,14,204,227,177,184,17,253,112,237,130,50]) (List.append (qR 7 (qB 0)) (List.append (qBs [2,0,1,4,172,18,42]) (List.append (qR 8 (qB 0)) (List.append (qBs [3,0,40,6,7,0,0,0,1,0,0,88,177,229,223,227,52,172,193,3,186,251,107,25,88,154,96,116,105,249,213,16,24,213,192,32,212,148,191,95,13,19,83,250,163,103,203]) (List.append (qR 7 (qB 0)) (List.append (qBs [4,0,41,2]) (List.append (qR 8 (qB 0)) (List.append [(qB 1)] (List.append (qR 31 (qB 42)) (List.append (qBs [129,155,48,193]) (List.append (qR 7 (qB 0)) (List.append (qBs [5,0,1,4,42,140,225,47]) (List.append (qR 7 (qB 0)) (List.append (qBs [6,0,40,6,7,0,0,0,1,0,1,83,30,15,189,160,53,17,158,82,23,52,207,62,182,203,162,169,82,40,138,90,5,130,174,53,157,247,47,248,199,135,196,170,227,190,190]) (List.append (qR 7 (qB 0)) ((qBs [7,0,40,6,6,0,0,0,1,0,2,242,67,149,245,172,249,31,184,171,237,183,206,22,135,32,197,92,93,135,180,162,85,52,133,25,102,4,2,201,105,177,109,252,219,80,59]))))))))))))))))))))))),
 .cells (List.append (qR 9 (qB 0)) (List.append [(qB 45),(qB 1)] (List.append (qR 7 (qB 0)) (List.append (qBs [5,239,154,117,76,182,13,101,253,115,74,12,183,155,70,50,173,187,218,68,13,162,95,243,165,62,196,190,4,32,158,42,225,0,0,0,9,155,194,208,229]) (List.append (qR 7 (qB 0)) (List.append (qBs [1,0,1,4,155,93,30,123]) (List.append (qR 7 (qB 0)) (List.append (qBs [2,0,40,6,7,0,0,0,1,0,0,230,106,86,196,60,149,167,152,57,89,193,180,173,201,35,48,79,114,18,75,202,70,226,219,211,48,13,184,236,180,38,85,227,185,33,212]) (List.append (qR 7 (qB 0)) (List.append (qBs [3,0,40,6,6,0,0,0,1,0,1,43,255,198,219,209,208,197,135,241,106,171,108,30,15,208,185,55,36,233,142,109,131,186,10,237,236,30,8,70,78,212,139,177,212,146,113]) (List.append (qR 7 (qB 0)) (List.append (qBs [4,0,46,6,4,0,0,0,1]) (List.append (qR 8 (qB 0)) (List.append [(qB 1)] (List.append (qR 31 (qB 42)) (List.append (qBs [4,40,133,212]) (List.append (qR 7 (qB 0)) (List.append (qBs [5,0,40,6,6,0,0,0,1,0,2,51,189,16,79,18,206,89,100,171,230,219,54,119,243,162,212,244,27,25,246,181,162,143,184,242,175,145,202,18,125,253,222,207,167,73,192]) (List.append (qR 7 (qB 0)) (List.append (qBs [6,0,1,4,95,102,133,224]) (List.append (qR 7 (qB 0)) ((qBs [7,0,40,6,7,0,0,0,1,0,1,147,50,44,176,234,50,226,88,96,179,197,238,29,86,108,206,57,247,68,183,147,29,139,154,246,211,17,85,87,171,249,169,173,132,107,124]))))))))))))))))))))))),
 .cells ([(qI 0),(qI 0)])]
theorem lk_30:ltH kp_30=true:=by kernel_rfl
theorem run_30:snapC 29 kp_30 (iterF fL 10 (mkT vs_20) (mkH kp_20 bs_20) 2393)=.ok vs_30 bs_30 2577:=by kernel_rfl
noncomputable def vs_40:List Value:=[(qP 17 0),(qI 60),(.tuple ⟨[]⟩),(.tuple ⟨[]⟩),(qI 0),(qI 0),(qI 5),(qI 0),(qI 60),(qI 60),(qI 40),qT,(qP 17 0),(qI 6),(qI 6),qF,(qI 5),(qP 17 0),(qI 5),(qI 0),(qI 0),qT,(qI 0),(qI 0),(qL 2734 0 2 1),(qI 0),(qI 6),(qI 40),(.tuple ⟨[]⟩)]
noncomputable def kp_40:List Nat:=[16,17,18,19,20,21,22,23,24,25,26,29,30,31,32,33,34,35,36,37,39,46,47,48,49,51,58,59,60,61,63,84,1594,1992,2197,2281,2734]
noncomputable def bs_40:List Blk:=[.cells ([(qS []),(qS [])]),
 .cells ([(qL 39 0 2 1),(qL 16 0 1 2),(qL 84 0 2 6)]),
 .map [],
 .map [],
 .cells ([(qU 0),(qU 0),(.map (some 18)),(.map (some 19))]),
 .map [],
 .map [((.agg ⟨(qBs [239,154,117,76,182,13,101,253,115,74,12,183,155,70,50,173,187,218,68,13,162,95,243,165,62,196,190,4,32,158,42,225])⟩),(.agg ⟨List.append [(qB 1)] ((qR 31 (qB 42)))⟩))],
 .map [],
 .map [((.agg ⟨[(qI 0),(qU 0)]⟩),(.agg ⟨List.append [(qI 2),(qB 1)] ((qR 31 (qB 42)))⟩))],
 .cells ([(qP 20 0),(qL 51 0 1 2),(.map (some 21)),(.map (some 22)),(.map (some 23)),(.map (some 24)),qF]),
 .cells (List.append [(qP 25 0),(qU 150)] ((qR 17 qF))),
 .map [],
 .map [],
 .cells ([(qU 0),(qU 0),(.map (some 29)),(.map (some 30))]),
 .map [((.agg ⟨(qBs [239,154,117,76,182,13,101,253,115,74,12,183,155,70,50,173,187,218,68,13,162,95,243,165,62,196,190,4,32,158,42,225])⟩),(.agg ⟨List.append [(qB 1)] ((qR 31 (qB 42)))⟩))],
 .map [],
 .map [],
 .map [],
 .cells ([(qP 31 0),(qL 63 0 1 2),(.map (some 32)),(.map (some 33)),(.map (some 34)),(.map (some 35)),qF]),
 .cells (List.append [(qP 36 0),(qU 150)] ((qR 17 qF))),
 .cells ([(qP 26 0),(qP 37 0)]),
 .cells (List.append [(qW 1),(qU 100),(qU 50),(qB 0),(qB 1)] (List.append (qR 30 (qB 0)) (List.append [(qS [108,101,102,116]),(qS [114,105,103,104,116]),(qI 2),(qI 2),qF,(qU 1),(qU 0),qF,qF,qF,(qU 45),(qU 55),(.slice none 0 0),qT,(qI 65535)] (List.append (qBs [230,106,86,196,60,149,167,152,57,89,193,180,173,201,35,48,79,114,18,75,202,70,226,219,211,48,13,184,236,180,38,85]) (List.append [qT,(qI 65534)] (List.append (qBs [147,50,44,176,234,50,226,88,96,179,197,238,29,86,108,206,57,247,68,183,147,29,139,154,246,211,17,85,87,171,249,169]) (List.append [qF,(qI 0)] (List.append (qR 32 (qB 0)) (List.append [qF,(qI 0)] (List.append (qR 32 (qB 0)) (List.append [qF,(qI 0)] (List.append (qR 32 (qB 0)) (List.append [qF,(qI 0)] (List.append (qR 32 (qB 0)) (List.append [qF,(qI 0)] (List.append (qR 32 (qB 0)) (List.append [qF,(qI 0)] (List.append (qR 32 (qB 0)) (List.append [qF,(qI 0)] (List.append (qR 32 (qB 0)) (List.append [qF,(qI 0)] (List.append (qR 32 (qB 0)) (List.append [qF,(qI 0)] (List.append (qR 32 (qB 0)) (List.append [qF,(qI 0)] (List.append (qR 32 (qB 0)) (List.append [qF,(qI 0)] (List.append (qR 32 (qB 0)) (List.append [qF,(qI 0)] (List.append (qR 32 (qB 0)) (List.append [qF,(qI 0)] (List.append (qR 32 (qB 0)) (List.append [qF,(qI 0)] (List.append (qR 32 (qB 0)) (List.append [qF,(qI 0)] (List.append (qR 32 (qB 0)) ([(.slice none 0 0),(qL 1992 0 1 38)]))))))))))))))))))))))))))))))))))))),
 .cells ([(qP 47 0),(qL 2281 0 365 1),(qI 8),qF,(qI 0),qF]),
 .cells ([(qS [])]),
 .cells ([(qP 48 0),(qP 46 0),(qP 47 0),(qS []),(.slice none 0 0),(qI 40),qF,qF,qF]),
 .cells ([(qW 1),(qP 49 0)]),
 .cells (List.append [(qW 1),(qU 100),(qU 50),(qB 0),(qB 2)] (List.append (qR 30 (qB 0)) (List.append [(qS [114,105,103,104,116]),(qS [108,101,102,116]),(qI 2),(qI 2),qF,(qU 0),(qU 1),qF,qF,qT,(qU 55),(qU 45),(.slice none 0 0),qT,(qI 65535)] (List.append (qBs [88,177,229,223,227,52,172,193,3,186,251,107,25,88,154,96,116,105,249,213,16,24,213,192,32,212,148,191,95,13,19,83]) (List.append [qT,(qI 65534)] (List.append (qBs [83,30,15,189,160,53,17,158,82,23,52,207,62,182,203,162,169,82,40,138,90,5,130,174,53,157,247,47,248,199,135,196]) (List.append [qF,(qI 0)] (List.append (qR 32 (qB 0)) (List.append [qF,(qI 0)] (List.append (qR 32 (qB 0)) (List.append [qF,(qI 0)] (List.append (qR 32 (qB 0)) (List.append [qF,(qI 0)] (List.append (qR 32 (qB 0)) (List.append [qF,(qI 0)] (List.append (qR 32 (qB 0)) (List.append [qF,(qI 0)] (List.append (qR 32 (qB 0)) (List.append [qF,(qI 0)] (List.append (qR 32 (qB 0)) (List.append [qF,(qI 0)] (List.append (qR 32 (qB 0)) (List.append [qF,(qI 0)] (List.append (qR 32 (qB 0)) (List.append [qF,(qI 0)] (List.append (qR 32 (qB 0)) (List.append [qF,(qI 0)] (List.append (qR 32 (qB 0)) (List.append [qF,(qI 0)] (List.append (qR 32 (qB 0)) (List.append [qF,(qI 0)] (List.append (qR 32 (qB 0)) (List.append [qF,(qI 0)] (List.append (qR 32 (qB 0)) (List.append [qF,(qI 0)] (List.append (qR 32 (qB 0)) ([(.slice none 0 0),(qL 1594 0 2 38)]))))))))))))))))))))))))))))))))))))),
 .cells ([(qP 59 0),(qL 2197 0 373 1),(qI 8),qF,(qI 0),qF]),
 .cells ([(qS [])]),
 .cells ([(qP 60 0),(qP 58 0),(qP 59 0),(qS []),(.slice none 0 0),(qI 40),qF,qF,qF]),
 .cells ([(qW 1),(qP 61 0)]),
 .cells ([(qI 1),(qI 1),(qI 0),(qU 0),(qB 1),(qI 0),(qI 3),(qI 0),(qI 0),(qU 5),(qB 1),(qI 9)]),
 .cells (List.append [(qI 4),(qW 1),(qU 0),(qU 0),(qB 1)] (List.append (qR 31 (qB 42)) (List.append [(qI 0),(qI 0),(qI 6),(qW 1),(qU 0),(qU 0)] (List.append (qBs [51,189,16,79,18,206,89,100,171,230,219,54,119,243,162,212,244,27,25,246,181,162,143,184,242,175,145,202,18,125,253,222]) ([(qI 0),(qI 2)]))))),
 .cells (List.append [(qI 6),(qW 1),(qU 0),(qU 0)] (List.append (qBs [242,67,149,245,172,249,31,184,171,237,183,206,22,135,32,197,92,93,135,180,162,85,52,133,25,102,4,2,201,105,177,109]) ([(qI 0),(qI 2)]))),
 .cells (List.append (qR 9 (qB 0)) (List.append (qBs [58,6,3,0,0,0,1]) (List.append (qR 15 (qB 0)) (List.append (qBs [5,239,154,117,76,182,13,101,253,115,74,12,183,155,70,50,173,187,218,68,13,162,95,243,165,62,196,190,4,32,158,42,225,0,0,0,9,133,247,113,158]) (List.append (qR 7 (qB 0)) (List.append (qBs [1,0,40,6,6,0,0,0,1,0,1,179,164,227,75,35,65,203,61,71,156,187,235,91,21,100,187,210,202,73,147,111,15,75,78,202,14,204,227,177,184,17,253,112,237,130,50]) (List.append (qR 7 (qB 0)) (List.append (qBs [2,0,1,4,172,18,42]) (List.append (qR 8 (qB 0)) (List.append (qBs [3,0,40,6,7,0,0,0,1,0,0,88,177,229,223,227,52,172,193,3,186,251,107,25,88,154,96,116,105,249,213,16,24,213,192,32,212,148,191,95,13,19,83,250,163,103,203]) (List.append (qR 7 (qB 0)) (List.append (qBs [4,0,41,2]) (List.append (qR 8 (qB 0)) (List.append [(qB 1)] (List.append (qR 31 (qB 42)) (List.append (qBs [129,155,48,193]) (List.append (qR 7 (qB 0)) (List.append (qBs [5,0,1,4,42,140,225,47]) (List.append (qR 7 (qB 0)) (List.append (qBs [6,0,40,6,7,0,0,0,1,0,1,83,30,15,189,160,53,17,158,82,23,52,207,62,182,203,162,169,82,40,138,90,5,130,174,53,157,247,47,248,199,135,196,170,227,190,190]) (List.append (qR 7 (qB 0)) ((qBs [7,0,40,6,6,0,0,0,1,0,2,242,67,149,245,172,249,31,184,171,237,183,206,22,135,32,197,92,93,135,180,162,85,52,133,25,102,4,2,201,105,177,109,252,219,80,59]))))))))))))))))))))))),
 .cells (List.append (qR 9 (qB 0)) (List.append [(qB 45),(qB 1)] (List.append (qR 7 (qB 0)) (List.append (qBs [5,239,154,117,76,182,13,101,253,115,74,12,183,155,70,50,173,187,218,68,13,162,95,243,165,62,196,190,4,32,158,42,225,0,0,0,9,155,194,208,229]) (List.append (qR 7 (qB 0)) (List.append (qBs [1,0,1,4,155,93,30,123]) (List.append (qR 7 (qB 0)) (List.append (qBs [2,0,40,6,7,0,0,0,1,0,0,230,106,86,196,60,149,167,152,57,89,193,180,173,201,35,48,79,114,18,75,202,70,226,219,211,48,13,184,236,180,38,85,227,185,33,212]) (List.append (qR 7 (qB 0)) (List.append (qBs [3,0,40,6,6,0,0,0,1,0,1,43,255,198,219,209,208,197,135,241,106,171,108,30,15,208,185,55,36,233,142,109,131,186,10,237,236,30,8,70,78,212,139,177,212,146,113]) (List.append (qR 7 (qB 0)) (List.append (qBs [4,0,46,6,4,0,0,0,1]) (List.append (qR 8 (qB 0)) (List.append [(qB 1)] (List.append (qR 31 (qB 42)) (List.append (qBs [4,40,133,212]) (List.append (qR 7 (qB 0)) (List.append (qBs [5,0,40,6,6,0,0,0,1,0,2,51,189,16,79,18,206,89,100,171,230,219,54,119,243,162,212,244,27,25,246,181,162,143,184,242,175,145,202,18,125,253,222,207,167,73,192]) (List.append (qR 7 (qB 0)) (List.append (qBs [6,0,1,4,95,102,133,224]) (List.append (qR 7 (qB 0)) ((qBs [7,0,40,6,7,0,0,0,1,0,1,147,50,44,176,234,50,226,88,96,179,197,238,29,86,108,206,57,247,68,183,147,29,139,154,246,211,17,85,87,171,249,169,173,132,107,124]))))))))))))))))))))))),
 .cells ([(qI 0),(qI 0)])]
theorem lk_40:ltH kp_40=true:=by kernel_rfl
theorem run_40:snapC 29 kp_40 (iterF fL 10 (mkT vs_30) (mkH kp_30 bs_30) 2577)=.ok vs_40 bs_40 2735:=by kernel_rfl
end SX
namespace SX
open Go Go.RowKit
set_option linter.unusedVariables false
set_option maxRecDepth 1000000
noncomputable def vs_50:List Value:=[(qP 17 0),(qI 60),(.tuple ⟨[]⟩),(.tuple ⟨[]⟩),(qI 0),(qI 0),(qI 5),(qI 0),(qI 60),(qI 60),(qI 50),qT,(qP 17 0),(qI 6),(qI 6),qF,(qI 5),(qP 17 0),(qI 5),(qI 0),(qI 0),qT,(qI 0),(qI 0),(qL 2892 0 2 1),(qI 0),(qI 6),(qI 50),(.tuple ⟨[]⟩)]
noncomputable def kp_50:List Nat:=[16,17,18,19,20,21,22,23,24,25,26,29,30,31,32,33,34,35,36,37,39,46,47,48,49,51,58,59,60,61,63,84,1594,1992,2197,2281,2892]
noncomputable def bs_50:List Blk:=[.cells ([(qS []),(qS [])]),
 .cells ([(qL 39 0 2 1),(qL 16 0 1 2),(qL 84 0 2 6)]),
 .map [],
 .map [],
 .cells ([(qU 0),(qU 0),(.map (some 18)),(.map (some 19))]),
 .map [],
 .map [((.agg ⟨(qBs [239,154,117,76,182,13,101,253,115,74,12,183,155,70,50,173,187,218,68,13,162,95,243,165,62,196,190,4,32,158,42,225])⟩),(.agg ⟨List.append [(qB 1)] ((qR 31 (qB 42)))⟩))],
 .map [],
 .map [((.agg ⟨[(qI 0),(qU 0)]⟩),(.agg ⟨List.append [(qI 2),(qB 1)] ((qR 31 (qB 42)))⟩))],
 .cells ([(qP 20 0),(qL 51 0 1 2),(.map (some 21)),(.map (some 22)),(.map (some 23)),(.map (some 24)),qF]),
 .cells (List.append [(qP 25 0),(qU 150)] ((qR 17 qF))),
 .map [],
 .map [],
 .cells ([(qU 0),(qU 0),(.map (some 29)),(.map (some 30))]),
 .map [((.agg ⟨(qBs [239,154,117,76,182,13,101,253,115,74,12,183,155,70,50,173,187,218,68,13,162,95,243,165,62,196,190,4,32,158,42,225])⟩),(.agg ⟨List.append [(qB 1)] ((qR 31 (qB 42)))⟩))],
 .map [],
 .map [],
 .map [],
 .cells ([(qP 31 0),(qL 63 0 1 2),(.map (some 32)),(.map (some 33)),(.map (some 34)),(.map (some 35)),qF]),
 .cells (List.append [(qP 36 0),(qU 150)] ((qR 17 qF))),
 .cells ([(qP 26 0),(qP 37 0)]),
 .cells (List.append [(qW 1),(qU 100),(qU 50),(qB 0),(qB 1)] (List.append (qR 30 (qB 0)) (List.append [(qS [108,101,102,116]),(qS [114,105,103,104,116]),(qI 2),(qI 2),qF,(qU 1),(qU 0),qF,qF,qF,(qU 45),(qU 55),(.slice none 0 0),qT,(qI 65535)] (List.append (qBs [230,106,86,196,60,149,167,152,57,89,193,180,173,201,35,48,79,114,18,75,202,70,226,219,211,48,13,184,236,180,38,85]) (List.append [qT,(qI 65534)] (List.append (qBs [147,50,44,176,234,50,226,88,96,179,197,238,29,86,108,206,57,247,68,183,147,29,139,154,246,211,17,85,87,171,249,169]) (List.append [qF,(qI 0)] (List.append (qR 32 (qB 0)) (List.append [qF,(qI 0)] (List.append (qR 32 (qB 0)) (List.append [qF,(qI 0)] (List.append (qR 32 (qB 0)) (List.append [qF,(qI 0)] (List.append (qR 32 (qB 0)) (List.append [qF,(qI 0)] (List.append (qR 32 (qB 0)) (List.append [qF,(qI 0)] (List.append (qR 32 (qB 0)) (List.append [qF,(qI 0)] (List.append (qR 32 (qB 0)) (List.append [qF,(qI 0)] (List.append (qR 32 (qB 0)) (List.append [qF,(qI 0)] (List.append (qR 32 (qB 0)) (List.append [qF,(qI 0)] (List.append (qR 32 (qB 0)) (List.append [qF,(qI 0)] (List.append (qR 32 (qB 0)) (List.append [qF,(qI 0)] (List.append (qR 32 (qB 0)) (List.append [qF,(qI 0)] (List.append (qR 32 (qB 0)) (List.append [qF,(qI 0)] (List.append (qR 32 (qB 0)) (List.append [qF,(qI 0)] (List.append (qR 32 (qB 0)) ([(.slice none 0 0),(qL 1992 0 1 38)]))))))))))))))))))))))))))))))))))))),
 .cells ([(qP 47 0),(qL 2281 0 365 1),(qI 8),qF,(qI 0),qF]),
 .cells ([(qS [])]),
 .cells ([(qP 48 0),(qP 46 0),(qP 47 0),(qS []),(.slice none 0 0),(qI 50),qF,qF,qF]),
 .cells ([(qW 1),(qP 49 0)]),
 .cells (List.append [(qW 1),(qU 100),(qU 50),(qB 0),(qB 2)] (List.append (qR 30 (qB 0)) (List.append [(qS [114,105,103,104,116]),(qS [108,101,102,116]),(qI 2),(qI 2),qF,(qU 0),(qU 1),qF,qF,qT,(qU 55),(qU 45),(.slice none 0 0),qT,(qI 65535)] (List.append (qBs [88,177,229,223,227,52,172,193,3,186,251,107,25,88,154,96,116,105,249,213,16,24,213,192,32,212,148,191,95,13,19,83]) (List.append [qT,(qI 65534)] (List.append (qBs [83,30,15,189,160,53,17,158,82,23,52,207,62,182,203,162,169,82,40,138,90,5,130,174,53,157,247,47,248,199,135,196]) (List.append [qF,(qI 0)] (List.append (qR 32 (qB 0)) (List.append [qF,(qI 0)] (List.append (qR 32 (qB 0)) (List.append [qF,(qI 0)] (List.append (qR 32 (qB 0)) (List.append [qF,(qI 0)] (List.append (qR 32 (qB 0)) (List.append [qF,(qI 0)] (List.append (qR 32 (qB 0)) (List.append [qF,(qI 0)] (List.append (qR 32 (qB 0)) (List.append [qF,(qI 0)] (List.append (qR 32 (qB 0)) (List.append [qF,(qI 0)] (List.append (qR 32 (qB 0)) (List.append [qF,(qI 0)] (List.append (qR 32 (qB 0)) (List.append [qF,(qI 0)] (List.append (qR 32 (qB 0)) (List.append [qF,(qI 0)] (List.append (qR 32 (qB 0)) (List.append [qF,(qI 0)] (List.append (qR 32 (qB 0)) (List.append [qF,(qI 0)] (List.append (qR 32 (qB 0)) (List.append [qF,(qI 0)] (List.append (qR 32 (qB 0)) (List.append [qF,(qI 0)] (List.append (qR 32 (qB 0)) ([(.slice none 0 0),(qL 1594 0 2 38)]))))))))))))))))))))))))))))))))))))),
 .cells ([(qP 59 0),(qL 2197 0 373 1),(qI 8),qF,(qI 0),qF]),
 .cells ([(qS [])]),
 .cells ([(qP 60 0),(qP 58 0),(qP 59 0),(qS []),(.slice none 0 0),(qI 50),qF,qF,qF]),
 .cells ([(qW 1),(qP 61 0)]),
 .cells ([(qI 1),(qI 1),(qI 0),(qU 0),(qB 1),(qI 0),(qI 3),(qI 0),(qI 0),(qU 5),(qB 1),(qI 9)]),
 .cells (List.append [(qI 4),(qW 1),(qU 0),(qU 0),(qB 1)] (List.append (qR 31 (qB 42)) (List.append [(qI 0),(qI 0),(qI 6),(qW 1),(qU 0),(qU 0)] (List.append (qBs [51,189,16,79,18,206,89,100,171,230,219,54,119,243,162,212,244,27,25,246,181,162,143,184,242,175,145,202,18,125,253,222]) ([(qI 0),(qI 2)]))))),
 .cells (List.append [(qI 6),(qW 1),(qU 0),(qU 0)] (List.append (qBs [242,67,149,245,172,249,31,184,171,237,183,206,22,135,32,197,92,93,135,180,162,85,52,133,25,102,4,2,201,105,177,109]) ([(qI 0),(qI 2)]))),
 .cells (List.append (qR 9 (qB 0)) (List.append (qBs [58,6,3,0,0,0,1]) (List.append (qR 15 (qB 0)) (List.append (qBs [5,239,154,117,76,182,13,101,253,115,74,12,183,155,70,50,173,187,218,68,13,162,95,243,165,62,196,190,4,32,158,42,225,0,0,0,9,133,247,113,158]) (List.append (qR 7 (qB 0)) (List.append (qBs [1,0,40,6,6,0,0,0,1,0,1,179,164,227,75,35,65,203,61,71,156,187,235,91,21,100,187,210,202,73,147,111,15,75,78,202,14,204,227,177,184,17,253,112,237,130,50]) (List.append (qR 7 (qB 0)) (List.append (qBs [2,0,1,4,172,18,42]) (List.append (qR 8 (qB 0)) (List.append (qBs [3,0,40,6,7,0,0,0,1,0,0,88,177,229,223,227,52,172,193,3,186,251,107,25,88,154,96,116,105,249,213,16,24,213,192,32,212,148,191,95,13,19,83,250,163,103,203]) (List.append (qR 7 (qB 0)) (List.append (qBs [4,0,41,2]) (List.append (qR 8 (qB 0)) (List.append [(qB 1)] (List.append (qR 31 (qB 42)) (List.append (qBs [129,155,48,193]) (List.append (qR 7 (qB 0)) (List.append (qBs [5,0,1,4,42,140,225,47]) (List.append (qR 7 (qB 0)) (List.append (qBs [6,0,40,6,7,0,0,0,1,0,1,83,30,15,189,160,53,17,158,82,23,52,207,62,182,203,162,169,82,40,138,90,5,130,174,53,157,247,47,248,199,135,196,170,227,190,190]) (List.append (qR 7 (qB 0)) ((qBs [7,0,40,6,6,0,0,0,1,0,2,242,67,149,245,172,249,31,184,171,237,183,206,22,135,32,197,92,93,135,180,162,85,52,133,25,102,4,2,201,105,177,109,252,219,80,59]))))))))))))))))))))))),
 .cells (List.append (qR 9 (qB 0)) (List.append [(qB 45),(qB 1)] (List.append (qR 7 (qB 0)) (List.append (qBs [5,239,154,117,76,182,13,101,253,115,74,12,183,155,70,50,173,187,218,68,13,162,95,243,165,62,196,190,4,32,158,42,225,0,0,0,9,155,194,208,229]) (List.append (qR 7 (qB 0)) (List.append (qBs [1,0,1,4,155,93,30,123]) (List.append (qR 7 (qB 0)) (List.append (qBs [2,0,40,6,7,0,0,0,1,0,0,230,106,86,196,60,149,167,152,57,89,193,180,173,201,35,48,79,114,18,75,202,70,226,219,211,48,13,184,236,180,38,85,227,185,33,212]) (List.append (qR 7 (qB 0)) (List.append (qBs [3,0,40,6,6,0,0,0,1,0,1,43,255,198,219,209,208,197,135,241,106,171,108,30,15,208,185,55,36,233,142,109,131,186,10,237,236,30,8,70,78,212,139,177,212,146,113]) (List.append (qR 7 (qB 0)) (List.append (qBs [4,0,46,6,4,0,0,0,1]) (List.append (qR 8 (qB 0)) (List.append [(qB 1)] (List.append (qR 31 (qB 42)) (List.append (qBs [4,40,133,212]) (List.append (qR 7 (qB 0)) (List.append (qBs [5,0,40,6,6,0,0,0,1,0,2,51,189,16,79,18,206,89,100,171,230,219,54,119,243,162,212,244,27,25,246,181,162,143,184,242,175,145,202,18,125,253,222,207,167,73,192]) (List.append (qR 7 (qB 0)) (List.append (qBs [6,0,1,4,95,102,133,224]) (List.append (qR 7 (qB 0)) ((qBs [7,0,40,6,7,0,0,0,1,0,1,147,50,44,176,234,50,226,88,96,179,197,238,29,86,108,206,57,247,68,183,147,29,139,154,246,211,17,85,87,171,249,169,173,132,107,124]))))))))))))))))))))))),
 .cells ([(qI 0),(qI 0)])]
theorem lk_50:ltH kp_50=true:=by kernel_rfl
theorem run_50:snapC 29 kp_50 (iterF fL 10 (mkT vs_40) (mkH kp_40 bs_40) 2735)=.ok vs_50 bs_50 2893:=by kernel_rfl
noncomputable def vs_60:List Value:=[(qP 17 0),(qI 60),(.tuple ⟨[]⟩),(.tuple ⟨[]⟩),(qI 0),(qI 0),(qI 5),(qI 0),(qI 60),(qI 60),(qI 60),qT,(qP 17 0),(qI 6),(qI 6),qF,(qI 5),(qP 17 0),(qI 5),(qI 0),(qI 0),qT,(qI 0),(qI 0),(qL 3076 0 2 1),(qI 0),(qI 6),(qI 60),(.tuple ⟨[]⟩)]
noncomputable def kp_60:List Nat:=[16,17,18,19,20,21,22,23,24,25,26,29,30,31,32,33,34,35,36,37,39,46,47,48,49,51,58,59,60,61,63,84,1594,1992,2197,2281,3076]
noncomputable def bs_60:List Blk:=[.cells ([(qS []),(qS [])]),
 .cells ([(qL 39 0 2 1),(qL 16 0 1 2),(qL 84 0 2 6)]),
 .map [],
 .map [],
 .cells ([(qU 0),(qU 0),(.map (some 18)),(.map (some 19))]),
 .map [],
 .map [((.agg ⟨(qBs [239,154,117,76,182,13,101,253,115,74,12,183,155,70,50,173,187,218,68,13,162,95,243,165,62,196,190,4,32,158,42,225])⟩),(.agg ⟨List.append [(qB 1)] ((qR 31 (qB 42)))⟩))],
 .map [],
 .map [((.agg ⟨[(qI 0),(qU 0)]⟩),(.agg ⟨List.append [(qI 2),(qB 1)] ((qR 31 (qB 42)))⟩))],
 .cells ([(qP 20 0),(qL 51 0 1 2),(.map (some 21)),(.map (some 22)),(.map (some 23)),(.map (some 24)),qF]),
 .cells (List.append [(qP 25 0),(qU 150)] ((qR 17 qF))),
 .map [],
 .map [],
 .cells ([(qU 0),(qU 0),(.map (some 29)),(.map (some 30))]),
 .map [((.agg ⟨(qBs [239,154,117,76,182,13,101,253,115,74,12,183,155,70,50,173,187,218,68,13,162,95,243,165,62,196,190,4,32,158,42,225])⟩),(.agg ⟨List.append [(qB 1)] ((qR 31 (qB 42)))⟩))],
 .map [],
 .map [],
 .map [],
 .cells ([(qP 31 0),(qL 63 0 1 2),(.map (some 32)),(.map (some 33)),(.map (some 34)),(.map (some 35)),qF]),
 .cells (List.append [(qP 36 0),(qU 150)] ((qR 17 qF))),
 .cells ([(qP 26 0),(qP 37 0)]),
 .cells (List.append [(qW 1),(qU 100),(qU 50),(qB 0),(qB 1)] (List.append (qR 30 (qB 0)) (List.append [(qS [108,101,102,116]),(qS [114,105,103,104,116]),(qI 2),(qI 2),qF,(qU 1),(qU 0),qF,qF,qF,(qU 45),(qU 55),(.slice none 0 0),qT,(qI 65535)] (List.append (qBs [230,106,86,196,60,149,167,152,57,89,193,180,173,201,35,48,79,114,18,75,202,70,226,219,211,48,13,184,236,180,38,85]) (List.append [qT,(qI 65534)] (List.append (qBs [147,50,44,176,234,50,226,88,96,179,197,238,29,86,108,206,57,247,68,183,147,29,139,154,246,211,17,85,87,171,249,169]) (List.append [qF,(qI 0)] (List.append (qR 32 (qB 0)) (List.append [qF,(qI 0)] (List.append (qR 32 (qB 0)) (List.append [qF,(qI 0)] (List.append (qR 32 (qB 0)) (List.append [qF,(qI 0)] (List.append (qR 32 (qB 0)) (List.append [qF,(qI 0)] (List.append (qR 32 (qB 0)) (List.append [qF,(qI 0)] (List.append (qR 32 (qB 0)) (List.append [qF,(qI 0)] (List.append (qR 32 (qB 0)) (List.append [qF,(qI 0)] (List.append (qR 32 (qB 0)) (List.append [qF,(qI 0)] (List.append (qR 32 (qB 0)) (List.append [qF,(qI 0)] (List.append (qR 32 (qB 0)) (List.append [qF,(qI 0)] (List.append (qR 32 (qB 0)) (List.append [qF,(qI 0)] (List.append (qR 32 (qB 0)) (List.append [qF,(qI 0)] (List.append (qR 32 (qB 0)) (List.append [qF,(qI 0)] (List.append (qR 32 (qB 0)) (List.append [qF,(qI 0)] (List.append (qR 32 (qB 0)) ([(.slice none 0 0),(qL 1992 0 1 38)]))))))))))))))))))))))))))))))))))))),
 .cells ([(qP 47 0),(qL 2281 0 365 1),(qI 8),qF,(qI 0),qF]),
 .cells ([(qS [])]),
 .cells ([(qP 48 0),(qP 46 0),(qP 47 0),(qS []),(.slice none 0 0),(qI 60),qF,qF,qF]),
 .cells ([(qW 1),(qP 49 0)]),
 .cells (List.append [(qW 1),(qU 100),(qU 50),(qB 0),(qB 2)] (List.append (qR 30 (qB 0)) (List.append [(qS [114,105,103,104,116]),(qS [108,101,102,116]),(qI 2),(qI 2),qF,(qU 0),(qU 1),qF,qF,qT,(qU 55),(qU 45),(.slice none 0 0),qT,(qI 65535)] (List.append (qBs [88,177,229,223,227,52,172,193,3,186,251,107,25,88,154,96,116,105,249,213,16,24,213,192,32,212,148,191,95,13,19,83]) (List.append [qT,(qI 65534)] (List.append (qBs [83,30,15,189,160,53,17,158,82,23,52,207,62,182,203,162,169,82,40,138,90,5,130,174,53,157,247,47,248,199,135,196]) (List.append [qF,(qI 0)] (List.append (qR 32 (qB 0)) (List.append [qF,(qI 0)] (List.append (qR 32 (qB 0)) (List.append [qF,(qI 0)] (List.append (qR 32 (qB 0)) (List.append [qF,(qI 0)] (List.append (qR 32 (qB 0)) (List.append [qF,(qI 0)] (List.append (qR 32 (qB 0)) (List.append [qF,(qI 0)] (List.append (qR 32 (qB 0)) (List.append [qF,(qI 0)] (List.append (qR 32 (qB 0)) (List.append [qF,(qI 0)] (List.append (qR 32 (qB 0)) (List.append [qF,(qI 0)] (List.append (qR 32 (qB 0)) (List.append [qF,(qI 0)] (List.append (qR 32 (qB 0)) (List.append [qF,(qI 0)] (List.append (qR 32 (qB 0)) (List.append [qF,(qI 0)] (List.append (qR 32 (qB 0)) (List.append [qF,(qI 0)] (List.append (qR 32 (qB 0)) (List.append [qF,(qI 0)] (List.append (qR 32 (qB 0)) (List.append [qF,(qI 0)] (List.append (qR 32 (qB 0)) ([(.slice none 0 0),(qL 1594 0 2 38)]))))))))))))))))))))))))))))))))))))),
 .cells ([(qP 59 0),(qL 2197 0 373 1),(qI 8),qF,(qI 0),qF]),
 .cells ([(qS [])]),
 .cells ([(qP 60 0),(qP 58 0),(qP 59 0),(qS []),(.slice none 0 0),(qI 60),qF,qF,qF]),
 .cells ([(qW 1),(qP 61 0)]),
 .cells ([(qI 1),(qI 1),(qI 0),(qU 0),(qB 1),(qI 0),(qI 3),(qI 0),(qI 0),(qU 5),(qB 1),(qI 9)]),
 .cells (List.append [(qI 4),(qW 1),(qU 0),(qU 0),(qB 1)] (List.append (qR 31 (qB 42)) (List.append [(qI 0),(qI 0),(qI 6),(qW 1),(qU 0),(qU 0)] (List.append (qBs [51,189,16,79,18,206,89,100,171,230,219,54,119,243,162,212,244,27,25,246,181,162,143,184,242,175,145,202,18,125,253,222]) ([(qI 0),(qI 2)]))))),
 .cells (List.append [(qI 6),(qW 1),(qU 0),(qU 0)] (List.append (qBs [242,67,149,245,172,249,31,184,171,237,183,206,22,135,32,197,92,93,135,180,162,85,52,133,25,102,4,2,201,105,177,109]) ([(qI 0),(qI 2)]))),
 .cells (List.append (qR 9 (qB 0)) (List.append (qBs [58,6,3,0,0,0,1]) (List.append (qR 15 (qB 0)) (List.append (qBs [5,239,154,117,76,182,13,101,253,115,74,12,183,155,70,50,173,187,218,68,13,162,95,243,165,62,196,190,4,32,158,42,225,0,0,0,9,133,247,113,158]) (List.append (qR 7 (qB 0)) (List.append (qBs [1,0,40,6,6,0,0,0,1,0,1,179,164,227,75,35,65,203,61,71,156,187,235,91,21,100,187,210,202,73,147,111,15,75,78,202,14,204,227,177,184,17,253,112,237,130,50]) (List.append (qR 7 (qB 0)) (List.append (qBs [2,0,1,4,172,18,42]) (List.append (qR 8 (qB 0)) (List.append (qBs [3,0,40,6,7,0,0,0,1,0,0,88,177,229,223,227,52,172,193,3,186,251,107,25,88,154,96,116,105,249,213,16,24,213,192,32,212,148,191,95,13,19,83,250,163,103,203]) (List.append (qR 7 (qB 0)) (List.append (qBs [4,0,41,2]) (List.append (qR 8 (qB 0)) (List.append [(qB 1)] (List.append (qR 31 (qB 42)) (List.append (qBs [129,155,48,193]) (List.append (qR 7 (qB 0)) (List.append (qBs [5,0,1,4,42,140,225,47]) (List.append (qR 7 (qB 0)) (List.append (qBs [6,0,40,6,7,0,0,0,1,0,1,83,30,15,189,160,53,17,158,82,23,52,207,62,182,203,162,169,82,40,138,90,5,130,174,53,157,247,47,248,199,135,196,170,227,190,190]) (List.append (qR 7 (qB 0)) ((qBs [7,0,40,6,6,0,0,0,1,0,2,242,67,149,245,172,249,31,184,171,237,183,206,22,135,32,197,92,93,135,180,162,85,52,133,25,102,4,2,201,105,177,109,252,219,80,59]))))))))))))))))))))))),
 .cells (List.append (qR 9 (qB 0)) (List.append [(qB 45),(qB 1)] (List.append (qR 7 (qB 0)) (List.append (qBs [5,239,154,117,76,182,13,101,253,115,74,12,183,155,70,50,173,187,218,68,13,162,95,243,165,62,196,190,4,32,158,42,225,0,0,0,9,155,194,208,229]) (List.append (qR 7 (qB 0)) (List.append (qBs [1,0,1,4,155,93,30,123]) (List.append (qR 7 (qB 0)) (List.append (qBs [2,0,40,6,7,0,0,0,1,0,0,230,106,86,196,60,149,167,152,57,89,193,180,173,201,35,48,79,114,18,75,202,70,226,219,211,48,13,184,236,180,38,85,227,185,33,212]) (List.append (qR 7 (qB 0)) (List.append (qBs [3,0,40,6,6,0,0,0,1,0,1,43,255,198,219,209,208,197,135,241,106,171,108,30,15,208,185,55,36,233,142,109,131,186,10,237,236,30,8,70,78,212,139,177,212,146,113]) (List.append (qR 7 (qB 0)) (List.append (qBs [4,0,46,6,4,0,0,0,1]) (List.append (qR 8 (qB 0)) (List.append [(qB 1)] (List.append (qR 31 (qB 42)) (List.append (qBs [4,40,133,212]) (List.append (qR 7 (qB 0)) (List.append (qBs [5,0,40,6,6,0,0,0,1,0,2,51,189,16,79,18,206,89,100,171,230,219,54,119,243,162,212,244,27,25,246,181,162,143,184,242,175,145,202,18,125,253,222,207,167,73,192]) (List.append (qR 7 (qB 0)) (List.append (qBs [6,0,1,4,95,102,133,224]) (List.append (qR 7 (qB 0)) ((qBs [7,0,40,6,7,0,0,0,1,0,1,147,50,44,176,234,50,226,88,96,179,197,238,29,86,108,206,57,247,68,183,147,29,139,154,246,211,17,85,87,171,249,169,173,132,107,124]))))))))))))))))))))))),
 .cells ([(qI 0),(qI 0)])]
theorem lk_60:ltH kp_60=true:=by kernel_rfl
theorem run_60:snapC 29 kp_60 (iterF fL 10 (mkT vs_50) (mkH kp_50 bs_50) 2893)=.ok vs_60 bs_60 3077:=by kernel_rfl
end SX
namespace SX
open Go Go.RowKit
set_option linter.unusedVariables false
set_option maxRecDepth 1000000
noncomputable def tmOf (r:SX.CX):Sl:=match r with | .ok _ tm _ _=>tm | .bad _=>.nil
noncomputable def hOf (r:SX.CX):Hp:=match r with | .ok _ _ h _=>h | .bad _=>.nil
noncomputable def nxOf (r:SX.CX):Nat:=match r with | .ok _ _ _ n=>n | .bad _=>0
noncomputable def isX (i:Nat) (r:SX.CX):Bool:=match r with | .ok (.exit j) _ _ _=>Nat.beq j i | _=>false
noncomputable def isRt (r:SX.CX):Bool:=match r with | .ok .ret _ _ _=>true | _=>false
theorem isX_eq {i:Nat} {r:SX.CX} (h:isX i r=true):r=.ok (.exit i) (tmOf r) (hOf r) (nxOf r):=by
 unfold isX at h
 split at h
 · rw [Nat.eq_of_beq_eq_true h];rfl
 · cases h
theorem isRt_eq {r:SX.CX} (h:isRt r=true):r=.ok .ret (tmOf r) (hOf r) (nxOf r):=by
 unfold isRt at h
 split at h
 · rfl
 · cases h
section
variable {C:Cfg} {σ:Sig} {n:Nat} {ρ:Rho} {h:Hp} {nx nx2:Nat} {w:World} {keep:List Nat} {bs:List Blk} {vs:List Value}
theorem seq3_snap {a b c blk Z:Code} {fa fb fc:KX} (ha:Does C σ n a fa) (hb:Does C σ n b fb) (hc:Does C σ n c fc) {Q:Exit→Act→World→Prop} {tm:Sl} {act:Act} (hk:ltH keep=true) (e:snapC n keep (seqR fc (seqR fb (fa tm h nx)))=.ok vs bs nx2) (R:TmR σ ρ n tm act) (s:Sim σ C.E.gl ρ h nx w)
 (hQ:NextK C σ ρ n h nx w (mkT vs) (mkH keep bs) nx2 (blk.wp C.E.P (Exit.then (Z.wp C.E.P Q) Q))):(Code.seq a (.seq b (.seq (.seq c blk) Z))).wp C.E.P Q act w:=by
 obtain ⟨tm0,h0,e0,e1,rfl⟩:=snapC_some e
 obtain ⟨tmb,hb',nxb,eb,ec⟩:=seqR_normal e0
 obtain ⟨tma,ha',nxa,ea,eb⟩:=seqR_normal eb
 refine wp_seq (ha _ ρ tm h nx act w _ _ _ _ ea R s ?_)
 intro ρ1 a1 w1 R1 s1 x1
 refine wp_seq (hb _ ρ1 tma ha' nxa a1 w1 _ _ _ _ eb R1 s1 ?_)
 intro ρ2 a2 w2 R2 s2 x2
 refine wp_seq (wp_seq (hc _ ρ2 tmb hb' nxb a2 w2 _ _ _ _ ec R2 s2 ?_))
 intro ρ3 a3 w3 R3 s3 x3
 obtain ⟨s4,x4⟩:=s3.less (h':=mkH keep bs) (pickB_mk keep h0 bs (ltH_mem hk) e1)
 exact hQ ρ3 a3 w3 R3.vals s4 (((x1.trans x2).trans x3).trans x4)
end
theorem run_0:snapC 29 kp_0 (seqR (codeF C1 cl1 1000 c19c) (seqR (codeF C1 cl1 1000 c19b) (codeF C1 cl1 1000 c19a (argsF [qP 17 0,qI 60] 0 .nil) (mkH kpC bsC) 177)))=.ok vs_0 bs_0 177:=by kernel_rfl
noncomputable def rE:SX.CX:=loopF fL 100 (mkT vs_60) (mkH kp_60 bs_60) 3077
noncomputable def rZ:SX.CX:=codeF C1 cl1 1000 c19z (tmOf rE) (hOf rE) (nxOf rE)
theorem endE:isX 0 rE=true:=by kernel_rfl
theorem endZ:isRt rZ=true:=by kernel_rfl
theorem endR:resL C1 (tmOf rZ) (hOf rZ) Tryz.f19.results.toList=some [qI 0]:=by kernel_rfl
theorem endH:pickB (hOf rZ) kp_60=some bs_60:=by kernel_rfl
theorem endN:nxOf rZ=3077:=by kernel_rfl
theorem res19:Tryz.f19.results.toList.all resOk=true:=by kernel_rfl
theorem rounds_ok {σ:Sig} {ρ:Rho} {w:World} (s:Sim σ C1.E.gl ρ (mkH kpC bsC) 177 w) {v':Value} (hv:VR σ ρ (qP 17 0) v') :
 Calls C1.E.P 19 #[v',.int .i64 60] w fun e w'=>∃ u,e=.returned u∧Did C1.E σ ρ (mkH kpC bsC) 177 w (qI 0) (mkH kp_60 bs_60) 3077 u w':=by
 have hcl:=cl1_ok σ
 have dz:∀ {c:Code},codeOk C1.E 29 c=true→Does C1 σ 29 c (codeF C1 cl1 1000 c):=fun {c} hc=>codeF_ok (m:=1000) cfg1 hcl c hc
 have hL:Does C1 σ 29 c19l fL:=dz ok19l
 refine calls_of_wp Tryz.func19 body19 ?_
 have hva:VL σ ρ [qP 17 0,qI 60] (#[v',Value.int .i64 60]:Array Value).toList:=VL.cons hv (VL.cons (VR.int .i64 60) VL.nil)
 have R0:=TmR.start (n:=29) hva (by decide) (by decide)
 refine seq3_snap (dz ok19a) (dz ok19b) (dz ok19c) lk_0 run_0 R0 s ?_
 intro ρ0 a0 w0 R0 s0 x0
 refine wp_block (loopW_wp ?_)
 refine loop_snap hL lk_1 run_1 R0 s0 ?_
 intro ρ1 a1 w1 R1 s1 x1
 refine loop_snap hL lk_2 run_2 R1 s1 ?_
 intro ρ2 a2 w2 R2 s2 x2
 refine loop_snap hL lk_3 run_3 R2 s2 ?_
 intro ρ3 a3 w3 R3 s3 x3
 refine loop_snap hL lk_6 run_6 R3 s3 ?_
 intro ρ6 a6 w6 R6 s6 x6
 refine loop_snap hL lk_9 run_9 R6 s6 ?_
 intro ρ9 a9 w9 R9 s9 x9
 refine loop_snap hL lk_12 run_12 R9 s9 ?_
 intro ρ12 a12 w12 R12 s12 x12
 refine loop_snap hL lk_15 run_15 R12 s12 ?_
 intro ρ15 a15 w15 R15 s15 x15
 refine loop_snap hL lk_20 run_20 R15 s15 ?_
 intro ρ20 a20 w20 R20 s20 x20
 refine loop_snap hL lk_30 run_30 R20 s20 ?_
 intro ρ30 a30 w30 R30 s30 x30
 refine loop_snap hL lk_40 run_40 R30 s30 ?_
 intro ρ40 a40 w40 R40 s40 x40
 refine loop_snap hL lk_50 run_50 R40 s40 ?_
 intro ρ50 a50 w50 R50 s50 x50
 refine loop_snap hL lk_60 run_60 R50 s50 ?_
 intro ρ60 a60 w60 R60 s60 x60
 have xAll:=((((((((((((x0.trans x1).trans x2).trans x3).trans x6).trans x9).trans x12).trans x15).trans x20).trans x30).trans x40).trans x50).trans x60)
 refine loop_ok hL 100 _ _ _ _ _ _ (isX_eq endE) R60 s60 ?_
 intro ρE aE wE RE sE xE
 have key:c19z.wp C1.E.P (bodyPost C1.E.P Tryz.f19 (fun e w'=>∃ u,e=.returned u∧Did C1.E σ ρ (mkH kpC bsC) 177 w (qI 0) (mkH kp_60 bs_60) 3077 u w')) aE wE:=by
  refine dz ok19z _ _ _ _ _ _ _ _ _ _ _ (isRt_eq endZ) RE sE ?_
  intro ρZ aZ wZ RZ sZ xZ
  obtain ⟨u,hr,hvr⟩:=results_ok cfg1 RZ sZ res19 endR
  obtain ⟨s4,x4⟩:=sZ.less (h':=mkH kp_60 bs_60) (pickB_mk kp_60 (hOf rZ) bs_60 (ltH_mem lk_60) endH)
  have hx:=(xAll.trans (xE.trans xZ)).trans x4
  have e3:nxOf (codeF C1 cl1 1000 c19z (tmOf rE) (hOf rE) (nxOf rE))=3077:=endN
  have q:bodyPost C1.E.P Tryz.f19 (fun e w'=>∃ u,e=.returned u∧Did C1.E σ ρ (mkH kpC bsC) 177 w (qI 0) (mkH kp_60 bs_60) 3077 u w') (exOf .ret) aZ wZ=(aZ.defers=[]∧∃ v,(results Tryz.f19 aZ.tmps).run C1.E.P wZ=.ok v wZ∧∃ u,(Ending.returned v)=.returned u∧Did C1.E σ ρ (mkH kpC bsC) 177 w (qI 0) (mkH kp_60 bs_60) 3077 u wZ):=rfl
  rw [q]
  rw [e3] at s4 hx
  exact ⟨RZ.dfs,u,hr,u,rfl,ρZ,hvr,s4,hx⟩
 exact key
end SX
namespace SX
open Go Go.RowKit
set_option linter.unusedVariables false
set_option maxRecDepth 1000000
theorem runS:snapR [] (cl1 18 [qP 17 0,rq3] (mkH kp_60 bs_60) 3077)=.ok (.agg ⟨[qI 0,qU 2,.slice none 0 0]⟩) [] 3088:=by kernel_rfl
def sig0:Sig:=⟨0,by decide⟩
theorem vl_ask {ρ:Rho} {x x' y:Value} (hx:VR sig0 ρ x x') (hy:flat y=true):VL sig0 ρ [x,y] (#[x',y]:Array Value).toList:=VL.cons hx (VL.cons (flat_refl hy) VL.nil)
theorem fl1:flat rq1=true:=by kernel_rfl
theorem fl2:flat rq2=true:=by kernel_rfl
theorem fl3:flat rq3=true:=by kernel_rfl
theorem fl0:flat an0=true:=by kernel_rfl
theorem fl4:flat (.agg ⟨[qI 0,qU 2,.slice none 0 0]⟩)=true:=by kernel_rfl
set_option maxHeartbeats 4000000 in
theorem shown_any (w:World) (g:Glb w):Calls Tryz.prog 17 #[] w fun e w'=>e=.returned (.bool true)∧Below w.heap.size w w':=by
 have c1:Calls Tryz.prog 86 #[.int .i64 2,.int .u64 100,.int .u64 0,.int .u64 0] w fun e w'=>∃ v',e=.returned v'∧Did C1.E sig0 rho0 .nil 16 w (qP 17 0) (mkH kpA bsA) 64 v' w':=
  call_snap (cl1_ok sig0) lkA runA (sim0 g sig0) (VL.cons (VR.int .i64 2) (VL.cons (VR.int .u64 100) (VL.cons (VR.int .u64 0) (VL.cons (VR.int .u64 0) VL.nil))))
 have c2:∀ (ρ:Rho) (v:World) (x:Value),Sim sig0 C1.E.gl ρ (mkH kpA bsA) 64 v→VR sig0 ρ (qP 17 0) x→Calls Tryz.prog 18 #[x,.agg #[.int .i64 1,.int .i64 1,.int .i64 0,.int .u64 0,.int .u8 1,.int .i64 0]] v fun e w'=>∃ v',e=.returned v'∧Did C1.E sig0 ρ (mkH kpA bsA) 64 v an0 (mkH kpB bsB) 81 v' w':=
  fun ρ v x s hx=>call_snap (cl1_ok sig0) lkB runB s (vl_ask hx fl1)
 have c3:∀ (ρ:Rho) (v:World) (x:Value),Sim sig0 C1.E.gl ρ (mkH kpB bsB) 81 v→VR sig0 ρ (qP 17 0) x→Calls Tryz.prog 18 #[x,.agg #[.int .i64 3,.int .i64 0,.int .i64 0,.int .u64 5,.int .u8 1,.int .i64 9]] v fun e w'=>∃ v',e=.returned v'∧Did C1.E sig0 ρ (mkH kpB bsB) 81 v an0 (mkH kpC bsC) 177 v' w':=
  fun ρ v x s hx=>call_snap (cl1_ok sig0) lkC runC s (vl_ask hx fl2)
 have c4:∀ (ρ:Rho) (v:World) (x:Value),Sim sig0 C1.E.gl ρ (mkH kpC bsC) 177 v→VR sig0 ρ (qP 17 0) x→Calls Tryz.prog 19 #[x,.int .i64 60] v fun e w'=>∃ u,e=.returned u∧Did C1.E sig0 ρ (mkH kpC bsC) 177 v (qI 0) (mkH kp_60 bs_60) 3077 u w':=
  fun ρ v x s hx=>rounds_ok s hx
 have c5:∀ (ρ:Rho) (v:World) (x:Value),Sim sig0 C1.E.gl ρ (mkH kp_60 bs_60) 3077 v→VR sig0 ρ (qP 17 0) x→Calls Tryz.prog 18 #[x,.agg #[.int .i64 8,.int .i64 0,.int .i64 0,.int .u64 0,.int .u8 0,.int .i64 0]] v fun e w'=>∃ v',e=.returned v'∧Did C1.E sig0 ρ (mkH kp_60 bs_60) 3077 v (.agg ⟨[qI 0,qU 2,.slice none 0 0]⟩) (mkH [] []) 3088 v' w':=
  fun ρ v x s hx=>call_snap (cl1_ok sig0) rfl runS s (vl_ask hx fl3)
 have C1':=Lib.hid c1;have C2:=Lib.hid c2;have C3:=Lib.hid c3;have C4:=Lib.hid c4;have C5:=Lib.hid c5
 clear c1 c2 c3 c4 c5
 go_enter Tryz.func17,Tryz.ntmps17
 go_wp2_with fail
 refine (C1'.out).mono ?_
 rintro e w1 ⟨v1,rfl,ρ1,hv1,s1,x1⟩
 obtain ⟨p,hp,_,rfl⟩:=(show VR sig0 ρ1 (.pointer (some ⟨17,0,none⟩)) v1 from hv1).ptr_inv
 obtain ⟨b,hb⟩:∃ b,p.b=b:=⟨_,rfl⟩
 obtain ⟨o,ho⟩:∃ o,p.o+0=o:=⟨_,rfl⟩
 rw [hb,ho] at hv1 ⊢
 have V1:=Lib.hid hv1;have S1:=Lib.hid s1;have X1:=Lib.hid x1
 clear hv1 s1 x1 hp hb ho C1'
 go_wp2_with fail
 refine (C2.out _ _ _ S1.out V1.out).mono ?_
 rintro e w2 ⟨v2,rfl,ρ2,hv2,s2,x2⟩
 have V2:=Lib.hid (V1.out.mono x2.mono);have S2:=Lib.hid s2;have X2:=Lib.hid (X1.out.trans x2)
 obtain rfl:=flat_eq fl0 hv2
 clear hv2 s2 x2 C2 V1 S1 X1
 unfold an0 qI qU
 go_wp2_with fail
 refine (C3.out _ _ _ S2.out V2.out).mono ?_
 rintro e w3 ⟨v3,rfl,ρ3,hv3,s3,x3⟩
 have V3:=Lib.hid (V2.out.mono x3.mono);have S3:=Lib.hid s3;have X3:=Lib.hid (X2.out.trans x3)
 obtain rfl:=flat_eq fl0 hv3
 clear hv3 s3 x3 C3 V2 S2 X2
 rw [show an0=.agg #[.int .i64 0,.int .u64 0,.slice none 0 0] from rfl]
 go_wp2_with fail
 obtain ⟨m,hm⟩:∃ m,w3.heap.size=m:=⟨_,rfl⟩
 rw [hm]
 have b3:Below w3.heap.size w3 (w3.alloc (Obj.cells #[Value.int IntKind.i64 0,Value.int IntKind.u64 0,Value.slice none 0 0] 30)):=(Below.refl _ _).alloc (Nat.le_refl _) _
 have s3:=S3.out.below b3
 have x3:=X3.out.trans (Ext.below b3)
 have r3:M.RowAt (w3.alloc (Obj.cells #[Value.int IntKind.i64 0,Value.int IntKind.u64 0,Value.slice none 0 0] 30)) m 30 #[Value.int IntKind.i64 0,Value.int IntKind.u64 0,Value.slice none 0 0]:=hm▸M.RowAt.new w3 30 _
 have no3:¬ Own ρ3 (mkH kpC bsC) 177 m:=fun h=>by have:=S3.out.own_lt h;omega
 generalize w3.alloc (Obj.cells #[Value.int IntKind.i64 0,Value.int IntKind.u64 0,Value.slice none 0 0] 30)=y3 at *
 clear b3 S3 X3 hm
 refine (C4.out _ _ _ s3 V3.out).mono ?_
 rintro e w4 ⟨u,rfl,ρ4,hu,s4,x4⟩
 have r4:M.RowAt w4 m 30 #[Value.int IntKind.i64 0,Value.int IntKind.u64 0,Value.slice none 0 0]:=by
  unfold M.RowAt;rw [x4.block m r3.lt no3];exact r3
 have no4:¬ Own ρ4 (mkH kp_60 bs_60) 3077 m:=fun h=>by
  rcases x4.own m h with h | h
  · exact no3 h
  · have:=r3.lt;omega
 have V4:=Lib.hid (V3.out.mono x4.mono);have S4:=Lib.hid s4;have X4:=Lib.hid (x3.trans x4)
 obtain rfl:=VR.int_inv (show VR sig0 ρ4 (.int .i64 0) u from hu)
 have hc4:w4.cell? ⟨m,1,none⟩=some (.int .u64 0):=(r4.cell 1).trans rfl
 clear hu s4 x4 s3 x3 r3 no3 C4 V3
 go_wp2_with fail
 refine (C5.out _ _ _ S4.out V4.out).mono ?_
 rintro e w5 ⟨v5,rfl,ρ5,hv5,s5,x5⟩
 obtain rfl:=flat_eq fl4 hv5
 have r5:M.RowAt w5 m 30 #[Value.int IntKind.i64 0,Value.int IntKind.u64 0,Value.slice none 0 0]:=by
  unfold M.RowAt;rw [x5.block m r4.lt no4];exact r4
 have b5:=below_of (σ:=sig0) (X4.out.trans x5)
 rw [show (Value.agg ⟨[qI 0,qU 2,.slice none 0 0]⟩)=.agg #[.int .i64 0,.int .u64 2,.slice none 0 0] from rfl]
 clear hv5 s5 x5 X4 S4 V4 C5 hc4 r4 no4
 have r6:=r5.alloc (Obj.cells #[Value.int IntKind.i64 0,Value.int IntKind.u64 2,Value.slice none 0 0] 30)
 have hc6:(w5.alloc (Obj.cells #[Value.int IntKind.i64 0,Value.int IntKind.u64 2,Value.slice none 0 0] 30)).cell? ⟨m,0,none⟩=some (.int .i64 0):=(r6.cell 0).trans rfl
 have hc7:(w5.alloc (Obj.cells #[Value.int IntKind.i64 0,Value.int IntKind.u64 2,Value.slice none 0 0] 30)).cell? ⟨w5.heap.size,1,none⟩=some (.int .u64 2):=((M.RowAt.new w5 30 #[Value.int IntKind.i64 0,Value.int IntKind.u64 2,Value.slice none 0 0]).cell 1).trans rfl
 have B5:=Lib.hid (b5.alloc b5.size (Obj.cells #[Value.int IntKind.i64 0,Value.int IntKind.u64 2,Value.slice none 0 0] 30))
 clear r5 r6 b5
 go_wp2
 go_ret
 exact ⟨rfl,B5.out⟩
end SX
namespace SX
open Go Go.RowKit
set_option linter.unusedVariables false
set_option maxRecDepth 1000000
noncomputable def hB (k:Nat):List Value:=t3 k (qBs [207,146,193,153,238,145,254,40,250,116,128,59,3,52,14,205,142,238,207,249,183,102,225,61,166,176,253,78,238,250,245,29]) (qBs [239,154,117,76,182,13,101,253,115,74,12,183,155,70,50,173,187,218,68,13,162,95,243,165,62,196,190,4,32,158,42,225]) (qBs [78,206,73,239,224,102,55,47,173,173,34,16,185,164,195,101,168,47,215,180,1,172,206,65,139,229,47,15,92,135,209,20])
noncomputable def zL:SS:=⟨[],[16,17,18,19,20,21,22,23,24,25,26,29,30,31,32,33,34,35,36,37,40,41,42,43,44,45,46,47,48,51,52,53,54,55,56,57,58,59,61,68,69,70,71,73,80,81,82,83,93,94,95,96,98,105,106,107,108,118,119,120,121,123,130,131,132,133,135,219],[.cells ((qR 6 (qS []))),
 .cells ([(qL 61 0 4 1),(qL 16 0 3 2),(qL 219 0 6 6)]),
 .map [],
 .map [],
 .cells ([(qU 2),(qU 0),(.map (some 18)),(.map (some 19))]),
 .map [],
 .map [],
 .map [],
 .map [],
 .cells ([(qP 20 0),(qL 73 0 1 2),(.map (some 21)),(.map (some 22)),(.map (some 23)),(.map (some 24)),qF]),
 .cells (List.append [(qP 25 0),(qU 1572864)] (qR 17 qF)),
 .map [],
 .map [],
 .cells ([(qU 2),(qU 0),(.map (some 29)),(.map (some 30))]),
 .map [],
 .map [],
 .map [((.agg ⟨(qBs [207,146,193,153,238,145,254,40,250,116,128,59,3,52,14,205,142,238,207,249,183,102,225,61,166,176,253,78,238,250,245,29])⟩),(.agg ⟨[(qI 1),(qU 100),(qI 30)]⟩)),((.agg ⟨(qBs [239,154,117,76,182,13,101,253,115,74,12,183,155,70,50,173,187,218,68,13,162,95,243,165,62,196,190,4,32,158,42,225])⟩),(.agg ⟨[(qI 1),(qU 200),(qI 30)]⟩)),((.agg ⟨(qBs [78,206,73,239,224,102,55,47,173,173,34,16,185,164,195,101,168,47,215,180,1,172,206,65,139,229,47,15,92,135,209,20])⟩),(.agg ⟨[(qI 1),(qU 300),(qI 30)]⟩))],
 .map [],
 .cells ([(qP 31 0),(qL 98 0 2 2),(.map (some 32)),(.map (some 33)),(.map (some 34)),(.map (some 35)),qF]),
 .cells (List.append [(qP 36 0),(qU 1048576)] (qR 17 qF)),
 .map [],
 .map [],
 .cells ([(qU 2),(qU 0),(.map (some 40)),(.map (some 41))]),
 .map [],
 .map [],
 .map [((.agg ⟨(qBs [207,146,193,153,238,145,254,40,250,116,128,59,3,52,14,205,142,238,207,249,183,102,225,61,166,176,253,78,238,250,245,29])⟩),(.agg ⟨[(qI 1),(qU 98),(qI 20)]⟩)),((.agg ⟨(qBs [239,154,117,76,182,13,101,253,115,74,12,183,155,70,50,173,187,218,68,13,162,95,243,165,62,196,190,4,32,158,42,225])⟩),(.agg ⟨[(qI 1),(qU 198),(qI 20)]⟩)),((.agg ⟨(qBs [78,206,73,239,224,102,55,47,173,173,34,16,185,164,195,101,168,47,215,180,1,172,206,65,139,229,47,15,92,135,209,20])⟩),(.agg ⟨[(qI 1),(qU 298),(qI 20)]⟩))],
 .map [],
 .cells ([(qP 42 0),(qL 123 0 2 2),(.map (some 43)),(.map (some 44)),(.map (some 45)),(.map (some 46)),qF]),
 .cells (List.append [(qP 47 0),(qU 1048576)] (qR 17 qF)),
 .map [],
 .map [],
 .cells ([(qU 2),(qU 0),(.map (some 51)),(.map (some 52))]),
 .map [],
 .map [],
 .map [],
 .map [],
 .cells ([(qP 53 0),(qL 135 0 1 2),(.map (some 54)),(.map (some 55)),(.map (some 56)),(.map (some 57)),qF]),
 .cells (List.append [(qP 58 0),(qU 1572864)] (qR 17 qF)),
 .cells ([(qP 26 0),(qP 37 0),(qP 48 0),(qP 59 0)]),
 .cells (List.append [(qW 1),(qU 1048576),(qU 524288)] (List.append (qBs [0,1,0,0,0,0,0,0,0,0,0,0,0,0,0,0,0,0,0,0,0,0,0,0,0,0,0,0,0,0,0,0]) (List.append [(qS [108,101,102,116]),(qS [114,105,103,104,116]),(qI 0),(qI 0),qF,(qU 0),(qU 0),qF,qF,qF,(qU 524288),(qU 524288),(.slice none 0 0),qF,(qI 0)] (List.append (qR 32 (qB 0)) (List.append [qF,(qI 0)] (List.append (qR 32 (qB 0)) (List.append [qF,(qI 0)] (List.append (qR 32 (qB 0)) (List.append [qF,(qI 0)] (List.append (qR 32 (qB 0)) (List.append [qF,(qI 0)] (List.append (qR 32 (qB 0)) (List.append [qF,(qI 0)] (List.append (qR 32 (qB 0)) (List.append [qF,(qI 0)] (List.append (qR 32 (qB 0)) (List.append [qF,(qI 0)] (List.append (qR 32 (qB 0)) (List.append [qF,(qI 0)] (List.append (qR 32 (qB 0)) (List.append [qF,(qI 0)] (List.append (qR 32 (qB 0)) (List.append [qF,(qI 0)] (List.append (qR 32 (qB 0)) (List.append [qF,(qI 0)] (List.append (qR 32 (qB 0)) (List.append [qF,(qI 0)] (List.append (qR 32 (qB 0)) (List.append [qF,(qI 0)] (List.append (qR 32 (qB 0)) (List.append [qF,(qI 0)] (List.append (qR 32 (qB 0)) (List.append [qF,(qI 0)] (List.append (qR 32 (qB 0)) (List.append [qF,(qI 0)] (List.append (qR 32 (qB 0)) [(.slice none 0 0),(.slice none 0 0)])))))))))))))))))))))))))))))))))))),
 .cells ([(qN 293 69 6),(.slice none 0 0),(qI 0),qF,(qI 0),qF]),
 .cells ([(qS [])]),
 .cells ([(qP 70 0),(qP 68 0),(qP 69 0),(qS []),(.slice none 0 0),(qI 0),qF,qF,qF]),
 .cells ([(qW 1),(qP 71 0)]),
 .cells (List.append [(qW 1),(qU 1048576),(qU 524288)] (List.append (qBs [0,2,0,0,0,0,0,0,0,0,0,0,0,0,0,0,0,0,0,0,0,0,0,0,0,0,0,0,0,0,0,0]) (List.append [(qS [114,105,103,104,116]),(qS [108,101,102,116]),(qI 0),(qI 0),qF,(qU 0),(qU 0),qF,qF,qF,(qU 524288),(qU 524288),(.slice none 0 0),qF,(qI 0)] (List.append (qR 32 (qB 0)) (List.append [qF,(qI 0)] (List.append (qR 32 (qB 0)) (List.append [qF,(qI 0)] (List.append (qR 32 (qB 0)) (List.append [qF,(qI 0)] (List.append (qR 32 (qB 0)) (List.append [qF,(qI 0)] (List.append (qR 32 (qB 0)) (List.append [qF,(qI 0)] (List.append (qR 32 (qB 0)) (List.append [qF,(qI 0)] (List.append (qR 32 (qB 0)) (List.append [qF,(qI 0)] (List.append (qR 32 (qB 0)) (List.append [qF,(qI 0)] (List.append (qR 32 (qB 0)) (List.append [qF,(qI 0)] (List.append (qR 32 (qB 0)) (List.append [qF,(qI 0)] (List.append (qR 32 (qB 0)) (List.append [qF,(qI 0)] (List.append (qR 32 (qB 0)) (List.append [qF,(qI 0)] (List.append (qR 32 (qB 0)) (List.append [qF,(qI 0)] (List.append (qR 32 (qB 0)) (List.append [qF,(qI 0)] (List.append (qR 32 (qB 0)) (List.append [qF,(qI 0)] (List.append (qR 32 (qB 0)) (List.append [qF,(qI 0)] (List.append (qR 32 (qB 0)) [(.slice none 0 0),(.slice none 0 0)])))))))))))))))))))))))))))))))))))),
 .cells ([(qN 293 81 6),(.slice none 0 0),(qI 0),qF,(qI 0),qF]),
 .cells ([(qS [])]),
 .cells ([(qP 82 0),(qP 80 0),(qP 81 0),(qS []),(.slice none 0 0),(qI 0),qF,qF,qF]),
 .cells (List.append [(qW 2),(qU 1048576),(qU 524288)] (List.append (qBs [1,1,0,0,0,0,0,0,0,0,0,0,0,0,0,0,0,0,0,0,0,0,0,0,0,0,0,0,0,0,0,0]) (List.append [(qS [108,101,102,116]),(qS [114,105,103,104,116]),(qI 0),(qI 0),qF,(qU 0),(qU 0),qF,qF,qF,(qU 524288),(qU 524288),(.slice none 0 0),qF,(qI 0)] (List.append (qR 32 (qB 0)) (List.append [qF,(qI 0)] (List.append (qR 32 (qB 0)) (List.append [qF,(qI 0)] (List.append (qR 32 (qB 0)) (List.append [qF,(qI 0)] (List.append (qR 32 (qB 0)) (List.append [qF,(qI 0)] (List.append (qR 32 (qB 0)) (List.append [qF,(qI 0)] (List.append (qR 32 (qB 0)) (List.append [qF,(qI 0)] (List.append (qR 32 (qB 0)) (List.append [qF,(qI 0)] (List.append (qR 32 (qB 0)) (List.append [qF,(qI 0)] (List.append (qR 32 (qB 0)) (List.append [qF,(qI 0)] (List.append (qR 32 (qB 0)) (List.append [qF,(qI 0)] (List.append (qR 32 (qB 0)) (List.append [qF,(qI 0)] (List.append (qR 32 (qB 0)) (List.append [qF,(qI 0)] (List.append (qR 32 (qB 0)) (List.append [qF,(qI 0)] (List.append (qR 32 (qB 0)) (List.append [qF,(qI 0)] (List.append (qR 32 (qB 0)) (List.append [qF,(qI 0)] (List.append (qR 32 (qB 0)) (List.append [qF,(qI 0)] (List.append (qR 32 (qB 0)) [(.slice none 0 0),(.slice none 0 0)])))))))))))))))))))))))))))))))))))),
 .cells ([(qN 293 94 6),(.slice none 0 0),(qI 0),qF,(qI 0),qF]),
 .cells ([(qS [])]),
 .cells ([(qP 95 0),(qP 93 0),(qP 94 0),(qS []),(.slice none 0 0),(qI 0),qF,qF,qF]),
 .cells ([(qW 1),(qP 83 0),(qW 2),(qP 96 0)]),
 .cells (List.append [(qW 2),(qU 1048576),(qU 524288)] (List.append (qBs [1,2,0,0,0,0,0,0,0,0,0,0,0,0,0,0,0,0,0,0,0,0,0,0,0,0,0,0,0,0,0,0]) (List.append [(qS [114,105,103,104,116]),(qS [108,101,102,116]),(qI 0),(qI 0),qF,(qU 0),(qU 0),qF,qF,qF,(qU 524288),(qU 524288),(.slice none 0 0),qF,(qI 0)] (List.append (qR 32 (qB 0)) (List.append [qF,(qI 0)] (List.append (qR 32 (qB 0)) (List.append [qF,(qI 0)] (List.append (qR 32 (qB 0)) (List.append [qF,(qI 0)] (List.append (qR 32 (qB 0)) (List.append [qF,(qI 0)] (List.append (qR 32 (qB 0)) (List.append [qF,(qI 0)] (List.append (qR 32 (qB 0)) (List.append [qF,(qI 0)] (List.append (qR 32 (qB 0)) (List.append [qF,(qI 0)] (List.append (qR 32 (qB 0)) (List.append [qF,(qI 0)] (List.append (qR 32 (qB 0)) (List.append [qF,(qI 0)] (List.append (qR 32 (qB 0)) (List.append [qF,(qI 0)] (List.append (qR 32 (qB 0)) (List.append [qF,(qI 0)] (List.append (qR 32 (qB 0)) (List.append [qF,(qI 0)] (List.append (qR 32 (qB 0)) (List.append [qF,(qI 0)] (List.append (qR 32 (qB 0)) (List.append [qF,(qI 0)] (List.append (qR 32 (qB 0)) (List.append [qF,(qI 0)] (List.append (qR 32 (qB 0)) (List.append [qF,(qI 0)] (List.append (qR 32 (qB 0)) [(.slice none 0 0),(.slice none 0 0)])))))))))))))))))))))))))))))))))))),
 .cells ([(qN 293 106 6),(.slice none 0 0),(qI 0),qF,(qI 0),qF]),
 .cells ([(qS [])]),
 .cells ([(qP 107 0),(qP 105 0),(qP 106 0),(qS []),(.slice none 0 0),(qI 0),qF,qF,qF]),
 .cells (List.append [(qW 3),(qU 1048576),(qU 524288)] (List.append (qBs [2,1,0,0,0,0,0,0,0,0,0,0,0,0,0,0,0,0,0,0,0,0,0,0,0,0,0,0,0,0,0,0]) (List.append [(qS [108,101,102,116]),(qS [114,105,103,104,116]),(qI 0),(qI 0),qF,(qU 0),(qU 0),qF,qF,qF,(qU 524288),(qU 524288),(.slice none 0 0),qF,(qI 0)] (List.append (qR 32 (qB 0)) (List.append [qF,(qI 0)] (List.append (qR 32 (qB 0)) (List.append [qF,(qI 0)] (List.append (qR 32 (qB 0)) (List.append [qF,(qI 0)] (List.append (qR 32 (qB 0)) (List.append [qF,(qI 0)] (List.append (qR 32 (qB 0)) (List.append [qF,(qI 0)] (List.append (qR 32 (qB 0)) (List.append [qF,(qI 0)] (List.append (qR 32 (qB 0)) (List.append [qF,(qI 0)] (List.append (qR 32 (qB 0)) (List.append [qF,(qI 0)] (List.append (qR 32 (qB 0)) (List.append [qF,(qI 0)] (List.append (qR 32 (qB 0)) (List.append [qF,(qI 0)] (List.append (qR 32 (qB 0)) (List.append [qF,(qI 0)] (List.append (qR 32 (qB 0)) (List.append [qF,(qI 0)] (List.append (qR 32 (qB 0)) (List.append [qF,(qI 0)] (List.append (qR 32 (qB 0)) (List.append [qF,(qI 0)] (List.append (qR 32 (qB 0)) (List.append [qF,(qI 0)] (List.append (qR 32 (qB 0)) (List.append [qF,(qI 0)] (List.append (qR 32 (qB 0)) [(.slice none 0 0),(.slice none 0 0)])))))))))))))))))))))))))))))))))))),
 .cells ([(qN 293 119 6),(.slice none 0 0),(qI 0),qF,(qI 0),qF]),
 .cells ([(qS [])]),
 .cells ([(qP 120 0),(qP 118 0),(qP 119 0),(qS []),(.slice none 0 0),(qI 0),qF,qF,qF]),
 .cells ([(qW 2),(qP 108 0),(qW 3),(qP 121 0)]),
 .cells (List.append [(qW 3),(qU 1048576),(qU 524288)] (List.append (qBs [2,2,0,0,0,0,0,0,0,0,0,0,0,0,0,0,0,0,0,0,0,0,0,0,0,0,0,0,0,0,0,0]) (List.append [(qS [114,105,103,104,116]),(qS [108,101,102,116]),(qI 0),(qI 0),qF,(qU 0),(qU 0),qF,qF,qF,(qU 524288),(qU 524288),(.slice none 0 0),qF,(qI 0)] (List.append (qR 32 (qB 0)) (List.append [qF,(qI 0)] (List.append (qR 32 (qB 0)) (List.append [qF,(qI 0)] (List.append (qR 32 (qB 0)) (List.append [qF,(qI 0)] (List.append (qR 32 (qB 0)) (List.append [qF,(qI 0)] (List.append (qR 32 (qB 0)) (List.append [qF,(qI 0)] (List.append (qR 32 (qB 0)) (List.append [qF,(qI 0)] (List.append (qR 32 (qB 0)) (List.append [qF,(qI 0)] (List.append (qR 32 (qB 0)) (List.append [qF,(qI 0)] (List.append (qR 32 (qB 0)) (List.append [qF,(qI 0)] (List.append (qR 32 (qB 0)) (List.append [qF,(qI 0)] (List.append (qR 32 (qB 0)) (List.append [qF,(qI 0)] (List.append (qR 32 (qB 0)) (List.append [qF,(qI 0)] (List.append (qR 32 (qB 0)) (List.append [qF,(qI 0)] (List.append (qR 32 (qB 0)) (List.append [qF,(qI 0)] (List.append (qR 32 (qB 0)) (List.append [qF,(qI 0)] (List.append (qR 32 (qB 0)) (List.append [qF,(qI 0)] (List.append (qR 32 (qB 0)) [(.slice none 0 0),(.slice none 0 0)])))))))))))))))))))))))))))))))))))),
 .cells ([(qN 293 131 6),(.slice none 0 0),(qI 0),qF,(qI 0),qF]),
 .cells ([(qS [])]),
 .cells ([(qP 132 0),(qP 130 0),(qP 131 0),(qS []),(.slice none 0 0),(qI 0),qF,qF,qF]),
 .cells ([(qW 3),(qP 133 0)]),
 .cells ([(qI 2),(qI 1),(qI 1),(qU 100),(qB 0),(qI 30),(qI 2),(qI 2),(qI 1),(qU 98),(qB 0),(qI 20),(qI 2),(qI 1),(qI 1),(qU 200),(qB 1),(qI 30),(qI 2),(qI 2),(qI 1),(qU 198),(qB 1),(qI 20),(qI 2),(qI 1),(qI 1),(qU 300),(qB 2),(qI 30),(qI 2),(qI 2),(qI 1),(qU 298),(qB 2),(qI 20)])],232⟩
noncomputable def zLk (_:Nat):SS:=zL
theorem yL:okR qSm 18 zL (qP 17 0) (cl1 16 [] .nil 16)=true:=by kernel_rfl
noncomputable def zI (k:Nat):SS:=dif (zLk k) [] [16,17,18,19,20,21,22,23,24,25,26,29,30,31,32,33,34,35,36,37,40,41,42,43,44,45,46,47,48,51,52,53,54,55,56,57,58,59,61,68,69,70,71,73,80,81,82,83,93,94,95,96,98,105,106,107,108,118,119,120,121,123,130,131,132,133,135,235] [(17,cC [(2,(qL 235 0 7 6))]),
 (54,cN (.map [((.agg ⟨(hB k)⟩),(.agg ⟨List.append [(qB (ln k 0 1))] (qR 31 (qB 42))⟩))])),
 (235,cN (.cells ([(qI 2),(qI 1),(qI 1),(qU 100),(qB 0),(qI 30),(qI 2),(qI 2),(qI 1),(qU 98),(qB 0),(qI 20),(qI 2),(qI 1),(qI 1),(qU 200),(qB 1),(qI 30),(qI 2),(qI 2),(qI 1),(qU 198),(qB 1),(qI 20),(qI 2),(qI 1),(qI 1),(qU 300),(qB 2),(qI 30),(qI 2),(qI 2),(qI 1),(qU 298),(qB 2),(qI 20),(qI 1),(qI 3),(qI 0),(qU 0),(qB (ln k 0 1)),(qI 0)])))] 249
theorem yI0:okR qSm zL.nx (zI 0) anZ (cl1 18 [qP 17 0,rqI 0] (mkH zL.kp zL.bs) zL.nx)=true:=by kernel_rfl
theorem yI1:okR qSm zL.nx (zI 1) anZ (cl1 18 [qP 17 0,rqI 1] (mkH zL.kp zL.bs) zL.nx)=true:=by kernel_rfl
theorem yI2:okR qSm zL.nx (zI 2) anZ (cl1 18 [qP 17 0,rqI 2] (mkH zL.kp zL.bs) zL.nx)=true:=by kernel_rfl
end SX
end Go.Proofs.YtdebnbgjgkbmaaaGreatDoor
