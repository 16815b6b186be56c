import Derived.ArgAppend
import Derived.Below
import Derived.BigQuiet
import Derived.Calls
import Derived.ChangeKeysEq
import Derived.ChangeOld
import Derived.Deep.AppendLies
import Derived.Deep.AppendSrc
import Derived.Deep.DeepHandedRow
import Derived.Deep.LoopGhost
import Derived.Deep.MidRow
import Derived.Deep.Onto
import Derived.Deep.QuietTactic
import Derived.Deep.RegionHeld3
import Derived.Deep.RegionWith
import Derived.Deep.WholeRow
import Derived.DeepKeys
import Derived.DeepKeys3
import Derived.DeepKeys4
import Derived.Defers
import Derived.KernelRfl
import Derived.Laws.AppendOwn
import Derived.Laws.Bits64b
import Derived.Laws.BitsAllLaws
import Derived.Laws.BytesArg
import Derived.Laws.BytesString
import Derived.Laws.EntriesVeiled
import Derived.Laws.MakeOwn
import Derived.Laws.OwnMore
import Derived.Laws.Rows
import Derived.Laws.Tables
import Derived.Lib.BufferWrite
import Derived.Lib.Builder
import Derived.Lib.ConvBytes
import Derived.Lib.FrozenHead2
import Derived.Lib.Hide
import Derived.Lib.LaidTab
import Derived.Lib.SlFresh
import Derived.Lib.Strings
import Derived.Lib.TrailingZeros
import Derived.Lib.UnsafeStr
import Derived.LoopIn
import Derived.LoopNIn
import Derived.Maps.Keyed
import Derived.OpenShut
import Derived.Orders
import Derived.Outline
import Derived.OwnWalk
import Derived.OwnWalkIn
import Derived.ProofKit
import Derived.RangeFuncBound
import Derived.RangeFuncCalls
import Derived.RangeFuncFrom
import Derived.RangeFuncLeaves
import Derived.RangeFuncNested
import Derived.Recover
import Derived.Shelf.Abstract
import Derived.Shelf.RegionOpen
import Derived.Shelf.RegionOpenPlain
import Derived.Shelf.Spec.SlicesInsert
import Derived.Shelf.Strings.OnBuilder
import Derived.ShutString
import Derived.StillTailTactics
import Derived.TacticsInMore
import Derived.Test.YtdebnbgjgkbmaaaGreatDoorProg
import Derived.Test.YtdebnbgjgkbmaaaGreatDoorRows
import Derived.WalkKit
import Derived.WalkLawsBesides
import Derived.WalkSpells
import Derived.Test.YtdebnbgjgkbmaaaGreatDoorK3
namespace Go.Proofs.YtdebnbgjgkbmaaaGreatDoor.Wi
open Go.Proofs.YtdebnbgjgkbmaaaGreatDoor.Oc
open Go.RowKit Go.Shelf
set_option linter.unusedVariables false
structure B2 (b p:Nat) (W W':World):Prop where
 os:W'.os=W.os
 tape:W'.tape=W.tape
 output:W'.output=W.output
 size:W.heap.size≤W'.heap.size
 block:∀ k,k<W.heap.size→k≠b→k≠p→W'.heap[k]?=W.heap[k]?
theorem B2.refl (b p:Nat) (W:World):B2 b p W W:=⟨rfl,rfl,rfl,Nat.le_refl _,fun _ _ _ _=>rfl⟩
theorem B2.trans {b p:Nat} {W W' W'':World} (h:B2 b p W W') (h':B2 b p W' W''):B2 b p W W'':=
 ⟨h'.os.trans h.os,h'.tape.trans h.tape,h'.output.trans h.output,Nat.le_trans h.size h'.size,fun k hk h1 h2=>(h'.block k (Nat.lt_of_lt_of_le hk h.size) h1 h2).trans (h.block k hk h1 h2)⟩
theorem B2.of_p {b p:Nat} {W W':World} (h:M.But p W W'):B2 b p W W':=⟨h.os,h.tape,h.output,h.size,fun k hk _ h2=>h.block k hk h2⟩
theorem B2.of_b {b p:Nat} {W W':World} (h:M.But b W W'):B2 b p W W':=⟨h.os,h.tape,h.output,h.size,fun k hk h1 _=>h.block k hk h1⟩
theorem B2.row {b p k:Nat} {W W':World} {t:TypeId} {C:Array Value} (h:B2 b p W W') (hr:M.RowAt W k t C) (h1:k≠b) (h2:k≠p):M.RowAt W' k t C:=by
 have hl:=hr.lt
 unfold M.RowAt at *;rw [h.block k hl h1 h2];exact hr
theorem B2.below {b p n:Nat} {w W W':World} (h:B2 b p W W') (hb:Below n w W) (h1:n≤b) (h2:n≤p) (hn:n≤W.heap.size):Below n w W':=
 ⟨h.os.trans hb.os,h.tape.trans hb.tape,h.output.trans hb.output,Nat.le_trans hb.size h.size,fun k hk=>(h.block k (by omega) (by omega) (by omega)).trans (hb.block k hk)⟩
theorem B2.kp {b p lo:Nat} {W W':World} {tb tp:TypeId} {Db Dp:Array Value} (h:B2 b p W W') (hb:M.RowAt W b tb Db) (hp:M.RowAt W p tp Dp) (h1:okT tb=false) (h2:okT tp=false):Kp lo W W':=fun g t C hT _ hr=>by
 refine h.row hr (fun e=>?_) (fun e=>?_)
 · subst e
   have e2:=Option.some.inj (Eq.trans (Eq.symm hr) hb)
   have e3:t=tb:=by injection e2
   rw [e3,h1] at hT;cases hT
 · subst e
   have e2:=Option.some.inj (Eq.trans (Eq.symm hr) hp)
   have e3:t=tp:=by injection e2
   rw [e3,h2] at hT;cases hT
def DidR (b p:Nat) (R R':Array Value) (s':ByteArray) (er:Int) (W:World) (e:Ending) (W':World):Prop:=
 (er=0∧e=.returned (.tuple #[])∧M.RowAt W' b 59 R'∧M.RowAt W' p 228 #[.string s']∧B2 b p W W')∨((er==0)=false∧e=.panicked [flt er]∧M.RowAt W' b 59 R∧B2 b p W W')
theorem rdE_two {s:ByteArray} {wd:Int} (h1:1≤wd) (h8:wd≤8):(rdE s wd=0∧wd≤(s.size:Int))∨(rdE s wd=10∧(s.size:Int)<wd):=by
 unfold rdE
 rw [if_neg (by omega)]
 by_cases h:(s.size:Int)<wd
 · rw [if_pos h];exact .inr ⟨rfl,h⟩
 · rw [if_neg h];exact .inl ⟨rfl,by omega⟩
theorem rdN_nonneg (s:ByteArray) (wd:Int):0≤rdN s wd:=by
 unfold rdN
 split
 · exact Int.le_refl _
 · exact val_nonneg _
theorem rdN_lt (s:ByteArray) (wd:Nat):rdN s (wd:Int)<256 ^ wd:=by
 unfold rdN
 split
 · exact Int.pow_pos (by decide)
 · refine Int.lt_of_lt_of_le (val_lt _) ?_
   have hl:(s.data.toList.take ((wd:Int)).toNat).length≤wd:=by rw [List.length_take];omega
   obtain ⟨d,hd⟩:=Nat.exists_eq_add_of_le hl
   generalize (s.data.toList.take ((wd:Int)).toNat).length=q at *
   subst hd
   rw [Int.pow_add]
   have h1:(1:Int)≤256 ^ d:=Int.pow_pos (by decide)
   have h2:(0:Int)≤256 ^ q:=Int.le_of_lt (Int.pow_pos (by decide))
   have h3:=Int.mul_le_mul_of_nonneg_left h1 h2
   omega
set_option maxRecDepth 100000 in
set_option maxHeartbeats 2000000 in
theorem r_id (m:Msg) (h32:m.hash.length=32) (a c b p:Nat) (s:ByteArray) (hs:s.size≤100000) (W:World) (ra:M.RowAt W a 315 #[.func (.func 189) #[] #[]]) (rc:M.RowAt W c 3 #[.int .i64 8]) (rb:M.RowAt W b 59 m.row) (rp:M.RowAt W p 228 #[.string s]) (hpb:p≠b) (hcp:c≠p) :
 Calls Tryz.prog 265 #[.agg #[.pointer none,.pointer (some ⟨p,0,none⟩)],.pointer (some ⟨b,0,none⟩),.pointer (some ⟨a,0,none⟩),.pointer (some ⟨c,0,none⟩)] W (DidR b p m.row { m with id:=rdN s 8 }.row (rdS s 8) (rdE s 8) W):=by
 obtain ⟨q,hq⟩:∃ q,W.heap.size=q:=⟨_,rfl⟩
 obtain ⟨V,hV⟩:∃ V,W.alloc (.cells #[.pointer none,.pointer (some ⟨p,0,none⟩)] 212)=V:=⟨_,rfl⟩
 have rn:M.RowAt V q 212 #[.pointer none,.pointer (some ⟨p,0,none⟩)]:=by rw [←hV,← hq];exact M.RowAt.new W 212 _
 have ra':M.RowAt V a 315 #[.func (.func 189) #[] #[]]:=by rw [←hV];exact ra.alloc _
 have rc':M.RowAt V c 3 #[.int .i64 8]:=by rw [←hV];exact rc.alloc _
 have rb':M.RowAt V b 59 m.row:=by rw [←hV];exact rb.alloc _
 have rp':M.RowAt V p 228 #[.string s]:=by rw [←hV];exact rp.alloc _
 have bV:M.But p W V:=by rw [←hV];exact (M.But.refl _ _).alloc _
 have c0:=(ra'.cell 0).trans rfl
 have n0:=(rn.cell 0).trans rfl;have n1:=(rn.cell 1).trans rfl
 have w0:=(rc'.cell 0).trans rfl
 have num:=rdnum_any ⟨p,0,none⟩ s 8 V (row_at rp') (by omega)
 have hx0:=rdN_nonneg s 8
 have hx1:rdN s 8<18446744073709551616:=rdN_lt s 8
 have two:=rdE_two (s:=s) (wd:=8) (by decide) (by decide)
 have aft:∀ w',Below V.heap.size (V.setCell ⟨p,0,none⟩ (.string (rdS s 8))) w'→M.RowAt w' b 59 m.row∧M.RowAt w' p 228 #[.string (rdS s 8)]∧B2 b p W w':=fun w' hb=>
  ⟨(but_written hb).row rb' (fun e=>hpb e.symm),row_written rp' hb,B2.of_p (bV.trans (but_written hb))⟩
 have yes:∀ w',M.RowAt w' b 59 m.row→M.RowAt w' p 228 #[.string (rdS s 8)]→B2 b p W w'→∀ x,rdN s 8=x→M.RowAt (w'.setCell ⟨b,2,none⟩ (.int .u64 x)) b 59 { m with id:=x }.row∧M.RowAt (w'.setCell ⟨b,2,none⟩ (.int .u64 x)) p 228 #[.string (rdS s 8)]∧B2 b p W (w'.setCell ⟨b,2,none⟩ (.int .u64 x)):=fun w' h1 h2 h3 x hx=>by
  have h4:=h1.set 2 (.int .u64 x)
  rw [Msg.s2] at h4
  exact ⟨h4,h2.far (p:=⟨b,2,none⟩) (fun e=>hpb e.symm) _,h3.trans (B2.of_b ((M.But.refl b w').set (p:=⟨b,2,none⟩) (.inl rfl) _))⟩
 have cel:∀ w',M.RowAt w' b 59 m.row→w'.cell? ⟨b,2,none⟩=some _∧w'.frozen? ⟨b,2,none⟩=false:=fun w' h=>⟨(h.cell 2).trans (Msg.g2),h.frozen 2⟩
 have HQ:=Lib.hid hq;have HV:=Lib.hid hV;have NUM:=Lib.hid num;have AFT:=Lib.hid aft;have YES:=Lib.hid yes;have CEL:=Lib.hid cel
 have MU:=Lib.hid (fun x=>must_ok x)
 have ME:=Lib.hid (fun x=>must_err 10 rfl x)
 unfold DidR
 generalize rdS s 8=s' at *
 clear num aft yes cel hq hV rn ra' rc' rb' rp' bV ra rc rb rp hpb hcp hs
 rcases two with ⟨e0,_⟩ | ⟨e0,_⟩
 · rw [e0] at NUM ⊢
   obtain ⟨x,hx⟩:∃ x,rdN s 8=x:=⟨_,rfl⟩
   rw [hx] at NUM hx0 hx1 ⊢
   have HX:=Lib.hid hx
   clear hx
   have HX0:=Lib.hid hx0;have HX1:=Lib.hid hx1
   clear hx0 hx1 e0
   go_enter Tryz.func265,Tryz.ntmps265
   go_wp2_with (first | (rw [HQ.out,HV.out]) | ((with_reducible refine (NUM.out).mono ?_);rintro e w1 ⟨rfl,hb⟩) | (go_at_call 189;go_in))
   obtain ⟨h1,h2,h3⟩:=AFT.out _ hb
   obtain ⟨cl,cf⟩:=CEL.out _ h1
   have FIN:=Lib.hid (YES.out _ h1 h2 h3 x HX.out)
   clear hb h1 h2 h3
   go_wp2_with fail
   refine (MU.out _).mono ?_
   rintro e w2 ⟨rfl,rfl⟩
   go_wp2
   go_end0
   exact .inl ⟨by first | rfl | trivial,rfl,FIN.out⟩
 · rw [e0] at NUM ⊢
   generalize rdN s 8=x at *
   clear hx0 hx1 e0
   go_enter Tryz.func265,Tryz.ntmps265
   go_wp2_with (first | (rw [HQ.out,HV.out]) | ((with_reducible refine (NUM.out).mono ?_);rintro e w1 ⟨rfl,hb⟩) | (go_at_call 189;go_in))
   obtain ⟨h1,h2,h3⟩:=AFT.out _ hb
   have FIN:=Lib.hid (And.intro h1 h3)
   clear hb h1 h2 h3
   go_wp2_with fail
   refine (ME.out _).mono ?_
   rintro e w2 ⟨rfl,rfl⟩
   exact ⟨rfl,.inr ⟨rfl,rfl,FIN.out⟩⟩
set_option maxRecDepth 100000 in
set_option maxHeartbeats 2000000 in
theorem r_amount (m:Msg) (h32:m.hash.length=32) (a c b p:Nat) (s:ByteArray) (hs:s.size≤100000) (W:World) (ra:M.RowAt W a 315 #[.func (.func 190) #[] #[]]) (rc:M.RowAt W c 3 #[.int .i64 8]) (rb:M.RowAt W b 59 m.row) (rp:M.RowAt W p 228 #[.string s]) (hpb:p≠b) (hcp:c≠p) :
 Calls Tryz.prog 265 #[.agg #[.pointer none,.pointer (some ⟨p,0,none⟩)],.pointer (some ⟨b,0,none⟩),.pointer (some ⟨a,0,none⟩),.pointer (some ⟨c,0,none⟩)] W (DidR b p m.row { m with amount:=rdN s 8 }.row (rdS s 8) (rdE s 8) W):=by
 obtain ⟨q,hq⟩:∃ q,W.heap.size=q:=⟨_,rfl⟩
 obtain ⟨V,hV⟩:∃ V,W.alloc (.cells #[.pointer none,.pointer (some ⟨p,0,none⟩)] 212)=V:=⟨_,rfl⟩
 have rn:M.RowAt V q 212 #[.pointer none,.pointer (some ⟨p,0,none⟩)]:=by rw [←hV,← hq];exact M.RowAt.new W 212 _
 have ra':M.RowAt V a 315 #[.func (.func 190) #[] #[]]:=by rw [←hV];exact ra.alloc _
 have rc':M.RowAt V c 3 #[.int .i64 8]:=by rw [←hV];exact rc.alloc _
 have rb':M.RowAt V b 59 m.row:=by rw [←hV];exact rb.alloc _
 have rp':M.RowAt V p 228 #[.string s]:=by rw [←hV];exact rp.alloc _
 have bV:M.But p W V:=by rw [←hV];exact (M.But.refl _ _).alloc _
 have c0:=(ra'.cell 0).trans rfl
 have n0:=(rn.cell 0).trans rfl;have n1:=(rn.cell 1).trans rfl
 have w0:=(rc'.cell 0).trans rfl
 have num:=rdnum_any ⟨p,0,none⟩ s 8 V (row_at rp') (by omega)
 have hx0:=rdN_nonneg s 8
 have hx1:rdN s 8<18446744073709551616:=rdN_lt s 8
 have two:=rdE_two (s:=s) (wd:=8) (by decide) (by decide)
 have aft:∀ w',Below V.heap.size (V.setCell ⟨p,0,none⟩ (.string (rdS s 8))) w'→M.RowAt w' b 59 m.row∧M.RowAt w' p 228 #[.string (rdS s 8)]∧B2 b p W w':=fun w' hb=>
  ⟨(but_written hb).row rb' (fun e=>hpb e.symm),row_written rp' hb,B2.of_p (bV.trans (but_written hb))⟩
 have yes:∀ w',M.RowAt w' b 59 m.row→M.RowAt w' p 228 #[.string (rdS s 8)]→B2 b p W w'→∀ x,rdN s 8=x→M.RowAt (w'.setCell ⟨b,3,none⟩ (.int .u64 x)) b 59 { m with amount:=x }.row∧M.RowAt (w'.setCell ⟨b,3,none⟩ (.int .u64 x)) p 228 #[.string (rdS s 8)]∧B2 b p W (w'.setCell ⟨b,3,none⟩ (.int .u64 x)):=fun w' h1 h2 h3 x hx=>by
  have h4:=h1.set 3 (.int .u64 x)
  rw [Msg.s3] at h4
  exact ⟨h4,h2.far (p:=⟨b,3,none⟩) (fun e=>hpb e.symm) _,h3.trans (B2.of_b ((M.But.refl b w').set (p:=⟨b,3,none⟩) (.inl rfl) _))⟩
 have cel:∀ w',M.RowAt w' b 59 m.row→w'.cell? ⟨b,3,none⟩=some _∧w'.frozen? ⟨b,3,none⟩=false:=fun w' h=>⟨(h.cell 3).trans (Msg.g3),h.frozen 3⟩
 have HQ:=Lib.hid hq;have HV:=Lib.hid hV;have NUM:=Lib.hid num;have AFT:=Lib.hid aft;have YES:=Lib.hid yes;have CEL:=Lib.hid cel
 have MU:=Lib.hid (fun x=>must_ok x)
 have ME:=Lib.hid (fun x=>must_err 10 rfl x)
 unfold DidR
 generalize rdS s 8=s' at *
 clear num aft yes cel hq hV rn ra' rc' rb' rp' bV ra rc rb rp hpb hcp hs
 rcases two with ⟨e0,_⟩ | ⟨e0,_⟩
 · rw [e0] at NUM ⊢
   obtain ⟨x,hx⟩:∃ x,rdN s 8=x:=⟨_,rfl⟩
   rw [hx] at NUM hx0 hx1 ⊢
   have HX:=Lib.hid hx
   clear hx
   have HX0:=Lib.hid hx0;have HX1:=Lib.hid hx1
   clear hx0 hx1 e0
   go_enter Tryz.func265,Tryz.ntmps265
   go_wp2_with (first | (rw [HQ.out,HV.out]) | ((with_reducible refine (NUM.out).mono ?_);rintro e w1 ⟨rfl,hb⟩) | (go_at_call 190;go_in))
   obtain ⟨h1,h2,h3⟩:=AFT.out _ hb
   obtain ⟨cl,cf⟩:=CEL.out _ h1
   have FIN:=Lib.hid (YES.out _ h1 h2 h3 x HX.out)
   clear hb h1 h2 h3
   go_wp2_with fail
   refine (MU.out _).mono ?_
   rintro e w2 ⟨rfl,rfl⟩
   go_wp2
   go_end0
   exact .inl ⟨by first | rfl | trivial,rfl,FIN.out⟩
 · rw [e0] at NUM ⊢
   generalize rdN s 8=x at *
   clear hx0 hx1 e0
   go_enter Tryz.func265,Tryz.ntmps265
   go_wp2_with (first | (rw [HQ.out,HV.out]) | ((with_reducible refine (NUM.out).mono ?_);rintro e w1 ⟨rfl,hb⟩) | (go_at_call 190;go_in))
   obtain ⟨h1,h2,h3⟩:=AFT.out _ hb
   have FIN:=Lib.hid (And.intro h1 h3)
   clear hb h1 h2 h3
   go_wp2_with fail
   refine (ME.out _).mono ?_
   rintro e w2 ⟨rfl,rfl⟩
   exact ⟨rfl,.inr ⟨rfl,rfl,FIN.out⟩⟩
set_option maxRecDepth 100000 in
set_option maxHeartbeats 2000000 in
theorem r_expiry (m:Msg) (h32:m.hash.length=32) (a c b p:Nat) (s:ByteArray) (hs:s.size≤100000) (W:World) (ra:M.RowAt W a 318 #[.func (.func 192) #[] #[]]) (rc:M.RowAt W c 3 #[.int .i64 4]) (rb:M.RowAt W b 59 m.row) (rp:M.RowAt W p 228 #[.string s]) (hpb:p≠b) (hcp:c≠p) :
 Calls Tryz.prog 266 #[.agg #[.pointer none,.pointer (some ⟨p,0,none⟩)],.pointer (some ⟨b,0,none⟩),.pointer (some ⟨a,0,none⟩),.pointer (some ⟨c,0,none⟩)] W (DidR b p m.row { m with expiry:=rdN s 4 }.row (rdS s 4) (rdE s 4) W):=by
 obtain ⟨q,hq⟩:∃ q,W.heap.size=q:=⟨_,rfl⟩
 obtain ⟨V,hV⟩:∃ V,W.alloc (.cells #[.pointer none,.pointer (some ⟨p,0,none⟩)] 212)=V:=⟨_,rfl⟩
 have rn:M.RowAt V q 212 #[.pointer none,.pointer (some ⟨p,0,none⟩)]:=by rw [←hV,← hq];exact M.RowAt.new W 212 _
 have ra':M.RowAt V a 318 #[.func (.func 192) #[] #[]]:=by rw [←hV];exact ra.alloc _
 have rc':M.RowAt V c 3 #[.int .i64 4]:=by rw [←hV];exact rc.alloc _
 have rb':M.RowAt V b 59 m.row:=by rw [←hV];exact rb.alloc _
 have rp':M.RowAt V p 228 #[.string s]:=by rw [←hV];exact rp.alloc _
 have bV:M.But p W V:=by rw [←hV];exact (M.But.refl _ _).alloc _
 have c0:=(ra'.cell 0).trans rfl
 have n0:=(rn.cell 0).trans rfl;have n1:=(rn.cell 1).trans rfl
 have w0:=(rc'.cell 0).trans rfl
 have num:=rdnum_any ⟨p,0,none⟩ s 4 V (row_at rp') (by omega)
 have hx0:=rdN_nonneg s 4
 have hx1:rdN s 4<4294967296:=rdN_lt s 4
 have two:=rdE_two (s:=s) (wd:=4) (by decide) (by decide)
 have aft:∀ w',Below V.heap.size (V.setCell ⟨p,0,none⟩ (.string (rdS s 4))) w'→M.RowAt w' b 59 m.row∧M.RowAt w' p 228 #[.string (rdS s 4)]∧B2 b p W w':=fun w' hb=>
  ⟨(but_written hb).row rb' (fun e=>hpb e.symm),row_written rp' hb,B2.of_p (bV.trans (but_written hb))⟩
 have yes:∀ w',M.RowAt w' b 59 m.row→M.RowAt w' p 228 #[.string (rdS s 4)]→B2 b p W w'→∀ x,rdN s 4=x→M.RowAt (w'.setCell ⟨b,36,none⟩ (.int .i64 x)) b 59 { m with expiry:=x }.row∧M.RowAt (w'.setCell ⟨b,36,none⟩ (.int .i64 x)) p 228 #[.string (rdS s 4)]∧B2 b p W (w'.setCell ⟨b,36,none⟩ (.int .i64 x)):=fun w' h1 h2 h3 x hx=>by
  have h4:=h1.set 36 (.int .i64 x)
  rw [Msg.s36 h32] at h4
  exact ⟨h4,h2.far (p:=⟨b,36,none⟩) (fun e=>hpb e.symm) _,h3.trans (B2.of_b ((M.But.refl b w').set (p:=⟨b,36,none⟩) (.inl rfl) _))⟩
 have cel:∀ w',M.RowAt w' b 59 m.row→w'.cell? ⟨b,36,none⟩=some _∧w'.frozen? ⟨b,36,none⟩=false:=fun w' h=>⟨(h.cell 36).trans (Msg.g36 h32),h.frozen 36⟩
 have HQ:=Lib.hid hq;have HV:=Lib.hid hV;have NUM:=Lib.hid num;have AFT:=Lib.hid aft;have YES:=Lib.hid yes;have CEL:=Lib.hid cel
 have MU:=Lib.hid (fun x=>must_ok x)
 have ME:=Lib.hid (fun x=>must_err 10 rfl x)
 unfold DidR
 generalize rdS s 4=s' at *
 clear num aft yes cel hq hV rn ra' rc' rb' rp' bV ra rc rb rp hpb hcp hs
 rcases two with ⟨e0,_⟩ | ⟨e0,_⟩
 · rw [e0] at NUM ⊢
   obtain ⟨x,hx⟩:∃ x,rdN s 4=x:=⟨_,rfl⟩
   rw [hx] at NUM hx0 hx1 ⊢
   have HX:=Lib.hid hx
   clear hx
   have cw:IntKind.i64.wrap x=x:=IntWalk.i64_in _ (by omega)
   have HX0:=Lib.hid hx0;have HX1:=Lib.hid hx1
   clear hx0 hx1 e0
   go_enter Tryz.func266,Tryz.ntmps266
   go_wp2_with (first | (rw [HQ.out,HV.out]) | ((with_reducible refine (NUM.out).mono ?_);rintro e w1 ⟨rfl,hb⟩) | (go_at_call 192;go_in))
   obtain ⟨h1,h2,h3⟩:=AFT.out _ hb
   obtain ⟨cl,cf⟩:=CEL.out _ h1
   have FIN:=Lib.hid (YES.out _ h1 h2 h3 x HX.out)
   clear hb h1 h2 h3
   go_wp2_with fail
   refine (MU.out _).mono ?_
   rintro e w2 ⟨rfl,rfl⟩
   go_wp2
   go_end0
   exact .inl ⟨by first | rfl | trivial,rfl,FIN.out⟩
 · rw [e0] at NUM ⊢
   generalize rdN s 4=x at *
   clear hx0 hx1 e0
   go_enter Tryz.func266,Tryz.ntmps266
   go_wp2_with (first | (rw [HQ.out,HV.out]) | ((with_reducible refine (NUM.out).mono ?_);rintro e w1 ⟨rfl,hb⟩) | (go_at_call 192;go_in))
   obtain ⟨h1,h2,h3⟩:=AFT.out _ hb
   have FIN:=Lib.hid (And.intro h1 h3)
   clear hb h1 h2 h3
   go_wp2_with fail
   refine (ME.out _).mono ?_
   rintro e w2 ⟨rfl,rfl⟩
   exact ⟨rfl,.inr ⟨rfl,rfl,FIN.out⟩⟩
set_option maxRecDepth 100000 in
set_option maxHeartbeats 2000000 in
theorem r_number (m:Msg) (h32:m.hash.length=32) (a c b p:Nat) (s:ByteArray) (hs:s.size≤100000) (W:World) (ra:M.RowAt W a 318 #[.func (.func 193) #[] #[]]) (rc:M.RowAt W c 3 #[.int .i64 2]) (rb:M.RowAt W b 59 m.row) (rp:M.RowAt W p 228 #[.string s]) (hpb:p≠b) (hcp:c≠p) :
 Calls Tryz.prog 266 #[.agg #[.pointer none,.pointer (some ⟨p,0,none⟩)],.pointer (some ⟨b,0,none⟩),.pointer (some ⟨a,0,none⟩),.pointer (some ⟨c,0,none⟩)] W (DidR b p m.row { m with number:=rdN s 2 }.row (rdS s 2) (rdE s 2) W):=by
 obtain ⟨q,hq⟩:∃ q,W.heap.size=q:=⟨_,rfl⟩
 obtain ⟨V,hV⟩:∃ V,W.alloc (.cells #[.pointer none,.pointer (some ⟨p,0,none⟩)] 212)=V:=⟨_,rfl⟩
 have rn:M.RowAt V q 212 #[.pointer none,.pointer (some ⟨p,0,none⟩)]:=by rw [←hV,← hq];exact M.RowAt.new W 212 _
 have ra':M.RowAt V a 318 #[.func (.func 193) #[] #[]]:=by rw [←hV];exact ra.alloc _
 have rc':M.RowAt V c 3 #[.int .i64 2]:=by rw [←hV];exact rc.alloc _
 have rb':M.RowAt V b 59 m.row:=by rw [←hV];exact rb.alloc _
 have rp':M.RowAt V p 228 #[.string s]:=by rw [←hV];exact rp.alloc _
 have bV:M.But p W V:=by rw [←hV];exact (M.But.refl _ _).alloc _
 have c0:=(ra'.cell 0).trans rfl
 have n0:=(rn.cell 0).trans rfl;have n1:=(rn.cell 1).trans rfl
 have w0:=(rc'.cell 0).trans rfl
 have num:=rdnum_any ⟨p,0,none⟩ s 2 V (row_at rp') (by omega)
 have hx0:=rdN_nonneg s 2
 have hx1:rdN s 2<65536:=rdN_lt s 2
 have two:=rdE_two (s:=s) (wd:=2) (by decide) (by decide)
 have aft:∀ w',Below V.heap.size (V.setCell ⟨p,0,none⟩ (.string (rdS s 2))) w'→M.RowAt w' b 59 m.row∧M.RowAt w' p 228 #[.string (rdS s 2)]∧B2 b p W w':=fun w' hb=>
  ⟨(but_written hb).row rb' (fun e=>hpb e.symm),row_written rp' hb,B2.of_p (bV.trans (but_written hb))⟩
 have yes:∀ w',M.RowAt w' b 59 m.row→M.RowAt w' p 228 #[.string (rdS s 2)]→B2 b p W w'→∀ x,rdN s 2=x→M.RowAt (w'.setCell ⟨b,37,none⟩ (.int .i64 x)) b 59 { m with number:=x }.row∧M.RowAt (w'.setCell ⟨b,37,none⟩ (.int .i64 x)) p 228 #[.string (rdS s 2)]∧B2 b p W (w'.setCell ⟨b,37,none⟩ (.int .i64 x)):=fun w' h1 h2 h3 x hx=>by
  have h4:=h1.set 37 (.int .i64 x)
  rw [Msg.s37 h32] at h4
  exact ⟨h4,h2.far (p:=⟨b,37,none⟩) (fun e=>hpb e.symm) _,h3.trans (B2.of_b ((M.But.refl b w').set (p:=⟨b,37,none⟩) (.inl rfl) _))⟩
 have cel:∀ w',M.RowAt w' b 59 m.row→w'.cell? ⟨b,37,none⟩=some _∧w'.frozen? ⟨b,37,none⟩=false:=fun w' h=>⟨(h.cell 37).trans (Msg.g37 h32),h.frozen 37⟩
 have HQ:=Lib.hid hq;have HV:=Lib.hid hV;have NUM:=Lib.hid num;have AFT:=Lib.hid aft;have YES:=Lib.hid yes;have CEL:=Lib.hid cel
 have MU:=Lib.hid (fun x=>must_ok x)
 have ME:=Lib.hid (fun x=>must_err 10 rfl x)
 unfold DidR
 generalize rdS s 2=s' at *
 clear num aft yes cel hq hV rn ra' rc' rb' rp' bV ra rc rb rp hpb hcp hs
 rcases two with ⟨e0,_⟩ | ⟨e0,_⟩
 · rw [e0] at NUM ⊢
   obtain ⟨x,hx⟩:∃ x,rdN s 2=x:=⟨_,rfl⟩
   rw [hx] at NUM hx0 hx1 ⊢
   have HX:=Lib.hid hx
   clear hx
   have cw:IntKind.i64.wrap x=x:=IntWalk.i64_in _ (by omega)
   have HX0:=Lib.hid hx0;have HX1:=Lib.hid hx1
   clear hx0 hx1 e0
   go_enter Tryz.func266,Tryz.ntmps266
   go_wp2_with (first | (rw [HQ.out,HV.out]) | ((with_reducible refine (NUM.out).mono ?_);rintro e w1 ⟨rfl,hb⟩) | (go_at_call 193;go_in))
   obtain ⟨h1,h2,h3⟩:=AFT.out _ hb
   obtain ⟨cl,cf⟩:=CEL.out _ h1
   have FIN:=Lib.hid (YES.out _ h1 h2 h3 x HX.out)
   clear hb h1 h2 h3
   go_wp2_with fail
   refine (MU.out _).mono ?_
   rintro e w2 ⟨rfl,rfl⟩
   go_wp2
   go_end0
   exact .inl ⟨by first | rfl | trivial,rfl,FIN.out⟩
 · rw [e0] at NUM ⊢
   generalize rdN s 2=x at *
   clear hx0 hx1 e0
   go_enter Tryz.func266,Tryz.ntmps266
   go_wp2_with (first | (rw [HQ.out,HV.out]) | ((with_reducible refine (NUM.out).mono ?_);rintro e w1 ⟨rfl,hb⟩) | (go_at_call 193;go_in))
   obtain ⟨h1,h2,h3⟩:=AFT.out _ hb
   have FIN:=Lib.hid (And.intro h1 h3)
   clear hb h1 h2 h3
   go_wp2_with fail
   refine (ME.out _).mono ?_
   rintro e w2 ⟨rfl,rfl⟩
   exact ⟨rfl,.inr ⟨rfl,rfl,FIN.out⟩⟩
set_option maxRecDepth 100000 in
set_option maxHeartbeats 2000000 in
theorem r_chan (m:Msg) (h32:m.hash.length=32) (a c b p:Nat) (s:ByteArray) (hs:s.size≤100000) (W:World) (ra:M.RowAt W a 379 #[.func (.func 268) #[] #[]]) (rc:M.RowAt W c 3 #[.int .i64 4]) (rb:M.RowAt W b 59 m.row) (rp:M.RowAt W p 228 #[.string s]) (hpb:p≠b) (hcp:c≠p) :
 Calls Tryz.prog 306 #[.agg #[.pointer none,.pointer (some ⟨p,0,none⟩)],.pointer (some ⟨b,0,none⟩),.pointer (some ⟨a,0,none⟩),.pointer (some ⟨c,0,none⟩)] W (DidR b p m.row { m with chan:=rdN s 4 }.row (rdS s 4) (rdE s 4) W):=by
 obtain ⟨q,hq⟩:∃ q,W.heap.size=q:=⟨_,rfl⟩
 obtain ⟨V,hV⟩:∃ V,W.alloc (.cells #[.pointer none,.pointer (some ⟨p,0,none⟩)] 212)=V:=⟨_,rfl⟩
 have rn:M.RowAt V q 212 #[.pointer none,.pointer (some ⟨p,0,none⟩)]:=by rw [←hV,← hq];exact M.RowAt.new W 212 _
 have ra':M.RowAt V a 379 #[.func (.func 268) #[] #[]]:=by rw [←hV];exact ra.alloc _
 have rc':M.RowAt V c 3 #[.int .i64 4]:=by rw [←hV];exact rc.alloc _
 have rb':M.RowAt V b 59 m.row:=by rw [←hV];exact rb.alloc _
 have rp':M.RowAt V p 228 #[.string s]:=by rw [←hV];exact rp.alloc _
 have bV:M.But p W V:=by rw [←hV];exact (M.But.refl _ _).alloc _
 have c0:=(ra'.cell 0).trans rfl
 have n0:=(rn.cell 0).trans rfl;have n1:=(rn.cell 1).trans rfl
 have w0:=(rc'.cell 0).trans rfl
 have num:=rdnum_any ⟨p,0,none⟩ s 4 V (row_at rp') (by omega)
 have hx0:=rdN_nonneg s 4
 have hx1:rdN s 4<4294967296:=rdN_lt s 4
 have two:=rdE_two (s:=s) (wd:=4) (by decide) (by decide)
 have aft:∀ w',Below V.heap.size (V.setCell ⟨p,0,none⟩ (.string (rdS s 4))) w'→M.RowAt w' b 59 m.row∧M.RowAt w' p 228 #[.string (rdS s 4)]∧B2 b p W w':=fun w' hb=>
  ⟨(but_written hb).row rb' (fun e=>hpb e.symm),row_written rp' hb,B2.of_p (bV.trans (but_written hb))⟩
 have yes:∀ w',M.RowAt w' b 59 m.row→M.RowAt w' p 228 #[.string (rdS s 4)]→B2 b p W w'→∀ x,rdN s 4=x→M.RowAt (w'.setCell ⟨b,1,none⟩ (.int .u32 x)) b 59 { m with chan:=x }.row∧M.RowAt (w'.setCell ⟨b,1,none⟩ (.int .u32 x)) p 228 #[.string (rdS s 4)]∧B2 b p W (w'.setCell ⟨b,1,none⟩ (.int .u32 x)):=fun w' h1 h2 h3 x hx=>by
  have h4:=h1.set 1 (.int .u32 x)
  rw [Msg.s1] at h4
  exact ⟨h4,h2.far (p:=⟨b,1,none⟩) (fun e=>hpb e.symm) _,h3.trans (B2.of_b ((M.But.refl b w').set (p:=⟨b,1,none⟩) (.inl rfl) _))⟩
 have cel:∀ w',M.RowAt w' b 59 m.row→w'.cell? ⟨b,1,none⟩=some _∧w'.frozen? ⟨b,1,none⟩=false:=fun w' h=>⟨(h.cell 1).trans (Msg.g1),h.frozen 1⟩
 have HQ:=Lib.hid hq;have HV:=Lib.hid hV;have NUM:=Lib.hid num;have AFT:=Lib.hid aft;have YES:=Lib.hid yes;have CEL:=Lib.hid cel
 have MU:=Lib.hid (fun x=>must_ok x)
 have ME:=Lib.hid (fun x=>must_err 10 rfl x)
 unfold DidR
 generalize rdS s 4=s' at *
 clear num aft yes cel hq hV rn ra' rc' rb' rp' bV ra rc rb rp hpb hcp hs
 rcases two with ⟨e0,_⟩ | ⟨e0,_⟩
 · rw [e0] at NUM ⊢
   obtain ⟨x,hx⟩:∃ x,rdN s 4=x:=⟨_,rfl⟩
   rw [hx] at NUM hx0 hx1 ⊢
   have HX:=Lib.hid hx
   clear hx
   have cw:IntKind.u32.wrap x=x:=by rw [IntKind.wrap_u32];omega
   have HX0:=Lib.hid hx0;have HX1:=Lib.hid hx1
   clear hx0 hx1 e0
   go_enter Tryz.func306,Tryz.ntmps306
   go_wp2_with (first | (rw [HQ.out,HV.out]) | ((with_reducible refine (NUM.out).mono ?_);rintro e w1 ⟨rfl,hb⟩) | (go_at_call 268;go_in))
   obtain ⟨h1,h2,h3⟩:=AFT.out _ hb
   obtain ⟨cl,cf⟩:=CEL.out _ h1
   have FIN:=Lib.hid (YES.out _ h1 h2 h3 x HX.out)
   clear hb h1 h2 h3
   go_wp2_with fail
   refine (MU.out _).mono ?_
   rintro e w2 ⟨rfl,rfl⟩
   go_wp2
   go_end0
   exact .inl ⟨by first | rfl | trivial,rfl,FIN.out⟩
 · rw [e0] at NUM ⊢
   generalize rdN s 4=x at *
   clear hx0 hx1 e0
   go_enter Tryz.func306,Tryz.ntmps306
   go_wp2_with (first | (rw [HQ.out,HV.out]) | ((with_reducible refine (NUM.out).mono ?_);rintro e w1 ⟨rfl,hb⟩) | (go_at_call 268;go_in))
   obtain ⟨h1,h2,h3⟩:=AFT.out _ hb
   have FIN:=Lib.hid (And.intro h1 h3)
   clear hb h1 h2 h3
   go_wp2_with fail
   refine (ME.out _).mono ?_
   rintro e w2 ⟨rfl,rfl⟩
   exact ⟨rfl,.inr ⟨rfl,rfl,FIN.out⟩⟩
set_option maxRecDepth 100000 in
set_option maxHeartbeats 2000000 in
theorem r_hash (m:Msg) (h32:m.hash.length=32) (b p:Nat) (s:ByteArray) (hs:s.size≤100000) (W:World) (rb:M.RowAt W b 59 m.row) (rp:M.RowAt W p 228 #[.string s]) (hpb:p≠b) :
 Calls Tryz.prog 195 #[.agg #[.pointer none,.pointer (some ⟨p,0,none⟩)],.pointer (some ⟨b,0,none⟩)] W (DidR b p m.row { m with hash:=rhH s }.row (rhS s) (rhE s) W):=by
 obtain ⟨q,hq⟩:∃ q,W.heap.size=q:=⟨_,rfl⟩
 obtain ⟨V,hV⟩:∃ V,W.alloc (.cells #[.pointer none,.pointer (some ⟨p,0,none⟩)] 212)=V:=⟨_,rfl⟩
 have rn:M.RowAt V q 212 #[.pointer none,.pointer (some ⟨p,0,none⟩)]:=by rw [←hV,← hq];exact M.RowAt.new W 212 _
 have rb':M.RowAt V b 59 m.row:=by rw [←hV];exact rb.alloc _
 have rp':M.RowAt V p 228 #[.string s]:=by rw [←hV];exact rp.alloc _
 have bV:M.But p W V:=by rw [←hV];exact (M.But.refl _ _).alloc _
 have n0:=(rn.cell 0).trans rfl;have n1:=(rn.cell 1).trans rfl
 have num:=rdhash_any ⟨p,0,none⟩ s V (row_at rp') (by omega)
 have aft:∀ w',Below V.heap.size (V.setCell ⟨p,0,none⟩ (.string (rhS s))) w'→M.RowAt w' b 59 m.row∧M.RowAt w' p 228 #[.string (rhS s)]∧B2 b p W w':=fun w' hb=>
  ⟨(but_written hb).row rb' (fun e=>hpb e.symm),row_written rp' hb,B2.of_p (bV.trans (but_written hb))⟩
 have l32:(rhH s).length=32:=by
  unfold rhH
  by_cases h:s.size<32
  · rw [if_pos h];rfl
  · rw [if_neg h]
    unfold bytesOf
    have h':¬ s.data.size<32:=h
    rw [List.length_map,Array.length_toList,ByteArray.data_extract,Array.size_extract]
    omega
 have yes:∀ w2 g,g≠b→M.RowAt w2 g 47 Z32→M.RowAt w2 b 59 m.row→M.RowAt w2 p 228 #[.string (rhS s)]→g≠p→B2 b p W w2→W.heap.size≤g→∀ l:List Int,rhH s=l →
  M.RowAt (w2.setRow g (ints l).toArray) g 47 (ints l).toArray∧(w2.setRow g (ints l).toArray).there b 4 32 ∧
  M.RowAt ((w2.setRow g (ints l).toArray).setCells b 4 (ints l)) b 59 { m with hash:=l }.row∧M.RowAt ((w2.setRow g (ints l).toArray).setCells b 4 (ints l)) p 228 #[.string (rhS s)]∧B2 b p W ((w2.setRow g (ints l).toArray).setCells b 4 (ints l)):=fun w2 g hgb h0 h1 h2 hgp h3 hWg l hl=>by
  have h1':=h1.farRow hgb (ints l).toArray
  have h4:=row_setCells (ints l) m.row 4 _ h1'
  rw [Msg.sh h32 (by rw [←hl];exact l32)] at h4
  have h5:B2 b p W (w2.setRow g (ints l).toArray):=⟨h3.os,h3.tape,h3.output,by simpa using h3.size,fun k hk k1 k2=>by
   rw [←h3.block k hk k1 k2];simp only [World.setRow,Array.getElem?_modify];rw [if_neg (by omega)]⟩
  exact ⟨h0.setRow _,Msg.there h1' h32,h4,row_setCells_far (fun e=>hpb e.symm) _ _ _ (h2.farRow hgp _),h5.trans (B2.of_b (but_setCells _ _ _ (M.But.refl b _)))⟩
 have HQ:=Lib.hid hq;have HV:=Lib.hid hV;have NUM:=Lib.hid num;have AFT:=Lib.hid aft;have YES:=Lib.hid yes
 have MU:=Lib.hid (fun x=>must_ok x)
 have ME:=Lib.hid (fun x=>must_err 10 rfl x)
 have two:(rhE s=0)∨(rhE s=10):=by
  unfold rhE
  by_cases h:s.size<32
  · rw [if_pos h];exact .inr rfl
  · rw [if_neg h];exact .inl rfl
 unfold DidR
 unfold hashV at NUM
 obtain ⟨l,hl⟩:∃ l,rhH s=l:=⟨_,rfl⟩
 rw [hl] at NUM l32
 have iH:(Tryz.prog.info? 47).map (·.size)=some (ints l).toArray.size:=by rw [List.size_toArray,ints_len',l32];kernel_rfl
 have oH:(ints l).toArray.all (·.oneCell')=true:=by
  refine Array.all_eq_true_iff_forall_mem.2 fun v hv=>?_
  obtain ⟨x,_,rfl⟩:=List.mem_map.1 (by simpa using hv:v∈ints l)
  rfl
 have s32:(ints l).toArray.size=32:=by rw [List.size_toArray,ints_len',l32]
 have tl:(ints l).toArray.toList=ints l:=rfl
 have HLH:=Lib.hid hl
 rw [hl]
 generalize rhS s=s' at *
 clear num aft yes hq hV rn rb' rp' bV rb rp hpb hs hl
 rcases two with e0 | e0
 · rw [e0] at NUM ⊢
   clear e0
   have TL:=Lib.hid tl
   have S32:=Lib.hid s32
   have FINL:=Lib.hid (fun w2 g a1 a2 a3 a4 a5 a6 a7=>YES.out w2 g a1 a2 a3 a4 a5 a6 a7 l HLH.out)
   clear YES HLH tl s32
   generalize hX:(ints l).toArray=X at *
   have HX:=Lib.hid hX
   clear hX
   go_enter Tryz.func195,Tryz.ntmps195
   go_wp2_with (rw [HQ.out,HV.out])
   refine (NUM.out).mono ?_
   rintro e w1 ⟨rfl,hb⟩
   obtain ⟨h1,h2,h3⟩:=AFT.out _ hb
   obtain ⟨g,hg⟩:∃ g,w1.heap.size=g:=⟨_,rfl⟩
   obtain ⟨w2,hw2⟩:∃ w2,w1.alloc (.cells Z32 47)=w2:=⟨_,rfl⟩
   have r0:M.RowAt w2 g 47 Z32:=by rw [←hw2,← hg];exact M.RowAt.new w1 47 _
   have gb:g≠b:=fun e=>by have:=h1.lt;omega
   have gp:g≠p:=fun e=>by have:=h2.lt;omega
   have gW:W.heap.size≤g:=by have:=h3.size;omega
   have r1:M.RowAt w2 b 59 m.row:=by rw [←hw2];exact h1.alloc _
   have r2:M.RowAt w2 p 228 #[.string s']:=by rw [←hw2];exact h2.alloc _
   have r3:B2 b p W w2:=h3.trans (B2.of_b (by rw [←hw2];exact (M.But.refl b w1).alloc _))
   have iz:Z32.size=X.size:=by rw [S32.out];rfl
   unfold Z32 at hw2
   have HG:=Lib.hid hg;have HW2:=Lib.hid hw2
   obtain ⟨f0,f1,f2⟩:=FINL.out w2 g gb r0 r1 r2 gp r3 gW
   rw [←S32.out] at f1
   have F2:=Lib.hid f2
   obtain ⟨w3,hw3⟩:∃ w3,w2.setRow g X=w3:=⟨_,rfl⟩
   rw [hw3] at f0 f1 F2
   have HW3:=Lib.hid hw3
   rw [←TL.out] at F2
   clear hg hw2 hw3 f2 hb h1 h2 h3 gb gp gW r1 r2 r3 FINL
   go_wp2_with (first | (rw [HG.out,HW2.out]) | (refine wpList_store_row (x:=.tmp 4) (y:=.tmp 29) (cells:=X) (old:=Z32) (t:=47) (ty:=47) (g:=g) ?_ ?_ ?_ ?_ r0 iH iz oH ?_;rfl;rfl;rfl;rfl;rw [HW3.out]) | ((with_reducible refine (MU.out _).mono ?_);rintro e w4 ⟨rfl,rfl⟩) | (refine wpList_load_row (x:=.tmp 4) (ty:=47) (g:=g) (cs:=X) (t:=47) (fr:=(0,0)) ?_ ?_ ?_ _ f0 Tryz.underlying47 rfl iH ?_;rfl;rfl;rfl) | (refine wpList_store_mid (x:=.tmp 36) (y:=.tmp 34) (b:=b) (o:=4) (cells:=X) (ty:=47) ?_ ?_ ?_ ?_ f1 iH oH ?_;rfl;rfl;rfl;rfl) | fail)
   go_end0
   exact .inl ⟨by first | rfl | trivial,rfl,F2.out⟩
 · rw [e0] at NUM ⊢
   clear e0
   go_enter Tryz.func195,Tryz.ntmps195
   have iz:Z32.size=(ints l).toArray.size:=by rw [s32];rfl
   generalize (ints l).toArray=X at *
   go_wp2_with (rw [HQ.out,HV.out])
   refine (NUM.out).mono ?_
   rintro e w1 ⟨rfl,hb⟩
   obtain ⟨h1,h2,h3⟩:=AFT.out _ hb
   obtain ⟨g,hg⟩:∃ g,w1.heap.size=g:=⟨_,rfl⟩
   obtain ⟨w2,hw2⟩:∃ w2,w1.alloc (.cells Z32 47)=w2:=⟨_,rfl⟩
   have r0:M.RowAt w2 g 47 Z32:=by rw [←hw2,← hg];exact M.RowAt.new w1 47 _
   have gb:g≠b:=fun e=>by have:=h1.lt;omega
   have gp:g≠p:=fun e=>by have:=h2.lt;omega
   have gW:W.heap.size≤g:=by have:=h3.size;omega
   have r1:M.RowAt w2 b 59 m.row:=by rw [←hw2];exact h1.alloc _
   have r2:M.RowAt w2 p 228 #[.string s']:=by rw [←hw2];exact h2.alloc _
   have r3:B2 b p W w2:=h3.trans (B2.of_b (by rw [←hw2];exact (M.But.refl b w1).alloc _))
   unfold Z32 at hw2
   have HG:=Lib.hid hg;have HW2:=Lib.hid hw2
   have F2:=Lib.hid (And.intro (r1.farRow gb X) (show B2 b p W (w2.setRow g X) from ⟨r3.os,r3.tape,r3.output,by simpa using r3.size,fun k hk k1 k2=>by
    rw [←r3.block k hk k1 k2];simp only [World.setRow,Array.getElem?_modify];rw [if_neg (by omega)]⟩))
   obtain ⟨w3,hw3⟩:∃ w3,w2.setRow g X=w3:=⟨_,rfl⟩
   rw [hw3] at F2
   have HW3:=Lib.hid hw3
   clear hg hw2 hw3 hb h1 h2 h3 gb gp gW r1 r2 r3
   go_wp2_with (first | (rw [HG.out,HW2.out]) | (refine wpList_store_row (x:=.tmp 4) (y:=.tmp 29) (cells:=X) (old:=Z32) (t:=47) (ty:=47) (g:=g) ?_ ?_ ?_ ?_ r0 iH iz oH ?_;rfl;rfl;rfl;rfl;rw [HW3.out]) | fail)
   refine (ME.out _).mono ?_
   rintro e w4 ⟨rfl,rfl⟩
   exact ⟨rfl,.inr ⟨rfl,rfl,F2.out⟩⟩
open Go.Proofs.YtdebnbgjgkbmaaaGreatDoor.Oc
open Go.RowKit Go.Shelf
set_option linter.unusedVariables false
def rdF (m:Msg) (s:ByteArray):Fld→Msg × ByteArray × Int
 | .chan=>({ m with chan:=rdN s 4 },rdS s 4,rdE s 4)
 | .id=>({ m with id:=rdN s 8 },rdS s 8,rdE s 8)
 | .amount=>({ m with amount:=rdN s 8 },rdS s 8,rdE s 8)
 | .hash=>({ m with hash:=rhH s },rhS s,rhE s)
 | .expiry=>({ m with expiry:=rdN s 4 },rdS s 4,rdE s 4)
 | .number=>({ m with number:=rdN s 2 },rdS s 2,rdE s 2)
def rd1 (q:Msg × ByteArray) (f:Fld):Option (Msg × ByteArray):=if (rdF q.1 q.2 f).2.2=0 then some ((rdF q.1 q.2 f).1,(rdF q.1 q.2 f).2.1) else none
def runs:Msg × ByteArray→List Fld→Option (Msg × ByteArray)
 | q,[]=>some q
 | q,f::r=>(rd1 q f).bind fun q'=>runs q' r
theorem runs_append:∀ (a b:List Fld) (q:Msg × ByteArray),runs q (a++b)=(runs q a).bind fun q'=>runs q' b
 | [],b,q=>rfl
 | f::r,b,q=>by
   show (rd1 q f).bind (fun q'=>runs q' (r++b))=((rd1 q f).bind fun q'=>runs q' r).bind _
   cases rd1 q f with
   | none=>rfl
   | some q'=>exact runs_append r b q'
theorem runs_take {fl:List Fld} {k:Nat} {f:Fld} (h:fl[k]?=some f) (q:Msg × ByteArray):runs q (fl.take (k+1))=(runs q (fl.take k)).bind fun q'=>rd1 q' f:=by
 rw [List.take_add_one,h,runs_append]
 show (runs q (fl.take k)).bind (fun q'=>(rd1 q' f).bind fun q''=>some q'')=_
 cases runs q (fl.take k) with
 | none=>rfl
 | some q'=>
   show (rd1 q' f).bind (fun q''=>some q'')=rd1 q' f
   cases rd1 q' f<;>rfl
theorem runs_stop {fl:List Fld} {k:Nat} {f:Fld} {q q':Msg × ByteArray} (h:fl[k]?=some f) (h1:runs q (fl.take k)=some q') (h2:rd1 q' f=none):runs q fl=none:=by
 rw [←List.take_append_drop (k+1) fl,runs_append,runs_take h,h1]
 show (rd1 q' f).bind _=none
 rw [h2];rfl
theorem rdS_le' (s:ByteArray) (wd:Int):(rdS s wd).size≤s.size:=by
 unfold rdS
 split
 · exact Nat.le_refl _
 · rw [ByteArray.size_extract];omega
theorem rhS_le' (s:ByteArray):(rhS s).size≤s.size:=by
 unfold rhS
 split
 · exact Nat.le_refl _
 · rw [ByteArray.size_extract];omega
theorem rdF_le (m:Msg) (s:ByteArray) (f:Fld):(rdF m s f).2.1.size≤s.size:=by
 cases f
 · exact rdS_le' _ _
 · exact rdS_le' _ _
 · exact rdS_le' _ _
 · exact rhS_le' _
 · exact rdS_le' _ _
 · exact rdS_le' _ _
theorem rhH_ok (s:ByteArray):(rhH s).length=32∧∀ x∈rhH s,0≤x∧x≤255:=by
 unfold rhH
 by_cases h:s.size<32
 · rw [if_pos h];exact ⟨rfl,fun x hx=>by have:x=0:=List.eq_of_mem_replicate hx;omega⟩
 · rw [if_neg h]
   unfold bytesOf
   have h':¬ s.data.size<32:=h
   refine ⟨?_,fun x hx=>?_⟩
   · rw [List.length_map,Array.length_toList,ByteArray.data_extract,Array.size_extract];omega
   · obtain ⟨u,_,rfl⟩:=List.mem_map.1 hx
     have:=u.toNat_lt
     omega
theorem rdF_ok {m:Msg} (h:m.ok) (s:ByteArray) (f:Fld):(rdF m s f).1.ok:=by
 obtain ⟨a0,a1,a2,a3,a4,a5,a6,a7,a8,a9,b0,b1,b2,b3⟩:=h
 have p8:=rdN_nonneg s 8;have p4:=rdN_nonneg s 4;have p2:=rdN_nonneg s 2
 have q8:rdN s 8<18446744073709551616:=rdN_lt s 8
 have q4:rdN s 4<4294967296:=rdN_lt s 4
 have q2:rdN s 2<65536:=rdN_lt s 2
 obtain ⟨t1,t2⟩:=rhH_ok s
 cases f
 · exact ⟨a0,a1,a2,a3,p4,by show rdN s 4≤_;omega,a6,a7,a8,a9,b0,b1,b2,b3⟩
 · exact ⟨a0,a1,a2,a3,a4,a5,p8,by show rdN s 8≤_;omega,a8,a9,b0,b1,b2,b3⟩
 · exact ⟨a0,a1,a2,a3,a4,a5,a6,a7,p8,by show rdN s 8≤_;omega,b0,b1,b2,b3⟩
 · exact ⟨t1,t2,a2,a3,a4,a5,a6,a7,a8,a9,b0,b1,b2,b3⟩
 · exact ⟨a0,a1,a2,a3,a4,a5,a6,a7,a8,a9,by show _≤rdN s 4;omega,by show rdN s 4≤_;omega,b2,b3⟩
 · exact ⟨a0,a1,a2,a3,a4,a5,a6,a7,a8,a9,b0,b1,by show _≤rdN s 2;omega,by show rdN s 2≤_;omega⟩
theorem rdF_err (m:Msg) (s:ByteArray) (f:Fld):(rdF m s f).2.2=0∨(rdF m s f).2.2=10:=by
 have two:=fun (wd:Int) (h1:1≤wd) (h8:wd≤8)=>rdE_two (s:=s) h1 h8
 cases f
 · rcases two 4 (by decide) (by decide) with ⟨e,_⟩ | ⟨e,_⟩
   · exact .inl e
   · exact .inr e
 · rcases two 8 (by decide) (by decide) with ⟨e,_⟩ | ⟨e,_⟩
   · exact .inl e
   · exact .inr e
 · rcases two 8 (by decide) (by decide) with ⟨e,_⟩ | ⟨e,_⟩
   · exact .inl e
   · exact .inr e
 · show rhE s=0∨rhE s=10
   unfold rhE
   by_cases h:s.size<32
   · rw [if_pos h];exact .inr rfl
   · rw [if_neg h];exact .inl rfl
 · rcases two 4 (by decide) (by decide) with ⟨e,_⟩ | ⟨e,_⟩
   · exact .inl e
   · exact .inr e
 · rcases two 2 (by decide) (by decide) with ⟨e,_⟩ | ⟨e,_⟩
   · exact .inl e
   · exact .inr e
theorem types_ne {X:World} {a p:Nat} {ta tp:TypeId} {A P:Array Value} (h:M.RowAt X a ta A) (h':M.RowAt X p tp P) (ht:ta≠tp):a≠p:=fun e=>by
 subst e
 have e2:=Option.some.inj (Eq.trans (Eq.symm h) h')
 have e3:ta=tp:=by injection e2
 exact ht e3
theorem r_step {lo b p:Nat} {f:Fld} {u:Value} {X:World} (h:FV lo X f u) (m:Msg) (h32:m.hash.length=32) (s:ByteArray) (hs:s.size≤100000) (rb:M.RowAt X b 59 m.row) (rp:M.RowAt X p 228 #[.string s]) (hpb:p≠b) :
 Calls Tryz.prog (fnOf f) (#[.agg #[.pointer none,.pointer (some ⟨p,0,none⟩)],.pointer (some ⟨b,0,none⟩)]++capsV u) X (DidR b p m.row (rdF m s f).1.row (rdF m s f).2.1 (rdF m s f).2.2 X):=by
 cases f
 · obtain ⟨a,c,rfl,_,_,ra,rc⟩:=h;exact r_chan m h32 a c b p s hs X ra rc rb rp hpb (types_ne rc rp (by decide))
 · obtain ⟨a,c,rfl,_,_,ra,rc⟩:=h;exact r_id m h32 a c b p s hs X ra rc rb rp hpb (types_ne rc rp (by decide))
 · obtain ⟨a,c,rfl,_,_,ra,rc⟩:=h;exact r_amount m h32 a c b p s hs X ra rc rb rp hpb (types_ne rc rp (by decide))
 · have h':u=.func (.func 195) #[] #[]:=h
   subst h'
   exact r_hash m h32 b p s hs X rb rp hpb
 · obtain ⟨a,c,rfl,_,_,ra,rc⟩:=h;exact r_expiry m h32 a c b p s hs X ra rc rb rp hpb (types_ne rc rp (by decide))
 · obtain ⟨a,c,rfl,_,_,ra,rc⟩:=h;exact r_number m h32 a c b p s hs X ra rc rb rp hpb (types_ne rc rp (by decide))
def Red (b p:Nat) (q q':Msg × ByteArray) (W X:World):Prop:=M.RowAt X b 59 q'.1.row∧M.RowAt X p 228 #[.string q'.2]∧B2 b p W X∧q'.1.ok∧q'.2.size≤q.2.size
theorem r_through {b p lo:Nat} (fl:List Fld) (h8:fl.length≤8) (v:Value) (W:World) (hFL:FL lo W v fl) (hlo:lo≤W.heap.size) (hpb:p≠b) (q:Msg × ByteArray) (ho:q.1.ok) (hs:q.2.size≤100000) (rb:M.RowAt W b 59 q.1.row) (rp:M.RowAt W p 228 #[.string q.2]) :
 Calls Tryz.prog 107 #[.agg #[.pointer none,.pointer (some ⟨p,0,none⟩)],v,.pointer (some ⟨b,0,none⟩)] W fun e W'=>
  (e=.returned (.tuple #[])∧∃ q',runs q fl=some q'∧Red b p q q' W W')∨(e=.panicked [flt 10]∧runs q fl=none∧B2 b p W W'):=by
 refine (through_list (b:=b) none (some ⟨p,0,none⟩) fl h8 v W hFL hlo (fun k X=>∃ q',runs q (fl.take k)=some q'∧Red b p q q' W X) (fun e X=>e=.panicked [flt 10]∧runs q fl=none∧B2 b p W X) ⟨q,rfl,rb,rp,B2.refl _ _ _,ho,Nat.le_refl _⟩
  (fun k X X' hst hbl=>?_) (fun k f hf X u hv hst=>?_)).mono ?_
 · obtain ⟨q',h1,h2,h3,h4,h5,h6⟩:=hst
   exact ⟨q',h1,h2.call hbl,h3.call hbl,h4.trans ⟨hbl.os,hbl.tape,hbl.output,hbl.size,fun k hk _ _=>hbl.block k hk⟩,h5,h6⟩
 · obtain ⟨q',h1,h2,h3,h4,h5,h6⟩:=hst
   refine (r_step hv q'.1 h5.h32 q'.2 (by omega) h2 h3 hpb).mono ?_
   rintro e X' (⟨e0,rfl,g1,g2,g3⟩ | ⟨e0,rfl,g1,g3⟩)
   · refine .inl ⟨rfl,⟨((rdF q'.1 q'.2 f).1,(rdF q'.1 q'.2 f).2.1),?_,g1,g2,h4.trans g3,rdF_ok h5 _ _,Nat.le_trans (rdF_le _ _ _) h6⟩,g3.kp h2 h3 rfl rfl⟩
     rw [runs_take hf,h1]
     show rd1 q' f=_
     unfold rd1;rw [if_pos e0]
   · have e10:(rdF q'.1 q'.2 f).2.2=10:=by
      rcases rdF_err q'.1 q'.2 f with h | h
      · rw [h] at e0;cases e0
      · exact h
     refine .inr ⟨⟨by rw [e10],runs_stop hf h1 ?_,h4.trans g3⟩,_,rfl⟩
     unfold rd1;rw [if_neg (by rw [e10];decide)]
 · rintro e W' (⟨rfl,q',h1,h2⟩ | ⟨h,_⟩)
   · rw [List.take_length] at h1
     exact .inl ⟨rfl,q',h1,h2⟩
   · exact .inr h
open Go.Proofs.YtdebnbgjgkbmaaaGreatDoor.Oc
open Go.RowKit Go.Shelf
set_option linter.unusedVariables false
structure DB (w:World) (n:Nat) (R:Array Value) (v:Value) (rest:ByteArray) (X:World):Prop where
 r0:M.RowAt X n 59 (Msg.none 0).row
 rb:M.RowAt X (n+1) 59 R
 rl:M.RowAt X (n+2) 202 #[v]
 rp:M.RowAt X (n+3) 228 #[.string rest]
 rr:M.RowAt X (n+4) 81 #[.pointer (some ⟨n+3,0,none⟩)]
 rg:M.RowAt X (n+5) 1 #[.func (.func 114) #[] #[.pointer (some ⟨n+4,0,none⟩),.pointer (some ⟨n+1,0,none⟩)],.func (.func 115) #[] #[.pointer (some ⟨n+1,0,none⟩),.pointer (some ⟨n+2,0,none⟩)],.func (.func 116) #[] #[.pointer (some ⟨n+4,0,none⟩),.pointer (some ⟨n+2,0,none⟩),.pointer (some ⟨n+1,0,none⟩)],.func (.func 117) #[] #[.pointer (some ⟨n+4,0,none⟩)],.func (.func 119) #[] #[.pointer (some ⟨n+1,0,none⟩)]]
 bel:Below n w X
def DX (w:World) (n:Nat) (X:World):Prop:=M.RowAt X n 59 (Msg.none 0).row∧Below n w X
section
variable {w X X':World} {n q:Nat} {R R':Array Value} {v v':Value} {s s':ByteArray}
theorem DB.but (h:DB w n R v s X) (hq:n+6≤q) (hb:M.But q X X'):DB w n R v s X':=
 ⟨hb.row h.r0 (by omega),hb.row h.rb (by omega),hb.row h.rl (by omega),hb.row h.rp (by omega),hb.row h.rr (by omega),hb.row h.rg (by omega),hb.below h.bel (by omega) (by have:=h.rg.lt;omega)⟩
theorem DX.but (h:DX w n X) (hq:n+6≤q) (hb:M.But q X X'):DX w n X':=⟨hb.row h.1 (by omega),hb.below h.2 (by omega) (by have:=h.1.lt;omega)⟩
theorem DB.same (h:DB w n R v s X) (hb:Below X.heap.size X X'):DB w n R v s X':=
 ⟨h.r0.call hb,h.rb.call hb,h.rl.call hb,h.rp.call hb,h.rr.call hb,h.rg.call hb,h.bel.trans (hb.mono (by have:=h.rg.lt;omega))⟩
theorem DB.two (h:DB w n R v s X) (hb:B2 (n+1) (n+3) X X') (h1:M.RowAt X' (n+1) 59 R') (h2:M.RowAt X' (n+3) 228 #[.string s']):DB w n R' v s' X':=
 ⟨hb.row h.r0 (by omega) (by omega),h1,hb.row h.rl (by omega) (by omega),h2,hb.row h.rr (by omega) (by omega),hb.row h.rg (by omega) (by omega),hb.below h.bel (by omega) (by omega) (by have:=h.rg.lt;omega)⟩
theorem DB.dx2 (h:DB w n R v s X) (hb:B2 (n+1) (n+3) X X'):DX w n X':=⟨hb.row h.r0 (by omega) (by omega),hb.below h.bel (by omega) (by omega) (by have:=h.rg.lt;omega)⟩
theorem DB.dx (h:DB w n R v s X):DX w n X:=⟨h.r0,h.bel⟩
end
set_option maxRecDepth 100000 in
theorem dec1 {w X:World} {n:Nat} {v:Value} {s:ByteArray} (h:DB w n (Msg.none 0).row v s X) (hs:s.size≤100000) :
 Calls Tryz.prog 114 #[.pointer (some ⟨n+4,0,none⟩),.pointer (some ⟨n+1,0,none⟩)] X fun e X'=>
  (0<s.size∧e=.returned (.tuple #[])∧DB w n (Msg.none (rdN s 1)).row v (rdS s 1) X'∧B2 (n+1) (n+3) X X')∨(s.size=0∧e=.panicked [flt 10]∧B2 (n+1) (n+3) X X'):=by
 have c0:=(h.rr.cell 0).trans rfl
 have num:=rdnum_any ⟨n+3,0,none⟩ s 1 X (row_at h.rp) (by omega)
 have hx0:=rdN_nonneg s 1
 have hx1:rdN s 1<256:=rdN_lt s 1
 have two:=rdE_two (s:=s) (wd:=1) (by decide) (by decide)
 have aft:∀ w',Below X.heap.size (X.setCell ⟨n+3,0,none⟩ (.string (rdS s 1))) w'→M.RowAt w' (n+1) 59 (Msg.none 0).row∧M.RowAt w' (n+3) 228 #[.string (rdS s 1)]∧B2 (n+1) (n+3) X w':=fun w' hb=>
  ⟨(but_written hb).row h.rb (by omega),row_written h.rp hb,B2.of_p (but_written hb)⟩
 have yes:∀ w',M.RowAt w' (n+1) 59 (Msg.none 0).row→M.RowAt w' (n+3) 228 #[.string (rdS s 1)]→B2 (n+1) (n+3) X w'→∀ x,rdN s 1=x→DB w n (Msg.none x).row v (rdS s 1) (w'.setCell ⟨n+1,0,none⟩ (.int .i64 x))∧B2 (n+1) (n+3) X (w'.setCell ⟨n+1,0,none⟩ (.int .i64 x)):=fun w' h1 h2 h3 x hx=>by
  have h4:=h1.set 0 (.int .i64 x)
  rw [Msg.s0] at h4
  have h5:=h3.trans (B2.of_b ((M.But.refl (n+1) w').set (p:=⟨n+1,0,none⟩) (.inl rfl) (.int .i64 x)))
  exact ⟨h.two h5 h4 (h2.far (p:=⟨n+1,0,none⟩) (show n+1≠n+3 by omega) _),h5⟩
 have cel:∀ w',M.RowAt w' (n+1) 59 (Msg.none 0).row→w'.cell? ⟨n+1,0,none⟩=some (.int .i64 0)∧w'.frozen? ⟨n+1,0,none⟩=false:=fun w' h=>⟨(h.cell 0).trans Msg.g0,h.frozen 0⟩
 have NUM:=Lib.hid num;have AFT:=Lib.hid aft;have YES:=Lib.hid yes;have CEL:=Lib.hid cel
 have ME:=Lib.hid (fun x=>must_err 10 rfl x)
 generalize rdS s 1=s' at *
 clear num aft yes cel h hs
 rcases two with ⟨e0,e1⟩ | ⟨e0,e1⟩
 · rw [e0] at NUM
   obtain ⟨x,hx⟩:∃ x,rdN s 1=x:=⟨_,rfl⟩
   rw [hx] at NUM hx0 hx1 ⊢
   have HX:=Lib.hid hx
   have SZ:=Lib.hid (show 0<s.size by omega)
   have cw:IntKind.i64.wrap x=x:=IntWalk.i64_in _ (by omega)
   clear hx e0 e1 hx0 hx1
   go_enter Tryz.func114,Tryz.ntmps114
   go_wp2_with fail
   refine (NUM.out).mono ?_
   rintro e w1 ⟨rfl,hb⟩
   obtain ⟨h1,h2,h3⟩:=AFT.out _ hb
   obtain ⟨cl,cf⟩:=CEL.out _ h1
   have FIN:=Lib.hid (YES.out _ h1 h2 h3 x HX.out)
   clear hb h1 h2 h3
   go_wp2_with fail
   refine (must_ok _).mono ?_
   rintro e w2 ⟨rfl,rfl⟩
   go_wp2
   go_end0
   exact .inl ⟨SZ.out,rfl,FIN.out⟩
 · rw [e0] at NUM
   generalize rdN s 1=x at *
   have SZ:=Lib.hid (show s.size=0 by omega)
   clear hx0 hx1 e0 e1
   go_enter Tryz.func114,Tryz.ntmps114
   go_wp2_with fail
   refine (NUM.out).mono ?_
   rintro e w1 ⟨rfl,hb⟩
   obtain ⟨h1,h2,h3⟩:=AFT.out _ hb
   have FIN:=Lib.hid h3
   clear hb h1 h2 h3
   go_wp2_with fail
   refine (ME.out _).mono ?_
   rintro e w2 ⟨rfl,rfl⟩
   exact ⟨rfl,.inr ⟨SZ.out,rfl,FIN.out⟩⟩
set_option maxRecDepth 100000 in
theorem dec2 {w X:World} {n:Nat} {s:ByteArray} (k:Int) (h:DB w n (Msg.none k).row (.slice none 0 0) s X) :
 Calls Tryz.prog 115 #[.pointer (some ⟨n+1,0,none⟩),.pointer (some ⟨n+2,0,none⟩)] X fun e X'=>
  (∃ fl v',fieldsOf k=some fl∧e=.returned (.tuple #[])∧DB w n (Msg.none k).row v' s X'∧FL 0 X' v' fl∧M.But (n+2) X X')∨(fieldsOf k=none∧e=.panicked [flt 70]∧M.But (n+2) X X'):=by
 have c0:=(h.rb.cell 0).trans Msg.g0
 have fa:=fields_any k X
 have aft:∀ w' v',Below X.heap.size X w'→w'.cell? ⟨n+2,0,none⟩=some (.slice none 0 0)∧w'.frozen? ⟨n+2,0,none⟩=false∧DB w n (Msg.none k).row v' s (w'.setCell ⟨n+2,0,none⟩ v')∧M.But (n+2) X (w'.setCell ⟨n+2,0,none⟩ v')∧M.But (n+2) w' (w'.setCell ⟨n+2,0,none⟩ v'):=fun w' v' hb=>by
  have h1:=h.same hb
  have hb2:=(M.But.refl (n+2) w').set (p:=⟨n+2,0,none⟩) (.inl rfl) v'
  exact ⟨(h1.rl.cell 0).trans rfl,h1.rl.frozen 0,⟨hb2.row h1.r0 (by omega),hb2.row h1.rb (by omega),h1.rl.set 0 v',hb2.row h1.rp (by omega),hb2.row h1.rr (by omega),hb2.row h1.rg (by omega),hb2.below h1.bel (by omega) (by have:=h1.rg.lt;omega)⟩,(M.But.ofBelow (n+2) hb).trans hb2,hb2⟩
 have kp:∀ w' v',Below X.heap.size X w'→Kp 0 w' (w'.setCell ⟨n+2,0,none⟩ v'):=fun w' v' hb=>Kp.of_butT ((M.But.refl (n+2) w').set (p:=⟨n+2,0,none⟩) (.inl rfl) v') (h.same hb).rl rfl
 have AFT:=Lib.hid aft;have KPH:=Lib.hid kp
 have ME:=Lib.hid (fun x=>must_err 70 rfl x)
 clear aft kp h
 generalize (Msg.none k).row=R at *
 cases hf:fieldsOf k with
 | none=>
   rw [hf] at fa
   simp only at fa
   have FA:=Lib.hid fa
   clear fa hf
   go_enter Tryz.func115,Tryz.ntmps115
   go_wp2_with fail
   refine (FA.out).mono ?_
   rintro e w1 ⟨rfl,b1⟩
   obtain ⟨cl,cf,_,h2,_⟩:=AFT.out w1 (.slice none 0 0) b1
   have FIN:=Lib.hid h2
   clear b1 h2
   go_wp2_with fail
   refine (ME.out _).mono ?_
   rintro e w2 ⟨rfl,rfl⟩
   exact ⟨rfl,.inr ⟨by first | rfl | trivial,rfl,FIN.out⟩⟩
 | some fl=>
   rw [hf] at fa
   simp only at fa
   have FA:=Lib.hid fa
   clear fa hf
   go_enter Tryz.func115,Tryz.ntmps115
   go_wp2_with fail
   refine (FA.out).mono ?_
   rintro e w1 ⟨v',rfl,fl1,b1⟩
   obtain ⟨cl,cf,h1,h2,h3⟩:=AFT.out w1 v' b1
   have hfl:=(fl1.mono (Nat.zero_le _)).kept (KPH.out w1 v' b1)
   obtain ⟨A1,L1,C1,rfl⟩:∃ A L C,v'=.slice A L C:=by obtain ⟨g,cap,C,hv,_⟩:=fl1;exact ⟨_,_,_,hv⟩
   have FIN:=Lib.hid (And.intro h1 (And.intro hfl h2))
   clear b1 h1 h2 h3 hfl fl1
   go_wp2
   go_end0
   exact .inl ⟨fl,_,rfl,rfl,FIN.out⟩
set_option maxRecDepth 100000 in
theorem dec3 {w X:World} {n:Nat} {v:Value} (m:Msg) (ho:m.ok) (s:ByteArray) (hs:s.size≤100000) (h:DB w n m.row v s X) (fl:List Fld) (h8:fl.length≤8) (hFL:FL 0 X v fl) :
 Calls Tryz.prog 116 #[.pointer (some ⟨n+4,0,none⟩),.pointer (some ⟨n+2,0,none⟩),.pointer (some ⟨n+1,0,none⟩)] X fun e X'=>
  (e=.returned (.tuple #[])∧∃ q',runs (m,s) fl=some q'∧DB w n q'.1.row v q'.2 X'∧q'.1.ok∧q'.2.size≤s.size∧B2 (n+1) (n+3) X X')∨(e=.panicked [flt 10]∧runs (m,s) fl=none∧B2 (n+1) (n+3) X X'):=by
 have c0:=(h.rr.cell 0).trans rfl
 have c1:=(h.rl.cell 0).trans rfl
 have th:=r_through (b:=n+1) (p:=n+3) fl h8 v X hFL (Nat.zero_le _) (by omega) (m,s) ho hs h.rb h.rp
 obtain ⟨A1,L1,C1,rfl⟩:∃ A L C,v=.slice A L C:=by obtain ⟨g,cap,C,hv,_⟩:=hFL;exact ⟨_,_,_,hv⟩
 have TH:=Lib.hid th
 have HH:=Lib.hid h
 clear th h hFL ho hs h8
 go_enter Tryz.func116,Tryz.ntmps116
 go_wp2_with fail
 refine (TH.out).mono ?_
 rintro e w1 (⟨rfl,q',h1,h2,h3,h4,h5,h6⟩ | ⟨rfl,h1,h2⟩)
 · have FIN:=Lib.hid (And.intro h1 (And.intro (HH.out.two h4 h2 h3) (And.intro h5 (And.intro h6 h4))))
   clear h1 h2 h3 h4 h5 h6
   go_wp2
   go_end0
   exact .inl ⟨rfl,q',FIN.out⟩
 · exact ⟨rfl,.inr ⟨rfl,h1,h2⟩⟩
set_option maxRecDepth 100000 in
theorem dec4 {w X:World} {n:Nat} {R:Array Value} {v:Value} {s:ByteArray} (h:DB w n R v s X) :
 Calls Tryz.prog 117 #[.pointer (some ⟨n+4,0,none⟩)] X fun e X'=>X=X'∧((s.size=0∧e=.returned (.tuple #[]))∨(s.size≠0∧e=.panicked [flt 11])):=by
 have c0:=(h.rr.cell 0).trans rfl
 have ea:=end_any ⟨n+3,0,none⟩ s X (row_at h.rp)
 have ME:=Lib.hid (fun x=>must_err 11 rfl x)
 by_cases hz:s.size=0
 · rw [if_pos hz] at ea
   have EA:=Lib.hid ea
   have HZ:=Lib.hid hz
   clear ea h hz
   go_enter Tryz.func117,Tryz.ntmps117
   go_wp2_with fail
   refine (EA.out).mono ?_
   rintro e w1 ⟨rfl,rfl⟩
   go_wp2_with fail
   refine (must_ok _).mono ?_
   rintro e w2 ⟨rfl,rfl⟩
   go_wp2
   go_end0
   exact ⟨rfl,.inl ⟨HZ.out,rfl⟩⟩
 · rw [if_neg hz] at ea
   have EA:=Lib.hid ea
   have HZ:=Lib.hid hz
   clear ea h hz
   go_enter Tryz.func117,Tryz.ntmps117
   go_wp2_with fail
   refine (EA.out).mono ?_
   rintro e w1 ⟨rfl,rfl⟩
   go_wp2_with fail
   refine (ME.out _).mono ?_
   rintro e w2 ⟨rfl,rfl⟩
   exact ⟨rfl,rfl,.inr ⟨HZ.out,rfl⟩⟩
set_option maxRecDepth 100000 in
theorem dec5 {w X:World} {n:Nat} {v:Value} {s:ByteArray} (m:Msg) (ho:m.ok) (h:DB w n m.row v s X) :
 Calls Tryz.prog 119 #[.pointer (some ⟨n+1,0,none⟩)] X fun e X'=>Below X.heap.size X X'∧((May m∧e=.returned (.tuple #[]))∨(¬ May m∧e=.panicked [flt 1])):=by
 have iX:=Msg.info ho.h32
 have ME:=Lib.hid (fun x=>must_err 1 rfl x)
 have rb:=h.rb
 by_cases hm:May m
 · have ma:=may_any m ho true ⟨fun _=>hm,fun _=>rfl⟩ X
   have MA:=Lib.hid ma
   have HM:=Lib.hid hm
   clear ma hm ho h
   generalize m.row=R at *
   go_enter Tryz.func119,Tryz.ntmps119
   go_wp2_with (first | (refine wpList_load_row (x:=.tmp 0) (ty:=59) (g:=n+1) (cs:=R) (t:=59) (fr:=(0,0)) ?_ ?_ ?_ _ rb Tryz.underlying59 rfl iX ?_;rfl;rfl;rfl) | fail)
   refine (MA.out).mono ?_
   rintro e w1 ⟨rfl,b1⟩
   have B1:=Lib.hid b1
   clear b1
   go_wp2
   go_end0
   exact ⟨B1.out,.inl ⟨HM.out,rfl⟩⟩
 · have ma:=may_any m ho false (Iff.intro (fun h=>Bool.noConfusion h) (fun h=>absurd h hm)) X
   have MA:=Lib.hid ma
   have HM:=Lib.hid hm
   clear ma hm ho h
   generalize m.row=R at *
   go_enter Tryz.func119,Tryz.ntmps119
   go_wp2_with (first | (refine wpList_load_row (x:=.tmp 0) (ty:=59) (g:=n+1) (cs:=R) (t:=59) (fr:=(0,0)) ?_ ?_ ?_ _ rb Tryz.underlying59 rfl iX ?_;rfl;rfl;rfl) | fail)
   refine (MA.out).mono ?_
   rintro e w1 ⟨rfl,b1⟩
   have B1:=Lib.hid b1
   clear b1
   go_wp2_with fail
   refine (ME.out _).mono ?_
   rintro e w2 ⟨rfl,rfl⟩
   exact ⟨rfl,B1.out,.inr ⟨HM.out,rfl⟩⟩
open Go.Proofs.YtdebnbgjgkbmaaaGreatDoor.Oc
open Go.RowKit Go.Shelf
set_option linter.unusedVariables false
def dk (s:ByteArray):Int:=rdN s 1
def dr (s:ByteArray):ByteArray:=rdS s 1
def DecOk (s:ByteArray) (m:Msg):Prop:=0<s.size∧∃ fl s',fieldsOf (dk s)=some fl∧runs (Msg.none (dk s),dr s) fl=some (m,s')∧s'.size=0∧May m
def DecBad (s:ByteArray) (ev:Int):Prop:=
 (s.size=0∧ev=10)∨(0<s.size∧fieldsOf (dk s)=none∧ev=70)∨(0<s.size∧∃ fl,fieldsOf (dk s)=some fl∧((runs (Msg.none (dk s),dr s) fl=none∧ev=10) ∨
   ∃ m s',runs (Msg.none (dk s),dr s) fl=some (m,s')∧((s'.size≠0∧ev=11)∨(s'.size=0∧¬ May m∧ev=1))))
def StD (w:World) (n:Nat) (s:ByteArray):Nat→World→Prop
 | 0,X=>DB w n (Msg.none 0).row (.slice none 0 0) s X
 | 1,X=>0<s.size∧DB w n (Msg.none (dk s)).row (.slice none 0 0) (dr s) X
 | 2,X=>0<s.size∧∃ fl v,fieldsOf (dk s)=some fl∧DB w n (Msg.none (dk s)).row v (dr s) X∧FL 0 X v fl
 | 3,X=>0<s.size∧∃ fl q v,fieldsOf (dk s)=some fl∧runs (Msg.none (dk s),dr s) fl=some q∧q.1.ok∧DB w n q.1.row v q.2 X
 | 4,X=>0<s.size∧∃ fl q v,fieldsOf (dk s)=some fl∧runs (Msg.none (dk s),dr s) fl=some q∧q.1.ok∧q.2.size=0∧DB w n q.1.row v q.2 X
 | _,X=>∃ m v r,DecOk s m∧m.ok∧DB w n m.row v r X
theorem enters50:Enters Tryz.prog 114:=enters_of Tryz.func114 (by kernel_rfl) rfl
theorem enters51:Enters Tryz.prog 115:=enters_of Tryz.func115 (by kernel_rfl) rfl
theorem enters52:Enters Tryz.prog 116:=enters_of Tryz.func116 (by kernel_rfl) rfl
theorem enters53:Enters Tryz.prog 117:=enters_of Tryz.func117 (by kernel_rfl) rfl
theorem enters54:Enters Tryz.prog 119:=enters_of Tryz.func119 (by kernel_rfl) rfl
def fkD:Nat→FuncId
 | 0=>114
 | 1=>115
 | 2=>116
 | 3=>117
 | _=>119
def capD (n:Nat):Nat→Array Value
 | 0=>#[.pointer (some ⟨n+4,0,none⟩),.pointer (some ⟨n+1,0,none⟩)]
 | 1=>#[.pointer (some ⟨n+1,0,none⟩),.pointer (some ⟨n+2,0,none⟩)]
 | 2=>#[.pointer (some ⟨n+4,0,none⟩),.pointer (some ⟨n+2,0,none⟩),.pointer (some ⟨n+1,0,none⟩)]
 | 3=>#[.pointer (some ⟨n+4,0,none⟩)]
 | _=>#[.pointer (some ⟨n+1,0,none⟩)]
theorem StD.db {w X:World} {n k:Nat} {s:ByteArray} (h:StD w n s k X):∃ R v r,DB w n R v r X:=by
 match k,h with
 | 0,h=>exact ⟨_,_,_,h⟩
 | 1,h=>exact ⟨_,_,_,h.2⟩
 | 2,h=>obtain ⟨_,fl,v,_,h,_⟩:=h;exact ⟨_,_,_,h⟩
 | 3,h=>obtain ⟨_,fl,q,v,_,_,_,h⟩:=h;exact ⟨_,_,_,h⟩
 | 4,h=>obtain ⟨_,fl,q,v,_,_,_,_,h⟩:=h;exact ⟨_,_,_,h⟩
 | k+5,h=>obtain ⟨m,v,r,_,_,h⟩:=h;exact ⟨_,_,_,h⟩
theorem dk_ok (s:ByteArray):(Msg.none (dk s)).ok:=by
 have h0:0≤dk s:=rdN_nonneg s 1
 have h1:dk s<256:=rdN_lt s 1
 exact ⟨rfl,fun x hx=>z_in hx,by show _≤dk s;omega,by show dk s≤_;omega,y0,y1,y0,y2,y0,y2,y3,y4,y3,y4⟩
theorem dr_le (s:ByteArray):(dr s).size≤s.size:=rdS_le' _ _
theorem dec_try {w W:World} {n:Nat} {s:ByteArray} (hs:s.size≤100000) (h:DB w n (Msg.none 0).row (.slice none 0 0) s W) :
 Calls Tryz.prog 102 #[.slice (some ⟨n+5,0,none⟩) 5 5] W fun e W'=>(e=.returned (.int .i64 0)∧∃ m v r,DecOk s m∧m.ok∧DB w n m.row v r W')∨(∃ ev,e=.returned (.int .i64 ev)∧(ev==0)=false∧DecBad s ev∧DX w n W'):=by
 have hsz:n+6≤W.heap.size:=h.rg.lt
 have hr:=dr_le s
 refine (try_any (g:=n+5) (n:=5) (cap:=5) fkD (capD n) W (StD w n s) (fun ev X=>DecBad s ev∧DX w n X) (by decide) (fun k hk=>?_) (fun k X hk hX=>?_) (fun k X X' q hk hq hb hX=>?_) (fun ev X X' q hq hb hX=>⟨hX.1,hX.2.but (by omega) hb⟩) (fun k hk X hX=>?_) h).mono ?_
 · match k,hk with
   | 0,_=>exact enters50
   | 1,_=>exact enters51
   | 2,_=>exact enters52
   | 3,_=>exact enters53
   | 4,_=>exact enters54
 · obtain ⟨R,v,r,hd⟩:=hX.db
   match k,hk with
   | 0,_=>exact (hd.rg.cell 0).trans rfl
   | 1,_=>exact (hd.rg.cell 1).trans rfl
   | 2,_=>exact (hd.rg.cell 2).trans rfl
   | 3,_=>exact (hd.rg.cell 3).trans rfl
   | 4,_=>exact (hd.rg.cell 4).trans rfl
 · rcases hk with rfl | rfl
   · exact DB.but hX (by omega) hb
   · obtain ⟨m,v,r,h1,h2,h3⟩:=hX
     exact ⟨m,v,r,h1,h2,h3.but (by omega) hb⟩
 · match k,hk with
   | 0,_=>
     have hX:DB w n (Msg.none 0).row (.slice none 0 0) s X:=hX
     refine (dec1 hX hs).mono ?_
     rintro e X' (⟨h1,rfl,h2,h3⟩ | ⟨h1,rfl,h3⟩)
     · exact .inl ⟨rfl,⟨h1,h2⟩,h3.kp hX.rb hX.rp rfl rfl⟩
     · exact .inr ⟨10,rfl,rfl,⟨.inl ⟨h1,rfl⟩,hX.dx2 h3⟩,h3.kp hX.rb hX.rp rfl rfl⟩
   | 1,_=>
     obtain ⟨h0,hd⟩:=hX
     refine (dec2 (dk s) hd).mono ?_
     rintro e X' (⟨fl,v',h1,rfl,h2,h3,h4⟩ | ⟨h1,rfl,h4⟩)
     · exact .inl ⟨rfl,⟨h0,fl,v',h1,h2,h3⟩,Kp.of_butT h4 hd.rl rfl⟩
     · exact .inr ⟨70,rfl,rfl,⟨.inr (.inl ⟨h0,h1,rfl⟩),h4.row hd.r0 (by omega),h4.below hd.bel (by omega) (by have:=hd.rg.lt;omega)⟩,Kp.of_butT h4 hd.rl rfl⟩
   | 2,_=>
     obtain ⟨h0,fl,v,h1,hd,hfl⟩:=hX
     refine (dec3 (Msg.none (dk s)) (dk_ok s) (dr s) (by omega) hd fl (fields_len h1) hfl).mono ?_
     rintro e X' (⟨rfl,q,h2,h3,h4,_,h5⟩ | ⟨rfl,h2,h5⟩)
     · exact .inl ⟨rfl,⟨h0,fl,q,v,h1,h2,h4,h3⟩,h5.kp hd.rb hd.rp rfl rfl⟩
     · exact .inr ⟨10,rfl,rfl,⟨.inr (.inr ⟨h0,fl,h1,.inl ⟨h2,rfl⟩⟩),hd.dx2 h5⟩,h5.kp hd.rb hd.rp rfl rfl⟩
   | 3,_=>
     obtain ⟨h0,fl,q,v,h1,h2,h3,hd⟩:=hX
     refine (dec4 hd).mono ?_
     rintro e X' ⟨rfl,⟨h4,rfl⟩ | ⟨h4,rfl⟩⟩
     · exact .inl ⟨rfl,⟨h0,fl,q,v,h1,h2,h3,h4,hd⟩,Kp.refl _ _⟩
     · exact .inr ⟨11,rfl,rfl,⟨.inr (.inr ⟨h0,fl,h1,.inr ⟨q.1,q.2,h2,.inl ⟨h4,rfl⟩⟩⟩),hd.dx⟩,Kp.refl _ _⟩
   | 4,_=>
     obtain ⟨h0,fl,q,v,h1,h2,h3,h4,hd⟩:=hX
     refine (dec5 q.1 h3 hd).mono ?_
     rintro e X' ⟨hb,⟨h5,rfl⟩ | ⟨h5,rfl⟩⟩
     · exact .inl ⟨rfl,⟨q.1,v,q.2,⟨h0,fl,q.2,h1,h2,h4,h5⟩,h3,hd.same hb⟩,Kp.of_below hb⟩
     · exact .inr ⟨1,rfl,rfl,⟨.inr (.inr ⟨h0,fl,h1,.inr ⟨q.1,q.2,h2,.inr ⟨h4,h5,rfl⟩⟩⟩),(hd.same hb).dx⟩,Kp.of_below hb⟩
 · rintro e W' (⟨rfl,h1⟩ | ⟨ev,rfl,h1,h2⟩)
   · exact .inl ⟨rfl,h1⟩
   · exact .inr ⟨ev,rfl,h1,h2⟩
open Go.Proofs.YtdebnbgjgkbmaaaGreatDoor.Oc
open Go.RowKit Go.Shelf
set_option linter.unusedVariables false
def Deced (s:ByteArray) (w:World) (e:Ending) (w':World):Prop:=
 ((∃ m,DecOk s m∧m.ok∧e=.returned (.tuple #[.agg m.row,.int .i64 0]))∨(∃ ev,(ev==0)=false∧DecBad s ev∧e=.returned (.tuple #[.agg (Msg.none 0).row,.int .i64 ev])))∧Below w.heap.size w w'
set_option maxRecDepth 100000 in
set_option maxHeartbeats 4000000 in
theorem dec_any (s:ByteArray) (hs:s.size≤100000) (w:World):Calls Tryz.prog 31 #[.string s] w (Deced s w):=by
 obtain ⟨n,hn⟩:∃ n,w.heap.size=n:=⟨_,rfl⟩
 obtain ⟨w1,hw1⟩:∃ w1,w.alloc (.cells (Msg.none 0).row 59)=w1:=⟨_,rfl⟩
 have s1:w1.heap.size=n+1:=by rw [←hw1];simp [hn]
 obtain ⟨w2,hw2⟩:∃ w2,w1.alloc (.cells (Msg.none 0).row 59)=w2:=⟨_,rfl⟩
 have s2:w2.heap.size=n+2:=by rw [←hw2];simp [s1]
 obtain ⟨w3,hw3⟩:∃ w3,w2.alloc (.cells #[.slice none 0 0] 202)=w3:=⟨_,rfl⟩
 have s3:w3.heap.size=n+3:=by rw [←hw3];simp [s2]
 obtain ⟨w4,hw4⟩:∃ w4,w3.alloc (.cells #[.string s] 228)=w4:=⟨_,rfl⟩
 have s4:w4.heap.size=n+4:=by rw [←hw4];simp [s3]
 obtain ⟨w5,hw5⟩:∃ w5,w4.alloc (.cells #[.pointer (some ⟨n+3,0,none⟩)] 81)=w5:=⟨_,rfl⟩
 have s5:w5.heap.size=n+5:=by rw [←hw5];simp [s4]
 obtain ⟨w6,hw6⟩:∃ w6,w5.alloc (.cells #[.func (.func 114) #[] #[.pointer (some ⟨n+4,0,none⟩),.pointer (some ⟨n+1,0,none⟩)],.func (.func 115) #[] #[.pointer (some ⟨n+1,0,none⟩),.pointer (some ⟨n+2,0,none⟩)],.func (.func 116) #[] #[.pointer (some ⟨n+4,0,none⟩),.pointer (some ⟨n+2,0,none⟩),.pointer (some ⟨n+1,0,none⟩)],.func (.func 117) #[] #[.pointer (some ⟨n+4,0,none⟩)],.func (.func 119) #[] #[.pointer (some ⟨n+1,0,none⟩)]] 1)=w6:=⟨_,rfl⟩
 have b6:Below n w w6:=by
  rw [←hw6,← hw5,← hw4,← hw3,← hw2,← hw1,← hn]
  exact ((((((Below.refl _ w).alloc (Nat.le_refl _) _).alloc (by simp) _).alloc (by simp;omega) _).alloc (by simp;omega) _).alloc (by simp;omega) _).alloc (by simp;omega) _
 have q1:M.RowAt w1 n 59 (Msg.none 0).row:=by rw [←hw1,← hn];exact M.RowAt.new w 59 _
 have q2:M.RowAt w2 (n+1) 59 (Msg.none 0).row:=by rw [←hw2,← s1];exact M.RowAt.new w1 59 _
 have q3:M.RowAt w3 (n+2) 202 #[.slice none 0 0]:=by rw [←hw3,← s2];exact M.RowAt.new w2 202 _
 have q4:M.RowAt w4 (n+3) 228 #[.string s]:=by rw [←hw4,← s3];exact M.RowAt.new w3 228 _
 have q5:M.RowAt w5 (n+4) 81 #[.pointer (some ⟨n+3,0,none⟩)]:=by rw [←hw5,← s4];exact M.RowAt.new w4 81 _
 have t2:∀ {k:Nat} {t:TypeId} {C:Array Value},M.RowAt w1 k t C→M.RowAt w2 k t C:=fun h=>by rw [←hw2];exact h.alloc _
 have t3:∀ {k:Nat} {t:TypeId} {C:Array Value},M.RowAt w2 k t C→M.RowAt w3 k t C:=fun h=>by rw [←hw3];exact h.alloc _
 have t4:∀ {k:Nat} {t:TypeId} {C:Array Value},M.RowAt w3 k t C→M.RowAt w4 k t C:=fun h=>by rw [←hw4];exact h.alloc _
 have t5:∀ {k:Nat} {t:TypeId} {C:Array Value},M.RowAt w4 k t C→M.RowAt w5 k t C:=fun h=>by rw [←hw5];exact h.alloc _
 have t6:∀ {k:Nat} {t:TypeId} {C:Array Value},M.RowAt w5 k t C→M.RowAt w6 k t C:=fun h=>by rw [←hw6];exact h.alloc _
 have db:DB w n (Msg.none 0).row (.slice none 0 0) s w6:=⟨t6 (t5 (t4 (t3 (t2 q1)))),t6 (t5 (t4 (t3 q2))),t6 (t5 (t4 q3)),t6 (t5 q4),t6 q5,by rw [←hw6,← s5];exact M.RowAt.new w5 1 _,b6⟩
 have T:=Lib.hid (dec_try hs db)
 have nw:=new_any s w3
 rw [s3,hw4] at nw
 have NW:=Lib.hid nw
 have iZ:=Msg.info (m:=Msg.none 0) rfl
 have oZ:=Msg.one (m:=Msg.none 0)
 have zrow:=none_row 0
 rw [zrow] at hw1 hw2
 have HN:=Lib.hid hn;have HW1:=Lib.hid hw1;have HW2:=Lib.hid hw2;have HW3:=Lib.hid hw3;have HW5:=Lib.hid hw5;have HW6:=Lib.hid hw6
 have S1:=Lib.hid s1;have S2:=Lib.hid s2;have S4:=Lib.hid s4;have S5:=Lib.hid s5
 have hmf:=mkf
 unfold Deced
 rw [hn]
 clear nw t2 t3 t4 t5 t6 q1 q2 q3 q4 q5 db b6 hn hw1 hw2 hw3 hw4 hw5 hw6 s1 s2 s3 s4 s5 hs
 have ZR:=Lib.hid zrow
 clear zrow
 obtain ⟨Z,hZ⟩:∃ Z,(Msg.none 0).row=Z:=⟨_,rfl⟩
 rw [hZ] at iZ oZ ZR ⊢
 have HZZ:=Lib.hid hZ
 clear hZ
 go_enter Tryz.func31,Tryz.ntmps31
 go_wp2_with (first | (rw [HN.out,HW1.out]) | (rw [S1.out,HW2.out]) | (rw [S2.out,HW3.out]) | ((with_reducible refine (NW.out).mono ?_);rintro e x ⟨rfl,rfl⟩) | (rw [S4.out,HW5.out]) | (rw [S5.out,HW6.out]) | fail)
 refine (T.out).mono ?_
 rintro e w7 (⟨rfl,m,v,r,h1,h2,h3⟩ | ⟨ev,rfl,hz,h1,h2⟩)
 · have r0:=h3.r0
   rw [HZZ.out] at r0
   have rb:=h3.rb
   have iX:=Msg.info h2.h32
   have oX:=Msg.one (m:=m)
   have zX:Z.size=m.row.size:=by rw [Msg.size h2.h32,ZR.out];rfl
   have H1:=Lib.hid h1;have H2:=Lib.hid h2;have H3:=Lib.hid h3
   have r1:=r0.setRow m.row
   have b1:Below n w (w7.setRow n m.row):=(M.But.refl n w7).setRow (.inl rfl) m.row |>.below h3.bel (Nat.le_refl _) (by have:=h3.rg.lt;omega)
   clear h1 h2 h3
   obtain ⟨R,hR⟩:∃ R,m.row=R:=⟨_,rfl⟩
   rw [hR] at rb iX oX zX r1 b1
   have HR:=Lib.hid hR
   clear hR
   go_wp2_with (first | (refine wpList_load_row (x:=.tmp 4) (ty:=59) (g:=n+1) (cs:=R) (t:=59) (fr:=(0,0)) ?_ ?_ ?_ _ rb Tryz.underlying59 rfl iX ?_;rfl;rfl;rfl) | (refine wpList_store_row (x:=.tmp 2) (y:=.tmp 21) (cells:=R) (old:=Z) (t:=59) (ty:=59) (g:=n) ?_ ?_ ?_ ?_ r0 iX zX oX ?_;rfl;rfl;rfl;rfl) | fail)
   have hload:=run_loadVar_row (P:=Tryz.prog) _ n 59 59 R (0,0) _ r1 Tryz.underlying59 rfl iX
   exact bodyPost_ret (v:=.tuple #[.agg R,.int .i64 0]) (by simp [results,Tryz.results31,asAddr,hload]) rfl ⟨.inl ⟨m,H1.out,H2.out,by rw [HR.out]⟩,b1⟩
 · have r0:=h2.1
   rw [HZZ.out] at r0
   have r1:=r0.setRow Z
   have b1:Below n w (w7.setRow n Z):=(M.But.refl n w7).setRow (.inl rfl) Z |>.below h2.2 (Nat.le_refl _) (by have:=r0.lt;omega)
   have H1:=Lib.hid h1;have HZ:=Lib.hid hz
   have hz':(ev != 0)=true:=by simpa using hz
   clear h1 h2
   go_wp2_with (first | (refine wpList_store_row (x:=.tmp 2) (y:=.tmp 19) (cells:=Z) (old:=Z) (t:=59) (ty:=59) (g:=n) ?_ ?_ ?_ ?_ r0 iZ rfl oZ ?_;rfl;rfl;rfl;(rw [ZR.out];rfl)) | fail)
   have hload:=run_loadVar_row (P:=Tryz.prog) _ n 59 59 Z (0,0) _ r1 Tryz.underlying59 rfl iZ
   exact bodyPost_ret (v:=.tuple #[.agg Z,.int .i64 ev]) (by simp [results,Tryz.results31,asAddr,hload]) rfl ⟨.inr ⟨ev,HZ.out,H1.out,rfl⟩,b1⟩
open Go.Proofs.YtdebnbgjgkbmaaaGreatDoor.Oc
open Go.RowKit Go.Shelf
set_option linter.unusedVariables false
theorem kinds (k:Int):k=1∨k=2∨k=3∨k=4∨k=5∨k=6∨k=7∨k=8∨k=9∨¬ (1≤k∧k≤9):=by omega
theorem empty_app (s:ByteArray):(⟨#[]⟩:ByteArray)++s=s:=by apply ByteArray.ext;simp [ByteArray.data_append]
theorem fields_out {k:Int} (h:¬ (1≤k∧k≤9)):fieldsOf k=none:=by
 unfold fieldsOf
 rw [if_neg (by omega),if_neg (by omega),if_neg (by omega),if_neg (by omega),if_neg (by omega),if_neg (by omega),if_neg (by omega),if_neg (by omega),if_neg (by omega)]
def bytesL (m:Msg) (fl:List Fld):ByteArray:=fl.foldr (fun f t=>fbytes m f++t) ⟨#[]⟩
theorem app_nil (s:ByteArray):s++(⟨#[]⟩:ByteArray)=s:=by apply ByteArray.ext;simp [ByteArray.data_append]
theorem app_assoc (a b c:ByteArray):a++b++c=a++(b++c):=by apply ByteArray.ext;simp [ByteArray.data_append]
theorem cat_bytes (m:Msg):∀ (fl:List Fld) (s:ByteArray),cat m s fl=s++bytesL m fl
 | [],s=>(app_nil s).symm
 | f::r,s=>by
   show cat m (s++fbytes m f) r=s++(fbytes m f++bytesL m r)
   rw [cat_bytes m r,app_assoc]
def put (q m:Msg):Fld→Msg
 | .chan=>{ q with chan:=m.chan }
 | .id=>{ q with id:=m.id }
 | .amount=>{ q with amount:=m.amount }
 | .hash=>{ q with hash:=m.hash }
 | .expiry=>{ q with expiry:=m.expiry }
 | .number=>{ q with number:=m.number }
theorem numB_low {n:Int} {wd:Nat} (h1:1≤wd) (h8:wd≤8) (h0:0≤n) (h:n<2 ^ (8*(wd:Int)).toNat):numB n (wd:Int)=low n wd:=by
 unfold numB
 rw [if_neg,Int.toNat_natCast,top_low]
 rintro (q | q | q)
 · omega
 · omega
 · exact q (Int.ediv_eq_zero_of_lt h0 h)
theorem rh_app (l:List Int) (h:l.length=32) (hin:∀ n∈l,0≤n∧n≤255) (R:ByteArray):rhH (strOfNums l++R)=l∧rhE (strOfNums l++R)=0∧rhS (strOfNums l++R)=R:=by
 have hs:(strOfNums l).size=32:=by rw [strOfNums_size,h]
 have hsz:(strOfNums l++R).size=32+R.size:=by rw [ByteArray.size_append,hs]
 have e0:=(rh_hash l h hin).1
 unfold rhH at e0 ⊢
 unfold rhE rhS
 rw [if_neg (by omega)] at e0
 rw [if_neg (by omega),if_neg (by omega),if_neg (by omega)]
 refine ⟨?_,rfl,?_⟩
 · have:(strOfNums l++R).extract 0 32=(strOfNums l).extract 0 32:=by
    apply ByteArray.ext
    have hd:(strOfNums l).data.size=32:=hs
    rw [ByteArray.data_extract,ByteArray.data_extract,ByteArray.data_append,Array.extract_append]
    simp [hd]
   rw [this];exact e0
 · rw [hsz]
   have:=back_of (strOfNums l) R
   rw [hs] at this
   exact this
theorem rdF_put (q m:Msg) (ho:m.ok) (ft:Fits m) (f:Fld) (R:ByteArray):rdF q (fbytes m f++R) f=(put q m f,R,0):=by
 have e0:=ft.e0;have e1:=ft.e1;have n0:=ft.n0;have n1:=ft.n1
 cases f
 · obtain ⟨h1,h2,h3⟩:=rdN_low m.chan 4 R ho.c0 (by have:=ho.c1;show m.chan<4294967296;omega) (by decide) (by decide)
   have e:=numB_low (n:=m.chan) (wd:=4) (by decide) (by decide) ho.c0 (by have:=ho.c1;show m.chan<4294967296;omega)
   simp only [rdF,fbytes,put]
   rw [show numB m.chan 4=low m.chan 4 from e,show rdN _ (4:Int)=_ from h1,show rdE _ (4:Int)=_ from h2,show rdS _ (4:Int)=_ from h3]
 · obtain ⟨h1,h2,h3⟩:=rdN_low m.id 8 R ho.i0 (by have:=ho.i1;show m.id<18446744073709551616;omega) (by decide) (by decide)
   have e:=numB_low (n:=m.id) (wd:=8) (by decide) (by decide) ho.i0 (by have:=ho.i1;show m.id<18446744073709551616;omega)
   simp only [rdF,fbytes,put]
   rw [show numB m.id 8=low m.id 8 from e,show rdN _ (8:Int)=_ from h1,show rdE _ (8:Int)=_ from h2,show rdS _ (8:Int)=_ from h3]
 · obtain ⟨h1,h2,h3⟩:=rdN_low m.amount 8 R ho.a0 (by have:=ho.a1;show m.amount<18446744073709551616;omega) (by decide) (by decide)
   have e:=numB_low (n:=m.amount) (wd:=8) (by decide) (by decide) ho.a0 (by have:=ho.a1;show m.amount<18446744073709551616;omega)
   simp only [rdF,fbytes,put]
   rw [show numB m.amount 8=low m.amount 8 from e,show rdN _ (8:Int)=_ from h1,show rdE _ (8:Int)=_ from h2,show rdS _ (8:Int)=_ from h3]
 · obtain ⟨h1,h2,h3⟩:=rh_app m.hash ho.h32 ho.hb R
   simp only [rdF,fbytes,put]
   rw [h1,h2,h3]
 · obtain ⟨h1,h2,h3⟩:=rdN_low m.expiry 4 R e0 (by show m.expiry<4294967296;omega) (by decide) (by decide)
   have e:=numB_low (n:=m.expiry) (wd:=4) (by decide) (by decide) e0 (by show m.expiry<4294967296;omega)
   simp only [rdF,fbytes,put]
   rw [show numB m.expiry 4=low m.expiry 4 from e,show rdN _ (4:Int)=_ from h1,show rdE _ (4:Int)=_ from h2,show rdS _ (4:Int)=_ from h3]
 · obtain ⟨h1,h2,h3⟩:=rdN_low m.number 2 R n0 (by show m.number<65536;omega) (by decide) (by decide)
   have e:=numB_low (n:=m.number) (wd:=2) (by decide) (by decide) n0 (by show m.number<65536;omega)
   simp only [rdF,fbytes,put]
   rw [show numB m.number 2=low m.number 2 from e,show rdN _ (2:Int)=_ from h1,show rdE _ (2:Int)=_ from h2,show rdS _ (2:Int)=_ from h3]
theorem runs_bytes (m:Msg) (ho:m.ok) (ft:Fits m) (R:ByteArray):∀ (fl:List Fld) (q:Msg),runs (q,bytesL m fl++R) fl=some (fl.foldl (fun q f=>put q m f) q,R)
 | [],q=>by
   show some (q,(⟨#[]⟩:ByteArray)++R)=_
   rw [empty_app];rfl
 | f::r,q=>by
   show (rd1 (q,fbytes m f++bytesL m r++R) f).bind _=_
   rw [app_assoc]
   have h:=rdF_put q m ho ft f (bytesL m r++R)
   have h1:rd1 (q,fbytes m f++(bytesL m r++R)) f=some (put q m f,bytesL m r++R):=by
    unfold rd1
    simp only [h]
    rfl
   rw [h1]
   exact runs_bytes m ho ft R r (put q m f)
theorem put_all {m:Msg} {fl:List Fld} (hf:fieldsOf m.kind=some fl) (hm:MayP m fl):fl.foldl (fun q f=>put q m f) (Msg.none m.kind)=m:=by
 have hz:=hm.z
 clear hm
 obtain ⟨k,c,i,a,h,e,n⟩:=m
 rcases kinds k with rfl | rfl | rfl | rfl | rfl | rfl | rfl | rfl | rfl | hk
 case inr.inr.inr.inr.inr.inr.inr.inr.inr=>rw [fields_out hk] at hf;cases hf
 all_goals
  obtain rfl:=Option.some.inj hf
  simp only [zeroAll,List.foldl,Msg.zero,Msg.none,Msg.mk.injEq,true_and,and_true] at hz
  simp only [List.foldl,put,Msg.none,Msg.mk.injEq,true_and,and_true]
  first
   | trivial
   | exact hz.symm
   | exact ⟨hz.1.symm,hz.2.symm⟩
   | exact ⟨hz.1.symm,hz.2.1.symm,hz.2.2.symm⟩
   | exact ⟨hz.1.symm,hz.2.1.symm,hz.2.2.1.symm,hz.2.2.2.symm⟩
   | exact ⟨hz.1.symm,hz.2.1.symm,hz.2.2.1.symm,hz.2.2.2.1.symm,hz.2.2.2.2.symm⟩
theorem kindB_low {m:Msg} (h0:0≤m.kind) (h9:m.kind≤9):kindB m=strOfNums (low m.kind 1):=by
 unfold kindB
 rw [empty_app,show numB m.kind 1=low m.kind 1 from numB_low (wd:=1) (by decide) (by decide) h0 (by show m.kind<256;omega)]
theorem enc_more {m:Msg} {fl:List Fld} (ho:m.ok) (hf:fieldsOf m.kind=some fl) (hm:MayP m fl) (R:ByteArray) :
 0<(encB m fl++R).size∧dk (encB m fl++R)=m.kind∧runs (Msg.none m.kind,dr (encB m fl++R)) fl=some (m,R):=by
 obtain ⟨h0,h9⟩:=may_kind hf
 have hb:encB m fl++R=strOfNums (low m.kind 1)++(bytesL m fl++R):=by
  unfold encB;rw [cat_bytes,kindB_low (by omega) h9,app_assoc]
 obtain ⟨h1,h2,h3⟩:=rdN_low m.kind 1 (bytesL m fl++R) (by omega) (by show m.kind<256;omega) (by decide) (by decide)
 refine ⟨?_,?_,?_⟩
 · rw [hb,ByteArray.size_append,strOfNums_size,low_len];omega
 · rw [hb];exact h1
 · have:dr (encB m fl++R)=bytesL m fl++R:=by rw [hb];exact h3
   rw [this,runs_bytes m ho ⟨hm.e0,hm.e1,hm.n0,hm.n1⟩ R fl,put_all hf hm]
theorem enc_dec {m:Msg} {fl:List Fld} (ho:m.ok) (hf:fieldsOf m.kind=some fl) (hm:MayP m fl):DecOk (encB m fl) m:=by
 obtain ⟨h1,h2,h3⟩:=enc_more ho hf hm ⟨#[]⟩
 rw [app_nil] at h1 h2 h3
 exact ⟨h1,fl,⟨#[]⟩,by rw [h2];exact hf,by rw [h2];exact h3,rfl,⟨fl,hf,hm⟩⟩
theorem dec_one {s:ByteArray} {m m':Msg} (h:DecOk s m) (h':DecOk s m'):m=m':=by
 obtain ⟨_,fl,r,h1,h2,_⟩:=h
 obtain ⟨_,fl',r',g1,g2,_⟩:=h'
 rw [h1] at g1;cases g1
 rw [h2] at g2;cases g2;rfl
theorem dec_ok_bad {s:ByteArray} {m:Msg} {ev:Int} (h:DecOk s m) (h':DecBad s ev):False:=by
 obtain ⟨h0,fl,r,h1,h2,h3,h4⟩:=h
 rcases h' with ⟨g,_⟩ | ⟨_,g,_⟩ | ⟨_,fl',g1,g⟩
 · omega
 · rw [h1] at g;cases g
 · rw [h1] at g1;cases g1
   rw [h2] at g
   rcases g with ⟨g,_⟩ | ⟨m',r',g,g'⟩
   · cases g
   · cases g
     rcases g' with ⟨g',_⟩ | ⟨_,g',_⟩
     · exact g' h3
     · exact g' h4
end Go.Proofs.YtdebnbgjgkbmaaaGreatDoor.Wi
namespace Go.Proofs.YtdebnbgjgkbmaaaGreatDoor
namespace SX
open Go Go.RowKit Go.Proofs.YtdebnbgjgkbmaaaGreatDoor.Oc Go.Proofs.YtdebnbgjgkbmaaaGreatDoor.Wi
set_option linter.unusedVariables false
structure NM where
 k:Nat
 c:Nat
 i:Nat
 a:Nat
 hs:List Nat
 e:Nat
 n:Nat
def NM.msg (m:NM):Msg:=⟨m.k,m.c,m.i,m.a,m.hs.map Int.ofNat,m.e,m.n⟩
noncomputable def isIn (f:Fld):List Fld→Bool:=List.rec (motive:=fun _=>Bool) false (fun g _ ih=>Bool.rec (motive:=fun _=>Bool) ih true (Nat.beq f.ctorIdx g.ctorIdx))
noncomputable def allLt (n:Nat):List Nat→Bool:=List.rec (motive:=fun _=>Bool) true (fun x _ ih=>Bool.rec (motive:=fun _=>Bool) false ih (Nat.blt x n))
noncomputable def allZ:List Nat→Bool:=List.rec (motive:=fun _=>Bool) true (fun x _ ih=>Bool.rec (motive:=fun _=>Bool) false ih (Nat.beq x 0))
theorem allLt_mem {n:Nat}:∀ {l:List Nat},allLt n l=true→∀ x∈l,x<n
 | [],_,x,hx=>by cases hx
 | y::l,h,x,hx=>by
   have h':Bool.rec (motive:=fun _=>Bool) false (allLt n l) (Nat.blt y n)=true:=h
   cases hb:Nat.blt y n with
   | false=>rw [hb] at h';cases h'
   | true=>
     rw [hb] at h'
     rcases List.mem_cons.1 hx with rfl | hx
     · exact blt_lt hb
     · exact allLt_mem h' x hx
theorem allZ_mem:∀ {l:List Nat},allZ l=true→l=List.replicate l.length 0
 | [],_=>rfl
 | y::l,h=>by
   have h':Bool.rec (motive:=fun _=>Bool) false (allZ l) (Nat.beq y 0)=true:=h
   cases hb:Nat.beq y 0 with
   | false=>rw [hb] at h';cases h'
   | true=>
     rw [hb] at h'
     rw [Nat.eq_of_beq_eq_true hb,List.length_cons,List.replicate_succ,← allZ_mem h']
noncomputable def orZ (b:Bool) (n:Nat):Bool:=Bool.rec (motive:=fun _=>Bool) (Nat.beq n 0) true b
noncomputable def NM.good (m:NM) (fl:List Fld):Bool:=
 and (Nat.beq m.hs.length 32) (and (allLt 256 m.hs) (and (Nat.ble m.c 4294967295) (and (Nat.ble m.i 18446744073709551615) (and (Nat.ble m.a 1125899906842624) (and (Nat.ble m.e 1073741824) (and (Nat.ble m.n 65535) (and (isIn .chan fl) (and
  (orZ (isIn .id fl) m.i) (and (orZ (isIn .amount fl) m.a) (and (Bool.rec (motive:=fun _=>Bool) (allZ m.hs) true (isIn .hash fl)) (and (orZ (isIn .expiry fl) m.e) (orZ (isIn .number fl) m.n))))))))))))
noncomputable def fldsN (k:Nat):Option (List Fld):=
 Bool.rec (motive:=fun _=>Option (List Fld)) (Bool.rec (motive:=fun _=>Option (List Fld)) (Bool.rec (motive:=fun _=>Option (List Fld)) (Bool.rec (motive:=fun _=>Option (List Fld)) (Bool.rec (motive:=fun _=>Option (List Fld)) (Bool.rec (motive:=fun _=>Option (List Fld)) none (some [.chan,.amount]) (Nat.beq k 1)) (some [.chan,.id,.number]) (Nat.beq k 5)) (some [.chan,.number,.hash]) (Nat.beq k 7)) (some [.chan,.number,.hash]) (Nat.beq k 6)) (some [.chan,.id,.hash]) (Nat.beq k 4)) (some [.chan,.id,.amount,.hash,.expiry]) (Nat.beq k 3)
theorem fldsN_eq {k:Nat} {fl:List Fld} (h:fldsN k=some fl):fieldsOf (k:Int)=some fl∧k≤9:=by
 unfold fldsN at h
 cases h3:Nat.beq k 3 with
 | true=>rw [h3] at h;cases h;obtain rfl:=Nat.eq_of_beq_eq_true h3;exact ⟨rfl,by decide⟩
 | false=>
 rw [h3] at h
 cases h4:Nat.beq k 4 with
 | true=>rw [h4] at h;cases h;obtain rfl:=Nat.eq_of_beq_eq_true h4;exact ⟨rfl,by decide⟩
 | false=>
 rw [h4] at h
 cases h6:Nat.beq k 6 with
 | true=>rw [h6] at h;cases h;obtain rfl:=Nat.eq_of_beq_eq_true h6;exact ⟨rfl,by decide⟩
 | false=>
 rw [h6] at h
 cases h7:Nat.beq k 7 with
 | true=>rw [h7] at h;cases h;obtain rfl:=Nat.eq_of_beq_eq_true h7;exact ⟨rfl,by decide⟩
 | false=>
 rw [h7] at h
 cases h5:Nat.beq k 5 with
 | true=>rw [h5] at h;cases h;obtain rfl:=Nat.eq_of_beq_eq_true h5;exact ⟨rfl,by decide⟩
 | false=>
 rw [h5] at h
 cases h1:Nat.beq k 1 with
 | true=>rw [h1] at h;cases h;obtain rfl:=Nat.eq_of_beq_eq_true h1;exact ⟨rfl,by decide⟩
 | false=>rw [h1] at h;cases h
theorem isIn_mem {f:Fld}:∀ {fl:List Fld},isIn f fl=true→f∈fl
 | [],h=>by cases h
 | g::fl,h=>by
   have h':Bool.rec (motive:=fun _=>Bool) (isIn f fl) true (Nat.beq f.ctorIdx g.ctorIdx)=true:=h
   cases hb:Nat.beq f.ctorIdx g.ctorIdx with
   | false=>rw [hb] at h';exact List.mem_cons_of_mem _ (isIn_mem h')
   | true=>
     have:=Nat.eq_of_beq_eq_true hb
     have e:f=g:=by cases f<;>cases g<;>first | rfl | (cases this)
     rw [e];exact List.mem_cons_self
theorem zeroAll_of (fl:List Fld):∀ (m:Msg),m.hash.length=32→(.chan∈fl∨m.chan=0)→(.id∈fl∨m.id=0)→(.amount∈fl∨m.amount=0)→(.hash∈fl∨m.hash=z32)→(.expiry∈fl∨m.expiry=0)→(.number∈fl∨m.number=0)→zeroAll m fl=Msg.none m.kind:=by
 induction fl with
 | nil=>
   intro m hl h1 h2 h3 h4 h5 h6
   obtain ⟨k,c,i,a,h,e,n⟩:=m
   simp at h1 h2 h3 h4 h5 h6
   subst h1;subst h2;subst h3;subst h4;subst h5;subst h6
   rfl
 | cons f fl ih=>
   intro m hl h1 h2 h3 h4 h5 h6
   show zeroAll (m.zero f) fl=_
   have hk:(m.zero f).kind=m.kind:=by cases f<;>rfl
   rw [←hk]
   refine ih (m.zero f) (Msg.zero32 hl f) ?_ ?_ ?_ ?_ ?_ ?_
   all_goals
    cases f<;>first
     | exact .inr rfl
     | (rcases ‹Fld.chan∈_∨_› with q | q<;>simp_all [Msg.zero])
theorem ints_z (l:List Nat) (h:l.length=32) (hz:allZ l=true):l.map Int.ofNat=z32:=by
 rw [allZ_mem hz,h];rfl
theorem orZ_of {b:Bool} {n:Nat} (h:orZ b n=true):b=true∨n=0:=by
 unfold orZ at h
 cases b with
 | true=>exact .inl rfl
 | false=>exact .inr (Nat.eq_of_beq_eq_true h)
structure NM.Good (m:NM) (fl:List Fld):Prop where
 h32:m.hs.length=32
 hb:∀ x∈m.hs,x<256
 c1:m.c≤4294967295
 i1:m.i≤18446744073709551615
 a1:m.a≤1125899906842624
 e1:m.e≤1073741824
 n1:m.n≤65535
 z:zeroAll m.msg fl=Msg.none m.msg.kind
theorem NM.good_ok {m:NM} {fl:List Fld} (h:m.good fl=true):m.Good fl:=by
 unfold NM.good at h
 have h:(Nat.beq m.hs.length 32&&(allLt 256 m.hs&&(Nat.ble m.c 4294967295&&(Nat.ble m.i 18446744073709551615&&(Nat.ble m.a 1125899906842624&&(Nat.ble m.e 1073741824&&(Nat.ble m.n 65535&&(isIn .chan fl &&
  (orZ (isIn .id fl) m.i&&(orZ (isIn .amount fl) m.a&&((Bool.rec (motive:=fun _=>Bool) (allZ m.hs) true (isIn .hash fl))&&(orZ (isIn .expiry fl) m.e&&orZ (isIn .number fl) m.n))))))))))))=true:=h
 simp only [Bool.and_eq_true] at h
 obtain ⟨h1,h2,h3,h4,h5,h6,h7,h8,h9,h10,h11,h12,h13⟩:=h
 have hl:=Nat.eq_of_beq_eq_true h1
 refine ⟨hl,allLt_mem h2,Nat.le_of_ble_eq_true h3,Nat.le_of_ble_eq_true h4,Nat.le_of_ble_eq_true h5,Nat.le_of_ble_eq_true h6,Nat.le_of_ble_eq_true h7,?_⟩
 have to0:∀ {n:Nat},n=0→(n:Int)=0:=fun e=>by rw [e];rfl
 refine zeroAll_of fl m.msg (by show (m.hs.map Int.ofNat).length=32;rw [List.length_map];exact hl) (.inl (isIn_mem h8)) ((orZ_of h9).imp isIn_mem to0) ((orZ_of h10).imp isIn_mem to0) ?_ ((orZ_of h12).imp isIn_mem to0) ((orZ_of h13).imp isIn_mem to0)
 cases hh:isIn .hash fl with
 | true=>exact .inl (isIn_mem hh)
 | false=>rw [hh] at h11;exact .inr (ints_z m.hs hl h11)
theorem NM.Good.ok {m:NM} {fl:List Fld} (g:m.Good fl) (hk:m.k≤9):m.msg.ok:=by
 have:=g.c1;have:=g.i1;have:=g.a1;have:=g.e1;have:=g.n1
 refine ⟨by show (m.hs.map Int.ofNat).length=32;rw [List.length_map];exact g.h32,fun x hx=>?_,?_,?_,?_,?_,?_,?_,?_,?_,?_,?_,?_,?_⟩
 · obtain ⟨y,hy,rfl⟩:=List.mem_map.1 hx
   have:=g.hb y hy
   show (0:Int)≤(y:Int)∧(y:Int)≤255
   omega
 all_goals (simp only [NM.msg];omega)
theorem NM.Good.may {m:NM} {fl:List Fld} (g:m.Good fl):MayP m.msg fl:=by
 have:=g.e1;have:=g.n1;have:=g.a1
 exact ⟨by simp only [NM.msg];omega,by simp only [NM.msg];omega,by simp only [NM.msg];omega,by simp only [NM.msg];omega,by simp only [NM.msg];omega,g.z⟩
noncomputable def beF (n:Nat) (l:List Nat):Nat→List Nat:=Nat.rec (motive:=fun _=>List Nat) l (fun k ih=>List.cons (Nat.mod (Nat.div n (Nat.pow 256 k)) 256) ih)
theorem beF_eq (n:Nat) (l:List Nat):∀ k,strB (beF n l k)=strOfNums (low (n:Int) k)++strB l
 | 0=>(empty_app _).symm
 | k+1=>by
   have ih:=beF_eq n l k
   have e1:strB (beF n l (k+1))=⟨⟨UInt8.ofNat (n/256 ^ k%256)::(beF n l k).map UInt8.ofNat⟩⟩:=rfl
   have e2:strOfNums (low (n:Int) (k+1))=⟨⟨UInt8.ofNat ((n:Int)/256 ^ k%256).toNat::(low (n:Int) k).map fun n=>UInt8.ofNat n.toNat⟩⟩:=rfl
   have e3:((n:Int)/256 ^ k%256).toNat=n/256 ^ k%256:=by
    have:((n:Int)/256 ^ k%256)=((n/256 ^ k%256:Nat):Int):=by
     rw [Int.natCast_emod,Int.natCast_ediv,Int.natCast_pow];rfl
    rw [this,Int.toNat_natCast]
   rw [e1,e2,e3]
   apply ByteArray.ext
   rw [ByteArray.data_append]
   apply Array.ext'
   rw [Array.toList_append]
   have ih2:=congrArg (fun b:ByteArray=>b.data.toList) ih
   simp only [ByteArray.data_append,Array.toList_append] at ih2
   show _::(strB (beF n l k)).data.toList=_::(strOfNums (low (n:Int) k)).data.toList++_
   rw [ih2];rfl
noncomputable def NM.fld (m:NM) (f:Fld) (l:List Nat):List Nat:=Fld.casesOn (motive:=fun _=>List Nat) f (beF m.c l 4) (beF m.i l 8) (beF m.a l 8) (List.append m.hs l) (beF m.e l 4) (beF m.n l 2)
noncomputable def NM.flds (m:NM):List Fld→List Nat:=List.rec (motive:=fun _=>List Nat) [] (fun f _ ih=>m.fld f ih)
noncomputable def NM.enc (m:NM) (fl:List Fld):List Nat:=beF m.k (m.flds fl) 1
theorem strB_app (l r:List Nat):strB (l++r)=strB l++strB r:=by
 apply ByteArray.ext
 rw [ByteArray.data_append]
 apply Array.ext'
 rw [Array.toList_append]
 show (l++r).map _=_
 rw [List.map_append];rfl
theorem NM.flds_eq {m:NM} {fl0:List Fld} (g:m.Good fl0):∀ fl,strB (m.flds fl)=bytesL m.msg fl
 | []=>rfl
 | f::fl=>by
   have ih:=NM.flds_eq g fl
   have h1:=g.c1;have h2:=g.i1;have h3:=g.a1;have h4:=g.e1;have h5:=g.n1
   have nb:∀ (n wd:Nat),1≤wd→wd≤8→n<2 ^ (8*wd)→numB (n:Int) (wd:Int)=low (n:Int) wd:=fun n wd a b c=>numB_low a b (by omega) (by
    have:(8*(wd:Int)).toNat=8*wd:=by omega
    rw [this];exact_mod_cast c)
   show strB (m.fld f (m.flds fl))=fbytes m.msg f++bytesL m.msg fl
   rw [←ih]
   cases f
   · show strB (beF m.c _ 4)=strOfNums (numB (m.c:Int) 4)++_
     rw [beF_eq,show numB (m.c:Int) 4=low (m.c:Int) 4 from nb m.c 4 (by decide) (by decide) (by show m.c<4294967296;omega)]
   · show strB (beF m.i _ 8)=strOfNums (numB (m.i:Int) 8)++_
     rw [beF_eq,show numB (m.i:Int) 8=low (m.i:Int) 8 from nb m.i 8 (by decide) (by decide) (by show m.i<18446744073709551616;omega)]
   · show strB (beF m.a _ 8)=strOfNums (numB (m.a:Int) 8)++_
     rw [beF_eq,show numB (m.a:Int) 8=low (m.a:Int) 8 from nb m.a 8 (by decide) (by decide) (by show m.a<18446744073709551616;omega)]
   · show strB (m.hs++_)=strOfNums (m.hs.map Int.ofNat)++_
     rw [strB_app]
     congr 1
     unfold strB strOfNums
     rw [List.map_map];rfl
   · show strB (beF m.e _ 4)=strOfNums (numB (m.e:Int) 4)++_
     rw [beF_eq,show numB (m.e:Int) 4=low (m.e:Int) 4 from nb m.e 4 (by decide) (by decide) (by show m.e<4294967296;omega)]
   · show strB (beF m.n _ 2)=strOfNums (numB (m.n:Int) 2)++_
     rw [beF_eq,show numB (m.n:Int) 2=low (m.n:Int) 2 from nb m.n 2 (by decide) (by decide) (by show m.n<65536;omega)]
theorem NM.enc_eq {m:NM} {fl:List Fld} (g:m.Good fl) (hk:m.k≤9):strB (m.enc fl)=encB m.msg fl:=by
 unfold NM.enc encB
 rw [beF_eq,NM.flds_eq g,cat_bytes,kindB_low (by show (0:Int)≤(m.k:Int);omega) (by show (m.k:Int)≤9;omega)]
 rfl
noncomputable def nmTail (k c i a:Nat) (hs:List Nat) (r:List Value):Option NM:=match r with | [.int .i64 (.ofNat e),.int .i64 (.ofNat n)]=>some ⟨k,c,i,a,hs,e,n⟩ | _=>none
noncomputable def nmOf (l:List Value):Option NM:=match l with
 | .int .i64 (.ofNat k)::.int .u32 (.ofNat c)::.int .u64 (.ofNat i)::.int .u64 (.ofNat a)::r=>(natsV (r.take 32)).bind fun hs=>nmTail k c i a hs (r.drop 32)
 | _=>none
theorem nmOf_some {l:List Value} {m:NM} (h:nmOf l=some m):l=m.msg.cells:=by
 unfold nmOf at h
 split at h
 · rename_i k c i a r
   obtain ⟨hs,h1,h2⟩:=Option.bind_eq_some_iff.1 h
   obtain ⟨h3,_⟩:=natsV_some h1
   unfold nmTail at h2
   split at h2
   · rename_i e n hr
     cases h2
     have hr2:r=hs.map (fun n=>Value.int .u8 (.ofNat n))++[.int .i64 (.ofNat e),.int .i64 (.ofNat n)]:=by rw [←h3,← hr,List.take_append_drop]
     rw [hr2]
     show _=Value.int .i64 (k:Int)::.int .u32 (c:Int)::.int .u64 (i:Int)::.int .u64 (a:Int)::(ints (hs.map Int.ofNat)++[.int .i64 (e:Int),.int .i64 (n:Int)])
     have hi:ints (hs.map Int.ofNat)=hs.map (fun n=>Value.int .u8 (.ofNat n)):=by
      unfold ints;rw [List.map_map];rfl
     rw [hi];rfl
   · cases h2
 · cases h
noncomputable def NM.cells (m:NM):List Value:=.int .i64 (.ofNat m.k)::.int .u32 (.ofNat m.c)::.int .u64 (.ofNat m.i)::.int .u64 (.ofNat m.a)::List.append (m.hs.map fun n=>Value.int .u8 (.ofNat n)) [.int .i64 (.ofNat m.e),.int .i64 (.ofNat m.n)]
theorem NM.cells_eq (m:NM):m.cells=m.msg.cells:=by
 have hi:ints (m.hs.map Int.ofNat)=m.hs.map (fun n=>Value.int .u8 (.ofNat n)):=by
  unfold ints;rw [List.map_map];rfl
 show _=Value.int .i64 (m.k:Int)::.int .u32 (m.c:Int)::.int .u64 (m.i:Int)::.int .u64 (m.a:Int)::(ints (m.hs.map Int.ofNat)++[.int .i64 (m.e:Int),.int .i64 (m.n:Int)])
 rw [hi];rfl
def isInt (v:Value):Prop:=∃ k n,v=.int k n
theorem NM.cells_int (m:NM):∀ v∈m.msg.cells,isInt v:=by
 intro v hv
 unfold Msg.cells ints at hv
 simp only [List.mem_cons,List.mem_append,List.mem_map,List.not_mem_nil,or_false] at hv
 rcases hv with rfl | rfl | rfl | rfl | ⟨x,_,rfl⟩ | rfl | rfl<;>exact ⟨_,_,rfl⟩
theorem cl_ints {σ:Sig} {ρ:Rho} {l L:List Value} (hi:∀ v∈l,isInt v) (h:CL σ ρ l L):L=l:=by
 apply List.ext_getElem?
 intro i
 have hl:=h.1
 by_cases hi':i<l.length
 · have hv:=(h.2 i _ _ (List.getElem?_eq_getElem hi') (List.getElem?_eq_getElem (show i<L.length by omega))).1
   rw [List.getElem?_eq_getElem hi',List.getElem?_eq_getElem (show i<L.length by omega)]
   obtain ⟨k,n,e⟩:=hi l[i] (List.getElem_mem hi')
   rw [e] at hv ⊢
   rw [VR.int_inv hv]
 · rw [List.getElem?_eq_none (by omega),List.getElem?_eq_none (by omega)]
theorem vr_ints {σ:Sig} {ρ:Rho} {l:List Value} (hi:∀ v∈l,isInt v):VR σ ρ (.agg ⟨l⟩) (.agg ⟨l⟩):=by
 refine .agg _ _ rfl (fun i x x' a b=>?_) (fun i x x' a b=>?_)
 all_goals
  rw [a] at b;cases b
  obtain ⟨k,n,rfl⟩:=hi x (by have:=Array.mem_of_getElem? a;simpa using this)
  first | exact .int _ _ | exact ⟨rfl,rfl⟩
theorem vr_pair {σ:Sig} {ρ:Rho} {a b c d:Value} (h1:VR σ ρ a c) (h2:VR σ ρ b d):VR σ ρ (.tuple #[a,b]) (.tuple #[c,d]):=by
 refine .tuple _ _ rfl (fun i x x' p q=>?_)
 match i with
 | 0=>cases p;cases q;exact h1
 | 1=>cases p;cases q;exact h2
 | i+2=>simp at p
noncomputable def hkEnc2 (m:NM) (fl:List Fld) (h:Hp) (nx:Nat):XR:=Bool.rec (motive:=fun _=>XR) (.bad "enc: bad") (frcL (m.enc fl) fun l=>.ok (.tuple #[.string (strB l),.int .i64 0]) h nx) (m.good fl)
noncomputable def hkEnc1 (m:NM) (h:Hp) (nx:Nat):XR:=Option.rec (motive:=fun _=>XR) (.bad "enc: kind") (fun fl=>hkEnc2 m fl h nx) (fldsN m.k)
noncomputable def hkEnc (args:List Value) (h:Hp) (nx:Nat):XR:=match args with | [.agg cs]=>Option.rec (motive:=fun _=>XR) (.bad "enc") (fun m=>hkEnc1 m h nx) (nmOf cs.toList) | _=>.bad "enc"
theorem enc_ok {C:Cfg} (hP:C.E.P=Tryz.prog) {σ:Sig} {ρ:Rho} {args:List Value} {h:Hp} {nx:Nat} {v:Value} {h':Hp} {nx':Nat} {w:World} {args':Array Value} (e:hkEnc args h nx=.ok v h' nx') (s:Sim σ C.E.gl ρ h nx w) (hv:VL σ ρ args args'.toList) :
 Calls C.E.P 27 args' w fun e w'=>∃ v',e=.returned v'∧Did C.E σ ρ h nx w v h' nx' v' w':=by
 unfold hkEnc at e
 split at e
 · rename_i cs
   obtain ⟨x',hx,hxv⟩:=hv.one
   obtain ⟨cs',rfl,hcl⟩:=hxv.agg_inv
   cases hm:nmOf cs.toList with
   | none=>rw [hm] at e;cases e
   | some m=>
     rw [hm] at e
     have e:hkEnc1 m h nx=.ok v h' nx':=e
     unfold hkEnc1 at e
     cases hf:fldsN m.k with
     | none=>rw [hf] at e;cases e
     | some fl=>
       rw [hf] at e
       have e:hkEnc2 m fl h nx=.ok v h' nx':=e
       unfold hkEnc2 at e
       cases hg:m.good fl with
       | false=>rw [hg] at e;cases e
       | true=>
         rw [hg] at e
         have e:frcL (m.enc fl) (fun l=>XR.ok (.tuple #[.string (strB l),.int .i64 0]) h nx)=.ok v h' nx':=e
         obtain ⟨hfl,hk⟩:=fldsN_eq hf
         have g:=NM.good_ok hg
         rw [frcL_eq,NM.enc_eq g hk] at e
         injection e with q1 q2 q3
         subst q1;subst q2;subst q3
         rw [nmOf_some hm] at hcl
         have ha:args'=#[.agg m.msg.row]:=by
          apply Array.ext'
          rw [hx]
          show [Value.agg cs']=[Value.agg m.msg.row]
          have:cs'=m.msg.row:=by apply Array.ext';rw [cl_ints m.cells_int hcl];rfl
          rw [this]
         subst ha
         rw [hP]
         refine (enc_yes m.msg (g.ok hk) fl hfl g.may w).mono ?_
         rintro e w' ⟨rfl,hb⟩
         exact ⟨_,rfl,did_below s hb (vr_pair (.string _) (.int _ _))⟩
 · cases e
noncomputable def rdF {R:Type} (z:R) (w:Nat):Nat→List Nat→(Nat→List Nat→R)→R:=Nat.rec (motive:=fun _=>Nat→List Nat→(Nat→List Nat→R)→R) (fun acc l k=>fN acc fun acc=>k acc l) (fun _ ih acc l k=>List.casesOn (motive:=fun _=>R) l z fun x l=>fN (Nat.add (Nat.mul acc 256) x) fun acc=>ih acc l k) w
noncomputable def parseF (z:XR) (k:NM→XR):List Fld→NM→List Nat→XR:=List.rec (motive:=fun _=>NM→List Nat→XR) (fun m _=>k m) (fun f _ ih m l=>Fld.casesOn (motive:=fun _=>XR) f
 (rdF z 4 0 l fun v l=>ih ⟨m.k,v,m.i,m.a,m.hs,m.e,m.n⟩ l) (rdF z 8 0 l fun v l=>ih ⟨m.k,m.c,v,m.a,m.hs,m.e,m.n⟩ l) (rdF z 8 0 l fun v l=>ih ⟨m.k,m.c,m.i,v,m.hs,m.e,m.n⟩ l)
 (frcL (List.take 32 l) fun hs=>ih ⟨m.k,m.c,m.i,m.a,hs,m.e,m.n⟩ (List.drop 32 l)) (rdF z 4 0 l fun v l=>ih ⟨m.k,m.c,m.i,m.a,m.hs,v,m.n⟩ l) (rdF z 2 0 l fun v l=>ih ⟨m.k,m.c,m.i,m.a,m.hs,m.e,v⟩ l))
noncomputable def eqN:List Nat→List Nat→Bool:=List.rec (motive:=fun _=>List Nat→Bool) (fun r=>List.casesOn (motive:=fun _=>Bool) r true (fun _ _=>false)) (fun x _ ih r=>List.casesOn (motive:=fun _=>Bool) r false (fun y r=>Bool.rec (motive:=fun _=>Bool) false (ih r) (Nat.beq x y)))
theorem eqN_eq:∀ {l r:List Nat},eqN l r=true→l=r
 | [],[],_=>rfl
 | [],_::_,h=>by cases h
 | x::l,[],h=>by cases h
 | x::l,y::r,h=>by
   have h':Bool.rec (motive:=fun _=>Bool) false (eqN l r) (Nat.beq x y)=true:=h
   cases hb:Nat.beq x y with
   | false=>rw [hb] at h';cases h'
   | true=>rw [hb] at h';rw [Nat.eq_of_beq_eq_true hb,eqN_eq h']
theorem strB_nats (s:ByteArray):strB (natsB s)=s:=by
 rw [natsB_eq]
 apply ByteArray.ext
 apply Array.ext'
 show (s.data.toList.map UInt8.toNat).map UInt8.ofNat=s.data.toList
 rw [List.map_map]
 conv=>rhs;rw [←List.map_id s.data.toList]
 exact List.map_congr_left (fun x _=>by simp)
noncomputable def hkDec3 (b:List Nat) (fl:List Fld) (m:NM) (h:Hp) (nx:Nat):XR:=Bool.rec (motive:=fun _=>XR) (.bad "dec: bad") (.ok (.tuple #[.agg ⟨m.cells⟩,.int .i64 0]) h nx) (and (Nat.ble b.length 100000) (and (m.good fl) (eqN (m.enc fl) b)))
noncomputable def hkDec2 (b:List Nat) (k:Nat) (l:List Nat) (h:Hp) (nx:Nat):XR:=Option.rec (motive:=fun _=>XR) (.bad "dec: kind") (fun fl=>parseF (.bad "dec: short") (fun m=>Bool.rec (motive:=fun _=>XR) (.bad "dec: kind") (hkDec3 b fl m h nx) (Nat.beq m.k k)) fl ⟨k,0,0,0,List.replicate 32 0,0,0⟩ l) (fldsN k)
noncomputable def hkDec1 (b:List Nat) (h:Hp) (nx:Nat):XR:=List.casesOn (motive:=fun _=>XR) b (.bad "dec: empty") fun k l=>hkDec2 b k l h nx
noncomputable def hkDec (args:List Value) (h:Hp) (nx:Nat):XR:=match args with | [.string s]=>frcL (natsB s) fun b=>hkDec1 b h nx | _=>.bad "dec"
theorem rdF_ok {z r:XR} (P:Prop) (hz:z=r→P):∀ (w acc:Nat) (l:List Nat) (k:Nat→List Nat→XR),(∀ v l,k v l=r→P)→rdF z w acc l k=r→P
 | 0,acc,l,k,hk,h=>by
   have h:fN acc (fun acc=>k acc l)=r:=h
   rw [fN_eq] at h;exact hk _ _ h
 | w+1,acc,[],k,hk,h=>hz h
 | w+1,acc,x::l,k,hk,h=>by
   have h:fN (Nat.add (Nat.mul acc 256) x) (fun acc=>rdF z w acc l k)=r:=h
   rw [fN_eq] at h
   exact rdF_ok P hz w _ l k hk h
theorem parseF_ok {z r:XR} {k:NM→XR} (P:Prop) (hz:z=r→P) (hk:∀ m,k m=r→P):∀ (fl:List Fld) (m:NM) (l:List Nat),parseF z k fl m l=r→P
 | [],m,l,h=>hk m h
 | f::fl,m,l,h=>by
   have ih:=parseF_ok P hz hk fl
   cases f
   · have h:rdF z 4 0 l (fun v l=>parseF z k fl ⟨m.k,v,m.i,m.a,m.hs,m.e,m.n⟩ l)=r:=h
     exact rdF_ok P hz 4 0 l _ (fun v l h=>ih _ _ h) h
   · have h:rdF z 8 0 l (fun v l=>parseF z k fl ⟨m.k,m.c,v,m.a,m.hs,m.e,m.n⟩ l)=r:=h
     exact rdF_ok P hz 8 0 l _ (fun v l h=>ih _ _ h) h
   · have h:rdF z 8 0 l (fun v l=>parseF z k fl ⟨m.k,m.c,m.i,v,m.hs,m.e,m.n⟩ l)=r:=h
     exact rdF_ok P hz 8 0 l _ (fun v l h=>ih _ _ h) h
   · have h:frcL (List.take 32 l) (fun hs=>parseF z k fl ⟨m.k,m.c,m.i,m.a,hs,m.e,m.n⟩ (List.drop 32 l))=r:=h
     rw [frcL_eq] at h
     exact ih _ _ h
   · have h:rdF z 4 0 l (fun v l=>parseF z k fl ⟨m.k,m.c,m.i,m.a,m.hs,v,m.n⟩ l)=r:=h
     exact rdF_ok P hz 4 0 l _ (fun v l h=>ih _ _ h) h
   · have h:rdF z 2 0 l (fun v l=>parseF z k fl ⟨m.k,m.c,m.i,m.a,m.hs,m.e,v⟩ l)=r:=h
     exact rdF_ok P hz 2 0 l _ (fun v l h=>ih _ _ h) h
theorem dec_ok {C:Cfg} (hP:C.E.P=Tryz.prog) {σ:Sig} {ρ:Rho} {args:List Value} {h:Hp} {nx:Nat} {v:Value} {h':Hp} {nx':Nat} {w:World} {args':Array Value} (e:hkDec args h nx=.ok v h' nx') (s:Sim σ C.E.gl ρ h nx w) (hv:VL σ ρ args args'.toList) :
 Calls C.E.P 31 args' w fun e w'=>∃ v',e=.returned v'∧Did C.E σ ρ h nx w v h' nx' v' w':=by
 unfold hkDec at e
 split at e
 · rename_i t
   obtain ⟨x',hx,hxv⟩:=hv.one
   obtain rfl:=VR.string_inv hxv
   have ha:args'=#[.string t]:=by apply Array.ext';exact hx
   subst ha
   rw [frcL_eq] at e
   unfold hkDec1 at e
   have ht:=strB_nats t
   have hlen:(natsB t).length=t.size:=by rw [natsB_eq,List.length_map,Array.length_toList];rfl
   generalize natsB t=b at *
   cases b with
   | nil=>cases e
   | cons k l=>
     have e:hkDec2 (k::l) k l h nx=.ok v h' nx':=e
     unfold hkDec2 at e
     cases hf:fldsN k with
     | none=>rw [hf] at e;cases e
     | some fl=>
       rw [hf] at e
       refine parseF_ok _ (fun e=>by cases e) (fun m e=>?_) fl _ _ e
       cases hmk:Nat.beq m.k k with
       | false=>rw [hmk] at e;cases e
       | true=>
         rw [hmk] at e
         have hmk:=Nat.eq_of_beq_eq_true hmk
         have e:hkDec3 (k::l) fl m h nx=.ok v h' nx':=e
         unfold hkDec3 at e
         cases hb:and (Nat.ble (k::l).length 100000) (and (m.good fl) (eqN (m.enc fl) (k::l))) with
         | false=>rw [hb] at e;cases e
         | true=>
           rw [hb] at e
           have hb:(Nat.ble (k::l).length 100000&&(m.good fl&&eqN (m.enc fl) (k::l)))=true:=hb
           simp only [Bool.and_eq_true] at hb
           obtain ⟨b1,b2,b3⟩:=hb
           have b1:=Nat.le_of_ble_eq_true b1
           have b3:=eqN_eq b3
           have g:=NM.good_ok b2
           obtain ⟨hfl,hk⟩:=fldsN_eq hf
           rw [←hmk] at hfl hk
           have hE:encB m.msg fl=t:=by rw [←NM.enc_eq g hk,b3,ht]
           have hD:DecOk t m.msg:=by rw [←hE];exact enc_dec (g.ok hk) hfl g.may
           have e:XR.ok (.tuple #[.agg ⟨m.cells⟩,.int .i64 0]) h nx=.ok v h' nx':=e
           injection e with q1 q2 q3
           subst q1;subst q2;subst q3
           rw [hP]
           refine (dec_any t (by omega) w).mono ?_
           rintro e w' ⟨hd,hb⟩
           rcases hd with ⟨m',h1,h2,rfl⟩ | ⟨ev,h1,h2,rfl⟩
           · obtain rfl:=dec_one h1 hD
             refine ⟨_,rfl,did_below s hb (vr_pair ?_ (.int _ _))⟩
             rw [NM.cells_eq]
             exact vr_ints m.cells_int
           · exact (dec_ok_bad hD h2).elim
 · cases e
end SX
end Go.Proofs.YtdebnbgjgkbmaaaGreatDoor
namespace Go.Proofs.YtdebnbgjgkbmaaaGreatDoor
namespace SX
open Go Go.RowKit Go.Shelf
set_option linter.unusedVariables false
def jnR:Ren:=⟨fun n=>match n with | 156=>284 | 165=>312 | 166=>170 | 169=>234 | 240=>250 | 241=>325 | 276=>297 | 277=>336 | _=>0,
 fun n=>match n with | 3=>3 | 4=>4 | 5=>5 | 9=>9 | 20=>20 | 31=>158 | 37=>55 | 70=>289 | 72=>291 | 75=>297 | 76=>298 | 80=>133 | 127=>410 | 164=>411 | _=>0,fun _=>0⟩
theorem jnL:Lays.n156 Tryz.prog jnR where
 mixed:=by kernel_rfl
 f156:=by kernel_rfl
 f165:=by kernel_rfl
 f166:=by kernel_rfl
 f169:=by kernel_rfl
 f240:=by kernel_rfl
 f241:=by kernel_rfl
 f276:=by kernel_rfl
 f277:=by kernel_rfl
 t0:=by kernel_rfl
 a0:=fun w=>by kernel_rfl
 z0:=fun w=>by kernel_rfl
 v0:=fun w=>by kernel_rfl
 t3:=by kernel_rfl
 a3:=fun w=>by kernel_rfl
 z3:=fun w=>by kernel_rfl
 v3:=fun w=>by kernel_rfl
 t4:=by kernel_rfl
 a4:=fun w=>by kernel_rfl
 z4:=fun w=>by kernel_rfl
 v4:=fun w=>by kernel_rfl
 t9:=by kernel_rfl
 a9:=fun w=>by kernel_rfl
 z9:=fun w=>by kernel_rfl
 v9:=fun w=>by kernel_rfl
 t20:=by kernel_rfl
 a20:=fun w=>by kernel_rfl
 z20:=fun w=>by kernel_rfl
 v20:=fun w=>by kernel_rfl
 t31:=by kernel_rfl
 a31:=fun w=>by kernel_rfl
 z31:=fun w=>by kernel_rfl
 v31:=fun w=>by kernel_rfl
 t37:=by kernel_rfl
 a37:=fun w=>by kernel_rfl
 z37:=fun w=>by kernel_rfl
 v37:=fun w=>by kernel_rfl
 t70:=by kernel_rfl
 a70:=fun w=>by kernel_rfl
 z70:=fun w=>by kernel_rfl
 v70:=fun w=>by kernel_rfl
 t72:=by kernel_rfl
 a72:=fun w=>by kernel_rfl
 z72:=fun w=>by kernel_rfl
 v72:=fun w=>by kernel_rfl
 t75:=by kernel_rfl
 a75:=fun w=>by kernel_rfl
 z75:=fun w=>by kernel_rfl
 v75:=fun w=>by kernel_rfl
 t76:=by kernel_rfl
 a76:=fun w=>by kernel_rfl
 z76:=fun w=>by kernel_rfl
 v76:=fun w=>by kernel_rfl
 t127:=by kernel_rfl
 a127:=fun w=>by kernel_rfl
 z127:=fun w=>by kernel_rfl
 v127:=fun w=>by kernel_rfl
 t164:=by kernel_rfl
 a164:=fun w=>by kernel_rfl
 z164:=fun w=>by kernel_rfl
 v164:=fun w=>by kernel_rfl
theorem jnX:Builder.Extra Tryz.prog jnR where
 sizeBuilder:=by kernel_rfl
 liesBuilder:=by kernel_rfl
 t5:=by kernel_rfl
 a5:=fun w=>by kernel_rfl
 z5:=fun w=>by kernel_rfl
 v5:=fun w=>by kernel_rfl
 infoByte:=by kernel_rfl
 cellsByte:=by kernel_rfl
 sizeByte:=by kernel_rfl
 neB5:=by decide
noncomputable def strV (v:Value):Option ByteArray:=match v with | .string s=>some s | _=>none
noncomputable def strsV:List Value→Option (List ByteArray):=List.rec (motive:=fun _=>Option (List ByteArray)) (some []) (fun v _ ih=>Option.rec (motive:=fun _=>Option (List ByteArray)) none (fun n=>Option.rec (motive:=fun _=>Option (List ByteArray)) none (fun l=>some (List.cons n l)) ih) (strV v))
theorem strsV_some:∀ {vs:List Value} {l:List ByteArray},strsV vs=some l→vs=l.map Value.string
 | [],l,h=>by cases h;rfl
 | v::vs,l,h=>by
   have h':Option.rec (motive:=fun _=>Option (List ByteArray)) none (fun n=>Option.rec (motive:=fun _=>Option (List ByteArray)) none (fun l=>some (List.cons n l)) (strsV vs)) (strV v)=some l:=h
   cases hb:strV v with
   | none=>rw [hb] at h';cases h'
   | some n=>
     rw [hb] at h'
     cases hn:strsV vs with
     | none=>rw [hn] at h';cases h'
     | some m=>
       rw [hn] at h'
       cases h'
       have e1:=strsV_some hn
       unfold strV at hb
       split at hb
       · cases hb;rw [List.map_cons,← e1]
       · cases hb
noncomputable def catN:List ByteArray→List Nat:=List.rec (motive:=fun _=>List Nat) [] (fun s _ ih=>List.append (natsB s) ih)
theorem strB_append (l r:List Nat):(strB (l++r)).data.toList=(strB l).data.toList++(strB r).data.toList:=by
 show (l++r).map _=l.map _++r.map _
 rw [List.map_append]
theorem strB_natsB (s:ByteArray):(strB (natsB s)).data.toList=s.data.toList:=by
 rw [natsB_eq]
 show (s.data.toList.map UInt8.toNat).map UInt8.ofNat=s.data.toList
 rw [List.map_map]
 conv=>rhs;rw [←List.map_id s.data.toList]
 exact List.map_congr_left (fun x _=>by simp)
theorem catN_eq:∀ (xs:List ByteArray),(strB (catN xs)).data.toList=Lib.join (xs.map (·.data.toList)) []
 | []=>rfl
 | [x]=>by
   rw [List.map_cons,List.map_nil,Lib.join_one]
   show (strB (natsB x++[])).data.toList=_
   rw [strB_append,strB_natsB]
   exact List.append_nil _
 | x::y::r=>by
   have ih:=catN_eq (y::r)
   rw [List.map_cons,List.map_cons,Lib.join_cons] at *
   show (strB (natsB x++catN (y::r))).data.toList=_
   rw [strB_append,strB_natsB,ih]
   simp [Lib.joinTail]
noncomputable def jn2 (h:Hp) (nx:Nat) (l:List Nat):XR:=Bool.rec (motive:=fun _=>XR) (.bad "join: long") (.ok (.string (strB l)) h nx) (Nat.ble l.length 1000000)
noncomputable def jn1 (h:Hp) (nx:Nat) (xs:List ByteArray):XR:=frcL (catN xs) fun l=>jn2 h nx l
noncomputable def hkJn1 (a:Addr) (n:Nat) (h:Hp) (nx:Nat):XR:=Bool.rec (motive:=fun _=>XR) (.bad "join: row") (Option.rec (motive:=fun _=>XR) (.bad "join: texts") (jn1 h nx) ((cellsB a.off (TT.get DH h a.block)).bind fun l=>(takeL n l).bind strsV)) (and (Nat.ble GN a.block) (Nat.ble n 1000000))
noncomputable def hkJn (args:List Value) (h:Hp) (nx:Nat):XR:=match args with
 | [.slice (some a) n 1,.string s]=>Bool.rec (motive:=fun _=>XR) (.bad "join: between") (hkJn1 a n h nx) (Nat.beq s.data.toList.length 0)
 | _=>.bad "join"
theorem jn_ok {C:Cfg} (hP:C.E.P=Tryz.prog) {σ:Sig} {ρ:Rho} {args:List Value} {h:Hp} {nx:Nat} {v:Value} {h':Hp} {nx':Nat} {w:World} {args':Array Value} (e:hkJn args h nx=.ok v h' nx') (s:Sim σ C.E.gl ρ h nx w) (hv:VL σ ρ args args'.toList) :
 Calls C.E.P 284 args' w fun e w'=>∃ v',e=.returned v'∧Did C.E σ ρ h nx w v h' nx' v' w':=by
 unfold hkJn at e
 split at e
 · rename_i a n sp
   obtain ⟨x0,l0,e0,h0,hv⟩:=hv.inv
   obtain ⟨x1,rfl,h1⟩:=hv.one
   obtain rfl:=VR.string_inv h1
   cases hb:Nat.beq sp.data.toList.length 0 with
   | false=>rw [hb] at e;cases e
   | true=>
     rw [hb] at e
     have hsp:sp.data.toList=[]:=List.length_eq_zero_iff.1 (Nat.eq_of_beq_eq_true hb)
     have e:hkJn1 a n h nx=.ok v h' nx':=e
     unfold hkJn1 at e
     cases hg:and (Nat.ble GN a.block) (Nat.ble n 1000000) with
     | false=>rw [hg] at e;cases e
     | true=>
       rw [hg] at e
       have hg:(Nat.ble GN a.block&&Nat.ble n 1000000)=true:=hg
       rw [Bool.and_eq_true] at hg
       have g1:=Nat.le_of_ble_eq_true hg.1
       have g2:=Nat.le_of_ble_eq_true hg.2
       have e:Option.rec (motive:=fun _=>XR) (.bad "join: texts") (jn1 h nx) ((cellsB a.off (TT.get DH h a.block)).bind fun l=>(takeL n l).bind strsV)=XR.ok v h' nx':=e
       cases hq:(cellsB a.off (TT.get DH h a.block)).bind fun l=>(takeL n l).bind strsV with
       | none=>rw [hq] at e;cases e
       | some xs=>
         rw [hq] at e
         have e:jn1 h nx xs=.ok v h' nx':=e
         unfold jn1 at e
         rw [frcL_eq] at e
         unfold jn2 at e
         cases hl:Nat.ble (catN xs).length 1000000 with
         | false=>rw [hl] at e;cases e
         | true=>
           rw [hl] at e
           have hl:=Nat.le_of_ble_eq_true hl
           injection e with q1 q2 q3
           subst q1;subst q2;subst q3
           obtain ⟨cl,hc,hq⟩:=Option.bind_eq_some_iff.1 hq
           obtain ⟨tl,ht,hs⟩:=Option.bind_eq_some_iff.1 hq
           obtain ⟨rfl,hn⟩:=takeL_some n cl tl ht
           have hxs:=strsV_some hs
           obtain ⟨nm,off,spot⟩:=a
           obtain ⟨p,off',cap,hp,hspot,q4,q5,q6,q7,rfl⟩:=h0.slice_inv
           have hc:cellsB off (TT.get DH h nm)=some cl:=hc
           have hnm:=s.at hp
           unfold cellsB at hc
           split at hc
           · rename_i cs hbk
             cases hc
             rw [dropL_eq] at hn hxs
             obtain ⟨p',hp',hr⟩:=s.live nm hnm _ hbk
             rw [hp] at hp';cases hp'
             have hcr:CR σ ρ cs p w:=hr
             have hln:n=xs.length:=by
              have:=congrArg List.length hxs
              rw [List.length_take,List.length_map] at this
              omega
             have hcells:∀ (j:Nat) x,xs[j]?=some x→w.cell? ⟨p.b,off'+j,none⟩=some (.string x):=fun j x hj=>by
              have hjn:j<n:=by have:=(List.getElem?_eq_some_iff.1 hj).1;omega
              have hlen:off+n≤cs.length:=by rw [List.length_drop] at hn;omega
              obtain ⟨L,hcl,hrange,hL⟩:=hcr.mid hlen
              have hjL:j<L.length:=by omega
              have hx1:((cs.drop off).take n)[j]?=some (.string x):=by rw [hxs,List.getElem?_map,hj];rfl
              have:=(hcl.2 j _ L[j] hx1 (List.getElem?_eq_getElem hjL)).1
              have hq:=hrange j L[j] (List.getElem?_eq_getElem hjL)
              rw [VR.string_inv this] at hq
              rw [q6 (by omega)];exact hq
             have ha:args'=#[.slice (some ⟨p.b,off',none⟩) xs.length cap,.string sp]:=by apply Array.ext';rw [e0,hln]
             subst ha
             rw [hP]
             have hj:Lib.join (xs.map (·.data.toList)) sp.data.toList=(strB (catN xs)).data.toList:=by rw [hsp];exact (catN_eq xs).symm
             refine (Any.strings_Join jnL jnX p.b off' cap xs sp w hcells hr.lt (by omega) (by omega) ?_).mono ?_
             · rw [hj]
               show ((catN xs).map UInt8.ofNat).length≤_
               rw [List.length_map];omega
             · rintro e w' ⟨rfl,hb⟩
               refine ⟨_,rfl,did_below s hb ?_⟩
               rw [hj]
               exact .string _
           · cases hc
 · cases e
end SX
end Go.Proofs.YtdebnbgjgkbmaaaGreatDoor
namespace Go.Proofs.YtdebnbgjgkbmaaaGreatDoor
namespace SX
open Go
set_option linter.unusedVariables false
noncomputable def tabQ {α:Type} (f:α→Bool):List α→Nat→TT α→TT α:=List.rec (motive:=fun _=>Nat→TT α→TT α) (fun _ t=>t) (fun v _ ih i t=>fN (Nat.succ i) fun j=>Bool.rec (motive:=fun _=>TT α) (ih j t) (ih j (TT.set DT t i v)) (f v))
noncomputable def pickF {α:Type} (get:Nat→Option α):List Nat→TT α→TT α:=List.rec (motive:=fun _=>TT α→TT α) (fun t=>t) (fun i _ ih t=>Option.rec (motive:=fun _=>TT α) (ih t) (fun v=>ih (TT.set DT t i v)) (get i))
section
variable {α:Type}
theorem tabG_some {t:TT α} {k:Nat} {v:α} (h:tabG t k=some v):k<512∧TT.get DT t k=some v:=by
 unfold tabG at h
 cases hb:Nat.blt k 512 with
 | false=>rw [hb] at h;cases h
 | true=>rw [hb] at h;exact ⟨blt_lt hb,h⟩
theorem tabQ_get (f:α→Bool):∀ (l:List α) (i:Nat) (t:TT α) (j:Nat) (v:α),i+l.length≤512→j<512→TT.get DT (tabQ f l i t) j=some v→(i≤j∧l[j-i]?=some v∧f v=true)∨TT.get DT t j=some v
 | [],i,t,j,v,_,_,h=>.inr h
 | x::l,i,t,j,v,hl,hj,h=>by
   have hl':(x::l).length=l.length+1:=rfl
   rw [hl'] at hl
   have h':fN (Nat.succ i) (fun j=>Bool.rec (motive:=fun _=>TT α) (tabQ f l j t) (tabQ f l j (TT.set DT t i x)) (f x))=Bool.rec (motive:=fun _=>TT α) (tabQ f l (i+1) t) (tabQ f l (i+1) (TT.set DT t i x)) (f x):=fN_eq _ _
   have h2:TT.get DT (Bool.rec (motive:=fun _=>TT α) (tabQ f l (i+1) t) (tabQ f l (i+1) (TT.set DT t i x)) (f x)) j=some v:=by rw [←h'];exact h
   have sub:∀ {v:α},i+1≤j∧l[j-(i+1)]?=some v∧f v=true→i≤j∧(x::l)[j-i]?=some v∧f v=true:=fun ⟨h3,h4,h5⟩=>⟨by omega,by rw [show j-i=(j-(i+1))+1 by omega,List.getElem?_cons_succ];exact h4,h5⟩
   cases hf:f x with
   | false=>
     rw [hf] at h2
     rcases tabQ_get f l (i+1) t j v (by omega) hj h2 with h3 | h3
     · exact .inl (sub h3)
     · exact .inr h3
   | true=>
     rw [hf] at h2
     rcases tabQ_get f l (i+1) _ j v (by omega) hj h2 with h3 | h3
     · exact .inl (sub h3)
     · rw [get_set' (by show i<512;omega) hj] at h3
       by_cases e:i=j
       · subst e;rw [if_pos rfl] at h3;cases h3;exact .inl ⟨Nat.le_refl _,by rw [Nat.sub_self,List.getElem?_cons_zero],hf⟩
       · rw [if_neg e] at h3;exact .inr h3
theorem pickF_get (get:Nat→Option α):∀ (l:List Nat) (t:TT α) (j:Nat) (v:α),(∀ i∈l,i<512)→j<512→TT.get DT (pickF get l t) j=some v→(j∈l∧get j=some v)∨TT.get DT t j=some v
 | [],t,j,v,_,_,h=>.inr h
 | i::l,t,j,v,hl,hj,h=>by
   have hl2:∀ i∈l,i<512:=fun i hi=>hl i (List.mem_cons_of_mem _ hi)
   have h':Option.rec (motive:=fun _=>TT α) (pickF get l t) (fun v=>pickF get l (TT.set DT t i v)) (get i)=pickF get (i::l) t:=rfl
   rw [←h'] at h
   cases hg:get i with
   | none=>
     rw [hg] at h
     rcases pickF_get get l t j v hl2 hj h with ⟨a,b⟩ | a
     · exact .inl ⟨List.mem_cons_of_mem _ a,b⟩
     · exact .inr a
   | some u=>
     rw [hg] at h
     rcases pickF_get get l (TT.set DT t i u) j v hl2 hj h with ⟨a,b⟩ | a
     · exact .inl ⟨List.mem_cons_of_mem _ a,b⟩
     · rw [get_set' (hl i List.mem_cons_self) hj] at a
       by_cases e:i=j
       · subst e;rw [if_pos rfl] at a;exact .inl ⟨List.mem_cons_self,by rw [hg];exact a⟩
       · rw [if_neg e] at a;exact .inr a
noncomputable def allT (f:α→Bool):List α→Bool:=List.rec (motive:=fun _=>Bool) true (fun x _ ih=>Bool.rec (motive:=fun _=>Bool) false ih (f x))
theorem allT_mem {f:α→Bool}:∀ {l:List α},allT f l=true→∀ x∈l,f x=true
 | [],_,x,hx=>by cases hx
 | y::l,h,x,hx=>by
   have h':Bool.rec (motive:=fun _=>Bool) false (allT f l) (f y)=true:=h
   cases hf:f y with
   | false=>rw [hf] at h';cases h'
   | true=>
     rw [hf] at h'
     rcases List.mem_cons.1 hx with rfl | hx
     · exact hf
     · exact allT_mem h' x hx
noncomputable def zeroFlat (i:TypeInfo):Bool:=Option.rec (motive:=fun _=>Bool) true flat i.zero
end
noncomputable def mkEnv (P:Program) (fs:List Nat) (gl:Hp) (mks:List Nat):Env:=⟨P,tabQ zeroFlat P.types.toList 0 .nil,pickF (fun i=>P.funcs[i]?) fs .nil,gl,mks⟩
theorem info_row {P:Program} {t:Nat} {i:TypeInfo} (h:P.types[t]?=some i):P.info? t=some i:=by
 have hl:t<P.types.size:=(Array.getElem?_eq_some_iff.1 h).1
 show (if t<P.types.size then P.types[t]? else _)=some i
 rw [if_pos hl];exact h
theorem row_get {P:Program} {t:Nat} {i:TypeInfo} (hl:P.types.size≤512) (h:tabG (tabQ zeroFlat P.types.toList 0 .nil) t=some i):P.types[t]?=some i∧zeroFlat i=true:=by
 obtain ⟨h1,h2⟩:=tabG_some h
 rcases tabQ_get zeroFlat P.types.toList 0 .nil t i (by simpa using hl) h1 h2 with ⟨_,h3,h4⟩ | h3
 · rw [←Array.getElem?_toList]
   exact ⟨by simpa using h3,h4⟩
 · rw [get_nil] at h3;cases h3
theorem mkEnv_ok {P:Program} {fs:List Nat} {gl:Hp} {mks:List Nat} (hl:P.types.size≤512):EnvOk (mkEnv P fs gl mks):=by
 exact ⟨fun t i h=>info_row (row_get hl h).1⟩
theorem mkEnv_zero {P:Program} {fs:List Nat} {gl:Hp} {mks:List Nat} (hl:P.types.size≤512):ZeroOk (mkEnv P fs gl mks):=by
 intro t i z h hi
 have:=(row_get hl h).2
 unfold zeroFlat at this
 rw [hi] at this
 exact this
noncomputable def fnName (P:Program) (i:Nat):Bool:=Option.rec (motive:=fun _=>Bool) true (fun fn:Func=>!(fn.name=="runtime.NumGoroutine")) P.funcs[i]?
noncomputable def ltB (i:Nat):Bool:=Nat.blt i 512
theorem mkEnv_fn {P:Program} {fs:List Nat} {gl:Hp} {mks:List Nat} (hl:allT ltB fs=true) {f:Nat} {fn:Func} (h:tabG (mkEnv P fs gl mks).fn f=some fn):f∈fs∧P.funcs[f]?=some fn:=by
 obtain ⟨h1,h2⟩:=tabG_some h
 rcases pickF_get _ fs .nil f fn (fun i hi=>blt_lt (allT_mem hl i hi)) h1 h2 with h3 | h3
 · exact h3
 · rw [get_nil] at h3;cases h3
theorem mkEnv_fnOk {P:Program} {fs:List Nat} {gl:Hp} {mks:List Nat} (hl:allT ltB fs=true) (hn:allT (fnName P) fs=true):FnOk (mkEnv P fs gl mks):=by
 refine ⟨fun f fn h=>?_⟩
 obtain ⟨h1,h2⟩:=mkEnv_fn hl h
 refine ⟨h2,?_⟩
 have:=allT_mem hn f h1
 unfold fnName at this
 rw [h2] at this
 simpa using this
noncomputable def fnOk1 (E:Env) (i:Nat):Bool:=Option.rec (motive:=fun _=>Bool) true (fnOk E) E.P.funcs[i]?
theorem mkEnv_fns {P:Program} {fs:List Nat} {gl:Hp} {mks:List Nat} {keys eqs:List Nat} (hl:allT ltB fs=true) (ho:allT (fnOk1 (mkEnv P fs gl mks)) fs=true):FnsOk ⟨mkEnv P fs gl mks,keys,eqs⟩:=by
 intro f fn h
 obtain ⟨h1,h2⟩:=mkEnv_fn hl h
 have:=allT_mem ho f h1
 unfold fnOk1 at this
 have h3:(mkEnv P fs gl mks).P.funcs[f]?=some fn:=h2
 rw [h3] at this
 exact this
end SX
end Go.Proofs.YtdebnbgjgkbmaaaGreatDoor
namespace Go.Proofs.YtdebnbgjgkbmaaaGreatDoor
namespace SX
open Go Go.RowKit
set_option linter.unusedVariables false
set_option maxRecDepth 1000000
noncomputable def g0:List Value:=(List.range 8).map fun i=>.int .u32 (.ofNat (Sha.begin0.get i))
noncomputable def g3:List Value:=[.int .i64 1,.int .i64 7,.int .i64 3,.int .i64 5]
noncomputable def g4:List Value:=(List.range 64).map fun i=>.int .u32 (.ofNat (Sha.k i))
noncomputable def g6:List Value:=Lib.deBruijn64tab.map fun i=>.int .u8 (.ofNat i)
noncomputable def g7:List Value:=[3,4,1,2,0,1,2,3,4,0,1,2,3,4,0,3,4,1,2,0].map fun i=>.int .i64 (.ofNat i)
noncomputable def glT:Hp:=TT.set DH (TT.set DH (TT.set DH (TT.set DH (TT.set DH .nil 6 (.cells g6)) 3 (.cells g3)) 7 (.cells g7)) 0 (.cells g0)) 4 (.cells g4)
theorem glT_get {n:Nat} (h:n<2 ^ DH):TT.get DH glT n=if 4=n then some (.cells g4) else if 0=n then some (.cells g0) else if 7=n then some (.cells g7) else if 3=n then some (.cells g3) else if 6=n then some (.cells g6) else none:=by
 unfold glT
 rw [get_set' (by decide) h,get_set' (by decide) h,get_set' (by decide) h,get_set' (by decide) h,get_set' (by decide) h,get_nil]
theorem glT_tabs:GlTabs glT:=by
 refine ⟨⟨g0,by rw [glT_get (by decide)];rfl,fun i hi=>?_⟩,⟨g4,by rw [glT_get (by decide)];rfl,fun i hi=>?_⟩⟩
 · unfold g0;rw [List.getElem?_map,List.getElem?_range hi];rfl
 · unfold g4;rw [List.getElem?_map,List.getElem?_range hi];rfl
noncomputable def fsA:List Nat:=[16,18,19,20,21,22,23,24,26,27,28,29,30,31,33,34,35,36,38,39,40,41,42,43,44,45,47,48,51,53,55,56,57,58,59,60,61,62,63,64,65,66,67,68,69,75,76,77,78,79,82,86,87,88,89,90,91,92,93,94,95,96,97,100,101,104,105,107,108,109,110,111,112,113,120,121,122,123,124,125,126,127]
noncomputable def fsB:List Nat:=[128,129,130,131,132,133,134,135,137,138,139,143,144,145,146,147,148,149,150,151,152,153,154,155,156,157,164,165,169,170,174,175,176,177,178,179,180,181,182,183,184,185,186,188,189,190,191,192,193,194,195,197,198,199,200,201,202,207,208,211,212,213,214,215,216,217,218,219,220,221,222,223,224,225,226,227,228,229,230,231,232,233]
noncomputable def fsC:List Nat:=[237,241,242,249,250,253,254,255,256,257,258,259,260,261,262,263,264,265,266,267,268,269,270,271,272,273,274,279,280,282,283,284,285,286,287,288,289,290,291,292,293,294,295,296,299,300,301,302,303,304,305,306,307,308,310,311,313,314,315,316,317,318,319,320,321,322,323,324,326,327,328,329,330,331,332,333,334,335,337,338,339,340]
noncomputable def fsAll:List Nat:=List.append fsA (List.append fsB fsC)
noncomputable def E1:Env:=mkEnv Tryz.prog fsAll glT [291,293]
noncomputable def C1:Cfg:=⟨E1,[3,47,103,420],[47,59,103]⟩
theorem allT_app {α:Type} {f:α→Bool}:∀ {l m:List α},allT f l=true→allT f m=true→allT f (List.append l m)=true
 | [],m,_,h=>h
 | x::l,m,h,k=>by
   have h':Bool.rec (motive:=fun _=>Bool) false (allT f l) (f x)=true:=h
   show Bool.rec (motive:=fun _=>Bool) false (allT f (List.append l m)) (f x)=true
   cases hf:f x with
   | false=>rw [hf] at h';cases h'
   | true=>rw [hf] at h';exact allT_app h' k
theorem fokA:allT (fnOk1 E1) fsA=true:=by kernel_rfl
theorem fokB:allT (fnOk1 E1) fsB=true:=by kernel_rfl
theorem fokC:allT (fnOk1 E1) fsC=true:=by kernel_rfl
theorem lt1:allT ltB fsAll=true:=by kernel_rfl
theorem name1:allT (fnName Tryz.prog) fsAll=true:=by kernel_rfl
theorem fns1:FnsOk C1:=mkEnv_fns lt1 (allT_app fokA (allT_app fokB fokC))
theorem size1:Tryz.prog.types.size≤512:=of_decide_eq_true (by kernel_rfl)
theorem key47:Maps.Keyed Tryz.prog 47:=Maps.Keyed.of_law (deep_law_laid RowK.laidOut (m:=3) (by omega) (of_decide_eq_true (by kernel_rfl)) (by kernel_rfl) (by rw [Tryz.underlying47]))
theorem key103:Maps.Keyed Tryz.prog 103:=Maps.Keyed.of_law (deep_law_laid RowK.laidOut (m:=3) (by omega) (of_decide_eq_true (by kernel_rfl)) (by kernel_rfl) (by rw [Tryz.underlying103]))
theorem key420:Maps.Keyed Tryz.prog 420:=Maps.Keyed.of_law (deep_law_laid RowK.laidOut (m:=3) (by omega) (of_decide_eq_true (by kernel_rfl)) (by kernel_rfl) (by rw [Tryz.underlying420]))
theorem more1:EnvMore E1 C1.keys C1.eqs:=by
 refine ⟨fun k hk=>?_,fun k hk=>?_⟩
 · have hk:k∈[3,47,103,420]:=hk
   simp only [List.mem_cons,List.not_mem_nil,or_false] at hk
   rcases hk with rfl | rfl | rfl | rfl
   · exact Maps.int_keyed Tryz.underlying3
   · exact key47
   · exact key103
   · exact key420
 · have hk:k∈[47,59,103]:=hk
   simp only [List.mem_cons,List.not_mem_nil,or_false] at hk
   rcases hk with rfl | rfl | rfl
   · exact ⟨⟨3,by decide,by kernel_rfl,by kernel_rfl⟩,by show (match Tryz.prog.underlying 47 with | some (.array _ _) | some (.struct _)=>true | _=>false)=true;rw [Tryz.underlying47]⟩
   · exact ⟨⟨3,by decide,by kernel_rfl,by kernel_rfl⟩,by show (match Tryz.prog.underlying 59 with | some (.array _ _) | some (.struct _)=>true | _=>false)=true;rw [Tryz.underlying59]⟩
   · exact ⟨⟨3,by decide,by kernel_rfl,by kernel_rfl⟩,by show (match Tryz.prog.underlying 103 with | some (.array _ _) | some (.struct _)=>true | _=>false)=true;rw [Tryz.underlying103]⟩
theorem cfg1:CfgOk C1:=⟨mkEnv_ok size1,mkEnv_zero size1,more1,mkEnv_fnOk lt1 name1,by kernel_rfl⟩
end SX
end Go.Proofs.YtdebnbgjgkbmaaaGreatDoor
namespace Go.Proofs.YtdebnbgjgkbmaaaGreatDoor
namespace SX
open Go
set_option linter.unusedVariables false
noncomputable def qT:Value:=.bool true
noncomputable def qF:Value:=.bool false
noncomputable def qI (n:Nat):Value:=.int .i64 (.ofNat n)
noncomputable def qU (n:Nat):Value:=.int .u64 (.ofNat n)
noncomputable def qB (n:Nat):Value:=.int .u8 (.ofNat n)
noncomputable def qW (n:Nat):Value:=.int .u32 (.ofNat n)
noncomputable def qS (l:List Nat):Value:=.string (strB l)
noncomputable def qP (b o:Nat):Value:=.pointer (some ⟨b,o,none⟩)
noncomputable def qL (b o n c:Nat):Value:=.slice (some ⟨b,o,none⟩) n c
noncomputable def qN (t n m:Nat):Value:=.iface t (.pointer (some ⟨n,m,none⟩))
noncomputable def qR (n:Nat) (v:Value):List Value:=Nat.rec (motive:=fun _=>List Value) [] (fun _ ih=>List.cons v ih) n
noncomputable def qBs (l:List Nat):List Value:=l.map qB
noncomputable def sL (c:Code):Code:=match c with | .seq a _=>a | c=>c
noncomputable def sR (c:Code):Code:=match c with | .seq _ b=>b | c=>c
noncomputable def bO (c:Code):Code:=match c with | .block _ b=>b | c=>c
noncomputable def lO (c:Code):Code:=match c with | .loop b=>b | c=>c
end SX
end Go.Proofs.YtdebnbgjgkbmaaaGreatDoor
namespace Go.Proofs.YtdebnbgjgkbmaaaGreatDoor
namespace SX
open Go Go.RowKit
set_option linter.unusedVariables false
abbrev HkF:=Option (Clr→List Value→Hp→Nat→XR)
noncomputable def hkPut (k:List Value→Hp→Nat→XR):HkF:=some fun _=>k
noncomputable def hkIf (b:Bool) (x y:HkF):HkF:=Bool.rec (motive:=fun _=>HkF) y x b
noncomputable def hk1 (f:FuncId):HkF:=
 hkIf (Nat.beq f 128) (hkPut hkSum) (hkIf (Nat.beq f 131) (hkPut hkChain) (hkIf (Nat.beq f 250) (hkPut hkCc) (hkIf (Nat.beq f 284) (hkPut hkJn) (hkIf (Nat.beq f 27) (hkPut hkEnc) (hkIf (Nat.beq f 31) (hkPut hkDec) none)))))
theorem hkIf_some {b:Bool} {x y:HkF} {k:Clr→List Value→Hp→Nat→XR} (h:hkIf b x y=some k):(b=true∧x=some k)∨y=some k:=by
 cases b with
 | false=>exact .inr h
 | true=>exact .inl ⟨rfl,h⟩
theorem hkPut_some {g:List Value→Hp→Nat→XR} {k:Clr→List Value→Hp→Nat→XR} (h:hkPut g=some k):k=fun _=>g:=by
 unfold hkPut at h
 exact (Option.some.inj h).symm
theorem hk1_ok (σ:Sig):HkOk C1 σ hk1:=by
 intro f k hk cl hcl ρ args h nx v h' nx' w args' e s hv
 unfold hk1 at hk
 rcases hkIf_some hk with ⟨hb,hx⟩ | hk
 · obtain rfl:=Nat.eq_of_beq_eq_true hb
   obtain rfl:=hkPut_some hx
   exact sum_ok rfl glT_tabs e s hv
 rcases hkIf_some hk with ⟨hb,hx⟩ | hk
 · obtain rfl:=Nat.eq_of_beq_eq_true hb
   obtain rfl:=hkPut_some hx
   exact chain_ok rfl glT_tabs e s hv
 rcases hkIf_some hk with ⟨hb,hx⟩ | hk
 · obtain rfl:=Nat.eq_of_beq_eq_true hb
   obtain rfl:=hkPut_some hx
   exact cc_ok rfl e s hv
 rcases hkIf_some hk with ⟨hb,hx⟩ | hk
 · obtain rfl:=Nat.eq_of_beq_eq_true hb
   obtain rfl:=hkPut_some hx
   exact jn_ok rfl e s hv
 rcases hkIf_some hk with ⟨hb,hx⟩ | hk
 · obtain rfl:=Nat.eq_of_beq_eq_true hb
   obtain rfl:=hkPut_some hx
   exact enc_ok rfl e s hv
 rcases hkIf_some hk with ⟨hb,hx⟩ | hk
 · obtain rfl:=Nat.eq_of_beq_eq_true hb
   obtain rfl:=hkPut_some hx
   exact dec_ok rfl e s hv
 cases hk
noncomputable def cl1:Clr:=callF C1 hk1 10000 60
theorem cl1_ok (σ:Sig):CallOk C1 σ cl1:=callF_ok cfg1 fns1 (hk1_ok σ) 10000 60
end SX
end Go.Proofs.YtdebnbgjgkbmaaaGreatDoor
namespace Go.Proofs.YtdebnbgjgkbmaaaGreatDoor
namespace SX
open Go Go.RowKit
set_option linter.unusedVariables false
set_option maxRecDepth 1000000
noncomputable def kpA:List Nat:=[16,17,18,19,20,21,22,23,24,25,26,29,30,31,32,33,34,35,36,37,39,46,47,48,49,51,58,59,60,61,63]
noncomputable def bsA:List Blk:=[.cells ([(qS []),(qS [])]),
 .cells ([(qL 39 0 2 1),(qL 16 0 1 2),(.slice none 0 0)]),
 .map [],
 .map [],
 .cells ([(qU 0),(qU 0),(.map (some 18)),(.map (some 19))]),
 .map [],
 .map [],
 .map [],
 .map [],
 .cells ([(qP 20 0),(qL 51 0 1 2),(.map (some 21)),(.map (some 22)),(.map (some 23)),(.map (some 24)),qF]),
 .cells (List.append [(qP 25 0),(qU 150)] ((qR 17 qF))),
 .map [],
 .map [],
 .cells ([(qU 0),(qU 0),(.map (some 29)),(.map (some 30))]),
 .map [],
 .map [],
 .map [],
 .map [],
 .cells ([(qP 31 0),(qL 63 0 1 2),(.map (some 32)),(.map (some 33)),(.map (some 34)),(.map (some 35)),qF]),
 .cells (List.append [(qP 36 0),(qU 150)] ((qR 17 qF))),
 .cells ([(qP 26 0),(qP 37 0)]),
 .cells (List.append [(qW 1),(qU 100),(qU 50),(qB 0),(qB 1)] (List.append (qR 30 (qB 0)) (List.append [(qS [108,101,102,116]),(qS [114,105,103,104,116]),(qI 0),(qI 0),qF,(qU 0),(qU 0),qF,qF,qF,(qU 50),(qU 50),(.slice none 0 0),qF,(qI 0)] (List.append (qR 32 (qB 0)) (List.append [qF,(qI 0)] (List.append (qR 32 (qB 0)) (List.append [qF,(qI 0)] (List.append (qR 32 (qB 0)) (List.append [qF,(qI 0)] (List.append (qR 32 (qB 0)) (List.append [qF,(qI 0)] (List.append (qR 32 (qB 0)) (List.append [qF,(qI 0)] (List.append (qR 32 (qB 0)) (List.append [qF,(qI 0)] (List.append (qR 32 (qB 0)) (List.append [qF,(qI 0)] (List.append (qR 32 (qB 0)) (List.append [qF,(qI 0)] (List.append (qR 32 (qB 0)) (List.append [qF,(qI 0)] (List.append (qR 32 (qB 0)) (List.append [qF,(qI 0)] (List.append (qR 32 (qB 0)) (List.append [qF,(qI 0)] (List.append (qR 32 (qB 0)) (List.append [qF,(qI 0)] (List.append (qR 32 (qB 0)) (List.append [qF,(qI 0)] (List.append (qR 32 (qB 0)) (List.append [qF,(qI 0)] (List.append (qR 32 (qB 0)) (List.append [qF,(qI 0)] (List.append (qR 32 (qB 0)) (List.append [qF,(qI 0)] (List.append (qR 32 (qB 0)) ([(.slice none 0 0),(.slice none 0 0)]))))))))))))))))))))))))))))))))))))),
 .cells ([(qN 293 47 6),(.slice none 0 0),(qI 0),qF,(qI 0),qF]),
 .cells ([(qS [])]),
 .cells ([(qP 48 0),(qP 46 0),(qP 47 0),(qS []),(.slice none 0 0),(qI 0),qF,qF,qF]),
 .cells ([(qW 1),(qP 49 0)]),
 .cells (List.append [(qW 1),(qU 100),(qU 50),(qB 0),(qB 2)] (List.append (qR 30 (qB 0)) (List.append [(qS [114,105,103,104,116]),(qS [108,101,102,116]),(qI 0),(qI 0),qF,(qU 0),(qU 0),qF,qF,qF,(qU 50),(qU 50),(.slice none 0 0),qF,(qI 0)] (List.append (qR 32 (qB 0)) (List.append [qF,(qI 0)] (List.append (qR 32 (qB 0)) (List.append [qF,(qI 0)] (List.append (qR 32 (qB 0)) (List.append [qF,(qI 0)] (List.append (qR 32 (qB 0)) (List.append [qF,(qI 0)] (List.append (qR 32 (qB 0)) (List.append [qF,(qI 0)] (List.append (qR 32 (qB 0)) (List.append [qF,(qI 0)] (List.append (qR 32 (qB 0)) (List.append [qF,(qI 0)] (List.append (qR 32 (qB 0)) (List.append [qF,(qI 0)] (List.append (qR 32 (qB 0)) (List.append [qF,(qI 0)] (List.append (qR 32 (qB 0)) (List.append [qF,(qI 0)] (List.append (qR 32 (qB 0)) (List.append [qF,(qI 0)] (List.append (qR 32 (qB 0)) (List.append [qF,(qI 0)] (List.append (qR 32 (qB 0)) (List.append [qF,(qI 0)] (List.append (qR 32 (qB 0)) (List.append [qF,(qI 0)] (List.append (qR 32 (qB 0)) (List.append [qF,(qI 0)] (List.append (qR 32 (qB 0)) (List.append [qF,(qI 0)] (List.append (qR 32 (qB 0)) ([(.slice none 0 0),(.slice none 0 0)]))))))))))))))))))))))))))))))))))))),
 .cells ([(qN 293 59 6),(.slice none 0 0),(qI 0),qF,(qI 0),qF]),
 .cells ([(qS [])]),
 .cells ([(qP 60 0),(qP 58 0),(qP 59 0),(qS []),(.slice none 0 0),(qI 0),qF,qF,qF]),
 .cells ([(qW 1),(qP 61 0)])]
noncomputable def kpB:List Nat:=[16,17,18,19,20,21,22,23,24,25,26,29,30,31,32,33,34,35,36,37,39,46,47,48,49,51,58,59,60,61,63,67]
noncomputable def bsB:List Blk:=[.cells ([(qS []),(qS [])]),
 .cells ([(qL 39 0 2 1),(qL 16 0 1 2),(qL 67 0 1 6)]),
 .map [],
 .map [],
 .cells ([(qU 0),(qU 0),(.map (some 18)),(.map (some 19))]),
 .map [],
 .map [],
 .map [],
 .map [],
 .cells ([(qP 20 0),(qL 51 0 1 2),(.map (some 21)),(.map (some 22)),(.map (some 23)),(.map (some 24)),qF]),
 .cells (List.append [(qP 25 0),(qU 150)] ((qR 17 qF))),
 .map [],
 .map [],
 .cells ([(qU 0),(qU 0),(.map (some 29)),(.map (some 30))]),
 .map [((.agg ⟨(qBs [239,154,117,76,182,13,101,253,115,74,12,183,155,70,50,173,187,218,68,13,162,95,243,165,62,196,190,4,32,158,42,225])⟩),(.agg ⟨List.append [(qB 1)] ((qR 31 (qB 42)))⟩))],
 .map [],
 .map [],
 .map [],
 .cells ([(qP 31 0),(qL 63 0 1 2),(.map (some 32)),(.map (some 33)),(.map (some 34)),(.map (some 35)),qF]),
 .cells (List.append [(qP 36 0),(qU 150)] ((qR 17 qF))),
 .cells ([(qP 26 0),(qP 37 0)]),
 .cells (List.append [(qW 1),(qU 100),(qU 50),(qB 0),(qB 1)] (List.append (qR 30 (qB 0)) (List.append [(qS [108,101,102,116]),(qS [114,105,103,104,116]),(qI 0),(qI 0),qF,(qU 0),(qU 0),qF,qF,qF,(qU 50),(qU 50),(.slice none 0 0),qF,(qI 0)] (List.append (qR 32 (qB 0)) (List.append [qF,(qI 0)] (List.append (qR 32 (qB 0)) (List.append [qF,(qI 0)] (List.append (qR 32 (qB 0)) (List.append [qF,(qI 0)] (List.append (qR 32 (qB 0)) (List.append [qF,(qI 0)] (List.append (qR 32 (qB 0)) (List.append [qF,(qI 0)] (List.append (qR 32 (qB 0)) (List.append [qF,(qI 0)] (List.append (qR 32 (qB 0)) (List.append [qF,(qI 0)] (List.append (qR 32 (qB 0)) (List.append [qF,(qI 0)] (List.append (qR 32 (qB 0)) (List.append [qF,(qI 0)] (List.append (qR 32 (qB 0)) (List.append [qF,(qI 0)] (List.append (qR 32 (qB 0)) (List.append [qF,(qI 0)] (List.append (qR 32 (qB 0)) (List.append [qF,(qI 0)] (List.append (qR 32 (qB 0)) (List.append [qF,(qI 0)] (List.append (qR 32 (qB 0)) (List.append [qF,(qI 0)] (List.append (qR 32 (qB 0)) (List.append [qF,(qI 0)] (List.append (qR 32 (qB 0)) (List.append [qF,(qI 0)] (List.append (qR 32 (qB 0)) ([(.slice none 0 0),(.slice none 0 0)]))))))))))))))))))))))))))))))))))))),
 .cells ([(qN 293 47 6),(.slice none 0 0),(qI 0),qF,(qI 0),qF]),
 .cells ([(qS [])]),
 .cells ([(qP 48 0),(qP 46 0),(qP 47 0),(qS []),(.slice none 0 0),(qI 0),qF,qF,qF]),
 .cells ([(qW 1),(qP 49 0)]),
 .cells (List.append [(qW 1),(qU 100),(qU 50),(qB 0),(qB 2)] (List.append (qR 30 (qB 0)) (List.append [(qS [114,105,103,104,116]),(qS [108,101,102,116]),(qI 0),(qI 0),qF,(qU 0),(qU 0),qF,qF,qF,(qU 50),(qU 50),(.slice none 0 0),qF,(qI 0)] (List.append (qR 32 (qB 0)) (List.append [qF,(qI 0)] (List.append (qR 32 (qB 0)) (List.append [qF,(qI 0)] (List.append (qR 32 (qB 0)) (List.append [qF,(qI 0)] (List.append (qR 32 (qB 0)) (List.append [qF,(qI 0)] (List.append (qR 32 (qB 0)) (List.append [qF,(qI 0)] (List.append (qR 32 (qB 0)) (List.append [qF,(qI 0)] (List.append (qR 32 (qB 0)) (List.append [qF,(qI 0)] (List.append (qR 32 (qB 0)) (List.append [qF,(qI 0)] (List.append (qR 32 (qB 0)) (List.append [qF,(qI 0)] (List.append (qR 32 (qB 0)) (List.append [qF,(qI 0)] (List.append (qR 32 (qB 0)) (List.append [qF,(qI 0)] (List.append (qR 32 (qB 0)) (List.append [qF,(qI 0)] (List.append (qR 32 (qB 0)) (List.append [qF,(qI 0)] (List.append (qR 32 (qB 0)) (List.append [qF,(qI 0)] (List.append (qR 32 (qB 0)) (List.append [qF,(qI 0)] (List.append (qR 32 (qB 0)) (List.append [qF,(qI 0)] (List.append (qR 32 (qB 0)) ([(.slice none 0 0),(.slice none 0 0)]))))))))))))))))))))))))))))))))))))),
 .cells ([(qN 293 59 6),(.slice none 0 0),(qI 0),qF,(qI 0),qF]),
 .cells ([(qS [])]),
 .cells ([(qP 60 0),(qP 58 0),(qP 59 0),(qS []),(.slice none 0 0),(qI 0),qF,qF,qF]),
 .cells ([(qW 1),(qP 61 0)]),
 .cells ([(qI 1),(qI 1),(qI 0),(qU 0),(qB 1),(qI 0)])]
noncomputable def kpC:List Nat:=[16,17,18,19,20,21,22,23,24,25,26,29,30,31,32,33,34,35,36,37,39,46,47,48,49,51,58,59,60,61,63,84,144,148,172]
noncomputable def bsC:List Blk:=[.cells ([(qS []),(qS [0,57,3,0,0,0,1,0,0,0,0,0,0,0,0,0,0,0,0,0,0,0,5,239,154,117,76,182,13,101,253,115,74,12,183,155,70,50,173,187,218,68,13,162,95,243,165,62,196,190,4,32,158,42,225,0,0,0,9])]),
 .cells ([(qL 39 0 2 1),(qL 16 0 1 2),(qL 84 0 2 6)]),
 .map [],
 .map [],
 .cells ([(qU 0),(qU 0),(.map (some 18)),(.map (some 19))]),
 .map [],
 .map [],
 .map [],
 .map [((.agg ⟨[(qI 0),(qU 0)]⟩),(.agg ⟨List.append [(qI 1)] ((qR 32 (qB 0)))⟩))],
 .cells ([(qP 20 0),(qL 51 0 1 2),(.map (some 21)),(.map (some 22)),(.map (some 23)),(.map (some 24)),qF]),
 .cells (List.append [(qP 25 0),(qU 150)] ((qR 17 qF))),
 .map [],
 .map [],
 .cells ([(qU 0),(qU 0),(.map (some 29)),(.map (some 30))]),
 .map [((.agg ⟨(qBs [239,154,117,76,182,13,101,253,115,74,12,183,155,70,50,173,187,218,68,13,162,95,243,165,62,196,190,4,32,158,42,225])⟩),(.agg ⟨List.append [(qB 1)] ((qR 31 (qB 42)))⟩))],
 .map [],
 .map [],
 .map [],
 .cells ([(qP 31 0),(qL 63 0 1 2),(.map (some 32)),(.map (some 33)),(.map (some 34)),(.map (some 35)),qF]),
 .cells (List.append [(qP 36 0),(qU 150)] ((qR 17 qF))),
 .cells ([(qP 26 0),(qP 37 0)]),
 .cells (List.append [(qW 1),(qU 100),(qU 50),(qB 0),(qB 1)] (List.append (qR 30 (qB 0)) (List.append [(qS [108,101,102,116]),(qS [114,105,103,104,116]),(qI 0),(qI 0),qF,(qU 1),(qU 0),qF,qF,qF,(qU 45),(qU 50),(qL 144 0 1 38),qF,(qI 0)] (List.append (qR 32 (qB 0)) (List.append [qF,(qI 0)] (List.append (qR 32 (qB 0)) (List.append [qF,(qI 0)] (List.append (qR 32 (qB 0)) (List.append [qF,(qI 0)] (List.append (qR 32 (qB 0)) (List.append [qF,(qI 0)] (List.append (qR 32 (qB 0)) (List.append [qF,(qI 0)] (List.append (qR 32 (qB 0)) (List.append [qF,(qI 0)] (List.append (qR 32 (qB 0)) (List.append [qF,(qI 0)] (List.append (qR 32 (qB 0)) (List.append [qF,(qI 0)] (List.append (qR 32 (qB 0)) (List.append [qF,(qI 0)] (List.append (qR 32 (qB 0)) (List.append [qF,(qI 0)] (List.append (qR 32 (qB 0)) (List.append [qF,(qI 0)] (List.append (qR 32 (qB 0)) (List.append [qF,(qI 0)] (List.append (qR 32 (qB 0)) (List.append [qF,(qI 0)] (List.append (qR 32 (qB 0)) (List.append [qF,(qI 0)] (List.append (qR 32 (qB 0)) (List.append [qF,(qI 0)] (List.append (qR 32 (qB 0)) (List.append [qF,(qI 0)] (List.append (qR 32 (qB 0)) ([(qL 148 0 1 38),(.slice none 0 0)]))))))))))))))))))))))))))))))))))))),
 .cells ([(qP 47 0),(qL 172 0 59 1),(qI 1),qF,(qI 0),qF]),
 .cells ([(qS [])]),
 .cells ([(qP 48 0),(qP 46 0),(qP 47 0),(qS []),(.slice none 0 0),(qI 0),qF,qF,qF]),
 .cells ([(qW 1),(qP 49 0)]),
 .cells (List.append [(qW 1),(qU 100),(qU 50),(qB 0),(qB 2)] (List.append (qR 30 (qB 0)) (List.append [(qS [114,105,103,104,116]),(qS [108,101,102,116]),(qI 0),(qI 0),qF,(qU 0),(qU 0),qF,qF,qF,(qU 50),(qU 50),(.slice none 0 0),qF,(qI 0)] (List.append (qR 32 (qB 0)) (List.append [qF,(qI 0)] (List.append (qR 32 (qB 0)) (List.append [qF,(qI 0)] (List.append (qR 32 (qB 0)) (List.append [qF,(qI 0)] (List.append (qR 32 (qB 0)) (List.append [qF,(qI 0)] (List.append (qR 32 (qB 0)) (List.append [qF,(qI 0)] (List.append (qR 32 (qB 0)) (List.append [qF,(qI 0)] (List.append (qR 32 (qB 0)) (List.append [qF,(qI 0)] (List.append (qR 32 (qB 0)) (List.append [qF,(qI 0)] (List.append (qR 32 (qB 0)) (List.append [qF,(qI 0)] (List.append (qR 32 (qB 0)) (List.append [qF,(qI 0)] (List.append (qR 32 (qB 0)) (List.append [qF,(qI 0)] (List.append (qR 32 (qB 0)) (List.append [qF,(qI 0)] (List.append (qR 32 (qB 0)) (List.append [qF,(qI 0)] (List.append (qR 32 (qB 0)) (List.append [qF,(qI 0)] (List.append (qR 32 (qB 0)) (List.append [qF,(qI 0)] (List.append (qR 32 (qB 0)) (List.append [qF,(qI 0)] (List.append (qR 32 (qB 0)) ([(.slice none 0 0),(.slice none 0 0)]))))))))))))))))))))))))))))))))))))),
 .cells ([(qN 293 59 6),(.slice none 0 0),(qI 0),qF,(qI 0),qF]),
 .cells ([(qS [])]),
 .cells ([(qP 60 0),(qP 58 0),(qP 59 0),(qS []),(.slice none 0 0),(qI 0),qF,qF,qF]),
 .cells ([(qW 1),(qP 61 0)]),
 .cells ([(qI 1),(qI 1),(qI 0),(qU 0),(qB 1),(qI 0),(qI 3),(qI 0),(qI 0),(qU 5),(qB 1),(qI 9)]),
 .cells (List.append [(qU 0),(qU 5)] (List.append (qBs [239,154,117,76,182,13,101,253,115,74,12,183,155,70,50,173,187,218,68,13,162,95,243,165,62,196,190,4,32,158,42,225]) ([(qI 9),qT,(qI 0),qF]))),
 .cells (List.append [(qI 3),(qW 1),(qU 0),(qU 5)] (List.append (qBs [239,154,117,76,182,13,101,253,115,74,12,183,155,70,50,173,187,218,68,13,162,95,243,165,62,196,190,4,32,158,42,225]) ([(qI 9),(qI 0)]))),
 .cells (List.append (qR 9 (qB 0)) (List.append [(qB 45),(qB 1)] (List.append (qR 7 (qB 0)) ((qBs [5,239,154,117,76,182,13,101,253,115,74,12,183,155,70,50,173,187,218,68,13,162,95,243,165,62,196,190,4,32,158,42,225,0,0,0,9,155,194,208,229])))))]
noncomputable def an0:Value:=.agg ⟨[qI 0,qU 0,.slice none 0 0]⟩
noncomputable def rq1:Value:=(.agg ⟨[qI 1,qI 1,qI 0,qU 0,qB 1,qI 0]⟩)
noncomputable def rq2:Value:=(.agg ⟨[qI 3,qI 0,qI 0,qU 5,qB 1,qI 9]⟩)
noncomputable def rq3:Value:=(.agg ⟨[qI 8,qI 0,qI 0,qU 0,qB 0,qI 0]⟩)
theorem lkA:ltH kpA=true:=by kernel_rfl
theorem lkB:ltH kpB=true:=by kernel_rfl
theorem lkC:ltH kpC=true:=by kernel_rfl
theorem runA:snapR kpA (cl1 86 [qI 2,qU 100,qU 0,qU 0] .nil 16)=.ok (qP 17 0) bsA 64:=by kernel_rfl
theorem runB:snapR kpB (cl1 18 [qP 17 0,rq1] (mkH kpA bsA) 64)=.ok an0 bsB 81:=by kernel_rfl
theorem runC:snapR kpC (cl1 18 [qP 17 0,rq2] (mkH kpB bsB) 81)=.ok an0 bsC 177:=by kernel_rfl
end SX
end Go.Proofs.YtdebnbgjgkbmaaaGreatDoor
namespace Go.Proofs.YtdebnbgjgkbmaaaGreatDoor
namespace SX
open Go Go.RowKit
set_option linter.unusedVariables false
set_option maxRecDepth 1000000
noncomputable def bd19:Code:=(Tryz.f19.body).getD .skip
noncomputable def c19a:Code:=sL bd19
noncomputable def c19b:Code:=sL (sR bd19)
noncomputable def c19c:Code:=sL (sL (sR (sR bd19)))
noncomputable def c19l:Code:=lO (bO (sR (sL (sR (sR bd19)))))
noncomputable def c19z:Code:=sR (sR (sR bd19))
theorem body19:Tryz.f19.body=some (.seq c19a (.seq c19b (.seq (.seq c19c (.block 0 (.loop c19l))) c19z))):=by kernel_rfl
theorem ok19a:codeOk C1.E 29 c19a=true:=by kernel_rfl
theorem ok19b:codeOk C1.E 29 c19b=true:=by kernel_rfl
theorem ok19c:codeOk C1.E 29 c19c=true:=by kernel_rfl
theorem ok19l:codeOk C1.E 29 c19l=true:=by kernel_rfl
theorem ok19z:codeOk C1.E 29 c19z=true:=by kernel_rfl
noncomputable def fL:KX:=codeF C1 cl1 1000 c19l
end SX
end Go.Proofs.YtdebnbgjgkbmaaaGreatDoor
namespace Go.Proofs.YtdebnbgjgkbmaaaGreatDoor
namespace SX
open Go Go.RowKit
set_option linter.unusedVariables false
set_option maxRecDepth 1000000
noncomputable def vs_0:List Value:=List.append [(qP 17 0),(qI 60),(.tuple ⟨[]⟩),(.tuple ⟨[]⟩),(qI 0),(qI 0),(.tuple ⟨[]⟩),(.tuple ⟨[]⟩),(qI 60),(qI 60),(qI 0)] ((qR 18 (.tuple ⟨[]⟩)))
noncomputable def kp_0:List Nat:=[16,17,18,19,20,21,22,23,24,25,26,29,30,31,32,33,34,35,36,37,39,46,47,48,49,51,58,59,60,61,63,84,144,148,172]
noncomputable def bs_0:List Blk:=[.cells ([(qS []),(qS [0,57,3,0,0,0,1,0,0,0,0,0,0,0,0,0,0,0,0,0,0,0,5,239,154,117,76,182,13,101,253,115,74,12,183,155,70,50,173,187,218,68,13,162,95,243,165,62,196,190,4,32,158,42,225,0,0,0,9])]),
 .cells ([(qL 39 0 2 1),(qL 16 0 1 2),(qL 84 0 2 6)]),
 .map [],
 .map [],
 .cells ([(qU 0),(qU 0),(.map (some 18)),(.map (some 19))]),
 .map [],
 .map [],
 .map [],
 .map [((.agg ⟨[(qI 0),(qU 0)]⟩),(.agg ⟨List.append [(qI 1)] ((qR 32 (qB 0)))⟩))],
 .cells ([(qP 20 0),(qL 51 0 1 2),(.map (some 21)),(.map (some 22)),(.map (some 23)),(.map (some 24)),qF]),
 .cells (List.append [(qP 25 0),(qU 150)] ((qR 17 qF))),
 .map [],
 .map [],
 .cells ([(qU 0),(qU 0),(.map (some 29)),(.map (some 30))]),
 .map [((.agg ⟨(qBs [239,154,117,76,182,13,101,253,115,74,12,183,155,70,50,173,187,218,68,13,162,95,243,165,62,196,190,4,32,158,42,225])⟩),(.agg ⟨List.append [(qB 1)] ((qR 31 (qB 42)))⟩))],
 .map [],
 .map [],
 .map [],
 .cells ([(qP 31 0),(qL 63 0 1 2),(.map (some 32)),(.map (some 33)),(.map (some 34)),(.map (some 35)),qF]),
 .cells (List.append [(qP 36 0),(qU 150)] ((qR 17 qF))),
 .cells ([(qP 26 0),(qP 37 0)]),
 .cells (List.append [(qW 1),(qU 100),(qU 50),(qB 0),(qB 1)] (List.append (qR 30 (qB 0)) (List.append [(qS [108,101,102,116]),(qS [114,105,103,104,116]),(qI 0),(qI 0),qF,(qU 1),(qU 0),qF,qF,qF,(qU 45),(qU 50),(qL 144 0 1 38),qF,(qI 0)] (List.append (qR 32 (qB 0)) (List.append [qF,(qI 0)] (List.append (qR 32 (qB 0)) (List.append [qF,(qI 0)] (List.append (qR 32 (qB 0)) (List.append [qF,(qI 0)] (List.append (qR 32 (qB 0)) (List.append [qF,(qI 0)] (List.append (qR 32 (qB 0)) (List.append [qF,(qI 0)] (List.append (qR 32 (qB 0)) (List.append [qF,(qI 0)] (List.append (qR 32 (qB 0)) (List.append [qF,(qI 0)] (List.append (qR 32 (qB 0)) (List.append [qF,(qI 0)] (List.append (qR 32 (qB 0)) (List.append [qF,(qI 0)] (List.append (qR 32 (qB 0)) (List.append [qF,(qI 0)] (List.append (qR 32 (qB 0)) (List.append [qF,(qI 0)] (List.append (qR 32 (qB 0)) (List.append [qF,(qI 0)] (List.append (qR 32 (qB 0)) (List.append [qF,(qI 0)] (List.append (qR 32 (qB 0)) (List.append [qF,(qI 0)] (List.append (qR 32 (qB 0)) (List.append [qF,(qI 0)] (List.append (qR 32 (qB 0)) (List.append [qF,(qI 0)] (List.append (qR 32 (qB 0)) ([(qL 148 0 1 38),(.slice none 0 0)]))))))))))))))))))))))))))))))))))))),
 .cells ([(qP 47 0),(qL 172 0 59 1),(qI 1),qF,(qI 0),qF]),
 .cells ([(qS [])]),
 .cells ([(qP 48 0),(qP 46 0),(qP 47 0),(qS []),(.slice none 0 0),(qI 0),qF,qF,qF]),
 .cells ([(qW 1),(qP 49 0)]),
 .cells (List.append [(qW 1),(qU 100),(qU 50),(qB 0),(qB 2)] (List.append (qR 30 (qB 0)) (List.append [(qS [114,105,103,104,116]),(qS [108,101,102,116]),(qI 0),(qI 0),qF,(qU 0),(qU 0),qF,qF,qF,(qU 50),(qU 50),(.slice none 0 0),qF,(qI 0)] (List.append (qR 32 (qB 0)) (List.append [qF,(qI 0)] (List.append (qR 32 (qB 0)) (List.append [qF,(qI 0)] (List.append (qR 32 (qB 0)) (List.append [qF,(qI 0)] (List.append (qR 32 (qB 0)) (List.append [qF,(qI 0)] (List.append (qR 32 (qB 0)) (List.append [qF,(qI 0)] (List.append (qR 32 (qB 0)) (List.append [qF,(qI 0)] (List.append (qR 32 (qB 0)) (List.append [qF,(qI 0)] (List.append (qR 32 (qB 0)) (List.append [qF,(qI 0)] (List.append (qR 32 (qB 0)) (List.append [qF,(qI 0)] (List.append (qR 32 (qB 0)) (List.append [qF,(qI 0)] (List.append (qR 32 (qB 0)) (List.append [qF,(qI 0)] (List.append (qR 32 (qB 0)) (List.append [qF,(qI 0)] (List.append (qR 32 (qB 0)) (List.append [qF,(qI 0)] (List.append (qR 32 (qB 0)) (List.append [qF,(qI 0)] (List.append (qR 32 (qB 0)) (List.append [qF,(qI 0)] (List.append (qR 32 (qB 0)) (List.append [qF,(qI 0)] (List.append (qR 32 (qB 0)) ([(.slice none 0 0),(.slice none 0 0)]))))))))))))))))))))))))))))))))))))),
 .cells ([(qN 293 59 6),(.slice none 0 0),(qI 0),qF,(qI 0),qF]),
 .cells ([(qS [])]),
 .cells ([(qP 60 0),(qP 58 0),(qP 59 0),(qS []),(.slice none 0 0),(qI 0),qF,qF,qF]),
 .cells ([(qW 1),(qP 61 0)]),
 .cells ([(qI 1),(qI 1),(qI 0),(qU 0),(qB 1),(qI 0),(qI 3),(qI 0),(qI 0),(qU 5),(qB 1),(qI 9)]),
 .cells (List.append [(qU 0),(qU 5)] (List.append (qBs [239,154,117,76,182,13,101,253,115,74,12,183,155,70,50,173,187,218,68,13,162,95,243,165,62,196,190,4,32,158,42,225]) ([(qI 9),qT,(qI 0),qF]))),
 .cells (List.append [(qI 3),(qW 1),(qU 0),(qU 5)] (List.append (qBs [239,154,117,76,182,13,101,253,115,74,12,183,155,70,50,173,187,218,68,13,162,95,243,165,62,196,190,4,32,158,42,225]) ([(qI 9),(qI 0)]))),
 .cells (List.append (qR 9 (qB 0)) (List.append [(qB 45),(qB 1)] (List.append (qR 7 (qB 0)) ((qBs [5,239,154,117,76,182,13,101,253,115,74,12,183,155,70,50,173,187,218,68,13,162,95,243,165,62,196,190,4,32,158,42,225,0,0,0,9,155,194,208,229])))))]
theorem lk_0:ltH kp_0=true:=by kernel_rfl
noncomputable def vs_1:List Value:=[(qP 17 0),(qI 60),(.tuple ⟨[]⟩),(.tuple ⟨[]⟩),(qI 0),(qI 0),(qI 5),(qI 0),(qI 60),(qI 60),(qI 1),qT,(qP 17 0),(qI 6),(qI 6),qF,(qI 5),(qP 17 0),(qI 5),(qI 0),(qI 0),qT,(qI 0),(qI 0),(qL 250 0 2 1),(qI 0),(qI 6),(qI 1),(.tuple ⟨[]⟩)]
noncomputable def kp_1:List Nat:=[16,17,18,19,20,21,22,23,24,25,26,29,30,31,32,33,34,35,36,37,39,46,47,48,49,51,58,59,60,61,63,84,144,148,172,213,237,250]
noncomputable def bs_1:List Blk:=[.cells ([(qS []),(qS [])]),
 .cells ([(qL 39 0 2 1),(qL 16 0 1 2),(qL 84 0 2 6)]),
 .map [],
 .map [],
 .cells ([(qU 0),(qU 0),(.map (some 18)),(.map (some 19))]),
 .map [],
 .map [],
 .map [],
 .map [((.agg ⟨[(qI 0),(qU 0)]⟩),(.agg ⟨List.append [(qI 1)] ((qR 32 (qB 0)))⟩))],
 .cells ([(qP 20 0),(qL 51 0 1 2),(.map (some 21)),(.map (some 22)),(.map (some 23)),(.map (some 24)),qF]),
 .cells (List.append [(qP 25 0),(qU 150)] ((qR 17 qF))),
 .map [],
 .map [],
 .cells ([(qU 0),(qU 0),(.map (some 29)),(.map (some 30))]),
 .map [((.agg ⟨(qBs [239,154,117,76,182,13,101,253,115,74,12,183,155,70,50,173,187,218,68,13,162,95,243,165,62,196,190,4,32,158,42,225])⟩),(.agg ⟨List.append [(qB 1)] ((qR 31 (qB 42)))⟩))],
 .map [],
 .map [],
 .map [],
 .cells ([(qP 31 0),(qL 63 0 1 2),(.map (some 32)),(.map (some 33)),(.map (some 34)),(.map (some 35)),qF]),
 .cells (List.append [(qP 36 0),(qU 150)] ((qR 17 qF))),
 .cells ([(qP 26 0),(qP 37 0)]),
 .cells (List.append [(qW 1),(qU 100),(qU 50),(qB 0),(qB 1)] (List.append (qR 30 (qB 0)) (List.append [(qS [108,101,102,116]),(qS [114,105,103,104,116]),(qI 0),(qI 0),qF,(qU 1),(qU 0),qF,qF,qF,(qU 45),(qU 50),(qL 144 0 1 38),qF,(qI 0)] (List.append (qR 32 (qB 0)) (List.append [qF,(qI 0)] (List.append (qR 32 (qB 0)) (List.append [qF,(qI 0)] (List.append (qR 32 (qB 0)) (List.append [qF,(qI 0)] (List.append (qR 32 (qB 0)) (List.append [qF,(qI 0)] (List.append (qR 32 (qB 0)) (List.append [qF,(qI 0)] (List.append (qR 32 (qB 0)) (List.append [qF,(qI 0)] (List.append (qR 32 (qB 0)) (List.append [qF,(qI 0)] (List.append (qR 32 (qB 0)) (List.append [qF,(qI 0)] (List.append (qR 32 (qB 0)) (List.append [qF,(qI 0)] (List.append (qR 32 (qB 0)) (List.append [qF,(qI 0)] (List.append (qR 32 (qB 0)) (List.append [qF,(qI 0)] (List.append (qR 32 (qB 0)) (List.append [qF,(qI 0)] (List.append (qR 32 (qB 0)) (List.append [qF,(qI 0)] (List.append (qR 32 (qB 0)) (List.append [qF,(qI 0)] (List.append (qR 32 (qB 0)) (List.append [qF,(qI 0)] (List.append (qR 32 (qB 0)) (List.append [qF,(qI 0)] (List.append (qR 32 (qB 0)) ([(qL 148 0 1 38),(.slice none 0 0)]))))))))))))))))))))))))))))))))))))),
 .cells ([(qP 47 0),(qL 172 0 59 1),(qI 1),qF,(qI 0),qF]),
 .cells ([(qS [])]),
 .cells ([(qP 48 0),(qP 46 0),(qP 47 0),(qS []),(.slice none 0 0),(qI 1),qF,qF,qF]),
 .cells ([(qW 1),(qP 49 0)]),
 .cells (List.append [(qW 1),(qU 100),(qU 50),(qB 0),(qB 2)] (List.append (qR 30 (qB 0)) (List.append [(qS [114,105,103,104,116]),(qS [108,101,102,116]),(qI 0),(qI 0),qF,(qU 0),(qU 1),qF,qF,qF,(qU 50),(qU 45),(qL 213 0 1 38),qF,(qI 0)] (List.append (qR 32 (qB 0)) (List.append [qF,(qI 0)] (List.append (qR 32 (qB 0)) (List.append [qF,(qI 0)] (List.append (qR 32 (qB 0)) (List.append [qF,(qI 0)] (List.append (qR 32 (qB 0)) (List.append [qF,(qI 0)] (List.append (qR 32 (qB 0)) (List.append [qF,(qI 0)] (List.append (qR 32 (qB 0)) (List.append [qF,(qI 0)] (List.append (qR 32 (qB 0)) (List.append [qF,(qI 0)] (List.append (qR 32 (qB 0)) (List.append [qF,(qI 0)] (List.append (qR 32 (qB 0)) (List.append [qF,(qI 0)] (List.append (qR 32 (qB 0)) (List.append [qF,(qI 0)] (List.append (qR 32 (qB 0)) (List.append [qF,(qI 0)] (List.append (qR 32 (qB 0)) (List.append [qF,(qI 0)] (List.append (qR 32 (qB 0)) (List.append [qF,(qI 0)] (List.append (qR 32 (qB 0)) (List.append [qF,(qI 0)] (List.append (qR 32 (qB 0)) (List.append [qF,(qI 0)] (List.append (qR 32 (qB 0)) (List.append [qF,(qI 0)] (List.append (qR 32 (qB 0)) ([(.slice none 0 0),(.slice none 0 0)]))))))))))))))))))))))))))))))))))))),
 .cells ([(qP 59 0),(qL 237 0 72 1),(qI 1),qF,(qI 0),qF]),
 .cells ([(qS [])]),
 .cells ([(qP 60 0),(qP 58 0),(qP 59 0),(qS []),(.slice none 0 0),(qI 1),qF,qF,qF]),
 .cells ([(qW 1),(qP 61 0)]),
 .cells ([(qI 1),(qI 1),(qI 0),(qU 0),(qB 1),(qI 0),(qI 3),(qI 0),(qI 0),(qU 5),(qB 1),(qI 9)]),
 .cells (List.append [(qU 0),(qU 5)] (List.append (qBs [239,154,117,76,182,13,101,253,115,74,12,183,155,70,50,173,187,218,68,13,162,95,243,165,62,196,190,4,32,158,42,225]) ([(qI 9),qT,(qI 0),qF]))),
 .cells (List.append [(qI 3),(qW 1),(qU 0),(qU 5)] (List.append (qBs [239,154,117,76,182,13,101,253,115,74,12,183,155,70,50,173,187,218,68,13,162,95,243,165,62,196,190,4,32,158,42,225]) ([(qI 9),(qI 0)]))),
 .cells (List.append (qR 9 (qB 0)) (List.append [(qB 45),(qB 1)] (List.append (qR 7 (qB 0)) ((qBs [5,239,154,117,76,182,13,101,253,115,74,12,183,155,70,50,173,187,218,68,13,162,95,243,165,62,196,190,4,32,158,42,225,0,0,0,9,155,194,208,229]))))),
 .cells (List.append [(qU 0),(qU 5)] (List.append (qBs [239,154,117,76,182,13,101,253,115,74,12,183,155,70,50,173,187,218,68,13,162,95,243,165,62,196,190,4,32,158,42,225]) ([(qI 9),qF,(qI 0),qF]))),
 .cells (List.append (qR 9 (qB 0)) (List.append (qBs [58,6,3,0,0,0,1]) (List.append (qR 15 (qB 0)) ((qBs [5,239,154,117,76,182,13,101,253,115,74,12,183,155,70,50,173,187,218,68,13,162,95,243,165,62,196,190,4,32,158,42,225,0,0,0,9,133,247,113,158]))))),
 .cells ([(qI 0),(qI 0)])]
theorem lk_1:ltH kp_1=true:=by kernel_rfl
theorem run_1:snapC 29 kp_1 (iterF fL 1 (mkT vs_0) (mkH kp_0 bs_0) 177)=.ok vs_1 bs_1 251:=by kernel_rfl
noncomputable def vs_2:List Value:=[(qP 17 0),(qI 60),(.tuple ⟨[]⟩),(.tuple ⟨[]⟩),(qI 0),(qI 0),(qI 5),(qI 0),(qI 60),(qI 60),(qI 2),qT,(qP 17 0),(qI 6),(qI 6),qF,(qI 5),(qP 17 0),(qI 5),(qI 0),(qI 0),qT,(qI 0),(qI 0),(qL 258 0 2 1),(qI 0),(qI 6),(qI 2),(.tuple ⟨[]⟩)]
noncomputable def kp_2:List Nat:=[16,17,18,19,20,21,22,23,24,25,26,29,30,31,32,33,34,35,36,37,39,46,47,48,49,51,58,59,60,61,63,84,144,148,172,213,237,258]
noncomputable def bs_2:List Blk:=[.cells ([(qS []),(qS [])]),
 .cells ([(qL 39 0 2 1),(qL 16 0 1 2),(qL 84 0 2 6)]),
 .map [],
 .map [],
 .cells ([(qU 0),(qU 0),(.map (some 18)),(.map (some 19))]),
 .map [],
 .map [],
 .map [],
 .map [((.agg ⟨[(qI 0),(qU 0)]⟩),(.agg ⟨List.append [(qI 1)] ((qR 32 (qB 0)))⟩))],
 .cells ([(qP 20 0),(qL 51 0 1 2),(.map (some 21)),(.map (some 22)),(.map (some 23)),(.map (some 24)),qF]),
 .cells (List.append [(qP 25 0),(qU 150)] ((qR 17 qF))),
 .map [],
 .map [],
 .cells ([(qU 0),(qU 0),(.map (some 29)),(.map (some 30))]),
 .map [((.agg ⟨(qBs [239,154,117,76,182,13,101,253,115,74,12,183,155,70,50,173,187,218,68,13,162,95,243,165,62,196,190,4,32,158,42,225])⟩),(.agg ⟨List.append [(qB 1)] ((qR 31 (qB 42)))⟩))],
 .map [],
 .map [],
 .map [],
 .cells ([(qP 31 0),(qL 63 0 1 2),(.map (some 32)),(.map (some 33)),(.map (some 34)),(.map (some 35)),qF]),
 .cells (List.append [(qP 36 0),(qU 150)] ((qR 17 qF))),
 .cells ([(qP 26 0),(qP 37 0)]),
 .cells (List.append [(qW 1),(qU 100),(qU 50),(qB 0),(qB 1)] (List.append (qR 30 (qB 0)) (List.append [(qS [108,101,102,116]),(qS [114,105,103,104,116]),(qI 0),(qI 0),qF,(qU 1),(qU 0),qF,qF,qF,(qU 45),(qU 50),(qL 144 0 1 38),qF,(qI 0)] (List.append (qR 32 (qB 0)) (List.append [qF,(qI 0)] (List.append (qR 32 (qB 0)) (List.append [qF,(qI 0)] (List.append (qR 32 (qB 0)) (List.append [qF,(qI 0)] (List.append (qR 32 (qB 0)) (List.append [qF,(qI 0)] (List.append (qR 32 (qB 0)) (List.append [qF,(qI 0)] (List.append (qR 32 (qB 0)) (List.append [qF,(qI 0)] (List.append (qR 32 (qB 0)) (List.append [qF,(qI 0)] (List.append (qR 32 (qB 0)) (List.append [qF,(qI 0)] (List.append (qR 32 (qB 0)) (List.append [qF,(qI 0)] (List.append (qR 32 (qB 0)) (List.append [qF,(qI 0)] (List.append (qR 32 (qB 0)) (List.append [qF,(qI 0)] (List.append (qR 32 (qB 0)) (List.append [qF,(qI 0)] (List.append (qR 32 (qB 0)) (List.append [qF,(qI 0)] (List.append (qR 32 (qB 0)) (List.append [qF,(qI 0)] (List.append (qR 32 (qB 0)) (List.append [qF,(qI 0)] (List.append (qR 32 (qB 0)) (List.append [qF,(qI 0)] (List.append (qR 32 (qB 0)) ([(qL 148 0 1 38),(.slice none 0 0)]))))))))))))))))))))))))))))))))))))),
 .cells ([(qP 47 0),(qL 172 0 59 1),(qI 1),qF,(qI 0),qF]),
 .cells ([(qS [])]),
 .cells ([(qP 48 0),(qP 46 0),(qP 47 0),(qS []),(.slice none 0 0),(qI 2),qF,qF,qF]),
 .cells ([(qW 1),(qP 49 0)]),
 .cells (List.append [(qW 1),(qU 100),(qU 50),(qB 0),(qB 2)] (List.append (qR 30 (qB 0)) (List.append [(qS [114,105,103,104,116]),(qS [108,101,102,116]),(qI 0),(qI 0),qF,(qU 0),(qU 1),qF,qF,qF,(qU 50),(qU 45),(qL 213 0 1 38),qF,(qI 0)] (List.append (qR 32 (qB 0)) (List.append [qF,(qI 0)] (List.append (qR 32 (qB 0)) (List.append [qF,(qI 0)] (List.append (qR 32 (qB 0)) (List.append [qF,(qI 0)] (List.append (qR 32 (qB 0)) (List.append [qF,(qI 0)] (List.append (qR 32 (qB 0)) (List.append [qF,(qI 0)] (List.append (qR 32 (qB 0)) (List.append [qF,(qI 0)] (List.append (qR 32 (qB 0)) (List.append [qF,(qI 0)] (List.append (qR 32 (qB 0)) (List.append [qF,(qI 0)] (List.append (qR 32 (qB 0)) (List.append [qF,(qI 0)] (List.append (qR 32 (qB 0)) (List.append [qF,(qI 0)] (List.append (qR 32 (qB 0)) (List.append [qF,(qI 0)] (List.append (qR 32 (qB 0)) (List.append [qF,(qI 0)] (List.append (qR 32 (qB 0)) (List.append [qF,(qI 0)] (List.append (qR 32 (qB 0)) (List.append [qF,(qI 0)] (List.append (qR 32 (qB 0)) (List.append [qF,(qI 0)] (List.append (qR 32 (qB 0)) (List.append [qF,(qI 0)] (List.append (qR 32 (qB 0)) ([(.slice none 0 0),(.slice none 0 0)]))))))))))))))))))))))))))))))))))))),
 .cells ([(qP 59 0),(qL 237 0 72 1),(qI 1),qF,(qI 0),qF]),
 .cells ([(qS [])]),
 .cells ([(qP 60 0),(qP 58 0),(qP 59 0),(qS []),(.slice none 0 0),(qI 2),qF,qF,qF]),
 .cells ([(qW 1),(qP 61 0)]),
 .cells ([(qI 1),(qI 1),(qI 0),(qU 0),(qB 1),(qI 0),(qI 3),(qI 0),(qI 0),(qU 5),(qB 1),(qI 9)]),
 .cells (List.append [(qU 0),(qU 5)] (List.append (qBs [239,154,117,76,182,13,101,253,115,74,12,183,155,70,50,173,187,218,68,13,162,95,243,165,62,196,190,4,32,158,42,225]) ([(qI 9),qT,(qI 0),qF]))),
 .cells (List.append [(qI 3),(qW 1),(qU 0),(qU 5)] (List.append (qBs [239,154,117,76,182,13,101,253,115,74,12,183,155,70,50,173,187,218,68,13,162,95,243,165,62,196,190,4,32,158,42,225]) ([(qI 9),(qI 0)]))),
 .cells (List.append (qR 9 (qB 0)) (List.append [(qB 45),(qB 1)] (List.append (qR 7 (qB 0)) ((qBs [5,239,154,117,76,182,13,101,253,115,74,12,183,155,70,50,173,187,218,68,13,162,95,243,165,62,196,190,4,32,158,42,225,0,0,0,9,155,194,208,229]))))),
 .cells (List.append [(qU 0),(qU 5)] (List.append (qBs [239,154,117,76,182,13,101,253,115,74,12,183,155,70,50,173,187,218,68,13,162,95,243,165,62,196,190,4,32,158,42,225]) ([(qI 9),qF,(qI 0),qF]))),
 .cells (List.append (qR 9 (qB 0)) (List.append (qBs [58,6,3,0,0,0,1]) (List.append (qR 15 (qB 0)) ((qBs [5,239,154,117,76,182,13,101,253,115,74,12,183,155,70,50,173,187,218,68,13,162,95,243,165,62,196,190,4,32,158,42,225,0,0,0,9,133,247,113,158]))))),
 .cells ([(qI 0),(qI 0)])]
theorem lk_2:ltH kp_2=true:=by kernel_rfl
theorem run_2:snapC 29 kp_2 (iterF fL 1 (mkT vs_1) (mkH kp_1 bs_1) 251)=.ok vs_2 bs_2 259:=by kernel_rfl
noncomputable def vs_3:List Value:=[(qP 17 0),(qI 60),(.tuple ⟨[]⟩),(.tuple ⟨[]⟩),(qI 0),(qI 0),(qI 5),(qI 0),(qI 60),(qI 60),(qI 3),qT,(qP 17 0),(qI 6),(qI 6),qF,(qI 5),(qP 17 0),(qI 5),(qI 0),(qI 0),qT,(qI 0),(qI 0),(qL 465 0 2 1),(qI 0),(qI 6),(qI 3),(.tuple ⟨[]⟩)]
noncomputable def kp_3:List Nat:=[16,17,18,19,20,21,22,23,24,25,26,29,30,31,32,33,34,35,36,37,39,46,47,48,49,51,58,59,60,61,63,84,213,237,278,416,440,465]
noncomputable def bs_3:List Blk:=[.cells ([(qS []),(qS [0,39,6,0,0,0,1,0,1,179,164,227,75,35,65,203,61,71,156,187,235,91,21,100,187,210,202,73,147,111,15,75,78,202,14,204,227,177,184,17,253])]),
 .cells ([(qL 39 0 2 1),(qL 16 0 1 2),(qL 84 0 2 6)]),
 .map [],
 .map [],
 .cells ([(qU 0),(qU 0),(.map (some 18)),(.map (some 19))]),
 .map [],
 .map [],
 .map [],
 .map [((.agg ⟨[(qI 0),(qU 0)]⟩),(.agg ⟨List.append [(qI 1)] ((qR 32 (qB 0)))⟩))],
 .cells ([(qP 20 0),(qL 51 0 1 2),(.map (some 21)),(.map (some 22)),(.map (some 23)),(.map (some 24)),qF]),
 .cells (List.append [(qP 25 0),(qU 150)] ((qR 17 qF))),
 .map [],
 .map [],
 .cells ([(qU 0),(qU 0),(.map (some 29)),(.map (some 30))]),
 .map [((.agg ⟨(qBs [239,154,117,76,182,13,101,253,115,74,12,183,155,70,50,173,187,218,68,13,162,95,243,165,62,196,190,4,32,158,42,225])⟩),(.agg ⟨List.append [(qB 1)] ((qR 31 (qB 42)))⟩))],
 .map [],
 .map [],
 .map [],
 .cells ([(qP 31 0),(qL 63 0 1 2),(.map (some 32)),(.map (some 33)),(.map (some 34)),(.map (some 35)),qF]),
 .cells (List.append [(qP 36 0),(qU 150)] ((qR 17 qF))),
 .cells ([(qP 26 0),(qP 37 0)]),
 .cells (List.append [(qW 1),(qU 100),(qU 50),(qB 0),(qB 1)] (List.append (qR 30 (qB 0)) (List.append [(qS [108,101,102,116]),(qS [114,105,103,104,116]),(qI 1),(qI 0),qT,(qU 1),(qU 0),qF,qF,qF,(qU 45),(qU 50),(qL 278 0 1 38),qF,(qI 0)] (List.append (qR 32 (qB 0)) (List.append [qF,(qI 0)] (List.append (qR 32 (qB 0)) (List.append [qF,(qI 0)] (List.append (qR 32 (qB 0)) (List.append [qF,(qI 0)] (List.append (qR 32 (qB 0)) (List.append [qF,(qI 0)] (List.append (qR 32 (qB 0)) (List.append [qF,(qI 0)] (List.append (qR 32 (qB 0)) (List.append [qF,(qI 0)] (List.append (qR 32 (qB 0)) (List.append [qF,(qI 0)] (List.append (qR 32 (qB 0)) (List.append [qF,(qI 0)] (List.append (qR 32 (qB 0)) (List.append [qF,(qI 0)] (List.append (qR 32 (qB 0)) (List.append [qF,(qI 0)] (List.append (qR 32 (qB 0)) (List.append [qF,(qI 0)] (List.append (qR 32 (qB 0)) (List.append [qF,(qI 0)] (List.append (qR 32 (qB 0)) (List.append [qF,(qI 0)] (List.append (qR 32 (qB 0)) (List.append [qF,(qI 0)] (List.append (qR 32 (qB 0)) (List.append [qF,(qI 0)] (List.append (qR 32 (qB 0)) (List.append [qF,(qI 0)] (List.append (qR 32 (qB 0)) ([(.slice none 0 0),(qL 416 0 2 38)]))))))))))))))))))))))))))))))))))))),
 .cells ([(qP 47 0),(qL 440 0 74 1),(qI 2),qF,(qI 0),qF]),
 .cells ([(qS [])]),
 .cells ([(qP 48 0),(qP 46 0),(qP 47 0),(qS []),(.slice none 0 0),(qI 3),qF,qF,qF]),
 .cells ([(qW 1),(qP 49 0)]),
 .cells (List.append [(qW 1),(qU 100),(qU 50),(qB 0),(qB 2)] (List.append (qR 30 (qB 0)) (List.append [(qS [114,105,103,104,116]),(qS [108,101,102,116]),(qI 0),(qI 0),qF,(qU 0),(qU 1),qF,qF,qF,(qU 50),(qU 45),(qL 213 0 1 38),qF,(qI 0)] (List.append (qR 32 (qB 0)) (List.append [qF,(qI 0)] (List.append (qR 32 (qB 0)) (List.append [qF,(qI 0)] (List.append (qR 32 (qB 0)) (List.append [qF,(qI 0)] (List.append (qR 32 (qB 0)) (List.append [qF,(qI 0)] (List.append (qR 32 (qB 0)) (List.append [qF,(qI 0)] (List.append (qR 32 (qB 0)) (List.append [qF,(qI 0)] (List.append (qR 32 (qB 0)) (List.append [qF,(qI 0)] (List.append (qR 32 (qB 0)) (List.append [qF,(qI 0)] (List.append (qR 32 (qB 0)) (List.append [qF,(qI 0)] (List.append (qR 32 (qB 0)) (List.append [qF,(qI 0)] (List.append (qR 32 (qB 0)) (List.append [qF,(qI 0)] (List.append (qR 32 (qB 0)) (List.append [qF,(qI 0)] (List.append (qR 32 (qB 0)) (List.append [qF,(qI 0)] (List.append (qR 32 (qB 0)) (List.append [qF,(qI 0)] (List.append (qR 32 (qB 0)) (List.append [qF,(qI 0)] (List.append (qR 32 (qB 0)) (List.append [qF,(qI 0)] (List.append (qR 32 (qB 0)) ([(.slice none 0 0),(.slice none 0 0)]))))))))))))))))))))))))))))))))))))),
 .cells ([(qP 59 0),(qL 237 0 72 1),(qI 1),qF,(qI 0),qF]),
 .cells ([(qS [])]),
 .cells ([(qP 60 0),(qP 58 0),(qP 59 0),(qS []),(.slice none 0 0),(qI 3),qF,qF,qF]),
 .cells ([(qW 1),(qP 61 0)]),
 .cells ([(qI 1),(qI 1),(qI 0),(qU 0),(qB 1),(qI 0),(qI 3),(qI 0),(qI 0),(qU 5),(qB 1),(qI 9)]),
 .cells (List.append [(qU 0),(qU 5)] (List.append (qBs [239,154,117,76,182,13,101,253,115,74,12,183,155,70,50,173,187,218,68,13,162,95,243,165,62,196,190,4,32,158,42,225]) ([(qI 9),qF,(qI 0),qF]))),
 .cells (List.append (qR 9 (qB 0)) (List.append (qBs [58,6,3,0,0,0,1]) (List.append (qR 15 (qB 0)) ((qBs [5,239,154,117,76,182,13,101,253,115,74,12,183,155,70,50,173,187,218,68,13,162,95,243,165,62,196,190,4,32,158,42,225,0,0,0,9,133,247,113,158]))))),
 .cells (List.append [(qU 0),(qU 5)] (List.append (qBs [239,154,117,76,182,13,101,253,115,74,12,183,155,70,50,173,187,218,68,13,162,95,243,165,62,196,190,4,32,158,42,225]) ([(qI 9),qT,(qI 1),qF]))),
 .cells (List.append [(qI 3),(qW 1),(qU 0),(qU 5)] (List.append (qBs [239,154,117,76,182,13,101,253,115,74,12,183,155,70,50,173,187,218,68,13,162,95,243,165,62,196,190,4,32,158,42,225]) (List.append [(qI 9),(qI 0),(qI 6),(qW 1),(qU 0),(qU 0)] (List.append (qBs [179,164,227,75,35,65,203,61,71,156,187,235,91,21,100,187,210,202,73,147,111,15,75,78,202,14,204,227,177,184,17,253]) ([(qI 0),(qI 1)]))))),
 .cells (List.append (qR 9 (qB 0)) (List.append [(qB 45),(qB 1)] (List.append (qR 7 (qB 0)) (List.append (qBs [5,239,154,117,76,182,13,101,253,115,74,12,183,155,70,50,173,187,218,68,13,162,95,243,165,62,196,190,4,32,158,42,225,0,0,0,9,155,194,208,229]) (List.append (qR 7 (qB 0)) ((qBs [1,0,1,4,155,93,30,123]))))))),
 .cells ([(qI 0),(qI 0)])]
theorem lk_3:ltH kp_3=true:=by kernel_rfl
theorem run_3:snapC 29 kp_3 (iterF fL 1 (mkT vs_2) (mkH kp_2 bs_2) 259)=.ok vs_3 bs_3 466:=by kernel_rfl
end SX
end Go.Proofs.YtdebnbgjgkbmaaaGreatDoor
namespace Go.Proofs.YtdebnbgjgkbmaaaGreatDoor
namespace SX
open Go Go.RowKit
set_option linter.unusedVariables false
set_option maxRecDepth 1000000
noncomputable def vs_6:List Value:=[(qP 17 0),(qI 60),(.tuple ⟨[]⟩),(.tuple ⟨[]⟩),(qI 0),(qI 0),(qI 5),(qI 0),(qI 60),(qI 60),(qI 6),qT,(qP 17 0),(qI 6),(qI 6),qF,(qI 5),(qP 17 0),(qI 5),(qI 0),(qI 0),qT,(qI 0),(qI 0),(qL 986 0 2 1),(qI 0),(qI 6),(qI 6),(.tuple ⟨[]⟩)]
noncomputable def kp_6:List Nat:=[16,17,18,19,20,21,22,23,24,25,26,29,30,31,32,33,34,35,36,37,39,46,47,48,49,51,58,59,60,61,63,84,416,738,762,814,952,976,986]
noncomputable def bs_6:List Blk:=[.cells ([(qS [0,39,6,0,0,0,1,0,1,43,255,198,219,209,208,197,135,241,106,171,108,30,15,208,185,55,36,233,142,109,131,186,10,237,236,30,8,70,78,212,139]),(qS [])]),
 .cells ([(qL 39 0 2 1),(qL 16 0 1 2),(qL 84 0 2 6)]),
 .map [],
 .map [],
 .cells ([(qU 0),(qU 0),(.map (some 18)),(.map (some 19))]),
 .map [],
 .map [],
 .map [],
 .map [((.agg ⟨[(qI 0),(qU 0)]⟩),(.agg ⟨List.append [(qI 1)] ((qR 32 (qB 0)))⟩))],
 .cells ([(qP 20 0),(qL 51 0 1 2),(.map (some 21)),(.map (some 22)),(.map (some 23)),(.map (some 24)),qF]),
 .cells (List.append [(qP 25 0),(qU 150)] ((qR 17 qF))),
 .map [],
 .map [],
 .cells ([(qU 0),(qU 0),(.map (some 29)),(.map (some 30))]),
 .map [((.agg ⟨(qBs [239,154,117,76,182,13,101,253,115,74,12,183,155,70,50,173,187,218,68,13,162,95,243,165,62,196,190,4,32,158,42,225])⟩),(.agg ⟨List.append [(qB 1)] ((qR 31 (qB 42)))⟩))],
 .map [],
 .map [],
 .map [],
 .cells ([(qP 31 0),(qL 63 0 1 2),(.map (some 32)),(.map (some 33)),(.map (some 34)),(.map (some 35)),qF]),
 .cells (List.append [(qP 36 0),(qU 150)] ((qR 17 qF))),
 .cells ([(qP 26 0),(qP 37 0)]),
 .cells (List.append [(qW 1),(qU 100),(qU 50),(qB 0),(qB 1)] (List.append (qR 30 (qB 0)) (List.append [(qS [108,101,102,116]),(qS [114,105,103,104,116]),(qI 1),(qI 0),qF,(qU 1),(qU 0),qF,qF,qF,(qU 45),(qU 50),(qL 738 0 1 38),qT,(qI 65535)] (List.append (qBs [230,106,86,196,60,149,167,152,57,89,193,180,173,201,35,48,79,114,18,75,202,70,226,219,211,48,13,184,236,180,38,85]) (List.append [qF,(qI 0)] (List.append (qR 32 (qB 0)) (List.append [qF,(qI 0)] (List.append (qR 32 (qB 0)) (List.append [qF,(qI 0)] (List.append (qR 32 (qB 0)) (List.append [qF,(qI 0)] (List.append (qR 32 (qB 0)) (List.append [qF,(qI 0)] (List.append (qR 32 (qB 0)) (List.append [qF,(qI 0)] (List.append (qR 32 (qB 0)) (List.append [qF,(qI 0)] (List.append (qR 32 (qB 0)) (List.append [qF,(qI 0)] (List.append (qR 32 (qB 0)) (List.append [qF,(qI 0)] (List.append (qR 32 (qB 0)) (List.append [qF,(qI 0)] (List.append (qR 32 (qB 0)) (List.append [qF,(qI 0)] (List.append (qR 32 (qB 0)) (List.append [qF,(qI 0)] (List.append (qR 32 (qB 0)) (List.append [qF,(qI 0)] (List.append (qR 32 (qB 0)) (List.append [qF,(qI 0)] (List.append (qR 32 (qB 0)) (List.append [qF,(qI 0)] (List.append (qR 32 (qB 0)) (List.append [qF,(qI 0)] (List.append (qR 32 (qB 0)) ([(.slice none 0 0),(qL 416 0 2 38)]))))))))))))))))))))))))))))))))))))),
 .cells ([(qP 47 0),(qL 762 0 128 1),(qI 3),qF,(qI 0),qF]),
 .cells ([(qS [])]),
 .cells ([(qP 48 0),(qP 46 0),(qP 47 0),(qS []),(.slice none 0 0),(qI 6),qF,qF,qF]),
 .cells ([(qW 1),(qP 49 0)]),
 .cells (List.append [(qW 1),(qU 100),(qU 50),(qB 0),(qB 2)] (List.append (qR 30 (qB 0)) (List.append [(qS [114,105,103,104,116]),(qS [108,101,102,116]),(qI 1),(qI 1),qT,(qU 0),(qU 1),qF,qF,qF,(qU 50),(qU 45),(qL 814 0 1 38),qF,(qI 0)] (List.append (qR 32 (qB 0)) (List.append [qF,(qI 0)] (List.append (qR 32 (qB 0)) (List.append [qF,(qI 0)] (List.append (qR 32 (qB 0)) (List.append [qF,(qI 0)] (List.append (qR 32 (qB 0)) (List.append [qF,(qI 0)] (List.append (qR 32 (qB 0)) (List.append [qF,(qI 0)] (List.append (qR 32 (qB 0)) (List.append [qF,(qI 0)] (List.append (qR 32 (qB 0)) (List.append [qF,(qI 0)] (List.append (qR 32 (qB 0)) (List.append [qF,(qI 0)] (List.append (qR 32 (qB 0)) (List.append [qF,(qI 0)] (List.append (qR 32 (qB 0)) (List.append [qF,(qI 0)] (List.append (qR 32 (qB 0)) (List.append [qF,(qI 0)] (List.append (qR 32 (qB 0)) (List.append [qF,(qI 0)] (List.append (qR 32 (qB 0)) (List.append [qF,(qI 0)] (List.append (qR 32 (qB 0)) (List.append [qF,(qI 0)] (List.append (qR 32 (qB 0)) (List.append [qF,(qI 0)] (List.append (qR 32 (qB 0)) (List.append [qF,(qI 0)] (List.append (qR 32 (qB 0)) ([(.slice none 0 0),(qL 952 0 1 38)]))))))))))))))))))))))))))))))))))))),
 .cells ([(qP 59 0),(qL 976 0 141 1),(qI 3),qF,(qI 0),qF]),
 .cells ([(qS [])]),
 .cells ([(qP 60 0),(qP 58 0),(qP 59 0),(qS []),(.slice none 0 0),(qI 6),qF,qF,qF]),
 .cells ([(qW 1),(qP 61 0)]),
 .cells ([(qI 1),(qI 1),(qI 0),(qU 0),(qB 1),(qI 0),(qI 3),(qI 0),(qI 0),(qU 5),(qB 1),(qI 9)]),
 .cells (List.append [(qI 3),(qW 1),(qU 0),(qU 5)] (List.append (qBs [239,154,117,76,182,13,101,253,115,74,12,183,155,70,50,173,187,218,68,13,162,95,243,165,62,196,190,4,32,158,42,225]) (List.append [(qI 9),(qI 0),(qI 6),(qW 1),(qU 0),(qU 0)] (List.append (qBs [179,164,227,75,35,65,203,61,71,156,187,235,91,21,100,187,210,202,73,147,111,15,75,78,202,14,204,227,177,184,17,253]) ([(qI 0),(qI 1)]))))),
 .cells (List.append [(qU 0),(qU 5)] (List.append (qBs [239,154,117,76,182,13,101,253,115,74,12,183,155,70,50,173,187,218,68,13,162,95,243,165,62,196,190,4,32,158,42,225]) ([(qI 9),qT,(qI 2),qF]))),
 .cells (List.append (qR 9 (qB 0)) (List.append [(qB 45),(qB 1)] (List.append (qR 7 (qB 0)) (List.append (qBs [5,239,154,117,76,182,13,101,253,115,74,12,183,155,70,50,173,187,218,68,13,162,95,243,165,62,196,190,4,32,158,42,225,0,0,0,9,155,194,208,229]) (List.append (qR 7 (qB 0)) (List.append (qBs [1,0,1,4,155,93,30,123]) (List.append (qR 7 (qB 0)) ((qBs [2,0,40,6,7,0,0,0,1,0,0,230,106,86,196,60,149,167,152,57,89,193,180,173,201,35,48,79,114,18,75,202,70,226,219,211,48,13,184,236,180,38,85,227,185,33,212]))))))))),
 .cells (List.append [(qU 0),(qU 5)] (List.append (qBs [239,154,117,76,182,13,101,253,115,74,12,183,155,70,50,173,187,218,68,13,162,95,243,165,62,196,190,4,32,158,42,225]) ([(qI 9),qF,(qI 3),qF]))),
 .cells (List.append [(qI 6),(qW 1),(qU 0),(qU 0)] (List.append (qBs [43,255,198,219,209,208,197,135,241,106,171,108,30,15,208,185,55,36,233,142,109,131,186,10,237,236,30,8,70,78,212,139]) ([(qI 0),(qI 1)]))),
 .cells (List.append (qR 9 (qB 0)) (List.append (qBs [58,6,3,0,0,0,1]) (List.append (qR 15 (qB 0)) (List.append (qBs [5,239,154,117,76,182,13,101,253,115,74,12,183,155,70,50,173,187,218,68,13,162,95,243,165,62,196,190,4,32,158,42,225,0,0,0,9,133,247,113,158]) (List.append (qR 7 (qB 0)) (List.append (qBs [1,0,40,6,6,0,0,0,1,0,1,179,164,227,75,35,65,203,61,71,156,187,235,91,21,100,187,210,202,73,147,111,15,75,78,202,14,204,227,177,184,17,253,112,237,130,50]) (List.append (qR 7 (qB 0)) ((qBs [2,0,1,4,172,18,42,0]))))))))),
 .cells ([(qI 0),(qI 0)])]
theorem lk_6:ltH kp_6=true:=by kernel_rfl
theorem run_6:snapC 29 kp_6 (iterF fL 3 (mkT vs_3) (mkH kp_3 bs_3) 466)=.ok vs_6 bs_6 987:=by kernel_rfl
end SX
end Go.Proofs.YtdebnbgjgkbmaaaGreatDoor
namespace Go.Proofs.YtdebnbgjgkbmaaaGreatDoor
namespace SX
open Go Go.RowKit
set_option linter.unusedVariables false
set_option maxRecDepth 1000000
noncomputable def vs_9:List Value:=[(qP 17 0),(qI 60),(.tuple ⟨[]⟩),(.tuple ⟨[]⟩),(qI 0),(qI 0),(qI 5),(qI 0),(qI 60),(qI 60),(qI 9),qT,(qP 17 0),(qI 6),(qI 6),qF,(qI 5),(qP 17 0),(qI 5),(qI 0),(qI 0),qT,(qI 0),(qI 0),(qL 1628 0 2 1),(qI 0),(qI 6),(qI 9),(.tuple ⟨[]⟩)]
noncomputable def kp_9:List Nat:=[16,17,18,19,20,21,22,23,24,25,26,29,30,31,32,33,34,35,36,37,39,46,47,48,49,51,58,59,60,61,63,84,416,1169,1449,1511,1594,1618,1628]
noncomputable def bs_9:List Blk:=[.cells ([(qS [0,39,6,0,0,0,1,0,2,51,189,16,79,18,206,89,100,171,230,219,54,119,243,162,212,244,27,25,246,181,162,143,184,242,175,145,202,18,125,253,222]),(qS [])]),
 .cells ([(qL 39 0 2 1),(qL 16 0 1 2),(qL 84 0 2 6)]),
 .map [],
 .map [],
 .cells ([(qU 0),(qU 0),(.map (some 18)),(.map (some 19))]),
 .map [],
 .map [((.agg ⟨(qBs [239,154,117,76,182,13,101,253,115,74,12,183,155,70,50,173,187,218,68,13,162,95,243,165,62,196,190,4,32,158,42,225])⟩),(.agg ⟨List.append [(qB 1)] ((qR 31 (qB 42)))⟩))],
 .map [],
 .map [((.agg ⟨[(qI 0),(qU 0)]⟩),(.agg ⟨List.append [(qI 2),(qB 1)] ((qR 31 (qB 42)))⟩))],
 .cells ([(qP 20 0),(qL 51 0 1 2),(.map (some 21)),(.map (some 22)),(.map (some 23)),(.map (some 24)),qF]),
 .cells (List.append [(qP 25 0),(qU 150)] ((qR 17 qF))),
 .map [],
 .map [],
 .cells ([(qU 0),(qU 0),(.map (some 29)),(.map (some 30))]),
 .map [((.agg ⟨(qBs [239,154,117,76,182,13,101,253,115,74,12,183,155,70,50,173,187,218,68,13,162,95,243,165,62,196,190,4,32,158,42,225])⟩),(.agg ⟨List.append [(qB 1)] ((qR 31 (qB 42)))⟩))],
 .map [],
 .map [],
 .map [],
 .cells ([(qP 31 0),(qL 63 0 1 2),(.map (some 32)),(.map (some 33)),(.map (some 34)),(.map (some 35)),qF]),
 .cells (List.append [(qP 36 0),(qU 150)] ((qR 17 qF))),
 .cells ([(qP 26 0),(qP 37 0)]),
 .cells (List.append [(qW 1),(qU 100),(qU 50),(qB 0),(qB 1)] (List.append (qR 30 (qB 0)) (List.append [(qS [108,101,102,116]),(qS [114,105,103,104,116]),(qI 1),(qI 1),qF,(qU 1),(qU 0),qF,qF,qT,(qU 45),(qU 50),(qL 1169 0 1 38),qT,(qI 65535)] (List.append (qBs [230,106,86,196,60,149,167,152,57,89,193,180,173,201,35,48,79,114,18,75,202,70,226,219,211,48,13,184,236,180,38,85]) (List.append [qF,(qI 0)] (List.append (qR 32 (qB 0)) (List.append [qF,(qI 0)] (List.append (qR 32 (qB 0)) (List.append [qF,(qI 0)] (List.append (qR 32 (qB 0)) (List.append [qF,(qI 0)] (List.append (qR 32 (qB 0)) (List.append [qF,(qI 0)] (List.append (qR 32 (qB 0)) (List.append [qF,(qI 0)] (List.append (qR 32 (qB 0)) (List.append [qF,(qI 0)] (List.append (qR 32 (qB 0)) (List.append [qF,(qI 0)] (List.append (qR 32 (qB 0)) (List.append [qF,(qI 0)] (List.append (qR 32 (qB 0)) (List.append [qF,(qI 0)] (List.append (qR 32 (qB 0)) (List.append [qF,(qI 0)] (List.append (qR 32 (qB 0)) (List.append [qF,(qI 0)] (List.append (qR 32 (qB 0)) (List.append [qF,(qI 0)] (List.append (qR 32 (qB 0)) (List.append [qF,(qI 0)] (List.append (qR 32 (qB 0)) (List.append [qF,(qI 0)] (List.append (qR 32 (qB 0)) (List.append [qF,(qI 0)] (List.append (qR 32 (qB 0)) ([(.slice none 0 0),(qL 416 0 2 38)]))))))))))))))))))))))))))))))))))))),
 .cells ([(qP 47 0),(qL 1449 0 242 1),(qI 5),qF,(qI 0),qF]),
 .cells ([(qS [])]),
 .cells ([(qP 48 0),(qP 46 0),(qP 47 0),(qS []),(.slice none 0 0),(qI 9),qF,qF,qF]),
 .cells ([(qW 1),(qP 49 0)]),
 .cells (List.append [(qW 1),(qU 100),(qU 50),(qB 0),(qB 2)] (List.append (qR 30 (qB 0)) (List.append [(qS [114,105,103,104,116]),(qS [108,101,102,116]),(qI 2),(qI 1),qT,(qU 0),(qU 1),qF,qF,qF,(qU 50),(qU 45),(qL 1511 0 1 38),qT,(qI 65535)] (List.append (qBs [88,177,229,223,227,52,172,193,3,186,251,107,25,88,154,96,116,105,249,213,16,24,213,192,32,212,148,191,95,13,19,83]) (List.append [qF,(qI 0)] (List.append (qR 32 (qB 0)) (List.append [qF,(qI 0)] (List.append (qR 32 (qB 0)) (List.append [qF,(qI 0)] (List.append (qR 32 (qB 0)) (List.append [qF,(qI 0)] (List.append (qR 32 (qB 0)) (List.append [qF,(qI 0)] (List.append (qR 32 (qB 0)) (List.append [qF,(qI 0)] (List.append (qR 32 (qB 0)) (List.append [qF,(qI 0)] (List.append (qR 32 (qB 0)) (List.append [qF,(qI 0)] (List.append (qR 32 (qB 0)) (List.append [qF,(qI 0)] (List.append (qR 32 (qB 0)) (List.append [qF,(qI 0)] (List.append (qR 32 (qB 0)) (List.append [qF,(qI 0)] (List.append (qR 32 (qB 0)) (List.append [qF,(qI 0)] (List.append (qR 32 (qB 0)) (List.append [qF,(qI 0)] (List.append (qR 32 (qB 0)) (List.append [qF,(qI 0)] (List.append (qR 32 (qB 0)) (List.append [qF,(qI 0)] (List.append (qR 32 (qB 0)) (List.append [qF,(qI 0)] (List.append (qR 32 (qB 0)) ([(.slice none 0 0),(qL 1594 0 2 38)]))))))))))))))))))))))))))))))))))))),
 .cells ([(qP 59 0),(qL 1618 0 265 1),(qI 6),qF,(qI 0),qF]),
 .cells ([(qS [])]),
 .cells ([(qP 60 0),(qP 58 0),(qP 59 0),(qS []),(.slice none 0 0),(qI 9),qF,qF,qF]),
 .cells ([(qW 1),(qP 61 0)]),
 .cells ([(qI 1),(qI 1),(qI 0),(qU 0),(qB 1),(qI 0),(qI 3),(qI 0),(qI 0),(qU 5),(qB 1),(qI 9)]),
 .cells (List.append [(qI 3),(qW 1),(qU 0),(qU 5)] (List.append (qBs [239,154,117,76,182,13,101,253,115,74,12,183,155,70,50,173,187,218,68,13,162,95,243,165,62,196,190,4,32,158,42,225]) (List.append [(qI 9),(qI 0),(qI 6),(qW 1),(qU 0),(qU 0)] (List.append (qBs [179,164,227,75,35,65,203,61,71,156,187,235,91,21,100,187,210,202,73,147,111,15,75,78,202,14,204,227,177,184,17,253]) ([(qI 0),(qI 1)]))))),
 .cells (List.append [(qU 0),(qU 5)] (List.append (qBs [239,154,117,76,182,13,101,253,115,74,12,183,155,70,50,173,187,218,68,13,162,95,243,165,62,196,190,4,32,158,42,225]) ([(qI 9),qT,(qI 5),qT]))),
 .cells (List.append (qR 9 (qB 0)) (List.append [(qB 45),(qB 1)] (List.append (qR 7 (qB 0)) (List.append (qBs [5,239,154,117,76,182,13,101,253,115,74,12,183,155,70,50,173,187,218,68,13,162,95,243,165,62,196,190,4,32,158,42,225,0,0,0,9,155,194,208,229]) (List.append (qR 7 (qB 0)) (List.append (qBs [1,0,1,4,155,93,30,123]) (List.append (qR 7 (qB 0)) (List.append (qBs [2,0,40,6,7,0,0,0,1,0,0,230,106,86,196,60,149,167,152,57,89,193,180,173,201,35,48,79,114,18,75,202,70,226,219,211,48,13,184,236,180,38,85,227,185,33,212]) (List.append (qR 7 (qB 0)) (List.append (qBs [3,0,40,6,6,0,0,0,1,0,1,43,255,198,219,209,208,197,135,241,106,171,108,30,15,208,185,55,36,233,142,109,131,186,10,237,236,30,8,70,78,212,139,177,212,146,113]) (List.append (qR 7 (qB 0)) (List.append (qBs [4,0,46,6,4,0,0,0,1]) (List.append (qR 8 (qB 0)) (List.append [(qB 1)] (List.append (qR 31 (qB 42)) ((qBs [4,40,133,212]))))))))))))))))),
 .cells (List.append [(qU 0),(qU 5)] (List.append (qBs [239,154,117,76,182,13,101,253,115,74,12,183,155,70,50,173,187,218,68,13,162,95,243,165,62,196,190,4,32,158,42,225]) ([(qI 9),qF,(qI 6),qT]))),
 .cells (List.append [(qI 4),(qW 1),(qU 0),(qU 0),(qB 1)] (List.append (qR 31 (qB 42)) (List.append [(qI 0),(qI 0),(qI 6),(qW 1),(qU 0),(qU 0)] (List.append (qBs [51,189,16,79,18,206,89,100,171,230,219,54,119,243,162,212,244,27,25,246,181,162,143,184,242,175,145,202,18,125,253,222]) ([(qI 0),(qI 2)]))))),
 .cells (List.append (qR 9 (qB 0)) (List.append (qBs [58,6,3,0,0,0,1]) (List.append (qR 15 (qB 0)) (List.append (qBs [5,239,154,117,76,182,13,101,253,115,74,12,183,155,70,50,173,187,218,68,13,162,95,243,165,62,196,190,4,32,158,42,225,0,0,0,9,133,247,113,158]) (List.append (qR 7 (qB 0)) (List.append (qBs [1,0,40,6,6,0,0,0,1,0,1,179,164,227,75,35,65,203,61,71,156,187,235,91,21,100,187,210,202,73,147,111,15,75,78,202,14,204,227,177,184,17,253,112,237,130,50]) (List.append (qR 7 (qB 0)) (List.append (qBs [2,0,1,4,172,18,42]) (List.append (qR 8 (qB 0)) (List.append (qBs [3,0,40,6,7,0,0,0,1,0,0,88,177,229,223,227,52,172,193,3,186,251,107,25,88,154,96,116,105,249,213,16,24,213,192,32,212,148,191,95,13,19,83,250,163,103,203]) (List.append (qR 7 (qB 0)) (List.append (qBs [4,0,41,2]) (List.append (qR 8 (qB 0)) (List.append [(qB 1)] (List.append (qR 31 (qB 42)) (List.append (qBs [129,155,48,193]) (List.append (qR 7 (qB 0)) ((qBs [5,0,1,4,42,140,225,47]))))))))))))))))))),
 .cells ([(qI 0),(qI 0)])]
theorem lk_9:ltH kp_9=true:=by kernel_rfl
theorem run_9:snapC 29 kp_9 (iterF fL 3 (mkT vs_6) (mkH kp_6 bs_6) 987)=.ok vs_9 bs_9 1629:=by kernel_rfl
noncomputable def vs_12:List Value:=[(qP 17 0),(qI 60),(.tuple ⟨[]⟩),(.tuple ⟨[]⟩),(qI 0),(qI 0),(qI 5),(qI 0),(qI 60),(qI 60),(qI 12),qT,(qP 17 0),(qI 6),(qI 6),qF,(qI 5),(qP 17 0),(qI 5),(qI 0),(qI 0),qT,(qI 0),(qI 0),(qL 2041 0 2 1),(qI 0),(qI 6),(qI 12),(.tuple ⟨[]⟩)]
noncomputable def kp_12:List Nat:=[16,17,18,19,20,21,22,23,24,25,26,29,30,31,32,33,34,35,36,37,39,46,47,48,49,51,58,59,60,61,63,84,1594,1843,1867,1909,1992,2016,2041]
noncomputable def bs_12:List Blk:=[.cells ([(qS []),(qS [0,39,6,0,0,0,1,0,2,242,67,149,245,172,249,31,184,171,237,183,206,22,135,32,197,92,93,135,180,162,85,52,133,25,102,4,2,201,105,177,109])]),
 .cells ([(qL 39 0 2 1),(qL 16 0 1 2),(qL 84 0 2 6)]),
 .map [],
 .map [],
 .cells ([(qU 0),(qU 0),(.map (some 18)),(.map (some 19))]),
 .map [],
 .map [((.agg ⟨(qBs [239,154,117,76,182,13,101,253,115,74,12,183,155,70,50,173,187,218,68,13,162,95,243,165,62,196,190,4,32,158,42,225])⟩),(.agg ⟨List.append [(qB 1)] ((qR 31 (qB 42)))⟩))],
 .map [],
 .map [((.agg ⟨[(qI 0),(qU 0)]⟩),(.agg ⟨List.append [(qI 2),(qB 1)] ((qR 31 (qB 42)))⟩))],
 .cells ([(qP 20 0),(qL 51 0 1 2),(.map (some 21)),(.map (some 22)),(.map (some 23)),(.map (some 24)),qF]),
 .cells (List.append [(qP 25 0),(qU 150)] ((qR 17 qF))),
 .map [],
 .map [],
 .cells ([(qU 0),(qU 0),(.map (some 29)),(.map (some 30))]),
 .map [((.agg ⟨(qBs [239,154,117,76,182,13,101,253,115,74,12,183,155,70,50,173,187,218,68,13,162,95,243,165,62,196,190,4,32,158,42,225])⟩),(.agg ⟨List.append [(qB 1)] ((qR 31 (qB 42)))⟩))],
 .map [],
 .map [],
 .map [],
 .cells ([(qP 31 0),(qL 63 0 1 2),(.map (some 32)),(.map (some 33)),(.map (some 34)),(.map (some 35)),qF]),
 .cells (List.append [(qP 36 0),(qU 150)] ((qR 17 qF))),
 .cells ([(qP 26 0),(qP 37 0)]),
 .cells (List.append [(qW 1),(qU 100),(qU 50),(qB 0),(qB 1)] (List.append (qR 30 (qB 0)) (List.append [(qS [108,101,102,116]),(qS [114,105,103,104,116]),(qI 2),(qI 2),qT,(qU 1),(qU 0),qF,qF,qF,(qU 45),(qU 50),(qL 1909 0 1 38),qT,(qI 65535)] (List.append (qBs [230,106,86,196,60,149,167,152,57,89,193,180,173,201,35,48,79,114,18,75,202,70,226,219,211,48,13,184,236,180,38,85]) (List.append [qF,(qI 0)] (List.append (qR 32 (qB 0)) (List.append [qF,(qI 0)] (List.append (qR 32 (qB 0)) (List.append [qF,(qI 0)] (List.append (qR 32 (qB 0)) (List.append [qF,(qI 0)] (List.append (qR 32 (qB 0)) (List.append [qF,(qI 0)] (List.append (qR 32 (qB 0)) (List.append [qF,(qI 0)] (List.append (qR 32 (qB 0)) (List.append [qF,(qI 0)] (List.append (qR 32 (qB 0)) (List.append [qF,(qI 0)] (List.append (qR 32 (qB 0)) (List.append [qF,(qI 0)] (List.append (qR 32 (qB 0)) (List.append [qF,(qI 0)] (List.append (qR 32 (qB 0)) (List.append [qF,(qI 0)] (List.append (qR 32 (qB 0)) (List.append [qF,(qI 0)] (List.append (qR 32 (qB 0)) (List.append [qF,(qI 0)] (List.append (qR 32 (qB 0)) (List.append [qF,(qI 0)] (List.append (qR 32 (qB 0)) (List.append [qF,(qI 0)] (List.append (qR 32 (qB 0)) (List.append [qF,(qI 0)] (List.append (qR 32 (qB 0)) ([(.slice none 0 0),(qL 1992 0 1 38)]))))))))))))))))))))))))))))))))))))),
 .cells ([(qP 47 0),(qL 2016 0 311 1),(qI 7),qF,(qI 0),qF]),
 .cells ([(qS [])]),
 .cells ([(qP 48 0),(qP 46 0),(qP 47 0),(qS []),(.slice none 0 0),(qI 12),qF,qF,qF]),
 .cells ([(qW 1),(qP 49 0)]),
 .cells (List.append [(qW 1),(qU 100),(qU 50),(qB 0),(qB 2)] (List.append (qR 30 (qB 0)) (List.append [(qS [114,105,103,104,116]),(qS [108,101,102,116]),(qI 2),(qI 1),qF,(qU 0),(qU 1),qF,qF,qF,(qU 50),(qU 45),(qL 1843 0 1 38),qT,(qI 65535)] (List.append (qBs [88,177,229,223,227,52,172,193,3,186,251,107,25,88,154,96,116,105,249,213,16,24,213,192,32,212,148,191,95,13,19,83]) (List.append [qT,(qI 65534)] (List.append (qBs [83,30,15,189,160,53,17,158,82,23,52,207,62,182,203,162,169,82,40,138,90,5,130,174,53,157,247,47,248,199,135,196]) (List.append [qF,(qI 0)] (List.append (qR 32 (qB 0)) (List.append [qF,(qI 0)] (List.append (qR 32 (qB 0)) (List.append [qF,(qI 0)] (List.append (qR 32 (qB 0)) (List.append [qF,(qI 0)] (List.append (qR 32 (qB 0)) (List.append [qF,(qI 0)] (List.append (qR 32 (qB 0)) (List.append [qF,(qI 0)] (List.append (qR 32 (qB 0)) (List.append [qF,(qI 0)] (List.append (qR 32 (qB 0)) (List.append [qF,(qI 0)] (List.append (qR 32 (qB 0)) (List.append [qF,(qI 0)] (List.append (qR 32 (qB 0)) (List.append [qF,(qI 0)] (List.append (qR 32 (qB 0)) (List.append [qF,(qI 0)] (List.append (qR 32 (qB 0)) (List.append [qF,(qI 0)] (List.append (qR 32 (qB 0)) (List.append [qF,(qI 0)] (List.append (qR 32 (qB 0)) (List.append [qF,(qI 0)] (List.append (qR 32 (qB 0)) (List.append [qF,(qI 0)] (List.append (qR 32 (qB 0)) ([(.slice none 0 0),(qL 1594 0 2 38)]))))))))))))))))))))))))))))))))))))),
 .cells ([(qP 59 0),(qL 1867 0 319 1),(qI 7),qF,(qI 0),qF]),
 .cells ([(qS [])]),
 .cells ([(qP 60 0),(qP 58 0),(qP 59 0),(qS []),(.slice none 0 0),(qI 12),qF,qF,qF]),
 .cells ([(qW 1),(qP 61 0)]),
 .cells ([(qI 1),(qI 1),(qI 0),(qU 0),(qB 1),(qI 0),(qI 3),(qI 0),(qI 0),(qU 5),(qB 1),(qI 9)]),
 .cells (List.append [(qI 4),(qW 1),(qU 0),(qU 0),(qB 1)] (List.append (qR 31 (qB 42)) (List.append [(qI 0),(qI 0),(qI 6),(qW 1),(qU 0),(qU 0)] (List.append (qBs [51,189,16,79,18,206,89,100,171,230,219,54,119,243,162,212,244,27,25,246,181,162,143,184,242,175,145,202,18,125,253,222]) ([(qI 0),(qI 2)]))))),
 .cells (List.append [(qU 0),(qU 5)] (List.append (qBs [239,154,117,76,182,13,101,253,115,74,12,183,155,70,50,173,187,218,68,13,162,95,243,165,62,196,190,4,32,158,42,225]) ([(qI 9),qF,(qI 7),qT]))),
 .cells (List.append (qR 9 (qB 0)) (List.append (qBs [58,6,3,0,0,0,1]) (List.append (qR 15 (qB 0)) (List.append (qBs [5,239,154,117,76,182,13,101,253,115,74,12,183,155,70,50,173,187,218,68,13,162,95,243,165,62,196,190,4,32,158,42,225,0,0,0,9,133,247,113,158]) (List.append (qR 7 (qB 0)) (List.append (qBs [1,0,40,6,6,0,0,0,1,0,1,179,164,227,75,35,65,203,61,71,156,187,235,91,21,100,187,210,202,73,147,111,15,75,78,202,14,204,227,177,184,17,253,112,237,130,50]) (List.append (qR 7 (qB 0)) (List.append (qBs [2,0,1,4,172,18,42]) (List.append (qR 8 (qB 0)) (List.append (qBs [3,0,40,6,7,0,0,0,1,0,0,88,177,229,223,227,52,172,193,3,186,251,107,25,88,154,96,116,105,249,213,16,24,213,192,32,212,148,191,95,13,19,83,250,163,103,203]) (List.append (qR 7 (qB 0)) (List.append (qBs [4,0,41,2]) (List.append (qR 8 (qB 0)) (List.append [(qB 1)] (List.append (qR 31 (qB 42)) (List.append (qBs [129,155,48,193]) (List.append (qR 7 (qB 0)) (List.append (qBs [5,0,1,4,42,140,225,47]) (List.append (qR 7 (qB 0)) ((qBs [6,0,40,6,7,0,0,0,1,0,1,83,30,15,189,160,53,17,158,82,23,52,207,62,182,203,162,169,82,40,138,90,5,130,174,53,157,247,47,248,199,135,196,170,227,190,190]))))))))))))))))))))),
 .cells (List.append [(qU 0),(qU 5)] (List.append (qBs [239,154,117,76,182,13,101,253,115,74,12,183,155,70,50,173,187,218,68,13,162,95,243,165,62,196,190,4,32,158,42,225]) ([(qI 9),qT,(qI 8),qT]))),
 .cells (List.append [(qI 6),(qW 1),(qU 0),(qU 0)] (List.append (qBs [242,67,149,245,172,249,31,184,171,237,183,206,22,135,32,197,92,93,135,180,162,85,52,133,25,102,4,2,201,105,177,109]) ([(qI 0),(qI 2)]))),
 .cells (List.append (qR 9 (qB 0)) (List.append [(qB 45),(qB 1)] (List.append (qR 7 (qB 0)) (List.append (qBs [5,239,154,117,76,182,13,101,253,115,74,12,183,155,70,50,173,187,218,68,13,162,95,243,165,62,196,190,4,32,158,42,225,0,0,0,9,155,194,208,229]) (List.append (qR 7 (qB 0)) (List.append (qBs [1,0,1,4,155,93,30,123]) (List.append (qR 7 (qB 0)) (List.append (qBs [2,0,40,6,7,0,0,0,1,0,0,230,106,86,196,60,149,167,152,57,89,193,180,173,201,35,48,79,114,18,75,202,70,226,219,211,48,13,184,236,180,38,85,227,185,33,212]) (List.append (qR 7 (qB 0)) (List.append (qBs [3,0,40,6,6,0,0,0,1,0,1,43,255,198,219,209,208,197,135,241,106,171,108,30,15,208,185,55,36,233,142,109,131,186,10,237,236,30,8,70,78,212,139,177,212,146,113]) (List.append (qR 7 (qB 0)) (List.append (qBs [4,0,46,6,4,0,0,0,1]) (List.append (qR 8 (qB 0)) (List.append [(qB 1)] (List.append (qR 31 (qB 42)) (List.append (qBs [4,40,133,212]) (List.append (qR 7 (qB 0)) (List.append (qBs [5,0,40,6,6,0,0,0,1,0,2,51,189,16,79,18,206,89,100,171,230,219,54,119,243,162,212,244,27,25,246,181,162,143,184,242,175,145,202,18,125,253,222,207,167,73,192]) (List.append (qR 7 (qB 0)) ((qBs [6,0,1,4,95,102,133,224]))))))))))))))))))))),
 .cells ([(qI 0),(qI 0)])]
theorem lk_12:ltH kp_12=true:=by kernel_rfl
theorem run_12:snapC 29 kp_12 (iterF fL 3 (mkT vs_9) (mkH kp_9 bs_9) 1629)=.ok vs_12 bs_12 2042:=by kernel_rfl
end SX
end Go.Proofs.YtdebnbgjgkbmaaaGreatDoor
namespace Go.Proofs.YtdebnbgjgkbmaaaGreatDoor
namespace SX
open Go Go.RowKit
set_option linter.unusedVariables false
set_option maxRecDepth 1000000
noncomputable def vs_15:List Value:=[(qP 17 0),(qI 60),(.tuple ⟨[]⟩),(.tuple ⟨[]⟩),(qI 0),(qI 0),(qI 5),(qI 0),(qI 60),(qI 60),(qI 15),qT,(qP 17 0),(qI 6),(qI 6),qF,(qI 5),(qP 17 0),(qI 5),(qI 0),(qI 0),qT,(qI 0),(qI 0),(qL 2326 0 2 1),(qI 0),(qI 6),(qI 15),(.tuple ⟨[]⟩)]
noncomputable def kp_15:List Nat:=[16,17,18,19,20,21,22,23,24,25,26,29,30,31,32,33,34,35,36,37,39,46,47,48,49,51,58,59,60,61,63,84,1594,1992,2197,2281,2326]
noncomputable def bs_15:List Blk:=[.cells ([(qS []),(qS [])]),
 .cells ([(qL 39 0 2 1),(qL 16 0 1 2),(qL 84 0 2 6)]),
 .map [],
 .map [],
 .cells ([(qU 0),(qU 0),(.map (some 18)),(.map (some 19))]),
 .map [],
 .map [((.agg ⟨(qBs [239,154,117,76,182,13,101,253,115,74,12,183,155,70,50,173,187,218,68,13,162,95,243,165,62,196,190,4,32,158,42,225])⟩),(.agg ⟨List.append [(qB 1)] ((qR 31 (qB 42)))⟩))],
 .map [],
 .map [((.agg ⟨[(qI 0),(qU 0)]⟩),(.agg ⟨List.append [(qI 2),(qB 1)] ((qR 31 (qB 42)))⟩))],
 .cells ([(qP 20 0),(qL 51 0 1 2),(.map (some 21)),(.map (some 22)),(.map (some 23)),(.map (some 24)),qF]),
 .cells (List.append [(qP 25 0),(qU 150)] ((qR 17 qF))),
 .map [],
 .map [],
 .cells ([(qU 0),(qU 0),(.map (some 29)),(.map (some 30))]),
 .map [((.agg ⟨(qBs [239,154,117,76,182,13,101,253,115,74,12,183,155,70,50,173,187,218,68,13,162,95,243,165,62,196,190,4,32,158,42,225])⟩),(.agg ⟨List.append [(qB 1)] ((qR 31 (qB 42)))⟩))],
 .map [],
 .map [],
 .map [],
 .cells ([(qP 31 0),(qL 63 0 1 2),(.map (some 32)),(.map (some 33)),(.map (some 34)),(.map (some 35)),qF]),
 .cells (List.append [(qP 36 0),(qU 150)] ((qR 17 qF))),
 .cells ([(qP 26 0),(qP 37 0)]),
 .cells (List.append [(qW 1),(qU 100),(qU 50),(qB 0),(qB 1)] (List.append (qR 30 (qB 0)) (List.append [(qS [108,101,102,116]),(qS [114,105,103,104,116]),(qI 2),(qI 2),qF,(qU 1),(qU 0),qF,qF,qF,(qU 45),(qU 55),(.slice none 0 0),qT,(qI 65535)] (List.append (qBs [230,106,86,196,60,149,167,152,57,89,193,180,173,201,35,48,79,114,18,75,202,70,226,219,211,48,13,184,236,180,38,85]) (List.append [qT,(qI 65534)] (List.append (qBs [147,50,44,176,234,50,226,88,96,179,197,238,29,86,108,206,57,247,68,183,147,29,139,154,246,211,17,85,87,171,249,169]) (List.append [qF,(qI 0)] (List.append (qR 32 (qB 0)) (List.append [qF,(qI 0)] (List.append (qR 32 (qB 0)) (List.append [qF,(qI 0)] (List.append (qR 32 (qB 0)) (List.append [qF,(qI 0)] (List.append (qR 32 (qB 0)) (List.append [qF,(qI 0)] (List.append (qR 32 (qB 0)) (List.append [qF,(qI 0)] (List.append (qR 32 (qB 0)) (List.append [qF,(qI 0)] (List.append (qR 32 (qB 0)) (List.append [qF,(qI 0)] (List.append (qR 32 (qB 0)) (List.append [qF,(qI 0)] (List.append (qR 32 (qB 0)) (List.append [qF,(qI 0)] (List.append (qR 32 (qB 0)) (List.append [qF,(qI 0)] (List.append (qR 32 (qB 0)) (List.append [qF,(qI 0)] (List.append (qR 32 (qB 0)) (List.append [qF,(qI 0)] (List.append (qR 32 (qB 0)) (List.append [qF,(qI 0)] (List.append (qR 32 (qB 0)) (List.append [qF,(qI 0)] (List.append (qR 32 (qB 0)) ([(.slice none 0 0),(qL 1992 0 1 38)]))))))))))))))))))))))))))))))))))))),
 .cells ([(qP 47 0),(qL 2281 0 365 1),(qI 8),qF,(qI 0),qF]),
 .cells ([(qS [])]),
 .cells ([(qP 48 0),(qP 46 0),(qP 47 0),(qS []),(.slice none 0 0),(qI 15),qF,qF,qF]),
 .cells ([(qW 1),(qP 49 0)]),
 .cells (List.append [(qW 1),(qU 100),(qU 50),(qB 0),(qB 2)] (List.append (qR 30 (qB 0)) (List.append [(qS [114,105,103,104,116]),(qS [108,101,102,116]),(qI 2),(qI 2),qF,(qU 0),(qU 1),qF,qF,qT,(qU 55),(qU 45),(.slice none 0 0),qT,(qI 65535)] (List.append (qBs [88,177,229,223,227,52,172,193,3,186,251,107,25,88,154,96,116,105,249,213,16,24,213,192,32,212,148,191,95,13,19,83]) (List.append [qT,(qI 65534)] (List.append (qBs [83,30,15,189,160,53,17,158,82,23,52,207,62,182,203,162,169,82,40,138,90,5,130,174,53,157,247,47,248,199,135,196]) (List.append [qF,(qI 0)] (List.append (qR 32 (qB 0)) (List.append [qF,(qI 0)] (List.append (qR 32 (qB 0)) (List.append [qF,(qI 0)] (List.append (qR 32 (qB 0)) (List.append [qF,(qI 0)] (List.append (qR 32 (qB 0)) (List.append [qF,(qI 0)] (List.append (qR 32 (qB 0)) (List.append [qF,(qI 0)] (List.append (qR 32 (qB 0)) (List.append [qF,(qI 0)] (List.append (qR 32 (qB 0)) (List.append [qF,(qI 0)] (List.append (qR 32 (qB 0)) (List.append [qF,(qI 0)] (List.append (qR 32 (qB 0)) (List.append [qF,(qI 0)] (List.append (qR 32 (qB 0)) (List.append [qF,(qI 0)] (List.append (qR 32 (qB 0)) (List.append [qF,(qI 0)] (List.append (qR 32 (qB 0)) (List.append [qF,(qI 0)] (List.append (qR 32 (qB 0)) (List.append [qF,(qI 0)] (List.append (qR 32 (qB 0)) (List.append [qF,(qI 0)] (List.append (qR 32 (qB 0)) ([(.slice none 0 0),(qL 1594 0 2 38)]))))))))))))))))))))))))))))))))))))),
 .cells ([(qP 59 0),(qL 2197 0 373 1),(qI 8),qF,(qI 0),qF]),
 .cells ([(qS [])]),
 .cells ([(qP 60 0),(qP 58 0),(qP 59 0),(qS []),(.slice none 0 0),(qI 15),qF,qF,qF]),
 .cells ([(qW 1),(qP 61 0)]),
 .cells ([(qI 1),(qI 1),(qI 0),(qU 0),(qB 1),(qI 0),(qI 3),(qI 0),(qI 0),(qU 5),(qB 1),(qI 9)]),
 .cells (List.append [(qI 4),(qW 1),(qU 0),(qU 0),(qB 1)] (List.append (qR 31 (qB 42)) (List.append [(qI 0),(qI 0),(qI 6),(qW 1),(qU 0),(qU 0)] (List.append (qBs [51,189,16,79,18,206,89,100,171,230,219,54,119,243,162,212,244,27,25,246,181,162,143,184,242,175,145,202,18,125,253,222]) ([(qI 0),(qI 2)]))))),
 .cells (List.append [(qI 6),(qW 1),(qU 0),(qU 0)] (List.append (qBs [242,67,149,245,172,249,31,184,171,237,183,206,22,135,32,197,92,93,135,180,162,85,52,133,25,102,4,2,201,105,177,109]) ([(qI 0),(qI 2)]))),
 .cells (List.append (qR 9 (qB 0)) (List.append (qBs [58,6,3,0,0,0,1]) (List.append (qR 15 (qB 0)) (List.append (qBs [5,239,154,117,76,182,13,101,253,115,74,12,183,155,70,50,173,187,218,68,13,162,95,243,165,62,196,190,4,32,158,42,225,0,0,0,9,133,247,113,158]) (List.append (qR 7 (qB 0)) (List.append (qBs [1,0,40,6,6,0,0,0,1,0,1,179,164,227,75,35,65,203,61,71,156,187,235,91,21,100,187,210,202,73,147,111,15,75,78,202,14,204,227,177,184,17,253,112,237,130,50]) (List.append (qR 7 (qB 0)) (List.append (qBs [2,0,1,4,172,18,42]) (List.append (qR 8 (qB 0)) (List.append (qBs [3,0,40,6,7,0,0,0,1,0,0,88,177,229,223,227,52,172,193,3,186,251,107,25,88,154,96,116,105,249,213,16,24,213,192,32,212,148,191,95,13,19,83,250,163,103,203]) (List.append (qR 7 (qB 0)) (List.append (qBs [4,0,41,2]) (List.append (qR 8 (qB 0)) (List.append [(qB 1)] (List.append (qR 31 (qB 42)) (List.append (qBs [129,155,48,193]) (List.append (qR 7 (qB 0)) (List.append (qBs [5,0,1,4,42,140,225,47]) (List.append (qR 7 (qB 0)) (List.append (qBs [6,0,40,6,7,0,0,0,1,0,1,83,30,15,189,160,53,17,158,82,23,52,207,62,182,203,162,169,82,40,138,90,5,130,174,53,157,247,47,248,199,135,196,170,227,190,190]) (List.append (qR 7 (qB 0)) ((qBs [7,0,40,6,6,0,0,0,1,0,2,242,67,149,245,172,249,31,184,171,237,183,206,22,135,32,197,92,93,135,180,162,85,52,133,25,102,4,2,201,105,177,109,252,219,80,59]))))))))))))))))))))))),
 .cells (List.append (qR 9 (qB 0)) (List.append [(qB 45),(qB 1)] (List.append (qR 7 (qB 0)) (List.append (qBs [5,239,154,117,76,182,13,101,253,115,74,12,183,155,70,50,173,187,218,68,13,162,95,243,165,62,196,190,4,32,158,42,225,0,0,0,9,155,194,208,229]) (List.append (qR 7 (qB 0)) (List.append (qBs [1,0,1,4,155,93,30,123]) (List.append (qR 7 (qB 0)) (List.append (qBs [2,0,40,6,7,0,0,0,1,0,0,230,106,86,196,60,149,167,152,57,89,193,180,173,201,35,48,79,114,18,75,202,70,226,219,211,48,13,184,236,180,38,85,227,185,33,212]) (List.append (qR 7 (qB 0)) (List.append (qBs [3,0,40,6,6,0,0,0,1,0,1,43,255,198,219,209,208,197,135,241,106,171,108,30,15,208,185,55,36,233,142,109,131,186,10,237,236,30,8,70,78,212,139,177,212,146,113]) (List.append (qR 7 (qB 0)) (List.append (qBs [4,0,46,6,4,0,0,0,1]) (List.append (qR 8 (qB 0)) (List.append [(qB 1)] (List.append (qR 31 (qB 42)) (List.append (qBs [4,40,133,212]) (List.append (qR 7 (qB 0)) (List.append (qBs [5,0,40,6,6,0,0,0,1,0,2,51,189,16,79,18,206,89,100,171,230,219,54,119,243,162,212,244,27,25,246,181,162,143,184,242,175,145,202,18,125,253,222,207,167,73,192]) (List.append (qR 7 (qB 0)) (List.append (qBs [6,0,1,4,95,102,133,224]) (List.append (qR 7 (qB 0)) ((qBs [7,0,40,6,7,0,0,0,1,0,1,147,50,44,176,234,50,226,88,96,179,197,238,29,86,108,206,57,247,68,183,147,29,139,154,246,211,17,85,87,171,249,169,173,132,107,124]))))))))))))))))))))))),
 .cells ([(qI 0),(qI 0)])]
theorem lk_15:ltH kp_15=true:=by kernel_rfl
theorem run_15:snapC 29 kp_15 (iterF fL 3 (mkT vs_12) (mkH kp_12 bs_12) 2042)=.ok vs_15 bs_15 2327:=by kernel_rfl
noncomputable def vs_20:List Value:=[(qP 17 0),(qI 60),(.tuple ⟨[]⟩),(.tuple ⟨[]⟩),(qI 0),(qI 0),(qI 5),(qI 0),(qI 60),(qI 60),(qI 20),qT,(qP 17 0),(qI 6),(qI 6),qF,(qI 5),(qP 17 0),(qI 5),(qI 0),(qI 0),qT,(qI 0),(qI 0),(qL 2392 0 2 1),(qI 0),(qI 6),(qI 20),(.tuple ⟨[]⟩)]
noncomputable def kp_20:List Nat:=[16,17,18,19,20,21,22,23,24,25,26,29,30,31,32,33,34,35,36,37,39,46,47,48,49,51,58,59,60,61,63,84,1594,1992,2197,2281,2392]
noncomputable def bs_20:List Blk:=[.cells ([(qS []),(qS [])]),
 .cells ([(qL 39 0 2 1),(qL 16 0 1 2),(qL 84 0 2 6)]),
 .map [],
 .map [],
 .cells ([(qU 0),(qU 0),(.map (some 18)),(.map (some 19))]),
 .map [],
 .map [((.agg ⟨(qBs [239,154,117,76,182,13,101,253,115,74,12,183,155,70,50,173,187,218,68,13,162,95,243,165,62,196,190,4,32,158,42,225])⟩),(.agg ⟨List.append [(qB 1)] ((qR 31 (qB 42)))⟩))],
 .map [],
 .map [((.agg ⟨[(qI 0),(qU 0)]⟩),(.agg ⟨List.append [(qI 2),(qB 1)] ((qR 31 (qB 42)))⟩))],
 .cells ([(qP 20 0),(qL 51 0 1 2),(.map (some 21)),(.map (some 22)),(.map (some 23)),(.map (some 24)),qF]),
 .cells (List.append [(qP 25 0),(qU 150)] ((qR 17 qF))),
 .map [],
 .map [],
 .cells ([(qU 0),(qU 0),(.map (some 29)),(.map (some 30))]),
 .map [((.agg ⟨(qBs [239,154,117,76,182,13,101,253,115,74,12,183,155,70,50,173,187,218,68,13,162,95,243,165,62,196,190,4,32,158,42,225])⟩),(.agg ⟨List.append [(qB 1)] ((qR 31 (qB 42)))⟩))],
 .map [],
 .map [],
 .map [],
 .cells ([(qP 31 0),(qL 63 0 1 2),(.map (some 32)),(.map (some 33)),(.map (some 34)),(.map (some 35)),qF]),
 .cells (List.append [(qP 36 0),(qU 150)] ((qR 17 qF))),
 .cells ([(qP 26 0),(qP 37 0)]),
 .cells (List.append [(qW 1),(qU 100),(qU 50),(qB 0),(qB 1)] (List.append (qR 30 (qB 0)) (List.append [(qS [108,101,102,116]),(qS [114,105,103,104,116]),(qI 2),(qI 2),qF,(qU 1),(qU 0),qF,qF,qF,(qU 45),(qU 55),(.slice none 0 0),qT,(qI 65535)] (List.append (qBs [230,106,86,196,60,149,167,152,57,89,193,180,173,201,35,48,79,114,18,75,202,70,226,219,211,48,13,184,236,180,38,85]) (List.append [qT,(qI 65534)] (List.append (qBs [147,50,44,176,234,50,226,88,96,179,197,238,29,86,108,206,57,247,68,183,147,29,139,154,246,211,17,85,87,171,249,169]) (List.append [qF,(qI 0)] (List.append (qR 32 (qB 0)) (List.append [qF,(qI 0)] (List.append (qR 32 (qB 0)) (List.append [qF,(qI 0)] (List.append (qR 32 (qB 0)) (List.append [qF,(qI 0)] (List.append (qR 32 (qB 0)) (List.append [qF,(qI 0)] (List.append (qR 32 (qB 0)) (List.append [qF,(qI 0)] (List.append (qR 32 (qB 0)) (List.append [qF,(qI 0)] (List.append (qR 32 (qB 0)) (List.append [qF,(qI 0)] (List.append (qR 32 (qB 0)) (List.append [qF,(qI 0)] (List.append (qR 32 (qB 0)) (List.append [qF,(qI 0)] (List.append (qR 32 (qB 0)) (List.append [qF,(qI 0)] (List.append (qR 32 (qB 0)) (List.append [qF,(qI 0)] (List.append (qR 32 (qB 0)) (List.append [qF,(qI 0)] (List.append (qR 32 (qB 0)) (List.append [qF,(qI 0)] (List.append (qR 32 (qB 0)) (List.append [qF,(qI 0)] (List.append (qR 32 (qB 0)) ([(.slice none 0 0),(qL 1992 0 1 38)]))))))))))))))))))))))))))))))))))))),
 .cells ([(qP 47 0),(qL 2281 0 365 1),(qI 8),qF,(qI 0),qF]),
 .cells ([(qS [])]),
 .cells ([(qP 48 0),(qP 46 0),(qP 47 0),(qS []),(.slice none 0 0),(qI 20),qF,qF,qF]),
 .cells ([(qW 1),(qP 49 0)]),
 .cells (List.append [(qW 1),(qU 100),(qU 50),(qB 0),(qB 2)] (List.append (qR 30 (qB 0)) (List.append [(qS [114,105,103,104,116]),(qS [108,101,102,116]),(qI 2),(qI 2),qF,(qU 0),(qU 1),qF,qF,qT,(qU 55),(qU 45),(.slice none 0 0),qT,(qI 65535)] (List.append (qBs [88,177,229,223,227,52,172,193,3,186,251,107,25,88,154,96,116,105,249,213,16,24,213,192,32,212,148,191,95,13,19,83]) (List.append [qT,(qI 65534)] (List.append (qBs [83,30,15,189,160,53,17,158,82,23,52,207,62,182,203,162,169,82,40,138,90,5,130,174,53,157,247,47,248,199,135,196]) (List.append [qF,(qI 0)] (List.append (qR 32 (qB 0)) (List.append [qF,(qI 0)] (List.append (qR 32 (qB 0)) (List.append [qF,(qI 0)] (List.append (qR 32 (qB 0)) (List.append [qF,(qI 0)] (List.append (qR 32 (qB 0)) (List.append [qF,(qI 0)] (List.append (qR 32 (qB 0)) (List.append [qF,(qI 0)] (List.append (qR 32 (qB 0)) (List.append [qF,(qI 0)] (List.append (qR 32 (qB 0)) (List.append [qF,(qI 0)] (List.append (qR 32 (qB 0)) (List.append [qF,(qI 0)] (List.append (qR 32 (qB 0)) (List.append [qF,(qI 0)] (List.append (qR 32 (qB 0)) (List.append [qF,(qI 0)] (List.append (qR 32 (qB 0)) (List.append [qF,(qI 0)] (List.append (qR 32 (qB 0)) (List.append [qF,(qI 0)] (List.append (qR 32 (qB 0)) (List.append [qF,(qI 0)] (List.append (qR 32 (qB 0)) (List.append [qF,(qI 0)] (List.append (qR 32 (qB 0)) ([(.slice none 0 0),(qL 1594 0 2 38)]))))))))))))))))))))))))))))))))))))),
 .cells ([(qP 59 0),(qL 2197 0 373 1),(qI 8),qF,(qI 0),qF]),
 .cells ([(qS [])]),
 .cells ([(qP 60 0),(qP 58 0),(qP 59 0),(qS []),(.slice none 0 0),(qI 20),qF,qF,qF]),
 .cells ([(qW 1),(qP 61 0)]),
 .cells ([(qI 1),(qI 1),(qI 0),(qU 0),(qB 1),(qI 0),(qI 3),(qI 0),(qI 0),(qU 5),(qB 1),(qI 9)]),
 .cells (List.append [(qI 4),(qW 1),(qU 0),(qU 0),(qB 1)] (List.append (qR 31 (qB 42)) (List.append [(qI 0),(qI 0),(qI 6),(qW 1),(qU 0),(qU 0)] (List.append (qBs [51,189,16,79,18,206,89,100,171,230,219,54,119,243,162,212,244,27,25,246,181,162,143,184,242,175,145,202,18,125,253,222]) ([(qI 0),(qI 2)]))))),
 .cells (List.append [(qI 6),(qW 1),(qU 0),(qU 0)] (List.append (qBs [242,67,149,245,172,249,31,184,171,237,183,206,22,135,32,197,92,93,135,180,162,85,52,133,25,102,4,2,201,105,177,109]) ([(qI 0),(qI 2)]))),
 .cells (List.append (qR 9 (qB 0)) (List.append (qBs [58,6,3,0,0,0,1]) (List.append (qR 15 (qB 0)) (List.append (qBs [5,239,154,117,76,182,13,101,253,115,74,12,183,155,70,50,173,187,218,68,13,162,95,243,165,62,196,190,4,32,158,42,225,0,0,0,9,133,247,113,158]) (List.append (qR 7 (qB 0)) (List.append (qBs [1,0,40,6,6,0,0,0,1,0,1,179,164,227,75,35,65,203,61,71,156,187,235,91,21,100,187,210,202,73,147,111,15,75,78,202,14,204,227,177,184,17,253,112,237,130,50]) (List.append (qR 7 (qB 0)) (List.append (qBs [2,0,1,4,172,18,42]) (List.append (qR 8 (qB 0)) (List.append (qBs [3,0,40,6,7,0,0,0,1,0,0,88,177,229,223,227,52,172,193,3,186,251,107,25,88,154,96,116,105,249,213,16,24,213,192,32,212,148,191,95,13,19,83,250,163,103,203]) (List.append (qR 7 (qB 0)) (List.append (qBs [4,0,41,2]) (List.append (qR 8 (qB 0)) (List.append [(qB 1)] (List.append (qR 31 (qB 42)) (List.append (qBs [129,155,48,193]) (List.append (qR 7 (qB 0)) (List.append (qBs [5,0,1,4,42,140,225,47]) (List.append (qR 7 (qB 0)) (List.append (qBs [6,0,40,6,7,0,0,0,1,0,1,83,30,15,189,160,53,17,158,82,23,52,207,62,182,203,162,169,82,40,138,90,5,130,174,53,157,247,47,248,199,135,196,170,227,190,190]) (List.append (qR 7 (qB 0)) ((qBs [7,0,40,6,6,0,0,0,1,0,2,242,67,149,245,172,249,31,184,171,237,183,206,22,135,32,197,92,93,135,180,162,85,52,133,25,102,4,2,201,105,177,109,252,219,80,59]))))))))))))))))))))))),
 .cells (List.append (qR 9 (qB 0)) (List.append [(qB 45),(qB 1)] (List.append (qR 7 (qB 0)) (List.append (qBs [5,239,154,117,76,182,13,101,253,115,74,12,183,155,70,50,173,187,218,68,13,162,95,243,165,62,196,190,4,32,158,42,225,0,0,0,9,155,194,208,229]) (List.append (qR 7 (qB 0)) (List.append (qBs [1,0,1,4,155,93,30,123]) (List.append (qR 7 (qB 0)) (List.append (qBs [2,0,40,6,7,0,0,0,1,0,0,230,106,86,196,60,149,167,152,57,89,193,180,173,201,35,48,79,114,18,75,202,70,226,219,211,48,13,184,236,180,38,85,227,185,33,212]) (List.append (qR 7 (qB 0)) (List.append (qBs [3,0,40,6,6,0,0,0,1,0,1,43,255,198,219,209,208,197,135,241,106,171,108,30,15,208,185,55,36,233,142,109,131,186,10,237,236,30,8,70,78,212,139,177,212,146,113]) (List.append (qR 7 (qB 0)) (List.append (qBs [4,0,46,6,4,0,0,0,1]) (List.append (qR 8 (qB 0)) (List.append [(qB 1)] (List.append (qR 31 (qB 42)) (List.append (qBs [4,40,133,212]) (List.append (qR 7 (qB 0)) (List.append (qBs [5,0,40,6,6,0,0,0,1,0,2,51,189,16,79,18,206,89,100,171,230,219,54,119,243,162,212,244,27,25,246,181,162,143,184,242,175,145,202,18,125,253,222,207,167,73,192]) (List.append (qR 7 (qB 0)) (List.append (qBs [6,0,1,4,95,102,133,224]) (List.append (qR 7 (qB 0)) ((qBs [7,0,40,6,7,0,0,0,1,0,1,147,50,44,176,234,50,226,88,96,179,197,238,29,86,108,206,57,247,68,183,147,29,139,154,246,211,17,85,87,171,249,169,173,132,107,124]))))))))))))))))))))))),
 .cells ([(qI 0),(qI 0)])]
theorem lk_20:ltH kp_20=true:=by kernel_rfl
theorem run_20:snapC 29 kp_20 (iterF fL 5 (mkT vs_15) (mkH kp_15 bs_15) 2327)=.ok vs_20 bs_20 2393:=by kernel_rfl
noncomputable def vs_30:List Value:=[(qP 17 0),(qI 60),(.tuple ⟨[]⟩),(.tuple ⟨[]⟩),(qI 0),(qI 0),(qI 5),(qI 0),(qI 60),(qI 60),(qI 30),qT,(qP 17 0),(qI 6),(qI 6),qF,(qI 5),(qP 17 0),(qI 5),(qI 0),(qI 0),qT,(qI 0),(qI 0),(qL 2576 0 2 1),(qI 0),(qI 6),(qI 30),(.tuple ⟨[]⟩)]
noncomputable def kp_30:List Nat:=[16,17,18,19,20,21,22,23,24,25,26,29,30,31,32,33,34,35,36,37,39,46,47,48,49,51,58,59,60,61,63,84,1594,1992,2197,2281,2576]
noncomputable def bs_30:List Blk:=[.cells ([(qS []),(qS [])]),
 .cells ([(qL 39 0 2 1),(qL 16 0 1 2),(qL 84 0 2 6)]),
 .map [],
 .map [],
 .cells ([(qU 0),(qU 0),(.map (some 18)),(.map (some 19))]),
 .map [],
 .map [((.agg ⟨(qBs [239,154,117,76,182,13,101,253,115,74,12,183,155,70,50,173,187,218,68,13,162,95,243,165,62,196,190,4,32,158,42,225])⟩),(.agg ⟨List.append [(qB 1)] ((qR 31 (qB 42)))⟩))],
 .map [],
 .map [((.agg ⟨[(qI 0),(qU 0)]⟩),(.agg ⟨List.append [(qI 2),(qB 1)] ((qR 31 (qB 42)))⟩))],
 .cells ([(qP 20 0),(qL 51 0 1 2),(.map (some 21)),(.map (some 22)),(.map (some 23)),(.map (some 24)),qF]),
 .cells (List.append [(qP 25 0),(qU 150)] ((qR 17 qF))),
 .map [],
 .map [],
 .cells ([(qU 0),(qU 0),(.map (some 29)),(.map (some 30))]),
 .map [((.agg ⟨(qBs [239,154,117,76,182,13,101,253,115,74,12,183,155,70,50,173,187,218,68,13,162,95,243,165,62,196,190,4,32,158,42,225])⟩),(.agg ⟨List.append [(qB 1)] ((qR 31 (qB 42)))⟩))],
 .map [],
 .map [],
 .map [],
 .cells ([(qP 31 0),(qL 63 0 1 2),(.map (some 32)),(.map (some 33)),(.map (some 34)),(.map (some 35)),qF]),
 .cells (List.append [(qP 36 0),(qU 150)] ((qR 17 qF))),
 .cells ([(qP 26 0),(qP 37 0)]),
 .cells (List.append [(qW 1),(qU 100),(qU 50),(qB 0),(qB 1)] (List.append (qR 30 (qB 0)) (List.append [(qS [108,101,102,116]),(qS [114,105,103,104,116]),(qI 2),(qI 2),qF,(qU 1),(qU 0),qF,qF,qF,(qU 45),(qU 55),(.slice none 0 0),qT,(qI 65535)] (List.append (qBs [230,106,86,196,60,149,167,152,57,89,193,180,173,201,35,48,79,114,18,75,202,70,226,219,211,48,13,184,236,180,38,85]) (List.append [qT,(qI 65534)] (List.append (qBs [147,50,44,176,234,50,226,88,96,179,197,238,29,86,108,206,57,247,68,183,147,29,139,154,246,211,17,85,87,171,249,169]) (List.append [qF,(qI 0)] (List.append (qR 32 (qB 0)) (List.append [qF,(qI 0)] (List.append (qR 32 (qB 0)) (List.append [qF,(qI 0)] (List.append (qR 32 (qB 0)) (List.append [qF,(qI 0)] (List.append (qR 32 (qB 0)) (List.append [qF,(qI 0)] (List.append (qR 32 (qB 0)) (List.append [qF,(qI 0)] (List.append (qR 32 (qB 0)) (List.append [qF,(qI 0)] (List.append (qR 32 (qB 0)) (List.append [qF,(qI 0)] (List.append (qR 32 (qB 0)) (List.append [qF,(qI 0)] (List.append (qR 32 (qB 0)) (List.append [qF,(qI 0)] (List.append (qR 32 (qB 0)) (List.append [qF,(qI 0)] (List.append (qR 32 (qB 0)) (List.append [qF,(qI 0)] (List.append (qR 32 (qB 0)) (List.append [qF,(qI 0)] (List.append (qR 32 (qB 0)) (List.append [qF,(qI 0)] (List.append (qR 32 (qB 0)) (List.append [qF,(qI 0)] (List.append (qR 32 (qB 0)) ([(.slice none 0 0),(qL 1992 0 1 38)]))))))))))))))))))))))))))))))))))))),
 .cells ([(qP 47 0),(qL 2281 0 365 1),(qI 8),qF,(qI 0),qF]),
 .cells ([(qS [])]),
 .cells ([(qP 48 0),(qP 46 0),(qP 47 0),(qS []),(.slice none 0 0),(qI 30),qF,qF,qF]),
 .cells ([(qW 1),(qP 49 0)]),
 .cells (List.append [(qW 1),(qU 100),(qU 50),(qB 0),(qB 2)] (List.append (qR 30 (qB 0)) (List.append [(qS [114,105,103,104,116]),(qS [108,101,102,116]),(qI 2),(qI 2),qF,(qU 0),(qU 1),qF,qF,qT,(qU 55),(qU 45),(.slice none 0 0),qT,(qI 65535)] (List.append (qBs [88,177,229,223,227,52,172,193,3,186,251,107,25,88,154,96,116,105,249,213,16,24,213,192,32,212,148,191,95,13,19,83]) (List.append [qT,(qI 65534)] (List.append (qBs [83,30,15,189,160,53,17,158,82,23,52,207,62,182,203,162,169,82,40,138,90,5,130,174,53,157,247,47,248,199,135,196]) (List.append [qF,(qI 0)] (List.append (qR 32 (qB 0)) (List.append [qF,(qI 0)] (List.append (qR 32 (qB 0)) (List.append [qF,(qI 0)] (List.append (qR 32 (qB 0)) (List.append [qF,(qI 0)] (List.append (qR 32 (qB 0)) (List.append [qF,(qI 0)] (List.append (qR 32 (qB 0)) (List.append [qF,(qI 0)] (List.append (qR 32 (qB 0)) (List.append [qF,(qI 0)] (List.append (qR 32 (qB 0)) (List.append [qF,(qI 0)] (List.append (qR 32 (qB 0)) (List.append [qF,(qI 0)] (List.append (qR 32 (qB 0)) (List.append [qF,(qI 0)] (List.append (qR 32 (qB 0)) (List.append [qF,(qI 0)] (List.append (qR 32 (qB 0)) (List.append [qF,(qI 0)] (List.append (qR 32 (qB 0)) (List.append [qF,(qI 0)] (List.append (qR 32 (qB 0)) (List.append [qF,(qI 0)] (List.append (qR 32 (qB 0)) (List.append [qF,(qI 0)] (List.append (qR 32 (qB 0)) ([(.slice none 0 0),(qL 1594 0 2 38)]))))))))))))))))))))))))))))))))))))),
 .cells ([(qP 59 0),(qL 2197 0 373 1),(qI 8),qF,(qI 0),qF]),
 .cells ([(qS [])]),
 .cells ([(qP 60 0),(qP 58 0),(qP 59 0),(qS []),(.slice none 0 0),(qI 30),qF,qF,qF]),
 .cells ([(qW 1),(qP 61 0)]),
 .cells ([(qI 1),(qI 1),(qI 0),(qU 0),(qB 1),(qI 0),(qI 3),(qI 0),(qI 0),(qU 5),(qB 1),(qI 9)]),
 .cells (List.append [(qI 4),(qW 1),(qU 0),(qU 0),(qB 1)] (List.append (qR 31 (qB 42)) (List.append [(qI 0),(qI 0),(qI 6),(qW 1),(qU 0),(qU 0)] (List.append (qBs [51,189,16,79,18,206,89,100,171,230,219,54,119,243,162,212,244,27,25,246,181,162,143,184,242,175,145,202,18,125,253,222]) ([(qI 0),(qI 2)]))))),
 .cells (List.append [(qI 6),(qW 1),(qU 0),(qU 0)] (List.append (qBs [242,67,149,245,172,249,31,184,171,237,183,206,22,135,32,197,92,93,135,180,162,85,52,133,25,102,4,2,201,105,177,109]) ([(qI 0),(qI 2)]))),
 .cells (List.append (qR 9 (qB 0)) (List.append (qBs [58,6,3,0,0,0,1]) (List.append (qR 15 (qB 0)) (List.append (qBs [5,239,154,117,76,182,13,101,253,115,74,12,183,155,70,50,173,187,218,68,13,162,95,243,165,62,196,190,4,32,158,42,225,0,0,0,9,133,247,113,158]) (List.append (qR 7 (qB 0)) (List.append (qBs [1,0,40,6,6,0,0,0,1,0,1,179,164,227,75,35,65,203,61,71,156,187,235,91,21,100,187,210,202,73,147,111,15,75,78,202,14,204,227,177,184,17,253,112,237,130,50]) (List.append (qR 7 (qB 0)) (List.append (qBs [2,0,1,4,172,18,42]) (List.append (qR 8 (qB 0)) (List.append (qBs [3,0,40,6,7,0,0,0,1,0,0,88,177,229,223,227,52,172,193,3,186,251,107,25,88,154,96,116,105,249,213,16,24,213,192,32,212,148,191,95,13,19,83,250,163,103,203]) (List.append (qR 7 (qB 0)) (List.append (qBs [4,0,41,2]) (List.append (qR 8 (qB 0)) (List.append [(qB 1)] (List.append (qR 31 (qB 42)) (List.append (qBs [129,155,48,193]) (List.append (qR 7 (qB 0)) (List.append (qBs [5,0,1,4,42,140,225,47]) (List.append (qR 7 (qB 0)) (List.append (qBs [6,0,40,6,7,0,0,0,1,0,1,83,30,15,189,160,53,17,158,82,23,52,207,62,182,203,162,169,82,40,138,90,5,130,174,53,157,247,47,248,199,135,196,170,227,190,190]) (List.append (qR 7 (qB 0)) ((qBs [7,0,40,6,6,0,0,0,1,0,2,242,67,149,245,172,249,31,184,171,237,183,206,22,135,32,197,92,93,135,180,162,85,52,133,25,102,4,2,201,105,177,109,252,219,80,59]))))))))))))))))))))))),
 .cells (List.append (qR 9 (qB 0)) (List.append [(qB 45),(qB 1)] (List.append (qR 7 (qB 0)) (List.append (qBs [5,239,154,117,76,182,13,101,253,115,74,12,183,155,70,50,173,187,218,68,13,162,95,243,165,62,196,190,4,32,158,42,225,0,0,0,9,155,194,208,229]) (List.append (qR 7 (qB 0)) (List.append (qBs [1,0,1,4,155,93,30,123]) (List.append (qR 7 (qB 0)) (List.append (qBs [2,0,40,6,7,0,0,0,1,0,0,230,106,86,196,60,149,167,152,57,89,193,180,173,201,35,48,79,114,18,75,202,70,226,219,211,48,13,184,236,180,38,85,227,185,33,212]) (List.append (qR 7 (qB 0)) (List.append (qBs [3,0,40,6,6,0,0,0,1,0,1,43,255,198,219,209,208,197,135,241,106,171,108,30,15,208,185,55,36,233,142,109,131,186,10,237,236,30,8,70,78,212,139,177,212,146,113]) (List.append (qR 7 (qB 0)) (List.append (qBs [4,0,46,6,4,0,0,0,1]) (List.append (qR 8 (qB 0)) (List.append [(qB 1)] (List.append (qR 31 (qB 42)) (List.append (qBs [4,40,133,212]) (List.append (qR 7 (qB 0)) (List.append (qBs [5,0,40,6,6,0,0,0,1,0,2,51,189,16,79,18,206,89,100,171,230,219,54,119,243,162,212,244,27,25,246,181,162,143,184,242,175,145,202,18,125,253,222,207,167,73,192]) (List.append (qR 7 (qB 0)) (List.append (qBs [6,0,1,4,95,102,133,224]) (List.append (qR 7 (qB 0)) ((qBs [7,0,40,6,7,0,0,0,1,0,1,147,50,44,176,234,50,226,88,96,179,197,238,29,86,108,206,57,247,68,183,147,29,139,154,246,211,17,85,87,171,249,169,173,132,107,124]))))))))))))))))))))))),
 .cells ([(qI 0),(qI 0)])]
theorem lk_30:ltH kp_30=true:=by kernel_rfl
theorem run_30:snapC 29 kp_30 (iterF fL 10 (mkT vs_20) (mkH kp_20 bs_20) 2393)=.ok vs_30 bs_30 2577:=by kernel_rfl
noncomputable def vs_40:List Value:=[(qP 17 0),(qI 60),(.tuple ⟨[]⟩),(.tuple ⟨[]⟩),(qI 0),(qI 0),(qI 5),(qI 0),(qI 60),(qI 60),(qI 40),qT,(qP 17 0),(qI 6),(qI 6),qF,(qI 5),(qP 17 0),(qI 5),(qI 0),(qI 0),qT,(qI 0),(qI 0),(qL 2734 0 2 1),(qI 0),(qI 6),(qI 40),(.tuple ⟨[]⟩)]
noncomputable def kp_40:List Nat:=[16,17,18,19,20,21,22,23,24,25,26,29,30,31,32,33,34,35,36,37,39,46,47,48,49,51,58,59,60,61,63,84,1594,1992,2197,2281,2734]
noncomputable def bs_40:List Blk:=[.cells ([(qS []),(qS [])]),
 .cells ([(qL 39 0 2 1),(qL 16 0 1 2),(qL 84 0 2 6)]),
 .map [],
 .map [],
 .cells ([(qU 0),(qU 0),(.map (some 18)),(.map (some 19))]),
 .map [],
 .map [((.agg ⟨(qBs [239,154,117,76,182,13,101,253,115,74,12,183,155,70,50,173,187,218,68,13,162,95,243,165,62,196,190,4,32,158,42,225])⟩),(.agg ⟨List.append [(qB 1)] ((qR 31 (qB 42)))⟩))],
 .map [],
 .map [((.agg ⟨[(qI 0),(qU 0)]⟩),(.agg ⟨List.append [(qI 2),(qB 1)] ((qR 31 (qB 42)))⟩))],
 .cells ([(qP 20 0),(qL 51 0 1 2),(.map (some 21)),(.map (some 22)),(.map (some 23)),(.map (some 24)),qF]),
 .cells (List.append [(qP 25 0),(qU 150)] ((qR 17 qF))),
 .map [],
 .map [],
 .cells ([(qU 0),(qU 0),(.map (some 29)),(.map (some 30))]),
 .map [((.agg ⟨(qBs [239,154,117,76,182,13,101,253,115,74,12,183,155,70,50,173,187,218,68,13,162,95,243,165,62,196,190,4,32,158,42,225])⟩),(.agg ⟨List.append [(qB 1)] ((qR 31 (qB 42)))⟩))],
 .map [],
 .map [],
 .map [],
 .cells ([(qP 31 0),(qL 63 0 1 2),(.map (some 32)),(.map (some 33)),(.map (some 34)),(.map (some 35)),qF]),
 .cells (List.append [(qP 36 0),(qU 150)] ((qR 17 qF))),
 .cells ([(qP 26 0),(qP 37 0)]),
 .cells (List.append [(qW 1),(qU 100),(qU 50),(qB 0),(qB 1)] (List.append (qR 30 (qB 0)) (List.append [(qS [108,101,102,116]),(qS [114,105,103,104,116]),(qI 2),(qI 2),qF,(qU 1),(qU 0),qF,qF,qF,(qU 45),(qU 55),(.slice none 0 0),qT,(qI 65535)] (List.append (qBs [230,106,86,196,60,149,167,152,57,89,193,180,173,201,35,48,79,114,18,75,202,70,226,219,211,48,13,184,236,180,38,85]) (List.append [qT,(qI 65534)] (List.append (qBs [147,50,44,176,234,50,226,88,96,179,197,238,29,86,108,206,57,247,68,183,147,29,139,154,246,211,17,85,87,171,249,169]) (List.append [qF,(qI 0)] (List.append (qR 32 (qB 0)) (List.append [qF,(qI 0)] (List.append (qR 32 (qB 0)) (List.append [qF,(qI 0)] (List.append (qR 32 (qB 0)) (List.append [qF,(qI 0)] (List.append (qR 32 (qB 0)) (List.append [qF,(qI 0)] (List.append (qR 32 (qB 0)) (List.append [qF,(qI 0)] (List.append (qR 32 (qB 0)) (List.append [qF,(qI 0)] (List.append (qR 32 (qB 0)) (List.append [qF,(qI 0)] (List.append (qR 32 (qB 0)) (List.append [qF,(qI 0)] (List.append (qR 32 (qB 0)) (List.append [qF,(qI 0)] (List.append (qR 32 (qB 0)) (List.append [qF,(qI 0)] (List.append (qR 32 (qB 0)) (List.append [qF,(qI 0)] (List.append (qR 32 (qB 0)) (List.append [qF,(qI 0)] (List.append (qR 32 (qB 0)) (List.append [qF,(qI 0)] (List.append (qR 32 (qB 0)) (List.append [qF,(qI 0)] (List.append (qR 32 (qB 0)) ([(.slice none 0 0),(qL 1992 0 1 38)]))))))))))))))))))))))))))))))))))))),
 .cells ([(qP 47 0),(qL 2281 0 365 1),(qI 8),qF,(qI 0),qF]),
 .cells ([(qS [])]),
 .cells ([(qP 48 0),(qP 46 0),(qP 47 0),(qS []),(.slice none 0 0),(qI 40),qF,qF,qF]),
 .cells ([(qW 1),(qP 49 0)]),
 .cells (List.append [(qW 1),(qU 100),(qU 50),(qB 0),(qB 2)] (List.append (qR 30 (qB 0)) (List.append [(qS [114,105,103,104,116]),(qS [108,101,102,116]),(qI 2),(qI 2),qF,(qU 0),(qU 1),qF,qF,qT,(qU 55),(qU 45),(.slice none 0 0),qT,(qI 65535)] (List.append (qBs [88,177,229,223,227,52,172,193,3,186,251,107,25,88,154,96,116,105,249,213,16,24,213,192,32,212,148,191,95,13,19,83]) (List.append [qT,(qI 65534)] (List.append (qBs [83,30,15,189,160,53,17,158,82,23,52,207,62,182,203,162,169,82,40,138,90,5,130,174,53,157,247,47,248,199,135,196]) (List.append [qF,(qI 0)] (List.append (qR 32 (qB 0)) (List.append [qF,(qI 0)] (List.append (qR 32 (qB 0)) (List.append [qF,(qI 0)] (List.append (qR 32 (qB 0)) (List.append [qF,(qI 0)] (List.append (qR 32 (qB 0)) (List.append [qF,(qI 0)] (List.append (qR 32 (qB 0)) (List.append [qF,(qI 0)] (List.append (qR 32 (qB 0)) (List.append [qF,(qI 0)] (List.append (qR 32 (qB 0)) (List.append [qF,(qI 0)] (List.append (qR 32 (qB 0)) (List.append [qF,(qI 0)] (List.append (qR 32 (qB 0)) (List.append [qF,(qI 0)] (List.append (qR 32 (qB 0)) (List.append [qF,(qI 0)] (List.append (qR 32 (qB 0)) (List.append [qF,(qI 0)] (List.append (qR 32 (qB 0)) (List.append [qF,(qI 0)] (List.append (qR 32 (qB 0)) (List.append [qF,(qI 0)] (List.append (qR 32 (qB 0)) (List.append [qF,(qI 0)] (List.append (qR 32 (qB 0)) ([(.slice none 0 0),(qL 1594 0 2 38)]))))))))))))))))))))))))))))))))))))),
 .cells ([(qP 59 0),(qL 2197 0 373 1),(qI 8),qF,(qI 0),qF]),
 .cells ([(qS [])]),
 .cells ([(qP 60 0),(qP 58 0),(qP 59 0),(qS []),(.slice none 0 0),(qI 40),qF,qF,qF]),
 .cells ([(qW 1),(qP 61 0)]),
 .cells ([(qI 1),(qI 1),(qI 0),(qU 0),(qB 1),(qI 0),(qI 3),(qI 0),(qI 0),(qU 5),(qB 1),(qI 9)]),
 .cells (List.append [(qI 4),(qW 1),(qU 0),(qU 0),(qB 1)] (List.append (qR 31 (qB 42)) (List.append [(qI 0),(qI 0),(qI 6),(qW 1),(qU 0),(qU 0)] (List.append (qBs [51,189,16,79,18,206,89,100,171,230,219,54,119,243,162,212,244,27,25,246,181,162,143,184,242,175,145,202,18,125,253,222]) ([(qI 0),(qI 2)]))))),
 .cells (List.append [(qI 6),(qW 1),(qU 0),(qU 0)] (List.append (qBs [242,67,149,245,172,249,31,184,171,237,183,206,22,135,32,197,92,93,135,180,162,85,52,133,25,102,4,2,201,105,177,109]) ([(qI 0),(qI 2)]))),
 .cells (List.append (qR 9 (qB 0)) (List.append (qBs [58,6,3,0,0,0,1]) (List.append (qR 15 (qB 0)) (List.append (qBs [5,239,154,117,76,182,13,101,253,115,74,12,183,155,70,50,173,187,218,68,13,162,95,243,165,62,196,190,4,32,158,42,225,0,0,0,9,133,247,113,158]) (List.append (qR 7 (qB 0)) (List.append (qBs [1,0,40,6,6,0,0,0,1,0,1,179,164,227,75,35,65,203,61,71,156,187,235,91,21,100,187,210,202,73,147,111,15,75,78,202,14,204,227,177,184,17,253,112,237,130,50]) (List.append (qR 7 (qB 0)) (List.append (qBs [2,0,1,4,172,18,42]) (List.append (qR 8 (qB 0)) (List.append (qBs [3,0,40,6,7,0,0,0,1,0,0,88,177,229,223,227,52,172,193,3,186,251,107,25,88,154,96,116,105,249,213,16,24,213,192,32,212,148,191,95,13,19,83,250,163,103,203]) (List.append (qR 7 (qB 0)) (List.append (qBs [4,0,41,2]) (List.append (qR 8 (qB 0)) (List.append [(qB 1)] (List.append (qR 31 (qB 42)) (List.append (qBs [129,155,48,193]) (List.append (qR 7 (qB 0)) (List.append (qBs [5,0,1,4,42,140,225,47]) (List.append (qR 7 (qB 0)) (List.append (qBs [6,0,40,6,7,0,0,0,1,0,1,83,30,15,189,160,53,17,158,82,23,52,207,62,182,203,162,169,82,40,138,90,5,130,174,53,157,247,47,248,199,135,196,170,227,190,190]) (List.append (qR 7 (qB 0)) ((qBs [7,0,40,6,6,0,0,0,1,0,2,242,67,149,245,172,249,31,184,171,237,183,206,22,135,32,197,92,93,135,180,162,85,52,133,25,102,4,2,201,105,177,109,252,219,80,59]))))))))))))))))))))))),
 .cells (List.append (qR 9 (qB 0)) (List.append [(qB 45),(qB 1)] (List.append (qR 7 (qB 0)) (List.append (qBs [5,239,154,117,76,182,13,101,253,115,74,12,183,155,70,50,173,187,218,68,13,162,95,243,165,62,196,190,4,32,158,42,225,0,0,0,9,155,194,208,229]) (List.append (qR 7 (qB 0)) (List.append (qBs [1,0,1,4,155,93,30,123]) (List.append (qR 7 (qB 0)) (List.append (qBs [2,0,40,6,7,0,0,0,1,0,0,230,106,86,196,60,149,167,152,57,89,193,180,173,201,35,48,79,114,18,75,202,70,226,219,211,48,13,184,236,180,38,85,227,185,33,212]) (List.append (qR 7 (qB 0)) (List.append (qBs [3,0,40,6,6,0,0,0,1,0,1,43,255,198,219,209,208,197,135,241,106,171,108,30,15,208,185,55,36,233,142,109,131,186,10,237,236,30,8,70,78,212,139,177,212,146,113]) (List.append (qR 7 (qB 0)) (List.append (qBs [4,0,46,6,4,0,0,0,1]) (List.append (qR 8 (qB 0)) (List.append [(qB 1)] (List.append (qR 31 (qB 42)) (List.append (qBs [4,40,133,212]) (List.append (qR 7 (qB 0)) (List.append (qBs [5,0,40,6,6,0,0,0,1,0,2,51,189,16,79,18,206,89,100,171,230,219,54,119,243,162,212,244,27,25,246,181,162,143,184,242,175,145,202,18,125,253,222,207,167,73,192]) (List.append (qR 7 (qB 0)) (List.append (qBs [6,0,1,4,95,102,133,224]) (List.append (qR 7 (qB 0)) ((qBs [7,0,40,6,7,0,0,0,1,0,1,147,50,44,176,234,50,226,88,96,179,197,238,29,86,108,206,57,247,68,183,147,29,139,154,246,211,17,85,87,171,249,169,173,132,107,124]))))))))))))))))))))))),
 .cells ([(qI 0),(qI 0)])]
theorem lk_40:ltH kp_40=true:=by kernel_rfl
theorem run_40:snapC 29 kp_40 (iterF fL 10 (mkT vs_30) (mkH kp_30 bs_30) 2577)=.ok vs_40 bs_40 2735:=by kernel_rfl
end SX
end Go.Proofs.YtdebnbgjgkbmaaaGreatDoor
namespace Go.Proofs.YtdebnbgjgkbmaaaGreatDoor
namespace SX
open Go Go.RowKit
set_option linter.unusedVariables false
set_option maxRecDepth 1000000
noncomputable def vs_50:List Value:=[(qP 17 0),(qI 60),(.tuple ⟨[]⟩),(.tuple ⟨[]⟩),(qI 0),(qI 0),(qI 5),(qI 0),(qI 60),(qI 60),(qI 50),qT,(qP 17 0),(qI 6),(qI 6),qF,(qI 5),(qP 17 0),(qI 5),(qI 0),(qI 0),qT,(qI 0),(qI 0),(qL 2892 0 2 1),(qI 0),(qI 6),(qI 50),(.tuple ⟨[]⟩)]
noncomputable def kp_50:List Nat:=[16,17,18,19,20,21,22,23,24,25,26,29,30,31,32,33,34,35,36,37,39,46,47,48,49,51,58,59,60,61,63,84,1594,1992,2197,2281,2892]
noncomputable def bs_50:List Blk:=[.cells ([(qS []),(qS [])]),
 .cells ([(qL 39 0 2 1),(qL 16 0 1 2),(qL 84 0 2 6)]),
 .map [],
 .map [],
 .cells ([(qU 0),(qU 0),(.map (some 18)),(.map (some 19))]),
 .map [],
 .map [((.agg ⟨(qBs [239,154,117,76,182,13,101,253,115,74,12,183,155,70,50,173,187,218,68,13,162,95,243,165,62,196,190,4,32,158,42,225])⟩),(.agg ⟨List.append [(qB 1)] ((qR 31 (qB 42)))⟩))],
 .map [],
 .map [((.agg ⟨[(qI 0),(qU 0)]⟩),(.agg ⟨List.append [(qI 2),(qB 1)] ((qR 31 (qB 42)))⟩))],
 .cells ([(qP 20 0),(qL 51 0 1 2),(.map (some 21)),(.map (some 22)),(.map (some 23)),(.map (some 24)),qF]),
 .cells (List.append [(qP 25 0),(qU 150)] ((qR 17 qF))),
 .map [],
 .map [],
 .cells ([(qU 0),(qU 0),(.map (some 29)),(.map (some 30))]),
 .map [((.agg ⟨(qBs [239,154,117,76,182,13,101,253,115,74,12,183,155,70,50,173,187,218,68,13,162,95,243,165,62,196,190,4,32,158,42,225])⟩),(.agg ⟨List.append [(qB 1)] ((qR 31 (qB 42)))⟩))],
 .map [],
 .map [],
 .map [],
 .cells ([(qP 31 0),(qL 63 0 1 2),(.map (some 32)),(.map (some 33)),(.map (some 34)),(.map (some 35)),qF]),
 .cells (List.append [(qP 36 0),(qU 150)] ((qR 17 qF))),
 .cells ([(qP 26 0),(qP 37 0)]),
 .cells (List.append [(qW 1),(qU 100),(qU 50),(qB 0),(qB 1)] (List.append (qR 30 (qB 0)) (List.append [(qS [108,101,102,116]),(qS [114,105,103,104,116]),(qI 2),(qI 2),qF,(qU 1),(qU 0),qF,qF,qF,(qU 45),(qU 55),(.slice none 0 0),qT,(qI 65535)] (List.append (qBs [230,106,86,196,60,149,167,152,57,89,193,180,173,201,35,48,79,114,18,75,202,70,226,219,211,48,13,184,236,180,38,85]) (List.append [qT,(qI 65534)] (List.append (qBs [147,50,44,176,234,50,226,88,96,179,197,238,29,86,108,206,57,247,68,183,147,29,139,154,246,211,17,85,87,171,249,169]) (List.append [qF,(qI 0)] (List.append (qR 32 (qB 0)) (List.append [qF,(qI 0)] (List.append (qR 32 (qB 0)) (List.append [qF,(qI 0)] (List.append (qR 32 (qB 0)) (List.append [qF,(qI 0)] (List.append (qR 32 (qB 0)) (List.append [qF,(qI 0)] (List.append (qR 32 (qB 0)) (List.append [qF,(qI 0)] (List.append (qR 32 (qB 0)) (List.append [qF,(qI 0)] (List.append (qR 32 (qB 0)) (List.append [qF,(qI 0)] (List.append (qR 32 (qB 0)) (List.append [qF,(qI 0)] (List.append (qR 32 (qB 0)) (List.append [qF,(qI 0)] (List.append (qR 32 (qB 0)) (List.append [qF,(qI 0)] (List.append (qR 32 (qB 0)) (List.append [qF,(qI 0)] (List.append (qR 32 (qB 0)) (List.append [qF,(qI 0)] (List.append (qR 32 (qB 0)) (List.append [qF,(qI 0)] (List.append (qR 32 (qB 0)) (List.append [qF,(qI 0)] (List.append (qR 32 (qB 0)) ([(.slice none 0 0),(qL 1992 0 1 38)]))))))))))))))))))))))))))))))))))))),
 .cells ([(qP 47 0),(qL 2281 0 365 1),(qI 8),qF,(qI 0),qF]),
 .cells ([(qS [])]),
 .cells ([(qP 48 0),(qP 46 0),(qP 47 0),(qS []),(.slice none 0 0),(qI 50),qF,qF,qF]),
 .cells ([(qW 1),(qP 49 0)]),
 .cells (List.append [(qW 1),(qU 100),(qU 50),(qB 0),(qB 2)] (List.append (qR 30 (qB 0)) (List.append [(qS [114,105,103,104,116]),(qS [108,101,102,116]),(qI 2),(qI 2),qF,(qU 0),(qU 1),qF,qF,qT,(qU 55),(qU 45),(.slice none 0 0),qT,(qI 65535)] (List.append (qBs [88,177,229,223,227,52,172,193,3,186,251,107,25,88,154,96,116,105,249,213,16,24,213,192,32,212,148,191,95,13,19,83]) (List.append [qT,(qI 65534)] (List.append (qBs [83,30,15,189,160,53,17,158,82,23,52,207,62,182,203,162,169,82,40,138,90,5,130,174,53,157,247,47,248,199,135,196]) (List.append [qF,(qI 0)] (List.append (qR 32 (qB 0)) (List.append [qF,(qI 0)] (List.append (qR 32 (qB 0)) (List.append [qF,(qI 0)] (List.append (qR 32 (qB 0)) (List.append [qF,(qI 0)] (List.append (qR 32 (qB 0)) (List.append [qF,(qI 0)] (List.append (qR 32 (qB 0)) (List.append [qF,(qI 0)] (List.append (qR 32 (qB 0)) (List.append [qF,(qI 0)] (List.append (qR 32 (qB 0)) (List.append [qF,(qI 0)] (List.append (qR 32 (qB 0)) (List.append [qF,(qI 0)] (List.append (qR 32 (qB 0)) (List.append [qF,(qI 0)] (List.append (qR 32 (qB 0)) (List.append [qF,(qI 0)] (List.append (qR 32 (qB 0)) (List.append [qF,(qI 0)] (List.append (qR 32 (qB 0)) (List.append [qF,(qI 0)] (List.append (qR 32 (qB 0)) (List.append [qF,(qI 0)] (List.append (qR 32 (qB 0)) (List.append [qF,(qI 0)] (List.append (qR 32 (qB 0)) ([(.slice none 0 0),(qL 1594 0 2 38)]))))))))))))))))))))))))))))))))))))),
 .cells ([(qP 59 0),(qL 2197 0 373 1),(qI 8),qF,(qI 0),qF]),
 .cells ([(qS [])]),
 .cells ([(qP 60 0),(qP 58 0),(qP 59 0),(qS []),(.slice none 0 0),(qI 50),qF,qF,qF]),
 .cells ([(qW 1),(qP 61 0)]),
 .cells ([(qI 1),(qI 1),(qI 0),(qU 0),(qB 1),(qI 0),(qI 3),(qI 0),(qI 0),(qU 5),(qB 1),(qI 9)]),
 .cells (List.append [(qI 4),(qW 1),(qU 0),(qU 0),(qB 1)] (List.append (qR 31 (qB 42)) (List.append [(qI 0),(qI 0),(qI 6),(qW 1),(qU 0),(qU 0)] (List.append (qBs [51,189,16,79,18,206,89,100,171,230,219,54,119,243,162,212,244,27,25,246,181,162,143,184,242,175,145,202,18,125,253,222]) ([(qI 0),(qI 2)]))))),
 .cells (List.append [(qI 6),(qW 1),(qU 0),(qU 0)] (List.append (qBs [242,67,149,245,172,249,31,184,171,237,183,206,22,135,32,197,92,93,135,180,162,85,52,133,25,102,4,2,201,105,177,109]) ([(qI 0),(qI 2)]))),
 .cells (List.append (qR 9 (qB 0)) (List.append (qBs [58,6,3,0,0,0,1]) (List.append (qR 15 (qB 0)) (List.append (qBs [5,239,154,117,76,182,13,101,253,115,74,12,183,155,70,50,173,187,218,68,13,162,95,243,165,62,196,190,4,32,158,42,225,0,0,0,9,133,247,113,158]) (List.append (qR 7 (qB 0)) (List.append (qBs [1,0,40,6,6,0,0,0,1,0,1,179,164,227,75,35,65,203,61,71,156,187,235,91,21,100,187,210,202,73,147,111,15,75,78,202,14,204,227,177,184,17,253,112,237,130,50]) (List.append (qR 7 (qB 0)) (List.append (qBs [2,0,1,4,172,18,42]) (List.append (qR 8 (qB 0)) (List.append (qBs [3,0,40,6,7,0,0,0,1,0,0,88,177,229,223,227,52,172,193,3,186,251,107,25,88,154,96,116,105,249,213,16,24,213,192,32,212,148,191,95,13,19,83,250,163,103,203]) (List.append (qR 7 (qB 0)) (List.append (qBs [4,0,41,2]) (List.append (qR 8 (qB 0)) (List.append [(qB 1)] (List.append (qR 31 (qB 42)) (List.append (qBs [129,155,48,193]) (List.append (qR 7 (qB 0)) (List.append (qBs [5,0,1,4,42,140,225,47]) (List.append (qR 7 (qB 0)) (List.append (qBs [6,0,40,6,7,0,0,0,1,0,1,83,30,15,189,160,53,17,158,82,23,52,207,62,182,203,162,169,82,40,138,90,5,130,174,53,157,247,47,248,199,135,196,170,227,190,190]) (List.append (qR 7 (qB 0)) ((qBs [7,0,40,6,6,0,0,0,1,0,2,242,67,149,245,172,249,31,184,171,237,183,206,22,135,32,197,92,93,135,180,162,85,52,133,25,102,4,2,201,105,177,109,252,219,80,59]))))))))))))))))))))))),
 .cells (List.append (qR 9 (qB 0)) (List.append [(qB 45),(qB 1)] (List.append (qR 7 (qB 0)) (List.append (qBs [5,239,154,117,76,182,13,101,253,115,74,12,183,155,70,50,173,187,218,68,13,162,95,243,165,62,196,190,4,32,158,42,225,0,0,0,9,155,194,208,229]) (List.append (qR 7 (qB 0)) (List.append (qBs [1,0,1,4,155,93,30,123]) (List.append (qR 7 (qB 0)) (List.append (qBs [2,0,40,6,7,0,0,0,1,0,0,230,106,86,196,60,149,167,152,57,89,193,180,173,201,35,48,79,114,18,75,202,70,226,219,211,48,13,184,236,180,38,85,227,185,33,212]) (List.append (qR 7 (qB 0)) (List.append (qBs [3,0,40,6,6,0,0,0,1,0,1,43,255,198,219,209,208,197,135,241,106,171,108,30,15,208,185,55,36,233,142,109,131,186,10,237,236,30,8,70,78,212,139,177,212,146,113]) (List.append (qR 7 (qB 0)) (List.append (qBs [4,0,46,6,4,0,0,0,1]) (List.append (qR 8 (qB 0)) (List.append [(qB 1)] (List.append (qR 31 (qB 42)) (List.append (qBs [4,40,133,212]) (List.append (qR 7 (qB 0)) (List.append (qBs [5,0,40,6,6,0,0,0,1,0,2,51,189,16,79,18,206,89,100,171,230,219,54,119,243,162,212,244,27,25,246,181,162,143,184,242,175,145,202,18,125,253,222,207,167,73,192]) (List.append (qR 7 (qB 0)) (List.append (qBs [6,0,1,4,95,102,133,224]) (List.append (qR 7 (qB 0)) ((qBs [7,0,40,6,7,0,0,0,1,0,1,147,50,44,176,234,50,226,88,96,179,197,238,29,86,108,206,57,247,68,183,147,29,139,154,246,211,17,85,87,171,249,169,173,132,107,124]))))))))))))))))))))))),
 .cells ([(qI 0),(qI 0)])]
theorem lk_50:ltH kp_50=true:=by kernel_rfl
theorem run_50:snapC 29 kp_50 (iterF fL 10 (mkT vs_40) (mkH kp_40 bs_40) 2735)=.ok vs_50 bs_50 2893:=by kernel_rfl
noncomputable def vs_60:List Value:=[(qP 17 0),(qI 60),(.tuple ⟨[]⟩),(.tuple ⟨[]⟩),(qI 0),(qI 0),(qI 5),(qI 0),(qI 60),(qI 60),(qI 60),qT,(qP 17 0),(qI 6),(qI 6),qF,(qI 5),(qP 17 0),(qI 5),(qI 0),(qI 0),qT,(qI 0),(qI 0),(qL 3076 0 2 1),(qI 0),(qI 6),(qI 60),(.tuple ⟨[]⟩)]
noncomputable def kp_60:List Nat:=[16,17,18,19,20,21,22,23,24,25,26,29,30,31,32,33,34,35,36,37,39,46,47,48,49,51,58,59,60,61,63,84,1594,1992,2197,2281,3076]
noncomputable def bs_60:List Blk:=[.cells ([(qS []),(qS [])]),
 .cells ([(qL 39 0 2 1),(qL 16 0 1 2),(qL 84 0 2 6)]),
 .map [],
 .map [],
 .cells ([(qU 0),(qU 0),(.map (some 18)),(.map (some 19))]),
 .map [],
 .map [((.agg ⟨(qBs [239,154,117,76,182,13,101,253,115,74,12,183,155,70,50,173,187,218,68,13,162,95,243,165,62,196,190,4,32,158,42,225])⟩),(.agg ⟨List.append [(qB 1)] ((qR 31 (qB 42)))⟩))],
 .map [],
 .map [((.agg ⟨[(qI 0),(qU 0)]⟩),(.agg ⟨List.append [(qI 2),(qB 1)] ((qR 31 (qB 42)))⟩))],
 .cells ([(qP 20 0),(qL 51 0 1 2),(.map (some 21)),(.map (some 22)),(.map (some 23)),(.map (some 24)),qF]),
 .cells (List.append [(qP 25 0),(qU 150)] ((qR 17 qF))),
 .map [],
 .map [],
 .cells ([(qU 0),(qU 0),(.map (some 29)),(.map (some 30))]),
 .map [((.agg ⟨(qBs [239,154,117,76,182,13,101,253,115,74,12,183,155,70,50,173,187,218,68,13,162,95,243,165,62,196,190,4,32,158,42,225])⟩),(.agg ⟨List.append [(qB 1)] ((qR 31 (qB 42)))⟩))],
 .map [],
 .map [],
 .map [],
 .cells ([(qP 31 0),(qL 63 0 1 2),(.map (some 32)),(.map (some 33)),(.map (some 34)),(.map (some 35)),qF]),
 .cells (List.append [(qP 36 0),(qU 150)] ((qR 17 qF))),
 .cells ([(qP 26 0),(qP 37 0)]),
 .cells (List.append [(qW 1),(qU 100),(qU 50),(qB 0),(qB 1)] (List.append (qR 30 (qB 0)) (List.append [(qS [108,101,102,116]),(qS [114,105,103,104,116]),(qI 2),(qI 2),qF,(qU 1),(qU 0),qF,qF,qF,(qU 45),(qU 55),(.slice none 0 0),qT,(qI 65535)] (List.append (qBs [230,106,86,196,60,149,167,152,57,89,193,180,173,201,35,48,79,114,18,75,202,70,226,219,211,48,13,184,236,180,38,85]) (List.append [qT,(qI 65534)] (List.append (qBs [147,50,44,176,234,50,226,88,96,179,197,238,29,86,108,206,57,247,68,183,147,29,139,154,246,211,17,85,87,171,249,169]) (List.append [qF,(qI 0)] (List.append (qR 32 (qB 0)) (List.append [qF,(qI 0)] (List.append (qR 32 (qB 0)) (List.append [qF,(qI 0)] (List.append (qR 32 (qB 0)) (List.append [qF,(qI 0)] (List.append (qR 32 (qB 0)) (List.append [qF,(qI 0)] (List.append (qR 32 (qB 0)) (List.append [qF,(qI 0)] (List.append (qR 32 (qB 0)) (List.append [qF,(qI 0)] (List.append (qR 32 (qB 0)) (List.append [qF,(qI 0)] (List.append (qR 32 (qB 0)) (List.append [qF,(qI 0)] (List.append (qR 32 (qB 0)) (List.append [qF,(qI 0)] (List.append (qR 32 (qB 0)) (List.append [qF,(qI 0)] (List.append (qR 32 (qB 0)) (List.append [qF,(qI 0)] (List.append (qR 32 (qB 0)) (List.append [qF,(qI 0)] (List.append (qR 32 (qB 0)) (List.append [qF,(qI 0)] (List.append (qR 32 (qB 0)) (List.append [qF,(qI 0)] (List.append (qR 32 (qB 0)) ([(.slice none 0 0),(qL 1992 0 1 38)]))))))))))))))))))))))))))))))))))))),
 .cells ([(qP 47 0),(qL 2281 0 365 1),(qI 8),qF,(qI 0),qF]),
 .cells ([(qS [])]),
 .cells ([(qP 48 0),(qP 46 0),(qP 47 0),(qS []),(.slice none 0 0),(qI 60),qF,qF,qF]),
 .cells ([(qW 1),(qP 49 0)]),
 .cells (List.append [(qW 1),(qU 100),(qU 50),(qB 0),(qB 2)] (List.append (qR 30 (qB 0)) (List.append [(qS [114,105,103,104,116]),(qS [108,101,102,116]),(qI 2),(qI 2),qF,(qU 0),(qU 1),qF,qF,qT,(qU 55),(qU 45),(.slice none 0 0),qT,(qI 65535)] (List.append (qBs [88,177,229,223,227,52,172,193,3,186,251,107,25,88,154,96,116,105,249,213,16,24,213,192,32,212,148,191,95,13,19,83]) (List.append [qT,(qI 65534)] (List.append (qBs [83,30,15,189,160,53,17,158,82,23,52,207,62,182,203,162,169,82,40,138,90,5,130,174,53,157,247,47,248,199,135,196]) (List.append [qF,(qI 0)] (List.append (qR 32 (qB 0)) (List.append [qF,(qI 0)] (List.append (qR 32 (qB 0)) (List.append [qF,(qI 0)] (List.append (qR 32 (qB 0)) (List.append [qF,(qI 0)] (List.append (qR 32 (qB 0)) (List.append [qF,(qI 0)] (List.append (qR 32 (qB 0)) (List.append [qF,(qI 0)] (List.append (qR 32 (qB 0)) (List.append [qF,(qI 0)] (List.append (qR 32 (qB 0)) (List.append [qF,(qI 0)] (List.append (qR 32 (qB 0)) (List.append [qF,(qI 0)] (List.append (qR 32 (qB 0)) (List.append [qF,(qI 0)] (List.append (qR 32 (qB 0)) (List.append [qF,(qI 0)] (List.append (qR 32 (qB 0)) (List.append [qF,(qI 0)] (List.append (qR 32 (qB 0)) (List.append [qF,(qI 0)] (List.append (qR 32 (qB 0)) (List.append [qF,(qI 0)] (List.append (qR 32 (qB 0)) (List.append [qF,(qI 0)] (List.append (qR 32 (qB 0)) ([(.slice none 0 0),(qL 1594 0 2 38)]))))))))))))))))))))))))))))))))))))),
 .cells ([(qP 59 0),(qL 2197 0 373 1),(qI 8),qF,(qI 0),qF]),
 .cells ([(qS [])]),
 .cells ([(qP 60 0),(qP 58 0),(qP 59 0),(qS []),(.slice none 0 0),(qI 60),qF,qF,qF]),
 .cells ([(qW 1),(qP 61 0)]),
 .cells ([(qI 1),(qI 1),(qI 0),(qU 0),(qB 1),(qI 0),(qI 3),(qI 0),(qI 0),(qU 5),(qB 1),(qI 9)]),
 .cells (List.append [(qI 4),(qW 1),(qU 0),(qU 0),(qB 1)] (List.append (qR 31 (qB 42)) (List.append [(qI 0),(qI 0),(qI 6),(qW 1),(qU 0),(qU 0)] (List.append (qBs [51,189,16,79,18,206,89,100,171,230,219,54,119,243,162,212,244,27,25,246,181,162,143,184,242,175,145,202,18,125,253,222]) ([(qI 0),(qI 2)]))))),
 .cells (List.append [(qI 6),(qW 1),(qU 0),(qU 0)] (List.append (qBs [242,67,149,245,172,249,31,184,171,237,183,206,22,135,32,197,92,93,135,180,162,85,52,133,25,102,4,2,201,105,177,109]) ([(qI 0),(qI 2)]))),
 .cells (List.append (qR 9 (qB 0)) (List.append (qBs [58,6,3,0,0,0,1]) (List.append (qR 15 (qB 0)) (List.append (qBs [5,239,154,117,76,182,13,101,253,115,74,12,183,155,70,50,173,187,218,68,13,162,95,243,165,62,196,190,4,32,158,42,225,0,0,0,9,133,247,113,158]) (List.append (qR 7 (qB 0)) (List.append (qBs [1,0,40,6,6,0,0,0,1,0,1,179,164,227,75,35,65,203,61,71,156,187,235,91,21,100,187,210,202,73,147,111,15,75,78,202,14,204,227,177,184,17,253,112,237,130,50]) (List.append (qR 7 (qB 0)) (List.append (qBs [2,0,1,4,172,18,42]) (List.append (qR 8 (qB 0)) (List.append (qBs [3,0,40,6,7,0,0,0,1,0,0,88,177,229,223,227,52,172,193,3,186,251,107,25,88,154,96,116,105,249,213,16,24,213,192,32,212,148,191,95,13,19,83,250,163,103,203]) (List.append (qR 7 (qB 0)) (List.append (qBs [4,0,41,2]) (List.append (qR 8 (qB 0)) (List.append [(qB 1)] (List.append (qR 31 (qB 42)) (List.append (qBs [129,155,48,193]) (List.append (qR 7 (qB 0)) (List.append (qBs [5,0,1,4,42,140,225,47]) (List.append (qR 7 (qB 0)) (List.append (qBs [6,0,40,6,7,0,0,0,1,0,1,83,30,15,189,160,53,17,158,82,23,52,207,62,182,203,162,169,82,40,138,90,5,130,174,53,157,247,47,248,199,135,196,170,227,190,190]) (List.append (qR 7 (qB 0)) ((qBs [7,0,40,6,6,0,0,0,1,0,2,242,67,149,245,172,249,31,184,171,237,183,206,22,135,32,197,92,93,135,180,162,85,52,133,25,102,4,2,201,105,177,109,252,219,80,59]))))))))))))))))))))))),
 .cells (List.append (qR 9 (qB 0)) (List.append [(qB 45),(qB 1)] (List.append (qR 7 (qB 0)) (List.append (qBs [5,239,154,117,76,182,13,101,253,115,74,12,183,155,70,50,173,187,218,68,13,162,95,243,165,62,196,190,4,32,158,42,225,0,0,0,9,155,194,208,229]) (List.append (qR 7 (qB 0)) (List.append (qBs [1,0,1,4,155,93,30,123]) (List.append (qR 7 (qB 0)) (List.append (qBs [2,0,40,6,7,0,0,0,1,0,0,230,106,86,196,60,149,167,152,57,89,193,180,173,201,35,48,79,114,18,75,202,70,226,219,211,48,13,184,236,180,38,85,227,185,33,212]) (List.append (qR 7 (qB 0)) (List.append (qBs [3,0,40,6,6,0,0,0,1,0,1,43,255,198,219,209,208,197,135,241,106,171,108,30,15,208,185,55,36,233,142,109,131,186,10,237,236,30,8,70,78,212,139,177,212,146,113]) (List.append (qR 7 (qB 0)) (List.append (qBs [4,0,46,6,4,0,0,0,1]) (List.append (qR 8 (qB 0)) (List.append [(qB 1)] (List.append (qR 31 (qB 42)) (List.append (qBs [4,40,133,212]) (List.append (qR 7 (qB 0)) (List.append (qBs [5,0,40,6,6,0,0,0,1,0,2,51,189,16,79,18,206,89,100,171,230,219,54,119,243,162,212,244,27,25,246,181,162,143,184,242,175,145,202,18,125,253,222,207,167,73,192]) (List.append (qR 7 (qB 0)) (List.append (qBs [6,0,1,4,95,102,133,224]) (List.append (qR 7 (qB 0)) ((qBs [7,0,40,6,7,0,0,0,1,0,1,147,50,44,176,234,50,226,88,96,179,197,238,29,86,108,206,57,247,68,183,147,29,139,154,246,211,17,85,87,171,249,169,173,132,107,124]))))))))))))))))))))))),
 .cells ([(qI 0),(qI 0)])]
theorem lk_60:ltH kp_60=true:=by kernel_rfl
theorem run_60:snapC 29 kp_60 (iterF fL 10 (mkT vs_50) (mkH kp_50 bs_50) 2893)=.ok vs_60 bs_60 3077:=by kernel_rfl
end SX
end Go.Proofs.YtdebnbgjgkbmaaaGreatDoor
namespace Go.Proofs.YtdebnbgjgkbmaaaGreatDoor.Ht.Pl
def evt:Bool→Nat→Int
 | true,k=>([1,2,3,4,0,3,4,1,2,0]:List Int).getD k 0
 | false,k=>([3,4,1,2,0,1,2,3,4,0]:List Int).getD k 0
def nxt (own:Bool) (s e:Int):Int:=if (0≤s∧s≤9)∧e≠0∧evt own s.toNat=e then s+1 else s
def lo (own:Bool):Int:=if own then 3 else 1
def hi (own:Bool):Int:=if own then 5 else 7
def may (s:Int):Bool:=decide (0≤s)&&decide (s≤9)
def pos (own:Bool):Nat→Int
 | 0=>0
 | k+1=>nxt own (pos own k) (1+((k%4:Nat):Int))
end Go.Proofs.YtdebnbgjgkbmaaaGreatDoor.Ht.Pl
namespace Go.Proofs.YtdebnbgjgkbmaaaGreatDoor.Ht
open Go.RowKit
structure HT (w:World):Prop where
 size:8≤w.heap.size
 evT:∀ k,k<10→w.cell? ⟨7,10+k,none⟩=some (.int .i64 (Pl.evt true k))
 evF:∀ k,k<10→w.cell? ⟨7,k,none⟩=some (.int .i64 (Pl.evt false k))
 sp0:w.cell? ⟨3,0,none⟩=some (.int .i64 1)
 sp1:w.cell? ⟨3,1,none⟩=some (.int .i64 7)
 sp2:w.cell? ⟨3,2,none⟩=some (.int .i64 3)
 sp3:w.cell? ⟨3,3,none⟩=some (.int .i64 5)
theorem HT.below {w w':World} (h:HT w) (b:Below w.heap.size w w'):HT w':=by
 have s:=h.size
 refine ⟨Nat.le_trans s b.size,fun k hk=>?_,fun k hk=>?_,?_,?_,?_,?_⟩
 · rw [b.cell (by show 7<_;omega)];exact h.evT k hk
 · rw [b.cell (by show 7<_;omega)];exact h.evF k hk
 · rw [b.cell (by show 3<_;omega)];exact h.sp0
 · rw [b.cell (by show 3<_;omega)];exact h.sp1
 · rw [b.cell (by show 3<_;omega)];exact h.sp2
 · rw [b.cell (by show 3<_;omega)];exact h.sp3
theorem ret_bool {a b:Bool} (h:a=b):Ending.returned (.bool a)=.returned (.bool b):=by rw [h]
theorem may_any (s:Int) (w:World) :
 Calls Tryz.prog 270 #[.int .i64 s] w fun e w'=>e=.returned (.bool (Pl.may s))∧w=w':=by
 go_enter Tryz.func270,Tryz.ntmps270
 go_wp2
 · go_ret
   exact ⟨ret_bool (by simp [Pl.may];omega),rfl⟩
 · go_ret
   exact ⟨ret_bool (by simp [Pl.may];omega),rfl⟩
end Go.Proofs.YtdebnbgjgkbmaaaGreatDoor.Ht
namespace Go.Proofs.YtdebnbgjgkbmaaaGreatDoor
namespace SX
open Go Go.RowKit
set_option linter.unusedVariables false
set_option maxRecDepth 100000
structure Glb (w:World):Prop where
 r0:M.RowAt w 0 330 g0.toArray
 r3:M.RowAt w 3 380 g3.toArray
 r4:M.RowAt w 4 427 g4.toArray
 r6:M.RowAt w 6 233 g6.toArray
 r7:M.RowAt w 7 432 g7.toArray
theorem Glb.lt {w:World} (h:Glb w):7<w.heap.size:=h.r7.lt
theorem Glb.below {w w':World} {n:Nat} (h:Glb w) (b:Below n w w') (hn:7<n):Glb w':=by
 have e:∀ g t cs,g≤7→M.RowAt w g t cs→M.RowAt w' g t cs:=fun g t cs hg hr=>by
  unfold M.RowAt at *
  rw [b.block g (by omega)];exact hr
 exact ⟨e 0 _ _ (by omega) h.r0,e 3 _ _ (by omega) h.r3,e 4 _ _ (by omega) h.r4,e 6 _ _ (by omega) h.r6,e 7 _ _ (by omega) h.r7⟩
theorem Glb.tabs {w:World} (h:Glb w):Tabs w:=by
 refine ⟨fun i hi=>?_,fun i hi=>?_⟩
 · rw [h.r0.cell i];unfold g0;rw [List.getElem?_toArray,List.getElem?_map,List.getElem?_range hi];rfl
 · rw [h.r4.cell i];unfold g4;rw [List.getElem?_toArray,List.getElem?_map,List.getElem?_range hi];rfl
theorem shp {W:World} (hsh:W.ShapedOpen Tryz.prog) {g t m:Nat} (hg:g<Tryz.prog.globals.size) (h:(((begin Tryz.prog (fun _ _=>0) default).world.heap[g]?).bind Obj.row?).map (fun p=>(p.1.size,p.2))=some (m,t)):∃ cs:Array Value,W.heap[g]?=some (.cells cs t (0,0))∧cs.size=m:=by
 obtain ⟨⟨zero,t'⟩,h1,h2⟩:=Option.map_eq_some_iff.1 h
 cases h2
 obtain ⟨cs,h3,h4,_⟩:=hsh.1 g zero t' hg h1
 exact ⟨cs,h3,h4⟩
theorem row_of {W:World} {g t m:Nat} {cs:Array Value} {L:List Value} (hb:W.heap[g]?=some (.cells cs t (0,0))) (hs:cs.size=m) (hl:L.length=m) (hc:∀ i,i<m→W.cell? ⟨g,i,none⟩=L[i]?):M.RowAt W g t L.toArray:=by
 have e:cs=L.toArray:=by
  apply Array.ext_getElem?
  intro i
  have h1:L.toArray[i]?=L[i]?:=by simp
  rw [h1]
  by_cases hi:i<m
  · rw [←hc i hi];simp [World.cell?,hb]
  · rw [Array.getElem?_eq_none (by omega),List.getElem?_eq_none (by omega)]
 rw [←e];exact hb
theorem two_rows {w:World} {g t e:Nat} {n:String} {m:Nat} {cs:Array Value} {fuel:Nat} {a b:List Int} {p:List MemPlace}
 (ht:Tryz.prog.underlying t=some (.array 2 e)) (he:Tryz.prog.underlying e=some (.array m 3)) (hce:Tryz.prog.cellsOf e=m) (_hct:Tryz.prog.cellsOf t=m+m) (hla:a.length=m) (hlb:b.length=m)
 (hg:Tryz.prog.globalNamed n=some g) (hv:w.var? Tryz.prog n=some cs)
 (hd:DataW.trod (fun _=>()) Tryz.prog w 0 (fun _=>true) false fuel t cs.toList=some (.agg [Lib.tabData .i64 a,Lib.tabData .i64 b],p)) :
 ∀ k,k<m→w.cell? ⟨g,k,none⟩=some (.int .i64 (a.getD k 0))∧w.cell? ⟨g,m+k,none⟩=some (.int .i64 (b.getD k 0)):=by
 obtain ⟨xs,f,rfl,hx,hcl,hxl,hel⟩:=DataW.trod_array ht hd
 have h5:Tryz.prog.underlying 3=some (.int .i64):=by kernel_rfl
 have hc5:Tryz.prog.cellsOf 3=1:=by kernel_rfl
 rw [hce] at hel
 match xs,hxl,hx,hel with
 | [x0,x1],_,hx,hel=>
   have e0:=hel 0 (by omega)
   have e1:=hel 1 (by omega)
   simp only [List.map_cons,List.map_nil,Prod.mk.injEq,DataW.agg.injEq,List.cons.injEq,and_true] at hx
   obtain ⟨⟨hx0,hx1⟩,_⟩:=hx
   obtain ⟨y0,z0⟩:=x0
   obtain ⟨y1,z1⟩:=x1
   simp only at hx0 hx1
   subst hx0 hx1
   have r0:=Lib.cells_of_tab he h5 hc5 hce e0
   have r1:=Lib.cells_of_tab he h5 hc5 hce e1
   intro k hk
   constructor
   · have hc:=World.var?_cell hg hv k
     rw [hc]
     have:=congrArg (·[k]?) r0
     simp only [Nat.zero_mul,List.drop_zero,List.getElem?_take_of_lt hk,List.getElem?_map] at this
     rw [←Array.getElem?_toList,this]
     have hka:k<a.length:=by omega
     simp [List.getElem?_eq_getElem hka]
   · have hc:=World.var?_cell hg hv (m+k)
     rw [hc]
     have:=congrArg (·[k]?) r1
     simp only [Nat.one_mul,List.getElem?_take_of_lt hk,List.getElem?_map,List.getElem?_drop] at this
     rw [←Array.getElem?_toList,this]
     have hkb:k<b.length:=by omega
     simp [List.getElem?_eq_getElem hkb]
theorem two_of {w:World} {laid:List (String × DataW Unit)} (h:laidMet Tryz.prog laid w) {n:String} {a b:List Int} (hm:(n,DataW.agg [Lib.tabData .i64 a,Lib.tabData .i64 b])∈laid) {g t e m:Nat} (hg:Tryz.prog.globalNamed n=some g) (hty:(Tryz.prog.globals[g]?).map (·.type)=some t)
 (ht:Tryz.prog.underlying t=some (.array 2 e)) (he:Tryz.prog.underlying e=some (.array m 3)) (hce:Tryz.prog.cellsOf e=m) (hct:Tryz.prog.cellsOf t=m+m) (hla:a.length=m) (hlb:b.length=m) :
 ∀ k,k<m→w.cell? ⟨g,k,none⟩=some (.int .i64 (a.getD k 0))∧w.cell? ⟨g,m+k,none⟩=some (.int .i64 (b.getD k 0)):=by
 obtain ⟨ps,hv,_⟩:=h
 obtain ⟨g',t',cs,fuel,p,hg',ht',hvar,hd⟩:=RowK.laid_get hv hm
 obtain rfl:=Option.some.inj (hg.symm.trans hg')
 obtain rfl:=Option.some.inj (hty.symm.trans ht')
 exact two_rows ht he hce hct hla hlb hg hvar hd
structure Lst (laid:List (String × DataW Unit)):Prop where
 b:("remitter/digest.begin",Rows.laid_remitter_digest_begin)∈laid
 t:("remitter/digest.table",Rows.laid_remitter_digest_table)∈laid
 d:("math/bits.deBruijn64tab",Rows.laid_math_bits_deBruijn64tab)∈laid
 e:("remitter/htlc.events",Rows.laid_remitter_htlc_events)∈laid
 s:("remitter/htlc.spans",Rows.laid_remitter_htlc_spans)∈laid
theorem glb_of {w:World} {laid:List (String × DataW Unit)} (hsh:w.ShapedOpen Tryz.prog) (h:laidMet Tryz.prog laid w) (l:Lst laid):Glb w:=by
 obtain ⟨hb,hk,hd,he,hs⟩:=l
 have e1:(Rows.laid_remitter_digest_begin:DataW Unit)=Lib.tabData .u32 ((List.range 8).map fun i=>(Sha.begin0.get i:Int)):=by kernel_rfl
 have e2:(Rows.laid_remitter_digest_table:DataW Unit)=Lib.tabData .u32 ((List.range 64).map fun i=>(Sha.k i:Int)):=by kernel_rfl
 have e3:(Rows.laid_math_bits_deBruijn64tab:DataW Unit)=Lib.tabData .u8 (Lib.deBruijn64tab.map fun (n:Nat)=>(n:Int)):=by kernel_rfl
 have e4:(Rows.laid_remitter_htlc_events:DataW Unit)=.agg [Lib.tabData .i64 [3,4,1,2,0,1,2,3,4,0],Lib.tabData .i64 [1,2,3,4,0,3,4,1,2,0]]:=by kernel_rfl
 have e5:(Rows.laid_remitter_htlc_spans:DataW Unit)=.agg [Lib.tabData .i64 [1,7],Lib.tabData .i64 [3,5]]:=by kernel_rfl
 rw [e1] at hb
 rw [e2] at hk
 rw [e3] at hd
 rw [e4] at he
 rw [e5] at hs
 have g1:Tryz.prog.globalNamed "remitter/digest.begin"=some 0:=by kernel_rfl
 have g2:Tryz.prog.globalNamed "remitter/digest.table"=some 4:=by kernel_rfl
 have g3':Tryz.prog.globalNamed "math/bits.deBruijn64tab"=some 6:=by kernel_rfl
 have g4':Tryz.prog.globalNamed "remitter/htlc.events"=some 7:=by kernel_rfl
 have g5:Tryz.prog.globalNamed "remitter/htlc.spans"=some 3:=by kernel_rfl
 have t1:=RowK.tab_get (t:=330) (e:=40) (len:=8) h hb g1 (by kernel_rfl) (by kernel_rfl) (by kernel_rfl) (by kernel_rfl) (by kernel_rfl)
 have t2:=RowK.tab_get (t:=427) (e:=40) (len:=64) h hk g2 (by kernel_rfl) (by kernel_rfl) (by kernel_rfl) (by kernel_rfl) (by kernel_rfl)
 have t3:=RowK.tab_get (t:=233) (e:=5) (len:=64) h hd g3' (by kernel_rfl) (by kernel_rfl) (by kernel_rfl) (by kernel_rfl) (by kernel_rfl)
 have t4:=two_of (t:=432) (e:=431) (m:=10) h he g4' (by kernel_rfl) (by kernel_rfl) (by kernel_rfl) (by kernel_rfl) (by kernel_rfl) rfl rfl
 have t5:=two_of (t:=380) (e:=169) (m:=2) h hs g5 (by kernel_rfl) (by kernel_rfl) (by kernel_rfl) (by kernel_rfl) (by kernel_rfl) rfl rfl
 obtain ⟨c0,b0,s0⟩:=shp hsh (g:=0) (t:=330) (m:=8) (of_decide_eq_true (by kernel_rfl)) (by kernel_rfl)
 obtain ⟨c4,b4,s4⟩:=shp hsh (g:=4) (t:=427) (m:=64) (of_decide_eq_true (by kernel_rfl)) (by kernel_rfl)
 obtain ⟨c6,b6,s6⟩:=shp hsh (g:=6) (t:=233) (m:=64) (of_decide_eq_true (by kernel_rfl)) (by kernel_rfl)
 obtain ⟨c7,b7,s7⟩:=shp hsh (g:=7) (t:=432) (m:=20) (of_decide_eq_true (by kernel_rfl)) (by kernel_rfl)
 obtain ⟨c3,b3,s3⟩:=shp hsh (g:=3) (t:=380) (m:=4) (of_decide_eq_true (by kernel_rfl)) (by kernel_rfl)
 refine ⟨row_of b0 s0 (by simp [g0]) fun i hi=>?_,row_of b3 s3 rfl fun i hi=>?_,row_of b4 s4 (by simp [g4]) fun i hi=>?_,row_of b6 s6 (by kernel_rfl) fun i hi=>?_,row_of b7 s7 rfl fun i hi=>?_⟩
 · rw [t1.cell g1 i (by simpa using hi)]
   unfold g0
   rw [List.getElem?_map,List.getElem?_range hi]
   simp [List.getD_eq_getElem?_getD,hi]
 · match i,hi with
   | 0,_=>exact (t5 0 (by decide)).1
   | 1,_=>exact (t5 1 (by decide)).1
   | 2,_=>exact (t5 0 (by decide)).2
   | 3,_=>exact (t5 1 (by decide)).2
 · rw [t2.cell g2 i (by simpa using hi)]
   unfold g4
   rw [List.getElem?_map,List.getElem?_range hi]
   simp [List.getD_eq_getElem?_getD,hi]
 · have hl0:Lib.deBruijn64tab.length=64:=by kernel_rfl
   rw [t3.cell g3' i (by rw [List.length_map,hl0];exact hi)]
   unfold g6
   have hl:Lib.deBruijn64tab.length=64:=by kernel_rfl
   rw [List.getElem?_map,List.getElem?_eq_getElem (by omega)]
   simp [List.getD_eq_getElem?_getD,List.getElem?_eq_getElem (show i<Lib.deBruijn64tab.length by omega)]
 · have hh:i<10∨10≤i:=by omega
   rcases hh with h10 | h10
   · rw [(t4 i h10).1]
     match i,h10 with
     | 0,_=>rfl
     | 1,_=>rfl
     | 2,_=>rfl
     | 3,_=>rfl
     | 4,_=>rfl
     | 5,_=>rfl
     | 6,_=>rfl
     | 7,_=>rfl
     | 8,_=>rfl
     | 9,_=>rfl
   · obtain ⟨k,rfl⟩:∃ k,i=10+k:=⟨i-10,by omega⟩
     have hk:k<10:=by omega
     rw [(t4 k hk).2]
     match k,hk with
     | 0,_=>rfl
     | 1,_=>rfl
     | 2,_=>rfl
     | 3,_=>rfl
     | 4,_=>rfl
     | 5,_=>rfl
     | 6,_=>rfl
     | 7,_=>rfl
     | 8,_=>rfl
     | 9,_=>rfl
def rho0:Rho:=fun n=>if n=4 then some ⟨4,0,64,427⟩ else if n=0 then some ⟨0,0,8,330⟩ else if n=7 then some ⟨7,0,20,432⟩ else if n=3 then some ⟨3,0,4,380⟩ else if n=6 then some ⟨6,0,64,233⟩ else none
theorem cr_row {σ:Sig} {ρ:Rho} {w:World} {g t:Nat} {l:List Value} (h:M.RowAt w g t l.toArray) (hf:∀ v∈l,∃ k n,v=.int k n):CR σ ρ l ⟨g,0,l.length,t⟩ w:=by
 have hc:∀ i (v:Value),l[i]?=some v→w.cell? ⟨g,i,none⟩=some v:=fun i v hv=>by rw [h.cell i,List.getElem?_toArray];exact hv
 refine ⟨?_,fun i _=>h.frozen i,by simp,l,⟨rfl,fun i x x' a b=>?_⟩,fun i v hv=>?_⟩
 · unfold World.shape?
   rw [show w.heap[g]?=some (.cells l.toArray t (0,0)) from h];simp
 · rw [a] at b;cases b
   obtain ⟨k,n,rfl⟩:=hf x (List.mem_of_getElem? a)
   exact ⟨.int k n,rfl,rfl⟩
 · rw [Nat.zero_add];exact hc i v hv
theorem sim0 {w:World} (h:Glb w) (σ:Sig):Sim σ glT rho0 .nil 16 w:=by
 have hn:∀ n,TT.get DH (.nil:Hp) n=none:=fun n=>get_nil _ _
 have hno:∀ b,¬ Own rho0 (.nil:Hp) 16 b:=by
  rintro b ⟨n,p,_,e,_⟩
  rw [hn n] at e;cases e
 refine ⟨by decide,fun n hn=>?_,fun n _ _=>hn n,fun n _ b hb=>(by rw [hn n] at hb;cases hb),fun m n p q _ _ e=>(by rw [hn m] at e;cases e),by decide,fun n h16 b hb=>?_⟩
 · unfold rho0
   rw [if_neg (by omega),if_neg (by omega),if_neg (by omega),if_neg (by omega),if_neg (by omega)]
 · have hlt:n<2 ^ DH:=Nat.lt_trans h16 (by decide)
   rw [glT_get hlt] at hb
   unfold rho0
   by_cases e4:n=4
   · subst e4
     rw [if_pos rfl] at hb;cases hb
     exact ⟨_,if_pos rfl,⟨rfl,rfl⟩,(show CR _ _ _ _ _ from (by have:=cr_row (σ:=σ) (ρ:=rho0) h.r4 (fun v hv=>by unfold g4 at hv;obtain ⟨i,_,rfl⟩:=List.mem_map.1 hv;exact ⟨_,_,rfl⟩);exact this)),hno _⟩
   rw [if_neg (fun e=>e4 e.symm)] at hb
   rw [if_neg e4]
   by_cases e0:n=0
   · subst e0
     rw [if_pos rfl] at hb;cases hb
     exact ⟨_,if_pos rfl,⟨rfl,rfl⟩,(show CR _ _ _ _ _ from (by have:=cr_row (σ:=σ) (ρ:=rho0) h.r0 (fun v hv=>by unfold g0 at hv;obtain ⟨i,_,rfl⟩:=List.mem_map.1 hv;exact ⟨_,_,rfl⟩);exact this)),hno _⟩
   rw [if_neg (fun e=>e0 e.symm)] at hb
   rw [if_neg e0]
   by_cases e7:n=7
   · subst e7
     rw [if_pos rfl] at hb;cases hb
     exact ⟨_,if_pos rfl,⟨rfl,rfl⟩,(show CR _ _ _ _ _ from (by have:=cr_row (σ:=σ) (ρ:=rho0) h.r7 (fun v hv=>by unfold g7 at hv;obtain ⟨i,_,rfl⟩:=List.mem_map.1 hv;exact ⟨_,_,rfl⟩);exact this)),hno _⟩
   rw [if_neg (fun e=>e7 e.symm)] at hb
   rw [if_neg e7]
   by_cases e3:n=3
   · subst e3
     rw [if_pos rfl] at hb;cases hb
     exact ⟨_,if_pos rfl,⟨rfl,rfl⟩,(show CR _ _ _ _ _ from (by have:=cr_row (σ:=σ) (ρ:=rho0) h.r3 (fun v hv=>by unfold g3 at hv;simp at hv;rcases hv with rfl | rfl | rfl | rfl<;>exact ⟨_,_,rfl⟩);exact this)),hno _⟩
   rw [if_neg (fun e=>e3 e.symm)] at hb
   rw [if_neg e3]
   by_cases e6:n=6
   · subst e6
     rw [if_pos rfl] at hb;cases hb
     exact ⟨_,if_pos rfl,⟨rfl,rfl⟩,(show CR _ _ _ _ _ from (by have:=cr_row (σ:=σ) (ρ:=rho0) h.r6 (fun v hv=>by unfold g6 at hv;obtain ⟨i,_,rfl⟩:=List.mem_map.1 hv;exact ⟨_,_,rfl⟩);exact this)),hno _⟩
   rw [if_neg (fun e=>e6 e.symm)] at hb
   cases hb
theorem below_of {σ:Sig} {w w':World} {ρ':Rho} {h':Hp} {nx':Nat} (x:Ext rho0 .nil 16 w ρ' h' nx' w'):Below w.heap.size w w':=by
 have hno:∀ b,¬ Own rho0 (.nil:Hp) 16 b:=by
  rintro b ⟨n,p,_,e,_⟩
  have e:(TT.get DH (.nil:Hp) n).isSome=true:=e
  rw [get_nil] at e;cases e
 exact ⟨x.os,x.tape,x.output,x.size,fun k hk=>x.block k hk (hno k)⟩
end SX
end Go.Proofs.YtdebnbgjgkbmaaaGreatDoor
namespace Go.Proofs.YtdebnbgjgkbmaaaGreatDoor
namespace SX
open Go Go.RowKit
set_option linter.unusedVariables false
set_option maxRecDepth 1000000
noncomputable def tmOf (r:SX.CX):Sl:=match r with | .ok _ tm _ _=>tm | .bad _=>.nil
noncomputable def hOf (r:SX.CX):Hp:=match r with | .ok _ _ h _=>h | .bad _=>.nil
noncomputable def nxOf (r:SX.CX):Nat:=match r with | .ok _ _ _ n=>n | .bad _=>0
noncomputable def isX (i:Nat) (r:SX.CX):Bool:=match r with | .ok (.exit j) _ _ _=>Nat.beq j i | _=>false
noncomputable def isRt (r:SX.CX):Bool:=match r with | .ok .ret _ _ _=>true | _=>false
theorem isX_eq {i:Nat} {r:SX.CX} (h:isX i r=true):r=.ok (.exit i) (tmOf r) (hOf r) (nxOf r):=by
 unfold isX at h
 split at h
 · rw [Nat.eq_of_beq_eq_true h];rfl
 · cases h
theorem isRt_eq {r:SX.CX} (h:isRt r=true):r=.ok .ret (tmOf r) (hOf r) (nxOf r):=by
 unfold isRt at h
 split at h
 · rfl
 · cases h
section
variable {C:Cfg} {σ:Sig} {n:Nat} {ρ:Rho} {h:Hp} {nx nx2:Nat} {w:World} {keep:List Nat} {bs:List Blk} {vs:List Value}
theorem seq3_snap {a b c blk Z:Code} {fa fb fc:KX} (ha:Does C σ n a fa) (hb:Does C σ n b fb) (hc:Does C σ n c fc) {Q:Exit→Act→World→Prop} {tm:Sl} {act:Act} (hk:ltH keep=true) (e:snapC n keep (seqR fc (seqR fb (fa tm h nx)))=.ok vs bs nx2) (R:TmR σ ρ n tm act) (s:Sim σ C.E.gl ρ h nx w)
 (hQ:NextK C σ ρ n h nx w (mkT vs) (mkH keep bs) nx2 (blk.wp C.E.P (Exit.then (Z.wp C.E.P Q) Q))):(Code.seq a (.seq b (.seq (.seq c blk) Z))).wp C.E.P Q act w:=by
 obtain ⟨tm0,h0,e0,e1,rfl⟩:=snapC_some e
 obtain ⟨tmb,hb',nxb,eb,ec⟩:=seqR_normal e0
 obtain ⟨tma,ha',nxa,ea,eb⟩:=seqR_normal eb
 refine wp_seq (ha _ ρ tm h nx act w _ _ _ _ ea R s ?_)
 intro ρ1 a1 w1 R1 s1 x1
 refine wp_seq (hb _ ρ1 tma ha' nxa a1 w1 _ _ _ _ eb R1 s1 ?_)
 intro ρ2 a2 w2 R2 s2 x2
 refine wp_seq (wp_seq (hc _ ρ2 tmb hb' nxb a2 w2 _ _ _ _ ec R2 s2 ?_))
 intro ρ3 a3 w3 R3 s3 x3
 obtain ⟨s4,x4⟩:=s3.less (h':=mkH keep bs) (pickB_mk keep h0 bs (ltH_mem hk) e1)
 exact hQ ρ3 a3 w3 R3.vals s4 (((x1.trans x2).trans x3).trans x4)
end
theorem run_0:snapC 29 kp_0 (seqR (codeF C1 cl1 1000 c19c) (seqR (codeF C1 cl1 1000 c19b) (codeF C1 cl1 1000 c19a (argsF [qP 17 0,qI 60] 0 .nil) (mkH kpC bsC) 177)))=.ok vs_0 bs_0 177:=by kernel_rfl
noncomputable def rE:SX.CX:=loopF fL 100 (mkT vs_60) (mkH kp_60 bs_60) 3077
noncomputable def rZ:SX.CX:=codeF C1 cl1 1000 c19z (tmOf rE) (hOf rE) (nxOf rE)
theorem endE:isX 0 rE=true:=by kernel_rfl
theorem endZ:isRt rZ=true:=by kernel_rfl
theorem endR:resL C1 (tmOf rZ) (hOf rZ) Tryz.f19.results.toList=some [qI 0]:=by kernel_rfl
theorem endH:pickB (hOf rZ) kp_60=some bs_60:=by kernel_rfl
theorem endN:nxOf rZ=3077:=by kernel_rfl
theorem res19:Tryz.f19.results.toList.all resOk=true:=by kernel_rfl
theorem rounds_ok {σ:Sig} {ρ:Rho} {w:World} (s:Sim σ C1.E.gl ρ (mkH kpC bsC) 177 w) {v':Value} (hv:VR σ ρ (qP 17 0) v') :
 Calls C1.E.P 19 #[v',.int .i64 60] w fun e w'=>∃ u,e=.returned u∧Did C1.E σ ρ (mkH kpC bsC) 177 w (qI 0) (mkH kp_60 bs_60) 3077 u w':=by
 have hcl:=cl1_ok σ
 have dz:∀ {c:Code},codeOk C1.E 29 c=true→Does C1 σ 29 c (codeF C1 cl1 1000 c):=fun {c} hc=>codeF_ok (m:=1000) cfg1 hcl c hc
 have hL:Does C1 σ 29 c19l fL:=dz ok19l
 refine calls_of_wp Tryz.func19 body19 ?_
 have hva:VL σ ρ [qP 17 0,qI 60] (#[v',Value.int .i64 60]:Array Value).toList:=VL.cons hv (VL.cons (VR.int .i64 60) VL.nil)
 have R0:=TmR.start (n:=29) hva (by decide) (by decide)
 refine seq3_snap (dz ok19a) (dz ok19b) (dz ok19c) lk_0 run_0 R0 s ?_
 intro ρ0 a0 w0 R0 s0 x0
 refine wp_block (loopW_wp ?_)
 refine loop_snap hL lk_1 run_1 R0 s0 ?_
 intro ρ1 a1 w1 R1 s1 x1
 refine loop_snap hL lk_2 run_2 R1 s1 ?_
 intro ρ2 a2 w2 R2 s2 x2
 refine loop_snap hL lk_3 run_3 R2 s2 ?_
 intro ρ3 a3 w3 R3 s3 x3
 refine loop_snap hL lk_6 run_6 R3 s3 ?_
 intro ρ6 a6 w6 R6 s6 x6
 refine loop_snap hL lk_9 run_9 R6 s6 ?_
 intro ρ9 a9 w9 R9 s9 x9
 refine loop_snap hL lk_12 run_12 R9 s9 ?_
 intro ρ12 a12 w12 R12 s12 x12
 refine loop_snap hL lk_15 run_15 R12 s12 ?_
 intro ρ15 a15 w15 R15 s15 x15
 refine loop_snap hL lk_20 run_20 R15 s15 ?_
 intro ρ20 a20 w20 R20 s20 x20
 refine loop_snap hL lk_30 run_30 R20 s20 ?_
 intro ρ30 a30 w30 R30 s30 x30
 refine loop_snap hL lk_40 run_40 R30 s30 ?_
 intro ρ40 a40 w40 R40 s40 x40
 refine loop_snap hL lk_50 run_50 R40 s40 ?_
 intro ρ50 a50 w50 R50 s50 x50
 refine loop_snap hL lk_60 run_60 R50 s50 ?_
 intro ρ60 a60 w60 R60 s60 x60
 have xAll:=((((((((((((x0.trans x1).trans x2).trans x3).trans x6).trans x9).trans x12).trans x15).trans x20).trans x30).trans x40).trans x50).trans x60)
 refine loop_ok hL 100 _ _ _ _ _ _ (isX_eq endE) R60 s60 ?_
 intro ρE aE wE RE sE xE
 have key:c19z.wp C1.E.P (bodyPost C1.E.P Tryz.f19 (fun e w'=>∃ u,e=.returned u∧Did C1.E σ ρ (mkH kpC bsC) 177 w (qI 0) (mkH kp_60 bs_60) 3077 u w')) aE wE:=by
  refine dz ok19z _ _ _ _ _ _ _ _ _ _ _ (isRt_eq endZ) RE sE ?_
  intro ρZ aZ wZ RZ sZ xZ
  obtain ⟨u,hr,hvr⟩:=results_ok cfg1 RZ sZ res19 endR
  obtain ⟨s4,x4⟩:=sZ.less (h':=mkH kp_60 bs_60) (pickB_mk kp_60 (hOf rZ) bs_60 (ltH_mem lk_60) endH)
  have hx:=(xAll.trans (xE.trans xZ)).trans x4
  have e3:nxOf (codeF C1 cl1 1000 c19z (tmOf rE) (hOf rE) (nxOf rE))=3077:=endN
  have q:bodyPost C1.E.P Tryz.f19 (fun e w'=>∃ u,e=.returned u∧Did C1.E σ ρ (mkH kpC bsC) 177 w (qI 0) (mkH kp_60 bs_60) 3077 u w') (exOf .ret) aZ wZ=(aZ.defers=[]∧∃ v,(results Tryz.f19 aZ.tmps).run C1.E.P wZ=.ok v wZ∧∃ u,(Ending.returned v)=.returned u∧Did C1.E σ ρ (mkH kpC bsC) 177 w (qI 0) (mkH kp_60 bs_60) 3077 u wZ):=rfl
  rw [q]
  rw [e3] at s4 hx
  exact ⟨RZ.dfs,u,hr,u,rfl,ρZ,hvr,s4,hx⟩
 exact key
end SX
end Go.Proofs.YtdebnbgjgkbmaaaGreatDoor
namespace Go.Proofs.YtdebnbgjgkbmaaaGreatDoor
namespace SX
open Go Go.RowKit
set_option linter.unusedVariables false
set_option maxRecDepth 1000000
theorem runS:snapR [] (cl1 18 [qP 17 0,rq3] (mkH kp_60 bs_60) 3077)=.ok (.agg ⟨[qI 0,qU 2,.slice none 0 0]⟩) [] 3088:=by kernel_rfl
def sig0:Sig:=fun _ _=>undef
theorem vl_ask {ρ:Rho} {x x' y:Value} (hx:VR sig0 ρ x x') (hy:flat y=true):VL sig0 ρ [x,y] (#[x',y]:Array Value).toList:=VL.cons hx (VL.cons (flat_refl hy) VL.nil)
theorem fl1:flat rq1=true:=by kernel_rfl
theorem fl2:flat rq2=true:=by kernel_rfl
theorem fl3:flat rq3=true:=by kernel_rfl
theorem fl0:flat an0=true:=by kernel_rfl
theorem fl4:flat (.agg ⟨[qI 0,qU 2,.slice none 0 0]⟩)=true:=by kernel_rfl
set_option maxHeartbeats 4000000 in
theorem shown_any (w:World) (g:Glb w):Calls Tryz.prog 17 #[] w fun e w'=>e=.returned (.bool true)∧Below w.heap.size w w':=by
 have c1:Calls Tryz.prog 86 #[.int .i64 2,.int .u64 100,.int .u64 0,.int .u64 0] w fun e w'=>∃ v',e=.returned v'∧Did C1.E sig0 rho0 .nil 16 w (qP 17 0) (mkH kpA bsA) 64 v' w':=
  call_snap (cl1_ok sig0) lkA runA (sim0 g sig0) (VL.cons (VR.int .i64 2) (VL.cons (VR.int .u64 100) (VL.cons (VR.int .u64 0) (VL.cons (VR.int .u64 0) VL.nil))))
 have c2:∀ (ρ:Rho) (v:World) (x:Value),Sim sig0 C1.E.gl ρ (mkH kpA bsA) 64 v→VR sig0 ρ (qP 17 0) x→Calls Tryz.prog 18 #[x,.agg #[.int .i64 1,.int .i64 1,.int .i64 0,.int .u64 0,.int .u8 1,.int .i64 0]] v fun e w'=>∃ v',e=.returned v'∧Did C1.E sig0 ρ (mkH kpA bsA) 64 v an0 (mkH kpB bsB) 81 v' w':=
  fun ρ v x s hx=>call_snap (cl1_ok sig0) lkB runB s (vl_ask hx fl1)
 have c3:∀ (ρ:Rho) (v:World) (x:Value),Sim sig0 C1.E.gl ρ (mkH kpB bsB) 81 v→VR sig0 ρ (qP 17 0) x→Calls Tryz.prog 18 #[x,.agg #[.int .i64 3,.int .i64 0,.int .i64 0,.int .u64 5,.int .u8 1,.int .i64 9]] v fun e w'=>∃ v',e=.returned v'∧Did C1.E sig0 ρ (mkH kpB bsB) 81 v an0 (mkH kpC bsC) 177 v' w':=
  fun ρ v x s hx=>call_snap (cl1_ok sig0) lkC runC s (vl_ask hx fl2)
 have c4:∀ (ρ:Rho) (v:World) (x:Value),Sim sig0 C1.E.gl ρ (mkH kpC bsC) 177 v→VR sig0 ρ (qP 17 0) x→Calls Tryz.prog 19 #[x,.int .i64 60] v fun e w'=>∃ u,e=.returned u∧Did C1.E sig0 ρ (mkH kpC bsC) 177 v (qI 0) (mkH kp_60 bs_60) 3077 u w':=
  fun ρ v x s hx=>rounds_ok s hx
 have c5:∀ (ρ:Rho) (v:World) (x:Value),Sim sig0 C1.E.gl ρ (mkH kp_60 bs_60) 3077 v→VR sig0 ρ (qP 17 0) x→Calls Tryz.prog 18 #[x,.agg #[.int .i64 8,.int .i64 0,.int .i64 0,.int .u64 0,.int .u8 0,.int .i64 0]] v fun e w'=>∃ v',e=.returned v'∧Did C1.E sig0 ρ (mkH kp_60 bs_60) 3077 v (.agg ⟨[qI 0,qU 2,.slice none 0 0]⟩) (mkH [] []) 3088 v' w':=
  fun ρ v x s hx=>call_snap (cl1_ok sig0) rfl runS s (vl_ask hx fl3)
 have C1':=Lib.hid c1;have C2:=Lib.hid c2;have C3:=Lib.hid c3;have C4:=Lib.hid c4;have C5:=Lib.hid c5
 clear c1 c2 c3 c4 c5
 go_enter Tryz.func17,Tryz.ntmps17
 go_wp2_with fail
 refine (C1'.out).mono ?_
 rintro e w1 ⟨v1,rfl,ρ1,hv1,s1,x1⟩
 obtain ⟨p,hp,_,rfl⟩:=(show VR sig0 ρ1 (.pointer (some ⟨17,0,none⟩)) v1 from hv1).ptr_inv
 obtain ⟨b,hb⟩:∃ b,p.b=b:=⟨_,rfl⟩
 obtain ⟨o,ho⟩:∃ o,p.o+0=o:=⟨_,rfl⟩
 rw [hb,ho] at hv1 ⊢
 have V1:=Lib.hid hv1;have S1:=Lib.hid s1;have X1:=Lib.hid x1
 clear hv1 s1 x1 hp hb ho C1'
 go_wp2_with fail
 refine (C2.out _ _ _ S1.out V1.out).mono ?_
 rintro e w2 ⟨v2,rfl,ρ2,hv2,s2,x2⟩
 have V2:=Lib.hid (V1.out.mono x2.mono);have S2:=Lib.hid s2;have X2:=Lib.hid (X1.out.trans x2)
 obtain rfl:=flat_eq fl0 hv2
 clear hv2 s2 x2 C2 V1 S1 X1
 unfold an0 qI qU
 go_wp2_with fail
 refine (C3.out _ _ _ S2.out V2.out).mono ?_
 rintro e w3 ⟨v3,rfl,ρ3,hv3,s3,x3⟩
 have V3:=Lib.hid (V2.out.mono x3.mono);have S3:=Lib.hid s3;have X3:=Lib.hid (X2.out.trans x3)
 obtain rfl:=flat_eq fl0 hv3
 clear hv3 s3 x3 C3 V2 S2 X2
 rw [show an0=.agg #[.int .i64 0,.int .u64 0,.slice none 0 0] from rfl]
 go_wp2_with fail
 obtain ⟨m,hm⟩:∃ m,w3.heap.size=m:=⟨_,rfl⟩
 rw [hm]
 have b3:Below w3.heap.size w3 (w3.alloc (Obj.cells #[Value.int IntKind.i64 0,Value.int IntKind.u64 0,Value.slice none 0 0] 30)):=(Below.refl _ _).alloc (Nat.le_refl _) _
 have s3:=S3.out.below b3
 have x3:=X3.out.trans (Ext.below b3)
 have r3:M.RowAt (w3.alloc (Obj.cells #[Value.int IntKind.i64 0,Value.int IntKind.u64 0,Value.slice none 0 0] 30)) m 30 #[Value.int IntKind.i64 0,Value.int IntKind.u64 0,Value.slice none 0 0]:=hm▸M.RowAt.new w3 30 _
 have no3:¬ Own ρ3 (mkH kpC bsC) 177 m:=fun h=>by have:=S3.out.own_lt h;omega
 generalize w3.alloc (Obj.cells #[Value.int IntKind.i64 0,Value.int IntKind.u64 0,Value.slice none 0 0] 30)=y3 at *
 clear b3 S3 X3 hm
 refine (C4.out _ _ _ s3 V3.out).mono ?_
 rintro e w4 ⟨u,rfl,ρ4,hu,s4,x4⟩
 have r4:M.RowAt w4 m 30 #[Value.int IntKind.i64 0,Value.int IntKind.u64 0,Value.slice none 0 0]:=by
  unfold M.RowAt;rw [x4.block m r3.lt no3];exact r3
 have no4:¬ Own ρ4 (mkH kp_60 bs_60) 3077 m:=fun h=>by
  rcases x4.own m h with h | h
  · exact no3 h
  · have:=r3.lt;omega
 have V4:=Lib.hid (V3.out.mono x4.mono);have S4:=Lib.hid s4;have X4:=Lib.hid (x3.trans x4)
 obtain rfl:=VR.int_inv (show VR sig0 ρ4 (.int .i64 0) u from hu)
 have hc4:w4.cell? ⟨m,1,none⟩=some (.int .u64 0):=(r4.cell 1).trans rfl
 clear hu s4 x4 s3 x3 r3 no3 C4 V3
 go_wp2_with fail
 refine (C5.out _ _ _ S4.out V4.out).mono ?_
 rintro e w5 ⟨v5,rfl,ρ5,hv5,s5,x5⟩
 obtain rfl:=flat_eq fl4 hv5
 have r5:M.RowAt w5 m 30 #[Value.int IntKind.i64 0,Value.int IntKind.u64 0,Value.slice none 0 0]:=by
  unfold M.RowAt;rw [x5.block m r4.lt no4];exact r4
 have b5:=below_of (σ:=sig0) (X4.out.trans x5)
 rw [show (Value.agg ⟨[qI 0,qU 2,.slice none 0 0]⟩)=.agg #[.int .i64 0,.int .u64 2,.slice none 0 0] from rfl]
 clear hv5 s5 x5 X4 S4 V4 C5 hc4 r4 no4
 have r6:=r5.alloc (Obj.cells #[Value.int IntKind.i64 0,Value.int IntKind.u64 2,Value.slice none 0 0] 30)
 have hc6:(w5.alloc (Obj.cells #[Value.int IntKind.i64 0,Value.int IntKind.u64 2,Value.slice none 0 0] 30)).cell? ⟨m,0,none⟩=some (.int .i64 0):=(r6.cell 0).trans rfl
 have hc7:(w5.alloc (Obj.cells #[Value.int IntKind.i64 0,Value.int IntKind.u64 2,Value.slice none 0 0] 30)).cell? ⟨w5.heap.size,1,none⟩=some (.int .u64 2):=((M.RowAt.new w5 30 #[Value.int IntKind.i64 0,Value.int IntKind.u64 2,Value.slice none 0 0]).cell 1).trans rfl
 have B5:=Lib.hid (b5.alloc b5.size (Obj.cells #[Value.int IntKind.i64 0,Value.int IntKind.u64 2,Value.slice none 0 0] 30))
 clear r5 r6 b5
 go_wp2
 go_ret
 exact ⟨rfl,B5.out⟩
end SX
end Go.Proofs.YtdebnbgjgkbmaaaGreatDoor
