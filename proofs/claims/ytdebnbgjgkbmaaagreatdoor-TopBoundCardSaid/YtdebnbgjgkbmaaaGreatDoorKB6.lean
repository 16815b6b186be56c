import Derived.ArgAppend
import Derived.Below
import Derived.BigQuiet
import Derived.Calls
import Derived.ChangeKeysEq
import Derived.ChangeOld
import Derived.Deep.AppendLies
import Derived.Deep.AppendSrc
import Derived.Deep.DeepHandedRow
import Derived.Deep.LoopGhost
import Derived.Deep.MidRow
import Derived.Deep.Onto
import Derived.Deep.QuietTactic
import Derived.Deep.RegionHeld3
import Derived.Deep.RegionWith
import Derived.Deep.WholeRow
import Derived.DeepKeys
import Derived.DeepKeys3
import Derived.DeepKeys4
import Derived.Defers
import Derived.KernelRfl
import Derived.Laws.AppendOwn
import Derived.Laws.Bits64b
import Derived.Laws.BitsAllLaws
import Derived.Laws.BytesArg
import Derived.Laws.BytesString
import Derived.Laws.EntriesVeiled
import Derived.Laws.MakeOwn
import Derived.Laws.OwnMore
import Derived.Laws.Rows
import Derived.Laws.Tables
import Derived.Lib.BufferWrite
import Derived.Lib.Builder
import Derived.Lib.ConvBytes
import Derived.Lib.FrozenHead2
import Derived.Lib.Hide
import Derived.Lib.LaidTab
import Derived.Lib.Mul64
import Derived.Lib.SlFresh
import Derived.Lib.Strings
import Derived.Lib.TrailingZeros
import Derived.Lib.UnsafeStr
import Derived.LoopIn
import Derived.LoopNIn
import Derived.Maps.Keyed
import Derived.OpenShut
import Derived.Orders
import Derived.Outline
import Derived.OwnWalk
import Derived.OwnWalkIn
import Derived.ProofKit
import Derived.RangeFuncBound
import Derived.RangeFuncCalls
import Derived.RangeFuncFrom
import Derived.RangeFuncLeaves
import Derived.RangeFuncNested
import Derived.Recover
import Derived.Shelf.Abstract
import Derived.Shelf.RegionOpen
import Derived.Shelf.RegionOpenPlain
import Derived.Shelf.Spec.SlicesInsert
import Derived.Shelf.Strings.OnBuilder
import Derived.ShutString
import Derived.StillTailTactics
import Derived.TacticsInMore
import Derived.Test.YtdebnbgjgkbmaaaGreatDoorProg
import Derived.Test.YtdebnbgjgkbmaaaGreatDoorRows
import Derived.WalkKit
import Derived.WalkLawsBesides
import Derived.WalkSpells
import Derived.Test.YtdebnbgjgkbmaaaGreatDoorKB5
import Derived.Test.YtdebnbgjgkbmaaaGreatDoorKBa
import Derived.Test.YtdebnbgjgkbmaaaGreatDoorKBb
import Derived.Test.YtdebnbgjgkbmaaaGreatDoorKBc
import Derived.Test.YtdebnbgjgkbmaaaGreatDoorKBd
import Derived.Test.YtdebnbgjgkbmaaaGreatDoorKBe
import Derived.Test.YtdebnbgjgkbmaaaGreatDoorKBk
import Derived.Test.YtdebnbgjgkbmaaaGreatDoorKBf
import Derived.Test.YtdebnbgjgkbmaaaGreatDoorKBg
import Derived.Test.YtdebnbgjgkbmaaaGreatDoorKBh
import Derived.Test.YtdebnbgjgkbmaaaGreatDoorKBi
import Derived.Test.YtdebnbgjgkbmaaaGreatDoorKBj
namespace Go.Proofs.YtdebnbgjgkbmaaaGreatDoor
namespace SX
open Go Go.RowKit
set_option linter.unusedVariables false
set_option maxRecDepth 1000000
theorem l16:16≤zL.nx:=of_decide_eq_true (by kernel_rfl)
theorem nxi0:(zPi 0).nx=345:=by kernel_rfl
theorem runsi0:Runs true 0 zL (zI 0) (zPi 0) (ziF 0) (ziG 0):=by
 refine ⟨fun h=>yI0,fun h=>(by cases h),yPi0,fun B σ v' w hB hn hv h=>⟨σ,?_⟩,?_,l16,?_⟩
 · have hm:B.nx≤345:=by rw [hn,nxi0];exact Nat.le_refl _
   refine start_at (m:=345) hB hm (by decide) (qSm_ok σ) (fun ρ hm=>hv σ ρ hm) yi0_0 ?_ h
   refine piece_at (m:=345) hB hm (by decide) (qSm_ok σ) yi2_0 ?_
   refine piece_at (m:=345) hB hm (by decide) (qSm_ok σ) yi3_0 ?_
   refine piece_at (m:=345) hB hm (by decide) (qSm_ok σ) yi5_0 ?_
   refine piece_at (m:=345) hB hm (by decide) (qSm_ok σ) yi6_0 ?_
   refine piece_at (m:=345) hB hm (by decide) (qSm_ok σ) yi8_0 ?_
   refine piece_at (m:=345) hB hm (by decide) (qSm_ok σ) yi12_0 ?_
   refine piece_at (m:=345) hB hm (by decide) (qSm_ok σ) yi16_0 ?_
   refine piece_at (m:=345) hB hm (by decide) (qSm_ok σ) yi20_0 ?_
   refine piece_at (m:=345) hB hm (by decide) (qSm_ok σ) yi21_0 ?_
   refine piece_at (m:=345) hB hm (by decide) (qSm_ok σ) yi22_0 ?_
   refine piece_at (m:=345) hB hm (by decide) (qSm_ok σ) yi23_0 ?_
   refine piece_at (m:=345) hB hm (by decide) (qSm_ok σ) yi24_0 ?_
   refine piece_at (m:=345) hB hm (by decide) (qSm_ok σ) yi25_0 ?_
   refine piece_at (m:=345) hB hm (by decide) (qSm_ok σ) yi26_0 ?_
   refine piece_at (m:=345) hB hm (by decide) (qSm_ok σ) yi27_0 ?_
   refine piece_at (m:=345) hB hm (by decide) (qSm_ok σ) yi28_0 ?_
   refine piece_at (m:=345) hB hm (by decide) (qSm_ok σ) yiJ_0 ?_
   exact idle_at (m:=345) hB hm (by decide) (by decide) yiK_0 yiS_0 yiD_0 yiE_0
 · rw [nxi0];exact yiG_0
 · rw [nxi0];decide
theorem nxi1:(zPi 1).nx=345:=by kernel_rfl
theorem runsi1:Runs true 1 zL (zI 1) (zPi 1) (ziF 1) (ziG 1):=by
 refine ⟨fun h=>yI1,fun h=>(by cases h),yPi1,fun B σ v' w hB hn hv h=>⟨σ,?_⟩,?_,l16,?_⟩
 · have hm:B.nx≤345:=by rw [hn,nxi1];exact Nat.le_refl _
   refine start_at (m:=345) hB hm (by decide) (qSm_ok σ) (fun ρ hm=>hv σ ρ hm) yi0_1 ?_ h
   refine piece_at (m:=345) hB hm (by decide) (qSm_ok σ) yi2_1 ?_
   refine piece_at (m:=345) hB hm (by decide) (qSm_ok σ) yi3_1 ?_
   refine piece_at (m:=345) hB hm (by decide) (qSm_ok σ) yi5_1 ?_
   refine piece_at (m:=345) hB hm (by decide) (qSm_ok σ) yi6_1 ?_
   refine piece_at (m:=345) hB hm (by decide) (qSm_ok σ) yi8_1 ?_
   refine piece_at (m:=345) hB hm (by decide) (qSm_ok σ) yi12_1 ?_
   refine piece_at (m:=345) hB hm (by decide) (qSm_ok σ) yi16_1 ?_
   refine piece_at (m:=345) hB hm (by decide) (qSm_ok σ) yi20_1 ?_
   refine piece_at (m:=345) hB hm (by decide) (qSm_ok σ) yi21_1 ?_
   refine piece_at (m:=345) hB hm (by decide) (qSm_ok σ) yi22_1 ?_
   refine piece_at (m:=345) hB hm (by decide) (qSm_ok σ) yi23_1 ?_
   refine piece_at (m:=345) hB hm (by decide) (qSm_ok σ) yi24_1 ?_
   refine piece_at (m:=345) hB hm (by decide) (qSm_ok σ) yi25_1 ?_
   refine piece_at (m:=345) hB hm (by decide) (qSm_ok σ) yi26_1 ?_
   refine piece_at (m:=345) hB hm (by decide) (qSm_ok σ) yi27_1 ?_
   refine piece_at (m:=345) hB hm (by decide) (qSm_ok σ) yi28_1 ?_
   refine piece_at (m:=345) hB hm (by decide) (qSm_ok σ) yiJ_1 ?_
   exact idle_at (m:=345) hB hm (by decide) (by decide) yiK_1 yiS_1 yiD_1 yiE_1
 · rw [nxi1];exact yiG_1
 · rw [nxi1];decide
theorem nxi2:(zPi 2).nx=345:=by kernel_rfl
theorem runsi2:Runs true 2 zL (zI 2) (zPi 2) (ziF 2) (ziG 2):=by
 refine ⟨fun h=>yI2,fun h=>(by cases h),yPi2,fun B σ v' w hB hn hv h=>⟨σ,?_⟩,?_,l16,?_⟩
 · have hm:B.nx≤345:=by rw [hn,nxi2];exact Nat.le_refl _
   refine start_at (m:=345) hB hm (by decide) (qSm_ok σ) (fun ρ hm=>hv σ ρ hm) yi0_2 ?_ h
   refine piece_at (m:=345) hB hm (by decide) (qSm_ok σ) yi2_2 ?_
   refine piece_at (m:=345) hB hm (by decide) (qSm_ok σ) yi3_2 ?_
   refine piece_at (m:=345) hB hm (by decide) (qSm_ok σ) yi5_2 ?_
   refine piece_at (m:=345) hB hm (by decide) (qSm_ok σ) yi6_2 ?_
   refine piece_at (m:=345) hB hm (by decide) (qSm_ok σ) yi8_2 ?_
   refine piece_at (m:=345) hB hm (by decide) (qSm_ok σ) yi12_2 ?_
   refine piece_at (m:=345) hB hm (by decide) (qSm_ok σ) yi16_2 ?_
   refine piece_at (m:=345) hB hm (by decide) (qSm_ok σ) yi20_2 ?_
   refine piece_at (m:=345) hB hm (by decide) (qSm_ok σ) yi21_2 ?_
   refine piece_at (m:=345) hB hm (by decide) (qSm_ok σ) yi22_2 ?_
   refine piece_at (m:=345) hB hm (by decide) (qSm_ok σ) yi23_2 ?_
   refine piece_at (m:=345) hB hm (by decide) (qSm_ok σ) yi24_2 ?_
   refine piece_at (m:=345) hB hm (by decide) (qSm_ok σ) yi25_2 ?_
   refine piece_at (m:=345) hB hm (by decide) (qSm_ok σ) yi26_2 ?_
   refine piece_at (m:=345) hB hm (by decide) (qSm_ok σ) yi27_2 ?_
   refine piece_at (m:=345) hB hm (by decide) (qSm_ok σ) yi28_2 ?_
   refine piece_at (m:=345) hB hm (by decide) (qSm_ok σ) yiJ_2 ?_
   exact idle_at (m:=345) hB hm (by decide) (by decide) yiK_2 yiS_2 yiD_2 yiE_2
 · rw [nxi2];exact yiG_2
 · rw [nxi2];decide
theorem nxn0:(zPn 0).nx=328:=by kernel_rfl
theorem runsn0:Runs false 0 zL (zLk 0) (zPn 0) (znF 0) (znG 0):=by
 refine ⟨fun h=>(by cases h),fun h=>rfl,yPn0,fun B σ v' w hB hn hv h=>⟨σ,?_⟩,?_,l16,?_⟩
 · have hm:B.nx≤328:=by rw [hn,nxn0];exact Nat.le_refl _
   refine start_at (m:=328) hB hm (by decide) (qSm_ok σ) (fun ρ hm=>hv σ ρ hm) yn0_0 ?_ h
   refine piece_at (m:=328) hB hm (by decide) (qSm_ok σ) yn2_0 ?_
   refine piece_at (m:=328) hB hm (by decide) (qSm_ok σ) yn3_0 ?_
   refine piece_at (m:=328) hB hm (by decide) (qSm_ok σ) yn5_0 ?_
   refine piece_at (m:=328) hB hm (by decide) (qSm_ok σ) yn6_0 ?_
   refine piece_at (m:=328) hB hm (by decide) (qSm_ok σ) yn8_0 ?_
   refine piece_at (m:=328) hB hm (by decide) (qSm_ok σ) yn12_0 ?_
   refine piece_at (m:=328) hB hm (by decide) (qSm_ok σ) yn16_0 ?_
   refine piece_at (m:=328) hB hm (by decide) (qSm_ok σ) yn20_0 ?_
   refine piece_at (m:=328) hB hm (by decide) (qSm_ok σ) yn24_0 ?_
   refine piece_at (m:=328) hB hm (by decide) (qSm_ok σ) yn28_0 ?_
   refine piece_at (m:=328) hB hm (by decide) (qSm_ok σ) yn32_0 ?_
   refine piece_at (m:=328) hB hm (by decide) (qSm_ok σ) yn36_0 ?_
   refine piece_at (m:=328) hB hm (by decide) (qSm_ok σ) yn40_0 ?_
   refine piece_at (m:=328) hB hm (by decide) (qSm_ok σ) ynJ_0 ?_
   exact idle_at (m:=328) hB hm (by decide) (by decide) ynK_0 ynS_0 ynD_0 ynE_0
 · rw [nxn0];exact ynG_0
 · rw [nxn0];decide
theorem nxn1:(zPn 1).nx=328:=by kernel_rfl
theorem runsn1:Runs false 1 zL (zLk 1) (zPn 1) (znF 1) (znG 1):=by
 refine ⟨fun h=>(by cases h),fun h=>rfl,yPn1,fun B σ v' w hB hn hv h=>⟨σ,?_⟩,?_,l16,?_⟩
 · have hm:B.nx≤328:=by rw [hn,nxn1];exact Nat.le_refl _
   refine start_at (m:=328) hB hm (by decide) (qSm_ok σ) (fun ρ hm=>hv σ ρ hm) yn0_1 ?_ h
   refine piece_at (m:=328) hB hm (by decide) (qSm_ok σ) yn2_1 ?_
   refine piece_at (m:=328) hB hm (by decide) (qSm_ok σ) yn3_1 ?_
   refine piece_at (m:=328) hB hm (by decide) (qSm_ok σ) yn5_1 ?_
   refine piece_at (m:=328) hB hm (by decide) (qSm_ok σ) yn6_1 ?_
   refine piece_at (m:=328) hB hm (by decide) (qSm_ok σ) yn8_1 ?_
   refine piece_at (m:=328) hB hm (by decide) (qSm_ok σ) yn12_1 ?_
   refine piece_at (m:=328) hB hm (by decide) (qSm_ok σ) yn16_1 ?_
   refine piece_at (m:=328) hB hm (by decide) (qSm_ok σ) yn20_1 ?_
   refine piece_at (m:=328) hB hm (by decide) (qSm_ok σ) yn24_1 ?_
   refine piece_at (m:=328) hB hm (by decide) (qSm_ok σ) yn28_1 ?_
   refine piece_at (m:=328) hB hm (by decide) (qSm_ok σ) yn32_1 ?_
   refine piece_at (m:=328) hB hm (by decide) (qSm_ok σ) yn36_1 ?_
   refine piece_at (m:=328) hB hm (by decide) (qSm_ok σ) yn40_1 ?_
   refine piece_at (m:=328) hB hm (by decide) (qSm_ok σ) ynJ_1 ?_
   exact idle_at (m:=328) hB hm (by decide) (by decide) ynK_1 ynS_1 ynD_1 ynE_1
 · rw [nxn1];exact ynG_1
 · rw [nxn1];decide
theorem nxn2:(zPn 2).nx=328:=by kernel_rfl
theorem runsn2:Runs false 2 zL (zLk 2) (zPn 2) (znF 2) (znG 2):=by
 refine ⟨fun h=>(by cases h),fun h=>rfl,yPn2,fun B σ v' w hB hn hv h=>⟨σ,?_⟩,?_,l16,?_⟩
 · have hm:B.nx≤328:=by rw [hn,nxn2];exact Nat.le_refl _
   refine start_at (m:=328) hB hm (by decide) (qSm_ok σ) (fun ρ hm=>hv σ ρ hm) yn0_2 ?_ h
   refine piece_at (m:=328) hB hm (by decide) (qSm_ok σ) yn2_2 ?_
   refine piece_at (m:=328) hB hm (by decide) (qSm_ok σ) yn3_2 ?_
   refine piece_at (m:=328) hB hm (by decide) (qSm_ok σ) yn5_2 ?_
   refine piece_at (m:=328) hB hm (by decide) (qSm_ok σ) yn6_2 ?_
   refine piece_at (m:=328) hB hm (by decide) (qSm_ok σ) yn8_2 ?_
   refine piece_at (m:=328) hB hm (by decide) (qSm_ok σ) yn12_2 ?_
   refine piece_at (m:=328) hB hm (by decide) (qSm_ok σ) yn16_2 ?_
   refine piece_at (m:=328) hB hm (by decide) (qSm_ok σ) yn20_2 ?_
   refine piece_at (m:=328) hB hm (by decide) (qSm_ok σ) yn24_2 ?_
   refine piece_at (m:=328) hB hm (by decide) (qSm_ok σ) yn28_2 ?_
   refine piece_at (m:=328) hB hm (by decide) (qSm_ok σ) yn32_2 ?_
   refine piece_at (m:=328) hB hm (by decide) (qSm_ok σ) yn36_2 ?_
   refine piece_at (m:=328) hB hm (by decide) (qSm_ok σ) yn40_2 ?_
   refine piece_at (m:=328) hB hm (by decide) (qSm_ok σ) ynJ_2 ?_
   exact idle_at (m:=328) hB hm (by decide) (by decide) ynK_2 ynS_2 ynD_2 ynE_2
 · rw [nxn2];exact ynG_2
 · rw [nxn2];decide
theorem bound_any (n p:Nat) (hn:n<65536) (hp:p<256) (inv:Bool) (W:World) (g:Glb W):Calls Tryz.prog 3 #[.int .u16 (n:Int),.int .u8 (p:Int),.bool inv] W fun e w'=>e=.returned (.bool true)∧Below W.heap.size W w':=by
 have hsh:∀ v,Below W.heap.size W v→Calls Tryz.prog 17 #[] v fun e w'=>e=.returned (.bool true)∧Below v.heap.size v w':=fun v hb=>shown_any v (g.below hb g.lt)
 have h3:p%3=0∨p%3=1∨p%3=2:=by omega
 cases inv<;>rcases h3 with h | h | h
 · exact bound_walk n 0 hn p hp h false W g hsh l16 yL runsn0
 · exact bound_walk n 1 hn p hp h false W g hsh l16 yL runsn1
 · exact bound_walk n 2 hn p hp h false W g hsh l16 yL runsn2
 · exact bound_walk n 0 hn p hp h true W g hsh l16 yL runsi0
 · exact bound_walk n 1 hn p hp h true W g hsh l16 yL runsi1
 · exact bound_walk n 2 hn p hp h true W g hsh l16 yL runsi2
end SX
open Go.RowKit
set_option linter.unusedVariables false
set_option maxRecDepth 1000000 in
theorem bound_lst:SX.Lst Rows.topBoundRow.laid:=by
 refine ⟨?_,?_,?_,?_,?_⟩<;>simp [Rows.topBoundRow]
set_option maxRecDepth 1000000 in
theorem walk_TopBound (a0:Int) (w0:(Lit.int .u16 a0).wf=true) (a1:Int) (w1:(Lit.int .u8 a1).wf=true) (a2:Bool) {W:World} (hsh:W.ShapedOpen Tryz.prog) (hL:laidMetH Tryz.prog Rows.topBoundRow.laid W) :
 Calls Tryz.prog 3 #[.int .u16 a0,.int .u8 a1,.bool a2] W fun e W'=>e=.returned (.bool true)∧Below W.heap.size W W':=by
 have g:=SX.glb_of hsh hL bound_lst
 have h0:=RowK.wf_u16 w0
 have h1:=RowK.wf_u8 w1
 obtain ⟨n,rfl⟩:∃ n:Nat,a0=(n:Int):=⟨a0.toNat,by omega⟩
 obtain ⟨p,rfl⟩:∃ p:Nat,a1=(p:Int):=⟨a1.toNat,by omega⟩
 exact SX.bound_any n p (by omega) (by omega) a2 W g
end Go.Proofs.YtdebnbgjgkbmaaaGreatDoor
namespace Go.Proofs.YtdebnbgjgkbmaaaGreatDoor.Wit9d6a22
set_option maxRecDepth 100000
noncomputable def laidWorld (os:Os):World:=
 { World.holding Tryz.prog os ⟨#[],#[],[]⟩ with heap:=(((((((((((((World.holding Tryz.prog os ⟨#[],#[],[]⟩).heap).modify 5 fun
   | .cells _ t frozen=>.cells #[.int .u8 0,.int .u8 1,.int .u8 28,.int .u8 2,.int .u8 29,.int .u8 14,.int .u8 24,.int .u8 3,.int .u8 30,.int .u8 22,.int .u8 20,.int .u8 15,.int .u8 25,.int .u8 17,.int .u8 4,.int .u8 8,.int .u8 31,.int .u8 27,.int .u8 13,.int .u8 23,.int .u8 21,.int .u8 19,.int .u8 16,.int .u8 7,.int .u8 26,.int .u8 12,.int .u8 18,.int .u8 6,.int .u8 11,.int .u8 5,.int .u8 10,.int .u8 9] t frozen
   | o=>o)).modify 6 fun
   | .cells _ t frozen=>.cells #[.int .u8 0,.int .u8 1,.int .u8 56,.int .u8 2,.int .u8 57,.int .u8 49,.int .u8 28,.int .u8 3,.int .u8 61,.int .u8 58,.int .u8 42,.int .u8 50,.int .u8 38,.int .u8 29,.int .u8 17,.int .u8 4,.int .u8 62,.int .u8 47,.int .u8 59,.int .u8 36,.int .u8 45,.int .u8 43,.int .u8 51,.int .u8 22,.int .u8 53,.int .u8 39,.int .u8 33,.int .u8 30,.int .u8 24,.int .u8 18,.int .u8 12,.int .u8 5,.int .u8 63,.int .u8 55,.int .u8 48,.int .u8 27,.int .u8 60,.int .u8 41,.int .u8 37,.int .u8 16,.int .u8 46,.int .u8 35,.int .u8 44,.int .u8 21,.int .u8 52,.int .u8 32,.int .u8 23,.int .u8 11,.int .u8 54,.int .u8 26,.int .u8 40,.int .u8 15,.int .u8 34,.int .u8 20,.int .u8 31,.int .u8 10,.int .u8 25,.int .u8 14,.int .u8 19,.int .u8 9,.int .u8 13,.int .u8 8,.int .u8 7,.int .u8 6] t frozen
   | o=>o)).modify 0 fun
   | .cells _ t frozen=>.cells #[.int .u32 1779033703,.int .u32 3144134277,.int .u32 1013904242,.int .u32 2773480762,.int .u32 1359893119,.int .u32 2600822924,.int .u32 528734635,.int .u32 1541459225] t frozen
   | o=>o)).modify 4 fun
   | .cells _ t frozen=>.cells #[.int .u32 1116352408,.int .u32 1899447441,.int .u32 3049323471,.int .u32 3921009573,.int .u32 961987163,.int .u32 1508970993,.int .u32 2453635748,.int .u32 2870763221,.int .u32 3624381080,.int .u32 310598401,.int .u32 607225278,.int .u32 1426881987,.int .u32 1925078388,.int .u32 2162078206,.int .u32 2614888103,.int .u32 3248222580,.int .u32 3835390401,.int .u32 4022224774,.int .u32 264347078,.int .u32 604807628,.int .u32 770255983,.int .u32 1249150122,.int .u32 1555081692,.int .u32 1996064986,.int .u32 2554220882,.int .u32 2821834349,.int .u32 2952996808,.int .u32 3210313671,.int .u32 3336571891,.int .u32 3584528711,.int .u32 113926993,.int .u32 338241895,.int .u32 666307205,.int .u32 773529912,.int .u32 1294757372,.int .u32 1396182291,.int .u32 1695183700,.int .u32 1986661051,.int .u32 2177026350,.int .u32 2456956037,.int .u32 2730485921,.int .u32 2820302411,.int .u32 3259730800,.int .u32 3345764771,.int .u32 3516065817,.int .u32 3600352804,.int .u32 4094571909,.int .u32 275423344,.int .u32 430227734,.int .u32 506948616,.int .u32 659060556,.int .u32 883997877,.int .u32 958139571,.int .u32 1322822218,.int .u32 1537002063,.int .u32 1747873779,.int .u32 1955562222,.int .u32 2024104815,.int .u32 2227730452,.int .u32 2361852424,.int .u32 2428436474,.int .u32 2756734187,.int .u32 3204031479,.int .u32 3329325298] t frozen
   | o=>o)).modify 7 fun
   | .cells _ t frozen=>.cells #[.int .i64 3,.int .i64 4,.int .i64 1,.int .i64 2,.int .i64 0,.int .i64 1,.int .i64 2,.int .i64 3,.int .i64 4,.int .i64 0,.int .i64 1,.int .i64 2,.int .i64 3,.int .i64 4,.int .i64 0,.int .i64 3,.int .i64 4,.int .i64 1,.int .i64 2,.int .i64 0] t frozen
   | o=>o)).modify 3 fun
   | .cells _ t frozen=>.cells #[.int .i64 1,.int .i64 7,.int .i64 3,.int .i64 5] t frozen
   | o=>o) }
theorem vars (os:Os) (args:Array Value):((laidWorld os).forCall (fun _ _=>0) ⟨#[],args,[]⟩).variablesB Tryz.checked.prog=true:=by kernel_rfl
theorem rest (os:Os) (args:Array Value):(((laidWorld os).forCall (fun _ _=>0) ⟨#[],args,[]⟩).heap.toList.drop Tryz.checked.prog.globals.size).take ((begin Tryz.checked.prog (fun _ _=>0) default).world.heap.size-Tryz.checked.prog.globals.size) =
 (begin Tryz.checked.prog (fun _ _=>0) default).world.heap.toList.drop Tryz.checked.prog.globals.size:=by kernel_rfl
def laid:List (String × DataW Unit):=[("math/bits.deBruijn32tab",Rows.laid_math_bits_deBruijn32tab),("math/bits.deBruijn64tab",Rows.laid_math_bits_deBruijn64tab),("remitter/digest.begin",Rows.laid_remitter_digest_begin),("remitter/digest.table",Rows.laid_remitter_digest_table),("remitter/htlc.events",Rows.laid_remitter_htlc_events),("remitter/htlc.spans",Rows.laid_remitter_htlc_spans)]
theorem met (os:Os) (args:Array Value):laidMet Tryz.prog laid ((laidWorld os).forCall (fun _ _=>0) ⟨#[],args,[]⟩).memory:=
 laidMet_of_run' 8 (by kernel_rfl) (by kernel_rfl)
end Go.Proofs.YtdebnbgjgkbmaaaGreatDoor.Wit9d6a22
