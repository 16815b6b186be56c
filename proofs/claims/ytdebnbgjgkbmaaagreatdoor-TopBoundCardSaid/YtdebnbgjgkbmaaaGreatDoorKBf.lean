import Derived.ArgAppend
import Derived.Below
import Derived.BigQuiet
import Derived.Calls
import Derived.ChangeKeysEq
import Derived.ChangeOld
import Derived.Deep.AppendLies
import Derived.Deep.AppendSrc
import Derived.Deep.DeepHandedRow
import Derived.Deep.LoopGhost
import Derived.Deep.MidRow
import Derived.Deep.Onto
import Derived.Deep.QuietTactic
import Derived.Deep.RegionHeld3
import Derived.Deep.RegionWith
import Derived.Deep.WholeRow
import Derived.DeepKeys
import Derived.DeepKeys3
import Derived.DeepKeys4
import Derived.Defers
import Derived.KernelRfl
import Derived.Laws.AppendOwn
import Derived.Laws.Bits64b
import Derived.Laws.BitsAllLaws
import Derived.Laws.BytesArg
import Derived.Laws.BytesString
import Derived.Laws.EntriesVeiled
import Derived.Laws.MakeOwn
import Derived.Laws.OwnMore
import Derived.Laws.Rows
import Derived.Laws.Tables
import Derived.Lib.BufferWrite
import Derived.Lib.Builder
import Derived.Lib.ConvBytes
import Derived.Lib.FrozenHead2
import Derived.Lib.Hide
import Derived.Lib.LaidTab
import Derived.Lib.Mul64
import Derived.Lib.SlFresh
import Derived.Lib.Strings
import Derived.Lib.TrailingZeros
import Derived.Lib.UnsafeStr
import Derived.LoopIn
import Derived.LoopNIn
import Derived.Maps.Keyed
import Derived.OpenShut
import Derived.Orders
import Derived.Outline
import Derived.OwnWalk
import Derived.OwnWalkIn
import Derived.ProofKit
import Derived.RangeFuncBound
import Derived.RangeFuncCalls
import Derived.RangeFuncFrom
import Derived.RangeFuncLeaves
import Derived.RangeFuncNested
import Derived.Recover
import Derived.Shelf.Abstract
import Derived.Shelf.RegionOpen
import Derived.Shelf.RegionOpenPlain
import Derived.Shelf.Spec.SlicesInsert
import Derived.Shelf.Strings.OnBuilder
import Derived.ShutString
import Derived.StillTailTactics
import Derived.TacticsInMore
import Derived.Test.YtdebnbgjgkbmaaaGreatDoorProg
import Derived.Test.YtdebnbgjgkbmaaaGreatDoorRows
import Derived.WalkKit
import Derived.WalkLawsBesides
import Derived.WalkSpells
import Derived.Test.YtdebnbgjgkbmaaaGreatDoorKB5
namespace Go.Proofs.YtdebnbgjgkbmaaaGreatDoor
namespace SX
open Go Go.RowKit
set_option linter.unusedVariables false
set_option maxRecDepth 1000000
noncomputable def zPn (k:Nat):SS:=dif (zLk k) [] [16,17,18,19,20,21,22,23,24,25,26,29,30,31,32,33,34,35,36,37,40,41,42,43,44,45,46,47,48,51,52,53,54,55,56,57,58,59,61,68,69,70,71,73,80,81,82,83,93,94,95,96,98,105,106,107,108,118,119,120,121,123,130,131,132,133,135,235,295,299,323] [(16,cC [(1,(t3 k (qVx 59 0x39030000000100000000000000000000000000000066cf92c199ee91fe28fa74803b03340ecd8eeecff9b766e13da6b0fd4eeefaf51d00000032 0x1000000000000000000000000000000000000000000000000000000000000000000000000) (qVx 59 0x390300000001000000000000000000000000000000caef9a754cb60d65fd734a0cb79b4632adbbda440da25ff3a53ec4be04209e2ae100000032 0x1000000000000000000000000000000000000000000000000000000000000000000000000) (qVx 59 0x3903000000010000000000000000000000000000012e4ece49efe066372fadad2210b9a4c365a82fd7b401acce418be52f0f5c87d11400000032 0x1000000000000000000000000000000000000000000000000000000000000000000000000)))]),
 (17,cC [(2,(qL 235 0 7 6))]),
 (24,cN (.map [((.agg ⟨[(qI 0),(qU 0)]⟩),(.agg ⟨List.append [(qI 1)] (qR 32 (qB 0))⟩))])),
 (68,cC [(40,(qU 1)),(4,(t3 k (qVd 524186) (qVd 524086) (qVd 523986))),(1,(qL 295 0 1 38)),(578,(qL 299 0 1 38))]),
 (69,cC [(0,(qP 69 0)),(0,(qL 323 0 59 1)),(0,(qI 1))]),
 (235,cN (.cells ([(qI 2),(qI 1),(qI 1),(qU 100),(qB 0),(qI 30),(qI 2),(qI 2),(qI 1),(qU 98),(qB 0),(qI 20),(qI 2),(qI 1),(qI 1),(qU 200),(qB 1),(qI 30),(qI 2),(qI 2),(qI 1),(qU 198),(qB 1),(qI 20),(qI 2),(qI 1),(qI 1),(qU 300),(qB 2),(qI 30),(qI 2),(qI 2),(qI 1),(qU 298),(qB 2),(qI 20),(qI 3),(qI 0),(qI 0),(qVu (ln k 102 100)),(qB (ln k 0 1)),(qI 50)]))),
 (295,cN (.cells (List.append [(qU 0),(qVu (ln k 102 100))] (List.append (hB k) [(qI 50),qT,(qI 0),qF])))),
 (299,cN (.cells (List.append [(qI 3),(qW 1),(qU 0),(qVu (ln k 102 100))] (List.append (hB k) [(qI 50),(qI 0)])))),
 (323,cN (.cells ((qR 59 qTop))))] 328
theorem yPn0:okR qSm zL.nx (zPn 0) anZ (cl1 18 [qP 17 0,rqP 0] (mkH (zLk 0).kp (zLk 0).bs) (zLk 0).nx)=true:=by kernel_rfl
theorem yPn1:okR qSm zL.nx (zPn 1) anZ (cl1 18 [qP 17 0,rqP 1] (mkH (zLk 1).kp (zLk 1).bs) (zLk 1).nx)=true:=by kernel_rfl
theorem yPn2:okR qSm zL.nx (zPn 2) anZ (cl1 18 [qP 17 0,rqP 2] (mkH (zLk 2).kp (zLk 2).bs) (zLk 2).nx)=true:=by kernel_rfl
end SX
end Go.Proofs.YtdebnbgjgkbmaaaGreatDoor
