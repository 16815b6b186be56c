import Derived.ArgAppend
import Derived.Below
import Derived.BigQuiet
import Derived.Calls
import Derived.ChangeKeysEq
import Derived.ChangeOld
import Derived.Deep.AppendLies
import Derived.Deep.AppendSrc
import Derived.Deep.DeepHandedRow
import Derived.Deep.LoopGhost
import Derived.Deep.MidRow
import Derived.Deep.Onto
import Derived.Deep.QuietTactic
import Derived.Deep.RegionHeld3
import Derived.Deep.RegionWith
import Derived.Deep.WholeRow
import Derived.DeepKeys
import Derived.DeepKeys3
import Derived.DeepKeys4
import Derived.Defers
import Derived.KernelRfl
import Derived.Laws.AppendOwn
import Derived.Laws.Bits64b
import Derived.Laws.BitsAllLaws
import Derived.Laws.BytesArg
import Derived.Laws.BytesString
import Derived.Laws.EntriesVeiled
import Derived.Laws.MakeOwn
import Derived.Laws.OwnMore
import Derived.Laws.Rows
import Derived.Laws.Tables
import Derived.Lib.BufferWrite
import Derived.Lib.Builder
import Derived.Lib.ConvBytes
import Derived.Lib.FrozenHead2
import Derived.Lib.Hide
import Derived.Lib.LaidTab
import Derived.Lib.Mul64
import Derived.Lib.SlFresh
import Derived.Lib.Strings
import Derived.Lib.TrailingZeros
import Derived.Lib.UnsafeStr
import Derived.LoopIn
import Derived.LoopNIn
import Derived.Maps.Keyed
import Derived.OpenShut
import Derived.Orders
import Derived.Outline
import Derived.OwnWalk
import Derived.OwnWalkIn
import Derived.ProofKit
import Derived.RangeFuncBound
import Derived.RangeFuncCalls
import Derived.RangeFuncFrom
import Derived.RangeFuncLeaves
import Derived.RangeFuncNested
import Derived.Recover
import Derived.Shelf.Abstract
import Derived.Shelf.RegionOpen
import Derived.Shelf.RegionOpenPlain
import Derived.Shelf.Spec.SlicesInsert
import Derived.Shelf.Strings.OnBuilder
import Derived.ShutString
import Derived.StillTailTactics
import Derived.TacticsInMore
import Derived.Test.YtdebnbgjgkbmaaaGreatDoorProg
import Derived.Test.YtdebnbgjgkbmaaaGreatDoorRows
import Derived.WalkKit
import Derived.WalkLawsBesides
import Derived.WalkSpells
import Derived.Test.YtdebnbgjgkbmaaaGreatDoorKB5
import Derived.Test.YtdebnbgjgkbmaaaGreatDoorKBe
namespace Go.Proofs.YtdebnbgjgkbmaaaGreatDoor
namespace SX
open Go Go.RowKit
set_option linter.unusedVariables false
set_option maxRecDepth 1000000
noncomputable def ziJ (k:Nat):SS:=dif (zi28 k) [(10,(qI 30)),(13,qTp),(2,(qI 30))] [16,17,18,19,20,21,22,23,24,25,26,29,30,31,32,33,34,35,36,37,40,41,42,43,44,45,46,47,48,51,52,53,54,55,56,57,58,59,61,68,69,70,71,73,80,81,82,83,93,94,95,96,98,105,106,107,108,118,119,120,121,123,130,131,132,133,135,252,4951,5097,5962,6093,6239,6697,6858,6954,7028,7154,7423,7519] [(16,cC [(0,(qS []))]),
 (68,cC [(39,qF),(5,qTu),(0,qTu),(0,(.slice none 0 0)),(34,qT),(0,(qI 65534)),(0,(qB 147)),(0,(qB 50)),(0,(qB 44)),(0,(qB 176)),(0,(qB 234)),(0,(qB 50)),(0,(qB 226)),(0,(qB 88)),(0,(qB 96)),(0,(qB 179)),(0,(qB 197)),(0,(qB 238)),(0,(qB 29)),(0,(qB 86)),(0,(qB 108)),(0,(qB 206)),(0,(qB 57)),(0,(qB 247)),(0,(qB 68)),(0,(qB 183)),(0,(qB 147)),(0,(qB 29)),(0,(qB 139)),(0,(qB 154)),(0,(qB 246)),(0,(qB 211)),(0,(qB 17)),(0,(qB 85)),(0,(qB 87)),(0,(qB 171)),(0,(qB 249)),(0,(qB 169))]),
 (69,cC [(1,(qL 7519 0 365 1)),(0,(qI 8))]),
 (71,cC [(5,(qI 30))]),
 (80,cC [(45,qTu),(0,qTu)]),
 (83,cC [(5,(qI 30))]),
 (96,cC [(5,(qI 30))]),
 (108,cC [(5,(qI 30))]),
 (121,cC [(5,(qI 30))]),
 (133,cC [(5,(qI 30))]),
 (252,cC [(45,qTu)]),
 (7519,cN (.cells ((qR 365 qTop))))] 7520
theorem yiJ_0:okS qSm 29 345 (ziJ 0) (iterF fL 2 (mkT (zi28 0).vs) (mkH (zi28 0).kp (zi28 0).bs) (zi28 0).nx)=true:=by kernel_rfl
theorem yiJ_1:okS qSm 29 345 (ziJ 1) (iterF fL 2 (mkT (zi28 1).vs) (mkH (zi28 1).kp (zi28 1).bs) (zi28 1).nx)=true:=by kernel_rfl
theorem yiJ_2:okS qSm 29 345 (ziJ 2) (iterF fL 2 (mkT (zi28 2).vs) (mkH (zi28 2).kp (zi28 2).bs) (zi28 2).nx)=true:=by kernel_rfl
noncomputable def ziK (k:Nat):SS:=dif (ziJ k) [(10,(qVt 30 3 49)),(16,(qVt 30 3 49))] [16,17,18,19,20,21,22,23,24,25,26,29,30,31,32,33,34,35,36,37,40,41,42,43,44,45,46,47,48,51,52,53,54,55,56,57,58,59,61,68,69,70,71,73,80,81,82,83,93,94,95,96,98,105,106,107,108,118,119,120,121,123,130,131,132,133,135,252,4951,5097,5962,6093,6239,6697,6858,6954,7028,7154,7423,7519] [(71,cC [(5,(qVt 30 3 49))]),
 (83,cC [(5,(qVt 30 3 49))]),
 (96,cC [(5,(qVt 30 3 49))]),
 (108,cC [(5,(qVt 30 3 49))]),
 (121,cC [(5,(qVt 30 3 49))]),
 (133,cC [(5,(qVt 30 3 49))])] 7520
noncomputable def ziE (k:Nat):SS:=dif (ziJ k) [(10,(qI 180)),(16,(qI 180))] [16,17,18,19,20,21,22,23,24,25,26,29,30,31,32,33,34,35,36,37,40,41,42,43,44,45,46,47,48,51,52,53,54,55,56,57,58,59,61,68,69,70,71,73,80,81,82,83,93,94,95,96,98,105,106,107,108,118,119,120,121,123,130,131,132,133,135,252,4951,5097,5962,6093,6239,6697,6858,6954,7028,7154,7423,7519] [(71,cC [(5,(qI 180))]),
 (83,cC [(5,(qI 180))]),
 (96,cC [(5,(qI 180))]),
 (108,cC [(5,(qI 180))]),
 (121,cC [(5,(qI 180))]),
 (133,cC [(5,(qI 180))])] 7520
noncomputable def ziF (k:Nat):SS:={ ziE k with vs:=[] }
noncomputable def ziG (k:Nat):SS:=⟨[],[],[],(ziF k).nx⟩
theorem yiK_0:okS (qLn 0) 29 345 (ziK 0) (stay (ziJ 0))=true:=by kernel_rfl
theorem yiS_0:okS (qSh 49) 29 345 (ziK 0) (it3 (ziK 0))=true:=by kernel_rfl
theorem yiD_0:okS (qPk 49) 29 345 (ziE 0) (it3 (ziK 0))=true:=by kernel_rfl
theorem yiE_0:endOk 345 (ziE 0) (ziF 0)=true:=by kernel_rfl
theorem yiG_0:okR qSm 345 (ziG 0) (anS 2) (cl1 18 [qP 17 0,rqS] (mkH (ziF 0).kp (ziF 0).bs) (ziF 0).nx)=true:=by kernel_rfl
theorem yiK_1:okS (qLn 0) 29 345 (ziK 1) (stay (ziJ 1))=true:=by kernel_rfl
theorem yiS_1:okS (qSh 49) 29 345 (ziK 1) (it3 (ziK 1))=true:=by kernel_rfl
theorem yiD_1:okS (qPk 49) 29 345 (ziE 1) (it3 (ziK 1))=true:=by kernel_rfl
theorem yiE_1:endOk 345 (ziE 1) (ziF 1)=true:=by kernel_rfl
theorem yiG_1:okR qSm 345 (ziG 1) (anS 2) (cl1 18 [qP 17 0,rqS] (mkH (ziF 1).kp (ziF 1).bs) (ziF 1).nx)=true:=by kernel_rfl
theorem yiK_2:okS (qLn 0) 29 345 (ziK 2) (stay (ziJ 2))=true:=by kernel_rfl
theorem yiS_2:okS (qSh 49) 29 345 (ziK 2) (it3 (ziK 2))=true:=by kernel_rfl
theorem yiD_2:okS (qPk 49) 29 345 (ziE 2) (it3 (ziK 2))=true:=by kernel_rfl
theorem yiE_2:endOk 345 (ziE 2) (ziF 2)=true:=by kernel_rfl
theorem yiG_2:okR qSm 345 (ziG 2) (anS 2) (cl1 18 [qP 17 0,rqS] (mkH (ziF 2).kp (ziF 2).bs) (ziF 2).nx)=true:=by kernel_rfl
end SX
end Go.Proofs.YtdebnbgjgkbmaaaGreatDoor
