import Derived.ArgAppend
import Derived.Below
import Derived.BigQuiet
import Derived.Calls
import Derived.ChangeKeysEq
import Derived.ChangeOld
import Derived.Deep.AppendLies
import Derived.Deep.AppendSrc
import Derived.Deep.DeepHandedRow
import Derived.Deep.LoopGhost
import Derived.Deep.MidRow
import Derived.Deep.Onto
import Derived.Deep.QuietTactic
import Derived.Deep.RegionHeld3
import Derived.Deep.RegionWith
import Derived.Deep.WholeRow
import Derived.DeepKeys
import Derived.DeepKeys3
import Derived.DeepKeys4
import Derived.Defers
import Derived.KernelRfl
import Derived.Laws.AppendOwn
import Derived.Laws.Bits64b
import Derived.Laws.BitsAllLaws
import Derived.Laws.BytesArg
import Derived.Laws.BytesString
import Derived.Laws.EntriesVeiled
import Derived.Laws.MakeOwn
import Derived.Laws.OwnMore
import Derived.Laws.Rows
import Derived.Laws.Tables
import Derived.Lib.BufferWrite
import Derived.Lib.Builder
import Derived.Lib.ConvBytes
import Derived.Lib.FrozenHead2
import Derived.Lib.Hide
import Derived.Lib.LaidTab
import Derived.Lib.Mul64
import Derived.Lib.SlFresh
import Derived.Lib.Strings
import Derived.Lib.TrailingZeros
import Derived.Lib.UnsafeStr
import Derived.LoopIn
import Derived.LoopNIn
import Derived.Maps.Keyed
import Derived.OpenShut
import Derived.Orders
import Derived.Outline
import Derived.OwnWalk
import Derived.OwnWalkIn
import Derived.ProofKit
import Derived.RangeFuncBound
import Derived.RangeFuncCalls
import Derived.RangeFuncFrom
import Derived.RangeFuncLeaves
import Derived.RangeFuncNested
import Derived.Recover
import Derived.Shelf.Abstract
import Derived.Shelf.RegionOpen
import Derived.Shelf.RegionOpenPlain
import Derived.Shelf.Spec.SlicesInsert
import Derived.Shelf.Strings.OnBuilder
import Derived.ShutString
import Derived.StillTailTactics
import Derived.TacticsInMore
import Derived.Test.YtdebnbgjgkbmaaaGreatDoorProg
import Derived.Test.YtdebnbgjgkbmaaaGreatDoorRows
import Derived.WalkKit
import Derived.WalkLawsBesides
import Derived.WalkSpells
import Derived.Test.YtdebnbgjgkbmaaaGreatDoorKB5
import Derived.Test.YtdebnbgjgkbmaaaGreatDoorKBi
namespace Go.Proofs.YtdebnbgjgkbmaaaGreatDoor
namespace SX
open Go Go.RowKit
set_option linter.unusedVariables false
set_option maxRecDepth 1000000
noncomputable def znJ (k:Nat):SS:=dif (zn40 k) [(10,(qI 42)),(13,qTp),(2,(qI 42))] [16,17,18,19,20,21,22,23,24,25,26,29,30,31,32,33,34,35,36,37,40,41,42,43,44,45,46,47,48,51,52,53,54,55,56,57,58,59,61,68,69,70,71,73,80,81,82,83,93,94,95,96,98,105,106,107,108,118,119,120,121,123,130,131,132,133,135,235,4798,5291,5504,5600,5935,6426,6667,6763,7068,7557,7826,7922] [(71,cC [(5,(qI 42))]),
 (83,cC [(5,(qI 42))]),
 (96,cC [(5,(qI 42))]),
 (108,cC [(5,(qI 42))]),
 (121,cC [(5,(qI 42))]),
 (133,cC [(5,(qI 42))]),
 (235,cC [(39,qTu)])] 7923
theorem ynJ_0:okS qSm 29 328 (znJ 0) (iterF fL 2 (mkT (zn40 0).vs) (mkH (zn40 0).kp (zn40 0).bs) (zn40 0).nx)=true:=by kernel_rfl
theorem ynJ_1:okS qSm 29 328 (znJ 1) (iterF fL 2 (mkT (zn40 1).vs) (mkH (zn40 1).kp (zn40 1).bs) (zn40 1).nx)=true:=by kernel_rfl
theorem ynJ_2:okS qSm 29 328 (znJ 2) (iterF fL 2 (mkT (zn40 2).vs) (mkH (zn40 2).kp (zn40 2).bs) (zn40 2).nx)=true:=by kernel_rfl
noncomputable def znK (k:Nat):SS:=dif (znJ k) [(10,(qVt 42 3 45)),(16,(qVt 42 3 45))] [16,17,18,19,20,21,22,23,24,25,26,29,30,31,32,33,34,35,36,37,40,41,42,43,44,45,46,47,48,51,52,53,54,55,56,57,58,59,61,68,69,70,71,73,80,81,82,83,93,94,95,96,98,105,106,107,108,118,119,120,121,123,130,131,132,133,135,235,4798,5291,5504,5600,5935,6426,6667,6763,7068,7557,7826,7922] [(71,cC [(5,(qVt 42 3 45))]),
 (83,cC [(5,(qVt 42 3 45))]),
 (96,cC [(5,(qVt 42 3 45))]),
 (108,cC [(5,(qVt 42 3 45))]),
 (121,cC [(5,(qVt 42 3 45))]),
 (133,cC [(5,(qVt 42 3 45))])] 7923
noncomputable def znE (k:Nat):SS:=dif (znJ k) [(10,(qI 180)),(16,(qI 180))] [16,17,18,19,20,21,22,23,24,25,26,29,30,31,32,33,34,35,36,37,40,41,42,43,44,45,46,47,48,51,52,53,54,55,56,57,58,59,61,68,69,70,71,73,80,81,82,83,93,94,95,96,98,105,106,107,108,118,119,120,121,123,130,131,132,133,135,235,4798,5291,5504,5600,5935,6426,6667,6763,7068,7557,7826,7922] [(71,cC [(5,(qI 180))]),
 (83,cC [(5,(qI 180))]),
 (96,cC [(5,(qI 180))]),
 (108,cC [(5,(qI 180))]),
 (121,cC [(5,(qI 180))]),
 (133,cC [(5,(qI 180))])] 7923
noncomputable def znF (k:Nat):SS:={ znE k with vs:=[] }
noncomputable def znG (k:Nat):SS:=⟨[],[],[],(znF k).nx⟩
theorem ynK_0:okS (qLn 0) 29 328 (znK 0) (stay (znJ 0))=true:=by kernel_rfl
theorem ynS_0:okS (qSh 45) 29 328 (znK 0) (it3 (znK 0))=true:=by kernel_rfl
theorem ynD_0:okS (qPk 45) 29 328 (znE 0) (it3 (znK 0))=true:=by kernel_rfl
theorem ynE_0:endOk 328 (znE 0) (znF 0)=true:=by kernel_rfl
theorem ynG_0:okR qSm 328 (znG 0) (anS 3) (cl1 18 [qP 17 0,rqS] (mkH (znF 0).kp (znF 0).bs) (znF 0).nx)=true:=by kernel_rfl
theorem ynK_1:okS (qLn 0) 29 328 (znK 1) (stay (znJ 1))=true:=by kernel_rfl
theorem ynS_1:okS (qSh 45) 29 328 (znK 1) (it3 (znK 1))=true:=by kernel_rfl
theorem ynD_1:okS (qPk 45) 29 328 (znE 1) (it3 (znK 1))=true:=by kernel_rfl
theorem ynE_1:endOk 328 (znE 1) (znF 1)=true:=by kernel_rfl
theorem ynG_1:okR qSm 328 (znG 1) (anS 3) (cl1 18 [qP 17 0,rqS] (mkH (znF 1).kp (znF 1).bs) (znF 1).nx)=true:=by kernel_rfl
theorem ynK_2:okS (qLn 0) 29 328 (znK 2) (stay (znJ 2))=true:=by kernel_rfl
theorem ynS_2:okS (qSh 45) 29 328 (znK 2) (it3 (znK 2))=true:=by kernel_rfl
theorem ynD_2:okS (qPk 45) 29 328 (znE 2) (it3 (znK 2))=true:=by kernel_rfl
theorem ynE_2:endOk 328 (znE 2) (znF 2)=true:=by kernel_rfl
theorem ynG_2:okR qSm 328 (znG 2) (anS 3) (cl1 18 [qP 17 0,rqS] (mkH (znF 2).kp (znF 2).bs) (znF 2).nx)=true:=by kernel_rfl
end SX
end Go.Proofs.YtdebnbgjgkbmaaaGreatDoor
