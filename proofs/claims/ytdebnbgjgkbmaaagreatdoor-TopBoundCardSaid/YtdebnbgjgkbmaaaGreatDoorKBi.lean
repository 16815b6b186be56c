import Derived.ArgAppend
import Derived.Below
import Derived.BigQuiet
import Derived.Calls
import Derived.ChangeKeysEq
import Derived.ChangeOld
import Derived.Deep.AppendLies
import Derived.Deep.AppendSrc
import Derived.Deep.DeepHandedRow
import Derived.Deep.LoopGhost
import Derived.Deep.MidRow
import Derived.Deep.Onto
import Derived.Deep.QuietTactic
import Derived.Deep.RegionHeld3
import Derived.Deep.RegionWith
import Derived.Deep.WholeRow
import Derived.DeepKeys
import Derived.DeepKeys3
import Derived.DeepKeys4
import Derived.Defers
import Derived.KernelRfl
import Derived.Laws.AppendOwn
import Derived.Laws.Bits64b
import Derived.Laws.BitsAllLaws
import Derived.Laws.BytesArg
import Derived.Laws.BytesString
import Derived.Laws.EntriesVeiled
import Derived.Laws.MakeOwn
import Derived.Laws.OwnMore
import Derived.Laws.Rows
import Derived.Laws.Tables
import Derived.Lib.BufferWrite
import Derived.Lib.Builder
import Derived.Lib.ConvBytes
import Derived.Lib.FrozenHead2
import Derived.Lib.Hide
import Derived.Lib.LaidTab
import Derived.Lib.Mul64
import Derived.Lib.SlFresh
import Derived.Lib.Strings
import Derived.Lib.TrailingZeros
import Derived.Lib.UnsafeStr
import Derived.LoopIn
import Derived.LoopNIn
import Derived.Maps.Keyed
import Derived.OpenShut
import Derived.Orders
import Derived.Outline
import Derived.OwnWalk
import Derived.OwnWalkIn
import Derived.ProofKit
import Derived.RangeFuncBound
import Derived.RangeFuncCalls
import Derived.RangeFuncFrom
import Derived.RangeFuncLeaves
import Derived.RangeFuncNested
import Derived.Recover
import Derived.Shelf.Abstract
import Derived.Shelf.RegionOpen
import Derived.Shelf.RegionOpenPlain
import Derived.Shelf.Spec.SlicesInsert
import Derived.Shelf.Strings.OnBuilder
import Derived.ShutString
import Derived.StillTailTactics
import Derived.TacticsInMore
import Derived.Test.YtdebnbgjgkbmaaaGreatDoorProg
import Derived.Test.YtdebnbgjgkbmaaaGreatDoorRows
import Derived.WalkKit
import Derived.WalkLawsBesides
import Derived.WalkSpells
import Derived.Test.YtdebnbgjgkbmaaaGreatDoorKB5
import Derived.Test.YtdebnbgjgkbmaaaGreatDoorKBh
namespace Go.Proofs.YtdebnbgjgkbmaaaGreatDoor
namespace SX
open Go Go.RowKit
set_option linter.unusedVariables false
set_option maxRecDepth 1000000
noncomputable def zn28 (k:Nat):SS:=dif (zn24 k) [(10,(qI 28)),(13,(qL 6273 0 2 1)),(2,(qI 28))] [16,17,18,19,20,21,22,23,24,25,26,29,30,31,32,33,34,35,36,37,40,41,42,43,44,45,46,47,48,51,52,53,54,55,56,57,58,59,61,68,69,70,71,73,80,81,82,83,93,94,95,96,98,105,106,107,108,118,119,120,121,123,130,131,132,133,135,235,591,1215,1496,1526,1581,1605,2017,4798,5291,5504,5600,5935,6133,6163,6223,6247,6273] [(16,cC [(5,(qS []))]),
 (40,cN (.map [])),
 (41,cN (.map [])),
 (71,cC [(5,(qI 28))]),
 (83,cC [(5,(qI 28))]),
 (93,cC [(38,(qI 2)),(8,(qL 6133 0 1 38))]),
 (94,cC [(1,(qL 6163 0 266 1)),(0,(qI 6))]),
 (96,cC [(5,(qI 28))]),
 (105,cC [(37,(qI 2)),(9,(qL 6223 0 1 38)),(34,qT),(0,(qI 65534)),(0,(qB 172)),(0,(qB 219)),(0,(qB 236)),(0,(qB 16)),(0,(qB 146)),(0,(qB 77)),(0,(qB 103)),(0,(qB 42)),(0,(qB 29)),(0,(qB 2)),(0,(qB 145)),(0,(qB 66)),(0,(qB 195)),(0,(qB 96)),(0,(qB 197)),(0,(qB 194)),(0,(qB 166)),(0,(qB 128)),(0,(qB 64)),(0,(qB 210)),(0,(qB 255)),(0,(qB 82)),(0,(qB 1)),(0,(qB 213)),(0,(qB 198)),(0,(qB 193)),(0,(qB 31)),(0,(qB 145)),(0,(qB 208)),(0,(qB 168)),(0,(qB 255)),(0,(qB 72)),(511,(qL 5935 0 2 38))]),
 (106,cC [(1,(qL 6247 0 289 1)),(0,(qI 7))]),
 (108,cC [(5,(qI 28))]),
 (118,cC [(39,qF),(5,(qU 524288)),(1,(.slice none 0 0)),(34,qT),(0,(qI 65534)),(0,(qB 169)),(0,(qB 250)),(0,(qB 76)),(0,(qB 60)),(0,(qB 248)),(0,(qB 226)),(0,(qB 27)),(0,(qB 92)),(0,(qB 189)),(0,(qB 160)),(0,(qB 251)),(0,(qB 6)),(0,(qB 153)),(0,(qB 14)),(0,(qB 88)),(0,(qB 62)),(0,(qB 109)),(0,(qB 80)),(0,(qB 92)),(0,(qB 54)),(0,(qB 38)),(0,(qB 219)),(0,(qB 183)),(0,(qB 57)),(0,(qB 144)),(0,(qB 14)),(0,(qB 120)),(0,(qB 133)),(0,(qB 18)),(0,(qB 93)),(0,(qB 14)),(0,(qB 49))]),
 (119,cC [(1,(qL 5600 0 335 1)),(0,(qI 8))]),
 (121,cC [(5,(qI 28))]),
 (130,cC [(38,(qI 2)),(5,qT),(1,(qU 524288)),(0,(.slice none 0 0))]),
 (131,cC [(1,(qL 5504 0 343 1)),(0,(qI 8))]),
 (133,cC [(5,(qI 28))]),
 (5504,cN (.cells ((qR 343 qTop)))),
 (5600,cN (.cells ((qR 335 qTop)))),
 (5935,cN (.cells (List.append [(qI 5),(qW 2),(qU 0),(qU 0)] (List.append (qR 32 (qB 0)) (List.append [(qI 0),(qI 3),(qI 6),(qW 2),(qU 0),(qU 0)] (List.append (qBs [128,48,170,48,46,152,22,215,253,45,82,16,46,176,57,207,67,201,40,248,32,76,92,9,148,47,50,231,234,127,252,191]) [(qI 0),(qI 2)])))))),
 (6133,cN (.cells (List.append [(qU 0),(qU (ln k 100 100))] (List.append (hB k) [(qI 30),qT,(qI 7),qF])))),
 (6163,cN (.cells ((qR 266 qTop)))),
 (6223,cN (.cells (List.append [(qU 0),(qU (ln k 100 100))] (List.append (hB k) [(qI 30),qF,(qI 7),qF])))),
 (6247,cN (.cells ((qR 289 qTop)))),
 (6273,cN (.cells ([(qI 0),(qI 0)])))] 6274
theorem yn28_0:okS qSm 29 328 (zn28 0) (iterF fL 4 (mkT (zn24 0).vs) (mkH (zn24 0).kp (zn24 0).bs) (zn24 0).nx)=true:=by kernel_rfl
theorem yn28_1:okS qSm 29 328 (zn28 1) (iterF fL 4 (mkT (zn24 1).vs) (mkH (zn24 1).kp (zn24 1).bs) (zn24 1).nx)=true:=by kernel_rfl
theorem yn28_2:okS qSm 29 328 (zn28 2) (iterF fL 4 (mkT (zn24 2).vs) (mkH (zn24 2).kp (zn24 2).bs) (zn24 2).nx)=true:=by kernel_rfl
noncomputable def zn32 (k:Nat):SS:=dif (zn28 k) [(10,(qI 32)),(13,(qL 6880 0 2 1)),(2,(qI 32))] [16,17,18,19,20,21,22,23,24,25,26,29,30,31,32,33,34,35,36,37,40,41,42,43,44,45,46,47,48,51,52,53,54,55,56,57,58,59,61,68,69,70,71,73,80,81,82,83,93,94,95,96,98,105,106,107,108,118,119,120,121,123,130,131,132,133,135,235,591,1215,1496,1526,1581,4798,5291,5504,5600,5935,6426,6667,6763,6840,6864,6880] [(16,cC [(0,(qX 17 0x000f050000000100000000000000000003))]),
 (29,cN (.map [])),
 (30,cN (.map [])),
 (71,cC [(5,(qI 32))]),
 (80,cC [(626,(qL 6840 0 1 38))]),
 (81,cC [(1,(qL 6864 0 220 1)),(0,(qI 5))]),
 (83,cC [(5,(qI 32))]),
 (93,cC [(37,(qI 2)),(6,qF),(0,(qU 524288)),(1,(.slice none 0 0)),(34,qT),(0,(qI 65534)),(0,(qB 14)),(0,(qB 171)),(0,(qB 52)),(0,(qB 142)),(0,(qB 11)),(0,(qB 69)),(0,(qB 236)),(0,(qB 46)),(0,(qB 247)),(0,(qB 143)),(0,(qB 16)),(0,(qB 211)),(0,(qB 254)),(0,(qB 254)),(0,(qB 99)),(0,(qB 210)),(0,(qB 11)),(0,(qB 102)),(0,(qB 53)),(0,(qB 221)),(0,(qB 133)),(0,(qB 53)),(0,(qB 8)),(0,(qB 175)),(0,(qB 160)),(0,(qB 152)),(0,(qB 22)),(0,(qB 34)),(0,(qB 144)),(0,(qB 254)),(0,(qB 23)),(0,(qB 84)),(511,(qL 6426 0 1 38))]),
 (94,cC [(1,(qL 6763 0 335 1)),(0,(qI 8))]),
 (96,cC [(5,(qI 32))]),
 (105,cC [(38,(qI 2)),(5,qT),(1,(qU 524288)),(0,(.slice none 0 0))]),
 (106,cC [(1,(qL 6667 0 343 1)),(0,(qI 8))]),
 (108,cC [(5,(qI 32))]),
 (121,cC [(5,(qI 32))]),
 (133,cC [(5,(qI 32))]),
 (1581,cC [(36,(qI 5))]),
 (6426,cN (.cells (List.append [(qI 6),(qW 2),(qU 0),(qU 0)] (List.append (qBs [168,129,179,136,162,67,182,101,182,62,219,233,82,246,69,117,99,236,60,177,248,175,36,125,109,72,230,134,146,169,169,184]) [(qI 0),(qI 2)])))),
 (6667,cN (.cells ((qR 343 qTop)))),
 (6763,cN (.cells ((qR 335 qTop)))),
 (6840,cN (.cells (List.append [(qI 5),(qW 1),(qU 0),(qU 0)] (List.append (qR 32 (qB 0)) [(qI 0),(qI 3)])))),
 (6864,cN (.cells ((qR 220 qTop)))),
 (6880,cN (.cells ([(qI 0),(qI 0)])))] 6881
theorem yn32_0:okS qSm 29 328 (zn32 0) (iterF fL 4 (mkT (zn28 0).vs) (mkH (zn28 0).kp (zn28 0).bs) (zn28 0).nx)=true:=by kernel_rfl
theorem yn32_1:okS qSm 29 328 (zn32 1) (iterF fL 4 (mkT (zn28 1).vs) (mkH (zn28 1).kp (zn28 1).bs) (zn28 1).nx)=true:=by kernel_rfl
theorem yn32_2:okS qSm 29 328 (zn32 2) (iterF fL 4 (mkT (zn28 2).vs) (mkH (zn28 2).kp (zn28 2).bs) (zn28 2).nx)=true:=by kernel_rfl
noncomputable def zn36 (k:Nat):SS:=dif (zn32 k) [(10,(qI 36)),(13,(qL 7670 0 2 1)),(2,(qI 36))] [16,17,18,19,20,21,22,23,24,25,26,29,30,31,32,33,34,35,36,37,40,41,42,43,44,45,46,47,48,51,52,53,54,55,56,57,58,59,61,68,69,70,71,73,80,81,82,83,93,94,95,96,98,105,106,107,108,118,119,120,121,123,130,131,132,133,135,235,4798,5291,5504,5600,5935,6426,6667,6763,7068,7384,7408,7474,7557,7581,7670] [(16,cC [(0,(qS [])),(0,(qX 41 0x0027060000000100025c95e30fc3bada829a30e054f5170c95b26426307bb2531006fda870fb1277cc))]),
 (68,cC [(37,(qI 2)),(0,(qI 2)),(0,qT),(4,qF),(2,(qL 7474 0 1 38)),(579,(qL 7557 0 1 38))]),
 (69,cC [(1,(qL 7581 0 281 1)),(0,(qI 7))]),
 (71,cC [(5,(qI 36))]),
 (80,cC [(37,(qI 2)),(9,(qL 7384 0 1 38)),(34,qT),(0,(qI 65534)),(0,(qB 83)),(0,(qB 30)),(0,(qB 15)),(0,(qB 189)),(0,(qB 160)),(0,(qB 53)),(0,(qB 17)),(0,(qB 158)),(0,(qB 82)),(0,(qB 23)),(0,(qB 52)),(0,(qB 207)),(0,(qB 62)),(0,(qB 182)),(0,(qB 203)),(0,(qB 162)),(0,(qB 169)),(0,(qB 82)),(0,(qB 40)),(0,(qB 138)),(0,(qB 90)),(0,(qB 5)),(0,(qB 130)),(0,(qB 174)),(0,(qB 53)),(0,(qB 157)),(0,(qB 247)),(0,(qB 47)),(0,(qB 248)),(0,(qB 199)),(0,(qB 135)),(0,(qB 196)),(510,(.slice none 0 0)),(0,(qL 7068 0 2 38))]),
 (81,cC [(1,(qL 7408 0 289 1)),(0,(qI 7))]),
 (83,cC [(5,(qI 36))]),
 (96,cC [(5,(qI 36))]),
 (108,cC [(5,(qI 36))]),
 (121,cC [(5,(qI 36))]),
 (133,cC [(5,(qI 36))]),
 (7068,cN (.cells (List.append [(qI 5),(qW 1),(qU 0),(qU 0)] (List.append (qR 32 (qB 0)) (List.append [(qI 0),(qI 3),(qI 6),(qW 1),(qU 0),(qU 0)] (List.append (qBs [96,133,171,113,45,12,35,184,218,204,186,64,45,70,60,36,149,223,116,198,36,108,79,224,59,238,252,238,109,23,252,140]) [(qI 0),(qI 2)])))))),
 (7384,cN (.cells (List.append [(qU 0),(qVu (ln k 102 100))] (List.append (hB k) [(qI 50),qF,(qI 7),qF])))),
 (7408,cN (.cells ((qR 289 qTop)))),
 (7474,cN (.cells (List.append [(qU 0),(qVu (ln k 102 100))] (List.append (hB k) [(qI 50),qT,(qI 8),qF])))),
 (7557,cN (.cells (List.append [(qI 6),(qW 1),(qU 0),(qU 0)] (List.append (qBs [92,149,227,15,195,186,218,130,154,48,224,84,245,23,12,149,178,100,38,48,123,178,83,16,6,253,168,112,251,18,119,204]) [(qI 0),(qI 2)])))),
 (7581,cN (.cells ((qR 281 qTop)))),
 (7670,cN (.cells ([(qI 0),(qI 0)])))] 7671
theorem yn36_0:okS qSm 29 328 (zn36 0) (iterF fL 4 (mkT (zn32 0).vs) (mkH (zn32 0).kp (zn32 0).bs) (zn32 0).nx)=true:=by kernel_rfl
theorem yn36_1:okS qSm 29 328 (zn36 1) (iterF fL 4 (mkT (zn32 1).vs) (mkH (zn32 1).kp (zn32 1).bs) (zn32 1).nx)=true:=by kernel_rfl
theorem yn36_2:okS qSm 29 328 (zn36 2) (iterF fL 4 (mkT (zn32 2).vs) (mkH (zn32 2).kp (zn32 2).bs) (zn32 2).nx)=true:=by kernel_rfl
noncomputable def zn40 (k:Nat):SS:=dif (zn36 k) [(10,(qI 40)),(13,(qL 8077 0 2 1)),(2,(qI 40))] [16,17,18,19,20,21,22,23,24,25,26,29,30,31,32,33,34,35,36,37,40,41,42,43,44,45,46,47,48,51,52,53,54,55,56,57,58,59,61,68,69,70,71,73,80,81,82,83,93,94,95,96,98,105,106,107,108,118,119,120,121,123,130,131,132,133,135,235,4798,5291,5504,5600,5935,6426,6667,6763,7068,7557,7826,7922,8077] [(16,cC [(1,(qS []))]),
 (24,cN (.map [((.agg ⟨[(qI 0),(qU 0)]⟩),(.agg ⟨List.append [(qI 3)] (qR 32 (qB 0))⟩))])),
 (68,cC [(39,qF),(5,(qU 524288)),(1,(.slice none 0 0)),(34,qT),(0,(qI 65534)),(0,(qB 147)),(0,(qB 50)),(0,(qB 44)),(0,(qB 176)),(0,(qB 234)),(0,(qB 50)),(0,(qB 226)),(0,(qB 88)),(0,(qB 96)),(0,(qB 179)),(0,(qB 197)),(0,(qB 238)),(0,(qB 29)),(0,(qB 86)),(0,(qB 108)),(0,(qB 206)),(0,(qB 57)),(0,(qB 247)),(0,(qB 68)),(0,(qB 183)),(0,(qB 147)),(0,(qB 29)),(0,(qB 139)),(0,(qB 154)),(0,(qB 246)),(0,(qB 211)),(0,(qB 17)),(0,(qB 85)),(0,(qB 87)),(0,(qB 171)),(0,(qB 249)),(0,(qB 169))]),
 (69,cC [(1,(qL 7922 0 335 1)),(0,(qI 8))]),
 (71,cC [(5,(qI 40))]),
 (80,cC [(38,(qI 2)),(5,qT),(1,(qU 524288)),(0,(.slice none 0 0))]),
 (81,cC [(1,(qL 7826 0 343 1)),(0,(qI 8))]),
 (83,cC [(5,(qI 40))]),
 (96,cC [(5,(qI 40))]),
 (108,cC [(5,(qI 40))]),
 (121,cC [(5,(qI 40))]),
 (133,cC [(5,(qI 40))]),
 (7826,cN (.cells ((qR 343 qTop)))),
 (7922,cN (.cells ((qR 335 qTop)))),
 (8077,cN (.cells ([(qI 0),(qI 0)])))] 8078
theorem yn40_0:okS qSm 29 328 (zn40 0) (iterF fL 4 (mkT (zn36 0).vs) (mkH (zn36 0).kp (zn36 0).bs) (zn36 0).nx)=true:=by kernel_rfl
theorem yn40_1:okS qSm 29 328 (zn40 1) (iterF fL 4 (mkT (zn36 1).vs) (mkH (zn36 1).kp (zn36 1).bs) (zn36 1).nx)=true:=by kernel_rfl
theorem yn40_2:okS qSm 29 328 (zn40 2) (iterF fL 4 (mkT (zn36 2).vs) (mkH (zn36 2).kp (zn36 2).bs) (zn36 2).nx)=true:=by kernel_rfl
end SX
end Go.Proofs.YtdebnbgjgkbmaaaGreatDoor
