import Derived.ArgAppend
import Derived.Below
import Derived.BigQuiet
import Derived.Calls
import Derived.ChangeKeysEq
import Derived.ChangeOld
import Derived.Deep.AppendLies
import Derived.Deep.AppendSrc
import Derived.Deep.DeepHandedRow
import Derived.Deep.LoopGhost
import Derived.Deep.MidRow
import Derived.Deep.Onto
import Derived.Deep.QuietTactic
import Derived.Deep.RegionHeld3
import Derived.Deep.RegionWith
import Derived.Deep.WholeRow
import Derived.DeepKeys
import Derived.DeepKeys3
import Derived.DeepKeys4
import Derived.Defers
import Derived.KernelRfl
import Derived.Laws.AppendOwn
import Derived.Laws.Bits64b
import Derived.Laws.BitsAllLaws
import Derived.Laws.BytesArg
import Derived.Laws.BytesString
import Derived.Laws.EntriesVeiled
import Derived.Laws.MakeOwn
import Derived.Laws.OwnMore
import Derived.Laws.Rows
import Derived.Laws.Tables
import Derived.Lib.BufferWrite
import Derived.Lib.Builder
import Derived.Lib.ConvBytes
import Derived.Lib.FrozenHead2
import Derived.Lib.Hide
import Derived.Lib.LaidTab
import Derived.Lib.Mul64
import Derived.Lib.SlFresh
import Derived.Lib.Strings
import Derived.Lib.TrailingZeros
import Derived.Lib.UnsafeStr
import Derived.LoopIn
import Derived.LoopNIn
import Derived.Maps.Keyed
import Derived.OpenShut
import Derived.Orders
import Derived.Outline
import Derived.OwnWalk
import Derived.OwnWalkIn
import Derived.ProofKit
import Derived.RangeFuncBound
import Derived.RangeFuncCalls
import Derived.RangeFuncFrom
import Derived.RangeFuncLeaves
import Derived.RangeFuncNested
import Derived.Recover
import Derived.Shelf.Abstract
import Derived.Shelf.RegionOpen
import Derived.Shelf.RegionOpenPlain
import Derived.Shelf.Spec.SlicesInsert
import Derived.Shelf.Strings.OnBuilder
import Derived.ShutString
import Derived.StillTailTactics
import Derived.TacticsInMore
import Derived.Test.YtdebnbgjgkbmaaaGreatDoorProg
import Derived.Test.YtdebnbgjgkbmaaaGreatDoorRows
import Derived.WalkKit
import Derived.WalkLawsBesides
import Derived.WalkSpells
import Derived.Test.YtdebnbgjgkbmaaaGreatDoorKB5
import Derived.Test.YtdebnbgjgkbmaaaGreatDoorKBg
namespace Go.Proofs.YtdebnbgjgkbmaaaGreatDoor
namespace SX
open Go Go.RowKit
set_option linter.unusedVariables false
set_option maxRecDepth 1000000
noncomputable def zn12 (k:Nat):SS:=dif (zn8 k) [(10,(qI 12)),(13,(qL 2713 0 2 1)),(2,(qI 12))] [16,17,18,19,20,21,22,23,24,25,26,29,30,31,32,33,34,35,36,37,40,41,42,43,44,45,46,47,48,51,52,53,54,55,56,57,58,59,61,68,69,70,71,73,80,81,82,83,93,94,95,96,98,105,106,107,108,118,119,120,121,123,130,131,132,133,135,235,591,1215,1496,1526,1581,1605,2017,2387,2411,2505,2643,2667,2713] [(16,cC [(2,(t3 k (qX 41 0x002706000000020001f821467cfd9d38d1839f526c0ec4750b749928436bf3dcfb6c6cc046d108628f) (qX 41 0x002706000000020001525ba31285db8c8bcd5e4626ae9c53462fc5ef2e3f84609fffb48d914592005a) (qX 41 0x0027060000000200016227131044a8b793d8ac6ec2bf7bb1131caac303cfd45c3710a96c9c88e6df30)))]),
 (71,cC [(5,(qI 12))]),
 (83,cC [(5,(qI 12))]),
 (93,cC [(37,(qI 1)),(9,(qL 2387 0 1 38)),(0,qT),(0,(qI 65535)),(0,(qB 124)),(0,(qB 239)),(0,(qB 152)),(0,(qB 192)),(0,(qB 52)),(0,(qB 6)),(0,(qB 67)),(0,(qB 66)),(0,(qB 212)),(0,(qB 50)),(0,(qB 12)),(0,(qB 223)),(0,(qB 240)),(0,(qB 229)),(0,(qB 125)),(0,(qB 229)),(0,(qB 240)),(0,(qB 164)),(0,(qB 215)),(0,(qB 56)),(0,(qB 169)),(0,(qB 145)),(0,(qB 42)),(0,(qB 60)),(0,(qB 158)),(0,(qB 89)),(0,(qB 34)),(0,(qB 251)),(0,(qB 90)),(0,(qB 246)),(0,(qB 48)),(0,(qB 244)),(544,(.slice none 0 0)),(0,(qL 2017 0 2 38))]),
 (94,cC [(1,(qL 2411 0 128 1)),(0,(qI 3))]),
 (96,cC [(5,(qI 12))]),
 (105,cC [(37,(qI 1)),(0,(qI 1)),(0,qT),(7,(qL 2505 0 1 38)),(579,(qL 2643 0 1 38))]),
 (106,cC [(1,(qL 2667 0 141 1)),(0,(qI 3))]),
 (108,cC [(5,(qI 12))]),
 (121,cC [(5,(qI 12))]),
 (133,cC [(5,(qI 12))]),
 (2017,cN (.cells (List.append [(qI 3),(qW 2),(qU 0),(qU (ln k 100 100))] (List.append (hB k) [(qI 30),(qI 0),(qI 6),(qW 2),(qU 0),(qU 0),(qB (t3 k 203 79 24)),(qB (t3 k 176 226 51)),(qB (t3 k 193 27 242)),(qB (t3 k 108 134 41)),(qB (t3 k 176 97 58)),(qB (t3 k 122 149 189)),(qB (t3 k 162 42 12)),(qB (t3 k 6 230 130)),(qB (t3 k 126 251 35)),(qB (t3 k 123 39 77)),(qB (t3 k 205 45 247)),(qB (t3 k 43 50 190)),(qB (t3 k 168 42 93)),(qB (t3 k 86 246 34)),(qB (t3 k 6 186 181)),(qB (t3 k 236 79 193)),(qB (t3 k 137 115 41)),(qB (t3 k 41 206 237)),(qB (t3 k 110 114 149)),(qB (t3 k 167 89 16)),(qB (t3 k 171 130 160)),(qB (t3 k 40 148 129)),(qB (t3 k 164 182 167)),(qB (t3 k 209 135 80)),(qB (t3 k 25 69 99)),(qB (t3 k 144 51 51)),(qB (t3 k 180 3 92)),(qB (t3 k 68 128 97)),(qB (t3 k 235 215 43)),(qB (t3 k 6 140 13)),(qB (t3 k 26 226 62)),(qB (t3 k 132 49 186)),(qI 0),(qI 1)])))),
 (2387,cN (.cells (List.append [(qU 0),(qU (ln k 100 100))] (List.append (hB k) [(qI 30),qT,(qI 2),qF])))),
 (2411,cN (.cells ((qR 128 qTop)))),
 (2505,cN (.cells (List.append [(qU 0),(qU (ln k 100 100))] (List.append (hB k) [(qI 30),qF,(qI 3),qF])))),
 (2643,cN (.cells ([(qI 6),(qW 2),(qU 0),(qU 0),(qB (t3 k 248 82 98)),(qB (t3 k 33 91 39)),(qB (t3 k 70 163 19)),(qB (t3 k 124 18 16)),(qB (t3 k 253 133 68)),(qB (t3 k 157 219 168)),(qB (t3 k 56 140 183)),(qB (t3 k 209 139 147)),(qB (t3 k 131 205 216)),(qB (t3 k 159 94 172)),(qB (t3 k 82 70 110)),(qB (t3 k 108 38 194)),(qB (t3 k 14 174 191)),(qB (t3 k 196 156 123)),(qB (t3 k 117 83 177)),(qB (t3 k 11 70 19)),(qB (t3 k 116 47 28)),(qB (t3 k 153 197 170)),(qB (t3 k 40 239 195)),(qB (t3 k 67 46 3)),(qB (t3 k 107 63 207)),(qB (t3 k 243 132 212)),(qB (t3 k 220 96 92)),(qB (t3 k 251 159 55)),(qB (t3 k 108 255 16)),(qB (t3 k 108 180 169)),(qB (t3 k 192 141 108)),(qB (t3 k 70 145 156)),(qB (t3 k 209 69 136)),(qB (t3 k 8 146 230)),(qB (t3 k 98 0 223)),(qB (t3 k 143 90 48)),(qI 0),(qI 1)]))),
 (2667,cN (.cells ((qR 141 qTop)))),
 (2713,cN (.cells ([(qI 0),(qI 0)])))] 2714
theorem yn12_0:okS qSm 29 328 (zn12 0) (iterF fL 4 (mkT (zn8 0).vs) (mkH (zn8 0).kp (zn8 0).bs) (zn8 0).nx)=true:=by kernel_rfl
theorem yn12_1:okS qSm 29 328 (zn12 1) (iterF fL 4 (mkT (zn8 1).vs) (mkH (zn8 1).kp (zn8 1).bs) (zn8 1).nx)=true:=by kernel_rfl
theorem yn12_2:okS qSm 29 328 (zn12 2) (iterF fL 4 (mkT (zn8 2).vs) (mkH (zn8 2).kp (zn8 2).bs) (zn8 2).nx)=true:=by kernel_rfl
noncomputable def zn16 (k:Nat):SS:=dif (zn12 k) [(10,(qI 16)),(13,(qL 3745 0 2 1)),(2,(qI 16))] [16,17,18,19,20,21,22,23,24,25,26,29,30,31,32,33,34,35,36,37,40,41,42,43,44,45,46,47,48,51,52,53,54,55,56,57,58,59,61,68,69,70,71,73,80,81,82,83,93,94,95,96,98,105,106,107,108,118,119,120,121,123,130,131,132,133,135,235,591,1215,1496,1526,1581,1605,2017,2643,2896,2926,2981,3005,3309,3447,3471,3687,3717,3745] [(16,cC [(2,(qS [])),(1,(qX 41 0x002707000000030000627a0cfcd9eb9155bb84ca6415282ed369d558a2439c461a3a37c7ebc7fbf455))]),
 (40,cN (.map [((.agg ⟨[(qW 2),(qU 0)]⟩),(.agg ⟨List.append [(qW 2),(qU 0),(qU (ln k 100 100)),(qI 30),(qW 3),(qU 0),(qU (ln k 98 100)),(qI 20)] (hB k)⟩))])),
 (41,cN (.map [((.agg ⟨[(qW 3),(qU 0)]⟩),(.agg ⟨[(qW 2),(qU 0)]⟩))])),
 (71,cC [(5,(qI 16))]),
 (83,cC [(5,(qI 16))]),
 (93,cC [(38,(qI 1)),(5,qT),(2,(qL 2896 0 1 38))]),
 (94,cC [(1,(qL 2926 0 182 1)),(0,(qI 4))]),
 (96,cC [(5,(qI 16))]),
 (105,cC [(39,qF),(7,(qL 2981 0 1 38)),(0,qT),(0,(qI 65535)),(0,(qB 166)),(0,(qB 75)),(0,(qB 197)),(0,(qB 28)),(0,(qB 136)),(0,(qB 117)),(0,(qB 166)),(0,(qB 185)),(0,(qB 202)),(0,(qB 240)),(0,(qB 73)),(0,(qB 250)),(0,(qB 90)),(0,(qB 116)),(0,(qB 174)),(0,(qB 240)),(0,(qB 87)),(0,(qB 249)),(0,(qB 236)),(0,(qB 124)),(0,(qB 91)),(0,(qB 17)),(0,(qB 185)),(0,(qB 107)),(0,(qB 122)),(0,(qB 103)),(0,(qB 196)),(0,(qB 218)),(0,(qB 209)),(0,(qB 14)),(0,(qB 230)),(0,(qB 183))]),
 (106,cC [(1,(qL 3005 0 195 1)),(0,(qI 4))]),
 (108,cC [(5,(qI 16))]),
 (118,cC [(37,(qI 1)),(1,qT),(0,(qU 1)),(4,(qU (t3 k 524190 524090 523990))),(1,(qL 3309 0 1 38)),(579,(qL 3447 0 2 38))]),
 (119,cC [(0,(qP 119 0)),(0,(qL 3471 0 74 1)),(0,(qI 2))]),
 (121,cC [(5,(qI 16))]),
 (130,cC [(38,(qI 1)),(2,(qU 1)),(2,qT),(1,(qU (t3 k 524190 524090 523990))),(0,(qL 3687 0 1 38))]),
 (131,cC [(0,(qP 131 0)),(0,(qL 3717 0 126 1)),(0,(qI 2))]),
 (133,cC [(5,(qI 16))]),
 (2896,cN (.cells (List.append [(qU 0),(qU (ln k 100 100))] (List.append (hB k) [(qI 30),qT,(qI 4),qF])))),
 (2926,cN (.cells ((qR 182 qTop)))),
 (2981,cN (.cells (List.append [(qU 0),(qU (ln k 100 100))] (List.append (hB k) [(qI 30),qF,(qI 4),qF])))),
 (3005,cN (.cells ((qR 195 qTop)))),
 (3309,cN (.cells (List.append [(qU 0),(qU (ln k 98 100))] (List.append (hB k) [(qI 20),qT,(qI 1),qF])))),
 (3447,cN (.cells (List.append [(qI 3),(qW 3),(qU 0),(qU (ln k 98 100))] (List.append (hB k) [(qI 20),(qI 0),(qI 6),(qW 3),(qU 0),(qU 0),(qB (t3 k 166 117 33)),(qB (t3 k 175 159 100)),(qB (t3 k 230 92 182)),(qB (t3 k 150 165 69)),(qB (t3 k 228 102 149)),(qB (t3 k 128 122 27)),(qB (t3 k 203 53 13)),(qB (t3 k 118 99 187)),(qB (t3 k 216 236 113)),(qB (t3 k 229 51 17)),(qB (t3 k 218 231 241)),(qB (t3 k 134 101 144)),(qB (t3 k 169 112 108)),(qB (t3 k 116 184 227)),(qB (t3 k 255 162 219)),(qB (t3 k 104 251 8)),(qB (t3 k 145 131 173)),(qB (t3 k 107 154 197)),(qB (t3 k 106 96 242)),(qB (t3 k 51 62 178)),(qB (t3 k 6 119 152)),(qB (t3 k 171 120 167)),(qB (t3 k 200 147 47)),(qB (t3 k 135 222 87)),(qB (t3 k 38 228 16)),(qB (t3 k 141 31 27)),(qB (t3 k 170 251 210)),(qB (t3 k 129 156 250)),(qB (t3 k 245 67 198)),(qB (t3 k 211 142 130)),(qB (t3 k 194 146 161)),(qB (t3 k 200 49 64)),(qI 0),(qI 1)])))),
 (3471,cN (.cells ((qR 74 qTop)))),
 (3687,cN (.cells (List.append [(qU 0),(qU (ln k 98 100))] (List.append (hB k) [(qI 20),qF,(qI 2),qF])))),
 (3717,cN (.cells ((qR 126 qTop)))),
 (3745,cN (.cells ([(qI 0),(qI 0)])))] 3746
theorem yn16_0:okS qSm 29 328 (zn16 0) (iterF fL 4 (mkT (zn12 0).vs) (mkH (zn12 0).kp (zn12 0).bs) (zn12 0).nx)=true:=by kernel_rfl
theorem yn16_1:okS qSm 29 328 (zn16 1) (iterF fL 4 (mkT (zn12 1).vs) (mkH (zn12 1).kp (zn12 1).bs) (zn12 1).nx)=true:=by kernel_rfl
theorem yn16_2:okS qSm 29 328 (zn16 2) (iterF fL 4 (mkT (zn12 2).vs) (mkH (zn12 2).kp (zn12 2).bs) (zn12 2).nx)=true:=by kernel_rfl
noncomputable def zn20 (k:Nat):SS:=dif (zn16 k) [(10,(qI 20)),(13,(qL 4620 0 2 1)),(2,(qI 20))] [16,17,18,19,20,21,22,23,24,25,26,29,30,31,32,33,34,35,36,37,40,41,42,43,44,45,46,47,48,51,52,53,54,55,56,57,58,59,61,68,69,70,71,73,80,81,82,83,93,94,95,96,98,105,106,107,108,118,119,120,121,123,130,131,132,133,135,235,591,1215,1496,1526,1581,1605,2017,2643,2896,2926,2981,3005,3447,4075,4300,4385,4501,4525,4591,4620] [(16,cC [(4,(qS []))]),
 (71,cC [(5,(qI 20))]),
 (83,cC [(5,(qI 20))]),
 (96,cC [(5,(qI 20))]),
 (108,cC [(5,(qI 20))]),
 (118,cC [(38,(qI 1)),(0,qF),(4,qT),(2,(qL 4300 0 1 38)),(0,qT),(0,(qI 65535)),(0,(qB 98)),(0,(qB 122)),(0,(qB 12)),(0,(qB 252)),(0,(qB 217)),(0,(qB 235)),(0,(qB 145)),(0,(qB 85)),(0,(qB 187)),(0,(qB 132)),(0,(qB 202)),(0,(qB 100)),(0,(qB 21)),(0,(qB 40)),(0,(qB 46)),(0,(qB 211)),(0,(qB 105)),(0,(qB 213)),(0,(qB 88)),(0,(qB 162)),(0,(qB 67)),(0,(qB 156)),(0,(qB 70)),(0,(qB 26)),(0,(qB 58)),(0,(qB 55)),(0,(qB 199)),(0,(qB 235)),(0,(qB 199)),(0,(qB 251)),(0,(qB 244)),(0,(qB 85))]),
 (119,cC [(1,(qL 4591 0 212 1)),(0,(qI 5))]),
 (121,cC [(5,(qI 20))]),
 (130,cC [(37,(qI 1)),(6,qF),(2,(qL 4385 0 1 38)),(0,qT),(0,(qI 65535)),(0,(qB 90)),(0,(qB 136)),(0,(qB 139)),(0,(qB 210)),(0,(qB 153)),(0,(qB 143)),(0,(qB 232)),(0,(qB 28)),(0,(qB 252)),(0,(qB 118)),(0,(qB 64)),(0,(qB 127)),(0,(qB 165)),(0,(qB 1)),(0,(qB 33)),(0,(qB 144)),(0,(qB 75)),(0,(qB 148)),(0,(qB 162)),(0,(qB 172)),(0,(qB 191)),(0,(qB 12)),(0,(qB 101)),(0,(qB 51)),(0,(qB 189)),(0,(qB 101)),(0,(qB 93)),(0,(qB 13)),(0,(qB 211)),(0,(qB 168)),(0,(qB 145)),(0,(qB 225)),(544,(qL 4501 0 1 38)),(0,(qL 4075 0 1 38))]),
 (131,cC [(1,(qL 4525 0 220 1)),(0,(qI 5))]),
 (133,cC [(5,(qI 20))]),
 (4075,cN (.cells ([(qI 6),(qW 3),(qU 0),(qU 0),(qB (t3 k 59 77 138)),(qB (t3 k 63 189 34)),(qB (t3 k 108 48 212)),(qB (t3 k 235 114 243)),(qB (t3 k 98 70 23)),(qB (t3 k 84 183 86)),(qB (t3 k 91 180 51)),(qB (t3 k 161 147 171)),(qB (t3 k 186 203 67)),(qB (t3 k 67 183 56)),(qB (t3 k 60 205 19)),(qB (t3 k 6 188 242)),(qB (t3 k 132 78 54)),(qB (t3 k 180 120 204)),(qB (t3 k 56 238 189)),(qB (t3 k 77 193 65)),(qB (t3 k 83 185 73)),(qB (t3 k 144 15 62)),(qB (t3 k 62 123 30)),(qB (t3 k 43 229 73)),(qB (t3 k 155 4 73)),(qB (t3 k 19 100 30)),(qB (t3 k 221 62 148)),(qB (t3 k 73 85 215)),(qB (t3 k 145 94 134)),(qB (t3 k 25 27 220)),(qB (t3 k 19 139 100)),(qB (t3 k 240 159 73)),(qB (t3 k 7 198 119)),(qB (t3 k 231 68 27)),(qB (t3 k 191 164 136)),(qB (t3 k 44 90 48)),(qI 0),(qI 1)]))),
 (4300,cN (.cells (List.append [(qU 0),(qU (ln k 98 100))] (List.append (hB k) [(qI 20),qT,(qI 5),qF])))),
 (4385,cN (.cells (List.append [(qU 0),(qU (ln k 98 100))] (List.append (hB k) [(qI 20),qF,(qI 5),qF])))),
 (4501,cN (.cells (List.append [(qI 5),(qW 3),(qU 0),(qU 0)] (List.append (qR 32 (qB 0)) [(qI 0),(qI 3)])))),
 (4525,cN (.cells ((qR 220 qTop)))),
 (4591,cN (.cells ((qR 212 qTop)))),
 (4620,cN (.cells ([(qI 0),(qI 0)])))] 4621
theorem yn20_0:okS qSm 29 328 (zn20 0) (iterF fL 4 (mkT (zn16 0).vs) (mkH (zn16 0).kp (zn16 0).bs) (zn16 0).nx)=true:=by kernel_rfl
theorem yn20_1:okS qSm 29 328 (zn20 1) (iterF fL 4 (mkT (zn16 1).vs) (mkH (zn16 1).kp (zn16 1).bs) (zn16 1).nx)=true:=by kernel_rfl
theorem yn20_2:okS qSm 29 328 (zn20 2) (iterF fL 4 (mkT (zn16 2).vs) (mkH (zn16 2).kp (zn16 2).bs) (zn16 2).nx)=true:=by kernel_rfl
noncomputable def zn24 (k:Nat):SS:=dif (zn20 k) [(10,(qI 24)),(13,(qL 5348 0 2 1)),(2,(qI 24))] [16,17,18,19,20,21,22,23,24,25,26,29,30,31,32,33,34,35,36,37,40,41,42,43,44,45,46,47,48,51,52,53,54,55,56,57,58,59,61,68,69,70,71,73,80,81,82,83,93,94,95,96,98,105,106,107,108,118,119,120,121,123,130,131,132,133,135,235,591,1215,1496,1526,1581,1605,2017,2643,2896,2926,2981,3005,4798,5058,5082,5208,5291,5315,5348] [(16,cC [(5,(qX 41 0x0027060000000300027f0d7c953a5457b483c02f8ae71629bcb70b6fff24f3973f8bf9fcb269d19b5d))]),
 (71,cC [(5,(qI 24))]),
 (83,cC [(5,(qI 24))]),
 (96,cC [(5,(qI 24))]),
 (108,cC [(5,(qI 24))]),
 (118,cC [(37,(qI 2)),(0,(qI 2)),(0,qT),(4,qF),(2,(qL 5208 0 1 38)),(579,(qL 5291 0 1 38))]),
 (119,cC [(1,(qL 5315 0 281 1)),(0,(qI 7))]),
 (121,cC [(5,(qI 24))]),
 (130,cC [(37,(qI 2)),(9,(qL 5058 0 1 38)),(34,qT),(0,(qI 65534)),(0,(qB 70)),(0,(qB 110)),(0,(qB 113)),(0,(qB 199)),(0,(qB 133)),(0,(qB 248)),(0,(qB 186)),(0,(qB 194)),(0,(qB 121)),(0,(qB 48)),(0,(qB 188)),(0,(qB 96)),(0,(qB 20)),(0,(qB 98)),(0,(qB 26)),(0,(qB 7)),(0,(qB 224)),(0,(qB 96)),(0,(qB 113)),(0,(qB 117)),(0,(qB 9)),(0,(qB 85)),(0,(qB 75)),(0,(qB 209)),(0,(qB 154)),(0,(qB 15)),(0,(qB 15)),(0,(qB 122)),(0,(qB 59)),(0,(qB 127)),(0,(qB 129)),(0,(qB 195)),(510,(.slice none 0 0)),(0,(qL 4798 0 2 38))]),
 (131,cC [(1,(qL 5082 0 289 1)),(0,(qI 7))]),
 (133,cC [(5,(qI 24))]),
 (4798,cN (.cells (List.append [(qI 5),(qW 3),(qU 0),(qU 0)] (List.append (qR 32 (qB 0)) (List.append [(qI 0),(qI 3),(qI 6),(qW 3),(qU 0),(qU 0)] (List.append (qBs [109,23,172,153,63,72,138,209,82,74,243,46,134,118,63,83,229,186,91,234,149,26,233,102,179,96,99,64,152,55,225,57]) [(qI 0),(qI 2)])))))),
 (5058,cN (.cells (List.append [(qU 0),(qU (ln k 98 100))] (List.append (hB k) [(qI 20),qF,(qI 7),qF])))),
 (5082,cN (.cells ((qR 289 qTop)))),
 (5208,cN (.cells (List.append [(qU 0),(qU (ln k 98 100))] (List.append (hB k) [(qI 20),qT,(qI 8),qF])))),
 (5291,cN (.cells (List.append [(qI 6),(qW 3),(qU 0),(qU 0)] (List.append (qBs [127,13,124,149,58,84,87,180,131,192,47,138,231,22,41,188,183,11,111,255,36,243,151,63,139,249,252,178,105,209,155,93]) [(qI 0),(qI 2)])))),
 (5315,cN (.cells ((qR 281 qTop)))),
 (5348,cN (.cells ([(qI 0),(qI 0)])))] 5349
theorem yn24_0:okS qSm 29 328 (zn24 0) (iterF fL 4 (mkT (zn20 0).vs) (mkH (zn20 0).kp (zn20 0).bs) (zn20 0).nx)=true:=by kernel_rfl
theorem yn24_1:okS qSm 29 328 (zn24 1) (iterF fL 4 (mkT (zn20 1).vs) (mkH (zn20 1).kp (zn20 1).bs) (zn20 1).nx)=true:=by kernel_rfl
theorem yn24_2:okS qSm 29 328 (zn24 2) (iterF fL 4 (mkT (zn20 2).vs) (mkH (zn20 2).kp (zn20 2).bs) (zn20 2).nx)=true:=by kernel_rfl
end SX
end Go.Proofs.YtdebnbgjgkbmaaaGreatDoor
