import Derived.ArgAppend
import Derived.Below
import Derived.BigQuiet
import Derived.Calls
import Derived.ChangeKeysEq
import Derived.ChangeOld
import Derived.Deep.AppendLies
import Derived.Deep.AppendSrc
import Derived.Deep.DeepHandedRow
import Derived.Deep.LoopGhost
import Derived.Deep.MidRow
import Derived.Deep.Onto
import Derived.Deep.QuietTactic
import Derived.Deep.RegionHeld3
import Derived.Deep.RegionWith
import Derived.Deep.WholeRow
import Derived.DeepKeys
import Derived.DeepKeys3
import Derived.DeepKeys4
import Derived.Defers
import Derived.KernelRfl
import Derived.Laws.AppendOwn
import Derived.Laws.Bits64b
import Derived.Laws.BitsAllLaws
import Derived.Laws.BytesArg
import Derived.Laws.BytesString
import Derived.Laws.EntriesVeiled
import Derived.Laws.MakeOwn
import Derived.Laws.OwnMore
import Derived.Laws.Rows
import Derived.Laws.Tables
import Derived.Lib.BufferWrite
import Derived.Lib.Builder
import Derived.Lib.ConvBytes
import Derived.Lib.FrozenHead2
import Derived.Lib.Hide
import Derived.Lib.LaidTab
import Derived.Lib.Mul64
import Derived.Lib.SlFresh
import Derived.Lib.Strings
import Derived.Lib.TrailingZeros
import Derived.Lib.UnsafeStr
import Derived.LoopIn
import Derived.LoopNIn
import Derived.Maps.Keyed
import Derived.OpenShut
import Derived.Orders
import Derived.Outline
import Derived.OwnWalk
import Derived.OwnWalkIn
import Derived.ProofKit
import Derived.RangeFuncBound
import Derived.RangeFuncCalls
import Derived.RangeFuncFrom
import Derived.RangeFuncLeaves
import Derived.RangeFuncNested
import Derived.Recover
import Derived.Shelf.Abstract
import Derived.Shelf.RegionOpen
import Derived.Shelf.RegionOpenPlain
import Derived.Shelf.Spec.SlicesInsert
import Derived.Shelf.Strings.OnBuilder
import Derived.ShutString
import Derived.StillTailTactics
import Derived.TacticsInMore
import Derived.Test.YtdebnbgjgkbmaaaGreatDoorProg
import Derived.Test.YtdebnbgjgkbmaaaGreatDoorRows
import Derived.WalkKit
import Derived.WalkLawsBesides
import Derived.WalkSpells
import Derived.Test.YtdebnbgjgkbmaaaGreatDoorKB5
import Derived.Test.YtdebnbgjgkbmaaaGreatDoorKBb
namespace Go.Proofs.YtdebnbgjgkbmaaaGreatDoor
namespace SX
open Go Go.RowKit
set_option linter.unusedVariables false
set_option maxRecDepth 1000000
noncomputable def zi12 (k:Nat):SS:=dif (zi8 k) [(10,(qI 12)),(13,(qL 2730 0 2 1)),(2,(qI 12))] [16,17,18,19,20,21,22,23,24,25,26,29,30,31,32,33,34,35,36,37,40,41,42,43,44,45,46,47,48,51,52,53,54,55,56,57,58,59,61,68,69,70,71,73,80,81,82,83,93,94,95,96,98,105,106,107,108,118,119,120,121,123,130,131,132,133,135,252,608,1232,1513,1543,1598,1622,2034,2404,2428,2522,2660,2684,2730] [(16,cC [(2,(t3 k (qX 41 0x002706000000020001f821467cfd9d38d1839f526c0ec4750b749928436bf3dcfb6c6cc046d108628f) (qX 41 0x002706000000020001525ba31285db8c8bcd5e4626ae9c53462fc5ef2e3f84609fffb48d914592005a) (qX 41 0x0027060000000200016227131044a8b793d8ac6ec2bf7bb1131caac303cfd45c3710a96c9c88e6df30)))]),
 (71,cC [(5,(qI 12))]),
 (83,cC [(5,(qI 12))]),
 (93,cC [(37,(qI 1)),(9,(qL 2404 0 1 38)),(0,qT),(0,(qI 65535)),(0,(qB 124)),(0,(qB 239)),(0,(qB 152)),(0,(qB 192)),(0,(qB 52)),(0,(qB 6)),(0,(qB 67)),(0,(qB 66)),(0,(qB 212)),(0,(qB 50)),(0,(qB 12)),(0,(qB 223)),(0,(qB 240)),(0,(qB 229)),(0,(qB 125)),(0,(qB 229)),(0,(qB 240)),(0,(qB 164)),(0,(qB 215)),(0,(qB 56)),(0,(qB 169)),(0,(qB 145)),(0,(qB 42)),(0,(qB 60)),(0,(qB 158)),(0,(qB 89)),(0,(qB 34)),(0,(qB 251)),(0,(qB 90)),(0,(qB 246)),(0,(qB 48)),(0,(qB 244)),(544,(.slice none 0 0)),(0,(qL 2034 0 2 38))]),
 (94,cC [(1,(qL 2428 0 128 1)),(0,(qI 3))]),
 (96,cC [(5,(qI 12))]),
 (105,cC [(37,(qI 1)),(0,(qI 1)),(0,qT),(7,(qL 2522 0 1 38)),(579,(qL 2660 0 1 38))]),
 (106,cC [(1,(qL 2684 0 141 1)),(0,(qI 3))]),
 (108,cC [(5,(qI 12))]),
 (121,cC [(5,(qI 12))]),
 (133,cC [(5,(qI 12))]),
 (2034,cN (.cells (List.append [(qI 3),(qW 2),(qU 0),(qU (ln k 100 100))] (List.append (hB k) [(qI 30),(qI 0),(qI 6),(qW 2),(qU 0),(qU 0),(qB (t3 k 203 79 24)),(qB (t3 k 176 226 51)),(qB (t3 k 193 27 242)),(qB (t3 k 108 134 41)),(qB (t3 k 176 97 58)),(qB (t3 k 122 149 189)),(qB (t3 k 162 42 12)),(qB (t3 k 6 230 130)),(qB (t3 k 126 251 35)),(qB (t3 k 123 39 77)),(qB (t3 k 205 45 247)),(qB (t3 k 43 50 190)),(qB (t3 k 168 42 93)),(qB (t3 k 86 246 34)),(qB (t3 k 6 186 181)),(qB (t3 k 236 79 193)),(qB (t3 k 137 115 41)),(qB (t3 k 41 206 237)),(qB (t3 k 110 114 149)),(qB (t3 k 167 89 16)),(qB (t3 k 171 130 160)),(qB (t3 k 40 148 129)),(qB (t3 k 164 182 167)),(qB (t3 k 209 135 80)),(qB (t3 k 25 69 99)),(qB (t3 k 144 51 51)),(qB (t3 k 180 3 92)),(qB (t3 k 68 128 97)),(qB (t3 k 235 215 43)),(qB (t3 k 6 140 13)),(qB (t3 k 26 226 62)),(qB (t3 k 132 49 186)),(qI 0),(qI 1)])))),
 (2404,cN (.cells (List.append [(qU 0),(qU (ln k 100 100))] (List.append (hB k) [(qI 30),qT,(qI 2),qF])))),
 (2428,cN (.cells ((qR 128 qTop)))),
 (2522,cN (.cells (List.append [(qU 0),(qU (ln k 100 100))] (List.append (hB k) [(qI 30),qF,(qI 3),qF])))),
 (2660,cN (.cells ([(qI 6),(qW 2),(qU 0),(qU 0),(qB (t3 k 248 82 98)),(qB (t3 k 33 91 39)),(qB (t3 k 70 163 19)),(qB (t3 k 124 18 16)),(qB (t3 k 253 133 68)),(qB (t3 k 157 219 168)),(qB (t3 k 56 140 183)),(qB (t3 k 209 139 147)),(qB (t3 k 131 205 216)),(qB (t3 k 159 94 172)),(qB (t3 k 82 70 110)),(qB (t3 k 108 38 194)),(qB (t3 k 14 174 191)),(qB (t3 k 196 156 123)),(qB (t3 k 117 83 177)),(qB (t3 k 11 70 19)),(qB (t3 k 116 47 28)),(qB (t3 k 153 197 170)),(qB (t3 k 40 239 195)),(qB (t3 k 67 46 3)),(qB (t3 k 107 63 207)),(qB (t3 k 243 132 212)),(qB (t3 k 220 96 92)),(qB (t3 k 251 159 55)),(qB (t3 k 108 255 16)),(qB (t3 k 108 180 169)),(qB (t3 k 192 141 108)),(qB (t3 k 70 145 156)),(qB (t3 k 209 69 136)),(qB (t3 k 8 146 230)),(qB (t3 k 98 0 223)),(qB (t3 k 143 90 48)),(qI 0),(qI 1)]))),
 (2684,cN (.cells ((qR 141 qTop)))),
 (2730,cN (.cells ([(qI 0),(qI 0)])))] 2731
theorem yi12_0:okS qSm 29 345 (zi12 0) (iterF fL 4 (mkT (zi8 0).vs) (mkH (zi8 0).kp (zi8 0).bs) (zi8 0).nx)=true:=by kernel_rfl
theorem yi12_1:okS qSm 29 345 (zi12 1) (iterF fL 4 (mkT (zi8 1).vs) (mkH (zi8 1).kp (zi8 1).bs) (zi8 1).nx)=true:=by kernel_rfl
theorem yi12_2:okS qSm 29 345 (zi12 2) (iterF fL 4 (mkT (zi8 2).vs) (mkH (zi8 2).kp (zi8 2).bs) (zi8 2).nx)=true:=by kernel_rfl
noncomputable def zi16 (k:Nat):SS:=dif (zi12 k) [(10,(qI 16)),(13,(qL 3762 0 2 1)),(2,(qI 16))] [16,17,18,19,20,21,22,23,24,25,26,29,30,31,32,33,34,35,36,37,40,41,42,43,44,45,46,47,48,51,52,53,54,55,56,57,58,59,61,68,69,70,71,73,80,81,82,83,93,94,95,96,98,105,106,107,108,118,119,120,121,123,130,131,132,133,135,252,608,1232,1513,1543,1598,1622,2034,2660,2913,2943,2998,3022,3326,3464,3488,3704,3734,3762] [(16,cC [(2,(qS [])),(1,(qX 41 0x002707000000030000627a0cfcd9eb9155bb84ca6415282ed369d558a2439c461a3a37c7ebc7fbf455))]),
 (40,cN (.map [((.agg ⟨[(qW 2),(qU 0)]⟩),(.agg ⟨List.append [(qW 2),(qU 0),(qU (ln k 100 100)),(qI 30),(qW 3),(qU 0),(qU (ln k 98 100)),(qI 20)] (hB k)⟩))])),
 (41,cN (.map [((.agg ⟨[(qW 3),(qU 0)]⟩),(.agg ⟨[(qW 2),(qU 0)]⟩))])),
 (71,cC [(5,(qI 16))]),
 (83,cC [(5,(qI 16))]),
 (93,cC [(38,(qI 1)),(5,qT),(2,(qL 2913 0 1 38))]),
 (94,cC [(1,(qL 2943 0 182 1)),(0,(qI 4))]),
 (96,cC [(5,(qI 16))]),
 (105,cC [(39,qF),(7,(qL 2998 0 1 38)),(0,qT),(0,(qI 65535)),(0,(qB 166)),(0,(qB 75)),(0,(qB 197)),(0,(qB 28)),(0,(qB 136)),(0,(qB 117)),(0,(qB 166)),(0,(qB 185)),(0,(qB 202)),(0,(qB 240)),(0,(qB 73)),(0,(qB 250)),(0,(qB 90)),(0,(qB 116)),(0,(qB 174)),(0,(qB 240)),(0,(qB 87)),(0,(qB 249)),(0,(qB 236)),(0,(qB 124)),(0,(qB 91)),(0,(qB 17)),(0,(qB 185)),(0,(qB 107)),(0,(qB 122)),(0,(qB 103)),(0,(qB 196)),(0,(qB 218)),(0,(qB 209)),(0,(qB 14)),(0,(qB 230)),(0,(qB 183))]),
 (106,cC [(1,(qL 3022 0 195 1)),(0,(qI 4))]),
 (108,cC [(5,(qI 16))]),
 (118,cC [(37,(qI 1)),(1,qT),(0,(qU 1)),(4,(qU (t3 k 524190 524090 523990))),(1,(qL 3326 0 1 38)),(579,(qL 3464 0 2 38))]),
 (119,cC [(0,(qP 119 0)),(0,(qL 3488 0 74 1)),(0,(qI 2))]),
 (121,cC [(5,(qI 16))]),
 (130,cC [(38,(qI 1)),(2,(qU 1)),(2,qT),(1,(qU (t3 k 524190 524090 523990))),(0,(qL 3704 0 1 38))]),
 (131,cC [(0,(qP 131 0)),(0,(qL 3734 0 126 1)),(0,(qI 2))]),
 (133,cC [(5,(qI 16))]),
 (2913,cN (.cells (List.append [(qU 0),(qU (ln k 100 100))] (List.append (hB k) [(qI 30),qT,(qI 4),qF])))),
 (2943,cN (.cells ((qR 182 qTop)))),
 (2998,cN (.cells (List.append [(qU 0),(qU (ln k 100 100))] (List.append (hB k) [(qI 30),qF,(qI 4),qF])))),
 (3022,cN (.cells ((qR 195 qTop)))),
 (3326,cN (.cells (List.append [(qU 0),(qU (ln k 98 100))] (List.append (hB k) [(qI 20),qT,(qI 1),qF])))),
 (3464,cN (.cells (List.append [(qI 3),(qW 3),(qU 0),(qU (ln k 98 100))] (List.append (hB k) [(qI 20),(qI 0),(qI 6),(qW 3),(qU 0),(qU 0),(qB (t3 k 166 117 33)),(qB (t3 k 175 159 100)),(qB (t3 k 230 92 182)),(qB (t3 k 150 165 69)),(qB (t3 k 228 102 149)),(qB (t3 k 128 122 27)),(qB (t3 k 203 53 13)),(qB (t3 k 118 99 187)),(qB (t3 k 216 236 113)),(qB (t3 k 229 51 17)),(qB (t3 k 218 231 241)),(qB (t3 k 134 101 144)),(qB (t3 k 169 112 108)),(qB (t3 k 116 184 227)),(qB (t3 k 255 162 219)),(qB (t3 k 104 251 8)),(qB (t3 k 145 131 173)),(qB (t3 k 107 154 197)),(qB (t3 k 106 96 242)),(qB (t3 k 51 62 178)),(qB (t3 k 6 119 152)),(qB (t3 k 171 120 167)),(qB (t3 k 200 147 47)),(qB (t3 k 135 222 87)),(qB (t3 k 38 228 16)),(qB (t3 k 141 31 27)),(qB (t3 k 170 251 210)),(qB (t3 k 129 156 250)),(qB (t3 k 245 67 198)),(qB (t3 k 211 142 130)),(qB (t3 k 194 146 161)),(qB (t3 k 200 49 64)),(qI 0),(qI 1)])))),
 (3488,cN (.cells ((qR 74 qTop)))),
 (3704,cN (.cells (List.append [(qU 0),(qU (ln k 98 100))] (List.append (hB k) [(qI 20),qF,(qI 2),qF])))),
 (3734,cN (.cells ((qR 126 qTop)))),
 (3762,cN (.cells ([(qI 0),(qI 0)])))] 3763
theorem yi16_0:okS qSm 29 345 (zi16 0) (iterF fL 4 (mkT (zi12 0).vs) (mkH (zi12 0).kp (zi12 0).bs) (zi12 0).nx)=true:=by kernel_rfl
theorem yi16_1:okS qSm 29 345 (zi16 1) (iterF fL 4 (mkT (zi12 1).vs) (mkH (zi12 1).kp (zi12 1).bs) (zi12 1).nx)=true:=by kernel_rfl
theorem yi16_2:okS qSm 29 345 (zi16 2) (iterF fL 4 (mkT (zi12 2).vs) (mkH (zi12 2).kp (zi12 2).bs) (zi12 2).nx)=true:=by kernel_rfl
noncomputable def zi20 (k:Nat):SS:=dif (zi16 k) [(10,(qI 20)),(13,(qL 4729 0 2 1)),(2,(qI 20))] [16,17,18,19,20,21,22,23,24,25,26,29,30,31,32,33,34,35,36,37,40,41,42,43,44,45,46,47,48,51,52,53,54,55,56,57,58,59,61,68,69,70,71,73,80,81,82,83,93,94,95,96,98,105,106,107,108,118,119,120,121,123,130,131,132,133,135,252,608,1232,1513,1543,1598,1622,2034,2660,2913,2943,2998,3464,4092,4317,4402,4515,4539,4609,4693,4717,4729] [(16,cC [(2,(t3 k (qX 47 0x002d04000000020000000000000000002a2a2a2a2a2a2a2a2a2a2a2a2a2a2a2a2a2a2a2a2a2a2a2a2a2a2a2a2a2a2a) (qX 47 0x002d04000000020000000000000000012a2a2a2a2a2a2a2a2a2a2a2a2a2a2a2a2a2a2a2a2a2a2a2a2a2a2a2a2a2a2a) (qX 47 0x002d04000000020000000000000000022a2a2a2a2a2a2a2a2a2a2a2a2a2a2a2a2a2a2a2a2a2a2a2a2a2a2a2a2a2a2a))),(1,(qS []))]),
 (40,cN (.map [])),
 (41,cN (.map [])),
 (44,cN (.map [((.agg ⟨(hB k)⟩),(.agg ⟨List.append [(qB (ln k 0 1))] (qR 31 (qB 42))⟩))])),
 (71,cC [(5,(qI 20))]),
 (83,cC [(5,(qI 20))]),
 (96,cC [(5,(qI 20))]),
 (105,cC [(626,(qL 4693 0 1 38))]),
 (106,cC [(1,(qL 4717 0 250 1)),(0,(qI 5))]),
 (108,cC [(5,(qI 20))]),
 (118,cC [(38,(qI 1)),(0,qF),(4,qT),(2,(qL 4317 0 1 38)),(0,qT),(0,(qI 65535)),(0,(qB 98)),(0,(qB 122)),(0,(qB 12)),(0,(qB 252)),(0,(qB 217)),(0,(qB 235)),(0,(qB 145)),(0,(qB 85)),(0,(qB 187)),(0,(qB 132)),(0,(qB 202)),(0,(qB 100)),(0,(qB 21)),(0,(qB 40)),(0,(qB 46)),(0,(qB 211)),(0,(qB 105)),(0,(qB 213)),(0,(qB 88)),(0,(qB 162)),(0,(qB 67)),(0,(qB 156)),(0,(qB 70)),(0,(qB 26)),(0,(qB 58)),(0,(qB 55)),(0,(qB 199)),(0,(qB 235)),(0,(qB 199)),(0,(qB 251)),(0,(qB 244)),(0,(qB 85))]),
 (119,cC [(1,(qL 4609 0 242 1)),(0,(qI 5))]),
 (121,cC [(5,(qI 20))]),
 (130,cC [(37,(qI 1)),(6,qF),(2,(qL 4402 0 1 38)),(0,qT),(0,(qI 65535)),(0,(qB 90)),(0,(qB 136)),(0,(qB 139)),(0,(qB 210)),(0,(qB 153)),(0,(qB 143)),(0,(qB 232)),(0,(qB 28)),(0,(qB 252)),(0,(qB 118)),(0,(qB 64)),(0,(qB 127)),(0,(qB 165)),(0,(qB 1)),(0,(qB 33)),(0,(qB 144)),(0,(qB 75)),(0,(qB 148)),(0,(qB 162)),(0,(qB 172)),(0,(qB 191)),(0,(qB 12)),(0,(qB 101)),(0,(qB 51)),(0,(qB 189)),(0,(qB 101)),(0,(qB 93)),(0,(qB 13)),(0,(qB 211)),(0,(qB 168)),(0,(qB 145)),(0,(qB 225)),(544,(qL 4515 0 1 38)),(0,(qL 4092 0 1 38))]),
 (131,cC [(1,(qL 4539 0 250 1)),(0,(qI 5))]),
 (133,cC [(5,(qI 20))]),
 (2998,cC [(36,(qI 5)),(0,qT)]),
 (4092,cN (.cells ([(qI 6),(qW 3),(qU 0),(qU 0),(qB (t3 k 59 77 138)),(qB (t3 k 63 189 34)),(qB (t3 k 108 48 212)),(qB (t3 k 235 114 243)),(qB (t3 k 98 70 23)),(qB (t3 k 84 183 86)),(qB (t3 k 91 180 51)),(qB (t3 k 161 147 171)),(qB (t3 k 186 203 67)),(qB (t3 k 67 183 56)),(qB (t3 k 60 205 19)),(qB (t3 k 6 188 242)),(qB (t3 k 132 78 54)),(qB (t3 k 180 120 204)),(qB (t3 k 56 238 189)),(qB (t3 k 77 193 65)),(qB (t3 k 83 185 73)),(qB (t3 k 144 15 62)),(qB (t3 k 62 123 30)),(qB (t3 k 43 229 73)),(qB (t3 k 155 4 73)),(qB (t3 k 19 100 30)),(qB (t3 k 221 62 148)),(qB (t3 k 73 85 215)),(qB (t3 k 145 94 134)),(qB (t3 k 25 27 220)),(qB (t3 k 19 139 100)),(qB (t3 k 240 159 73)),(qB (t3 k 7 198 119)),(qB (t3 k 231 68 27)),(qB (t3 k 191 164 136)),(qB (t3 k 44 90 48)),(qI 0),(qI 1)]))),
 (4317,cN (.cells (List.append [(qU 0),(qU (ln k 98 100))] (List.append (hB k) [(qI 20),qT,(qI 5),qT])))),
 (4402,cN (.cells (List.append [(qU 0),(qU (ln k 98 100))] (List.append (hB k) [(qI 20),qF,(qI 5),qT])))),
 (4515,cN (.cells (List.append [(qI 4),(qW 3),(qU 0),(qU 0),(qB (ln k 0 1))] (List.append (qR 31 (qB 42)) [(qI 0),(qI 0)])))),
 (4539,cN (.cells ((qR 250 qTop)))),
 (4609,cN (.cells ((qR 242 qTop)))),
 (4693,cN (.cells (List.append [(qI 4),(qW 2),(qU 0),(qU 0),(qB (ln k 0 1))] (List.append (qR 31 (qB 42)) [(qI 0),(qI 0)])))),
 (4717,cN (.cells ((qR 250 qTop)))),
 (4729,cN (.cells ([(qI 0),(qI 0)])))] 4730
theorem yi20_0:okS qSm 29 345 (zi20 0) (iterF fL 4 (mkT (zi16 0).vs) (mkH (zi16 0).kp (zi16 0).bs) (zi16 0).nx)=true:=by kernel_rfl
theorem yi20_1:okS qSm 29 345 (zi20 1) (iterF fL 4 (mkT (zi16 1).vs) (mkH (zi16 1).kp (zi16 1).bs) (zi16 1).nx)=true:=by kernel_rfl
theorem yi20_2:okS qSm 29 345 (zi20 2) (iterF fL 4 (mkT (zi16 2).vs) (mkH (zi16 2).kp (zi16 2).bs) (zi16 2).nx)=true:=by kernel_rfl
noncomputable def zi21 (k:Nat):SS:=dif (zi20 k) [(10,(qI 21)),(13,(qL 5230 0 2 1)),(2,(qI 21))] [16,17,18,19,20,21,22,23,24,25,26,29,30,31,32,33,34,35,36,37,40,41,42,43,44,45,46,47,48,51,52,53,54,55,56,57,58,59,61,68,69,70,71,73,80,81,82,83,93,94,95,96,98,105,106,107,108,118,119,120,121,123,130,131,132,133,135,252,608,1232,1513,1543,1598,2034,2913,3464,4317,4609,4794,4868,4951,4975,5014,5097,5121,5190,5214,5230] [(16,cC [(0,(t3 k (qX 47 0x002d04000000010000000000000000002a2a2a2a2a2a2a2a2a2a2a2a2a2a2a2a2a2a2a2a2a2a2a2a2a2a2a2a2a2a2a) (qX 47 0x002d04000000010000000000000000012a2a2a2a2a2a2a2a2a2a2a2a2a2a2a2a2a2a2a2a2a2a2a2a2a2a2a2a2a2a2a) (qX 47 0x002d04000000010000000000000000022a2a2a2a2a2a2a2a2a2a2a2a2a2a2a2a2a2a2a2a2a2a2a2a2a2a2a2a2a2a2a))),(1,(t3 k (qX 41 0x002706000000020002ec90385d87b4c935bd128ed59cc20377a6f70d1d3431a83bca9759099177adac) (qX 41 0x0027060000000200025c10360a3f277e4add729c0793d9715a45a366feb71a2f7e4feffc52a1601d66) (qX 41 0x002706000000020002114d4ecf2ec1e60fe92cde1414dfabe5dbcacb7bab510c5640f14852ec5f2752))),(1,(t3 k (qX 41 0x002706000000030002f509005c22a4dc2089a60c029a301274a81423becdade71ace53d7e6ee47eb9e) (qX 41 0x002706000000030002e694ba2409ea17f190fe573b4153f876bb332390db158ae83ada8ed05ea99778) (qX 41 0x0027060000000300022c293b888e8161868eff226fa87f71bcd557bbc66ec5f0f1f1c8aa30b8ac8719)))]),
 (29,cN (.map [])),
 (30,cN (.map [])),
 (33,cN (.map [((.agg ⟨(hB k)⟩),(.agg ⟨List.append [(qB (ln k 0 1))] (qR 31 (qB 42))⟩))])),
 (71,cC [(5,(qI 21))]),
 (80,cC [(626,(qL 5190 0 1 38))]),
 (81,cC [(1,(qL 5214 0 250 1)),(0,(qI 5))]),
 (83,cC [(5,(qI 21))]),
 (94,cC [(1,(qL 4794 0 242 1)),(0,(qI 5))]),
 (96,cC [(5,(qI 21))]),
 (105,cC [(37,(qI 2)),(1,qT),(7,(qL 4868 0 1 38)),(578,(.slice none 0 0)),(0,(qL 4951 0 2 38))]),
 (106,cC [(1,(qL 4975 0 265 1)),(0,(qI 6))]),
 (108,cC [(5,(qI 21))]),
 (121,cC [(5,(qI 21))]),
 (130,cC [(37,(qI 2)),(1,qT),(7,(qL 5014 0 1 38)),(578,(.slice none 0 0)),(0,(qL 5097 0 2 38))]),
 (131,cC [(1,(qL 5121 0 265 1)),(0,(qI 6))]),
 (133,cC [(5,(qI 21))]),
 (1598,cC [(36,(qI 5)),(0,qT)]),
 (2913,cC [(36,(qI 5)),(0,qT)]),
 (4794,cN (.cells ((qR 242 qTop)))),
 (4868,cN (.cells (List.append [(qU 0),(qU (ln k 100 100))] (List.append (hB k) [(qI 30),qF,(qI 6),qT])))),
 (4951,cN (.cells (List.append [(qI 4),(qW 2),(qU 0),(qU 0),(qB (ln k 0 1))] (List.append (qR 31 (qB 42)) [(qI 0),(qI 0),(qI 6),(qW 2),(qU 0),(qU 0),(qB (t3 k 236 92 17)),(qB (t3 k 144 16 77)),(qB (t3 k 56 54 78)),(qB (t3 k 93 10 207)),(qB (t3 k 135 63 46)),(qB (t3 k 180 39 193)),(qB (t3 k 201 126 230)),(qB (t3 k 53 74 15)),(qB (t3 k 189 221 233)),(qB (t3 k 18 114 44)),(qB (t3 k 142 156 222)),(qB (t3 k 213 7 20)),(qB (t3 k 156 147 20)),(qB (t3 k 194 217 223)),(qB (t3 k 3 113 171)),(qB (t3 k 119 90 229)),(qB (t3 k 166 69 219)),(qB (t3 k 247 163 202)),(qB (t3 k 13 102 203)),(qB (t3 k 29 254 123)),(qB (t3 k 52 183 171)),(qB (t3 k 49 26 81)),(qB (t3 k 168 47 12)),(qB (t3 k 59 126 86)),(qB (t3 k 202 79 64)),(qB (t3 k 151 239 241)),(qB (t3 k 89 252 72)),(qB (t3 k 9 82 82)),(qB (t3 k 145 161 236)),(qB (t3 k 119 96 95)),(qB (t3 k 173 29 39)),(qB (t3 k 172 102 82)),(qI 0),(qI 2)])))),
 (4975,cN (.cells ((qR 265 qTop)))),
 (5014,cN (.cells (List.append [(qU 0),(qU (ln k 98 100))] (List.append (hB k) [(qI 20),qF,(qI 6),qT])))),
 (5097,cN (.cells (List.append [(qI 4),(qW 3),(qU 0),(qU 0),(qB (ln k 0 1))] (List.append (qR 31 (qB 42)) [(qI 0),(qI 0),(qI 6),(qW 3),(qU 0),(qU 0),(qB (t3 k 245 230 44)),(qB (t3 k 9 148 41)),(qB (t3 k 0 186 59)),(qB (t3 k 92 36 136)),(qB (t3 k 34 9 142)),(qB (t3 k 164 234 129)),(qB (t3 k 220 23 97)),(qB (t3 k 32 241 134)),(qB (t3 k 137 144 142)),(qB (t3 k 166 254 255)),(qB (t3 k 12 87 34)),(qB (t3 k 2 59 111)),(qB (t3 k 154 65 168)),(qB (t3 k 48 83 127)),(qB (t3 k 18 248 113)),(qB (t3 k 116 118 188)),(qB (t3 k 168 187 213)),(qB (t3 k 20 51 87)),(qB (t3 k 35 35 187)),(qB (t3 k 190 144 198)),(qB (t3 k 205 219 110)),(qB (t3 k 173 21 197)),(qB (t3 k 231 138 240)),(qB (t3 k 26 232 241)),(qB (t3 k 206 58 241)),(qB (t3 k 83 218 200)),(qB (t3 k 215 142 170)),(qB (t3 k 230 208 48)),(qB (t3 k 238 94 184)),(qB (t3 k 71 169 172)),(qB (t3 k 235 151 135)),(qB (t3 k 158 120 25)),(qI 0),(qI 2)])))),
 (5121,cN (.cells ((qR 265 qTop)))),
 (5190,cN (.cells (List.append [(qI 4),(qW 1),(qU 0),(qU 0),(qB (ln k 0 1))] (List.append (qR 31 (qB 42)) [(qI 0),(qI 0)])))),
 (5214,cN (.cells ((qR 250 qTop)))),
 (5230,cN (.cells ([(qI 0),(qI 0)])))] 5231
theorem yi21_0:okS qSm 29 345 (zi21 0) (iterF fL 1 (mkT (zi20 0).vs) (mkH (zi20 0).kp (zi20 0).bs) (zi20 0).nx)=true:=by kernel_rfl
theorem yi21_1:okS qSm 29 345 (zi21 1) (iterF fL 1 (mkT (zi20 1).vs) (mkH (zi20 1).kp (zi20 1).bs) (zi20 1).nx)=true:=by kernel_rfl
theorem yi21_2:okS qSm 29 345 (zi21 2) (iterF fL 1 (mkT (zi20 2).vs) (mkH (zi20 2).kp (zi20 2).bs) (zi20 2).nx)=true:=by kernel_rfl
noncomputable def zi22 (k:Nat):SS:=dif (zi21 k) [(10,(qI 22)),(13,(qL 5824 0 2 1)),(2,(qI 22))] [16,17,18,19,20,21,22,23,24,25,26,29,30,31,32,33,34,35,36,37,40,41,42,43,44,45,46,47,48,51,52,53,54,55,56,57,58,59,61,68,69,70,71,73,80,81,82,83,93,94,95,96,98,105,106,107,108,118,119,120,121,123,130,131,132,133,135,252,608,1232,1513,1598,2034,3464,4951,5097,5190,5214,5295,5432,5462,5519,5543,5677,5707,5764,5788,5824] [(16,cN (.cells ((qR 6 (qS []))))),
 (22,cN (.map [((.agg ⟨(hB k)⟩),(.agg ⟨List.append [(qB (ln k 0 1))] (qR 31 (qB 42))⟩))])),
 (24,cN (.map [((.agg ⟨[(qI 0),(qU 0)]⟩),(.agg ⟨List.append [(qI 2),(qB (ln k 0 1))] (qR 31 (qB 42))⟩))])),
 (69,cC [(1,(qL 5295 0 242 1)),(0,(qI 5))]),
 (71,cC [(5,(qI 22))]),
 (83,cC [(5,(qI 22))]),
 (93,cC [(38,(qI 2)),(8,(qL 5432 0 1 38))]),
 (94,cC [(1,(qL 5462 0 296 1)),(0,(qI 6))]),
 (96,cC [(5,(qI 22))]),
 (105,cC [(39,qF),(7,(qL 5519 0 1 38)),(34,qT),(0,(qI 65534)),(0,(qB 172)),(0,(qB 219)),(0,(qB 236)),(0,(qB 16)),(0,(qB 146)),(0,(qB 77)),(0,(qB 103)),(0,(qB 42)),(0,(qB 29)),(0,(qB 2)),(0,(qB 145)),(0,(qB 66)),(0,(qB 195)),(0,(qB 96)),(0,(qB 197)),(0,(qB 194)),(0,(qB 166)),(0,(qB 128)),(0,(qB 64)),(0,(qB 210)),(0,(qB 255)),(0,(qB 82)),(0,(qB 1)),(0,(qB 213)),(0,(qB 198)),(0,(qB 193)),(0,(qB 31)),(0,(qB 145)),(0,(qB 208)),(0,(qB 168)),(0,(qB 255)),(0,(qB 72))]),
 (106,cC [(1,(qL 5543 0 319 1)),(0,(qI 7))]),
 (108,cC [(5,(qI 22))]),
 (118,cC [(38,(qI 2)),(8,(qL 5677 0 1 38))]),
 (119,cC [(1,(qL 5707 0 296 1)),(0,(qI 6))]),
 (121,cC [(5,(qI 22))]),
 (130,cC [(39,qF),(7,(qL 5764 0 1 38)),(34,qT),(0,(qI 65534)),(0,(qB 70)),(0,(qB 110)),(0,(qB 113)),(0,(qB 199)),(0,(qB 133)),(0,(qB 248)),(0,(qB 186)),(0,(qB 194)),(0,(qB 121)),(0,(qB 48)),(0,(qB 188)),(0,(qB 96)),(0,(qB 20)),(0,(qB 98)),(0,(qB 26)),(0,(qB 7)),(0,(qB 224)),(0,(qB 96)),(0,(qB 113)),(0,(qB 117)),(0,(qB 9)),(0,(qB 85)),(0,(qB 75)),(0,(qB 209)),(0,(qB 154)),(0,(qB 15)),(0,(qB 15)),(0,(qB 122)),(0,(qB 59)),(0,(qB 127)),(0,(qB 129)),(0,(qB 195))]),
 (131,cC [(1,(qL 5788 0 319 1)),(0,(qI 7))]),
 (133,cC [(5,(qI 22))]),
 (1513,cC [(36,(qI 5)),(0,qT)]),
 (5295,cN (.cells ((qR 242 qTop)))),
 (5432,cN (.cells (List.append [(qU 0),(qU (ln k 100 100))] (List.append (hB k) [(qI 30),qT,(qI 7),qT])))),
 (5462,cN (.cells ((qR 296 qTop)))),
 (5519,cN (.cells (List.append [(qU 0),(qU (ln k 100 100))] (List.append (hB k) [(qI 30),qF,(qI 7),qT])))),
 (5543,cN (.cells ((qR 319 qTop)))),
 (5677,cN (.cells (List.append [(qU 0),(qU (ln k 98 100))] (List.append (hB k) [(qI 20),qT,(qI 7),qT])))),
 (5707,cN (.cells ((qR 296 qTop)))),
 (5764,cN (.cells (List.append [(qU 0),(qU (ln k 98 100))] (List.append (hB k) [(qI 20),qF,(qI 7),qT])))),
 (5788,cN (.cells ((qR 319 qTop)))),
 (5824,cN (.cells ([(qI 0),(qI 0)])))] 5825
theorem yi22_0:okS qSm 29 345 (zi22 0) (iterF fL 1 (mkT (zi21 0).vs) (mkH (zi21 0).kp (zi21 0).bs) (zi21 0).nx)=true:=by kernel_rfl
theorem yi22_1:okS qSm 29 345 (zi22 1) (iterF fL 1 (mkT (zi21 1).vs) (mkH (zi21 1).kp (zi21 1).bs) (zi21 1).nx)=true:=by kernel_rfl
theorem yi22_2:okS qSm 29 345 (zi22 2) (iterF fL 1 (mkT (zi21 2).vs) (mkH (zi21 2).kp (zi21 2).bs) (zi21 2).nx)=true:=by kernel_rfl
end SX
end Go.Proofs.YtdebnbgjgkbmaaaGreatDoor
