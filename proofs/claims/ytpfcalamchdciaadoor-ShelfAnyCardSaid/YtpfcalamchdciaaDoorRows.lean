/-
  NARROWER THAN 'FOR EVERY INPUT', by the rows' own cells (each row's printed sentence says how): SecretCan: laid · DigestSums: laid · DigestBlocks: laid · DigestPads: laid · DigestFolds: laid · DigestParts: laid · SealLong: laid · SealMixes: laid · SealTags: laid · SealTurned: laid · SecretSteps: laid · SecretFar: laid · SecretTells: laid · SecretDerives: laid · ShelfTwice: laid · ShelfOther: laid · ShelfAny: laid · ShelfAll: laid.
  DERIVED. THE GIVEN ROWS OF THIS SEAT. 18 by the template 'for every input the law returns true; each argument reads behind the call as it read before'; 0 by the template 'total and deterministic' (their statements: YtpfcalamchdciaaDoorTotals.lean).
  GIVEN WITH THE SEED: the statements are not yours to turn. If you find one false, say at which input.
  Laid BY PROGRAM, IN A SANDBOX (cutbox-rows.mjs): the forced cells as the released guide's own fill.sh prints them over the translation 280171a050493335… (all of the seat's roots in one cut). By AI agents, Wed Nov 11 2026. No macro, syntax, notation, axiom, sorry.
-/
import Derived.Test.YtpfcalamchdciaaDoorChecked
import GoSem.Claim
import GoSem.ClaimJoined
import GoSem.ClaimMapViews
import Derived.JoinedTies
import Derived.KernelRfl
namespace Go.Proofs.YtpfcalamchdciaaDoor
/- THE CELL 'sum', in the pinned program and in every row, IS THE sha256 OF THE DUMP (.gsa) THAT YtpfcalamchdciaaDoorProg.lean LOADS. Nothing in Lean hashes anything: it is a label: what it is worth is what the hold of that sum in a sandbox is worth. -/
noncomputable def Tryd.pinned : Pinned := { name := "ytpfcalamchdciaadoor", sum := "280171a0504933350633f10028e8d79d96ee02703170664c26c6c74c0e5e29fc", checked := Tryd.checked }
namespace Rows
def none {H : Type} : Left H := { results := [], args := [] }

/- WHAT THE LISTED PACKAGE-LEVEL VARIABLES READ AS WHEN THE CALL BEGINS. Each datum BY PROGRAM (the guide's laid-datum.mjs) off the statement by which the dump's own 'gosem.cut.vars' lays the variable. In a bare row this is a premise. The card (YtpfcalamchdciaaDoorCards.lean) ties it to the program's text. -/
def laid_math_bits_deBruijn32tab {H : Type} : DataW H := .agg [.lit (.int .u8 0), .lit (.int .u8 1), .lit (.int .u8 28), .lit (.int .u8 2), .lit (.int .u8 29), .lit (.int .u8 14), .lit (.int .u8 24), .lit (.int .u8 3), .lit (.int .u8 30), .lit (.int .u8 22), .lit (.int .u8 20), .lit (.int .u8 15), .lit (.int .u8 25), .lit (.int .u8 17), .lit (.int .u8 4), .lit (.int .u8 8), .lit (.int .u8 31), .lit (.int .u8 27), .lit (.int .u8 13), .lit (.int .u8 23), .lit (.int .u8 21), .lit (.int .u8 19), .lit (.int .u8 16), .lit (.int .u8 7), .lit (.int .u8 26), .lit (.int .u8 12), .lit (.int .u8 18), .lit (.int .u8 6), .lit (.int .u8 11), .lit (.int .u8 5), .lit (.int .u8 10), .lit (.int .u8 9)]
def laid_math_bits_deBruijn64tab {H : Type} : DataW H := .agg [.lit (.int .u8 0), .lit (.int .u8 1), .lit (.int .u8 56), .lit (.int .u8 2), .lit (.int .u8 57), .lit (.int .u8 49), .lit (.int .u8 28), .lit (.int .u8 3), .lit (.int .u8 61), .lit (.int .u8 58), .lit (.int .u8 42), .lit (.int .u8 50), .lit (.int .u8 38), .lit (.int .u8 29), .lit (.int .u8 17), .lit (.int .u8 4), .lit (.int .u8 62), .lit (.int .u8 47), .lit (.int .u8 59), .lit (.int .u8 36), .lit (.int .u8 45), .lit (.int .u8 43), .lit (.int .u8 51), .lit (.int .u8 22), .lit (.int .u8 53), .lit (.int .u8 39), .lit (.int .u8 33), .lit (.int .u8 30), .lit (.int .u8 24), .lit (.int .u8 18), .lit (.int .u8 12), .lit (.int .u8 5), .lit (.int .u8 63), .lit (.int .u8 55), .lit (.int .u8 48), .lit (.int .u8 27), .lit (.int .u8 60), .lit (.int .u8 41), .lit (.int .u8 37), .lit (.int .u8 16), .lit (.int .u8 46), .lit (.int .u8 35), .lit (.int .u8 44), .lit (.int .u8 21), .lit (.int .u8 52), .lit (.int .u8 32), .lit (.int .u8 23), .lit (.int .u8 11), .lit (.int .u8 54), .lit (.int .u8 26), .lit (.int .u8 40), .lit (.int .u8 15), .lit (.int .u8 34), .lit (.int .u8 20), .lit (.int .u8 31), .lit (.int .u8 10), .lit (.int .u8 25), .lit (.int .u8 14), .lit (.int .u8 19), .lit (.int .u8 9), .lit (.int .u8 13), .lit (.int .u8 8), .lit (.int .u8 7), .lit (.int .u8 6)]
def laid_remitter_digest_begin {H : Type} : DataW H := .agg [.lit (.int .u32 1779033703), .lit (.int .u32 3144134277), .lit (.int .u32 1013904242), .lit (.int .u32 2773480762), .lit (.int .u32 1359893119), .lit (.int .u32 2600822924), .lit (.int .u32 528734635), .lit (.int .u32 1541459225)]
def laid_remitter_digest_table {H : Type} : DataW H := .agg [.lit (.int .u32 1116352408), .lit (.int .u32 1899447441), .lit (.int .u32 3049323471), .lit (.int .u32 3921009573), .lit (.int .u32 961987163), .lit (.int .u32 1508970993), .lit (.int .u32 2453635748), .lit (.int .u32 2870763221), .lit (.int .u32 3624381080), .lit (.int .u32 310598401), .lit (.int .u32 607225278), .lit (.int .u32 1426881987), .lit (.int .u32 1925078388), .lit (.int .u32 2162078206), .lit (.int .u32 2614888103), .lit (.int .u32 3248222580), .lit (.int .u32 3835390401), .lit (.int .u32 4022224774), .lit (.int .u32 264347078), .lit (.int .u32 604807628), .lit (.int .u32 770255983), .lit (.int .u32 1249150122), .lit (.int .u32 1555081692), .lit (.int .u32 1996064986), .lit (.int .u32 2554220882), .lit (.int .u32 2821834349), .lit (.int .u32 2952996808), .lit (.int .u32 3210313671), .lit (.int .u32 3336571891), .lit (.int .u32 3584528711), .lit (.int .u32 113926993), .lit (.int .u32 338241895), .lit (.int .u32 666307205), .lit (.int .u32 773529912), .lit (.int .u32 1294757372), .lit (.int .u32 1396182291), .lit (.int .u32 1695183700), .lit (.int .u32 1986661051), .lit (.int .u32 2177026350), .lit (.int .u32 2456956037), .lit (.int .u32 2730485921), .lit (.int .u32 2820302411), .lit (.int .u32 3259730800), .lit (.int .u32 3345764771), .lit (.int .u32 3516065817), .lit (.int .u32 3600352804), .lit (.int .u32 4094571909), .lit (.int .u32 275423344), .lit (.int .u32 430227734), .lit (.int .u32 506948616), .lit (.int .u32 659060556), .lit (.int .u32 883997877), .lit (.int .u32 958139571), .lit (.int .u32 1322822218), .lit (.int .u32 1537002063), .lit (.int .u32 1747873779), .lit (.int .u32 1955562222), .lit (.int .u32 2024104815), .lit (.int .u32 2227730452), .lit (.int .u32 2361852424), .lit (.int .u32 2428436474), .lit (.int .u32 2756734187), .lit (.int .u32 3204031479), .lit (.int .u32 3329325298)]

/-- 'remitterlaw04.SecretCan': WHATEVER THE INPUT: true; the input reads as it did. -/
def secretCanSpec : ChangeSpec := { name := "secretCan", fn := fun _ => fun
  | [d1, d2, d3] => { results := [.lit (.bool true)], args := [d1, d2, d3] }
  | _ => none }
def secretCanRow : OpenClaim := { program := "ytpfcalamchdciaadoor", sum := "280171a0504933350633f10028e8d79d96ee02703170664c26c6c74c0e5e29fc", func := "remitter/remitterlaw04.SecretCan", spec := "secretCan", named := ["math/bits.deBruijn32tab", "math/bits.deBruijn64tab"], apart := false, laid := [("math/bits.deBruijn32tab", laid_math_bits_deBruijn32tab), ("math/bits.deBruijn64tab", laid_math_bits_deBruijn64tab)] }
def SecretCanSaid : Prop := secretCanRow.holds Tryd.pinned (OpenSpec.ofChange secretCanSpec)

/-- ITS FALSE NEIGHBOUR: 'it returns false'. Refute it at one input. -/
def secretCanWrong : ChangeSpec := { name := "secretCan", fn := fun _ => fun
  | [d1, d2, d3] => { results := [.lit (.bool false)], args := [d1, d2, d3] }
  | _ => none }
def SecretCanWrongFalsely : Prop := secretCanRow.holds Tryd.pinned (OpenSpec.ofChange secretCanWrong)

/-- 'remitterlaw02.DigestSums': WHATEVER THE INPUT: true; the input reads as it did. -/
def digestSumsSpec : ChangeSpec := { name := "digestSums", fn := fun _ => fun
  | [d] => { results := [.lit (.bool true)], args := [d] }
  | _ => none }
def digestSumsRow : OpenClaim := { program := "ytpfcalamchdciaadoor", sum := "280171a0504933350633f10028e8d79d96ee02703170664c26c6c74c0e5e29fc", func := "remitter/remitterlaw02.DigestSums", spec := "digestSums", named := ["remitter/digest.begin", "remitter/digest.table"], apart := false, laid := [("remitter/digest.begin", laid_remitter_digest_begin), ("remitter/digest.table", laid_remitter_digest_table)] }
def DigestSumsSaid : Prop := digestSumsRow.holds Tryd.pinned (OpenSpec.ofChange digestSumsSpec)

/-- ITS FALSE NEIGHBOUR: 'it returns false'. Refute it at one input. -/
def digestSumsWrong : ChangeSpec := { name := "digestSums", fn := fun _ => fun
  | [d] => { results := [.lit (.bool false)], args := [d] }
  | _ => none }
def DigestSumsWrongFalsely : Prop := digestSumsRow.holds Tryd.pinned (OpenSpec.ofChange digestSumsWrong)

/-- 'remitterlaw02.DigestBlocks': WHATEVER THE INPUT: true; the input reads as it did. -/
def digestBlocksSpec : ChangeSpec := { name := "digestBlocks", fn := fun _ => fun
  | [d1, d2] => { results := [.lit (.bool true)], args := [d1, d2] }
  | _ => none }
def digestBlocksRow : OpenClaim := { program := "ytpfcalamchdciaadoor", sum := "280171a0504933350633f10028e8d79d96ee02703170664c26c6c74c0e5e29fc", func := "remitter/remitterlaw02.DigestBlocks", spec := "digestBlocks", named := ["remitter/digest.begin", "remitter/digest.table"], apart := false, laid := [("remitter/digest.begin", laid_remitter_digest_begin), ("remitter/digest.table", laid_remitter_digest_table)] }
def DigestBlocksSaid : Prop := digestBlocksRow.holds Tryd.pinned (OpenSpec.ofChange digestBlocksSpec)

/-- ITS FALSE NEIGHBOUR: 'it returns false'. Refute it at one input. -/
def digestBlocksWrong : ChangeSpec := { name := "digestBlocks", fn := fun _ => fun
  | [d1, d2] => { results := [.lit (.bool false)], args := [d1, d2] }
  | _ => none }
def DigestBlocksWrongFalsely : Prop := digestBlocksRow.holds Tryd.pinned (OpenSpec.ofChange digestBlocksWrong)

/-- 'remitterlaw02.DigestPads': WHATEVER THE INPUT: true; the input reads as it did. -/
def digestPadsSpec : ChangeSpec := { name := "digestPads", fn := fun _ => fun
  | [d] => { results := [.lit (.bool true)], args := [d] }
  | _ => none }
def digestPadsRow : OpenClaim := { program := "ytpfcalamchdciaadoor", sum := "280171a0504933350633f10028e8d79d96ee02703170664c26c6c74c0e5e29fc", func := "remitter/remitterlaw02.DigestPads", spec := "digestPads", named := ["remitter/digest.begin", "remitter/digest.table"], apart := false, laid := [("remitter/digest.begin", laid_remitter_digest_begin), ("remitter/digest.table", laid_remitter_digest_table)] }
def DigestPadsSaid : Prop := digestPadsRow.holds Tryd.pinned (OpenSpec.ofChange digestPadsSpec)

/-- ITS FALSE NEIGHBOUR: 'it returns false'. Refute it at one input. -/
def digestPadsWrong : ChangeSpec := { name := "digestPads", fn := fun _ => fun
  | [d] => { results := [.lit (.bool false)], args := [d] }
  | _ => none }
def DigestPadsWrongFalsely : Prop := digestPadsRow.holds Tryd.pinned (OpenSpec.ofChange digestPadsWrong)

/-- 'remitterlaw02.DigestFolds': WHATEVER THE INPUT: true; the input reads as it did. -/
def digestFoldsSpec : ChangeSpec := { name := "digestFolds", fn := fun _ => fun
  | [d] => { results := [.lit (.bool true)], args := [d] }
  | _ => none }
def digestFoldsRow : OpenClaim := { program := "ytpfcalamchdciaadoor", sum := "280171a0504933350633f10028e8d79d96ee02703170664c26c6c74c0e5e29fc", func := "remitter/remitterlaw02.DigestFolds", spec := "digestFolds", named := ["remitter/digest.begin", "remitter/digest.table"], apart := false, laid := [("remitter/digest.begin", laid_remitter_digest_begin), ("remitter/digest.table", laid_remitter_digest_table)] }
def DigestFoldsSaid : Prop := digestFoldsRow.holds Tryd.pinned (OpenSpec.ofChange digestFoldsSpec)

/-- ITS FALSE NEIGHBOUR: 'it returns false'. Refute it at one input. -/
def digestFoldsWrong : ChangeSpec := { name := "digestFolds", fn := fun _ => fun
  | [d] => { results := [.lit (.bool false)], args := [d] }
  | _ => none }
def DigestFoldsWrongFalsely : Prop := digestFoldsRow.holds Tryd.pinned (OpenSpec.ofChange digestFoldsWrong)

/-- 'remitterlaw02.DigestParts': WHATEVER THE INPUT: true; the input reads as it did. -/
def digestPartsSpec : ChangeSpec := { name := "digestParts", fn := fun _ => fun
  | [d] => { results := [.lit (.bool true)], args := [d] }
  | _ => none }
def digestPartsRow : OpenClaim := { program := "ytpfcalamchdciaadoor", sum := "280171a0504933350633f10028e8d79d96ee02703170664c26c6c74c0e5e29fc", func := "remitter/remitterlaw02.DigestParts", spec := "digestParts", named := ["remitter/digest.begin", "remitter/digest.table"], apart := false, laid := [("remitter/digest.begin", laid_remitter_digest_begin), ("remitter/digest.table", laid_remitter_digest_table)] }
def DigestPartsSaid : Prop := digestPartsRow.holds Tryd.pinned (OpenSpec.ofChange digestPartsSpec)

/-- ITS FALSE NEIGHBOUR: 'it returns false'. Refute it at one input. -/
def digestPartsWrong : ChangeSpec := { name := "digestParts", fn := fun _ => fun
  | [d] => { results := [.lit (.bool false)], args := [d] }
  | _ => none }
def DigestPartsWrongFalsely : Prop := digestPartsRow.holds Tryd.pinned (OpenSpec.ofChange digestPartsWrong)

/-- 'remitterlaw03.SealLong': WHATEVER THE INPUT: true; the input reads as it did. -/
def sealLongSpec : ChangeSpec := { name := "sealLong", fn := fun _ => fun
  | [d1, d2, d3] => { results := [.lit (.bool true)], args := [d1, d2, d3] }
  | _ => none }
def sealLongRow : OpenClaim := { program := "ytpfcalamchdciaadoor", sum := "280171a0504933350633f10028e8d79d96ee02703170664c26c6c74c0e5e29fc", func := "remitter/remitterlaw03.SealLong", spec := "sealLong", unfollowed := true, recurses := true, named := ["remitter/digest.begin", "remitter/digest.table"], apart := false, laid := [("remitter/digest.begin", laid_remitter_digest_begin), ("remitter/digest.table", laid_remitter_digest_table)] }
def SealLongSaid : Prop := sealLongRow.holds Tryd.pinned (OpenSpec.ofChange sealLongSpec)

/-- ITS FALSE NEIGHBOUR: 'it returns false'. Refute it at one input. -/
def sealLongWrong : ChangeSpec := { name := "sealLong", fn := fun _ => fun
  | [d1, d2, d3] => { results := [.lit (.bool false)], args := [d1, d2, d3] }
  | _ => none }
def SealLongWrongFalsely : Prop := sealLongRow.holds Tryd.pinned (OpenSpec.ofChange sealLongWrong)

/-- 'remitterlaw03.SealMixes': WHATEVER THE INPUT: true; the input reads as it did. -/
def sealMixesSpec : ChangeSpec := { name := "sealMixes", fn := fun _ => fun
  | [d1, d2] => { results := [.lit (.bool true)], args := [d1, d2] }
  | _ => none }
def sealMixesRow : OpenClaim := { program := "ytpfcalamchdciaadoor", sum := "280171a0504933350633f10028e8d79d96ee02703170664c26c6c74c0e5e29fc", func := "remitter/remitterlaw03.SealMixes", spec := "sealMixes", unfollowed := true, recurses := true, named := ["remitter/digest.begin", "remitter/digest.table"], apart := false, laid := [("remitter/digest.begin", laid_remitter_digest_begin), ("remitter/digest.table", laid_remitter_digest_table)] }
def SealMixesSaid : Prop := sealMixesRow.holds Tryd.pinned (OpenSpec.ofChange sealMixesSpec)

/-- ITS FALSE NEIGHBOUR: 'it returns false'. Refute it at one input. -/
def sealMixesWrong : ChangeSpec := { name := "sealMixes", fn := fun _ => fun
  | [d1, d2] => { results := [.lit (.bool false)], args := [d1, d2] }
  | _ => none }
def SealMixesWrongFalsely : Prop := sealMixesRow.holds Tryd.pinned (OpenSpec.ofChange sealMixesWrong)

/-- 'remitterlaw03.SealTags': WHATEVER THE INPUT: true; the input reads as it did. -/
def sealTagsSpec : ChangeSpec := { name := "sealTags", fn := fun _ => fun
  | [d1, d2, d3, d4] => { results := [.lit (.bool true)], args := [d1, d2, d3, d4] }
  | _ => none }
def sealTagsRow : OpenClaim := { program := "ytpfcalamchdciaadoor", sum := "280171a0504933350633f10028e8d79d96ee02703170664c26c6c74c0e5e29fc", func := "remitter/remitterlaw03.SealTags", spec := "sealTags", unfollowed := true, recurses := true, named := ["remitter/digest.begin", "remitter/digest.table"], apart := false, laid := [("remitter/digest.begin", laid_remitter_digest_begin), ("remitter/digest.table", laid_remitter_digest_table)] }
def SealTagsSaid : Prop := sealTagsRow.holds Tryd.pinned (OpenSpec.ofChange sealTagsSpec)

/-- ITS FALSE NEIGHBOUR: 'it returns false'. Refute it at one input. -/
def sealTagsWrong : ChangeSpec := { name := "sealTags", fn := fun _ => fun
  | [d1, d2, d3, d4] => { results := [.lit (.bool false)], args := [d1, d2, d3, d4] }
  | _ => none }
def SealTagsWrongFalsely : Prop := sealTagsRow.holds Tryd.pinned (OpenSpec.ofChange sealTagsWrong)

/-- 'remitterlaw03.SealTurned': WHATEVER THE INPUT: true; the input reads as it did. -/
def sealTurnedSpec : ChangeSpec := { name := "sealTurned", fn := fun _ => fun
  | [d1, d2, d3] => { results := [.lit (.bool true)], args := [d1, d2, d3] }
  | _ => none }
def sealTurnedRow : OpenClaim := { program := "ytpfcalamchdciaadoor", sum := "280171a0504933350633f10028e8d79d96ee02703170664c26c6c74c0e5e29fc", func := "remitter/remitterlaw03.SealTurned", spec := "sealTurned", unfollowed := true, recurses := true, named := ["remitter/digest.begin", "remitter/digest.table"], apart := false, laid := [("remitter/digest.begin", laid_remitter_digest_begin), ("remitter/digest.table", laid_remitter_digest_table)] }
def SealTurnedSaid : Prop := sealTurnedRow.holds Tryd.pinned (OpenSpec.ofChange sealTurnedSpec)

/-- ITS FALSE NEIGHBOUR: 'it returns false'. Refute it at one input. -/
def sealTurnedWrong : ChangeSpec := { name := "sealTurned", fn := fun _ => fun
  | [d1, d2, d3] => { results := [.lit (.bool false)], args := [d1, d2, d3] }
  | _ => none }
def SealTurnedWrongFalsely : Prop := sealTurnedRow.holds Tryd.pinned (OpenSpec.ofChange sealTurnedWrong)

/-- 'remitterlaw04.SecretSteps': WHATEVER THE INPUT: true; the input reads as it did. -/
def secretStepsSpec : ChangeSpec := { name := "secretSteps", fn := fun _ => fun
  | [d1, d2] => { results := [.lit (.bool true)], args := [d1, d2] }
  | _ => none }
def secretStepsRow : OpenClaim := { program := "ytpfcalamchdciaadoor", sum := "280171a0504933350633f10028e8d79d96ee02703170664c26c6c74c0e5e29fc", func := "remitter/remitterlaw04.SecretSteps", spec := "secretSteps", unfollowed := true, recurses := true, named := ["remitter/digest.begin", "remitter/digest.table", "math/bits.deBruijn32tab", "math/bits.deBruijn64tab"], apart := false, laid := [("math/bits.deBruijn32tab", laid_math_bits_deBruijn32tab), ("math/bits.deBruijn64tab", laid_math_bits_deBruijn64tab), ("remitter/digest.begin", laid_remitter_digest_begin), ("remitter/digest.table", laid_remitter_digest_table)] }
def SecretStepsSaid : Prop := secretStepsRow.holds Tryd.pinned (OpenSpec.ofChange secretStepsSpec)

/-- ITS FALSE NEIGHBOUR: 'it returns false'. Refute it at one input. -/
def secretStepsWrong : ChangeSpec := { name := "secretSteps", fn := fun _ => fun
  | [d1, d2] => { results := [.lit (.bool false)], args := [d1, d2] }
  | _ => none }
def SecretStepsWrongFalsely : Prop := secretStepsRow.holds Tryd.pinned (OpenSpec.ofChange secretStepsWrong)

/-- 'remitterlaw04.SecretFar': WHATEVER THE INPUT: true; the input reads as it did. -/
def secretFarSpec : ChangeSpec := { name := "secretFar", fn := fun _ => fun
  | [d1, d2, d3, d4] => { results := [.lit (.bool true)], args := [d1, d2, d3, d4] }
  | _ => none }
def secretFarRow : OpenClaim := { program := "ytpfcalamchdciaadoor", sum := "280171a0504933350633f10028e8d79d96ee02703170664c26c6c74c0e5e29fc", func := "remitter/remitterlaw04.SecretFar", spec := "secretFar", unfollowed := true, recurses := true, named := ["math/bits.deBruijn32tab", "math/bits.deBruijn64tab", "remitter/digest.begin", "remitter/digest.table"], apart := false, laid := [("math/bits.deBruijn32tab", laid_math_bits_deBruijn32tab), ("math/bits.deBruijn64tab", laid_math_bits_deBruijn64tab), ("remitter/digest.begin", laid_remitter_digest_begin), ("remitter/digest.table", laid_remitter_digest_table)] }
def SecretFarSaid : Prop := secretFarRow.holds Tryd.pinned (OpenSpec.ofChange secretFarSpec)

/-- ITS FALSE NEIGHBOUR: 'it returns false'. Refute it at one input. -/
def secretFarWrong : ChangeSpec := { name := "secretFar", fn := fun _ => fun
  | [d1, d2, d3, d4] => { results := [.lit (.bool false)], args := [d1, d2, d3, d4] }
  | _ => none }
def SecretFarWrongFalsely : Prop := secretFarRow.holds Tryd.pinned (OpenSpec.ofChange secretFarWrong)

/-- 'remitterlaw04.SecretTells': WHATEVER THE INPUT: true; the input reads as it did. -/
def secretTellsSpec : ChangeSpec := { name := "secretTells", fn := fun _ => fun
  | [d1, d2, d3] => { results := [.lit (.bool true)], args := [d1, d2, d3] }
  | _ => none }
def secretTellsRow : OpenClaim := { program := "ytpfcalamchdciaadoor", sum := "280171a0504933350633f10028e8d79d96ee02703170664c26c6c74c0e5e29fc", func := "remitter/remitterlaw04.SecretTells", spec := "secretTells", unfollowed := true, recurses := true, named := ["remitter/digest.begin", "remitter/digest.table", "math/bits.deBruijn32tab", "math/bits.deBruijn64tab"], apart := false, laid := [("math/bits.deBruijn32tab", laid_math_bits_deBruijn32tab), ("math/bits.deBruijn64tab", laid_math_bits_deBruijn64tab), ("remitter/digest.begin", laid_remitter_digest_begin), ("remitter/digest.table", laid_remitter_digest_table)] }
def SecretTellsSaid : Prop := secretTellsRow.holds Tryd.pinned (OpenSpec.ofChange secretTellsSpec)

/-- ITS FALSE NEIGHBOUR: 'it returns false'. Refute it at one input. -/
def secretTellsWrong : ChangeSpec := { name := "secretTells", fn := fun _ => fun
  | [d1, d2, d3] => { results := [.lit (.bool false)], args := [d1, d2, d3] }
  | _ => none }
def SecretTellsWrongFalsely : Prop := secretTellsRow.holds Tryd.pinned (OpenSpec.ofChange secretTellsWrong)

/-- 'remitterlaw04.SecretDerives': WHATEVER THE INPUT: true; the input reads as it did. -/
def secretDerivesSpec : ChangeSpec := { name := "secretDerives", fn := fun _ => fun
  | [d1, d2, d3] => { results := [.lit (.bool true)], args := [d1, d2, d3] }
  | _ => none }
def secretDerivesRow : OpenClaim := { program := "ytpfcalamchdciaadoor", sum := "280171a0504933350633f10028e8d79d96ee02703170664c26c6c74c0e5e29fc", func := "remitter/remitterlaw04.SecretDerives", spec := "secretDerives", unfollowed := true, recurses := true, named := ["remitter/digest.begin", "remitter/digest.table", "math/bits.deBruijn32tab", "math/bits.deBruijn64tab"], apart := false, laid := [("math/bits.deBruijn32tab", laid_math_bits_deBruijn32tab), ("math/bits.deBruijn64tab", laid_math_bits_deBruijn64tab), ("remitter/digest.begin", laid_remitter_digest_begin), ("remitter/digest.table", laid_remitter_digest_table)] }
def SecretDerivesSaid : Prop := secretDerivesRow.holds Tryd.pinned (OpenSpec.ofChange secretDerivesSpec)

/-- ITS FALSE NEIGHBOUR: 'it returns false'. Refute it at one input. -/
def secretDerivesWrong : ChangeSpec := { name := "secretDerives", fn := fun _ => fun
  | [d1, d2, d3] => { results := [.lit (.bool false)], args := [d1, d2, d3] }
  | _ => none }
def SecretDerivesWrongFalsely : Prop := secretDerivesRow.holds Tryd.pinned (OpenSpec.ofChange secretDerivesWrong)

/-- 'remitterlaw05.ShelfTwice': WHATEVER THE INPUT: true; the input reads as it did. -/
def shelfTwiceSpec : ChangeSpec := { name := "shelfTwice", fn := fun _ => fun
  | [d1, d2, d3, d4] => { results := [.lit (.bool true)], args := [d1, d2, d3, d4] }
  | _ => none }
def shelfTwiceRow : OpenClaim := { program := "ytpfcalamchdciaadoor", sum := "280171a0504933350633f10028e8d79d96ee02703170664c26c6c74c0e5e29fc", func := "remitter/remitterlaw05.ShelfTwice", spec := "shelfTwice", unfollowed := true, recurses := true, named := ["math/bits.deBruijn32tab", "math/bits.deBruijn64tab", "remitter/digest.begin", "remitter/digest.table"], apart := false, laid := [("math/bits.deBruijn32tab", laid_math_bits_deBruijn32tab), ("math/bits.deBruijn64tab", laid_math_bits_deBruijn64tab), ("remitter/digest.begin", laid_remitter_digest_begin), ("remitter/digest.table", laid_remitter_digest_table)] }
def ShelfTwiceSaid : Prop := shelfTwiceRow.holds Tryd.pinned (OpenSpec.ofChange shelfTwiceSpec)

/-- ITS FALSE NEIGHBOUR: 'it returns false'. Refute it at one input. -/
def shelfTwiceWrong : ChangeSpec := { name := "shelfTwice", fn := fun _ => fun
  | [d1, d2, d3, d4] => { results := [.lit (.bool false)], args := [d1, d2, d3, d4] }
  | _ => none }
def ShelfTwiceWrongFalsely : Prop := shelfTwiceRow.holds Tryd.pinned (OpenSpec.ofChange shelfTwiceWrong)

/-- 'remitterlaw05.ShelfOther': WHATEVER THE INPUT: true; the input reads as it did. -/
def shelfOtherSpec : ChangeSpec := { name := "shelfOther", fn := fun _ => fun
  | [d1, d2, d3] => { results := [.lit (.bool true)], args := [d1, d2, d3] }
  | _ => none }
def shelfOtherRow : OpenClaim := { program := "ytpfcalamchdciaadoor", sum := "280171a0504933350633f10028e8d79d96ee02703170664c26c6c74c0e5e29fc", func := "remitter/remitterlaw05.ShelfOther", spec := "shelfOther", unfollowed := true, recurses := true, named := ["math/bits.deBruijn32tab", "math/bits.deBruijn64tab", "remitter/digest.begin", "remitter/digest.table"], apart := false, laid := [("math/bits.deBruijn32tab", laid_math_bits_deBruijn32tab), ("math/bits.deBruijn64tab", laid_math_bits_deBruijn64tab), ("remitter/digest.begin", laid_remitter_digest_begin), ("remitter/digest.table", laid_remitter_digest_table)] }
def ShelfOtherSaid : Prop := shelfOtherRow.holds Tryd.pinned (OpenSpec.ofChange shelfOtherSpec)

/-- ITS FALSE NEIGHBOUR: 'it returns false'. Refute it at one input. -/
def shelfOtherWrong : ChangeSpec := { name := "shelfOther", fn := fun _ => fun
  | [d1, d2, d3] => { results := [.lit (.bool false)], args := [d1, d2, d3] }
  | _ => none }
def ShelfOtherWrongFalsely : Prop := shelfOtherRow.holds Tryd.pinned (OpenSpec.ofChange shelfOtherWrong)

/-- 'remitterlaw05.ShelfAny': WHATEVER THE INPUT: true; the input reads as it did. -/
def shelfAnySpec : ChangeSpec := { name := "shelfAny", fn := fun _ => fun
  | [d1, d2, d3] => { results := [.lit (.bool true)], args := [d1, d2, d3] }
  | _ => none }
def shelfAnyRow : OpenClaim := { program := "ytpfcalamchdciaadoor", sum := "280171a0504933350633f10028e8d79d96ee02703170664c26c6c74c0e5e29fc", func := "remitter/remitterlaw05.ShelfAny", spec := "shelfAny", unfollowed := true, recurses := true, named := ["math/bits.deBruijn32tab", "math/bits.deBruijn64tab", "remitter/digest.begin", "remitter/digest.table"], apart := false, laid := [("math/bits.deBruijn32tab", laid_math_bits_deBruijn32tab), ("math/bits.deBruijn64tab", laid_math_bits_deBruijn64tab), ("remitter/digest.begin", laid_remitter_digest_begin), ("remitter/digest.table", laid_remitter_digest_table)] }
def ShelfAnySaid : Prop := shelfAnyRow.holds Tryd.pinned (OpenSpec.ofChange shelfAnySpec)

/-- ITS FALSE NEIGHBOUR: 'it returns false'. Refute it at one input. -/
def shelfAnyWrong : ChangeSpec := { name := "shelfAny", fn := fun _ => fun
  | [d1, d2, d3] => { results := [.lit (.bool false)], args := [d1, d2, d3] }
  | _ => none }
def ShelfAnyWrongFalsely : Prop := shelfAnyRow.holds Tryd.pinned (OpenSpec.ofChange shelfAnyWrong)

/-- 'remitterlaw05.ShelfAll': WHATEVER THE INPUT: true; the input reads as it did. -/
def shelfAllSpec : ChangeSpec := { name := "shelfAll", fn := fun _ => fun
  | [d1, d2, d3, d4] => { results := [.lit (.bool true)], args := [d1, d2, d3, d4] }
  | _ => none }
def shelfAllRow : OpenClaim := { program := "ytpfcalamchdciaadoor", sum := "280171a0504933350633f10028e8d79d96ee02703170664c26c6c74c0e5e29fc", func := "remitter/remitterlaw05.ShelfAll", spec := "shelfAll", unfollowed := true, recurses := true, named := ["math/bits.deBruijn32tab", "math/bits.deBruijn64tab", "remitter/digest.begin", "remitter/digest.table"], apart := false, laid := [("math/bits.deBruijn32tab", laid_math_bits_deBruijn32tab), ("math/bits.deBruijn64tab", laid_math_bits_deBruijn64tab), ("remitter/digest.begin", laid_remitter_digest_begin), ("remitter/digest.table", laid_remitter_digest_table)] }
def ShelfAllSaid : Prop := shelfAllRow.holds Tryd.pinned (OpenSpec.ofChange shelfAllSpec)

/-- ITS FALSE NEIGHBOUR: 'it returns false'. Refute it at one input. -/
def shelfAllWrong : ChangeSpec := { name := "shelfAll", fn := fun _ => fun
  | [d1, d2, d3, d4] => { results := [.lit (.bool false)], args := [d1, d2, d3, d4] }
  | _ => none }
def ShelfAllWrongFalsely : Prop := shelfAllRow.holds Tryd.pinned (OpenSpec.ofChange shelfAllWrong)

/- THE SECOND FORM. 'bulk': how many values and letters a reading holds, each counted each time it is reached (what is shared counts as often as it is met; a slice's spare places count too). A statement '..UptoSaid' is the law's where the arguments, and the package variables that the reading takes, are together of bulk at most 1048576: NARROWER than '..Said'. Prove '..Said' where nothing that the law and all that it calls make is longer than what came in: it says more and counts as full. Else prove '..UptoSaid'. A law counts once. -/
mutual
def uptoBulk {H : Type} : DataW H → Nat
  | .lit (.string bytes) => bytes.length + 1
  | .lit _ => 1
  | .nil => 1
  | .ptr d => uptoBulk d + 1
  | .slice elems spare => uptoBulkAll elems + uptoBulkAll spare + 1
  | .agg parts => uptoBulkAll parts + 1
  | .iface _ d => uptoBulk d + 1
  | .map entries => uptoBulkEntries entries + 1
  | .held _ => 1
def uptoBulkAll {H : Type} : List (DataW H) → Nat
  | [] => 0
  | d :: r => uptoBulk d + uptoBulkAll r
def uptoBulkEntries {H : Type} : List (Lit × DataW H) → Nat
  | [] => 0
  | x :: r => uptoBulkEntry x + uptoBulkEntries r
def uptoBulkEntry {H : Type} : Lit × DataW H → Nat
  | (.string bytes, d) => bytes.length + uptoBulk d + 1
  | (_, d) => uptoBulk d + 1
 end
def uptoSmall : (H : Type) → List (DataW H) → Bool := fun _ ds => decide (uptoBulkAll ds ≤ 1048576)
def OpenSpec.upto (s : _root_.Go.ChangeSpec) : _root_.Go.OpenSpec := { _root_.Go.OpenSpec.ofChange s with cond := some uptoSmall }

/-- 'remitterlaw04.SecretCan', WHERE WHAT IT READS IS OF BULK AT MOST 1048576: true; the input reads as it did. -/
def secretCanUptoRow : OpenClaim := { program := "ytpfcalamchdciaadoor", sum := "280171a0504933350633f10028e8d79d96ee02703170664c26c6c74c0e5e29fc", func := "remitter/remitterlaw04.SecretCan", spec := "secretCan", named := ["math/bits.deBruijn32tab", "math/bits.deBruijn64tab"], apart := false, laid := [("math/bits.deBruijn32tab", laid_math_bits_deBruijn32tab), ("math/bits.deBruijn64tab", laid_math_bits_deBruijn64tab)], narrowed := true }
def SecretCanUptoSaid : Prop := secretCanUptoRow.holds Tryd.pinned (OpenSpec.upto secretCanSpec)

/-- 'remitterlaw02.DigestSums', WHERE WHAT IT READS IS OF BULK AT MOST 1048576: true; the input reads as it did. -/
def digestSumsUptoRow : OpenClaim := { program := "ytpfcalamchdciaadoor", sum := "280171a0504933350633f10028e8d79d96ee02703170664c26c6c74c0e5e29fc", func := "remitter/remitterlaw02.DigestSums", spec := "digestSums", named := ["remitter/digest.begin", "remitter/digest.table"], apart := false, laid := [("remitter/digest.begin", laid_remitter_digest_begin), ("remitter/digest.table", laid_remitter_digest_table)], narrowed := true }
def DigestSumsUptoSaid : Prop := digestSumsUptoRow.holds Tryd.pinned (OpenSpec.upto digestSumsSpec)

/-- 'remitterlaw02.DigestBlocks', WHERE WHAT IT READS IS OF BULK AT MOST 1048576: true; the input reads as it did. -/
def digestBlocksUptoRow : OpenClaim := { program := "ytpfcalamchdciaadoor", sum := "280171a0504933350633f10028e8d79d96ee02703170664c26c6c74c0e5e29fc", func := "remitter/remitterlaw02.DigestBlocks", spec := "digestBlocks", named := ["remitter/digest.begin", "remitter/digest.table"], apart := false, laid := [("remitter/digest.begin", laid_remitter_digest_begin), ("remitter/digest.table", laid_remitter_digest_table)], narrowed := true }
def DigestBlocksUptoSaid : Prop := digestBlocksUptoRow.holds Tryd.pinned (OpenSpec.upto digestBlocksSpec)

/-- 'remitterlaw02.DigestPads', WHERE WHAT IT READS IS OF BULK AT MOST 1048576: true; the input reads as it did. -/
def digestPadsUptoRow : OpenClaim := { program := "ytpfcalamchdciaadoor", sum := "280171a0504933350633f10028e8d79d96ee02703170664c26c6c74c0e5e29fc", func := "remitter/remitterlaw02.DigestPads", spec := "digestPads", named := ["remitter/digest.begin", "remitter/digest.table"], apart := false, laid := [("remitter/digest.begin", laid_remitter_digest_begin), ("remitter/digest.table", laid_remitter_digest_table)], narrowed := true }
def DigestPadsUptoSaid : Prop := digestPadsUptoRow.holds Tryd.pinned (OpenSpec.upto digestPadsSpec)

/-- 'remitterlaw02.DigestFolds', WHERE WHAT IT READS IS OF BULK AT MOST 1048576: true; the input reads as it did. -/
def digestFoldsUptoRow : OpenClaim := { program := "ytpfcalamchdciaadoor", sum := "280171a0504933350633f10028e8d79d96ee02703170664c26c6c74c0e5e29fc", func := "remitter/remitterlaw02.DigestFolds", spec := "digestFolds", named := ["remitter/digest.begin", "remitter/digest.table"], apart := false, laid := [("remitter/digest.begin", laid_remitter_digest_begin), ("remitter/digest.table", laid_remitter_digest_table)], narrowed := true }
def DigestFoldsUptoSaid : Prop := digestFoldsUptoRow.holds Tryd.pinned (OpenSpec.upto digestFoldsSpec)

/-- 'remitterlaw02.DigestParts', WHERE WHAT IT READS IS OF BULK AT MOST 1048576: true; the input reads as it did. -/
def digestPartsUptoRow : OpenClaim := { program := "ytpfcalamchdciaadoor", sum := "280171a0504933350633f10028e8d79d96ee02703170664c26c6c74c0e5e29fc", func := "remitter/remitterlaw02.DigestParts", spec := "digestParts", named := ["remitter/digest.begin", "remitter/digest.table"], apart := false, laid := [("remitter/digest.begin", laid_remitter_digest_begin), ("remitter/digest.table", laid_remitter_digest_table)], narrowed := true }
def DigestPartsUptoSaid : Prop := digestPartsUptoRow.holds Tryd.pinned (OpenSpec.upto digestPartsSpec)

/-- 'remitterlaw03.SealLong', WHERE WHAT IT READS IS OF BULK AT MOST 1048576: true; the input reads as it did. -/
def sealLongUptoRow : OpenClaim := { program := "ytpfcalamchdciaadoor", sum := "280171a0504933350633f10028e8d79d96ee02703170664c26c6c74c0e5e29fc", func := "remitter/remitterlaw03.SealLong", spec := "sealLong", unfollowed := true, recurses := true, named := ["remitter/digest.begin", "remitter/digest.table"], apart := false, laid := [("remitter/digest.begin", laid_remitter_digest_begin), ("remitter/digest.table", laid_remitter_digest_table)], narrowed := true }
def SealLongUptoSaid : Prop := sealLongUptoRow.holds Tryd.pinned (OpenSpec.upto sealLongSpec)

/-- 'remitterlaw03.SealMixes', WHERE WHAT IT READS IS OF BULK AT MOST 1048576: true; the input reads as it did. -/
def sealMixesUptoRow : OpenClaim := { program := "ytpfcalamchdciaadoor", sum := "280171a0504933350633f10028e8d79d96ee02703170664c26c6c74c0e5e29fc", func := "remitter/remitterlaw03.SealMixes", spec := "sealMixes", unfollowed := true, recurses := true, named := ["remitter/digest.begin", "remitter/digest.table"], apart := false, laid := [("remitter/digest.begin", laid_remitter_digest_begin), ("remitter/digest.table", laid_remitter_digest_table)], narrowed := true }
def SealMixesUptoSaid : Prop := sealMixesUptoRow.holds Tryd.pinned (OpenSpec.upto sealMixesSpec)

/-- 'remitterlaw03.SealTags', WHERE WHAT IT READS IS OF BULK AT MOST 1048576: true; the input reads as it did. -/
def sealTagsUptoRow : OpenClaim := { program := "ytpfcalamchdciaadoor", sum := "280171a0504933350633f10028e8d79d96ee02703170664c26c6c74c0e5e29fc", func := "remitter/remitterlaw03.SealTags", spec := "sealTags", unfollowed := true, recurses := true, named := ["remitter/digest.begin", "remitter/digest.table"], apart := false, laid := [("remitter/digest.begin", laid_remitter_digest_begin), ("remitter/digest.table", laid_remitter_digest_table)], narrowed := true }
def SealTagsUptoSaid : Prop := sealTagsUptoRow.holds Tryd.pinned (OpenSpec.upto sealTagsSpec)

/-- 'remitterlaw03.SealTurned', WHERE WHAT IT READS IS OF BULK AT MOST 1048576: true; the input reads as it did. -/
def sealTurnedUptoRow : OpenClaim := { program := "ytpfcalamchdciaadoor", sum := "280171a0504933350633f10028e8d79d96ee02703170664c26c6c74c0e5e29fc", func := "remitter/remitterlaw03.SealTurned", spec := "sealTurned", unfollowed := true, recurses := true, named := ["remitter/digest.begin", "remitter/digest.table"], apart := false, laid := [("remitter/digest.begin", laid_remitter_digest_begin), ("remitter/digest.table", laid_remitter_digest_table)], narrowed := true }
def SealTurnedUptoSaid : Prop := sealTurnedUptoRow.holds Tryd.pinned (OpenSpec.upto sealTurnedSpec)

/-- 'remitterlaw04.SecretSteps', WHERE WHAT IT READS IS OF BULK AT MOST 1048576: true; the input reads as it did. -/
def secretStepsUptoRow : OpenClaim := { program := "ytpfcalamchdciaadoor", sum := "280171a0504933350633f10028e8d79d96ee02703170664c26c6c74c0e5e29fc", func := "remitter/remitterlaw04.SecretSteps", spec := "secretSteps", unfollowed := true, recurses := true, named := ["remitter/digest.begin", "remitter/digest.table", "math/bits.deBruijn32tab", "math/bits.deBruijn64tab"], apart := false, laid := [("math/bits.deBruijn32tab", laid_math_bits_deBruijn32tab), ("math/bits.deBruijn64tab", laid_math_bits_deBruijn64tab), ("remitter/digest.begin", laid_remitter_digest_begin), ("remitter/digest.table", laid_remitter_digest_table)], narrowed := true }
def SecretStepsUptoSaid : Prop := secretStepsUptoRow.holds Tryd.pinned (OpenSpec.upto secretStepsSpec)

/-- 'remitterlaw04.SecretFar', WHERE WHAT IT READS IS OF BULK AT MOST 1048576: true; the input reads as it did. -/
def secretFarUptoRow : OpenClaim := { program := "ytpfcalamchdciaadoor", sum := "280171a0504933350633f10028e8d79d96ee02703170664c26c6c74c0e5e29fc", func := "remitter/remitterlaw04.SecretFar", spec := "secretFar", unfollowed := true, recurses := true, named := ["math/bits.deBruijn32tab", "math/bits.deBruijn64tab", "remitter/digest.begin", "remitter/digest.table"], apart := false, laid := [("math/bits.deBruijn32tab", laid_math_bits_deBruijn32tab), ("math/bits.deBruijn64tab", laid_math_bits_deBruijn64tab), ("remitter/digest.begin", laid_remitter_digest_begin), ("remitter/digest.table", laid_remitter_digest_table)], narrowed := true }
def SecretFarUptoSaid : Prop := secretFarUptoRow.holds Tryd.pinned (OpenSpec.upto secretFarSpec)

/-- 'remitterlaw04.SecretTells', WHERE WHAT IT READS IS OF BULK AT MOST 1048576: true; the input reads as it did. -/
def secretTellsUptoRow : OpenClaim := { program := "ytpfcalamchdciaadoor", sum := "280171a0504933350633f10028e8d79d96ee02703170664c26c6c74c0e5e29fc", func := "remitter/remitterlaw04.SecretTells", spec := "secretTells", unfollowed := true, recurses := true, named := ["remitter/digest.begin", "remitter/digest.table", "math/bits.deBruijn32tab", "math/bits.deBruijn64tab"], apart := false, laid := [("math/bits.deBruijn32tab", laid_math_bits_deBruijn32tab), ("math/bits.deBruijn64tab", laid_math_bits_deBruijn64tab), ("remitter/digest.begin", laid_remitter_digest_begin), ("remitter/digest.table", laid_remitter_digest_table)], narrowed := true }
def SecretTellsUptoSaid : Prop := secretTellsUptoRow.holds Tryd.pinned (OpenSpec.upto secretTellsSpec)

/-- 'remitterlaw04.SecretDerives', WHERE WHAT IT READS IS OF BULK AT MOST 1048576: true; the input reads as it did. -/
def secretDerivesUptoRow : OpenClaim := { program := "ytpfcalamchdciaadoor", sum := "280171a0504933350633f10028e8d79d96ee02703170664c26c6c74c0e5e29fc", func := "remitter/remitterlaw04.SecretDerives", spec := "secretDerives", unfollowed := true, recurses := true, named := ["remitter/digest.begin", "remitter/digest.table", "math/bits.deBruijn32tab", "math/bits.deBruijn64tab"], apart := false, laid := [("math/bits.deBruijn32tab", laid_math_bits_deBruijn32tab), ("math/bits.deBruijn64tab", laid_math_bits_deBruijn64tab), ("remitter/digest.begin", laid_remitter_digest_begin), ("remitter/digest.table", laid_remitter_digest_table)], narrowed := true }
def SecretDerivesUptoSaid : Prop := secretDerivesUptoRow.holds Tryd.pinned (OpenSpec.upto secretDerivesSpec)

/-- 'remitterlaw05.ShelfTwice', WHERE WHAT IT READS IS OF BULK AT MOST 1048576: true; the input reads as it did. -/
def shelfTwiceUptoRow : OpenClaim := { program := "ytpfcalamchdciaadoor", sum := "280171a0504933350633f10028e8d79d96ee02703170664c26c6c74c0e5e29fc", func := "remitter/remitterlaw05.ShelfTwice", spec := "shelfTwice", unfollowed := true, recurses := true, named := ["math/bits.deBruijn32tab", "math/bits.deBruijn64tab", "remitter/digest.begin", "remitter/digest.table"], apart := false, laid := [("math/bits.deBruijn32tab", laid_math_bits_deBruijn32tab), ("math/bits.deBruijn64tab", laid_math_bits_deBruijn64tab), ("remitter/digest.begin", laid_remitter_digest_begin), ("remitter/digest.table", laid_remitter_digest_table)], narrowed := true }
def ShelfTwiceUptoSaid : Prop := shelfTwiceUptoRow.holds Tryd.pinned (OpenSpec.upto shelfTwiceSpec)

/-- 'remitterlaw05.ShelfOther', WHERE WHAT IT READS IS OF BULK AT MOST 1048576: true; the input reads as it did. -/
def shelfOtherUptoRow : OpenClaim := { program := "ytpfcalamchdciaadoor", sum := "280171a0504933350633f10028e8d79d96ee02703170664c26c6c74c0e5e29fc", func := "remitter/remitterlaw05.ShelfOther", spec := "shelfOther", unfollowed := true, recurses := true, named := ["math/bits.deBruijn32tab", "math/bits.deBruijn64tab", "remitter/digest.begin", "remitter/digest.table"], apart := false, laid := [("math/bits.deBruijn32tab", laid_math_bits_deBruijn32tab), ("math/bits.deBruijn64tab", laid_math_bits_deBruijn64tab), ("remitter/digest.begin", laid_remitter_digest_begin), ("remitter/digest.table", laid_remitter_digest_table)], narrowed := true }
def ShelfOtherUptoSaid : Prop := shelfOtherUptoRow.holds Tryd.pinned (OpenSpec.upto shelfOtherSpec)

/-- 'remitterlaw05.ShelfAny', WHERE WHAT IT READS IS OF BULK AT MOST 1048576: true; the input reads as it did. -/
def shelfAnyUptoRow : OpenClaim := { program := "ytpfcalamchdciaadoor", sum := "280171a0504933350633f10028e8d79d96ee02703170664c26c6c74c0e5e29fc", func := "remitter/remitterlaw05.ShelfAny", spec := "shelfAny", unfollowed := true, recurses := true, named := ["math/bits.deBruijn32tab", "math/bits.deBruijn64tab", "remitter/digest.begin", "remitter/digest.table"], apart := false, laid := [("math/bits.deBruijn32tab", laid_math_bits_deBruijn32tab), ("math/bits.deBruijn64tab", laid_math_bits_deBruijn64tab), ("remitter/digest.begin", laid_remitter_digest_begin), ("remitter/digest.table", laid_remitter_digest_table)], narrowed := true }
def ShelfAnyUptoSaid : Prop := shelfAnyUptoRow.holds Tryd.pinned (OpenSpec.upto shelfAnySpec)

/-- 'remitterlaw05.ShelfAll', WHERE WHAT IT READS IS OF BULK AT MOST 1048576: true; the input reads as it did. -/
def shelfAllUptoRow : OpenClaim := { program := "ytpfcalamchdciaadoor", sum := "280171a0504933350633f10028e8d79d96ee02703170664c26c6c74c0e5e29fc", func := "remitter/remitterlaw05.ShelfAll", spec := "shelfAll", unfollowed := true, recurses := true, named := ["math/bits.deBruijn32tab", "math/bits.deBruijn64tab", "remitter/digest.begin", "remitter/digest.table"], apart := false, laid := [("math/bits.deBruijn32tab", laid_math_bits_deBruijn32tab), ("math/bits.deBruijn64tab", laid_math_bits_deBruijn64tab), ("remitter/digest.begin", laid_remitter_digest_begin), ("remitter/digest.table", laid_remitter_digest_table)], narrowed := true }
def ShelfAllUptoSaid : Prop := shelfAllUptoRow.holds Tryd.pinned (OpenSpec.upto shelfAllSpec)

end Rows
end Go.Proofs.YtpfcalamchdciaaDoor
