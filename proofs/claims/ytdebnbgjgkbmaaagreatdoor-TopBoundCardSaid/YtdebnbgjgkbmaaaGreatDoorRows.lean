/-
  NARROWER THAN 'FOR EVERY INPUT', by the rows' own cells (each row's printed sentence says how): TopBound: laid · TopOrder: laid · TopHashes: laid · TopWire: laid · TopTags: laid · TopSeed: laid · TopFees: laid · TopAmounts: laid · TopLinks: laid · TopBoxes: laid · TopSecrets: laid · TopJournal: laid · TopCommitted: laid.
  DERIVED. THE GIVEN ROWS OF THIS SEAT. 13 by the template 'for every input the law returns true; each argument reads behind the call as it read before'; 0 by the template 'total and deterministic' (their statements: YtdebnbgjgkbmaaaGreatDoorTotals.lean).
  GIVEN WITH THE SEED: the statements are not yours to turn. If you find one false, say at which input.
  Laid BY PROGRAM, IN A SANDBOX (cutbox-rows.mjs): the forced cells as the released guide's own fill.sh prints them over the translation dc12eca133986886… (all of the seat's roots in one cut). By AI agents, Wed Nov 11 2026. No macro, syntax, notation, axiom, sorry.
-/
import Derived.Test.YtdebnbgjgkbmaaaGreatDoorChecked
import GoSem.Claim
import GoSem.ClaimJoined
import GoSem.ClaimMapViews
import Derived.JoinedTies
import Derived.KernelRfl
namespace Go.Proofs.YtdebnbgjgkbmaaaGreatDoor
/- THE CELL 'sum', in the pinned program and in every row, IS THE sha256 OF THE DUMP (.gsa) THAT YtdebnbgjgkbmaaaGreatDoorProg.lean LOADS. Nothing in Lean hashes anything: it is a label: what it is worth is what the hold of that sum in a sandbox is worth. -/
noncomputable def Tryz.pinned : Pinned := { name := "ytdebnbgjgkbmaaagreatdoor", sum := "dc12eca133986886f60e54f5079725e105e94bed91f2312b1f792cc0df97daee", checked := Tryz.checked }
namespace Rows
def none {H : Type} : Left H := { results := [], args := [] }

/- WHAT THE LISTED PACKAGE-LEVEL VARIABLES READ AS WHEN THE CALL BEGINS. Each datum BY PROGRAM (the guide's laid-datum.mjs) off the statement by which the dump's own 'gosem.cut.vars' lays the variable. In a bare row this is a premise. The card (YtdebnbgjgkbmaaaGreatDoorCards.lean) ties it to the program's text. -/
def laid_math_bits_deBruijn32tab {H : Type} : DataW H := .agg [.lit (.int .u8 0), .lit (.int .u8 1), .lit (.int .u8 28), .lit (.int .u8 2), .lit (.int .u8 29), .lit (.int .u8 14), .lit (.int .u8 24), .lit (.int .u8 3), .lit (.int .u8 30), .lit (.int .u8 22), .lit (.int .u8 20), .lit (.int .u8 15), .lit (.int .u8 25), .lit (.int .u8 17), .lit (.int .u8 4), .lit (.int .u8 8), .lit (.int .u8 31), .lit (.int .u8 27), .lit (.int .u8 13), .lit (.int .u8 23), .lit (.int .u8 21), .lit (.int .u8 19), .lit (.int .u8 16), .lit (.int .u8 7), .lit (.int .u8 26), .lit (.int .u8 12), .lit (.int .u8 18), .lit (.int .u8 6), .lit (.int .u8 11), .lit (.int .u8 5), .lit (.int .u8 10), .lit (.int .u8 9)]
def laid_math_bits_deBruijn64tab {H : Type} : DataW H := .agg [.lit (.int .u8 0), .lit (.int .u8 1), .lit (.int .u8 56), .lit (.int .u8 2), .lit (.int .u8 57), .lit (.int .u8 49), .lit (.int .u8 28), .lit (.int .u8 3), .lit (.int .u8 61), .lit (.int .u8 58), .lit (.int .u8 42), .lit (.int .u8 50), .lit (.int .u8 38), .lit (.int .u8 29), .lit (.int .u8 17), .lit (.int .u8 4), .lit (.int .u8 62), .lit (.int .u8 47), .lit (.int .u8 59), .lit (.int .u8 36), .lit (.int .u8 45), .lit (.int .u8 43), .lit (.int .u8 51), .lit (.int .u8 22), .lit (.int .u8 53), .lit (.int .u8 39), .lit (.int .u8 33), .lit (.int .u8 30), .lit (.int .u8 24), .lit (.int .u8 18), .lit (.int .u8 12), .lit (.int .u8 5), .lit (.int .u8 63), .lit (.int .u8 55), .lit (.int .u8 48), .lit (.int .u8 27), .lit (.int .u8 60), .lit (.int .u8 41), .lit (.int .u8 37), .lit (.int .u8 16), .lit (.int .u8 46), .lit (.int .u8 35), .lit (.int .u8 44), .lit (.int .u8 21), .lit (.int .u8 52), .lit (.int .u8 32), .lit (.int .u8 23), .lit (.int .u8 11), .lit (.int .u8 54), .lit (.int .u8 26), .lit (.int .u8 40), .lit (.int .u8 15), .lit (.int .u8 34), .lit (.int .u8 20), .lit (.int .u8 31), .lit (.int .u8 10), .lit (.int .u8 25), .lit (.int .u8 14), .lit (.int .u8 19), .lit (.int .u8 9), .lit (.int .u8 13), .lit (.int .u8 8), .lit (.int .u8 7), .lit (.int .u8 6)]
def laid_remitter_digest_begin {H : Type} : DataW H := .agg [.lit (.int .u32 1779033703), .lit (.int .u32 3144134277), .lit (.int .u32 1013904242), .lit (.int .u32 2773480762), .lit (.int .u32 1359893119), .lit (.int .u32 2600822924), .lit (.int .u32 528734635), .lit (.int .u32 1541459225)]
def laid_remitter_digest_table {H : Type} : DataW H := .agg [.lit (.int .u32 1116352408), .lit (.int .u32 1899447441), .lit (.int .u32 3049323471), .lit (.int .u32 3921009573), .lit (.int .u32 961987163), .lit (.int .u32 1508970993), .lit (.int .u32 2453635748), .lit (.int .u32 2870763221), .lit (.int .u32 3624381080), .lit (.int .u32 310598401), .lit (.int .u32 607225278), .lit (.int .u32 1426881987), .lit (.int .u32 1925078388), .lit (.int .u32 2162078206), .lit (.int .u32 2614888103), .lit (.int .u32 3248222580), .lit (.int .u32 3835390401), .lit (.int .u32 4022224774), .lit (.int .u32 264347078), .lit (.int .u32 604807628), .lit (.int .u32 770255983), .lit (.int .u32 1249150122), .lit (.int .u32 1555081692), .lit (.int .u32 1996064986), .lit (.int .u32 2554220882), .lit (.int .u32 2821834349), .lit (.int .u32 2952996808), .lit (.int .u32 3210313671), .lit (.int .u32 3336571891), .lit (.int .u32 3584528711), .lit (.int .u32 113926993), .lit (.int .u32 338241895), .lit (.int .u32 666307205), .lit (.int .u32 773529912), .lit (.int .u32 1294757372), .lit (.int .u32 1396182291), .lit (.int .u32 1695183700), .lit (.int .u32 1986661051), .lit (.int .u32 2177026350), .lit (.int .u32 2456956037), .lit (.int .u32 2730485921), .lit (.int .u32 2820302411), .lit (.int .u32 3259730800), .lit (.int .u32 3345764771), .lit (.int .u32 3516065817), .lit (.int .u32 3600352804), .lit (.int .u32 4094571909), .lit (.int .u32 275423344), .lit (.int .u32 430227734), .lit (.int .u32 506948616), .lit (.int .u32 659060556), .lit (.int .u32 883997877), .lit (.int .u32 958139571), .lit (.int .u32 1322822218), .lit (.int .u32 1537002063), .lit (.int .u32 1747873779), .lit (.int .u32 1955562222), .lit (.int .u32 2024104815), .lit (.int .u32 2227730452), .lit (.int .u32 2361852424), .lit (.int .u32 2428436474), .lit (.int .u32 2756734187), .lit (.int .u32 3204031479), .lit (.int .u32 3329325298)]
def laid_remitter_htlc_events {H : Type} : DataW H := .agg [.agg [.lit (.int .i64 3), .lit (.int .i64 4), .lit (.int .i64 1), .lit (.int .i64 2), .lit (.int .i64 0), .lit (.int .i64 1), .lit (.int .i64 2), .lit (.int .i64 3), .lit (.int .i64 4), .lit (.int .i64 0)], .agg [.lit (.int .i64 1), .lit (.int .i64 2), .lit (.int .i64 3), .lit (.int .i64 4), .lit (.int .i64 0), .lit (.int .i64 3), .lit (.int .i64 4), .lit (.int .i64 1), .lit (.int .i64 2), .lit (.int .i64 0)]]
def laid_remitter_htlc_spans {H : Type} : DataW H := .agg [.agg [.lit (.int .i64 1), .lit (.int .i64 7)], .agg [.lit (.int .i64 3), .lit (.int .i64 5)]]

/-- 'remittertop.TopBound': WHATEVER THE INPUT: true; the input reads as it did. -/
def topBoundSpec : ChangeSpec := { name := "topBound", fn := fun _ => fun
  | [d1, d2, d3] => { results := [.lit (.bool true)], args := [d1, d2, d3] }
  | _ => none }
def topBoundRow : OpenClaim := { program := "ytdebnbgjgkbmaaagreatdoor", sum := "dc12eca133986886f60e54f5079725e105e94bed91f2312b1f792cc0df97daee", func := "remitter/remittertop.TopBound", spec := "topBound", inPlace := ["internal/abi.NoEscape", "internal/bytealg.MakeNoZero"], unfollowed := true, recurses := true, named := ["remitter/digest.begin", "remitter/digest.table", "remitter/htlc.events", "remitter/htlc.spans", "math/bits.deBruijn32tab", "math/bits.deBruijn64tab", "math/bits.divideError", "math/bits.overflowError"], plainKeys := false, apart := false, laid := [("math/bits.deBruijn32tab", laid_math_bits_deBruijn32tab), ("math/bits.deBruijn64tab", laid_math_bits_deBruijn64tab), ("remitter/digest.begin", laid_remitter_digest_begin), ("remitter/digest.table", laid_remitter_digest_table), ("remitter/htlc.events", laid_remitter_htlc_events), ("remitter/htlc.spans", laid_remitter_htlc_spans)] }
def TopBoundSaid : Prop := topBoundRow.holds Tryz.pinned (OpenSpec.ofChange topBoundSpec)

/-- ITS FALSE NEIGHBOUR: 'it returns false'. Refute it at one input. -/
def topBoundWrong : ChangeSpec := { name := "topBound", fn := fun _ => fun
  | [d1, d2, d3] => { results := [.lit (.bool false)], args := [d1, d2, d3] }
  | _ => none }
def TopBoundWrongFalsely : Prop := topBoundRow.holds Tryz.pinned (OpenSpec.ofChange topBoundWrong)

/-- 'remittertop.TopOrder': WHATEVER THE INPUT: true; the input reads as it did. -/
def topOrderSpec : ChangeSpec := { name := "topOrder", fn := fun _ => fun
  | [d1, d2, d3, d4] => { results := [.lit (.bool true)], args := [d1, d2, d3, d4] }
  | _ => none }
def topOrderRow : OpenClaim := { program := "ytdebnbgjgkbmaaagreatdoor", sum := "dc12eca133986886f60e54f5079725e105e94bed91f2312b1f792cc0df97daee", func := "remitter/remittertop.TopOrder", spec := "topOrder", inPlace := ["internal/abi.NoEscape", "internal/bytealg.MakeNoZero"], unfollowed := true, recurses := true, named := ["remitter/digest.begin", "remitter/digest.table", "remitter/htlc.events", "remitter/htlc.spans", "math/bits.deBruijn32tab", "math/bits.deBruijn64tab", "math/bits.divideError", "math/bits.overflowError"], plainKeys := false, apart := false, laid := [("math/bits.deBruijn32tab", laid_math_bits_deBruijn32tab), ("math/bits.deBruijn64tab", laid_math_bits_deBruijn64tab), ("remitter/digest.begin", laid_remitter_digest_begin), ("remitter/digest.table", laid_remitter_digest_table), ("remitter/htlc.events", laid_remitter_htlc_events), ("remitter/htlc.spans", laid_remitter_htlc_spans)] }
def TopOrderSaid : Prop := topOrderRow.holds Tryz.pinned (OpenSpec.ofChange topOrderSpec)

/-- ITS FALSE NEIGHBOUR: 'it returns false'. Refute it at one input. -/
def topOrderWrong : ChangeSpec := { name := "topOrder", fn := fun _ => fun
  | [d1, d2, d3, d4] => { results := [.lit (.bool false)], args := [d1, d2, d3, d4] }
  | _ => none }
def TopOrderWrongFalsely : Prop := topOrderRow.holds Tryz.pinned (OpenSpec.ofChange topOrderWrong)

/-- 'remittertop.TopHashes': WHATEVER THE INPUT: true; the input reads as it did. -/
def topHashesSpec : ChangeSpec := { name := "topHashes", fn := fun _ => fun
  | [d1, d2] => { results := [.lit (.bool true)], args := [d1, d2] }
  | _ => none }
def topHashesRow : OpenClaim := { program := "ytdebnbgjgkbmaaagreatdoor", sum := "dc12eca133986886f60e54f5079725e105e94bed91f2312b1f792cc0df97daee", func := "remitter/remittertop.TopHashes", spec := "topHashes", inPlace := ["internal/abi.NoEscape", "internal/bytealg.MakeNoZero"], unfollowed := true, recurses := true, named := ["remitter/digest.begin", "remitter/digest.table", "remitter/htlc.events", "remitter/htlc.spans", "math/bits.deBruijn32tab", "math/bits.deBruijn64tab", "math/bits.divideError", "math/bits.overflowError"], plainKeys := false, apart := false, laid := [("math/bits.deBruijn32tab", laid_math_bits_deBruijn32tab), ("math/bits.deBruijn64tab", laid_math_bits_deBruijn64tab), ("remitter/digest.begin", laid_remitter_digest_begin), ("remitter/digest.table", laid_remitter_digest_table), ("remitter/htlc.events", laid_remitter_htlc_events), ("remitter/htlc.spans", laid_remitter_htlc_spans)] }
def TopHashesSaid : Prop := topHashesRow.holds Tryz.pinned (OpenSpec.ofChange topHashesSpec)

/-- ITS FALSE NEIGHBOUR: 'it returns false'. Refute it at one input. -/
def topHashesWrong : ChangeSpec := { name := "topHashes", fn := fun _ => fun
  | [d1, d2] => { results := [.lit (.bool false)], args := [d1, d2] }
  | _ => none }
def TopHashesWrongFalsely : Prop := topHashesRow.holds Tryz.pinned (OpenSpec.ofChange topHashesWrong)

/-- 'remittertop.TopWire': WHATEVER THE INPUT: true; the input reads as it did. -/
def topWireSpec : ChangeSpec := { name := "topWire", fn := fun _ => fun
  | [d1, d2] => { results := [.lit (.bool true)], args := [d1, d2] }
  | _ => none }
def topWireRow : OpenClaim := { program := "ytdebnbgjgkbmaaagreatdoor", sum := "dc12eca133986886f60e54f5079725e105e94bed91f2312b1f792cc0df97daee", func := "remitter/remittertop.TopWire", spec := "topWire", inPlace := ["internal/abi.NoEscape", "internal/bytealg.MakeNoZero"], unfollowed := true, recurses := true, named := ["remitter/digest.begin", "remitter/digest.table", "remitter/htlc.events", "remitter/htlc.spans", "math/bits.deBruijn32tab", "math/bits.deBruijn64tab", "math/bits.divideError", "math/bits.overflowError"], plainKeys := false, apart := false, laid := [("math/bits.deBruijn32tab", laid_math_bits_deBruijn32tab), ("math/bits.deBruijn64tab", laid_math_bits_deBruijn64tab), ("remitter/digest.begin", laid_remitter_digest_begin), ("remitter/digest.table", laid_remitter_digest_table), ("remitter/htlc.events", laid_remitter_htlc_events), ("remitter/htlc.spans", laid_remitter_htlc_spans)] }
def TopWireSaid : Prop := topWireRow.holds Tryz.pinned (OpenSpec.ofChange topWireSpec)

/-- ITS FALSE NEIGHBOUR: 'it returns false'. Refute it at one input. -/
def topWireWrong : ChangeSpec := { name := "topWire", fn := fun _ => fun
  | [d1, d2] => { results := [.lit (.bool false)], args := [d1, d2] }
  | _ => none }
def TopWireWrongFalsely : Prop := topWireRow.holds Tryz.pinned (OpenSpec.ofChange topWireWrong)

/-- 'remittertop.TopTags': WHATEVER THE INPUT: true; the input reads as it did. -/
def topTagsSpec : ChangeSpec := { name := "topTags", fn := fun _ => fun
  | [d1, d2, d3, d4] => { results := [.lit (.bool true)], args := [d1, d2, d3, d4] }
  | _ => none }
def topTagsRow : OpenClaim := { program := "ytdebnbgjgkbmaaagreatdoor", sum := "dc12eca133986886f60e54f5079725e105e94bed91f2312b1f792cc0df97daee", func := "remitter/remittertop.TopTags", spec := "topTags", inPlace := ["internal/abi.NoEscape", "internal/bytealg.MakeNoZero"], unfollowed := true, recurses := true, named := ["remitter/digest.begin", "remitter/digest.table", "remitter/htlc.events", "remitter/htlc.spans", "math/bits.deBruijn32tab", "math/bits.deBruijn64tab", "math/bits.divideError", "math/bits.overflowError"], plainKeys := false, apart := false, laid := [("math/bits.deBruijn32tab", laid_math_bits_deBruijn32tab), ("math/bits.deBruijn64tab", laid_math_bits_deBruijn64tab), ("remitter/digest.begin", laid_remitter_digest_begin), ("remitter/digest.table", laid_remitter_digest_table), ("remitter/htlc.events", laid_remitter_htlc_events), ("remitter/htlc.spans", laid_remitter_htlc_spans)] }
def TopTagsSaid : Prop := topTagsRow.holds Tryz.pinned (OpenSpec.ofChange topTagsSpec)

/-- ITS FALSE NEIGHBOUR: 'it returns false'. Refute it at one input. -/
def topTagsWrong : ChangeSpec := { name := "topTags", fn := fun _ => fun
  | [d1, d2, d3, d4] => { results := [.lit (.bool false)], args := [d1, d2, d3, d4] }
  | _ => none }
def TopTagsWrongFalsely : Prop := topTagsRow.holds Tryz.pinned (OpenSpec.ofChange topTagsWrong)

/-- 'remittertop.TopSeed': WHATEVER THE INPUT: true; the input reads as it did. -/
def topSeedSpec : ChangeSpec := { name := "topSeed", fn := fun _ => fun
  | [d1, d2, d3] => { results := [.lit (.bool true)], args := [d1, d2, d3] }
  | _ => none }
def topSeedRow : OpenClaim := { program := "ytdebnbgjgkbmaaagreatdoor", sum := "dc12eca133986886f60e54f5079725e105e94bed91f2312b1f792cc0df97daee", func := "remitter/remittertop.TopSeed", spec := "topSeed", inPlace := ["internal/abi.NoEscape", "internal/bytealg.MakeNoZero"], unfollowed := true, recurses := true, named := ["remitter/digest.begin", "remitter/digest.table", "remitter/htlc.events", "remitter/htlc.spans", "math/bits.deBruijn32tab", "math/bits.deBruijn64tab", "math/bits.divideError", "math/bits.overflowError"], plainKeys := false, apart := false, laid := [("math/bits.deBruijn32tab", laid_math_bits_deBruijn32tab), ("math/bits.deBruijn64tab", laid_math_bits_deBruijn64tab), ("remitter/digest.begin", laid_remitter_digest_begin), ("remitter/digest.table", laid_remitter_digest_table), ("remitter/htlc.events", laid_remitter_htlc_events), ("remitter/htlc.spans", laid_remitter_htlc_spans)] }
def TopSeedSaid : Prop := topSeedRow.holds Tryz.pinned (OpenSpec.ofChange topSeedSpec)

/-- ITS FALSE NEIGHBOUR: 'it returns false'. Refute it at one input. -/
def topSeedWrong : ChangeSpec := { name := "topSeed", fn := fun _ => fun
  | [d1, d2, d3] => { results := [.lit (.bool false)], args := [d1, d2, d3] }
  | _ => none }
def TopSeedWrongFalsely : Prop := topSeedRow.holds Tryz.pinned (OpenSpec.ofChange topSeedWrong)

/-- 'remittertop.TopFees': WHATEVER THE INPUT: true; the input reads as it did. -/
def topFeesSpec : ChangeSpec := { name := "topFees", fn := fun _ => fun
  | [d1, d2, d3, d4] => { results := [.lit (.bool true)], args := [d1, d2, d3, d4] }
  | _ => none }
def topFeesRow : OpenClaim := { program := "ytdebnbgjgkbmaaagreatdoor", sum := "dc12eca133986886f60e54f5079725e105e94bed91f2312b1f792cc0df97daee", func := "remitter/remittertop.TopFees", spec := "topFees", inPlace := ["internal/abi.NoEscape", "internal/bytealg.MakeNoZero"], unfollowed := true, recurses := true, named := ["remitter/digest.begin", "remitter/digest.table", "remitter/htlc.events", "remitter/htlc.spans", "math/bits.deBruijn32tab", "math/bits.deBruijn64tab", "math/bits.divideError", "math/bits.overflowError"], plainKeys := false, apart := false, laid := [("math/bits.deBruijn32tab", laid_math_bits_deBruijn32tab), ("math/bits.deBruijn64tab", laid_math_bits_deBruijn64tab), ("remitter/digest.begin", laid_remitter_digest_begin), ("remitter/digest.table", laid_remitter_digest_table), ("remitter/htlc.events", laid_remitter_htlc_events), ("remitter/htlc.spans", laid_remitter_htlc_spans)] }
def TopFeesSaid : Prop := topFeesRow.holds Tryz.pinned (OpenSpec.ofChange topFeesSpec)

/-- ITS FALSE NEIGHBOUR: 'it returns false'. Refute it at one input. -/
def topFeesWrong : ChangeSpec := { name := "topFees", fn := fun _ => fun
  | [d1, d2, d3, d4] => { results := [.lit (.bool false)], args := [d1, d2, d3, d4] }
  | _ => none }
def TopFeesWrongFalsely : Prop := topFeesRow.holds Tryz.pinned (OpenSpec.ofChange topFeesWrong)

/-- 'remittertop.TopAmounts': WHATEVER THE INPUT: true; the input reads as it did. -/
def topAmountsSpec : ChangeSpec := { name := "topAmounts", fn := fun _ => fun
  | [d] => { results := [.lit (.bool true)], args := [d] }
  | _ => none }
def topAmountsRow : OpenClaim := { program := "ytdebnbgjgkbmaaagreatdoor", sum := "dc12eca133986886f60e54f5079725e105e94bed91f2312b1f792cc0df97daee", func := "remitter/remittertop.TopAmounts", spec := "topAmounts", inPlace := ["internal/abi.NoEscape", "internal/bytealg.MakeNoZero"], unfollowed := true, recurses := true, named := ["remitter/digest.begin", "remitter/digest.table", "remitter/htlc.events", "remitter/htlc.spans", "math/bits.deBruijn32tab", "math/bits.deBruijn64tab", "math/bits.divideError", "math/bits.overflowError"], plainKeys := false, apart := false, laid := [("math/bits.deBruijn32tab", laid_math_bits_deBruijn32tab), ("math/bits.deBruijn64tab", laid_math_bits_deBruijn64tab), ("remitter/digest.begin", laid_remitter_digest_begin), ("remitter/digest.table", laid_remitter_digest_table), ("remitter/htlc.events", laid_remitter_htlc_events), ("remitter/htlc.spans", laid_remitter_htlc_spans)] }
def TopAmountsSaid : Prop := topAmountsRow.holds Tryz.pinned (OpenSpec.ofChange topAmountsSpec)

/-- ITS FALSE NEIGHBOUR: 'it returns false'. Refute it at one input. -/
def topAmountsWrong : ChangeSpec := { name := "topAmounts", fn := fun _ => fun
  | [d] => { results := [.lit (.bool false)], args := [d] }
  | _ => none }
def TopAmountsWrongFalsely : Prop := topAmountsRow.holds Tryz.pinned (OpenSpec.ofChange topAmountsWrong)

/-- 'remittertop.TopLinks': WHATEVER THE INPUT: true; the input reads as it did. -/
def topLinksSpec : ChangeSpec := { name := "topLinks", fn := fun _ => fun
  | [d1, d2] => { results := [.lit (.bool true)], args := [d1, d2] }
  | _ => none }
def topLinksRow : OpenClaim := { program := "ytdebnbgjgkbmaaagreatdoor", sum := "dc12eca133986886f60e54f5079725e105e94bed91f2312b1f792cc0df97daee", func := "remitter/remittertop.TopLinks", spec := "topLinks", inPlace := ["internal/abi.NoEscape", "internal/bytealg.MakeNoZero"], unfollowed := true, recurses := true, named := ["remitter/digest.begin", "remitter/digest.table", "remitter/htlc.events", "remitter/htlc.spans", "math/bits.deBruijn32tab", "math/bits.deBruijn64tab", "math/bits.divideError", "math/bits.overflowError"], plainKeys := false, apart := false, laid := [("math/bits.deBruijn32tab", laid_math_bits_deBruijn32tab), ("math/bits.deBruijn64tab", laid_math_bits_deBruijn64tab), ("remitter/digest.begin", laid_remitter_digest_begin), ("remitter/digest.table", laid_remitter_digest_table), ("remitter/htlc.events", laid_remitter_htlc_events), ("remitter/htlc.spans", laid_remitter_htlc_spans)] }
def TopLinksSaid : Prop := topLinksRow.holds Tryz.pinned (OpenSpec.ofChange topLinksSpec)

/-- ITS FALSE NEIGHBOUR: 'it returns false'. Refute it at one input. -/
def topLinksWrong : ChangeSpec := { name := "topLinks", fn := fun _ => fun
  | [d1, d2] => { results := [.lit (.bool false)], args := [d1, d2] }
  | _ => none }
def TopLinksWrongFalsely : Prop := topLinksRow.holds Tryz.pinned (OpenSpec.ofChange topLinksWrong)

/-- 'remittertop.TopBoxes': WHATEVER THE INPUT: true; the input reads as it did. -/
def topBoxesSpec : ChangeSpec := { name := "topBoxes", fn := fun _ => fun
  | [d] => { results := [.lit (.bool true)], args := [d] }
  | _ => none }
def topBoxesRow : OpenClaim := { program := "ytdebnbgjgkbmaaagreatdoor", sum := "dc12eca133986886f60e54f5079725e105e94bed91f2312b1f792cc0df97daee", func := "remitter/remittertop.TopBoxes", spec := "topBoxes", inPlace := ["internal/abi.NoEscape", "internal/bytealg.MakeNoZero"], unfollowed := true, recurses := true, named := ["remitter/digest.begin", "remitter/digest.table", "remitter/htlc.events", "remitter/htlc.spans", "math/bits.deBruijn32tab", "math/bits.deBruijn64tab", "math/bits.divideError", "math/bits.overflowError"], plainKeys := false, apart := false, laid := [("math/bits.deBruijn32tab", laid_math_bits_deBruijn32tab), ("math/bits.deBruijn64tab", laid_math_bits_deBruijn64tab), ("remitter/digest.begin", laid_remitter_digest_begin), ("remitter/digest.table", laid_remitter_digest_table), ("remitter/htlc.events", laid_remitter_htlc_events), ("remitter/htlc.spans", laid_remitter_htlc_spans)] }
def TopBoxesSaid : Prop := topBoxesRow.holds Tryz.pinned (OpenSpec.ofChange topBoxesSpec)

/-- ITS FALSE NEIGHBOUR: 'it returns false'. Refute it at one input. -/
def topBoxesWrong : ChangeSpec := { name := "topBoxes", fn := fun _ => fun
  | [d] => { results := [.lit (.bool false)], args := [d] }
  | _ => none }
def TopBoxesWrongFalsely : Prop := topBoxesRow.holds Tryz.pinned (OpenSpec.ofChange topBoxesWrong)

/-- 'remittertop.TopSecrets': WHATEVER THE INPUT: true; the input reads as it did. -/
def topSecretsSpec : ChangeSpec := { name := "topSecrets", fn := fun _ => fun
  | [d1, d2] => { results := [.lit (.bool true)], args := [d1, d2] }
  | _ => none }
def topSecretsRow : OpenClaim := { program := "ytdebnbgjgkbmaaagreatdoor", sum := "dc12eca133986886f60e54f5079725e105e94bed91f2312b1f792cc0df97daee", func := "remitter/remittertop.TopSecrets", spec := "topSecrets", inPlace := ["internal/abi.NoEscape", "internal/bytealg.MakeNoZero"], unfollowed := true, recurses := true, named := ["remitter/digest.begin", "remitter/digest.table", "remitter/htlc.events", "remitter/htlc.spans", "math/bits.deBruijn32tab", "math/bits.deBruijn64tab", "math/bits.divideError", "math/bits.overflowError"], plainKeys := false, apart := false, laid := [("math/bits.deBruijn32tab", laid_math_bits_deBruijn32tab), ("math/bits.deBruijn64tab", laid_math_bits_deBruijn64tab), ("remitter/digest.begin", laid_remitter_digest_begin), ("remitter/digest.table", laid_remitter_digest_table), ("remitter/htlc.events", laid_remitter_htlc_events), ("remitter/htlc.spans", laid_remitter_htlc_spans)] }
def TopSecretsSaid : Prop := topSecretsRow.holds Tryz.pinned (OpenSpec.ofChange topSecretsSpec)

/-- ITS FALSE NEIGHBOUR: 'it returns false'. Refute it at one input. -/
def topSecretsWrong : ChangeSpec := { name := "topSecrets", fn := fun _ => fun
  | [d1, d2] => { results := [.lit (.bool false)], args := [d1, d2] }
  | _ => none }
def TopSecretsWrongFalsely : Prop := topSecretsRow.holds Tryz.pinned (OpenSpec.ofChange topSecretsWrong)

/-- 'remittertop.TopJournal': WHATEVER THE INPUT: true; the input reads as it did. -/
def topJournalSpec : ChangeSpec := { name := "topJournal", fn := fun _ => fun
  | [d1, d2] => { results := [.lit (.bool true)], args := [d1, d2] }
  | _ => none }
def topJournalRow : OpenClaim := { program := "ytdebnbgjgkbmaaagreatdoor", sum := "dc12eca133986886f60e54f5079725e105e94bed91f2312b1f792cc0df97daee", func := "remitter/remittertop.TopJournal", spec := "topJournal", inPlace := ["internal/abi.NoEscape", "internal/bytealg.MakeNoZero"], unfollowed := true, recurses := true, named := ["remitter/digest.begin", "remitter/digest.table", "remitter/htlc.events", "remitter/htlc.spans", "math/bits.deBruijn32tab", "math/bits.deBruijn64tab", "math/bits.divideError", "math/bits.overflowError"], plainKeys := false, apart := false, laid := [("math/bits.deBruijn32tab", laid_math_bits_deBruijn32tab), ("math/bits.deBruijn64tab", laid_math_bits_deBruijn64tab), ("remitter/digest.begin", laid_remitter_digest_begin), ("remitter/digest.table", laid_remitter_digest_table), ("remitter/htlc.events", laid_remitter_htlc_events), ("remitter/htlc.spans", laid_remitter_htlc_spans)] }
def TopJournalSaid : Prop := topJournalRow.holds Tryz.pinned (OpenSpec.ofChange topJournalSpec)

/-- ITS FALSE NEIGHBOUR: 'it returns false'. Refute it at one input. -/
def topJournalWrong : ChangeSpec := { name := "topJournal", fn := fun _ => fun
  | [d1, d2] => { results := [.lit (.bool false)], args := [d1, d2] }
  | _ => none }
def TopJournalWrongFalsely : Prop := topJournalRow.holds Tryz.pinned (OpenSpec.ofChange topJournalWrong)

/-- 'remittertop.TopCommitted': WHATEVER THE INPUT: true; the input reads as it did. -/
def topCommittedSpec : ChangeSpec := { name := "topCommitted", fn := fun _ => fun
  | [d1, d2, d3] => { results := [.lit (.bool true)], args := [d1, d2, d3] }
  | _ => none }
def topCommittedRow : OpenClaim := { program := "ytdebnbgjgkbmaaagreatdoor", sum := "dc12eca133986886f60e54f5079725e105e94bed91f2312b1f792cc0df97daee", func := "remitter/remittertop.TopCommitted", spec := "topCommitted", inPlace := ["internal/abi.NoEscape", "internal/bytealg.MakeNoZero"], unfollowed := true, recurses := true, named := ["remitter/digest.begin", "remitter/digest.table", "remitter/htlc.events", "remitter/htlc.spans", "math/bits.deBruijn32tab", "math/bits.deBruijn64tab", "math/bits.divideError", "math/bits.overflowError"], plainKeys := false, apart := false, laid := [("math/bits.deBruijn32tab", laid_math_bits_deBruijn32tab), ("math/bits.deBruijn64tab", laid_math_bits_deBruijn64tab), ("remitter/digest.begin", laid_remitter_digest_begin), ("remitter/digest.table", laid_remitter_digest_table), ("remitter/htlc.events", laid_remitter_htlc_events), ("remitter/htlc.spans", laid_remitter_htlc_spans)] }
def TopCommittedSaid : Prop := topCommittedRow.holds Tryz.pinned (OpenSpec.ofChange topCommittedSpec)

/-- ITS FALSE NEIGHBOUR: 'it returns false'. Refute it at one input. -/
def topCommittedWrong : ChangeSpec := { name := "topCommitted", fn := fun _ => fun
  | [d1, d2, d3] => { results := [.lit (.bool false)], args := [d1, d2, d3] }
  | _ => none }
def TopCommittedWrongFalsely : Prop := topCommittedRow.holds Tryz.pinned (OpenSpec.ofChange topCommittedWrong)

/- THE SECOND FORM. 'bulk': how many values and letters a reading holds, each counted each time it is reached (what is shared counts as often as it is met; a slice's spare places count too). A statement '..UptoSaid' is the law's where the arguments, and the package variables that the reading takes, are together of bulk at most 1048576: NARROWER than '..Said'. Prove '..Said' where nothing that the law and all that it calls make is longer than what came in: it says more and counts as full. Else prove '..UptoSaid'. A law counts once. -/
mutual
def uptoBulk {H : Type} : DataW H → Nat
  | .lit (.string bytes) => bytes.length + 1
  | .lit _ => 1
  | .nil => 1
  | .ptr d => uptoBulk d + 1
  | .slice elems spare => uptoBulkAll elems + uptoBulkAll spare + 1
  | .agg parts => uptoBulkAll parts + 1
  | .iface _ d => uptoBulk d + 1
  | .map entries => uptoBulkEntries entries + 1
  | .held _ => 1
def uptoBulkAll {H : Type} : List (DataW H) → Nat
  | [] => 0
  | d :: r => uptoBulk d + uptoBulkAll r
def uptoBulkEntries {H : Type} : List (Lit × DataW H) → Nat
  | [] => 0
  | x :: r => uptoBulkEntry x + uptoBulkEntries r
def uptoBulkEntry {H : Type} : Lit × DataW H → Nat
  | (.string bytes, d) => bytes.length + uptoBulk d + 1
  | (_, d) => uptoBulk d + 1
 end
def uptoSmall : (H : Type) → List (DataW H) → Bool := fun _ ds => decide (uptoBulkAll ds ≤ 1048576)
def OpenSpec.upto (s : _root_.Go.ChangeSpec) : _root_.Go.OpenSpec := { _root_.Go.OpenSpec.ofChange s with cond := some uptoSmall }

/-- 'remittertop.TopBound', WHERE WHAT IT READS IS OF BULK AT MOST 1048576: true; the input reads as it did. -/
def topBoundUptoRow : OpenClaim := { program := "ytdebnbgjgkbmaaagreatdoor", sum := "dc12eca133986886f60e54f5079725e105e94bed91f2312b1f792cc0df97daee", func := "remitter/remittertop.TopBound", spec := "topBound", inPlace := ["internal/abi.NoEscape", "internal/bytealg.MakeNoZero"], unfollowed := true, recurses := true, named := ["remitter/digest.begin", "remitter/digest.table", "remitter/htlc.events", "remitter/htlc.spans", "math/bits.deBruijn32tab", "math/bits.deBruijn64tab", "math/bits.divideError", "math/bits.overflowError"], plainKeys := false, apart := false, laid := [("math/bits.deBruijn32tab", laid_math_bits_deBruijn32tab), ("math/bits.deBruijn64tab", laid_math_bits_deBruijn64tab), ("remitter/digest.begin", laid_remitter_digest_begin), ("remitter/digest.table", laid_remitter_digest_table), ("remitter/htlc.events", laid_remitter_htlc_events), ("remitter/htlc.spans", laid_remitter_htlc_spans)], narrowed := true }
def TopBoundUptoSaid : Prop := topBoundUptoRow.holds Tryz.pinned (OpenSpec.upto topBoundSpec)

/-- 'remittertop.TopOrder', WHERE WHAT IT READS IS OF BULK AT MOST 1048576: true; the input reads as it did. -/
def topOrderUptoRow : OpenClaim := { program := "ytdebnbgjgkbmaaagreatdoor", sum := "dc12eca133986886f60e54f5079725e105e94bed91f2312b1f792cc0df97daee", func := "remitter/remittertop.TopOrder", spec := "topOrder", inPlace := ["internal/abi.NoEscape", "internal/bytealg.MakeNoZero"], unfollowed := true, recurses := true, named := ["remitter/digest.begin", "remitter/digest.table", "remitter/htlc.events", "remitter/htlc.spans", "math/bits.deBruijn32tab", "math/bits.deBruijn64tab", "math/bits.divideError", "math/bits.overflowError"], plainKeys := false, apart := false, laid := [("math/bits.deBruijn32tab", laid_math_bits_deBruijn32tab), ("math/bits.deBruijn64tab", laid_math_bits_deBruijn64tab), ("remitter/digest.begin", laid_remitter_digest_begin), ("remitter/digest.table", laid_remitter_digest_table), ("remitter/htlc.events", laid_remitter_htlc_events), ("remitter/htlc.spans", laid_remitter_htlc_spans)], narrowed := true }
def TopOrderUptoSaid : Prop := topOrderUptoRow.holds Tryz.pinned (OpenSpec.upto topOrderSpec)

/-- 'remittertop.TopHashes', WHERE WHAT IT READS IS OF BULK AT MOST 1048576: true; the input reads as it did. -/
def topHashesUptoRow : OpenClaim := { program := "ytdebnbgjgkbmaaagreatdoor", sum := "dc12eca133986886f60e54f5079725e105e94bed91f2312b1f792cc0df97daee", func := "remitter/remittertop.TopHashes", spec := "topHashes", inPlace := ["internal/abi.NoEscape", "internal/bytealg.MakeNoZero"], unfollowed := true, recurses := true, named := ["remitter/digest.begin", "remitter/digest.table", "remitter/htlc.events", "remitter/htlc.spans", "math/bits.deBruijn32tab", "math/bits.deBruijn64tab", "math/bits.divideError", "math/bits.overflowError"], plainKeys := false, apart := false, laid := [("math/bits.deBruijn32tab", laid_math_bits_deBruijn32tab), ("math/bits.deBruijn64tab", laid_math_bits_deBruijn64tab), ("remitter/digest.begin", laid_remitter_digest_begin), ("remitter/digest.table", laid_remitter_digest_table), ("remitter/htlc.events", laid_remitter_htlc_events), ("remitter/htlc.spans", laid_remitter_htlc_spans)], narrowed := true }
def TopHashesUptoSaid : Prop := topHashesUptoRow.holds Tryz.pinned (OpenSpec.upto topHashesSpec)

/-- 'remittertop.TopWire', WHERE WHAT IT READS IS OF BULK AT MOST 1048576: true; the input reads as it did. -/
def topWireUptoRow : OpenClaim := { program := "ytdebnbgjgkbmaaagreatdoor", sum := "dc12eca133986886f60e54f5079725e105e94bed91f2312b1f792cc0df97daee", func := "remitter/remittertop.TopWire", spec := "topWire", inPlace := ["internal/abi.NoEscape", "internal/bytealg.MakeNoZero"], unfollowed := true, recurses := true, named := ["remitter/digest.begin", "remitter/digest.table", "remitter/htlc.events", "remitter/htlc.spans", "math/bits.deBruijn32tab", "math/bits.deBruijn64tab", "math/bits.divideError", "math/bits.overflowError"], plainKeys := false, apart := false, laid := [("math/bits.deBruijn32tab", laid_math_bits_deBruijn32tab), ("math/bits.deBruijn64tab", laid_math_bits_deBruijn64tab), ("remitter/digest.begin", laid_remitter_digest_begin), ("remitter/digest.table", laid_remitter_digest_table), ("remitter/htlc.events", laid_remitter_htlc_events), ("remitter/htlc.spans", laid_remitter_htlc_spans)], narrowed := true }
def TopWireUptoSaid : Prop := topWireUptoRow.holds Tryz.pinned (OpenSpec.upto topWireSpec)

/-- 'remittertop.TopTags', WHERE WHAT IT READS IS OF BULK AT MOST 1048576: true; the input reads as it did. -/
def topTagsUptoRow : OpenClaim := { program := "ytdebnbgjgkbmaaagreatdoor", sum := "dc12eca133986886f60e54f5079725e105e94bed91f2312b1f792cc0df97daee", func := "remitter/remittertop.TopTags", spec := "topTags", inPlace := ["internal/abi.NoEscape", "internal/bytealg.MakeNoZero"], unfollowed := true, recurses := true, named := ["remitter/digest.begin", "remitter/digest.table", "remitter/htlc.events", "remitter/htlc.spans", "math/bits.deBruijn32tab", "math/bits.deBruijn64tab", "math/bits.divideError", "math/bits.overflowError"], plainKeys := false, apart := false, laid := [("math/bits.deBruijn32tab", laid_math_bits_deBruijn32tab), ("math/bits.deBruijn64tab", laid_math_bits_deBruijn64tab), ("remitter/digest.begin", laid_remitter_digest_begin), ("remitter/digest.table", laid_remitter_digest_table), ("remitter/htlc.events", laid_remitter_htlc_events), ("remitter/htlc.spans", laid_remitter_htlc_spans)], narrowed := true }
def TopTagsUptoSaid : Prop := topTagsUptoRow.holds Tryz.pinned (OpenSpec.upto topTagsSpec)

/-- 'remittertop.TopSeed', WHERE WHAT IT READS IS OF BULK AT MOST 1048576: true; the input reads as it did. -/
def topSeedUptoRow : OpenClaim := { program := "ytdebnbgjgkbmaaagreatdoor", sum := "dc12eca133986886f60e54f5079725e105e94bed91f2312b1f792cc0df97daee", func := "remitter/remittertop.TopSeed", spec := "topSeed", inPlace := ["internal/abi.NoEscape", "internal/bytealg.MakeNoZero"], unfollowed := true, recurses := true, named := ["remitter/digest.begin", "remitter/digest.table", "remitter/htlc.events", "remitter/htlc.spans", "math/bits.deBruijn32tab", "math/bits.deBruijn64tab", "math/bits.divideError", "math/bits.overflowError"], plainKeys := false, apart := false, laid := [("math/bits.deBruijn32tab", laid_math_bits_deBruijn32tab), ("math/bits.deBruijn64tab", laid_math_bits_deBruijn64tab), ("remitter/digest.begin", laid_remitter_digest_begin), ("remitter/digest.table", laid_remitter_digest_table), ("remitter/htlc.events", laid_remitter_htlc_events), ("remitter/htlc.spans", laid_remitter_htlc_spans)], narrowed := true }
def TopSeedUptoSaid : Prop := topSeedUptoRow.holds Tryz.pinned (OpenSpec.upto topSeedSpec)

/-- 'remittertop.TopFees', WHERE WHAT IT READS IS OF BULK AT MOST 1048576: true; the input reads as it did. -/
def topFeesUptoRow : OpenClaim := { program := "ytdebnbgjgkbmaaagreatdoor", sum := "dc12eca133986886f60e54f5079725e105e94bed91f2312b1f792cc0df97daee", func := "remitter/remittertop.TopFees", spec := "topFees", inPlace := ["internal/abi.NoEscape", "internal/bytealg.MakeNoZero"], unfollowed := true, recurses := true, named := ["remitter/digest.begin", "remitter/digest.table", "remitter/htlc.events", "remitter/htlc.spans", "math/bits.deBruijn32tab", "math/bits.deBruijn64tab", "math/bits.divideError", "math/bits.overflowError"], plainKeys := false, apart := false, laid := [("math/bits.deBruijn32tab", laid_math_bits_deBruijn32tab), ("math/bits.deBruijn64tab", laid_math_bits_deBruijn64tab), ("remitter/digest.begin", laid_remitter_digest_begin), ("remitter/digest.table", laid_remitter_digest_table), ("remitter/htlc.events", laid_remitter_htlc_events), ("remitter/htlc.spans", laid_remitter_htlc_spans)], narrowed := true }
def TopFeesUptoSaid : Prop := topFeesUptoRow.holds Tryz.pinned (OpenSpec.upto topFeesSpec)

/-- 'remittertop.TopAmounts', WHERE WHAT IT READS IS OF BULK AT MOST 1048576: true; the input reads as it did. -/
def topAmountsUptoRow : OpenClaim := { program := "ytdebnbgjgkbmaaagreatdoor", sum := "dc12eca133986886f60e54f5079725e105e94bed91f2312b1f792cc0df97daee", func := "remitter/remittertop.TopAmounts", spec := "topAmounts", inPlace := ["internal/abi.NoEscape", "internal/bytealg.MakeNoZero"], unfollowed := true, recurses := true, named := ["remitter/digest.begin", "remitter/digest.table", "remitter/htlc.events", "remitter/htlc.spans", "math/bits.deBruijn32tab", "math/bits.deBruijn64tab", "math/bits.divideError", "math/bits.overflowError"], plainKeys := false, apart := false, laid := [("math/bits.deBruijn32tab", laid_math_bits_deBruijn32tab), ("math/bits.deBruijn64tab", laid_math_bits_deBruijn64tab), ("remitter/digest.begin", laid_remitter_digest_begin), ("remitter/digest.table", laid_remitter_digest_table), ("remitter/htlc.events", laid_remitter_htlc_events), ("remitter/htlc.spans", laid_remitter_htlc_spans)], narrowed := true }
def TopAmountsUptoSaid : Prop := topAmountsUptoRow.holds Tryz.pinned (OpenSpec.upto topAmountsSpec)

/-- 'remittertop.TopLinks', WHERE WHAT IT READS IS OF BULK AT MOST 1048576: true; the input reads as it did. -/
def topLinksUptoRow : OpenClaim := { program := "ytdebnbgjgkbmaaagreatdoor", sum := "dc12eca133986886f60e54f5079725e105e94bed91f2312b1f792cc0df97daee", func := "remitter/remittertop.TopLinks", spec := "topLinks", inPlace := ["internal/abi.NoEscape", "internal/bytealg.MakeNoZero"], unfollowed := true, recurses := true, named := ["remitter/digest.begin", "remitter/digest.table", "remitter/htlc.events", "remitter/htlc.spans", "math/bits.deBruijn32tab", "math/bits.deBruijn64tab", "math/bits.divideError", "math/bits.overflowError"], plainKeys := false, apart := false, laid := [("math/bits.deBruijn32tab", laid_math_bits_deBruijn32tab), ("math/bits.deBruijn64tab", laid_math_bits_deBruijn64tab), ("remitter/digest.begin", laid_remitter_digest_begin), ("remitter/digest.table", laid_remitter_digest_table), ("remitter/htlc.events", laid_remitter_htlc_events), ("remitter/htlc.spans", laid_remitter_htlc_spans)], narrowed := true }
def TopLinksUptoSaid : Prop := topLinksUptoRow.holds Tryz.pinned (OpenSpec.upto topLinksSpec)

/-- 'remittertop.TopBoxes', WHERE WHAT IT READS IS OF BULK AT MOST 1048576: true; the input reads as it did. -/
def topBoxesUptoRow : OpenClaim := { program := "ytdebnbgjgkbmaaagreatdoor", sum := "dc12eca133986886f60e54f5079725e105e94bed91f2312b1f792cc0df97daee", func := "remitter/remittertop.TopBoxes", spec := "topBoxes", inPlace := ["internal/abi.NoEscape", "internal/bytealg.MakeNoZero"], unfollowed := true, recurses := true, named := ["remitter/digest.begin", "remitter/digest.table", "remitter/htlc.events", "remitter/htlc.spans", "math/bits.deBruijn32tab", "math/bits.deBruijn64tab", "math/bits.divideError", "math/bits.overflowError"], plainKeys := false, apart := false, laid := [("math/bits.deBruijn32tab", laid_math_bits_deBruijn32tab), ("math/bits.deBruijn64tab", laid_math_bits_deBruijn64tab), ("remitter/digest.begin", laid_remitter_digest_begin), ("remitter/digest.table", laid_remitter_digest_table), ("remitter/htlc.events", laid_remitter_htlc_events), ("remitter/htlc.spans", laid_remitter_htlc_spans)], narrowed := true }
def TopBoxesUptoSaid : Prop := topBoxesUptoRow.holds Tryz.pinned (OpenSpec.upto topBoxesSpec)

/-- 'remittertop.TopSecrets', WHERE WHAT IT READS IS OF BULK AT MOST 1048576: true; the input reads as it did. -/
def topSecretsUptoRow : OpenClaim := { program := "ytdebnbgjgkbmaaagreatdoor", sum := "dc12eca133986886f60e54f5079725e105e94bed91f2312b1f792cc0df97daee", func := "remitter/remittertop.TopSecrets", spec := "topSecrets", inPlace := ["internal/abi.NoEscape", "internal/bytealg.MakeNoZero"], unfollowed := true, recurses := true, named := ["remitter/digest.begin", "remitter/digest.table", "remitter/htlc.events", "remitter/htlc.spans", "math/bits.deBruijn32tab", "math/bits.deBruijn64tab", "math/bits.divideError", "math/bits.overflowError"], plainKeys := false, apart := false, laid := [("math/bits.deBruijn32tab", laid_math_bits_deBruijn32tab), ("math/bits.deBruijn64tab", laid_math_bits_deBruijn64tab), ("remitter/digest.begin", laid_remitter_digest_begin), ("remitter/digest.table", laid_remitter_digest_table), ("remitter/htlc.events", laid_remitter_htlc_events), ("remitter/htlc.spans", laid_remitter_htlc_spans)], narrowed := true }
def TopSecretsUptoSaid : Prop := topSecretsUptoRow.holds Tryz.pinned (OpenSpec.upto topSecretsSpec)

/-- 'remittertop.TopJournal', WHERE WHAT IT READS IS OF BULK AT MOST 1048576: true; the input reads as it did. -/
def topJournalUptoRow : OpenClaim := { program := "ytdebnbgjgkbmaaagreatdoor", sum := "dc12eca133986886f60e54f5079725e105e94bed91f2312b1f792cc0df97daee", func := "remitter/remittertop.TopJournal", spec := "topJournal", inPlace := ["internal/abi.NoEscape", "internal/bytealg.MakeNoZero"], unfollowed := true, recurses := true, named := ["remitter/digest.begin", "remitter/digest.table", "remitter/htlc.events", "remitter/htlc.spans", "math/bits.deBruijn32tab", "math/bits.deBruijn64tab", "math/bits.divideError", "math/bits.overflowError"], plainKeys := false, apart := false, laid := [("math/bits.deBruijn32tab", laid_math_bits_deBruijn32tab), ("math/bits.deBruijn64tab", laid_math_bits_deBruijn64tab), ("remitter/digest.begin", laid_remitter_digest_begin), ("remitter/digest.table", laid_remitter_digest_table), ("remitter/htlc.events", laid_remitter_htlc_events), ("remitter/htlc.spans", laid_remitter_htlc_spans)], narrowed := true }
def TopJournalUptoSaid : Prop := topJournalUptoRow.holds Tryz.pinned (OpenSpec.upto topJournalSpec)

/-- 'remittertop.TopCommitted', WHERE WHAT IT READS IS OF BULK AT MOST 1048576: true; the input reads as it did. -/
def topCommittedUptoRow : OpenClaim := { program := "ytdebnbgjgkbmaaagreatdoor", sum := "dc12eca133986886f60e54f5079725e105e94bed91f2312b1f792cc0df97daee", func := "remitter/remittertop.TopCommitted", spec := "topCommitted", inPlace := ["internal/abi.NoEscape", "internal/bytealg.MakeNoZero"], unfollowed := true, recurses := true, named := ["remitter/digest.begin", "remitter/digest.table", "remitter/htlc.events", "remitter/htlc.spans", "math/bits.deBruijn32tab", "math/bits.deBruijn64tab", "math/bits.divideError", "math/bits.overflowError"], plainKeys := false, apart := false, laid := [("math/bits.deBruijn32tab", laid_math_bits_deBruijn32tab), ("math/bits.deBruijn64tab", laid_math_bits_deBruijn64tab), ("remitter/digest.begin", laid_remitter_digest_begin), ("remitter/digest.table", laid_remitter_digest_table), ("remitter/htlc.events", laid_remitter_htlc_events), ("remitter/htlc.spans", laid_remitter_htlc_spans)], narrowed := true }
def TopCommittedUptoSaid : Prop := topCommittedUptoRow.holds Tryz.pinned (OpenSpec.upto topCommittedSpec)

end Rows
end Go.Proofs.YtdebnbgjgkbmaaaGreatDoor
