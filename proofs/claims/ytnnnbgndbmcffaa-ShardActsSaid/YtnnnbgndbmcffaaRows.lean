/-
  No cell of these rows narrows 'for every input' (looked for: loops, veiled, ifaces, maps, wideKeys, modest, calm, conditions, laid).
  DERIVED. THE GIVEN ROWS OF THIS SEAT. 17 by the template 'for every input the law returns true; each argument reads behind the call as it read before'; 0 by the template 'total and deterministic' (their statements: YtnnnbgndbmcffaaTotals.lean).
  GIVEN WITH THE SEED: the statements are not yours to turn. If you find one false, say at which input.
  Laid BY PROGRAM, IN A SANDBOX (cutbox-rows.mjs): the forced cells as the released guide's own fill.sh prints them over the translation a6cd865f6ec52074… (all of the seat's roots in one cut). By AI agents, Wed Nov 11 2026. No macro, syntax, notation, axiom, sorry.
-/
import Derived.Test.YtnnnbgndbmcffaaChecked
import GoSem.Claim
import GoSem.ClaimJoined
import GoSem.ClaimMapViews
import Derived.JoinedTies
import Derived.KernelRfl
namespace Go.Proofs.Ytnnnbgndbmcffaa
/- THE CELL 'sum', in the pinned program and in every row, IS THE sha256 OF THE DUMP (.gsa) THAT YtnnnbgndbmcffaaProg.lean LOADS. Nothing in Lean hashes anything: it is a label: what it is worth is what the hold of that sum in a sandbox is worth. -/
noncomputable def Try.pinned : Pinned := { name := "ytnnnbgndbmcffaa", sum := "a6cd865f6ec52074d66f8f392af1a220d926e0065d51d49735049e013db0de13", checked := Try.checked }
namespace Rows
def none {H : Type} : Left H := { results := [], args := [] }

/-- 'remitterlaw06.AmountNear': WHATEVER THE INPUT: true; the input reads as it did. -/
def amountNearSpec : ChangeSpec := { name := "amountNear", fn := fun _ => fun
  | [d1, d2, d3] => { results := [.lit (.bool true)], args := [d1, d2, d3] }
  | _ => none }
def amountNearRow : OpenClaim := { program := "ytnnnbgndbmcffaa", sum := "a6cd865f6ec52074d66f8f392af1a220d926e0065d51d49735049e013db0de13", func := "remitter/remitterlaw06.AmountNear", spec := "amountNear", named := ["math/bits.divideError", "math/bits.overflowError"], plainKeys := false, apart := false }
def AmountNearSaid : Prop := amountNearRow.holds Try.pinned (OpenSpec.ofChange amountNearSpec)

/-- ITS FALSE NEIGHBOUR: 'it returns false'. Refute it at one input. -/
def amountNearWrong : ChangeSpec := { name := "amountNear", fn := fun _ => fun
  | [d1, d2, d3] => { results := [.lit (.bool false)], args := [d1, d2, d3] }
  | _ => none }
def AmountNearWrongFalsely : Prop := amountNearRow.holds Try.pinned (OpenSpec.ofChange amountNearWrong)

/-- 'remitterlaw06.AmountParted': WHATEVER THE INPUT: true; the input reads as it did. -/
def amountPartedSpec : ChangeSpec := { name := "amountParted", fn := fun _ => fun
  | [d1, d2, d3] => { results := [.lit (.bool true)], args := [d1, d2, d3] }
  | _ => none }
def amountPartedRow : OpenClaim := { program := "ytnnnbgndbmcffaa", sum := "a6cd865f6ec52074d66f8f392af1a220d926e0065d51d49735049e013db0de13", func := "remitter/remitterlaw06.AmountParted", spec := "amountParted", named := ["math/bits.divideError", "math/bits.overflowError"], plainKeys := false, apart := false }
def AmountPartedSaid : Prop := amountPartedRow.holds Try.pinned (OpenSpec.ofChange amountPartedSpec)

/-- ITS FALSE NEIGHBOUR: 'it returns false'. Refute it at one input. -/
def amountPartedWrong : ChangeSpec := { name := "amountParted", fn := fun _ => fun
  | [d1, d2, d3] => { results := [.lit (.bool false)], args := [d1, d2, d3] }
  | _ => none }
def AmountPartedWrongFalsely : Prop := amountPartedRow.holds Try.pinned (OpenSpec.ofChange amountPartedWrong)

/-- 'remitterlaw06.AmountRises': WHATEVER THE INPUT: true; the input reads as it did. -/
def amountRisesSpec : ChangeSpec := { name := "amountRises", fn := fun _ => fun
  | [d1, d2, d3, d4, d5] => { results := [.lit (.bool true)], args := [d1, d2, d3, d4, d5] }
  | _ => none }
def amountRisesRow : OpenClaim := { program := "ytnnnbgndbmcffaa", sum := "a6cd865f6ec52074d66f8f392af1a220d926e0065d51d49735049e013db0de13", func := "remitter/remitterlaw06.AmountRises", spec := "amountRises", named := ["math/bits.divideError", "math/bits.overflowError"], plainKeys := false, apart := false }
def AmountRisesSaid : Prop := amountRisesRow.holds Try.pinned (OpenSpec.ofChange amountRisesSpec)

/-- ITS FALSE NEIGHBOUR: 'it returns false'. Refute it at one input. -/
def amountRisesWrong : ChangeSpec := { name := "amountRises", fn := fun _ => fun
  | [d1, d2, d3, d4, d5] => { results := [.lit (.bool false)], args := [d1, d2, d3, d4, d5] }
  | _ => none }
def AmountRisesWrongFalsely : Prop := amountRisesRow.holds Try.pinned (OpenSpec.ofChange amountRisesWrong)

/-- 'remitterlaw09.PurseFull': WHATEVER THE INPUT: true; the input reads as it did. -/
def purseFullSpec : ChangeSpec := { name := "purseFull", fn := fun _ => fun
  | [d1, d2] => { results := [.lit (.bool true)], args := [d1, d2] }
  | _ => none }
def purseFullRow : OpenClaim := { program := "ytnnnbgndbmcffaa", sum := "a6cd865f6ec52074d66f8f392af1a220d926e0065d51d49735049e013db0de13", func := "remitter/remitterlaw09.PurseFull", spec := "purseFull", plainKeys := false, apart := false }
def PurseFullSaid : Prop := purseFullRow.holds Try.pinned (OpenSpec.ofChange purseFullSpec)

/-- ITS FALSE NEIGHBOUR: 'it returns false'. Refute it at one input. -/
def purseFullWrong : ChangeSpec := { name := "purseFull", fn := fun _ => fun
  | [d1, d2] => { results := [.lit (.bool false)], args := [d1, d2] }
  | _ => none }
def PurseFullWrongFalsely : Prop := purseFullRow.holds Try.pinned (OpenSpec.ofChange purseFullWrong)

/-- 'remitterlaw06.AmountParts': WHATEVER THE INPUT: true; the input reads as it did. -/
def amountPartsSpec : ChangeSpec := { name := "amountParts", fn := fun _ => fun
  | [d1, d2, d3] => { results := [.lit (.bool true)], args := [d1, d2, d3] }
  | _ => none }
def amountPartsRow : OpenClaim := { program := "ytnnnbgndbmcffaa", sum := "a6cd865f6ec52074d66f8f392af1a220d926e0065d51d49735049e013db0de13", func := "remitter/remitterlaw06.AmountParts", spec := "amountParts", named := ["math/bits.divideError", "math/bits.overflowError"], plainKeys := false, apart := false }
def AmountPartsSaid : Prop := amountPartsRow.holds Try.pinned (OpenSpec.ofChange amountPartsSpec)

/-- ITS FALSE NEIGHBOUR: 'it returns false'. Refute it at one input. -/
def amountPartsWrong : ChangeSpec := { name := "amountParts", fn := fun _ => fun
  | [d1, d2, d3] => { results := [.lit (.bool false)], args := [d1, d2, d3] }
  | _ => none }
def AmountPartsWrongFalsely : Prop := amountPartsRow.holds Try.pinned (OpenSpec.ofChange amountPartsWrong)

/-- 'remitterlaw06.AmountTells': WHATEVER THE INPUT: true; the input reads as it did. -/
def amountTellsSpec : ChangeSpec := { name := "amountTells", fn := fun _ => fun
  | [d1, d2, d3, d4, d5] => { results := [.lit (.bool true)], args := [d1, d2, d3, d4, d5] }
  | _ => none }
def amountTellsRow : OpenClaim := { program := "ytnnnbgndbmcffaa", sum := "a6cd865f6ec52074d66f8f392af1a220d926e0065d51d49735049e013db0de13", func := "remitter/remitterlaw06.AmountTells", spec := "amountTells", named := ["math/bits.divideError", "math/bits.overflowError"], plainKeys := false, apart := false }
def AmountTellsSaid : Prop := amountTellsRow.holds Try.pinned (OpenSpec.ofChange amountTellsSpec)

/-- ITS FALSE NEIGHBOUR: 'it returns false'. Refute it at one input. -/
def amountTellsWrong : ChangeSpec := { name := "amountTells", fn := fun _ => fun
  | [d1, d2, d3, d4, d5] => { results := [.lit (.bool false)], args := [d1, d2, d3, d4, d5] }
  | _ => none }
def AmountTellsWrongFalsely : Prop := amountTellsRow.holds Try.pinned (OpenSpec.ofChange amountTellsWrong)

/-- 'remitterlaw06.AmountMost': WHATEVER THE INPUT: true; the input reads as it did. -/
def amountMostSpec : ChangeSpec := { name := "amountMost", fn := fun _ => fun
  | [d1, d2, d3] => { results := [.lit (.bool true)], args := [d1, d2, d3] }
  | _ => none }
def amountMostRow : OpenClaim := { program := "ytnnnbgndbmcffaa", sum := "a6cd865f6ec52074d66f8f392af1a220d926e0065d51d49735049e013db0de13", func := "remitter/remitterlaw06.AmountMost", spec := "amountMost", unfollowed := true, recurses := true, named := ["math/bits.divideError", "math/bits.overflowError"], plainKeys := false, apart := false }
def AmountMostSaid : Prop := amountMostRow.holds Try.pinned (OpenSpec.ofChange amountMostSpec)

/-- ITS FALSE NEIGHBOUR: 'it returns false'. Refute it at one input. -/
def amountMostWrong : ChangeSpec := { name := "amountMost", fn := fun _ => fun
  | [d1, d2, d3] => { results := [.lit (.bool false)], args := [d1, d2, d3] }
  | _ => none }
def AmountMostWrongFalsely : Prop := amountMostRow.holds Try.pinned (OpenSpec.ofChange amountMostWrong)

/-- 'remitterlaw09.PurseTotal': WHATEVER THE INPUT: true; the input reads as it did. -/
def purseTotalSpec : ChangeSpec := { name := "purseTotal", fn := fun _ => fun
  | [d1, d2] => { results := [.lit (.bool true)], args := [d1, d2] }
  | _ => none }
def purseTotalRow : OpenClaim := { program := "ytnnnbgndbmcffaa", sum := "a6cd865f6ec52074d66f8f392af1a220d926e0065d51d49735049e013db0de13", func := "remitter/remitterlaw09.PurseTotal", spec := "purseTotal", plainKeys := false, apart := false }
def PurseTotalSaid : Prop := purseTotalRow.holds Try.pinned (OpenSpec.ofChange purseTotalSpec)

/-- ITS FALSE NEIGHBOUR: 'it returns false'. Refute it at one input. -/
def purseTotalWrong : ChangeSpec := { name := "purseTotal", fn := fun _ => fun
  | [d1, d2] => { results := [.lit (.bool false)], args := [d1, d2] }
  | _ => none }
def PurseTotalWrongFalsely : Prop := purseTotalRow.holds Try.pinned (OpenSpec.ofChange purseTotalWrong)

/-- 'remitterlaw09.PurseBack': WHATEVER THE INPUT: true; the input reads as it did. -/
def purseBackSpec : ChangeSpec := { name := "purseBack", fn := fun _ => fun
  | [d1, d2, d3, d4] => { results := [.lit (.bool true)], args := [d1, d2, d3, d4] }
  | _ => none }
def purseBackRow : OpenClaim := { program := "ytnnnbgndbmcffaa", sum := "a6cd865f6ec52074d66f8f392af1a220d926e0065d51d49735049e013db0de13", func := "remitter/remitterlaw09.PurseBack", spec := "purseBack", plainKeys := false, apart := false }
def PurseBackSaid : Prop := purseBackRow.holds Try.pinned (OpenSpec.ofChange purseBackSpec)

/-- ITS FALSE NEIGHBOUR: 'it returns false'. Refute it at one input. -/
def purseBackWrong : ChangeSpec := { name := "purseBack", fn := fun _ => fun
  | [d1, d2, d3, d4] => { results := [.lit (.bool false)], args := [d1, d2, d3, d4] }
  | _ => none }
def PurseBackWrongFalsely : Prop := purseBackRow.holds Try.pinned (OpenSpec.ofChange purseBackWrong)

/-- 'remitterlaw15.CircuitTwice': WHATEVER THE INPUT: true; the input reads as it did. -/
def circuitTwiceSpec : ChangeSpec := { name := "circuitTwice", fn := fun _ => fun
  | [d1, d2] => { results := [.lit (.bool true)], args := [d1, d2] }
  | _ => none }
def circuitTwiceRow : OpenClaim := { program := "ytnnnbgndbmcffaa", sum := "a6cd865f6ec52074d66f8f392af1a220d926e0065d51d49735049e013db0de13", func := "remitter/remitterlaw15.CircuitTwice", spec := "circuitTwice", named := ["math/bits.divideError", "math/bits.overflowError"], plainKeys := false, apart := false }
def CircuitTwiceSaid : Prop := circuitTwiceRow.holds Try.pinned (OpenSpec.ofChange circuitTwiceSpec)

/-- ITS FALSE NEIGHBOUR: 'it returns false'. Refute it at one input. -/
def circuitTwiceWrong : ChangeSpec := { name := "circuitTwice", fn := fun _ => fun
  | [d1, d2] => { results := [.lit (.bool false)], args := [d1, d2] }
  | _ => none }
def CircuitTwiceWrongFalsely : Prop := circuitTwiceRow.holds Try.pinned (OpenSpec.ofChange circuitTwiceWrong)

/-- 'remitterlaw10.ShardGoesOn': WHATEVER THE INPUT: true; the input reads as it did. -/
def shardGoesOnSpec : ChangeSpec := { name := "shardGoesOn", fn := fun _ => fun
  | [d1, d2] => { results := [.lit (.bool true)], args := [d1, d2] }
  | _ => none }
def shardGoesOnRow : OpenClaim := { program := "ytnnnbgndbmcffaa", sum := "a6cd865f6ec52074d66f8f392af1a220d926e0065d51d49735049e013db0de13", func := "remitter/remitterlaw10.ShardGoesOn", spec := "shardGoesOn", unfollowed := true, recurses := true, plainKeys := false, apart := false }
def ShardGoesOnSaid : Prop := shardGoesOnRow.holds Try.pinned (OpenSpec.ofChange shardGoesOnSpec)

/-- ITS FALSE NEIGHBOUR: 'it returns false'. Refute it at one input. -/
def shardGoesOnWrong : ChangeSpec := { name := "shardGoesOn", fn := fun _ => fun
  | [d1, d2] => { results := [.lit (.bool false)], args := [d1, d2] }
  | _ => none }
def ShardGoesOnWrongFalsely : Prop := shardGoesOnRow.holds Try.pinned (OpenSpec.ofChange shardGoesOnWrong)

/-- 'remitterlaw10.ShardLocks': WHATEVER THE INPUT: true; the input reads as it did. -/
def shardLocksSpec : ChangeSpec := { name := "shardLocks", fn := fun _ => fun
  | [d1, d2, d3] => { results := [.lit (.bool true)], args := [d1, d2, d3] }
  | _ => none }
def shardLocksRow : OpenClaim := { program := "ytnnnbgndbmcffaa", sum := "a6cd865f6ec52074d66f8f392af1a220d926e0065d51d49735049e013db0de13", func := "remitter/remitterlaw10.ShardLocks", spec := "shardLocks", unfollowed := true, recurses := true, plainKeys := false, apart := false }
def ShardLocksSaid : Prop := shardLocksRow.holds Try.pinned (OpenSpec.ofChange shardLocksSpec)

/-- ITS FALSE NEIGHBOUR: 'it returns false'. Refute it at one input. -/
def shardLocksWrong : ChangeSpec := { name := "shardLocks", fn := fun _ => fun
  | [d1, d2, d3] => { results := [.lit (.bool false)], args := [d1, d2, d3] }
  | _ => none }
def ShardLocksWrongFalsely : Prop := shardLocksRow.holds Try.pinned (OpenSpec.ofChange shardLocksWrong)

/-- 'remitterlaw10.ShardOver': WHATEVER THE INPUT: true; the input reads as it did. -/
def shardOverSpec : ChangeSpec := { name := "shardOver", fn := fun _ => fun
  | [d1, d2, d3] => { results := [.lit (.bool true)], args := [d1, d2, d3] }
  | _ => none }
def shardOverRow : OpenClaim := { program := "ytnnnbgndbmcffaa", sum := "a6cd865f6ec52074d66f8f392af1a220d926e0065d51d49735049e013db0de13", func := "remitter/remitterlaw10.ShardOver", spec := "shardOver", unfollowed := true, recurses := true, plainKeys := false, apart := false }
def ShardOverSaid : Prop := shardOverRow.holds Try.pinned (OpenSpec.ofChange shardOverSpec)

/-- ITS FALSE NEIGHBOUR: 'it returns false'. Refute it at one input. -/
def shardOverWrong : ChangeSpec := { name := "shardOver", fn := fun _ => fun
  | [d1, d2, d3] => { results := [.lit (.bool false)], args := [d1, d2, d3] }
  | _ => none }
def ShardOverWrongFalsely : Prop := shardOverRow.holds Try.pinned (OpenSpec.ofChange shardOverWrong)

/-- 'remitterlaw10.ShardTime': WHATEVER THE INPUT: true; the input reads as it did. -/
def shardTimeSpec : ChangeSpec := { name := "shardTime", fn := fun _ => fun
  | [d1, d2] => { results := [.lit (.bool true)], args := [d1, d2] }
  | _ => none }
def shardTimeRow : OpenClaim := { program := "ytnnnbgndbmcffaa", sum := "a6cd865f6ec52074d66f8f392af1a220d926e0065d51d49735049e013db0de13", func := "remitter/remitterlaw10.ShardTime", spec := "shardTime", unfollowed := true, recurses := true, plainKeys := false, apart := false }
def ShardTimeSaid : Prop := shardTimeRow.holds Try.pinned (OpenSpec.ofChange shardTimeSpec)

/-- ITS FALSE NEIGHBOUR: 'it returns false'. Refute it at one input. -/
def shardTimeWrong : ChangeSpec := { name := "shardTime", fn := fun _ => fun
  | [d1, d2] => { results := [.lit (.bool false)], args := [d1, d2] }
  | _ => none }
def ShardTimeWrongFalsely : Prop := shardTimeRow.holds Try.pinned (OpenSpec.ofChange shardTimeWrong)

/-- 'remitterlaw10.ShardLists': WHATEVER THE INPUT: true; the input reads as it did. -/
def shardListsSpec : ChangeSpec := { name := "shardLists", fn := fun _ => fun
  | [d1, d2] => { results := [.lit (.bool true)], args := [d1, d2] }
  | _ => none }
def shardListsRow : OpenClaim := { program := "ytnnnbgndbmcffaa", sum := "a6cd865f6ec52074d66f8f392af1a220d926e0065d51d49735049e013db0de13", func := "remitter/remitterlaw10.ShardLists", spec := "shardLists", unfollowed := true, recurses := true, plainKeys := false, apart := false }
def ShardListsSaid : Prop := shardListsRow.holds Try.pinned (OpenSpec.ofChange shardListsSpec)

/-- ITS FALSE NEIGHBOUR: 'it returns false'. Refute it at one input. -/
def shardListsWrong : ChangeSpec := { name := "shardLists", fn := fun _ => fun
  | [d1, d2] => { results := [.lit (.bool false)], args := [d1, d2] }
  | _ => none }
def ShardListsWrongFalsely : Prop := shardListsRow.holds Try.pinned (OpenSpec.ofChange shardListsWrong)

/-- 'remitterlaw10.ShardActs': WHATEVER THE INPUT: true; the input reads as it did. -/
def shardActsSpec : ChangeSpec := { name := "shardActs", fn := fun _ => fun
  | [d1, d2] => { results := [.lit (.bool true)], args := [d1, d2] }
  | _ => none }
def shardActsRow : OpenClaim := { program := "ytnnnbgndbmcffaa", sum := "a6cd865f6ec52074d66f8f392af1a220d926e0065d51d49735049e013db0de13", func := "remitter/remitterlaw10.ShardActs", spec := "shardActs", unfollowed := true, recurses := true, plainKeys := false, apart := false }
def ShardActsSaid : Prop := shardActsRow.holds Try.pinned (OpenSpec.ofChange shardActsSpec)

/-- ITS FALSE NEIGHBOUR: 'it returns false'. Refute it at one input. -/
def shardActsWrong : ChangeSpec := { name := "shardActs", fn := fun _ => fun
  | [d1, d2] => { results := [.lit (.bool false)], args := [d1, d2] }
  | _ => none }
def ShardActsWrongFalsely : Prop := shardActsRow.holds Try.pinned (OpenSpec.ofChange shardActsWrong)

/-- 'remitterlaw10.ShardOrder': WHATEVER THE INPUT: true; the input reads as it did. -/
def shardOrderSpec : ChangeSpec := { name := "shardOrder", fn := fun _ => fun
  | [d1, d2] => { results := [.lit (.bool true)], args := [d1, d2] }
  | _ => none }
def shardOrderRow : OpenClaim := { program := "ytnnnbgndbmcffaa", sum := "a6cd865f6ec52074d66f8f392af1a220d926e0065d51d49735049e013db0de13", func := "remitter/remitterlaw10.ShardOrder", spec := "shardOrder", unfollowed := true, recurses := true, plainKeys := false, apart := false }
def ShardOrderSaid : Prop := shardOrderRow.holds Try.pinned (OpenSpec.ofChange shardOrderSpec)

/-- ITS FALSE NEIGHBOUR: 'it returns false'. Refute it at one input. -/
def shardOrderWrong : ChangeSpec := { name := "shardOrder", fn := fun _ => fun
  | [d1, d2] => { results := [.lit (.bool false)], args := [d1, d2] }
  | _ => none }
def ShardOrderWrongFalsely : Prop := shardOrderRow.holds Try.pinned (OpenSpec.ofChange shardOrderWrong)

/- THE SECOND FORM. 'bulk': how many values and letters a reading holds, each counted each time it is reached (what is shared counts as often as it is met; a slice's spare places count too). A statement '..UptoSaid' is the law's where the arguments, and the package variables that the reading takes, are together of bulk at most 1048576: NARROWER than '..Said'. Prove '..Said' where nothing that the law and all that it calls make is longer than what came in: it says more and counts as full. Else prove '..UptoSaid'. A law counts once. -/
mutual
def uptoBulk {H : Type} : DataW H → Nat
  | .lit (.string bytes) => bytes.length + 1
  | .lit _ => 1
  | .nil => 1
  | .ptr d => uptoBulk d + 1
  | .slice elems spare => uptoBulkAll elems + uptoBulkAll spare + 1
  | .agg parts => uptoBulkAll parts + 1
  | .iface _ d => uptoBulk d + 1
  | .map entries => uptoBulkEntries entries + 1
  | .held _ => 1
def uptoBulkAll {H : Type} : List (DataW H) → Nat
  | [] => 0
  | d :: r => uptoBulk d + uptoBulkAll r
def uptoBulkEntries {H : Type} : List (Lit × DataW H) → Nat
  | [] => 0
  | x :: r => uptoBulkEntry x + uptoBulkEntries r
def uptoBulkEntry {H : Type} : Lit × DataW H → Nat
  | (.string bytes, d) => bytes.length + uptoBulk d + 1
  | (_, d) => uptoBulk d + 1
 end
def uptoSmall : (H : Type) → List (DataW H) → Bool := fun _ ds => decide (uptoBulkAll ds ≤ 1048576)
def OpenSpec.upto (s : _root_.Go.ChangeSpec) : _root_.Go.OpenSpec := { _root_.Go.OpenSpec.ofChange s with cond := some uptoSmall }

/-- 'remitterlaw06.AmountNear', WHERE WHAT IT READS IS OF BULK AT MOST 1048576: true; the input reads as it did. -/
def amountNearUptoRow : OpenClaim := { program := "ytnnnbgndbmcffaa", sum := "a6cd865f6ec52074d66f8f392af1a220d926e0065d51d49735049e013db0de13", func := "remitter/remitterlaw06.AmountNear", spec := "amountNear", named := ["math/bits.divideError", "math/bits.overflowError"], plainKeys := false, apart := false, narrowed := true }
def AmountNearUptoSaid : Prop := amountNearUptoRow.holds Try.pinned (OpenSpec.upto amountNearSpec)

/-- 'remitterlaw06.AmountParted', WHERE WHAT IT READS IS OF BULK AT MOST 1048576: true; the input reads as it did. -/
def amountPartedUptoRow : OpenClaim := { program := "ytnnnbgndbmcffaa", sum := "a6cd865f6ec52074d66f8f392af1a220d926e0065d51d49735049e013db0de13", func := "remitter/remitterlaw06.AmountParted", spec := "amountParted", named := ["math/bits.divideError", "math/bits.overflowError"], plainKeys := false, apart := false, narrowed := true }
def AmountPartedUptoSaid : Prop := amountPartedUptoRow.holds Try.pinned (OpenSpec.upto amountPartedSpec)

/-- 'remitterlaw06.AmountRises', WHERE WHAT IT READS IS OF BULK AT MOST 1048576: true; the input reads as it did. -/
def amountRisesUptoRow : OpenClaim := { program := "ytnnnbgndbmcffaa", sum := "a6cd865f6ec52074d66f8f392af1a220d926e0065d51d49735049e013db0de13", func := "remitter/remitterlaw06.AmountRises", spec := "amountRises", named := ["math/bits.divideError", "math/bits.overflowError"], plainKeys := false, apart := false, narrowed := true }
def AmountRisesUptoSaid : Prop := amountRisesUptoRow.holds Try.pinned (OpenSpec.upto amountRisesSpec)

/-- 'remitterlaw09.PurseFull', WHERE WHAT IT READS IS OF BULK AT MOST 1048576: true; the input reads as it did. -/
def purseFullUptoRow : OpenClaim := { program := "ytnnnbgndbmcffaa", sum := "a6cd865f6ec52074d66f8f392af1a220d926e0065d51d49735049e013db0de13", func := "remitter/remitterlaw09.PurseFull", spec := "purseFull", plainKeys := false, apart := false, narrowed := true }
def PurseFullUptoSaid : Prop := purseFullUptoRow.holds Try.pinned (OpenSpec.upto purseFullSpec)

/-- 'remitterlaw06.AmountParts', WHERE WHAT IT READS IS OF BULK AT MOST 1048576: true; the input reads as it did. -/
def amountPartsUptoRow : OpenClaim := { program := "ytnnnbgndbmcffaa", sum := "a6cd865f6ec52074d66f8f392af1a220d926e0065d51d49735049e013db0de13", func := "remitter/remitterlaw06.AmountParts", spec := "amountParts", named := ["math/bits.divideError", "math/bits.overflowError"], plainKeys := false, apart := false, narrowed := true }
def AmountPartsUptoSaid : Prop := amountPartsUptoRow.holds Try.pinned (OpenSpec.upto amountPartsSpec)

/-- 'remitterlaw06.AmountTells', WHERE WHAT IT READS IS OF BULK AT MOST 1048576: true; the input reads as it did. -/
def amountTellsUptoRow : OpenClaim := { program := "ytnnnbgndbmcffaa", sum := "a6cd865f6ec52074d66f8f392af1a220d926e0065d51d49735049e013db0de13", func := "remitter/remitterlaw06.AmountTells", spec := "amountTells", named := ["math/bits.divideError", "math/bits.overflowError"], plainKeys := false, apart := false, narrowed := true }
def AmountTellsUptoSaid : Prop := amountTellsUptoRow.holds Try.pinned (OpenSpec.upto amountTellsSpec)

/-- 'remitterlaw06.AmountMost', WHERE WHAT IT READS IS OF BULK AT MOST 1048576: true; the input reads as it did. -/
def amountMostUptoRow : OpenClaim := { program := "ytnnnbgndbmcffaa", sum := "a6cd865f6ec52074d66f8f392af1a220d926e0065d51d49735049e013db0de13", func := "remitter/remitterlaw06.AmountMost", spec := "amountMost", unfollowed := true, recurses := true, named := ["math/bits.divideError", "math/bits.overflowError"], plainKeys := false, apart := false, narrowed := true }
def AmountMostUptoSaid : Prop := amountMostUptoRow.holds Try.pinned (OpenSpec.upto amountMostSpec)

/-- 'remitterlaw09.PurseTotal', WHERE WHAT IT READS IS OF BULK AT MOST 1048576: true; the input reads as it did. -/
def purseTotalUptoRow : OpenClaim := { program := "ytnnnbgndbmcffaa", sum := "a6cd865f6ec52074d66f8f392af1a220d926e0065d51d49735049e013db0de13", func := "remitter/remitterlaw09.PurseTotal", spec := "purseTotal", plainKeys := false, apart := false, narrowed := true }
def PurseTotalUptoSaid : Prop := purseTotalUptoRow.holds Try.pinned (OpenSpec.upto purseTotalSpec)

/-- 'remitterlaw09.PurseBack', WHERE WHAT IT READS IS OF BULK AT MOST 1048576: true; the input reads as it did. -/
def purseBackUptoRow : OpenClaim := { program := "ytnnnbgndbmcffaa", sum := "a6cd865f6ec52074d66f8f392af1a220d926e0065d51d49735049e013db0de13", func := "remitter/remitterlaw09.PurseBack", spec := "purseBack", plainKeys := false, apart := false, narrowed := true }
def PurseBackUptoSaid : Prop := purseBackUptoRow.holds Try.pinned (OpenSpec.upto purseBackSpec)

/-- 'remitterlaw15.CircuitTwice', WHERE WHAT IT READS IS OF BULK AT MOST 1048576: true; the input reads as it did. -/
def circuitTwiceUptoRow : OpenClaim := { program := "ytnnnbgndbmcffaa", sum := "a6cd865f6ec52074d66f8f392af1a220d926e0065d51d49735049e013db0de13", func := "remitter/remitterlaw15.CircuitTwice", spec := "circuitTwice", named := ["math/bits.divideError", "math/bits.overflowError"], plainKeys := false, apart := false, narrowed := true }
def CircuitTwiceUptoSaid : Prop := circuitTwiceUptoRow.holds Try.pinned (OpenSpec.upto circuitTwiceSpec)

/-- 'remitterlaw10.ShardGoesOn', WHERE WHAT IT READS IS OF BULK AT MOST 1048576: true; the input reads as it did. -/
def shardGoesOnUptoRow : OpenClaim := { program := "ytnnnbgndbmcffaa", sum := "a6cd865f6ec52074d66f8f392af1a220d926e0065d51d49735049e013db0de13", func := "remitter/remitterlaw10.ShardGoesOn", spec := "shardGoesOn", unfollowed := true, recurses := true, plainKeys := false, apart := false, narrowed := true }
def ShardGoesOnUptoSaid : Prop := shardGoesOnUptoRow.holds Try.pinned (OpenSpec.upto shardGoesOnSpec)

/-- 'remitterlaw10.ShardLocks', WHERE WHAT IT READS IS OF BULK AT MOST 1048576: true; the input reads as it did. -/
def shardLocksUptoRow : OpenClaim := { program := "ytnnnbgndbmcffaa", sum := "a6cd865f6ec52074d66f8f392af1a220d926e0065d51d49735049e013db0de13", func := "remitter/remitterlaw10.ShardLocks", spec := "shardLocks", unfollowed := true, recurses := true, plainKeys := false, apart := false, narrowed := true }
def ShardLocksUptoSaid : Prop := shardLocksUptoRow.holds Try.pinned (OpenSpec.upto shardLocksSpec)

/-- 'remitterlaw10.ShardOver', WHERE WHAT IT READS IS OF BULK AT MOST 1048576: true; the input reads as it did. -/
def shardOverUptoRow : OpenClaim := { program := "ytnnnbgndbmcffaa", sum := "a6cd865f6ec52074d66f8f392af1a220d926e0065d51d49735049e013db0de13", func := "remitter/remitterlaw10.ShardOver", spec := "shardOver", unfollowed := true, recurses := true, plainKeys := false, apart := false, narrowed := true }
def ShardOverUptoSaid : Prop := shardOverUptoRow.holds Try.pinned (OpenSpec.upto shardOverSpec)

/-- 'remitterlaw10.ShardTime', WHERE WHAT IT READS IS OF BULK AT MOST 1048576: true; the input reads as it did. -/
def shardTimeUptoRow : OpenClaim := { program := "ytnnnbgndbmcffaa", sum := "a6cd865f6ec52074d66f8f392af1a220d926e0065d51d49735049e013db0de13", func := "remitter/remitterlaw10.ShardTime", spec := "shardTime", unfollowed := true, recurses := true, plainKeys := false, apart := false, narrowed := true }
def ShardTimeUptoSaid : Prop := shardTimeUptoRow.holds Try.pinned (OpenSpec.upto shardTimeSpec)

/-- 'remitterlaw10.ShardLists', WHERE WHAT IT READS IS OF BULK AT MOST 1048576: true; the input reads as it did. -/
def shardListsUptoRow : OpenClaim := { program := "ytnnnbgndbmcffaa", sum := "a6cd865f6ec52074d66f8f392af1a220d926e0065d51d49735049e013db0de13", func := "remitter/remitterlaw10.ShardLists", spec := "shardLists", unfollowed := true, recurses := true, plainKeys := false, apart := false, narrowed := true }
def ShardListsUptoSaid : Prop := shardListsUptoRow.holds Try.pinned (OpenSpec.upto shardListsSpec)

/-- 'remitterlaw10.ShardActs', WHERE WHAT IT READS IS OF BULK AT MOST 1048576: true; the input reads as it did. -/
def shardActsUptoRow : OpenClaim := { program := "ytnnnbgndbmcffaa", sum := "a6cd865f6ec52074d66f8f392af1a220d926e0065d51d49735049e013db0de13", func := "remitter/remitterlaw10.ShardActs", spec := "shardActs", unfollowed := true, recurses := true, plainKeys := false, apart := false, narrowed := true }
def ShardActsUptoSaid : Prop := shardActsUptoRow.holds Try.pinned (OpenSpec.upto shardActsSpec)

/-- 'remitterlaw10.ShardOrder', WHERE WHAT IT READS IS OF BULK AT MOST 1048576: true; the input reads as it did. -/
def shardOrderUptoRow : OpenClaim := { program := "ytnnnbgndbmcffaa", sum := "a6cd865f6ec52074d66f8f392af1a220d926e0065d51d49735049e013db0de13", func := "remitter/remitterlaw10.ShardOrder", spec := "shardOrder", unfollowed := true, recurses := true, plainKeys := false, apart := false, narrowed := true }
def ShardOrderUptoSaid : Prop := shardOrderUptoRow.holds Try.pinned (OpenSpec.upto shardOrderSpec)

end Rows
end Go.Proofs.Ytnnnbgndbmcffaa
