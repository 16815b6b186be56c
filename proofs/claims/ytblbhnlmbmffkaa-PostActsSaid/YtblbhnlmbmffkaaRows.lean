/-
  No cell of these rows narrows 'for every input' (looked for: loops, veiled, ifaces, maps, wideKeys, modest, calm, conditions, laid).
  DERIVED. THE GIVEN ROWS OF THIS SEAT. 4 by the template 'for every input the law returns true; each argument reads behind the call as it read before'; 0 by the template 'total and deterministic' (their statements: YtblbhnlmbmffkaaTotals.lean).
  GIVEN WITH THE SEED: the statements are not yours to turn. If you find one false, say at which input.
  Laid BY PROGRAM, IN A SANDBOX (cutbox-rows.mjs): the forced cells as the released guide's own fill.sh prints them over the translation c1680eefb100cbbf… (all of the seat's roots in one cut). By AI agents, Wed Nov 11 2026. No macro, syntax, notation, axiom, sorry.
-/
import Derived.Test.YtblbhnlmbmffkaaChecked
import GoSem.Claim
import GoSem.ClaimJoined
import GoSem.ClaimMapViews
import Derived.JoinedTies
import Derived.KernelRfl
namespace Go.Proofs.Ytblbhnlmbmffkaa
/- THE CELL 'sum', in the pinned program and in every row, IS THE sha256 OF THE DUMP (.gsa) THAT YtblbhnlmbmffkaaProg.lean LOADS. Nothing in Lean hashes anything: it is a label: what it is worth is what the hold of that sum in a sandbox is worth. -/
noncomputable def Try.pinned : Pinned := { name := "ytblbhnlmbmffkaa", sum := "c1680eefb100cbbfceb14c1d83bab06e44304e19548643b38d7545951fd3a222", checked := Try.checked }
namespace Rows
def none {H : Type} : Left H := { results := [], args := [] }

/-- 'remitterlaw16.PostOrder': WHATEVER THE INPUT: true; the input reads as it did. -/
def postOrderSpec : ChangeSpec := { name := "postOrder", fn := fun _ => fun
  | [d] => { results := [.lit (.bool true)], args := [d] }
  | _ => none }
def postOrderRow : OpenClaim := { program := "ytblbhnlmbmffkaa", sum := "c1680eefb100cbbfceb14c1d83bab06e44304e19548643b38d7545951fd3a222", func := "remitter/remitterlaw16.PostOrder", spec := "postOrder", unfollowed := true, recurses := true, apart := false }
def PostOrderSaid : Prop := postOrderRow.holds Try.pinned (OpenSpec.ofChange postOrderSpec)

/-- ITS FALSE NEIGHBOUR: 'it returns false'. Refute it at one input. -/
def postOrderWrong : ChangeSpec := { name := "postOrder", fn := fun _ => fun
  | [d] => { results := [.lit (.bool false)], args := [d] }
  | _ => none }
def PostOrderWrongFalsely : Prop := postOrderRow.holds Try.pinned (OpenSpec.ofChange postOrderWrong)

/-- 'remitterlaw16.PostRoom': WHATEVER THE INPUT: true; the input reads as it did. -/
def postRoomSpec : ChangeSpec := { name := "postRoom", fn := fun _ => fun
  | [d1, d2] => { results := [.lit (.bool true)], args := [d1, d2] }
  | _ => none }
def postRoomRow : OpenClaim := { program := "ytblbhnlmbmffkaa", sum := "c1680eefb100cbbfceb14c1d83bab06e44304e19548643b38d7545951fd3a222", func := "remitter/remitterlaw16.PostRoom", spec := "postRoom", unfollowed := true, recurses := true, apart := false }
def PostRoomSaid : Prop := postRoomRow.holds Try.pinned (OpenSpec.ofChange postRoomSpec)

/-- ITS FALSE NEIGHBOUR: 'it returns false'. Refute it at one input. -/
def postRoomWrong : ChangeSpec := { name := "postRoom", fn := fun _ => fun
  | [d1, d2] => { results := [.lit (.bool false)], args := [d1, d2] }
  | _ => none }
def PostRoomWrongFalsely : Prop := postRoomRow.holds Try.pinned (OpenSpec.ofChange postRoomWrong)

/-- 'remitterlaw16.PostActs': WHATEVER THE INPUT: true; the input reads as it did. -/
def postActsSpec : ChangeSpec := { name := "postActs", fn := fun _ => fun
  | [d1, d2] => { results := [.lit (.bool true)], args := [d1, d2] }
  | _ => none }
def postActsRow : OpenClaim := { program := "ytblbhnlmbmffkaa", sum := "c1680eefb100cbbfceb14c1d83bab06e44304e19548643b38d7545951fd3a222", func := "remitter/remitterlaw16.PostActs", spec := "postActs", unfollowed := true, recurses := true, apart := false }
def PostActsSaid : Prop := postActsRow.holds Try.pinned (OpenSpec.ofChange postActsSpec)

/-- ITS FALSE NEIGHBOUR: 'it returns false'. Refute it at one input. -/
def postActsWrong : ChangeSpec := { name := "postActs", fn := fun _ => fun
  | [d1, d2] => { results := [.lit (.bool false)], args := [d1, d2] }
  | _ => none }
def PostActsWrongFalsely : Prop := postActsRow.holds Try.pinned (OpenSpec.ofChange postActsWrong)

/-- 'remitterlaw16.PostCloses': WHATEVER THE INPUT: true; the input reads as it did. -/
def postClosesSpec : ChangeSpec := { name := "postCloses", fn := fun _ => fun
  | [d1, d2] => { results := [.lit (.bool true)], args := [d1, d2] }
  | _ => none }
def postClosesRow : OpenClaim := { program := "ytblbhnlmbmffkaa", sum := "c1680eefb100cbbfceb14c1d83bab06e44304e19548643b38d7545951fd3a222", func := "remitter/remitterlaw16.PostCloses", spec := "postCloses", unfollowed := true, recurses := true, apart := false }
def PostClosesSaid : Prop := postClosesRow.holds Try.pinned (OpenSpec.ofChange postClosesSpec)

/-- ITS FALSE NEIGHBOUR: 'it returns false'. Refute it at one input. -/
def postClosesWrong : ChangeSpec := { name := "postCloses", fn := fun _ => fun
  | [d1, d2] => { results := [.lit (.bool false)], args := [d1, d2] }
  | _ => none }
def PostClosesWrongFalsely : Prop := postClosesRow.holds Try.pinned (OpenSpec.ofChange postClosesWrong)

/- THE SECOND FORM. 'bulk': how many values and letters a reading holds, each counted each time it is reached (what is shared counts as often as it is met; a slice's spare places count too). A statement '..UptoSaid' is the law's where the arguments, and the package variables that the reading takes, are together of bulk at most 1048576: NARROWER than '..Said'. Prove '..Said' where nothing that the law and all that it calls make is longer than what came in: it says more and counts as full. Else prove '..UptoSaid'. A law counts once. -/
mutual
def uptoBulk {H : Type} : DataW H → Nat
  | .lit (.string bytes) => bytes.length + 1
  | .lit _ => 1
  | .nil => 1
  | .ptr d => uptoBulk d + 1
  | .slice elems spare => uptoBulkAll elems + uptoBulkAll spare + 1
  | .agg parts => uptoBulkAll parts + 1
  | .iface _ d => uptoBulk d + 1
  | .map entries => uptoBulkEntries entries + 1
  | .held _ => 1
def uptoBulkAll {H : Type} : List (DataW H) → Nat
  | [] => 0
  | d :: r => uptoBulk d + uptoBulkAll r
def uptoBulkEntries {H : Type} : List (Lit × DataW H) → Nat
  | [] => 0
  | x :: r => uptoBulkEntry x + uptoBulkEntries r
def uptoBulkEntry {H : Type} : Lit × DataW H → Nat
  | (.string bytes, d) => bytes.length + uptoBulk d + 1
  | (_, d) => uptoBulk d + 1
 end
def uptoSmall : (H : Type) → List (DataW H) → Bool := fun _ ds => decide (uptoBulkAll ds ≤ 1048576)
def OpenSpec.upto (s : _root_.Go.ChangeSpec) : _root_.Go.OpenSpec := { _root_.Go.OpenSpec.ofChange s with cond := some uptoSmall }

/-- 'remitterlaw16.PostOrder', WHERE WHAT IT READS IS OF BULK AT MOST 1048576: true; the input reads as it did. -/
def postOrderUptoRow : OpenClaim := { program := "ytblbhnlmbmffkaa", sum := "c1680eefb100cbbfceb14c1d83bab06e44304e19548643b38d7545951fd3a222", func := "remitter/remitterlaw16.PostOrder", spec := "postOrder", unfollowed := true, recurses := true, apart := false, narrowed := true }
def PostOrderUptoSaid : Prop := postOrderUptoRow.holds Try.pinned (OpenSpec.upto postOrderSpec)

/-- 'remitterlaw16.PostRoom', WHERE WHAT IT READS IS OF BULK AT MOST 1048576: true; the input reads as it did. -/
def postRoomUptoRow : OpenClaim := { program := "ytblbhnlmbmffkaa", sum := "c1680eefb100cbbfceb14c1d83bab06e44304e19548643b38d7545951fd3a222", func := "remitter/remitterlaw16.PostRoom", spec := "postRoom", unfollowed := true, recurses := true, apart := false, narrowed := true }
def PostRoomUptoSaid : Prop := postRoomUptoRow.holds Try.pinned (OpenSpec.upto postRoomSpec)

/-- 'remitterlaw16.PostActs', WHERE WHAT IT READS IS OF BULK AT MOST 1048576: true; the input reads as it did. -/
def postActsUptoRow : OpenClaim := { program := "ytblbhnlmbmffkaa", sum := "c1680eefb100cbbfceb14c1d83bab06e44304e19548643b38d7545951fd3a222", func := "remitter/remitterlaw16.PostActs", spec := "postActs", unfollowed := true, recurses := true, apart := false, narrowed := true }
def PostActsUptoSaid : Prop := postActsUptoRow.holds Try.pinned (OpenSpec.upto postActsSpec)

/-- 'remitterlaw16.PostCloses', WHERE WHAT IT READS IS OF BULK AT MOST 1048576: true; the input reads as it did. -/
def postClosesUptoRow : OpenClaim := { program := "ytblbhnlmbmffkaa", sum := "c1680eefb100cbbfceb14c1d83bab06e44304e19548643b38d7545951fd3a222", func := "remitter/remitterlaw16.PostCloses", spec := "postCloses", unfollowed := true, recurses := true, apart := false, narrowed := true }
def PostClosesUptoSaid : Prop := postClosesUptoRow.holds Try.pinned (OpenSpec.upto postClosesSpec)

end Rows
end Go.Proofs.Ytblbhnlmbmffkaa
