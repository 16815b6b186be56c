/-
  NARROWER THAN 'FOR EVERY INPUT', by the rows' own cells (each row's printed sentence says how): HtlcEvents: laid · HtlcOnce: laid · HtlcTells: laid · HtlcMirror: laid · HtlcGoes: laid · HtlcOut: laid.
  DERIVED. THE GIVEN ROWS OF THIS SEAT. 6 by the template 'for every input the law returns true; each argument reads behind the call as it read before'; 0 by the template 'total and deterministic' (their statements: YtpgghhdieekncaaDoorTotals.lean).
  GIVEN WITH THE SEED: the statements are not yours to turn. If you find one false, say at which input.
  Laid BY PROGRAM, IN A SANDBOX (cutbox-rows.mjs): the forced cells as the released guide's own fill.sh prints them over the translation 188832365d6153a7… (all of the seat's roots in one cut). By AI agents, Wed Nov 11 2026. No macro, syntax, notation, axiom, sorry.
-/
import Derived.Test.YtpgghhdieekncaaDoorChecked
import GoSem.Claim
import GoSem.ClaimJoined
import GoSem.ClaimMapViews
import Derived.JoinedTies
import Derived.KernelRfl
namespace Go.Proofs.YtpgghhdieekncaaDoor
/- THE CELL 'sum', in the pinned program and in every row, IS THE sha256 OF THE DUMP (.gsa) THAT YtpgghhdieekncaaDoorProg.lean LOADS. Nothing in Lean hashes anything: it is a label: what it is worth is what the hold of that sum in a sandbox is worth. -/
noncomputable def Tryd.pinned : Pinned := { name := "ytpgghhdieekncaadoor", sum := "188832365d6153a7f4665cd1f05b5dd558e095f8f8d74874dbe9f11dded9f62e", checked := Tryd.checked }
namespace Rows
def none {H : Type} : Left H := { results := [], args := [] }

/- WHAT THE LISTED PACKAGE-LEVEL VARIABLES READ AS WHEN THE CALL BEGINS. Each datum BY PROGRAM (the guide's laid-datum.mjs) off the statement by which the dump's own 'gosem.cut.vars' lays the variable. In a bare row this is a premise. The card (YtpgghhdieekncaaDoorCards.lean) ties it to the program's text. -/
def laid_remitter_htlc_events {H : Type} : DataW H := .agg [.agg [.lit (.int .i64 3), .lit (.int .i64 4), .lit (.int .i64 1), .lit (.int .i64 2), .lit (.int .i64 0), .lit (.int .i64 1), .lit (.int .i64 2), .lit (.int .i64 3), .lit (.int .i64 4), .lit (.int .i64 0)], .agg [.lit (.int .i64 1), .lit (.int .i64 2), .lit (.int .i64 3), .lit (.int .i64 4), .lit (.int .i64 0), .lit (.int .i64 3), .lit (.int .i64 4), .lit (.int .i64 1), .lit (.int .i64 2), .lit (.int .i64 0)]]
def laid_remitter_htlc_spans {H : Type} : DataW H := .agg [.agg [.lit (.int .i64 1), .lit (.int .i64 7)], .agg [.lit (.int .i64 3), .lit (.int .i64 5)]]

/-- 'remitterlaw11.HtlcEvents': WHATEVER THE INPUT: true; the input reads as it did. -/
def htlcEventsSpec : ChangeSpec := { name := "htlcEvents", fn := fun _ => fun
  | [d1, d2, d3] => { results := [.lit (.bool true)], args := [d1, d2, d3] }
  | _ => none }
def htlcEventsRow : OpenClaim := { program := "ytpgghhdieekncaadoor", sum := "188832365d6153a7f4665cd1f05b5dd558e095f8f8d74874dbe9f11dded9f62e", func := "remitter/remitterlaw11.HtlcEvents", spec := "htlcEvents", named := ["remitter/htlc.events"], apart := false, laid := [("remitter/htlc.events", laid_remitter_htlc_events)] }
def HtlcEventsSaid : Prop := htlcEventsRow.holds Tryd.pinned (OpenSpec.ofChange htlcEventsSpec)

/-- ITS FALSE NEIGHBOUR: 'it returns false'. Refute it at one input. -/
def htlcEventsWrong : ChangeSpec := { name := "htlcEvents", fn := fun _ => fun
  | [d1, d2, d3] => { results := [.lit (.bool false)], args := [d1, d2, d3] }
  | _ => none }
def HtlcEventsWrongFalsely : Prop := htlcEventsRow.holds Tryd.pinned (OpenSpec.ofChange htlcEventsWrong)

/-- 'remitterlaw11.HtlcOnce': WHATEVER THE INPUT: true; the input reads as it did. -/
def htlcOnceSpec : ChangeSpec := { name := "htlcOnce", fn := fun _ => fun
  | [d1, d2] => { results := [.lit (.bool true)], args := [d1, d2] }
  | _ => none }
def htlcOnceRow : OpenClaim := { program := "ytpgghhdieekncaadoor", sum := "188832365d6153a7f4665cd1f05b5dd558e095f8f8d74874dbe9f11dded9f62e", func := "remitter/remitterlaw11.HtlcOnce", spec := "htlcOnce", named := ["remitter/htlc.events", "remitter/htlc.spans"], apart := false, laid := [("remitter/htlc.events", laid_remitter_htlc_events), ("remitter/htlc.spans", laid_remitter_htlc_spans)] }
def HtlcOnceSaid : Prop := htlcOnceRow.holds Tryd.pinned (OpenSpec.ofChange htlcOnceSpec)

/-- ITS FALSE NEIGHBOUR: 'it returns false'. Refute it at one input. -/
def htlcOnceWrong : ChangeSpec := { name := "htlcOnce", fn := fun _ => fun
  | [d1, d2] => { results := [.lit (.bool false)], args := [d1, d2] }
  | _ => none }
def HtlcOnceWrongFalsely : Prop := htlcOnceRow.holds Tryd.pinned (OpenSpec.ofChange htlcOnceWrong)

/-- 'remitterlaw11.HtlcTells': WHATEVER THE INPUT: true; the input reads as it did. -/
def htlcTellsSpec : ChangeSpec := { name := "htlcTells", fn := fun _ => fun
  | [d1, d2, d3] => { results := [.lit (.bool true)], args := [d1, d2, d3] }
  | _ => none }
def htlcTellsRow : OpenClaim := { program := "ytpgghhdieekncaadoor", sum := "188832365d6153a7f4665cd1f05b5dd558e095f8f8d74874dbe9f11dded9f62e", func := "remitter/remitterlaw11.HtlcTells", spec := "htlcTells", unfollowed := true, recurses := true, named := ["remitter/htlc.spans", "remitter/htlc.events"], apart := false, laid := [("remitter/htlc.events", laid_remitter_htlc_events), ("remitter/htlc.spans", laid_remitter_htlc_spans)] }
def HtlcTellsSaid : Prop := htlcTellsRow.holds Tryd.pinned (OpenSpec.ofChange htlcTellsSpec)

/-- ITS FALSE NEIGHBOUR: 'it returns false'. Refute it at one input. -/
def htlcTellsWrong : ChangeSpec := { name := "htlcTells", fn := fun _ => fun
  | [d1, d2, d3] => { results := [.lit (.bool false)], args := [d1, d2, d3] }
  | _ => none }
def HtlcTellsWrongFalsely : Prop := htlcTellsRow.holds Tryd.pinned (OpenSpec.ofChange htlcTellsWrong)

/-- 'remitterlaw11.HtlcMirror': WHATEVER THE INPUT: true; the input reads as it did. -/
def htlcMirrorSpec : ChangeSpec := { name := "htlcMirror", fn := fun _ => fun
  | [d1, d2, d3] => { results := [.lit (.bool true)], args := [d1, d2, d3] }
  | _ => none }
def htlcMirrorRow : OpenClaim := { program := "ytpgghhdieekncaadoor", sum := "188832365d6153a7f4665cd1f05b5dd558e095f8f8d74874dbe9f11dded9f62e", func := "remitter/remitterlaw11.HtlcMirror", spec := "htlcMirror", unfollowed := true, recurses := true, named := ["remitter/htlc.spans", "remitter/htlc.events"], apart := false, laid := [("remitter/htlc.events", laid_remitter_htlc_events), ("remitter/htlc.spans", laid_remitter_htlc_spans)] }
def HtlcMirrorSaid : Prop := htlcMirrorRow.holds Tryd.pinned (OpenSpec.ofChange htlcMirrorSpec)

/-- ITS FALSE NEIGHBOUR: 'it returns false'. Refute it at one input. -/
def htlcMirrorWrong : ChangeSpec := { name := "htlcMirror", fn := fun _ => fun
  | [d1, d2, d3] => { results := [.lit (.bool false)], args := [d1, d2, d3] }
  | _ => none }
def HtlcMirrorWrongFalsely : Prop := htlcMirrorRow.holds Tryd.pinned (OpenSpec.ofChange htlcMirrorWrong)

/-- 'remitterlaw11.HtlcGoes': WHATEVER THE INPUT: true; the input reads as it did. -/
def htlcGoesSpec : ChangeSpec := { name := "htlcGoes", fn := fun _ => fun
  | [d1, d2] => { results := [.lit (.bool true)], args := [d1, d2] }
  | _ => none }
def htlcGoesRow : OpenClaim := { program := "ytpgghhdieekncaadoor", sum := "188832365d6153a7f4665cd1f05b5dd558e095f8f8d74874dbe9f11dded9f62e", func := "remitter/remitterlaw11.HtlcGoes", spec := "htlcGoes", unfollowed := true, recurses := true, named := ["remitter/htlc.events", "remitter/htlc.spans"], apart := false, laid := [("remitter/htlc.events", laid_remitter_htlc_events), ("remitter/htlc.spans", laid_remitter_htlc_spans)] }
def HtlcGoesSaid : Prop := htlcGoesRow.holds Tryd.pinned (OpenSpec.ofChange htlcGoesSpec)

/-- ITS FALSE NEIGHBOUR: 'it returns false'. Refute it at one input. -/
def htlcGoesWrong : ChangeSpec := { name := "htlcGoes", fn := fun _ => fun
  | [d1, d2] => { results := [.lit (.bool false)], args := [d1, d2] }
  | _ => none }
def HtlcGoesWrongFalsely : Prop := htlcGoesRow.holds Tryd.pinned (OpenSpec.ofChange htlcGoesWrong)

/-- 'remitterlaw11.HtlcOut': WHATEVER THE INPUT: true; the input reads as it did. -/
def htlcOutSpec : ChangeSpec := { name := "htlcOut", fn := fun _ => fun
  | [d1, d2, d3] => { results := [.lit (.bool true)], args := [d1, d2, d3] }
  | _ => none }
def htlcOutRow : OpenClaim := { program := "ytpgghhdieekncaadoor", sum := "188832365d6153a7f4665cd1f05b5dd558e095f8f8d74874dbe9f11dded9f62e", func := "remitter/remitterlaw11.HtlcOut", spec := "htlcOut", unfollowed := true, recurses := true, named := ["remitter/htlc.spans", "remitter/htlc.events"], apart := false, laid := [("remitter/htlc.events", laid_remitter_htlc_events), ("remitter/htlc.spans", laid_remitter_htlc_spans)] }
def HtlcOutSaid : Prop := htlcOutRow.holds Tryd.pinned (OpenSpec.ofChange htlcOutSpec)

/-- ITS FALSE NEIGHBOUR: 'it returns false'. Refute it at one input. -/
def htlcOutWrong : ChangeSpec := { name := "htlcOut", fn := fun _ => fun
  | [d1, d2, d3] => { results := [.lit (.bool false)], args := [d1, d2, d3] }
  | _ => none }
def HtlcOutWrongFalsely : Prop := htlcOutRow.holds Tryd.pinned (OpenSpec.ofChange htlcOutWrong)

/- THE SECOND FORM. 'bulk': how many values and letters a reading holds, each counted each time it is reached (what is shared counts as often as it is met; a slice's spare places count too). A statement '..UptoSaid' is the law's where the arguments, and the package variables that the reading takes, are together of bulk at most 1048576: NARROWER than '..Said'. Prove '..Said' where nothing that the law and all that it calls make is longer than what came in: it says more and counts as full. Else prove '..UptoSaid'. A law counts once. -/
mutual
def uptoBulk {H : Type} : DataW H → Nat
  | .lit (.string bytes) => bytes.length + 1
  | .lit _ => 1
  | .nil => 1
  | .ptr d => uptoBulk d + 1
  | .slice elems spare => uptoBulkAll elems + uptoBulkAll spare + 1
  | .agg parts => uptoBulkAll parts + 1
  | .iface _ d => uptoBulk d + 1
  | .map entries => uptoBulkEntries entries + 1
  | .held _ => 1
def uptoBulkAll {H : Type} : List (DataW H) → Nat
  | [] => 0
  | d :: r => uptoBulk d + uptoBulkAll r
def uptoBulkEntries {H : Type} : List (Lit × DataW H) → Nat
  | [] => 0
  | x :: r => uptoBulkEntry x + uptoBulkEntries r
def uptoBulkEntry {H : Type} : Lit × DataW H → Nat
  | (.string bytes, d) => bytes.length + uptoBulk d + 1
  | (_, d) => uptoBulk d + 1
 end
def uptoSmall : (H : Type) → List (DataW H) → Bool := fun _ ds => decide (uptoBulkAll ds ≤ 1048576)
def OpenSpec.upto (s : _root_.Go.ChangeSpec) : _root_.Go.OpenSpec := { _root_.Go.OpenSpec.ofChange s with cond := some uptoSmall }

/-- 'remitterlaw11.HtlcEvents', WHERE WHAT IT READS IS OF BULK AT MOST 1048576: true; the input reads as it did. -/
def htlcEventsUptoRow : OpenClaim := { program := "ytpgghhdieekncaadoor", sum := "188832365d6153a7f4665cd1f05b5dd558e095f8f8d74874dbe9f11dded9f62e", func := "remitter/remitterlaw11.HtlcEvents", spec := "htlcEvents", named := ["remitter/htlc.events"], apart := false, laid := [("remitter/htlc.events", laid_remitter_htlc_events)], narrowed := true }
def HtlcEventsUptoSaid : Prop := htlcEventsUptoRow.holds Tryd.pinned (OpenSpec.upto htlcEventsSpec)

/-- 'remitterlaw11.HtlcOnce', WHERE WHAT IT READS IS OF BULK AT MOST 1048576: true; the input reads as it did. -/
def htlcOnceUptoRow : OpenClaim := { program := "ytpgghhdieekncaadoor", sum := "188832365d6153a7f4665cd1f05b5dd558e095f8f8d74874dbe9f11dded9f62e", func := "remitter/remitterlaw11.HtlcOnce", spec := "htlcOnce", named := ["remitter/htlc.events", "remitter/htlc.spans"], apart := false, laid := [("remitter/htlc.events", laid_remitter_htlc_events), ("remitter/htlc.spans", laid_remitter_htlc_spans)], narrowed := true }
def HtlcOnceUptoSaid : Prop := htlcOnceUptoRow.holds Tryd.pinned (OpenSpec.upto htlcOnceSpec)

/-- 'remitterlaw11.HtlcTells', WHERE WHAT IT READS IS OF BULK AT MOST 1048576: true; the input reads as it did. -/
def htlcTellsUptoRow : OpenClaim := { program := "ytpgghhdieekncaadoor", sum := "188832365d6153a7f4665cd1f05b5dd558e095f8f8d74874dbe9f11dded9f62e", func := "remitter/remitterlaw11.HtlcTells", spec := "htlcTells", unfollowed := true, recurses := true, named := ["remitter/htlc.spans", "remitter/htlc.events"], apart := false, laid := [("remitter/htlc.events", laid_remitter_htlc_events), ("remitter/htlc.spans", laid_remitter_htlc_spans)], narrowed := true }
def HtlcTellsUptoSaid : Prop := htlcTellsUptoRow.holds Tryd.pinned (OpenSpec.upto htlcTellsSpec)

/-- 'remitterlaw11.HtlcMirror', WHERE WHAT IT READS IS OF BULK AT MOST 1048576: true; the input reads as it did. -/
def htlcMirrorUptoRow : OpenClaim := { program := "ytpgghhdieekncaadoor", sum := "188832365d6153a7f4665cd1f05b5dd558e095f8f8d74874dbe9f11dded9f62e", func := "remitter/remitterlaw11.HtlcMirror", spec := "htlcMirror", unfollowed := true, recurses := true, named := ["remitter/htlc.spans", "remitter/htlc.events"], apart := false, laid := [("remitter/htlc.events", laid_remitter_htlc_events), ("remitter/htlc.spans", laid_remitter_htlc_spans)], narrowed := true }
def HtlcMirrorUptoSaid : Prop := htlcMirrorUptoRow.holds Tryd.pinned (OpenSpec.upto htlcMirrorSpec)

/-- 'remitterlaw11.HtlcGoes', WHERE WHAT IT READS IS OF BULK AT MOST 1048576: true; the input reads as it did. -/
def htlcGoesUptoRow : OpenClaim := { program := "ytpgghhdieekncaadoor", sum := "188832365d6153a7f4665cd1f05b5dd558e095f8f8d74874dbe9f11dded9f62e", func := "remitter/remitterlaw11.HtlcGoes", spec := "htlcGoes", unfollowed := true, recurses := true, named := ["remitter/htlc.events", "remitter/htlc.spans"], apart := false, laid := [("remitter/htlc.events", laid_remitter_htlc_events), ("remitter/htlc.spans", laid_remitter_htlc_spans)], narrowed := true }
def HtlcGoesUptoSaid : Prop := htlcGoesUptoRow.holds Tryd.pinned (OpenSpec.upto htlcGoesSpec)

/-- 'remitterlaw11.HtlcOut', WHERE WHAT IT READS IS OF BULK AT MOST 1048576: true; the input reads as it did. -/
def htlcOutUptoRow : OpenClaim := { program := "ytpgghhdieekncaadoor", sum := "188832365d6153a7f4665cd1f05b5dd558e095f8f8d74874dbe9f11dded9f62e", func := "remitter/remitterlaw11.HtlcOut", spec := "htlcOut", unfollowed := true, recurses := true, named := ["remitter/htlc.spans", "remitter/htlc.events"], apart := false, laid := [("remitter/htlc.events", laid_remitter_htlc_events), ("remitter/htlc.spans", laid_remitter_htlc_spans)], narrowed := true }
def HtlcOutUptoSaid : Prop := htlcOutUptoRow.holds Tryd.pinned (OpenSpec.upto htlcOutSpec)

end Rows
end Go.Proofs.YtpgghhdieekncaaDoor
