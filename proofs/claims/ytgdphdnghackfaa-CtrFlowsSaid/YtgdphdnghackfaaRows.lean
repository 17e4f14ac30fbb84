/-
  No cell of these rows narrows 'for every input' (looked for: loops, veiled, ifaces, maps, wideKeys, modest, calm, conditions, laid).
  DERIVED. THE GIVEN ROWS OF THIS SEAT. 6 by the template 'for every input the law returns true; each argument reads behind the call as it read before'; 0 by the template 'total and deterministic' (their statements: YtgdphdnghackfaaTotals.lean).
  GIVEN WITH THE SEED: the statements are not yours to turn. If you find one false, say at which input.
  Laid BY PROGRAM, IN A SANDBOX (cutbox-rows.mjs): the forced cells as the released guide's own fill.sh prints them over the translation 861db64007ea18c4… (all of the seat's roots in one cut). By AI agents, Wed Nov 11 2026. No macro, syntax, notation, axiom, sorry.
-/
import Derived.Test.YtgdphdnghackfaaChecked
import GoSem.Claim
import GoSem.ClaimJoined
import GoSem.ClaimMapViews
import Derived.JoinedTies
import Derived.KernelRfl
namespace Go.Proofs.Ytgdphdnghackfaa
/- THE CELL 'sum', in the pinned program and in every row, IS THE sha256 OF THE DUMP (.gsa) THAT YtgdphdnghackfaaProg.lean LOADS. Nothing in Lean hashes anything: it is a label: what it is worth is what the hold of that sum in a sandbox is worth. -/
noncomputable def Try.pinned : Pinned := { name := "ytgdphdnghackfaa", sum := "861db64007ea18c4de8f12d5605275b0d384259d3e6043b869c0586f6369f980", checked := Try.checked }
namespace Rows
def none {H : Type} : Left H := { results := [], args := [] }

/-- 'oriellaw05.CtrStreams': WHATEVER THE INPUT: true; the input reads as it did. -/
def ctrStreamsSpec : ChangeSpec := { name := "ctrStreams", fn := fun _ => fun
  | [d1, d2, d3, d4] => { results := [.lit (.bool true)], args := [d1, d2, d3, d4] }
  | _ => none }
def ctrStreamsRow : OpenClaim := { program := "ytgdphdnghackfaa", sum := "861db64007ea18c4de8f12d5605275b0d384259d3e6043b869c0586f6369f980", func := "oriel/oriellaw05.CtrStreams", spec := "ctrStreams", unfollowed := true, recurses := true, apart := false }
def CtrStreamsSaid : Prop := ctrStreamsRow.holds Try.pinned (OpenSpec.ofChange ctrStreamsSpec)

/-- ITS FALSE NEIGHBOUR: 'it returns false'. Refute it at one input. -/
def ctrStreamsWrong : ChangeSpec := { name := "ctrStreams", fn := fun _ => fun
  | [d1, d2, d3, d4] => { results := [.lit (.bool false)], args := [d1, d2, d3, d4] }
  | _ => none }
def CtrStreamsWrongFalsely : Prop := ctrStreamsRow.holds Try.pinned (OpenSpec.ofChange ctrStreamsWrong)

/-- 'oriellaw05.CtrTurns': WHATEVER THE INPUT: true; the input reads as it did. -/
def ctrTurnsSpec : ChangeSpec := { name := "ctrTurns", fn := fun _ => fun
  | [d1, d2, d3] => { results := [.lit (.bool true)], args := [d1, d2, d3] }
  | _ => none }
def ctrTurnsRow : OpenClaim := { program := "ytgdphdnghackfaa", sum := "861db64007ea18c4de8f12d5605275b0d384259d3e6043b869c0586f6369f980", func := "oriel/oriellaw05.CtrTurns", spec := "ctrTurns", unfollowed := true, recurses := true, apart := false }
def CtrTurnsSaid : Prop := ctrTurnsRow.holds Try.pinned (OpenSpec.ofChange ctrTurnsSpec)

/-- ITS FALSE NEIGHBOUR: 'it returns false'. Refute it at one input. -/
def ctrTurnsWrong : ChangeSpec := { name := "ctrTurns", fn := fun _ => fun
  | [d1, d2, d3] => { results := [.lit (.bool false)], args := [d1, d2, d3] }
  | _ => none }
def CtrTurnsWrongFalsely : Prop := ctrTurnsRow.holds Try.pinned (OpenSpec.ofChange ctrTurnsWrong)

/-- 'oriellaw05.CtrSeeks': WHATEVER THE INPUT: true; the input reads as it did. -/
def ctrSeeksSpec : ChangeSpec := { name := "ctrSeeks", fn := fun _ => fun
  | [d1, d2, d3, d4, d5] => { results := [.lit (.bool true)], args := [d1, d2, d3, d4, d5] }
  | _ => none }
def ctrSeeksRow : OpenClaim := { program := "ytgdphdnghackfaa", sum := "861db64007ea18c4de8f12d5605275b0d384259d3e6043b869c0586f6369f980", func := "oriel/oriellaw05.CtrSeeks", spec := "ctrSeeks", unfollowed := true, recurses := true, apart := false }
def CtrSeeksSaid : Prop := ctrSeeksRow.holds Try.pinned (OpenSpec.ofChange ctrSeeksSpec)

/-- ITS FALSE NEIGHBOUR: 'it returns false'. Refute it at one input. -/
def ctrSeeksWrong : ChangeSpec := { name := "ctrSeeks", fn := fun _ => fun
  | [d1, d2, d3, d4, d5] => { results := [.lit (.bool false)], args := [d1, d2, d3, d4, d5] }
  | _ => none }
def CtrSeeksWrongFalsely : Prop := ctrSeeksRow.holds Try.pinned (OpenSpec.ofChange ctrSeeksWrong)

/-- 'oriellaw05.CtrTwice': WHATEVER THE INPUT: true; the input reads as it did. -/
def ctrTwiceSpec : ChangeSpec := { name := "ctrTwice", fn := fun _ => fun
  | [d1, d2, d3, d4] => { results := [.lit (.bool true)], args := [d1, d2, d3, d4] }
  | _ => none }
def ctrTwiceRow : OpenClaim := { program := "ytgdphdnghackfaa", sum := "861db64007ea18c4de8f12d5605275b0d384259d3e6043b869c0586f6369f980", func := "oriel/oriellaw05.CtrTwice", spec := "ctrTwice", unfollowed := true, recurses := true, apart := false }
def CtrTwiceSaid : Prop := ctrTwiceRow.holds Try.pinned (OpenSpec.ofChange ctrTwiceSpec)

/-- ITS FALSE NEIGHBOUR: 'it returns false'. Refute it at one input. -/
def ctrTwiceWrong : ChangeSpec := { name := "ctrTwice", fn := fun _ => fun
  | [d1, d2, d3, d4] => { results := [.lit (.bool false)], args := [d1, d2, d3, d4] }
  | _ => none }
def CtrTwiceWrongFalsely : Prop := ctrTwiceRow.holds Try.pinned (OpenSpec.ofChange ctrTwiceWrong)

/-- 'oriellaw05.CtrNone': WHATEVER THE INPUT: true; the input reads as it did. -/
def ctrNoneSpec : ChangeSpec := { name := "ctrNone", fn := fun _ => fun
  | [d] => { results := [.lit (.bool true)], args := [d] }
  | _ => none }
def ctrNoneRow : OpenClaim := { program := "ytgdphdnghackfaa", sum := "861db64007ea18c4de8f12d5605275b0d384259d3e6043b869c0586f6369f980", func := "oriel/oriellaw05.CtrNone", spec := "ctrNone", unfollowed := true, recurses := true, apart := false }
def CtrNoneSaid : Prop := ctrNoneRow.holds Try.pinned (OpenSpec.ofChange ctrNoneSpec)

/-- ITS FALSE NEIGHBOUR: 'it returns false'. Refute it at one input. -/
def ctrNoneWrong : ChangeSpec := { name := "ctrNone", fn := fun _ => fun
  | [d] => { results := [.lit (.bool false)], args := [d] }
  | _ => none }
def CtrNoneWrongFalsely : Prop := ctrNoneRow.holds Try.pinned (OpenSpec.ofChange ctrNoneWrong)

/-- 'oriellaw05.CtrFlows': WHATEVER THE INPUT: true; the input reads as it did. -/
def ctrFlowsSpec : ChangeSpec := { name := "ctrFlows", fn := fun _ => fun
  | [d1, d2, d3, d4] => { results := [.lit (.bool true)], args := [d1, d2, d3, d4] }
  | _ => none }
def ctrFlowsRow : OpenClaim := { program := "ytgdphdnghackfaa", sum := "861db64007ea18c4de8f12d5605275b0d384259d3e6043b869c0586f6369f980", func := "oriel/oriellaw05.CtrFlows", spec := "ctrFlows", unfollowed := true, recurses := true, apart := false }
def CtrFlowsSaid : Prop := ctrFlowsRow.holds Try.pinned (OpenSpec.ofChange ctrFlowsSpec)

/-- ITS FALSE NEIGHBOUR: 'it returns false'. Refute it at one input. -/
def ctrFlowsWrong : ChangeSpec := { name := "ctrFlows", fn := fun _ => fun
  | [d1, d2, d3, d4] => { results := [.lit (.bool false)], args := [d1, d2, d3, d4] }
  | _ => none }
def CtrFlowsWrongFalsely : Prop := ctrFlowsRow.holds Try.pinned (OpenSpec.ofChange ctrFlowsWrong)

/- THE SECOND FORM. 'bulk': how many values and letters a reading holds, each counted each time it is reached (what is shared counts as often as it is met; a slice's spare places count too). A statement '..UptoSaid' is the law's where the arguments, and the package variables that the reading takes, are together of bulk at most 1048576: NARROWER than '..Said'. Prove '..Said' where nothing that the law and all that it calls make is longer than what came in: it says more and counts as full. Else prove '..UptoSaid'. A law counts once. -/
mutual
def uptoBulk {H : Type} : DataW H → Nat
  | .lit (.string bytes) => bytes.length + 1
  | .lit _ => 1
  | .nil => 1
  | .ptr d => uptoBulk d + 1
  | .slice elems spare => uptoBulkAll elems + uptoBulkAll spare + 1
  | .agg parts => uptoBulkAll parts + 1
  | .iface _ d => uptoBulk d + 1
  | .map entries => uptoBulkEntries entries + 1
  | .held _ => 1
def uptoBulkAll {H : Type} : List (DataW H) → Nat
  | [] => 0
  | d :: r => uptoBulk d + uptoBulkAll r
def uptoBulkEntries {H : Type} : List (Lit × DataW H) → Nat
  | [] => 0
  | x :: r => uptoBulkEntry x + uptoBulkEntries r
def uptoBulkEntry {H : Type} : Lit × DataW H → Nat
  | (.string bytes, d) => bytes.length + uptoBulk d + 1
  | (_, d) => uptoBulk d + 1
 end
def uptoSmall : (H : Type) → List (DataW H) → Bool := fun _ ds => decide (uptoBulkAll ds ≤ 1048576)
def OpenSpec.upto (s : _root_.Go.ChangeSpec) : _root_.Go.OpenSpec := { _root_.Go.OpenSpec.ofChange s with cond := some uptoSmall }

/-- 'oriellaw05.CtrStreams', WHERE WHAT IT READS IS OF BULK AT MOST 1048576: true; the input reads as it did. -/
def ctrStreamsUptoRow : OpenClaim := { program := "ytgdphdnghackfaa", sum := "861db64007ea18c4de8f12d5605275b0d384259d3e6043b869c0586f6369f980", func := "oriel/oriellaw05.CtrStreams", spec := "ctrStreams", unfollowed := true, recurses := true, apart := false, narrowed := true }
def CtrStreamsUptoSaid : Prop := ctrStreamsUptoRow.holds Try.pinned (OpenSpec.upto ctrStreamsSpec)

/-- 'oriellaw05.CtrTurns', WHERE WHAT IT READS IS OF BULK AT MOST 1048576: true; the input reads as it did. -/
def ctrTurnsUptoRow : OpenClaim := { program := "ytgdphdnghackfaa", sum := "861db64007ea18c4de8f12d5605275b0d384259d3e6043b869c0586f6369f980", func := "oriel/oriellaw05.CtrTurns", spec := "ctrTurns", unfollowed := true, recurses := true, apart := false, narrowed := true }
def CtrTurnsUptoSaid : Prop := ctrTurnsUptoRow.holds Try.pinned (OpenSpec.upto ctrTurnsSpec)

/-- 'oriellaw05.CtrSeeks', WHERE WHAT IT READS IS OF BULK AT MOST 1048576: true; the input reads as it did. -/
def ctrSeeksUptoRow : OpenClaim := { program := "ytgdphdnghackfaa", sum := "861db64007ea18c4de8f12d5605275b0d384259d3e6043b869c0586f6369f980", func := "oriel/oriellaw05.CtrSeeks", spec := "ctrSeeks", unfollowed := true, recurses := true, apart := false, narrowed := true }
def CtrSeeksUptoSaid : Prop := ctrSeeksUptoRow.holds Try.pinned (OpenSpec.upto ctrSeeksSpec)

/-- 'oriellaw05.CtrTwice', WHERE WHAT IT READS IS OF BULK AT MOST 1048576: true; the input reads as it did. -/
def ctrTwiceUptoRow : OpenClaim := { program := "ytgdphdnghackfaa", sum := "861db64007ea18c4de8f12d5605275b0d384259d3e6043b869c0586f6369f980", func := "oriel/oriellaw05.CtrTwice", spec := "ctrTwice", unfollowed := true, recurses := true, apart := false, narrowed := true }
def CtrTwiceUptoSaid : Prop := ctrTwiceUptoRow.holds Try.pinned (OpenSpec.upto ctrTwiceSpec)

/-- 'oriellaw05.CtrNone', WHERE WHAT IT READS IS OF BULK AT MOST 1048576: true; the input reads as it did. -/
def ctrNoneUptoRow : OpenClaim := { program := "ytgdphdnghackfaa", sum := "861db64007ea18c4de8f12d5605275b0d384259d3e6043b869c0586f6369f980", func := "oriel/oriellaw05.CtrNone", spec := "ctrNone", unfollowed := true, recurses := true, apart := false, narrowed := true }
def CtrNoneUptoSaid : Prop := ctrNoneUptoRow.holds Try.pinned (OpenSpec.upto ctrNoneSpec)

/-- 'oriellaw05.CtrFlows', WHERE WHAT IT READS IS OF BULK AT MOST 1048576: true; the input reads as it did. -/
def ctrFlowsUptoRow : OpenClaim := { program := "ytgdphdnghackfaa", sum := "861db64007ea18c4de8f12d5605275b0d384259d3e6043b869c0586f6369f980", func := "oriel/oriellaw05.CtrFlows", spec := "ctrFlows", unfollowed := true, recurses := true, apart := false, narrowed := true }
def CtrFlowsUptoSaid : Prop := ctrFlowsUptoRow.holds Try.pinned (OpenSpec.upto ctrFlowsSpec)

end Rows
end Go.Proofs.Ytgdphdnghackfaa
