/-
  No cell of these rows narrows 'for every input' (looked for: loops, veiled, ifaces, maps, wideKeys, modest, calm, conditions, laid).
  DERIVED. THE GIVEN ROWS OF THIS SEAT. 7 by the template 'for every input the law returns true; each argument reads behind the call as it read before'; 0 by the template 'total and deterministic' (their statements: YtfogblcjccoeiaaTotals.lean).
  GIVEN WITH THE SEED: the statements are not yours to turn. If you find one false, say at which input.
  Laid BY PROGRAM, IN A SANDBOX (cutbox-rows.mjs): the forced cells as the released guide's own fill.sh prints them over the translation 1a7641007ac8ee66… (all of the seat's roots in one cut). By AI agents, Wed Nov 11 2026. No macro, syntax, notation, axiom, sorry.
-/
import Derived.Test.YtfogblcjccoeiaaChecked
import GoSem.Claim
import GoSem.ClaimJoined
import GoSem.ClaimMapViews
import Derived.JoinedTies
import Derived.KernelRfl
namespace Go.Proofs.Ytfogblcjccoeiaa
/- THE CELL 'sum', in the pinned program and in every row, IS THE sha256 OF THE DUMP (.gsa) THAT YtfogblcjccoeiaaProg.lean LOADS. Nothing in Lean hashes anything: it is a label: what it is worth is what the hold of that sum in a sandbox is worth. -/
noncomputable def Try.pinned : Pinned := { name := "ytfogblcjccoeiaa", sum := "1a7641007ac8ee66741164a4f1134056edb42c53b6f5f9a328e8c82a6e24846b", checked := Try.checked }
namespace Rows
def none {H : Type} : Left H := { results := [], args := [] }

/-- 'oriellaw10.UtfForms': WHATEVER THE INPUT: true; the input reads as it did. -/
def utfFormsSpec : ChangeSpec := { name := "utfForms", fn := fun _ => fun
  | [d] => { results := [.lit (.bool true)], args := [d] }
  | _ => none }
def utfFormsRow : OpenClaim := { program := "ytfogblcjccoeiaa", sum := "1a7641007ac8ee66741164a4f1134056edb42c53b6f5f9a328e8c82a6e24846b", func := "oriel/oriellaw10.UtfForms", spec := "utfForms", recurses := true, apart := false }
def UtfFormsSaid : Prop := utfFormsRow.holds Try.pinned (OpenSpec.ofChange utfFormsSpec)

/-- ITS FALSE NEIGHBOUR: 'it returns false'. Refute it at one input. -/
def utfFormsWrong : ChangeSpec := { name := "utfForms", fn := fun _ => fun
  | [d] => { results := [.lit (.bool false)], args := [d] }
  | _ => none }
def UtfFormsWrongFalsely : Prop := utfFormsRow.holds Try.pinned (OpenSpec.ofChange utfFormsWrong)

/-- 'oriellaw10.UtfDecodes': WHATEVER THE INPUT: true; the input reads as it did. -/
def utfDecodesSpec : ChangeSpec := { name := "utfDecodes", fn := fun _ => fun
  | [d] => { results := [.lit (.bool true)], args := [d] }
  | _ => none }
def utfDecodesRow : OpenClaim := { program := "ytfogblcjccoeiaa", sum := "1a7641007ac8ee66741164a4f1134056edb42c53b6f5f9a328e8c82a6e24846b", func := "oriel/oriellaw10.UtfDecodes", spec := "utfDecodes", recurses := true, apart := false }
def UtfDecodesSaid : Prop := utfDecodesRow.holds Try.pinned (OpenSpec.ofChange utfDecodesSpec)

/-- ITS FALSE NEIGHBOUR: 'it returns false'. Refute it at one input. -/
def utfDecodesWrong : ChangeSpec := { name := "utfDecodes", fn := fun _ => fun
  | [d] => { results := [.lit (.bool false)], args := [d] }
  | _ => none }
def UtfDecodesWrongFalsely : Prop := utfDecodesRow.holds Try.pinned (OpenSpec.ofChange utfDecodesWrong)

/-- 'oriellaw10.UtfPieces': WHATEVER THE INPUT: true; the input reads as it did. -/
def utfPiecesSpec : ChangeSpec := { name := "utfPieces", fn := fun _ => fun
  | [d1, d2, d3] => { results := [.lit (.bool true)], args := [d1, d2, d3] }
  | _ => none }
def utfPiecesRow : OpenClaim := { program := "ytfogblcjccoeiaa", sum := "1a7641007ac8ee66741164a4f1134056edb42c53b6f5f9a328e8c82a6e24846b", func := "oriel/oriellaw10.UtfPieces", spec := "utfPieces", recurses := true, apart := false }
def UtfPiecesSaid : Prop := utfPiecesRow.holds Try.pinned (OpenSpec.ofChange utfPiecesSpec)

/-- ITS FALSE NEIGHBOUR: 'it returns false'. Refute it at one input. -/
def utfPiecesWrong : ChangeSpec := { name := "utfPieces", fn := fun _ => fun
  | [d1, d2, d3] => { results := [.lit (.bool false)], args := [d1, d2, d3] }
  | _ => none }
def UtfPiecesWrongFalsely : Prop := utfPiecesRow.holds Try.pinned (OpenSpec.ofChange utfPiecesWrong)

/-- 'oriellaw10.UtfBack': WHATEVER THE INPUT: true; the input reads as it did. -/
def utfBackSpec : ChangeSpec := { name := "utfBack", fn := fun _ => fun
  | [d] => { results := [.lit (.bool true)], args := [d] }
  | _ => none }
def utfBackRow : OpenClaim := { program := "ytfogblcjccoeiaa", sum := "1a7641007ac8ee66741164a4f1134056edb42c53b6f5f9a328e8c82a6e24846b", func := "oriel/oriellaw10.UtfBack", spec := "utfBack", recurses := true, apart := false }
def UtfBackSaid : Prop := utfBackRow.holds Try.pinned (OpenSpec.ofChange utfBackSpec)

/-- ITS FALSE NEIGHBOUR: 'it returns false'. Refute it at one input. -/
def utfBackWrong : ChangeSpec := { name := "utfBack", fn := fun _ => fun
  | [d] => { results := [.lit (.bool false)], args := [d] }
  | _ => none }
def UtfBackWrongFalsely : Prop := utfBackRow.holds Try.pinned (OpenSpec.ofChange utfBackWrong)

/-- 'oriellaw10.UtfAgain': WHATEVER THE INPUT: true; the input reads as it did. -/
def utfAgainSpec : ChangeSpec := { name := "utfAgain", fn := fun _ => fun
  | [d] => { results := [.lit (.bool true)], args := [d] }
  | _ => none }
def utfAgainRow : OpenClaim := { program := "ytfogblcjccoeiaa", sum := "1a7641007ac8ee66741164a4f1134056edb42c53b6f5f9a328e8c82a6e24846b", func := "oriel/oriellaw10.UtfAgain", spec := "utfAgain", recurses := true, apart := false }
def UtfAgainSaid : Prop := utfAgainRow.holds Try.pinned (OpenSpec.ofChange utfAgainSpec)

/-- ITS FALSE NEIGHBOUR: 'it returns false'. Refute it at one input. -/
def utfAgainWrong : ChangeSpec := { name := "utfAgain", fn := fun _ => fun
  | [d] => { results := [.lit (.bool false)], args := [d] }
  | _ => none }
def UtfAgainWrongFalsely : Prop := utfAgainRow.holds Try.pinned (OpenSpec.ofChange utfAgainWrong)

/-- 'oriellaw10.UtfPlays': WHATEVER THE INPUT: true; the input reads as it did. -/
def utfPlaysSpec : ChangeSpec := { name := "utfPlays", fn := fun _ => fun
  | [d] => { results := [.lit (.bool true)], args := [d] }
  | _ => none }
def utfPlaysRow : OpenClaim := { program := "ytfogblcjccoeiaa", sum := "1a7641007ac8ee66741164a4f1134056edb42c53b6f5f9a328e8c82a6e24846b", func := "oriel/oriellaw10.UtfPlays", spec := "utfPlays", recurses := true, apart := false }
def UtfPlaysSaid : Prop := utfPlaysRow.holds Try.pinned (OpenSpec.ofChange utfPlaysSpec)

/-- ITS FALSE NEIGHBOUR: 'it returns false'. Refute it at one input. -/
def utfPlaysWrong : ChangeSpec := { name := "utfPlays", fn := fun _ => fun
  | [d] => { results := [.lit (.bool false)], args := [d] }
  | _ => none }
def UtfPlaysWrongFalsely : Prop := utfPlaysRow.holds Try.pinned (OpenSpec.ofChange utfPlaysWrong)

/-- 'oriellaw10.UtfNone': WHATEVER THE INPUT: true; the input reads as it did. -/
def utfNoneSpec : ChangeSpec := { name := "utfNone", fn := fun _ => fun
  | [d] => { results := [.lit (.bool true)], args := [d] }
  | _ => none }
def utfNoneRow : OpenClaim := { program := "ytfogblcjccoeiaa", sum := "1a7641007ac8ee66741164a4f1134056edb42c53b6f5f9a328e8c82a6e24846b", func := "oriel/oriellaw10.UtfNone", spec := "utfNone", recurses := true, apart := false }
def UtfNoneSaid : Prop := utfNoneRow.holds Try.pinned (OpenSpec.ofChange utfNoneSpec)

/-- ITS FALSE NEIGHBOUR: 'it returns false'. Refute it at one input. -/
def utfNoneWrong : ChangeSpec := { name := "utfNone", fn := fun _ => fun
  | [d] => { results := [.lit (.bool false)], args := [d] }
  | _ => none }
def UtfNoneWrongFalsely : Prop := utfNoneRow.holds Try.pinned (OpenSpec.ofChange utfNoneWrong)

/- THE SECOND FORM. 'bulk': how many values and letters a reading holds, each counted each time it is reached (what is shared counts as often as it is met; a slice's spare places count too). A statement '..UptoSaid' is the law's where the arguments, and the package variables that the reading takes, are together of bulk at most 1048576: NARROWER than '..Said'. Prove '..Said' where nothing that the law and all that it calls make is longer than what came in: it says more and counts as full. Else prove '..UptoSaid'. A law counts once. -/
mutual
def uptoBulk {H : Type} : DataW H → Nat
  | .lit (.string bytes) => bytes.length + 1
  | .lit _ => 1
  | .nil => 1
  | .ptr d => uptoBulk d + 1
  | .slice elems spare => uptoBulkAll elems + uptoBulkAll spare + 1
  | .agg parts => uptoBulkAll parts + 1
  | .iface _ d => uptoBulk d + 1
  | .map entries => uptoBulkEntries entries + 1
  | .held _ => 1
def uptoBulkAll {H : Type} : List (DataW H) → Nat
  | [] => 0
  | d :: r => uptoBulk d + uptoBulkAll r
def uptoBulkEntries {H : Type} : List (Lit × DataW H) → Nat
  | [] => 0
  | x :: r => uptoBulkEntry x + uptoBulkEntries r
def uptoBulkEntry {H : Type} : Lit × DataW H → Nat
  | (.string bytes, d) => bytes.length + uptoBulk d + 1
  | (_, d) => uptoBulk d + 1
 end
def uptoSmall : (H : Type) → List (DataW H) → Bool := fun _ ds => decide (uptoBulkAll ds ≤ 1048576)
def OpenSpec.upto (s : _root_.Go.ChangeSpec) : _root_.Go.OpenSpec := { _root_.Go.OpenSpec.ofChange s with cond := some uptoSmall }

/-- 'oriellaw10.UtfForms', WHERE WHAT IT READS IS OF BULK AT MOST 1048576: true; the input reads as it did. -/
def utfFormsUptoRow : OpenClaim := { program := "ytfogblcjccoeiaa", sum := "1a7641007ac8ee66741164a4f1134056edb42c53b6f5f9a328e8c82a6e24846b", func := "oriel/oriellaw10.UtfForms", spec := "utfForms", recurses := true, apart := false, narrowed := true }
def UtfFormsUptoSaid : Prop := utfFormsUptoRow.holds Try.pinned (OpenSpec.upto utfFormsSpec)

/-- 'oriellaw10.UtfDecodes', WHERE WHAT IT READS IS OF BULK AT MOST 1048576: true; the input reads as it did. -/
def utfDecodesUptoRow : OpenClaim := { program := "ytfogblcjccoeiaa", sum := "1a7641007ac8ee66741164a4f1134056edb42c53b6f5f9a328e8c82a6e24846b", func := "oriel/oriellaw10.UtfDecodes", spec := "utfDecodes", recurses := true, apart := false, narrowed := true }
def UtfDecodesUptoSaid : Prop := utfDecodesUptoRow.holds Try.pinned (OpenSpec.upto utfDecodesSpec)

/-- 'oriellaw10.UtfPieces', WHERE WHAT IT READS IS OF BULK AT MOST 1048576: true; the input reads as it did. -/
def utfPiecesUptoRow : OpenClaim := { program := "ytfogblcjccoeiaa", sum := "1a7641007ac8ee66741164a4f1134056edb42c53b6f5f9a328e8c82a6e24846b", func := "oriel/oriellaw10.UtfPieces", spec := "utfPieces", recurses := true, apart := false, narrowed := true }
def UtfPiecesUptoSaid : Prop := utfPiecesUptoRow.holds Try.pinned (OpenSpec.upto utfPiecesSpec)

/-- 'oriellaw10.UtfBack', WHERE WHAT IT READS IS OF BULK AT MOST 1048576: true; the input reads as it did. -/
def utfBackUptoRow : OpenClaim := { program := "ytfogblcjccoeiaa", sum := "1a7641007ac8ee66741164a4f1134056edb42c53b6f5f9a328e8c82a6e24846b", func := "oriel/oriellaw10.UtfBack", spec := "utfBack", recurses := true, apart := false, narrowed := true }
def UtfBackUptoSaid : Prop := utfBackUptoRow.holds Try.pinned (OpenSpec.upto utfBackSpec)

/-- 'oriellaw10.UtfAgain', WHERE WHAT IT READS IS OF BULK AT MOST 1048576: true; the input reads as it did. -/
def utfAgainUptoRow : OpenClaim := { program := "ytfogblcjccoeiaa", sum := "1a7641007ac8ee66741164a4f1134056edb42c53b6f5f9a328e8c82a6e24846b", func := "oriel/oriellaw10.UtfAgain", spec := "utfAgain", recurses := true, apart := false, narrowed := true }
def UtfAgainUptoSaid : Prop := utfAgainUptoRow.holds Try.pinned (OpenSpec.upto utfAgainSpec)

/-- 'oriellaw10.UtfPlays', WHERE WHAT IT READS IS OF BULK AT MOST 1048576: true; the input reads as it did. -/
def utfPlaysUptoRow : OpenClaim := { program := "ytfogblcjccoeiaa", sum := "1a7641007ac8ee66741164a4f1134056edb42c53b6f5f9a328e8c82a6e24846b", func := "oriel/oriellaw10.UtfPlays", spec := "utfPlays", recurses := true, apart := false, narrowed := true }
def UtfPlaysUptoSaid : Prop := utfPlaysUptoRow.holds Try.pinned (OpenSpec.upto utfPlaysSpec)

/-- 'oriellaw10.UtfNone', WHERE WHAT IT READS IS OF BULK AT MOST 1048576: true; the input reads as it did. -/
def utfNoneUptoRow : OpenClaim := { program := "ytfogblcjccoeiaa", sum := "1a7641007ac8ee66741164a4f1134056edb42c53b6f5f9a328e8c82a6e24846b", func := "oriel/oriellaw10.UtfNone", spec := "utfNone", recurses := true, apart := false, narrowed := true }
def UtfNoneUptoSaid : Prop := utfNoneUptoRow.holds Try.pinned (OpenSpec.upto utfNoneSpec)

end Rows
end Go.Proofs.Ytfogblcjccoeiaa
