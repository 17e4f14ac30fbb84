/-
  No cell of these rows narrows 'for every input' (looked for: loops, veiled, ifaces, maps, wideKeys, modest, calm, conditions, laid).
  DERIVED. THE GIVEN ROWS OF THIS SEAT. 8 by the template 'for every input the law returns true; each argument reads behind the call as it read before'; 0 by the template 'total and deterministic' (their statements: YtfkdeekobiknjaaTotals.lean).
  GIVEN WITH THE SEED: the statements are not yours to turn. If you find one false, say at which input.
  Laid BY PROGRAM, IN A SANDBOX (cutbox-rows.mjs): the forced cells as the released guide's own fill.sh prints them over the translation ab6b5c6f15444442… (all of the seat's roots in one cut). By AI agents, Wed Nov 11 2026. No macro, syntax, notation, axiom, sorry.
-/
import Derived.Test.YtfkdeekobiknjaaChecked
import GoSem.Claim
import GoSem.ClaimJoined
import GoSem.ClaimMapViews
import Derived.JoinedTies
import Derived.KernelRfl
namespace Go.Proofs.Ytfkdeekobiknjaa
/- THE CELL 'sum', in the pinned program and in every row, IS THE sha256 OF THE DUMP (.gsa) THAT YtfkdeekobiknjaaProg.lean LOADS. Nothing in Lean hashes anything: it is a label: what it is worth is what the hold of that sum in a sandbox is worth. -/
noncomputable def Try.pinned : Pinned := { name := "ytfkdeekobiknjaa", sum := "ab6b5c6f154444423997925c5e5dd605ce3b87a156c670bfec880180ee991a6b", checked := Try.checked }
namespace Rows
def none {H : Type} : Left H := { results := [], args := [] }

/-- 'oriellaw04.AesBytes': WHATEVER THE INPUT: true; the input reads as it did. -/
def aesBytesSpec : ChangeSpec := { name := "aesBytes", fn := fun _ => fun
  | [d1, d2] => { results := [.lit (.bool true)], args := [d1, d2] }
  | _ => none }
def aesBytesRow : OpenClaim := { program := "ytfkdeekobiknjaa", sum := "ab6b5c6f154444423997925c5e5dd605ce3b87a156c670bfec880180ee991a6b", func := "oriel/oriellaw04.AesBytes", spec := "aesBytes", apart := false }
def AesBytesSaid : Prop := aesBytesRow.holds Try.pinned (OpenSpec.ofChange aesBytesSpec)

/-- ITS FALSE NEIGHBOUR: 'it returns false'. Refute it at one input. -/
def aesBytesWrong : ChangeSpec := { name := "aesBytes", fn := fun _ => fun
  | [d1, d2] => { results := [.lit (.bool false)], args := [d1, d2] }
  | _ => none }
def AesBytesWrongFalsely : Prop := aesBytesRow.holds Try.pinned (OpenSpec.ofChange aesBytesWrong)

/-- 'oriellaw04.AesHides': WHATEVER THE INPUT: true; the input reads as it did. -/
def aesHidesSpec : ChangeSpec := { name := "aesHides", fn := fun _ => fun
  | [d1, d2] => { results := [.lit (.bool true)], args := [d1, d2] }
  | _ => none }
def aesHidesRow : OpenClaim := { program := "ytfkdeekobiknjaa", sum := "ab6b5c6f154444423997925c5e5dd605ce3b87a156c670bfec880180ee991a6b", func := "oriel/oriellaw04.AesHides", spec := "aesHides", apart := false }
def AesHidesSaid : Prop := aesHidesRow.holds Try.pinned (OpenSpec.ofChange aesHidesSpec)

/-- ITS FALSE NEIGHBOUR: 'it returns false'. Refute it at one input. -/
def aesHidesWrong : ChangeSpec := { name := "aesHides", fn := fun _ => fun
  | [d1, d2] => { results := [.lit (.bool false)], args := [d1, d2] }
  | _ => none }
def AesHidesWrongFalsely : Prop := aesHidesRow.holds Try.pinned (OpenSpec.ofChange aesHidesWrong)

/-- 'oriellaw04.AesField': WHATEVER THE INPUT: true; the input reads as it did. -/
def aesFieldSpec : ChangeSpec := { name := "aesField", fn := fun _ => fun
  | [d1, d2, d3] => { results := [.lit (.bool true)], args := [d1, d2, d3] }
  | _ => none }
def aesFieldRow : OpenClaim := { program := "ytfkdeekobiknjaa", sum := "ab6b5c6f154444423997925c5e5dd605ce3b87a156c670bfec880180ee991a6b", func := "oriel/oriellaw04.AesField", spec := "aesField", apart := false }
def AesFieldSaid : Prop := aesFieldRow.holds Try.pinned (OpenSpec.ofChange aesFieldSpec)

/-- ITS FALSE NEIGHBOUR: 'it returns false'. Refute it at one input. -/
def aesFieldWrong : ChangeSpec := { name := "aesField", fn := fun _ => fun
  | [d1, d2, d3] => { results := [.lit (.bool false)], args := [d1, d2, d3] }
  | _ => none }
def AesFieldWrongFalsely : Prop := aesFieldRow.holds Try.pinned (OpenSpec.ofChange aesFieldWrong)

/-- 'oriellaw04.AesSwaps': WHATEVER THE INPUT: true; the input reads as it did. -/
def aesSwapsSpec : ChangeSpec := { name := "aesSwaps", fn := fun _ => fun
  | [d1, d2] => { results := [.lit (.bool true)], args := [d1, d2] }
  | _ => none }
def aesSwapsRow : OpenClaim := { program := "ytfkdeekobiknjaa", sum := "ab6b5c6f154444423997925c5e5dd605ce3b87a156c670bfec880180ee991a6b", func := "oriel/oriellaw04.AesSwaps", spec := "aesSwaps", apart := false }
def AesSwapsSaid : Prop := aesSwapsRow.holds Try.pinned (OpenSpec.ofChange aesSwapsSpec)

/-- ITS FALSE NEIGHBOUR: 'it returns false'. Refute it at one input. -/
def aesSwapsWrong : ChangeSpec := { name := "aesSwaps", fn := fun _ => fun
  | [d1, d2] => { results := [.lit (.bool false)], args := [d1, d2] }
  | _ => none }
def AesSwapsWrongFalsely : Prop := aesSwapsRow.holds Try.pinned (OpenSpec.ofChange aesSwapsWrong)

/-- 'oriellaw04.AesRounds': WHATEVER THE INPUT: true; the input reads as it did. -/
def aesRoundsSpec : ChangeSpec := { name := "aesRounds", fn := fun _ => fun
  | [d] => { results := [.lit (.bool true)], args := [d] }
  | _ => none }
def aesRoundsRow : OpenClaim := { program := "ytfkdeekobiknjaa", sum := "ab6b5c6f154444423997925c5e5dd605ce3b87a156c670bfec880180ee991a6b", func := "oriel/oriellaw04.AesRounds", spec := "aesRounds", apart := false }
def AesRoundsSaid : Prop := aesRoundsRow.holds Try.pinned (OpenSpec.ofChange aesRoundsSpec)

/-- ITS FALSE NEIGHBOUR: 'it returns false'. Refute it at one input. -/
def aesRoundsWrong : ChangeSpec := { name := "aesRounds", fn := fun _ => fun
  | [d] => { results := [.lit (.bool false)], args := [d] }
  | _ => none }
def AesRoundsWrongFalsely : Prop := aesRoundsRow.holds Try.pinned (OpenSpec.ofChange aesRoundsWrong)

/-- 'oriellaw04.AesFirst': WHATEVER THE INPUT: true; the input reads as it did. -/
def aesFirstSpec : ChangeSpec := { name := "aesFirst", fn := fun _ => fun
  | [d1, d2] => { results := [.lit (.bool true)], args := [d1, d2] }
  | _ => none }
def aesFirstRow : OpenClaim := { program := "ytfkdeekobiknjaa", sum := "ab6b5c6f154444423997925c5e5dd605ce3b87a156c670bfec880180ee991a6b", func := "oriel/oriellaw04.AesFirst", spec := "aesFirst", apart := false }
def AesFirstSaid : Prop := aesFirstRow.holds Try.pinned (OpenSpec.ofChange aesFirstSpec)

/-- ITS FALSE NEIGHBOUR: 'it returns false'. Refute it at one input. -/
def aesFirstWrong : ChangeSpec := { name := "aesFirst", fn := fun _ => fun
  | [d1, d2] => { results := [.lit (.bool false)], args := [d1, d2] }
  | _ => none }
def AesFirstWrongFalsely : Prop := aesFirstRow.holds Try.pinned (OpenSpec.ofChange aesFirstWrong)

/-- 'oriellaw04.AesBack': WHATEVER THE INPUT: true; the input reads as it did. -/
def aesBackSpec : ChangeSpec := { name := "aesBack", fn := fun _ => fun
  | [d1, d2] => { results := [.lit (.bool true)], args := [d1, d2] }
  | _ => none }
def aesBackRow : OpenClaim := { program := "ytfkdeekobiknjaa", sum := "ab6b5c6f154444423997925c5e5dd605ce3b87a156c670bfec880180ee991a6b", func := "oriel/oriellaw04.AesBack", spec := "aesBack", apart := false }
def AesBackSaid : Prop := aesBackRow.holds Try.pinned (OpenSpec.ofChange aesBackSpec)

/-- ITS FALSE NEIGHBOUR: 'it returns false'. Refute it at one input. -/
def aesBackWrong : ChangeSpec := { name := "aesBack", fn := fun _ => fun
  | [d1, d2] => { results := [.lit (.bool false)], args := [d1, d2] }
  | _ => none }
def AesBackWrongFalsely : Prop := aesBackRow.holds Try.pinned (OpenSpec.ofChange aesBackWrong)

/-- 'oriellaw04.AesApart': WHATEVER THE INPUT: true; the input reads as it did. -/
def aesApartSpec : ChangeSpec := { name := "aesApart", fn := fun _ => fun
  | [d1, d2, d3] => { results := [.lit (.bool true)], args := [d1, d2, d3] }
  | _ => none }
def aesApartRow : OpenClaim := { program := "ytfkdeekobiknjaa", sum := "ab6b5c6f154444423997925c5e5dd605ce3b87a156c670bfec880180ee991a6b", func := "oriel/oriellaw04.AesApart", spec := "aesApart", apart := false }
def AesApartSaid : Prop := aesApartRow.holds Try.pinned (OpenSpec.ofChange aesApartSpec)

/-- ITS FALSE NEIGHBOUR: 'it returns false'. Refute it at one input. -/
def aesApartWrong : ChangeSpec := { name := "aesApart", fn := fun _ => fun
  | [d1, d2, d3] => { results := [.lit (.bool false)], args := [d1, d2, d3] }
  | _ => none }
def AesApartWrongFalsely : Prop := aesApartRow.holds Try.pinned (OpenSpec.ofChange aesApartWrong)

/- THE SECOND FORM. 'bulk': how many values and letters a reading holds, each counted each time it is reached (what is shared counts as often as it is met; a slice's spare places count too). A statement '..UptoSaid' is the law's where the arguments, and the package variables that the reading takes, are together of bulk at most 1048576: NARROWER than '..Said'. Prove '..Said' where nothing that the law and all that it calls make is longer than what came in: it says more and counts as full. Else prove '..UptoSaid'. A law counts once. -/
mutual
def uptoBulk {H : Type} : DataW H → Nat
  | .lit (.string bytes) => bytes.length + 1
  | .lit _ => 1
  | .nil => 1
  | .ptr d => uptoBulk d + 1
  | .slice elems spare => uptoBulkAll elems + uptoBulkAll spare + 1
  | .agg parts => uptoBulkAll parts + 1
  | .iface _ d => uptoBulk d + 1
  | .map entries => uptoBulkEntries entries + 1
  | .held _ => 1
def uptoBulkAll {H : Type} : List (DataW H) → Nat
  | [] => 0
  | d :: r => uptoBulk d + uptoBulkAll r
def uptoBulkEntries {H : Type} : List (Lit × DataW H) → Nat
  | [] => 0
  | x :: r => uptoBulkEntry x + uptoBulkEntries r
def uptoBulkEntry {H : Type} : Lit × DataW H → Nat
  | (.string bytes, d) => bytes.length + uptoBulk d + 1
  | (_, d) => uptoBulk d + 1
 end
def uptoSmall : (H : Type) → List (DataW H) → Bool := fun _ ds => decide (uptoBulkAll ds ≤ 1048576)
def OpenSpec.upto (s : _root_.Go.ChangeSpec) : _root_.Go.OpenSpec := { _root_.Go.OpenSpec.ofChange s with cond := some uptoSmall }

/-- 'oriellaw04.AesBytes', WHERE WHAT IT READS IS OF BULK AT MOST 1048576: true; the input reads as it did. -/
def aesBytesUptoRow : OpenClaim := { program := "ytfkdeekobiknjaa", sum := "ab6b5c6f154444423997925c5e5dd605ce3b87a156c670bfec880180ee991a6b", func := "oriel/oriellaw04.AesBytes", spec := "aesBytes", apart := false, narrowed := true }
def AesBytesUptoSaid : Prop := aesBytesUptoRow.holds Try.pinned (OpenSpec.upto aesBytesSpec)

/-- 'oriellaw04.AesHides', WHERE WHAT IT READS IS OF BULK AT MOST 1048576: true; the input reads as it did. -/
def aesHidesUptoRow : OpenClaim := { program := "ytfkdeekobiknjaa", sum := "ab6b5c6f154444423997925c5e5dd605ce3b87a156c670bfec880180ee991a6b", func := "oriel/oriellaw04.AesHides", spec := "aesHides", apart := false, narrowed := true }
def AesHidesUptoSaid : Prop := aesHidesUptoRow.holds Try.pinned (OpenSpec.upto aesHidesSpec)

/-- 'oriellaw04.AesField', WHERE WHAT IT READS IS OF BULK AT MOST 1048576: true; the input reads as it did. -/
def aesFieldUptoRow : OpenClaim := { program := "ytfkdeekobiknjaa", sum := "ab6b5c6f154444423997925c5e5dd605ce3b87a156c670bfec880180ee991a6b", func := "oriel/oriellaw04.AesField", spec := "aesField", apart := false, narrowed := true }
def AesFieldUptoSaid : Prop := aesFieldUptoRow.holds Try.pinned (OpenSpec.upto aesFieldSpec)

/-- 'oriellaw04.AesSwaps', WHERE WHAT IT READS IS OF BULK AT MOST 1048576: true; the input reads as it did. -/
def aesSwapsUptoRow : OpenClaim := { program := "ytfkdeekobiknjaa", sum := "ab6b5c6f154444423997925c5e5dd605ce3b87a156c670bfec880180ee991a6b", func := "oriel/oriellaw04.AesSwaps", spec := "aesSwaps", apart := false, narrowed := true }
def AesSwapsUptoSaid : Prop := aesSwapsUptoRow.holds Try.pinned (OpenSpec.upto aesSwapsSpec)

/-- 'oriellaw04.AesRounds', WHERE WHAT IT READS IS OF BULK AT MOST 1048576: true; the input reads as it did. -/
def aesRoundsUptoRow : OpenClaim := { program := "ytfkdeekobiknjaa", sum := "ab6b5c6f154444423997925c5e5dd605ce3b87a156c670bfec880180ee991a6b", func := "oriel/oriellaw04.AesRounds", spec := "aesRounds", apart := false, narrowed := true }
def AesRoundsUptoSaid : Prop := aesRoundsUptoRow.holds Try.pinned (OpenSpec.upto aesRoundsSpec)

/-- 'oriellaw04.AesFirst', WHERE WHAT IT READS IS OF BULK AT MOST 1048576: true; the input reads as it did. -/
def aesFirstUptoRow : OpenClaim := { program := "ytfkdeekobiknjaa", sum := "ab6b5c6f154444423997925c5e5dd605ce3b87a156c670bfec880180ee991a6b", func := "oriel/oriellaw04.AesFirst", spec := "aesFirst", apart := false, narrowed := true }
def AesFirstUptoSaid : Prop := aesFirstUptoRow.holds Try.pinned (OpenSpec.upto aesFirstSpec)

/-- 'oriellaw04.AesBack', WHERE WHAT IT READS IS OF BULK AT MOST 1048576: true; the input reads as it did. -/
def aesBackUptoRow : OpenClaim := { program := "ytfkdeekobiknjaa", sum := "ab6b5c6f154444423997925c5e5dd605ce3b87a156c670bfec880180ee991a6b", func := "oriel/oriellaw04.AesBack", spec := "aesBack", apart := false, narrowed := true }
def AesBackUptoSaid : Prop := aesBackUptoRow.holds Try.pinned (OpenSpec.upto aesBackSpec)

/-- 'oriellaw04.AesApart', WHERE WHAT IT READS IS OF BULK AT MOST 1048576: true; the input reads as it did. -/
def aesApartUptoRow : OpenClaim := { program := "ytfkdeekobiknjaa", sum := "ab6b5c6f154444423997925c5e5dd605ce3b87a156c670bfec880180ee991a6b", func := "oriel/oriellaw04.AesApart", spec := "aesApart", apart := false, narrowed := true }
def AesApartUptoSaid : Prop := aesApartUptoRow.holds Try.pinned (OpenSpec.upto aesApartSpec)

end Rows
end Go.Proofs.Ytfkdeekobiknjaa
