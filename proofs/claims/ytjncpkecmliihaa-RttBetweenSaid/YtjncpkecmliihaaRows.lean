/-
  No cell of these rows narrows 'for every input' (looked for: loops, veiled, ifaces, maps, wideKeys, modest, calm, conditions, laid).
  DERIVED. THE GIVEN ROWS OF THIS SEAT. 5 by the template 'for every input the law returns true; each argument reads behind the call as it read before'; 0 by the template 'total and deterministic' (their statements: YtjncpkecmliihaaTotals.lean).
  GIVEN WITH THE SEED: the statements are not yours to turn. If you find one false, say at which input.
  Laid BY PROGRAM, IN A SANDBOX (cutbox-rows.mjs): the forced cells as the released guide's own fill.sh prints them over the translation 996cbc6054f2e83f… (all of the seat's roots in one cut). By AI agents, Wed Nov 11 2026. No macro, syntax, notation, axiom, sorry.
-/
import Derived.Test.YtjncpkecmliihaaChecked
import GoSem.Claim
import GoSem.ClaimJoined
import GoSem.ClaimMapViews
import Derived.JoinedTies
import Derived.KernelRfl
namespace Go.Proofs.Ytjncpkecmliihaa
/- THE CELL 'sum', in the pinned program and in every row, IS THE sha256 OF THE DUMP (.gsa) THAT YtjncpkecmliihaaProg.lean LOADS. Nothing in Lean hashes anything: it is a label: what it is worth is what the hold of that sum in a sandbox is worth. -/
noncomputable def Try.pinned : Pinned := { name := "ytjncpkecmliihaa", sum := "996cbc6054f2e83f261a3e911db5c59644e0064bca79b8b998a4b0375a41548c", checked := Try.checked }
namespace Rows
def none {H : Type} : Left H := { results := [], args := [] }

/-- 'oriellaw07.RttHears': WHATEVER THE INPUT: true; the input reads as it did. -/
def rttHearsSpec : ChangeSpec := { name := "rttHears", fn := fun _ => fun
  | [d1, d2] => { results := [.lit (.bool true)], args := [d1, d2] }
  | _ => none }
def rttHearsRow : OpenClaim := { program := "ytjncpkecmliihaa", sum := "996cbc6054f2e83f261a3e911db5c59644e0064bca79b8b998a4b0375a41548c", func := "oriel/oriellaw07.RttHears", spec := "rttHears", unfollowed := true, recurses := true, apart := false }
def RttHearsSaid : Prop := rttHearsRow.holds Try.pinned (OpenSpec.ofChange rttHearsSpec)

/-- ITS FALSE NEIGHBOUR: 'it returns false'. Refute it at one input. -/
def rttHearsWrong : ChangeSpec := { name := "rttHears", fn := fun _ => fun
  | [d1, d2] => { results := [.lit (.bool false)], args := [d1, d2] }
  | _ => none }
def RttHearsWrongFalsely : Prop := rttHearsRow.holds Try.pinned (OpenSpec.ofChange rttHearsWrong)

/-- 'oriellaw07.RttWaits': WHATEVER THE INPUT: true; the input reads as it did. -/
def rttWaitsSpec : ChangeSpec := { name := "rttWaits", fn := fun _ => fun
  | [d] => { results := [.lit (.bool true)], args := [d] }
  | _ => none }
def rttWaitsRow : OpenClaim := { program := "ytjncpkecmliihaa", sum := "996cbc6054f2e83f261a3e911db5c59644e0064bca79b8b998a4b0375a41548c", func := "oriel/oriellaw07.RttWaits", spec := "rttWaits", unfollowed := true, recurses := true, apart := false }
def RttWaitsSaid : Prop := rttWaitsRow.holds Try.pinned (OpenSpec.ofChange rttWaitsSpec)

/-- ITS FALSE NEIGHBOUR: 'it returns false'. Refute it at one input. -/
def rttWaitsWrong : ChangeSpec := { name := "rttWaits", fn := fun _ => fun
  | [d] => { results := [.lit (.bool false)], args := [d] }
  | _ => none }
def RttWaitsWrongFalsely : Prop := rttWaitsRow.holds Try.pinned (OpenSpec.ofChange rttWaitsWrong)

/-- 'oriellaw07.RttBetween': WHATEVER THE INPUT: true; the input reads as it did. -/
def rttBetweenSpec : ChangeSpec := { name := "rttBetween", fn := fun _ => fun
  | [d1, d2] => { results := [.lit (.bool true)], args := [d1, d2] }
  | _ => none }
def rttBetweenRow : OpenClaim := { program := "ytjncpkecmliihaa", sum := "996cbc6054f2e83f261a3e911db5c59644e0064bca79b8b998a4b0375a41548c", func := "oriel/oriellaw07.RttBetween", spec := "rttBetween", unfollowed := true, recurses := true, apart := false }
def RttBetweenSaid : Prop := rttBetweenRow.holds Try.pinned (OpenSpec.ofChange rttBetweenSpec)

/-- ITS FALSE NEIGHBOUR: 'it returns false'. Refute it at one input. -/
def rttBetweenWrong : ChangeSpec := { name := "rttBetween", fn := fun _ => fun
  | [d1, d2] => { results := [.lit (.bool false)], args := [d1, d2] }
  | _ => none }
def RttBetweenWrongFalsely : Prop := rttBetweenRow.holds Try.pinned (OpenSpec.ofChange rttBetweenWrong)

/-- 'oriellaw07.RttCalm': WHATEVER THE INPUT: true; the input reads as it did. -/
def rttCalmSpec : ChangeSpec := { name := "rttCalm", fn := fun _ => fun
  | [d] => { results := [.lit (.bool true)], args := [d] }
  | _ => none }
def rttCalmRow : OpenClaim := { program := "ytjncpkecmliihaa", sum := "996cbc6054f2e83f261a3e911db5c59644e0064bca79b8b998a4b0375a41548c", func := "oriel/oriellaw07.RttCalm", spec := "rttCalm", unfollowed := true, recurses := true, apart := false }
def RttCalmSaid : Prop := rttCalmRow.holds Try.pinned (OpenSpec.ofChange rttCalmSpec)

/-- ITS FALSE NEIGHBOUR: 'it returns false'. Refute it at one input. -/
def rttCalmWrong : ChangeSpec := { name := "rttCalm", fn := fun _ => fun
  | [d] => { results := [.lit (.bool false)], args := [d] }
  | _ => none }
def RttCalmWrongFalsely : Prop := rttCalmRow.holds Try.pinned (OpenSpec.ofChange rttCalmWrong)

/-- 'oriellaw07.RttRises': WHATEVER THE INPUT: true; the input reads as it did. -/
def rttRisesSpec : ChangeSpec := { name := "rttRises", fn := fun _ => fun
  | [d1, d2, d3] => { results := [.lit (.bool true)], args := [d1, d2, d3] }
  | _ => none }
def rttRisesRow : OpenClaim := { program := "ytjncpkecmliihaa", sum := "996cbc6054f2e83f261a3e911db5c59644e0064bca79b8b998a4b0375a41548c", func := "oriel/oriellaw07.RttRises", spec := "rttRises", unfollowed := true, recurses := true, apart := false }
def RttRisesSaid : Prop := rttRisesRow.holds Try.pinned (OpenSpec.ofChange rttRisesSpec)

/-- ITS FALSE NEIGHBOUR: 'it returns false'. Refute it at one input. -/
def rttRisesWrong : ChangeSpec := { name := "rttRises", fn := fun _ => fun
  | [d1, d2, d3] => { results := [.lit (.bool false)], args := [d1, d2, d3] }
  | _ => none }
def RttRisesWrongFalsely : Prop := rttRisesRow.holds Try.pinned (OpenSpec.ofChange rttRisesWrong)

/- THE SECOND FORM. 'bulk': how many values and letters a reading holds, each counted each time it is reached (what is shared counts as often as it is met; a slice's spare places count too). A statement '..UptoSaid' is the law's where the arguments, and the package variables that the reading takes, are together of bulk at most 1048576: NARROWER than '..Said'. Prove '..Said' where nothing that the law and all that it calls make is longer than what came in: it says more and counts as full. Else prove '..UptoSaid'. A law counts once. -/
mutual
def uptoBulk {H : Type} : DataW H → Nat
  | .lit (.string bytes) => bytes.length + 1
  | .lit _ => 1
  | .nil => 1
  | .ptr d => uptoBulk d + 1
  | .slice elems spare => uptoBulkAll elems + uptoBulkAll spare + 1
  | .agg parts => uptoBulkAll parts + 1
  | .iface _ d => uptoBulk d + 1
  | .map entries => uptoBulkEntries entries + 1
  | .held _ => 1
def uptoBulkAll {H : Type} : List (DataW H) → Nat
  | [] => 0
  | d :: r => uptoBulk d + uptoBulkAll r
def uptoBulkEntries {H : Type} : List (Lit × DataW H) → Nat
  | [] => 0
  | x :: r => uptoBulkEntry x + uptoBulkEntries r
def uptoBulkEntry {H : Type} : Lit × DataW H → Nat
  | (.string bytes, d) => bytes.length + uptoBulk d + 1
  | (_, d) => uptoBulk d + 1
 end
def uptoSmall : (H : Type) → List (DataW H) → Bool := fun _ ds => decide (uptoBulkAll ds ≤ 1048576)
def OpenSpec.upto (s : _root_.Go.ChangeSpec) : _root_.Go.OpenSpec := { _root_.Go.OpenSpec.ofChange s with cond := some uptoSmall }

/-- 'oriellaw07.RttHears', WHERE WHAT IT READS IS OF BULK AT MOST 1048576: true; the input reads as it did. -/
def rttHearsUptoRow : OpenClaim := { program := "ytjncpkecmliihaa", sum := "996cbc6054f2e83f261a3e911db5c59644e0064bca79b8b998a4b0375a41548c", func := "oriel/oriellaw07.RttHears", spec := "rttHears", unfollowed := true, recurses := true, apart := false, narrowed := true }
def RttHearsUptoSaid : Prop := rttHearsUptoRow.holds Try.pinned (OpenSpec.upto rttHearsSpec)

/-- 'oriellaw07.RttWaits', WHERE WHAT IT READS IS OF BULK AT MOST 1048576: true; the input reads as it did. -/
def rttWaitsUptoRow : OpenClaim := { program := "ytjncpkecmliihaa", sum := "996cbc6054f2e83f261a3e911db5c59644e0064bca79b8b998a4b0375a41548c", func := "oriel/oriellaw07.RttWaits", spec := "rttWaits", unfollowed := true, recurses := true, apart := false, narrowed := true }
def RttWaitsUptoSaid : Prop := rttWaitsUptoRow.holds Try.pinned (OpenSpec.upto rttWaitsSpec)

/-- 'oriellaw07.RttBetween', WHERE WHAT IT READS IS OF BULK AT MOST 1048576: true; the input reads as it did. -/
def rttBetweenUptoRow : OpenClaim := { program := "ytjncpkecmliihaa", sum := "996cbc6054f2e83f261a3e911db5c59644e0064bca79b8b998a4b0375a41548c", func := "oriel/oriellaw07.RttBetween", spec := "rttBetween", unfollowed := true, recurses := true, apart := false, narrowed := true }
def RttBetweenUptoSaid : Prop := rttBetweenUptoRow.holds Try.pinned (OpenSpec.upto rttBetweenSpec)

/-- 'oriellaw07.RttCalm', WHERE WHAT IT READS IS OF BULK AT MOST 1048576: true; the input reads as it did. -/
def rttCalmUptoRow : OpenClaim := { program := "ytjncpkecmliihaa", sum := "996cbc6054f2e83f261a3e911db5c59644e0064bca79b8b998a4b0375a41548c", func := "oriel/oriellaw07.RttCalm", spec := "rttCalm", unfollowed := true, recurses := true, apart := false, narrowed := true }
def RttCalmUptoSaid : Prop := rttCalmUptoRow.holds Try.pinned (OpenSpec.upto rttCalmSpec)

/-- 'oriellaw07.RttRises', WHERE WHAT IT READS IS OF BULK AT MOST 1048576: true; the input reads as it did. -/
def rttRisesUptoRow : OpenClaim := { program := "ytjncpkecmliihaa", sum := "996cbc6054f2e83f261a3e911db5c59644e0064bca79b8b998a4b0375a41548c", func := "oriel/oriellaw07.RttRises", spec := "rttRises", unfollowed := true, recurses := true, apart := false, narrowed := true }
def RttRisesUptoSaid : Prop := rttRisesUptoRow.holds Try.pinned (OpenSpec.upto rttRisesSpec)

end Rows
end Go.Proofs.Ytjncpkecmliihaa
