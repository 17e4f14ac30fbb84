/-
  DERIVED. GIVEN WITH THE SEED: THE CARDS: each row of YtnkanohjfanolaaDoorRows.lean that lists a variable, with what it lists TIED to the program's text (the seventh form; the later family's looks); each row that meets fmt, with fmt's text TOLD by the authors' own Lean function (tested against real Go, not proved from fmt's source: count such statements apart). THE CARD IS WHAT COUNTS. Prove the row's statement (the work); the ties are given (YtnkanohjfanolaaDoorTie.lean); close each card by the builder's one call (the guide's Derived/Test/ToyasCard.lean, 'card_holds'). Laid BY PROGRAM, IN A SANDBOX (cutbox-door.mjs). By AI agents, Wed Nov 11 2026. No macro, syntax, notation, axiom, sorry.
-/
import Derived.Test.YtnkanohjfanolaaDoorRows
import GoSem.ClaimSeven
namespace Go.Proofs.YtnkanohjfanolaaDoor
namespace Rows

/-- THE TIED CARD OF 'oriellaw16.TabsSteps'. -/
def tabsStepsCard : Claim7 := { stood := { row := tabsStepsRow, standIns := [], harness := (true, "e409744315df281729d983e1a0ee9ae10e983d092536c6bcca96a218e853d7a8"), looks := false }, kinds := [], alts := [], laidByText := true, laidKinds := [.data], laidTests := true, laidLooks := .later }
def TabsStepsCardSaid : Prop := Claim7.holds Tryd.pinned (.plain (OpenSpec.ofChange tabsStepsSpec)) tabsStepsCard

/-- THE TIED CARD OF 'oriellaw16.TabsAll'. -/
def tabsAllCard : Claim7 := { stood := { row := tabsAllRow, standIns := [], harness := (true, "e409744315df281729d983e1a0ee9ae10e983d092536c6bcca96a218e853d7a8"), looks := false }, kinds := [], alts := [], laidByText := true, laidKinds := [.data], laidTests := true, laidLooks := .later }
def TabsAllCardSaid : Prop := Claim7.holds Tryd.pinned (.plain (OpenSpec.ofChange tabsAllSpec)) tabsAllCard

/-- THE TIED CARD OF 'oriellaw16.TabsWalk'. -/
def tabsWalkCard : Claim7 := { stood := { row := tabsWalkRow, standIns := [], harness := (true, "e409744315df281729d983e1a0ee9ae10e983d092536c6bcca96a218e853d7a8"), looks := false }, kinds := [], alts := [], laidByText := true, laidKinds := [.data], laidTests := true, laidLooks := .later }
def TabsWalkCardSaid : Prop := Claim7.holds Tryd.pinned (.plain (OpenSpec.ofChange tabsWalkSpec)) tabsWalkCard

/-- THE TIED CARD OF 'oriellaw16.TabsStops'. -/
def tabsStopsCard : Claim7 := { stood := { row := tabsStopsRow, standIns := [], harness := (true, "e409744315df281729d983e1a0ee9ae10e983d092536c6bcca96a218e853d7a8"), looks := false }, kinds := [], alts := [], laidByText := true, laidKinds := [.data], laidTests := true, laidLooks := .later }
def TabsStopsCardSaid : Prop := Claim7.holds Tryd.pinned (.plain (OpenSpec.ofChange tabsStopsSpec)) tabsStopsCard

/-- THE TIED CARD OF 'oriellaw16.TabsTwice'. -/
def tabsTwiceCard : Claim7 := { stood := { row := tabsTwiceRow, standIns := [], harness := (true, "e409744315df281729d983e1a0ee9ae10e983d092536c6bcca96a218e853d7a8"), looks := false }, kinds := [], alts := [], laidByText := true, laidKinds := [.data], laidTests := true, laidLooks := .later }
def TabsTwiceCardSaid : Prop := Claim7.holds Tryd.pinned (.plain (OpenSpec.ofChange tabsTwiceSpec)) tabsTwiceCard

/-- THE SECOND FORM's CARD OF 'oriellaw16.TabsSteps'. -/
def tabsStepsUptoCard : Claim7 := { stood := { row := tabsStepsUptoRow, standIns := [], harness := (true, "e409744315df281729d983e1a0ee9ae10e983d092536c6bcca96a218e853d7a8"), looks := false }, kinds := [], alts := [], laidByText := true, laidKinds := [.data], laidTests := true, laidLooks := .later }
def TabsStepsUptoCardSaid : Prop := Claim7.holds Tryd.pinned (.plain (OpenSpec.upto tabsStepsSpec)) tabsStepsUptoCard

/-- THE SECOND FORM's CARD OF 'oriellaw16.TabsAll'. -/
def tabsAllUptoCard : Claim7 := { stood := { row := tabsAllUptoRow, standIns := [], harness := (true, "e409744315df281729d983e1a0ee9ae10e983d092536c6bcca96a218e853d7a8"), looks := false }, kinds := [], alts := [], laidByText := true, laidKinds := [.data], laidTests := true, laidLooks := .later }
def TabsAllUptoCardSaid : Prop := Claim7.holds Tryd.pinned (.plain (OpenSpec.upto tabsAllSpec)) tabsAllUptoCard

/-- THE SECOND FORM's CARD OF 'oriellaw16.TabsWalk'. -/
def tabsWalkUptoCard : Claim7 := { stood := { row := tabsWalkUptoRow, standIns := [], harness := (true, "e409744315df281729d983e1a0ee9ae10e983d092536c6bcca96a218e853d7a8"), looks := false }, kinds := [], alts := [], laidByText := true, laidKinds := [.data], laidTests := true, laidLooks := .later }
def TabsWalkUptoCardSaid : Prop := Claim7.holds Tryd.pinned (.plain (OpenSpec.upto tabsWalkSpec)) tabsWalkUptoCard

/-- THE SECOND FORM's CARD OF 'oriellaw16.TabsStops'. -/
def tabsStopsUptoCard : Claim7 := { stood := { row := tabsStopsUptoRow, standIns := [], harness := (true, "e409744315df281729d983e1a0ee9ae10e983d092536c6bcca96a218e853d7a8"), looks := false }, kinds := [], alts := [], laidByText := true, laidKinds := [.data], laidTests := true, laidLooks := .later }
def TabsStopsUptoCardSaid : Prop := Claim7.holds Tryd.pinned (.plain (OpenSpec.upto tabsStopsSpec)) tabsStopsUptoCard

/-- THE SECOND FORM's CARD OF 'oriellaw16.TabsTwice'. -/
def tabsTwiceUptoCard : Claim7 := { stood := { row := tabsTwiceUptoRow, standIns := [], harness := (true, "e409744315df281729d983e1a0ee9ae10e983d092536c6bcca96a218e853d7a8"), looks := false }, kinds := [], alts := [], laidByText := true, laidKinds := [.data], laidTests := true, laidLooks := .later }
def TabsTwiceUptoCardSaid : Prop := Claim7.holds Tryd.pinned (.plain (OpenSpec.upto tabsTwiceSpec)) tabsTwiceUptoCard
end Rows
end Go.Proofs.YtnkanohjfanolaaDoor
