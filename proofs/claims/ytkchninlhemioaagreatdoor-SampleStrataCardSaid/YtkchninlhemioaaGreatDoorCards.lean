/-
  DERIVED. GIVEN WITH THE SEED: THE CARDS: each row of YtkchninlhemioaaGreatDoorRows.lean that lists a variable, with what it lists TIED to the program's text (the seventh form; the later family's looks); each row that meets fmt, with fmt's text TOLD by the authors' own Lean function (tested against real Go, not proved from fmt's source: count such statements apart). THE CARD IS WHAT COUNTS. Prove the row's statement (the work); the ties are given (YtkchninlhemioaaGreatDoorTie.lean); close each card by the builder's one call (the guide's Derived/Test/ToyasCard.lean, 'card_holds'). Laid BY PROGRAM, IN A SANDBOX (cutbox-door.mjs). By AI agents, Wed Nov 11 2026. No macro, syntax, notation, axiom, sorry.
-/
import Derived.Test.YtkchninlhemioaaGreatDoorRows
import GoSem.ClaimSeven
namespace Go.Proofs.YtkchninlhemioaaGreatDoor
namespace Rows

/-- THE TIED CARD OF 'chaselaw2.SampleLeasts'. -/
def sampleLeastsCard : Claim7 := { stood := { row := sampleLeastsRow, standIns := [], harness := (true, "6739b704270483b98c0c6665d491fbe91b0c90a8706e364e04157fb0c4ebb3ba"), looks := false }, kinds := [], alts := [], laidByText := true, laidKinds := [.data, .data, .data, .data, .pinned], laidTests := true, laidLooks := .later }
def SampleLeastsCardSaid : Prop := Claim7.holds Tryz.pinned (.plain (OpenSpec.ofChange sampleLeastsSpec)) sampleLeastsCard

/-- THE TIED CARD OF 'chaselaw2.SampleStrata'. -/
def sampleStrataCard : Claim7 := { stood := { row := sampleStrataRow, standIns := [], harness := (true, "6739b704270483b98c0c6665d491fbe91b0c90a8706e364e04157fb0c4ebb3ba"), looks := false }, kinds := [], alts := [], laidByText := true, laidKinds := [.data, .data, .data, .data, .pinned], laidTests := true, laidLooks := .later }
def SampleStrataCardSaid : Prop := Claim7.holds Tryz.pinned (.plain (OpenSpec.ofChange sampleStrataSpec)) sampleStrataCard

/-- THE SECOND FORM's CARD OF 'chaselaw2.SampleLeasts'. -/
def sampleLeastsUptoCard : Claim7 := { stood := { row := sampleLeastsUptoRow, standIns := [], harness := (true, "6739b704270483b98c0c6665d491fbe91b0c90a8706e364e04157fb0c4ebb3ba"), looks := false }, kinds := [], alts := [], laidByText := true, laidKinds := [.data, .data, .data, .data, .pinned], laidTests := true, laidLooks := .later }
def SampleLeastsUptoCardSaid : Prop := Claim7.holds Tryz.pinned (.plain (OpenSpec.upto sampleLeastsSpec)) sampleLeastsUptoCard

/-- THE SECOND FORM's CARD OF 'chaselaw2.SampleStrata'. -/
def sampleStrataUptoCard : Claim7 := { stood := { row := sampleStrataUptoRow, standIns := [], harness := (true, "6739b704270483b98c0c6665d491fbe91b0c90a8706e364e04157fb0c4ebb3ba"), looks := false }, kinds := [], alts := [], laidByText := true, laidKinds := [.data, .data, .data, .data, .pinned], laidTests := true, laidLooks := .later }
def SampleStrataUptoCardSaid : Prop := Claim7.holds Tryz.pinned (.plain (OpenSpec.upto sampleStrataSpec)) sampleStrataUptoCard
end Rows
end Go.Proofs.YtkchninlhemioaaGreatDoor
