/-
  DERIVED. GIVEN WITH THE SEED: THE CARDS: each row of YtpinlcapgoljfaaGreatDoorRows.lean that lists a variable, with what it lists TIED to the program's text (the seventh form; the later family's looks); each row that meets fmt, with fmt's text TOLD by the authors' own Lean function (tested against real Go, not proved from fmt's source: count such statements apart). THE CARD IS WHAT COUNTS. Prove the row's statement (the work); the ties are given (YtpinlcapgoljfaaGreatDoorTie.lean); close each card by the builder's one call (the guide's Derived/Test/ToyasCard.lean, 'card_holds'). Laid BY PROGRAM, IN A SANDBOX (cutbox-door.mjs). By AI agents, Wed Nov 11 2026. No macro, syntax, notation, axiom, sorry.
-/
import Derived.Test.YtpinlcapgoljfaaGreatDoorRows
import GoSem.ClaimSeven
namespace Go.Proofs.YtpinlcapgoljfaaGreatDoor
namespace Rows

/-- THE TIED CARD OF 'chaselaw2.DeskHands'. -/
def deskHandsCard : Claim7 := { stood := { row := deskHandsRow, standIns := [], harness := (true, "4c3e2de1270d78942f6ad9b4a25c91fc06d3d6e8610e415d500f004bc8570443"), looks := false }, kinds := [], alts := [], laidByText := true, laidKinds := [.data, .listed, .data, .pinned], laidTests := true, laidLooks := .later }
def DeskHandsCardSaid : Prop := Claim7.holds Tryz.pinned (.plain (OpenSpec.ofChange deskHandsSpec)) deskHandsCard

/-- THE TIED CARD OF 'chaselaw2.CodingSpreads'. -/
def codingSpreadsCard : Claim7 := { stood := { row := codingSpreadsRow, standIns := [], harness := (true, "4c3e2de1270d78942f6ad9b4a25c91fc06d3d6e8610e415d500f004bc8570443"), looks := false }, kinds := [], alts := [], laidByText := true, laidKinds := [.data, .data, .data, .data, .listed, .data, .pinned], laidTests := true, laidLooks := .later }
def CodingSpreadsCardSaid : Prop := Claim7.holds Tryz.pinned (.plain (OpenSpec.ofChange codingSpreadsSpec)) codingSpreadsCard

/-- THE SECOND FORM's CARD OF 'chaselaw2.DeskHands'. -/
def deskHandsUptoCard : Claim7 := { stood := { row := deskHandsUptoRow, standIns := [], harness := (true, "4c3e2de1270d78942f6ad9b4a25c91fc06d3d6e8610e415d500f004bc8570443"), looks := false }, kinds := [], alts := [], laidByText := true, laidKinds := [.data, .listed, .data, .pinned], laidTests := true, laidLooks := .later }
def DeskHandsUptoCardSaid : Prop := Claim7.holds Tryz.pinned (.plain (OpenSpec.upto deskHandsSpec)) deskHandsUptoCard

/-- THE SECOND FORM's CARD OF 'chaselaw2.CodingSpreads'. -/
def codingSpreadsUptoCard : Claim7 := { stood := { row := codingSpreadsUptoRow, standIns := [], harness := (true, "4c3e2de1270d78942f6ad9b4a25c91fc06d3d6e8610e415d500f004bc8570443"), looks := false }, kinds := [], alts := [], laidByText := true, laidKinds := [.data, .data, .data, .data, .listed, .data, .pinned], laidTests := true, laidLooks := .later }
def CodingSpreadsUptoCardSaid : Prop := Claim7.holds Tryz.pinned (.plain (OpenSpec.upto codingSpreadsSpec)) codingSpreadsUptoCard
end Rows
end Go.Proofs.YtpinlcapgoljfaaGreatDoor
