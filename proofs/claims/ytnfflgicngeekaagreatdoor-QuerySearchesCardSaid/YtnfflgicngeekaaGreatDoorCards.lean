/-
  DERIVED. GIVEN WITH THE SEED: THE CARDS: each row of YtnfflgicngeekaaGreatDoorRows.lean that lists a variable, with what it lists TIED to the program's text (the seventh form; the later family's looks); each row that meets fmt, with fmt's text TOLD by the authors' own Lean function (tested against real Go, not proved from fmt's source: count such statements apart). THE CARD IS WHAT COUNTS. Prove the row's statement (the work); the ties are given (YtnfflgicngeekaaGreatDoorTie.lean); close each card by the builder's one call (the guide's Derived/Test/ToyasCard.lean, 'card_holds'). Laid BY PROGRAM, IN A SANDBOX (cutbox-door.mjs). By AI agents, Wed Nov 11 2026. No macro, syntax, notation, axiom, sorry.
-/
import Derived.Test.YtnfflgicngeekaaGreatDoorRows
import GoSem.ClaimSeven
namespace Go.Proofs.YtnfflgicngeekaaGreatDoor
namespace Rows

/-- THE TIED CARD OF 'chaselaw2.QueryPrints'. -/
def queryPrintsCard : Claim7 := { stood := { row := queryPrintsRow, standIns := [], harness := (true, "6fe8038d780df213faecc4c05ea19efc96ed672edb6a434b580fca249cfcf849"), looks := true }, kinds := [], alts := [], laidByText := true, laidKinds := [.data, .data, .data, .data, .sentinel, .sentinel, .pinned], laidTests := true, laidLooks := .later }
def QueryPrintsCardSaid : Prop := Claim7.holds Tryz.pinned (.plain (OpenSpec.ofChange queryPrintsSpec)) queryPrintsCard

/-- THE TIED CARD OF 'chaselaw2.QuerySearches'. -/
def querySearchesCard : Claim7 := { stood := { row := querySearchesRow, standIns := [], harness := (true, "6fe8038d780df213faecc4c05ea19efc96ed672edb6a434b580fca249cfcf849"), looks := true }, kinds := [], alts := [], laidByText := true, laidKinds := [.data, .data, .data, .data, .sentinel, .sentinel, .pinned], laidTests := true, laidLooks := .later }
def QuerySearchesCardSaid : Prop := Claim7.holds Tryz.pinned (.plain (OpenSpec.ofChange querySearchesSpec)) querySearchesCard

/-- THE TIED CARD OF 'chaselaw2.HoldChecks'. -/
def holdChecksCard : Claim7 := { stood := { row := holdChecksRow, standIns := [], harness := (true, "6fe8038d780df213faecc4c05ea19efc96ed672edb6a434b580fca249cfcf849"), looks := true }, kinds := [], alts := [], laidByText := true, laidKinds := [.data, .data, .data, .data, .sentinel, .sentinel, .listed, .data, .pinned], laidTests := true, laidLooks := .later }
def HoldChecksCardSaid : Prop := Claim7.holds Tryz.pinned (.plain (OpenSpec.ofChange holdChecksSpec)) holdChecksCard

/-- THE TIED CARD OF 'chaselaw2.HoldReleases'. -/
def holdReleasesCard : Claim7 := { stood := { row := holdReleasesRow, standIns := [], harness := (true, "6fe8038d780df213faecc4c05ea19efc96ed672edb6a434b580fca249cfcf849"), looks := true }, kinds := [], alts := [], laidByText := true, laidKinds := [.data, .data, .data, .data, .sentinel, .sentinel, .listed, .data, .pinned], laidTests := true, laidLooks := .later }
def HoldReleasesCardSaid : Prop := Claim7.holds Tryz.pinned (.plain (OpenSpec.ofChange holdReleasesSpec)) holdReleasesCard

/-- THE TIED CARD OF 'chaselaw2.QueryMatches'. -/
def queryMatchesCard : Claim7 := { stood := { row := queryMatchesRow, standIns := [], harness := (true, "6fe8038d780df213faecc4c05ea19efc96ed672edb6a434b580fca249cfcf849"), looks := true }, kinds := [], alts := [], laidByText := true, laidKinds := [.data, .data, .data, .data, .sentinel, .sentinel, .pinned], laidTests := true, laidLooks := .later }
def QueryMatchesCardSaid : Prop := Claim7.holds Tryz.pinned (.plain (OpenSpec.ofChange queryMatchesSpec)) queryMatchesCard

/-- THE SECOND FORM's CARD OF 'chaselaw2.QueryPrints'. -/
def queryPrintsUptoCard : Claim7 := { stood := { row := queryPrintsUptoRow, standIns := [], harness := (true, "6fe8038d780df213faecc4c05ea19efc96ed672edb6a434b580fca249cfcf849"), looks := true }, kinds := [], alts := [], laidByText := true, laidKinds := [.data, .data, .data, .data, .sentinel, .sentinel, .pinned], laidTests := true, laidLooks := .later }
def QueryPrintsUptoCardSaid : Prop := Claim7.holds Tryz.pinned (.plain (OpenSpec.upto queryPrintsSpec)) queryPrintsUptoCard

/-- THE SECOND FORM's CARD OF 'chaselaw2.QuerySearches'. -/
def querySearchesUptoCard : Claim7 := { stood := { row := querySearchesUptoRow, standIns := [], harness := (true, "6fe8038d780df213faecc4c05ea19efc96ed672edb6a434b580fca249cfcf849"), looks := true }, kinds := [], alts := [], laidByText := true, laidKinds := [.data, .data, .data, .data, .sentinel, .sentinel, .pinned], laidTests := true, laidLooks := .later }
def QuerySearchesUptoCardSaid : Prop := Claim7.holds Tryz.pinned (.plain (OpenSpec.upto querySearchesSpec)) querySearchesUptoCard

/-- THE SECOND FORM's CARD OF 'chaselaw2.HoldChecks'. -/
def holdChecksUptoCard : Claim7 := { stood := { row := holdChecksUptoRow, standIns := [], harness := (true, "6fe8038d780df213faecc4c05ea19efc96ed672edb6a434b580fca249cfcf849"), looks := true }, kinds := [], alts := [], laidByText := true, laidKinds := [.data, .data, .data, .data, .sentinel, .sentinel, .listed, .data, .pinned], laidTests := true, laidLooks := .later }
def HoldChecksUptoCardSaid : Prop := Claim7.holds Tryz.pinned (.plain (OpenSpec.upto holdChecksSpec)) holdChecksUptoCard

/-- THE SECOND FORM's CARD OF 'chaselaw2.HoldReleases'. -/
def holdReleasesUptoCard : Claim7 := { stood := { row := holdReleasesUptoRow, standIns := [], harness := (true, "6fe8038d780df213faecc4c05ea19efc96ed672edb6a434b580fca249cfcf849"), looks := true }, kinds := [], alts := [], laidByText := true, laidKinds := [.data, .data, .data, .data, .sentinel, .sentinel, .listed, .data, .pinned], laidTests := true, laidLooks := .later }
def HoldReleasesUptoCardSaid : Prop := Claim7.holds Tryz.pinned (.plain (OpenSpec.upto holdReleasesSpec)) holdReleasesUptoCard

/-- THE SECOND FORM's CARD OF 'chaselaw2.QueryMatches'. -/
def queryMatchesUptoCard : Claim7 := { stood := { row := queryMatchesUptoRow, standIns := [], harness := (true, "6fe8038d780df213faecc4c05ea19efc96ed672edb6a434b580fca249cfcf849"), looks := true }, kinds := [], alts := [], laidByText := true, laidKinds := [.data, .data, .data, .data, .sentinel, .sentinel, .pinned], laidTests := true, laidLooks := .later }
def QueryMatchesUptoCardSaid : Prop := Claim7.holds Tryz.pinned (.plain (OpenSpec.upto queryMatchesSpec)) queryMatchesUptoCard
end Rows
end Go.Proofs.YtnfflgicngeekaaGreatDoor
