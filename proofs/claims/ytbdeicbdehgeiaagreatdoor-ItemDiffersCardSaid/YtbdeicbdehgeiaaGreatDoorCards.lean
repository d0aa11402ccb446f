/-
  DERIVED. GIVEN WITH THE SEED: THE CARDS: each row of YtbdeicbdehgeiaaGreatDoorRows.lean that lists a variable, with what it lists TIED to the program's text (the seventh form; the later family's looks); each row that meets fmt, with fmt's text TOLD by the authors' own Lean function (tested against real Go, not proved from fmt's source: count such statements apart). THE CARD IS WHAT COUNTS. Prove the row's statement (the work); the ties are given (YtbdeicbdehgeiaaGreatDoorTie.lean); close each card by the builder's one call (the guide's Derived/Test/ToyasCard.lean, 'card_holds'). Laid BY PROGRAM, IN A SANDBOX (cutbox-door.mjs). By AI agents, Wed Nov 11 2026. No macro, syntax, notation, axiom, sorry.
-/
import Derived.Test.YtbdeicbdehgeiaaGreatDoorRows
import GoSem.ClaimSeven
namespace Go.Proofs.YtbdeicbdehgeiaaGreatDoor
namespace Rows

/-- THE TIED CARD OF 'chaselaw2.FilterKeeps'. -/
def filterKeepsCard : Claim7 := { stood := { row := filterKeepsRow, standIns := [], harness := (true, "9fc30ac2e97e2f08ed2673b3d01914414654786c214bbf419accd4330c53a70f"), looks := true }, kinds := [], alts := [], laidByText := true, laidKinds := [.data, .data, .data, .data, .sentinel, .sentinel, .pinned], laidTests := true, laidLooks := .later }
def FilterKeepsCardSaid : Prop := Claim7.holds Tryz.pinned (.plain (OpenSpec.ofChange filterKeepsSpec)) filterKeepsCard

/-- THE TIED CARD OF 'chaselaw2.ItemTotals'. -/
def itemTotalsCard : Claim7 := { stood := { row := itemTotalsRow, standIns := [], harness := (true, "9fc30ac2e97e2f08ed2673b3d01914414654786c214bbf419accd4330c53a70f"), looks := true }, kinds := [], alts := [], laidByText := true, laidKinds := [.data, .data, .data, .data, .sentinel, .sentinel, .pinned], laidTests := true, laidLooks := .later }
def ItemTotalsCardSaid : Prop := Claim7.holds Tryz.pinned (.plain (OpenSpec.ofChange itemTotalsSpec)) itemTotalsCard

/-- THE TIED CARD OF 'chaselaw2.ItemDiffers'. -/
def itemDiffersCard : Claim7 := { stood := { row := itemDiffersRow, standIns := [], harness := (true, "9fc30ac2e97e2f08ed2673b3d01914414654786c214bbf419accd4330c53a70f"), looks := true }, kinds := [], alts := [], laidByText := true, laidKinds := [.data, .data, .data, .data, .sentinel, .sentinel, .pinned], laidTests := true, laidLooks := .later }
def ItemDiffersCardSaid : Prop := Claim7.holds Tryz.pinned (.plain (OpenSpec.ofChange itemDiffersSpec)) itemDiffersCard

/-- THE TIED CARD OF 'chaselaw2.StoreAdds'. -/
def storeAddsCard : Claim7 := { stood := { row := storeAddsRow, standIns := [], harness := (true, "9fc30ac2e97e2f08ed2673b3d01914414654786c214bbf419accd4330c53a70f"), looks := true }, kinds := [], alts := [], laidByText := true, laidKinds := [.data, .data, .data, .data, .sentinel, .sentinel, .pinned], laidTests := true, laidLooks := .later }
def StoreAddsCardSaid : Prop := Claim7.holds Tryz.pinned (.plain (OpenSpec.ofChange storeAddsSpec)) storeAddsCard

/-- THE TIED CARD OF 'chaselaw2.StoreJoins'. -/
def storeJoinsCard : Claim7 := { stood := { row := storeJoinsRow, standIns := [], harness := (true, "9fc30ac2e97e2f08ed2673b3d01914414654786c214bbf419accd4330c53a70f"), looks := true }, kinds := [], alts := [], laidByText := true, laidKinds := [.data, .data, .data, .data, .sentinel, .sentinel, .pinned], laidTests := true, laidLooks := .later }
def StoreJoinsCardSaid : Prop := Claim7.holds Tryz.pinned (.plain (OpenSpec.ofChange storeJoinsSpec)) storeJoinsCard

/-- THE SECOND FORM's CARD OF 'chaselaw2.FilterKeeps'. -/
def filterKeepsUptoCard : Claim7 := { stood := { row := filterKeepsUptoRow, standIns := [], harness := (true, "9fc30ac2e97e2f08ed2673b3d01914414654786c214bbf419accd4330c53a70f"), looks := true }, kinds := [], alts := [], laidByText := true, laidKinds := [.data, .data, .data, .data, .sentinel, .sentinel, .pinned], laidTests := true, laidLooks := .later }
def FilterKeepsUptoCardSaid : Prop := Claim7.holds Tryz.pinned (.plain (OpenSpec.upto filterKeepsSpec)) filterKeepsUptoCard

/-- THE SECOND FORM's CARD OF 'chaselaw2.ItemTotals'. -/
def itemTotalsUptoCard : Claim7 := { stood := { row := itemTotalsUptoRow, standIns := [], harness := (true, "9fc30ac2e97e2f08ed2673b3d01914414654786c214bbf419accd4330c53a70f"), looks := true }, kinds := [], alts := [], laidByText := true, laidKinds := [.data, .data, .data, .data, .sentinel, .sentinel, .pinned], laidTests := true, laidLooks := .later }
def ItemTotalsUptoCardSaid : Prop := Claim7.holds Tryz.pinned (.plain (OpenSpec.upto itemTotalsSpec)) itemTotalsUptoCard

/-- THE SECOND FORM's CARD OF 'chaselaw2.ItemDiffers'. -/
def itemDiffersUptoCard : Claim7 := { stood := { row := itemDiffersUptoRow, standIns := [], harness := (true, "9fc30ac2e97e2f08ed2673b3d01914414654786c214bbf419accd4330c53a70f"), looks := true }, kinds := [], alts := [], laidByText := true, laidKinds := [.data, .data, .data, .data, .sentinel, .sentinel, .pinned], laidTests := true, laidLooks := .later }
def ItemDiffersUptoCardSaid : Prop := Claim7.holds Tryz.pinned (.plain (OpenSpec.upto itemDiffersSpec)) itemDiffersUptoCard

/-- THE SECOND FORM's CARD OF 'chaselaw2.StoreAdds'. -/
def storeAddsUptoCard : Claim7 := { stood := { row := storeAddsUptoRow, standIns := [], harness := (true, "9fc30ac2e97e2f08ed2673b3d01914414654786c214bbf419accd4330c53a70f"), looks := true }, kinds := [], alts := [], laidByText := true, laidKinds := [.data, .data, .data, .data, .sentinel, .sentinel, .pinned], laidTests := true, laidLooks := .later }
def StoreAddsUptoCardSaid : Prop := Claim7.holds Tryz.pinned (.plain (OpenSpec.upto storeAddsSpec)) storeAddsUptoCard

/-- THE SECOND FORM's CARD OF 'chaselaw2.StoreJoins'. -/
def storeJoinsUptoCard : Claim7 := { stood := { row := storeJoinsUptoRow, standIns := [], harness := (true, "9fc30ac2e97e2f08ed2673b3d01914414654786c214bbf419accd4330c53a70f"), looks := true }, kinds := [], alts := [], laidByText := true, laidKinds := [.data, .data, .data, .data, .sentinel, .sentinel, .pinned], laidTests := true, laidLooks := .later }
def StoreJoinsUptoCardSaid : Prop := Claim7.holds Tryz.pinned (.plain (OpenSpec.upto storeJoinsSpec)) storeJoinsUptoCard
end Rows
end Go.Proofs.YtbdeicbdehgeiaaGreatDoor
