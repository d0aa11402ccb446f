/-
  DERIVED. GIVEN WITH THE SEED: THE CARDS: each row of YtbpicgmblpejoaaDoorRows.lean that lists a variable, with what it lists TIED to the program's text (the seventh form; the later family's looks); each row that meets fmt, with fmt's text TOLD by the authors' own Lean function (tested against real Go, not proved from fmt's source: count such statements apart). THE CARD IS WHAT COUNTS. Prove the row's statement (the work); the ties are given (YtbpicgmblpejoaaDoorTie.lean); close each card by the builder's one call (the guide's Derived/Test/ToyasCard.lean, 'card_holds'). Laid BY PROGRAM, IN A SANDBOX (cutbox-door.mjs). By AI agents, Wed Nov 11 2026. No macro, syntax, notation, axiom, sorry.
-/
import Derived.Test.YtbpicgmblpejoaaDoorRows
import GoSem.ClaimSeven
namespace Go.Proofs.YtbpicgmblpejoaaDoor
namespace Rows

/-- THE TIED CARD OF 'chaselaw2.QuoteStrings'. -/
def quoteStringsCard : Claim7 := { stood := { row := quoteStringsRow, standIns := [], harness := (true, "55d76be653ad2e860ea70f01c600938bce71485e366422e335af6c95f7c6c265"), looks := true }, kinds := [], alts := [], laidByText := true, laidKinds := [.data, .data, .data, .sentinel, .sentinel], laidTests := true, laidLooks := .later }
def QuoteStringsCardSaid : Prop := Claim7.holds Tryd.pinned (.plain (OpenSpec.ofChange quoteStringsSpec)) quoteStringsCard

/-- THE SECOND FORM's CARD OF 'chaselaw2.QuoteStrings'. -/
def quoteStringsUptoCard : Claim7 := { stood := { row := quoteStringsUptoRow, standIns := [], harness := (true, "55d76be653ad2e860ea70f01c600938bce71485e366422e335af6c95f7c6c265"), looks := true }, kinds := [], alts := [], laidByText := true, laidKinds := [.data, .data, .data, .sentinel, .sentinel], laidTests := true, laidLooks := .later }
def QuoteStringsUptoCardSaid : Prop := Claim7.holds Tryd.pinned (.plain (OpenSpec.upto quoteStringsSpec)) quoteStringsUptoCard
end Rows
end Go.Proofs.YtbpicgmblpejoaaDoor
