/-
  DERIVED. GIVEN WITH THE SEED: THE CARDS: each row of YtfolchpjccjadaaDoorRows.lean that lists a variable, with what it lists TIED to the program's text (the seventh form; the later family's looks); each row that meets fmt, with fmt's text TOLD by the authors' own Lean function (tested against real Go, not proved from fmt's source: count such statements apart). THE CARD IS WHAT COUNTS. Prove the row's statement (the work); the ties are given (YtfolchpjccjadaaDoorTie.lean); close each card by the builder's one call (the guide's Derived/Test/ToyasCard.lean, 'card_holds'). Laid BY PROGRAM, IN A SANDBOX (cutbox-door.mjs). By AI agents, Wed Nov 11 2026. No macro, syntax, notation, axiom, sorry.
-/
import Derived.Test.YtfolchpjccjadaaDoorRows
import GoSem.ClaimSeven
namespace Go.Proofs.YtfolchpjccjadaaDoor
namespace Rows

/-- THE TIED CARD OF 'varvetop.TopIndexes'. -/
def topIndexesCard : Claim7 := { stood := { row := topIndexesRow, standIns := [], harness := (true, "c7884237e35993ec17540b255532e47cbfaa76246076d1e764e8c3afca7497f1"), looks := false }, kinds := [], alts := [], laidByText := true, laidKinds := [.data], laidTests := true, laidLooks := .later }
def TopIndexesCardSaid : Prop := Claim7.holds Tryd.pinned (.plain (OpenSpec.ofChange topIndexesSpec)) topIndexesCard

/-- THE SECOND FORM's CARD OF 'varvetop.TopIndexes'. -/
def topIndexesUptoCard : Claim7 := { stood := { row := topIndexesUptoRow, standIns := [], harness := (true, "c7884237e35993ec17540b255532e47cbfaa76246076d1e764e8c3afca7497f1"), looks := false }, kinds := [], alts := [], laidByText := true, laidKinds := [.data], laidTests := true, laidLooks := .later }
def TopIndexesUptoCardSaid : Prop := Claim7.holds Tryd.pinned (.plain (OpenSpec.upto topIndexesSpec)) topIndexesUptoCard
end Rows
end Go.Proofs.YtfolchpjccjadaaDoor
