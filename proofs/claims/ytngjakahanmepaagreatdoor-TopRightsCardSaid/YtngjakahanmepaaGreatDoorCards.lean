/-
  DERIVED. GIVEN WITH THE SEED: THE CARDS: each row of YtngjakahanmepaaGreatDoorRows.lean that lists a variable, with what it lists TIED to the program's text (the seventh form; the later family's looks); each row that meets fmt, with fmt's text TOLD by the authors' own Lean function (tested against real Go, not proved from fmt's source: count such statements apart). THE CARD IS WHAT COUNTS. Prove the row's statement (the work); the ties are given (YtngjakahanmepaaGreatDoorTie.lean); close each card by the builder's one call (the guide's Derived/Test/ToyasCard.lean, 'card_holds'). Laid BY PROGRAM, IN A SANDBOX (cutbox-door.mjs). By AI agents, Wed Nov 11 2026. No macro, syntax, notation, axiom, sorry.
-/
import Derived.Test.YtngjakahanmepaaGreatDoorRows
import GoSem.ClaimSeven
namespace Go.Proofs.YtngjakahanmepaaGreatDoor
namespace Rows

/-- THE TIED CARD OF 'bournetop.TopRights'. -/
def topRightsCard : Claim7 := { stood := { row := topRightsRow, standIns := [], harness := (true, "b284b0618699d3715abb98dc0e81277ada8d9161e499d385a4a64dcc0e27a7b8"), looks := false }, kinds := [], alts := [], laidByText := true, laidKinds := [.data], laidTests := true, laidLooks := .later }
def TopRightsCardSaid : Prop := Claim7.holds Tryz.pinned (.plain (OpenSpec.ofChange topRightsSpec)) topRightsCard

/-- THE SECOND FORM's CARD OF 'bournetop.TopRights'. -/
def topRightsUptoCard : Claim7 := { stood := { row := topRightsUptoRow, standIns := [], harness := (true, "b284b0618699d3715abb98dc0e81277ada8d9161e499d385a4a64dcc0e27a7b8"), looks := false }, kinds := [], alts := [], laidByText := true, laidKinds := [.data], laidTests := true, laidLooks := .later }
def TopRightsUptoCardSaid : Prop := Claim7.holds Tryz.pinned (.plain (OpenSpec.upto topRightsSpec)) topRightsUptoCard
end Rows
end Go.Proofs.YtngjakahanmepaaGreatDoor
