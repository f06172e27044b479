/-
  DERIVED. GIVEN WITH THE SEED: THE CARDS: each row of YtkiacbfpnidjlaaGreatDoorRows.lean that lists a variable, with what it lists TIED to the program's text (the seventh form; the later family's looks); each row that meets fmt, with fmt's text TOLD by the authors' own Lean function (tested against real Go, not proved from fmt's source: count such statements apart). THE CARD IS WHAT COUNTS. Prove the row's statement (the work); the ties are given (YtkiacbfpnidjlaaGreatDoorTie.lean); close each card by the builder's one call (the guide's Derived/Test/ToyasCard.lean, 'card_holds'). Laid BY PROGRAM, IN A SANDBOX (cutbox-door.mjs). By AI agents, Wed Nov 11 2026. No macro, syntax, notation, axiom, sorry.
-/
import Derived.Test.YtkiacbfpnidjlaaGreatDoorRows
import GoSem.ClaimSeven
namespace Go.Proofs.YtkiacbfpnidjlaaGreatDoor
namespace Rows

/-- THE TIED CARD OF 'laws.FnExactPolicyFind'. -/
def fnExactPolicyFindCard : Claim7 := { stood := { row := fnExactPolicyFindRow, standIns := [], harness := (true, "8eed45e6265531b345764f9e3ab6f85214d4ae5bb58d3c9e9979cd044247f14e"), looks := false }, kinds := [], alts := [], laidByText := true, laidKinds := [.data, .data, .data], laidTests := true, laidLooks := .later }
def FnExactPolicyFindCardSaid : Prop := Claim7.holds Tryz.pinned (.plain (OpenSpec.ofChange fnExactPolicyFindSpec)) fnExactPolicyFindCard

/-- THE SECOND FORM's CARD OF 'laws.FnExactPolicyFind'. -/
def fnExactPolicyFindUptoCard : Claim7 := { stood := { row := fnExactPolicyFindUptoRow, standIns := [], harness := (true, "8eed45e6265531b345764f9e3ab6f85214d4ae5bb58d3c9e9979cd044247f14e"), looks := false }, kinds := [], alts := [], laidByText := true, laidKinds := [.data, .data, .data], laidTests := true, laidLooks := .later }
def FnExactPolicyFindUptoCardSaid : Prop := Claim7.holds Tryz.pinned (.plain (OpenSpec.upto fnExactPolicyFindSpec)) fnExactPolicyFindUptoCard
end Rows
end Go.Proofs.YtkiacbfpnidjlaaGreatDoor
