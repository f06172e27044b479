/-
  DERIVED. GIVEN WITH THE SEED: THE CARDS: each row of YtgdelnpielfhkaaGreatDoorRows.lean that lists a variable, with what it lists TIED to the program's text (the seventh form; the later family's looks); each row that meets fmt, with fmt's text TOLD by the authors' own Lean function (tested against real Go, not proved from fmt's source: count such statements apart). THE CARD IS WHAT COUNTS. Prove the row's statement (the work); the ties are given (YtgdelnpielfhkaaGreatDoorTie.lean); close each card by the builder's one call (the guide's Derived/Test/ToyasCard.lean, 'card_holds'). Laid BY PROGRAM, IN A SANDBOX (cutbox-door.mjs). By AI agents, Wed Nov 11 2026. No macro, syntax, notation, axiom, sorry.
-/
import Derived.Test.YtgdelnpielfhkaaGreatDoorRows
import GoSem.ClaimSeven
namespace Go.Proofs.YtgdelnpielfhkaaGreatDoor
namespace Rows

/-- THE TIED CARD OF 'laws.FnMakeSame'. -/
def fnMakeSameCard : Claim7 := { stood := { row := fnMakeSameRow, standIns := [], harness := (true, "631dca3b540ba9366482b28fc5f568f6aa2b878c914168fe3830e2b1f0304cda"), looks := true }, kinds := [], alts := [], laidByText := true, laidKinds := [.data, .data, .data, .data, .pinned], laidTests := true, laidLooks := .later }
def FnMakeSameCardSaid : Prop := Claim7.holds Tryz.pinned (.plain (OpenSpec.ofChange fnMakeSameSpec)) fnMakeSameCard

/-- THE SECOND FORM's CARD OF 'laws.FnMakeSame'. -/
def fnMakeSameUptoCard : Claim7 := { stood := { row := fnMakeSameUptoRow, standIns := [], harness := (true, "631dca3b540ba9366482b28fc5f568f6aa2b878c914168fe3830e2b1f0304cda"), looks := true }, kinds := [], alts := [], laidByText := true, laidKinds := [.data, .data, .data, .data, .pinned], laidTests := true, laidLooks := .later }
def FnMakeSameUptoCardSaid : Prop := Claim7.holds Tryz.pinned (.plain (OpenSpec.upto fnMakeSameSpec)) fnMakeSameUptoCard
end Rows
end Go.Proofs.YtgdelnpielfhkaaGreatDoor
