/-
  DERIVED. GIVEN WITH THE SEED: THE CARDS: each row of YtlodcjpoamaemaaDoorRows.lean that lists a variable, with what it lists TIED to the program's text (the seventh form; the later family's looks); each row that meets fmt, with fmt's text TOLD by the authors' own Lean function (tested against real Go, not proved from fmt's source: count such statements apart). THE CARD IS WHAT COUNTS. Prove the row's statement (the work); the ties are given (YtlodcjpoamaemaaDoorTie.lean); close each card by the builder's one call (the guide's Derived/Test/ToyasCard.lean, 'card_holds'). Laid BY PROGRAM, IN A SANDBOX (cutbox-door.mjs). By AI agents, Wed Nov 11 2026. No macro, syntax, notation, axiom, sorry.
-/
import Derived.Test.YtlodcjpoamaemaaDoorRows
import GoSem.ClaimSeven
namespace Go.Proofs.YtlodcjpoamaemaaDoor
namespace Rows

/-- THE TIED CARD OF 'laws.FnExactPackRead'. -/
def fnExactPackReadCard : Claim7 := { stood := { row := fnExactPackReadRow, standIns := [], harness := (true, "16026559760c7cd55efe2779259fe9a9f490b3ea2d126e0dc02a69f57b440a82"), looks := true }, kinds := [], alts := [], laidByText := true, laidKinds := [.data, .data, .data, .handle, .data], laidTests := true, laidLooks := .later }
def FnExactPackReadCardSaid : Prop := Claim7.holds Tryd.pinned (.plain (OpenSpec.ofChange fnExactPackReadSpec)) fnExactPackReadCard

/-- THE SECOND FORM's CARD OF 'laws.FnExactPackRead'. -/
def fnExactPackReadUptoCard : Claim7 := { stood := { row := fnExactPackReadUptoRow, standIns := [], harness := (true, "16026559760c7cd55efe2779259fe9a9f490b3ea2d126e0dc02a69f57b440a82"), looks := true }, kinds := [], alts := [], laidByText := true, laidKinds := [.data, .data, .data, .handle, .data], laidTests := true, laidLooks := .later }
def FnExactPackReadUptoCardSaid : Prop := Claim7.holds Tryd.pinned (.plain (OpenSpec.upto fnExactPackReadSpec)) fnExactPackReadUptoCard
end Rows
end Go.Proofs.YtlodcjpoamaemaaDoor
