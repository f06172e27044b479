/-
  DERIVED. GIVEN WITH THE SEED: THE CARDS: each row of YtbbhilhckbdgjaaDoorRows.lean that lists a variable, with what it lists TIED to the program's text (the seventh form; the later family's looks); each row that meets fmt, with fmt's text TOLD by the authors' own Lean function (tested against real Go, not proved from fmt's source: count such statements apart). THE CARD IS WHAT COUNTS. Prove the row's statement (the work); the ties are given (YtbbhilhckbdgjaaDoorTie.lean); close each card by the builder's one call (the guide's Derived/Test/ToyasCard.lean, 'card_holds'). Laid BY PROGRAM, IN A SANDBOX (cutbox-door.mjs). By AI agents, Wed Nov 11 2026. No macro, syntax, notation, axiom, sorry.
-/
import Derived.Test.YtbbhilhckbdgjaaDoorRows
import GoSem.ClaimSeven
namespace Go.Proofs.YtbbhilhckbdgjaaDoor
namespace Rows

/-- THE TIED CARD OF 'laws.FnExactCodeRun'. -/
def fnExactCodeRunCard : Claim7 := { stood := { row := fnExactCodeRunRow, standIns := [], harness := (true, "767ed8ba46fc0ec87faae3b6e404ebd654ab3b2255f785deca8a8a612cf10008"), looks := false }, kinds := [], alts := [], laidByText := true, laidKinds := [.data, .data, .data], laidTests := true, laidLooks := .later }
def FnExactCodeRunCardSaid : Prop := Claim7.holds Tryd.pinned (.plain (OpenSpec.ofChange fnExactCodeRunSpec)) fnExactCodeRunCard

/-- THE SECOND FORM's CARD OF 'laws.FnExactCodeRun'. -/
def fnExactCodeRunUptoCard : Claim7 := { stood := { row := fnExactCodeRunUptoRow, standIns := [], harness := (true, "767ed8ba46fc0ec87faae3b6e404ebd654ab3b2255f785deca8a8a612cf10008"), looks := false }, kinds := [], alts := [], laidByText := true, laidKinds := [.data, .data, .data], laidTests := true, laidLooks := .later }
def FnExactCodeRunUptoCardSaid : Prop := Claim7.holds Tryd.pinned (.plain (OpenSpec.upto fnExactCodeRunSpec)) fnExactCodeRunUptoCard
end Rows
end Go.Proofs.YtbbhilhckbdgjaaDoor
