/-
  DERIVED. GIVEN WITH THE SEED: THE CARDS: each row of YtbgoppfanibdiaaDoorRows.lean that lists a variable, with what it lists TIED to the program's text (the seventh form; the later family's looks); each row that meets fmt, with fmt's text TOLD by the authors' own Lean function (tested against real Go, not proved from fmt's source: count such statements apart). THE CARD IS WHAT COUNTS. Prove the row's statement (the work); the ties are given (YtbgoppfanibdiaaDoorTie.lean); close each card by the builder's one call (the guide's Derived/Test/ToyasCard.lean, 'card_holds'). Laid BY PROGRAM, IN A SANDBOX (cutbox-door.mjs). By AI agents, Wed Nov 11 2026. No macro, syntax, notation, axiom, sorry.
-/
import Derived.Test.YtbgoppfanibdiaaDoorRows
import GoSem.ClaimSeven
namespace Go.Proofs.YtbgoppfanibdiaaDoor
namespace Rows

/-- THE TIED CARD OF 'laws.FnGraphNone'. -/
def fnGraphNoneCard : Claim7 := { stood := { row := fnGraphNoneRow, standIns := [], harness := (true, "9e935a4b689aa7f6b0ffdc7db007f8a6390e3f30ab30c0718fe45f11ccede49a"), looks := false }, kinds := [], alts := [], laidByText := true, laidKinds := [.data, .data, .data], laidTests := true, laidLooks := .later }
def FnGraphNoneCardSaid : Prop := Claim7.holds Tryd.pinned (.plain (OpenSpec.ofChange fnGraphNoneSpec)) fnGraphNoneCard

/-- THE SECOND FORM's CARD OF 'laws.FnGraphNone'. -/
def fnGraphNoneUptoCard : Claim7 := { stood := { row := fnGraphNoneUptoRow, standIns := [], harness := (true, "9e935a4b689aa7f6b0ffdc7db007f8a6390e3f30ab30c0718fe45f11ccede49a"), looks := false }, kinds := [], alts := [], laidByText := true, laidKinds := [.data, .data, .data], laidTests := true, laidLooks := .later }
def FnGraphNoneUptoCardSaid : Prop := Claim7.holds Tryd.pinned (.plain (OpenSpec.upto fnGraphNoneSpec)) fnGraphNoneUptoCard
end Rows
end Go.Proofs.YtbgoppfanibdiaaDoor
