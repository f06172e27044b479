/-
  DERIVED. GIVEN WITH THE SEED: THE CARDS: each row of YtbnboopbcbfpfaaDoorRows.lean that lists a variable, with what it lists TIED to the program's text (the seventh form; the later family's looks); each row that meets fmt, with fmt's text TOLD by the authors' own Lean function (tested against real Go, not proved from fmt's source: count such statements apart). THE CARD IS WHAT COUNTS. Prove the row's statement (the work); the ties are given (YtbnboopbcbfpfaaDoorTie.lean); close each card by the builder's one call (the guide's Derived/Test/ToyasCard.lean, 'card_holds'). Laid BY PROGRAM, IN A SANDBOX (cutbox-door.mjs). By AI agents, Wed Nov 11 2026. No macro, syntax, notation, axiom, sorry.
-/
import Derived.Test.YtbnboopbcbfpfaaDoorRows
import GoSem.ClaimSeven
namespace Go.Proofs.YtbnboopbcbfpfaaDoor
namespace Rows

/-- THE TIED CARD OF 'laws.FnExactCallWrite'. -/
def fnExactCallWriteCard : Claim7 := { stood := { row := fnExactCallWriteRow, standIns := [], harness := (true, "7ae4b65e401f8616edee7ae57af47d5073fb6c11d23fb38d2dc1eba5bdeb9d2c"), looks := false }, kinds := [], alts := [], laidByText := true, laidKinds := [.data, .data, .data], laidTests := true, laidLooks := .later }
def FnExactCallWriteCardSaid : Prop := Claim7.holds Tryd.pinned (.plain (OpenSpec.ofChange fnExactCallWriteSpec)) fnExactCallWriteCard

/-- THE TIED CARD OF 'laws.FnCallText'. -/
def fnCallTextCard : Claim7 := { stood := { row := fnCallTextRow, standIns := [], harness := (true, "7ae4b65e401f8616edee7ae57af47d5073fb6c11d23fb38d2dc1eba5bdeb9d2c"), looks := false }, kinds := [], alts := [], laidByText := true, laidKinds := [.data, .data, .data], laidTests := true, laidLooks := .later }
def FnCallTextCardSaid : Prop := Claim7.holds Tryd.pinned (.plain (OpenSpec.ofChange fnCallTextSpec)) fnCallTextCard

/-- THE SECOND FORM's CARD OF 'laws.FnExactCallWrite'. -/
def fnExactCallWriteUptoCard : Claim7 := { stood := { row := fnExactCallWriteUptoRow, standIns := [], harness := (true, "7ae4b65e401f8616edee7ae57af47d5073fb6c11d23fb38d2dc1eba5bdeb9d2c"), looks := false }, kinds := [], alts := [], laidByText := true, laidKinds := [.data, .data, .data], laidTests := true, laidLooks := .later }
def FnExactCallWriteUptoCardSaid : Prop := Claim7.holds Tryd.pinned (.plain (OpenSpec.upto fnExactCallWriteSpec)) fnExactCallWriteUptoCard

/-- THE SECOND FORM's CARD OF 'laws.FnCallText'. -/
def fnCallTextUptoCard : Claim7 := { stood := { row := fnCallTextUptoRow, standIns := [], harness := (true, "7ae4b65e401f8616edee7ae57af47d5073fb6c11d23fb38d2dc1eba5bdeb9d2c"), looks := false }, kinds := [], alts := [], laidByText := true, laidKinds := [.data, .data, .data], laidTests := true, laidLooks := .later }
def FnCallTextUptoCardSaid : Prop := Claim7.holds Tryd.pinned (.plain (OpenSpec.upto fnCallTextSpec)) fnCallTextUptoCard
end Rows
end Go.Proofs.YtbnboopbcbfpfaaDoor
