/-
  DERIVED. GIVEN WITH THE SEED: THE CARDS: each row of YtcomdkmglihdbaaGreatDoorRows.lean that lists a variable, with what it lists TIED to the program's text (the seventh form; the later family's looks); each row that meets fmt, with fmt's text TOLD by the authors' own Lean function (tested against real Go, not proved from fmt's source: count such statements apart). THE CARD IS WHAT COUNTS. Prove the row's statement (the work); the ties are given (YtcomdkmglihdbaaGreatDoorTie.lean); close each card by the builder's one call (the guide's Derived/Test/ToyasCard.lean, 'card_holds'). Laid BY PROGRAM, IN A SANDBOX (cutbox-door.mjs). By AI agents, Wed Nov 11 2026. No macro, syntax, notation, axiom, sorry.
-/
import Derived.Test.YtcomdkmglihdbaaGreatDoorRows
import GoSem.ClaimSeven
namespace Go.Proofs.YtcomdkmglihdbaaGreatDoor
namespace Rows

/-- THE TIED CARD OF 'laws.FnPackByte'. -/
def fnPackByteCard : Claim7 := { stood := { row := fnPackByteRow, standIns := [], harness := (true, "b8b91270c47f6d770cd0b3e4546a537b7e3a939792d31b9e296b1b6a90246dd2"), looks := true }, kinds := [], alts := [], laidByText := true, laidKinds := [.data, .data, .data, .handle, .data], laidTests := true, laidLooks := .later }
def FnPackByteCardSaid : Prop := Claim7.holds Tryz.pinned (.plain (OpenSpec.ofChange fnPackByteSpec)) fnPackByteCard

/-- THE TIED CARD OF 'laws.FnPackText'. -/
def fnPackTextCard : Claim7 := { stood := { row := fnPackTextRow, standIns := [], harness := (true, "b8b91270c47f6d770cd0b3e4546a537b7e3a939792d31b9e296b1b6a90246dd2"), looks := true }, kinds := [], alts := [], laidByText := true, laidKinds := [.data, .data, .data, .handle, .data], laidTests := true, laidLooks := .later }
def FnPackTextCardSaid : Prop := Claim7.holds Tryz.pinned (.plain (OpenSpec.ofChange fnPackTextSpec)) fnPackTextCard

/-- THE SECOND FORM's CARD OF 'laws.FnPackByte'. -/
def fnPackByteUptoCard : Claim7 := { stood := { row := fnPackByteUptoRow, standIns := [], harness := (true, "b8b91270c47f6d770cd0b3e4546a537b7e3a939792d31b9e296b1b6a90246dd2"), looks := true }, kinds := [], alts := [], laidByText := true, laidKinds := [.data, .data, .data, .handle, .data], laidTests := true, laidLooks := .later }
def FnPackByteUptoCardSaid : Prop := Claim7.holds Tryz.pinned (.plain (OpenSpec.upto fnPackByteSpec)) fnPackByteUptoCard

/-- THE SECOND FORM's CARD OF 'laws.FnPackText'. -/
def fnPackTextUptoCard : Claim7 := { stood := { row := fnPackTextUptoRow, standIns := [], harness := (true, "b8b91270c47f6d770cd0b3e4546a537b7e3a939792d31b9e296b1b6a90246dd2"), looks := true }, kinds := [], alts := [], laidByText := true, laidKinds := [.data, .data, .data, .handle, .data], laidTests := true, laidLooks := .later }
def FnPackTextUptoCardSaid : Prop := Claim7.holds Tryz.pinned (.plain (OpenSpec.upto fnPackTextSpec)) fnPackTextUptoCard
end Rows
end Go.Proofs.YtcomdkmglihdbaaGreatDoor
