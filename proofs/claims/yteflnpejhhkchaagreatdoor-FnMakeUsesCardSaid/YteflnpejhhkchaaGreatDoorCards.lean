/-
  DERIVED. GIVEN WITH THE SEED: THE CARDS: each row of YteflnpejhhkchaaGreatDoorRows.lean that lists a variable, with what it lists TIED to the program's text (the seventh form; the later family's looks); each row that meets fmt, with fmt's text TOLD by the authors' own Lean function (tested against real Go, not proved from fmt's source: count such statements apart). THE CARD IS WHAT COUNTS. Prove the row's statement (the work); the ties are given (YteflnpejhhkchaaGreatDoorTie.lean); close each card by the builder's one call (the guide's Derived/Test/ToyasCard.lean, 'card_holds'). Laid BY PROGRAM, IN A SANDBOX (cutbox-door.mjs). By AI agents, Wed Nov 11 2026. No macro, syntax, notation, axiom, sorry.
-/
import Derived.Test.YteflnpejhhkchaaGreatDoorRows
import GoSem.ClaimSeven
namespace Go.Proofs.YteflnpejhhkchaaGreatDoor
namespace Rows

/-- THE TIED CARD OF 'laws.FnCheckEnds'. -/
def fnCheckEndsCard : Claim7 := { stood := { row := fnCheckEndsRow, standIns := [], harness := (true, "1c3b8559a981c163b2748521de441bdf57cd45ef4e372ead93225776f9ec4b52"), looks := true }, kinds := [], alts := [], laidByText := true, laidKinds := [.data, .data, .data], laidTests := true, laidLooks := .later }
def FnCheckEndsCardSaid : Prop := Claim7.holds Tryz.pinned (.plain (OpenSpec.ofChange fnCheckEndsSpec)) fnCheckEndsCard

/-- THE TIED CARD OF 'laws.FnMakeUses'. -/
def fnMakeUsesCard : Claim7 := { stood := { row := fnMakeUsesRow, standIns := [], harness := (true, "1c3b8559a981c163b2748521de441bdf57cd45ef4e372ead93225776f9ec4b52"), looks := true }, kinds := [], alts := [], laidByText := true, laidKinds := [.data, .data, .data], laidTests := true, laidLooks := .later }
def FnMakeUsesCardSaid : Prop := Claim7.holds Tryz.pinned (.plain (OpenSpec.ofChange fnMakeUsesSpec)) fnMakeUsesCard

/-- THE TIED CARD OF 'laws.FnCheckMade'. -/
def fnCheckMadeCard : Claim7 := { stood := { row := fnCheckMadeRow, standIns := [], harness := (true, "1c3b8559a981c163b2748521de441bdf57cd45ef4e372ead93225776f9ec4b52"), looks := true }, kinds := [], alts := [], laidByText := true, laidKinds := [.data, .data, .data], laidTests := true, laidLooks := .later }
def FnCheckMadeCardSaid : Prop := Claim7.holds Tryz.pinned (.plain (OpenSpec.ofChange fnCheckMadeSpec)) fnCheckMadeCard

/-- THE TIED CARD OF 'laws.FnMakeSame'. -/
def fnMakeSameCard : Claim7 := { stood := { row := fnMakeSameRow, standIns := [], harness := (true, "1c3b8559a981c163b2748521de441bdf57cd45ef4e372ead93225776f9ec4b52"), looks := true }, kinds := [], alts := [], laidByText := true, laidKinds := [.data, .data, .data, .data, .pinned], laidTests := true, laidLooks := .later }
def FnMakeSameCardSaid : Prop := Claim7.holds Tryz.pinned (.plain (OpenSpec.ofChange fnMakeSameSpec)) fnMakeSameCard

/-- THE SECOND FORM's CARD OF 'laws.FnCheckEnds'. -/
def fnCheckEndsUptoCard : Claim7 := { stood := { row := fnCheckEndsUptoRow, standIns := [], harness := (true, "1c3b8559a981c163b2748521de441bdf57cd45ef4e372ead93225776f9ec4b52"), looks := true }, kinds := [], alts := [], laidByText := true, laidKinds := [.data, .data, .data], laidTests := true, laidLooks := .later }
def FnCheckEndsUptoCardSaid : Prop := Claim7.holds Tryz.pinned (.plain (OpenSpec.upto fnCheckEndsSpec)) fnCheckEndsUptoCard

/-- THE SECOND FORM's CARD OF 'laws.FnMakeUses'. -/
def fnMakeUsesUptoCard : Claim7 := { stood := { row := fnMakeUsesUptoRow, standIns := [], harness := (true, "1c3b8559a981c163b2748521de441bdf57cd45ef4e372ead93225776f9ec4b52"), looks := true }, kinds := [], alts := [], laidByText := true, laidKinds := [.data, .data, .data], laidTests := true, laidLooks := .later }
def FnMakeUsesUptoCardSaid : Prop := Claim7.holds Tryz.pinned (.plain (OpenSpec.upto fnMakeUsesSpec)) fnMakeUsesUptoCard

/-- THE SECOND FORM's CARD OF 'laws.FnCheckMade'. -/
def fnCheckMadeUptoCard : Claim7 := { stood := { row := fnCheckMadeUptoRow, standIns := [], harness := (true, "1c3b8559a981c163b2748521de441bdf57cd45ef4e372ead93225776f9ec4b52"), looks := true }, kinds := [], alts := [], laidByText := true, laidKinds := [.data, .data, .data], laidTests := true, laidLooks := .later }
def FnCheckMadeUptoCardSaid : Prop := Claim7.holds Tryz.pinned (.plain (OpenSpec.upto fnCheckMadeSpec)) fnCheckMadeUptoCard

/-- THE SECOND FORM's CARD OF 'laws.FnMakeSame'. -/
def fnMakeSameUptoCard : Claim7 := { stood := { row := fnMakeSameUptoRow, standIns := [], harness := (true, "1c3b8559a981c163b2748521de441bdf57cd45ef4e372ead93225776f9ec4b52"), looks := true }, kinds := [], alts := [], laidByText := true, laidKinds := [.data, .data, .data, .data, .pinned], laidTests := true, laidLooks := .later }
def FnMakeSameUptoCardSaid : Prop := Claim7.holds Tryz.pinned (.plain (OpenSpec.upto fnMakeSameSpec)) fnMakeSameUptoCard
end Rows
end Go.Proofs.YteflnpejhhkchaaGreatDoor
