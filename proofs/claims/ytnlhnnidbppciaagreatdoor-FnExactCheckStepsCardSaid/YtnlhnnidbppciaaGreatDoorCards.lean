/-
  DERIVED. GIVEN WITH THE SEED: THE CARDS: each row of YtnlhnnidbppciaaGreatDoorRows.lean that lists a variable, with what it lists TIED to the program's text (the seventh form; the later family's looks); each row that meets fmt, with fmt's text TOLD by the authors' own Lean function (tested against real Go, not proved from fmt's source: count such statements apart). THE CARD IS WHAT COUNTS. Prove the row's statement (the work); the ties are given (YtnlhnnidbppciaaGreatDoorTie.lean); close each card by the builder's one call (the guide's Derived/Test/ToyasCard.lean, 'card_holds'). Laid BY PROGRAM, IN A SANDBOX (cutbox-door.mjs). By AI agents, Wed Nov 11 2026. No macro, syntax, notation, axiom, sorry.
-/
import Derived.Test.YtnlhnnidbppciaaGreatDoorRows
import GoSem.ClaimSeven
namespace Go.Proofs.YtnlhnnidbppciaaGreatDoor
namespace Rows

/-- THE TIED CARD OF 'laws.FnExactMakeCode'. -/
def fnExactMakeCodeCard : Claim7 := { stood := { row := fnExactMakeCodeRow, standIns := [], harness := (true, "217b141c246beac16c01441e016f1fefa2bb281481a9b86e175f42680fd98ce4"), looks := false }, kinds := [], alts := [], laidByText := true, laidKinds := [.data, .data, .data], laidTests := true, laidLooks := .later }
def FnExactMakeCodeCardSaid : Prop := Claim7.holds Tryz.pinned (.plain (OpenSpec.ofChange fnExactMakeCodeSpec)) fnExactMakeCodeCard

/-- THE TIED CARD OF 'laws.FnExactPolicyFind'. -/
def fnExactPolicyFindCard : Claim7 := { stood := { row := fnExactPolicyFindRow, standIns := [], harness := (true, "217b141c246beac16c01441e016f1fefa2bb281481a9b86e175f42680fd98ce4"), looks := false }, kinds := [], alts := [], laidByText := true, laidKinds := [.data, .data, .data], laidTests := true, laidLooks := .later }
def FnExactPolicyFindCardSaid : Prop := Claim7.holds Tryz.pinned (.plain (OpenSpec.ofChange fnExactPolicyFindSpec)) fnExactPolicyFindCard

/-- THE TIED CARD OF 'laws.FnExactCheckCode'. -/
def fnExactCheckCodeCard : Claim7 := { stood := { row := fnExactCheckCodeRow, standIns := [], harness := (true, "217b141c246beac16c01441e016f1fefa2bb281481a9b86e175f42680fd98ce4"), looks := false }, kinds := [], alts := [], laidByText := true, laidKinds := [.data, .data, .data], laidTests := true, laidLooks := .later }
def FnExactCheckCodeCardSaid : Prop := Claim7.holds Tryz.pinned (.plain (OpenSpec.ofChange fnExactCheckCodeSpec)) fnExactCheckCodeCard

/-- THE TIED CARD OF 'laws.FnExactCheckSteps'. -/
def fnExactCheckStepsCard : Claim7 := { stood := { row := fnExactCheckStepsRow, standIns := [], harness := (true, "217b141c246beac16c01441e016f1fefa2bb281481a9b86e175f42680fd98ce4"), looks := false }, kinds := [], alts := [], laidByText := true, laidKinds := [.data, .data, .data], laidTests := true, laidLooks := .later }
def FnExactCheckStepsCardSaid : Prop := Claim7.holds Tryz.pinned (.plain (OpenSpec.ofChange fnExactCheckStepsSpec)) fnExactCheckStepsCard

/-- THE TIED CARD OF 'laws.FnCheckEnds'. -/
def fnCheckEndsCard : Claim7 := { stood := { row := fnCheckEndsRow, standIns := [], harness := (true, "217b141c246beac16c01441e016f1fefa2bb281481a9b86e175f42680fd98ce4"), looks := false }, kinds := [], alts := [], laidByText := true, laidKinds := [.data, .data, .data], laidTests := true, laidLooks := .later }
def FnCheckEndsCardSaid : Prop := Claim7.holds Tryz.pinned (.plain (OpenSpec.ofChange fnCheckEndsSpec)) fnCheckEndsCard

/-- THE TIED CARD OF 'laws.FnMakeUses'. -/
def fnMakeUsesCard : Claim7 := { stood := { row := fnMakeUsesRow, standIns := [], harness := (true, "217b141c246beac16c01441e016f1fefa2bb281481a9b86e175f42680fd98ce4"), looks := false }, kinds := [], alts := [], laidByText := true, laidKinds := [.data, .data, .data], laidTests := true, laidLooks := .later }
def FnMakeUsesCardSaid : Prop := Claim7.holds Tryz.pinned (.plain (OpenSpec.ofChange fnMakeUsesSpec)) fnMakeUsesCard

/-- THE TIED CARD OF 'laws.FnCheckMade'. -/
def fnCheckMadeCard : Claim7 := { stood := { row := fnCheckMadeRow, standIns := [], harness := (true, "217b141c246beac16c01441e016f1fefa2bb281481a9b86e175f42680fd98ce4"), looks := false }, kinds := [], alts := [], laidByText := true, laidKinds := [.data, .data, .data], laidTests := true, laidLooks := .later }
def FnCheckMadeCardSaid : Prop := Claim7.holds Tryz.pinned (.plain (OpenSpec.ofChange fnCheckMadeSpec)) fnCheckMadeCard

/-- THE TIED CARD OF 'laws.FnPeepMade'. -/
def fnPeepMadeCard : Claim7 := { stood := { row := fnPeepMadeRow, standIns := [], harness := (true, "217b141c246beac16c01441e016f1fefa2bb281481a9b86e175f42680fd98ce4"), looks := false }, kinds := [], alts := [], laidByText := true, laidKinds := [.data, .data, .data], laidTests := true, laidLooks := .later }
def FnPeepMadeCardSaid : Prop := Claim7.holds Tryz.pinned (.plain (OpenSpec.ofChange fnPeepMadeSpec)) fnPeepMadeCard

/-- THE TIED CARD OF 'laws.FnPolicyChecked'. -/
def fnPolicyCheckedCard : Claim7 := { stood := { row := fnPolicyCheckedRow, standIns := [], harness := (true, "217b141c246beac16c01441e016f1fefa2bb281481a9b86e175f42680fd98ce4"), looks := false }, kinds := [], alts := [], laidByText := true, laidKinds := [.data, .data, .data], laidTests := true, laidLooks := .later }
def FnPolicyCheckedCardSaid : Prop := Claim7.holds Tryz.pinned (.plain (OpenSpec.ofChange fnPolicyCheckedSpec)) fnPolicyCheckedCard

/-- THE SECOND FORM's CARD OF 'laws.FnExactMakeCode'. -/
def fnExactMakeCodeUptoCard : Claim7 := { stood := { row := fnExactMakeCodeUptoRow, standIns := [], harness := (true, "217b141c246beac16c01441e016f1fefa2bb281481a9b86e175f42680fd98ce4"), looks := false }, kinds := [], alts := [], laidByText := true, laidKinds := [.data, .data, .data], laidTests := true, laidLooks := .later }
def FnExactMakeCodeUptoCardSaid : Prop := Claim7.holds Tryz.pinned (.plain (OpenSpec.upto fnExactMakeCodeSpec)) fnExactMakeCodeUptoCard

/-- THE SECOND FORM's CARD OF 'laws.FnExactPolicyFind'. -/
def fnExactPolicyFindUptoCard : Claim7 := { stood := { row := fnExactPolicyFindUptoRow, standIns := [], harness := (true, "217b141c246beac16c01441e016f1fefa2bb281481a9b86e175f42680fd98ce4"), looks := false }, kinds := [], alts := [], laidByText := true, laidKinds := [.data, .data, .data], laidTests := true, laidLooks := .later }
def FnExactPolicyFindUptoCardSaid : Prop := Claim7.holds Tryz.pinned (.plain (OpenSpec.upto fnExactPolicyFindSpec)) fnExactPolicyFindUptoCard

/-- THE SECOND FORM's CARD OF 'laws.FnExactCheckCode'. -/
def fnExactCheckCodeUptoCard : Claim7 := { stood := { row := fnExactCheckCodeUptoRow, standIns := [], harness := (true, "217b141c246beac16c01441e016f1fefa2bb281481a9b86e175f42680fd98ce4"), looks := false }, kinds := [], alts := [], laidByText := true, laidKinds := [.data, .data, .data], laidTests := true, laidLooks := .later }
def FnExactCheckCodeUptoCardSaid : Prop := Claim7.holds Tryz.pinned (.plain (OpenSpec.upto fnExactCheckCodeSpec)) fnExactCheckCodeUptoCard

/-- THE SECOND FORM's CARD OF 'laws.FnExactCheckSteps'. -/
def fnExactCheckStepsUptoCard : Claim7 := { stood := { row := fnExactCheckStepsUptoRow, standIns := [], harness := (true, "217b141c246beac16c01441e016f1fefa2bb281481a9b86e175f42680fd98ce4"), looks := false }, kinds := [], alts := [], laidByText := true, laidKinds := [.data, .data, .data], laidTests := true, laidLooks := .later }
def FnExactCheckStepsUptoCardSaid : Prop := Claim7.holds Tryz.pinned (.plain (OpenSpec.upto fnExactCheckStepsSpec)) fnExactCheckStepsUptoCard

/-- THE SECOND FORM's CARD OF 'laws.FnCheckEnds'. -/
def fnCheckEndsUptoCard : Claim7 := { stood := { row := fnCheckEndsUptoRow, standIns := [], harness := (true, "217b141c246beac16c01441e016f1fefa2bb281481a9b86e175f42680fd98ce4"), looks := false }, kinds := [], alts := [], laidByText := true, laidKinds := [.data, .data, .data], laidTests := true, laidLooks := .later }
def FnCheckEndsUptoCardSaid : Prop := Claim7.holds Tryz.pinned (.plain (OpenSpec.upto fnCheckEndsSpec)) fnCheckEndsUptoCard

/-- THE SECOND FORM's CARD OF 'laws.FnMakeUses'. -/
def fnMakeUsesUptoCard : Claim7 := { stood := { row := fnMakeUsesUptoRow, standIns := [], harness := (true, "217b141c246beac16c01441e016f1fefa2bb281481a9b86e175f42680fd98ce4"), looks := false }, kinds := [], alts := [], laidByText := true, laidKinds := [.data, .data, .data], laidTests := true, laidLooks := .later }
def FnMakeUsesUptoCardSaid : Prop := Claim7.holds Tryz.pinned (.plain (OpenSpec.upto fnMakeUsesSpec)) fnMakeUsesUptoCard

/-- THE SECOND FORM's CARD OF 'laws.FnCheckMade'. -/
def fnCheckMadeUptoCard : Claim7 := { stood := { row := fnCheckMadeUptoRow, standIns := [], harness := (true, "217b141c246beac16c01441e016f1fefa2bb281481a9b86e175f42680fd98ce4"), looks := false }, kinds := [], alts := [], laidByText := true, laidKinds := [.data, .data, .data], laidTests := true, laidLooks := .later }
def FnCheckMadeUptoCardSaid : Prop := Claim7.holds Tryz.pinned (.plain (OpenSpec.upto fnCheckMadeSpec)) fnCheckMadeUptoCard

/-- THE SECOND FORM's CARD OF 'laws.FnPeepMade'. -/
def fnPeepMadeUptoCard : Claim7 := { stood := { row := fnPeepMadeUptoRow, standIns := [], harness := (true, "217b141c246beac16c01441e016f1fefa2bb281481a9b86e175f42680fd98ce4"), looks := false }, kinds := [], alts := [], laidByText := true, laidKinds := [.data, .data, .data], laidTests := true, laidLooks := .later }
def FnPeepMadeUptoCardSaid : Prop := Claim7.holds Tryz.pinned (.plain (OpenSpec.upto fnPeepMadeSpec)) fnPeepMadeUptoCard

/-- THE SECOND FORM's CARD OF 'laws.FnPolicyChecked'. -/
def fnPolicyCheckedUptoCard : Claim7 := { stood := { row := fnPolicyCheckedUptoRow, standIns := [], harness := (true, "217b141c246beac16c01441e016f1fefa2bb281481a9b86e175f42680fd98ce4"), looks := false }, kinds := [], alts := [], laidByText := true, laidKinds := [.data, .data, .data], laidTests := true, laidLooks := .later }
def FnPolicyCheckedUptoCardSaid : Prop := Claim7.holds Tryz.pinned (.plain (OpenSpec.upto fnPolicyCheckedSpec)) fnPolicyCheckedUptoCard
end Rows
end Go.Proofs.YtnlhnnidbppciaaGreatDoor
