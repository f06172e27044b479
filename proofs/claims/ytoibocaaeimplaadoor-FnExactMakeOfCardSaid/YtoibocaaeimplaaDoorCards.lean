/-
  DERIVED. GIVEN WITH THE SEED: THE CARDS: each row of YtoibocaaeimplaaDoorRows.lean that lists a variable, with what it lists TIED to the program's text (the seventh form; the later family's looks); each row that meets fmt, with fmt's text TOLD by the authors' own Lean function (tested against real Go, not proved from fmt's source: count such statements apart). THE CARD IS WHAT COUNTS. Prove the row's statement (the work); the ties are given (YtoibocaaeimplaaDoorTie.lean); close each card by the builder's one call (the guide's Derived/Test/ToyasCard.lean, 'card_holds'). Laid BY PROGRAM, IN A SANDBOX (cutbox-door.mjs). By AI agents, Wed Nov 11 2026. No macro, syntax, notation, axiom, sorry.
-/
import Derived.Test.YtoibocaaeimplaaDoorRows
import GoSem.ClaimSeven
namespace Go.Proofs.YtoibocaaeimplaaDoor
namespace Rows

/-- THE TIED CARD OF 'laws.FnExactMakeOf'. -/
def fnExactMakeOfCard : Claim7 := { stood := { row := fnExactMakeOfRow, standIns := [], harness := (true, "a025655abb5576b647bb78e5dfd3bb3b3874995c65e4c1be60fca3c2b480cfcc"), looks := false }, kinds := [], alts := [], laidByText := true, laidKinds := [.data, .data, .data], laidTests := true, laidLooks := .later }
def FnExactMakeOfCardSaid : Prop := Claim7.holds Tryd.pinned (.plain (OpenSpec.ofChange fnExactMakeOfSpec)) fnExactMakeOfCard

/-- THE TIED CARD OF 'laws.FnCodeFar'. -/
def fnCodeFarCard : Claim7 := { stood := { row := fnCodeFarRow, standIns := [], harness := (true, "a025655abb5576b647bb78e5dfd3bb3b3874995c65e4c1be60fca3c2b480cfcc"), looks := false }, kinds := [], alts := [], laidByText := true, laidKinds := [.data, .data, .data], laidTests := true, laidLooks := .later }
def FnCodeFarCardSaid : Prop := Claim7.holds Tryd.pinned (.plain (OpenSpec.ofChange fnCodeFarSpec)) fnCodeFarCard

/-- THE TIED CARD OF 'laws.FnCodeText'. -/
def fnCodeTextCard : Claim7 := { stood := { row := fnCodeTextRow, standIns := [], harness := (true, "a025655abb5576b647bb78e5dfd3bb3b3874995c65e4c1be60fca3c2b480cfcc"), looks := false }, kinds := [], alts := [], laidByText := true, laidKinds := [.data, .data, .data], laidTests := true, laidLooks := .later }
def FnCodeTextCardSaid : Prop := Claim7.holds Tryd.pinned (.plain (OpenSpec.ofChange fnCodeTextSpec)) fnCodeTextCard

/-- THE SECOND FORM's CARD OF 'laws.FnExactMakeOf'. -/
def fnExactMakeOfUptoCard : Claim7 := { stood := { row := fnExactMakeOfUptoRow, standIns := [], harness := (true, "a025655abb5576b647bb78e5dfd3bb3b3874995c65e4c1be60fca3c2b480cfcc"), looks := false }, kinds := [], alts := [], laidByText := true, laidKinds := [.data, .data, .data], laidTests := true, laidLooks := .later }
def FnExactMakeOfUptoCardSaid : Prop := Claim7.holds Tryd.pinned (.plain (OpenSpec.upto fnExactMakeOfSpec)) fnExactMakeOfUptoCard

/-- THE SECOND FORM's CARD OF 'laws.FnCodeFar'. -/
def fnCodeFarUptoCard : Claim7 := { stood := { row := fnCodeFarUptoRow, standIns := [], harness := (true, "a025655abb5576b647bb78e5dfd3bb3b3874995c65e4c1be60fca3c2b480cfcc"), looks := false }, kinds := [], alts := [], laidByText := true, laidKinds := [.data, .data, .data], laidTests := true, laidLooks := .later }
def FnCodeFarUptoCardSaid : Prop := Claim7.holds Tryd.pinned (.plain (OpenSpec.upto fnCodeFarSpec)) fnCodeFarUptoCard

/-- THE SECOND FORM's CARD OF 'laws.FnCodeText'. -/
def fnCodeTextUptoCard : Claim7 := { stood := { row := fnCodeTextUptoRow, standIns := [], harness := (true, "a025655abb5576b647bb78e5dfd3bb3b3874995c65e4c1be60fca3c2b480cfcc"), looks := false }, kinds := [], alts := [], laidByText := true, laidKinds := [.data, .data, .data], laidTests := true, laidLooks := .later }
def FnCodeTextUptoCardSaid : Prop := Claim7.holds Tryd.pinned (.plain (OpenSpec.upto fnCodeTextSpec)) fnCodeTextUptoCard
end Rows
end Go.Proofs.YtoibocaaeimplaaDoor
