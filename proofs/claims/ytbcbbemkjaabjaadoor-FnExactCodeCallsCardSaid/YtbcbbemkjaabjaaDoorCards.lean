/-
  DERIVED. GIVEN WITH THE SEED: THE CARDS: each row of YtbcbbemkjaabjaaDoorRows.lean that lists a variable, with what it lists TIED to the program's text (the seventh form; the later family's looks); each row that meets fmt, with fmt's text TOLD by the authors' own Lean function (tested against real Go, not proved from fmt's source: count such statements apart). THE CARD IS WHAT COUNTS. Prove the row's statement (the work); the ties are given (YtbcbbemkjaabjaaDoorTie.lean); close each card by the builder's one call (the guide's Derived/Test/ToyasCard.lean, 'card_holds'). Laid BY PROGRAM, IN A SANDBOX (cutbox-door.mjs). By AI agents, Wed Nov 11 2026. No macro, syntax, notation, axiom, sorry.
-/
import Derived.Test.YtbcbbemkjaabjaaDoorRows
import GoSem.ClaimSeven
namespace Go.Proofs.YtbcbbemkjaabjaaDoor
namespace Rows

/-- THE TIED CARD OF 'laws.FnExactCodeMost'. -/
def fnExactCodeMostCard : Claim7 := { stood := { row := fnExactCodeMostRow, standIns := [], harness := (true, "c1c3aaca23a3031cee2c4b316b02500238142ecea8c3748c225b1d652f2e8397"), looks := false }, kinds := [], alts := [], laidByText := true, laidKinds := [.data, .data, .data], laidTests := true, laidLooks := .later }
def FnExactCodeMostCardSaid : Prop := Claim7.holds Tryd.pinned (.plain (OpenSpec.ofChange fnExactCodeMostSpec)) fnExactCodeMostCard

/-- THE TIED CARD OF 'laws.FnExactCodeLive'. -/
def fnExactCodeLiveCard : Claim7 := { stood := { row := fnExactCodeLiveRow, standIns := [], harness := (true, "c1c3aaca23a3031cee2c4b316b02500238142ecea8c3748c225b1d652f2e8397"), looks := false }, kinds := [], alts := [], laidByText := true, laidKinds := [.data, .data, .data], laidTests := true, laidLooks := .later }
def FnExactCodeLiveCardSaid : Prop := Claim7.holds Tryd.pinned (.plain (OpenSpec.ofChange fnExactCodeLiveSpec)) fnExactCodeLiveCard

/-- THE TIED CARD OF 'laws.FnExactCodePeep'. -/
def fnExactCodePeepCard : Claim7 := { stood := { row := fnExactCodePeepRow, standIns := [], harness := (true, "c1c3aaca23a3031cee2c4b316b02500238142ecea8c3748c225b1d652f2e8397"), looks := false }, kinds := [], alts := [], laidByText := true, laidKinds := [.data, .data, .data], laidTests := true, laidLooks := .later }
def FnExactCodePeepCardSaid : Prop := Claim7.holds Tryd.pinned (.plain (OpenSpec.ofChange fnExactCodePeepSpec)) fnExactCodePeepCard

/-- THE TIED CARD OF 'laws.FnExactCodeCalls'. -/
def fnExactCodeCallsCard : Claim7 := { stood := { row := fnExactCodeCallsRow, standIns := [], harness := (true, "c1c3aaca23a3031cee2c4b316b02500238142ecea8c3748c225b1d652f2e8397"), looks := false }, kinds := [], alts := [], laidByText := true, laidKinds := [.data, .data, .data], laidTests := true, laidLooks := .later }
def FnExactCodeCallsCardSaid : Prop := Claim7.holds Tryd.pinned (.plain (OpenSpec.ofChange fnExactCodeCallsSpec)) fnExactCodeCallsCard

/-- THE SECOND FORM's CARD OF 'laws.FnExactCodeMost'. -/
def fnExactCodeMostUptoCard : Claim7 := { stood := { row := fnExactCodeMostUptoRow, standIns := [], harness := (true, "c1c3aaca23a3031cee2c4b316b02500238142ecea8c3748c225b1d652f2e8397"), looks := false }, kinds := [], alts := [], laidByText := true, laidKinds := [.data, .data, .data], laidTests := true, laidLooks := .later }
def FnExactCodeMostUptoCardSaid : Prop := Claim7.holds Tryd.pinned (.plain (OpenSpec.upto fnExactCodeMostSpec)) fnExactCodeMostUptoCard

/-- THE SECOND FORM's CARD OF 'laws.FnExactCodeLive'. -/
def fnExactCodeLiveUptoCard : Claim7 := { stood := { row := fnExactCodeLiveUptoRow, standIns := [], harness := (true, "c1c3aaca23a3031cee2c4b316b02500238142ecea8c3748c225b1d652f2e8397"), looks := false }, kinds := [], alts := [], laidByText := true, laidKinds := [.data, .data, .data], laidTests := true, laidLooks := .later }
def FnExactCodeLiveUptoCardSaid : Prop := Claim7.holds Tryd.pinned (.plain (OpenSpec.upto fnExactCodeLiveSpec)) fnExactCodeLiveUptoCard

/-- THE SECOND FORM's CARD OF 'laws.FnExactCodePeep'. -/
def fnExactCodePeepUptoCard : Claim7 := { stood := { row := fnExactCodePeepUptoRow, standIns := [], harness := (true, "c1c3aaca23a3031cee2c4b316b02500238142ecea8c3748c225b1d652f2e8397"), looks := false }, kinds := [], alts := [], laidByText := true, laidKinds := [.data, .data, .data], laidTests := true, laidLooks := .later }
def FnExactCodePeepUptoCardSaid : Prop := Claim7.holds Tryd.pinned (.plain (OpenSpec.upto fnExactCodePeepSpec)) fnExactCodePeepUptoCard

/-- THE SECOND FORM's CARD OF 'laws.FnExactCodeCalls'. -/
def fnExactCodeCallsUptoCard : Claim7 := { stood := { row := fnExactCodeCallsUptoRow, standIns := [], harness := (true, "c1c3aaca23a3031cee2c4b316b02500238142ecea8c3748c225b1d652f2e8397"), looks := false }, kinds := [], alts := [], laidByText := true, laidKinds := [.data, .data, .data], laidTests := true, laidLooks := .later }
def FnExactCodeCallsUptoCardSaid : Prop := Claim7.holds Tryd.pinned (.plain (OpenSpec.upto fnExactCodeCallsSpec)) fnExactCodeCallsUptoCard
end Rows
end Go.Proofs.YtbcbbemkjaabjaaDoor
