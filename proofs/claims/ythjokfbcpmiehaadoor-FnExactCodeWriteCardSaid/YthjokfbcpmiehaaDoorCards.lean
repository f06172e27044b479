/-
  DERIVED. GIVEN WITH THE SEED: THE CARDS: each row of YthjokfbcpmiehaaDoorRows.lean that lists a variable, with what it lists TIED to the program's text (the seventh form; the later family's looks); each row that meets fmt, with fmt's text TOLD by the authors' own Lean function (tested against real Go, not proved from fmt's source: count such statements apart). THE CARD IS WHAT COUNTS. Prove the row's statement (the work); the ties are given (YthjokfbcpmiehaaDoorTie.lean); close each card by the builder's one call (the guide's Derived/Test/ToyasCard.lean, 'card_holds'). Laid BY PROGRAM, IN A SANDBOX (cutbox-door.mjs). By AI agents, Wed Nov 11 2026. No macro, syntax, notation, axiom, sorry.
-/
import Derived.Test.YthjokfbcpmiehaaDoorRows
import GoSem.ClaimSeven
namespace Go.Proofs.YthjokfbcpmiehaaDoor
namespace Rows

/-- THE TIED CARD OF 'laws.FnExactCodeOk'. -/
def fnExactCodeOkCard : Claim7 := { stood := { row := fnExactCodeOkRow, standIns := [], harness := (true, "e1c8a74578171f9024cd3c6b7899f7b3521f2f03158b9e10a63f2761a30c1920"), looks := false }, kinds := [], alts := [], laidByText := true, laidKinds := [.data, .data, .data], laidTests := true, laidLooks := .later }
def FnExactCodeOkCardSaid : Prop := Claim7.holds Tryd.pinned (.plain (OpenSpec.ofChange fnExactCodeOkSpec)) fnExactCodeOkCard

/-- THE TIED CARD OF 'laws.FnExactCodeWrite'. -/
def fnExactCodeWriteCard : Claim7 := { stood := { row := fnExactCodeWriteRow, standIns := [], harness := (true, "e1c8a74578171f9024cd3c6b7899f7b3521f2f03158b9e10a63f2761a30c1920"), looks := false }, kinds := [], alts := [], laidByText := true, laidKinds := [.data, .data, .data], laidTests := true, laidLooks := .later }
def FnExactCodeWriteCardSaid : Prop := Claim7.holds Tryd.pinned (.plain (OpenSpec.ofChange fnExactCodeWriteSpec)) fnExactCodeWriteCard

/-- THE TIED CARD OF 'laws.FnExactCodeMost'. -/
def fnExactCodeMostCard : Claim7 := { stood := { row := fnExactCodeMostRow, standIns := [], harness := (true, "e1c8a74578171f9024cd3c6b7899f7b3521f2f03158b9e10a63f2761a30c1920"), looks := false }, kinds := [], alts := [], laidByText := true, laidKinds := [.data, .data, .data], laidTests := true, laidLooks := .later }
def FnExactCodeMostCardSaid : Prop := Claim7.holds Tryd.pinned (.plain (OpenSpec.ofChange fnExactCodeMostSpec)) fnExactCodeMostCard

/-- THE TIED CARD OF 'laws.FnExactCodeLive'. -/
def fnExactCodeLiveCard : Claim7 := { stood := { row := fnExactCodeLiveRow, standIns := [], harness := (true, "e1c8a74578171f9024cd3c6b7899f7b3521f2f03158b9e10a63f2761a30c1920"), looks := false }, kinds := [], alts := [], laidByText := true, laidKinds := [.data, .data, .data], laidTests := true, laidLooks := .later }
def FnExactCodeLiveCardSaid : Prop := Claim7.holds Tryd.pinned (.plain (OpenSpec.ofChange fnExactCodeLiveSpec)) fnExactCodeLiveCard

/-- THE TIED CARD OF 'laws.FnExactCodeRun'. -/
def fnExactCodeRunCard : Claim7 := { stood := { row := fnExactCodeRunRow, standIns := [], harness := (true, "e1c8a74578171f9024cd3c6b7899f7b3521f2f03158b9e10a63f2761a30c1920"), looks := false }, kinds := [], alts := [], laidByText := true, laidKinds := [.data, .data, .data], laidTests := true, laidLooks := .later }
def FnExactCodeRunCardSaid : Prop := Claim7.holds Tryd.pinned (.plain (OpenSpec.ofChange fnExactCodeRunSpec)) fnExactCodeRunCard

/-- THE TIED CARD OF 'laws.FnExactCodePeep'. -/
def fnExactCodePeepCard : Claim7 := { stood := { row := fnExactCodePeepRow, standIns := [], harness := (true, "e1c8a74578171f9024cd3c6b7899f7b3521f2f03158b9e10a63f2761a30c1920"), looks := false }, kinds := [], alts := [], laidByText := true, laidKinds := [.data, .data, .data], laidTests := true, laidLooks := .later }
def FnExactCodePeepCardSaid : Prop := Claim7.holds Tryd.pinned (.plain (OpenSpec.ofChange fnExactCodePeepSpec)) fnExactCodePeepCard

/-- THE TIED CARD OF 'laws.FnExactCodeCalls'. -/
def fnExactCodeCallsCard : Claim7 := { stood := { row := fnExactCodeCallsRow, standIns := [], harness := (true, "e1c8a74578171f9024cd3c6b7899f7b3521f2f03158b9e10a63f2761a30c1920"), looks := false }, kinds := [], alts := [], laidByText := true, laidKinds := [.data, .data, .data], laidTests := true, laidLooks := .later }
def FnExactCodeCallsCardSaid : Prop := Claim7.holds Tryd.pinned (.plain (OpenSpec.ofChange fnExactCodeCallsSpec)) fnExactCodeCallsCard

/-- THE TIED CARD OF 'laws.FnCodeFar'. -/
def fnCodeFarCard : Claim7 := { stood := { row := fnCodeFarRow, standIns := [], harness := (true, "e1c8a74578171f9024cd3c6b7899f7b3521f2f03158b9e10a63f2761a30c1920"), looks := false }, kinds := [], alts := [], laidByText := true, laidKinds := [.data, .data, .data], laidTests := true, laidLooks := .later }
def FnCodeFarCardSaid : Prop := Claim7.holds Tryd.pinned (.plain (OpenSpec.ofChange fnCodeFarSpec)) fnCodeFarCard

/-- THE TIED CARD OF 'laws.FnCodeText'. -/
def fnCodeTextCard : Claim7 := { stood := { row := fnCodeTextRow, standIns := [], harness := (true, "e1c8a74578171f9024cd3c6b7899f7b3521f2f03158b9e10a63f2761a30c1920"), looks := false }, kinds := [], alts := [], laidByText := true, laidKinds := [.data, .data, .data], laidTests := true, laidLooks := .later }
def FnCodeTextCardSaid : Prop := Claim7.holds Tryd.pinned (.plain (OpenSpec.ofChange fnCodeTextSpec)) fnCodeTextCard

/-- THE SECOND FORM's CARD OF 'laws.FnExactCodeOk'. -/
def fnExactCodeOkUptoCard : Claim7 := { stood := { row := fnExactCodeOkUptoRow, standIns := [], harness := (true, "e1c8a74578171f9024cd3c6b7899f7b3521f2f03158b9e10a63f2761a30c1920"), looks := false }, kinds := [], alts := [], laidByText := true, laidKinds := [.data, .data, .data], laidTests := true, laidLooks := .later }
def FnExactCodeOkUptoCardSaid : Prop := Claim7.holds Tryd.pinned (.plain (OpenSpec.upto fnExactCodeOkSpec)) fnExactCodeOkUptoCard

/-- THE SECOND FORM's CARD OF 'laws.FnExactCodeWrite'. -/
def fnExactCodeWriteUptoCard : Claim7 := { stood := { row := fnExactCodeWriteUptoRow, standIns := [], harness := (true, "e1c8a74578171f9024cd3c6b7899f7b3521f2f03158b9e10a63f2761a30c1920"), looks := false }, kinds := [], alts := [], laidByText := true, laidKinds := [.data, .data, .data], laidTests := true, laidLooks := .later }
def FnExactCodeWriteUptoCardSaid : Prop := Claim7.holds Tryd.pinned (.plain (OpenSpec.upto fnExactCodeWriteSpec)) fnExactCodeWriteUptoCard

/-- THE SECOND FORM's CARD OF 'laws.FnExactCodeMost'. -/
def fnExactCodeMostUptoCard : Claim7 := { stood := { row := fnExactCodeMostUptoRow, standIns := [], harness := (true, "e1c8a74578171f9024cd3c6b7899f7b3521f2f03158b9e10a63f2761a30c1920"), looks := false }, kinds := [], alts := [], laidByText := true, laidKinds := [.data, .data, .data], laidTests := true, laidLooks := .later }
def FnExactCodeMostUptoCardSaid : Prop := Claim7.holds Tryd.pinned (.plain (OpenSpec.upto fnExactCodeMostSpec)) fnExactCodeMostUptoCard

/-- THE SECOND FORM's CARD OF 'laws.FnExactCodeLive'. -/
def fnExactCodeLiveUptoCard : Claim7 := { stood := { row := fnExactCodeLiveUptoRow, standIns := [], harness := (true, "e1c8a74578171f9024cd3c6b7899f7b3521f2f03158b9e10a63f2761a30c1920"), looks := false }, kinds := [], alts := [], laidByText := true, laidKinds := [.data, .data, .data], laidTests := true, laidLooks := .later }
def FnExactCodeLiveUptoCardSaid : Prop := Claim7.holds Tryd.pinned (.plain (OpenSpec.upto fnExactCodeLiveSpec)) fnExactCodeLiveUptoCard

/-- THE SECOND FORM's CARD OF 'laws.FnExactCodeRun'. -/
def fnExactCodeRunUptoCard : Claim7 := { stood := { row := fnExactCodeRunUptoRow, standIns := [], harness := (true, "e1c8a74578171f9024cd3c6b7899f7b3521f2f03158b9e10a63f2761a30c1920"), looks := false }, kinds := [], alts := [], laidByText := true, laidKinds := [.data, .data, .data], laidTests := true, laidLooks := .later }
def FnExactCodeRunUptoCardSaid : Prop := Claim7.holds Tryd.pinned (.plain (OpenSpec.upto fnExactCodeRunSpec)) fnExactCodeRunUptoCard

/-- THE SECOND FORM's CARD OF 'laws.FnExactCodePeep'. -/
def fnExactCodePeepUptoCard : Claim7 := { stood := { row := fnExactCodePeepUptoRow, standIns := [], harness := (true, "e1c8a74578171f9024cd3c6b7899f7b3521f2f03158b9e10a63f2761a30c1920"), looks := false }, kinds := [], alts := [], laidByText := true, laidKinds := [.data, .data, .data], laidTests := true, laidLooks := .later }
def FnExactCodePeepUptoCardSaid : Prop := Claim7.holds Tryd.pinned (.plain (OpenSpec.upto fnExactCodePeepSpec)) fnExactCodePeepUptoCard

/-- THE SECOND FORM's CARD OF 'laws.FnExactCodeCalls'. -/
def fnExactCodeCallsUptoCard : Claim7 := { stood := { row := fnExactCodeCallsUptoRow, standIns := [], harness := (true, "e1c8a74578171f9024cd3c6b7899f7b3521f2f03158b9e10a63f2761a30c1920"), looks := false }, kinds := [], alts := [], laidByText := true, laidKinds := [.data, .data, .data], laidTests := true, laidLooks := .later }
def FnExactCodeCallsUptoCardSaid : Prop := Claim7.holds Tryd.pinned (.plain (OpenSpec.upto fnExactCodeCallsSpec)) fnExactCodeCallsUptoCard

/-- THE SECOND FORM's CARD OF 'laws.FnCodeFar'. -/
def fnCodeFarUptoCard : Claim7 := { stood := { row := fnCodeFarUptoRow, standIns := [], harness := (true, "e1c8a74578171f9024cd3c6b7899f7b3521f2f03158b9e10a63f2761a30c1920"), looks := false }, kinds := [], alts := [], laidByText := true, laidKinds := [.data, .data, .data], laidTests := true, laidLooks := .later }
def FnCodeFarUptoCardSaid : Prop := Claim7.holds Tryd.pinned (.plain (OpenSpec.upto fnCodeFarSpec)) fnCodeFarUptoCard

/-- THE SECOND FORM's CARD OF 'laws.FnCodeText'. -/
def fnCodeTextUptoCard : Claim7 := { stood := { row := fnCodeTextUptoRow, standIns := [], harness := (true, "e1c8a74578171f9024cd3c6b7899f7b3521f2f03158b9e10a63f2761a30c1920"), looks := false }, kinds := [], alts := [], laidByText := true, laidKinds := [.data, .data, .data], laidTests := true, laidLooks := .later }
def FnCodeTextUptoCardSaid : Prop := Claim7.holds Tryd.pinned (.plain (OpenSpec.upto fnCodeTextSpec)) fnCodeTextUptoCard
end Rows
end Go.Proofs.YthjokfbcpmiehaaDoor
