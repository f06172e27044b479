/-
  DERIVED. GIVEN WITH THE SEED: THE CARDS: each row of YtkiacbfpnidjlaaDoorRows.lean that lists a variable, with what it lists TIED to the program's text (the seventh form; the later family's looks); each row that meets fmt, with fmt's text TOLD by the authors' own Lean function (tested against real Go, not proved from fmt's source: count such statements apart). THE CARD IS WHAT COUNTS. Prove the row's statement (the work); the ties are given (YtkiacbfpnidjlaaDoorTie.lean); close each card by the builder's one call (the guide's Derived/Test/ToyasCard.lean, 'card_holds'). Laid BY PROGRAM, IN A SANDBOX (cutbox-door.mjs). By AI agents, Wed Nov 11 2026. No macro, syntax, notation, axiom, sorry.
-/
import Derived.Test.YtkiacbfpnidjlaaDoorRows
import GoSem.ClaimSeven
namespace Go.Proofs.YtkiacbfpnidjlaaDoor
namespace Rows

/-- THE TIED CARD OF 'laws.FnExactCallNear'. -/
def fnExactCallNearCard : Claim7 := { stood := { row := fnExactCallNearRow, standIns := [], harness := (true, "c527bd82d42743b112ad4789a94e5c95c28b8721c4483934dace1931e0b6dd7c"), looks := false }, kinds := [], alts := [], laidByText := true, laidKinds := [.data, .data, .data], laidTests := true, laidLooks := .later }
def FnExactCallNearCardSaid : Prop := Claim7.holds Tryd.pinned (.plain (OpenSpec.ofChange fnExactCallNearSpec)) fnExactCallNearCard

/-- THE TIED CARD OF 'laws.FnPolicyFind'. -/
def fnPolicyFindCard : Claim7 := { stood := { row := fnPolicyFindRow, standIns := [], harness := (true, "c527bd82d42743b112ad4789a94e5c95c28b8721c4483934dace1931e0b6dd7c"), looks := false }, kinds := [], alts := [], laidByText := true, laidKinds := [.data, .data, .data], laidTests := true, laidLooks := .later }
def FnPolicyFindCardSaid : Prop := Claim7.holds Tryd.pinned (.plain (OpenSpec.ofChange fnPolicyFindSpec)) fnPolicyFindCard

/-- THE TIED CARD OF 'laws.FnExactCodePeep'. -/
def fnExactCodePeepCard : Claim7 := { stood := { row := fnExactCodePeepRow, standIns := [], harness := (true, "c527bd82d42743b112ad4789a94e5c95c28b8721c4483934dace1931e0b6dd7c"), looks := false }, kinds := [], alts := [], laidByText := true, laidKinds := [.data, .data, .data], laidTests := true, laidLooks := .later }
def FnExactCodePeepCardSaid : Prop := Claim7.holds Tryd.pinned (.plain (OpenSpec.ofChange fnExactCodePeepSpec)) fnExactCodePeepCard

/-- THE SECOND FORM's CARD OF 'laws.FnExactCallNear'. -/
def fnExactCallNearUptoCard : Claim7 := { stood := { row := fnExactCallNearUptoRow, standIns := [], harness := (true, "c527bd82d42743b112ad4789a94e5c95c28b8721c4483934dace1931e0b6dd7c"), looks := false }, kinds := [], alts := [], laidByText := true, laidKinds := [.data, .data, .data], laidTests := true, laidLooks := .later }
def FnExactCallNearUptoCardSaid : Prop := Claim7.holds Tryd.pinned (.plain (OpenSpec.upto fnExactCallNearSpec)) fnExactCallNearUptoCard

/-- THE SECOND FORM's CARD OF 'laws.FnPolicyFind'. -/
def fnPolicyFindUptoCard : Claim7 := { stood := { row := fnPolicyFindUptoRow, standIns := [], harness := (true, "c527bd82d42743b112ad4789a94e5c95c28b8721c4483934dace1931e0b6dd7c"), looks := false }, kinds := [], alts := [], laidByText := true, laidKinds := [.data, .data, .data], laidTests := true, laidLooks := .later }
def FnPolicyFindUptoCardSaid : Prop := Claim7.holds Tryd.pinned (.plain (OpenSpec.upto fnPolicyFindSpec)) fnPolicyFindUptoCard

/-- THE SECOND FORM's CARD OF 'laws.FnExactCodePeep'. -/
def fnExactCodePeepUptoCard : Claim7 := { stood := { row := fnExactCodePeepUptoRow, standIns := [], harness := (true, "c527bd82d42743b112ad4789a94e5c95c28b8721c4483934dace1931e0b6dd7c"), looks := false }, kinds := [], alts := [], laidByText := true, laidKinds := [.data, .data, .data], laidTests := true, laidLooks := .later }
def FnExactCodePeepUptoCardSaid : Prop := Claim7.holds Tryd.pinned (.plain (OpenSpec.upto fnExactCodePeepSpec)) fnExactCodePeepUptoCard
end Rows
end Go.Proofs.YtkiacbfpnidjlaaDoor
