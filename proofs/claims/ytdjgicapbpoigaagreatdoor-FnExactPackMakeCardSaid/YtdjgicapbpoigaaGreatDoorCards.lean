/-
  DERIVED. GIVEN WITH THE SEED: THE CARDS: each row of YtdjgicapbpoigaaGreatDoorRows.lean that lists a variable, with what it lists TIED to the program's text (the seventh form; the later family's looks); each row that meets fmt, with fmt's text TOLD by the authors' own Lean function (tested against real Go, not proved from fmt's source: count such statements apart). THE CARD IS WHAT COUNTS. Prove the row's statement (the work); the ties are given (YtdjgicapbpoigaaGreatDoorTie.lean); close each card by the builder's one call (the guide's Derived/Test/ToyasCard.lean, 'card_holds'). Laid BY PROGRAM, IN A SANDBOX (cutbox-door.mjs). By AI agents, Wed Nov 11 2026. No macro, syntax, notation, axiom, sorry.
-/
import Derived.Test.YtdjgicapbpoigaaGreatDoorRows
import GoSem.ClaimSeven
namespace Go.Proofs.YtdjgicapbpoigaaGreatDoor
namespace Rows

/-- THE TIED CARD OF 'laws.FnExactPackGood'. -/
def fnExactPackGoodCard : Claim7 := { stood := { row := fnExactPackGoodRow, standIns := [], harness := (true, "cd65667408853449dc6786aebc9ef1f6d58da426e2223cd4bd33bea2b0f04eee"), looks := true }, kinds := [], alts := [], laidByText := true, laidKinds := [.data, .data, .data, .data, .handle, .pinned], laidTests := true, laidLooks := .later }
def FnExactPackGoodCardSaid : Prop := Claim7.holds Tryz.pinned (.plain (OpenSpec.ofChange fnExactPackGoodSpec)) fnExactPackGoodCard

/-- THE TIED CARD OF 'laws.FnExactPackMake'. -/
def fnExactPackMakeCard : Claim7 := { stood := { row := fnExactPackMakeRow, standIns := [], harness := (true, "cd65667408853449dc6786aebc9ef1f6d58da426e2223cd4bd33bea2b0f04eee"), looks := true }, kinds := [], alts := [], laidByText := true, laidKinds := [.data, .data, .data, .data, .handle, .pinned], laidTests := true, laidLooks := .later }
def FnExactPackMakeCardSaid : Prop := Claim7.holds Tryz.pinned (.plain (OpenSpec.ofChange fnExactPackMakeSpec)) fnExactPackMakeCard

/-- THE SECOND FORM's CARD OF 'laws.FnExactPackGood'. -/
def fnExactPackGoodUptoCard : Claim7 := { stood := { row := fnExactPackGoodUptoRow, standIns := [], harness := (true, "cd65667408853449dc6786aebc9ef1f6d58da426e2223cd4bd33bea2b0f04eee"), looks := true }, kinds := [], alts := [], laidByText := true, laidKinds := [.data, .data, .data, .data, .handle, .pinned], laidTests := true, laidLooks := .later }
def FnExactPackGoodUptoCardSaid : Prop := Claim7.holds Tryz.pinned (.plain (OpenSpec.upto fnExactPackGoodSpec)) fnExactPackGoodUptoCard

/-- THE SECOND FORM's CARD OF 'laws.FnExactPackMake'. -/
def fnExactPackMakeUptoCard : Claim7 := { stood := { row := fnExactPackMakeUptoRow, standIns := [], harness := (true, "cd65667408853449dc6786aebc9ef1f6d58da426e2223cd4bd33bea2b0f04eee"), looks := true }, kinds := [], alts := [], laidByText := true, laidKinds := [.data, .data, .data, .data, .handle, .pinned], laidTests := true, laidLooks := .later }
def FnExactPackMakeUptoCardSaid : Prop := Claim7.holds Tryz.pinned (.plain (OpenSpec.upto fnExactPackMakeSpec)) fnExactPackMakeUptoCard
end Rows
end Go.Proofs.YtdjgicapbpoigaaGreatDoor
