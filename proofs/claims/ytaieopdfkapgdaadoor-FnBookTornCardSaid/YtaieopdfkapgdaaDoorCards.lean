/-
  DERIVED. GIVEN WITH THE SEED: THE CARDS: each row of YtaieopdfkapgdaaDoorRows.lean that lists a variable, with what it lists TIED to the program's text (the seventh form; the later family's looks); each row that meets fmt, with fmt's text TOLD by the authors' own Lean function (tested against real Go, not proved from fmt's source: count such statements apart). THE CARD IS WHAT COUNTS. Prove the row's statement (the work); the ties are given (YtaieopdfkapgdaaDoorTie.lean); close each card by the builder's one call (the guide's Derived/Test/ToyasCard.lean, 'card_holds'). Laid BY PROGRAM, IN A SANDBOX (cutbox-door.mjs). By AI agents, Wed Nov 11 2026. No macro, syntax, notation, axiom, sorry.
-/
import Derived.Test.YtaieopdfkapgdaaDoorRows
import GoSem.ClaimSeven
namespace Go.Proofs.YtaieopdfkapgdaaDoor
namespace Rows

/-- THE TIED CARD OF 'laws.FnBookTorn'. -/
def fnBookTornCard : Claim7 := { stood := { row := fnBookTornRow, standIns := [], harness := (true, "c92edc633bf6c0c891d9767e7e6cf5abb4252e816409d1b9385794d699f73bc8"), looks := false }, kinds := [], alts := [], laidByText := true, laidKinds := [.data, .data, .data, .data], laidTests := true, laidLooks := .later }
def FnBookTornCardSaid : Prop := Claim7.holds Tryd.pinned (.plain (OpenSpec.ofChange fnBookTornSpec)) fnBookTornCard

/-- THE TIED CARD OF 'laws.FnExactBookOk'. -/
def fnExactBookOkCard : Claim7 := { stood := { row := fnExactBookOkRow, standIns := [], harness := (true, "c92edc633bf6c0c891d9767e7e6cf5abb4252e816409d1b9385794d699f73bc8"), looks := false }, kinds := [], alts := [], laidByText := true, laidKinds := [.data, .data, .data, .data], laidTests := true, laidLooks := .later }
def FnExactBookOkCardSaid : Prop := Claim7.holds Tryd.pinned (.plain (OpenSpec.ofChange fnExactBookOkSpec)) fnExactBookOkCard

/-- THE TIED CARD OF 'laws.FnExactBookCount'. -/
def fnExactBookCountCard : Claim7 := { stood := { row := fnExactBookCountRow, standIns := [], harness := (true, "c92edc633bf6c0c891d9767e7e6cf5abb4252e816409d1b9385794d699f73bc8"), looks := false }, kinds := [], alts := [], laidByText := true, laidKinds := [.data, .data, .data, .data], laidTests := true, laidLooks := .later }
def FnExactBookCountCardSaid : Prop := Claim7.holds Tryd.pinned (.plain (OpenSpec.ofChange fnExactBookCountSpec)) fnExactBookCountCard

/-- THE TIED CARD OF 'laws.FnBookAdd'. -/
def fnBookAddCard : Claim7 := { stood := { row := fnBookAddRow, standIns := [], harness := (true, "c92edc633bf6c0c891d9767e7e6cf5abb4252e816409d1b9385794d699f73bc8"), looks := false }, kinds := [], alts := [], laidByText := true, laidKinds := [.data, .data, .data, .data], laidTests := true, laidLooks := .later }
def FnBookAddCardSaid : Prop := Claim7.holds Tryd.pinned (.plain (OpenSpec.ofChange fnBookAddSpec)) fnBookAddCard

/-- THE TIED CARD OF 'laws.FnExactBookAdd'. -/
def fnExactBookAddCard : Claim7 := { stood := { row := fnExactBookAddRow, standIns := [], harness := (true, "c92edc633bf6c0c891d9767e7e6cf5abb4252e816409d1b9385794d699f73bc8"), looks := false }, kinds := [], alts := [], laidByText := true, laidKinds := [.data, .data, .data, .data], laidTests := true, laidLooks := .later }
def FnExactBookAddCardSaid : Prop := Claim7.holds Tryd.pinned (.plain (OpenSpec.ofChange fnExactBookAddSpec)) fnExactBookAddCard

/-- THE SECOND FORM's CARD OF 'laws.FnBookTorn'. -/
def fnBookTornUptoCard : Claim7 := { stood := { row := fnBookTornUptoRow, standIns := [], harness := (true, "c92edc633bf6c0c891d9767e7e6cf5abb4252e816409d1b9385794d699f73bc8"), looks := false }, kinds := [], alts := [], laidByText := true, laidKinds := [.data, .data, .data, .data], laidTests := true, laidLooks := .later }
def FnBookTornUptoCardSaid : Prop := Claim7.holds Tryd.pinned (.plain (OpenSpec.upto fnBookTornSpec)) fnBookTornUptoCard

/-- THE SECOND FORM's CARD OF 'laws.FnExactBookOk'. -/
def fnExactBookOkUptoCard : Claim7 := { stood := { row := fnExactBookOkUptoRow, standIns := [], harness := (true, "c92edc633bf6c0c891d9767e7e6cf5abb4252e816409d1b9385794d699f73bc8"), looks := false }, kinds := [], alts := [], laidByText := true, laidKinds := [.data, .data, .data, .data], laidTests := true, laidLooks := .later }
def FnExactBookOkUptoCardSaid : Prop := Claim7.holds Tryd.pinned (.plain (OpenSpec.upto fnExactBookOkSpec)) fnExactBookOkUptoCard

/-- THE SECOND FORM's CARD OF 'laws.FnExactBookCount'. -/
def fnExactBookCountUptoCard : Claim7 := { stood := { row := fnExactBookCountUptoRow, standIns := [], harness := (true, "c92edc633bf6c0c891d9767e7e6cf5abb4252e816409d1b9385794d699f73bc8"), looks := false }, kinds := [], alts := [], laidByText := true, laidKinds := [.data, .data, .data, .data], laidTests := true, laidLooks := .later }
def FnExactBookCountUptoCardSaid : Prop := Claim7.holds Tryd.pinned (.plain (OpenSpec.upto fnExactBookCountSpec)) fnExactBookCountUptoCard

/-- THE SECOND FORM's CARD OF 'laws.FnBookAdd'. -/
def fnBookAddUptoCard : Claim7 := { stood := { row := fnBookAddUptoRow, standIns := [], harness := (true, "c92edc633bf6c0c891d9767e7e6cf5abb4252e816409d1b9385794d699f73bc8"), looks := false }, kinds := [], alts := [], laidByText := true, laidKinds := [.data, .data, .data, .data], laidTests := true, laidLooks := .later }
def FnBookAddUptoCardSaid : Prop := Claim7.holds Tryd.pinned (.plain (OpenSpec.upto fnBookAddSpec)) fnBookAddUptoCard

/-- THE SECOND FORM's CARD OF 'laws.FnExactBookAdd'. -/
def fnExactBookAddUptoCard : Claim7 := { stood := { row := fnExactBookAddUptoRow, standIns := [], harness := (true, "c92edc633bf6c0c891d9767e7e6cf5abb4252e816409d1b9385794d699f73bc8"), looks := false }, kinds := [], alts := [], laidByText := true, laidKinds := [.data, .data, .data, .data], laidTests := true, laidLooks := .later }
def FnExactBookAddUptoCardSaid : Prop := Claim7.holds Tryd.pinned (.plain (OpenSpec.upto fnExactBookAddSpec)) fnExactBookAddUptoCard
end Rows
end Go.Proofs.YtaieopdfkapgdaaDoor
