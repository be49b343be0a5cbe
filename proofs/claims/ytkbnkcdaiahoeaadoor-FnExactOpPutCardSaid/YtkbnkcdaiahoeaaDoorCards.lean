/-
  DERIVED. GIVEN WITH THE SEED: THE CARDS: each row of YtkbnkcdaiahoeaaDoorRows.lean that lists a variable, with what it lists TIED to the program's text (the seventh form; the later family's looks); each row that meets fmt, with fmt's text TOLD by the authors' own Lean function (tested against real Go, not proved from fmt's source: count such statements apart). THE CARD IS WHAT COUNTS. Prove the row's statement (the work); the ties are given (YtkbnkcdaiahoeaaDoorTie.lean); close each card by the builder's one call (the guide's Derived/Test/ToyasCard.lean, 'card_holds'). Laid BY PROGRAM, IN A SANDBOX (cutbox-door.mjs). By AI agents, Wed Nov 11 2026. No macro, syntax, notation, axiom, sorry.
-/
import Derived.Test.YtkbnkcdaiahoeaaDoorRows
import GoSem.ClaimSeven
namespace Go.Proofs.YtkbnkcdaiahoeaaDoor
namespace Rows

/-- THE TIED CARD OF 'laws.FnExactOwnersOk'. -/
def fnExactOwnersOkCard : Claim7 := { stood := { row := fnExactOwnersOkRow, standIns := [], harness := (true, "5a59ff29b8e9fb3f255beaf172398f9f25cee75c4092136d6db14cb5173aa2db"), looks := true }, kinds := [], alts := [], laidByText := true, laidKinds := [.data, .pinned], laidTests := true, laidLooks := .later }
def FnExactOwnersOkCardSaid : Prop := Claim7.holds Tryd.pinned (.plain (OpenSpec.ofChange fnExactOwnersOkSpec)) fnExactOwnersOkCard

/-- THE TIED CARD OF 'laws.FnOwnerOf'. -/
def fnOwnerOfCard : Claim7 := { stood := { row := fnOwnerOfRow, standIns := [], harness := (true, "5a59ff29b8e9fb3f255beaf172398f9f25cee75c4092136d6db14cb5173aa2db"), looks := true }, kinds := [], alts := [], laidByText := true, laidKinds := [.data, .pinned], laidTests := true, laidLooks := .later }
def FnOwnerOfCardSaid : Prop := Claim7.holds Tryd.pinned (.plain (OpenSpec.ofChange fnOwnerOfSpec)) fnOwnerOfCard

/-- THE TIED CARD OF 'laws.FnExactOwnerOf'. -/
def fnExactOwnerOfCard : Claim7 := { stood := { row := fnExactOwnerOfRow, standIns := [], harness := (true, "5a59ff29b8e9fb3f255beaf172398f9f25cee75c4092136d6db14cb5173aa2db"), looks := true }, kinds := [], alts := [], laidByText := true, laidKinds := [.data, .pinned], laidTests := true, laidLooks := .later }
def FnExactOwnerOfCardSaid : Prop := Claim7.holds Tryd.pinned (.plain (OpenSpec.ofChange fnExactOwnerOfSpec)) fnExactOwnerOfCard

/-- THE TIED CARD OF 'laws.FnExactOpOk'. -/
def fnExactOpOkCard : Claim7 := { stood := { row := fnExactOpOkRow, standIns := [], harness := (true, "5a59ff29b8e9fb3f255beaf172398f9f25cee75c4092136d6db14cb5173aa2db"), looks := true }, kinds := [], alts := [], laidByText := true, laidKinds := [.data, .pinned], laidTests := true, laidLooks := .later }
def FnExactOpOkCardSaid : Prop := Claim7.holds Tryd.pinned (.plain (OpenSpec.ofChange fnExactOpOkSpec)) fnExactOpOkCard

/-- THE TIED CARD OF 'laws.FnExactOpPut'. -/
def fnExactOpPutCard : Claim7 := { stood := { row := fnExactOpPutRow, standIns := [], harness := (true, "5a59ff29b8e9fb3f255beaf172398f9f25cee75c4092136d6db14cb5173aa2db"), looks := true }, kinds := [], alts := [], laidByText := true, laidKinds := [.data, .data, .data, .data, .widerDeep, .pinned], laidTests := true, laidLooks := .later }
def FnExactOpPutCardSaid : Prop := Claim7.holds Tryd.pinned (.plain (OpenSpec.ofChange fnExactOpPutSpec)) fnExactOpPutCard

/-- THE TIED CARD OF 'laws.FnOpPut'. -/
def fnOpPutCard : Claim7 := { stood := { row := fnOpPutRow, standIns := [], harness := (true, "5a59ff29b8e9fb3f255beaf172398f9f25cee75c4092136d6db14cb5173aa2db"), looks := true }, kinds := [], alts := [], laidByText := true, laidKinds := [.data, .data, .data, .data, .sentinel, .sentinel, .widerDeep, .pinned], laidTests := true, laidLooks := .later }
def FnOpPutCardSaid : Prop := Claim7.holds Tryd.pinned (.plain (OpenSpec.ofChange fnOpPutSpec)) fnOpPutCard

/-- THE SECOND FORM's CARD OF 'laws.FnExactOwnersOk'. -/
def fnExactOwnersOkUptoCard : Claim7 := { stood := { row := fnExactOwnersOkUptoRow, standIns := [], harness := (true, "5a59ff29b8e9fb3f255beaf172398f9f25cee75c4092136d6db14cb5173aa2db"), looks := true }, kinds := [], alts := [], laidByText := true, laidKinds := [.data, .pinned], laidTests := true, laidLooks := .later }
def FnExactOwnersOkUptoCardSaid : Prop := Claim7.holds Tryd.pinned (.plain (OpenSpec.upto fnExactOwnersOkSpec)) fnExactOwnersOkUptoCard

/-- THE SECOND FORM's CARD OF 'laws.FnOwnerOf'. -/
def fnOwnerOfUptoCard : Claim7 := { stood := { row := fnOwnerOfUptoRow, standIns := [], harness := (true, "5a59ff29b8e9fb3f255beaf172398f9f25cee75c4092136d6db14cb5173aa2db"), looks := true }, kinds := [], alts := [], laidByText := true, laidKinds := [.data, .pinned], laidTests := true, laidLooks := .later }
def FnOwnerOfUptoCardSaid : Prop := Claim7.holds Tryd.pinned (.plain (OpenSpec.upto fnOwnerOfSpec)) fnOwnerOfUptoCard

/-- THE SECOND FORM's CARD OF 'laws.FnExactOwnerOf'. -/
def fnExactOwnerOfUptoCard : Claim7 := { stood := { row := fnExactOwnerOfUptoRow, standIns := [], harness := (true, "5a59ff29b8e9fb3f255beaf172398f9f25cee75c4092136d6db14cb5173aa2db"), looks := true }, kinds := [], alts := [], laidByText := true, laidKinds := [.data, .pinned], laidTests := true, laidLooks := .later }
def FnExactOwnerOfUptoCardSaid : Prop := Claim7.holds Tryd.pinned (.plain (OpenSpec.upto fnExactOwnerOfSpec)) fnExactOwnerOfUptoCard

/-- THE SECOND FORM's CARD OF 'laws.FnExactOpOk'. -/
def fnExactOpOkUptoCard : Claim7 := { stood := { row := fnExactOpOkUptoRow, standIns := [], harness := (true, "5a59ff29b8e9fb3f255beaf172398f9f25cee75c4092136d6db14cb5173aa2db"), looks := true }, kinds := [], alts := [], laidByText := true, laidKinds := [.data, .pinned], laidTests := true, laidLooks := .later }
def FnExactOpOkUptoCardSaid : Prop := Claim7.holds Tryd.pinned (.plain (OpenSpec.upto fnExactOpOkSpec)) fnExactOpOkUptoCard

/-- THE SECOND FORM's CARD OF 'laws.FnExactOpPut'. -/
def fnExactOpPutUptoCard : Claim7 := { stood := { row := fnExactOpPutUptoRow, standIns := [], harness := (true, "5a59ff29b8e9fb3f255beaf172398f9f25cee75c4092136d6db14cb5173aa2db"), looks := true }, kinds := [], alts := [], laidByText := true, laidKinds := [.data, .data, .data, .data, .widerDeep, .pinned], laidTests := true, laidLooks := .later }
def FnExactOpPutUptoCardSaid : Prop := Claim7.holds Tryd.pinned (.plain (OpenSpec.upto fnExactOpPutSpec)) fnExactOpPutUptoCard

/-- THE SECOND FORM's CARD OF 'laws.FnOpPut'. -/
def fnOpPutUptoCard : Claim7 := { stood := { row := fnOpPutUptoRow, standIns := [], harness := (true, "5a59ff29b8e9fb3f255beaf172398f9f25cee75c4092136d6db14cb5173aa2db"), looks := true }, kinds := [], alts := [], laidByText := true, laidKinds := [.data, .data, .data, .data, .sentinel, .sentinel, .widerDeep, .pinned], laidTests := true, laidLooks := .later }
def FnOpPutUptoCardSaid : Prop := Claim7.holds Tryd.pinned (.plain (OpenSpec.upto fnOpPutSpec)) fnOpPutUptoCard
end Rows
end Go.Proofs.YtkbnkcdaiahoeaaDoor
