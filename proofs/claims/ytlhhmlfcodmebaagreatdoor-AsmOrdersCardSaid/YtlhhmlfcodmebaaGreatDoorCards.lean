/-
  DERIVED. GIVEN WITH THE SEED: THE CARDS: each row of YtlhhmlfcodmebaaGreatDoorRows.lean that lists a variable, with what it lists TIED to the program's text (the seventh form; the later family's looks); each row that meets fmt, with fmt's text TOLD by the authors' own Lean function (tested against real Go, not proved from fmt's source: count such statements apart). THE CARD IS WHAT COUNTS. Prove the row's statement (the work); the ties are given (YtlhhmlfcodmebaaGreatDoorTie.lean); close each card by the builder's one call (the guide's Derived/Test/ToyasCard.lean, 'card_holds'). Laid BY PROGRAM, IN A SANDBOX (cutbox-door.mjs). By AI agents, Wed Nov 11 2026. No macro, syntax, notation, axiom, sorry.
-/
import Derived.Test.YtlhhmlfcodmebaaGreatDoorRows
import GoSem.ClaimSeven
namespace Go.Proofs.YtlhhmlfcodmebaaGreatDoor
namespace Rows

/-- THE TIED CARD OF 'scarablaw05.AsmParses'. -/
def asmParsesCard : Claim7 := { stood := { row := asmParsesRow, standIns := [], harness := (true, "a3a4c4f4536d12c1cea42e0a12d1c1f8231fe709d3ecc212e806131b8d78df07"), looks := true }, kinds := [], alts := [], laidByText := true, laidKinds := [.data, .data, .data, .sentinel, .sentinel], laidTests := true, laidLooks := .later }
def AsmParsesCardSaid : Prop := Claim7.holds Tryz.pinned (.plain (OpenSpec.ofChange asmParsesSpec)) asmParsesCard

/-- THE TIED CARD OF 'scarablaw05.AsmLines'. -/
def asmLinesCard : Claim7 := { stood := { row := asmLinesRow, standIns := [], harness := (true, "a3a4c4f4536d12c1cea42e0a12d1c1f8231fe709d3ecc212e806131b8d78df07"), looks := true }, kinds := [], alts := [], laidByText := true, laidKinds := [.data, .data, .data, .sentinel, .sentinel], laidTests := true, laidLooks := .later }
def AsmLinesCardSaid : Prop := Claim7.holds Tryz.pinned (.plain (OpenSpec.ofChange asmLinesSpec)) asmLinesCard

/-- THE TIED CARD OF 'scarablaw05.AsmOrders'. -/
def asmOrdersCard : Claim7 := { stood := { row := asmOrdersRow, standIns := [], harness := (true, "a3a4c4f4536d12c1cea42e0a12d1c1f8231fe709d3ecc212e806131b8d78df07"), looks := true }, kinds := [], alts := [], laidByText := true, laidKinds := [.data, .data, .data, .sentinel, .sentinel], laidTests := true, laidLooks := .later }
def AsmOrdersCardSaid : Prop := Claim7.holds Tryz.pinned (.plain (OpenSpec.ofChange asmOrdersSpec)) asmOrdersCard

/-- THE TIED CARD OF 'scarablaw05.AsmPrints'. -/
def asmPrintsCard : Claim7 := { stood := { row := asmPrintsRow, standIns := [], harness := (true, "a3a4c4f4536d12c1cea42e0a12d1c1f8231fe709d3ecc212e806131b8d78df07"), looks := true }, kinds := [], alts := [], laidByText := true, laidKinds := [.data, .data, .data, .sentinel, .sentinel], laidTests := true, laidLooks := .later }
def AsmPrintsCardSaid : Prop := Claim7.holds Tryz.pinned (.plain (OpenSpec.ofChange asmPrintsSpec)) asmPrintsCard

/-- THE TIED CARD OF 'scarablaw05.AsmBack'. -/
def asmBackCard : Claim7 := { stood := { row := asmBackRow, standIns := [], harness := (true, "a3a4c4f4536d12c1cea42e0a12d1c1f8231fe709d3ecc212e806131b8d78df07"), looks := true }, kinds := [], alts := [], laidByText := true, laidKinds := [.data, .data, .data, .sentinel, .sentinel], laidTests := true, laidLooks := .later }
def AsmBackCardSaid : Prop := Claim7.holds Tryz.pinned (.plain (OpenSpec.ofChange asmBackSpec)) asmBackCard

/-- THE TIED CARD OF 'scarablaw05.AsmRemarks'. -/
def asmRemarksCard : Claim7 := { stood := { row := asmRemarksRow, standIns := [], harness := (true, "a3a4c4f4536d12c1cea42e0a12d1c1f8231fe709d3ecc212e806131b8d78df07"), looks := true }, kinds := [], alts := [], laidByText := true, laidKinds := [.data, .data, .data, .sentinel, .sentinel], laidTests := true, laidLooks := .later }
def AsmRemarksCardSaid : Prop := Claim7.holds Tryz.pinned (.plain (OpenSpec.ofChange asmRemarksSpec)) asmRemarksCard

/-- THE TIED CARD OF 'scarablaw05.AsmLost'. -/
def asmLostCard : Claim7 := { stood := { row := asmLostRow, standIns := [], harness := (true, "a3a4c4f4536d12c1cea42e0a12d1c1f8231fe709d3ecc212e806131b8d78df07"), looks := true }, kinds := [], alts := [], laidByText := true, laidKinds := [.data, .data, .data, .sentinel, .sentinel], laidTests := true, laidLooks := .later }
def AsmLostCardSaid : Prop := Claim7.holds Tryz.pinned (.plain (OpenSpec.ofChange asmLostSpec)) asmLostCard

/-- THE SECOND FORM's CARD OF 'scarablaw05.AsmParses'. -/
def asmParsesUptoCard : Claim7 := { stood := { row := asmParsesUptoRow, standIns := [], harness := (true, "a3a4c4f4536d12c1cea42e0a12d1c1f8231fe709d3ecc212e806131b8d78df07"), looks := true }, kinds := [], alts := [], laidByText := true, laidKinds := [.data, .data, .data, .sentinel, .sentinel], laidTests := true, laidLooks := .later }
def AsmParsesUptoCardSaid : Prop := Claim7.holds Tryz.pinned (.plain (OpenSpec.upto asmParsesSpec)) asmParsesUptoCard

/-- THE SECOND FORM's CARD OF 'scarablaw05.AsmLines'. -/
def asmLinesUptoCard : Claim7 := { stood := { row := asmLinesUptoRow, standIns := [], harness := (true, "a3a4c4f4536d12c1cea42e0a12d1c1f8231fe709d3ecc212e806131b8d78df07"), looks := true }, kinds := [], alts := [], laidByText := true, laidKinds := [.data, .data, .data, .sentinel, .sentinel], laidTests := true, laidLooks := .later }
def AsmLinesUptoCardSaid : Prop := Claim7.holds Tryz.pinned (.plain (OpenSpec.upto asmLinesSpec)) asmLinesUptoCard

/-- THE SECOND FORM's CARD OF 'scarablaw05.AsmOrders'. -/
def asmOrdersUptoCard : Claim7 := { stood := { row := asmOrdersUptoRow, standIns := [], harness := (true, "a3a4c4f4536d12c1cea42e0a12d1c1f8231fe709d3ecc212e806131b8d78df07"), looks := true }, kinds := [], alts := [], laidByText := true, laidKinds := [.data, .data, .data, .sentinel, .sentinel], laidTests := true, laidLooks := .later }
def AsmOrdersUptoCardSaid : Prop := Claim7.holds Tryz.pinned (.plain (OpenSpec.upto asmOrdersSpec)) asmOrdersUptoCard

/-- THE SECOND FORM's CARD OF 'scarablaw05.AsmPrints'. -/
def asmPrintsUptoCard : Claim7 := { stood := { row := asmPrintsUptoRow, standIns := [], harness := (true, "a3a4c4f4536d12c1cea42e0a12d1c1f8231fe709d3ecc212e806131b8d78df07"), looks := true }, kinds := [], alts := [], laidByText := true, laidKinds := [.data, .data, .data, .sentinel, .sentinel], laidTests := true, laidLooks := .later }
def AsmPrintsUptoCardSaid : Prop := Claim7.holds Tryz.pinned (.plain (OpenSpec.upto asmPrintsSpec)) asmPrintsUptoCard

/-- THE SECOND FORM's CARD OF 'scarablaw05.AsmBack'. -/
def asmBackUptoCard : Claim7 := { stood := { row := asmBackUptoRow, standIns := [], harness := (true, "a3a4c4f4536d12c1cea42e0a12d1c1f8231fe709d3ecc212e806131b8d78df07"), looks := true }, kinds := [], alts := [], laidByText := true, laidKinds := [.data, .data, .data, .sentinel, .sentinel], laidTests := true, laidLooks := .later }
def AsmBackUptoCardSaid : Prop := Claim7.holds Tryz.pinned (.plain (OpenSpec.upto asmBackSpec)) asmBackUptoCard

/-- THE SECOND FORM's CARD OF 'scarablaw05.AsmRemarks'. -/
def asmRemarksUptoCard : Claim7 := { stood := { row := asmRemarksUptoRow, standIns := [], harness := (true, "a3a4c4f4536d12c1cea42e0a12d1c1f8231fe709d3ecc212e806131b8d78df07"), looks := true }, kinds := [], alts := [], laidByText := true, laidKinds := [.data, .data, .data, .sentinel, .sentinel], laidTests := true, laidLooks := .later }
def AsmRemarksUptoCardSaid : Prop := Claim7.holds Tryz.pinned (.plain (OpenSpec.upto asmRemarksSpec)) asmRemarksUptoCard

/-- THE SECOND FORM's CARD OF 'scarablaw05.AsmLost'. -/
def asmLostUptoCard : Claim7 := { stood := { row := asmLostUptoRow, standIns := [], harness := (true, "a3a4c4f4536d12c1cea42e0a12d1c1f8231fe709d3ecc212e806131b8d78df07"), looks := true }, kinds := [], alts := [], laidByText := true, laidKinds := [.data, .data, .data, .sentinel, .sentinel], laidTests := true, laidLooks := .later }
def AsmLostUptoCardSaid : Prop := Claim7.holds Tryz.pinned (.plain (OpenSpec.upto asmLostSpec)) asmLostUptoCard
end Rows
end Go.Proofs.YtlhhmlfcodmebaaGreatDoor
