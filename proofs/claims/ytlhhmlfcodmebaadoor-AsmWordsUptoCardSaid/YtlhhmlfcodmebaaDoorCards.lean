/-
  DERIVED. GIVEN WITH THE SEED: THE CARDS: each row of YtlhhmlfcodmebaaDoorRows.lean that lists a variable, with what it lists TIED to the program's text (the seventh form; the later family's looks); each row that meets fmt, with fmt's text TOLD by the authors' own Lean function (tested against real Go, not proved from fmt's source: count such statements apart). THE CARD IS WHAT COUNTS. Prove the row's statement (the work); the ties are given (YtlhhmlfcodmebaaDoorTie.lean); close each card by the builder's one call (the guide's Derived/Test/ToyasCard.lean, 'card_holds'). Laid BY PROGRAM, IN A SANDBOX (cutbox-door.mjs). By AI agents, Wed Nov 11 2026. No macro, syntax, notation, axiom, sorry.
-/
import Derived.Test.YtlhhmlfcodmebaaDoorRows
import GoSem.ClaimSeven
namespace Go.Proofs.YtlhhmlfcodmebaaDoor
namespace Rows

/-- THE TIED CARD OF 'scarablaw05.AsmWords'. -/
def asmWordsCard : Claim7 := { stood := { row := asmWordsRow, standIns := [], harness := (true, "364f2e1bd2220089b0d832cbb9fdf6a221250e81bcc9c62c5c47a5de9c84b344"), looks := true }, kinds := [], alts := [], laidByText := true, laidKinds := [.data, .data, .data, .sentinel, .sentinel], laidTests := true, laidLooks := .later }
def AsmWordsCardSaid : Prop := Claim7.holds Tryd.pinned (.plain (OpenSpec.ofChange asmWordsSpec)) asmWordsCard

/-- THE SECOND FORM's CARD OF 'scarablaw05.AsmWords'. -/
def asmWordsUptoCard : Claim7 := { stood := { row := asmWordsUptoRow, standIns := [], harness := (true, "364f2e1bd2220089b0d832cbb9fdf6a221250e81bcc9c62c5c47a5de9c84b344"), looks := true }, kinds := [], alts := [], laidByText := true, laidKinds := [.data, .data, .data, .sentinel, .sentinel], laidTests := true, laidLooks := .later }
def AsmWordsUptoCardSaid : Prop := Claim7.holds Tryd.pinned (.plain (OpenSpec.upto asmWordsSpec)) asmWordsUptoCard
end Rows
end Go.Proofs.YtlhhmlfcodmebaaDoor
