/-
  DERIVED. GIVEN WITH THE SEED: THE CARDS: each row of YtckfnbjjghdaoaaDoorRows.lean that lists a variable, with what it lists TIED to the program's text (the seventh form; the later family's looks); each row that meets fmt, with fmt's text TOLD by the authors' own Lean function (tested against real Go, not proved from fmt's source: count such statements apart). THE CARD IS WHAT COUNTS. Prove the row's statement (the work); the ties are given (YtckfnbjjghdaoaaDoorTie.lean); close each card by the builder's one call (the guide's Derived/Test/ToyasCard.lean, 'card_holds'). Laid BY PROGRAM, IN A SANDBOX (cutbox-door.mjs). By AI agents, Wed Nov 11 2026. No macro, syntax, notation, axiom, sorry.
-/
import Derived.Test.YtckfnbjjghdaoaaDoorRows
import GoSem.ClaimSeven
namespace Go.Proofs.YtckfnbjjghdaoaaDoor
namespace Rows

/-- THE TIED CARD OF 'scarablaw02.WordWide'. -/
def wordWideCard : Claim7 := { stood := { row := wordWideRow, standIns := [], harness := (true, "e098fe463e0cdc46934b7d8ff8abde7e8a5dfc2a71ca816f99261e5959d2add9"), looks := true }, kinds := [], alts := [], laidByText := true, laidKinds := [.data], laidTests := true, laidLooks := .later }
def WordWideCardSaid : Prop := Claim7.holds Tryd.pinned (.plain (OpenSpec.ofChange wordWideSpec)) wordWideCard

/-- THE TIED CARD OF 'scarablaw02.WordRing'. -/
def wordRingCard : Claim7 := { stood := { row := wordRingRow, standIns := [], harness := (true, "e098fe463e0cdc46934b7d8ff8abde7e8a5dfc2a71ca816f99261e5959d2add9"), looks := true }, kinds := [], alts := [], laidByText := true, laidKinds := [.data], laidTests := true, laidLooks := .later }
def WordRingCardSaid : Prop := Claim7.holds Tryd.pinned (.plain (OpenSpec.ofChange wordRingSpec)) wordRingCard

/-- THE TIED CARD OF 'scarablaw02.WordQuotient'. -/
def wordQuotientCard : Claim7 := { stood := { row := wordQuotientRow, standIns := [], harness := (true, "e098fe463e0cdc46934b7d8ff8abde7e8a5dfc2a71ca816f99261e5959d2add9"), looks := true }, kinds := [], alts := [], laidByText := true, laidKinds := [.data], laidTests := true, laidLooks := .later }
def WordQuotientCardSaid : Prop := Claim7.holds Tryd.pinned (.plain (OpenSpec.ofChange wordQuotientSpec)) wordQuotientCard

/-- THE TIED CARD OF 'scarablaw02.WordTurns'. -/
def wordTurnsCard : Claim7 := { stood := { row := wordTurnsRow, standIns := [], harness := (true, "e098fe463e0cdc46934b7d8ff8abde7e8a5dfc2a71ca816f99261e5959d2add9"), looks := true }, kinds := [], alts := [], laidByText := true, laidKinds := [.data], laidTests := true, laidLooks := .later }
def WordTurnsCardSaid : Prop := Claim7.holds Tryd.pinned (.plain (OpenSpec.ofChange wordTurnsSpec)) wordTurnsCard

/-- THE TIED CARD OF 'scarablaw02.WordFits'. -/
def wordFitsCard : Claim7 := { stood := { row := wordFitsRow, standIns := [], harness := (true, "e098fe463e0cdc46934b7d8ff8abde7e8a5dfc2a71ca816f99261e5959d2add9"), looks := true }, kinds := [], alts := [], laidByText := true, laidKinds := [.data], laidTests := true, laidLooks := .later }
def WordFitsCardSaid : Prop := Claim7.holds Tryd.pinned (.plain (OpenSpec.ofChange wordFitsSpec)) wordFitsCard

/-- THE TIED CARD OF 'scarablaw02.WordConverts'. -/
def wordConvertsCard : Claim7 := { stood := { row := wordConvertsRow, standIns := [], harness := (true, "e098fe463e0cdc46934b7d8ff8abde7e8a5dfc2a71ca816f99261e5959d2add9"), looks := true }, kinds := [], alts := [], laidByText := true, laidKinds := [.data], laidTests := true, laidLooks := .later }
def WordConvertsCardSaid : Prop := Claim7.holds Tryd.pinned (.plain (OpenSpec.ofChange wordConvertsSpec)) wordConvertsCard

/-- THE TIED CARD OF 'scarablaw02.WordPowers'. -/
def wordPowersCard : Claim7 := { stood := { row := wordPowersRow, standIns := [], harness := (true, "e098fe463e0cdc46934b7d8ff8abde7e8a5dfc2a71ca816f99261e5959d2add9"), looks := true }, kinds := [], alts := [], laidByText := true, laidKinds := [.data], laidTests := true, laidLooks := .later }
def WordPowersCardSaid : Prop := Claim7.holds Tryd.pinned (.plain (OpenSpec.ofChange wordPowersSpec)) wordPowersCard

/-- THE TIED CARD OF 'scarablaw02.WordApplies'. -/
def wordAppliesCard : Claim7 := { stood := { row := wordAppliesRow, standIns := [], harness := (true, "e098fe463e0cdc46934b7d8ff8abde7e8a5dfc2a71ca816f99261e5959d2add9"), looks := true }, kinds := [], alts := [], laidByText := true, laidKinds := [.data], laidTests := true, laidLooks := .later }
def WordAppliesCardSaid : Prop := Claim7.holds Tryd.pinned (.plain (OpenSpec.ofChange wordAppliesSpec)) wordAppliesCard

/-- THE TIED CARD OF 'scarablaw02.WordNames'. -/
def wordNamesCard : Claim7 := { stood := { row := wordNamesRow, standIns := [], harness := (true, "e098fe463e0cdc46934b7d8ff8abde7e8a5dfc2a71ca816f99261e5959d2add9"), looks := true }, kinds := [], alts := [], laidByText := true, laidKinds := [.data], laidTests := true, laidLooks := .later }
def WordNamesCardSaid : Prop := Claim7.holds Tryd.pinned (.plain (OpenSpec.ofChange wordNamesSpec)) wordNamesCard

/-- THE TIED CARD OF 'scarablaw02.WordOver'. -/
def wordOverCard : Claim7 := { stood := { row := wordOverRow, standIns := [], harness := (true, "e098fe463e0cdc46934b7d8ff8abde7e8a5dfc2a71ca816f99261e5959d2add9"), looks := true }, kinds := [], alts := [], laidByText := true, laidKinds := [.data], laidTests := true, laidLooks := .later }
def WordOverCardSaid : Prop := Claim7.holds Tryd.pinned (.plain (OpenSpec.ofChange wordOverSpec)) wordOverCard

/-- THE TIED CARD OF 'scarablaw02.WordExact'. -/
def wordExactCard : Claim7 := { stood := { row := wordExactRow, standIns := [], harness := (true, "e098fe463e0cdc46934b7d8ff8abde7e8a5dfc2a71ca816f99261e5959d2add9"), looks := true }, kinds := [], alts := [], laidByText := true, laidKinds := [.data], laidTests := true, laidLooks := .later }
def WordExactCardSaid : Prop := Claim7.holds Tryd.pinned (.plain (OpenSpec.ofChange wordExactSpec)) wordExactCard

/-- THE TIED CARD OF 'scarablaw02.WordDivides'. -/
def wordDividesCard : Claim7 := { stood := { row := wordDividesRow, standIns := [], harness := (true, "e098fe463e0cdc46934b7d8ff8abde7e8a5dfc2a71ca816f99261e5959d2add9"), looks := true }, kinds := [], alts := [], laidByText := true, laidKinds := [.data], laidTests := true, laidLooks := .later }
def WordDividesCardSaid : Prop := Claim7.holds Tryd.pinned (.plain (OpenSpec.ofChange wordDividesSpec)) wordDividesCard

/-- THE TIED CARD OF 'scarablaw02.WordBack'. -/
def wordBackCard : Claim7 := { stood := { row := wordBackRow, standIns := [], harness := (true, "e098fe463e0cdc46934b7d8ff8abde7e8a5dfc2a71ca816f99261e5959d2add9"), looks := true }, kinds := [], alts := [], laidByText := true, laidKinds := [.data], laidTests := true, laidLooks := .later }
def WordBackCardSaid : Prop := Claim7.holds Tryd.pinned (.plain (OpenSpec.ofChange wordBackSpec)) wordBackCard

/-- THE TIED CARD OF 'scarablaw02.WordTexts'. -/
def wordTextsCard : Claim7 := { stood := { row := wordTextsRow, standIns := [], harness := (true, "e098fe463e0cdc46934b7d8ff8abde7e8a5dfc2a71ca816f99261e5959d2add9"), looks := true }, kinds := [], alts := [], laidByText := true, laidKinds := [.data, .data, .data, .sentinel, .sentinel], laidTests := true, laidLooks := .later }
def WordTextsCardSaid : Prop := Claim7.holds Tryd.pinned (.plain (OpenSpec.ofChange wordTextsSpec)) wordTextsCard

/-- THE SECOND FORM's CARD OF 'scarablaw02.WordWide'. -/
def wordWideUptoCard : Claim7 := { stood := { row := wordWideUptoRow, standIns := [], harness := (true, "e098fe463e0cdc46934b7d8ff8abde7e8a5dfc2a71ca816f99261e5959d2add9"), looks := true }, kinds := [], alts := [], laidByText := true, laidKinds := [.data], laidTests := true, laidLooks := .later }
def WordWideUptoCardSaid : Prop := Claim7.holds Tryd.pinned (.plain (OpenSpec.upto wordWideSpec)) wordWideUptoCard

/-- THE SECOND FORM's CARD OF 'scarablaw02.WordRing'. -/
def wordRingUptoCard : Claim7 := { stood := { row := wordRingUptoRow, standIns := [], harness := (true, "e098fe463e0cdc46934b7d8ff8abde7e8a5dfc2a71ca816f99261e5959d2add9"), looks := true }, kinds := [], alts := [], laidByText := true, laidKinds := [.data], laidTests := true, laidLooks := .later }
def WordRingUptoCardSaid : Prop := Claim7.holds Tryd.pinned (.plain (OpenSpec.upto wordRingSpec)) wordRingUptoCard

/-- THE SECOND FORM's CARD OF 'scarablaw02.WordQuotient'. -/
def wordQuotientUptoCard : Claim7 := { stood := { row := wordQuotientUptoRow, standIns := [], harness := (true, "e098fe463e0cdc46934b7d8ff8abde7e8a5dfc2a71ca816f99261e5959d2add9"), looks := true }, kinds := [], alts := [], laidByText := true, laidKinds := [.data], laidTests := true, laidLooks := .later }
def WordQuotientUptoCardSaid : Prop := Claim7.holds Tryd.pinned (.plain (OpenSpec.upto wordQuotientSpec)) wordQuotientUptoCard

/-- THE SECOND FORM's CARD OF 'scarablaw02.WordTurns'. -/
def wordTurnsUptoCard : Claim7 := { stood := { row := wordTurnsUptoRow, standIns := [], harness := (true, "e098fe463e0cdc46934b7d8ff8abde7e8a5dfc2a71ca816f99261e5959d2add9"), looks := true }, kinds := [], alts := [], laidByText := true, laidKinds := [.data], laidTests := true, laidLooks := .later }
def WordTurnsUptoCardSaid : Prop := Claim7.holds Tryd.pinned (.plain (OpenSpec.upto wordTurnsSpec)) wordTurnsUptoCard

/-- THE SECOND FORM's CARD OF 'scarablaw02.WordFits'. -/
def wordFitsUptoCard : Claim7 := { stood := { row := wordFitsUptoRow, standIns := [], harness := (true, "e098fe463e0cdc46934b7d8ff8abde7e8a5dfc2a71ca816f99261e5959d2add9"), looks := true }, kinds := [], alts := [], laidByText := true, laidKinds := [.data], laidTests := true, laidLooks := .later }
def WordFitsUptoCardSaid : Prop := Claim7.holds Tryd.pinned (.plain (OpenSpec.upto wordFitsSpec)) wordFitsUptoCard

/-- THE SECOND FORM's CARD OF 'scarablaw02.WordConverts'. -/
def wordConvertsUptoCard : Claim7 := { stood := { row := wordConvertsUptoRow, standIns := [], harness := (true, "e098fe463e0cdc46934b7d8ff8abde7e8a5dfc2a71ca816f99261e5959d2add9"), looks := true }, kinds := [], alts := [], laidByText := true, laidKinds := [.data], laidTests := true, laidLooks := .later }
def WordConvertsUptoCardSaid : Prop := Claim7.holds Tryd.pinned (.plain (OpenSpec.upto wordConvertsSpec)) wordConvertsUptoCard

/-- THE SECOND FORM's CARD OF 'scarablaw02.WordPowers'. -/
def wordPowersUptoCard : Claim7 := { stood := { row := wordPowersUptoRow, standIns := [], harness := (true, "e098fe463e0cdc46934b7d8ff8abde7e8a5dfc2a71ca816f99261e5959d2add9"), looks := true }, kinds := [], alts := [], laidByText := true, laidKinds := [.data], laidTests := true, laidLooks := .later }
def WordPowersUptoCardSaid : Prop := Claim7.holds Tryd.pinned (.plain (OpenSpec.upto wordPowersSpec)) wordPowersUptoCard

/-- THE SECOND FORM's CARD OF 'scarablaw02.WordApplies'. -/
def wordAppliesUptoCard : Claim7 := { stood := { row := wordAppliesUptoRow, standIns := [], harness := (true, "e098fe463e0cdc46934b7d8ff8abde7e8a5dfc2a71ca816f99261e5959d2add9"), looks := true }, kinds := [], alts := [], laidByText := true, laidKinds := [.data], laidTests := true, laidLooks := .later }
def WordAppliesUptoCardSaid : Prop := Claim7.holds Tryd.pinned (.plain (OpenSpec.upto wordAppliesSpec)) wordAppliesUptoCard

/-- THE SECOND FORM's CARD OF 'scarablaw02.WordNames'. -/
def wordNamesUptoCard : Claim7 := { stood := { row := wordNamesUptoRow, standIns := [], harness := (true, "e098fe463e0cdc46934b7d8ff8abde7e8a5dfc2a71ca816f99261e5959d2add9"), looks := true }, kinds := [], alts := [], laidByText := true, laidKinds := [.data], laidTests := true, laidLooks := .later }
def WordNamesUptoCardSaid : Prop := Claim7.holds Tryd.pinned (.plain (OpenSpec.upto wordNamesSpec)) wordNamesUptoCard

/-- THE SECOND FORM's CARD OF 'scarablaw02.WordOver'. -/
def wordOverUptoCard : Claim7 := { stood := { row := wordOverUptoRow, standIns := [], harness := (true, "e098fe463e0cdc46934b7d8ff8abde7e8a5dfc2a71ca816f99261e5959d2add9"), looks := true }, kinds := [], alts := [], laidByText := true, laidKinds := [.data], laidTests := true, laidLooks := .later }
def WordOverUptoCardSaid : Prop := Claim7.holds Tryd.pinned (.plain (OpenSpec.upto wordOverSpec)) wordOverUptoCard

/-- THE SECOND FORM's CARD OF 'scarablaw02.WordExact'. -/
def wordExactUptoCard : Claim7 := { stood := { row := wordExactUptoRow, standIns := [], harness := (true, "e098fe463e0cdc46934b7d8ff8abde7e8a5dfc2a71ca816f99261e5959d2add9"), looks := true }, kinds := [], alts := [], laidByText := true, laidKinds := [.data], laidTests := true, laidLooks := .later }
def WordExactUptoCardSaid : Prop := Claim7.holds Tryd.pinned (.plain (OpenSpec.upto wordExactSpec)) wordExactUptoCard

/-- THE SECOND FORM's CARD OF 'scarablaw02.WordDivides'. -/
def wordDividesUptoCard : Claim7 := { stood := { row := wordDividesUptoRow, standIns := [], harness := (true, "e098fe463e0cdc46934b7d8ff8abde7e8a5dfc2a71ca816f99261e5959d2add9"), looks := true }, kinds := [], alts := [], laidByText := true, laidKinds := [.data], laidTests := true, laidLooks := .later }
def WordDividesUptoCardSaid : Prop := Claim7.holds Tryd.pinned (.plain (OpenSpec.upto wordDividesSpec)) wordDividesUptoCard

/-- THE SECOND FORM's CARD OF 'scarablaw02.WordBack'. -/
def wordBackUptoCard : Claim7 := { stood := { row := wordBackUptoRow, standIns := [], harness := (true, "e098fe463e0cdc46934b7d8ff8abde7e8a5dfc2a71ca816f99261e5959d2add9"), looks := true }, kinds := [], alts := [], laidByText := true, laidKinds := [.data], laidTests := true, laidLooks := .later }
def WordBackUptoCardSaid : Prop := Claim7.holds Tryd.pinned (.plain (OpenSpec.upto wordBackSpec)) wordBackUptoCard

/-- THE SECOND FORM's CARD OF 'scarablaw02.WordTexts'. -/
def wordTextsUptoCard : Claim7 := { stood := { row := wordTextsUptoRow, standIns := [], harness := (true, "e098fe463e0cdc46934b7d8ff8abde7e8a5dfc2a71ca816f99261e5959d2add9"), looks := true }, kinds := [], alts := [], laidByText := true, laidKinds := [.data, .data, .data, .sentinel, .sentinel], laidTests := true, laidLooks := .later }
def WordTextsUptoCardSaid : Prop := Claim7.holds Tryd.pinned (.plain (OpenSpec.upto wordTextsSpec)) wordTextsUptoCard
end Rows
end Go.Proofs.YtckfnbjjghdaoaaDoor
