/-
  DERIVED. GIVEN WITH THE SEED: THE CARDS: each row of YtbcdeanmjhcgeaaDoorRows.lean that lists a variable, with what it lists TIED to the program's text (the seventh form; the later family's looks); each row that meets fmt, with fmt's text TOLD by the authors' own Lean function (tested against real Go, not proved from fmt's source: count such statements apart). THE CARD IS WHAT COUNTS. Prove the row's statement (the work); the ties are given (YtbcdeanmjhcgeaaDoorTie.lean); close each card by the builder's one call (the guide's Derived/Test/ToyasCard.lean, 'card_holds'). Laid BY PROGRAM, IN A SANDBOX (cutbox-door.mjs). By AI agents, Wed Nov 11 2026. No macro, syntax, notation, axiom, sorry.
-/
import Derived.Test.YtbcdeanmjhcgeaaDoorRows
import GoSem.ClaimSeven
namespace Go.Proofs.YtbcdeanmjhcgeaaDoor
namespace Rows

/-- THE TIED CARD OF 'scarablaw07.StateTexts'. -/
def stateTextsCard : Claim7 := { stood := { row := stateTextsRow, standIns := [], harness := (true, "f50c177e1a79d70de64256e8b5819edb1abcba4149c5812461c0137ae27532da"), looks := false }, kinds := [], alts := [], laidByText := true, laidKinds := [.data, .data, .data], laidTests := true, laidLooks := .later }
def StateTextsCardSaid : Prop := Claim7.holds Tryd.pinned (.plain (OpenSpec.ofChange stateTextsSpec)) stateTextsCard

/-- THE TIED CARD OF 'scarablaw07.StateStarts'. -/
def stateStartsCard : Claim7 := { stood := { row := stateStartsRow, standIns := [], harness := (true, "f50c177e1a79d70de64256e8b5819edb1abcba4149c5812461c0137ae27532da"), looks := false }, kinds := [], alts := [], laidByText := true, laidKinds := [.data], laidTests := true, laidLooks := .later }
def StateStartsCardSaid : Prop := Claim7.holds Tryd.pinned (.plain (OpenSpec.ofChange stateStartsSpec)) stateStartsCard

/-- THE TIED CARD OF 'scarablaw07.StateValids'. -/
def stateValidsCard : Claim7 := { stood := { row := stateValidsRow, standIns := [], harness := (true, "f50c177e1a79d70de64256e8b5819edb1abcba4149c5812461c0137ae27532da"), looks := false }, kinds := [], alts := [], laidByText := true, laidKinds := [.data], laidTests := true, laidLooks := .later }
def StateValidsCardSaid : Prop := Claim7.holds Tryd.pinned (.plain (OpenSpec.ofChange stateValidsSpec)) stateValidsCard

/-- THE TIED CARD OF 'scarablaw07.StateSettles'. -/
def stateSettlesCard : Claim7 := { stood := { row := stateSettlesRow, standIns := [], harness := (true, "f50c177e1a79d70de64256e8b5819edb1abcba4149c5812461c0137ae27532da"), looks := false }, kinds := [], alts := [], laidByText := true, laidKinds := [.data], laidTests := true, laidLooks := .later }
def StateSettlesCardSaid : Prop := Claim7.holds Tryd.pinned (.plain (OpenSpec.ofChange stateSettlesSpec)) stateSettlesCard

/-- THE TIED CARD OF 'scarablaw07.StateKeeps'. -/
def stateKeepsCard : Claim7 := { stood := { row := stateKeepsRow, standIns := [], harness := (true, "f50c177e1a79d70de64256e8b5819edb1abcba4149c5812461c0137ae27532da"), looks := false }, kinds := [], alts := [], laidByText := true, laidKinds := [.data], laidTests := true, laidLooks := .later }
def StateKeepsCardSaid : Prop := Claim7.holds Tryd.pinned (.plain (OpenSpec.ofChange stateKeepsSpec)) stateKeepsCard

/-- THE TIED CARD OF 'scarablaw07.StateSums'. -/
def stateSumsCard : Claim7 := { stood := { row := stateSumsRow, standIns := [], harness := (true, "f50c177e1a79d70de64256e8b5819edb1abcba4149c5812461c0137ae27532da"), looks := false }, kinds := [], alts := [], laidByText := true, laidKinds := [.data], laidTests := true, laidLooks := .later }
def StateSumsCardSaid : Prop := Claim7.holds Tryd.pinned (.plain (OpenSpec.ofChange stateSumsSpec)) stateSumsCard

/-- THE TIED CARD OF 'scarablaw07.StateApart'. -/
def stateApartCard : Claim7 := { stood := { row := stateApartRow, standIns := [], harness := (true, "f50c177e1a79d70de64256e8b5819edb1abcba4149c5812461c0137ae27532da"), looks := false }, kinds := [], alts := [], laidByText := true, laidKinds := [.data], laidTests := true, laidLooks := .later }
def StateApartCardSaid : Prop := Claim7.holds Tryd.pinned (.plain (OpenSpec.ofChange stateApartSpec)) stateApartCard

/-- THE SECOND FORM's CARD OF 'scarablaw07.StateTexts'. -/
def stateTextsUptoCard : Claim7 := { stood := { row := stateTextsUptoRow, standIns := [], harness := (true, "f50c177e1a79d70de64256e8b5819edb1abcba4149c5812461c0137ae27532da"), looks := false }, kinds := [], alts := [], laidByText := true, laidKinds := [.data, .data, .data], laidTests := true, laidLooks := .later }
def StateTextsUptoCardSaid : Prop := Claim7.holds Tryd.pinned (.plain (OpenSpec.upto stateTextsSpec)) stateTextsUptoCard

/-- THE SECOND FORM's CARD OF 'scarablaw07.StateStarts'. -/
def stateStartsUptoCard : Claim7 := { stood := { row := stateStartsUptoRow, standIns := [], harness := (true, "f50c177e1a79d70de64256e8b5819edb1abcba4149c5812461c0137ae27532da"), looks := false }, kinds := [], alts := [], laidByText := true, laidKinds := [.data], laidTests := true, laidLooks := .later }
def StateStartsUptoCardSaid : Prop := Claim7.holds Tryd.pinned (.plain (OpenSpec.upto stateStartsSpec)) stateStartsUptoCard

/-- THE SECOND FORM's CARD OF 'scarablaw07.StateValids'. -/
def stateValidsUptoCard : Claim7 := { stood := { row := stateValidsUptoRow, standIns := [], harness := (true, "f50c177e1a79d70de64256e8b5819edb1abcba4149c5812461c0137ae27532da"), looks := false }, kinds := [], alts := [], laidByText := true, laidKinds := [.data], laidTests := true, laidLooks := .later }
def StateValidsUptoCardSaid : Prop := Claim7.holds Tryd.pinned (.plain (OpenSpec.upto stateValidsSpec)) stateValidsUptoCard

/-- THE SECOND FORM's CARD OF 'scarablaw07.StateSettles'. -/
def stateSettlesUptoCard : Claim7 := { stood := { row := stateSettlesUptoRow, standIns := [], harness := (true, "f50c177e1a79d70de64256e8b5819edb1abcba4149c5812461c0137ae27532da"), looks := false }, kinds := [], alts := [], laidByText := true, laidKinds := [.data], laidTests := true, laidLooks := .later }
def StateSettlesUptoCardSaid : Prop := Claim7.holds Tryd.pinned (.plain (OpenSpec.upto stateSettlesSpec)) stateSettlesUptoCard

/-- THE SECOND FORM's CARD OF 'scarablaw07.StateKeeps'. -/
def stateKeepsUptoCard : Claim7 := { stood := { row := stateKeepsUptoRow, standIns := [], harness := (true, "f50c177e1a79d70de64256e8b5819edb1abcba4149c5812461c0137ae27532da"), looks := false }, kinds := [], alts := [], laidByText := true, laidKinds := [.data], laidTests := true, laidLooks := .later }
def StateKeepsUptoCardSaid : Prop := Claim7.holds Tryd.pinned (.plain (OpenSpec.upto stateKeepsSpec)) stateKeepsUptoCard

/-- THE SECOND FORM's CARD OF 'scarablaw07.StateSums'. -/
def stateSumsUptoCard : Claim7 := { stood := { row := stateSumsUptoRow, standIns := [], harness := (true, "f50c177e1a79d70de64256e8b5819edb1abcba4149c5812461c0137ae27532da"), looks := false }, kinds := [], alts := [], laidByText := true, laidKinds := [.data], laidTests := true, laidLooks := .later }
def StateSumsUptoCardSaid : Prop := Claim7.holds Tryd.pinned (.plain (OpenSpec.upto stateSumsSpec)) stateSumsUptoCard

/-- THE SECOND FORM's CARD OF 'scarablaw07.StateApart'. -/
def stateApartUptoCard : Claim7 := { stood := { row := stateApartUptoRow, standIns := [], harness := (true, "f50c177e1a79d70de64256e8b5819edb1abcba4149c5812461c0137ae27532da"), looks := false }, kinds := [], alts := [], laidByText := true, laidKinds := [.data], laidTests := true, laidLooks := .later }
def StateApartUptoCardSaid : Prop := Claim7.holds Tryd.pinned (.plain (OpenSpec.upto stateApartSpec)) stateApartUptoCard
end Rows
end Go.Proofs.YtbcdeanmjhcgeaaDoor
