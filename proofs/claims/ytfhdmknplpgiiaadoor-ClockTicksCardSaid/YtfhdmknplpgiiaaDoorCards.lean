/-
  DERIVED. GIVEN WITH THE SEED: THE CARDS: each row of YtfhdmknplpgiiaaDoorRows.lean that lists a variable, with what it lists TIED to the program's text (the seventh form; the later family's looks); each row that meets fmt, with fmt's text TOLD by the authors' own Lean function (tested against real Go, not proved from fmt's source: count such statements apart). THE CARD IS WHAT COUNTS. Prove the row's statement (the work); the ties are given (YtfhdmknplpgiiaaDoorTie.lean); close each card by the builder's one call (the guide's Derived/Test/ToyasCard.lean, 'card_holds'). Laid BY PROGRAM, IN A SANDBOX (cutbox-door.mjs). By AI agents, Wed Nov 11 2026. No macro, syntax, notation, axiom, sorry.
-/
import Derived.Test.YtfhdmknplpgiiaaDoorRows
import GoSem.ClaimSeven
namespace Go.Proofs.YtfhdmknplpgiiaaDoor
namespace Rows

/-- THE TIED CARD OF 'scarablaw11.ClockLattice'. -/
def clockLatticeCard : Claim7 := { stood := { row := clockLatticeRow, standIns := [], harness := (true, "c297fab8535e8e60971786ed5fd0dabf8953e042f463c6e6ddd2dcc95f6548a8"), looks := true }, kinds := [], alts := [], laidByText := true, laidKinds := [.data, .data, .data], laidTests := true, laidLooks := .later }
def ClockLatticeCardSaid : Prop := Claim7.holds Tryd.pinned (.plain (OpenSpec.ofChange clockLatticeSpec)) clockLatticeCard

/-- THE TIED CARD OF 'scarablaw11.ClockOrder'. -/
def clockOrderCard : Claim7 := { stood := { row := clockOrderRow, standIns := [], harness := (true, "c297fab8535e8e60971786ed5fd0dabf8953e042f463c6e6ddd2dcc95f6548a8"), looks := true }, kinds := [], alts := [], laidByText := true, laidKinds := [.data, .data, .data], laidTests := true, laidLooks := .later }
def ClockOrderCardSaid : Prop := Claim7.holds Tryd.pinned (.plain (OpenSpec.ofChange clockOrderSpec)) clockOrderCard

/-- THE TIED CARD OF 'scarablaw11.ClockJoins'. -/
def clockJoinsCard : Claim7 := { stood := { row := clockJoinsRow, standIns := [], harness := (true, "c297fab8535e8e60971786ed5fd0dabf8953e042f463c6e6ddd2dcc95f6548a8"), looks := true }, kinds := [], alts := [], laidByText := true, laidKinds := [.data, .data, .data], laidTests := true, laidLooks := .later }
def ClockJoinsCardSaid : Prop := Claim7.holds Tryd.pinned (.plain (OpenSpec.ofChange clockJoinsSpec)) clockJoinsCard

/-- THE TIED CARD OF 'scarablaw11.ClockLeast'. -/
def clockLeastCard : Claim7 := { stood := { row := clockLeastRow, standIns := [], harness := (true, "c297fab8535e8e60971786ed5fd0dabf8953e042f463c6e6ddd2dcc95f6548a8"), looks := true }, kinds := [], alts := [], laidByText := true, laidKinds := [.data, .data, .data], laidTests := true, laidLooks := .later }
def ClockLeastCardSaid : Prop := Claim7.holds Tryd.pinned (.plain (OpenSpec.ofChange clockLeastSpec)) clockLeastCard

/-- THE TIED CARD OF 'scarablaw11.ClockTicks'. -/
def clockTicksCard : Claim7 := { stood := { row := clockTicksRow, standIns := [], harness := (true, "c297fab8535e8e60971786ed5fd0dabf8953e042f463c6e6ddd2dcc95f6548a8"), looks := true }, kinds := [], alts := [], laidByText := true, laidKinds := [.data, .data, .data, .data, .sentinel, .sentinel, .pinned], laidTests := true, laidLooks := .later }
def ClockTicksCardSaid : Prop := Claim7.holds Tryd.pinned (.plain (OpenSpec.ofChange clockTicksSpec)) clockTicksCard

/-- THE TIED CARD OF 'scarablaw11.ClockBack'. -/
def clockBackCard : Claim7 := { stood := { row := clockBackRow, standIns := [], harness := (true, "c297fab8535e8e60971786ed5fd0dabf8953e042f463c6e6ddd2dcc95f6548a8"), looks := true }, kinds := [], alts := [], laidByText := true, laidKinds := [.data, .data, .data, .data, .sentinel, .sentinel, .pinned], laidTests := true, laidLooks := .later }
def ClockBackCardSaid : Prop := Claim7.holds Tryd.pinned (.plain (OpenSpec.ofChange clockBackSpec)) clockBackCard

/-- THE SECOND FORM's CARD OF 'scarablaw11.ClockLattice'. -/
def clockLatticeUptoCard : Claim7 := { stood := { row := clockLatticeUptoRow, standIns := [], harness := (true, "c297fab8535e8e60971786ed5fd0dabf8953e042f463c6e6ddd2dcc95f6548a8"), looks := true }, kinds := [], alts := [], laidByText := true, laidKinds := [.data, .data, .data], laidTests := true, laidLooks := .later }
def ClockLatticeUptoCardSaid : Prop := Claim7.holds Tryd.pinned (.plain (OpenSpec.upto clockLatticeSpec)) clockLatticeUptoCard

/-- THE SECOND FORM's CARD OF 'scarablaw11.ClockOrder'. -/
def clockOrderUptoCard : Claim7 := { stood := { row := clockOrderUptoRow, standIns := [], harness := (true, "c297fab8535e8e60971786ed5fd0dabf8953e042f463c6e6ddd2dcc95f6548a8"), looks := true }, kinds := [], alts := [], laidByText := true, laidKinds := [.data, .data, .data], laidTests := true, laidLooks := .later }
def ClockOrderUptoCardSaid : Prop := Claim7.holds Tryd.pinned (.plain (OpenSpec.upto clockOrderSpec)) clockOrderUptoCard

/-- THE SECOND FORM's CARD OF 'scarablaw11.ClockJoins'. -/
def clockJoinsUptoCard : Claim7 := { stood := { row := clockJoinsUptoRow, standIns := [], harness := (true, "c297fab8535e8e60971786ed5fd0dabf8953e042f463c6e6ddd2dcc95f6548a8"), looks := true }, kinds := [], alts := [], laidByText := true, laidKinds := [.data, .data, .data], laidTests := true, laidLooks := .later }
def ClockJoinsUptoCardSaid : Prop := Claim7.holds Tryd.pinned (.plain (OpenSpec.upto clockJoinsSpec)) clockJoinsUptoCard

/-- THE SECOND FORM's CARD OF 'scarablaw11.ClockLeast'. -/
def clockLeastUptoCard : Claim7 := { stood := { row := clockLeastUptoRow, standIns := [], harness := (true, "c297fab8535e8e60971786ed5fd0dabf8953e042f463c6e6ddd2dcc95f6548a8"), looks := true }, kinds := [], alts := [], laidByText := true, laidKinds := [.data, .data, .data], laidTests := true, laidLooks := .later }
def ClockLeastUptoCardSaid : Prop := Claim7.holds Tryd.pinned (.plain (OpenSpec.upto clockLeastSpec)) clockLeastUptoCard

/-- THE SECOND FORM's CARD OF 'scarablaw11.ClockTicks'. -/
def clockTicksUptoCard : Claim7 := { stood := { row := clockTicksUptoRow, standIns := [], harness := (true, "c297fab8535e8e60971786ed5fd0dabf8953e042f463c6e6ddd2dcc95f6548a8"), looks := true }, kinds := [], alts := [], laidByText := true, laidKinds := [.data, .data, .data, .data, .sentinel, .sentinel, .pinned], laidTests := true, laidLooks := .later }
def ClockTicksUptoCardSaid : Prop := Claim7.holds Tryd.pinned (.plain (OpenSpec.upto clockTicksSpec)) clockTicksUptoCard

/-- THE SECOND FORM's CARD OF 'scarablaw11.ClockBack'. -/
def clockBackUptoCard : Claim7 := { stood := { row := clockBackUptoRow, standIns := [], harness := (true, "c297fab8535e8e60971786ed5fd0dabf8953e042f463c6e6ddd2dcc95f6548a8"), looks := true }, kinds := [], alts := [], laidByText := true, laidKinds := [.data, .data, .data, .data, .sentinel, .sentinel, .pinned], laidTests := true, laidLooks := .later }
def ClockBackUptoCardSaid : Prop := Claim7.holds Tryd.pinned (.plain (OpenSpec.upto clockBackSpec)) clockBackUptoCard
end Rows
end Go.Proofs.YtfhdmknplpgiiaaDoor
