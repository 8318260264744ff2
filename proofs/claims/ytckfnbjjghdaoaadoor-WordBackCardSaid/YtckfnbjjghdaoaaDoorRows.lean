/-
  NARROWER THAN 'FOR EVERY INPUT', by the rows' own cells (each row's printed sentence says how): WordWide: laid · WordRing: laid · WordQuotient: laid · WordTurns: laid · WordFits: laid · WordConverts: laid · WordPowers: laid · WordApplies: laid · WordNames: laid · WordOver: laid · WordExact: laid · WordDivides: laid · WordBack: laid · WordTexts: laid.
  DERIVED. THE GIVEN ROWS OF THIS SEAT. 14 by the template 'for every input the law returns true; each argument reads behind the call as it read before'; 0 by the template 'total and deterministic' (their statements: YtckfnbjjghdaoaaDoorTotals.lean).
  GIVEN WITH THE SEED: the statements are not yours to turn. If you find one false, say at which input.
  Laid BY PROGRAM, IN A SANDBOX (cutbox-rows.mjs): the forced cells as the released guide's own fill.sh prints them over the translation df64c67f39e1b35a… (all of the seat's roots in one cut). By AI agents, Wed Nov 11 2026. No macro, syntax, notation, axiom, sorry.
-/
import Derived.Test.YtckfnbjjghdaoaaDoorChecked
import GoSem.Claim
import GoSem.ClaimJoined
import GoSem.ClaimMapViews
import Derived.JoinedTies
import Derived.KernelRfl
namespace Go.Proofs.YtckfnbjjghdaoaaDoor
/- THE CELL 'sum', in the pinned program and in every row, IS THE sha256 OF THE DUMP (.gsa) THAT YtckfnbjjghdaoaaDoorProg.lean LOADS. Nothing in Lean hashes anything: it is a label: what it is worth is what the hold of that sum in a sandbox is worth. -/
noncomputable def Tryd.pinned : Pinned := { name := "ytckfnbjjghdaoaadoor", sum := "df64c67f39e1b35a21292580773e29ecadbbc8517a8536b69847c31a69b39efc", checked := Tryd.checked }
namespace Rows
def none {H : Type} : Left H := { results := [], args := [] }

/- WHAT THE LISTED PACKAGE-LEVEL VARIABLES READ AS WHEN THE CALL BEGINS. Each datum BY PROGRAM (the guide's laid-datum.mjs) off the statement by which the dump's own 'gosem.cut.vars' lays the variable. In a bare row this is a premise. The card (YtckfnbjjghdaoaaDoorCards.lean) ties it to the program's text. -/
def laid_math_bits_deBruijn64tab {H : Type} : DataW H := .agg [.lit (.int .u8 0), .lit (.int .u8 1), .lit (.int .u8 56), .lit (.int .u8 2), .lit (.int .u8 57), .lit (.int .u8 49), .lit (.int .u8 28), .lit (.int .u8 3), .lit (.int .u8 61), .lit (.int .u8 58), .lit (.int .u8 42), .lit (.int .u8 50), .lit (.int .u8 38), .lit (.int .u8 29), .lit (.int .u8 17), .lit (.int .u8 4), .lit (.int .u8 62), .lit (.int .u8 47), .lit (.int .u8 59), .lit (.int .u8 36), .lit (.int .u8 45), .lit (.int .u8 43), .lit (.int .u8 51), .lit (.int .u8 22), .lit (.int .u8 53), .lit (.int .u8 39), .lit (.int .u8 33), .lit (.int .u8 30), .lit (.int .u8 24), .lit (.int .u8 18), .lit (.int .u8 12), .lit (.int .u8 5), .lit (.int .u8 63), .lit (.int .u8 55), .lit (.int .u8 48), .lit (.int .u8 27), .lit (.int .u8 60), .lit (.int .u8 41), .lit (.int .u8 37), .lit (.int .u8 16), .lit (.int .u8 46), .lit (.int .u8 35), .lit (.int .u8 44), .lit (.int .u8 21), .lit (.int .u8 52), .lit (.int .u8 32), .lit (.int .u8 23), .lit (.int .u8 11), .lit (.int .u8 54), .lit (.int .u8 26), .lit (.int .u8 40), .lit (.int .u8 15), .lit (.int .u8 34), .lit (.int .u8 20), .lit (.int .u8 31), .lit (.int .u8 10), .lit (.int .u8 25), .lit (.int .u8 14), .lit (.int .u8 19), .lit (.int .u8 9), .lit (.int .u8 13), .lit (.int .u8 8), .lit (.int .u8 7), .lit (.int .u8 6)]
def laid_math_bits_deBruijn32tab {H : Type} : DataW H := .agg [.lit (.int .u8 0), .lit (.int .u8 1), .lit (.int .u8 28), .lit (.int .u8 2), .lit (.int .u8 29), .lit (.int .u8 14), .lit (.int .u8 24), .lit (.int .u8 3), .lit (.int .u8 30), .lit (.int .u8 22), .lit (.int .u8 20), .lit (.int .u8 15), .lit (.int .u8 25), .lit (.int .u8 17), .lit (.int .u8 4), .lit (.int .u8 8), .lit (.int .u8 31), .lit (.int .u8 27), .lit (.int .u8 13), .lit (.int .u8 23), .lit (.int .u8 21), .lit (.int .u8 19), .lit (.int .u8 16), .lit (.int .u8 7), .lit (.int .u8 26), .lit (.int .u8 12), .lit (.int .u8 18), .lit (.int .u8 6), .lit (.int .u8 11), .lit (.int .u8 5), .lit (.int .u8 10), .lit (.int .u8 9)]
def laid_internal_strconv_uint64pow10 {H : Type} : DataW H := .agg [.lit (.int .u64 1), .lit (.int .u64 10), .lit (.int .u64 100), .lit (.int .u64 1000), .lit (.int .u64 10000), .lit (.int .u64 100000), .lit (.int .u64 1000000), .lit (.int .u64 10000000), .lit (.int .u64 100000000), .lit (.int .u64 1000000000), .lit (.int .u64 10000000000), .lit (.int .u64 100000000000), .lit (.int .u64 1000000000000), .lit (.int .u64 10000000000000), .lit (.int .u64 100000000000000), .lit (.int .u64 1000000000000000), .lit (.int .u64 10000000000000000), .lit (.int .u64 100000000000000000), .lit (.int .u64 1000000000000000000), .lit (.int .u64 10000000000000000000)]
def laid_strconv_ErrRange {H : Type} : DataW H := .iface "*errors.errorString" (.ptr (.agg [.lit (.string [118, 97, 108, 117, 101, 32, 111, 117, 116, 32, 111, 102, 32, 114, 97, 110, 103, 101])]))
def laid_strconv_ErrSyntax {H : Type} : DataW H := .iface "*errors.errorString" (.ptr (.agg [.lit (.string [105, 110, 118, 97, 108, 105, 100, 32, 115, 121, 110, 116, 97, 120])]))

/-- 'scarablaw02.WordWide': WHATEVER THE INPUT: true; the input reads as it did. -/
def wordWideSpec : ChangeSpec := { name := "wordWide", fn := fun _ => fun
  | [d1, d2] => { results := [.lit (.bool true)], args := [d1, d2] }
  | _ => none }
def wordWideRow : OpenClaim := { program := "ytckfnbjjghdaoaadoor", sum := "df64c67f39e1b35a21292580773e29ecadbbc8517a8536b69847c31a69b39efc", func := "scarab/scarablaw02.WordWide", spec := "wordWide", named := ["math/bits.deBruijn64tab"], apart := false, laid := [("math/bits.deBruijn64tab", laid_math_bits_deBruijn64tab)] }
def WordWideSaid : Prop := wordWideRow.holds Tryd.pinned (OpenSpec.ofChange wordWideSpec)

/-- ITS FALSE NEIGHBOUR: 'it returns false'. Refute it at one input. -/
def wordWideWrong : ChangeSpec := { name := "wordWide", fn := fun _ => fun
  | [d1, d2] => { results := [.lit (.bool false)], args := [d1, d2] }
  | _ => none }
def WordWideWrongFalsely : Prop := wordWideRow.holds Tryd.pinned (OpenSpec.ofChange wordWideWrong)

/-- 'scarablaw02.WordRing': WHATEVER THE INPUT: true; the input reads as it did. -/
def wordRingSpec : ChangeSpec := { name := "wordRing", fn := fun _ => fun
  | [d1, d2, d3] => { results := [.lit (.bool true)], args := [d1, d2, d3] }
  | _ => none }
def wordRingRow : OpenClaim := { program := "ytckfnbjjghdaoaadoor", sum := "df64c67f39e1b35a21292580773e29ecadbbc8517a8536b69847c31a69b39efc", func := "scarab/scarablaw02.WordRing", spec := "wordRing", named := ["math/bits.deBruijn64tab"], apart := false, laid := [("math/bits.deBruijn64tab", laid_math_bits_deBruijn64tab)] }
def WordRingSaid : Prop := wordRingRow.holds Tryd.pinned (OpenSpec.ofChange wordRingSpec)

/-- ITS FALSE NEIGHBOUR: 'it returns false'. Refute it at one input. -/
def wordRingWrong : ChangeSpec := { name := "wordRing", fn := fun _ => fun
  | [d1, d2, d3] => { results := [.lit (.bool false)], args := [d1, d2, d3] }
  | _ => none }
def WordRingWrongFalsely : Prop := wordRingRow.holds Tryd.pinned (OpenSpec.ofChange wordRingWrong)

/-- 'scarablaw02.WordQuotient': WHATEVER THE INPUT: true; the input reads as it did. -/
def wordQuotientSpec : ChangeSpec := { name := "wordQuotient", fn := fun _ => fun
  | [d1, d2] => { results := [.lit (.bool true)], args := [d1, d2] }
  | _ => none }
def wordQuotientRow : OpenClaim := { program := "ytckfnbjjghdaoaadoor", sum := "df64c67f39e1b35a21292580773e29ecadbbc8517a8536b69847c31a69b39efc", func := "scarab/scarablaw02.WordQuotient", spec := "wordQuotient", named := ["math/bits.deBruijn64tab"], apart := false, laid := [("math/bits.deBruijn64tab", laid_math_bits_deBruijn64tab)] }
def WordQuotientSaid : Prop := wordQuotientRow.holds Tryd.pinned (OpenSpec.ofChange wordQuotientSpec)

/-- ITS FALSE NEIGHBOUR: 'it returns false'. Refute it at one input. -/
def wordQuotientWrong : ChangeSpec := { name := "wordQuotient", fn := fun _ => fun
  | [d1, d2] => { results := [.lit (.bool false)], args := [d1, d2] }
  | _ => none }
def WordQuotientWrongFalsely : Prop := wordQuotientRow.holds Tryd.pinned (OpenSpec.ofChange wordQuotientWrong)

/-- 'scarablaw02.WordTurns': WHATEVER THE INPUT: true; the input reads as it did. -/
def wordTurnsSpec : ChangeSpec := { name := "wordTurns", fn := fun _ => fun
  | [d1, d2] => { results := [.lit (.bool true)], args := [d1, d2] }
  | _ => none }
def wordTurnsRow : OpenClaim := { program := "ytckfnbjjghdaoaadoor", sum := "df64c67f39e1b35a21292580773e29ecadbbc8517a8536b69847c31a69b39efc", func := "scarab/scarablaw02.WordTurns", spec := "wordTurns", named := ["math/bits.deBruijn64tab"], apart := false, laid := [("math/bits.deBruijn64tab", laid_math_bits_deBruijn64tab)] }
def WordTurnsSaid : Prop := wordTurnsRow.holds Tryd.pinned (OpenSpec.ofChange wordTurnsSpec)

/-- ITS FALSE NEIGHBOUR: 'it returns false'. Refute it at one input. -/
def wordTurnsWrong : ChangeSpec := { name := "wordTurns", fn := fun _ => fun
  | [d1, d2] => { results := [.lit (.bool false)], args := [d1, d2] }
  | _ => none }
def WordTurnsWrongFalsely : Prop := wordTurnsRow.holds Tryd.pinned (OpenSpec.ofChange wordTurnsWrong)

/-- 'scarablaw02.WordFits': WHATEVER THE INPUT: true; the input reads as it did. -/
def wordFitsSpec : ChangeSpec := { name := "wordFits", fn := fun _ => fun
  | [d1, d2] => { results := [.lit (.bool true)], args := [d1, d2] }
  | _ => none }
def wordFitsRow : OpenClaim := { program := "ytckfnbjjghdaoaadoor", sum := "df64c67f39e1b35a21292580773e29ecadbbc8517a8536b69847c31a69b39efc", func := "scarab/scarablaw02.WordFits", spec := "wordFits", named := ["math/bits.deBruijn64tab"], apart := false, laid := [("math/bits.deBruijn64tab", laid_math_bits_deBruijn64tab)] }
def WordFitsSaid : Prop := wordFitsRow.holds Tryd.pinned (OpenSpec.ofChange wordFitsSpec)

/-- ITS FALSE NEIGHBOUR: 'it returns false'. Refute it at one input. -/
def wordFitsWrong : ChangeSpec := { name := "wordFits", fn := fun _ => fun
  | [d1, d2] => { results := [.lit (.bool false)], args := [d1, d2] }
  | _ => none }
def WordFitsWrongFalsely : Prop := wordFitsRow.holds Tryd.pinned (OpenSpec.ofChange wordFitsWrong)

/-- 'scarablaw02.WordConverts': WHATEVER THE INPUT: true; the input reads as it did. -/
def wordConvertsSpec : ChangeSpec := { name := "wordConverts", fn := fun _ => fun
  | [d1, d2, d3] => { results := [.lit (.bool true)], args := [d1, d2, d3] }
  | _ => none }
def wordConvertsRow : OpenClaim := { program := "ytckfnbjjghdaoaadoor", sum := "df64c67f39e1b35a21292580773e29ecadbbc8517a8536b69847c31a69b39efc", func := "scarab/scarablaw02.WordConverts", spec := "wordConverts", named := ["math/bits.deBruijn64tab"], apart := false, laid := [("math/bits.deBruijn64tab", laid_math_bits_deBruijn64tab)] }
def WordConvertsSaid : Prop := wordConvertsRow.holds Tryd.pinned (OpenSpec.ofChange wordConvertsSpec)

/-- ITS FALSE NEIGHBOUR: 'it returns false'. Refute it at one input. -/
def wordConvertsWrong : ChangeSpec := { name := "wordConverts", fn := fun _ => fun
  | [d1, d2, d3] => { results := [.lit (.bool false)], args := [d1, d2, d3] }
  | _ => none }
def WordConvertsWrongFalsely : Prop := wordConvertsRow.holds Tryd.pinned (OpenSpec.ofChange wordConvertsWrong)

/-- 'scarablaw02.WordPowers': WHATEVER THE INPUT: true; the input reads as it did. -/
def wordPowersSpec : ChangeSpec := { name := "wordPowers", fn := fun _ => fun
  | [d1, d2] => { results := [.lit (.bool true)], args := [d1, d2] }
  | _ => none }
def wordPowersRow : OpenClaim := { program := "ytckfnbjjghdaoaadoor", sum := "df64c67f39e1b35a21292580773e29ecadbbc8517a8536b69847c31a69b39efc", func := "scarab/scarablaw02.WordPowers", spec := "wordPowers", named := ["math/bits.deBruijn64tab"], apart := false, laid := [("math/bits.deBruijn64tab", laid_math_bits_deBruijn64tab)] }
def WordPowersSaid : Prop := wordPowersRow.holds Tryd.pinned (OpenSpec.ofChange wordPowersSpec)

/-- ITS FALSE NEIGHBOUR: 'it returns false'. Refute it at one input. -/
def wordPowersWrong : ChangeSpec := { name := "wordPowers", fn := fun _ => fun
  | [d1, d2] => { results := [.lit (.bool false)], args := [d1, d2] }
  | _ => none }
def WordPowersWrongFalsely : Prop := wordPowersRow.holds Tryd.pinned (OpenSpec.ofChange wordPowersWrong)

/-- 'scarablaw02.WordApplies': WHATEVER THE INPUT: true; the input reads as it did. -/
def wordAppliesSpec : ChangeSpec := { name := "wordApplies", fn := fun _ => fun
  | [d1, d2, d3] => { results := [.lit (.bool true)], args := [d1, d2, d3] }
  | _ => none }
def wordAppliesRow : OpenClaim := { program := "ytckfnbjjghdaoaadoor", sum := "df64c67f39e1b35a21292580773e29ecadbbc8517a8536b69847c31a69b39efc", func := "scarab/scarablaw02.WordApplies", spec := "wordApplies", named := ["math/bits.deBruijn64tab"], apart := false, laid := [("math/bits.deBruijn64tab", laid_math_bits_deBruijn64tab)] }
def WordAppliesSaid : Prop := wordAppliesRow.holds Tryd.pinned (OpenSpec.ofChange wordAppliesSpec)

/-- ITS FALSE NEIGHBOUR: 'it returns false'. Refute it at one input. -/
def wordAppliesWrong : ChangeSpec := { name := "wordApplies", fn := fun _ => fun
  | [d1, d2, d3] => { results := [.lit (.bool false)], args := [d1, d2, d3] }
  | _ => none }
def WordAppliesWrongFalsely : Prop := wordAppliesRow.holds Tryd.pinned (OpenSpec.ofChange wordAppliesWrong)

/-- 'scarablaw02.WordNames': WHATEVER THE INPUT: true; the input reads as it did. -/
def wordNamesSpec : ChangeSpec := { name := "wordNames", fn := fun _ => fun
  | [d] => { results := [.lit (.bool true)], args := [d] }
  | _ => none }
def wordNamesRow : OpenClaim := { program := "ytckfnbjjghdaoaadoor", sum := "df64c67f39e1b35a21292580773e29ecadbbc8517a8536b69847c31a69b39efc", func := "scarab/scarablaw02.WordNames", spec := "wordNames", named := ["math/bits.deBruijn64tab"], apart := false, laid := [("math/bits.deBruijn64tab", laid_math_bits_deBruijn64tab)] }
def WordNamesSaid : Prop := wordNamesRow.holds Tryd.pinned (OpenSpec.ofChange wordNamesSpec)

/-- ITS FALSE NEIGHBOUR: 'it returns false'. Refute it at one input. -/
def wordNamesWrong : ChangeSpec := { name := "wordNames", fn := fun _ => fun
  | [d] => { results := [.lit (.bool false)], args := [d] }
  | _ => none }
def WordNamesWrongFalsely : Prop := wordNamesRow.holds Tryd.pinned (OpenSpec.ofChange wordNamesWrong)

/-- 'scarablaw02.WordOver': WHATEVER THE INPUT: true; the input reads as it did. -/
def wordOverSpec : ChangeSpec := { name := "wordOver", fn := fun _ => fun
  | [d1, d2, d3] => { results := [.lit (.bool true)], args := [d1, d2, d3] }
  | _ => none }
def wordOverRow : OpenClaim := { program := "ytckfnbjjghdaoaadoor", sum := "df64c67f39e1b35a21292580773e29ecadbbc8517a8536b69847c31a69b39efc", func := "scarab/scarablaw02.WordOver", spec := "wordOver", named := ["math/bits.deBruijn64tab"], apart := false, laid := [("math/bits.deBruijn64tab", laid_math_bits_deBruijn64tab)] }
def WordOverSaid : Prop := wordOverRow.holds Tryd.pinned (OpenSpec.ofChange wordOverSpec)

/-- ITS FALSE NEIGHBOUR: 'it returns false'. Refute it at one input. -/
def wordOverWrong : ChangeSpec := { name := "wordOver", fn := fun _ => fun
  | [d1, d2, d3] => { results := [.lit (.bool false)], args := [d1, d2, d3] }
  | _ => none }
def WordOverWrongFalsely : Prop := wordOverRow.holds Tryd.pinned (OpenSpec.ofChange wordOverWrong)

/-- 'scarablaw02.WordExact': WHATEVER THE INPUT: true; the input reads as it did. -/
def wordExactSpec : ChangeSpec := { name := "wordExact", fn := fun _ => fun
  | [d1, d2] => { results := [.lit (.bool true)], args := [d1, d2] }
  | _ => none }
def wordExactRow : OpenClaim := { program := "ytckfnbjjghdaoaadoor", sum := "df64c67f39e1b35a21292580773e29ecadbbc8517a8536b69847c31a69b39efc", func := "scarab/scarablaw02.WordExact", spec := "wordExact", named := ["math/bits.deBruijn64tab"], apart := false, laid := [("math/bits.deBruijn64tab", laid_math_bits_deBruijn64tab)] }
def WordExactSaid : Prop := wordExactRow.holds Tryd.pinned (OpenSpec.ofChange wordExactSpec)

/-- ITS FALSE NEIGHBOUR: 'it returns false'. Refute it at one input. -/
def wordExactWrong : ChangeSpec := { name := "wordExact", fn := fun _ => fun
  | [d1, d2] => { results := [.lit (.bool false)], args := [d1, d2] }
  | _ => none }
def WordExactWrongFalsely : Prop := wordExactRow.holds Tryd.pinned (OpenSpec.ofChange wordExactWrong)

/-- 'scarablaw02.WordDivides': WHATEVER THE INPUT: true; the input reads as it did. -/
def wordDividesSpec : ChangeSpec := { name := "wordDivides", fn := fun _ => fun
  | [d1, d2, d3] => { results := [.lit (.bool true)], args := [d1, d2, d3] }
  | _ => none }
def wordDividesRow : OpenClaim := { program := "ytckfnbjjghdaoaadoor", sum := "df64c67f39e1b35a21292580773e29ecadbbc8517a8536b69847c31a69b39efc", func := "scarab/scarablaw02.WordDivides", spec := "wordDivides", named := ["math/bits.divideError", "math/bits.overflowError", "math/bits.deBruijn64tab"], apart := false, laid := [("math/bits.deBruijn64tab", laid_math_bits_deBruijn64tab)] }
def WordDividesSaid : Prop := wordDividesRow.holds Tryd.pinned (OpenSpec.ofChange wordDividesSpec)

/-- ITS FALSE NEIGHBOUR: 'it returns false'. Refute it at one input. -/
def wordDividesWrong : ChangeSpec := { name := "wordDivides", fn := fun _ => fun
  | [d1, d2, d3] => { results := [.lit (.bool false)], args := [d1, d2, d3] }
  | _ => none }
def WordDividesWrongFalsely : Prop := wordDividesRow.holds Tryd.pinned (OpenSpec.ofChange wordDividesWrong)

/-- 'scarablaw02.WordBack': WHATEVER THE INPUT: true; the input reads as it did. -/
def wordBackSpec : ChangeSpec := { name := "wordBack", fn := fun _ => fun
  | [d1, d2] => { results := [.lit (.bool true)], args := [d1, d2] }
  | _ => none }
def wordBackRow : OpenClaim := { program := "ytckfnbjjghdaoaadoor", sum := "df64c67f39e1b35a21292580773e29ecadbbc8517a8536b69847c31a69b39efc", func := "scarab/scarablaw02.WordBack", spec := "wordBack", named := ["math/bits.deBruijn64tab", "math/bits.divideError", "math/bits.overflowError"], apart := false, laid := [("math/bits.deBruijn64tab", laid_math_bits_deBruijn64tab)] }
def WordBackSaid : Prop := wordBackRow.holds Tryd.pinned (OpenSpec.ofChange wordBackSpec)

/-- ITS FALSE NEIGHBOUR: 'it returns false'. Refute it at one input. -/
def wordBackWrong : ChangeSpec := { name := "wordBack", fn := fun _ => fun
  | [d1, d2] => { results := [.lit (.bool false)], args := [d1, d2] }
  | _ => none }
def WordBackWrongFalsely : Prop := wordBackRow.holds Tryd.pinned (OpenSpec.ofChange wordBackWrong)

/-- 'scarablaw02.WordTexts': WHATEVER THE INPUT: true; the input reads as it did. -/
def wordTextsSpec : ChangeSpec := { name := "wordTexts", fn := fun _ => fun
  | [d] => { results := [.lit (.bool true)], args := [d] }
  | _ => none }
def wordTextsRow : OpenClaim := { program := "ytckfnbjjghdaoaadoor", sum := "df64c67f39e1b35a21292580773e29ecadbbc8517a8536b69847c31a69b39efc", func := "scarab/scarablaw02.WordTexts", spec := "wordTexts", named := ["internal/strconv.uint64pow10", "math/bits.deBruijn32tab", "math/bits.deBruijn64tab", "strconv.ErrSyntax", "strconv.ErrRange"], apart := false, laid := [("math/bits.deBruijn32tab", laid_math_bits_deBruijn32tab), ("math/bits.deBruijn64tab", laid_math_bits_deBruijn64tab), ("internal/strconv.uint64pow10", laid_internal_strconv_uint64pow10), ("strconv.ErrRange", laid_strconv_ErrRange), ("strconv.ErrSyntax", laid_strconv_ErrSyntax)] }
def WordTextsSaid : Prop := wordTextsRow.holds Tryd.pinned (OpenSpec.ofChange wordTextsSpec)

/-- ITS FALSE NEIGHBOUR: 'it returns false'. Refute it at one input. -/
def wordTextsWrong : ChangeSpec := { name := "wordTexts", fn := fun _ => fun
  | [d] => { results := [.lit (.bool false)], args := [d] }
  | _ => none }
def WordTextsWrongFalsely : Prop := wordTextsRow.holds Tryd.pinned (OpenSpec.ofChange wordTextsWrong)

/- THE SECOND FORM. 'bulk': how many values and letters a reading holds, each counted each time it is reached (what is shared counts as often as it is met; a slice's spare places count too). A statement '..UptoSaid' is the law's where the arguments, and the package variables that the reading takes, are together of bulk at most 1048576: NARROWER than '..Said'. Prove '..Said' where nothing that the law and all that it calls make is longer than what came in: it says more and counts as full. Else prove '..UptoSaid'. A law counts once. -/
mutual
def uptoBulk {H : Type} : DataW H → Nat
  | .lit (.string bytes) => bytes.length + 1
  | .lit _ => 1
  | .nil => 1
  | .ptr d => uptoBulk d + 1
  | .slice elems spare => uptoBulkAll elems + uptoBulkAll spare + 1
  | .agg parts => uptoBulkAll parts + 1
  | .iface _ d => uptoBulk d + 1
  | .map entries => uptoBulkEntries entries + 1
  | .held _ => 1
def uptoBulkAll {H : Type} : List (DataW H) → Nat
  | [] => 0
  | d :: r => uptoBulk d + uptoBulkAll r
def uptoBulkEntries {H : Type} : List (Lit × DataW H) → Nat
  | [] => 0
  | x :: r => uptoBulkEntry x + uptoBulkEntries r
def uptoBulkEntry {H : Type} : Lit × DataW H → Nat
  | (.string bytes, d) => bytes.length + uptoBulk d + 1
  | (_, d) => uptoBulk d + 1
 end
def uptoSmall : (H : Type) → List (DataW H) → Bool := fun _ ds => decide (uptoBulkAll ds ≤ 1048576)
def OpenSpec.upto (s : _root_.Go.ChangeSpec) : _root_.Go.OpenSpec := { _root_.Go.OpenSpec.ofChange s with cond := some uptoSmall }

/-- 'scarablaw02.WordWide', WHERE WHAT IT READS IS OF BULK AT MOST 1048576: true; the input reads as it did. -/
def wordWideUptoRow : OpenClaim := { program := "ytckfnbjjghdaoaadoor", sum := "df64c67f39e1b35a21292580773e29ecadbbc8517a8536b69847c31a69b39efc", func := "scarab/scarablaw02.WordWide", spec := "wordWide", named := ["math/bits.deBruijn64tab"], apart := false, laid := [("math/bits.deBruijn64tab", laid_math_bits_deBruijn64tab)], narrowed := true }
def WordWideUptoSaid : Prop := wordWideUptoRow.holds Tryd.pinned (OpenSpec.upto wordWideSpec)

/-- 'scarablaw02.WordRing', WHERE WHAT IT READS IS OF BULK AT MOST 1048576: true; the input reads as it did. -/
def wordRingUptoRow : OpenClaim := { program := "ytckfnbjjghdaoaadoor", sum := "df64c67f39e1b35a21292580773e29ecadbbc8517a8536b69847c31a69b39efc", func := "scarab/scarablaw02.WordRing", spec := "wordRing", named := ["math/bits.deBruijn64tab"], apart := false, laid := [("math/bits.deBruijn64tab", laid_math_bits_deBruijn64tab)], narrowed := true }
def WordRingUptoSaid : Prop := wordRingUptoRow.holds Tryd.pinned (OpenSpec.upto wordRingSpec)

/-- 'scarablaw02.WordQuotient', WHERE WHAT IT READS IS OF BULK AT MOST 1048576: true; the input reads as it did. -/
def wordQuotientUptoRow : OpenClaim := { program := "ytckfnbjjghdaoaadoor", sum := "df64c67f39e1b35a21292580773e29ecadbbc8517a8536b69847c31a69b39efc", func := "scarab/scarablaw02.WordQuotient", spec := "wordQuotient", named := ["math/bits.deBruijn64tab"], apart := false, laid := [("math/bits.deBruijn64tab", laid_math_bits_deBruijn64tab)], narrowed := true }
def WordQuotientUptoSaid : Prop := wordQuotientUptoRow.holds Tryd.pinned (OpenSpec.upto wordQuotientSpec)

/-- 'scarablaw02.WordTurns', WHERE WHAT IT READS IS OF BULK AT MOST 1048576: true; the input reads as it did. -/
def wordTurnsUptoRow : OpenClaim := { program := "ytckfnbjjghdaoaadoor", sum := "df64c67f39e1b35a21292580773e29ecadbbc8517a8536b69847c31a69b39efc", func := "scarab/scarablaw02.WordTurns", spec := "wordTurns", named := ["math/bits.deBruijn64tab"], apart := false, laid := [("math/bits.deBruijn64tab", laid_math_bits_deBruijn64tab)], narrowed := true }
def WordTurnsUptoSaid : Prop := wordTurnsUptoRow.holds Tryd.pinned (OpenSpec.upto wordTurnsSpec)

/-- 'scarablaw02.WordFits', WHERE WHAT IT READS IS OF BULK AT MOST 1048576: true; the input reads as it did. -/
def wordFitsUptoRow : OpenClaim := { program := "ytckfnbjjghdaoaadoor", sum := "df64c67f39e1b35a21292580773e29ecadbbc8517a8536b69847c31a69b39efc", func := "scarab/scarablaw02.WordFits", spec := "wordFits", named := ["math/bits.deBruijn64tab"], apart := false, laid := [("math/bits.deBruijn64tab", laid_math_bits_deBruijn64tab)], narrowed := true }
def WordFitsUptoSaid : Prop := wordFitsUptoRow.holds Tryd.pinned (OpenSpec.upto wordFitsSpec)

/-- 'scarablaw02.WordConverts', WHERE WHAT IT READS IS OF BULK AT MOST 1048576: true; the input reads as it did. -/
def wordConvertsUptoRow : OpenClaim := { program := "ytckfnbjjghdaoaadoor", sum := "df64c67f39e1b35a21292580773e29ecadbbc8517a8536b69847c31a69b39efc", func := "scarab/scarablaw02.WordConverts", spec := "wordConverts", named := ["math/bits.deBruijn64tab"], apart := false, laid := [("math/bits.deBruijn64tab", laid_math_bits_deBruijn64tab)], narrowed := true }
def WordConvertsUptoSaid : Prop := wordConvertsUptoRow.holds Tryd.pinned (OpenSpec.upto wordConvertsSpec)

/-- 'scarablaw02.WordPowers', WHERE WHAT IT READS IS OF BULK AT MOST 1048576: true; the input reads as it did. -/
def wordPowersUptoRow : OpenClaim := { program := "ytckfnbjjghdaoaadoor", sum := "df64c67f39e1b35a21292580773e29ecadbbc8517a8536b69847c31a69b39efc", func := "scarab/scarablaw02.WordPowers", spec := "wordPowers", named := ["math/bits.deBruijn64tab"], apart := false, laid := [("math/bits.deBruijn64tab", laid_math_bits_deBruijn64tab)], narrowed := true }
def WordPowersUptoSaid : Prop := wordPowersUptoRow.holds Tryd.pinned (OpenSpec.upto wordPowersSpec)

/-- 'scarablaw02.WordApplies', WHERE WHAT IT READS IS OF BULK AT MOST 1048576: true; the input reads as it did. -/
def wordAppliesUptoRow : OpenClaim := { program := "ytckfnbjjghdaoaadoor", sum := "df64c67f39e1b35a21292580773e29ecadbbc8517a8536b69847c31a69b39efc", func := "scarab/scarablaw02.WordApplies", spec := "wordApplies", named := ["math/bits.deBruijn64tab"], apart := false, laid := [("math/bits.deBruijn64tab", laid_math_bits_deBruijn64tab)], narrowed := true }
def WordAppliesUptoSaid : Prop := wordAppliesUptoRow.holds Tryd.pinned (OpenSpec.upto wordAppliesSpec)

/-- 'scarablaw02.WordNames', WHERE WHAT IT READS IS OF BULK AT MOST 1048576: true; the input reads as it did. -/
def wordNamesUptoRow : OpenClaim := { program := "ytckfnbjjghdaoaadoor", sum := "df64c67f39e1b35a21292580773e29ecadbbc8517a8536b69847c31a69b39efc", func := "scarab/scarablaw02.WordNames", spec := "wordNames", named := ["math/bits.deBruijn64tab"], apart := false, laid := [("math/bits.deBruijn64tab", laid_math_bits_deBruijn64tab)], narrowed := true }
def WordNamesUptoSaid : Prop := wordNamesUptoRow.holds Tryd.pinned (OpenSpec.upto wordNamesSpec)

/-- 'scarablaw02.WordOver', WHERE WHAT IT READS IS OF BULK AT MOST 1048576: true; the input reads as it did. -/
def wordOverUptoRow : OpenClaim := { program := "ytckfnbjjghdaoaadoor", sum := "df64c67f39e1b35a21292580773e29ecadbbc8517a8536b69847c31a69b39efc", func := "scarab/scarablaw02.WordOver", spec := "wordOver", named := ["math/bits.deBruijn64tab"], apart := false, laid := [("math/bits.deBruijn64tab", laid_math_bits_deBruijn64tab)], narrowed := true }
def WordOverUptoSaid : Prop := wordOverUptoRow.holds Tryd.pinned (OpenSpec.upto wordOverSpec)

/-- 'scarablaw02.WordExact', WHERE WHAT IT READS IS OF BULK AT MOST 1048576: true; the input reads as it did. -/
def wordExactUptoRow : OpenClaim := { program := "ytckfnbjjghdaoaadoor", sum := "df64c67f39e1b35a21292580773e29ecadbbc8517a8536b69847c31a69b39efc", func := "scarab/scarablaw02.WordExact", spec := "wordExact", named := ["math/bits.deBruijn64tab"], apart := false, laid := [("math/bits.deBruijn64tab", laid_math_bits_deBruijn64tab)], narrowed := true }
def WordExactUptoSaid : Prop := wordExactUptoRow.holds Tryd.pinned (OpenSpec.upto wordExactSpec)

/-- 'scarablaw02.WordDivides', WHERE WHAT IT READS IS OF BULK AT MOST 1048576: true; the input reads as it did. -/
def wordDividesUptoRow : OpenClaim := { program := "ytckfnbjjghdaoaadoor", sum := "df64c67f39e1b35a21292580773e29ecadbbc8517a8536b69847c31a69b39efc", func := "scarab/scarablaw02.WordDivides", spec := "wordDivides", named := ["math/bits.divideError", "math/bits.overflowError", "math/bits.deBruijn64tab"], apart := false, laid := [("math/bits.deBruijn64tab", laid_math_bits_deBruijn64tab)], narrowed := true }
def WordDividesUptoSaid : Prop := wordDividesUptoRow.holds Tryd.pinned (OpenSpec.upto wordDividesSpec)

/-- 'scarablaw02.WordBack', WHERE WHAT IT READS IS OF BULK AT MOST 1048576: true; the input reads as it did. -/
def wordBackUptoRow : OpenClaim := { program := "ytckfnbjjghdaoaadoor", sum := "df64c67f39e1b35a21292580773e29ecadbbc8517a8536b69847c31a69b39efc", func := "scarab/scarablaw02.WordBack", spec := "wordBack", named := ["math/bits.deBruijn64tab", "math/bits.divideError", "math/bits.overflowError"], apart := false, laid := [("math/bits.deBruijn64tab", laid_math_bits_deBruijn64tab)], narrowed := true }
def WordBackUptoSaid : Prop := wordBackUptoRow.holds Tryd.pinned (OpenSpec.upto wordBackSpec)

/-- 'scarablaw02.WordTexts', WHERE WHAT IT READS IS OF BULK AT MOST 1048576: true; the input reads as it did. -/
def wordTextsUptoRow : OpenClaim := { program := "ytckfnbjjghdaoaadoor", sum := "df64c67f39e1b35a21292580773e29ecadbbc8517a8536b69847c31a69b39efc", func := "scarab/scarablaw02.WordTexts", spec := "wordTexts", named := ["internal/strconv.uint64pow10", "math/bits.deBruijn32tab", "math/bits.deBruijn64tab", "strconv.ErrSyntax", "strconv.ErrRange"], apart := false, laid := [("math/bits.deBruijn32tab", laid_math_bits_deBruijn32tab), ("math/bits.deBruijn64tab", laid_math_bits_deBruijn64tab), ("internal/strconv.uint64pow10", laid_internal_strconv_uint64pow10), ("strconv.ErrRange", laid_strconv_ErrRange), ("strconv.ErrSyntax", laid_strconv_ErrSyntax)], narrowed := true }
def WordTextsUptoSaid : Prop := wordTextsUptoRow.holds Tryd.pinned (OpenSpec.upto wordTextsSpec)

end Rows
end Go.Proofs.YtckfnbjjghdaoaaDoor
