/-
  NARROWER THAN 'FOR EVERY INPUT', by the rows' own cells (each row's printed sentence says how): FoldBounds: laid · FoldLetters: laid · FoldNumbers: laid · FoldWays: laid · ExpsBack: laid · ExpsBounds: laid · ExpsTells: laid · ExpsFinds: laid.
  DERIVED. THE GIVEN ROWS OF THIS SEAT. 8 by the template 'for every input the law returns true; each argument reads behind the call as it read before'; 0 by the template 'total and deterministic' (their statements: YtapllnnconpieaaDoorTotals.lean).
  GIVEN WITH THE SEED: the statements are not yours to turn. If you find one false, say at which input.
  Laid BY PROGRAM, IN A SANDBOX (cutbox-rows.mjs): the forced cells as the released guide's own fill.sh prints them over the translation 6cc99f8ec8ac3949… (all of the seat's roots in one cut). By AI agents, Wed Nov 11 2026. No macro, syntax, notation, axiom, sorry.
-/
import Derived.Test.YtapllnnconpieaaDoorChecked
import GoSem.Claim
import GoSem.ClaimJoined
import GoSem.ClaimMapViews
import Derived.JoinedTies
import Derived.KernelRfl
namespace Go.Proofs.YtapllnnconpieaaDoor
/- THE CELL 'sum', in the pinned program and in every row, IS THE sha256 OF THE DUMP (.gsa) THAT YtapllnnconpieaaDoorProg.lean LOADS. Nothing in Lean hashes anything: it is a label: what it is worth is what the hold of that sum in a sandbox is worth. -/
noncomputable def Tryd.pinned : Pinned := { name := "ytapllnnconpieaadoor", sum := "6cc99f8ec8ac3949df18146cfa375c6edb51618926162132876466c08314bdf7", checked := Tryd.checked }
namespace Rows
def none {H : Type} : Left H := { results := [], args := [] }

/- WHAT THE LISTED PACKAGE-LEVEL VARIABLES READ AS WHEN THE CALL BEGINS. Each datum BY PROGRAM (the guide's laid-datum.mjs) off the statement by which the dump's own 'gosem.cut.vars' lays the variable. In a bare row this is a premise. The card (YtapllnnconpieaaDoorCards.lean) ties it to the program's text. -/
def laid_math_bits_deBruijn32tab {H : Type} : DataW H := .agg [.lit (.int .u8 0), .lit (.int .u8 1), .lit (.int .u8 28), .lit (.int .u8 2), .lit (.int .u8 29), .lit (.int .u8 14), .lit (.int .u8 24), .lit (.int .u8 3), .lit (.int .u8 30), .lit (.int .u8 22), .lit (.int .u8 20), .lit (.int .u8 15), .lit (.int .u8 25), .lit (.int .u8 17), .lit (.int .u8 4), .lit (.int .u8 8), .lit (.int .u8 31), .lit (.int .u8 27), .lit (.int .u8 13), .lit (.int .u8 23), .lit (.int .u8 21), .lit (.int .u8 19), .lit (.int .u8 16), .lit (.int .u8 7), .lit (.int .u8 26), .lit (.int .u8 12), .lit (.int .u8 18), .lit (.int .u8 6), .lit (.int .u8 11), .lit (.int .u8 5), .lit (.int .u8 10), .lit (.int .u8 9)]
def laid_math_bits_deBruijn64tab {H : Type} : DataW H := .agg [.lit (.int .u8 0), .lit (.int .u8 1), .lit (.int .u8 56), .lit (.int .u8 2), .lit (.int .u8 57), .lit (.int .u8 49), .lit (.int .u8 28), .lit (.int .u8 3), .lit (.int .u8 61), .lit (.int .u8 58), .lit (.int .u8 42), .lit (.int .u8 50), .lit (.int .u8 38), .lit (.int .u8 29), .lit (.int .u8 17), .lit (.int .u8 4), .lit (.int .u8 62), .lit (.int .u8 47), .lit (.int .u8 59), .lit (.int .u8 36), .lit (.int .u8 45), .lit (.int .u8 43), .lit (.int .u8 51), .lit (.int .u8 22), .lit (.int .u8 53), .lit (.int .u8 39), .lit (.int .u8 33), .lit (.int .u8 30), .lit (.int .u8 24), .lit (.int .u8 18), .lit (.int .u8 12), .lit (.int .u8 5), .lit (.int .u8 63), .lit (.int .u8 55), .lit (.int .u8 48), .lit (.int .u8 27), .lit (.int .u8 60), .lit (.int .u8 41), .lit (.int .u8 37), .lit (.int .u8 16), .lit (.int .u8 46), .lit (.int .u8 35), .lit (.int .u8 44), .lit (.int .u8 21), .lit (.int .u8 52), .lit (.int .u8 32), .lit (.int .u8 23), .lit (.int .u8 11), .lit (.int .u8 54), .lit (.int .u8 26), .lit (.int .u8 40), .lit (.int .u8 15), .lit (.int .u8 34), .lit (.int .u8 20), .lit (.int .u8 31), .lit (.int .u8 10), .lit (.int .u8 25), .lit (.int .u8 14), .lit (.int .u8 19), .lit (.int .u8 9), .lit (.int .u8 13), .lit (.int .u8 8), .lit (.int .u8 7), .lit (.int .u8 6)]
def laid_internal_strconv_uint64pow10 {H : Type} : DataW H := .agg [.lit (.int .u64 1), .lit (.int .u64 10), .lit (.int .u64 100), .lit (.int .u64 1000), .lit (.int .u64 10000), .lit (.int .u64 100000), .lit (.int .u64 1000000), .lit (.int .u64 10000000), .lit (.int .u64 100000000), .lit (.int .u64 1000000000), .lit (.int .u64 10000000000), .lit (.int .u64 100000000000), .lit (.int .u64 1000000000000), .lit (.int .u64 10000000000000), .lit (.int .u64 100000000000000), .lit (.int .u64 1000000000000000), .lit (.int .u64 10000000000000000), .lit (.int .u64 100000000000000000), .lit (.int .u64 1000000000000000000), .lit (.int .u64 10000000000000000000)]
def laid_strconv_ErrRange {H : Type} : DataW H := .iface "*errors.errorString" (.ptr (.agg [.lit (.string [118, 97, 108, 117, 101, 32, 111, 117, 116, 32, 111, 102, 32, 114, 97, 110, 103, 101])]))
def laid_strconv_ErrSyntax {H : Type} : DataW H := .iface "*errors.errorString" (.ptr (.agg [.lit (.string [105, 110, 118, 97, 108, 105, 100, 32, 115, 121, 110, 116, 97, 120])]))

/-- 'slipwaylaw2.FoldBounds': WHATEVER THE INPUT: true; the input reads as it did. -/
def foldBoundsSpec : ChangeSpec := { name := "foldBounds", fn := fun _ => fun
  | [d] => { results := [.lit (.bool true)], args := [d] }
  | _ => none }
def foldBoundsRow : OpenClaim := { program := "ytapllnnconpieaadoor", sum := "6cc99f8ec8ac3949df18146cfa375c6edb51618926162132876466c08314bdf7", func := "slipway/slipwaylaw2.FoldBounds", spec := "foldBounds", inPlace := ["internal/bytealg.IndexByteString"], named := ["strconv.ErrSyntax", "strconv.ErrRange", "internal/strconv.uint64pow10", "math/bits.deBruijn32tab", "math/bits.deBruijn64tab"], apart := false, laid := [("math/bits.deBruijn32tab", laid_math_bits_deBruijn32tab), ("math/bits.deBruijn64tab", laid_math_bits_deBruijn64tab), ("internal/strconv.uint64pow10", laid_internal_strconv_uint64pow10), ("strconv.ErrRange", laid_strconv_ErrRange), ("strconv.ErrSyntax", laid_strconv_ErrSyntax)] }
def FoldBoundsSaid : Prop := foldBoundsRow.holds Tryd.pinned (OpenSpec.ofChange foldBoundsSpec)

/-- ITS FALSE NEIGHBOUR: 'it returns false'. Refute it at one input. -/
def foldBoundsWrong : ChangeSpec := { name := "foldBounds", fn := fun _ => fun
  | [d] => { results := [.lit (.bool false)], args := [d] }
  | _ => none }
def FoldBoundsWrongFalsely : Prop := foldBoundsRow.holds Tryd.pinned (OpenSpec.ofChange foldBoundsWrong)

/-- 'slipwaylaw2.FoldLetters': WHATEVER THE INPUT: true; the input reads as it did. -/
def foldLettersSpec : ChangeSpec := { name := "foldLetters", fn := fun _ => fun
  | [d1, d2] => { results := [.lit (.bool true)], args := [d1, d2] }
  | _ => none }
def foldLettersRow : OpenClaim := { program := "ytapllnnconpieaadoor", sum := "6cc99f8ec8ac3949df18146cfa375c6edb51618926162132876466c08314bdf7", func := "slipway/slipwaylaw2.FoldLetters", spec := "foldLetters", inPlace := ["internal/bytealg.IndexByteString"], named := ["strconv.ErrSyntax", "strconv.ErrRange", "internal/strconv.uint64pow10", "math/bits.deBruijn32tab", "math/bits.deBruijn64tab"], apart := false, laid := [("math/bits.deBruijn32tab", laid_math_bits_deBruijn32tab), ("math/bits.deBruijn64tab", laid_math_bits_deBruijn64tab), ("internal/strconv.uint64pow10", laid_internal_strconv_uint64pow10), ("strconv.ErrRange", laid_strconv_ErrRange), ("strconv.ErrSyntax", laid_strconv_ErrSyntax)] }
def FoldLettersSaid : Prop := foldLettersRow.holds Tryd.pinned (OpenSpec.ofChange foldLettersSpec)

/-- ITS FALSE NEIGHBOUR: 'it returns false'. Refute it at one input. -/
def foldLettersWrong : ChangeSpec := { name := "foldLetters", fn := fun _ => fun
  | [d1, d2] => { results := [.lit (.bool false)], args := [d1, d2] }
  | _ => none }
def FoldLettersWrongFalsely : Prop := foldLettersRow.holds Tryd.pinned (OpenSpec.ofChange foldLettersWrong)

/-- 'slipwaylaw2.FoldNumbers': WHATEVER THE INPUT: true; the input reads as it did. -/
def foldNumbersSpec : ChangeSpec := { name := "foldNumbers", fn := fun _ => fun
  | [d1, d2] => { results := [.lit (.bool true)], args := [d1, d2] }
  | _ => none }
def foldNumbersRow : OpenClaim := { program := "ytapllnnconpieaadoor", sum := "6cc99f8ec8ac3949df18146cfa375c6edb51618926162132876466c08314bdf7", func := "slipway/slipwaylaw2.FoldNumbers", spec := "foldNumbers", inPlace := ["internal/bytealg.IndexByteString"], named := ["strconv.ErrSyntax", "strconv.ErrRange", "internal/strconv.uint64pow10", "math/bits.deBruijn32tab", "math/bits.deBruijn64tab"], apart := false, laid := [("math/bits.deBruijn32tab", laid_math_bits_deBruijn32tab), ("math/bits.deBruijn64tab", laid_math_bits_deBruijn64tab), ("internal/strconv.uint64pow10", laid_internal_strconv_uint64pow10), ("strconv.ErrRange", laid_strconv_ErrRange), ("strconv.ErrSyntax", laid_strconv_ErrSyntax)] }
def FoldNumbersSaid : Prop := foldNumbersRow.holds Tryd.pinned (OpenSpec.ofChange foldNumbersSpec)

/-- ITS FALSE NEIGHBOUR: 'it returns false'. Refute it at one input. -/
def foldNumbersWrong : ChangeSpec := { name := "foldNumbers", fn := fun _ => fun
  | [d1, d2] => { results := [.lit (.bool false)], args := [d1, d2] }
  | _ => none }
def FoldNumbersWrongFalsely : Prop := foldNumbersRow.holds Tryd.pinned (OpenSpec.ofChange foldNumbersWrong)

/-- 'slipwaylaw2.FoldWays': WHATEVER THE INPUT: true; the input reads as it did. -/
def foldWaysSpec : ChangeSpec := { name := "foldWays", fn := fun _ => fun
  | [d1, d2, d3] => { results := [.lit (.bool true)], args := [d1, d2, d3] }
  | _ => none }
def foldWaysRow : OpenClaim := { program := "ytapllnnconpieaadoor", sum := "6cc99f8ec8ac3949df18146cfa375c6edb51618926162132876466c08314bdf7", func := "slipway/slipwaylaw2.FoldWays", spec := "foldWays", inPlace := ["internal/bytealg.IndexByteString"], named := ["strconv.ErrSyntax", "strconv.ErrRange", "internal/strconv.uint64pow10", "math/bits.deBruijn32tab", "math/bits.deBruijn64tab"], apart := false, laid := [("math/bits.deBruijn32tab", laid_math_bits_deBruijn32tab), ("math/bits.deBruijn64tab", laid_math_bits_deBruijn64tab), ("internal/strconv.uint64pow10", laid_internal_strconv_uint64pow10), ("strconv.ErrRange", laid_strconv_ErrRange), ("strconv.ErrSyntax", laid_strconv_ErrSyntax)] }
def FoldWaysSaid : Prop := foldWaysRow.holds Tryd.pinned (OpenSpec.ofChange foldWaysSpec)

/-- ITS FALSE NEIGHBOUR: 'it returns false'. Refute it at one input. -/
def foldWaysWrong : ChangeSpec := { name := "foldWays", fn := fun _ => fun
  | [d1, d2, d3] => { results := [.lit (.bool false)], args := [d1, d2, d3] }
  | _ => none }
def FoldWaysWrongFalsely : Prop := foldWaysRow.holds Tryd.pinned (OpenSpec.ofChange foldWaysWrong)

/-- 'slipwaylaw7.ExpsBack': WHATEVER THE INPUT: true; the input reads as it did. -/
def expsBackSpec : ChangeSpec := { name := "expsBack", fn := fun _ => fun
  | [d1, d2] => { results := [.lit (.bool true)], args := [d1, d2] }
  | _ => none }
def expsBackRow : OpenClaim := { program := "ytapllnnconpieaadoor", sum := "6cc99f8ec8ac3949df18146cfa375c6edb51618926162132876466c08314bdf7", func := "slipway/slipwaylaw7.ExpsBack", spec := "expsBack", inPlace := ["internal/bytealg.IndexByte"], named := ["strconv.ErrSyntax", "strconv.ErrRange", "internal/strconv.uint64pow10", "math/bits.deBruijn32tab", "math/bits.deBruijn64tab"], apart := false, laid := [("math/bits.deBruijn32tab", laid_math_bits_deBruijn32tab), ("math/bits.deBruijn64tab", laid_math_bits_deBruijn64tab), ("internal/strconv.uint64pow10", laid_internal_strconv_uint64pow10), ("strconv.ErrRange", laid_strconv_ErrRange), ("strconv.ErrSyntax", laid_strconv_ErrSyntax)] }
def ExpsBackSaid : Prop := expsBackRow.holds Tryd.pinned (OpenSpec.ofChange expsBackSpec)

/-- ITS FALSE NEIGHBOUR: 'it returns false'. Refute it at one input. -/
def expsBackWrong : ChangeSpec := { name := "expsBack", fn := fun _ => fun
  | [d1, d2] => { results := [.lit (.bool false)], args := [d1, d2] }
  | _ => none }
def ExpsBackWrongFalsely : Prop := expsBackRow.holds Tryd.pinned (OpenSpec.ofChange expsBackWrong)

/-- 'slipwaylaw7.ExpsBounds': WHATEVER THE INPUT: true; the input reads as it did. -/
def expsBoundsSpec : ChangeSpec := { name := "expsBounds", fn := fun _ => fun
  | [d1, d2] => { results := [.lit (.bool true)], args := [d1, d2] }
  | _ => none }
def expsBoundsRow : OpenClaim := { program := "ytapllnnconpieaadoor", sum := "6cc99f8ec8ac3949df18146cfa375c6edb51618926162132876466c08314bdf7", func := "slipway/slipwaylaw7.ExpsBounds", spec := "expsBounds", inPlace := ["internal/bytealg.IndexByte"], named := ["strconv.ErrSyntax", "strconv.ErrRange", "internal/strconv.uint64pow10", "math/bits.deBruijn32tab", "math/bits.deBruijn64tab"], apart := false, laid := [("math/bits.deBruijn32tab", laid_math_bits_deBruijn32tab), ("math/bits.deBruijn64tab", laid_math_bits_deBruijn64tab), ("internal/strconv.uint64pow10", laid_internal_strconv_uint64pow10), ("strconv.ErrRange", laid_strconv_ErrRange), ("strconv.ErrSyntax", laid_strconv_ErrSyntax)] }
def ExpsBoundsSaid : Prop := expsBoundsRow.holds Tryd.pinned (OpenSpec.ofChange expsBoundsSpec)

/-- ITS FALSE NEIGHBOUR: 'it returns false'. Refute it at one input. -/
def expsBoundsWrong : ChangeSpec := { name := "expsBounds", fn := fun _ => fun
  | [d1, d2] => { results := [.lit (.bool false)], args := [d1, d2] }
  | _ => none }
def ExpsBoundsWrongFalsely : Prop := expsBoundsRow.holds Tryd.pinned (OpenSpec.ofChange expsBoundsWrong)

/-- 'slipwaylaw7.ExpsTells': WHATEVER THE INPUT: true; the input reads as it did. -/
def expsTellsSpec : ChangeSpec := { name := "expsTells", fn := fun _ => fun
  | [d1, d2, d3, d4, d5, d6, d7, d8] => { results := [.lit (.bool true)], args := [d1, d2, d3, d4, d5, d6, d7, d8] }
  | _ => none }
def expsTellsRow : OpenClaim := { program := "ytapllnnconpieaadoor", sum := "6cc99f8ec8ac3949df18146cfa375c6edb51618926162132876466c08314bdf7", func := "slipway/slipwaylaw7.ExpsTells", spec := "expsTells", inPlace := ["internal/bytealg.IndexByte"], named := ["strconv.ErrSyntax", "strconv.ErrRange", "internal/strconv.uint64pow10", "math/bits.deBruijn32tab", "math/bits.deBruijn64tab"], apart := false, laid := [("math/bits.deBruijn32tab", laid_math_bits_deBruijn32tab), ("math/bits.deBruijn64tab", laid_math_bits_deBruijn64tab), ("internal/strconv.uint64pow10", laid_internal_strconv_uint64pow10), ("strconv.ErrRange", laid_strconv_ErrRange), ("strconv.ErrSyntax", laid_strconv_ErrSyntax)] }
def ExpsTellsSaid : Prop := expsTellsRow.holds Tryd.pinned (OpenSpec.ofChange expsTellsSpec)

/-- ITS FALSE NEIGHBOUR: 'it returns false'. Refute it at one input. -/
def expsTellsWrong : ChangeSpec := { name := "expsTells", fn := fun _ => fun
  | [d1, d2, d3, d4, d5, d6, d7, d8] => { results := [.lit (.bool false)], args := [d1, d2, d3, d4, d5, d6, d7, d8] }
  | _ => none }
def ExpsTellsWrongFalsely : Prop := expsTellsRow.holds Tryd.pinned (OpenSpec.ofChange expsTellsWrong)

/-- 'slipwaylaw7.ExpsFinds': WHATEVER THE INPUT: true; the input reads as it did. -/
def expsFindsSpec : ChangeSpec := { name := "expsFinds", fn := fun _ => fun
  | [d1, d2] => { results := [.lit (.bool true)], args := [d1, d2] }
  | _ => none }
def expsFindsRow : OpenClaim := { program := "ytapllnnconpieaadoor", sum := "6cc99f8ec8ac3949df18146cfa375c6edb51618926162132876466c08314bdf7", func := "slipway/slipwaylaw7.ExpsFinds", spec := "expsFinds", inPlace := ["internal/bytealg.IndexByte"], named := ["strconv.ErrSyntax", "strconv.ErrRange", "internal/strconv.uint64pow10", "math/bits.deBruijn32tab", "math/bits.deBruijn64tab"], apart := false, laid := [("math/bits.deBruijn32tab", laid_math_bits_deBruijn32tab), ("math/bits.deBruijn64tab", laid_math_bits_deBruijn64tab), ("internal/strconv.uint64pow10", laid_internal_strconv_uint64pow10), ("strconv.ErrRange", laid_strconv_ErrRange), ("strconv.ErrSyntax", laid_strconv_ErrSyntax)] }
def ExpsFindsSaid : Prop := expsFindsRow.holds Tryd.pinned (OpenSpec.ofChange expsFindsSpec)

/-- ITS FALSE NEIGHBOUR: 'it returns false'. Refute it at one input. -/
def expsFindsWrong : ChangeSpec := { name := "expsFinds", fn := fun _ => fun
  | [d1, d2] => { results := [.lit (.bool false)], args := [d1, d2] }
  | _ => none }
def ExpsFindsWrongFalsely : Prop := expsFindsRow.holds Tryd.pinned (OpenSpec.ofChange expsFindsWrong)

/- THE SECOND FORM. 'bulk': how many values and letters a reading holds, each counted each time it is reached (what is shared counts as often as it is met; a slice's spare places count too). A statement '..UptoSaid' is the law's where the arguments, and the package variables that the reading takes, are together of bulk at most 1048576: NARROWER than '..Said'. Prove '..Said' where nothing that the law and all that it calls make is longer than what came in: it says more and counts as full. Else prove '..UptoSaid'. A law counts once. -/
mutual
def uptoBulk {H : Type} : DataW H → Nat
  | .lit (.string bytes) => bytes.length + 1
  | .lit _ => 1
  | .nil => 1
  | .ptr d => uptoBulk d + 1
  | .slice elems spare => uptoBulkAll elems + uptoBulkAll spare + 1
  | .agg parts => uptoBulkAll parts + 1
  | .iface _ d => uptoBulk d + 1
  | .map entries => uptoBulkEntries entries + 1
  | .held _ => 1
def uptoBulkAll {H : Type} : List (DataW H) → Nat
  | [] => 0
  | d :: r => uptoBulk d + uptoBulkAll r
def uptoBulkEntries {H : Type} : List (Lit × DataW H) → Nat
  | [] => 0
  | x :: r => uptoBulkEntry x + uptoBulkEntries r
def uptoBulkEntry {H : Type} : Lit × DataW H → Nat
  | (.string bytes, d) => bytes.length + uptoBulk d + 1
  | (_, d) => uptoBulk d + 1
 end
def uptoSmall : (H : Type) → List (DataW H) → Bool := fun _ ds => decide (uptoBulkAll ds ≤ 1048576)
def OpenSpec.upto (s : _root_.Go.ChangeSpec) : _root_.Go.OpenSpec := { _root_.Go.OpenSpec.ofChange s with cond := some uptoSmall }

/-- 'slipwaylaw2.FoldBounds', WHERE WHAT IT READS IS OF BULK AT MOST 1048576: true; the input reads as it did. -/
def foldBoundsUptoRow : OpenClaim := { program := "ytapllnnconpieaadoor", sum := "6cc99f8ec8ac3949df18146cfa375c6edb51618926162132876466c08314bdf7", func := "slipway/slipwaylaw2.FoldBounds", spec := "foldBounds", inPlace := ["internal/bytealg.IndexByteString"], named := ["strconv.ErrSyntax", "strconv.ErrRange", "internal/strconv.uint64pow10", "math/bits.deBruijn32tab", "math/bits.deBruijn64tab"], apart := false, laid := [("math/bits.deBruijn32tab", laid_math_bits_deBruijn32tab), ("math/bits.deBruijn64tab", laid_math_bits_deBruijn64tab), ("internal/strconv.uint64pow10", laid_internal_strconv_uint64pow10), ("strconv.ErrRange", laid_strconv_ErrRange), ("strconv.ErrSyntax", laid_strconv_ErrSyntax)], narrowed := true }
def FoldBoundsUptoSaid : Prop := foldBoundsUptoRow.holds Tryd.pinned (OpenSpec.upto foldBoundsSpec)

/-- 'slipwaylaw2.FoldLetters', WHERE WHAT IT READS IS OF BULK AT MOST 1048576: true; the input reads as it did. -/
def foldLettersUptoRow : OpenClaim := { program := "ytapllnnconpieaadoor", sum := "6cc99f8ec8ac3949df18146cfa375c6edb51618926162132876466c08314bdf7", func := "slipway/slipwaylaw2.FoldLetters", spec := "foldLetters", inPlace := ["internal/bytealg.IndexByteString"], named := ["strconv.ErrSyntax", "strconv.ErrRange", "internal/strconv.uint64pow10", "math/bits.deBruijn32tab", "math/bits.deBruijn64tab"], apart := false, laid := [("math/bits.deBruijn32tab", laid_math_bits_deBruijn32tab), ("math/bits.deBruijn64tab", laid_math_bits_deBruijn64tab), ("internal/strconv.uint64pow10", laid_internal_strconv_uint64pow10), ("strconv.ErrRange", laid_strconv_ErrRange), ("strconv.ErrSyntax", laid_strconv_ErrSyntax)], narrowed := true }
def FoldLettersUptoSaid : Prop := foldLettersUptoRow.holds Tryd.pinned (OpenSpec.upto foldLettersSpec)

/-- 'slipwaylaw2.FoldNumbers', WHERE WHAT IT READS IS OF BULK AT MOST 1048576: true; the input reads as it did. -/
def foldNumbersUptoRow : OpenClaim := { program := "ytapllnnconpieaadoor", sum := "6cc99f8ec8ac3949df18146cfa375c6edb51618926162132876466c08314bdf7", func := "slipway/slipwaylaw2.FoldNumbers", spec := "foldNumbers", inPlace := ["internal/bytealg.IndexByteString"], named := ["strconv.ErrSyntax", "strconv.ErrRange", "internal/strconv.uint64pow10", "math/bits.deBruijn32tab", "math/bits.deBruijn64tab"], apart := false, laid := [("math/bits.deBruijn32tab", laid_math_bits_deBruijn32tab), ("math/bits.deBruijn64tab", laid_math_bits_deBruijn64tab), ("internal/strconv.uint64pow10", laid_internal_strconv_uint64pow10), ("strconv.ErrRange", laid_strconv_ErrRange), ("strconv.ErrSyntax", laid_strconv_ErrSyntax)], narrowed := true }
def FoldNumbersUptoSaid : Prop := foldNumbersUptoRow.holds Tryd.pinned (OpenSpec.upto foldNumbersSpec)

/-- 'slipwaylaw2.FoldWays', WHERE WHAT IT READS IS OF BULK AT MOST 1048576: true; the input reads as it did. -/
def foldWaysUptoRow : OpenClaim := { program := "ytapllnnconpieaadoor", sum := "6cc99f8ec8ac3949df18146cfa375c6edb51618926162132876466c08314bdf7", func := "slipway/slipwaylaw2.FoldWays", spec := "foldWays", inPlace := ["internal/bytealg.IndexByteString"], named := ["strconv.ErrSyntax", "strconv.ErrRange", "internal/strconv.uint64pow10", "math/bits.deBruijn32tab", "math/bits.deBruijn64tab"], apart := false, laid := [("math/bits.deBruijn32tab", laid_math_bits_deBruijn32tab), ("math/bits.deBruijn64tab", laid_math_bits_deBruijn64tab), ("internal/strconv.uint64pow10", laid_internal_strconv_uint64pow10), ("strconv.ErrRange", laid_strconv_ErrRange), ("strconv.ErrSyntax", laid_strconv_ErrSyntax)], narrowed := true }
def FoldWaysUptoSaid : Prop := foldWaysUptoRow.holds Tryd.pinned (OpenSpec.upto foldWaysSpec)

/-- 'slipwaylaw7.ExpsBack', WHERE WHAT IT READS IS OF BULK AT MOST 1048576: true; the input reads as it did. -/
def expsBackUptoRow : OpenClaim := { program := "ytapllnnconpieaadoor", sum := "6cc99f8ec8ac3949df18146cfa375c6edb51618926162132876466c08314bdf7", func := "slipway/slipwaylaw7.ExpsBack", spec := "expsBack", inPlace := ["internal/bytealg.IndexByte"], named := ["strconv.ErrSyntax", "strconv.ErrRange", "internal/strconv.uint64pow10", "math/bits.deBruijn32tab", "math/bits.deBruijn64tab"], apart := false, laid := [("math/bits.deBruijn32tab", laid_math_bits_deBruijn32tab), ("math/bits.deBruijn64tab", laid_math_bits_deBruijn64tab), ("internal/strconv.uint64pow10", laid_internal_strconv_uint64pow10), ("strconv.ErrRange", laid_strconv_ErrRange), ("strconv.ErrSyntax", laid_strconv_ErrSyntax)], narrowed := true }
def ExpsBackUptoSaid : Prop := expsBackUptoRow.holds Tryd.pinned (OpenSpec.upto expsBackSpec)

/-- 'slipwaylaw7.ExpsBounds', WHERE WHAT IT READS IS OF BULK AT MOST 1048576: true; the input reads as it did. -/
def expsBoundsUptoRow : OpenClaim := { program := "ytapllnnconpieaadoor", sum := "6cc99f8ec8ac3949df18146cfa375c6edb51618926162132876466c08314bdf7", func := "slipway/slipwaylaw7.ExpsBounds", spec := "expsBounds", inPlace := ["internal/bytealg.IndexByte"], named := ["strconv.ErrSyntax", "strconv.ErrRange", "internal/strconv.uint64pow10", "math/bits.deBruijn32tab", "math/bits.deBruijn64tab"], apart := false, laid := [("math/bits.deBruijn32tab", laid_math_bits_deBruijn32tab), ("math/bits.deBruijn64tab", laid_math_bits_deBruijn64tab), ("internal/strconv.uint64pow10", laid_internal_strconv_uint64pow10), ("strconv.ErrRange", laid_strconv_ErrRange), ("strconv.ErrSyntax", laid_strconv_ErrSyntax)], narrowed := true }
def ExpsBoundsUptoSaid : Prop := expsBoundsUptoRow.holds Tryd.pinned (OpenSpec.upto expsBoundsSpec)

/-- 'slipwaylaw7.ExpsTells', WHERE WHAT IT READS IS OF BULK AT MOST 1048576: true; the input reads as it did. -/
def expsTellsUptoRow : OpenClaim := { program := "ytapllnnconpieaadoor", sum := "6cc99f8ec8ac3949df18146cfa375c6edb51618926162132876466c08314bdf7", func := "slipway/slipwaylaw7.ExpsTells", spec := "expsTells", inPlace := ["internal/bytealg.IndexByte"], named := ["strconv.ErrSyntax", "strconv.ErrRange", "internal/strconv.uint64pow10", "math/bits.deBruijn32tab", "math/bits.deBruijn64tab"], apart := false, laid := [("math/bits.deBruijn32tab", laid_math_bits_deBruijn32tab), ("math/bits.deBruijn64tab", laid_math_bits_deBruijn64tab), ("internal/strconv.uint64pow10", laid_internal_strconv_uint64pow10), ("strconv.ErrRange", laid_strconv_ErrRange), ("strconv.ErrSyntax", laid_strconv_ErrSyntax)], narrowed := true }
def ExpsTellsUptoSaid : Prop := expsTellsUptoRow.holds Tryd.pinned (OpenSpec.upto expsTellsSpec)

/-- 'slipwaylaw7.ExpsFinds', WHERE WHAT IT READS IS OF BULK AT MOST 1048576: true; the input reads as it did. -/
def expsFindsUptoRow : OpenClaim := { program := "ytapllnnconpieaadoor", sum := "6cc99f8ec8ac3949df18146cfa375c6edb51618926162132876466c08314bdf7", func := "slipway/slipwaylaw7.ExpsFinds", spec := "expsFinds", inPlace := ["internal/bytealg.IndexByte"], named := ["strconv.ErrSyntax", "strconv.ErrRange", "internal/strconv.uint64pow10", "math/bits.deBruijn32tab", "math/bits.deBruijn64tab"], apart := false, laid := [("math/bits.deBruijn32tab", laid_math_bits_deBruijn32tab), ("math/bits.deBruijn64tab", laid_math_bits_deBruijn64tab), ("internal/strconv.uint64pow10", laid_internal_strconv_uint64pow10), ("strconv.ErrRange", laid_strconv_ErrRange), ("strconv.ErrSyntax", laid_strconv_ErrSyntax)], narrowed := true }
def ExpsFindsUptoSaid : Prop := expsFindsUptoRow.holds Tryd.pinned (OpenSpec.upto expsFindsSpec)

end Rows
end Go.Proofs.YtapllnnconpieaaDoor
