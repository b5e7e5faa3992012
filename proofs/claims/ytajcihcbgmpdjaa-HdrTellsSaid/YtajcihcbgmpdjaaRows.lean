/-
  No cell of these rows narrows 'for every input' (looked for: loops, veiled, ifaces, maps, wideKeys, modest, calm, conditions, laid).
  DERIVED. THE GIVEN ROWS OF THIS SEAT. 8 by the template 'for every input the law returns true; each argument reads behind the call as it read before'; 0 by the template 'total and deterministic' (their statements: YtajcihcbgmpdjaaTotals.lean).
  GIVEN WITH THE SEED: the statements are not yours to turn. If you find one false, say at which input.
  Laid BY PROGRAM, IN A SANDBOX (cutbox-rows.mjs): the forced cells as the released guide's own fill.sh prints them over the translation 50dd2ea683781586… (all of the seat's roots in one cut). By AI agents, Wed Nov 11 2026. No macro, syntax, notation, axiom, sorry.
-/
import Derived.Test.YtajcihcbgmpdjaaChecked
import GoSem.Claim
import GoSem.ClaimJoined
import GoSem.ClaimMapViews
import Derived.JoinedTies
import Derived.KernelRfl
namespace Go.Proofs.Ytajcihcbgmpdjaa
/- THE CELL 'sum', in the pinned program and in every row, IS THE sha256 OF THE DUMP (.gsa) THAT YtajcihcbgmpdjaaProg.lean LOADS. Nothing in Lean hashes anything: it is a label: what it is worth is what the hold of that sum in a sandbox is worth. -/
noncomputable def Try.pinned : Pinned := { name := "ytajcihcbgmpdjaa", sum := "50dd2ea6837815865d85e13437e3f85b5632b2d7552605acc1f91a5fc487923d", checked := Try.checked }
namespace Rows
def none {H : Type} : Left H := { results := [], args := [] }

/-- 'slipwaylaw5.HdrCuts': WHATEVER THE INPUT: true; the input reads as it did. -/
def hdrCutsSpec : ChangeSpec := { name := "hdrCuts", fn := fun _ => fun
  | [d1, d2, d3] => { results := [.lit (.bool true)], args := [d1, d2, d3] }
  | _ => none }
def hdrCutsRow : OpenClaim := { program := "ytajcihcbgmpdjaa", sum := "50dd2ea6837815865d85e13437e3f85b5632b2d7552605acc1f91a5fc487923d", func := "slipway/slipwaylaw5.HdrCuts", spec := "hdrCuts", inPlace := ["internal/bytealg.IndexByteString", "internal/bytealg.IndexString"], named := ["internal/bytealg.MaxLen"], apart := false }
def HdrCutsSaid : Prop := hdrCutsRow.holds Try.pinned (OpenSpec.ofChange hdrCutsSpec)

/-- ITS FALSE NEIGHBOUR: 'it returns false'. Refute it at one input. -/
def hdrCutsWrong : ChangeSpec := { name := "hdrCuts", fn := fun _ => fun
  | [d1, d2, d3] => { results := [.lit (.bool false)], args := [d1, d2, d3] }
  | _ => none }
def HdrCutsWrongFalsely : Prop := hdrCutsRow.holds Try.pinned (OpenSpec.ofChange hdrCutsWrong)

/-- 'slipwaylaw5.HdrChains': WHATEVER THE INPUT: true; the input reads as it did. -/
def hdrChainsSpec : ChangeSpec := { name := "hdrChains", fn := fun _ => fun
  | [d] => { results := [.lit (.bool true)], args := [d] }
  | _ => none }
def hdrChainsRow : OpenClaim := { program := "ytajcihcbgmpdjaa", sum := "50dd2ea6837815865d85e13437e3f85b5632b2d7552605acc1f91a5fc487923d", func := "slipway/slipwaylaw5.HdrChains", spec := "hdrChains", inPlace := ["internal/bytealg.IndexByteString", "internal/bytealg.IndexString"], named := ["internal/bytealg.MaxLen"], apart := false }
def HdrChainsSaid : Prop := hdrChainsRow.holds Try.pinned (OpenSpec.ofChange hdrChainsSpec)

/-- ITS FALSE NEIGHBOUR: 'it returns false'. Refute it at one input. -/
def hdrChainsWrong : ChangeSpec := { name := "hdrChains", fn := fun _ => fun
  | [d] => { results := [.lit (.bool false)], args := [d] }
  | _ => none }
def HdrChainsWrongFalsely : Prop := hdrChainsRow.holds Try.pinned (OpenSpec.ofChange hdrChainsWrong)

/-- 'slipwaylaw5.HdrTells': WHATEVER THE INPUT: true; the input reads as it did. -/
def hdrTellsSpec : ChangeSpec := { name := "hdrTells", fn := fun _ => fun
  | [d1, d2, d3, d4] => { results := [.lit (.bool true)], args := [d1, d2, d3, d4] }
  | _ => none }
def hdrTellsRow : OpenClaim := { program := "ytajcihcbgmpdjaa", sum := "50dd2ea6837815865d85e13437e3f85b5632b2d7552605acc1f91a5fc487923d", func := "slipway/slipwaylaw5.HdrTells", spec := "hdrTells", inPlace := ["internal/bytealg.IndexByteString", "internal/bytealg.IndexString"], named := ["internal/bytealg.MaxLen"], apart := false }
def HdrTellsSaid : Prop := hdrTellsRow.holds Try.pinned (OpenSpec.ofChange hdrTellsSpec)

/-- ITS FALSE NEIGHBOUR: 'it returns false'. Refute it at one input. -/
def hdrTellsWrong : ChangeSpec := { name := "hdrTells", fn := fun _ => fun
  | [d1, d2, d3, d4] => { results := [.lit (.bool false)], args := [d1, d2, d3, d4] }
  | _ => none }
def HdrTellsWrongFalsely : Prop := hdrTellsRow.holds Try.pinned (OpenSpec.ofChange hdrTellsWrong)

/-- 'slipwaylaw5.HdrFields': WHATEVER THE INPUT: true; the input reads as it did. -/
def hdrFieldsSpec : ChangeSpec := { name := "hdrFields", fn := fun _ => fun
  | [d] => { results := [.lit (.bool true)], args := [d] }
  | _ => none }
def hdrFieldsRow : OpenClaim := { program := "ytajcihcbgmpdjaa", sum := "50dd2ea6837815865d85e13437e3f85b5632b2d7552605acc1f91a5fc487923d", func := "slipway/slipwaylaw5.HdrFields", spec := "hdrFields", inPlace := ["internal/bytealg.IndexByteString", "internal/bytealg.IndexString"], named := ["internal/bytealg.MaxLen"], apart := false }
def HdrFieldsSaid : Prop := hdrFieldsRow.holds Try.pinned (OpenSpec.ofChange hdrFieldsSpec)

/-- ITS FALSE NEIGHBOUR: 'it returns false'. Refute it at one input. -/
def hdrFieldsWrong : ChangeSpec := { name := "hdrFields", fn := fun _ => fun
  | [d] => { results := [.lit (.bool false)], args := [d] }
  | _ => none }
def HdrFieldsWrongFalsely : Prop := hdrFieldsRow.holds Try.pinned (OpenSpec.ofChange hdrFieldsWrong)

/-- 'slipwaylaw5.HdrRounds': WHATEVER THE INPUT: true; the input reads as it did. -/
def hdrRoundsSpec : ChangeSpec := { name := "hdrRounds", fn := fun _ => fun
  | [d1, d2] => { results := [.lit (.bool true)], args := [d1, d2] }
  | _ => none }
def hdrRoundsRow : OpenClaim := { program := "ytajcihcbgmpdjaa", sum := "50dd2ea6837815865d85e13437e3f85b5632b2d7552605acc1f91a5fc487923d", func := "slipway/slipwaylaw5.HdrRounds", spec := "hdrRounds", inPlace := ["internal/bytealg.IndexByteString", "internal/bytealg.IndexString"], named := ["internal/bytealg.MaxLen"], apart := false }
def HdrRoundsSaid : Prop := hdrRoundsRow.holds Try.pinned (OpenSpec.ofChange hdrRoundsSpec)

/-- ITS FALSE NEIGHBOUR: 'it returns false'. Refute it at one input. -/
def hdrRoundsWrong : ChangeSpec := { name := "hdrRounds", fn := fun _ => fun
  | [d1, d2] => { results := [.lit (.bool false)], args := [d1, d2] }
  | _ => none }
def HdrRoundsWrongFalsely : Prop := hdrRoundsRow.holds Try.pinned (OpenSpec.ofChange hdrRoundsWrong)

/-- 'slipwaylaw5.HdrNumbers': WHATEVER THE INPUT: true; the input reads as it did. -/
def hdrNumbersSpec : ChangeSpec := { name := "hdrNumbers", fn := fun _ => fun
  | [d1, d2, d3, d4, d5, d6, d7] => { results := [.lit (.bool true)], args := [d1, d2, d3, d4, d5, d6, d7] }
  | _ => none }
def hdrNumbersRow : OpenClaim := { program := "ytajcihcbgmpdjaa", sum := "50dd2ea6837815865d85e13437e3f85b5632b2d7552605acc1f91a5fc487923d", func := "slipway/slipwaylaw5.HdrNumbers", spec := "hdrNumbers", inPlace := ["internal/bytealg.IndexByteString", "internal/bytealg.IndexString"], named := ["internal/bytealg.MaxLen"], apart := false }
def HdrNumbersSaid : Prop := hdrNumbersRow.holds Try.pinned (OpenSpec.ofChange hdrNumbersSpec)

/-- ITS FALSE NEIGHBOUR: 'it returns false'. Refute it at one input. -/
def hdrNumbersWrong : ChangeSpec := { name := "hdrNumbers", fn := fun _ => fun
  | [d1, d2, d3, d4, d5, d6, d7] => { results := [.lit (.bool false)], args := [d1, d2, d3, d4, d5, d6, d7] }
  | _ => none }
def HdrNumbersWrongFalsely : Prop := hdrNumbersRow.holds Try.pinned (OpenSpec.ofChange hdrNumbersWrong)

/-- 'slipwaylaw6.SectRights': WHATEVER THE INPUT: true; the input reads as it did. -/
def sectRightsSpec : ChangeSpec := { name := "sectRights", fn := fun _ => fun
  | [d] => { results := [.lit (.bool true)], args := [d] }
  | _ => none }
def sectRightsRow : OpenClaim := { program := "ytajcihcbgmpdjaa", sum := "50dd2ea6837815865d85e13437e3f85b5632b2d7552605acc1f91a5fc487923d", func := "slipway/slipwaylaw6.SectRights", spec := "sectRights", inPlace := ["internal/bytealg.IndexByteString", "internal/bytealg.IndexString"], named := ["internal/bytealg.MaxLen"], apart := false }
def SectRightsSaid : Prop := sectRightsRow.holds Try.pinned (OpenSpec.ofChange sectRightsSpec)

/-- ITS FALSE NEIGHBOUR: 'it returns false'. Refute it at one input. -/
def sectRightsWrong : ChangeSpec := { name := "sectRights", fn := fun _ => fun
  | [d] => { results := [.lit (.bool false)], args := [d] }
  | _ => none }
def SectRightsWrongFalsely : Prop := sectRightsRow.holds Try.pinned (OpenSpec.ofChange sectRightsWrong)

/-- 'slipwaylaw6.SectLays': WHATEVER THE INPUT: true; the input reads as it did. -/
def sectLaysSpec : ChangeSpec := { name := "sectLays", fn := fun _ => fun
  | [d] => { results := [.lit (.bool true)], args := [d] }
  | _ => none }
def sectLaysRow : OpenClaim := { program := "ytajcihcbgmpdjaa", sum := "50dd2ea6837815865d85e13437e3f85b5632b2d7552605acc1f91a5fc487923d", func := "slipway/slipwaylaw6.SectLays", spec := "sectLays", inPlace := ["internal/bytealg.IndexByteString", "internal/bytealg.IndexString"], named := ["internal/bytealg.MaxLen"], apart := false }
def SectLaysSaid : Prop := sectLaysRow.holds Try.pinned (OpenSpec.ofChange sectLaysSpec)

/-- ITS FALSE NEIGHBOUR: 'it returns false'. Refute it at one input. -/
def sectLaysWrong : ChangeSpec := { name := "sectLays", fn := fun _ => fun
  | [d] => { results := [.lit (.bool false)], args := [d] }
  | _ => none }
def SectLaysWrongFalsely : Prop := sectLaysRow.holds Try.pinned (OpenSpec.ofChange sectLaysWrong)

/- THE SECOND FORM. 'bulk': how many values and letters a reading holds, each counted each time it is reached (what is shared counts as often as it is met; a slice's spare places count too). A statement '..UptoSaid' is the law's where the arguments, and the package variables that the reading takes, are together of bulk at most 1048576: NARROWER than '..Said'. Prove '..Said' where nothing that the law and all that it calls make is longer than what came in: it says more and counts as full. Else prove '..UptoSaid'. A law counts once. -/
mutual
def uptoBulk {H : Type} : DataW H → Nat
  | .lit (.string bytes) => bytes.length + 1
  | .lit _ => 1
  | .nil => 1
  | .ptr d => uptoBulk d + 1
  | .slice elems spare => uptoBulkAll elems + uptoBulkAll spare + 1
  | .agg parts => uptoBulkAll parts + 1
  | .iface _ d => uptoBulk d + 1
  | .map entries => uptoBulkEntries entries + 1
  | .held _ => 1
def uptoBulkAll {H : Type} : List (DataW H) → Nat
  | [] => 0
  | d :: r => uptoBulk d + uptoBulkAll r
def uptoBulkEntries {H : Type} : List (Lit × DataW H) → Nat
  | [] => 0
  | x :: r => uptoBulkEntry x + uptoBulkEntries r
def uptoBulkEntry {H : Type} : Lit × DataW H → Nat
  | (.string bytes, d) => bytes.length + uptoBulk d + 1
  | (_, d) => uptoBulk d + 1
 end
def uptoSmall : (H : Type) → List (DataW H) → Bool := fun _ ds => decide (uptoBulkAll ds ≤ 1048576)
def OpenSpec.upto (s : _root_.Go.ChangeSpec) : _root_.Go.OpenSpec := { _root_.Go.OpenSpec.ofChange s with cond := some uptoSmall }

/-- 'slipwaylaw5.HdrCuts', WHERE WHAT IT READS IS OF BULK AT MOST 1048576: true; the input reads as it did. -/
def hdrCutsUptoRow : OpenClaim := { program := "ytajcihcbgmpdjaa", sum := "50dd2ea6837815865d85e13437e3f85b5632b2d7552605acc1f91a5fc487923d", func := "slipway/slipwaylaw5.HdrCuts", spec := "hdrCuts", inPlace := ["internal/bytealg.IndexByteString", "internal/bytealg.IndexString"], named := ["internal/bytealg.MaxLen"], apart := false, narrowed := true }
def HdrCutsUptoSaid : Prop := hdrCutsUptoRow.holds Try.pinned (OpenSpec.upto hdrCutsSpec)

/-- 'slipwaylaw5.HdrChains', WHERE WHAT IT READS IS OF BULK AT MOST 1048576: true; the input reads as it did. -/
def hdrChainsUptoRow : OpenClaim := { program := "ytajcihcbgmpdjaa", sum := "50dd2ea6837815865d85e13437e3f85b5632b2d7552605acc1f91a5fc487923d", func := "slipway/slipwaylaw5.HdrChains", spec := "hdrChains", inPlace := ["internal/bytealg.IndexByteString", "internal/bytealg.IndexString"], named := ["internal/bytealg.MaxLen"], apart := false, narrowed := true }
def HdrChainsUptoSaid : Prop := hdrChainsUptoRow.holds Try.pinned (OpenSpec.upto hdrChainsSpec)

/-- 'slipwaylaw5.HdrTells', WHERE WHAT IT READS IS OF BULK AT MOST 1048576: true; the input reads as it did. -/
def hdrTellsUptoRow : OpenClaim := { program := "ytajcihcbgmpdjaa", sum := "50dd2ea6837815865d85e13437e3f85b5632b2d7552605acc1f91a5fc487923d", func := "slipway/slipwaylaw5.HdrTells", spec := "hdrTells", inPlace := ["internal/bytealg.IndexByteString", "internal/bytealg.IndexString"], named := ["internal/bytealg.MaxLen"], apart := false, narrowed := true }
def HdrTellsUptoSaid : Prop := hdrTellsUptoRow.holds Try.pinned (OpenSpec.upto hdrTellsSpec)

/-- 'slipwaylaw5.HdrFields', WHERE WHAT IT READS IS OF BULK AT MOST 1048576: true; the input reads as it did. -/
def hdrFieldsUptoRow : OpenClaim := { program := "ytajcihcbgmpdjaa", sum := "50dd2ea6837815865d85e13437e3f85b5632b2d7552605acc1f91a5fc487923d", func := "slipway/slipwaylaw5.HdrFields", spec := "hdrFields", inPlace := ["internal/bytealg.IndexByteString", "internal/bytealg.IndexString"], named := ["internal/bytealg.MaxLen"], apart := false, narrowed := true }
def HdrFieldsUptoSaid : Prop := hdrFieldsUptoRow.holds Try.pinned (OpenSpec.upto hdrFieldsSpec)

/-- 'slipwaylaw5.HdrRounds', WHERE WHAT IT READS IS OF BULK AT MOST 1048576: true; the input reads as it did. -/
def hdrRoundsUptoRow : OpenClaim := { program := "ytajcihcbgmpdjaa", sum := "50dd2ea6837815865d85e13437e3f85b5632b2d7552605acc1f91a5fc487923d", func := "slipway/slipwaylaw5.HdrRounds", spec := "hdrRounds", inPlace := ["internal/bytealg.IndexByteString", "internal/bytealg.IndexString"], named := ["internal/bytealg.MaxLen"], apart := false, narrowed := true }
def HdrRoundsUptoSaid : Prop := hdrRoundsUptoRow.holds Try.pinned (OpenSpec.upto hdrRoundsSpec)

/-- 'slipwaylaw5.HdrNumbers', WHERE WHAT IT READS IS OF BULK AT MOST 1048576: true; the input reads as it did. -/
def hdrNumbersUptoRow : OpenClaim := { program := "ytajcihcbgmpdjaa", sum := "50dd2ea6837815865d85e13437e3f85b5632b2d7552605acc1f91a5fc487923d", func := "slipway/slipwaylaw5.HdrNumbers", spec := "hdrNumbers", inPlace := ["internal/bytealg.IndexByteString", "internal/bytealg.IndexString"], named := ["internal/bytealg.MaxLen"], apart := false, narrowed := true }
def HdrNumbersUptoSaid : Prop := hdrNumbersUptoRow.holds Try.pinned (OpenSpec.upto hdrNumbersSpec)

/-- 'slipwaylaw6.SectRights', WHERE WHAT IT READS IS OF BULK AT MOST 1048576: true; the input reads as it did. -/
def sectRightsUptoRow : OpenClaim := { program := "ytajcihcbgmpdjaa", sum := "50dd2ea6837815865d85e13437e3f85b5632b2d7552605acc1f91a5fc487923d", func := "slipway/slipwaylaw6.SectRights", spec := "sectRights", inPlace := ["internal/bytealg.IndexByteString", "internal/bytealg.IndexString"], named := ["internal/bytealg.MaxLen"], apart := false, narrowed := true }
def SectRightsUptoSaid : Prop := sectRightsUptoRow.holds Try.pinned (OpenSpec.upto sectRightsSpec)

/-- 'slipwaylaw6.SectLays', WHERE WHAT IT READS IS OF BULK AT MOST 1048576: true; the input reads as it did. -/
def sectLaysUptoRow : OpenClaim := { program := "ytajcihcbgmpdjaa", sum := "50dd2ea6837815865d85e13437e3f85b5632b2d7552605acc1f91a5fc487923d", func := "slipway/slipwaylaw6.SectLays", spec := "sectLays", inPlace := ["internal/bytealg.IndexByteString", "internal/bytealg.IndexString"], named := ["internal/bytealg.MaxLen"], apart := false, narrowed := true }
def SectLaysUptoSaid : Prop := sectLaysUptoRow.holds Try.pinned (OpenSpec.upto sectLaysSpec)

end Rows
end Go.Proofs.Ytajcihcbgmpdjaa
