/-
  No cell of these rows narrows 'for every input' (looked for: loops, veiled, ifaces, maps, wideKeys, modest, calm, conditions, laid).
  DERIVED. THE GIVEN ROWS OF THIS SEAT. 3 by the template 'for every input the law returns true; each argument reads behind the call as it read before'; 0 by the template 'total and deterministic' (their statements: YtnbhmcbhpkjgcaaTotals.lean).
  GIVEN WITH THE SEED: the statements are not yours to turn. If you find one false, say at which input.
  Laid BY PROGRAM, IN A SANDBOX (cutbox-rows.mjs): the forced cells as the released guide's own fill.sh prints them over the translation 34badaf0c72ac452… (all of the seat's roots in one cut). By AI agents, Wed Nov 11 2026. No macro, syntax, notation, axiom, sorry.
-/
import Derived.Test.YtnbhmcbhpkjgcaaChecked
import GoSem.Claim
import GoSem.ClaimJoined
import GoSem.ClaimMapViews
import Derived.JoinedTies
import Derived.KernelRfl
namespace Go.Proofs.Ytnbhmcbhpkjgcaa
/- THE CELL 'sum', in the pinned program and in every row, IS THE sha256 OF THE DUMP (.gsa) THAT YtnbhmcbhpkjgcaaProg.lean LOADS. Nothing in Lean hashes anything: it is a label: what it is worth is what the hold of that sum in a sandbox is worth. -/
noncomputable def Try.pinned : Pinned := { name := "ytnbhmcbhpkjgcaa", sum := "34badaf0c72ac452344fa8a120eef7b845b512ce6c1c11865c4d3a5c70303d12", checked := Try.checked }
namespace Rows
def none {H : Type} : Left H := { results := [], args := [] }

/-- 'slipwaylaw23.GatesApart': WHATEVER THE INPUT: true; the input reads as it did. -/
def gatesApartSpec : ChangeSpec := { name := "gatesApart", fn := fun _ => fun
  | [d1, d2, d3, d4] => { results := [.lit (.bool true)], args := [d1, d2, d3, d4] }
  | _ => none }
def gatesApartRow : OpenClaim := { program := "ytnbhmcbhpkjgcaa", sum := "34badaf0c72ac452344fa8a120eef7b845b512ce6c1c11865c4d3a5c70303d12", func := "slipway/slipwaylaw23.GatesApart", spec := "gatesApart", apart := false }
def GatesApartSaid : Prop := gatesApartRow.holds Try.pinned (OpenSpec.ofChange gatesApartSpec)

/-- ITS FALSE NEIGHBOUR: 'it returns false'. Refute it at one input. -/
def gatesApartWrong : ChangeSpec := { name := "gatesApart", fn := fun _ => fun
  | [d1, d2, d3, d4] => { results := [.lit (.bool false)], args := [d1, d2, d3, d4] }
  | _ => none }
def GatesApartWrongFalsely : Prop := gatesApartRow.holds Try.pinned (OpenSpec.ofChange gatesApartWrong)

/-- 'slipwaylaw11.TlsBases': WHATEVER THE INPUT: true; the input reads as it did. -/
def tlsBasesSpec : ChangeSpec := { name := "tlsBases", fn := fun _ => fun
  | [d1, d2, d3, d4] => { results := [.lit (.bool true)], args := [d1, d2, d3, d4] }
  | _ => none }
def tlsBasesRow : OpenClaim := { program := "ytnbhmcbhpkjgcaa", sum := "34badaf0c72ac452344fa8a120eef7b845b512ce6c1c11865c4d3a5c70303d12", func := "slipway/slipwaylaw11.TlsBases", spec := "tlsBases", apart := false }
def TlsBasesSaid : Prop := tlsBasesRow.holds Try.pinned (OpenSpec.ofChange tlsBasesSpec)

/-- ITS FALSE NEIGHBOUR: 'it returns false'. Refute it at one input. -/
def tlsBasesWrong : ChangeSpec := { name := "tlsBases", fn := fun _ => fun
  | [d1, d2, d3, d4] => { results := [.lit (.bool false)], args := [d1, d2, d3, d4] }
  | _ => none }
def TlsBasesWrongFalsely : Prop := tlsBasesRow.holds Try.pinned (OpenSpec.ofChange tlsBasesWrong)

/-- 'slipwaylaw23.GatesPlay': WHATEVER THE INPUT: true; the input reads as it did. -/
def gatesPlaySpec : ChangeSpec := { name := "gatesPlay", fn := fun _ => fun
  | [d] => { results := [.lit (.bool true)], args := [d] }
  | _ => none }
def gatesPlayRow : OpenClaim := { program := "ytnbhmcbhpkjgcaa", sum := "34badaf0c72ac452344fa8a120eef7b845b512ce6c1c11865c4d3a5c70303d12", func := "slipway/slipwaylaw23.GatesPlay", spec := "gatesPlay", unfollowed := true, recurses := true, apart := false }
def GatesPlaySaid : Prop := gatesPlayRow.holds Try.pinned (OpenSpec.ofChange gatesPlaySpec)

/-- ITS FALSE NEIGHBOUR: 'it returns false'. Refute it at one input. -/
def gatesPlayWrong : ChangeSpec := { name := "gatesPlay", fn := fun _ => fun
  | [d] => { results := [.lit (.bool false)], args := [d] }
  | _ => none }
def GatesPlayWrongFalsely : Prop := gatesPlayRow.holds Try.pinned (OpenSpec.ofChange gatesPlayWrong)

/- THE SECOND FORM. 'bulk': how many values and letters a reading holds, each counted each time it is reached (what is shared counts as often as it is met; a slice's spare places count too). A statement '..UptoSaid' is the law's where the arguments, and the package variables that the reading takes, are together of bulk at most 1048576: NARROWER than '..Said'. Prove '..Said' where nothing that the law and all that it calls make is longer than what came in: it says more and counts as full. Else prove '..UptoSaid'. A law counts once. -/
mutual
def uptoBulk {H : Type} : DataW H → Nat
  | .lit (.string bytes) => bytes.length + 1
  | .lit _ => 1
  | .nil => 1
  | .ptr d => uptoBulk d + 1
  | .slice elems spare => uptoBulkAll elems + uptoBulkAll spare + 1
  | .agg parts => uptoBulkAll parts + 1
  | .iface _ d => uptoBulk d + 1
  | .map entries => uptoBulkEntries entries + 1
  | .held _ => 1
def uptoBulkAll {H : Type} : List (DataW H) → Nat
  | [] => 0
  | d :: r => uptoBulk d + uptoBulkAll r
def uptoBulkEntries {H : Type} : List (Lit × DataW H) → Nat
  | [] => 0
  | x :: r => uptoBulkEntry x + uptoBulkEntries r
def uptoBulkEntry {H : Type} : Lit × DataW H → Nat
  | (.string bytes, d) => bytes.length + uptoBulk d + 1
  | (_, d) => uptoBulk d + 1
 end
def uptoSmall : (H : Type) → List (DataW H) → Bool := fun _ ds => decide (uptoBulkAll ds ≤ 1048576)
def OpenSpec.upto (s : _root_.Go.ChangeSpec) : _root_.Go.OpenSpec := { _root_.Go.OpenSpec.ofChange s with cond := some uptoSmall }

/-- 'slipwaylaw23.GatesApart', WHERE WHAT IT READS IS OF BULK AT MOST 1048576: true; the input reads as it did. -/
def gatesApartUptoRow : OpenClaim := { program := "ytnbhmcbhpkjgcaa", sum := "34badaf0c72ac452344fa8a120eef7b845b512ce6c1c11865c4d3a5c70303d12", func := "slipway/slipwaylaw23.GatesApart", spec := "gatesApart", apart := false, narrowed := true }
def GatesApartUptoSaid : Prop := gatesApartUptoRow.holds Try.pinned (OpenSpec.upto gatesApartSpec)

/-- 'slipwaylaw11.TlsBases', WHERE WHAT IT READS IS OF BULK AT MOST 1048576: true; the input reads as it did. -/
def tlsBasesUptoRow : OpenClaim := { program := "ytnbhmcbhpkjgcaa", sum := "34badaf0c72ac452344fa8a120eef7b845b512ce6c1c11865c4d3a5c70303d12", func := "slipway/slipwaylaw11.TlsBases", spec := "tlsBases", apart := false, narrowed := true }
def TlsBasesUptoSaid : Prop := tlsBasesUptoRow.holds Try.pinned (OpenSpec.upto tlsBasesSpec)

/-- 'slipwaylaw23.GatesPlay', WHERE WHAT IT READS IS OF BULK AT MOST 1048576: true; the input reads as it did. -/
def gatesPlayUptoRow : OpenClaim := { program := "ytnbhmcbhpkjgcaa", sum := "34badaf0c72ac452344fa8a120eef7b845b512ce6c1c11865c4d3a5c70303d12", func := "slipway/slipwaylaw23.GatesPlay", spec := "gatesPlay", unfollowed := true, recurses := true, apart := false, narrowed := true }
def GatesPlayUptoSaid : Prop := gatesPlayUptoRow.holds Try.pinned (OpenSpec.upto gatesPlaySpec)

end Rows
end Go.Proofs.Ytnbhmcbhpkjgcaa
