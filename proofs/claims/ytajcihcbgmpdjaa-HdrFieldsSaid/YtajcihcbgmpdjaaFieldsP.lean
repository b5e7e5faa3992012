/- HdrFields: the table, and what Parse tells of each of its images. -/
import Derived.Test.YtajcihcbgmpdjaaMadeS
namespace Go.Proofs.Ytajcihcbgmpdjaa
open Go.RowKit

/-- A field: its place, its bytes, a number that may be, one that may not, and what is told. -/
structure FieldD where
  pt : Nat
  n : Nat
  good : Nat
  bad : Nat
  e : Nat

def fieldsT : List FieldD := [⟨0, 2, 23117, 23118, 3⟩, ⟨60, 4, 64, 66, 2⟩, ⟨60, 4, 64, 60, 2⟩, ⟨64, 4, 17744, 17745, 3⟩, ⟨68, 2, 34404, 332, 4⟩, ⟨84, 2, 240, 224, 5⟩, ⟨88, 2, 523, 267, 5⟩, ⟨196, 4, 16, 15, 5⟩, ⟨120, 4, 4096, 8192, 6⟩, ⟨124, 4, 512, 1024, 6⟩,
  ⟨112, 8, 35184372088832, 35184372154368, 6⟩, ⟨112, 8, 131072, 65537, 6⟩, ⟨112, 8, 65536, 0, 6⟩, ⟨144, 4, 8192, 8191, 6⟩, ⟨144, 4, 8192, 266240, 6⟩, ⟨70, 2, 1, 0, 7⟩, ⟨70, 2, 1, 17, 7⟩, ⟨148, 4, 368, 367, 7⟩, ⟨148, 4, 1024, 4097, 7⟩, ⟨336, 4, 4096, 4097, 7⟩,
  ⟨336, 4, 1, 0, 7⟩, ⟨340, 4, 4096, 8192, 7⟩, ⟨344, 4, 512, 513, 7⟩, ⟨344, 4, 512, 4608, 7⟩, ⟨348, 4, 1024, 1025, 7⟩, ⟨104, 4, 8191, 8192, 5⟩]

def isOk (r : Except Int HeadD) : Bool := match r with | .ok _ => true | .error _ => false
def isErr (r : Except Int HeadD) (e : Int) : Bool := match r with | .ok _ => false | .error x => x == e

def fieldOk (M : List UInt8) (f : FieldD) : Bool :=
  decide (f.pt ≤ 1000) && decide (1 ≤ f.n) && decide (f.n ≤ 8) && decide (f.good < 18446744073709551616) && decide (f.bad < 18446744073709551616) && decide (f.e ≤ 27) && isOk (parseF (putF M f.pt f.n f.good)) && isErr (parseF (putF M f.pt f.n f.bad)) f.e

theorem fields_ok : fieldsT.all (fieldOk (madeF [] [])) = true := by decide +kernel
end Go.Proofs.Ytajcihcbgmpdjaa
