/- slipwaylaw5.Made: what it computes. -/
import Derived.Test.YtajcihcbgmpdjaaHead
import Derived.Test.YtajcihcbgmpdjaaPut
import Derived.Test.YtajcihcbgmpdjaaCopy
namespace Go.Proofs.Ytajcihcbgmpdjaa
open Go.RowKit

/-- The bytes ahead of the sections; n sections are said to be there. -/
def made0 (n : Nat) : List UInt8 :=
  let b := splL (zer 1024) 0 [77, 90]
  let b := putF b 60 4 64
  let b := splL b 64 [80, 69, 0, 0]
  let b := putF b 68 2 34404
  let b := putF b 70 2 n
  let b := putF b 72 4 77
  let b := putF b 84 2 240
  let b := putF b 86 2 8226
  let b := putF b 88 2 523
  let b := putF b 112 8 65536
  let b := putF b 120 4 4096
  let b := putF b 124 4 512
  let b := putF b 148 4 1024
  putF b 196 4 16

/-- A section's numbers: how many bytes it has; how many of them are there; its rights. -/
def secV (x : Int × Int × Int) : Nat := (bits .and .i64 x.1 16383 + 1).toNat
def secFull (x : Int × Int × Int) : Nat := (roundF (secV x) 4096).toNat
def secRaw (x : Int × Int × Int) : Nat := (bits .and .i64 x.2.1 8191).toNat / 512 * 512 % (secFull x + 512)
def secCh (x : Int × Int × Int) : Nat := (bits .and .i64 x.2.2 7).toNat * 536870912

/-- The bytes of a section. -/
def secMore (i n : Nat) : List UInt8 := (List.range n).map fun k => UInt8.ofNat (k * 7 + i + 1)

/-- One section more. -/
def madeStep (b : List UInt8) (rva i : Nat) (x : Int × Int × Int) : List UInt8 :=
  let p := 328 + 40 * i
  let b := b.set p 115
  let b := b.set (p + 1) (UInt8.ofNat (48 + i))
  let b := putF b (p + 8) 4 (secV x)
  let b := putF b (p + 12) 4 rva
  let b := putF b (p + 16) 4 (secRaw x)
  let b := putF b (p + 20) 4 b.length
  let b := putF b (p + 36) 4 (secCh x)
  b ++ secMore i (secRaw x)

def madeGo : List (Int × Int × Int) → Nat → Nat → List UInt8 → List UInt8 × Nat
  | [], _, rva, b => (b, rva)
  | x :: xs, i, rva, b => madeGo xs (i + 1) (rva + secFull x) (madeStep b rva i x)

def turnsF : List (Int × Int × Nat) → List UInt8 → List UInt8
  | [], b => b
  | t :: ts, b => turnsF ts (putF b (bits .and .i64 t.1 1023).toNat ((bits .and .i64 t.2.1 7).toNat + 1) t.2.2)

/-- The sections that are made: at least one, at most six. -/
def sectsOf (xs : List (Int × Int × Int)) : List (Int × Int × Int) := (if xs = [] then [(16, 512, 3)] else xs).take 6

def madeF (xs : List (Int × Int × Int)) (ts : List (Int × Int × Nat)) : List UInt8 :=
  let g := madeGo (sectsOf xs) 0 4096 (made0 (sectsOf xs).length)
  turnsF (ts.take 4) (putF g.1 144 4 g.2)

/-- The image of one section, looked at. -/
def headSays (r : Except Int HeadD) : List Int :=
  match r with
  | .error e => [e]
  | .ok h => [(0 : Int), h.base, h.size, h.entry, h.headers, h.sects.length, h.chars, h.stamp] ++ (h.sects.map fun s => [(s.vs : Int), s.rva, s.raw, s.pt, s.ch]).flatten

theorem made_nil : headSays (parseF (madeF [] [])) = [0, 65536, 8192, 0, 1024, 1, 8226, 77, 17, 4096, 512, 1024, 1610612736] := by decide +kernel
end Go.Proofs.Ytajcihcbgmpdjaa
