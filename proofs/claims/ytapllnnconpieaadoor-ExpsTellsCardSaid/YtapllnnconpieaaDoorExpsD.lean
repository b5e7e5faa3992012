/- exps: what a directory tells. -/
import Derived.Test.YtapllnnconpieaaDoorExpsN
set_option linter.unusedVariables false
namespace Go.Proofs.YtapllnnconpieaaDoor
open Go.RowKit

/-- What an image offers. -/
structure ExpsD where
  base : Int
  funcs : List FuncD
  names : List NamedD
def fcells (xs : List FuncD) : List Value := xs.flatMap fun x => [.int .i64 x.rva, .string (S x.fwd)]
theorem fcells_snoc (xs : List FuncD) (x : FuncD) : fcells (xs ++ [x]) = fcells xs ++ [.int .i64 x.rva, .string (S x.fwd)] := by simp [fcells]
def fnVs (l : List UInt8) (dr ds at' : Int) : Nat → List FuncD
  | 0 => []
  | i + 1 => fnVs l dr ds at' i ++ [fnV l dr ds (numAt l (at' + 4 * i) 4)]
def fnBads (l : List UInt8) (dr ds at' : Int) : Nat → Bool
  | 0 => false
  | i + 1 => fnBads l dr ds at' i || fnBad l dr ds (numAt l (at' + 4 * i) 4)
theorem fnVs_length (l : List UInt8) (dr ds at' : Int) : ∀ n, (fnVs l dr ds at' n).length = n
  | 0 => rfl
  | n + 1 => by simp [fnVs, fnVs_length l dr ds at' n]

def rowB (l : List UInt8) (at' : Int) (k sz : Nat) : Bool := decide ((k : Int) = 0) || inB l.length at' ((k : Int) * sz)
/-- What a directory tells, its numbers known; none: something is wrong. -/
def parseX2 (l : List UInt8) (dr ds : Int) (base nf nn at' tx ix : Nat) : Option ExpsD :=
  if 65535 < base ∨ 256 < nf ∨ 256 < nn ∨ 65536 < base + nf then none
  else if rowB l at' nf 4 = true ∧ rowB l tx nn 4 = true ∧ rowB l ix nn 2 = true then
    if fnBads l dr ds at' nf = false ∧ nmBads l tx ix nf nn = false then some ⟨base, fnVs l dr ds at' nf, nmVs l tx ix nn⟩ else none
  else none
def parseX1 (l : List UInt8) (dr ds : Int) : Option ExpsD :=
  if 40 ≤ ds ∧ inB l.length dr ds = true then parseX2 l dr ds (numAt l (dr + 16) 4) (numAt l (dr + 20) 4) (numAt l (dr + 24) 4) (numAt l (dr + 28) 4) (numAt l (dr + 32) 4) (numAt l (dr + 36) 4) else none
def parseX (l : List UInt8) (dr ds : Int) : Option ExpsD := if dr = 0 then some ⟨0, [], []⟩ else parseX1 l dr ds

/-- What Parse hands back. -/
def ExpsRes (r : Option ExpsD) (N : Nat) (e : Ending) (w' : World) : Prop :=
  match r with
  | none => e = .returned (.tuple #[.agg #[.int .i64 0, .slice none 0 0, .slice none 0 0], .int .i64 11])
  | some x => ∃ fv nv, e = .returned (.tuple #[.agg #[.int .i64 x.base, fv, nv], .int .i64 0]) ∧ w'.ownsRow N 52 2 fv x.funcs.length (fcells x.funcs) ∧ w'.ownsRow N 57 2 nv x.names.length (ncells x.names)

theorem infoFunc : (Tryd.prog.info? 52).map (fun i => (i.zero, i.size, i.bytes)) = some (some (.agg #[.int .i64 0, .string ⟨#[]⟩]), 2, 24) := by kernel_rfl
theorem expsInfo : (Tryd.prog.info? 47).map (·.size) = some 3 := by kernel_rfl
abbrev exZ : Array Value := #[.int .i64 0, .slice none 0 0, .slice none 0 0]

end Go.Proofs.YtapllnnconpieaaDoor
