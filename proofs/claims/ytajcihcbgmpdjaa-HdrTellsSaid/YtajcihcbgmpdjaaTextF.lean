/- A text up to a nought. -/
import Derived.Test.YtajcihcbgmpdjaaBase
import Derived.Lib.Bytealg
set_option linter.unusedVariables false
namespace Go.Proofs.Ytajcihcbgmpdjaa
open Go.RowKit

/-- A text up to a nought; none: there is none. -/
def textF (l : List UInt8) (at' most : Int) : Option (List UInt8) :=
  if 0 ≤ at' ∧ at' < l.length then
    if 0 ≤ Lib.indexByte (l.drop at'.toNat) 0 ∧ Lib.indexByte (l.drop at'.toNat) 0 ≤ most then some ((l.drop at'.toNat).take (Lib.indexByte (l.drop at'.toNat) 0).toNat) else none
  else none
def textV (o : Option (List UInt8)) : Value := .tuple #[.string (S (o.getD [])), .bool o.isSome]

theorem indexByte_len (l : List UInt8) (c : UInt8) : Lib.indexByte l c < l.length ∨ Lib.indexByte l c = -1 := by
  induction l with
  | nil => right; rfl
  | cons b l ih =>
    have hg := Lib.indexByte_ge l c
    unfold Lib.indexByte
    by_cases h : (b == c) = true
    · rw [if_pos h]; left; simp
    · rw [if_neg h]
      rcases ih with h1 | h1
      · split
        · right; rfl
        · left; simp; omega
      · rw [h1]; simp

end Go.Proofs.Ytajcihcbgmpdjaa
