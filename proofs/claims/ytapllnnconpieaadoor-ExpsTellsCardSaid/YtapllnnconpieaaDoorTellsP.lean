/- ExpsTells: plain laws. -/
import Derived.Test.YtapllnnconpieaaDoorAwake7
import Derived.Test.YtapllnnconpieaaDoorRefExpsP
set_option linter.unusedVariables false
namespace Go.Proofs.YtapllnnconpieaaDoor
open Go.RowKit

def exN0 : ExpsD := ⟨0, [], []⟩
/-- A directory's answer as a value, whichever it is. -/
def codeX (r : Option ExpsD) : Int := if r.isSome then 0 else 11
structure SmallX (x : ExpsD) : Prop where
  b0 : 0 ≤ x.base
  b1 : x.base ≤ 65535
  f : x.funcs.length ≤ 256
  n : x.names.length ≤ 256
theorem small_parse (l : List UInt8) (dr ds : Int) : SmallX ((parseX l dr ds).getD exN0) := by
  have z : SmallX exN0 := ⟨by show (0 : Int) ≤ 0; omega, by show (0 : Int) ≤ 65535; omega, by show 0 ≤ 256; omega, by show 0 ≤ 256; omega⟩
  unfold parseX
  split
  · exact z
  · unfold parseX1
    split
    · unfold parseX2
      split
      · exact z
      · rename_i hk
        split
        · split
          · refine ⟨?_, ?_, ?_, ?_⟩
            · show (0 : Int) ≤ (numAt l (dr + 16) 4 : Nat); omega
            · show ((numAt l (dr + 16) 4 : Nat) : Int) ≤ 65535; omega
            · show (fnVs _ _ _ _ _).length ≤ 256
              rw [fnVs_length]
              omega
            · show (nmVs _ _ _ _).length ≤ 256
              rw [nmVs_length]
              omega
          · exact z
        · exact z
    · exact z
theorem expsRes_ex {r : Option ExpsD} {N : Nat} {e : Ending} {w' : World} (h : ExpsRes r N e w') (hs : SmallX (r.getD exN0)) :
    ∃ FA fc NA nc, e = .returned (.tuple #[.agg #[.int .i64 (r.getD exN0).base, .slice FA (r.getD exN0).funcs.length fc, .slice NA (r.getD exN0).names.length nc], .int .i64 (codeX r)]) ∧
      ExV w' (r.getD exN0) (.agg #[.int .i64 (r.getD exN0).base, .slice FA (r.getD exN0).funcs.length fc, .slice NA (r.getD exN0).names.length nc]) := by
  cases r with
  | none => exact ⟨none, 0, none, 0, h, ⟨⟨none, 0, none, 0, rfl, Row.nil _ _, Row.nil _ _, Nat.le_refl _, Nat.le_refl _⟩, by show 0 ≤ 140737488355328; omega, by show 0 ≤ 140737488355328; omega⟩⟩
  | some x =>
    obtain ⟨fv, nv, rfl, of, on⟩ := h
    have ex := exv_own of on (by have := hs.f; simp at this; omega) (by have := hs.n; simp at this; omega)
    obtain ⟨FA, fc, rfl, -, -⟩ := own_row of
    obtain ⟨NA, nc, rfl, -, -⟩ := own_row on
    exact ⟨FA, fc, NA, nc, rfl, ex⟩
theorem find_ordN (x : ExpsD) (nm : List UInt8) (od : Int) : findX x ⟨[], od, true⟩ = findX x ⟨nm, od, true⟩ := rfl
theorem find_nameN (x : ExpsD) (nm : List UInt8) (od : Int) : findX x ⟨nm, 0, false⟩ = findX x ⟨nm, od, false⟩ := rfl
theorem atF_length (start : Nat) (funcs names : List (List UInt8)) (base : Nat) : start + 40 ≤ (atF start funcs names base).length := by
  have h1 : ∀ (ss : List (List UInt8)) (i : Nat) (b : List UInt8), b.length ≤ (atFns start ss i b).length := by
    intro ss
    induction ss with
    | nil => intro i b; exact Nat.le_refl _
    | cons s ss ih =>
      intro i b
      have := (atFn_length start b i s).1
      have := ih (i + 1) (atFn start b i s)
      show b.length ≤ (atFns start ss (i + 1) (atFn start b i s)).length
      omega
  have h2 : ∀ (n m : Nat) (ss : List (List UInt8)) (i : Nat) (b : List UInt8), b.length ≤ (atNms start n m ss i b).length := by
    intro n m ss
    induction ss with
    | nil => intro i b; exact Nat.le_refl _
    | cons s ss ih =>
      intro i b
      have := atNm_length start n m b i s
      have := ih (i + 1) (atNm start n m b i s)
      show b.length ≤ (atNms start n m ss (i + 1) (atNm start n m b i s)).length
      omega
  unfold atF atB
  refine Nat.le_trans ?_ (h2 _ _ _ _ _)
  refine Nat.le_trans ?_ (h1 _ _ _)
  rw [atHead_length]
  omega
end Go.Proofs.YtapllnnconpieaaDoor
