/- What the document's Exports asks: plain laws. -/
import Derived.Test.YtapllnnconpieaaDoorExpsD
set_option linter.unusedVariables false
namespace Go.Proofs.YtapllnnconpieaaDoor
open Go.RowKit

theorem less_tri : ∀ a b : List UInt8, (!Op.bytesLess a b) = (Op.bytesLess b a || b == a)
  | [], [] => rfl
  | [], _ :: _ => rfl
  | _ :: _, [] => rfl
  | x :: a, y :: b => by
    have ih := less_tri a b
    simp only [Op.bytesLess]
    rcases Nat.lt_trichotomy x.toNat y.toNat with h | h | h
    · have h1 : (decide (x < y)) = true := by simpa [UInt8.lt_iff_toNat_lt] using h
      have h2 : (decide (y < x)) = false := by simp [UInt8.lt_iff_toNat_lt]; omega
      have h3 : (y == x) = false := by
        rw [beq_eq_false_iff_ne]
        rintro rfl
        omega
      have h4 : (y :: b == x :: a) = false := by
        rw [beq_eq_false_iff_ne]
        intro e
        simp only [List.cons.injEq] at e
        rw [e.1] at h
        omega
      rw [h1, h2, h3, h4]
      rfl
    · obtain rfl : x = y := UInt8.toNat_inj.1 h
      have h1 : (decide (x < x)) = false := by simp [UInt8.lt_iff_toNat_lt]
      have h3 : (x == x) = true := by simp
      have h4 : (x :: b == x :: a) = (b == a) := by simp [List.cons_beq_cons]
      rw [h1, h3, h4, Bool.false_or, Bool.true_and, Bool.false_or, Bool.true_and, ih]
    · have h1 : (decide (x < y)) = false := by simp [UInt8.lt_iff_toNat_lt]; omega
      have h2 : (decide (y < x)) = true := by simpa [UInt8.lt_iff_toNat_lt] using h
      have h3 : (x == y) = false := by
        rw [beq_eq_false_iff_ne]
        rintro rfl
        omega
      rw [h1, h2, h3]
      rfl

theorem fnBads_mem (l : List UInt8) (dr ds at' : Int) : ∀ n j : Nat, j < n → fnBad l dr ds (numAt l (at' + 4 * j) 4) = true → fnBads l dr ds at' n = true
  | 0, j, h, _ => by omega
  | n + 1, j, h, hb => by
    rw [fnBads]
    by_cases hj : j = n
    · subst hj
      rw [hb, Bool.or_true]
    · rw [fnBads_mem l dr ds at' n j (by omega) hb, Bool.true_or]
theorem nmBads_mem (l : List UInt8) (tx ix : Int) (nf : Nat) : ∀ n j : Nat, j < n → nmBad l tx ix nf j = true → nmBads l tx ix nf n = true
  | 0, j, h, _ => by omega
  | n + 1, j, h, hb => by
    rw [nmBads]
    by_cases hj : j = n
    · subst hj
      rw [hb, Bool.or_true]
    · rw [nmBads_mem l tx ix nf n j (by omega) hb, Bool.true_or]

/-- Whether the numbers of a directory are bad. -/
def numsBad (l : List UInt8) (base nf nn at' tx ix : Nat) : Bool :=
  decide (65535 < base ∨ 256 < nf ∨ 256 < nn ∨ 65536 < base + nf) || !(rowB l at' nf 4 && rowB l tx nn 4 && rowB l ix nn 2)
theorem parseX2_bad {l : List UInt8} {dr ds : Int} {base nf nn at' tx ix : Nat} (h : numsBad l base nf nn at' tx ix = true) : parseX2 l dr ds base nf nn at' tx ix = none := by
  unfold numsBad at h
  unfold parseX2
  split
  · rfl
  · rename_i hk
    rw [decide_eq_false hk, Bool.false_or] at h
    rw [if_neg]
    rintro ⟨h1, h2, h3⟩
    rw [h1, h2, h3] at h
    cases h
theorem parseX2_good {l : List UInt8} {dr ds : Int} {base nf nn at' tx ix : Nat} (h : numsBad l base nf nn at' tx ix = false) :
    base ≤ 65535 ∧ nf ≤ 256 ∧ nn ≤ 256 ∧ parseX2 l dr ds base nf nn at' tx ix = if fnBads l dr ds at' nf = false ∧ nmBads l tx ix nf nn = false then some ⟨base, fnVs l dr ds at' nf, nmVs l tx ix nn⟩ else none := by
  unfold numsBad at h
  rw [Bool.or_eq_false_iff, decide_eq_false_iff_not] at h
  obtain ⟨hk, hr⟩ := h
  refine ⟨by omega, by omega, by omega, ?_⟩
  unfold parseX2
  rw [if_neg hk, if_pos]
  revert hr
  cases rowB l at' nf 4 <;> cases rowB l tx nn 4 <;> cases rowB l ix nn 2 <;> simp
theorem rowB_zero (l : List UInt8) (at' : Int) (sz : Nat) : rowB l at' 0 sz = true := by simp [rowB]
theorem rowB_pos (l : List UInt8) (at' : Int) (k sz : Nat) (h : 0 < k) : rowB l at' k sz = inB l.length at' ((sz : Int) * k) := by
  unfold rowB
  have : decide ((k : Int) = 0) = false := decide_eq_false (by omega)
  rw [this, Bool.false_or, Int.mul_comm]
theorem nmLast_succ (l : List UInt8) (tx : Int) (i : Nat) (h : 0 < i) : nmLast l tx i = (nmT l tx (i - 1)).getD [] := by
  obtain ⟨j, rfl⟩ : ∃ j, i = j + 1 := ⟨i - 1, by omega⟩
  rfl
end Go.Proofs.YtapllnnconpieaaDoor
