/- Texts around a point: which way they are. -/
import Derived.Test.YtapllnnconpieaaDoorFoldC
set_option linter.unusedVariables false
namespace Go.Proofs.YtapllnnconpieaaDoor
open Go.RowKit

theorem split_sym (d s : List UInt8) (hs : s.head? ≠ some 35) (hp : s.contains 46 = false) : splitF (d ++ 46 :: s) = if okF d = true ∧ symOkF s = true then some (d, ⟨s, 0, false⟩) else none := by
  unfold splitF
  rw [lastPt_append d s hp]
  have e1 : (d ++ 46 :: s).drop (d.length + 1) = s := by
    rw [List.drop_append]
    simp
  have e3 : (d ++ 46 :: s).take d.length = d := by simp
  simp only [e1, e3]
  by_cases h1 : okF d = true
  · rw [if_pos h1, if_neg hs]
    by_cases h2 : symOkF s = true
    · rw [if_pos h2, if_pos ⟨h1, h2⟩]
    · rw [if_neg h2, if_neg (fun h => h2 h.2)]
  · rw [if_neg h1, if_neg (fun h => h1 h.1)]

theorem split_sym_C (d s : List UInt8) (w : World) (hk : LibOk w) (hs : s.head? ≠ some 35) (hp : s.contains 46 = false) (hl : d.length + s.length ≤ 140737488351000) :
    ∃ D N, Calls Tryd.prog 11 #[.string (S (d ++ 46 :: s))] w fun e w' =>
      e = .returned (.tuple #[.string (S D), .agg #[.string (S N), .int .i64 0, .bool false], .bool (okF d && symOkF s)]) ∧ Below w.heap.size w w' := by
  have h := fold_Split (d ++ 46 :: s) w hk (by simp; omega)
  rw [split_sym d s hs hp] at h
  by_cases hh : okF d = true ∧ symOkF s = true
  · rw [if_pos hh] at h
    refine ⟨d, s, ?_⟩
    rw [hh.1, hh.2]
    exact h
  · rw [if_neg hh] at h
    refine ⟨[], [], ?_⟩
    have : (okF d && symOkF s) = false := by
      rw [← Bool.not_eq_true, Bool.and_eq_true]
      exact hh
    rw [this]
    exact h

/-- A row of one letter. -/
def xs (n : Nat) : List UInt8 := List.replicate n 120
theorem xs_length (n : Nat) : (xs n).length = n := by simp [xs]
theorem xs_all (n : Nat) (p : UInt8 → Bool) (hp : p 120 = true) : (xs n).all p = true := by
  rw [List.all_eq_true]
  intro x hx
  rw [List.eq_of_mem_replicate hx]
  exact hp
theorem okF_xs (n : Nat) : okF (xs n) = decide (1 ≤ n ∧ n ≤ 40) := by
  unfold okF
  rw [xs_length, xs_all n _ (by decide), Bool.and_true]
theorem xs_head (n : Nat) : (xs n).head? ≠ some 35 := by
  cases n with
  | zero => simp [xs]
  | succ n => simp [xs, List.replicate_succ]
theorem symOkF_xs (n : Nat) : symOkF (xs n) = decide (1 ≤ n ∧ n ≤ 60) := by
  unfold symOkF
  rw [xs_length, xs_all n _ (by decide), Bool.and_true]
  have : ((xs n).head? != some 35) = true := by
    rw [bne_iff_ne]
    exact xs_head n
  rw [this, Bool.and_true]
theorem xs_point (n : Nat) : (xs n).contains 46 = false := by
  rw [Bool.eq_false_iff]
  intro h
  have := List.eq_of_mem_replicate (List.contains_iff_mem.1 h)
  cases this
end Go.Proofs.YtapllnnconpieaaDoor
