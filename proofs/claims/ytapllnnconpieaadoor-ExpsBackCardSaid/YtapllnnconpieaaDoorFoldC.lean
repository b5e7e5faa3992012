/- Ways, as contracts. -/
import Derived.Test.YtapllnnconpieaaDoorFoldP
import Derived.Test.YtapllnnconpieaaDoorFold5
set_option linter.unusedVariables false
namespace Go.Proofs.YtapllnnconpieaaDoor
open Go.RowKit

theorem itoa_len (n : Nat) (hn : n < 1000000) : (Lib.itoa n).length ≤ 6 := by
  rw [Lib.itoa_nonneg]
  exact dec_length 5 n (by omega)

theorem okF_len (d : List UInt8) (h : okF d = true) : 1 ≤ d.length ∧ d.length ≤ 40 := by
  unfold okF at h
  rw [Bool.and_eq_true, decide_eq_true_eq] at h
  exact h.1
theorem symOkF_len (d : List UInt8) (h : symOkF d = true) : 1 ≤ d.length ∧ d.length ≤ 60 := by
  unfold symOkF at h
  rw [Bool.and_eq_true, Bool.and_eq_true, decide_eq_true_eq] at h
  exact h.1.1

theorem symOkF_head (s : List UInt8) (h : symOkF s = true) : ¬ s.head? = some 35 := by
  intro e
  unfold symOkF at h
  rw [e] at h
  simp at h

theorem text_num_C (d : List UInt8) (n : Nat) (w : World) (hk : LibOk w) (hd : okF d = true) (hn : n ≤ 65535) :
    Calls Tryd.prog 18 #[.string (S d), .agg #[.string ⟨#[]⟩, .int .i64 n, .bool true]] w fun e w' => e = .returned (.string (S (d ++ [46, 35] ++ Lib.itoa n))) ∧ Below w.heap.size w w' := by
  have hl := okF_len d hd
  have hi := itoa_len n (by omega)
  exact fold_Text d ⟨[], n, true⟩ w hk (by omega) (by simp) (by simp only; omega) (by simp only; omega) (by simp only; omega)
theorem text_name_C (d s : List UInt8) (w : World) (hk : LibOk w) (hd : okF d = true) (hs : s.length ≤ 140737488351232) :
    Calls Tryd.prog 18 #[.string (S d), .agg #[.string (S s), .int .i64 0, .bool false]] w fun e w' => e = .returned (.string (S (d ++ [46] ++ s))) ∧ Below w.heap.size w w' := by
  have hl := okF_len d hd
  have hi := itoa_len 0 (by omega)
  exact fold_Text d ⟨s, 0, false⟩ w hk (by omega) hs (by simp) (by simp) (by simp only; exact Nat.le_trans hi (by omega))
theorem split_num_C (d : List UInt8) (n : Nat) (w : World) (hk : LibOk w) (hd : okF d = true) (hn : n ≤ 65535) :
    Calls Tryd.prog 11 #[.string (S (d ++ [46, 35] ++ Lib.itoa n))] w fun e w' => e = .returned (.tuple #[.string (S d), .agg #[.string ⟨#[]⟩, .int .i64 n, .bool true], .bool true]) ∧ Below w.heap.size w w' := by
  have hl := okF_len d hd
  have hi := itoa_len n (by omega)
  have e : d ++ [46, 35] ++ Lib.itoa (n : Int) = d ++ 46 :: (35 :: Lib.decDigits n) := by rw [Lib.itoa_nonneg]; simp
  have h := fold_Split (d ++ [46, 35] ++ Lib.itoa n) w hk (by simp; omega)
  rw [split_num d n hd hn] at h
  exact h
theorem split_name_C (d s : List UInt8) (w : World) (hk : LibOk w) (hd : okF d = true) (hs : symOkF s = true) (hp : s.contains 46 = false) :
    Calls Tryd.prog 11 #[.string (S (d ++ [46] ++ s))] w fun e w' => e = .returned (.tuple #[.string (S d), .agg #[.string (S s), .int .i64 0, .bool false], .bool true]) ∧ Below w.heap.size w w' := by
  have hl := okF_len d hd
  have hl2 := symOkF_len s hs
  have h := fold_Split (d ++ [46] ++ s) w hk (by simp; omega)
  rw [split_name d s hd hs hp] at h
  exact h
end Go.Proofs.YtapllnnconpieaaDoor
