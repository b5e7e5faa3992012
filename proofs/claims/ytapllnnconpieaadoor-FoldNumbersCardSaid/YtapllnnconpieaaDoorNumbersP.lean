/- FoldNumbers: plain laws, and its ways as contracts. -/
import Derived.Test.YtapllnnconpieaaDoorFoldC
set_option linter.unusedVariables false
namespace Go.Proofs.YtapllnnconpieaaDoor
open Go.RowKit
open Go.Lib (decFrom decDigits digitVal decNat atoi itoa)

theorem split_ord (d m : List UInt8) (hd : okF d = true) (hm : m.contains 46 = false) :
    splitF (d ++ 46 :: (35 :: m)) = match atoi m with | none => none | some n => if itoa n = m ∧ 0 ≤ n ∧ n ≤ 65535 then some (d, ⟨[], n, true⟩) else none := by
  have hp : lastPt (d ++ 46 :: (35 :: m)) = some d.length := lastPt_append d _ (by rw [List.contains_cons, hm]; rfl)
  unfold splitF
  rw [hp]
  have e1 : (d ++ 46 :: (35 :: m)).drop (d.length + 1) = 35 :: m := by
    rw [List.drop_append]
    simp
  have e2 : (d ++ 46 :: (35 :: m)).drop (d.length + 2) = m := by
    rw [List.drop_append]
    simp
  have e3 : (d ++ 46 :: (35 :: m)).take d.length = d := by simp
  simp only [e1, e2, e3, hd, if_true, List.head?_cons]
  cases atoi m <;> rfl

theorem split_ord_C (d m : List UInt8) (w : World) (hk : LibOk w) (hd : okF d = true) (hm : m.contains 46 = false) (hl : m.length ≤ 18) :
    Calls Tryd.prog 11 #[.string (S (d ++ 46 :: (35 :: m)))] w fun e w' =>
      e = .returned (splitV (match atoi m with | none => none | some n => if itoa n = m ∧ 0 ≤ n ∧ n ≤ 65535 then some (d, ⟨[], n, true⟩) else none)) ∧ Below w.heap.size w w' := by
  have hl2 := okF_len d hd
  have h := fold_Split (d ++ 46 :: (35 :: m)) w hk (by simp; omega) (fun k hk _ => by
    rw [lastPt_append d _ (by rw [List.contains_cons, hm]; rfl)] at hk
    obtain rfl := Option.some.inj hk
    simp
    omega)
  rw [split_ord d m hd hm] at h
  exact h

theorem okA : okF [97] = true := by decide

/-- What 'a.#' and a number's digits lead to. -/
theorem num1_C (n : Nat) (hn : n < 1000000) (w : World) (hk : LibOk w) :
    ∃ D o b, Calls Tryd.prog 11 #[.string (S ([97, 46, 35] ++ decDigits n))] w (fun e w' => e = .returned (.tuple #[.string (S D), .agg #[.string ⟨#[]⟩, .int .i64 o, .bool b], .bool b]) ∧ Below w.heap.size w w') ∧
      b = decide (n ≤ 65535) ∧ (b = true → D = [97] ∧ o = n) := by
  have h := split_ord_C [97] (decDigits n) w hk okA (dec_point n) (Nat.le_trans (dec_length 5 n (by omega)) (by omega))
  simp only [atoi_dec] at h
  by_cases hb : n ≤ 65535
  · rw [if_pos ⟨Lib.itoa_nonneg n, by omega, by omega⟩] at h
    exact ⟨[97], n, true, h, by simp [hb], fun _ => ⟨rfl, rfl⟩⟩
  · rw [if_neg (fun h => hb (by omega))] at h
    exact ⟨[], 0, false, h, by simp [hb], fun h => by cases h⟩

theorem num0_C (n : Nat) (hn : n < 1000000) (w : World) (hk : LibOk w) :
    Calls Tryd.prog 11 #[.string (S ([97, 46, 35, 48] ++ decDigits n))] w fun e w' => e = .returned (.tuple #[.string ⟨#[]⟩, .agg #[.string ⟨#[]⟩, .int .i64 0, .bool false], .bool false]) ∧ Below w.heap.size w w' := by
  have ha : atoi (48 :: decDigits n) = some (n : Int) := by
    refine atoi_digits _ (fun b hb => ?_) (by simp) n ?_
    · rcases List.mem_cons.1 hb with rfl | hb
      · decide
      · exact dec_digits n b hb
    · have h0 : digitVal 48 = some 0 := by decide
      have h1 := decFrom_dec n
      simp only [decFrom, h0]
      exact h1
  have h := split_ord_C [97] (48 :: decDigits n) w hk okA (by rw [List.contains_cons, dec_point]; rfl) (by simp; exact Nat.le_trans (dec_length 5 n (by omega)) (by omega))
  simp only [ha] at h
  rw [if_neg (fun h => by
    have h2 := congrArg List.length h.1
    rw [Lib.itoa_nonneg] at h2
    simp at h2)] at h
  exact h
theorem numNone_C (w : World) (hk : LibOk w) :
    Calls Tryd.prog 11 #[.string ⟨#[97, 46, 35]⟩] w fun e w' => e = .returned (.tuple #[.string ⟨#[]⟩, .agg #[.string ⟨#[]⟩, .int .i64 0, .bool false], .bool false]) ∧ Below w.heap.size w w' :=
  split_ord_C [97] [] w hk okA rfl (by simp)
theorem numMinus_C (w : World) (hk : LibOk w) :
    Calls Tryd.prog 11 #[.string ⟨#[97, 46, 35, 45, 49]⟩] w fun e w' => e = .returned (.tuple #[.string ⟨#[]⟩, .agg #[.string ⟨#[]⟩, .int .i64 0, .bool false], .bool false]) ∧ Below w.heap.size w w' := by
  have h := split_ord_C [97] [45, 49] w hk okA rfl (by simp)
  have ha : atoi [45, 49] = some (-1) := by rfl
  rw [ha] at h
  simp only at h
  rw [if_neg (fun h => by omega)] at h
  exact h
theorem text0_C (w : World) (hk : LibOk w) :
    Calls Tryd.prog 18 #[.string ⟨#[97]⟩, .agg #[.string ⟨#[]⟩, .int .i64 0, .bool true]] w fun e w' => e = .returned (.string ⟨#[97, 46, 35, 48]⟩) ∧ Below w.heap.size w w' := by
  have h := text_num_C [97] 0 w hk okA (by omega)
  have e : Lib.itoa ((0 : Nat) : Int) = [48] := by rw [Lib.itoa_nonneg, Lib.decDigits_one (by omega)]; rfl
  rw [e] at h
  exact h
end Go.Proofs.YtapllnnconpieaaDoor
