/- Names, numbers and ways: plain laws. -/
import Derived.Test.YtapllnnconpieaaDoorFold3
import Derived.Lib.ItoaMem
import Derived.Lib.ItoaLen
set_option linter.unusedVariables false
namespace Go.Proofs.YtapllnnconpieaaDoor
open Go.RowKit
open Go.Lib (decFrom decDigits digitVal decNat atoi itoa)

theorem digitVal_dig (k : Nat) (h : k < 10) : digitVal (UInt8.ofNat (48 + k)) = some k := by
  have : (UInt8.ofNat (48 + k)).toNat = 48 + k := by simp; omega
  unfold digitVal
  rw [this, if_pos (by omega)]
  congr 1
  omega

theorem decFrom_snoc (b : UInt8) : ∀ (l : List UInt8) (acc : Nat), decFrom acc (l ++ [b]) = (decFrom acc l).bind fun m => (digitVal b).map fun d => m * 10 + d
  | [], acc => by
    simp only [List.nil_append, decFrom, Option.bind_some]
    cases digitVal b <;> rfl
  | a :: l, acc => by
    simp only [List.cons_append, decFrom]
    cases digitVal a with
    | none => rfl
    | some d => exact decFrom_snoc b l _

theorem dec_step (u : Nat) (h : ¬ u < 10) : decDigits u = decDigits (u / 10) ++ [UInt8.ofNat (48 + u % 10)] := by
  rw [decDigits, dif_neg h]

theorem decFrom_dec (u : Nat) : decFrom 0 (decDigits u) = some u := by
  induction u using Nat.strongRecOn with
  | ind u ih =>
    by_cases h : u < 10
    · rw [Lib.decDigits_one h]
      simp only [decFrom, digitVal_dig u h]
      simp
    · rw [dec_step u h, decFrom_snoc, ih (u / 10) (by omega), Option.bind_some, digitVal_dig _ (by omega), Option.map_some]
      congr 1
      omega

theorem dec_digits (u : Nat) : ∀ b ∈ decDigits u, 48 ≤ b.toNat ∧ b.toNat ≤ 57 := by
  induction u using Nat.strongRecOn with
  | ind u ih =>
    intro b hb
    have hk : ∀ k, k < 10 → (UInt8.ofNat (48 + k)).toNat = 48 + k := fun k hk => by simp; omega
    by_cases h : u < 10
    · rw [Lib.decDigits_one h] at hb
      obtain rfl := List.mem_singleton.1 hb
      rw [hk u h]
      omega
    · rw [dec_step u h] at hb
      rcases List.mem_append.1 hb with hb | hb
      · exact ih (u / 10) (by omega) b hb
      · obtain rfl := List.mem_singleton.1 hb
        rw [hk _ (by omega)]
        omega

theorem dec_length : ∀ (k u : Nat), u < 10 ^ (k + 1) → (decDigits u).length ≤ k + 1
  | 0, u, h => by rw [Lib.decDigits_one (by simpa using h)]; simp
  | k + 1, u, h => by
    by_cases h10 : u < 10
    · rw [Lib.decDigits_one h10]; simp
    · rw [dec_step u h10, List.length_append]
      have := dec_length k (u / 10) (by rw [Nat.pow_succ] at h; omega)
      simp
      omega

theorem dec_ne (u : Nat) : ∃ b r, decDigits u = b :: r := by
  cases h : decDigits u with
  | nil =>
    have := decFrom_dec u
    have h2 := Lib.decDigits_length u
    rw [h] at this h2
    simp [decFrom] at this
    subst this
    rw [Lib.decDigits_one (by omega)] at h
    cases h
  | cons b r => exact ⟨b, r, rfl⟩

theorem atoi_digits (l : List UInt8) (h : ∀ b ∈ l, 48 ≤ b.toNat ∧ b.toNat ≤ 57) (hn : l ≠ []) (u : Nat) (hd : decFrom 0 l = some u) : atoi l = some (u : Int) := by
  cases l with
  | nil => exact absurd rfl hn
  | cons b r =>
    have hb := h b (by simp)
    have h1 : (b == 45) = false := by
      rw [beq_eq_false_iff_ne]
      rintro rfl
      simp at hb
    have h2 : (b == 43) = false := by
      rw [beq_eq_false_iff_ne]
      rintro rfl
      simp at hb
    unfold atoi
    simp only [h1, h2]
    unfold decNat
    rw [if_neg (by simp)]
    simp [hd]

theorem atoi_dec (u : Nat) : atoi (decDigits u) = some (u : Int) := by
  obtain ⟨b, r, e⟩ := dec_ne u
  exact atoi_digits _ (dec_digits u) (by rw [e]; simp) u (decFrom_dec u)

theorem dec_point (u : Nat) : (decDigits u).contains 46 = false := by
  rw [Bool.eq_false_iff]
  intro h
  have := dec_digits u 46 (List.contains_iff_mem.1 h)
  simp at this

/-- A way by a number. -/
theorem split_num (d : List UInt8) (n : Nat) (hd : okF d = true) (hn : n ≤ 65535) : splitF (d ++ [46, 35] ++ itoa n) = some (d, ⟨[], n, true⟩) := by
  have e : d ++ [46, 35] ++ itoa (n : Int) = d ++ 46 :: (35 :: decDigits n) := by rw [Lib.itoa_nonneg]; simp
  have hp : lastPt (d ++ 46 :: (35 :: decDigits n)) = some d.length := lastPt_append d _ (by rw [List.contains_cons, dec_point]; rfl)
  unfold splitF
  rw [e, hp]
  have e1 : (d ++ 46 :: (35 :: decDigits n)).drop (d.length + 1) = 35 :: decDigits n := by
    rw [List.drop_append]
    simp
  have e2 : (d ++ 46 :: (35 :: decDigits n)).drop (d.length + 2) = decDigits n := by
    rw [List.drop_append]
    simp
  have e3 : (d ++ 46 :: (35 :: decDigits n)).take d.length = d := by simp
  have hl : (decDigits n).length ≤ 18 := Nat.le_trans (dec_length 5 n (by omega)) (by omega)
  simp only [e1, e2, e3, hd, if_true, List.head?_cons, atoiN_short _ hl, atoi_dec]
  rw [if_pos ⟨Lib.itoa_nonneg n, by omega, by omega⟩]

/-- A way by a name. -/
theorem split_name (d s : List UInt8) (hd : okF d = true) (hs : symOkF s = true) (hp : s.contains 46 = false) : splitF (d ++ [46] ++ s) = some (d, ⟨s, 0, false⟩) := by
  have e : d ++ [46] ++ s = d ++ 46 :: s := by simp
  have h35 : ¬ s.head? = some 35 := by
    intro h
    unfold symOkF at hs
    rw [h] at hs
    simp at hs
  unfold splitF
  rw [e, lastPt_append d s hp]
  have e1 : (d ++ 46 :: s).drop (d.length + 1) = s := by
    rw [List.drop_append]
    simp
  have e3 : (d ++ 46 :: s).take d.length = d := by simp
  simp only [e1, e3, hd, if_true, hs]
  rw [if_neg h35]

end Go.Proofs.YtapllnnconpieaaDoor
