/- slipwayref1.Digits. -/
import Derived.Test.YtapllnnconpieaaDoorFoldP
set_option linter.unusedVariables false
namespace Go.Proofs.YtapllnnconpieaaDoor
open Go.RowKit
open Go.Lib (decDigits)

theorem digit_ext (k : Nat) (h : k < 10) : (ByteArray.mk #[48, 49, 50, 51, 52, 53, 54, 55, 56, 57]).extract k (k + 1) = S [UInt8.ofNat (48 + k)] := by
  have : k = 0 ∨ k = 1 ∨ k = 2 ∨ k = 3 ∨ k = 4 ∨ k = 5 ∨ k = 6 ∨ k = 7 ∨ k = 8 ∨ k = 9 := by omega
  rcases this with rfl | rfl | rfl | rfl | rfl | rfl | rfl | rfl | rfl | rfl <;> rfl

set_option maxRecDepth 100000 in
set_option maxHeartbeats 2000000 in
theorem ref_Digits (n : Nat) (hn : n < 1000000) (w : World) :
    Calls Tryd.prog 17 #[.int .i64 n] w fun e w' => e = .returned (.string (S (decDigits n))) ∧ w = w' := by
  obtain ⟨R, hR⟩ : ∃ R, decDigits n = R := ⟨_, rfl⟩
  rw [hR]
  have HR : Hid (decDigits n ++ [] = R) := by rw [List.append_nil]; exact hR
  clear hR
  go_enter Tryd.func17, Tryd.ntmps17
  go_wp2
  go_loopw [0, 3] (fun a s wr => ∃ (m : Nat) (l : List UInt8), a = .int .i64 m ∧ m < 1000000 ∧ s = .string (S l) ∧ l.length ≤ 1000000 - m ∧ Hid (decDigits m ++ l = R) ∧ w = wr) (fun a _ _ => (intOf a).toNat)
  case atStart => exact ⟨n, [], rfl, hn, rfl, by simp, HR, rfl⟩
  case round =>
    obtain ⟨m, l, rfl, hm, rfl, hl, HM, rfl⟩ := hrel
    have hsl := S_size l
    have hr0 : (0 : Int) ≤ (m : Int) % 10 := by omega
    obtain ⟨k, hk⟩ : ∃ k, m % 10 = k := ⟨_, rfl⟩
    have hk10 : k < 10 := by omega
    have hx := digit_ext k hk10
    have hmd : (m : Int) % 10 = (k : Int) := by omega
    obtain ⟨c, hc⟩ : ∃ c, UInt8.ofNat (48 + k) = c := ⟨_, rfl⟩
    rw [hc] at hx
    have hx2 : S [c] ++ S l = S (c :: l) := S_append _ _
    have hs1 : (S [c]).size = 1 := rfl
    have HC := hid hc
    have HKK := hid hk
    clear hc hk
    have hw : IntKind.i64.wrap ((k : Int) + 1) = (k : Int) + 1 := IntWalk.i64_in _ (by omega)
    have hk1 : ((k : Int) + 1).toNat = k + 1 := by omega
    by_cases h9 : 9 < m
    · have hst : decDigits (m / 10) ++ (c :: l) = R := by
        have h := HM.out
        rw [dec_step m (by omega), HKK.out, HC.out, List.append_assoc] at h
        exact h
      have HST := hid hst
      have hdv : IntKind.i64.wrap ((m : Int).tdiv 10) = ((m / 10 : Nat) : Int) := by
        rw [Int.tdiv_eq_ediv_of_nonneg (by omega), IntWalk.i64_in _ (by omega)]
        omega
      clear hst HM
      go_wp2_with fail
      go_roundw
      case rel => exact ⟨m / 10, c :: l, by go_num, by omega, rfl, by simp; omega, HST, trivial⟩
      case measure => simp [intOf]; omega
    · have hst : c :: l = R := by
        have h := HM.out
        rw [Lib.decDigits_one (by omega)] at h
        have : m = k := by have := HKK.out; omega
        rw [this, HC.out] at h
        exact h
      have HST := hid hst
      clear hst HM
      go_wp2_with fail
      go_ret
      exact ⟨by rw [← HST.out]; rfl, rfl⟩
end Go.Proofs.YtapllnnconpieaaDoor
