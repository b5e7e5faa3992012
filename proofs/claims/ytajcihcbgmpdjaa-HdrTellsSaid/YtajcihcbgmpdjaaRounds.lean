/- HdrRounds, walked. -/
import Derived.Test.YtajcihcbgmpdjaaAwake5
namespace Go.Proofs.Ytajcihcbgmpdjaa
open Go.RowKit

theorem round_least (x y : Int) (hx0 : 0 ≤ x) (hx : x ≤ 1048575) (hy0 : 0 ≤ y) (hy : y ≤ 65535) (m : Int) (hm : max y 1 = m) :
    1 ≤ m ∧ m ≤ 65535 ∧ x ≤ roundF x y ∧ roundF x y - x < m ∧ roundF x y % m = 0 := by
  have hd : atLeast1 y = m := by unfold atLeast1; split <;> omega
  have hc : clampN x = x := by unfold clampN; split <;> (try split) <;> omega
  have m1 : 1 ≤ m := by omega
  have h0 := Int.emod_nonneg x (show m ≠ 0 by omega)
  have h1 := Int.emod_lt_of_pos x (show 0 < m by omega)
  rw [roundF, hc, hd]
  refine ⟨m1, by omega, ?_⟩
  split
  · rename_i h
    exact ⟨by omega, by omega, h⟩
  · refine ⟨by omega, by omega, ?_⟩
    rw [Int.add_emod_right]
    exact Int.emod_eq_zero_of_dvd (Int.dvd_self_sub_emod)

theorem walk_HdrRounds (w : World) (n : Int) (wn : (Lit.int .i64 n).wf = true) (u : Int) (wu : (Lit.int .i64 u).wf = true) :
    Calls Try.prog 7 #[.int .i64 n, .int .i64 u] w fun e w' => e = .returned (.bool true) ∧ Below w.heap.size w w' := by
  have hn : -9223372036854775808 ≤ n ∧ n ≤ 9223372036854775807 := by
    simp [Lit.wf, IntKind.min, IntKind.max, IntKind.bits, IntKind.signed] at wn
    omega
  have hu : -9223372036854775808 ≤ u ∧ u ≤ 9223372036854775807 := by
    simp [Lit.wf, IntKind.min, IntKind.max, IntKind.bits, IntKind.signed] at wu
    omega
  clear wn wu
  go_enter Try.func7, Try.ntmps7
  go_wp2_with fail
  go_loop [0, 1, 5] (fun a b i => ∃ (x y : Int) (j : Nat), a = .int .i64 x ∧ b = .int .i64 y ∧ i = .int .i64 j ∧ j ≤ 2 ∧ y ≤ 9223372036854775807 ∧ (j = 2 → 0 ≤ x ∧ x ≤ 1048575 ∧ 0 ≤ y ∧ y ≤ 65535)) (fun _ _ i => 2 - (intOf i).toNat)
  case atStart => exact ⟨n, u, 0, rfl, rfl, rfl, by omega, hu.2, by omega⟩
  case round =>
    obtain ⟨x, y, j, rfl, rfl, rfl, hj, hy, hb⟩ := hrel
    by_cases h2 : j < 2
    · have HB := hid hb
      clear hb
      go_wp2_with fail
      refine (hdr_Round x y _ hy).mono ?_
      rintro e w' ⟨rfl, rfl⟩
      go_wp2_with fail
      refine (ref_Round x y _ hy).mono ?_
      rintro e w' ⟨rfl, rfl⟩
      go_wp2_with fail
      have ha : 0 ≤ bits .and .i64 x 1048575 ∧ bits .and .i64 x 1048575 ≤ 1048575 := and_le_i64 x 1048575 (by omega)
      have hb : 0 ≤ bits .and .i64 y 65535 ∧ bits .and .i64 y 65535 ≤ 65535 := and_le_i64 y 65535 (by omega)
      go_round
      case rel => exact ⟨bits .and .i64 x 1048575, bits .and .i64 y 65535, j + 1, rfl, rfl, by go_num, by omega, by omega, fun _ => ⟨ha.1, ha.2, hb.1, hb.2⟩⟩
      case measure => simp [intOf]; omega
    · obtain rfl : j = 2 := by omega
      obtain ⟨x0, x1, y0, y1⟩ := hb rfl
      obtain ⟨m, hm⟩ : ∃ m, max y 1 = m := ⟨_, rfl⟩
      obtain ⟨m1, m2, r1, r2, r3⟩ := round_least x y x0 x1 y0 y1 m hm
      obtain ⟨r, hr⟩ : ∃ r, roundF x y = r := ⟨_, rfl⟩
      rw [hr] at r1 r2 r3
      have HR := hid hr
      have d1 : (r % m == 0) = true := by simp [r3]
      clear hb hr r3
      go_wp2_with fail
      refine (hdr_Round x y _ hy).mono ?_
      rintro e w' ⟨rfl, rfl⟩
      rw [HR.out]
      go_wp2_with fail
      refine (law_awake _).mono ?_
      rintro e w' ⟨rfl, hb⟩
      have HB := hid hb
      clear hb
      go_wp2_with fail
      go_ret
      exact ⟨rfl, HB.out⟩
end Go.Proofs.Ytajcihcbgmpdjaa
