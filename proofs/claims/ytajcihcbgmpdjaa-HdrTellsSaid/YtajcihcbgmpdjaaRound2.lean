/- slipwayref1.Round. -/
import Derived.Test.YtajcihcbgmpdjaaHdr
namespace Go.Proofs.Ytajcihcbgmpdjaa
open Go.RowKit

set_option maxRecDepth 100000 in
set_option maxHeartbeats 2000000 in
theorem ref_Round (n u : Int) (w : World) (hu : u ≤ 9223372036854775807) :
    Calls Try.prog 18 #[.int .i64 n, .int .i64 u] w fun e w' => e = .returned (.int .i64 (roundF n u)) ∧ w = w' := by
  by_cases n0 : n < 1
  · have hf : roundF n u = 0 := by
      have hc : clampN n = 0 := by unfold clampN; split <;> (try split) <;> omega
      rw [roundF, hc, Int.zero_emod, if_pos rfl]
    rw [hf]
    go_enter Try.func18, Try.ntmps18
    go_wp2
    go_ret
    exact ⟨rfl, rfl⟩
  · by_cases u1 : u < 1
    · have hf : roundF n u = clampN n := by
        rw [roundF, show atLeast1 u = 1 by rw [atLeast1, if_pos u1], Int.emod_one, if_pos rfl]
      rw [hf]
      by_cases n1 : 1099511627776 < n
      · rw [clampN, if_neg (by omega), if_pos n1]
        go_enter Try.func18, Try.ntmps18
        go_wp2
        go_ret
        exact ⟨rfl, rfl⟩
      · rw [clampN, if_neg (by omega), if_neg n1]
        go_enter Try.func18, Try.ntmps18
        go_wp2
        go_ret
        exact ⟨rfl, rfl⟩
    · have hd : atLeast1 u = u := by rw [atLeast1, if_neg u1]
      by_cases n1 : 1099511627776 < n
      · have hc : clampN n = 1099511627776 := by rw [clampN, if_neg (by omega), if_pos n1]
        rw [roundF, hc, hd]
        obtain ⟨a0, a1, a2⟩ := rem_facts 1099511627776 u (by omega) (by omega) (by omega) hu
        clear hc hd
        by_cases hm : (1099511627776 : Int) % u = 0
        · rw [if_pos hm]
          go_enter Try.func18, Try.ntmps18
          go_wp2
          go_ret
          exact ⟨rfl, rfl⟩
        · rw [if_neg hm]
          go_enter Try.func18, Try.ntmps18
          go_wp2
          go_ret
          exact ⟨rfl, rfl⟩
      · have hc : clampN n = n := by rw [clampN, if_neg (by omega), if_neg n1]
        rw [roundF, hc, hd]
        obtain ⟨a0, a1, a2⟩ := rem_facts n u (by omega) (by omega) (by omega) hu
        clear hc hd
        by_cases hm : n % u = 0
        · rw [if_pos hm]
          go_enter Try.func18, Try.ntmps18
          go_wp2
          go_ret
          exact ⟨rfl, rfl⟩
        · rw [if_neg hm]
          go_enter Try.func18, Try.ntmps18
          go_wp2
          go_ret
          exact ⟨rfl, rfl⟩
end Go.Proofs.Ytajcihcbgmpdjaa
