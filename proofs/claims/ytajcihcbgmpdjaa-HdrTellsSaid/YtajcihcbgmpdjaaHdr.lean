/- hdr: Round, and the reader's numbers. -/
import Derived.Test.YtajcihcbgmpdjaaLe
import Derived.Test.YtajcihcbgmpdjaaUp
namespace Go.Proofs.Ytajcihcbgmpdjaa
open Go.RowKit

/-- A number's bounds. -/
def clampN (n : Int) : Int := if n < 0 then 0 else if 1099511627776 < n then 1099511627776 else n
def atLeast1 (n : Int) : Int := if n < 1 then 1 else n
def roundF (n u : Int) : Int := if clampN n % atLeast1 u = 0 then clampN n else clampN n - clampN n % atLeast1 u + atLeast1 u

theorem rem_facts (c d : Int) (h0 : 0 ≤ c) (h1 : c ≤ 1099511627776) (h2 : 1 ≤ d) (h3 : d ≤ 9223372036854775807) :
    0 ≤ c % d ∧ c % d ≤ c ∧ c - c % d + d ≤ 9223372036854775807 := by
  have a0 := Int.emod_nonneg c (show d ≠ 0 by omega)
  have a1 := Int.emod_lt_of_pos c (show 0 < d by omega)
  have a2 : c % d ≤ c := by
    rcases Int.lt_or_le c d with h | h
    · rw [Int.emod_eq_of_lt h0 h]; omega
    · omega
  refine ⟨a0, a2, ?_⟩
  rcases Int.lt_or_le c d with h | h
  · rw [Int.emod_eq_of_lt h0 h]; omega
  · omega

set_option maxRecDepth 100000 in
set_option maxHeartbeats 2000000 in
theorem hdr_Round (n u : Int) (w : World) (hu : u ≤ 9223372036854775807) :
    Calls Try.prog 14 #[.int .i64 n, .int .i64 u] w fun e w' => e = .returned (.int .i64 (roundF n u)) ∧ w = w' := by
  by_cases u1 : u < 1
  · have hf : roundF n u = clampN n := by
      rw [roundF, show atLeast1 u = 1 by rw [atLeast1, if_pos u1], Int.emod_one, if_pos rfl]
    rw [hf]
    by_cases n0 : n < 0
    · rw [clampN, if_pos n0]
      go_enter Try.func14, Try.ntmps14
      go_wp2
      go_ret
      exact ⟨rfl, rfl⟩
    · by_cases n1 : 1099511627776 < n
      · rw [clampN, if_neg n0, if_pos n1]
        go_enter Try.func14, Try.ntmps14
        go_wp2
        go_ret
        exact ⟨rfl, rfl⟩
      · rw [clampN, if_neg n0, if_neg n1]
        go_enter Try.func14, Try.ntmps14
        go_wp2
        go_ret
        exact ⟨rfl, rfl⟩
  · have hd : atLeast1 u = u := by rw [atLeast1, if_neg u1]
    by_cases n0 : n < 0
    · have hf : roundF n u = 0 := by rw [roundF, clampN, if_pos n0, Int.zero_emod, if_pos rfl]
      rw [hf]
      go_enter Try.func14, Try.ntmps14
      go_wp2
      go_ret
      exact ⟨rfl, rfl⟩
    · by_cases n1 : 1099511627776 < n
      · have hc : clampN n = 1099511627776 := by rw [clampN, if_neg n0, if_pos n1]
        rw [roundF, hc, hd]
        obtain ⟨a0, a1, a2⟩ := rem_facts 1099511627776 u (by omega) (by omega) (by omega) hu
        clear hc hd
        by_cases hm : (1099511627776 : Int) % u = 0
        · rw [if_pos hm]
          go_enter Try.func14, Try.ntmps14
          go_wp2
          go_ret
          exact ⟨rfl, rfl⟩
        · rw [if_neg hm]
          go_enter Try.func14, Try.ntmps14
          go_wp2
          go_ret
          exact ⟨rfl, rfl⟩
      · have hc : clampN n = n := by rw [clampN, if_neg n0, if_neg n1]
        rw [roundF, hc, hd]
        obtain ⟨a0, a1, a2⟩ := rem_facts n u (by omega) (by omega) (by omega) hu
        clear hc hd
        by_cases hm : n % u = 0
        · rw [if_pos hm]
          go_enter Try.func14, Try.ntmps14
          go_wp2
          go_ret
          exact ⟨rfl, rfl⟩
        · rw [if_neg hm]
          go_enter Try.func14, Try.ntmps14
          go_wp2
          go_ret
          exact ⟨rfl, rfl⟩

set_option maxRecDepth 100000 in
set_option maxHeartbeats 2000000 in
theorem rd_two (A : Option Addr) (c : Nat) (l : List UInt8) (p k : Int) (w : World) (hr : Bs w A c l) (hp : 0 ≤ p) (hp1 : p ≤ 9223372036854000000) (hk : 0 ≤ k) (hk1 : k ≤ 100000) :
    Calls Try.prog 27 #[.agg #[.slice A l.length c, .int .i64 p], .int .i64 k] w fun e w' =>
      e = .returned (.int .i64 (numAt l (p + k) 2)) ∧ w.alloc (.cells #[.slice A l.length c, .int .i64 p] 63) = w' := by
  have hr' := hr.below (up_alloc (up_refl w) (.cells #[.slice A l.length c, .int .i64 p] 63))
  clear hr
  go_enter Try.func27, Try.ntmps27
  go_wp2_with fail
  refine (le_U16 A c l _ _ hr').mono ?_
  rintro e w' ⟨rfl, rfl⟩
  go_wp2
  go_ret
  exact ⟨rfl, rfl⟩

set_option maxRecDepth 100000 in
set_option maxHeartbeats 2000000 in
theorem rd_four (A : Option Addr) (c : Nat) (l : List UInt8) (p k : Int) (w : World) (hr : Bs w A c l) (hp : 0 ≤ p) (hp1 : p ≤ 9223372036854000000) (hk : 0 ≤ k) (hk1 : k ≤ 100000) :
    Calls Try.prog 26 #[.agg #[.slice A l.length c, .int .i64 p], .int .i64 k] w fun e w' =>
      e = .returned (.int .i64 (numAt l (p + k) 4)) ∧ w.alloc (.cells #[.slice A l.length c, .int .i64 p] 63) = w' := by
  have hr' := hr.below (up_alloc (up_refl w) (.cells #[.slice A l.length c, .int .i64 p] 63))
  clear hr
  go_enter Try.func26, Try.ntmps26
  go_wp2_with fail
  refine (le_U32 A c l _ _ hr').mono ?_
  rintro e w' ⟨rfl, rfl⟩
  go_wp2
  go_ret
  exact ⟨rfl, rfl⟩

set_option maxRecDepth 100000 in
set_option maxHeartbeats 2000000 in
theorem rd_eight (A : Option Addr) (c : Nat) (l : List UInt8) (p k : Int) (w : World) (hr : Bs w A c l) (hp : 0 ≤ p) (hp1 : p ≤ 9223372036854000000) (hk : 0 ≤ k) (hk1 : k ≤ 100000) :
    Calls Try.prog 25 #[.agg #[.slice A l.length c, .int .i64 p], .int .i64 k] w fun e w' =>
      e = .returned (.int .u64 (numAt l (p + k) 8)) ∧ w.alloc (.cells #[.slice A l.length c, .int .i64 p] 63) = w' := by
  have hr' := hr.below (up_alloc (up_refl w) (.cells #[.slice A l.length c, .int .i64 p] 63))
  clear hr
  go_enter Try.func25, Try.ntmps25
  go_wp2_with fail
  refine (le_U64 A c l _ _ hr').mono ?_
  rintro e w' ⟨rfl, rfl⟩
  go_wp2
  go_ret
  exact ⟨rfl, rfl⟩
end Go.Proofs.Ytajcihcbgmpdjaa
