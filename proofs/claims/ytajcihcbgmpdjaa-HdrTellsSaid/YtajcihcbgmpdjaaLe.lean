/- le: numbers in bytes: number, U16, U32, U64, In. -/
import Derived.Test.YtajcihcbgmpdjaaBase
namespace Go.Proofs.Ytajcihcbgmpdjaa
open Go.RowKit

theorem info_u8 : (Try.prog.info? 5).map (·.size) = some 1 := by kernel_rfl

set_option maxHeartbeats 1000000 in
theorem le_number_yes (A : Option Addr) (c : Nat) (l : List UInt8) (at' n : Int) (w : World) (hr : Row w A (bcells l)) (hc : l.length ≤ c) (hm : l.length ≤ 140737488355328) (hn0 : 0 ≤ n) (hn8 : n ≤ 8)
    (h0 : 0 ≤ at') (h1 : at' + n ≤ l.length) :
    Calls Try.prog 46 #[.slice A l.length c, .int .i64 at', .int .i64 n] w fun e w' =>
      e = .returned (.tuple #[.int .u64 (lnum ((l.drop at'.toNat).take n.toNat)), .bool true]) ∧ w = w' := by
  obtain ⟨a, rfl⟩ := Int.eq_ofNat_of_zero_le h0
  obtain ⟨n, rfl⟩ := Int.eq_ofNat_of_zero_le hn0
  simp only [Int.toNat_natCast]
  obtain ⟨A', hcut, hrow⟩ := slice_lh (P := Try.prog) 23 5 1 Try.underlying23 info_u8 A l.length c .i64 .i64 a (a + n) a n rfl rfl (by omega) hc
  have hr' := hrow w (bcells l) (by rw [bcells_length]; omega) hr
  rw [Nat.mul_one, Nat.mul_one, bcells, ← List.map_drop, ← List.map_take] at hr'
  clear hrow hr
  obtain ⟨s, hs⟩ : ∃ s, s = (l.drop a).take n := ⟨_, rfl⟩
  rw [← hs] at hr' ⊢
  have hl : s.length = n := by rw [hs]; simp; omega
  have HL := hid hl
  clear hs hl
  go_enter Try.func46, Try.ntmps46
  go_wp2
  go_loop [8, 34] (fun v k => ∃ j : Nat, j ≤ n ∧ k = .int .i64 j ∧ v = .int .u64 (lnum (s.take j))) (fun _ k => n - (intOf k).toNat)
  case atStart => exact ⟨0, Nat.zero_le _, rfl, by simp [lnum]⟩
  case round =>
    obtain ⟨j, hj, rfl, rfl⟩ := hrel
    by_cases hlt : j < n
    · obtain ⟨ad, rfl, hcell⟩ := Row.byte hr' (k := j) (by rw [HL]; exact hlt)
      go_wp2
      go_round
      case rel => exact ⟨j + 1, by omega, by go_num, by rw [lnum_step s j (by rw [HL]; exact hlt) (by omega)]⟩
      case measure => simp [intOf]; omega
    · go_wp2
      go_ret2
      have : j = n := by omega
      subst this
      rw [← HL, List.take_length]
      exact ⟨rfl, rfl⟩

set_option maxHeartbeats 1000000 in
theorem le_number (A : Option Addr) (c : Nat) (l : List UInt8) (at' n : Int) (w : World) (hr : Bs w A c l) (hn0 : 0 ≤ n) (hn8 : n ≤ 8) :
    Calls Try.prog 46 #[.slice A l.length c, .int .i64 at', .int .i64 n] w fun e w' =>
      e = .returned (.tuple #[.int .u64 (numAt l at' n), .bool (inB l.length at' n)]) ∧ w = w' := by
  have hm := hr.mx
  by_cases h : 0 ≤ at' ∧ at' + n ≤ l.length
  · have hi : inB l.length at' n = true := by simp only [inB, decide_eq_true_eq]; omega
    have hn : numAt l at' n = lnum ((l.drop at'.toNat).take n.toNat) := by simp [numAt, hi]
    rw [hi, hn]
    exact le_number_yes A c l at' n w hr.row hr.le hr.mx hn0 hn8 h.1 h.2
  · have hi : inB l.length at' n = false := by simp only [inB, decide_eq_false_iff_not]; omega
    have hn : numAt l at' n = 0 := by simp [numAt, hi]
    rw [hi, hn]
    clear hi hn
    by_cases h0 : at' < 0
    · clear h
      go_enter Try.func46, Try.ntmps46
      go_wp2
      go_ret2
      exact ⟨rfl, rfl⟩
    · by_cases h1 : (l.length : Int) < at'
      · clear h
        go_enter Try.func46, Try.ntmps46
        go_wp2
        go_ret2
        exact ⟨rfl, rfl⟩
      · have h2 : (l.length : Int) - at' < n := by omega
        clear h
        go_enter Try.func46, Try.ntmps46
        go_wp2
        go_ret2
        exact ⟨rfl, rfl⟩

set_option maxHeartbeats 1000000 in
theorem le_U64 (A : Option Addr) (c : Nat) (l : List UInt8) (at' : Int) (w : World) (hr : Bs w A c l) :
    Calls Try.prog 41 #[.slice A l.length c, .int .i64 at'] w fun e w' =>
      e = .returned (.tuple #[.int .u64 (numAt l at' 8), .bool (inB l.length at' 8)]) ∧ w = w' := by
  go_enter Try.func41, Try.ntmps41
  go_wp2_with fail
  refine (le_number A c l _ _ _ hr (by omega) (by omega)).mono ?_
  rintro e w' ⟨rfl, rfl⟩
  go_wp2
  go_ret2
  exact ⟨rfl, rfl⟩

set_option maxHeartbeats 1000000 in
theorem le_U32 (A : Option Addr) (c : Nat) (l : List UInt8) (at' : Int) (w : World) (hr : Bs w A c l) :
    Calls Try.prog 39 #[.slice A l.length c, .int .i64 at'] w fun e w' =>
      e = .returned (.tuple #[.int .i64 (numAt l at' 4), .bool (inB l.length at' 4)]) ∧ w = w' := by
  have hb : numAt l at' 4 < 4294967296 := numAt_lt l at' 4
  go_enter Try.func39, Try.ntmps39
  go_wp2_with fail
  refine (le_number A c l _ _ _ hr (by omega) (by omega)).mono ?_
  rintro e w' ⟨rfl, rfl⟩
  go_wp2
  go_ret2
  exact ⟨rfl, rfl⟩

set_option maxHeartbeats 1000000 in
theorem le_U16 (A : Option Addr) (c : Nat) (l : List UInt8) (at' : Int) (w : World) (hr : Bs w A c l) :
    Calls Try.prog 42 #[.slice A l.length c, .int .i64 at'] w fun e w' =>
      e = .returned (.tuple #[.int .i64 (numAt l at' 2), .bool (inB l.length at' 2)]) ∧ w = w' := by
  have hb : numAt l at' 2 < 65536 := numAt_lt l at' 2
  go_enter Try.func42, Try.ntmps42
  go_wp2_with fail
  refine (le_number A c l _ _ _ hr (by omega) (by omega)).mono ?_
  rintro e w' ⟨rfl, rfl⟩
  go_wp2
  go_ret2
  exact ⟨rfl, rfl⟩

set_option maxHeartbeats 1000000 in
theorem le_In (long at' n : Int) (w : World) (hl : 0 ≤ long) (hm : long ≤ 9223372036854775807) :
    Calls Try.prog 40 #[.int .i64 long, .int .i64 at', .int .i64 n] w fun e w' => e = .returned (.bool (inB long at' n)) ∧ w = w' := by
  have hf : inB long at' n = (decide (0 ≤ at') && decide (0 ≤ n) && decide (at' ≤ long) && decide (n ≤ long - at')) := by
    simp [inB, Bool.decide_and, Bool.and_assoc]
  have HF := hid hf
  clear hf
  by_cases h1 : 0 ≤ at'
  · by_cases h2 : 0 ≤ n
    · by_cases h3 : at' ≤ long
      all_goals
        go_enter Try.func40, Try.ntmps40
        go_wp2
        go_ret
        rw [HF]
        simp [h1, h2, h3] <;> omega
    · go_enter Try.func40, Try.ntmps40
      go_wp2
      go_ret
      rw [HF]
      simp <;> omega
  · go_enter Try.func40, Try.ntmps40
    go_wp2
    go_ret
    rw [HF]
    simp <;> omega
end Go.Proofs.Ytajcihcbgmpdjaa
