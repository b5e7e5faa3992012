/- The document's words on bytes (slipwayref1): In, Num, Int, Bytes, Put. -/
import Derived.Test.YtajcihcbgmpdjaaBase
namespace Go.Proofs.Ytajcihcbgmpdjaa
open Go.RowKit

set_option maxHeartbeats 1000000 in
theorem ref_In (long at' n : Int) (w : World) (hl : 0 ≤ long) (hm : long ≤ 9223372036854775807) :
    Calls Try.prog 31 #[.int .i64 long, .int .i64 at', .int .i64 n] w fun e w' => e = .returned (.bool (inB long at' n)) ∧ w = w' := by
  by_cases h1 : 0 ≤ at'
  · by_cases h2 : 0 ≤ n
    · by_cases h3 : at' ≤ long
      · have hf : inB long at' n = decide (n ≤ long - at') := by simp [inB, h1, h2, h3]
        have HF := hid hf
        clear hf
        go_enter Try.func31, Try.ntmps31
        go_wp2
        go_ret
        rw [HF]
        simp
      · have hf : inB long at' n = false := by simp [inB, h1, h2, h3]
        have HF := hid hf
        clear hf
        go_enter Try.func31, Try.ntmps31
        go_wp2
        go_ret
        rw [HF]
        simp
    · have hf : inB long at' n = false := by simp [inB, h1, h2]
      have HF := hid hf
      clear hf
      go_enter Try.func31, Try.ntmps31
      go_wp2
      go_ret
      rw [HF]
      simp
  · have hf : inB long at' n = false := by simp [inB, h1]
    have HF := hid hf
    clear hf
    go_enter Try.func31, Try.ntmps31
    go_wp2
    go_ret
    rw [HF]
    simp

/-- A number's lowest bytes, the lowest first. -/
def lbytes : Nat → Nat → List UInt8
  | _, 0 => []
  | v, n + 1 => UInt8.ofNat v :: lbytes (v / 256) n


theorem lbytes_length : ∀ v n, (lbytes v n).length = n
  | _, 0 => rfl
  | v, n + 1 => by simp [lbytes, lbytes_length]

theorem lbytes_snoc : ∀ (v n : Nat), lbytes v (n + 1) = lbytes v n ++ [UInt8.ofNat (v / 2 ^ (8 * n))]
  | v, 0 => by simp [lbytes]
  | v, n + 1 => by
    rw [lbytes, lbytes_snoc (v / 256) n]
    simp only [lbytes, List.cons_append]
    rw [Nat.div_div_eq_div_mul, show 8 * (n + 1) = 8 + 8 * n from by omega, Nat.pow_add]

theorem byte_nat (v k : Nat) : UInt8.ofNat ((v : Int) / 2 ^ k % 256).toNat = UInt8.ofNat (v / 2 ^ k) := by
  have e : ((v : Int) / 2 ^ k % 256).toNat = v / 2 ^ k % 256 := by
    have : ((v : Int) / 2 ^ k % 256) = ((v / 2 ^ k % 256 : Nat) : Int) := by simp
    rw [this, Int.toNat_natCast]
  rw [e]
  apply UInt8.toNat_inj.1
  simp

/-- 'string([]byte{x})'. -/
theorem str_one (x : Int) (w : World) (h0 : 0 ≤ x) (h1 : x < 256) :
    (convert 23 9 (.slice (some ⟨w.heap.size, 0, none⟩) 1 1)).run Try.prog (w.alloc (.cells #[.int .u8 x] 5)) = .ok (.string (S [UInt8.ofNat x.toNat])) (w.alloc (.cells #[.int .u8 x] 5)) :=
  run_str _ _ _ 5 Try.underlying23 Try.underlying5 Try.underlying9 _ _ _ _ rfl (by
    have e : bcells [UInt8.ofNat x.toNat] = [.int .u8 x] := by simp only [bcells, List.map_cons, List.map_nil, byte_of x h0 h1]
    rw [e]
    exact Row.one w (.int .u8 x) 5)

set_option maxRecDepth 100000 in
set_option maxHeartbeats 1000000 in
theorem ref_Bytes (v n : Int) (w : World) (h0 : 0 ≤ v) (h1 : v < 18446744073709551616) (hn0 : 0 ≤ n) (hn : n ≤ 8) :
    Calls Try.prog 45 #[.int .u64 v, .int .i64 n] w fun e w' => e = .returned (.string (S (lbytes v.toNat n.toNat))) ∧ Below w.heap.size w w' := by
  obtain ⟨v, rfl⟩ := Int.eq_ofNat_of_zero_le h0
  obtain ⟨n, rfl⟩ := Int.eq_ofNat_of_zero_le hn0
  simp only [Int.toNat_natCast]
  have H1 := hid h1
  clear h1
  go_enter Try.func45, Try.ntmps45
  go_wp2
  go_loopw [5, 6] (fun s i wr => ∃ j : Nat, j ≤ n ∧ i = .int .i64 j ∧ s = .string (S (lbytes v j)) ∧ Below w.heap.size w wr) (fun _ i _ => n - (intOf i).toNat)
  case atStart => exact ⟨0, Nat.zero_le _, rfl, rfl, Below.refl _ _⟩
  case round =>
    obtain ⟨j, hj, rfl, rfl, hb⟩ := hrel
    by_cases hlt : j < n
    · have hs1 : (S (lbytes v j)).size = j := by rw [S_size, lbytes_length]
      have hx : ∀ x : Int, 0 ≤ x → x < 256 → ∀ W : World, (convert 23 9 (.slice (some ⟨W.heap.size, 0, none⟩) 1 1)).run Try.prog (W.alloc (.cells #[.int .u8 x] 5)) = .ok (.string (S [UInt8.ofNat x.toNat])) (W.alloc (.cells #[.int .u8 x] 5)) := fun x h0 h1 W => str_one x W h0 h1
      have hcv := hx (v / 2 ^ (8 * j) % 256) (Int.emod_nonneg _ (by decide)) (Int.emod_lt_of_pos _ (by decide)) wr
      obtain ⟨b, hbb⟩ : ∃ b, b = UInt8.ofNat ((v : Int) / 2 ^ (8 * j) % 256).toNat := ⟨_, rfl⟩
      rw [← hbb] at hcv
      have hs2 : (S [b]).size = 1 := rfl
      have HB := hid hbb
      clear hbb hx
      go_wp2
      go_roundw
      case rel => exact ⟨j + 1, by omega, by go_num, by rw [S_append, lbytes_snoc, HB.out, byte_nat], hb.alloc (by have := hb.size; omega) _⟩
      case measure => simp [intOf]; omega
    · go_wp2
      go_ret
      obtain rfl : j = n := by omega
      exact ⟨rfl, hb⟩

def putB (s : ByteArray) (at' n v : Nat) : ByteArray := s.extract 0 at' ++ S (lbytes v n) ++ s.extract (at' + n) s.size

set_option maxRecDepth 100000 in
set_option maxHeartbeats 1000000 in
theorem ref_Put (s : ByteArray) (at' n v : Int) (w : World) (hs : s.size ≤ 140737488351232) (h0 : 0 ≤ at') (h1 : at' + n ≤ s.size) (hn0 : 1 ≤ n) (hn : n ≤ 8) (hv0 : 0 ≤ v) (hv : v < 18446744073709551616) :
    Calls Try.prog 34 #[.string s, .int .i64 at', .int .i64 n, .int .u64 v] w fun e w' => e = .returned (.tuple #[.string (putB s at'.toNat n.toNat v.toNat), .bool true]) ∧ Below w.heap.size w w' := by
  obtain ⟨a, rfl⟩ := Int.eq_ofNat_of_zero_le h0
  obtain ⟨n, rfl⟩ := Int.eq_ofNat_of_zero_le (show 0 ≤ n by omega)
  have hin : inB s.size a n = true := by simp only [inB, decide_eq_true_eq]; omega
  have Hv := hid hv
  clear hv
  go_enter Try.func34, Try.ntmps34
  go_wp2_with fail
  refine (ref_In _ _ _ _ (by omega) (by omega)).mono ?_
  rintro e w' ⟨rfl, rfl⟩
  go_wp2_with fail
  have e1 : (s.extract 0 a).size = a := by simp; omega
  have e2 : (s.extract (a + n) s.size).size = s.size - (a + n) := by simp
  have e3 : (S (lbytes v.toNat n)).size = n := by rw [S_size, lbytes_length]
  have e4 : (s.extract 0 a ++ S (lbytes v.toNat n)).size = a + n := by rw [ByteArray.size_append, e1, e3]
  have f1 : IntKind.i64.wrap ((a : Int) + n) = (a : Int) + n := IntWalk.i64_in _ (by omega)
  have f2 : (0 : Int) ≤ (a : Int) + n := by omega
  have f3 : ((a : Int) + n).toNat = a + n := by omega
  have f4 : (a : Int) + n ≤ s.size := by omega
  have f5 : (a : Int) ≤ s.size := by omega
  go_region_with (go_at_call 45; refine (ref_Bytes v n _ hv0 Hv (by omega) hn).mono ?_; rintro e w' ⟨rfl, hb⟩; rw [Int.toNat_natCast])
  go_wp2
  go_ret2
  exact ⟨rfl, below_undrew hb⟩

/-- A row with a number in it. -/
def putL (s : List UInt8) (at' n v : Nat) : List UInt8 := s.take at' ++ lbytes v n ++ s.drop (at' + n)

theorem putB_S (s : List UInt8) (at' n v : Nat) : putB (S s) at' n v = S (putL s at' n v) := by
  unfold putB putL
  rw [← S_append, ← S_append]
  have e1 : (S s).extract 0 at' = S (s.take at') := by
    apply ByteArray.ext
    simp [S, ByteArray.data_extract]
  have e2 : (S s).extract (at' + n) (S s).size = S (s.drop (at' + n)) := by
    apply ByteArray.ext
    simp [S, ByteArray.data_extract, ByteArray.size]
    rw [List.take_of_length_le (by simp)]
  rw [e1, e2]

theorem putL_length (s : List UInt8) (at' n v : Nat) (h : at' + n ≤ s.length) : (putL s at' n v).length = s.length := by
  simp [putL, lbytes_length]; omega

/-- Put, of a list. -/
theorem ref_PutL (s : List UInt8) (at' n v : Int) (w : World) (hs : s.length ≤ 140737488351232) (h0 : 0 ≤ at') (h1 : at' + n ≤ s.length) (hn0 : 1 ≤ n) (hn : n ≤ 8) (hv0 : 0 ≤ v) (hv : v < 18446744073709551616) :
    Calls Try.prog 34 #[.string (S s), .int .i64 at', .int .i64 n, .int .u64 v] w fun e w' => e = .returned (.tuple #[.string (S (putL s at'.toNat n.toNat v.toNat)), .bool true]) ∧ Below w.heap.size w w' := by
  rw [← putB_S]
  exact ref_Put (S s) at' n v w (by rw [S_size]; exact hs) h0 (by rw [S_size]; exact h1) hn0 hn hv0 hv
end Go.Proofs.Ytajcihcbgmpdjaa
