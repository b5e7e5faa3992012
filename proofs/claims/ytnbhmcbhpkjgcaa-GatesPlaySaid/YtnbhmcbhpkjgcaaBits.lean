/- Bits of numbers: bounds of what is masked and joined. -/
import Derived.Test.YtnbhmcbhpkjgcaaBase
namespace Go.Proofs.Ytnbhmcbhpkjgcaa
open Go.RowKit

theorem and_le_i64 (x : Int) (m : Nat) (hm : m < 9223372036854775808) : 0 ≤ bits .and .i64 x m ∧ bits .and .i64 x m ≤ m := by
  have h1 : (BitVec.ofInt 64 x &&& BitVec.ofInt 64 m).toNat ≤ m := by
    rw [BitVec.toNat_and]
    refine Nat.le_trans Nat.and_le_right ?_
    rw [BitVec.ofInt_natCast, BitVec.toNat_ofNat]
    exact Nat.mod_le _ _
  have h2 : bits .and .i64 x m = ((BitVec.ofInt 64 x &&& BitVec.ofInt 64 m).toNat : Int) := by
    show IntKind.i64.wrap _ = _
    rw [IntKind.wrap_i64]
    show ((((BitVec.ofInt 64 x &&& BitVec.ofInt 64 m).toNat : Nat) : Int) + 9223372036854775808) % 18446744073709551616 - 9223372036854775808 = _
    omega
  rw [h2]
  omega

theorem and_le_u64 (x : Int) (m : Nat) (_hm : m < 18446744073709551616) : 0 ≤ bits .and .u64 x m ∧ bits .and .u64 x m ≤ m := by
  have h1 : (BitVec.ofInt 64 x &&& BitVec.ofInt 64 m).toNat ≤ m := by
    rw [BitVec.toNat_and]
    refine Nat.le_trans Nat.and_le_right ?_
    rw [BitVec.ofInt_natCast, BitVec.toNat_ofNat]
    exact Nat.mod_le _ _
  have h2 : bits .and .u64 x m = ((BitVec.ofInt 64 x &&& BitVec.ofInt 64 m).toNat : Int) := by
    show IntKind.u64.wrap _ = _
    rw [wrap_u64]
    show (((BitVec.ofInt 64 x &&& BitVec.ofInt 64 m).toNat : Nat) : Int) % 18446744073709551616 = _
    omega
  rw [h2]
  omega

theorem or_bounds_u64 (x y k : Nat) (hx : x < 2 ^ k) (hy : y < 2 ^ k) (hk : k ≤ 64) : (y : Int) ≤ bits .or .u64 x y ∧ bits .or .u64 (x : Int) (y : Int) < (2 ^ k : Nat) := by
  have h64 : 2 ^ k ≤ 2 ^ 64 := Nat.pow_le_pow_right (by decide) hk
  have hw : ∀ n : Int, 0 ≤ n → n < 2 ^ 64 → IntKind.u64.wrap n = n := fun n h0 h1 => wrap_u64_id h0 (by omega)
  rw [(bits_nat .u64 64 (by decide) hw x y (by omega) (by omega)).2]
  have h1 : y ≤ x ||| y := Nat.right_le_or
  have h2 : x ||| y < 2 ^ k := Nat.or_lt_two_pow hx hy
  omega
end Go.Proofs.Ytnbhmcbhpkjgcaa
