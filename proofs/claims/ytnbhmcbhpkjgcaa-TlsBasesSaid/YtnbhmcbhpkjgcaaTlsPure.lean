/- What tlsdir tells of an image's bytes as the statements make them. -/
import Derived.Test.YtnbhmcbhpkjgcaaTlsLaw
namespace Go.Proofs.Ytnbhmcbhpkjgcaa
open Go.RowKit

theorem lnum_lbytes : ∀ (n v : Nat), lnum (lbytes v n) = v % 256 ^ n
  | 0, v => by simp [lbytes, lnum, Nat.mod_one]
  | n + 1, v => by
    rw [lbytes, lnum, lnum_lbytes n, Nat.pow_succ, Nat.mul_comm (256 ^ n) 256, Nat.mod_mul]
    simp

theorem numAt_mid (a b : List UInt8) (v n at' : Nat) (h : a.length = at') : numAt (a ++ (lbytes v n ++ b)) at' n = v % 256 ^ n := by
  subst h
  have hi : inB ((a ++ (lbytes v n ++ b)).length) a.length n = true := by
    simp only [inB, decide_eq_true_eq, List.length_append, lbytes_length]; omega
  rw [numAt, if_pos hi]
  simp only [Int.toNat_natCast]
  rw [List.drop_left, List.take_left' (lbytes_length v n), lnum_lbytes]

theorem putL_mid (a m b : List UInt8) (at' n v : Nat) (ha : a.length = at') (hm : m.length = n) : putL (a ++ (m ++ b)) at' n v = a ++ (lbytes v n ++ b) := by
  subst ha hm
  unfold putL
  rw [List.take_left, List.append_assoc]
  congr 2
  rw [← List.append_assoc, List.drop_left' (by simp)]

theorem zer_add (a b : Nat) : zer (a + b) = zer a ++ zer b := by simp [zer]

/-- The image behind 16. -/
theorem atL16 (base idx : Int) (l : List Int) :
    atL 16 base idx l = zer 32 ++ (lbytes (base + idx).toNat 8 ++ (lbytes (base + 64).toNat 8 ++ (zer 16 ++ ((l.take 10).flatMap (fun x => lbytes (base + x).toNat 8) ++ zer 8)))) := by
  unfold atL
  have e1 : zer (16 + 48) = zer 32 ++ (zer 8 ++ (zer 8 ++ zer 16)) := by rw [← zer_add, ← zer_add, ← zer_add]
  rw [e1, putL_mid (zer 32) (zer 8) (zer 8 ++ zer 16) (16 + 16) 8 _ (zer_length _) (zer_length _), ← List.append_assoc (zer 32),
    putL_mid (zer 32 ++ lbytes (base + idx).toNat 8) (zer 8) (zer 16) (16 + 24) 8 _ (by rw [List.length_append, zer_length, lbytes_length]) (zer_length _)]
  have e2 : base + ((16 : Nat) : Int) + 48 = base + 64 := by omega
  rw [e2]
  simp only [List.append_assoc]

theorem atL16_length (base idx : Int) (l : List Int) (h : l.length ≤ 10) : (atL 16 base idx l).length = 72 + 8 * l.length := by
  rw [atL16]
  simp only [List.length_append, zer_length, lbytes_length, flat_len _ _ (fun _ => lbytes_length _ _), List.length_take]
  omega

section
variable (base idx : Int) (l : List Int) (hb1 : 1 ≤ base) (hb2 : base ≤ 1000000000000000) (hi0 : 0 ≤ idx) (hi1 : idx ≤ 63) (hl : l.length ≤ 8) (hx : ∀ x ∈ l, 0 ≤ x ∧ x ≤ 63)
include hb1 hb2

theorem at_index (hi0 : 0 ≤ idx) (hi1 : idx ≤ 63) : ((numAt (atL 16 base idx l) 32 8 : Nat) : Int) = base + idx := by
  have h := numAt_mid (zer 32) (lbytes (base + 64).toNat 8 ++ (zer 16 ++ ((l.take 10).flatMap (fun x => lbytes (base + x).toNat 8) ++ zer 8))) (base + idx).toNat 8 32 (zer_length _)
  rw [atL16]
  have e : ((32 : Nat) : Int) = 32 := rfl
  have e8 : ((8 : Nat) : Int) = 8 := rfl
  rw [e, e8] at h
  rw [h]
  omega

theorem at_addr : ((numAt (atL 16 base idx l) 40 8 : Nat) : Int) = base + 64 := by
  have h := numAt_mid (zer 32 ++ lbytes (base + idx).toNat 8) (zer 16 ++ ((l.take 10).flatMap (fun x => lbytes (base + x).toNat 8) ++ zer 8)) (base + 64).toNat 8 40 (by rw [List.length_append, zer_length, lbytes_length])
  rw [atL16]
  have e : ((40 : Nat) : Int) = 40 := rfl
  have e8 : ((8 : Nat) : Int) = 8 := rfl
  rw [e, e8, List.append_assoc] at h
  rw [h]
  omega

theorem at_call (hl : l.length ≤ 8) (hx : ∀ x ∈ l, 0 ≤ x ∧ x ≤ 63) (j : Nat) (hj : j < l.length) : ((numAt (atL 16 base idx l) ((64 + 8 * j : Nat) : Int) 8 : Nat) : Int) = base + l[j] := by
  have hxj := hx l[j] (List.getElem_mem hj)
  have e10 : l.take 10 = l := List.take_of_length_le (by omega)
  have hsp : l = l.take j ++ (l[j] :: l.drop (j + 1)) := by
    rw [List.getElem_cons_drop, List.take_append_drop]
  have h := numAt_mid (zer 32 ++ (lbytes (base + idx).toNat 8 ++ (lbytes (base + 64).toNat 8 ++ (zer 16 ++ (l.take j).flatMap (fun x => lbytes (base + x).toNat 8)))))
    ((l.drop (j + 1)).flatMap (fun x => lbytes (base + x).toNat 8) ++ zer 8) (base + l[j]).toNat 8 (64 + 8 * j)
    (by simp only [List.length_append, zer_length, lbytes_length, flat_len _ _ (fun _ => lbytes_length _ _), List.length_take]; omega)
  rw [atL16, e10]
  have e8 : ((8 : Nat) : Int) = 8 := rfl
  have hfm : l.flatMap (fun x => lbytes (base + x).toNat 8) = (l.take j).flatMap (fun x => lbytes (base + x).toNat 8) ++ (lbytes (base + l[j]).toNat 8 ++ (l.drop (j + 1)).flatMap (fun x => lbytes (base + x).toNat 8)) := by
    conv => lhs; rw [hsp]
    rw [List.flatMap_append, List.flatMap_cons]
  rw [hfm]
  rw [e8] at h
  simp only [List.append_assoc] at h ⊢
  rw [h]
  omega

omit hb1 hb2 in
theorem at_end (hl : l.length ≤ 8) : numAt (atL 16 base idx l) ((64 + 8 * l.length : Nat) : Int) 8 = 0 := by
  have e10 : l.take 10 = l := List.take_of_length_le (by omega)
  have h := numAt_mid (zer 32 ++ (lbytes (base + idx).toNat 8 ++ (lbytes (base + 64).toNat 8 ++ (zer 16 ++ l.flatMap (fun x => lbytes (base + x).toNat 8)))))
    [] 0 8 (64 + 8 * l.length)
    (by simp only [List.length_append, zer_length, lbytes_length, flat_len _ _ (fun _ => lbytes_length _ _)]; omega)
  rw [atL16, e10]
  have e8 : ((8 : Nat) : Int) = 8 := rfl
  have ez : lbytes 0 8 = zer 8 := by simp [lbytes, zer, List.replicate]
  rw [e8, ez, List.append_nil] at h
  simp only [List.append_assoc] at h ⊢
  rw [h]

omit hb1 hb2 in
theorem sub64_of (a b : Int) (h0 : 0 ≤ a - b) (h1 : a - b < 18446744073709551616) : sub64 a b = a - b := wrap_u64_id h0 h1

theorem calls_from (hl : l.length ≤ 8) (hx : ∀ x ∈ l, 0 ≤ x ∧ x ≤ 63) : ∀ (d j : Nat), j + d = l.length → ∀ k, d < k →
    tlsCallsF (atL 16 base idx l) base k (base + 64 + 8 * j) (l.take j) = some l := by
  intro d
  induction d with
  | zero =>
    intro j hj k hk
    obtain ⟨k, rfl⟩ : ∃ m, k = m + 1 := ⟨k - 1, by omega⟩
    have hlen := atL16_length base idx l (by omega)
    have hp : placeF (atL 16 base idx l).length (sub64 (base + 64 + 8 * j) base) 8 = some (((64 + 8 * j : Nat)) : Int) := by
      rw [sub64_of _ _ (by omega) (by omega), placeF, hlen, if_pos (by omega)]
      congr 1
      omega
    obtain rfl : j = l.length := by omega
    have hz := at_end base idx l hl
    rw [tlsCallsF]
    simp only [hp]
    rw [if_pos hz, List.take_length]
  | succ d ih =>
    intro j hj k hk
    obtain ⟨k, rfl⟩ : ∃ m, k = m + 1 := ⟨k - 1, by omega⟩
    have hlen := atL16_length base idx l (by omega)
    have hlt : j < l.length := by omega
    have hxj := hx l[j] (List.getElem_mem hlt)
    have hp : placeF (atL 16 base idx l).length (sub64 (base + 64 + 8 * j) base) 8 = some (((64 + 8 * j : Nat)) : Int) := by
      rw [sub64_of _ _ (by omega) (by omega), placeF, hlen, if_pos (by omega)]
      congr 1
      omega
    have hc := at_call base idx l hb1 hb2 hl hx j hlt
    have hq : placeF (atL 16 base idx l).length (sub64 (base + l[j]) base) 1 = some l[j] := by
      rw [sub64_of _ _ (by omega) (by omega), placeF, hlen, if_pos (by omega)]
      congr 1
      omega
    have h8 : ¬ (l.take j).length = 8 := by simp; omega
    have hw : IntKind.u64.wrap (base + 64 + 8 * j + 8) = base + 64 + 8 * ((j + 1 : Nat) : Int) := by rw [wrap_u64_id (by omega) (by omega)]; omega
    rw [tlsCallsF]
    simp only [hp]
    rw [if_neg (by omega), hc]
    simp only [hq]
    rw [if_neg h8, hw, ← take_snoc l j hlt]
    exact ih (j + 1) (by omega) k (by omega)

/-- As it was made. -/
theorem tlsF_made (hi0 : 0 ≤ idx) (hi1 : idx ≤ 63) (hl : l.length ≤ 8) (hx : ∀ x ∈ l, 0 ≤ x ∧ x ≤ 63) : tlsF (atL 16 base idx l) 16 base = ((true, idx, l), 0) := by
  have hlen := atL16_length base idx l (by omega)
  have e1 : wrap64 (16 + 16) = 32 := by unfold wrap64; omega
  have e2 : wrap64 (16 + 24) = 40 := by unfold wrap64; omega
  have hin : inB (atL 16 base idx l).length 16 40 = true := by rw [hlen]; simp only [inB, decide_eq_true_eq]; omega
  have ha := at_index base idx l hb1 hb2 hi0 hi1
  have hb := at_addr base idx l hb1 hb2
  have hp : placeF (atL 16 base idx l).length (sub64 (base + idx) base) 4 = some idx := by
    rw [sub64_of _ _ (by omega) (by omega), placeF, hlen, if_pos (by omega)]
    congr 1
    omega
  have hc := calls_from base idx l hb1 hb2 hl hx l.length 0 (by omega) 9 (by omega)
  rw [List.take_zero, show base + 64 + 8 * ((0 : Nat) : Int) = base + 64 from by omega] at hc
  unfold tlsF
  rw [if_neg (by decide), e1, e2, if_neg (by rw [hin]; simp), ha]
  simp only [hp]
  rw [if_neg (by omega), hb]
  simp only [hc]

/-- At another base there is none. -/
theorem tlsF_far (hi0 : 0 ≤ idx) (hi1 : idx ≤ 63) (hl : l.length ≤ 8) (other : Int) (ho : other = base + 1099511627776) : tlsF (atL 16 base idx l) 16 other = ((false, 0, []), 12) := by
  have hlen := atL16_length base idx l (by omega)
  have e1 : wrap64 (16 + 16) = 32 := by unfold wrap64; omega
  have hin : inB (atL 16 base idx l).length 16 40 = true := by rw [hlen]; simp only [inB, decide_eq_true_eq]; omega
  have ha := at_index base idx l hb1 hb2 hi0 hi1
  have hp : placeF (atL 16 base idx l).length (sub64 (base + idx) other) 4 = none := by
    unfold placeF sub64
    rw [wrap_u64, hlen, if_neg (by omega)]
  unfold tlsF
  rw [if_neg (by decide), e1, if_neg (by rw [hin]; simp), ha]
  simp only [hp]
end
end Go.Proofs.Ytnbhmcbhpkjgcaa
