/- What Parse tells of the bytes that Made makes. -/
import Derived.Test.YtajcihcbgmpdjaaMadeF
import Derived.Test.YtajcihcbgmpdjaaBits
import Derived.Test.YtajcihcbgmpdjaaSeg
namespace Go.Proofs.Ytajcihcbgmpdjaa
open Go.RowKit

/-- The sections as the head tells them. -/
def secsD : List (Int × Int × Int) → Nat → Nat → Nat → List SectD
  | [], _, _, _ => []
  | x :: xs, i, rva, pt => ⟨[115, UInt8.ofNat (48 + i)], secV x, rva, secRaw x, pt, secCh x⟩ :: secsD xs (i + 1) (rva + secFull x) (pt + secRaw x)

/-- Where the sections end; how many bytes they have in the file. -/
def secsEnd : List (Int × Int × Int) → Nat → Nat
  | [], rva => rva
  | x :: xs, rva => secsEnd xs (rva + secFull x)
def secsLen : List (Int × Int × Int) → Nat
  | [] => 0
  | x :: xs => secRaw x + secsLen xs

theorem bits_bd (a : Int) (m : Nat) (hm : m < 9223372036854775808) : (bits .and .i64 a m).toNat ≤ m := by
  have := and_le_i64 a m hm
  omega

theorem sec_bd (x : Int × Int × Int) : 1 ≤ secV x ∧ secV x ≤ 16384 ∧ 4096 ≤ secFull x ∧ secFull x ≤ 20480 ∧ secFull x % 4096 = 0 ∧ roundF (secV x) 4096 = secFull x ∧ secRaw x ≤ 8191 ∧ secRaw x % 512 = 0 ∧ secRaw x ≤ secFull x ∧ secCh x ≤ 3758096384 := by
  obtain ⟨a0, a1⟩ := and_le_i64 x.1 16383 (by omega)
  have b1 := bits_bd x.2.1 8191 (by omega)
  have c1 := bits_bd x.2.2 7 (by omega)
  have hv : (secV x : Int) = bits .and .i64 x.1 (16383 : Nat) + 1 := by
    show (((bits .and .i64 x.1 (16383 : Nat) + 1).toNat : Nat) : Int) = _
    omega
  have v1 : 1 ≤ secV x := by omega
  have v2 : secV x ≤ 16384 := by omega
  obtain ⟨r1, r2, r3⟩ := round_bounds (secV x) (by omega) (by omega)
  have hf : (secFull x : Int) = roundF (secV x) 4096 := by
    show (((roundF (secV x) 4096).toNat : Nat) : Int) = _
    omega
  have f1 : 4096 ≤ secFull x := by omega
  have f2 : secFull x ≤ 20480 := by omega
  have f3 : secFull x % 4096 = 0 := by omega
  obtain ⟨f, hfe⟩ : ∃ f, secFull x = 512 * f := ⟨secFull x / 512, by omega⟩
  have hq : secRaw x = ((bits .and .i64 x.2.1 (8191 : Nat)).toNat / 512 * 512) % (secFull x + 512) := rfl
  have hr : secRaw x = 512 * (((bits .and .i64 x.2.1 (8191 : Nat)).toNat / 512) % (f + 1)) := by
    rw [hq, hfe, show 512 * f + 512 = 512 * (f + 1) by omega, Nat.mul_comm _ 512, Nat.mul_mod_mul_left]
  have hlt := Nat.mod_lt ((bits .and .i64 x.2.1 (8191 : Nat)).toNat / 512) (show 0 < f + 1 by omega)
  have hle := Nat.mod_le ((bits .and .i64 x.2.1 (8191 : Nat)).toNat / 512) (f + 1)
  have hc : secCh x = (bits .and .i64 x.2.2 (7 : Nat)).toNat * 536870912 := rfl
  refine ⟨v1, v2, f1, f2, f3, hf.symm, ?_, ?_, ?_, ?_⟩
  · omega
  · omega
  · omega
  · omega

theorem secMore_length (j i : Nat) : (secMore j i).length = i := by simp [secMore]

/-- One step's bytes: the section's row of forty; what was there elsewhere. -/
theorem step_length (b : List UInt8) (rva i : Nat) (x : Int × Int × Int) : (madeStep b rva i x).length = b.length + secRaw x := by
  simp [madeStep, putF_length, secMore_length]

theorem step_far (b : List UInt8) (rva i : Nat) (x : Int × Int × Int) (k : Nat) (hk : k < b.length) (h : k < 328 + 40 * i ∨ 328 + 40 * i + 40 ≤ k) : (madeStep b rva i x)[k]? = b[k]? := by
  simp only [madeStep]
  rw [List.getElem?_append_left (by simp [putF_length]; exact hk)]
  rw [putF_far _ _ _ _ _ (by omega), putF_far _ _ _ _ _ (by omega), putF_far _ _ _ _ _ (by omega), putF_far _ _ _ _ _ (by omega), putF_far _ _ _ _ _ (by omega)]
  rw [set_get _ _ _ _ (by omega), set_get _ _ _ _ (by omega)]

theorem cutHead_two (a b : UInt8) (l : List UInt8) (h2 : l.length = 8) (ha : a ≠ 0) (hb : b ≠ 0) (h0 : l[0]? = some a) (h1 : l[1]? = some b) (h3 : l[2]? = some 0) : cutHead l 0 = [a, b] := by
  obtain ⟨x0, x1, x2, x3, x4, x5, x6, x7, rfl⟩ : ∃ x0 x1 x2 x3 x4 x5 x6 x7, l = [x0, x1, x2, x3, x4, x5, x6, x7] := by
    match l, h2 with
    | [x0, x1, x2, x3, x4, x5, x6, x7], _ => exact ⟨x0, x1, x2, x3, x4, x5, x6, x7, rfl⟩
  simp at h0 h1 h3
  subst h0 h1 h3
  have hi : Lib.indexByte [x0, x1, 0, x3, x4, x5, x6, x7] 0 = 2 := by
    simp [Lib.indexByte, ha, hb]
  rw [cutHead, hi]
  rfl

set_option maxHeartbeats 2000000 in
theorem step_sect (b : List UInt8) (rva i : Nat) (x : Int × Int × Int) (hl : 1024 ≤ b.length) (hi : i ≤ 5) (hr : rva < 4294967296) (hb : b.length < 4294967296) (hz : b[328 + 40 * i + 2]? = some 0) :
    sectAt (madeStep b rva i x) 64 (264 + 40 * (i : Int)) = ⟨[115, UInt8.ofNat (48 + i)], secV x, rva, secRaw x, b.length, secCh x⟩ := by
  obtain ⟨s1, s2, s3, s4, s5, s6, s7, s8, s9, s10⟩ := sec_bd x
  have hlen := step_length b rva i x
  obtain ⟨p, hp⟩ : ∃ p, 328 + 40 * i = p := ⟨_, rfl⟩
  have hpn : (64 + (264 + 40 * (i : Int))).toNat = p := by omega
  have num : ∀ (c : List UInt8) (o n v : Nat), 8 ≤ o → o + n ≤ 40 → c.length = b.length → v < 256 ^ n →
      (∀ k, p + o ≤ k → k < p + o + n → (madeStep b rva i x)[k]? = (putF c (p + o) n v)[k]?) → numAt (madeStep b rva i x) (64 + (264 + 40 * (i : Int) + (o : Int))) (n : Int) = v := by
    intro c o n v ho hon hc hv h
    rw [numAt_congr (madeStep b rva i x) (putF c (p + o) n v) _ _ (p + o) n (by omega) rfl (by omega) (by rw [putF_length]; omega) h,
      putF_num c _ _ (p + o) n v (by omega) rfl (by omega), Nat.mod_eq_of_lt hv]
  have e0 : (madeStep b rva i x) = (let c := (b.set p 115).set (p + 1) (UInt8.ofNat (48 + i)); let c := putF c (p + 8) 4 (secV x); let c := putF c (p + 12) 4 rva; let c := putF c (p + 16) 4 (secRaw x); let c := putF c (p + 20) 4 c.length; putF c (p + 36) 4 (secCh x) ++ secMore i (secRaw x)) := by
    rw [← hp]; rfl
  obtain ⟨c0, hc0⟩ : ∃ c0, (b.set p 115).set (p + 1) (UInt8.ofNat (48 + i)) = c0 := ⟨_, rfl⟩
  have l0 : c0.length = b.length := by rw [← hc0]; simp
  obtain ⟨c1, hc1⟩ : ∃ c, putF c0 (p + 8) 4 (secV x) = c := ⟨_, rfl⟩
  have l1 : c1.length = b.length := by rw [← hc1, putF_length, l0]
  obtain ⟨c2, hc2⟩ : ∃ c, putF c1 (p + 12) 4 rva = c := ⟨_, rfl⟩
  have l2 : c2.length = b.length := by rw [← hc2, putF_length, l1]
  obtain ⟨c3, hc3⟩ : ∃ c, putF c2 (p + 16) 4 (secRaw x) = c := ⟨_, rfl⟩
  have l3 : c3.length = b.length := by rw [← hc3, putF_length, l2]
  obtain ⟨c4, hc4⟩ : ∃ c, putF c3 (p + 20) 4 b.length = c := ⟨_, rfl⟩
  have l4 : c4.length = b.length := by rw [← hc4, putF_length, l3]
  obtain ⟨c5, hc5⟩ : ∃ c, putF c4 (p + 36) 4 (secCh x) = c := ⟨_, rfl⟩
  have l5 : c5.length = b.length := by rw [← hc5, putF_length, l4]
  simp only [hc0, hc1, hc2, hc3, l3, hc4, hc5] at e0
  have g5 : ∀ k, k < b.length → (madeStep b rva i x)[k]? = c5[k]? := fun k hk => by rw [e0, List.getElem?_append_left (by omega)]
  have g4 : ∀ k, k < p + 36 → (madeStep b rva i x)[k]? = c4[k]? := fun k hk => by rw [g5 k (by omega), ← hc5, putF_far _ _ _ _ _ (by omega)]
  have g3 : ∀ k, k < p + 20 → (madeStep b rva i x)[k]? = c3[k]? := fun k hk => by rw [g4 k (by omega), ← hc4, putF_far _ _ _ _ _ (by omega)]
  have g2 : ∀ k, k < p + 16 → (madeStep b rva i x)[k]? = c2[k]? := fun k hk => by rw [g3 k (by omega), ← hc3, putF_far _ _ _ _ _ (by omega)]
  have g1 : ∀ k, k < p + 12 → (madeStep b rva i x)[k]? = c1[k]? := fun k hk => by rw [g2 k (by omega), ← hc2, putF_far _ _ _ _ _ (by omega)]
  have g0 : ∀ k, k < p + 8 → (madeStep b rva i x)[k]? = c0[k]? := fun k hk => by rw [g1 k (by omega), ← hc1, putF_far _ _ _ _ _ (by omega)]
  have n1 := num c0 8 4 (secV x) (by omega) (by omega) l0 (by omega) (fun k h1 h2 => by rw [hc1]; exact g1 k (by omega))
  have n2 := num c1 12 4 rva (by omega) (by omega) l1 (by omega) (fun k h1 h2 => by rw [hc2]; exact g2 k (by omega))
  have n3 := num c2 16 4 (secRaw x) (by omega) (by omega) l2 (by omega) (fun k h1 h2 => by rw [hc3]; exact g3 k (by omega))
  have n4 := num c3 20 4 b.length (by omega) (by omega) l3 (by omega) (fun k h1 h2 => by rw [hc4]; exact g4 k (by omega))
  have n5 := num c4 36 4 (secCh x) (by omega) (by omega) l4 (by omega) (fun k h1 h2 => by rw [hc5]; exact g5 k (by omega))
  have nm : cutHead (((madeStep b rva i x).drop (64 + (264 + 40 * (i : Int))).toNat).take 8) 0 = [115, UInt8.ofNat (48 + i)] := by
    rw [hpn]
    have hb2 : UInt8.ofNat (48 + i) ≠ 0 := by
      have : i = 0 ∨ i = 1 ∨ i = 2 ∨ i = 3 ∨ i = 4 ∨ i = 5 := by omega
      rcases this with rfl | rfl | rfl | rfl | rfl | rfl <;> decide
    have sg : ∀ k, k < 8 → (((madeStep b rva i x).drop p).take 8)[k]? = c0[p + k]? := fun k hk => by
      have := seg_get (madeStep b rva i x) p 8 k
      rw [if_pos hk] at this
      exact this.trans (g0 (p + k) (by omega))
    refine cutHead_two _ _ _ (seg_length _ p 8 (by omega)) (by decide) hb2 ?_ ?_ ?_
    · rw [sg 0 (by omega), Nat.add_zero, ← hc0, set_get _ _ _ _ (by omega), set_get_same _ _ _ (by omega)]
    · rw [sg 1 (by omega), ← hc0, set_get_same _ _ _ (by rw [List.length_set]; omega)]
    · rw [sg 2 (by omega), ← hc0, set_get _ _ _ _ (by omega), set_get _ _ _ _ (by omega), ← hp]
      exact hz
  have m1 : numAt (madeStep b rva i x) (64 + (264 + 40 * (i : Int) + 8)) 4 = secV x := n1
  have m2 : numAt (madeStep b rva i x) (64 + (264 + 40 * (i : Int) + 12)) 4 = rva := n2
  have m3 : numAt (madeStep b rva i x) (64 + (264 + 40 * (i : Int) + 16)) 4 = secRaw x := n3
  have m4 : numAt (madeStep b rva i x) (64 + (264 + 40 * (i : Int) + 20)) 4 = b.length := n4
  have m5 : numAt (madeStep b rva i x) (64 + (264 + 40 * (i : Int) + 36)) 4 = secCh x := n5
  rw [sectAt, nm, m1, m2, m3, m4, m5]
end Go.Proofs.Ytajcihcbgmpdjaa
