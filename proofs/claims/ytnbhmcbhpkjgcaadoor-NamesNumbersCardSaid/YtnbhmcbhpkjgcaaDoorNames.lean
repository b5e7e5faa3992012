/- NamesNumbers, walked. -/
import Derived.Test.YtnbhmcbhpkjgcaaDoorBase
import Derived.Test.YtnbhmcbhpkjgcaaDoorShelf
import Derived.Great.Walk
namespace Go.Proofs.YtnbhmcbhpkjgcaaDoor
open Go.RowKit

def namesT : List Nat := [0, 1, 2, 3, 4, 5, 6, 7, 8, 9, 10, 11, 12, 13, 14, 15, 16, 17, 18, 19, 20, 21, 22, 23, 24, 25, 26, 27, 4096, 1024, 64, 16, 256, 16, 64, 512, 8, 32, 8, 32, 256, 300, 10000, 1, 2, 4, 8, 0, 3, 10, 2, 3, 4, 5, 8, 9, 12, 13, 0, 1, 2, 3, 4, 5, 0, 1, 2, 3, 4, 5, 6, 7, 8, 9, 10, 1, 2, 3, 4, 5, 6, 7, 8, 9, 10, 11, 12, 13, 14, 15, 16, 17, 18, 19, 20, 21, 22, 23, 1, 2, 3, 4, 1, 2, 3, 4, 5, 6, 7, 8]
def pcells (n : Nat) : List Value := [.int .i64 n, .int .i64 n]
def namesA : Array Value := #[.int .i64 0, .int .i64 0, .int .i64 1, .int .i64 1, .int .i64 2, .int .i64 2, .int .i64 3, .int .i64 3, .int .i64 4, .int .i64 4, .int .i64 5, .int .i64 5, .int .i64 6, .int .i64 6, .int .i64 7, .int .i64 7, .int .i64 8, .int .i64 8, .int .i64 9, .int .i64 9, .int .i64 10, .int .i64 10, .int .i64 11, .int .i64 11, .int .i64 12, .int .i64 12, .int .i64 13, .int .i64 13, .int .i64 14, .int .i64 14, .int .i64 15, .int .i64 15, .int .i64 16, .int .i64 16, .int .i64 17, .int .i64 17, .int .i64 18, .int .i64 18, .int .i64 19, .int .i64 19, .int .i64 20, .int .i64 20, .int .i64 21, .int .i64 21, .int .i64 22, .int .i64 22, .int .i64 23, .int .i64 23, .int .i64 24, .int .i64 24, .int .i64 25, .int .i64 25, .int .i64 26, .int .i64 26, .int .i64 27, .int .i64 27, .int .i64 4096, .int .i64 4096, .int .i64 1024, .int .i64 1024, .int .i64 64, .int .i64 64, .int .i64 16, .int .i64 16, .int .i64 256, .int .i64 256, .int .i64 16, .int .i64 16, .int .i64 64, .int .i64 64, .int .i64 512, .int .i64 512, .int .i64 8, .int .i64 8, .int .i64 32, .int .i64 32, .int .i64 8, .int .i64 8, .int .i64 32, .int .i64 32, .int .i64 256, .int .i64 256, .int .i64 300, .int .i64 300, .int .i64 10000, .int .i64 10000, .int .i64 1, .int .i64 1, .int .i64 2, .int .i64 2, .int .i64 4, .int .i64 4, .int .i64 8, .int .i64 8, .int .i64 0, .int .i64 0, .int .i64 3, .int .i64 3, .int .i64 10, .int .i64 10, .int .i64 2, .int .i64 2, .int .i64 3, .int .i64 3, .int .i64 4, .int .i64 4, .int .i64 5, .int .i64 5, .int .i64 8, .int .i64 8, .int .i64 9, .int .i64 9, .int .i64 12, .int .i64 12, .int .i64 13, .int .i64 13, .int .i64 0, .int .i64 0, .int .i64 1, .int .i64 1, .int .i64 2, .int .i64 2, .int .i64 3, .int .i64 3, .int .i64 4, .int .i64 4, .int .i64 5, .int .i64 5, .int .i64 0, .int .i64 0, .int .i64 1, .int .i64 1, .int .i64 2, .int .i64 2, .int .i64 3, .int .i64 3, .int .i64 4, .int .i64 4, .int .i64 5, .int .i64 5, .int .i64 6, .int .i64 6, .int .i64 7, .int .i64 7, .int .i64 8, .int .i64 8, .int .i64 9, .int .i64 9, .int .i64 10, .int .i64 10, .int .i64 1, .int .i64 1, .int .i64 2, .int .i64 2, .int .i64 3, .int .i64 3, .int .i64 4, .int .i64 4, .int .i64 5, .int .i64 5, .int .i64 6, .int .i64 6, .int .i64 7, .int .i64 7, .int .i64 8, .int .i64 8, .int .i64 9, .int .i64 9, .int .i64 10, .int .i64 10, .int .i64 11, .int .i64 11, .int .i64 12, .int .i64 12, .int .i64 13, .int .i64 13, .int .i64 14, .int .i64 14, .int .i64 15, .int .i64 15, .int .i64 16, .int .i64 16, .int .i64 17, .int .i64 17, .int .i64 18, .int .i64 18, .int .i64 19, .int .i64 19, .int .i64 20, .int .i64 20, .int .i64 21, .int .i64 21, .int .i64 22, .int .i64 22, .int .i64 23, .int .i64 23, .int .i64 1, .int .i64 1, .int .i64 2, .int .i64 2, .int .i64 3, .int .i64 3, .int .i64 4, .int .i64 4, .int .i64 1, .int .i64 1, .int .i64 2, .int .i64 2, .int .i64 3, .int .i64 3, .int .i64 4, .int .i64 4, .int .i64 5, .int .i64 5, .int .i64 6, .int .i64 6, .int .i64 7, .int .i64 7, .int .i64 8, .int .i64 8]
set_option maxRecDepth 100000 in
theorem namesA_eq : namesA.toList = namesT.flatMap pcells := rfl

theorem flatMap_at {α β : Type} (f : α → List β) (k : Nat) (hk : ∀ x, (f x).length = k) : ∀ (l : List α) (i : Nat) (x : α), l[i]? = some x → ∀ j, j < k → (l.flatMap f)[i * k + j]? = (f x)[j]?
  | [], i, x, h, _, _ => by simp at h
  | y :: l, 0, x, h, j, hj => by
    obtain rfl : y = x := by simpa using h
    rw [List.flatMap_cons, Nat.zero_mul, Nat.zero_add, List.getElem?_append_left (by rw [hk]; exact hj)]
  | y :: l, i + 1, x, h, j, hj => by
    rw [List.flatMap_cons, List.getElem?_append_right (by rw [hk, Nat.succ_mul]; omega), hk, show (i + 1) * k + j - k = i * k + j by rw [Nat.succ_mul]; omega]
    exact flatMap_at f k hk l i x (by simpa using h) j hj

set_option maxRecDepth 100000 in
set_option maxHeartbeats 8000000 in
theorem f_all (w : World) :
    Calls Tryd.prog 4 #[] w fun e w' => e = .returned (.slice (some ⟨w.heap.size, 0, none⟩) 110 110) ∧ w' = w.alloc (.cells namesA 25) := by
  go_enter Tryd.func4, Tryd.ntmps4
  go_wp2_with (refine Go.Great.wpList_buildSliceTo (by rfl) 22 25 110 _ (by rfl) w.heap.size rfl (some 111) (by rfl) Tryd.underlying22 namesA (by kernel_rfl) ?_)
  go_ret
  exact ⟨rfl, rfl⟩

theorem dec27 : Lib.decDigits 27 = [50, 55] := by simp [Lib.decDigits]
theorem dec0 : Lib.decDigits 0 = [48] := by simp [Lib.decDigits]

set_option maxRecDepth 100000 in
set_option maxHeartbeats 2000000 in
theorem err_text (n : Nat) (hn : n < 100) (l : List UInt8) (hd : Lib.decDigits n = l) (hl : l.length ≤ 100) (w : World) :
    Calls Tryd.prog 5 #[.int .i64 n] w fun e w' => e = .returned (.string (S ([101, 114, 114, 111, 114, 32] ++ l))) ∧ w' = w := by
  go_enter Tryd.func5, Tryd.ntmps5
  go_wp2_with fail
  refine (Tryd.strconv_Itoa_small n hn w).mono ?_
  rw [hd]
  rintro e w' ⟨rfl, rfl⟩
  clear hd
  have hs : ¬ 9223372036854775807 < 6 + l.length := by omega
  go_wp2
  go_ret
  exact ⟨congrArg (fun x => Ending.returned (Value.string x)) (S_append [101, 114, 114, 111, 114, 32] l), rfl⟩

set_option maxRecDepth 100000 in
set_option maxHeartbeats 4000000 in
theorem walk_NamesNumbers (w : World) :
    Calls Tryd.prog 3 #[] w fun e w' => e = .returned (.bool true) ∧ Below w.heap.size w w' := by
  go_enter Tryd.func3, Tryd.ntmps3
  go_wp2_with fail
  refine (f_all w).mono ?_
  rintro e w1 ⟨rfl, hw⟩
  have hrow : Row w1 (some ⟨w.heap.size, 0, none⟩) (namesT.flatMap pcells) := by
    rw [← namesA_eq, hw]
    exact Row.new w _ _
  have hb1 : Below w.heap.size w w1 := by rw [hw]; exact (Below.refl _ _).alloc (Nat.le_refl _) _
  have hc : ∀ (i n : Nat) (k : Nat) (v : Value), namesT[i]? = some n → k < 2 → (pcells n)[k]? = some v → w1.cell? ⟨w.heap.size, i * 2 + k, none⟩ = some v := fun i n k v hi hk hv => by
    have h1 := flatMap_at pcells 2 (fun _ => rfl) namesT i n hi k hk
    rw [hv] at h1
    obtain ⟨hlt, he⟩ := List.getElem?_eq_some_iff.1 h1
    obtain ⟨ad', e, hcc⟩ := hrow.cell hlt
    obtain rfl := Option.some.inj e
    have ea : (⟨w.heap.size, 0, none⟩ : Addr).add (i * 2 + k) = ⟨w.heap.size, i * 2 + k, none⟩ := by rw [Addr.add_lit, Nat.zero_add]
    rw [ea] at hcc
    rw [hcc, he]
  have HC := hid hc
  have HB := hid hb1
  clear hw hrow hb1 hc
  obtain ⟨g, hg⟩ : ∃ g, w.heap.size = g := ⟨_, rfl⟩
  rw [hg] at HC
  rw [hg]
  have HG := hid hg
  clear hg
  go_wp2_with fail
  go_loopw [2] (fun i wr => ∃ (j n : Nat), j ≤ 110 ∧ i = .int .i64 j ∧ wr = w1.drewN n) (fun i _ => 110 - (intOf i).toNat)
  case atStart => exact ⟨0, 0, Nat.zero_le _, rfl, rfl⟩
  case round =>
    obtain ⟨j, n, hj, rfl, rfl⟩ := hrel
    by_cases hlt : j < 110
    · obtain ⟨x, hx⟩ : ∃ x, namesT[j]? = some x := ⟨namesT[j]'hlt, List.getElem?_eq_getElem (l := namesT) hlt⟩
      have t0 := HC.out j x 0 _ hx (by decide) rfl
      have t1 := HC.out j x 1 _ hx (by decide) rfl
      rw [Nat.add_zero] at t0
      clear hx
      go_wp2
      go_quiet (fail)
      go_wp2
      go_roundw
      case rel => exact ⟨j + 1, n + nq, by omega, by go_num, rfl⟩
      case measure => simp [intOf]; omega
    · go_wp2_with fail
      refine (err_text 27 (by decide) _ dec27 (by decide) _).mono ?_
      rintro e w2 ⟨rfl, rfl⟩
      have s1 : ((S [101, 114, 114, 111, 114, 32, 50, 55]).toList == [101, 114, 114, 111, 114, 32, 50, 55]) = true := by decide +kernel
      go_wp2_with fail
      refine (err_text 0 (by decide) _ dec0 (by decide) _).mono ?_
      rintro e w3 ⟨rfl, rfl⟩
      have s2 : ((S [101, 114, 114, 111, 114, 32, 48]).toList == [101, 114, 114, 111, 114, 32, 48]) = true := by decide +kernel
      go_wp2
      go_ret
      refine ⟨?_, ?_⟩
      · rfl
      · exact below_drewN' HB.out

end Go.Proofs.YtnbhmcbhpkjgcaaDoor
