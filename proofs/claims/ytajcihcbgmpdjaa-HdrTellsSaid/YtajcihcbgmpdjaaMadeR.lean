/- What Parse tells of a made image, whole, cut behind its head, and with more behind. -/
import Derived.Test.YtajcihcbgmpdjaaMadeQ
namespace Go.Proofs.Ytajcihcbgmpdjaa
open Go.RowKit

theorem splL_far (l : List UInt8) (o k : Nat) (t : List UInt8) (h : k < o ∨ o + t.length ≤ k) (hl : o + t.length ≤ l.length) : (splL l o t)[k]? = l[k]? := by
  unfold splL
  rcases h with h | h
  · rw [List.append_assoc, List.getElem?_append_left (by simp; omega), List.getElem?_take, if_pos h]
  · rw [List.getElem?_append_right (by simp; omega), List.getElem?_drop]
    congr 1
    simp
    omega

theorem zer_get (n k : Nat) (h : k < n) : (zer n)[k]? = some 0 := by simp [zer, h]

theorem made0_length (n : Nat) : (made0 n).length = 1024 := by
  simp only [made0, putF_length]
  rw [splL_length _ _ _ (by rw [putF_length, splL_length _ _ _ (by rw [zer_length]; decide), zer_length]; decide), putF_length, splL_length _ _ _ (by rw [zer_length]; decide), zer_length]

theorem made0_zero (n k : Nat) (h0 : 200 ≤ k) (h1 : k < 1024) : (made0 n)[k]? = some 0 := by
  simp only [made0]
  rw [putF_far _ _ _ _ _ (by omega), putF_far _ _ _ _ _ (by omega), putF_far _ _ _ _ _ (by omega), putF_far _ _ _ _ _ (by omega), putF_far _ _ _ _ _ (by omega), putF_far _ _ _ _ _ (by omega), putF_far _ _ _ _ _ (by omega),
    putF_far _ _ _ _ _ (by omega), putF_far _ _ _ _ _ (by omega), putF_far _ _ _ _ _ (by omega), putF_far _ _ _ _ _ (by omega)]
  rw [splL_far _ _ _ _ (.inr (by simp; omega)) (by rw [putF_length, splL_length _ _ _ (by rw [zer_length]; decide), zer_length]; decide), putF_far _ _ _ _ _ (by omega), splL_far _ _ _ _ (.inr (by simp; omega)) (by rw [zer_length]; decide)]
  exact zer_get 1024 k h1

theorem lnum_zeros : ∀ l : List UInt8, (∀ x ∈ l, x = 0) → lnum l = 0
  | [], _ => rfl
  | x :: l, h => by
    simp only [lnum]
    rw [h x (by simp), lnum_zeros l (fun y hy => h y (by simp [hy]))]
    rfl

theorem numAt_zeros (l : List UInt8) (a' n' : Int) (a n : Nat) (ha : a' = a) (hn : n' = n) (hl : a + n ≤ l.length) (h : ∀ k, a ≤ k → k < a + n → l[k]? = some 0) : numAt l a' n' = 0 := by
  rw [numAt_seg l a' n' a n ha hn hl]
  apply lnum_zeros
  intro x hx
  obtain ⟨k, hk, e⟩ := List.getElem_of_mem hx
  have h1 : (seg l a n)[k]? = some x := by rw [List.getElem?_eq_getElem hk, e]
  rw [seg_length l a n hl] at hk
  rw [seg_get, if_pos hk, h (a + k) (by omega) (by omega)] at h1
  exact (Option.some.inj h1).symm

/-- The head's numbers. -/
def headNums (l : List UInt8) : List Nat :=
  [numAt l 60 4, numAt l 68 2, numAt l 84 2, numAt l 88 2, numAt l 196 4, numAt l 112 8, numAt l 72 4, numAt l 86 2, numAt l 104 4, numAt l 148 4, numAt l 120 4, numAt l 124 4, numAt l 70 2, lnum (seg l 0 2), lnum (seg l 64 4)]

theorem made0_nums (n : Nat) (h1 : 1 ≤ n) (h6 : n ≤ 6) : headNums (made0 n) = [64, 34404, 240, 523, 16, 65536, 77, 8226, 0, 1024, 4096, 512, n, 23117, 17744] := by
  have : n = 1 ∨ n = 2 ∨ n = 3 ∨ n = 4 ∨ n = 5 ∨ n = 6 := by omega
  rcases this with rfl | rfl | rfl | rfl | rfl | rfl <;> decide +kernel

structure MadeL (l : List UInt8) (zs : List (Int × Int × Int)) : Prop where
  one : 1 ≤ zs.length
  six : zs.length ≤ 6
  len : 1024 ≤ l.length
  low : ∀ k, k < 328 → (k < 144 ∨ 148 ≤ k) → l[k]? = (made0 zs.length)[k]?
  size : numAt l 144 4 = secsEnd zs 4096
  sect : ∀ j, j < zs.length → (secsD zs 0 4096 1024)[j]? = some (sectAt l 64 (264 + 40 * ((0 + j : Nat) : Int)))

theorem sectsOf_length (xs : List (Int × Int × Int)) : 1 ≤ (sectsOf xs).length ∧ (sectsOf xs).length ≤ 6 := by
  unfold sectsOf
  split
  · simp
  · rename_i h
    rcases xs with _ | ⟨x, xs⟩
    · exact absurd rfl h
    · simp; omega

theorem MadeL.low_num {l : List UInt8} {zs : List (Int × Int × Int)} (h : MadeL l zs) (a' n' : Int) (a n : Nat) (ha : a' = a) (hn : n' = n) (hr : a + n ≤ 328) (hd : a + n ≤ 144 ∨ 148 ≤ a) :
    numAt l a' n' = numAt (made0 zs.length) a' n' := by
  have := h.len
  exact numAt_congr _ _ a' n' a n ha hn (by omega) (by rw [made0_length]; omega) (fun k h1 h2 => h.low k (by omega) (by omega))

theorem MadeL.nums {l : List UInt8} {zs : List (Int × Int × Int)} (h : MadeL l zs) : headNums l = [64, 34404, 240, 523, 16, 65536, 77, 8226, 0, 1024, 4096, 512, zs.length, 23117, 17744] := by
  rw [← made0_nums zs.length h.one h.six]
  have s0 : seg l 0 2 = seg (made0 zs.length) 0 2 := seg_congr (fun k hk => h.low _ (by omega) (by omega))
  have s1 : seg l 64 4 = seg (made0 zs.length) 64 4 := seg_congr (fun k hk => h.low _ (by omega) (by omega))
  simp only [headNums]
  rw [h.low_num 60 4 60 4 rfl rfl (by omega) (by omega), h.low_num 68 2 68 2 rfl rfl (by omega) (by omega), h.low_num 84 2 84 2 rfl rfl (by omega) (by omega), h.low_num 88 2 88 2 rfl rfl (by omega) (by omega),
    h.low_num 196 4 196 4 rfl rfl (by omega) (by omega), h.low_num 112 8 112 8 rfl rfl (by omega) (by omega), h.low_num 72 4 72 4 rfl rfl (by omega) (by omega), h.low_num 86 2 86 2 rfl rfl (by omega) (by omega),
    h.low_num 104 4 104 4 rfl rfl (by omega) (by omega), h.low_num 148 4 148 4 rfl rfl (by omega) (by omega), h.low_num 120 4 120 4 rfl rfl (by omega) (by omega), h.low_num 124 4 124 4 rfl rfl (by omega) (by omega),
    h.low_num 70 2 70 2 rfl rfl (by omega) (by omega), s0, s1]

set_option maxRecDepth 100000 in
theorem madeF_L (xs : List (Int × Int × Int)) : MadeL (madeF xs []) (sectsOf xs) ∧ (madeF xs []).length = 1024 + secsLen (sectsOf xs) := by
  obtain ⟨o, s⟩ := sectsOf_length xs
  have he : madeF xs [] = putF (madeGo (sectsOf xs) 0 4096 (made0 (sectsOf xs).length)).1 144 4 (madeGo (sectsOf xs) 0 4096 (made0 (sectsOf xs).length)).2 := rfl
  obtain ⟨zs, hz⟩ : ∃ zs, sectsOf xs = zs := ⟨_, rfl⟩
  rw [hz] at o s he ⊢
  rw [he]
  have hl := made0_length zs.length
  obtain ⟨g1, g2, g3, g4⟩ := go_facts zs 0 4096 (made0 zs.length) (by omega) (by omega) (by omega) (by omega) (fun k h1 h2 => made0_zero _ k (by omega) (by omega))
  obtain ⟨g, hg⟩ : ∃ g, madeGo zs 0 4096 (made0 zs.length) = g := ⟨_, rfl⟩
  rw [hg] at g1 g2 g3 g4 ⊢
  rw [hl] at g1 g3 g4
  obtain ⟨e1, e2, -, -⟩ := secsEnd_ge zs 4096
  refine ⟨⟨o, s, by rw [putF_length]; omega, fun k h1 h2 => ?_, ?_, fun j hj => ?_⟩, by rw [putF_length, g1]⟩
  · rw [putF_far _ _ _ _ _ (by omega), g3 k (by omega) (by omega)]
  · rw [putF_num _ 144 4 144 4 _ rfl rfl (by omega), g2, Nat.mod_eq_of_lt (by omega)]
  · rw [g4 j hj]
    exact congrArg some (sectAt_congr _ _ (0 + j) (by omega) (by rw [putF_length]; omega) (fun k h1 h2 => by rw [putF_far _ _ _ _ _ (by omega)]))

theorem MadeL.take {l : List UInt8} {zs : List (Int × Int × Int)} (h : MadeL l zs) (k : Nat) (hk : 1024 ≤ k) (hkl : k ≤ l.length) : MadeL (l.take k) zs := by
  have h6 := h.six
  have hg : ∀ j, j < 1024 → (l.take k)[j]? = l[j]? := fun j hj => by rw [List.getElem?_take, if_pos (by omega)]
  refine ⟨h.one, h.six, by simp; omega, fun j h1 h2 => by rw [hg j (by omega)]; exact h.low j h1 h2, ?_, fun j hj => ?_⟩
  · rw [← h.size]
    exact numAt_congr _ _ 144 4 144 4 rfl rfl (by simp; omega) (by omega) (fun j h1 h2 => hg j (by omega))
  · rw [h.sect j hj]
    exact congrArg some (sectAt_congr _ _ (0 + j) (by omega) (by simp; omega) (fun i h1 h2 => (hg i (by omega)).symm))

theorem MadeL.append {l : List UInt8} {zs : List (Int × Int × Int)} (h : MadeL l zs) (m : List UInt8) : MadeL (l ++ m) zs := by
  have h6 := h.six
  have hl := h.len
  have hg : ∀ j, j < 1024 → (l ++ m)[j]? = l[j]? := fun j hj => by rw [List.getElem?_append_left (by omega)]
  refine ⟨h.one, h.six, by simp; omega, fun j h1 h2 => by rw [hg j (by omega)]; exact h.low j h1 h2, ?_, fun j hj => ?_⟩
  · rw [← h.size]
    exact numAt_congr _ _ 144 4 144 4 rfl rfl (by simp; omega) (by omega) (fun j h1 h2 => hg j (by omega))
  · rw [h.sect j hj]
    exact congrArg some (sectAt_congr _ _ (0 + j) (by omega) (by simp; omega) (fun i h1 h2 => (hg i (by omega)).symm))
end Go.Proofs.Ytajcihcbgmpdjaa
