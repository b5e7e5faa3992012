/- FoldLetters: plain laws, and the walk. -/
import Derived.Test.YtapllnnconpieaaDoorFoldD
import Derived.Test.YtapllnnconpieaaDoorWays
import Derived.Test.YtapllnnconpieaaDoorMk
set_option linter.unusedVariables false
namespace Go.Proofs.YtapllnnconpieaaDoor
open Go.RowKit

def isLet (b : UInt8) : Prop := (97 ≤ b.toNat ∧ b.toNat ≤ 122) ∨ (65 ≤ b.toNat ∧ b.toNat ≤ 90)
/-- A letter turned, or not. -/
def Turn1 (b c : UInt8) : Prop := c = b ∨ (isLet b ∧ c = b ^^^ 32)
theorem byte_all (p : UInt8 → Bool) (h : (List.range 256).all (fun n => p (UInt8.ofNat n)) = true) (b : UInt8) : p b = true := by
  have := (List.all_eq_true.1 h) b.toNat (by rw [List.mem_range]; exact b.toNat_lt)
  rwa [UInt8.ofNat_toNat] at this
instance (b : UInt8) : Decidable (isLet b) := by unfold isLet; infer_instance
theorem turn_flip (b : UInt8) (h : isLet b) : low1 (b ^^^ 32) = low1 b ∧ letN (b ^^^ 32).toNat = true ∧ b ^^^ 32 ≠ 46 ∧ b ≠ 46 := by
  have := byte_all (fun b => !decide (isLet b) || (decide (low1 (b ^^^ 32) = low1 b) && letN (b ^^^ 32).toNat && decide (b ^^^ 32 ≠ 46) && decide (b ≠ 46))) (by decide +kernel) b
  simp only [h, decide_true, Bool.not_true, Bool.false_or, Bool.and_eq_true, decide_eq_true_eq] at this
  exact ⟨this.1.1.1, this.1.1.2, this.1.2, this.2⟩
theorem turn_low {b c : UInt8} (h : Turn1 b c) : low1 c = low1 b := by
  rcases h with rfl | ⟨h, rfl⟩
  · rfl
  · exact (turn_flip b h).1
theorem turn_let {b c : UInt8} (h : Turn1 b c) (hb : letN b.toNat = true) : letN c.toNat = true := by
  rcases h with rfl | ⟨h, rfl⟩
  · exact hb
  · exact (turn_flip b h).2.1
theorem turn_pt {b c : UInt8} (h : Turn1 b c) : (c = 46 ↔ b = 46) := by
  rcases h with rfl | ⟨h, rfl⟩
  · exact Iff.rfl
  · have := turn_flip b h
    exact ⟨fun e => absurd e this.2.2.1, fun e => absurd e this.2.2.2⟩
theorem low1_pt (b : UInt8) : (low1 b = 46 ↔ b = 46) := by
  have := byte_all (fun b => decide (low1 b = 46 ↔ b = 46)) (by decide +kernel) b
  exact of_decide_eq_true this
theorem low1_low1 (b : UInt8) : low1 (low1 b) = low1 b := by
  have := byte_all (fun b => decide (low1 (low1 b) = low1 b)) (by decide +kernel) b
  exact of_decide_eq_true this

/-- Turned up to some place. -/
structure Turned (l m : List UInt8) (j : Nat) : Prop where
  len : m.length = l.length
  at' : ∀ i (h : i < l.length), Turn1 l[i] (m[i]'(by omega))
  far : ∀ i (h : i < l.length), j ≤ i → m[i]'(by omega) = l[i]
theorem Turned.start (l : List UInt8) : Turned l l 0 := ⟨rfl, fun _ _ => .inl rfl, fun _ _ _ => rfl⟩
theorem Turned.skip {l m : List UInt8} {j : Nat} (h : Turned l m j) : Turned l m (j + 1) := ⟨h.len, h.at', fun i hi hj => h.far i hi (by omega)⟩
theorem Turned.flip {l m : List UInt8} {j : Nat} (h : Turned l m j) (hj : j < l.length) (hl : isLet l[j]) : Turned l (m.set j (l[j] ^^^ 32)) (j + 1) := by
  refine ⟨by rw [List.length_set]; exact h.len, fun i hi => ?_, fun i hi hij => ?_⟩
  · rw [List.getElem_set]
    split
    · rename_i e
      subst e
      exact .inr ⟨hl, rfl⟩
    · exact h.at' i hi
  · rw [List.getElem_set]
    split
    · omega
    · exact h.far i hi (by omega)

theorem Turned.map {l m : List UInt8} {j : Nat} (h : Turned l m j) : m.map low1 = l.map low1 := by
  apply List.ext_getElem
  · simp [h.len]
  · intro i h1 h2
    simp at h1 h2
    simp only [List.getElem_map]
    exact turn_low (h.at' i h2)
theorem mem_pt (l m : List UInt8) (hl : m.length = l.length) (h : ∀ i (h : i < l.length), (m[i]'(by omega) = 46 ↔ l[i] = 46)) : m.contains 46 = l.contains 46 := by
  rw [Bool.eq_iff_iff, List.contains_iff_mem, List.contains_iff_mem, List.mem_iff_getElem, List.mem_iff_getElem]
  exact ⟨fun ⟨i, hi, e⟩ => ⟨i, by omega, (h i (by omega)).1 e⟩, fun ⟨i, hi, e⟩ => ⟨i, by omega, (h i hi).2 e⟩⟩
theorem Turned.pt {l m : List UInt8} {j : Nat} (h : Turned l m j) : m.contains 46 = l.contains 46 := mem_pt l m h.len fun i hi => turn_pt (h.at' i hi)
theorem map_pt (l : List UInt8) : (l.map low1).contains 46 = l.contains 46 := mem_pt l _ (by simp) fun i hi => by rw [List.getElem_map]; exact low1_pt _
theorem Turned.key {l m : List UInt8} {j : Nat} (h : Turned l m j) : keyF m = keyF l := by unfold keyF; rw [h.map, h.pt]
theorem Turned.ok {l m : List UInt8} {j : Nat} (h : Turned l m j) (ho : okF l = true) : okF m = true := by
  unfold okF at ho ⊢
  rw [Bool.and_eq_true, List.all_eq_true] at ho ⊢
  refine ⟨by rw [h.len]; exact ho.1, fun c hc => ?_⟩
  obtain ⟨i, hi, rfl⟩ := List.mem_iff_getElem.1 hc
  exact turn_let (h.at' i (by have := h.len; omega)) (ho.2 _ (List.getElem_mem _))
theorem keyF_map (l : List UInt8) : (keyF l).map low1 = keyF l := by
  have h1 : (l.map low1).map low1 = l.map low1 := by
    rw [List.map_map]
    exact List.map_congr_left fun b _ => low1_low1 b
  unfold keyF
  rw [List.map_append, h1]
  congr 1
  split <;> decide
theorem keyF_key (l : List UInt8) : keyF (keyF l) = keyF l := by
  have hp : (keyF l).contains 46 = true := by
    have h1 := map_pt l
    unfold keyF
    rw [List.contains_iff_mem]
    cases hc : l.contains 46 with
    | true =>
      rw [hc] at h1
      exact List.mem_append_left _ (List.contains_iff_mem.1 h1)
    | false => exact List.mem_append_right _ (by simp)
  have hm := keyF_map l
  generalize keyF l = k at hp hm
  unfold keyF
  rw [hm, hp]
  simp
theorem Turned.dll {l m : List UInt8} {j : Nat} (h : Turned l m j) (hp : l.contains 46 = false) : keyF (m ++ [46, 68, 76, 76]) = keyF l := by
  have h1 : (m ++ [46, 68, 76, 76]).contains 46 = true := List.contains_iff_mem.2 (List.mem_append_right _ (by simp))
  have h2 : ([46, 68, 76, 76] : List UInt8).map low1 = [46, 100, 108, 108] := by decide
  unfold keyF
  rw [h1, hp, List.map_append, h.map, h2]
  simp
theorem xor_u8 (c : UInt8) : bits .xor .u8 (c.toNat : Int) 32 = ((c ^^^ 32).toNat : Int) := by
  have := byte_all (fun c => decide (bits .xor .u8 (c.toNat : Int) 32 = ((c ^^^ 32).toNat : Int))) (by decide +kernel) c
  exact of_decide_eq_true this
theorem and63 (j : Nat) (h : j < 64) : bits .and .i64 (j : Int) 63 = (j : Int) := by
  have := (List.all_eq_true.1 (show (List.range 64).all (fun j => decide (bits .and .i64 (j : Int) 63 = (j : Int))) = true by decide +kernel)) j (List.mem_range.2 h)
  exact of_decide_eq_true this
end Go.Proofs.YtapllnnconpieaaDoor
