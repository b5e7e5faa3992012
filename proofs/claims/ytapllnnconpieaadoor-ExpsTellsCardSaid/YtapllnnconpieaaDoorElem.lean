/- Elements of several cells in a row. -/
import Derived.Test.YtapllnnconpieaaDoorOnly
set_option linter.unusedVariables false
namespace Go.Proofs.YtapllnnconpieaaDoor
open Go.RowKit

theorem fm_len {α : Type} (f : α → List Value) (n : Nat) (hf : ∀ x, (f x).length = n) : ∀ l : List α, (l.flatMap f).length = l.length * n
  | [] => by simp
  | x :: l => by
    rw [List.flatMap_cons, List.length_append, hf, fm_len f n hf l, List.length_cons, Nat.succ_mul, Nat.add_comm]
theorem fm_at {α : Type} (f : α → List Value) (n : Nat) (hf : ∀ x, (f x).length = n) : ∀ (l : List α) (i : Nat) (x : α), l[i]? = some x → ∀ k, k < n → (l.flatMap f)[i * n + k]? = (f x)[k]?
  | [], i, x, h => by simp at h
  | y :: l, 0, x, h => fun k hk => by
    simp at h
    subst h
    rw [Nat.zero_mul, Nat.zero_add, List.flatMap_cons, List.getElem?_append_left (by rw [hf]; exact hk)]
  | y :: l, i + 1, x, h => fun k hk => by
    rw [List.flatMap_cons, List.getElem?_append_right (by rw [hf, Nat.succ_mul]; omega), hf, show (i + 1) * n + k - n = i * n + k by rw [Nat.succ_mul]; omega]
    exact fm_at f n hf l i x (by simpa using h) k hk

/-- An element's cells, as a walk wants them. -/
theorem Row.elem {w : World} {A : Option Addr} {α : Type} (f : α → List Value) (n : Nat) (hn : 0 < n) (hf : ∀ x, (f x).length = n) {xs : List α} (h : Row w A (xs.flatMap f)) {j : Nat} {x : α} (hj : xs[j]? = some x) :
    ∃ ad, A = some ad ∧ (ad.add (j * n)).block < w.heap.size ∧ w.cell? (ad.add (j * n)) = (f x)[0]? ∧ ∀ k, 0 < k → k < n → w.cell? ⟨(ad.add (j * n)).block, (ad.add (j * n)).off + k, none⟩ = (f x)[k]? := by
  have key : ∀ k, k < n → ∃ ad, A = some ad ∧ w.cell? (ad.add (j * n + k)) = (f x)[k]? := fun k hk => by
    have h1 := fm_at f n hf xs j x hj k hk
    rw [List.getElem?_eq_getElem (l := f x) (by rw [hf]; exact hk)] at h1
    obtain ⟨hlt, he⟩ := List.getElem?_eq_some_iff.1 h1
    obtain ⟨ad, e, hc⟩ := h.cell hlt
    exact ⟨ad, e, by rw [hc, he, List.getElem?_eq_getElem (by rw [hf]; exact hk)]⟩
  obtain ⟨ad, rfl, h0⟩ := key 0 hn
  rw [Nat.add_zero] at h0
  refine ⟨ad, rfl, ?_, h0, fun k hk0 hk => ?_⟩
  · rcases Nat.lt_or_ge (ad.add (j * n)).block w.heap.size with h' | h'
    · exact h'
    · rw [List.getElem?_eq_getElem (by rw [hf]; exact hn)] at h0
      simp [World.cell?, Array.getElem?_eq_none h'] at h0
  · obtain ⟨ad', e, hc⟩ := key k hk
    obtain rfl := Option.some.inj e
    rw [← hc, ← addr_add_add]
    generalize ad.add (j * n) = p
    have : k ≠ 0 := by omega
    simp [Addr.add, this]
end Go.Proofs.YtapllnnconpieaaDoor
