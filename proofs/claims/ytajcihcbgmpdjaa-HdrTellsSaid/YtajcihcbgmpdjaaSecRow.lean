/- Sections in memory: their cells. -/
import Derived.Test.YtajcihcbgmpdjaaAwake5
import Derived.Test.YtajcihcbgmpdjaaMadeS
namespace Go.Proofs.Ytajcihcbgmpdjaa
open Go.RowKit

theorem scells_length (xs : List SectD) : (scells xs).length = xs.length * 6 := by
  induction xs with
  | nil => rfl
  | cons x xs ih => simp only [scells, List.flatMap_cons, List.length_append, SectD.cells, List.length_cons, List.length_nil] at ih ⊢; omega

theorem scells_at : ∀ (xs : List SectD) (j : Nat) (s : SectD), xs[j]? = some s → ∀ k, k < 6 → (scells xs)[j * 6 + k]? = s.cells[k]?
  | [], j, s, h => by simp at h
  | x :: xs, 0, s, h => fun k hk => by
    simp at h
    subst h
    rw [Nat.zero_mul, Nat.zero_add]
    show (x.cells ++ scells xs)[k]? = _
    rw [List.getElem?_append_left (by simpa [SectD.cells] using hk)]
  | x :: xs, j + 1, s, h => fun k hk => by
    rw [show (j + 1) * 6 + k = 6 + (j * 6 + k) by omega]
    show (x.cells ++ scells xs)[6 + (j * 6 + k)]? = _
    rw [List.getElem?_append_right (by simp [SectD.cells])]
    rw [show 6 + (j * 6 + k) - x.cells.length = j * 6 + k by simp [SectD.cells]]
    exact scells_at xs j s (by simpa using h) k hk

/-- A section's cells, as a walk wants them. -/
theorem Row.sect {w : World} {ad : Addr} {xs : List SectD} (h : Row w (some ad) (scells xs)) {j : Nat} {s : SectD} (hj : xs[j]? = some s) :
    w.cell? (ad.add (j * 6)) = some (.string (S s.name)) ∧ w.cell? ⟨(ad.add (j * 6)).block, (ad.add (j * 6)).off + 1, none⟩ = some (.int .i64 s.vs) ∧ w.cell? ⟨(ad.add (j * 6)).block, (ad.add (j * 6)).off + 2, none⟩ = some (.int .i64 s.rva) ∧
    w.cell? ⟨(ad.add (j * 6)).block, (ad.add (j * 6)).off + 3, none⟩ = some (.int .i64 s.raw) ∧ w.cell? ⟨(ad.add (j * 6)).block, (ad.add (j * 6)).off + 4, none⟩ = some (.int .i64 s.pt) ∧ w.cell? ⟨(ad.add (j * 6)).block, (ad.add (j * 6)).off + 5, none⟩ = some (.int .i64 s.ch) ∧
    (ad.add (j * 6)).block < w.heap.size := by
  have hc : ∀ (k : Nat) (v : Value), k < 6 → s.cells[k]? = some v → w.cell? (ad.add (j * 6 + k)) = some v := fun k v hk hv => by
    have h1 := scells_at xs j s hj k hk
    rw [hv] at h1
    obtain ⟨hlt, he⟩ := List.getElem?_eq_some_iff.1 h1
    obtain ⟨ad', e, hc⟩ := h.cell hlt
    obtain rfl := Option.some.inj e
    rw [hc, he]
  have a : ∀ k, k ≠ 0 → (⟨(ad.add (j * 6)).block, (ad.add (j * 6)).off + k, none⟩ : Addr) = ad.add (j * 6 + k) := fun k hk => by
    rw [← addr_add_add]
    generalize ad.add (j * 6) = p
    simp [Addr.add, hk]
  rw [a 1 (by decide), a 2 (by decide), a 3 (by decide), a 4 (by decide), a 5 (by decide)]
  have h0 := hc 0 _ (by decide) rfl
  refine ⟨h0, hc 1 _ (by decide) rfl, hc 2 _ (by decide) rfl, hc 3 _ (by decide) rfl, hc 4 _ (by decide) rfl, hc 5 _ (by decide) rfl, ?_⟩
  rcases Nat.lt_or_ge (ad.add (j * 6)).block w.heap.size with h' | h'
  · exact h'
  · rw [Nat.add_zero] at h0
    simp [World.cell?, Array.getElem?_eq_none h'] at h0

theorem Row.sect_ad {w : World} {A : Option Addr} {xs : List SectD} (h : Row w A (scells xs)) {j : Nat} (hj : j < xs.length) : ∃ ad, A = some ad := by
  obtain ⟨ad, e, _⟩ := h.cell (j := j * 6) (by rw [scells_length]; omega)
  exact ⟨ad, e⟩
end Go.Proofs.Ytajcihcbgmpdjaa
