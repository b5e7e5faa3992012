/- Blocks that are known whole. -/
import Derived.Test.YtnbhmcbhpkjgcaaBase
namespace Go.Proofs.Ytnbhmcbhpkjgcaa
open Go.RowKit

/-- Block b is just these cells, none frozen. -/
def Blk (w : World) (b : Nat) (cs : Array Value) (t : TypeId) : Prop := w.heap[b]? = some (.cells cs t (0, 0))

theorem Blk.lt {w : World} {b : Nat} {cs : Array Value} {t : TypeId} (h : Blk w b cs t) : b < w.heap.size := by
  rcases Nat.lt_or_ge b w.heap.size with h' | h'
  · exact h'
  · unfold Blk at h
    simp [Array.getElem?_eq_none h'] at h

theorem Blk.cell {w : World} {b : Nat} {cs : Array Value} {t : TypeId} (h : Blk w b cs t) (o : Nat) : w.cell? ⟨b, o, none⟩ = cs[o]? := by
  unfold Blk at h
  simp [World.cell?, h]

theorem Blk.free {w : World} {b : Nat} {cs : Array Value} {t : TypeId} (h : Blk w b cs t) (o : Nat) : w.frozen? ⟨b, o, none⟩ = false := by
  unfold Blk at h
  simp [World.frozen?, h]

theorem Blk.new (w : World) (cs : Array Value) (t : TypeId) : Blk (w.alloc (.cells cs t)) w.heap.size cs t := by
  unfold Blk
  simp [World.alloc, -World.alloc_eq]

theorem Blk.below {w w' : World} {b : Nat} {cs : Array Value} {t : TypeId} (h : Blk w b cs t) (hb : Below w.heap.size w w') : Blk w' b cs t := by
  have := hb.block b h.lt
  unfold Blk at h ⊢
  rw [this, h]

theorem Blk.alloc {w : World} {b : Nat} {cs : Array Value} {t : TypeId} (h : Blk w b cs t) (o : Obj) : Blk (w.alloc o) b cs t :=
  h.below ((Below.refl _ _).alloc (Nat.le_refl _) _)

/-- A block's facts for a walk. -/
theorem Blk.facts {w : World} {b : Nat} {cs : Array Value} {t : TypeId} (h : Blk w b cs t) :
    (∀ o, w.cell? ⟨b, o, none⟩ = cs[o]?) ∧ (∀ o, w.frozen? ⟨b, o, none⟩ = false) ∧ b < w.heap.size := ⟨h.cell, h.free, h.lt⟩

theorem Row.lt {w : World} {ad : Addr} {cs : List Value} (h : Row w (some ad) cs) {j : Nat} (hj : j < cs.length) : (ad.add j).block < w.heap.size := by
  obtain ⟨ad', e, hc⟩ := h.cell hj
  obtain rfl := Option.some.inj e
  rcases Nat.lt_or_ge (ad.add j).block w.heap.size with h' | h'
  · exact h'
  · simp [World.cell?, Array.getElem?_eq_none h'] at hc
end Go.Proofs.Ytnbhmcbhpkjgcaa
