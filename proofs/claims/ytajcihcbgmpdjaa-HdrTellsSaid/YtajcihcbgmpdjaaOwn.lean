/- A row of bytes that is the call's own, whatever mark it bears behind its cells. -/
import Derived.Test.YtajcihcbgmpdjaaBlk
namespace Go.Proofs.Ytajcihcbgmpdjaa
open Go.RowKit

def OwnB (w : World) (base : Nat) (v : Value) (l : List UInt8) : Prop :=
  ∃ g cap cur fz, v = .slice (some ⟨g, 0, none⟩) l.length cap ∧ base ≤ g ∧ w.heap[g]? = some (.cells cur 5 fz) ∧ (fz.2 ≤ fz.1 ∨ cap ≤ fz.1) ∧ l.length ≤ cap ∧ cap ≤ maxLen ∧ l.length ≤ 140737488355328 ∧ cur.size = cap ∧ cur.toList.take l.length = bcells l

theorem OwnB.bs {w : World} {base : Nat} {v : Value} {l : List UInt8} (h : OwnB w base v l) : ∃ g cap, v = .slice (some ⟨g, 0, none⟩) l.length cap ∧ base ≤ g ∧ g < w.heap.size ∧ Bs w (some ⟨g, 0, none⟩) cap l := by
  obtain ⟨g, cap, cur, fz, rfl, hg, hh, hf, hl, hc, hm, hs, ht⟩ := h
  refine ⟨g, cap, rfl, hg, ?_, .inr ⟨_, rfl, fun j hj => ?_⟩, hl, hm⟩
  · rcases Nat.lt_or_ge g w.heap.size with h' | h'
    · exact h'
    · simp [Array.getElem?_eq_none h'] at hh
  · have e0 : (⟨g, 0, none⟩ : Addr).add j = ⟨g, j, none⟩ := by
      unfold Addr.add
      split <;> simp_all
    rw [e0, cell_of_row w g j cur _ fz hh]
    have h1 : (bcells l)[j]? = cur.toList[j]? := by
      rw [← ht, List.getElem?_take, if_pos (by rw [bcells_length] at hj; exact hj)]
    rw [List.getElem?_eq_getElem hj] at h1
    simpa using h1.symm

theorem OwnB.below {w w' : World} {base : Nat} {v : Value} {l : List UInt8} (h : OwnB w base v l) (hb : Below w.heap.size w w') : OwnB w' base v l := by
  obtain ⟨g, cap, cur, fz, rfl, hg, hh, r⟩ := h
  refine ⟨g, cap, cur, fz, rfl, hg, ?_, r⟩
  rw [hb.block g ?_, hh]
  rcases Nat.lt_or_ge g w.heap.size with h' | h'
  · exact h'
  · simp [Array.getElem?_eq_none h'] at hh

theorem OwnB.mono {w : World} {base base' : Nat} {v : Value} {l : List UInt8} (h : OwnB w base v l) (hb : base' ≤ base) : OwnB w base' v l := by
  obtain ⟨g, cap, cur, fz, rfl, hg, r⟩ := h
  exact ⟨g, cap, cur, fz, rfl, Nat.le_trans hb hg, r⟩

/-- What a walk wants of a cell that is written. -/
theorem OwnB.cell {w : World} {base : Nat} {v : Value} {l : List UInt8} (h : OwnB w base v l) : ∃ g cap, v = .slice (some ⟨g, 0, none⟩) l.length cap ∧ base ≤ g ∧ g < w.heap.size ∧ l.length ≤ cap ∧
    ∀ j (hj : j < l.length), w.cell? ⟨g, j, none⟩ = some (.int .u8 (l[j].toNat : Int)) ∧ w.frozen? ⟨g, j, none⟩ = false ∧ ∀ x : UInt8, OwnB (w.setCell ⟨g, j, none⟩ (.int .u8 (x.toNat : Int))) base v (l.set j x) := by
  obtain ⟨g, cap, hv, hg, hlt, hbs⟩ := h.bs
  refine ⟨g, cap, hv, hg, hlt, hbs.le, fun j hj => ⟨?_, ?_, fun x => ?_⟩⟩
  · obtain ⟨ad, e, hc⟩ := hbs.row.byte hj
    obtain rfl := Option.some.inj e
    have e0 : (⟨g, 0, none⟩ : Addr).add j = ⟨g, j, none⟩ := by
      unfold Addr.add
      split <;> simp_all
    rw [e0] at hc
    exact hc
  · obtain ⟨g', cap', cur, fz, e, _, hh, hf, hl, _, _, hs, _⟩ := h
    rw [hv] at e
    simp at e
    obtain ⟨rfl, rfl⟩ := e
    simp only [World.frozen?, hh]
    rcases hf with hf | hf
    · by_cases a : fz.1 ≤ j <;> simp [a] <;> omega
    · have : ¬ fz.1 ≤ j := by omega
      simp [this]
  · obtain ⟨g', cap', cur, fz, e, hb', hh, hf, hl, hm, hm2, hs, ht⟩ := h
    rw [hv] at e
    simp at e
    obtain ⟨rfl, rfl⟩ := e
    refine ⟨g, cap, cur.setIfInBounds j (.int .u8 (x.toNat : Int)), fz, by rw [hv, List.length_set], hg, ?_, hf, by rw [List.length_set]; exact hl, hm, by rw [List.length_set]; exact hm2, by simp [hs], ?_⟩
    · simp only [World.setCell, Array.getElem?_modify, hh]
      simp
    · rw [List.length_set, Array.toList_setIfInBounds, List.take_set, ht, bcells, bcells, List.map_set]
end Go.Proofs.Ytajcihcbgmpdjaa
