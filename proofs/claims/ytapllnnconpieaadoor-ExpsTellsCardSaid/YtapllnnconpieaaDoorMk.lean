/- make([]byte, n). -/
import Derived.Test.YtapllnnconpieaaDoorOwn
import Derived.Test.YtapllnnconpieaaDoorUp
set_option linter.unusedVariables false
namespace Go.Proofs.YtapllnnconpieaaDoor
open Go.RowKit

theorem infoByte : (Tryd.prog.info? 5).map (fun i => (i.zero, i.size, i.bytes)) = some (some (.int .u8 0), 1, 1) := by kernel_rfl
theorem ownB_made (w : World) (n : Nat) (hn : n ≤ 140737488355328) : OwnB (w.alloc (.cells (madeCells #[.int .u8 0] n) 5)) w.heap.size (.slice (some ⟨w.heap.size, 0, none⟩) n n) (zer n) := by
  refine ⟨w.heap.size, n, madeCells #[.int .u8 0] n, (0, 0), by rw [zer_length], Nat.le_refl _, heap_alloc_new w _, .inl (Nat.le_refl _), by rw [zer_length]; exact Nat.le_refl _, by unfold maxLen; omega, by rw [zer_length]; exact hn, ?_, ?_⟩
  · have := toList_madeCells_one (.int .u8 0) n
    have h2 : (madeCells #[.int .u8 0] n).toList.length = n := by rw [this]; simp
    simpa using h2
  · rw [toList_madeCells_one, zer_length, zer, bcells_replicate, List.take_of_length_le (by simp)]
theorem run_makeB (w : World) (n : Nat) (hn : n ≤ 16777216) : ∃ w', (Instr.makeSlice 22 (.int .i64 (n : Int)) (.int .i64 (n : Int))).run Tryd.prog w = .ok (.slice (some ⟨w.heap.size, 0, none⟩) n n) w' ∧
    OwnB w' w.heap.size (.slice (some ⟨w.heap.size, 0, none⟩) n n) (zer n) ∧ Below w.heap.size w w' ∧ w'.heap.size = w.heap.size + 1 := by
  obtain ⟨i, hi, hz, hs1, hby⟩ := info_parts infoByte
  have := run_makeSlice w 22 5 i _ Tryd.underlying22 hi hz .i64 .i64 n n (by omega) (by omega) (by rw [hs1]; omega) (by rw [hby]; omega) (by omega)
  rw [hs1, Nat.mul_one, Int.toNat_natCast] at this
  exact ⟨_, this, ownB_made w n (by omega), up_alloc (up_refl _) _, by simp⟩
theorem OwnB.set1 {w : World} {base g n cap : Nat} {l : List UInt8} (h : OwnB w base (.slice (some ⟨g, 0, none⟩) n cap) l) {j : Nat} (hj : j < l.length) (x : UInt8) (y : Int) (hy : y = (x.toNat : Int)) :
    ∃ u, w.cell? ⟨g, j, none⟩ = some u ∧ w.frozen? ⟨g, j, none⟩ = false ∧ OwnB (w.setCell ⟨g, j, none⟩ (.int .u8 y)) base (.slice (some ⟨g, 0, none⟩) n cap) (l.set j x) := by
  subst hy
  obtain ⟨g', cap', e, hb, hlt, hle, hc⟩ := h.cell
  simp at e
  obtain ⟨rfl, rfl, rfl⟩ := e
  obtain ⟨c1, c2, c3⟩ := hc j hj
  exact ⟨_, c1, c2, c3 x⟩
theorem OwnB.get1 {w : World} {base g n cap : Nat} {l : List UInt8} (h : OwnB w base (.slice (some ⟨g, 0, none⟩) n cap) l) {j : Nat} (hj : j < l.length) (b : UInt8) (hb : l[j] = b) :
    w.cell? ⟨g, j, none⟩ = some (.int .u8 (b.toNat : Int)) ∧ w.frozen? ⟨g, j, none⟩ = false ∧ ∀ (x : UInt8) (y : Int), y = (x.toNat : Int) → OwnB (w.setCell ⟨g, j, none⟩ (.int .u8 y)) base (.slice (some ⟨g, 0, none⟩) n cap) (l.set j x) := by
  subst hb
  obtain ⟨g', cap', e, hb, hlt, hle, hc⟩ := h.cell
  simp at e
  obtain ⟨rfl, rfl, rfl⟩ := e
  obtain ⟨c1, c2, c3⟩ := hc j hj
  exact ⟨c1, c2, fun x y hy => hy ▸ c3 x⟩
end Go.Proofs.YtapllnnconpieaaDoor
