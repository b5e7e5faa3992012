/- cpu.New, Set, Reg; vmem.New; gates.index; the law's thread and the function that tells. -/
import Derived.Test.YtnbhmcbhpkjgcaaApart
set_option linter.unusedSimpArgs false
set_option linter.unusedVariables false
namespace Go.Proofs.Ytnbhmcbhpkjgcaa
open Go.RowKit

/-- A processor's cells: what it holds, three registers, noughts else. -/
def cpuL (a b : Value) (r0 r1 r2 : Int) : Array Value := #[a, b, .int .u64 r0, .int .u64 r1, .int .u64 r2, .int .u64 0, .int .u64 0, .int .u64 0, .int .u64 0, .int .u64 0, .int .u64 0, .int .u64 0, .int .u64 0, .int .u64 0, .int .u64 0, .int .u64 0, .int .u64 0, .int .u64 0,
  .int .u64 0, .bool false, .bool false, .bool false, .bool false, .int .i64 0, .int .u64 0]

theorem Blk.new' {w : World} {g : Nat} {cs : Array Value} {t : TypeId} (h : g = w.heap.size) : Blk (w.alloc (.cells cs t)) g cs t := h ▸ Blk.new w cs t

theorem vmem_New (w : World) : Calls Try.prog 16 #[.int .i64 1] w fun e w' => ∃ g, e = .returned (.pointer (some ⟨g, 0, none⟩)) ∧ Below w.heap.size w w' := by
  have hmm := @run_makeMap Try.prog
  go_enter Try.func16, Try.ntmps16
  go_wp2
  go_ret
  exact ⟨_, rfl, up_alloc (up_alloc (up_refl _) _) _⟩

theorem cpu_New (w : World) (p : Option Addr) : Calls Try.prog 17 #[.pointer p] w fun e w' => ∃ g b, e = .returned (.pointer (some ⟨g, 0, none⟩)) ∧ Blk w' g (cpuL (.pointer p) b 0 0 0) 97 ∧ w.heap.size ≤ g ∧ Below w.heap.size w w' := by
  go_enter Try.func17, Try.ntmps17
  go_wp2
  go_ret
  exact ⟨_, _, rfl, Blk.new' (by simp), by simp, up_alloc (up_alloc (up_refl _) _) _⟩

/-- A register. -/
def regI (i : Nat) (r0 r1 r2 : Int) : Int := if i = 0 then r0 else if i = 1 then r1 else r2
theorem cpu_Reg (w : World) (g : Nat) (a b : Value) (r0 r1 r2 : Int) (h : Blk w g (cpuL a b r0 r1 r2) 97) (i : Nat) (hi : i < 3) :
    Calls Try.prog 22 #[.pointer (some ⟨g, 0, none⟩), .int .i64 i] w fun e w' => e = .returned (.int .u64 (regI i r0 r1 r2)) ∧ w = w' := by
  obtain rfl | rfl | rfl : i = 0 ∨ i = 1 ∨ i = 2 := by omega
  all_goals
    have c0 : w.cell? ⟨g, 2, none⟩ = some (.int .u64 r0) := h.cell 2
    have c1 : w.cell? ⟨g, 3, none⟩ = some (.int .u64 r1) := h.cell 3
    have c2 : w.cell? ⟨g, 4, none⟩ = some (.int .u64 r2) := h.cell 4
    clear h
    go_enter Try.func22, Try.ntmps22
    go_wp2
    go_ret
    exact ⟨rfl, rfl⟩

def setI (i : Nat) (v : Int) (j : Nat) (r : Int) : Int := if i = j then v else r
theorem cpu_Set (w : World) (g : Nat) (a b : Value) (r0 r1 r2 : Int) (h : Blk w g (cpuL a b r0 r1 r2) 97) (i : Nat) (hi : i < 3) (v : Int) :
    Calls Try.prog 19 #[.pointer (some ⟨g, 0, none⟩), .int .i64 i, .int .u64 v] w fun e w' => e = .returned (.tuple #[]) ∧ Blk w' g (cpuL a b (setI i v 0 r0) (setI i v 1 r1) (setI i v 2 r2)) 97 ∧ Only w w' (· = g) := by
  obtain rfl | rfl | rfl : i = 0 ∨ i = 1 ∨ i = 2 := by omega
  all_goals
    have H := hid h
    have c0 : w.cell? ⟨g, 2, none⟩ = some (.int .u64 r0) := h.cell 2
    have c1 : w.cell? ⟨g, 3, none⟩ = some (.int .u64 r1) := h.cell 3
    have c2 : w.cell? ⟨g, 4, none⟩ = some (.int .u64 r2) := h.cell 4
    have f0 := h.free 2
    have f1 := h.free 3
    have f2 := h.free 4
    clear h
    go_enter Try.func19, Try.ntmps19
    go_wp2
    go_end0
    refine ⟨rfl, ?_, Only.setCell _ _ _ _ rfl⟩
    exact H.out.set' _ _

/-- A register's number as an index. -/
def idxI (v : Int) : Int := if 32 ≤ v then -1 else v
theorem gates_index (v : Int) (w : World) (h0 : 0 ≤ v) : Calls Try.prog 30 #[.int .u64 v] w fun e w' => e = .returned (.int .i64 (idxI v)) ∧ w = w' := by
  by_cases h : 32 ≤ v
  · have e : idxI v = -1 := if_pos h
    rw [e]
    go_enter Try.func30, Try.ntmps30
    go_wp2
    go_ret
    exact ⟨rfl, rfl⟩
  · have e : idxI v = v := if_neg h
    rw [e]
    have hw : IntKind.i64.wrap v = v := by unfold IntKind.wrap; simp [IntKind.bits, IntKind.signed]; omega
    go_enter Try.func30, Try.ntmps30
    go_wp2
    go_ret
    exact ⟨rfl, rfl⟩

/-- One of some threads, or raw. -/
def threadF (n : Int) : Int := if bits .and .i64 n 15 = 15 then n else bits .and .i64 n 3
theorem law_thread (n : Int) (w : World) : Calls Try.prog 18 #[.int .i64 n] w fun e w' => e = .returned (.int .i64 (threadF n)) ∧ w = w' := by
  obtain ⟨y, hy⟩ : ∃ y, bits .and .i64 n 15 = y := ⟨_, rfl⟩
  by_cases h : y = 15
  · have e : threadF n = n := by rw [threadF, hy, if_pos h]
    rw [e]
    have hb : (y == 15) = true := by simpa using h
    clear h e
    go_enter Try.func18, Try.ntmps18
    go_wp2
    go_ret
    exact ⟨rfl, rfl⟩
  · have e : threadF n = bits .and .i64 n 3 := by rw [threadF, hy, if_neg h]
    rw [e]
    have hb : (y == 15) = false := by simpa using h
    clear h e
    go_enter Try.func18, Try.ntmps18
    go_wp2
    go_ret
    exact ⟨rfl, rfl⟩

theorem infoU64 : (Try.prog.info? 23).map (fun i => (i.zero, i.size, i.bytes)) = some (some (.int .u64 0), 1, 8) := by kernel_rfl

/-- The function that is handed in: what it is told it keeps. -/
theorem law_tell (w : World) (sb : Nat) (h : Blk w sb #[.slice none 0 0] 52) (v : Int) :
    Calls Try.prog 21 #[.int .u64 v, .pointer (some ⟨sb, 0, none⟩)] w fun e w' => e = .returned (.tuple #[]) ∧ ∃ A c, Blk w' sb #[.slice (some A) 1 c] 52 ∧ A.block ≠ sb ∧ w'.cell? A = some (.int .u64 v) ∧ Only w w' (· = sb) := by
  have c0 : w.cell? ⟨sb, 0, none⟩ = some (.slice none 0 0) := h.cell 0
  have hlt := h.lt
  have H := hid h
  clear h
  go_enter Try.func21, Try.ntmps21
  go_wp2_with (at_builtin; go_loud (refine wp_app w rfl _ _ 52 rfl w.heap.size 23 (.int .u64 0) 1 8 Try.underlying52 infoU64 rfl (by decide) (.slice none 0 0) 0 [] (by rfl) (World.ownsRow_nil _ _ _ _) [.int .u64 v] rfl (by simp [Value.oneCell']) (by rfl) (by omega) (by omega) (Nat.le_refl _) ?_); intro v' w2 hown hbel hgr; have b2 := hbel _ (up_refl _); have B2 := hid (H.out.below b2); have c2 : w2.cell? ⟨sb, 0, none⟩ = some (.slice none 0 0) := B2.out.cell 0; have f2 := B2.out.free 0; have BB := hid b2; have HO := hid hown; clear hown hbel hgr b2; obtain ⟨A, c, rfl, -, -⟩ := own_row HO.out)
  go_end0
  obtain ⟨hl, ⟨e, _⟩ | ⟨g, cap, cur, e, hg, hh, hn, hm, hc, ht⟩⟩ := HO.out
  · cases e
  · cases e
    have hne : g ≠ sb := by omega
    refine ⟨rfl, ⟨g, 0, none⟩, c, B2.out.set' 0 _, hne, ?_, (Only.of_below BB.out (· = sb)).set (p := ⟨sb, 0, none⟩) (.inl rfl) _⟩
    have hr := HO.out.cells rfl 0 (.int .u64 v) rfl
    have hgl : g < w2.heap.size := by
      rcases Nat.lt_or_ge g w2.heap.size with h' | h'
      · exact h'
      · simp [Array.getElem?_eq_none h'] at hh
    have hs := (Only.setCell w2 ⟨sb, 0, none⟩ (.slice (some ⟨g, 0, none⟩) 1 c) (· = sb) rfl).same g hgl hne
    rw [show (⟨g, 0, none⟩ : Addr).add 0 = ⟨g, 0, none⟩ from rfl] at hr
    rw [cell_same hs]
    exact hr
end Go.Proofs.Ytnbhmcbhpkjgcaa
