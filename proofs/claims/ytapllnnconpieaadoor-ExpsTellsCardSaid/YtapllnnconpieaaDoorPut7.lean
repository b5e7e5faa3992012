/- slipwaylaw7.put. -/
import Derived.Test.YtapllnnconpieaaDoorPutF
import Derived.Test.YtapllnnconpieaaDoorOnly
set_option linter.unusedVariables false
namespace Go.Proofs.YtapllnnconpieaaDoor
open Go.RowKit

set_option maxRecDepth 100000 in
set_option maxHeartbeats 1000000 in
theorem law7_put (A : Option Addr) (c : Nat) (l : List UInt8) (a n v : Nat) (at' n' v' : Int) (ha : at' = a) (hn' : n' = n) (hv' : v' = v) (w : World) (hr : Bs w A c l) (hs : l.length ≤ 140737488351232) (h1 : a ≤ 4611686018427387904) (hn0 : 1 ≤ n) (hn : n ≤ 8)
    (hv : v < 4611686018427387904) :
    Calls Tryd.prog 57 #[.slice A l.length c, .int .i64 at', .int .i64 n', .int .i64 v'] w fun e w' => ∃ u, e = .returned u ∧ OwnB w' w.heap.size u (putF l a n v) ∧ Below w.heap.size w w' := by
  subst ha hn' hv'
  have hc : (convert 22 9 (.slice A l.length c)).run Tryd.prog w = .ok (.string (S l)) w :=
    run_str _ _ _ 5 Tryd.underlying22 Tryd.underlying5 Tryd.underlying9 A l.length c l rfl hr.row
  obtain ⟨m, hm⟩ : ∃ m, m = putF l a n v := ⟨_, rfl⟩
  have hml : m.length = l.length := by rw [hm, putF_length]
  have hd : ∀ W : World, (convert 9 22 (.string (S m))).run Tryd.prog W = .ok (.slice (some ⟨W.heap.size, 0, none⟩) (S m).size (grownCap W (S m).size 0 5)) (Lib.bytesWorld W 5 (S m)) := fun W =>
    Lib.run_convert_string_bytes W _ _ 5 (S m) Tryd.underlying9 Tryd.underlying22 Tryd.underlying5
  have hsz : (S m).size = m.length := S_size m
  have hp := ref_PutF l a n v w hs (by omega) (by omega) (by omega) (by omega) (by omega) (by omega)
  simp only [Int.toNat_natCast] at hp
  rw [← hm] at hp
  have HP := hid hp
  rw [← hm]
  have HM := hid hml
  have HR := hid hr
  have hw : IntKind.u64.wrap (v : Int) = v := wrap_u64_id (by omega) (by omega)
  clear hm hml hr hv hn hn0 hp
  go_enter Tryd.func57, Tryd.ntmps57
  go_wp2_with fail
  refine HP.mono ?_
  rintro e w' ⟨b, rfl, hb⟩
  have HB := hid hb
  clear hb
  go_wp2
  go_ret
  have hl : m.length ≤ 140737488355328 := by have := HM.out; omega
  exact ⟨_, rfl, (ownB_bytesWorld w' m hl).mono HB.out.size, up_trans HB.out (bytesWorld_below w' _ _)⟩
theorem law7_putO (base : Nat) (u : Value) (l : List UInt8) (a n v : Nat) (at' n' v' : Int) (ha : at' = a) (hn' : n' = n) (hv' : v' = v) (w : World) (hO : OwnB w base u l) (hs : l.length ≤ 140737488351232) (h1 : a ≤ 4611686018427387904) (hn0 : 1 ≤ n) (hn : n ≤ 8)
    (hv : v < 4611686018427387904) :
    Calls Tryd.prog 57 #[u, .int .i64 at', .int .i64 n', .int .i64 v'] w fun e w' => ∃ u, e = .returned u ∧ OwnB w' w.heap.size u (putF l a n v) ∧ Below w.heap.size w w' := by
  obtain ⟨g, cap, rfl, _, _, hbs⟩ := hO.bs
  exact law7_put _ _ l a n v at' n' v' ha hn' hv' w hbs hs h1 hn0 hn hv
end Go.Proofs.YtapllnnconpieaaDoor
