/- slipwaylaw5.put. -/
import Derived.Test.YtajcihcbgmpdjaaPutF
namespace Go.Proofs.Ytajcihcbgmpdjaa
open Go.RowKit

set_option maxRecDepth 100000 in
set_option maxHeartbeats 1000000 in
theorem law_put (A : Option Addr) (c : Nat) (l : List UInt8) (at' n v : Int) (w : World) (hr : Bs w A c l) (hs : l.length ≤ 140737488351232) (h0 : 0 ≤ at') (h1 : at' ≤ 4611686018427387904) (hn0 : 1 ≤ n) (hn : n ≤ 8)
    (hv0 : 0 ≤ v) (hv : v < 18446744073709551616) :
    Calls Try.prog 17 #[.slice A l.length c, .int .i64 at', .int .i64 n, .int .u64 v] w fun e w' => ∃ v', e = .returned v' ∧ OwnB w' w.heap.size v' (putF l at'.toNat n.toNat v.toNat) ∧ Below w.heap.size w w' := by
  have hc : (convert 23 9 (.slice A l.length c)).run Try.prog w = .ok (.string (S l)) w :=
    run_str _ _ _ 5 Try.underlying23 Try.underlying5 Try.underlying9 A l.length c l rfl hr.row
  obtain ⟨m, hm⟩ : ∃ m, m = putF l at'.toNat n.toNat v.toNat := ⟨_, rfl⟩
  have hml : m.length = l.length := by rw [hm, putF_length]
  have hd : ∀ W : World, (convert 9 23 (.string (S m))).run Try.prog W = .ok (.slice (some ⟨W.heap.size, 0, none⟩) (S m).size (grownCap W (S m).size 0 5)) (Lib.bytesWorld W 5 (S m)) := fun W =>
    Lib.run_convert_string_bytes W _ _ 5 (S m) Try.underlying9 Try.underlying23 Try.underlying5
  have hsz : (S m).size = m.length := S_size m
  have HP := hid (ref_PutF l at' n v w hs h0 h1 hn0 hn hv0 hv)
  rw [← hm] at HP
  rw [← hm]
  have HM := hid hml
  have HR := hid hr
  clear hm hml hr hv hv0 hn hn0
  go_enter Try.func17, Try.ntmps17
  go_wp2_with fail
  refine HP.mono ?_
  rintro e w' ⟨b, rfl, hb⟩
  have HB := hid hb
  clear hb
  go_wp2
  go_ret
  have hl : m.length ≤ 140737488355328 := by have := HM.out; omega
  exact ⟨_, rfl, (ownB_bytesWorld w' m hl).mono HB.out.size, up_trans HB.out (bytesWorld_below w' _ _)⟩
/-- put, of a row of the call's own. -/
theorem law_putO (base : Nat) (v : Value) (l : List UInt8) (at' n x : Int) (w : World) (hv : OwnB w base v l) (hs : l.length ≤ 140737488351232) (h0 : 0 ≤ at') (h1 : at' ≤ 4611686018427387904) (hn0 : 1 ≤ n) (hn : n ≤ 8)
    (hv0 : 0 ≤ x) (hx : x < 18446744073709551616) :
    Calls Try.prog 17 #[v, .int .i64 at', .int .i64 n, .int .u64 x] w fun e w' => ∃ v', e = .returned v' ∧ OwnB w' w.heap.size v' (putF l at'.toNat n.toNat x.toNat) ∧ Below w.heap.size w w' := by
  obtain ⟨g, cap, rfl, _, _, hbs⟩ := hv.bs
  exact law_put _ _ l at' n x w hbs hs h0 h1 hn0 hn hv0 hx
end Go.Proofs.Ytajcihcbgmpdjaa
