/- slipwayref1.Put over lists. -/
import Derived.Test.YtajcihcbgmpdjaaOwn
import Derived.Test.YtajcihcbgmpdjaaRef
import Derived.Test.YtajcihcbgmpdjaaUp
namespace Go.Proofs.Ytajcihcbgmpdjaa
open Go.RowKit

/-- What '[]byte(s)' leaves is the call's own. -/
theorem ownB_bytesWorld (w : World) (l : List UInt8) (hl : l.length ≤ 140737488355328) :
    OwnB (Lib.bytesWorld w 5 (S l)) w.heap.size (.slice (some ⟨w.heap.size, 0, none⟩) l.length (grownCap w l.length 0 5)) l := by
  have hsz : (S l).size = l.length := S_size l
  have hge := grownCap_ge w l.length 0 5
  have hcs : (Lib.bytesCells w 5 (S l)).size = grownCap w l.length 0 5 := by
    have hd : (S l).data.size = l.length := hsz
    unfold Lib.bytesCells
    rw [Array.size_append, Array.size_map, Array.size_replicate, hd, hsz]
    omega
  refine ⟨w.heap.size, _, Lib.bytesCells w 5 (S l), _, rfl, Nat.le_refl _, Lib.bytesWorld_at_new w _ _, .inr (by rw [hcs]; exact Nat.le_refl _), hge, grownCap_le_maxLen _ _ _ _ (by unfold maxLen; omega), hl, hcs, ?_⟩
  simp [Lib.bytesCells, S, bcells]

/-- A row with a number in it; the row, if it does not go in. -/
def putF (s : List UInt8) (at' n v : Nat) : List UInt8 := if at' + n ≤ s.length then putL s at' n v else s

theorem putF_length (s : List UInt8) (at' n v : Nat) : (putF s at' n v).length = s.length := by
  unfold putF
  split
  · rename_i h
    exact putL_length s at' n v h
  · rfl

set_option maxRecDepth 100000 in
set_option maxHeartbeats 1000000 in
theorem ref_PutF (s : List UInt8) (at' n v : Int) (w : World) (hs : s.length ≤ 140737488351232) (h0 : 0 ≤ at') (h1 : at' ≤ 4611686018427387904) (hn0 : 1 ≤ n) (hn : n ≤ 8) (hv0 : 0 ≤ v) (hv : v < 18446744073709551616) :
    Calls Try.prog 34 #[.string (S s), .int .i64 at', .int .i64 n, .int .u64 v] w fun e w' => ∃ b, e = .returned (.tuple #[.string (S (putF s at'.toNat n.toNat v.toNat)), .bool b]) ∧ Below w.heap.size w w' := by
  by_cases h : at' + n ≤ s.length
  · refine (ref_PutL s at' n v w hs h0 h hn0 hn hv0 hv).mono ?_
    rintro e w' ⟨rfl, hb⟩
    refine ⟨true, ?_, hb⟩
    rw [putF, if_pos (by omega)]
  · have hin : inB s.length at' n = false := by simp only [inB, decide_eq_false_iff_not]; omega
    rw [putF, if_neg (by omega)]
    have hsz : (S s).size = s.length := S_size s
    go_enter Try.func34, Try.ntmps34
    go_wp2_with fail
    refine (ref_In _ _ _ _ (by omega) (by omega)).mono ?_
    rintro e w' ⟨rfl, rfl⟩
    rw [hin]
    go_wp2
    go_ret2
    exact ⟨false, rfl, up_refl _⟩

end Go.Proofs.Ytajcihcbgmpdjaa
