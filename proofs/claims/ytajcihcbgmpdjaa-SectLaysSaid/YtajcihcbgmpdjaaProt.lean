/- sect.Prot. -/
import Derived.Test.YtajcihcbgmpdjaaBase
namespace Go.Proofs.Ytajcihcbgmpdjaa
open Go.RowKit

/-- Whether one of a number's bits is set. -/
def hasBit (c k : Int) : Bool := bits .and .i64 c k != 0

/-- What Prot answers. -/
def protF (c : Int) : Int := (if hasBit c 1073741824 then 1 else 0) + (if hasBit c 2147483648 then 2 else 0) + (if hasBit c 536870912 then 4 else 0)

set_option maxRecDepth 100000 in
set_option maxHeartbeats 2000000 in
theorem sect_Prot (c : Int) (w : World) : Calls Try.prog 19 #[.int .i64 c] w fun e w' => e = .returned (.int .i64 (protF c)) ∧ w = w' := by
  have o1 : bits .or .i64 0 1 = 1 := by decide
  have o2 : bits .or .i64 0 2 = 2 := by decide
  have o3 : bits .or .i64 1 2 = 3 := by decide
  have o4 : bits .or .i64 0 4 = 4 := by decide
  have o5 : bits .or .i64 1 4 = 5 := by decide
  have o6 : bits .or .i64 2 4 = 6 := by decide
  have o7 : bits .or .i64 3 4 = 7 := by decide
  rw [protF]
  cases h1 : hasBit c 1073741824 <;> cases h2 : hasBit c 2147483648 <;> cases h3 : hasBit c 536870912
  all_goals
    unfold hasBit at h1 h2 h3
    go_enter Try.func19, Try.ntmps19
    go_wp2
    go_ret
    exact ⟨rfl, rfl⟩
end Go.Proofs.Ytajcihcbgmpdjaa
