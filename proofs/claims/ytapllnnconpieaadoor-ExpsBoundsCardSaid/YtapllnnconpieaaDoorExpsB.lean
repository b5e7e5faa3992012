/- ExpsBounds: plain laws by the kernel, and the walk. -/
import Derived.Test.YtapllnnconpieaaDoorAwake7
import Derived.Test.YtapllnnconpieaaDoorBits
set_option linter.unusedVariables false
namespace Go.Proofs.YtapllnnconpieaaDoor
open Go.RowKit

def bI (n : Nat) : List UInt8 := putF (putF (zer (104 + 4 * n)) 84 4 n) 92 4 104
def bIok (n : Nat) : Bool := match parseX (bI n) 64 40 with
  | none => decide (256 < n)
  | some x => decide (n ≤ 256) && decide (x.funcs.length = n) && decide (x.names.length = 0)
theorem bI_all : (List.range 16).all (fun k => bIok (250 + k)) = true := by decide +kernel
theorem bI_cases (n : Nat) (h0 : 250 ≤ n) (h1 : n ≤ 265) : (256 < n ∧ parseX (bI n) 64 40 = none) ∨ (n ≤ 256 ∧ ∃ x, parseX (bI n) 64 40 = some x ∧ x.funcs.length = n ∧ x.names.length = 0) := by
  have h := List.all_eq_true.1 bI_all (n - 250) (List.mem_range.2 (by omega))
  rw [show 250 + (n - 250) = n by omega] at h
  unfold bIok at h
  cases hp : parseX (bI n) 64 40 with
  | none => rw [hp] at h; exact .inl ⟨of_decide_eq_true h, rfl⟩
  | some x =>
    rw [hp] at h
    simp only [Bool.and_eq_true, decide_eq_true_eq] at h
    exact .inr ⟨h.1.1, x, rfl, h.1.2, h.2⟩
def lenB (a b c d : List UInt8) : Int := ((atB 256 [a, b] [c, d] 1).length : Int) - 256
theorem bad0 : parseX (atF 256 [[102], [103]] [[98], [97]] 1) 256 (lenB [102] [103] [98] [97]) = none := by decide +kernel
theorem bad1 : parseX (atF 256 [[102], [103]] [[97], [97]] 1) 256 (lenB [102] [103] [97] [97]) = none := by decide +kernel
theorem bad2 : parseX (putF (atF 256 [[102], [103]] [[97], [98]] 1) 312 2 2) 256 (lenB [102] [103] [97] [98]) = none := by decide +kernel
theorem bad3 : parseX (atF 256 [[102], [120, 46]] [[97], [98]] 1) 256 (lenB [102] [120, 46] [97] [98]) = none := by decide +kernel
theorem len_bd (a b c d : List UInt8) (ha : (atB 256 [a, b] [c, d] 1).length ≤ 100000) : -9223372036854775808 ≤ lenB a b c d ∧ lenB a b c d ≤ 9223372036854775807 := by unfold lenB; omega
theorem atF_len2 : (atF 256 [[102], [103]] [[97], [98]] 1).length = 320 := by decide +kernel

theorem made2 (w : World) (g1 g2 : Nat) (a b c d : List UInt8) (h1 : Blk w g1 #[.string (S a), .string (S b)] 9) (h2 : Blk w g2 #[.string (S c), .string (S d)] 9) (ha : a.length ≤ 100) (hb : b.length ≤ 100) (hc : c.length ≤ 100) (hd : d.length ≤ 100) :
    Calls Tryd.prog 19 #[.slice (some ⟨g1, 0, none⟩) 2 2, .slice (some ⟨g2, 0, none⟩) 2 2, .int .i64 1] w fun e w' => ∃ g cap, w.heap.size ≤ g ∧ e = .returned (.tuple #[.slice (some ⟨g, 0, none⟩) (atF 256 [a, b] [c, d] 1).length cap, .agg #[.int .i64 256, .int .i64 (lenB a b c d)]]) ∧
      Bs w' (some ⟨g, 0, none⟩) cap (atF 256 [a, b] [c, d] 1) ∧ Below w.heap.size w w' := by
  have row : ∀ {b : Nat} {cs : Array Value} {t : TypeId}, Blk w b cs t → Row w (some ⟨b, 0, none⟩) cs.toList := fun {b cs t} h => .inr ⟨_, rfl, fun j hj => by
    have e0 : (⟨b, 0, none⟩ : Addr).add j = ⟨b, j, none⟩ := by
      unfold Addr.add
      split <;> simp_all
    rw [e0, h.cell j]
    simp at hj ⊢⟩
  have h := law7_Made w 1 (some ⟨g1, 0, none⟩) (some ⟨g2, 0, none⟩) 2 2 [a, b] [c, d] (row h1) (row h2) (by decide) (by simp) (by simp) (by simp) (by simp) (by simp; omega) (by simp; omega)
  refine h.mono ?_
  rintro e w' ⟨v, rfl, ho, hb⟩
  obtain ⟨g, cap, rfl, hg, -, hbs⟩ := ho.bs
  exact ⟨g, cap, hg, rfl, hbs, hb⟩
end Go.Proofs.YtapllnnconpieaaDoor
