/- slipwaylaw2.awake. -/
import Derived.Test.YtapllnnconpieaaDoorFold4
set_option linter.unusedVariables false
namespace Go.Proofs.YtapllnnconpieaaDoor
open Go.RowKit

theorem split1 : splitF [98, 46, 100, 108, 108, 46, 102] = some ([98, 46, 100, 108, 108], ⟨[102], 0, false⟩) := by rfl
theorem split2 : splitF [102] = none := by rfl
theorem key1 : keyF [65] = [97, 46, 100, 108, 108] := by decide
theorem same1 : (keyF [97] == keyF [65, 46, 68, 76, 76]) = true := by decide
theorem ok1 : okF [] = false := by decide
theorem symok1 : symOkF [120] = true := by decide

theorem split1_C (w : World) (hk : LibOk w) : Calls Tryd.prog 11 #[.string ⟨#[98, 46, 100, 108, 108, 46, 102]⟩] w fun e w' => e = .returned (.tuple #[.string ⟨#[98, 46, 100, 108, 108]⟩, .agg #[.string ⟨#[102]⟩, .int .i64 0, .bool false], .bool true]) ∧ Below w.heap.size w w' := by
  have h := fold_Split [98, 46, 100, 108, 108, 46, 102] w hk (by simp)
  rw [split1] at h
  exact h
theorem split2_C (w : World) (hk : LibOk w) : Calls Tryd.prog 11 #[.string ⟨#[102]⟩] w fun e w' => e = .returned (.tuple #[.string ⟨#[]⟩, .agg #[.string ⟨#[]⟩, .int .i64 0, .bool false], .bool false]) ∧ Below w.heap.size w w' := by
  have h := fold_Split [102] w hk (by simp)
  rw [split2] at h
  exact h
theorem key1_C (w : World) : Calls Tryd.prog 16 #[.string ⟨#[65]⟩] w fun e w' => e = .returned (.string ⟨#[97, 46, 100, 108, 108]⟩) ∧ Below w.heap.size w w' := by
  have h := fold_Key [65] w (by simp)
  rw [key1] at h
  exact h
theorem same1_C (w : World) : Calls Tryd.prog 15 #[.string ⟨#[97]⟩, .string ⟨#[65, 46, 68, 76, 76]⟩] w fun e w' => e = .returned (.bool true) ∧ Below w.heap.size w w' := by
  have h := fold_Same [97] [65, 46, 68, 76, 76] w (by simp) (by simp)
  rw [same1] at h
  exact h
theorem ok1_C (w : World) : Calls Tryd.prog 12 #[.string ⟨#[]⟩] w fun e w' => e = .returned (.bool false) ∧ w = w' := by
  have h := fold_Ok [] w (by simp)
  rw [ok1] at h
  exact h
theorem symok1_C (w : World) : Calls Tryd.prog 13 #[.string ⟨#[120]⟩] w fun e w' => e = .returned (.bool true) ∧ w = w' := by
  have h := fold_SymOk [120] w (by simp)
  rw [symok1] at h
  exact h

set_option maxRecDepth 100000 in
set_option maxHeartbeats 4000000 in
theorem law2_awake (w : World) (hk : LibOk w) :
    Calls Tryd.prog 14 #[] w fun e w' => e = .returned (.bool true) ∧ Below w.heap.size w w' := by
  have HK := hid hk
  clear hk
  go_enter Tryd.func14, Tryd.ntmps14
  go_wp2_with fail
  refine (split1_C _ HK.out).mono ?_
  rintro e w1 ⟨rfl, b1⟩
  have U1 := hid b1
  have HK1 := hid (HK.out.below b1)
  obtain ⟨g1, hg1⟩ : ∃ g, w1.heap.size = g := ⟨_, rfl⟩
  obtain ⟨w2, hw2⟩ : ∃ w2, w1.alloc (.cells #[.string ⟨#[]⟩, .int .i64 0, .bool false] 24) = w2 := ⟨_, rfl⟩
  have hx2 : Blk w2 w1.heap.size #[.string ⟨#[]⟩, .int .i64 0, .bool false] 24 := hw2 ▸ Blk.new _ _ _
  have hu2 : Below w1.heap.size w1 w2 := hw2 ▸ up_alloc (up_refl _) _
  rw [hg1] at hx2
  have HU2 := hid (((hu2.setCell (p := ⟨g1, 0, none⟩) (by rw [hg1]; exact Nat.le_refl _) (.string ⟨#[102]⟩)).setCell (p := ⟨g1, 1, none⟩) (by rw [hg1]; exact Nat.le_refl _) (.int .i64 0)).setCell (p := ⟨g1, 2, none⟩) (by rw [hg1]; exact Nat.le_refl _) (.bool false))
  obtain ⟨c0, c1, c2, f0, f1, f2⟩ := hx2.syms
  have HX2 := hid hx2
  clear hx2 hu2 b1
  go_wp2_with fail
  refine (split2_C _ (HK1.out.below HU2.out)).mono ?_
  rintro e w3 ⟨rfl, b3⟩
  have U3 := hid (up_trans U1.out (up_trans HU2.out b3))
  have HX3 := hid (HX2.out.set3.below b3)
  have hg13 : g1 < w3.heap.size := HX3.out.lt
  obtain ⟨g3, hg3⟩ : ∃ g, w3.heap.size = g := ⟨_, rfl⟩
  obtain ⟨w4, hw4⟩ : ∃ w4, w3.alloc (.cells #[.string ⟨#[]⟩, .int .i64 0, .bool false] 24) = w4 := ⟨_, rfl⟩
  have hx4 : Blk w4 w3.heap.size #[.string ⟨#[]⟩, .int .i64 0, .bool false] 24 := hw4 ▸ Blk.new _ _ _
  have hu4 : Below w3.heap.size w3 w4 := hw4 ▸ up_alloc (up_refl _) _
  obtain ⟨d0, d1, d2, -, -, -⟩ := (HX3.out.below hu4).syms
  rw [hg3] at hx4 hg13
  obtain ⟨e0, e1, e2, f3, f4, f5⟩ := hx4.syms
  have hne : g1 ≠ g3 := by omega
  have hne' : g3 ≠ g1 := by omega
  have HU4 := hid (up_trans U3.out (((hu4.setCell (p := ⟨g3, 0, none⟩) (by rw [hg3]; exact Nat.le_refl _) (.string ⟨#[]⟩)).setCell (p := ⟨g3, 1, none⟩) (by rw [hg3]; exact Nat.le_refl _) (.int .i64 0)).setCell (p := ⟨g3, 2, none⟩) (by rw [hg3]; exact Nat.le_refl _) (.bool false)))
  clear hu4 b3 hx4 hg1 c0 c1 c2 f0 f1 f2 HX2 HX3
  go_wp2_with fail
  refine (key1_C _).mono ?_
  rintro e w5 ⟨rfl, b5⟩
  have U5 := hid (up_trans HU4.out b5)
  clear b5 hne hne' e0 e1 e2 f3 f4 f5 d0 d1 d2 hw4 hw2 hg3 HU4 HU2
  go_wp2_with fail
  refine (same1_C _).mono ?_
  rintro e w6 ⟨rfl, b6⟩
  have U6 := hid (up_trans U5.out b6)
  clear b6
  go_wp2_with fail
  refine (ok1_C _).mono ?_
  rintro e w7 ⟨rfl, rfl⟩
  go_wp2_with fail
  refine (symok1_C _).mono ?_
  rintro e w7 ⟨rfl, rfl⟩
  go_wp2_with fail
  go_ret
  exact ⟨rfl, U6.out⟩
end Go.Proofs.YtapllnnconpieaaDoor
