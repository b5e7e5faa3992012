/- FoldNumbers, walked. -/
import Derived.Test.YtapllnnconpieaaDoorNumbersP
import Derived.Test.YtapllnnconpieaaDoorDigits
import Derived.Test.YtapllnnconpieaaDoorBits
set_option linter.unusedVariables false
namespace Go.Proofs.YtapllnnconpieaaDoor
open Go.RowKit
open Go.Lib (decDigits)

theorem num1_D (n : Nat) (hn : n < 1000000) : ∃ ds o b, (∀ w, LibOk w → Calls Tryd.prog 11 #[.string (S ([97, 46, 35] ++ decDigits n))] w fun e w' => e = .returned (.tuple #[.string ds, .agg #[.string ⟨#[]⟩, .int .i64 o, .bool b], .bool b]) ∧ Below w.heap.size w w') ∧
    ((n ≤ 65535 ∧ ds = ⟨#[97]⟩ ∧ o = n ∧ b = true) ∨ (65535 < n ∧ ds = ⟨#[]⟩ ∧ o = 0 ∧ b = false)) := by
  by_cases hb : n ≤ 65535
  · refine ⟨_, _, _, fun w hk => ?_, .inl ⟨hb, rfl, rfl, rfl⟩⟩
    have h := split_ord_C [97] (decDigits n) w hk okA (dec_point n) (Nat.le_trans (dec_length 5 n (by omega)) (by omega))
    simp only [atoi_dec] at h
    rw [if_pos ⟨Lib.itoa_nonneg n, by omega, by omega⟩] at h
    exact h
  · refine ⟨_, _, _, fun w hk => ?_, .inr ⟨by omega, rfl, rfl, rfl⟩⟩
    have h := split_ord_C [97] (decDigits n) w hk okA (dec_point n) (Nat.le_trans (dec_length 5 n (by omega)) (by omega))
    simp only [atoi_dec] at h
    rw [if_neg (fun h => hb (by omega))] at h
    exact h

set_option maxRecDepth 100000 in
set_option maxHeartbeats 8000000 in
theorem walk_FoldNumbers (w : World) (hk : LibOk w) (a0 : Int) (h0 : (Lit.int .i64 a0).wf = true) (a1 : Bool) :
    Calls Tryd.prog 5 #[.int .i64 a0, .bool a1] w fun e w' => e = .returned (.bool true) ∧ Below w.heap.size w w' := by
  clear h0
  have e0 : 0 ≤ bits .and .i64 a0 262143 ∧ bits .and .i64 a0 262143 ≤ 262143 := and_le_i64 a0 262143 (by omega)
  obtain ⟨n, hn⟩ := Int.eq_ofNat_of_zero_le e0.1
  have hn' : bits .and .i64 a0 262143 = (n : Int) := hn
  have nb : n ≤ 262143 := by omega
  have HK := hid hk
  have U0 := hid (up_refl w)
  clear e0 hn hk
  have hl := dec_length 5 n (by omega)
  have PD := fun w => ref_Digits n (by omega) w
  obtain ⟨ds, o, b, P1, hc⟩ := num1_D n (by omega)
  have P2 := fun w hk => num0_C n (by omega) w hk
  obtain ⟨X, hX⟩ : ∃ X, decDigits n = X := ⟨_, rfl⟩
  rw [hX] at hl PD P1 P2
  have HPD := hid PD
  have HP1 := hid P1
  have HP2 := hid P2
  have hsz : (S X).size = X.length := S_size X
  have e1 : ByteArray.mk #[97, 46, 35] ++ S X = S ([97, 46, 35] ++ X) := S_append [97, 46, 35] _
  have e2 : ByteArray.mk #[97, 46, 35, 48] ++ S X = S ([97, 46, 35, 48] ++ X) := S_append [97, 46, 35, 48] _
  obtain ⟨X1, hX1⟩ : ∃ x, [97, 46, 35] ++ X = x := ⟨_, rfl⟩
  obtain ⟨X2, hX2⟩ : ∃ x, [97, 46, 35, 48] ++ X = x := ⟨_, rfl⟩
  rw [hX1] at e1 HP1
  rw [hX2] at e2 HP2
  clear PD P1 P2 hX hX1 hX2
  go_enter Tryd.func5, Tryd.ntmps5
  go_wp2_with fail
  refine (HPD.out _).mono ?_
  rintro e w2 ⟨rfl, rfl⟩
  go_wp2_with fail
  refine (HP1.out _ HK.out).mono ?_
  rintro e w3 ⟨rfl, b3⟩
  have U3 := hid b3
  have K3 := hid (HK.out.below U3.out)
  clear b3
  obtain ⟨g4, hg4⟩ : ∃ g, w3.heap.size = g := ⟨_, rfl⟩
  obtain ⟨x4, hx4⟩ : ∃ x, w3.alloc (.cells #[.string ⟨#[]⟩, .int .i64 0, .bool false] 24) = x := ⟨_, rfl⟩
  have hbl4 : Blk x4 w3.heap.size #[.string ⟨#[]⟩, .int .i64 0, .bool false] 24 := hx4 ▸ Blk.new _ _ _
  have hbu4 : Below w3.heap.size w3 x4 := hx4 ▸ up_alloc (up_refl _) _
  rw [hg4] at hbl4
  obtain ⟨c0, c1, c2, f0, f1, f2⟩ := hbl4.syms
  have V4 : Hid (Below w3.heap.size w3 (((x4.setCell ⟨g4, 0, none⟩ (.string ⟨#[]⟩)).setCell ⟨g4, 1, none⟩ (.int .i64 o)).setCell ⟨g4, 2, none⟩ (.bool b))) := hid (((hbu4.setCell (p := ⟨g4, 0, none⟩) (by rw [hg4]; exact Nat.le_refl _) (.string ⟨#[]⟩)).setCell (p := ⟨g4, 1, none⟩) (by rw [hg4]; exact Nat.le_refl _) (.int .i64 o)).setCell (p := ⟨g4, 2, none⟩) (by rw [hg4]; exact Nat.le_refl _) (.bool b))
  have X4 : Hid (Blk (((x4.setCell ⟨g4, 0, none⟩ (.string ⟨#[]⟩)).setCell ⟨g4, 1, none⟩ (.int .i64 o)).setCell ⟨g4, 2, none⟩ (.bool b)) g4 #[(.string ⟨#[]⟩), (.int .i64 o), (.bool b)] 24) := hid hbl4.set3
  have L4 : Hid (LibOk (((x4.setCell ⟨g4, 0, none⟩ (.string ⟨#[]⟩)).setCell ⟨g4, 1, none⟩ (.int .i64 o)).setCell ⟨g4, 2, none⟩ (.bool b))) := hid (K3.out.below V4.out)
  have N4 : Hid (Below w.heap.size w (((x4.setCell ⟨g4, 0, none⟩ (.string ⟨#[]⟩)).setCell ⟨g4, 1, none⟩ (.int .i64 o)).setCell ⟨g4, 2, none⟩ (.bool b))) := hid (up_trans U3.out V4.out)
  clear hbl4 hbu4
  go_wp2_with fail
  refine (HP2.out _ L4.out).mono ?_
  rintro e w5 ⟨rfl, b5⟩
  have U5 := hid (up_trans N4.out b5)
  have K5 := hid (HK.out.below U5.out)
  have X5 := hid (X4.out.below b5)
  clear b5 c0 c1 c2 f0 f1 f2 X4 L4 V4 hx4 hg4
  obtain ⟨g6, hg6⟩ : ∃ g, w5.heap.size = g := ⟨_, rfl⟩
  obtain ⟨x6, hx6⟩ : ∃ x, w5.alloc (.cells #[.string ⟨#[]⟩, .int .i64 0, .bool false] 24) = x := ⟨_, rfl⟩
  have hbl6 : Blk x6 w5.heap.size #[.string ⟨#[]⟩, .int .i64 0, .bool false] 24 := hx6 ▸ Blk.new _ _ _
  have hbu6 : Below w5.heap.size w5 x6 := hx6 ▸ up_alloc (up_refl _) _
  rw [hg6] at hbl6
  obtain ⟨c0, c1, c2, f0, f1, f2⟩ := hbl6.syms
  have V6 : Hid (Below w5.heap.size w5 (((x6.setCell ⟨g6, 0, none⟩ (.string ⟨#[]⟩)).setCell ⟨g6, 1, none⟩ (.int .i64 0)).setCell ⟨g6, 2, none⟩ (.bool false))) := hid (((hbu6.setCell (p := ⟨g6, 0, none⟩) (by rw [hg6]; exact Nat.le_refl _) (.string ⟨#[]⟩)).setCell (p := ⟨g6, 1, none⟩) (by rw [hg6]; exact Nat.le_refl _) (.int .i64 0)).setCell (p := ⟨g6, 2, none⟩) (by rw [hg6]; exact Nat.le_refl _) (.bool false))
  have X6 : Hid (Blk (((x6.setCell ⟨g6, 0, none⟩ (.string ⟨#[]⟩)).setCell ⟨g6, 1, none⟩ (.int .i64 0)).setCell ⟨g6, 2, none⟩ (.bool false)) g6 #[(.string ⟨#[]⟩), (.int .i64 0), (.bool false)] 24) := hid hbl6.set3
  have L6 : Hid (LibOk (((x6.setCell ⟨g6, 0, none⟩ (.string ⟨#[]⟩)).setCell ⟨g6, 1, none⟩ (.int .i64 0)).setCell ⟨g6, 2, none⟩ (.bool false))) := hid (K5.out.below V6.out)
  have N6 : Hid (Below w.heap.size w (((x6.setCell ⟨g6, 0, none⟩ (.string ⟨#[]⟩)).setCell ⟨g6, 1, none⟩ (.int .i64 0)).setCell ⟨g6, 2, none⟩ (.bool false))) := hid (up_trans U5.out V6.out)
  clear hbl6 hbu6
  go_wp2_with fail
  refine (numNone_C _ L6.out).mono ?_
  rintro e w7 ⟨rfl, b7⟩
  have U7 := hid (up_trans N6.out b7)
  have K7 := hid (HK.out.below U7.out)
  have X7 := hid ((X5.out.below V6.out).below b7)
  clear b7 c0 c1 c2 f0 f1 f2 X6 L6 V6 hx6 hg6 X5
  obtain ⟨g8, hg8⟩ : ∃ g, w7.heap.size = g := ⟨_, rfl⟩
  obtain ⟨x8, hx8⟩ : ∃ x, w7.alloc (.cells #[.string ⟨#[]⟩, .int .i64 0, .bool false] 24) = x := ⟨_, rfl⟩
  have hbl8 : Blk x8 w7.heap.size #[.string ⟨#[]⟩, .int .i64 0, .bool false] 24 := hx8 ▸ Blk.new _ _ _
  have hbu8 : Below w7.heap.size w7 x8 := hx8 ▸ up_alloc (up_refl _) _
  rw [hg8] at hbl8
  obtain ⟨c0, c1, c2, f0, f1, f2⟩ := hbl8.syms
  have V8 : Hid (Below w7.heap.size w7 (((x8.setCell ⟨g8, 0, none⟩ (.string ⟨#[]⟩)).setCell ⟨g8, 1, none⟩ (.int .i64 0)).setCell ⟨g8, 2, none⟩ (.bool false))) := hid (((hbu8.setCell (p := ⟨g8, 0, none⟩) (by rw [hg8]; exact Nat.le_refl _) (.string ⟨#[]⟩)).setCell (p := ⟨g8, 1, none⟩) (by rw [hg8]; exact Nat.le_refl _) (.int .i64 0)).setCell (p := ⟨g8, 2, none⟩) (by rw [hg8]; exact Nat.le_refl _) (.bool false))
  have X8 : Hid (Blk (((x8.setCell ⟨g8, 0, none⟩ (.string ⟨#[]⟩)).setCell ⟨g8, 1, none⟩ (.int .i64 0)).setCell ⟨g8, 2, none⟩ (.bool false)) g8 #[(.string ⟨#[]⟩), (.int .i64 0), (.bool false)] 24) := hid hbl8.set3
  have L8 : Hid (LibOk (((x8.setCell ⟨g8, 0, none⟩ (.string ⟨#[]⟩)).setCell ⟨g8, 1, none⟩ (.int .i64 0)).setCell ⟨g8, 2, none⟩ (.bool false))) := hid (K7.out.below V8.out)
  have N8 : Hid (Below w.heap.size w (((x8.setCell ⟨g8, 0, none⟩ (.string ⟨#[]⟩)).setCell ⟨g8, 1, none⟩ (.int .i64 0)).setCell ⟨g8, 2, none⟩ (.bool false))) := hid (up_trans U7.out V8.out)
  clear hbl8 hbu8
  go_wp2_with fail
  refine (numMinus_C _ L8.out).mono ?_
  rintro e w9 ⟨rfl, b9⟩
  have U9 := hid (up_trans N8.out b9)
  have K9 := hid (HK.out.below U9.out)
  have X9 := hid ((X7.out.below V8.out).below b9)
  clear b9 c0 c1 c2 f0 f1 f2 X8 L8 V8 hx8 hg8 X7
  obtain ⟨g10, hg10⟩ : ∃ g, w9.heap.size = g := ⟨_, rfl⟩
  obtain ⟨x10, hx10⟩ : ∃ x, w9.alloc (.cells #[.string ⟨#[]⟩, .int .i64 0, .bool false] 24) = x := ⟨_, rfl⟩
  have hbl10 : Blk x10 w9.heap.size #[.string ⟨#[]⟩, .int .i64 0, .bool false] 24 := hx10 ▸ Blk.new _ _ _
  have hbu10 : Below w9.heap.size w9 x10 := hx10 ▸ up_alloc (up_refl _) _
  rw [hg10] at hbl10
  obtain ⟨c0, c1, c2, f0, f1, f2⟩ := hbl10.syms
  have V10 : Hid (Below w9.heap.size w9 (((x10.setCell ⟨g10, 0, none⟩ (.string ⟨#[]⟩)).setCell ⟨g10, 1, none⟩ (.int .i64 0)).setCell ⟨g10, 2, none⟩ (.bool false))) := hid (((hbu10.setCell (p := ⟨g10, 0, none⟩) (by rw [hg10]; exact Nat.le_refl _) (.string ⟨#[]⟩)).setCell (p := ⟨g10, 1, none⟩) (by rw [hg10]; exact Nat.le_refl _) (.int .i64 0)).setCell (p := ⟨g10, 2, none⟩) (by rw [hg10]; exact Nat.le_refl _) (.bool false))
  have X10 : Hid (Blk (((x10.setCell ⟨g10, 0, none⟩ (.string ⟨#[]⟩)).setCell ⟨g10, 1, none⟩ (.int .i64 0)).setCell ⟨g10, 2, none⟩ (.bool false)) g10 #[(.string ⟨#[]⟩), (.int .i64 0), (.bool false)] 24) := hid hbl10.set3
  have L10 : Hid (LibOk (((x10.setCell ⟨g10, 0, none⟩ (.string ⟨#[]⟩)).setCell ⟨g10, 1, none⟩ (.int .i64 0)).setCell ⟨g10, 2, none⟩ (.bool false))) := hid (K9.out.below V10.out)
  have N10 : Hid (Below w.heap.size w (((x10.setCell ⟨g10, 0, none⟩ (.string ⟨#[]⟩)).setCell ⟨g10, 1, none⟩ (.int .i64 0)).setCell ⟨g10, 2, none⟩ (.bool false))) := hid (up_trans U9.out V10.out)
  clear hbl10 hbu10
  obtain ⟨c3, c4, c5, -, -, -⟩ := X9.out.syms
  have hne : g4 ≠ g10 := by have := X9.out.lt; omega
  have hne' : g10 ≠ g4 := fun e => hne e.symm
  obtain ⟨c6, c7, c8, -, -, -⟩ := (X9.out.below V10.out).syms
  rcases hc with ⟨c, rfl, rfl, rfl⟩ | ⟨c, rfl, rfl, rfl⟩
  all_goals
    cases a1
  all_goals
    go_wp2_with fail
    first | (refine (text0_C _ L10.out).mono ?_; rintro e w11 ⟨rfl, b11⟩) | (refine (law2_awake _ L10.out).mono ?_; rintro e w11 ⟨rfl, b11⟩)
    have U11 := hid (up_trans N10.out b11)
    have K11 := hid (HK.out.below U11.out)
    clear b11
    go_wp2_with fail
    first
    | (refine (law2_awake _ K11.out).mono ?_
       rintro e w12 ⟨rfl, b12⟩
       have U12 := hid (up_trans U11.out b12)
       clear b12
       go_wp2_with fail
       go_ret
       exact ⟨rfl, U12.out⟩)
    | (go_ret
       exact ⟨rfl, U11.out⟩)
end Go.Proofs.YtapllnnconpieaaDoor
