/- FoldBounds, walked. -/
import Derived.Test.YtapllnnconpieaaDoorFoldD
import Derived.Test.YtapllnnconpieaaDoorBits
import Derived.Test.YtapllnnconpieaaDoorMk
set_option linter.unusedVariables false
namespace Go.Proofs.YtapllnnconpieaaDoor
open Go.RowKit

theorem xs_step (j n : Nat) (h : j < n) : (xs j ++ zer (n - j)).set j 120 = xs (j + 1) ++ zer (n - (j + 1)) := by
  have e : xs (j + 1) = xs j ++ [120] := by simp [xs, List.replicate_succ']
  rw [e, List.set_append_right _ _ (by rw [xs_length]; exact Nat.le_refl _), xs_length, Nat.sub_self, show n - j = (n - (j + 1)) + 1 by omega]
  simp [zer, List.replicate_succ]

theorem bounds_cases (n : Nat) : ∃ ok so, okF (xs n) = ok ∧ symOkF (xs n) = so ∧ ((n = 0 ∧ ok = false ∧ so = false) ∨ (1 ≤ n ∧ n ≤ 40 ∧ ok = true ∧ so = true) ∨ (41 ≤ n ∧ n ≤ 60 ∧ ok = false ∧ so = true) ∨ (61 ≤ n ∧ ok = false ∧ so = false)) := by
  refine ⟨_, _, okF_xs n, symOkF_xs n, ?_⟩
  simp only [decide_eq_true_eq, decide_eq_false_iff_not]
  omega

set_option maxRecDepth 100000 in
set_option maxHeartbeats 8000000 in
theorem walk_FoldBounds (w : World) (hk : LibOk w) (a0 : Int) (h0 : (Lit.int .i64 a0).wf = true) :
    Calls Tryd.prog 3 #[.int .i64 a0] w fun e w' => e = .returned (.bool true) ∧ Below w.heap.size w w' := by
  clear h0
  have e0 : 0 ≤ bits .and .i64 a0 127 ∧ bits .and .i64 a0 127 ≤ 127 := and_le_i64 a0 127 (by omega)
  obtain ⟨n, hn⟩ := Int.eq_ofNat_of_zero_le e0.1
  have hn' : bits .and .i64 a0 127 = (n : Int) := hn
  have nb : n ≤ 127 := by omega
  have HK := hid hk
  clear e0 hn hk
  obtain ⟨w1, hmk, o1, b1, s1⟩ := run_makeB w n (by omega)
  obtain ⟨g, hg⟩ : ∃ g, w.heap.size = g := ⟨_, rfl⟩
  rw [hg] at hmk o1 b1 s1
  rw [hg]
  have HG := hid hg
  have O1 := hid o1
  have B1 := hid b1
  clear hg o1 b1 s1
  go_enter Tryd.func3, Tryd.ntmps3
  go_wp2_with fail
  go_loopg [18] n (fun k i wr => ∃ j : Nat, i = .int .i64 j ∧ j + k = n ∧ OwnB wr g (.slice (some ⟨g, 0, none⟩) n n) (xs j ++ zer (n - j)) ∧ Below g w wr)
  case atStart => exact ⟨0, rfl, by omega, O1.out, B1.out⟩
  case round =>
    obtain ⟨j, rfl, hj, ho, hb⟩ := hrel
    have HO := hid ho
    have HB := hid hb
    clear ho hb
    rcases gk with _ | m
    · have hjn : ((j : Int) < (n : Int)) = False := by simp; omega
      obtain rfl : j = n := by omega
      have o2 := HO.out
      rw [Nat.sub_self, show xs j ++ zer 0 = xs j by simp [zer]] at o2
      obtain ⟨g', cp', e', hg', hlt', hbs'⟩ := o2.bs
      simp only [xs_length, Value.slice.injEq, Option.some.injEq, Addr.mk.injEq, and_true, true_and] at e'
      obtain ⟨rfl, rfl⟩ := e'
      have hcv : (convert 22 9 (.slice (some ⟨g, 0, none⟩) j j)).run Tryd.prog wr = .ok (.string (S (xs j))) wr :=
        run_str wr _ _ 5 Tryd.underlying22 Tryd.underlying5 Tryd.underlying9 _ j j (xs j) (xs_length j) hbs'.row
      have hsz : (S (xs j)).size = j := by rw [S_size, xs_length]
      have e1 : S (xs j) ++ ⟨#[46, 102]⟩ = S (xs j ++ 46 :: [102]) := S_append _ _
      have e2 : ByteArray.mk #[97, 46] ++ S (xs j) = S ([97] ++ 46 :: xs j) := S_append [97, 46] _
      have KR := hid (HK.out.below (HG.out ▸ HB.out))
      have hsp1 := fun w hk => split_sym_C (xs j) [102] w hk (by decide) (by decide) (by rw [xs_length]; simp; omega)
      have hsp2 := fun w hk => split_sym_C [97] (xs j) w hk (xs_head j) (xs_point j) (by rw [xs_length]; simp; omega)
      have hok := fun w => fold_Ok (xs j) w (by rw [xs_length]; omega)
      have hso := fun w => fold_SymOk (xs j) w (by rw [xs_length]; omega)
      rw [show symOkF [102] = true by decide, Bool.and_true] at hsp1
      rw [show okF [97] = true by decide, Bool.true_and] at hsp2
      obtain ⟨ok, so, hc1, hc2, hc⟩ := bounds_cases j
      rw [hc1] at hsp1 hok
      rw [hc2] at hsp2 hso
      obtain ⟨X, hX⟩ : ∃ X, xs j = X := ⟨_, rfl⟩
      rw [hX] at hsp1 hsp2 hok hso hcv hsz e1 e2
      have P1 := hid hsp1
      have P2 := hid hsp2
      have P3 := hid hok
      have P4 := hid hso
      clear hsp1 hsp2 hok hso hc1 hc2 hX o2 hg' hlt' hbs' HO
      go_wp2_with fail
      obtain ⟨D1, N1, h1⟩ := P1.out wr KR.out
      refine h1.mono ?_
      clear h1
      rintro e w3 ⟨rfl, b3⟩
      have U3 := hid (up_trans (HG.out ▸ HB.out) b3)
      have K3 := hid (HK.out.below U3.out)
      clear b3
      obtain ⟨g4, hg4⟩ : ∃ g, w3.heap.size = g := ⟨_, rfl⟩
      obtain ⟨x4, hx4⟩ : ∃ x, w3.alloc (.cells #[.string ⟨#[]⟩, .int .i64 0, .bool false] 24) = x := ⟨_, rfl⟩
      have hbl4 : Blk x4 w3.heap.size #[.string ⟨#[]⟩, .int .i64 0, .bool false] 24 := hx4 ▸ Blk.new _ _ _
      have hbu4 : Below w3.heap.size w3 x4 := hx4 ▸ up_alloc (up_refl _) _
      rw [hg4] at hbl4
      obtain ⟨c0, c1, c2, f0, f1, f2⟩ := hbl4.syms
      have V4 : Hid (Below w3.heap.size w3 (((x4.setCell ⟨g4, 0, none⟩ (.string (S N1))).setCell ⟨g4, 1, none⟩ (.int .i64 0)).setCell ⟨g4, 2, none⟩ (.bool false))) := hid (((hbu4.setCell (p := ⟨g4, 0, none⟩) (by rw [hg4]; exact Nat.le_refl _) (.string (S N1))).setCell (p := ⟨g4, 1, none⟩) (by rw [hg4]; exact Nat.le_refl _) (.int .i64 0)).setCell (p := ⟨g4, 2, none⟩) (by rw [hg4]; exact Nat.le_refl _) (.bool false))
      have X4 : Hid (Blk (((x4.setCell ⟨g4, 0, none⟩ (.string (S N1))).setCell ⟨g4, 1, none⟩ (.int .i64 0)).setCell ⟨g4, 2, none⟩ (.bool false)) g4 #[(.string (S N1)), (.int .i64 0), (.bool false)] 24) := hid hbl4.set3
      have L4 : Hid (LibOk (((x4.setCell ⟨g4, 0, none⟩ (.string (S N1))).setCell ⟨g4, 1, none⟩ (.int .i64 0)).setCell ⟨g4, 2, none⟩ (.bool false))) := hid (K3.out.below V4.out)
      have N4 : Hid (Below w.heap.size w (((x4.setCell ⟨g4, 0, none⟩ (.string (S N1))).setCell ⟨g4, 1, none⟩ (.int .i64 0)).setCell ⟨g4, 2, none⟩ (.bool false))) := hid (up_trans U3.out V4.out)
      clear hbl4 hbu4
      go_wp2_with fail
      obtain ⟨D2, N2, h2⟩ := P2.out _ L4.out
      refine h2.mono ?_
      clear h2
      rintro e w5 ⟨rfl, b5⟩
      have U5 := hid (up_trans N4.out b5)
      have K5 := hid (HK.out.below U5.out)
      clear b5 c0 c1 c2 f0 f1 f2 X4 L4 V4 hx4 hg4
      obtain ⟨g6, hg6⟩ : ∃ g, w5.heap.size = g := ⟨_, rfl⟩
      obtain ⟨x6, hx6⟩ : ∃ x, w5.alloc (.cells #[.string ⟨#[]⟩, .int .i64 0, .bool false] 24) = x := ⟨_, rfl⟩
      have hbl6 : Blk x6 w5.heap.size #[.string ⟨#[]⟩, .int .i64 0, .bool false] 24 := hx6 ▸ Blk.new _ _ _
      have hbu6 : Below w5.heap.size w5 x6 := hx6 ▸ up_alloc (up_refl _) _
      rw [hg6] at hbl6
      obtain ⟨c0, c1, c2, f0, f1, f2⟩ := hbl6.syms
      have V6 : Hid (Below w5.heap.size w5 (((x6.setCell ⟨g6, 0, none⟩ (.string (S N2))).setCell ⟨g6, 1, none⟩ (.int .i64 0)).setCell ⟨g6, 2, none⟩ (.bool false))) := hid (((hbu6.setCell (p := ⟨g6, 0, none⟩) (by rw [hg6]; exact Nat.le_refl _) (.string (S N2))).setCell (p := ⟨g6, 1, none⟩) (by rw [hg6]; exact Nat.le_refl _) (.int .i64 0)).setCell (p := ⟨g6, 2, none⟩) (by rw [hg6]; exact Nat.le_refl _) (.bool false))
      have X6 : Hid (Blk (((x6.setCell ⟨g6, 0, none⟩ (.string (S N2))).setCell ⟨g6, 1, none⟩ (.int .i64 0)).setCell ⟨g6, 2, none⟩ (.bool false)) g6 #[(.string (S N2)), (.int .i64 0), (.bool false)] 24) := hid hbl6.set3
      have L6 : Hid (LibOk (((x6.setCell ⟨g6, 0, none⟩ (.string (S N2))).setCell ⟨g6, 1, none⟩ (.int .i64 0)).setCell ⟨g6, 2, none⟩ (.bool false))) := hid (K5.out.below V6.out)
      have N6 : Hid (Below w.heap.size w (((x6.setCell ⟨g6, 0, none⟩ (.string (S N2))).setCell ⟨g6, 1, none⟩ (.int .i64 0)).setCell ⟨g6, 2, none⟩ (.bool false))) := hid (up_trans U5.out V6.out)
      clear hbl6 hbu6
      rcases hc with ⟨c, rfl, rfl⟩ | ⟨c, c', rfl, rfl⟩ | ⟨c, c', rfl, rfl⟩ | ⟨c, rfl, rfl⟩
      all_goals
        go_wp2_with fail
        refine (P3.out _).mono ?_
        rintro e w7 ⟨rfl, rfl⟩
        go_wp2_with fail
        refine (P4.out _).mono ?_
        rintro e w7 ⟨rfl, rfl⟩
        go_wp2_with fail
        refine (P3.out _).mono ?_
        rintro e w7 ⟨rfl, rfl⟩
        go_wp2_with fail
        refine (P4.out _).mono ?_
        rintro e w7 ⟨rfl, rfl⟩
        go_wp2_with fail
        refine (law2_awake _ L6.out).mono ?_
        rintro e w7 ⟨rfl, b7⟩
        have U7 := hid (up_trans N6.out b7)
        clear b7
        go_wp2_with fail
        go_ret
        refine ⟨?_, HG.out ▸ U7.out⟩
        first | rfl | (simp; omega)
    · have hjn : ((j : Int) < (n : Int)) = True := by simp; omega
      have hjl : j < (xs j ++ zer (n - j)).length := by simp [xs, zer]; omega
      obtain ⟨u, hc1, hc2, hc3⟩ := HO.out.set1 hjl 120 120 (by rfl)
      rw [xs_step j n (by omega)] at hc3
      have HS := hid hc3
      clear hc3 HO
      go_wp2_with fail
      go_roundg m
      case measure => omega
      case rel => exact ⟨j + 1, by go_num, by omega, HS.out, HB.out.setCell (Nat.le_refl _) _⟩
end Go.Proofs.YtapllnnconpieaaDoor
