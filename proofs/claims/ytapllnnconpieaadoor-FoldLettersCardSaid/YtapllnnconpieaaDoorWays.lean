/- FoldWays, walked. -/
import Derived.Test.YtapllnnconpieaaDoorFoldC
import Derived.Test.YtapllnnconpieaaDoorBits
set_option linter.unusedVariables false
namespace Go.Proofs.YtapllnnconpieaaDoor
open Go.RowKit

theorem contains_step (s : List UInt8) (j : Nat) (h : j < s.length) : (s.take (j + 1)).contains 46 = ((s.take j).contains 46 || decide ((s[j].toNat : Int) = 46)) := by
  rw [take_snoc s j h]
  simp only [List.contains_eq_mem, List.mem_append, List.mem_singleton]
  by_cases h1 : (46 : UInt8) ∈ s.take j
  · simp [h1]
  · by_cases h2 : s[j] = 46
    · simp [h2]
    · have h3 : ¬ (s[j].toNat : Int) = 46 := fun e => h2 (UInt8.toNat_inj.1 (by have : (46 : UInt8).toNat = 46 := rfl; omega))
      simp only [h1, h3, false_or, decide_false, Bool.or_false]
      exact decide_eq_false (fun e => h2 e.symm)

set_option maxRecDepth 100000 in
set_option maxHeartbeats 8000000 in
theorem walk_FoldWays (w : World) (hk : LibOk w) (a0 : ByteArray) (w0 : a0.size ≤ 140737488351232) (a1 : ByteArray) (w1 : a1.size ≤ 140737488351232) (a2 : Int) (h2 : (Lit.int .i64 a2).wf = true) :
    Calls Tryd.prog 6 #[.string a0, .string a1, .int .i64 a2] w fun e w' => e = .returned (.bool true) ∧ Below w.heap.size w w' := by
  clear h2
  obtain ⟨d, rfl⟩ : ∃ d, a0 = S d := ⟨a0.data.toList, (S_of a0).symm⟩
  obtain ⟨s, rfl⟩ : ∃ s, a1 = S s := ⟨a1.data.toList, (S_of a1).symm⟩
  rw [S_size] at w0 w1
  have hsz := S_size s
  have e0 : 0 ≤ bits .and .i64 a2 65535 ∧ bits .and .i64 a2 65535 ≤ 65535 := and_le_i64 a2 65535 (by omega)
  obtain ⟨n, hn⟩ := Int.eq_ofNat_of_zero_le e0.1
  have hn' : bits .and .i64 a2 65535 = (n : Int) := hn
  have nb : n ≤ 65535 := by omega
  have NB := hid nb
  have HK := hid hk
  have HD := hid w0
  clear e0 hn nb hk w0
  cases hd : okF d with
  | false =>
    have HO := hid (fold_Ok d w (by have := HD.out; omega))
    rw [hd] at HO
    clear hd
    go_enter Tryd.func6, Tryd.ntmps6
    go_wp2_with fail
    refine HO.out.mono ?_
    rintro e w3 ⟨rfl, rfl⟩
    go_wp2_with fail
    refine (law2_awake _ HK.out).mono ?_
    rintro e w3 ⟨rfl, b3⟩
    have B3 := hid b3
    clear b3
    go_wp2_with fail
    go_ret
    exact ⟨rfl, B3.out⟩
  | true =>
    have HO := hid (fold_Ok d w (by have := HD.out; omega))
    rw [hd] at HO
    have HDD := hid hd
    have hT := fun w hk => text_num_C d n w hk hd NB.out
    have hS := fun w hk => split_num_C d n w hk hd NB.out
    have hT2 := fun w hk => text_name_C d s w hk hd w1
    have hS2 := fun w hk => split_name_C d s w hk hd
    obtain ⟨m, hm⟩ : ∃ m, d ++ [46, 35] ++ Lib.itoa n = m := ⟨_, rfl⟩
    obtain ⟨m2, hm2⟩ : ∃ m, d ++ [46] ++ s = m := ⟨_, rfl⟩
    rw [hm] at hT hS
    rw [hm2] at hT2 hS2
    have HT := hid hT
    have HS := hid hS
    have HT2 := hid hT2
    have HS2 := hid hS2
    clear hd hT hS hT2 hS2 hm hm2
    go_enter Tryd.func6, Tryd.ntmps6
    go_wp2_with fail
    refine HO.out.mono ?_
    rintro e w3 ⟨rfl, rfl⟩
    go_wp2_with fail
    refine (HT.out _ HK.out).mono ?_
    rintro e w3 ⟨rfl, b3⟩
    have U3 := hid b3
    have K3 := hid (HK.out.below b3)
    clear b3
    go_wp2_with fail
    refine (HS.out _ K3.out).mono ?_
    rintro e w4 ⟨rfl, b4⟩
    have U4 := hid (up_trans U3.out b4)
    have K4 := hid (K3.out.below b4)
    clear b4
    obtain ⟨g, hg⟩ : ∃ g, w4.heap.size = g := ⟨_, rfl⟩
    obtain ⟨w5, hw5⟩ : ∃ w5, w4.alloc (.cells #[.string ⟨#[]⟩, .int .i64 0, .bool false] 24) = w5 := ⟨_, rfl⟩
    have hx5 : Blk w5 w4.heap.size #[.string ⟨#[]⟩, .int .i64 0, .bool false] 24 := hw5 ▸ Blk.new _ _ _
    have hu5 : Below w4.heap.size w4 w5 := hw5 ▸ up_alloc (up_refl _) _
    rw [hg] at hx5
    obtain ⟨c0, c1, c2, f0, f1, f2⟩ := hx5.syms
    have HU5 := hid (((hu5.setCell (p := ⟨g, 0, none⟩) (by rw [hg]; exact Nat.le_refl _) (.string ⟨#[]⟩)).setCell (p := ⟨g, 1, none⟩) (by rw [hg]; exact Nat.le_refl _) (.int .i64 n)).setCell (p := ⟨g, 2, none⟩) (by rw [hg]; exact Nat.le_refl _) (.bool true))
    have HX5 : Hid (Blk (((w5.setCell ⟨g, 0, none⟩ (.string ⟨#[]⟩)).setCell ⟨g, 1, none⟩ (.int .i64 n)).setCell ⟨g, 2, none⟩ (.bool true)) g _ _) := hid hx5.set3
    clear hx5 hu5
    go_wp2_with fail
    obtain ⟨w6, hw6⟩ : ∃ w6, (((w5.setCell ⟨g, 0, none⟩ (.string ⟨#[]⟩)).setCell ⟨g, 1, none⟩ (.int .i64 n)).setCell ⟨g, 2, none⟩ (.bool true)) = w6 := ⟨_, rfl⟩
    rw [hw6] at HX5 HU5 ⊢
    have K6 := hid (K4.out.below HU5.out)
    have U6 := hid (up_trans U4.out HU5.out)
    have HGE := hid (up_trans U4.out HU5.out |>.size)
    have HGB : Hid (w.heap.size ≤ g) := by rw [← hg]; exact U4.out.size
    clear hw6 c0 c1 c2 f0 f1 f2 hw5 HU5 hg HGE
    go_loopg [10, 11] s.length (fun k b i wr => ∃ j : Nat, i = .int .i64 j ∧ j + k = s.length ∧ b = .bool ((s.take j).contains 46) ∧ w6 = wr)
    case atStart => exact ⟨0, rfl, by omega, rfl, rfl⟩
    case round =>
      obtain ⟨j, rfl, hj, rfl, rfl⟩ := hrel
      rcases gk with _ | k
      · have hjn : ((j : Int) < (s.length : Int)) = False := by simp; omega
        obtain rfl : j = s.length := by omega
        rw [List.take_length]
        have HSO := hid (fold_SymOk s w6 (by omega))
        obtain ⟨pt, hpt⟩ : ∃ b, s.contains 46 = b := ⟨_, rfl⟩
        obtain ⟨so, hso⟩ : ∃ b, symOkF s = b := ⟨_, rfl⟩
        rw [hpt] at HS2 ⊢
        rw [hso] at HSO HS2
        have HSC : Hid (symOkF s = so) := hso
        clear hpt hso
        go_wp2_with fail
        refine HSO.out.mono ?_
        rintro e w7 ⟨rfl, rfl⟩
        cases so with
        | false =>
          go_wp2_with fail
          refine (law2_awake _ K6.out).mono ?_
          rintro e w7 ⟨rfl, b7⟩
          have U7 := hid (up_trans U6.out b7)
          clear b7
          go_wp2_with fail
          go_ret
          exact ⟨rfl, U7.out⟩
        | true =>
          cases pt with
          | true =>
            go_wp2_with fail
            refine (law2_awake _ K6.out).mono ?_
            rintro e w7 ⟨rfl, b7⟩
            have U7 := hid (up_trans U6.out b7)
            clear b7
            go_wp2_with fail
            go_ret
            exact ⟨rfl, U7.out⟩
          | false =>
            go_wp2_with fail
            refine (HT2.out _ K6.out).mono ?_
            rintro e w7 ⟨rfl, b7⟩
            have U7 := hid (up_trans U6.out b7)
            have K7 := hid (K6.out.below b7)
            have X7 := hid (HX5.out.below b7)
            clear b7
            go_wp2_with fail
            refine (HS2.out _ K7.out (by simp) (by simp)).mono ?_
            rintro e w8 ⟨rfl, b8⟩
            have U8 := hid (up_trans U7.out b8)
            have K8 := hid (K7.out.below b8)
            have hx8 := X7.out.below b8
            obtain ⟨c0, c1, c2, f0, f1, f2⟩ := hx8.syms
            have HU9 := hid (((U8.out.setCell (p := ⟨g, 0, none⟩) HGB.out (.string (S s))).setCell (p := ⟨g, 1, none⟩) HGB.out (.int .i64 0)).setCell (p := ⟨g, 2, none⟩) HGB.out (.bool false))
            have hb9 : LibOk (((w8.setCell ⟨g, 0, none⟩ (.string (S s))).setCell ⟨g, 1, none⟩ (.int .i64 0)).setCell ⟨g, 2, none⟩ (.bool false)) := HK.out.below HU9.out
            have K9 := hid hb9
            clear b8 hx8 hb9
            go_wp2_with fail
            refine (law2_awake _ K9.out).mono ?_
            rintro e w10 ⟨rfl, b10⟩
            have U10 := hid (up_trans HU9.out b10)
            clear b10
            go_wp2_with fail
            go_ret
            exact ⟨rfl, U10.out⟩
      · have hjn : ((j : Int) < (s.length : Int)) = True := by simp; omega
        have hlt : j < s.length := by omega
        have hst := contains_step s j hlt
        have hxj : (S s)[j]'(by rw [hsz]; omega) = s[j] := rfl
        cases hb : (s.take j).contains 46 with
        | true =>
          rw [hb, Bool.true_or] at hst
          have HST := hid hst
          clear hst hb
          go_wp2_with fail
          go_roundg k
          case measure => omega
          case rel => exact ⟨j + 1, by go_num, by omega, by rw [HST.out], rfl⟩
        | false =>
          rw [hb, Bool.false_or] at hst
          by_cases h46 : (s[j].toNat : Int) = 46
          · rw [decide_eq_true h46] at hst
            have HST := hid hst
            clear hst hb
            go_wp2_with fail
            go_roundg k
            case measure => omega
            case rel => exact ⟨j + 1, by go_num, by omega, by rw [HST.out], rfl⟩
          · rw [decide_eq_false h46] at hst
            have HST := hid hst
            clear hst hb
            go_wp2_with fail
            go_roundg k
            case measure => omega
            case rel => exact ⟨j + 1, by go_num, by omega, by rw [HST.out]; simp [h46], rfl⟩
end Go.Proofs.YtapllnnconpieaaDoor
