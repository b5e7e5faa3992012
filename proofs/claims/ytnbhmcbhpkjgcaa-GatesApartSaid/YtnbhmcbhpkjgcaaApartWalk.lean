/- GatesApart, walked. -/
import Derived.Test.YtnbhmcbhpkjgcaaApart
namespace Go.Proofs.Ytnbhmcbhpkjgcaa
open Go.RowKit

theorem infoInt : (Try.prog.info? 3).map (fun i => (i.zero, i.size, i.bytes)) = some (some (.int .i64 0), 1, 8) := by kernel_rfl

/-- The numbers behind the first loop: each thread of the row has its own at i. -/
structure SetTo (N : Int → Nat → Int) (all : List Int) (i : Nat) (v : Int) (j : Nat) : Prop where
  at' : ∀ q (h : q < all.length), q < j → N all[q] i = IntKind.u64.wrap (v + (q : Int))
  far : ∀ k x, x ≠ i → N k x = 0

set_option maxRecDepth 100000 in
set_option maxHeartbeats 8000000 in
theorem walk_GatesApart (w : World) (A0 : Option Addr) (c0 : Nat) (l : List Int) (lc : l.length ≤ c0) (lb : l.length * 8 ≤ 140737488351232) (lr : Row w A0 (l.map (Value.int .i64))) (lw : ∀ n ∈ l, (Lit.int .i64 n).wf = true)
    (i0 : Int) (wi : (Lit.int .i64 i0).wf = true) (k0 : Int) (wk : (Lit.int .i64 k0).wf = true) (v : Int) (wv : (Lit.int .u64 v).wf = true) :
    Calls Try.prog 3 #[.slice A0 l.length c0, .int .i64 i0, .int .i64 k0, .int .u64 v] w fun e w' => e = .returned (.bool true) ∧ Below w.heap.size w w' := by
  have ai : 0 ≤ bits .and .i64 i0 31 ∧ bits .and .i64 i0 31 ≤ 31 := and_le_i64 i0 31 (by omega)
  have ak : 0 ≤ bits .and .i64 k0 31 ∧ bits .and .i64 k0 31 ≤ 31 := and_le_i64 k0 31 (by omega)
  obtain ⟨i, hi⟩ := Int.eq_ofNat_of_zero_le ai.1
  obtain ⟨k, hk⟩ := Int.eq_ofNat_of_zero_le ak.1
  have hi32 : i < 32 := by omega
  have hk32 : k < 32 := by omega
  have LR := hid lr
  clear lw wi wk wv ai ak lr
  have hi' : bits .and .i64 i0 31 = (i : Int) := hi
  have hk' : bits .and .i64 k0 31 = (k : Int) := hk
  clear hi hk
  go_enter Try.func3, Try.ntmps3
  go_wp2_with fail
  refine (slots_New w).mono ?_
  rintro e w1 ⟨sp, fs, rfl, h1, hb1, hf1⟩
  have S1 := hid (⟨h1, hb1, fun g hg => (hf1 g hg).1, fun g hg => (hf1 g hg).2⟩ : SlotsIn w w1 fs sp (fun _ _ => 0))
  clear h1 hb1 hf1
  go_wp2_with fail
  obtain ⟨M, hM⟩ : ∃ M, min l.length 10 = M := ⟨_, rfl⟩
  have HM := hid hM
  clear hM
  go_loopg [10, 11] M (fun g a q wr => ∃ (j : Nat) (all : List Int), q = .int .i64 j ∧ j + g = M ∧ wr.ownsRow w1.heap.size 3 1 a all.length (all.map (Value.int .i64)) ∧ all.Nodup ∧ (∀ t ∈ all, 1 ≤ t ∧ t ≤ 65536) ∧ all.length ≤ j ∧ Below w1.heap.size w1 wr)
  case atStart => exact ⟨0, [], rfl, by omega, World.ownsRow_nil _ _ _ _, by simp, by simp, by simp, up_refl _⟩
  case round =>
    obtain ⟨j, all, rfl, hjg, hown, hnod, hbd, hlen, hbel⟩ := hrel
    have HOWN := hid hown
    have HNOD := hid hnod
    have HBD := hid hbd
    have HBEL := hid hbel
    obtain ⟨A, c, rfl, hAc, hall⟩ := own_all hown (fs := fs) (fun g hg => S1.out.hi g hg)
    have HALL := hid hall
    clear hown hnod hbd hbel hall
    rcases gk with _ | m
    · have dq : decide ((j : Int) < (l.length : Int)) = true ∧ decide ((j : Int) < 10) = false ∨ decide ((j : Int) < (l.length : Int)) = false := by
        have := HM.out
        simp only [decide_eq_true_eq, decide_eq_false_iff_not]
        omega
      have dn : decide (j < l.length) = decide ((j : Int) < (l.length : Int)) := by simp
      have S2 := hid (S1.out.below HBEL.out)
      have hal : all.length ≤ 10 := by have := HM.out; omega
      obtain ⟨n, hn⟩ : ∃ n, all.length = n := ⟨_, rfl⟩
      have HN := hid hn
      rw [hn] at hAc hlen hal
      rw [hn]
      clear hn
      rcases dq with ⟨d1, d2⟩ | d1
      all_goals
        rw [d1] at dn
        go_wp2_with fail
        go_loopg [15] n (fun g q wr => ∃ (j : Nat) (fs : Nat → Prop) (N : Int → Nat → Int), q = .int .i64 j ∧ j + g = n ∧ Hid (SlotsIn w wr fs sp N) ∧ Hid (AllAt wr fs A all) ∧ Hid (SetTo N all i v j))
        case atStart => exact ⟨0, fs, _, rfl, by omega, S2, HALL, ⟨fun q h1 h2 => by omega, fun _ _ _ => rfl⟩⟩
        case round =>
          obtain ⟨j3, fs3, N3, rfl, hj3, hS3, hA3, hT3⟩ := hrel
          rcases gk with _ | m
          · have dj : decide (j3 < n) = false := by simp; omega
            have HTE := hid (⟨fun q h1 => hT3.out.at' q h1 (by have := HN.out; omega), hT3.out.far⟩ : (∀ q (h : q < all.length), N3 all[q] i = IntKind.u64.wrap (v + (q : Int))) ∧ ∀ k x, x ≠ i → N3 k x = 0)
            clear hT3
            obtain ⟨w3, hw3⟩ : ∃ w3, w3 = wr := ⟨_, rfl⟩
            rw [← hw3]
            rw [← hw3] at hS3 hA3
            clear hw3
            go_wp2_with fail
            go_loopg [16] n (fun g q wr => ∃ (j : Nat), q = .int .i64 j ∧ j + g = n ∧ w3 = wr)
            case atStart => exact ⟨0, rfl, by omega, rfl⟩
            case round =>
              obtain ⟨j4, rfl, hj4, rfl⟩ := hrel
              rcases gk with _ | m
              · have dj4 : decide (j4 < n) = false := by simp; omega
                by_cases hn0 : n = 0
                · subst hn0
                  go_wp2_with fail
                  refine (gates_awake w3).mono ?_
                  rintro e w' ⟨rfl, hb⟩
                  have HB := hid hb
                  clear hb
                  go_wp2_with fail
                  go_ret
                  exact ⟨rfl, up_trans hS3.out.up HB.out⟩
                · have dn0 : ((n : Int) == 0) = false := by rw [beq_eq_false_iff_ne]; omega
                  have dn1 : decide (0 < n) = true := by simp; omega
                  have h0l : 0 < all.length := by have := HN.out; omega
                  obtain ⟨ad, rfl, hc0⟩ := hA3.out.int h0l
                  obtain ⟨t0, ht0⟩ : ∃ t, all[0] = t := ⟨_, rfl⟩
                  rw [ht0, show ad.add 0 = ad from rfl] at hc0
                  have HT0 := hid ht0
                  have tb := HBD.out t0 (ht0 ▸ List.getElem_mem _)
                  have tb1 := tb.1
                  clear ht0 tb
                  go_wp2_with fail
                  refine (slots_Clear w3 fs3 sp N3 hS3.out.st t0).mono ?_
                  rintro e w4 ⟨rfl, hn4⟩
                  have S4 := hid (hS3.out.next hn4)
                  have A4 := hid (hA3.out.next hn4)
                  clear hn4 hc0
                  go_wp2_with fail
                  go_loopg [17] n (fun g q wr => ∃ (j : Nat), q = .int .i64 j ∧ j + g = n ∧ w4 = wr)
                  case atStart => exact ⟨0, rfl, by omega, rfl⟩
                  case round =>
                    obtain ⟨j5, rfl, hj5, rfl⟩ := hrel
                    rcases gk with _ | m
                    · have dj5 : decide (j5 < n) = false := by simp; omega
                      obtain ⟨ad', e, hc0⟩ := A4.out.int h0l
                      obtain rfl := Option.some.inj e
                      rw [HT0.out, show ad.add 0 = ad from rfl] at hc0
                      go_wp2_with fail
                      refine (slots_SetYes w4 fs3 sp _ S4.out.st t0 k 9 (may_yes t0 k tb1 hk32)).mono ?_
                      rintro e w5 ⟨rfl, fs5, hn5⟩
                      have S5 := hid (S4.out.next hn5)
                      have A5 := hid (A4.out.next hn5)
                      clear hn5 hc0
                      go_wp2_with fail
                      refine (slots_Free w5 fs5 sp _ S5.out.st S5.out.hi i).mono ?_
                      rw [may_yes 1 i (by omega) hi32]
                      rintro e w6 ⟨rfl, hn6⟩
                      obtain ⟨N6, hN6⟩ : ∃ N, N = (if true = true then freeN (updN (clrN N3 t0) t0 (k : Int) 9) (i : Int).toNat else updN (clrN N3 t0) t0 (k : Int) 9) := ⟨_, rfl⟩
                      have hN6' : N6 = freeN (updN (clrN N3 t0) t0 (k : Int) 9) i := hN6
                      rw [← hN6] at hn6
                      have S6 := hid (S5.out.next hn6)
                      have A6 := hid (A5.out.next hn6)
                      have HN6 := hid hN6'
                      clear hn6 hN6 hN6'
                      go_wp2_with fail
                      go_loopg [19] n (fun g q wr => ∃ (j : Nat), q = .int .i64 j ∧ j + g = n ∧ w6 = wr)
                      case atStart => exact ⟨0, rfl, by omega, rfl⟩
                      case round =>
                        obtain ⟨j6, rfl, hj6, rfl⟩ := hrel
                        rcases gk with _ | m
                        · have dj6 : decide (j6 < n) = false := by simp; omega
                          obtain ⟨ad', e, hc0⟩ := A6.out.int h0l
                          obtain rfl := Option.some.inj e
                          rw [HT0.out, show ad.add 0 = ad from rfl] at hc0
                          by_cases hik : i = k
                          · subst hik
                            go_wp2_with fail
                            refine (gates_awake w6).mono ?_
                            rintro e w' ⟨rfl, hb⟩
                            have HB := hid hb
                            clear hb
                            go_wp2_with fail
                            go_ret
                            exact ⟨rfl, up_trans S6.out.up HB.out⟩
                          · have dik : ((i : Int) == (k : Int)) = false := by rw [beq_eq_false_iff_ne]; omega
                            have dik2 : (i == k) = false := by rw [beq_eq_false_iff_ne]; exact hik
                            have hg : getN N6 t0 k = 9 := by
                              rw [getN_yes _ _ _ tb1 hk32, HN6.out, freeN, if_neg (fun e => hik e.symm), upd_same]
                            have HG := hid hg
                            clear hg hik
                            go_wp2_with fail
                            refine (slots_Get w6 _ sp N6 S6.out.st t0 k).mono ?_
                            rintro e w' ⟨rfl, rfl⟩
                            rw [HG.out]
                            go_wp2_with fail
                            refine (gates_awake w6).mono ?_
                            rintro e w' ⟨rfl, hb⟩
                            have HB := hid hb
                            clear hb
                            go_wp2_with fail
                            go_ret
                            exact ⟨rfl, up_trans S6.out.up HB.out⟩
                        · have hjl : j6 < all.length := by have := HN.out; omega
                          have dj6 : decide (j6 < n) = true := by simp; omega
                          obtain ⟨ad', e, hc3⟩ := A6.out.int hjl
                          obtain rfl := Option.some.inj e
                          obtain ⟨t, ht⟩ : ∃ t, all[j6] = t := ⟨_, rfl⟩
                          rw [ht] at hc3
                          have tb := HBD.out t (ht ▸ List.getElem_mem _)
                          have tb2 := tb.1
                          have hg : getN N6 t i = 0 := by rw [getN_yes _ _ _ tb2 hi32, HN6.out, freeN, if_pos rfl]
                          have HG := hid hg
                          clear ht tb hg
                          go_wp2_with fail
                          refine (slots_Get w6 _ sp N6 S6.out.st t i).mono ?_
                          rintro e w' ⟨rfl, rfl⟩
                          rw [HG.out]
                          go_wp2_with fail
                          go_roundg m
                          case measure => omega
                          case rel => exact ⟨j6 + 1, by go_num, by omega, rfl⟩
                    · have hjl : j5 < all.length := by have := HN.out; omega
                      have dj5 : decide (j5 < n) = true := by simp; omega
                      obtain ⟨ad', e, hc3⟩ := A4.out.int hjl
                      obtain rfl := Option.some.inj e
                      obtain ⟨t, ht⟩ : ∃ t, all[j5] = t := ⟨_, rfl⟩
                      rw [ht] at hc3
                      have tb := HBD.out t (ht ▸ List.getElem_mem _)
                      have tb2 := tb.1
                      by_cases h50 : j5 = 0
                      · subst h50
                        rw [show ad.add 0 = ad from rfl] at hc3
                        have hg : getN (clrN N3 t0) t i = 0 := by rw [getN_yes _ _ _ tb2 hi32, clrN, if_pos (by rw [← ht, ← HT0.out])]
                        have HG := hid hg
                        clear ht tb hg
                        go_wp2_with fail
                        refine (slots_Get w4 _ sp _ S4.out.st t i).mono ?_
                        rintro e w' ⟨rfl, rfl⟩
                        rw [HG.out]
                        go_wp2_with fail
                        go_roundg m
                        case measure => omega
                        case rel => exact ⟨1, by go_num, by omega, rfl⟩
                      · have d50 : ((j5 : Int) == 0) = false := by rw [beq_eq_false_iff_ne]; omega
                        have hne : t ≠ t0 := fun e => by
                          have h3 := List.nodup_iff_pairwise_ne.1 HNOD.out
                          exact (List.pairwise_iff_getElem.1 h3) 0 j5 h0l hjl (by omega) (by rw [HT0.out, ht, e])
                        have hg : getN (clrN N3 t0) t i = IntKind.u64.wrap (v + (j5 : Int)) := by
                          rw [getN_yes _ _ _ tb2 hi32, clrN, if_neg hne, ← ht]
                          exact HTE.out.1 j5 hjl
                        have HG := hid hg
                        clear ht tb hg hne h50
                        go_wp2_with fail
                        refine (slots_Get w4 _ sp _ S4.out.st t i).mono ?_
                        rintro e w' ⟨rfl, rfl⟩
                        rw [HG.out]
                        go_wp2_with fail
                        go_roundg m
                        case measure => omega
                        case rel => exact ⟨j5 + 1, by go_num, by omega, rfl⟩
              · have hjl : j4 < all.length := by have := HN.out; omega
                have dj4 : decide (j4 < n) = true := by simp; omega
                obtain ⟨ad, rfl, hc3⟩ := hA3.out.int hjl
                obtain ⟨t, ht⟩ : ∃ t, all[j4] = t := ⟨_, rfl⟩
                rw [ht] at hc3
                have tb := HBD.out t (ht ▸ List.getElem_mem _)
                have tb1 := tb.1
                have hg : getN N3 t i = IntKind.u64.wrap (v + (j4 : Int)) := by
                  rw [getN_yes _ _ _ tb1 hi32, ← ht]
                  exact HTE.out.1 j4 hjl
                have HG := hid hg
                clear ht tb hg
                by_cases hik : i = k
                · subst hik
                  go_wp2_with fail
                  refine (slots_Get w3 fs3 sp N3 hS3.out.st t i).mono ?_
                  rintro e w' ⟨rfl, rfl⟩
                  rw [HG.out]
                  go_wp2_with fail
                  go_roundg m
                  case measure => omega
                  case rel => exact ⟨j4 + 1, by go_num, by omega, rfl⟩
                · have dik : ((i : Int) != (k : Int)) = true := by rw [bne_iff_ne]; omega
                  have dik2 : (i != k) = true := by rw [bne_iff_ne]; exact hik
                  have hg2 : getN N3 t k = 0 := by
                    rw [getN_yes _ _ _ tb1 hk32]
                    exact HTE.out.2 t k (fun e => hik e.symm)
                  have HG2 := hid hg2
                  clear hg2 hik
                  go_wp2_with fail
                  refine (slots_Get w3 fs3 sp N3 hS3.out.st t i).mono ?_
                  rintro e w' ⟨rfl, rfl⟩
                  rw [HG.out]
                  go_wp2_with fail
                  refine (slots_Get w3 fs3 sp N3 hS3.out.st t k).mono ?_
                  rintro e w' ⟨rfl, rfl⟩
                  rw [HG2.out]
                  go_wp2_with fail
                  go_roundg m
                  case measure => omega
                  case rel => exact ⟨j4 + 1, by go_num, by omega, rfl⟩
          · have hjl : j3 < all.length := by have := HN.out; omega
            have dj : decide (j3 < n) = true := by simp; omega
            obtain ⟨ad, rfl, hc3⟩ := hA3.out.int hjl
            obtain ⟨t, ht⟩ : ∃ t, all[j3] = t := ⟨_, rfl⟩
            rw [ht] at hc3
            have HT := hid ht
            have tb := HBD.out t (ht ▸ List.getElem_mem _)
            have tb1 := tb.1
            clear ht tb
            go_wp2_with fail
            refine (slots_SetYes wr fs3 sp N3 hS3.out.st t i (IntKind.u64.wrap (v + (j3 : Int))) (may_yes t i tb1 hi32)).mono ?_
            rintro e w4 ⟨rfl, fs4, hn4⟩
            have S4 := hid (hS3.out.next hn4)
            have A4 := hid (hA3.out.next hn4)
            clear hn4 hc3
            go_wp2_with fail
            go_roundg m
            case measure => omega
            case rel =>
              refine ⟨j3 + 1, fs4, _, by go_num, by omega, S4, A4, ⟨fun q h1 h2 => ?_, fun k x hx => ?_⟩⟩
              · by_cases hq : q = j3
                · subst hq
                  rw [HT.out]
                  exact upd_same _ _ _ _
                · rw [upd_other _ _ _ _ _ _ (.inl (fun e => by
                    have h3 := List.nodup_iff_pairwise_ne.1 HNOD.out
                    exact (List.pairwise_iff_getElem.1 h3) q j3 h1 hjl (by omega) (by rw [e, HT.out])))]
                  exact hT3.out.at' q h1 (by omega)
              · rw [upd_other _ _ _ _ _ _ (.inr hx)]
                exact hT3.out.far k x hx
    · have d1 : decide (j < l.length) = true := by have := HM.out; simp; omega
      have d2 : decide ((j : Int) < 10) = true := by have := HM.out; simp; omega
      have hjl : j < l.length := by have := HM.out; omega
      have d3 : decide ((j : Int) < (l.length : Int)) = true := by simp; omega
      obtain ⟨ad, rfl⟩ : ∃ ad, A0 = some ad := by
        obtain ⟨ad, e, _⟩ := LR.out.cell (j := j) (by simpa using hjl)
        exact ⟨ad, e⟩
      obtain ⟨ad', e, hc0⟩ := LR.out.cell (j := j) (by simpa using hjl)
      obtain rfl := Option.some.inj e
      have s0 : wr.cell? (ad.add j) = some (.int .i64 l[j]) := by
        have h2 := (LR.out.below (up_trans S1.out.up HBEL.out)).cell (j := j) (by simpa using hjl)
        obtain ⟨ad2, e2, h3⟩ := h2
        obtain rfl := Option.some.inj e2
        rw [h3]; simp
      obtain ⟨x, hx⟩ : ∃ x, l[j] = x := ⟨_, rfl⟩
      rw [hx] at s0
      have ax : 0 ≤ bits .and .i64 x 65535 ∧ bits .and .i64 x 65535 ≤ 65535 := and_le_i64 x 65535 (by omega)
      obtain ⟨y, hy⟩ := Int.eq_ofNat_of_zero_le ax.1
      have hy' : bits .and .i64 x 65535 = (y : Int) := hy
      have yb : y ≤ 65535 := by omega
      clear hc0 ax hy
      go_wp2_with fail
      go_loopg [13, 14] all.length (fun g b o wq => ∃ (p : Nat) (bb : Bool), o = .int .i64 p ∧ b = .bool bb ∧ p + g = all.length ∧ Hid (bb = true ↔ ((y : Int) + 1) ∈ all.take p) ∧ wr = wq)
      case atStart => exact ⟨0, false, rfl, rfl, by omega, by simp [Hid], rfl⟩
      case round =>
        obtain ⟨p, bb, rfl, rfl, hpg, hbb, rfl⟩ := hrel
        rcases gk with _ | m2
        · have dp : decide (p < all.length) = false := by simp; omega
          have hbb2 : bb = true ↔ ((y : Int) + 1) ∈ all := by
            have h := hbb
            rw [List.take_of_length_le (by omega)] at h
            exact h
          have HBB := hid hbb2
          clear hbb hbb2
          cases bb with
          | true =>
            go_wp2_with fail
            go_roundg m
            case measure => omega
            case rel => exact ⟨j + 1, all, by go_num, by omega, HOWN.out, HNOD.out, HBD.out, by omega, HBEL.out⟩
          | false =>
            go_wp2_with (at_builtin; go_loud (refine wp_app wr rfl _ _ 22 rfl w1.heap.size 3 (.int .i64 0) 1 8 Try.underlying22 infoInt rfl (by decide) (.slice A all.length c) all.length (all.map (Value.int .i64)) (by rfl) HOWN.out [.int .i64 ((y : Int) + 1)] rfl (by simp [Value.oneCell']) (by rfl) (by omega) (by omega) HBEL.out.size ?_); intro v' w2 hown' hbel' hgr; clear hgr)
            go_roundg m
            case measure => omega
            case rel =>
              refine ⟨j + 1, all ++ [(y : Int) + 1], by go_num, by omega, ?_, ?_, ?_, by simp; omega, hbel' _ HBEL.out⟩
              · simpa using hown'
              · rw [List.nodup_append]
                refine ⟨HNOD.out, by simp, fun a ha b hb e => ?_⟩
                simp at hb
                rw [e, hb] at ha
                have := HBB.out.2 ha
                cases this
              · intro t ht
                rcases List.mem_append.1 ht with h | h
                · exact HBD.out t h
                · simp at h
                  omega
        · have dp : decide (p < all.length) = true := by simp; omega
          have hpl : p < all.length := by omega
          obtain ⟨ad2, rfl, hc2⟩ := HALL.out.int hpl
          obtain ⟨z, hz⟩ : ∃ z, all[p] = z := ⟨_, rfl⟩
          rw [hz] at hc2
          have htk : all.take (p + 1) = all.take p ++ [z] := by rw [List.take_succ_eq_append_getElem hpl, hz]
          have HTK := hid htk
          have HBB := hid hbb
          clear hbb hz htk
          cases bb with
          | true =>
            have HIN := hid (HBB.out.1 rfl)
            go_wp2_with fail
            go_roundg m2
            case measure => omega
            case rel => exact ⟨p + 1, true, by go_num, rfl, by omega, by rw [HTK.out]; simp [Hid, HIN.out], rfl⟩
          | false =>
            go_wp2_with fail
            go_roundg m2
            case measure => omega
            case rel =>
              refine ⟨p + 1, (z == (y : Int) + 1), by go_num, rfl, by omega, ?_, rfl⟩
              rw [HTK.out]
              have hno : ¬ ((y : Int) + 1 ∈ all.take p) := fun h => by have := HBB.out.2 h; cases this
              simp only [Hid, beq_iff_eq, List.mem_append, List.mem_singleton, hno, false_or]
              exact ⟨fun h => h.symm, fun h => h.symm⟩
end Go.Proofs.Ytnbhmcbhpkjgcaa
