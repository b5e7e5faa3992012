/- GatesPlay, walked. -/
import Derived.Test.YtnbhmcbhpkjgcaaPlayK
import Derived.Outline
import Derived.Great.Walk
import Derived.Deep.QuietTactic
import Derived.BigQuiet
import Derived.RegionTactic
import Derived.ChangeAlike
import Derived.BigRegion
import Derived.Deep.MidRow
set_option linter.unusedSimpArgs false
set_option linter.unusedVariables false
namespace Go.Proofs.Ytnbhmcbhpkjgcaa
open Go.RowKit

set_option maxRecDepth 100000 in
set_option maxHeartbeats 8000000 in
theorem walk_GatesPlay (w : World) (A0 : Option Addr) (c0 : Nat) (l : List OpD) (lr : Ops w A0 l c0) :
    Calls Try.prog 5 #[.slice A0 l.length c0] w fun e w' => e = .returned (.bool true) ∧ Below w.heap.size w w' := by
  have LR := hid lr
  clear lr
  go_enter Try.func5, Try.ntmps5
  go_wp2_with fail
  refine (slots_New w).mono ?_
  rintro e w1 ⟨sp, fs, rfl, h1, hb1, hf1⟩
  have S1 := hid (⟨h1, hb1, fun g hg => (hf1 g hg).1, fun g hg => (hf1 g hg).2⟩ : SlotsIn w w1 fs sp (fun _ _ => 0))
  clear h1 hb1 hf1
  go_wp2_with fail
  refine (vmem_New w1).mono ?_
  rintro e w2 ⟨gm, rfl, hb2⟩
  have S2 := hid (S1.out.below hb2)
  clear hb2 S1
  go_wp2_with fail
  refine (gates_awake w2).mono ?_
  rintro e w3 ⟨rfl, hb3⟩
  have S3 := hid (S2.out.below hb3)
  clear hb3 S2
  go_wp2_with fail
  refine (cpu_New w3 _).mono ?_
  rintro e w4 ⟨gc, cb, rfl, hc4, hg4, hb4⟩
  have S4 := hid (S3.out.below hb4)
  have NC : Hid (¬ fs gc) := hid (fun hf => by have := S3.out.hi gc hf; omega)
  have C4 := hid hc4
  have GC : Hid (w.heap.size ≤ gc) := hid (Nat.le_trans S3.out.up.size hg4)
  clear hb4 S3 hc4 hg4
  obtain ⟨w5, hw5⟩ : ∃ z, w4.alloc (.cells (cells128 fun _ _ => 0) 48) = z := ⟨_, rfl⟩
  obtain ⟨gw, hgw⟩ : ∃ z, w4.heap.size = z := ⟨_, rfl⟩
  have P5 : Hid (Play w w5 fs sp gc gw (fun _ _ => 0) (fun _ _ => 0) (.pointer (some ⟨gm, 0, none⟩)) cb 0 0 0) := hid (by
    have hb : Below w4.heap.size w4 w5 := hw5 ▸ up_alloc (up_refl _) _
    refine ⟨S4.out.below hb, C4.out.below hb, ?_, NC.out, fun hf => by have := S4.out.hi gw hf; omega, ?_, GC.out, ?_, fun _ _ _ _ _ => rfl⟩
    · rw [← hw5, ← hgw]; exact Blk.new _ _ _
    · have := C4.out.lt; omega
    · rw [← hgw]; exact S4.out.up.size)
  have hz := zero_want
  go_upto_region 8 with fail
  clear hz hw5 hgw S4 NC C4 GC
  obtain ⟨M, hM⟩ : ∃ M, min l.length 80 = M := ⟨_, rfl⟩
  have HM := hid hM
  clear hM
  go_wp2_with fail
  go_loopg [7] M (fun k q wr => ∃ (j : Nat) (fs : Nat → Prop) (N : Int → Nat → Int) (W : Nat → Nat → Int) (r0 r1 r2 : Int), q = .int .i64 j ∧ j + k = M ∧ Hid (Play w wr fs sp gc gw N W (.pointer (some ⟨gm, 0, none⟩)) cb r0 r1 r2))
  case atStart => exact ⟨0, fs, _, _, 0, 0, 0, rfl, by omega, P5⟩
  case round =>
    obtain ⟨j, fs, N, W, r0, r1, r2, rfl, hj, HP⟩ := hrel
    rcases gk with _ | k
    · as_aux_lemma =>
      have dq : decide ((j : Int) < (l.length : Int)) = true ∧ decide ((j : Int) < 80) = false ∨ decide ((j : Int) < (l.length : Int)) = false := by
        have := HM.out
        simp only [decide_eq_true_eq, decide_eq_false_iff_not]
        omega
      have dn : decide (j < l.length) = decide ((j : Int) < (l.length : Int)) := by simp
      rcases dq with ⟨d1, d2⟩ | d1
      all_goals
        rw [d1] at dn
        go_wp2_with fail
        refine (do_nil wr _ _ 1).mono ?_
        rintro e w' ⟨rfl, rfl⟩
        go_wp2_with fail
        go_ret
        exact ⟨rfl, HP.out.st.up⟩
    · have hjl : j < l.length := by have := HM.out; omega
      have d1 : decide (j < l.length) = true := by simp; omega
      have d2 : decide ((j : Int) < 80) = true := by have := HM.out; simp; omega
      have d3 : decide ((j : Int) < (l.length : Int)) = true := by simp; omega
      have OR := hid (LR.out.below HP.out.st.up)
      obtain ⟨ad, rfl⟩ := OR.out.some hjl
      obtain ⟨x, hx⟩ : ∃ x, l[j] = x := ⟨_, rfl⟩
      have hjx : l[j]? = some x := by rw [List.getElem?_eq_getElem hjl, hx]
      have xv := OR.out.v x (hx ▸ List.getElem_mem hjl)
      obtain ⟨s0, s1, s2, s3, s4⟩ := OR.out.at' hjx
      obtain ⟨kd, th, ix, gt, v⟩ := x
      simp only at s0 s1 s2 s3 s4 xv
      obtain ⟨xv, xl, xh⟩ := xv
      have XB0 := hid (xF_bounds ix xl xh)
      clear hx hjx xv xl xh
      obtain ⟨wo, hwo⟩ : ∃ z, wr.alloc (.cells #[.int .i64 kd, .int .i64 th, .int .i64 ix, .int .i64 gt, .int .u64 v] 50) = z := ⟨_, rfl⟩
      obtain ⟨g8, hg8⟩ : ∃ z, wr.heap.size = z := ⟨_, rfl⟩
      have BO : Hid (Blk wo g8 #[.int .i64 kd, .int .i64 th, .int .i64 ix, .int .i64 gt, .int .u64 v] 50) := hid (by rw [← hwo, ← hg8]; exact Blk.new _ _ _)
      have PO := hid (HP.out.below (hwo ▸ up_alloc (up_refl _) _))
      have nf8 : Hid (¬ fs g8) := hid (fun hf => by have := HP.out.st.hi g8 hf; omega)
      have n8c : g8 ≠ gc := by have := HP.out.cpu.lt; omega
      have n8w : g8 ≠ gw := by have := HP.out.want.lt; omega
      have l80 : Hid (w.heap.size ≤ g8) := hid (hg8 ▸ HP.out.st.up.size)
      go_upto_region 12 with fail
      clear hwo hg8 s0 s1 s2 s3 s4 d1 d2 d3 hjl OR
      have c0 : wo.cell? ⟨g8, 0, none⟩ = some (.int .i64 kd) := BO.out.cell 0
      have c1 : wo.cell? ⟨g8, 1, none⟩ = some (.int .i64 th) := BO.out.cell 1
      have c2 : wo.cell? ⟨g8, 2, none⟩ = some (.int .i64 ix) := BO.out.cell 2
      go_wp2_with fail
      refine (law_thread th wo).mono ?_
      rintro e w' ⟨rfl, rfl⟩
      obtain ⟨t, ht⟩ : ∃ t, threadF th = t := ⟨_, rfl⟩
      rw [ht]
      clear ht
      go_upto_if 57 with fail
      go_cut [10] (fun u wb => u = .int .i64 (xF ix) ∧ wo = wb)
      case first => as_aux_lemma =>
        obtain ⟨y, hy⟩ : ∃ y, bits .and .i64 ix 7 = y := ⟨_, rfl⟩
        by_cases h7 : y = 7
        · have e : xF ix = ix := by rw [xF, hy, if_pos h7]
          have E7 := hid e
          have hb : (y != 7) = false := by rw [bne_eq_false_iff_eq]; exact h7
          clear h7 e
          go_wp2_with fail
          go_meet
          exact ⟨by rw [E7.out], rfl⟩
        · have e : xF ix = bits .and .i64 ix 31 := by rw [xF, hy, if_neg h7]
          have E7 := hid e
          have hb : (y != 7) = true := by rw [bne_iff_ne]; exact h7
          clear h7 e
          go_wp2_with fail
          go_meet
          exact ⟨by rw [E7.out], rfl⟩
      case rest =>
        obtain ⟨rfl, rfl⟩ := hcut
        obtain ⟨x, hx⟩ : ∃ x, xF ix = x := ⟨_, rfl⟩
        rw [hx]
        have XB : Hid (-9223372036854775808 ≤ x ∧ x < 9223372036854775808) := hid (hx ▸ XB0.out)
        clear hx c2 c1 XB0
        go_upto_region 16 with fail
        go_cut [11] (fun u wb => u = .bool (mayB t x) ∧ wo = wb)
        case first => as_aux_lemma =>
          by_cases a1 : 0 < t
          · have d1 : decide (0 < t) = true := decide_eq_true a1
            by_cases a2 : 0 ≤ x
            · have d2 : decide (0 ≤ x) = true := decide_eq_true a2
              by_cases a3 : x < 32
              · have d3 : decide (x < 32) = true := decide_eq_true a3
                have E := hid (show mayB t x = true by simp [mayB, a1, a2, a3])
                clear a1 a2 a3
                go_wp2_with fail
                go_meet
                exact ⟨by rw [E.out], rfl⟩
              · have d3 : decide (x < 32) = false := decide_eq_false a3
                have E := hid (show mayB t x = false by simp [mayB, a3])
                clear a1 a2 a3
                go_wp2_with fail
                go_meet
                exact ⟨by rw [E.out], rfl⟩
            · have d2 : decide (0 ≤ x) = false := decide_eq_false a2
              have E := hid (show mayB t x = false by simp [mayB, a2])
              clear a1 a2
              go_wp2_with fail
              go_meet
              exact ⟨by rw [E.out], rfl⟩
          · have d1 : decide (0 < t) = false := decide_eq_false a1
            have E := hid (show mayB t x = false by simp [mayB, a1])
            clear a1
            go_wp2_with fail
            go_meet
            exact ⟨by rw [E.out], rfl⟩
        case rest =>
          obtain ⟨rfl, rfl⟩ := hcut
          go_upto_region 17 with fail
          go_cut [12] (fun u wb => u = .bool (ownB t) ∧ wo = wb)
          case first => as_aux_lemma =>
            by_cases a1 : 0 < t
            · have d1 : decide (0 < t) = true := decide_eq_true a1
              by_cases a2 : t < 4
              · have d2 : decide (t < 4) = true := decide_eq_true a2
                have E := hid (show ownB t = true by simp [ownB, a1, a2])
                clear a1 a2
                go_wp2_with fail
                go_meet
                exact ⟨by rw [E.out], rfl⟩
              · have d2 : decide (t < 4) = false := decide_eq_false a2
                have E := hid (show ownB t = false by simp [ownB, a2])
                clear a1 a2
                go_wp2_with fail
                go_meet
                exact ⟨by rw [E.out], rfl⟩
            · have d1 : decide (0 < t) = false := decide_eq_false a1
              have E := hid (show ownB t = false by simp [ownB, a1])
              clear a1
              go_wp2_with fail
              go_meet
              exact ⟨by rw [E.out], rfl⟩
          case rest =>
            obtain ⟨rfl, rfl⟩ := hcut
            by_cases t3 : 3 < t
            · as_aux_lemma =>
              have d1 : decide (3 < t) = true := decide_eq_true t3
              have j80 : (j : Int) < 80 := by have := HM.out; omega
              clear t3
              go_wp2_with fail
              go_roundg k
              case measure => omega
              case rel => exact ⟨j + 1, fs, N, W, r0, r1, r2, by go_num, by omega, PO⟩
            · have d1 : decide (3 < t) = false := decide_eq_false t3
              obtain ⟨m, hm⟩ : ∃ m, mayB t x = m := ⟨_, rfl⟩
              obtain ⟨o, ho⟩ : ∃ o, ownB t = o := ⟨_, rfl⟩
              have HM1 : Hid (m = true → ∃ p q : Nat, t = p ∧ x = q ∧ 1 ≤ p ∧ p < 4 ∧ q < 32 ∧ o = true) := hid (fun e => by
                rw [← hm] at e
                simp only [mayB, decide_eq_true_eq] at e
                refine ⟨t.toNat, x.toNat, by omega, by omega, by omega, by omega, by omega, ?_⟩
                rw [← ho]
                simp only [ownB, decide_eq_true_eq]
                omega)
              have HO1 : Hid (o = true → ∃ p : Nat, t = p ∧ 1 ≤ p ∧ p < 4) := hid (fun e => by
                rw [← ho] at e
                simp only [ownB, decide_eq_true_eq] at e
                exact ⟨t.toNat, by omega, by omega, by omega⟩)
              have HO2 : Hid (o = false → t ≤ 0) := hid (fun e => by
                rw [← ho] at e
                simp only [ownB, decide_eq_false_iff_not] at e
                omega)
              rw [hm, ho]
              have HM2 := hid hm
              clear hm ho t3
              go_upto_region 20 with fail
              go_cut [81] (fun u wb => u = .bool m ∧ wo = wb)
              case first => as_aux_lemma =>
                cases m with
                | false =>
                  go_wp2_with fail
                  go_meet
                  exact ⟨rfl, rfl⟩
                | true =>
                  obtain ⟨-, -, -, -, -, -, -, rfl⟩ := HM1.out rfl
                  go_wp2_with fail
                  go_meet
                  exact ⟨rfl, rfl⟩
              case rest =>
                obtain ⟨rfl, rfl⟩ := hcut
                obtain ⟨v0, hv0⟩ : ∃ z, getN N t x = z := ⟨_, rfl⟩
                have HV0 := hid hv0
                clear hv0
                go_upto_if 81 with fail
                go_cut [13] (fun u wb => u = .int .u64 v0 ∧ wo = wb)
                case first => as_aux_lemma =>
                  cases m with
                  | false =>
                    have E := hid (show (0 : Int) = v0 by rw [← HV0.out, getN_no _ _ _ HM2.out])
                    go_wp2_with fail
                    go_meet
                    exact ⟨by rw [E.out], rfl⟩
                  | true =>
                    obtain ⟨p, q, rfl, rfl, p1, p4, q32, rfl⟩ := HM1.out rfl
                    have E := hid (show W p q = v0 by rw [← HV0.out, PO.out.told p1 p4 q32])
                    have s0 : wo.cell? ⟨gw, p * 32 + q, none⟩ = some (.int .u64 (W p q)) := (PO.out.want.cell _).trans (cells128_get W p q p4 q32)
                    go_wp2_with fail
                    go_meet
                    exact ⟨by rw [E.out], rfl⟩
                case rest =>
                  obtain ⟨rfl, rfl⟩ := hcut
                  have c0 : wo.cell? ⟨g8, 0, none⟩ = some (.int .i64 kd) := BO.out.cell 0
                  clear d1
                  go_upto_block 2 with fail
                  clear c0
                  have c0 : wo.cell? ⟨g8, 0, none⟩ = some (.int .i64 kd) := BO.out.cell 0
                  have c4 : wo.cell? ⟨g8, 4, none⟩ = some (.int .u64 v) := BO.out.cell 4
                  go_cut [] (fun wb => ∃ (fs : Nat → Prop) (N : Int → Nat → Int) (W : Nat → Nat → Int) (r0 r1 r2 : Int), Hid (Play w wb fs sp gc gw N W (.pointer (some ⟨gm, 0, none⟩)) cb r0 r1 r2))
                  case first =>
                    by_cases k0 : kd = 0
                    · as_aux_lemma =>
                      subst k0
                      go_wp2_with fail
                      refine (slots_Set wo fs sp N PO.out.st.st t x v).mono ?_
                      rintro e w6 ⟨rfl, fs6, hn⟩
                      rw [HM2.out]
                      rw [HM2.out] at hn
                      have HN := hid hn
                      have B6 := hid (BO.out.only hn.only nf8.out)
                      clear hn c0 c4
                      cases m with
                      | false =>
                        go_wp2_with fail
                        go_meet
                        exact ⟨fs6, _, W, r0, r1, r2, PO.out.next HN.out (fun t x h1 h2 h3 => PO.out.eq t x h1 h2 h3) (fun h => h)⟩
                      | true =>
                        obtain ⟨p, q, rfl, rfl, p1, p4, q32, rfl⟩ := HM1.out rfl
                        have hn2 : SlotsNext wo w6 fs sp (updN N p q v) fs6 := HN.out
                        have hwt := PO.out.want.only hn2.only PO.out.nw
                        have s0 : w6.cell? ⟨gw, p * 32 + q, none⟩ = some (.int .u64 (W p q)) := (hwt.cell _).trans (cells128_get W p q p4 q32)
                        have f0 := hwt.free (p * 32 + q)
                        have c4 : w6.cell? ⟨g8, 4, none⟩ = some (.int .u64 v) := B6.out.cell 4
                        have P7 : Hid (Play w (w6.setCell ⟨gw, p * 32 + q, none⟩ (.int .u64 v)) fs6 sp gc gw (updN N p q v) (setW W p q v) (.pointer (some ⟨gm, 0, none⟩)) cb r0 r1 r2) := hid (PO.out.stepSet p4 q32 hn2)
                        have P8 := hid (P7.out.below (up_drew (up_refl _)))
                        clear hn2 hwt
                        go_wp2_with fail
                        go_region
                        all_goals
                          go_wp2_with fail
                          go_meet
                          exact ⟨fs6, _, setW W p q v, r0, r1, r2, by first | exact P7 | exact P8⟩
                    · by_cases k1 : kd = 1
                      · as_aux_lemma =>
                        subst k1
                        go_wp2_with fail
                        refine (slots_Get wo fs sp N PO.out.st.st t x).mono ?_
                        rintro e w' ⟨rfl, rfl⟩
                        rw [HV0.out]
                        go_wp2_with fail
                        go_meet
                        exact ⟨fs, N, W, r0, r1, r2, PO⟩
                      · by_cases k2 : kd = 2
                        · as_aux_lemma =>
                          subst k2
                          go_wp2_with fail
                          refine (slots_Clear wo fs sp N PO.out.st.st t).mono ?_
                          rintro e w6 ⟨rfl, hn⟩
                          have HN := hid hn
                          clear hn c0 c4
                          cases o with
                          | false =>
                            have t0 := HO2.out rfl
                            go_wp2_with fail
                            go_meet
                            exact ⟨fs, _, W, r0, r1, r2, hid (PO.out.next HN.out (PO.out.clrNo t t0) (fun h => h))⟩
                          | true =>
                            obtain ⟨p, rfl, p1, p4⟩ := HO1.out rfl
                            have P6 : Hid (Play w (w6.setCells gw (p * 32) (Array.replicate 32 (Value.int .u64 0)).toList) fs sp gc gw (clrN N p) (clrTo W p 32) (.pointer (some ⟨gm, 0, none⟩)) cb r0 r1 r2) := hid (by rw [Array.toList_replicate]; exact PO.out.stepClr p4 HN.out)
                            obtain ⟨w7, hw7⟩ : ∃ z, w6.setCells gw (p * 32) (Array.replicate 32 (Value.int .u64 0)).toList = z := ⟨_, rfl⟩
                            rw [hw7] at P6
                            have hth := blk_there (PO.out.want.only HN.out.only PO.out.nw) p4
                            have HTH : Hid (w6.there gw (p * 32) (Array.replicate 32 (Value.int .u64 0)).size) := hid (by simpa using hth)
                            clear hth
                            go_wp2_with (refine wpList_store_mid (by rfl) 47 (.tmp 203) (.tmp 202) (by rfl) gw (p * 32) (Array.replicate 32 (.int .u64 0)) (by rfl) (by rfl) HTH.out (by rw [infoRow32]; simp) zeros_one ?_; rw [hw7])
                            go_meet
                            exact ⟨fs, _, clrTo W p 32, r0, r1, r2, P6⟩
                        · by_cases k3 : kd = 3
                          · as_aux_lemma =>
                            subst k3
                            go_wp2_with fail
                            refine (slots_Free wo fs sp N PO.out.st.st PO.out.st.hi x).mono ?_
                            obtain ⟨m1, hm1⟩ : ∃ z, mayB 1 x = z := ⟨_, rfl⟩
                            rw [hm1]
                            rintro e w6 ⟨rfl, hn⟩
                            have HN := hid hn
                            have HM3 := hid hm1
                            clear hn c0 c4 hm1
                            cases m1 with
                            | false =>
                              have hx : decide (0 ≤ x) = true ∧ decide (x < 32) = false ∨ decide (0 ≤ x) = false := by
                                have h := HM3.out
                                simp only [mayB, decide_eq_false_iff_not] at h
                                simp only [decide_eq_true_eq, decide_eq_false_iff_not]
                                omega
                              have P6 := hid (PO.out.next HN.out (fun t x h1 h2 h3 => PO.out.eq t x h1 h2 h3) (fun h => h))
                              rcases hx with ⟨x1, x2⟩ | x1
                              all_goals
                                go_wp2_with fail
                                go_loopg [14] 0 (fun g y wr => y = .int .i64 0 ∧ w6 = wr)
                                case atStart => exact ⟨rfl, rfl⟩
                                case round =>
                                  obtain ⟨rfl, rfl⟩ := hrel
                                  rcases gk with _ | g
                                  · go_wp2_with fail
                                    go_meet
                                    exact ⟨fs, _, W, r0, r1, r2, P6⟩
                                  · go_wp2_with fail
                                    go_meet
                                    exact ⟨fs, _, W, r0, r1, r2, P6⟩
                            | true =>
                              obtain ⟨q, rfl, q32⟩ : ∃ q : Nat, x = q ∧ q < 32 := by
                                have h := HM3.out
                                simp only [mayB, decide_eq_true_eq] at h
                                exact ⟨x.toNat, by omega, by omega⟩
                              have hn2 : SlotsNext wo w6 fs sp (freeN N q) fs := HN.out
                              have HN2 := hid hn2
                              have q32' : (q : Int) < 32 := by omega
                              clear hn2
                              go_wp2_with fail
                              go_loopg [14] 4 (fun g y wr => ∃ p : Nat, y = .int .i64 p ∧ p + g = 4 ∧ Hid (Blk wr gw (cells128 (colW W p q)) 48) ∧ Hid (Only w6 wr (· = gw)))
                              case atStart => exact ⟨0, rfl, by omega, hid (by rw [colW_zero]; exact PO.out.want.only HN2.out.only PO.out.nw), hid (Only.refl _ _)⟩
                              case round =>
                                obtain ⟨p, rfl, hp, hB, hO⟩ := hrel
                                rcases gk with _ | g
                                · obtain rfl : p = 4 := by omega
                                  have P6 := hid (PO.out.step HN2.out hO.out (fun _ => hB.out) (PO.out.freeEq q))
                                  go_wp2_with fail
                                  go_meet
                                  exact ⟨fs, _, _, r0, r1, r2, P6⟩
                                · have p4 : p < 4 := by omega
                                  have dp : decide (p < 4) = true := decide_eq_true p4
                                  have dp2 : decide ((p : Int) < 4) = true := decide_eq_true (by omega)
                                  have s0 : wr.cell? ⟨gw, p * 32 + q, none⟩ = some (.int .u64 (colW W p q p q)) := (hB.out.cell _).trans (cells128_get _ p q p4 q32)
                                  have f0 := hB.out.free (p * 32 + q)
                                  have hB2 : Hid (Blk (wr.setCell ⟨gw, p * 32 + q, none⟩ (.int .u64 0)) gw (cells128 (colW W (p + 1) q)) 48) := hid (by
                                    have := hB.out.set' (p * 32 + q) (.int .u64 0)
                                    rwa [cells128_set _ p q 0 p4 q32, colW_step] at this)
                                  have hO2 : Hid (Only w6 (wr.setCell ⟨gw, p * 32 + q, none⟩ (.int .u64 0)) (· = gw)) := hid (hO.out.trans (Only.setCell wr ⟨gw, p * 32 + q, none⟩ _ (· = gw) rfl))
                                  go_wp2_with fail
                                  go_roundg g
                                  case measure => omega
                                  case rel => exact ⟨p + 1, by go_num, by omega, hB2, hO2⟩
                          · as_aux_lemma =>
                            have e0 : (kd == 0) = false := by rw [beq_eq_false_iff_ne]; exact k0
                            have e1 : (kd == 1) = false := by rw [beq_eq_false_iff_ne]; exact k1
                            have e2 : (kd == 2) = false := by rw [beq_eq_false_iff_ne]; exact k2
                            have e3 : (kd == 3) = false := by rw [beq_eq_false_iff_ne]; exact k3
                            clear k0 k1 k2 k3
                            obtain ⟨ux, hux⟩ : ∃ z, IntKind.u64.wrap x = z := ⟨_, rfl⟩
                            have UX : Hid (0 ≤ ux) := hid (hux ▸ wrap_pos x)
                            have GI : Hid (getN N t (idxI ux) = v0) := hid (by rw [← hux, get_idx N t x XB.out.1 XB.out.2]; exact HV0.out)
                            have MI : Hid (mayB t (idxI ux) = m) := hid (by rw [← hux, may_idx t x XB.out.1 XB.out.2]; exact HM2.out)
                            have QI : Hid (∀ q : Nat, x = q → q < 32 → idxI ux = q) := hid (fun q e hq => by
                              rcases idx_cases x XB.out.1 XB.out.2 with ⟨_, _, h3, h4⟩ | ⟨h1, _⟩
                              · rw [← hux, h3, h4, e]
                              · exact absurd ⟨by omega, by omega⟩ h1)
                            have c3 : wo.cell? ⟨g8, 3, none⟩ = some (.int .i64 gt) := BO.out.cell 3
                            obtain ⟨y, hy⟩ : ∃ y, bits .and .i64 gt 3 = y := ⟨_, rfl⟩
                            have hyb : 0 ≤ bits .and .i64 gt 3 ∧ bits .and .i64 gt 3 ≤ 3 := and_le_i64 gt 3 (by omega)
                            rw [hy] at hyb
                            obtain ⟨wa, hwa⟩ : ∃ z, wo.alloc (.cells #[.slice none 0 0] 52) = z := ⟨_, rfl⟩
                            obtain ⟨gs, hgs⟩ : ∃ z, wo.heap.size = z := ⟨_, rfl⟩
                            have hba : Below wo.heap.size wo wa := hwa ▸ up_alloc (up_refl _) _
                            have BS : Hid (Blk wa gs #[.slice none 0 0] 52) := hid (by rw [← hwa, ← hgs]; exact Blk.new _ _ _)
                            have BA := hid (BO.out.below hba)
                            have PA := hid (PO.out.below hba)
                            have nfs : Hid (¬ fs gs) := hid (fun hf => by have := PO.out.st.hi gs hf; omega)
                            have nsc : Hid (gs ≠ gc) := hid (by have := PO.out.cpu.lt; omega)
                            have nsw : Hid (gs ≠ gw) := hid (by have := PO.out.want.lt; omega)
                            have ns8 : Hid (gs ≠ g8) := hid (by have := BO.out.lt; omega)
                            have N8C := hid n8c
                            have N8W := hid n8w
                            have ls0 : Hid (w.heap.size ≤ gs) := hid (hgs ▸ PO.out.st.up.size)
                            clear hba n8c n8w
                            obtain rfl | rfl | rfl | rfl : y = 0 ∨ y = 1 ∨ y = 2 ∨ y = 3 := by omega
                            · as_aux_lemma =>
                              clear hyb
                              go_upto_region 25 with fail
                              clear hwa hgs c0 c3 c4
                              go_wp2_with fail
                              refine (play_Set0 PA.out 7).mono ?_
                              rintro e wb ⟨rfl, hp, ho⟩
                              have PB := hid hp
                              have BSb := hid (BS.out.only ho nsc.out)
                              have BAb := hid (BA.out.only ho N8C.out)
                              clear hp ho PA BS BA
                              go_wp2_with fail
                              refine (play_Set1 PB.out ux).mono ?_
                              rintro e wc ⟨rfl, hp, ho⟩
                              have PC := hid hp
                              have BSc := hid (BSb.out.only ho nsc.out)
                              have BAc := hid (BAb.out.only ho N8C.out)
                              clear hp ho PB BSb BAb
                              have c4 : wc.cell? ⟨g8, 4, none⟩ = some (.int .u64 v) := BAc.out.cell 4
                              go_wp2_with fail
                              refine (play_Set2 PC.out v).mono ?_
                              rintro e wd ⟨rfl, hp, ho⟩
                              have PD := hid hp
                              have BSd := hid (BSc.out.only ho nsc.out)
                              have BAd := hid (BAc.out.only ho N8C.out)
                              clear hp ho PC BSc BAc c4
                              go_wp2_with fail
                              refine (play_say PD.out t gs BSd.out ls0.out nfs.out nsc.out nsw.out).mono ?_
                              rintro e we ⟨rfl, A, c, h1, h2, hp, ho⟩
                              have PE := hid hp
                              have BSe := hid h1
                              have HA := hid h2
                              have BAe := hid (BAd.out.only ho (fun e => ns8.out e.symm))
                              clear hp ho h1 h2
                              have R0 := hid (play_Reg0 PE.out)
                              have R1 := hid (play_Reg1 PE.out)
                              have R2 := hid (play_Reg2 PE.out)
                              have c4 : we.cell? ⟨g8, 4, none⟩ = some (.int .u64 v) := BAe.out.cell 4
                              have c16 : we.cell? ⟨gs, 0, none⟩ = some (.slice (some A) 1 c) := BSe.out.cell 0
                              have cA := HA.out
                              go_wp2_with fail
                              go_quiet ((first | with_reducible exact quiet_l (R0.out _) | with_reducible exact quiet_l (R1.out _) | with_reducible exact quiet_l (R2.out _)))
                              have PF := hid (PE.out.below (up_drewN (up_refl we) nq))
                              go_wp2_with fail
                              go_meet
                              exact ⟨_, _, _, _, _, _, PF⟩
                            · as_aux_lemma =>
                              clear hyb
                              go_upto_region 25 with fail
                              clear hwa hgs c0 c3 c4
                              go_wp2_with fail
                              refine (play_Set0 PA.out 7).mono ?_
                              rintro e wb ⟨rfl, hp, ho⟩
                              have PB := hid hp
                              have BSb := hid (BS.out.only ho nsc.out)
                              have BAb := hid (BA.out.only ho N8C.out)
                              clear hp ho PA BS BA
                              go_wp2_with fail
                              refine (play_Set1 PB.out ux).mono ?_
                              rintro e wc ⟨rfl, hp, ho⟩
                              have PC := hid hp
                              have BSc := hid (BSb.out.only ho nsc.out)
                              have BAc := hid (BAb.out.only ho N8C.out)
                              clear hp ho PB BSb BAb
                              have c4 : wc.cell? ⟨g8, 4, none⟩ = some (.int .u64 v) := BAc.out.cell 4
                              go_wp2_with fail
                              refine (play_Set2 PC.out v).mono ?_
                              rintro e wd ⟨rfl, hp, ho⟩
                              have PD := hid hp
                              have BSd := hid (BSc.out.only ho nsc.out)
                              have BAd := hid (BAc.out.only ho N8C.out)
                              clear hp ho PC BSc BAc c4
                              go_wp2_with fail
                              refine (play_get PD.out UX.out _ rfl t _).mono ?_
                              rintro e we ⟨rfl, hp, ho⟩
                              rw [GI.out] at hp
                              have PE := hid hp
                              have BSe := hid (BSd.out.only ho nsc.out)
                              have BAe := hid (BAd.out.only ho N8C.out)
                              clear hp ho
                              have R0 := hid (play_Reg0 PE.out)
                              have R1 := hid (play_Reg1 PE.out)
                              have R2 := hid (play_Reg2 PE.out)
                              have c4 : we.cell? ⟨g8, 4, none⟩ = some (.int .u64 v) := BAe.out.cell 4
                              have c16 : we.cell? ⟨gs, 0, none⟩ = some (.slice none 0 0) := BSe.out.cell 0
                              go_wp2_with fail
                              go_quiet ((first | with_reducible exact quiet_l (R0.out _) | with_reducible exact quiet_l (R1.out _) | with_reducible exact quiet_l (R2.out _)))
                              have PF := hid (PE.out.below (up_drewN (up_refl we) nq))
                              go_wp2_with fail
                              go_meet
                              exact ⟨_, _, _, _, _, _, PF⟩
                            · as_aux_lemma =>
                              clear hyb
                              go_upto_region 25 with fail
                              clear hwa hgs c0 c3 c4
                              go_wp2_with fail
                              refine (play_Set0 PA.out 7).mono ?_
                              rintro e wb ⟨rfl, hp, ho⟩
                              have PB := hid hp
                              have BSb := hid (BS.out.only ho nsc.out)
                              have BAb := hid (BA.out.only ho N8C.out)
                              clear hp ho PA BS BA
                              go_wp2_with fail
                              refine (play_Set1 PB.out ux).mono ?_
                              rintro e wc ⟨rfl, hp, ho⟩
                              have PC := hid hp
                              have BSc := hid (BSb.out.only ho nsc.out)
                              have BAc := hid (BAb.out.only ho N8C.out)
                              clear hp ho PB BSb BAb
                              have c4 : wc.cell? ⟨g8, 4, none⟩ = some (.int .u64 v) := BAc.out.cell 4
                              go_wp2_with fail
                              refine (play_Set2 PC.out v).mono ?_
                              rintro e wd ⟨rfl, hp, ho⟩
                              have PD := hid hp
                              have BSd := hid (BSc.out.only ho nsc.out)
                              have BAd := hid (BAc.out.only ho N8C.out)
                              clear hp ho PC BSc BAc c4
                              go_wp2_with fail
                              cases m with
                              | false =>
                                refine (play_setNo PD.out UX.out _ rfl t _ MI.out gs g8 nsc.out N8C.out nfs.out nf8.out).mono ?_
                                rintro e we ⟨rfl, fs2, hp, ho⟩
                                have PE := hid hp
                                have BSe := hid (BSd.out.only ho (fun h => h.1 rfl))
                                have BAe := hid (BAd.out.only ho (fun h => h.2 rfl))
                                clear hp ho
                                have R0 := hid (play_Reg0 PE.out)
                                have R1 := hid (play_Reg1 PE.out)
                                have R2 := hid (play_Reg2 PE.out)
                                have c4 : we.cell? ⟨g8, 4, none⟩ = some (.int .u64 v) := BAe.out.cell 4
                                have c16 : we.cell? ⟨gs, 0, none⟩ = some (.slice none 0 0) := BSe.out.cell 0
                                go_wp2_with fail
                                go_quiet ((first | with_reducible exact quiet_l (R0.out _) | with_reducible exact quiet_l (R1.out _) | with_reducible exact quiet_l (R2.out _)))
                                have PF := hid (PE.out.below (up_drewN (up_refl we) nq))
                                go_wp2_with fail
                                go_meet
                                exact ⟨_, _, _, _, _, _, PF⟩
                              | true =>
                                obtain ⟨p, q, rfl, rfl, p1, p4, q32, rfl⟩ := HM1.out rfl
                                refine (play_setYes PD.out UX.out p q p1 p4 q32 (QI.out q rfl q32) _ gs g8 nsc.out N8C.out nfs.out nf8.out).mono ?_
                                rintro e wh ⟨rfl, fs2, hp, ho⟩
                                have PH := hid hp
                                have BSh := hid (BSd.out.only ho (fun h => h.1 rfl))
                                have BAh := hid (BAd.out.only ho (fun h => h.2 rfl))
                                clear hp ho
                                have EQ := hid (PO.out.setEq p q v)
                                go_upto_block 3 with fail
                                go_cut [17] (fun u wb => u = .int .u64 1 ∧ ∃ W2, Hid (Play w wb fs2 sp gc gw (updN N p q v) W2 (.pointer (some ⟨gm, 0, none⟩)) cb 1 ux v) ∧ Hid (Blk wb gs #[.slice none 0 0] 52) ∧ Hid (Blk wb g8 #[.int .i64 kd, .int .i64 th, .int .i64 ix, .int .i64 gt, .int .u64 v] 50))
                                case first =>
                                  have c4 : wh.cell? ⟨g8, 4, none⟩ = some (.int .u64 v) := BAh.out.cell 4
                                  have s0 : wh.cell? ⟨gw, p * 32 + q, none⟩ = some (.int .u64 (W p q)) := (PH.out.want.cell _).trans (cells128_get W p q p4 q32)
                                  have f0 := PH.out.want.free (p * 32 + q)
                                  have hw2 := PH.out.want.set' (p * 32 + q) (.int .u64 v)
                                  rw [cells128_set W p q v p4 q32] at hw2
                                  have ho := Only.setCell wh ⟨gw, p * 32 + q, none⟩ (.int .u64 v) (· = gw) rfl
                                  have P7 := hid (PH.out.wants hw2 ho EQ.out)
                                  have P8 := hid (P7.out.below (up_drew (up_refl _)))
                                  have S7 := hid (BSh.out.only ho nsw.out)
                                  have S8 := hid (S7.out.below (up_drew (up_refl _)))
                                  have A7 := hid (BAh.out.only ho N8W.out)
                                  have A8 := hid (A7.out.below (up_drew (up_refl _)))
                                  clear hw2 ho
                                  go_wp2_with fail
                                  go_region
                                  all_goals
                                    go_wp2_with fail
                                    go_meet
                                    exact ⟨rfl, _, by first | exact P7 | exact P8, by first | exact S7 | exact S8, by first | exact A7 | exact A8⟩
                                case rest =>
                                  obtain ⟨rfl, W2, PE, BSe, BAe⟩ := hcut
                                  obtain ⟨we, rfl⟩ : ∃ z, z = wc := ⟨_, rfl⟩
                                  have R0 := hid (play_Reg0 PE.out)
                                  have R1 := hid (play_Reg1 PE.out)
                                  have R2 := hid (play_Reg2 PE.out)
                                  have c4 : we.cell? ⟨g8, 4, none⟩ = some (.int .u64 v) := BAe.out.cell 4
                                  have c16 : we.cell? ⟨gs, 0, none⟩ = some (.slice none 0 0) := BSe.out.cell 0
                                  go_wp2_with fail
                                  go_quiet ((first | with_reducible exact quiet_l (R0.out _) | with_reducible exact quiet_l (R1.out _) | with_reducible exact quiet_l (R2.out _)))
                                  have PF := hid (PE.out.below (up_drewN (up_refl we) nq))
                                  go_wp2_with fail
                                  go_meet
                                  exact ⟨_, _, _, _, _, _, PF⟩
                            · as_aux_lemma =>
                              clear hyb
                              go_upto_region 25 with fail
                              clear hwa hgs c0 c3 c4
                              go_wp2_with fail
                              refine (play_Set0 PA.out 7).mono ?_
                              rintro e wb ⟨rfl, hp, ho⟩
                              have PB := hid hp
                              have BSb := hid (BS.out.only ho nsc.out)
                              have BAb := hid (BA.out.only ho N8C.out)
                              clear hp ho PA BS BA
                              go_wp2_with fail
                              refine (play_Set1 PB.out ux).mono ?_
                              rintro e wc ⟨rfl, hp, ho⟩
                              have PC := hid hp
                              have BSc := hid (BSb.out.only ho nsc.out)
                              have BAc := hid (BAb.out.only ho N8C.out)
                              clear hp ho PB BSb BAb
                              have c4 : wc.cell? ⟨g8, 4, none⟩ = some (.int .u64 v) := BAc.out.cell 4
                              go_wp2_with fail
                              refine (play_Set2 PC.out v).mono ?_
                              rintro e wd ⟨rfl, hp, ho⟩
                              have PD := hid hp
                              have BSd := hid (BSc.out.only ho nsc.out)
                              have BAd := hid (BAc.out.only ho N8C.out)
                              clear hp ho PC BSc BAc c4
                              go_wp2_with fail
                              refine (do_none wd _ _ t _).mono ?_
                              rintro e we ⟨rfl, rfl⟩
                              obtain ⟨we, hwe⟩ : ∃ z, wd = z := ⟨_, rfl⟩
                              rw [hwe] at PD BSd BAd ⊢
                              clear hwe
                              have PE := PD
                              have BSe := BSd
                              have BAe := BAd
                              have R0 := hid (play_Reg0 PE.out)
                              have R1 := hid (play_Reg1 PE.out)
                              have R2 := hid (play_Reg2 PE.out)
                              have c4 : we.cell? ⟨g8, 4, none⟩ = some (.int .u64 v) := BAe.out.cell 4
                              have c16 : we.cell? ⟨gs, 0, none⟩ = some (.slice none 0 0) := BSe.out.cell 0
                              go_wp2_with fail
                              go_quiet ((first | with_reducible exact quiet_l (R0.out _) | with_reducible exact quiet_l (R1.out _) | with_reducible exact quiet_l (R2.out _)))
                              have PF := hid (PE.out.below (up_drewN (up_refl we) nq))
                              go_wp2_with fail
                              go_meet
                              exact ⟨_, _, _, _, _, _, PF⟩
                  case rest => as_aux_lemma =>
                    obtain ⟨fs, N, W, r0, r1, r2, HP⟩ := hcut
                    have j80 : (j : Int) < 80 := by have := HM.out; omega
                    go_wp2_with fail
                    go_loopg [18] 3 (fun g q wr => ∃ (p : Nat), q = .int .i64 p ∧ 1 ≤ p ∧ p + g = 4 ∧ Hid (Play w wr fs sp gc gw N W (.pointer (some ⟨gm, 0, none⟩)) cb r0 r1 r2))
                    case atStart => exact ⟨1, rfl, by omega, by omega, HP⟩
                    case round =>
                      obtain ⟨p, rfl, p1, hp, HP⟩ := hrel
                      rcases gk with _ | g
                      · have dp : decide (p < 4) = false := decide_eq_false (by omega)
                        have dp2 : decide ((p : Int) < 4) = false := decide_eq_false (by omega)
                        go_wp2_with fail
                        go_roundg k
                        case measure => omega
                        case rel => exact ⟨j + 1, fs, N, W, r0, r1, r2, by go_num, by omega, HP⟩
                      · have dp2 : decide ((p : Int) < 4) = true := decide_eq_true (by omega)
                        have dp : decide (p < 4) = true := decide_eq_true (by omega)
                        have p4 : p < 4 := by omega
                        go_wp2_with fail
                        go_loopg [19] 32 (fun h y wr => ∃ (q : Nat), y = .int .i64 q ∧ q + h = 32 ∧ Hid (Play w wr fs sp gc gw N W (.pointer (some ⟨gm, 0, none⟩)) cb r0 r1 r2))
                        case atStart => exact ⟨0, rfl, by omega, HP⟩
                        case round =>
                          obtain ⟨q, rfl, hq, HP⟩ := hrel
                          rcases gk with _ | h
                          · have dq : decide (q < 32) = false := decide_eq_false (by omega)
                            have dq2 : decide ((q : Int) < 32) = false := decide_eq_false (by omega)
                            go_wp2_with fail
                            go_roundg g
                            case measure => omega
                            case rel => exact ⟨p + 1, by go_num, by omega, by omega, HP⟩
                          · have dq : decide (q < 32) = true := decide_eq_true (by omega)
                            have dq2 : decide ((q : Int) < 32) = true := decide_eq_true (by omega)
                            have q32 : q < 32 := by omega
                            have HG : Hid (∀ n, Calls Try.prog 8 #[.pointer (some ⟨sp, 0, none⟩), .int .i64 p, .int .i64 q] (wr.drewN n) fun e w' => e = .returned (.int .u64 (W p q)) ∧ wr.drewN n = w') := hid (fun n => by
                              have hh := slots_Get (wr.drewN n) fs sp N (HP.out.below (up_drewN (up_refl _) n)).st.st p q
                              rw [HP.out.told p1 p4 q32] at hh
                              exact hh)
                            have s0 : wr.cell? ⟨gw, p * 32 + q, none⟩ = some (.int .u64 (W p q)) := (HP.out.want.cell _).trans (cells128_get W p q p4 q32)
                            go_wp2_with fail
                            go_quiet (with_reducible exact quiet_l (HG.out _))
                            have HP2 := hid (HP.out.below (up_drewN (up_refl wr) nq))
                            go_wp2_with fail
                            go_roundg h
                            case measure => omega
                            case rel => exact ⟨q + 1, by go_num, by omega, HP2⟩
end Go.Proofs.Ytnbhmcbhpkjgcaa
