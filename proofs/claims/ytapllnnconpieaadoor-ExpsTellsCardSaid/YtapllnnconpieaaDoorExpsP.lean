/- exps.Parse. -/
import Derived.Test.YtapllnnconpieaaDoorExpsD
import Derived.Deep.AppendLies
import Derived.Outline
set_option linter.unusedVariables false
namespace Go.Proofs.YtapllnnconpieaaDoor
open Go.RowKit

theorem parse_step {w w5 wb w6 : World} {N NB g2 g3 g5 j : Nat} (h23 : g3 < g5) (h25 : g5 < NB) (h2 : g2 < g3) (hN : N ≤ g2) {R Z : Array Value} {x0 x2 fv v' : Value} {T2 T3 T5 e : TypeId} {sz : Nat} {cs cs' : List Value}
    (hR : Blk w5 g3 R T3) (hE : Blk w5 g5 #[x0, fv, x2] T5) (hA : Blk w5 g2 Z T2) (hO : w5.ownsRow NB e sz fv j cs) (hU : Below N w w5) (hs : NB ≤ w5.heap.size) (hwb : Below w5.heap.size w5 wb)
    (hg : wb.grownBy w6 fv.ownBlock) (hown : w6.ownsRow NB e sz v' (j + 1) cs') :
    Blk (w6.setCell ⟨g5, 1, none⟩ v') g3 R T3 ∧ Blk (w6.setCell ⟨g5, 1, none⟩ v') g5 #[x0, v', x2] T5 ∧ Blk (w6.setCell ⟨g5, 1, none⟩ v') g2 Z T2 ∧ (w6.setCell ⟨g5, 1, none⟩ v').ownsRow NB e sz v' (j + 1) cs' ∧
      Below N w (w6.setCell ⟨g5, 1, none⟩ v') ∧ NB ≤ (w6.setCell ⟨g5, 1, none⟩ v').heap.size := by
  have hlt : ∀ k, fv.ownBlock = some k → NB ≤ k := fun k hk => (hO.lt k hk).1
  have far : ∀ g, g < NB → some g ≠ fv.ownBlock := fun g hg e => by have := hlt g e.symm; omega
  have r6 := (hR.below hwb).grown' hg (far g3 (by omega))
  have e6 := (hE.below hwb).grown' hg (far g5 (by omega))
  have a6 := (hA.below hwb).grown' hg (far g2 (by omega))
  have hNw : N ≤ w5.heap.size := by omega
  have u6 : Below N w w6 := (hU.trans (hwb.mono hNw)).grown hg (by have := hwb.size; omega) (fun k hk => by have := hlt k hk; omega)
  have s6 := hg.size
  have s5 := hwb.size
  refine ⟨r6.apart' _ (by show g5 ≠ g3; omega) _, e6.set' 1 v', a6.apart' _ (by show g5 ≠ g2; omega) _, own_set hown (p := ⟨g5, 1, none⟩) h25 _, u6.setCell (p := ⟨g5, 1, none⟩) (by show N ≤ g5; omega) _, by simp [World.setCell]; omega⟩

set_option maxRecDepth 100000 in
set_option maxHeartbeats 16000000 in
theorem exps_Parse (w : World) (hl : LibOk w) (A : Option Addr) (c : Nat) (l : List UInt8) (hr : Bs w A c l) (dr ds : Int) (h0 : -9223372036854775808 ≤ dr) (h1 : dr ≤ 9223372036854775807) (h2 : -9223372036854775808 ≤ ds) (h3 : ds ≤ 9223372036854775807) :
    Calls Tryd.prog 20 #[.slice A l.length c, .agg #[.int .i64 dr, .int .i64 ds]] w fun e w' => ExpsRes (parseX l dr ds) w.heap.size e w' ∧ Below w.heap.size w w' := by
  have hmx := hr.mx
  obtain ⟨w1, hw1⟩ : ∃ w1, w.alloc (.cells #[.int .i64 dr, .int .i64 ds] 41) = w1 := ⟨_, rfl⟩
  have hb1 : Blk w1 w.heap.size #[.int .i64 dr, .int .i64 ds] 41 := hw1 ▸ Blk.new _ _ _
  have hu1 : Below w.heap.size w w1 := hw1 ▸ up_alloc (up_refl _) _
  have hs1 : w1.heap.size = w.heap.size + 1 := by rw [← hw1]; simp
  obtain ⟨w2, hw2⟩ : ∃ w2, w1.alloc (.cells #[.int .i64 0, .slice none 0 0, .slice none 0 0] 47) = w2 := ⟨_, rfl⟩
  have hb2 : Blk w2 w1.heap.size #[.int .i64 0, .slice none 0 0, .slice none 0 0] 47 := hw2 ▸ Blk.new _ _ _
  have hu2 : Below w1.heap.size w1 w2 := hw2 ▸ up_alloc (up_refl _) _
  have hs2 : w2.heap.size = w1.heap.size + 1 := by rw [← hw2]; simp
  have hb1b := hb1.below hu2
  have hu12 := up_trans hu1 hu2
  obtain ⟨g1, hg1⟩ : ∃ g, w.heap.size = g := ⟨_, rfl⟩
  obtain ⟨g2, hg2⟩ : ∃ g, w1.heap.size = g := ⟨_, rfl⟩
  rw [hg1] at hb1b hs1
  rw [hg2] at hb2 hs1 hs2
  have HG1 := hid hg1
  have HG2 := hid hg2
  have HR := hid hr
  have HL := hid hl
  have HB1 := hid hb1b
  have HB2 := hid hb2
  have HU2 := hid hu12
  have HS2 := hid hs2
  have ge2 : g1 ≤ g2 := by omega
  obtain ⟨c0, c1, -, -⟩ := hb1b.two
  obtain ⟨c2, c3, c4, f2, f3, f4⟩ := hb2.syms
  have GE : Hid (w.heap.size ≤ g2) := hid (by omega)
  clear hb1 hu1 hb2 hu2 hb1b hu12 hr hl
  by_cases hd0 : dr = 0
  · subst hd0
    rw [show parseX l 0 ds = some ⟨0, [], []⟩ by unfold parseX; rw [if_pos rfl]]
    clear hmx hs1 hs2
    go_enter Tryd.func20, Tryd.ntmps20
    go_wp2_with fail
    exact bodyPost_ret (v := .tuple #[.agg exZ, .int .i64 0]) (results_ct' Tryd.results20 _ _ g2 47 exZ _ (by rfl) HB2.out.set3 Tryd.underlying47 (by rfl) expsInfo) rfl
      ⟨⟨_, _, rfl, World.ownsRow_nil _ _ _ _, World.ownsRow_nil _ _ _ _⟩, ((HU2.out.setCell GE.out _).setCell GE.out _).setCell GE.out _⟩
  · have hdb : (dr == 0) = false := by simpa using hd0
    have hpx : parseX l dr ds = parseX1 l dr ds := by unfold parseX; rw [if_neg hd0]
    rw [hpx]
    obtain ⟨w3, hw3⟩ : ∃ w3, w2.alloc (.cells #[.slice A l.length c, .int .i64 dr, .int .i64 ds, .bool false] 84) = w3 := ⟨_, rfl⟩
    have hb3 : Blk w3 w2.heap.size #[.slice A l.length c, .int .i64 dr, .int .i64 ds, .bool false] 84 := hw3 ▸ Blk.new _ _ _
    have hu3 : Below w2.heap.size w2 w3 := hw3 ▸ up_alloc (up_refl _) _
    obtain ⟨g3, hg3⟩ : ∃ g, w2.heap.size = g := ⟨_, rfl⟩
    rw [hg3] at hb3 hs2
    have HB13 := hid (HB1.out.below hu3)
    have HB23 := hid (HB2.out.below hu3)
    have HB3 := hid hb3
    have HU3 := hid (up_trans HU2.out hu3)
    obtain ⟨d0, d1, -, -⟩ := HB13.out.two
    obtain ⟨d2, d3, d4, e2, e3, e4⟩ := HB23.out.syms
    have hg32 : g2 < g3 := by omega
    have HG3 := hid hg3
    clear hpx hb3 hu3 hs1 hs2 hd0 HB1 HB2 HU2 HS2
    by_cases hds : ds < 40
    · have hpx : parseX1 l dr ds = none := by unfold parseX1; rw [if_neg (by omega)]
      rw [hpx]
      clear hpx
      go_enter Tryd.func20, Tryd.ntmps20
      go_wp2_with fail
      exact bodyPost_ret (v := .tuple #[.agg exZ, .int .i64 11]) (results_ct' Tryd.results20 _ _ g2 47 exZ _ (by rfl) HB23.out.set3 Tryd.underlying47 (by rfl) expsInfo) rfl
        ⟨rfl, ((HU3.out.setCell GE.out _).setCell GE.out _).setCell GE.out _⟩
    · have HIN := hid (fun w => le_In l.length dr ds w (by omega) (by omega))
      cases hin : inB l.length dr ds with
      | false =>
        rw [hin] at HIN
        have hpx : parseX1 l dr ds = none := by unfold parseX1; rw [hin, if_neg (by simp)]
        rw [hpx]
        clear hpx hin
        go_enter Tryd.func20, Tryd.ntmps20
        go_wp2_with fail
        refine (HIN.out _).mono ?_
        rintro e w' ⟨rfl, rfl⟩
        go_wp2_with fail
        exact bodyPost_ret (v := .tuple #[.agg exZ, .int .i64 11]) (results_ct' Tryd.results20 _ _ g2 47 exZ _ (by rfl) HB23.out.set3 Tryd.underlying47 (by rfl) expsInfo) rfl
          ⟨rfl, ((HU3.out.setCell GE.out _).setCell GE.out _).setCell GE.out _⟩
      | true =>
        rw [hin] at HIN
        have hdr0 : 0 ≤ dr := by simp only [inB, decide_eq_true_eq] at hin; omega
        have hdr1 : dr ≤ 140737488355328 := by simp only [inB, decide_eq_true_eq] at hin; omega
        have hpx : parseX1 l dr ds = parseX2 l dr ds (numAt l (dr + 16) 4) (numAt l (dr + 20) 4) (numAt l (dr + 24) 4) (numAt l (dr + 28) 4) (numAt l (dr + 32) 4) (numAt l (dr + 36) 4) := by
          unfold parseX1
          rw [hin, if_pos ⟨by omega, rfl⟩]
        rw [hpx]
        have HF := hid (fun w (hb : Blk w g3 #[.slice A l.length c, .int .i64 dr, .int .i64 ds, .bool false] 84) (hr : Bs w A c l) k h h' => exps_four w g3 A c l dr ds false hb hr k hdr0 hdr1 h h')
        obtain ⟨xb, hxb⟩ : ∃ x, numAt l (dr + 16) 4 = x := ⟨_, rfl⟩
        obtain ⟨xf, hxf⟩ : ∃ x, numAt l (dr + 20) 4 = x := ⟨_, rfl⟩
        obtain ⟨xn, hxn⟩ : ∃ x, numAt l (dr + 24) 4 = x := ⟨_, rfl⟩
        obtain ⟨xa, hxa⟩ : ∃ x, numAt l (dr + 28) 4 = x := ⟨_, rfl⟩
        obtain ⟨xt, hxt⟩ : ∃ x, numAt l (dr + 32) 4 = x := ⟨_, rfl⟩
        obtain ⟨xi, hxi⟩ : ∃ x, numAt l (dr + 36) 4 = x := ⟨_, rfl⟩
        have nb : xb < 4294967296 := hxb ▸ numAt_lt l _ 4
        have nf : xf < 4294967296 := hxf ▸ numAt_lt l _ 4
        have nn : xn < 4294967296 := hxn ▸ numAt_lt l _ 4
        have na : xa < 4294967296 := hxa ▸ numAt_lt l _ 4
        have nt : xt < 4294967296 := hxt ▸ numAt_lt l _ 4
        have ni : xi < 4294967296 := hxi ▸ numAt_lt l _ 4
        rw [hxb, hxf, hxn, hxa, hxt, hxi]
        have HXB := hid hxb
        have HXF := hid hxf
        have HXN := hid hxn
        have HXA := hid hxa
        have HXT := hid hxt
        have HXI := hid hxi
        clear hpx hin hxb hxf hxn hxa hxt hxi
        go_enter Tryd.func20, Tryd.ntmps20
        go_wp2_with fail
        refine (HIN.out _).mono ?_
        rintro e w' ⟨rfl, rfl⟩
        go_wp2_with fail
        refine (HF.out _ HB3.out (HR.out.below HU3.out) 16 (by omega) (by omega)).mono ?_
        rintro e w4 ⟨rfl, b4⟩
        rw [HXB.out]
        have U4 := hid (up_trans HU3.out b4)
        have A4 := hid (HB23.out.below b4)
        have R4 := hid (HB3.out.below b4)
        clear b4 c0 c1 c2 c3 c4 f2 f3 f4 d0 d1 d2 d3 d4 e2 e3 e4 HB13 HB23 HB3 hw1 hw2 hw3
        obtain ⟨g5, hg5⟩ : ∃ g, w4.heap.size = g := ⟨_, rfl⟩
        obtain ⟨x5, hx5⟩ : ∃ x, w4.alloc (.cells #[.int .i64 0, .slice none 0 0, .slice none 0 0] 47) = x := ⟨_, rfl⟩
        have hbl5 : Blk x5 w4.heap.size #[.int .i64 0, .slice none 0 0, .slice none 0 0] 47 := hx5 ▸ Blk.new _ _ _
        have hbu5 : Below w4.heap.size w4 x5 := hx5 ▸ up_alloc (up_refl _) _
        rw [hg5] at hbl5
        obtain ⟨c0, c1, c2, f0, f1, f2⟩ := hbl5.syms
        have V5 : Hid (Below w4.heap.size w4 (((x5.setCell ⟨g5, 0, none⟩ (.int .i64 xb)).setCell ⟨g5, 1, none⟩ (.slice none 0 0)).setCell ⟨g5, 2, none⟩ (.slice none 0 0))) := hid (((hbu5.setCell (p := ⟨g5, 0, none⟩) (by rw [hg5]; exact Nat.le_refl _) (.int .i64 xb)).setCell (p := ⟨g5, 1, none⟩) (by rw [hg5]; exact Nat.le_refl _) (.slice none 0 0)).setCell (p := ⟨g5, 2, none⟩) (by rw [hg5]; exact Nat.le_refl _) (.slice none 0 0))
        have X5 : Hid (Blk (((x5.setCell ⟨g5, 0, none⟩ (.int .i64 xb)).setCell ⟨g5, 1, none⟩ (.slice none 0 0)).setCell ⟨g5, 2, none⟩ (.slice none 0 0)) g5 #[(.int .i64 xb), (.slice none 0 0), (.slice none 0 0)] 47) := hid hbl5.set3
        have N5 : Hid (Below w.heap.size w (((x5.setCell ⟨g5, 0, none⟩ (.int .i64 xb)).setCell ⟨g5, 1, none⟩ (.slice none 0 0)).setCell ⟨g5, 2, none⟩ (.slice none 0 0))) := hid (up_trans U4.out V5.out)
        clear hbl5 hbu5
        have A5 := hid (A4.out.below V5.out)
        have R5 := hid (R4.out.below V5.out)
        have hg53 : g3 < g5 := by have := R4.out.lt; omega
        clear A4 R4 V5
        have U5 := N5
        have E5 := X5
        clear N5 X5
        go_wp2_with fail
        clear c0 c1 c2 f0 f1 f2
        refine (HF.out _ R5.out (HR.out.below U5.out) 20 (by omega) (by omega)).mono ?_
        rintro e w6 ⟨rfl, b6⟩
        rw [HXF.out]
        have U6 := hid (up_trans U5.out b6)
        have A6 := hid (A5.out.below b6)
        have R6 := hid (R5.out.below b6)
        have E6 := hid (E5.out.below b6)
        clear b6 U5 A5 R5 E5
        clear hg5 hx5 x5 hg1 hg2 hg3
        go_wp2_with fail
        refine (HF.out _ R6.out (HR.out.below U6.out) 24 (by omega) (by omega)).mono ?_
        rintro e w7 ⟨rfl, b7⟩
        rw [HXN.out]
        have U7 := hid (up_trans U6.out b7)
        have A7 := hid (A6.out.below b7)
        have R7 := hid (R6.out.below b7)
        have E7 := hid (E6.out.below b7)
        clear b7 U6 A6 R6 E6
        go_wp2_with fail
        refine (HF.out _ R7.out (HR.out.below U7.out) 28 (by omega) (by omega)).mono ?_
        rintro e w8 ⟨rfl, b8⟩
        rw [HXA.out]
        have U8 := hid (up_trans U7.out b8)
        have A8 := hid (A7.out.below b8)
        have R8 := hid (R7.out.below b8)
        have E8 := hid (E7.out.below b8)
        clear b8 U7 A7 R7 E7
        go_wp2_with fail
        refine (HF.out _ R8.out (HR.out.below U8.out) 32 (by omega) (by omega)).mono ?_
        rintro e w9 ⟨rfl, b9⟩
        rw [HXT.out]
        have U9 := hid (up_trans U8.out b9)
        have A9 := hid (A8.out.below b9)
        have R9 := hid (R8.out.below b9)
        have E9 := hid (E8.out.below b9)
        clear b9 U8 A8 R8 E8
        go_wp2_with fail
        refine (HF.out _ R9.out (HR.out.below U9.out) 36 (by omega) (by omega)).mono ?_
        rintro e w10 ⟨rfl, b10⟩
        rw [HXI.out]
        have U10 := hid (up_trans U9.out b10)
        have A10 := hid (A9.out.below b10)
        have R10 := hid (R9.out.below b10)
        have E10 := hid (E9.out.below b10)
        clear b10 U9 A9 R9 E9
        clear HF HXB HXF HXN HXA HXT HXI HG1 HG2 HG3
        obtain ⟨d2, d3, d4, e2, e3, e4⟩ := A10.out.syms
        obtain ⟨c0, c1, c2, f0, f1, f2⟩ := E10.out.syms
        have BAD : ∀ (h : parseX2 l dr ds xb xf xn xa xt xi = none), ExpsRes (parseX2 l dr ds xb xf xn xa xt xi) w.heap.size (.returned (.tuple #[.agg exZ, .int .i64 11])) (((w10.setCell ⟨g2, 0, none⟩ (.int .i64 0)).setCell ⟨g2, 1, none⟩ (.slice none 0 0)).setCell ⟨g2, 2, none⟩ (.slice none 0 0)) ∧
            Below w.heap.size w (((w10.setCell ⟨g2, 0, none⟩ (.int .i64 0)).setCell ⟨g2, 1, none⟩ (.slice none 0 0)).setCell ⟨g2, 2, none⟩ (.slice none 0 0)) := fun h => by
          rw [h]
          exact ⟨rfl, ((U10.out.setCell GE.out _).setCell GE.out _).setCell GE.out _⟩
        have HBAD := hid BAD
        clear BAD
        by_cases k1 : 65535 < xb ∨ 256 < xf ∨ 256 < xn ∨ 65536 < xb + xf
        · have hpx : parseX2 l dr ds xb xf xn xa xt xi = none := by unfold parseX2; rw [if_pos k1]
          have HB2 := hid (HBAD.out hpx)
          clear hpx HBAD
          have k2 : 65535 < xb ∨ (¬ 65535 < xb ∧ 256 < xf) ∨ (¬ 65535 < xb ∧ ¬ 256 < xf ∧ 256 < xn) ∨ (¬ 65535 < xb ∧ ¬ 256 < xf ∧ ¬ 256 < xn ∧ 65536 < xb + xf) := by omega
          clear k1
          rcases k2 with k2 | ⟨k2, k3⟩ | ⟨k2, k3, k4⟩ | ⟨k2, k3, k4, k5⟩
          all_goals
            go_wp2_with fail
            exact bodyPost_ret (v := .tuple #[.agg exZ, .int .i64 11]) (results_ct' Tryd.results20 _ _ g2 47 exZ _ (by rfl) A10.out.set3 Tryd.underlying47 (by rfl) expsInfo) rfl HB2.out
        · have k2 : ¬ 65535 < xb ∧ ¬ 256 < xf ∧ ¬ 256 < xn ∧ ¬ 65536 < xb + xf := by omega
          obtain ⟨k3, k4, k5, k6⟩ := k2
          have hpx : parseX2 l dr ds xb xf xn xa xt xi = if rowB l xa xf 4 = true ∧ rowB l xt xn 4 = true ∧ rowB l xi xn 2 = true then
            if fnBads l dr ds xa xf = false ∧ nmBads l xt xi xf xn = false then some ⟨xb, fnVs l dr ds xa xf, nmVs l xt xi xn⟩ else none
            else none := by unfold parseX2; rw [if_neg k1]
          have HRo := hid (fun (at' k sz : Nat) (hk : k ≤ 1000) (hz : sz ≤ 8) => (exps_row w10 g3 A c l.length dr ds false R10.out hmx at' k sz (by omega) (by omega) (by omega) (by omega)))
          have T1 : Hid (Calls Tryd.prog 38 #[.pointer (some ⟨g3, 0, none⟩), .int .i64 xa, .int .i64 xf, .int .i64 4] w10 fun e w' => e = .returned (.bool (rowB l xa xf 4)) ∧ w10 = w') := HRo.out xa xf 4 (by omega) (by omega)
          have T2 : Hid (Calls Tryd.prog 38 #[.pointer (some ⟨g3, 0, none⟩), .int .i64 xt, .int .i64 xn, .int .i64 4] w10 fun e w' => e = .returned (.bool (rowB l xt xn 4)) ∧ w10 = w') := HRo.out xt xn 4 (by omega) (by omega)
          have T3 : Hid (Calls Tryd.prog 38 #[.pointer (some ⟨g3, 0, none⟩), .int .i64 xi, .int .i64 xn, .int .i64 2] w10 fun e w' => e = .returned (.bool (rowB l xi xn 2)) ∧ w10 = w') := HRo.out xi xn 2 (by omega) (by omega)
          obtain ⟨r1, hr1⟩ : ∃ x, rowB l xa xf 4 = x := ⟨_, rfl⟩
          obtain ⟨r2, hr2⟩ : ∃ x, rowB l xt xn 4 = x := ⟨_, rfl⟩
          obtain ⟨r3, hr3⟩ : ∃ x, rowB l xi xn 2 = x := ⟨_, rfl⟩
          rw [hr1] at T1 hpx
          rw [hr2] at T2 hpx
          rw [hr3] at T3 hpx
          have HPX := hid hpx
          clear hpx k1 HRo hr1 hr2 hr3
          go_wp2_with fail
          refine T1.out.mono ?_
          rintro e w' ⟨rfl, rfl⟩
          cases r1
          case false =>
            have HB2 := hid (HBAD.out (by rw [HPX.out]; simp))
            clear HBAD HPX
            go_wp2_with fail
            exact bodyPost_ret (v := .tuple #[.agg exZ, .int .i64 11]) (results_ct' Tryd.results20 _ _ g2 47 exZ _ (by rfl) A10.out.set3 Tryd.underlying47 (by rfl) expsInfo) rfl HB2.out
          case true =>
            go_wp2_with fail
            refine T2.out.mono ?_
            rintro e w' ⟨rfl, rfl⟩
            cases r2
            case false =>
              have HB2 := hid (HBAD.out (by rw [HPX.out]; simp))
              clear HBAD HPX
              go_wp2_with fail
              exact bodyPost_ret (v := .tuple #[.agg exZ, .int .i64 11]) (results_ct' Tryd.results20 _ _ g2 47 exZ _ (by rfl) A10.out.set3 Tryd.underlying47 (by rfl) expsInfo) rfl HB2.out
            case true =>
              go_wp2_with fail
              refine T3.out.mono ?_
              rintro e w' ⟨rfl, rfl⟩
              cases r3
              case false =>
                have HB2 := hid (HBAD.out (by rw [HPX.out]; simp))
                clear HBAD HPX
                go_wp2_with fail
                exact bodyPost_ret (v := .tuple #[.agg exZ, .int .i64 11]) (results_ct' Tryd.results20 _ _ g2 47 exZ _ (by rfl) A10.out.set3 Tryd.underlying47 (by rfl) expsInfo) rfl HB2.out
              case true =>
                have hpx := HPX.out
                rw [if_pos (by simp)] at hpx
                have HPY := hid hpx
                have g5lt : g5 < w10.heap.size := E10.out.lt
                obtain ⟨NB, hNB⟩ : ∃ n, w10.heap.size = n := ⟨_, rfl⟩
                rw [hNB] at g5lt
                have HNB := hid hNB
                have n52 : g5 ≠ g3 := by omega
                have n53 : g3 ≠ g5 := by omega
                have n42 : g2 ≠ g3 := by omega
                have n45 : g2 ≠ g5 := by omega
                have HW0 : Hid (w.heap.size ≤ w10.heap.size) := hid U10.out.size
                clear hpx HPX HBAD T1 T2 T3 hNB d2 d3 d4 e2 e3 e4 c0 c1 c2 f0 f1 f2
                go_wp2_with fail
                go_loopg [91] xf (fun k i wr => ∃ (j : Nat) (fv : Value), i = .int .i64 j ∧ j + k = xf ∧ Blk wr g3 #[.slice A l.length c, .int .i64 dr, .int .i64 ds, .bool (fnBads l dr ds xa j)] 84 ∧
                  Blk wr g5 #[.int .i64 xb, fv, .slice none 0 0] 47 ∧ Blk wr g2 exZ 47 ∧ wr.ownsRow NB 52 2 fv j (fcells (fnVs l dr ds xa j)) ∧ Below w.heap.size w wr ∧ NB ≤ wr.heap.size)
                case atStart => exact ⟨0, _, rfl, by omega, R10.out, E10.out, A10.out, World.ownsRow_nil _ _ _ _, U10.out, Nat.le_of_eq HNB.out.symm⟩
                case round =>
                  obtain ⟨j, fv, rfl, hj, hR, hE, hA, hOw, hU, hNs⟩ := hrel
                  have HRr := hid hR
                  have HEr := hid hE
                  have HAr := hid hA
                  have HOr := hid hOw
                  have HUr := hid hU
                  rcases gk with _ | k
                  · have hjn : ((j : Int) < (xf : Int)) = False := by simp; omega
                    obtain rfl : j = xf := by omega
                    obtain ⟨FA, fc, rfl, -, -⟩ := own_row hOw
                    have HPZ : Hid (parseX2 l dr ds xb j xn xa xt xi = if fnBads l dr ds xa j = false ∧ nmBads l xt xi j xn = false then some ⟨xb, fnVs l dr ds xa j, nmVs l xt xi xn⟩ else none) := HPY
                    have hNm := exps_names wr g3 g5 n53 A c l (fun w' ho => HR.out.below (Only.below HUr.out ho HUr.out.size (fun g h => by
                      have := GE.out
                      rcases h with h | h <;> omega))) dr ds (fnBads l dr ds xa j) hR xb FA j fc hE (by omega) xn (by omega) xt xi nt ni
                    have HNm := hid hNm
                    have HF2 : Hid (fcells (fnVs l dr ds xa j) = fcells (fnVs l dr ds xa j) ∧ (fnVs l dr ds xa j).length = j ∧ (nmVs l xt xi xn).length = xn) := hid ⟨rfl, fnVs_length _ _ _ _ _, nmVs_length _ _ _ _⟩
                    have hwNB : w.heap.size ≤ NB := by have := HW0.out; rw [HNB.out] at this; exact this
                    have hwwr : w.heap.size ≤ wr.heap.size := hU.size
                    have hg2NB : g2 < NB := by omega
                    have hg2wr : g2 < wr.heap.size := by omega
                    clear hR hE hA hOw hU hNm
                    go_wp2_with fail
                    refine HNm.out.mono ?_
                    rintro e w5 ⟨rfl, nv, hR5, hE5, hN5, hO5⟩
                    obtain ⟨NA, nc, rfl, -, -⟩ := own_row hN5
                    have hA5 := HAr.out.only hO5 (fun h => by rcases h with h | h <;> omega)
                    have hF5 := own_only HOr.out hO5 (fun g h => by rcases h with h | h <;> omega)
                    have hU5 := Only.below HUr.out hO5 hwwr (fun g h => by have := GE.out; rcases h with h | h <;> omega)
                    obtain ⟨d2, d3, d4, e2, e3, e4⟩ := hA5.syms
                    obtain ⟨c0, c1, c2, -, -, -⟩ := hE5.syms
                    obtain ⟨-, -, -, r3, -⟩ := hR5.four
                    have HA5 := hid hA5
                    have HF5 := hid hF5
                    have HU5 := hid hU5
                    have HN5 := hid hN5
                    obtain ⟨b1, hb1⟩ : ∃ b, fnBads l dr ds xa j = b := ⟨_, rfl⟩
                    obtain ⟨b2, hb2⟩ : ∃ b, nmBads l xt xi j xn = b := ⟨_, rfl⟩
                    rw [hb1, hb2] at r3 HPZ
                    clear hA5 hF5 hU5 hN5 hR5 hE5 hO5 hb1 hb2
                    cases hbb : (b1 || b2) with
                    | true =>
                      rw [hbb] at r3
                      have hpn : parseX2 l dr ds xb j xn xa xt xi = none := by
                        rw [HPZ.out, if_neg]
                        rintro ⟨rfl, rfl⟩
                        cases hbb
                      have HBB : Hid (ExpsRes (parseX2 l dr ds xb j xn xa xt xi) w.heap.size (.returned (.tuple #[.agg exZ, .int .i64 11])) (((w5.setCell ⟨g2, 0, none⟩ (.int .i64 0)).setCell ⟨g2, 1, none⟩ (.slice none 0 0)).setCell ⟨g2, 2, none⟩ (.slice none 0 0)) ∧
                          Below w.heap.size w (((w5.setCell ⟨g2, 0, none⟩ (.int .i64 0)).setCell ⟨g2, 1, none⟩ (.slice none 0 0)).setCell ⟨g2, 2, none⟩ (.slice none 0 0))) := hid (by
                        rw [hpn]
                        exact ⟨rfl, ((HU5.out.setCell GE.out _).setCell GE.out _).setCell GE.out _⟩)
                      clear hbb hpn
                      go_wp2_with fail
                      exact bodyPost_ret (v := .tuple #[.agg exZ, .int .i64 11]) (results_ct' Tryd.results20 _ _ g2 47 exZ _ (by rfl) HA5.out.set3 Tryd.underlying47 (by rfl) expsInfo) rfl HBB.out
                    | false =>
                      rw [hbb] at r3
                      have hpn : parseX2 l dr ds xb j xn xa xt xi = some ⟨xb, fnVs l dr ds xa j, nmVs l xt xi xn⟩ := by
                        rw [HPZ.out, if_pos]
                        cases b1 <;> cases b2 <;> simp_all
                      have HBB : Hid (ExpsRes (parseX2 l dr ds xb j xn xa xt xi) w.heap.size (.returned (.tuple #[.agg #[.int .i64 xb, .slice FA j fc, .slice NA xn nc], .int .i64 0])) (((w5.setCell ⟨g2, 0, none⟩ (.int .i64 xb)).setCell ⟨g2, 1, none⟩ (.slice FA j fc)).setCell ⟨g2, 2, none⟩ (.slice NA xn nc)) ∧
                          Below w.heap.size w (((w5.setCell ⟨g2, 0, none⟩ (.int .i64 xb)).setCell ⟨g2, 1, none⟩ (.slice FA j fc)).setCell ⟨g2, 2, none⟩ (.slice NA xn nc))) := hid (by
                        rw [hpn]
                        refine ⟨⟨_, _, rfl, ?_, ?_⟩, ((HU5.out.setCell GE.out _).setCell GE.out _).setCell GE.out _⟩
                        · rw [HF2.out.2.1]
                          exact own_mono (own_set (own_set (own_set HF5.out (p := ⟨g2, 0, none⟩) hg2NB _) (p := ⟨g2, 1, none⟩) hg2NB _) (p := ⟨g2, 2, none⟩) hg2NB _) hwNB
                        · rw [HF2.out.2.2]
                          exact own_mono (own_set (own_set (own_set HN5.out (p := ⟨g2, 0, none⟩) hg2wr _) (p := ⟨g2, 1, none⟩) hg2wr _) (p := ⟨g2, 2, none⟩) hg2wr _) hwwr)
                      clear hbb hpn
                      go_wp2_with fail
                      exact bodyPost_ret (v := .tuple #[.agg #[.int .i64 xb, .slice FA j fc, .slice NA xn nc], .int .i64 0]) (results_ct' Tryd.results20 _ _ g2 47 #[.int .i64 xb, .slice FA j fc, .slice NA xn nc] _ (by rfl) HA5.out.set3 Tryd.underlying47 (by rfl) expsInfo) rfl HBB.out
                  · have hjn : ((j : Int) < (xf : Int)) = True := by simp; omega
                    have HBs := hid (HR.out.below hU)
                    have HLr := hid (HL.out.below hU)
                    have hlt := hOw.lt
                    have nb3 : ∀ k, fv.ownBlock = some k → NB ≤ k := fun k hk => (hlt k hk).1
                    have NB3 := hid nb3
                    obtain ⟨c0, c1, c2, f0, f1, f2⟩ := hE.syms
                    have hU4 := hid (le_U32 A c l ((xa : Int) + 4 * (j : Int)) wr HBs.out)
                    have hv : fnVs l dr ds xa (j + 1) = fnVs l dr ds xa j ++ [fnV l dr ds (numAt l ((xa : Int) + 4 * (j : Int)) 4)] := rfl
                    have hbd : fnBads l dr ds xa (j + 1) = (fnBads l dr ds xa j || fnBad l dr ds (numAt l ((xa : Int) + 4 * (j : Int)) 4)) := rfl
                    have ha4 : numAt l ((xa : Int) + 4 * (j : Int)) 4 < 4294967296 := numAt_lt l _ 4
                    obtain ⟨a4, ha⟩ : ∃ x, numAt l ((xa : Int) + 4 * (j : Int)) 4 = x := ⟨_, rfl⟩
                    rw [ha] at ha4 hv hbd hU4
                    obtain ⟨fd, hfd⟩ : ∃ x, fnV l dr ds (a4 : Int) = x := ⟨_, rfl⟩
                    have HV := hid (hfd ▸ hv)
                    have HBD := hid hbd
                    have HFN : Hid (∀ wd, Drawn wr wd → Calls Tryd.prog 40 #[.pointer (some ⟨g3, 0, none⟩), .int .i64 a4] wd fun e w5 => e = .returned (.agg #[.int .i64 fd.rva, .string (S fd.fwd)]) ∧
                Hid (Blk w5 g2 exZ 47) ∧ Hid (w5.ownsRow NB 52 2 fv j (fcells (fnVs l dr ds xa j))) ∧ Hid (Below w.heap.size w w5) ∧ Hid (NB ≤ w5.heap.size) ∧
                Hid (Blk w5 g3 #[.slice A l.length c, .int .i64 dr, .int .i64 ds, .bool (fnBads l dr ds xa j || fnBad l dr ds a4)] 84) ∧ Hid (Blk w5 g5 #[.int .i64 xb, fv, .slice none 0 0] 47)) := hid (by
              intro wd hwd
              refine (exps_function wd (HLr.out.below hwd.below) g3 A c l dr ds (fnBads l dr ds xa j) (hR.below hwd.below) (HBs.out.below hwd.below) a4 hdr0 hdr1 ha4).mono ?_
              rintro e w5 ⟨rfl, hB5, hO5⟩
              have hO := hwd.only hO5
              refine ⟨?_, hid (hA.only hO n42), hid (own_only hOw hO (fun g h => by have : g = g3 := h; omega)), hid (Only.below hU hO hU.size (fun g h => by have : g = g3 := h; have := GE.out; omega)), hid (Nat.le_trans hNs hO.size), hid hB5, hid (hE.only hO n52)⟩
              rw [hfd]
              rfl)
                    have HFD := hid hfd
                    obtain ⟨i0, hi0, hz0, hz1, hz2⟩ := info_parts infoFunc
                    clear hR hE hA hOw hU hlt nb3 hv hbd ha hfd ha4
                    go_wp2_with fail
                    refine hU4.out.mono ?_
                    rintro e w' ⟨rfl, rfl⟩
                    go_wp2_with fail
                    go_region_law (first
                      | (go_simp; go_at_call 40; refine (HFN.out _ ?_).mono ?_; (first | exact .inl rfl | exact .inr (.inl rfl) | exact .inr (.inr ⟨_, rfl⟩)); rintro e w5 ⟨rfl, HA5, HO5, HU5, HS5, HB5, HE5⟩; obtain ⟨k0, k1, k2, -, f4, -⟩ := HE5.out.syms; have hg5l := HE5.out.lt)
                      | (refine step_append_lies _ (by rfl) _ _ _ (by rfl) NB 52 i0 _ 2 24 Tryd.underlying44 hi0 hz0 hz1 hz2 rfl (by omega) fv j (fcells (fnVs l dr ds xa j)) (by rfl) (by first | exact (own_drewN HO5.out _).alloc _ | exact HO5.out.alloc _)
                           ⟨w5.heap.size, 0, none⟩ 1 1 [.int .i64 fd.rva, .string (S fd.fwd)] (by rfl) (by rfl) (World.news_of_block (cs := #[.int .i64 fd.rva, .string (S fd.fwd)]) (t := 52) (fr := (0, 0)) (heap_alloc_new _ _)) (by simp [Value.oneCell'])
                           (by omega) (by unfold maxLen; omega) (by omega) (by have := HS5.out; simp; omega) (w5.heap.size + 1) (by simp) ?_
                         intro gg cap w6 hown6 hgrow hat hlt
                         have hst := parse_step (by omega) (by omega) hg32 GE.out HB5.out HE5.out HA5.out HO5.out HU5.out HS5.out (by first | exact up_alloc (up_drewN (up_refl _) _) _ | exact up_alloc (up_refl _) _) hgrow hown6
                         have hq : w6.cell? ⟨g5, 1, none⟩ = some fv ∧ w6.frozen? ⟨g5, 1, none⟩ = false := by
                           have far : some g5 ≠ fv.ownBlock := fun e => by have := NB3.out g5 e.symm; omega
                           have := (HE5.out.below (by first | exact up_alloc (up_drewN (up_refl _) _) _ | exact up_alloc (up_refl _) _)).grown' hgrow far
                           exact ⟨this.cell 1, this.free 1⟩
                         obtain ⟨q1, q2⟩ := hq
                         have HST := hid hst
                         clear hst hgrow hat hlt hown6))
                    all_goals
                      go_wp2_with fail
                      go_roundg k
                      case measure => omega
                      case rel =>
                        obtain ⟨s1, s2, s3, s4, s5, s6⟩ := HST.out
                        refine ⟨j + 1, _, rfl, by omega, ?_, s2, s3, ?_, s5, s6⟩
                        · rw [HBD.out]; exact s1
                        · rw [HV.out, fcells_snoc]; exact s4
end Go.Proofs.YtapllnnconpieaaDoor
