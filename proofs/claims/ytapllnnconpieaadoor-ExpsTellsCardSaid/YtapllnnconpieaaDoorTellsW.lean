/- ExpsTells: the walk. -/
import Derived.Test.YtapllnnconpieaaDoorTellsX
import Derived.Test.YtapllnnconpieaaDoorRefExps
import Derived.Test.YtapllnnconpieaaDoorRefFind
import Derived.Test.YtapllnnconpieaaDoorRefSame
import Derived.Test.YtapllnnconpieaaDoorBits
import Derived.Test.YtapllnnconpieaaDoorRows4
import Derived.Outline
set_option linter.unusedVariables false
namespace Go.Proofs.YtapllnnconpieaaDoor
open Go.RowKit

theorem take_short {l : List (List UInt8)} {q : Nat} (h : ∀ s ∈ l.take q, s.length ≤ 100) (hn : ∀ hq : q < l.length, l[q].length ≤ 100) : ∀ s ∈ l.take (q + 1), s.length ≤ 100 := by
  by_cases hq : q < l.length
  · intro s hs
    rw [take_snoc l q hq, List.mem_append, List.mem_singleton] at hs
    rcases hs with hs | rfl
    · exact h s hs
    · exact hn hq
  · rw [List.take_of_length_le (by omega)]
    rw [List.take_of_length_le (by omega)] at h
    exact h

set_option maxRecDepth 100000 in
set_option maxHeartbeats 16000000 in
theorem walk_ExpsTells (w : World) (hk : LibOk w) (A0 : Option Addr) (c0 : Nat) (l0 : List UInt8) (h0 : Bs w A0 c0 l0) (h0l : l0.length ≤ 140737488351232) (dr : Int) (wdr : (Lit.int .i64 dr).wf = true) (ds : Int) (wds : (Lit.int .i64 ds).wf = true)
    (FA : Option Addr) (fc : Nat) (fs : List (List UInt8)) (hfc : fs.length ≤ fc) (hf47 : fs.length ≤ 140737488355328) (hF : Row w FA (strs fs)) (NA : Option Addr) (nc : Nat) (ns : List (List UInt8)) (hnc : ns.length ≤ nc) (hn47 : ns.length ≤ 140737488355328) (hN : Row w NA (strs ns))
    (a4 : Int) (wa4 : (Lit.int .i64 a4).wf = true) (a5 : Int) (wa5 : (Lit.int .i64 a5).wf = true) (a6 : Int) (wa6 : (Lit.int .u8 a6).wf = true) (nm : List UInt8) (wn : nm.length ≤ maxLen) (od : Int) (wo : (Lit.int .i64 od).wf = true) (byo : Bool) :
    Calls Tryd.prog 9 #[.slice A0 l0.length c0, .agg #[.int .i64 dr, .int .i64 ds], .slice FA fs.length fc, .slice NA ns.length nc, .int .i64 a4, .int .i64 a5, .int .u8 a6, .agg #[.string (S nm), .int .i64 od, .bool byo]] w fun e w' => e = .returned (.bool true) ∧ Below w.heap.size w w' := by
  have HK := hid hk
  have H0 := hid h0
  have HF := hid hF
  have HN := hid hN
  obtain ⟨dr0, dr1⟩ := wf_i64 wdr
  obtain ⟨ds0, ds1⟩ := wf_i64 wds
  obtain ⟨od0, od1⟩ := wf_i64 wo
  have hsn := S_size nm
  have e4 : 0 ≤ bits .and .i64 a4 255 ∧ bits .and .i64 a4 255 ≤ 255 := and_le_i64 a4 255 (by omega)
  obtain ⟨b4, hb4⟩ := Int.eq_ofNat_of_zero_le e4.1
  have hb4' : bits .and .i64 a4 255 = (b4 : Int) := hb4
  have b4l : b4 ≤ 255 := by omega
  have HB4 := hid hb4'
  have WA5 := hid wa5
  clear hk h0 hF hN wdr wds wo wa4 wa5 wa6 e4 hb4
  have U0 := hid (up_refl w)
  obtain ⟨g1, hg1⟩ : ∃ g, w.heap.size = g := ⟨_, rfl⟩
  obtain ⟨x1, hx1⟩ : ∃ zz, w.alloc (.cells #[(.int .i64 dr), (.int .i64 ds)] 41) = zz := ⟨_, rfl⟩
  have b1 : Blk x1 w.heap.size #[(.int .i64 dr), (.int .i64 ds)] 41 := hx1 ▸ Blk.new _ _ _
  have V1 : Hid (Below w.heap.size w x1) := hid (hx1 ▸ up_alloc (up_refl _) _)
  have N1 : Hid (Below w.heap.size w x1) := hid (up_trans U0.out V1.out)
  have G1 : Hid (w.heap.size ≤ g1) := hid (by rw [← hg1]; exact U0.out.size)
  rw [hg1] at b1
  have l1 : g1 < x1.heap.size := b1.lt
  have c1_0 : x1.cell? ⟨g1, 0, none⟩ = some (.int .i64 dr) := b1.cell 0
  have f1_0 : x1.frozen? ⟨g1, 0, none⟩ = false := b1.free 0
  have c1_1 : x1.cell? ⟨g1, 1, none⟩ = some (.int .i64 ds) := b1.cell 1
  have f1_1 : x1.frozen? ⟨g1, 1, none⟩ = false := b1.free 1
  have B1 := hid b1
  clear b1
  obtain ⟨g2, hg2⟩ : ∃ g, x1.heap.size = g := ⟨_, rfl⟩
  obtain ⟨x2, hx2⟩ : ∃ zz, x1.alloc (.cells #[(.string (S nm)), (.int .i64 od), (.bool byo)] 24) = zz := ⟨_, rfl⟩
  have b2 : Blk x2 x1.heap.size #[(.string (S nm)), (.int .i64 od), (.bool byo)] 24 := hx2 ▸ Blk.new _ _ _
  have V2 : Hid (Below x1.heap.size x1 x2) := hid (hx2 ▸ up_alloc (up_refl _) _)
  have N2 : Hid (Below w.heap.size w x2) := hid (up_trans N1.out V2.out)
  have G2 : Hid (w.heap.size ≤ g2) := hid (by rw [← hg2]; exact N1.out.size)
  rw [hg2] at b2
  have l2 : g2 < x2.heap.size := b2.lt
  have c2_0 : x2.cell? ⟨g2, 0, none⟩ = some (.string (S nm)) := b2.cell 0
  have f2_0 : x2.frozen? ⟨g2, 0, none⟩ = false := b2.free 0
  have c2_1 : x2.cell? ⟨g2, 1, none⟩ = some (.int .i64 od) := b2.cell 1
  have f2_1 : x2.frozen? ⟨g2, 1, none⟩ = false := b2.free 1
  have c2_2 : x2.cell? ⟨g2, 2, none⟩ = some (.bool byo) := b2.cell 2
  have f2_2 : x2.frozen? ⟨g2, 2, none⟩ = false := b2.free 2
  have B2 := hid b2
  clear b2
  have B1' := hid (B1.out.below V2.out)
  have HG1 : Hid (w.heap.size = g1) := hg1
  clear f1_0 f1_1 f2_0 f2_1 f2_2 c1_0 c1_1 V1 V2
  by_cases hl : 400 < l0.length
  · have hl2 : decide ((400 : Int) < (l0.length : Int)) = true := decide_eq_true (by omega)
    clear hl
    go_enter Tryd.func9, Tryd.ntmps9
    go_wp2_with fail
    refine (law7_awake _ (HK.out.below N2.out)).mono ?_
    rintro e w16 ⟨rfl, b16⟩
    have U16 := hid (up_trans N2.out b16)
    clear b16
    go_wp2_with fail
    go_ret
    exact ⟨rfl, HG1.out ▸ U16.out⟩
  · have hl2 : decide ((400 : Int) < (l0.length : Int)) = false := decide_eq_false (by omega)
    by_cases hnl : 100 < nm.length
    · have hn2 : decide ((100 : Int) < (nm.length : Int)) = true := decide_eq_true (by omega)
      clear hl hnl
      go_enter Tryd.func9, Tryd.ntmps9
      go_wp2_with fail
      refine (law7_awake _ (HK.out.below N2.out)).mono ?_
      rintro e w16 ⟨rfl, b16⟩
      have U16 := hid (up_trans N2.out b16)
      clear b16
      go_wp2_with fail
      go_ret
      exact ⟨rfl, HG1.out ▸ U16.out⟩
    · have hn2 : decide ((100 : Int) < (nm.length : Int)) = false := decide_eq_false (by omega)
      go_enter Tryd.func9, Tryd.ntmps9
      go_wp2_with fail
      clear hg1 hx1 hg2 hx2 c2_0 c2_1 c2_2 hl hnl
      go_loopg [17] 12 (fun k i wx => ∃ q : Nat, i = .int .i64 q ∧ q + k = 12 ∧ x2 = wx ∧ Hid (∀ s ∈ fs.take q, s.length ≤ 100) ∧ Hid (∀ s ∈ ns.take q, s.length ≤ 100))
      case atStart => exact ⟨0, rfl, by omega, rfl, by simp [Hid], by simp [Hid]⟩
      case round =>
        obtain ⟨q, rfl, hq, rfl, HFQ, HNQ⟩ := hrel
        rcases gk with _ | k
        · have hqn : ((q : Int) < 12) = False := by simp; omega
          obtain rfl : q = 12 := by omega
          have HM := hid (law7_Made x2 b4 FA NA fc nc fs ns (HF.out.below N2.out) (HN.out.below N2.out) (by omega) hf47 hn47 hfc hnc HFQ.out HNQ.out)
          have hbd := atF_bd fs ns b4 HFQ.out HNQ.out
          have hbb := atB_bd fs ns b4 HFQ.out
          obtain ⟨img, himg⟩ : ∃ z, atF 256 fs ns b4 = z := ⟨_, rfl⟩
          obtain ⟨L, hL⟩ : ∃ z, ((atB 256 fs ns b4).length : Int) - 256 = z := ⟨_, rfl⟩
          have L0 : -256 ≤ L ∧ L ≤ 2000 := by omega
          rw [himg, hL] at HM
          rw [himg] at hbd
          obtain ⟨L1, L2⟩ := L0
          obtain ⟨i1, i2⟩ := hbd
          clear himg hL hbb
          go_wp2_with fail
          refine HM.out.mono ?_
          rintro e w5 ⟨v5, rfl, o5, b5⟩
          have U5 := hid (up_trans N2.out b5)
          have W5 := hid b5
          obtain ⟨g5, c5, rfl, -, -, hbs5⟩ := o5.bs
          have B5 := hid hbs5
          clear o5 b5 hbs5 HM
          obtain ⟨g6, hg6⟩ : ∃ g, w5.heap.size = g := ⟨_, rfl⟩
          obtain ⟨x6, hx6⟩ : ∃ zz, w5.alloc (.cells #[(.int .i64 0), (.int .i64 0)] 41) = zz := ⟨_, rfl⟩
          have b6 : Blk x6 w5.heap.size #[(.int .i64 0), (.int .i64 0)] 41 := hx6 ▸ Blk.new _ _ _
          have V6 : Hid (Below w5.heap.size w5 x6) := hid (hx6 ▸ up_alloc (up_refl _) _)
          have N6 : Hid (Below w.heap.size w x6) := hid (up_trans U5.out V6.out)
          have G6 : Hid (w.heap.size ≤ g6) := hid (by rw [← hg6]; exact U5.out.size)
          rw [hg6] at b6
          have l6 : g6 < x6.heap.size := b6.lt
          have c6_0 : x6.cell? ⟨g6, 0, none⟩ = some (.int .i64 0) := b6.cell 0
          have f6_0 : x6.frozen? ⟨g6, 0, none⟩ = false := b6.free 0
          have c6_1 : x6.cell? ⟨g6, 1, none⟩ = some (.int .i64 0) := b6.cell 1
          have f6_1 : x6.frozen? ⟨g6, 1, none⟩ = false := b6.free 1
          have B6 := hid b6
          clear b6
          obtain ⟨w7, hw7⟩ : ∃ zz, (x6.setCell ⟨g6, 0, none⟩ (.int .i64 256)).setCell ⟨g6, 1, none⟩ (.int .i64 L) = zz := ⟨_, rfl⟩
          have U7 : Hid (Below w.heap.size w w7) := hid (hw7 ▸ (N6.out.setCell G6.out _).setCell G6.out _)
          have V7 : Hid (Below w5.heap.size w5 w7) := hid (hw7 ▸ (V6.out.setCell (p := ⟨g6, 0, none⟩) (by rw [hg6]; exact Nat.le_refl _) _).setCell (p := ⟨g6, 1, none⟩) (by rw [hg6]; exact Nat.le_refl _) _)
          have B7 : Hid (Blk w7 g6 #[.int .i64 256, .int .i64 L] 41) := hid (hw7 ▸ B6.out.set2)
          have W7 := hid (up_trans W5.out V7.out)
          have I7 := hid (B5.out.below V7.out)
          have e5 : 0 ≤ bits .and .i64 a5 65535 ∧ bits .and .i64 a5 65535 ≤ 65535 := and_le_i64 a5 65535 (by omega)
          obtain ⟨b5, hb5⟩ := Int.eq_ofNat_of_zero_le e5.1
          have hb5' : bits .and .i64 a5 65535 = (b5 : Int) := hb5
          have b5l : b5 ≤ 65535 := by omega
          obtain ⟨r, hr⟩ : ∃ r, b5 % (img.length - 256) = r := ⟨_, rfl⟩
          have hrl : 256 + r < img.length := by
            have : b5 % (img.length - 256) < img.length - 256 := Nat.mod_lt _ (by omega)
            omega
          have hmod : (b5 : Int) % ((img.length : Int) - 256) = (r : Int) := by
            have : (img.length : Int) - 256 = ((img.length - 256 : Nat) : Int) := by omega
            rw [this, ← hr]
            rfl
          have htm : (b5 : Int).tmod ((img.length : Int) - 256) = (r : Int) := by rw [Int.tmod_eq_emod_of_nonneg (by omega)]; exact hmod
          obtain ⟨x8, hx8⟩ : ∃ zz, w7.alloc (.cells #[] 5) = zz := ⟨_, rfl⟩
          obtain ⟨g8, hg8⟩ : ∃ g, w7.heap.size = g := ⟨_, rfl⟩
          have O8 : Hid (OwnB x8 g8 (.slice (some ⟨g8, 0, none⟩) 0 0) []) := hid (by
            have := ownB_empty w7
            rw [hx8, hg8] at this
            exact this)
          have V8 : Hid (Below w7.heap.size w7 x8) := hid (hx8 ▸ up_alloc (up_refl _) _)
          have I8 := hid (I7.out.below V8.out)
          have S8 : Hid (g8 ≤ x8.heap.size) := hid (by have := V8.out.size; omega)
          clear e5 hb5 hr hmod V6 B6 N6 G6
          go_wp2_with (at_builtin; refine wp_appB (o := ⟨some 85, _, _, _, _, _⟩) rfl _ _ rfl infoByte g8 (.slice (some ⟨g8, 0, none⟩) 0 0) [] img ⟨g5, 0, none⟩ c5 (by rfl) O8.out (by rfl) I8.out (by simp; omega) S8.out ?_; intro v9 w9 o9 b9; rw [List.nil_append] at o9; have V9 := hid (b9 w7 (hg8 ▸ V8.out)); have O9 := hid o9; obtain ⟨g9, c9, rfl, hgb, hgl, hbs9⟩ := o9.bs; obtain ⟨q1, q2, q3⟩ := o9.get1 hrl _ rfl; obtain ⟨z, hz⟩ := xor_u8 ((img[256 + r].toNat : Nat) : Int) a6; clear o9 b9 hbs9)
          obtain ⟨wL, hwL⟩ : ∃ zz, w9.setCell ⟨g9, 256 + r, none⟩ (.int .u8 (z.toNat : Int)) = zz := ⟨_, rfl⟩
          rw [hwL]
          have VL : Hid (Below w7.heap.size w7 wL) := hid (by
            rw [← hwL, hg8]
            exact V9.out.setCell (p := ⟨g9, 256 + r, none⟩) hgb _)
          have UL := hid (up_trans U7.out VL.out)
          have XL := hid (up_trans W7.out VL.out)
          have CL : Hid (Bs wL (some ⟨g9, 0, none⟩) c9 (img.set (256 + r) z)) := hid (by
            obtain ⟨g', c', e', -, -, hbs⟩ := (q3 z _ rfl).bs
            rw [hwL] at hbs
            simp only [Value.slice.injEq, Option.some.injEq, Addr.mk.injEq, and_true] at e'
            obtain ⟨rfl, -, rfl⟩ := e'
            exact hbs)
          have IL := hid (I7.out.below VL.out)
          have ML := hid (B7.out.below VL.out)
          have RL := hid (H0.out.below UL.out)
          have DL := hid (B1'.out.below XL.out)
          have SL := hid (B2.out.below XL.out)
          have KL := hid (HK.out.below UL.out)
          have hcl : (img.set (256 + r) z).length = img.length := List.length_set
          obtain ⟨cim, hcim⟩ : ∃ z', img.set (256 + r) z = z' := ⟨_, rfl⟩
          rw [hcim] at CL hcl
          have HCL := hid hcl
          clear hwL hcim hcl q1 q2 q3 hz hx8 hg8 hw7 hx6 hg6 c6_0 c6_1 f6_0 f6_1 htm hb5' hb4' V9 O9 O8 I8 V8 S8 hgb hgl
          go_loopg [21] 4 (fun k i wx => ∃ q : Nat, i = .int .i64 q ∧ q + k = 4 ∧ Below wL.heap.size wL wx)
          case atStart => exact ⟨0, rfl, by omega, up_refl _⟩
          case round =>
            obtain ⟨q, rfl, hq, hub⟩ := hrel
            have HUB := hid hub
            have UR := hid (up_trans UL.out hub)
            clear hub
            rcases gk with _ | k
            · have hqn : ((q : Int) < 4) = False := by simp; omega
              go_wp2_with fail
              refine (law7_awake _ (HK.out.below UR.out)).mono ?_
              rintro e w16 ⟨rfl, b16⟩
              have U16 := hid (up_trans UR.out b16)
              clear b16
              go_wp2_with fail
              go_ret
              exact ⟨rfl, HG1.out ▸ U16.out⟩
            · have hqn : ((q : Int) < 4) = True := by simp; omega
              have hq4 : q < 4 := by omega
              go_upto_region 14 with fail
              go_cut [22] (fun u wb => ∃ (A : Option Addr) (c : Nat) (l : List UInt8), u = .slice A l.length c ∧ Bs wL A c l ∧ l.length ≤ 140737488351232 ∧ Below wr.heap.size wr wb)
              case first =>
                have hpick : ∃ (A : Option Addr) (c : Nat) (l : List UInt8), Bs wL A c l ∧ l.length ≤ 140737488351232 ∧ (#[Value.slice A0 l0.length c0, .slice (some ⟨g5, 0, none⟩) img.length c5, .slice (some ⟨g9, 0, none⟩) img.length c9, .slice (some ⟨g5, 0, none⟩) img.length c5] : Array Value)[q]? = some (.slice A l.length c) := by
                  obtain rfl | rfl | rfl | rfl : q = 0 ∨ q = 1 ∨ q = 2 ∨ q = 3 := by omega
                  · exact ⟨_, _, _, RL.out, h0l, rfl⟩
                  · exact ⟨_, _, _, IL.out, by omega, rfl⟩
                  · exact ⟨_, _, _, CL.out, by rw [HCL.out]; omega, by rw [HCL.out]; rfl⟩
                  · exact ⟨_, _, _, IL.out, by omega, rfl⟩
                obtain ⟨A, c, l, hbs, hll, hval⟩ := hpick
                have HB := hid hbs
                obtain ⟨g20, hg20⟩ : ∃ g, wr.heap.size = g := ⟨_, rfl⟩
                obtain ⟨x20, hx20⟩ : ∃ zz, wr.alloc (.cells #[Value.slice A0 l0.length c0, .slice (some ⟨g5, 0, none⟩) img.length c5, .slice (some ⟨g9, 0, none⟩) img.length c9, .slice (some ⟨g5, 0, none⟩) img.length c5] 22) = zz := ⟨_, rfl⟩
                have V20 : Hid (Below wr.heap.size wr x20) := hid (hx20 ▸ up_alloc (up_refl _) _)
                have hcell : x20.cell? ⟨g20, q, none⟩ = some (.slice A l.length c) := by
                  rw [← hx20, ← hg20]
                  exact ((Blk.new wr _ _).cell q).trans hval
                clear hbs hval
                go_wp2_with fail
                go_meet
                exact ⟨A, c, l, rfl, HB.out, hll, V20.out⟩
              case rest =>
                obtain ⟨A, c, l, rfl, hbs, hll, hub⟩ := hcut
                have HB := hid hbs
                have QC := hid hub
                have UC := hid (up_trans UR.out hub)
                have DC := hid ((DL.out.below HUB.out).below hub)
                have MC := hid ((ML.out.below HUB.out).below hub)
                clear hbs hub
                have b21 := DC.out
                have c21_0 : wc.cell? ⟨g1, 0, none⟩ = some (.int .i64 dr) := b21.cell 0
                have f21_0 : wc.frozen? ⟨g1, 0, none⟩ = false := b21.free 0
                have c21_1 : wc.cell? ⟨g1, 1, none⟩ = some (.int .i64 ds) := b21.cell 1
                have f21_1 : wc.frozen? ⟨g1, 1, none⟩ = false := b21.free 1
                clear b21
                have b22 := MC.out
                have c22_0 : wc.cell? ⟨g6, 0, none⟩ = some (.int .i64 256) := b22.cell 0
                have f22_0 : wc.frozen? ⟨g6, 0, none⟩ = false := b22.free 0
                have c22_1 : wc.cell? ⟨g6, 1, none⟩ = some (.int .i64 L) := b22.cell 1
                have f22_1 : wc.frozen? ⟨g6, 1, none⟩ = false := b22.free 1
                clear b22
                clear f21_0 f21_1 f22_0 f22_1
                go_upto_region 15 with fail
                obtain ⟨wd, rfl⟩ : ∃ zz, zz = wc := ⟨_, rfl⟩
                go_cut [23] (fun u wb => ∃ (g : Nat) (d s : Int), u = .pointer (some ⟨g, 0, none⟩) ∧ Blk wb g #[.int .i64 d, .int .i64 s] 41 ∧ (-9223372036854775808 ≤ d ∧ d ≤ 9223372036854775807 ∧ -9223372036854775808 ≤ s ∧ s ≤ 9223372036854775807) ∧ Below wd.heap.size wd wb)
                case first =>
                  have hpick : ∃ d s : Int, (-9223372036854775808 ≤ d ∧ d ≤ 9223372036854775807 ∧ -9223372036854775808 ≤ s ∧ s ≤ 9223372036854775807) ∧ (#[Value.int .i64 dr, .int .i64 ds, .int .i64 256, .int .i64 L, .int .i64 256, .int .i64 L, .int .i64 dr, .int .i64 ds] : Array Value)[q * 2]? = some (.int .i64 d) ∧ (#[Value.int .i64 dr, .int .i64 ds, .int .i64 256, .int .i64 L, .int .i64 256, .int .i64 L, .int .i64 dr, .int .i64 ds] : Array Value)[q * 2 + 1]? = some (.int .i64 s) := by
                    obtain rfl | rfl | rfl | rfl : q = 0 ∨ q = 1 ∨ q = 2 ∨ q = 3 := by omega
                    · exact ⟨_, _, ⟨dr0, dr1, ds0, ds1⟩, rfl, rfl⟩
                    · exact ⟨_, _, ⟨by omega, by omega, by omega, by omega⟩, rfl, rfl⟩
                    · exact ⟨_, _, ⟨by omega, by omega, by omega, by omega⟩, rfl, rfl⟩
                    · exact ⟨_, _, ⟨dr0, dr1, ds0, ds1⟩, rfl, rfl⟩
                  obtain ⟨d, s, hbds, hv0, hv1⟩ := hpick
                  have HBDS := hid hbds
                  obtain ⟨g20, hg20⟩ : ∃ g, wd.heap.size = g := ⟨_, rfl⟩
                  obtain ⟨x20, hx20⟩ : ∃ zz, wd.alloc (.cells #[Value.int .i64 dr, .int .i64 ds, .int .i64 256, .int .i64 L, .int .i64 256, .int .i64 L, .int .i64 dr, .int .i64 ds] 41) = zz := ⟨_, rfl⟩
                  have V20 : Hid (Below wd.heap.size wd x20) := hid (hx20 ▸ up_alloc (up_refl _) _)
                  have k0 : x20.cell? ⟨g20, q * 2, none⟩ = some (.int .i64 d) := by
                    rw [← hx20, ← hg20]
                    exact ((Blk.new wd _ _).cell (q * 2)).trans hv0
                  have k1 : x20.cell? ⟨g20, q * 2 + 1, none⟩ = some (.int .i64 s) := by
                    rw [← hx20, ← hg20]
                    exact ((Blk.new wd _ _).cell (q * 2 + 1)).trans hv1
                  clear hbds hv0 hv1
                  have UD := hid (up_trans UC.out V20.out)
                  obtain ⟨g23, hg23⟩ : ∃ g, x20.heap.size = g := ⟨_, rfl⟩
                  obtain ⟨x23, hx23⟩ : ∃ zz, x20.alloc (.cells #[(.int .i64 0), (.int .i64 0)] 41) = zz := ⟨_, rfl⟩
                  have b23 : Blk x23 x20.heap.size #[(.int .i64 0), (.int .i64 0)] 41 := hx23 ▸ Blk.new _ _ _
                  have V23 : Hid (Below x20.heap.size x20 x23) := hid (hx23 ▸ up_alloc (up_refl _) _)
                  have N23 : Hid (Below w.heap.size w x23) := hid (up_trans UD.out V23.out)
                  have G23 : Hid (w.heap.size ≤ g23) := hid (by rw [← hg23]; exact UD.out.size)
                  rw [hg23] at b23
                  have l23 : g23 < x23.heap.size := b23.lt
                  have c23_0 : x23.cell? ⟨g23, 0, none⟩ = some (.int .i64 0) := b23.cell 0
                  have f23_0 : x23.frozen? ⟨g23, 0, none⟩ = false := b23.free 0
                  have c23_1 : x23.cell? ⟨g23, 1, none⟩ = some (.int .i64 0) := b23.cell 1
                  have f23_1 : x23.frozen? ⟨g23, 1, none⟩ = false := b23.free 1
                  have B23 := hid b23
                  clear b23
                  have B24 : Hid (Blk ((x23.setCell ⟨g23, 0, none⟩ (.int .i64 d)).setCell ⟨g23, 1, none⟩ (.int .i64 s)) g23 #[.int .i64 d, .int .i64 s] 41) := hid B23.out.set2
                  have V24 : Hid (Below wd.heap.size wd ((x23.setCell ⟨g23, 0, none⟩ (.int .i64 d)).setCell ⟨g23, 1, none⟩ (.int .i64 s))) := hid (up_trans V20.out ((V23.out.setCell (p := ⟨g23, 0, none⟩) (by rw [hg23]; exact Nat.le_refl _) _).setCell (p := ⟨g23, 1, none⟩) (by rw [hg23]; exact Nat.le_refl _) _))
                  go_wp2_with fail
                  go_meet
                  exact ⟨g23, d, s, rfl, B24.out, HBDS.out, V24.out⟩
                case rest =>
                  obtain ⟨gd, d, s, rfl, hBd, ⟨t0, t1, t2, t3⟩, hub⟩ := hcut
                  have BD := hid hBd
                  have ZL := hid (up_trans (up_trans HUB.out QC.out) hub)
                  have UD := hid (up_trans UC.out hub)
                  have SX := hid (small_parse l d s)
                  have HPA := hid (exps_Parse wc (KL.out.below ZL.out) A c l (HB.out.below ZL.out) d s t0 t1 t2 t3)
                  have HRE := hid (fun w => ref_Exports w l d s hll t0 t1 t2 t3)
                  obtain ⟨R, hR⟩ : ∃ R, parseX l d s = R := ⟨_, rfl⟩
                  rw [hR] at SX HPA HRE
                  clear hBd hub hR c21_0 c21_1 c22_0 c22_1
                  have b24 := BD.out
                  have c24_0 : wc.cell? ⟨gd, 0, none⟩ = some (.int .i64 d) := b24.cell 0
                  have f24_0 : wc.frozen? ⟨gd, 0, none⟩ = false := b24.free 0
                  have c24_1 : wc.cell? ⟨gd, 1, none⟩ = some (.int .i64 s) := b24.cell 1
                  have f24_1 : wc.frozen? ⟨gd, 1, none⟩ = false := b24.free 1
                  clear b24
                  clear f24_0 f24_1
                  go_wp2_with fail
                  refine HPA.out.mono ?_
                  rintro e w30 ⟨hres, b30⟩
                  obtain ⟨F1, fc1, M1, mc1, rfl, ex1⟩ := expsRes_ex hres SX.out
                  have U30 := hid (up_trans UD.out b30)
                  have Z30 := hid (up_trans ZL.out b30)
                  have BD30 := hid (BD.out.below b30)
                  have EX30 := hid ex1
                  obtain ⟨x, hx⟩ : ∃ x, R.getD exN0 = x := ⟨_, rfl⟩
                  obtain ⟨cd, hcd⟩ : ∃ x, codeX R = x := ⟨_, rfl⟩
                  have HX := hid hx
                  have HCD := hid hcd
                  rw [hx] at EX30
                  rw [hx, hcd]
                  clear hres b30 ex1 hx hcd HPA c24_0 c24_1
                  obtain ⟨g31, hg31⟩ : ∃ g, w30.heap.size = g := ⟨_, rfl⟩
                  obtain ⟨x31, hx31⟩ : ∃ zz, w30.alloc (.cells #[(.int .i64 0), (.slice none 0 0), (.slice none 0 0)] 47) = zz := ⟨_, rfl⟩
                  have b31 : Blk x31 w30.heap.size #[(.int .i64 0), (.slice none 0 0), (.slice none 0 0)] 47 := hx31 ▸ Blk.new _ _ _
                  have V31 : Hid (Below w30.heap.size w30 x31) := hid (hx31 ▸ up_alloc (up_refl _) _)
                  have N31 : Hid (Below w.heap.size w x31) := hid (up_trans U30.out V31.out)
                  have G31 : Hid (w.heap.size ≤ g31) := hid (by rw [← hg31]; exact U30.out.size)
                  rw [hg31] at b31
                  have l31 : g31 < x31.heap.size := b31.lt
                  have c31_0 : x31.cell? ⟨g31, 0, none⟩ = some (.int .i64 0) := b31.cell 0
                  have f31_0 : x31.frozen? ⟨g31, 0, none⟩ = false := b31.free 0
                  have c31_1 : x31.cell? ⟨g31, 1, none⟩ = some (.slice none 0 0) := b31.cell 1
                  have f31_1 : x31.frozen? ⟨g31, 1, none⟩ = false := b31.free 1
                  have c31_2 : x31.cell? ⟨g31, 2, none⟩ = some (.slice none 0 0) := b31.cell 2
                  have f31_2 : x31.frozen? ⟨g31, 2, none⟩ = false := b31.free 2
                  have B31 := hid b31
                  clear b31
                  obtain ⟨w32, hw32⟩ : ∃ zz, ((x31.setCell ⟨g31, 0, none⟩ (.int .i64 x.base)).setCell ⟨g31, 1, none⟩ (.slice F1 x.funcs.length fc1)).setCell ⟨g31, 2, none⟩ (.slice M1 x.names.length mc1) = zz := ⟨_, rfl⟩
                  have V32 : Hid (Below w30.heap.size w30 w32) := hid (hw32 ▸ ((V31.out.setCell (p := ⟨g31, 0, none⟩) (by rw [hg31]; exact Nat.le_refl _) _).setCell (p := ⟨g31, 1, none⟩) (by rw [hg31]; exact Nat.le_refl _) _).setCell (p := ⟨g31, 2, none⟩) (by rw [hg31]; exact Nat.le_refl _) _)
                  have E32 : Hid (Blk w32 g31 #[.int .i64 x.base, .slice F1 x.funcs.length fc1, .slice M1 x.names.length mc1] 47) := hid (hw32 ▸ B31.out.set3)
                  have U32 := hid (up_trans U30.out V32.out)
                  have Z32 := hid (up_trans Z30.out V32.out)
                  have BD32 := hid (BD30.out.below V32.out)
                  have EX32 := hid (EX30.out.below V32.out)
                  have hcv : (convert 22 9 (.slice A l.length c)).run Tryd.prog w32 = .ok (.string (S l)) w32 := run_str w32 _ _ 5 Tryd.underlying22 Tryd.underlying5 Tryd.underlying9 A l.length c l rfl (HB.out.below Z32.out).row
                  have b32 := BD32.out
                  have c32_0 : w32.cell? ⟨gd, 0, none⟩ = some (.int .i64 d) := b32.cell 0
                  have f32_0 : w32.frozen? ⟨gd, 0, none⟩ = false := b32.free 0
                  have c32_1 : w32.cell? ⟨gd, 1, none⟩ = some (.int .i64 s) := b32.cell 1
                  have f32_1 : w32.frozen? ⟨gd, 1, none⟩ = false := b32.free 1
                  clear b32
                  clear f32_0 f32_1
                  go_wp2_with fail
                  refine (HRE.out _).mono ?_
                  rintro e w33 ⟨hres, b33⟩
                  obtain ⟨F2, fc2, M2, mc2, rfl, ex2⟩ := expsRes_ex hres SX.out
                  have U33 := hid (up_trans U32.out b33)
                  have Z33 := hid (up_trans Z32.out b33)
                  have E33 := hid (E32.out.below b33)
                  have EX33 := hid (EX32.out.below b33)
                  have EY33 := hid ex2
                  have SX2 := SX
                  rw [HX.out] at EY33 SX2
                  rw [HX.out, HCD.out]
                  clear hres b33 ex2 hcv hw32 hx31 hg31 c31_0 c31_1 c31_2 f31_0 f31_1 f31_2 c32_0 c32_1 HRE
                  obtain ⟨g34, hg34⟩ : ∃ g, w33.heap.size = g := ⟨_, rfl⟩
                  obtain ⟨x34, hx34⟩ : ∃ zz, w33.alloc (.cells #[(.int .i64 0), (.slice none 0 0), (.slice none 0 0)] 47) = zz := ⟨_, rfl⟩
                  have b34 : Blk x34 w33.heap.size #[(.int .i64 0), (.slice none 0 0), (.slice none 0 0)] 47 := hx34 ▸ Blk.new _ _ _
                  have V34 : Hid (Below w33.heap.size w33 x34) := hid (hx34 ▸ up_alloc (up_refl _) _)
                  have N34 : Hid (Below w.heap.size w x34) := hid (up_trans U33.out V34.out)
                  have G34 : Hid (w.heap.size ≤ g34) := hid (by rw [← hg34]; exact U33.out.size)
                  rw [hg34] at b34
                  have l34 : g34 < x34.heap.size := b34.lt
                  have c34_0 : x34.cell? ⟨g34, 0, none⟩ = some (.int .i64 0) := b34.cell 0
                  have f34_0 : x34.frozen? ⟨g34, 0, none⟩ = false := b34.free 0
                  have c34_1 : x34.cell? ⟨g34, 1, none⟩ = some (.slice none 0 0) := b34.cell 1
                  have f34_1 : x34.frozen? ⟨g34, 1, none⟩ = false := b34.free 1
                  have c34_2 : x34.cell? ⟨g34, 2, none⟩ = some (.slice none 0 0) := b34.cell 2
                  have f34_2 : x34.frozen? ⟨g34, 2, none⟩ = false := b34.free 2
                  have B34 := hid b34
                  clear b34
                  obtain ⟨w35, hw35⟩ : ∃ zz, ((x34.setCell ⟨g34, 0, none⟩ (.int .i64 x.base)).setCell ⟨g34, 1, none⟩ (.slice F2 x.funcs.length fc2)).setCell ⟨g34, 2, none⟩ (.slice M2 x.names.length mc2) = zz := ⟨_, rfl⟩
                  have V35 : Hid (Below w33.heap.size w33 w35) := hid (hw35 ▸ ((V34.out.setCell (p := ⟨g34, 0, none⟩) (by rw [hg34]; exact Nat.le_refl _) _).setCell (p := ⟨g34, 1, none⟩) (by rw [hg34]; exact Nat.le_refl _) _).setCell (p := ⟨g34, 2, none⟩) (by rw [hg34]; exact Nat.le_refl _) _)
                  have E35 : Hid (Blk w35 g34 #[.int .i64 x.base, .slice F2 x.funcs.length fc2, .slice M2 x.names.length mc2] 47) := hid (hw35 ▸ B34.out.set3)
                  have U35 := hid (up_trans U33.out V35.out)
                  have Z35 := hid (up_trans Z33.out V35.out)
                  have E35' := hid (E33.out.below V35.out)
                  have EX35 := hid (EX33.out.below V35.out)
                  have EY35 := hid (EY33.out.below V35.out)
                  have HSA := hid (ref_SameExports w35 x x _ _ EX35.out EY35.out)
                  rw [sameE_refl] at HSA
                  have b35 := E35.out
                  have c35_0 : w35.cell? ⟨g34, 0, none⟩ = some (.int .i64 x.base) := b35.cell 0
                  have f35_0 : w35.frozen? ⟨g34, 0, none⟩ = false := b35.free 0
                  have c35_1 : w35.cell? ⟨g34, 1, none⟩ = some (.slice F2 x.funcs.length fc2) := b35.cell 1
                  have f35_1 : w35.frozen? ⟨g34, 1, none⟩ = false := b35.free 1
                  have c35_2 : w35.cell? ⟨g34, 2, none⟩ = some (.slice M2 x.names.length mc2) := b35.cell 2
                  have f35_2 : w35.frozen? ⟨g34, 2, none⟩ = false := b35.free 2
                  clear b35
                  have b36 := E35'.out
                  have c36_0 : w35.cell? ⟨g31, 0, none⟩ = some (.int .i64 x.base) := b36.cell 0
                  have f36_0 : w35.frozen? ⟨g31, 0, none⟩ = false := b36.free 0
                  have c36_1 : w35.cell? ⟨g31, 1, none⟩ = some (.slice F1 x.funcs.length fc1) := b36.cell 1
                  have f36_1 : w35.frozen? ⟨g31, 1, none⟩ = false := b36.free 1
                  have c36_2 : w35.cell? ⟨g31, 2, none⟩ = some (.slice M1 x.names.length mc1) := b36.cell 2
                  have f36_2 : w35.frozen? ⟨g31, 2, none⟩ = false := b36.free 2
                  clear b36
                  clear f35_0 f35_1 f35_2 f36_0 f36_1 f36_2
                  go_wp2_with fail
                  refine HSA.out.mono ?_
                  rintro e w36 ⟨rfl, b36⟩
                  have U36 := hid (up_trans U35.out b36)
                  have Z36 := hid (up_trans Z35.out b36)
                  have E36 := hid (E35.out.below b36)
                  have EY36 := hid (EY35.out.below b36)
                  have S36 := hid (SL.out.below Z36.out)
                  clear b36 hw35 hx34 hg34 c34_0 c34_1 c34_2 f34_0 f34_1 f34_2 c35_0 c35_1 c35_2 c36_0 c36_1 c36_2 HSA EX35 EX33 EX32 EX30 EY33 EY35 E35' E33 E32 BD32 BD30 BD V35 V34 V32 V31
                  go_wp2_with fail
                  obtain ⟨wO, rfl⟩ : ∃ z', z' = wr := ⟨_, rfl⟩
                  go_loopg [28] 4 (fun k i wx => ∃ p : Nat, i = .int .i64 p ∧ p + k = 4 ∧ Below w36.heap.size w36 wx)
                  case atStart => exact ⟨0, rfl, by omega, up_refl _⟩
                  case round =>
                    obtain ⟨p, rfl, hp, hub⟩ := hrel
                    have HVB := hid hub
                    have UQ := hid (up_trans U36.out hub)
                    have ZQ := hid (up_trans Z36.out hub)
                    have SQ := hid (S36.out.below hub)
                    have EQ := hid (E36.out.below hub)
                    have YQ := hid (EY36.out.below hub)
                    clear hub
                    rcases gk with _ | kk
                    · have hpn : ((p : Int) < 4) = False := by simp; omega
                      go_wp2_with fail
                      go_roundg k
                      case measure => omega
                      case rel => exact ⟨q + 1, by go_num, by omega, ZQ.out⟩
                    · have hpn : ((p : Int) < 4) = True := by simp; omega
                      have hp4 : p < 4 := by omega
                      have b40 := SQ.out
                      have c40_0 : wr.cell? ⟨g2, 0, none⟩ = some (.string (S nm)) := b40.cell 0
                      have f40_0 : wr.frozen? ⟨g2, 0, none⟩ = false := b40.free 0
                      have c40_1 : wr.cell? ⟨g2, 1, none⟩ = some (.int .i64 od) := b40.cell 1
                      have f40_1 : wr.frozen? ⟨g2, 1, none⟩ = false := b40.free 1
                      have c40_2 : wr.cell? ⟨g2, 2, none⟩ = some (.bool byo) := b40.cell 2
                      have f40_2 : wr.frozen? ⟨g2, 2, none⟩ = false := b40.free 2
                      clear b40
                      clear f40_0 f40_1 f40_2
                      obtain ⟨g41, hg41⟩ : ∃ g, wr.heap.size = g := ⟨_, rfl⟩
                      obtain ⟨x41, hx41⟩ : ∃ zz, wr.alloc (.cells #[(.string ⟨#[]⟩), (.int .i64 0), (.bool false)] 24) = zz := ⟨_, rfl⟩
                      have b41 : Blk x41 wr.heap.size #[(.string ⟨#[]⟩), (.int .i64 0), (.bool false)] 24 := hx41 ▸ Blk.new _ _ _
                      have V41 : Hid (Below wr.heap.size wr x41) := hid (hx41 ▸ up_alloc (up_refl _) _)
                      have N41 : Hid (Below w.heap.size w x41) := hid (up_trans UQ.out V41.out)
                      have G41 : Hid (w.heap.size ≤ g41) := hid (by rw [← hg41]; exact UQ.out.size)
                      rw [hg41] at b41
                      have l41 : g41 < x41.heap.size := b41.lt
                      have c41_0 : x41.cell? ⟨g41, 0, none⟩ = some (.string ⟨#[]⟩) := b41.cell 0
                      have f41_0 : x41.frozen? ⟨g41, 0, none⟩ = false := b41.free 0
                      have c41_1 : x41.cell? ⟨g41, 1, none⟩ = some (.int .i64 0) := b41.cell 1
                      have f41_1 : x41.frozen? ⟨g41, 1, none⟩ = false := b41.free 1
                      have c41_2 : x41.cell? ⟨g41, 2, none⟩ = some (.bool false) := b41.cell 2
                      have f41_2 : x41.frozen? ⟨g41, 2, none⟩ = false := b41.free 2
                      have B41 := hid b41
                      clear b41
                      obtain ⟨w42, hw42⟩ : ∃ zz, ((x41.setCell ⟨g41, 0, none⟩ (.string (S nm))).setCell ⟨g41, 1, none⟩ (.int .i64 od)).setCell ⟨g41, 2, none⟩ (.bool byo) = zz := ⟨_, rfl⟩
                      have V42 : Hid (Below wr.heap.size wr w42) := hid (hw42 ▸ ((V41.out.setCell (p := ⟨g41, 0, none⟩) (by rw [hg41]; exact Nat.le_refl _) _).setCell (p := ⟨g41, 1, none⟩) (by rw [hg41]; exact Nat.le_refl _) _).setCell (p := ⟨g41, 2, none⟩) (by rw [hg41]; exact Nat.le_refl _) _)
                      have B42 : Hid (Blk w42 g41 #[.string (S nm), .int .i64 od, .bool byo] 24) := hid (hw42 ▸ B41.out.set3)
                      have GQ : Hid (wr.heap.size ≤ g41) := hid (Nat.le_of_eq hg41)
                      have E42 := hid (EQ.out.below V42.out)
                      have Y42 := hid (YQ.out.below V42.out)
                      have n41 : g34 ≠ g41 := by have := EQ.out.lt; omega
                      have n41' : g41 ≠ g34 := by omega
                      have b42 := E42.out
                      have c42_0 : w42.cell? ⟨g34, 0, none⟩ = some (.int .i64 x.base) := b42.cell 0
                      have f42_0 : w42.frozen? ⟨g34, 0, none⟩ = false := b42.free 0
                      have c42_1 : w42.cell? ⟨g34, 1, none⟩ = some (.slice F2 x.funcs.length fc2) := b42.cell 1
                      have f42_1 : w42.frozen? ⟨g34, 1, none⟩ = false := b42.free 1
                      have c42_2 : w42.cell? ⟨g34, 2, none⟩ = some (.slice M2 x.names.length mc2) := b42.cell 2
                      have f42_2 : w42.frozen? ⟨g34, 2, none⟩ = false := b42.free 2
                      clear b42
                      have b43 := B42.out
                      have c43_0 : w42.cell? ⟨g41, 0, none⟩ = some (.string (S nm)) := b43.cell 0
                      have f43_0 : w42.frozen? ⟨g41, 0, none⟩ = false := b43.free 0
                      have c43_1 : w42.cell? ⟨g41, 1, none⟩ = some (.int .i64 od) := b43.cell 1
                      have f43_1 : w42.frozen? ⟨g41, 1, none⟩ = false := b43.free 1
                      have c43_2 : w42.cell? ⟨g41, 2, none⟩ = some (.bool byo) := b43.cell 2
                      have f43_2 : w42.frozen? ⟨g41, 2, none⟩ = false := b43.free 2
                      clear b43
                      clear f42_0 f42_1 f42_2
                      go_upto_block 6 with fail
                      go_cut [] (fun wb => ∃ (sn : List UInt8) (so : Int) (sb : Bool), Blk wb g41 #[.string (S sn), .int .i64 so, .bool sb] 24 ∧ Below wr.heap.size wr wb ∧ -9223372036854775808 ≤ so ∧ so ≤ 9223372036854775807)
                      case first =>
                        obtain rfl | rfl | rfl | rfl : p = 0 ∨ p = 1 ∨ p = 2 ∨ p = 3 := by omega
                        · go_wp2_with fail
                          go_meet
                          exact ⟨nm, od, byo, B42.out, V42.out, od0, od1⟩
                        · have e7 : 0 ≤ bits .and .i64 a5 7 ∧ bits .and .i64 a5 7 ≤ 7 := and_le_i64 a5 7 (by omega)
                          obtain ⟨b7, hb7⟩ := Int.eq_ofNat_of_zero_le e7.1
                          have hb7' : bits .and .i64 a5 7 = (b7 : Int) := hb7
                          have b7l : b7 ≤ 7 := by omega
                          have hb4' := HB4.out
                          have zlo : -9223372036854775808 ≤ (b4 : Int) + (b7 : Int) := by clear hb4' hb7'; omega
                          have zhi : (b4 : Int) + (b7 : Int) ≤ 9223372036854775807 := by clear hb4' hb7'; omega
                          have ZLO := hid zlo
                          have ZHI := hid zhi
                          clear e7 hb7 zlo zhi
                          go_wp2_with fail
                          go_meet
                          exact ⟨[], (b4 : Int) + (b7 : Int), true, B42.out.set3, ((V42.out.setCell GQ.out _).setCell GQ.out _).setCell GQ.out _, ZLO.out, ZHI.out⟩
                        · rcases Nat.eq_zero_or_pos x.names.length with hz | hz
                          · have hnz : decide ((0 : Int) < (x.names.length : Int)) = false := decide_eq_false (by omega)
                            have hnz2 : (0 < x.names.length) = False := eq_false (by omega)
                            clear hz
                            go_wp2_with fail
                            go_meet
                            exact ⟨nm, od, byo, B42.out, V42.out, od0, od1⟩
                          · have hnz : decide ((0 : Int) < (x.names.length : Int)) = true := decide_eq_true (by omega)
                            have e8 : 0 ≤ bits .and .i64 a5 255 ∧ bits .and .i64 a5 255 ≤ 255 := and_le_i64 a5 255 (by omega)
                            obtain ⟨b8, hb8⟩ := Int.eq_ofNat_of_zero_le e8.1
                            have hb8' : bits .and .i64 a5 255 = (b8 : Int) := hb8
                            obtain ⟨t, ht⟩ : ∃ t, b8 % x.names.length = t := ⟨_, rfl⟩
                            have htl : t < x.names.length := by rw [← ht]; exact Nat.mod_lt _ hz
                            have htm : (b8 : Int).tmod (x.names.length : Int) = (t : Int) := by rw [Int.tmod_eq_emod_of_nonneg (by omega), ← ht]; rfl
                            have hte : (b8 : Int) % (x.names.length : Int) = (t : Int) := by rw [← ht]; rfl
                            obtain ⟨⟨A1, A2, A3, A4, he, hr1, hr2, -, -⟩, -, -⟩ := Y42.out
                            simp only [Value.agg.injEq, Array.mk.injEq, List.cons.injEq, Value.slice.injEq, true_and, and_true] at he
                            obtain ⟨⟨rfl, rfl⟩, rfl, rfl⟩ := he
                            obtain ⟨nd, hnd⟩ : ∃ nd, x.names[t]? = some nd := ⟨_, List.getElem?_eq_getElem htl⟩
                            obtain ⟨ad, rfl, hbl, k0, -⟩ := hr2.elem (fun x : NamedD => [.string (S x.name), .int .i64 x.index]) 2 (by decide) (fun _ => rfl) hnd
                            simp only [List.getElem?_cons_zero] at k0
                            have hzz : ((x.names.length : Int) = 0) = False := eq_false (by omega)
                            have hzy : (x.names.length = 0) = False := eq_false (by omega)
                            have hzx : ((x.names.length : Int) == 0) = false := by rw [beq_eq_false_iff_ne]; omega
                            clear e8 hb8 ht hnd hr1 hr2
                            go_wp2_with fail
                            go_region_with (fail)
                            all_goals
                              go_wp2_with fail
                              go_meet
                              exact ⟨nd.name, 0, false, B42.out.set3, up_drew (((V42.out.setCell GQ.out _).setCell GQ.out _).setCell GQ.out _), by decide, by decide⟩
                        · obtain ⟨z0, z1⟩ := wf_i64 WA5.out
                          go_wp2_with fail
                          go_meet
                          exact ⟨[], a5, true, B42.out.set3, ((V42.out.setCell GQ.out _).setCell GQ.out _).setCell GQ.out _, z0, z1⟩
                      case rest =>
                        obtain ⟨sn, so, sb, hSB, hub, so0, so1⟩ := hcut
                        have SB := hid hSB
                        have VC := hid hub
                        have UC2 := hid (up_trans UQ.out hub)
                        have EC := hid (EQ.out.below hub)
                        have YC := hid (YQ.out.below hub)
                        have HFI := hid (exps_Find wc x _ YC.out ⟨sn, so, sb⟩ (by have := SX2.out.b0; omega) (by have := SX2.out.b1; omega) so0 so1)
                        have HRF := hid (fun w h => ref_Find w x (.agg #[.int .i64 x.base, .slice F2 x.funcs.length fc2, .slice M2 x.names.length mc2]) h ⟨sn, so, sb⟩ SX2.out.b0 (by have := SX2.out.b1; omega) (by have := SX2.out.f; omega) so0 so1)
                        have HBO := hid (fun w h => exps_ByOrd w x (.agg #[.int .i64 x.base, .slice F2 x.funcs.length fc2, .slice M2 x.names.length mc2]) h so (by have := SX2.out.b0; omega) (by have := SX2.out.b1; omega) so0 so1)
                        have HBN := hid (fun w h => exps_ByName w x (.agg #[.int .i64 x.base, .slice F2 x.funcs.length fc2, .slice M2 x.names.length mc2]) h sn (by have := SX2.out.b0; omega) (by have := SX2.out.b1; omega))
                        rw [find_ordN x sn so] at HBO
                        rw [find_nameN x sn so] at HBN
                        clear hSB hub c42_0 c42_1 c42_2 c43_0 c43_1 c43_2 f43_0 f43_1 f43_2 c40_0 c40_1 c40_2 hw42 hx41 hg41 c41_0 c41_1 c41_2 f41_0 f41_1 f41_2
                        have b44 := EC.out
                        have c44_0 : wc.cell? ⟨g34, 0, none⟩ = some (.int .i64 x.base) := b44.cell 0
                        have f44_0 : wc.frozen? ⟨g34, 0, none⟩ = false := b44.free 0
                        have c44_1 : wc.cell? ⟨g34, 1, none⟩ = some (.slice F2 x.funcs.length fc2) := b44.cell 1
                        have f44_1 : wc.frozen? ⟨g34, 1, none⟩ = false := b44.free 1
                        have c44_2 : wc.cell? ⟨g34, 2, none⟩ = some (.slice M2 x.names.length mc2) := b44.cell 2
                        have f44_2 : wc.frozen? ⟨g34, 2, none⟩ = false := b44.free 2
                        clear b44
                        have b45 := SB.out
                        have c45_0 : wc.cell? ⟨g41, 0, none⟩ = some (.string (S sn)) := b45.cell 0
                        have f45_0 : wc.frozen? ⟨g41, 0, none⟩ = false := b45.free 0
                        have c45_1 : wc.cell? ⟨g41, 1, none⟩ = some (.int .i64 so) := b45.cell 1
                        have f45_1 : wc.frozen? ⟨g41, 1, none⟩ = false := b45.free 1
                        have c45_2 : wc.cell? ⟨g41, 2, none⟩ = some (.bool sb) := b45.cell 2
                        have f45_2 : wc.frozen? ⟨g41, 2, none⟩ = false := b45.free 2
                        clear b45
                        clear f44_0 f44_1 f44_2 f45_0 f45_1 f45_2
                        cases sb
                        case true =>
                          obtain ⟨fo, hfo⟩ : ∃ fo, findX x ⟨sn, so, true⟩ = fo := ⟨_, rfl⟩
                          rw [hfo] at HFI HRF HBO
                          obtain ⟨fa, fb, fk, hfv, hfk, hfa, hfb⟩ := funcV_cells fo
                          rw [hfv] at HFI HBO
                          have HRG : Hid (∀ w, ExV w x (.agg #[.int .i64 x.base, .slice F2 x.funcs.length fc2, .slice M2 x.names.length mc2]) → Calls Tryd.prog 28 #[(.agg #[.int .i64 x.base, .slice F2 x.funcs.length fc2, .slice M2 x.names.length mc2]), .agg #[.string (S sn), .int .i64 so, .bool true]] w fun e w' => (∃ c, e = .returned (.tuple #[.agg #[.int .i64 fa, .string (S fb), .int .i64 c], .bool fk])) ∧ Below w.heap.size w w') := hid (fun w h => (HRF.out w h).mono fun e w' ⟨⟨c, he⟩, hb⟩ => ⟨⟨c, by rw [he, hfa, hfb, hfk]⟩, hb⟩)
                          clear hfo hfv hfk hfa hfb HRF
                          go_wp2_with fail
                          refine HFI.out.mono ?_
                          rintro e w46 ⟨rfl, b46⟩
                          have U46 := hid (up_trans UC2.out b46)
                          have VC46 := hid (up_trans VC.out b46)
                          have E46 := hid (EC.out.below b46)
                          have Y46 := hid (YC.out.below b46)
                          have S46 := hid (SB.out.below b46)
                          clear b46 c44_0 c44_1 c44_2 c45_0 c45_1 c45_2 HFI
                          obtain ⟨g47, hg47⟩ : ∃ g, w46.heap.size = g := ⟨_, rfl⟩
                          obtain ⟨x47, hx47⟩ : ∃ zz, w46.alloc (.cells #[(.int .i64 0), (.string ⟨#[]⟩)] 52) = zz := ⟨_, rfl⟩
                          have b47 : Blk x47 w46.heap.size #[(.int .i64 0), (.string ⟨#[]⟩)] 52 := hx47 ▸ Blk.new _ _ _
                          have V47 : Hid (Below w46.heap.size w46 x47) := hid (hx47 ▸ up_alloc (up_refl _) _)
                          have N47 : Hid (Below w.heap.size w x47) := hid (up_trans U46.out V47.out)
                          have G47 : Hid (w.heap.size ≤ g47) := hid (by rw [← hg47]; exact U46.out.size)
                          rw [hg47] at b47
                          have l47 : g47 < x47.heap.size := b47.lt
                          have c47_0 : x47.cell? ⟨g47, 0, none⟩ = some (.int .i64 0) := b47.cell 0
                          have f47_0 : x47.frozen? ⟨g47, 0, none⟩ = false := b47.free 0
                          have c47_1 : x47.cell? ⟨g47, 1, none⟩ = some (.string ⟨#[]⟩) := b47.cell 1
                          have f47_1 : x47.frozen? ⟨g47, 1, none⟩ = false := b47.free 1
                          have B47 := hid b47
                          clear b47
                          obtain ⟨w48, hw48⟩ : ∃ zz, (x47.setCell ⟨g47, 0, none⟩ (.int .i64 fa)).setCell ⟨g47, 1, none⟩ (.string (S fb)) = zz := ⟨_, rfl⟩
                          have V48 : Hid (Below w46.heap.size w46 w48) := hid (hw48 ▸ (V47.out.setCell (p := ⟨g47, 0, none⟩) (by rw [hg47]; exact Nat.le_refl _) _).setCell (p := ⟨g47, 1, none⟩) (by rw [hg47]; exact Nat.le_refl _) _)
                          have B48 : Hid (Blk w48 g47 #[.int .i64 fa, .string (S fb)] 52) := hid (hw48 ▸ B47.out.set2)
                          have U48 := hid (up_trans U46.out V48.out)
                          have VC48 := hid (up_trans VC46.out V48.out)
                          have E48 := hid (E46.out.below V48.out)
                          have Y48 := hid (Y46.out.below V48.out)
                          have S48 := hid (S46.out.below V48.out)
                          have GFX : Hid (wr.heap.size ≤ g47) := hid (by have := VC46.out.size; omega)
                          have b48 := E48.out
                          have c48_0 : w48.cell? ⟨g34, 0, none⟩ = some (.int .i64 x.base) := b48.cell 0
                          have f48_0 : w48.frozen? ⟨g34, 0, none⟩ = false := b48.free 0
                          have c48_1 : w48.cell? ⟨g34, 1, none⟩ = some (.slice F2 x.funcs.length fc2) := b48.cell 1
                          have f48_1 : w48.frozen? ⟨g34, 1, none⟩ = false := b48.free 1
                          have c48_2 : w48.cell? ⟨g34, 2, none⟩ = some (.slice M2 x.names.length mc2) := b48.cell 2
                          have f48_2 : w48.frozen? ⟨g34, 2, none⟩ = false := b48.free 2
                          clear b48
                          have b49 := S48.out
                          have c49_0 : w48.cell? ⟨g41, 0, none⟩ = some (.string (S sn)) := b49.cell 0
                          have f49_0 : w48.frozen? ⟨g41, 0, none⟩ = false := b49.free 0
                          have c49_1 : w48.cell? ⟨g41, 1, none⟩ = some (.int .i64 so) := b49.cell 1
                          have f49_1 : w48.frozen? ⟨g41, 1, none⟩ = false := b49.free 1
                          have c49_2 : w48.cell? ⟨g41, 2, none⟩ = some (.bool true) := b49.cell 2
                          have f49_2 : w48.frozen? ⟨g41, 2, none⟩ = false := b49.free 2
                          clear b49
                          clear f48_0 f48_1 f48_2 f49_0 f49_1 f49_2
                          go_wp2_with fail
                          refine (HRG.out _ Y48.out).mono ?_
                          rintro e w50 ⟨⟨fcx, rfl⟩, b50⟩
                          have U50 := hid (up_trans U48.out b50)
                          have VC50 := hid (up_trans VC48.out b50)
                          have E50 := hid (E48.out.below b50)
                          have Y50 := hid (Y48.out.below b50)
                          have S50 := hid (S48.out.below b50)
                          have B50 := hid (B48.out.below b50)
                          clear b50 hw48 hx47 hg47 c47_0 c47_1 f47_0 f47_1 c48_0 c48_1 c48_2 c49_0 c49_1 c49_2 HRG B47 V47 N47 G47
                          obtain ⟨g51, hg51⟩ : ∃ g, w50.heap.size = g := ⟨_, rfl⟩
                          obtain ⟨x51, hx51⟩ : ∃ zz, w50.alloc (.cells #[(.int .i64 0), (.string ⟨#[]⟩), (.int .i64 0)] 69) = zz := ⟨_, rfl⟩
                          have b51 : Blk x51 w50.heap.size #[(.int .i64 0), (.string ⟨#[]⟩), (.int .i64 0)] 69 := hx51 ▸ Blk.new _ _ _
                          have V51 : Hid (Below w50.heap.size w50 x51) := hid (hx51 ▸ up_alloc (up_refl _) _)
                          have N51 : Hid (Below w.heap.size w x51) := hid (up_trans U50.out V51.out)
                          have G51 : Hid (w.heap.size ≤ g51) := hid (by rw [← hg51]; exact U50.out.size)
                          rw [hg51] at b51
                          have l51 : g51 < x51.heap.size := b51.lt
                          have c51_0 : x51.cell? ⟨g51, 0, none⟩ = some (.int .i64 0) := b51.cell 0
                          have f51_0 : x51.frozen? ⟨g51, 0, none⟩ = false := b51.free 0
                          have c51_1 : x51.cell? ⟨g51, 1, none⟩ = some (.string ⟨#[]⟩) := b51.cell 1
                          have f51_1 : x51.frozen? ⟨g51, 1, none⟩ = false := b51.free 1
                          have c51_2 : x51.cell? ⟨g51, 2, none⟩ = some (.int .i64 0) := b51.cell 2
                          have f51_2 : x51.frozen? ⟨g51, 2, none⟩ = false := b51.free 2
                          have B51 := hid b51
                          clear b51
                          obtain ⟨w52, hw52⟩ : ∃ zz, ((x51.setCell ⟨g51, 0, none⟩ (.int .i64 fa)).setCell ⟨g51, 1, none⟩ (.string (S fb))).setCell ⟨g51, 2, none⟩ (.int .i64 fcx) = zz := ⟨_, rfl⟩
                          have V52 : Hid (Below w50.heap.size w50 w52) := hid (hw52 ▸ ((V51.out.setCell (p := ⟨g51, 0, none⟩) (by rw [hg51]; exact Nat.le_refl _) _).setCell (p := ⟨g51, 1, none⟩) (by rw [hg51]; exact Nat.le_refl _) _).setCell (p := ⟨g51, 2, none⟩) (by rw [hg51]; exact Nat.le_refl _) _)
                          have B52 : Hid (Blk w52 g51 #[.int .i64 fa, .string (S fb), .int .i64 fcx] 69) := hid (hw52 ▸ B51.out.set3)
                          have U52 := hid (up_trans U50.out V52.out)
                          have VC52 := hid (up_trans VC50.out V52.out)
                          have E52 := hid (E50.out.below V52.out)
                          have Y52 := hid (Y50.out.below V52.out)
                          have S52 := hid (S50.out.below V52.out)
                          have B53 := hid (B50.out.below V52.out)
                          have b52 := E52.out
                          have c52_0 : w52.cell? ⟨g34, 0, none⟩ = some (.int .i64 x.base) := b52.cell 0
                          have f52_0 : w52.frozen? ⟨g34, 0, none⟩ = false := b52.free 0
                          have c52_1 : w52.cell? ⟨g34, 1, none⟩ = some (.slice F2 x.funcs.length fc2) := b52.cell 1
                          have f52_1 : w52.frozen? ⟨g34, 1, none⟩ = false := b52.free 1
                          have c52_2 : w52.cell? ⟨g34, 2, none⟩ = some (.slice M2 x.names.length mc2) := b52.cell 2
                          have f52_2 : w52.frozen? ⟨g34, 2, none⟩ = false := b52.free 2
                          clear b52
                          have b53 := S52.out
                          have c53_0 : w52.cell? ⟨g41, 0, none⟩ = some (.string (S sn)) := b53.cell 0
                          have f53_0 : w52.frozen? ⟨g41, 0, none⟩ = false := b53.free 0
                          have c53_1 : w52.cell? ⟨g41, 1, none⟩ = some (.int .i64 so) := b53.cell 1
                          have f53_1 : w52.frozen? ⟨g41, 1, none⟩ = false := b53.free 1
                          have c53_2 : w52.cell? ⟨g41, 2, none⟩ = some (.bool true) := b53.cell 2
                          have f53_2 : w52.frozen? ⟨g41, 2, none⟩ = false := b53.free 2
                          clear b53
                          have b54 := B53.out
                          have c54_0 : w52.cell? ⟨g47, 0, none⟩ = some (.int .i64 fa) := b54.cell 0
                          have f54_0 : w52.frozen? ⟨g47, 0, none⟩ = false := b54.free 0
                          have c54_1 : w52.cell? ⟨g47, 1, none⟩ = some (.string (S fb)) := b54.cell 1
                          have f54_1 : w52.frozen? ⟨g47, 1, none⟩ = false := b54.free 1
                          clear b54
                          have b55 := B52.out
                          have c55_0 : w52.cell? ⟨g51, 0, none⟩ = some (.int .i64 fa) := b55.cell 0
                          have f55_0 : w52.frozen? ⟨g51, 0, none⟩ = false := b55.free 0
                          have c55_1 : w52.cell? ⟨g51, 1, none⟩ = some (.string (S fb)) := b55.cell 1
                          have f55_1 : w52.frozen? ⟨g51, 1, none⟩ = false := b55.free 1
                          have c55_2 : w52.cell? ⟨g51, 2, none⟩ = some (.int .i64 fcx) := b55.cell 2
                          have f55_2 : w52.frozen? ⟨g51, 2, none⟩ = false := b55.free 2
                          clear b55
                          clear f52_0 f52_1 f52_2 f53_0 f53_1 f53_2 f54_0 f54_1 f55_0 f55_1 f55_2
                          go_wp2_with fail
                          refine (HBO.out _ Y52.out).mono ?_
                          rintro e w56 ⟨rfl, b56⟩
                          have VC56 := hid (up_trans VC52.out b56)
                          have B56 := hid (B52.out.below b56)
                          have B57 := hid (B53.out.below b56)
                          have n57 : g47 ≠ g51 := by have := B50.out.lt; omega
                          have n57' : g51 ≠ g47 := by omega
                          have G57 : Hid (wr.heap.size ≤ g47) := GFX
                          clear b56 hw52 hx51 hg51 c51_0 c51_1 c51_2 f51_0 f51_1 f51_2 c52_0 c52_1 c52_2 c53_0 c53_1 c53_2 c54_0 c54_1 c55_0 c55_1 c55_2
                          have b56 := B57.out
                          have c56_0 : w56.cell? ⟨g47, 0, none⟩ = some (.int .i64 fa) := b56.cell 0
                          have f56_0 : w56.frozen? ⟨g47, 0, none⟩ = false := b56.free 0
                          have c56_1 : w56.cell? ⟨g47, 1, none⟩ = some (.string (S fb)) := b56.cell 1
                          have f56_1 : w56.frozen? ⟨g47, 1, none⟩ = false := b56.free 1
                          clear b56
                          have b57 := B56.out
                          have c57_0 : w56.cell? ⟨g51, 0, none⟩ = some (.int .i64 fa) := b57.cell 0
                          have f57_0 : w56.frozen? ⟨g51, 0, none⟩ = false := b57.free 0
                          have c57_1 : w56.cell? ⟨g51, 1, none⟩ = some (.string (S fb)) := b57.cell 1
                          have f57_1 : w56.frozen? ⟨g51, 1, none⟩ = false := b57.free 1
                          have c57_2 : w56.cell? ⟨g51, 2, none⟩ = some (.int .i64 fcx) := b57.cell 2
                          have f57_2 : w56.frozen? ⟨g51, 2, none⟩ = false := b57.free 2
                          clear b57
                          clear f57_0 f57_1 f57_2
                          go_wp2_with fail
                          go_roundg kk
                          case measure => omega
                          case rel => exact ⟨p + 1, by go_num, by omega, up_trans HVB.out ((VC56.out.setCell (p := ⟨g47, 0, none⟩) G57.out _).setCell (p := ⟨g47, 1, none⟩) G57.out _)⟩
                        case false =>
                          obtain ⟨fo, hfo⟩ : ∃ fo, findX x ⟨sn, so, false⟩ = fo := ⟨_, rfl⟩
                          rw [hfo] at HFI HRF HBN
                          obtain ⟨fa, fb, fk, hfv, hfk, hfa, hfb⟩ := funcV_cells fo
                          rw [hfv] at HFI HBN
                          have HRG : Hid (∀ w, ExV w x (.agg #[.int .i64 x.base, .slice F2 x.funcs.length fc2, .slice M2 x.names.length mc2]) → Calls Tryd.prog 28 #[(.agg #[.int .i64 x.base, .slice F2 x.funcs.length fc2, .slice M2 x.names.length mc2]), .agg #[.string (S sn), .int .i64 so, .bool false]] w fun e w' => (∃ c, e = .returned (.tuple #[.agg #[.int .i64 fa, .string (S fb), .int .i64 c], .bool fk])) ∧ Below w.heap.size w w') := hid (fun w h => (HRF.out w h).mono fun e w' ⟨⟨c, he⟩, hb⟩ => ⟨⟨c, by rw [he, hfa, hfb, hfk]⟩, hb⟩)
                          clear hfo hfv hfk hfa hfb HRF
                          go_wp2_with fail
                          refine HFI.out.mono ?_
                          rintro e w46 ⟨rfl, b46⟩
                          have U46 := hid (up_trans UC2.out b46)
                          have VC46 := hid (up_trans VC.out b46)
                          have E46 := hid (EC.out.below b46)
                          have Y46 := hid (YC.out.below b46)
                          have S46 := hid (SB.out.below b46)
                          clear b46 c44_0 c44_1 c44_2 c45_0 c45_1 c45_2 HFI
                          obtain ⟨g47, hg47⟩ : ∃ g, w46.heap.size = g := ⟨_, rfl⟩
                          obtain ⟨x47, hx47⟩ : ∃ zz, w46.alloc (.cells #[(.int .i64 0), (.string ⟨#[]⟩)] 52) = zz := ⟨_, rfl⟩
                          have b47 : Blk x47 w46.heap.size #[(.int .i64 0), (.string ⟨#[]⟩)] 52 := hx47 ▸ Blk.new _ _ _
                          have V47 : Hid (Below w46.heap.size w46 x47) := hid (hx47 ▸ up_alloc (up_refl _) _)
                          have N47 : Hid (Below w.heap.size w x47) := hid (up_trans U46.out V47.out)
                          have G47 : Hid (w.heap.size ≤ g47) := hid (by rw [← hg47]; exact U46.out.size)
                          rw [hg47] at b47
                          have l47 : g47 < x47.heap.size := b47.lt
                          have c47_0 : x47.cell? ⟨g47, 0, none⟩ = some (.int .i64 0) := b47.cell 0
                          have f47_0 : x47.frozen? ⟨g47, 0, none⟩ = false := b47.free 0
                          have c47_1 : x47.cell? ⟨g47, 1, none⟩ = some (.string ⟨#[]⟩) := b47.cell 1
                          have f47_1 : x47.frozen? ⟨g47, 1, none⟩ = false := b47.free 1
                          have B47 := hid b47
                          clear b47
                          obtain ⟨w48, hw48⟩ : ∃ zz, (x47.setCell ⟨g47, 0, none⟩ (.int .i64 fa)).setCell ⟨g47, 1, none⟩ (.string (S fb)) = zz := ⟨_, rfl⟩
                          have V48 : Hid (Below w46.heap.size w46 w48) := hid (hw48 ▸ (V47.out.setCell (p := ⟨g47, 0, none⟩) (by rw [hg47]; exact Nat.le_refl _) _).setCell (p := ⟨g47, 1, none⟩) (by rw [hg47]; exact Nat.le_refl _) _)
                          have B48 : Hid (Blk w48 g47 #[.int .i64 fa, .string (S fb)] 52) := hid (hw48 ▸ B47.out.set2)
                          have U48 := hid (up_trans U46.out V48.out)
                          have VC48 := hid (up_trans VC46.out V48.out)
                          have E48 := hid (E46.out.below V48.out)
                          have Y48 := hid (Y46.out.below V48.out)
                          have S48 := hid (S46.out.below V48.out)
                          have GFX : Hid (wr.heap.size ≤ g47) := hid (by have := VC46.out.size; omega)
                          have b48 := E48.out
                          have c48_0 : w48.cell? ⟨g34, 0, none⟩ = some (.int .i64 x.base) := b48.cell 0
                          have f48_0 : w48.frozen? ⟨g34, 0, none⟩ = false := b48.free 0
                          have c48_1 : w48.cell? ⟨g34, 1, none⟩ = some (.slice F2 x.funcs.length fc2) := b48.cell 1
                          have f48_1 : w48.frozen? ⟨g34, 1, none⟩ = false := b48.free 1
                          have c48_2 : w48.cell? ⟨g34, 2, none⟩ = some (.slice M2 x.names.length mc2) := b48.cell 2
                          have f48_2 : w48.frozen? ⟨g34, 2, none⟩ = false := b48.free 2
                          clear b48
                          have b49 := S48.out
                          have c49_0 : w48.cell? ⟨g41, 0, none⟩ = some (.string (S sn)) := b49.cell 0
                          have f49_0 : w48.frozen? ⟨g41, 0, none⟩ = false := b49.free 0
                          have c49_1 : w48.cell? ⟨g41, 1, none⟩ = some (.int .i64 so) := b49.cell 1
                          have f49_1 : w48.frozen? ⟨g41, 1, none⟩ = false := b49.free 1
                          have c49_2 : w48.cell? ⟨g41, 2, none⟩ = some (.bool false) := b49.cell 2
                          have f49_2 : w48.frozen? ⟨g41, 2, none⟩ = false := b49.free 2
                          clear b49
                          clear f48_0 f48_1 f48_2 f49_0 f49_1 f49_2
                          go_wp2_with fail
                          refine (HRG.out _ Y48.out).mono ?_
                          rintro e w50 ⟨⟨fcx, rfl⟩, b50⟩
                          have U50 := hid (up_trans U48.out b50)
                          have VC50 := hid (up_trans VC48.out b50)
                          have E50 := hid (E48.out.below b50)
                          have Y50 := hid (Y48.out.below b50)
                          have S50 := hid (S48.out.below b50)
                          have B50 := hid (B48.out.below b50)
                          clear b50 hw48 hx47 hg47 c47_0 c47_1 f47_0 f47_1 c48_0 c48_1 c48_2 c49_0 c49_1 c49_2 HRG B47 V47 N47 G47
                          obtain ⟨g51, hg51⟩ : ∃ g, w50.heap.size = g := ⟨_, rfl⟩
                          obtain ⟨x51, hx51⟩ : ∃ zz, w50.alloc (.cells #[(.int .i64 0), (.string ⟨#[]⟩), (.int .i64 0)] 69) = zz := ⟨_, rfl⟩
                          have b51 : Blk x51 w50.heap.size #[(.int .i64 0), (.string ⟨#[]⟩), (.int .i64 0)] 69 := hx51 ▸ Blk.new _ _ _
                          have V51 : Hid (Below w50.heap.size w50 x51) := hid (hx51 ▸ up_alloc (up_refl _) _)
                          have N51 : Hid (Below w.heap.size w x51) := hid (up_trans U50.out V51.out)
                          have G51 : Hid (w.heap.size ≤ g51) := hid (by rw [← hg51]; exact U50.out.size)
                          rw [hg51] at b51
                          have l51 : g51 < x51.heap.size := b51.lt
                          have c51_0 : x51.cell? ⟨g51, 0, none⟩ = some (.int .i64 0) := b51.cell 0
                          have f51_0 : x51.frozen? ⟨g51, 0, none⟩ = false := b51.free 0
                          have c51_1 : x51.cell? ⟨g51, 1, none⟩ = some (.string ⟨#[]⟩) := b51.cell 1
                          have f51_1 : x51.frozen? ⟨g51, 1, none⟩ = false := b51.free 1
                          have c51_2 : x51.cell? ⟨g51, 2, none⟩ = some (.int .i64 0) := b51.cell 2
                          have f51_2 : x51.frozen? ⟨g51, 2, none⟩ = false := b51.free 2
                          have B51 := hid b51
                          clear b51
                          obtain ⟨w52, hw52⟩ : ∃ zz, ((x51.setCell ⟨g51, 0, none⟩ (.int .i64 fa)).setCell ⟨g51, 1, none⟩ (.string (S fb))).setCell ⟨g51, 2, none⟩ (.int .i64 fcx) = zz := ⟨_, rfl⟩
                          have V52 : Hid (Below w50.heap.size w50 w52) := hid (hw52 ▸ ((V51.out.setCell (p := ⟨g51, 0, none⟩) (by rw [hg51]; exact Nat.le_refl _) _).setCell (p := ⟨g51, 1, none⟩) (by rw [hg51]; exact Nat.le_refl _) _).setCell (p := ⟨g51, 2, none⟩) (by rw [hg51]; exact Nat.le_refl _) _)
                          have B52 : Hid (Blk w52 g51 #[.int .i64 fa, .string (S fb), .int .i64 fcx] 69) := hid (hw52 ▸ B51.out.set3)
                          have U52 := hid (up_trans U50.out V52.out)
                          have VC52 := hid (up_trans VC50.out V52.out)
                          have E52 := hid (E50.out.below V52.out)
                          have Y52 := hid (Y50.out.below V52.out)
                          have S52 := hid (S50.out.below V52.out)
                          have B53 := hid (B50.out.below V52.out)
                          have b52 := E52.out
                          have c52_0 : w52.cell? ⟨g34, 0, none⟩ = some (.int .i64 x.base) := b52.cell 0
                          have f52_0 : w52.frozen? ⟨g34, 0, none⟩ = false := b52.free 0
                          have c52_1 : w52.cell? ⟨g34, 1, none⟩ = some (.slice F2 x.funcs.length fc2) := b52.cell 1
                          have f52_1 : w52.frozen? ⟨g34, 1, none⟩ = false := b52.free 1
                          have c52_2 : w52.cell? ⟨g34, 2, none⟩ = some (.slice M2 x.names.length mc2) := b52.cell 2
                          have f52_2 : w52.frozen? ⟨g34, 2, none⟩ = false := b52.free 2
                          clear b52
                          have b53 := S52.out
                          have c53_0 : w52.cell? ⟨g41, 0, none⟩ = some (.string (S sn)) := b53.cell 0
                          have f53_0 : w52.frozen? ⟨g41, 0, none⟩ = false := b53.free 0
                          have c53_1 : w52.cell? ⟨g41, 1, none⟩ = some (.int .i64 so) := b53.cell 1
                          have f53_1 : w52.frozen? ⟨g41, 1, none⟩ = false := b53.free 1
                          have c53_2 : w52.cell? ⟨g41, 2, none⟩ = some (.bool false) := b53.cell 2
                          have f53_2 : w52.frozen? ⟨g41, 2, none⟩ = false := b53.free 2
                          clear b53
                          have b54 := B53.out
                          have c54_0 : w52.cell? ⟨g47, 0, none⟩ = some (.int .i64 fa) := b54.cell 0
                          have f54_0 : w52.frozen? ⟨g47, 0, none⟩ = false := b54.free 0
                          have c54_1 : w52.cell? ⟨g47, 1, none⟩ = some (.string (S fb)) := b54.cell 1
                          have f54_1 : w52.frozen? ⟨g47, 1, none⟩ = false := b54.free 1
                          clear b54
                          have b55 := B52.out
                          have c55_0 : w52.cell? ⟨g51, 0, none⟩ = some (.int .i64 fa) := b55.cell 0
                          have f55_0 : w52.frozen? ⟨g51, 0, none⟩ = false := b55.free 0
                          have c55_1 : w52.cell? ⟨g51, 1, none⟩ = some (.string (S fb)) := b55.cell 1
                          have f55_1 : w52.frozen? ⟨g51, 1, none⟩ = false := b55.free 1
                          have c55_2 : w52.cell? ⟨g51, 2, none⟩ = some (.int .i64 fcx) := b55.cell 2
                          have f55_2 : w52.frozen? ⟨g51, 2, none⟩ = false := b55.free 2
                          clear b55
                          clear f52_0 f52_1 f52_2 f53_0 f53_1 f53_2 f54_0 f54_1 f55_0 f55_1 f55_2
                          go_wp2_with fail
                          refine (HBN.out _ Y52.out).mono ?_
                          rintro e w56 ⟨rfl, b56⟩
                          have VC56 := hid (up_trans VC52.out b56)
                          have B56 := hid (B52.out.below b56)
                          have B57 := hid (B53.out.below b56)
                          have n57 : g47 ≠ g51 := by have := B50.out.lt; omega
                          have n57' : g51 ≠ g47 := by omega
                          have G57 : Hid (wr.heap.size ≤ g47) := GFX
                          clear b56 hw52 hx51 hg51 c51_0 c51_1 c51_2 f51_0 f51_1 f51_2 c52_0 c52_1 c52_2 c53_0 c53_1 c53_2 c54_0 c54_1 c55_0 c55_1 c55_2
                          have b56 := B57.out
                          have c56_0 : w56.cell? ⟨g47, 0, none⟩ = some (.int .i64 fa) := b56.cell 0
                          have f56_0 : w56.frozen? ⟨g47, 0, none⟩ = false := b56.free 0
                          have c56_1 : w56.cell? ⟨g47, 1, none⟩ = some (.string (S fb)) := b56.cell 1
                          have f56_1 : w56.frozen? ⟨g47, 1, none⟩ = false := b56.free 1
                          clear b56
                          have b57 := B56.out
                          have c57_0 : w56.cell? ⟨g51, 0, none⟩ = some (.int .i64 fa) := b57.cell 0
                          have f57_0 : w56.frozen? ⟨g51, 0, none⟩ = false := b57.free 0
                          have c57_1 : w56.cell? ⟨g51, 1, none⟩ = some (.string (S fb)) := b57.cell 1
                          have f57_1 : w56.frozen? ⟨g51, 1, none⟩ = false := b57.free 1
                          have c57_2 : w56.cell? ⟨g51, 2, none⟩ = some (.int .i64 fcx) := b57.cell 2
                          have f57_2 : w56.frozen? ⟨g51, 2, none⟩ = false := b57.free 2
                          clear b57
                          clear f57_0 f57_1 f57_2
                          go_wp2_with fail
                          go_roundg kk
                          case measure => omega
                          case rel => exact ⟨p + 1, by go_num, by omega, up_trans HVB.out ((VC56.out.setCell (p := ⟨g47, 0, none⟩) G57.out _).setCell (p := ⟨g47, 1, none⟩) G57.out _)⟩
        · have hqn : ((q : Int) < 12) = True := by simp; omega
          have AW : Hid (∀ wd, Below x2.heap.size x2 wd → Calls Tryd.prog 23 #[] wd fun e w' => e = .returned (.bool true) ∧ Below w.heap.size w w') := hid (fun wd hd => (law7_awake wd (HK.out.below (up_trans N2.out hd))).mono fun e w' ⟨he, hb⟩ => ⟨he, up_trans (up_trans N2.out hd) hb⟩)
          by_cases k1 : q < fs.length
          · obtain ⟨ad1, rfl, e1⟩ := (HF.out.below N2.out).str (j := q) k1
            have hs1 := S_size fs[q]
            have d1 : decide ((q : Int) < (fs.length : Int)) = true := decide_eq_true (by omega)
            by_cases m1 : 100 < fs[q].length
            · have n1 : decide ((100 : Int) < (fs[q].length : Int)) = true := decide_eq_true (by omega)
              clear m1
              go_wp2_with fail
              refine (AW.out _ (up_refl _)).mono ?_
              rintro e w16 ⟨rfl, b16⟩
              have U16 := hid b16
              clear b16
              go_wp2_with fail
              go_ret
              exact ⟨rfl, HG1.out ▸ U16.out⟩
            · have n1 : decide ((100 : Int) < (fs[q].length : Int)) = false := decide_eq_false (by omega)
              have T1 : Hid (∀ s ∈ fs.take (q + 1), s.length ≤ 100) := hid (take_short HFQ.out (fun _ => by omega))
              clear m1
              by_cases k2 : q < ns.length
              · obtain ⟨ad2, rfl, e2⟩ := (HN.out.below N2.out).str (j := q) k2
                have hs2 := S_size ns[q]
                have d2 : decide ((q : Int) < (ns.length : Int)) = true := decide_eq_true (by omega)
                by_cases m2 : 100 < ns[q].length
                · have n2 : decide ((100 : Int) < (ns[q].length : Int)) = true := decide_eq_true (by omega)
                  clear m2
                  go_wp2_with fail
                  refine (AW.out _ (up_refl _)).mono ?_
                  rintro e w16 ⟨rfl, b16⟩
                  have U16 := hid b16
                  clear b16
                  go_wp2_with fail
                  go_ret
                  exact ⟨rfl, HG1.out ▸ U16.out⟩
                · have n2 : decide ((100 : Int) < (ns[q].length : Int)) = false := decide_eq_false (by omega)
                  have T2 : Hid (∀ s ∈ ns.take (q + 1), s.length ≤ 100) := hid (take_short HNQ.out (fun _ => by omega))
                  clear m2
                  go_wp2_with fail
                  go_roundg k
                  case measure => omega
                  case rel => exact ⟨q + 1, by go_num, by omega, rfl, T1, T2⟩
              · have d2 : decide ((q : Int) < (ns.length : Int)) = false := decide_eq_false (by omega)
                have T2 : Hid (∀ s ∈ ns.take (q + 1), s.length ≤ 100) := hid (take_short HNQ.out (fun h => absurd h k2))
                go_wp2_with fail
                go_roundg k
                case measure => omega
                case rel => exact ⟨q + 1, by go_num, by omega, rfl, T1, T2⟩
          · have d1 : decide ((q : Int) < (fs.length : Int)) = false := decide_eq_false (by omega)
            have T1 : Hid (∀ s ∈ fs.take (q + 1), s.length ≤ 100) := hid (take_short HFQ.out (fun h => absurd h k1))
            by_cases k2 : q < ns.length
            · obtain ⟨ad2, rfl, e2⟩ := (HN.out.below N2.out).str (j := q) k2
              have hs2 := S_size ns[q]
              have d2 : decide ((q : Int) < (ns.length : Int)) = true := decide_eq_true (by omega)
              by_cases m2 : 100 < ns[q].length
              · have n2 : decide ((100 : Int) < (ns[q].length : Int)) = true := decide_eq_true (by omega)
                clear m2
                go_wp2_with fail
                refine (AW.out _ (up_refl _)).mono ?_
                rintro e w16 ⟨rfl, b16⟩
                have U16 := hid b16
                clear b16
                go_wp2_with fail
                go_ret
                exact ⟨rfl, HG1.out ▸ U16.out⟩
              · have n2 : decide ((100 : Int) < (ns[q].length : Int)) = false := decide_eq_false (by omega)
                have T2 : Hid (∀ s ∈ ns.take (q + 1), s.length ≤ 100) := hid (take_short HNQ.out (fun _ => by omega))
                clear m2
                go_wp2_with fail
                go_roundg k
                case measure => omega
                case rel => exact ⟨q + 1, by go_num, by omega, rfl, T1, T2⟩
            · have d2 : decide ((q : Int) < (ns.length : Int)) = false := decide_eq_false (by omega)
              have T2 : Hid (∀ s ∈ ns.take (q + 1), s.length ≤ 100) := hid (take_short HNQ.out (fun h => absurd h k2))
              go_wp2_with fail
              go_roundg k
              case measure => omega
              case rel => exact ⟨q + 1, by go_num, by omega, rfl, T1, T2⟩
end Go.Proofs.YtapllnnconpieaaDoor
