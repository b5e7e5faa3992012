/- ExpsBack: the walk. -/
import Derived.Test.YtapllnnconpieaaDoorBackQ
import Derived.Test.YtapllnnconpieaaDoorBits
set_option linter.unusedVariables false
namespace Go.Proofs.YtapllnnconpieaaDoor
open Go.RowKit

def ksOf (l : List Int) : List Nat := (l.take 10).map fun v => (bits .and .i64 v 3).toNat
theorem ksOf_length (l : List Int) : (ksOf l).length = min l.length 10 := by rw [ksOf, List.length_map, List.length_take, Nat.min_comm]

theorem lt_of_cell {w : World} {p : Addr} {v : Value} (h : w.cell? p = some v) : p.block < w.heap.size := by
  rcases Nat.lt_or_ge p.block w.heap.size with h1 | h1
  · exact h1
  · simp [World.cell?, h1] at h
set_option maxRecDepth 100000 in
set_option maxHeartbeats 16000000 in
theorem walk_ExpsBack (w : World) (hk : LibOk w) (A : Option Addr) (c : Nat) (l : List Int) (hr : Row w A (l.map (Value.int .i64))) (hc : l.length ≤ c) (hl47 : l.length ≤ 140737488355328) (hwf : ∀ n ∈ l, (Lit.int .i64 n).wf = true) (a1 : Int) (h1 : (Lit.int .i64 a1).wf = true) :
    Calls Tryd.prog 7 #[.slice A l.length c, .int .i64 a1] w fun e w' => e = .returned (.bool true) ∧ Below w.heap.size w w' := by
  clear h1 hwf
  have e1 : 0 ≤ bits .and .i64 a1 32767 ∧ bits .and .i64 a1 32767 ≤ 32767 := and_le_i64 a1 32767 (by omega)
  obtain ⟨base, hbase⟩ := Int.eq_ofNat_of_zero_le e1.1
  have hbs : bits .and .i64 a1 32767 = (base : Int) := hbase
  have hb32 : base ≤ 32767 := by omega
  obtain ⟨ks, hks⟩ : ∃ ks, ksOf l = ks := ⟨_, rfl⟩
  have hkl := ksOf_length l
  rw [hks] at hkl
  obtain ⟨n, hn⟩ : ∃ n, ks.length = n := ⟨_, rfl⟩
  have n10 : n ≤ 10 := by omega
  have nl : n ≤ l.length := by omega
  have hmin : min (l.length : Int) 10 = (n : Int) := by omega
  have HK := hid hk
  have HR := hid hr
  have HKS := hid hks
  have HN := hid hn
  have U0 := hid (up_refl w)
  obtain ⟨N0, hN0⟩ : ∃ x, w.heap.size = x := ⟨_, rfl⟩
  have HN0 := hid hN0
  clear e1 hbase hk hr hks hn hkl hN0
  go_enter Tryd.func7, Tryd.ntmps7
  go_wp2_with fail
  clear hmin
  go_loopg [6, 7, 8] n (fun k fv nv i wr => ∃ j : Nat, i = .int .i64 j ∧ j + k = n ∧ wr.ownsRow N0 9 1 fv j (strs ((ks.take j).map kT)) ∧ wr.ownsRow N0 9 1 nv j (strs (backNs j)) ∧ Below w.heap.size w wr ∧ N0 ≤ wr.heap.size ∧ (j = 0 → fv = .slice none 0 0 ∧ nv = .slice none 0 0))
  case atStart => exact ⟨0, rfl, by omega, World.ownsRow_nil _ _ _ _, World.ownsRow_nil _ _ _ _, U0.out, Nat.le_of_eq HN0.out.symm, fun _ => ⟨rfl, rfl⟩⟩
  case round =>
    obtain ⟨j, rfl, hj, hF, hN, hU, hs, hnil⟩ := hrel
    have HF := hid hF
    have HNN := hid hN
    have HU := hid hU
    have HNIL := hid hnil
    obtain ⟨FA, fc, rfl, -, -⟩ := own_row hF
    obtain ⟨NA, nc, rfl, -, -⟩ := own_row hN
    clear hF hN hU hnil
    rcases gk with _ | k
    · have hjn : ((j : Int) < (n : Int)) = False := by simp; omega
      obtain rfl : j = n := by omega
      obtain ⟨FA', fc', e', lF, rF⟩ := own_row HF.out
      simp only [Value.slice.injEq, true_and] at e'
      obtain ⟨rfl, rfl⟩ := e'
      obtain ⟨NA', nc', e', lN, rN⟩ := own_row HNN.out
      simp only [Value.slice.injEq, true_and] at e'
      obtain ⟨rfl, rfl⟩ := e'
      have hkj := HN.out
      rw [List.take_of_length_le (by omega)] at rF
      have RF := hid rF
      have RN := hid rN
      have hfl : (ks.map kT).length = j := by rw [List.length_map, hkj]
      have hnl : (backNs j).length = j := by simp [backNs]
      have hm := law7_Made wr base FA NA fc nc (ks.map kT) (backNs j) rF rN (by omega) (by omega) (by omega) (by omega) (by omega) (fun s hs => by
        obtain ⟨k, -, rfl⟩ := List.mem_map.mp (List.mem_of_mem_take hs)
        have := kT_length k
        omega) (fun s hs => by
        obtain ⟨k, -, rfl⟩ := List.mem_map.mp (List.mem_of_mem_take hs)
        simp [nT])
      rw [hfl, hnl] at hm
      have hbp := back_parse ks base (by omega) hb32
      rw [hkj] at hbp
      obtain ⟨img, himg⟩ : ∃ x, atF 256 (ks.map kT) (backNs j) base = x := ⟨_, rfl⟩
      obtain ⟨L, hL⟩ : ∃ x, ((atB 256 (ks.map kT) (backNs j) base).length : Int) - 256 = x := ⟨_, rfl⟩
      have hL2 : -256 ≤ L ∧ L ≤ 140737488355328 := by
        have hlen := hbp.2
        have h2 : (atB 256 (ks.map kT) (backNs j) base).length ≤ 5000 := back_B ks base j hkj (by omega)
        omega
      rw [himg, hL] at hbp hm
      have HM := hid hm
      have HP := hid hbp.1
      have i5 := hbp.2
      clear hm hbp hfl hnl rF rN himg hL lF lN hkj
      go_wp2_with fail
      refine HM.out.mono ?_
      rintro e w5 ⟨v5, rfl, o5, b5⟩
      have U5 := hid (up_trans HU.out b5)
      have W5 := hid b5
      obtain ⟨g5, c5, rfl, -, -, hbs5⟩ := o5.bs
      have B5 := hid hbs5
      clear o5 b5 hbs5
      obtain ⟨g6, hg6⟩ : ∃ g, w5.heap.size = g := ⟨_, rfl⟩
      obtain ⟨x6, hx6⟩ : ∃ zz, w5.alloc (.cells #[(.int .i64 0), (.int .i64 0)] 41) = zz := ⟨_, rfl⟩
      have b6 : Blk x6 w5.heap.size #[(.int .i64 0), (.int .i64 0)] 41 := hx6 ▸ Blk.new _ _ _
      have V6 : Hid (Below w5.heap.size w5 x6) := hid (hx6 ▸ up_alloc (up_refl _) _)
      have N6 : Hid (Below w.heap.size w x6) := hid (up_trans U5.out V6.out)
      have G6 : Hid (w.heap.size ≤ g6) := hid (by rw [← hg6]; exact U5.out.size)
      rw [hg6] at b6
      have l6 : g6 < x6.heap.size := b6.lt
      have c6_0 : x6.cell? ⟨g6, 0, none⟩ = some (.int .i64 0) := b6.cell 0
      have f6_0 : x6.frozen? ⟨g6, 0, none⟩ = false := b6.free 0
      have c6_1 : x6.cell? ⟨g6, 1, none⟩ = some (.int .i64 0) := b6.cell 1
      have f6_1 : x6.frozen? ⟨g6, 1, none⟩ = false := b6.free 1
      have B6 := hid b6
      clear b6
      obtain ⟨w7, hw7⟩ : ∃ zz, (x6.setCell ⟨g6, 0, none⟩ (.int .i64 256)).setCell ⟨g6, 1, none⟩ (.int .i64 L) = zz := ⟨_, rfl⟩
      have U7 : Hid (Below w.heap.size w w7) := hid (hw7 ▸ (N6.out.setCell G6.out _).setCell G6.out _)
      have V7 : Hid (Below w5.heap.size w5 w7) := hid (hw7 ▸ (V6.out.setCell (p := ⟨g6, 0, none⟩) (by rw [hg6]; exact Nat.le_refl _) _).setCell (p := ⟨g6, 1, none⟩) (by rw [hg6]; exact Nat.le_refl _) _)
      have B7 : Hid (Blk w7 g6 #[.int .i64 256, .int .i64 L] 41) := hid (hw7 ▸ B6.out.set2)
      have HPA := hid (exps_Parse w7 (HK.out.below U7.out) _ c5 img (B5.out.below V7.out) 256 L (by omega) (by omega) (by omega) (by omega))
      have b7 := B7.out
      have c7_0 : w7.cell? ⟨g6, 0, none⟩ = some (.int .i64 256) := b7.cell 0
      have f7_0 : w7.frozen? ⟨g6, 0, none⟩ = false := b7.free 0
      have c7_1 : w7.cell? ⟨g6, 1, none⟩ = some (.int .i64 L) := b7.cell 1
      have f7_1 : w7.frozen? ⟨g6, 1, none⟩ = false := b7.free 1
      clear b7
      go_wp2_with fail
      refine HPA.out.mono ?_
      rintro e w8 ⟨hres, b8⟩
      rw [HP.out] at hres
      obtain ⟨fv, nv, rfl, of, on⟩ := hres
      have U8 := hid (up_trans U7.out b8)
      have W8 := hid (up_trans (up_trans W5.out V7.out) b8)
      have hx := exv_own of on (by rw [backX_fl, HN.out]; omega) (by rw [backX_nl, HN.out]; omega)
      obtain ⟨F2, fc2, rfl, -, -⟩ := own_row of
      obtain ⟨N2, nc2, rfl, -, rn2⟩ := own_row on
      have efl := backX_fl ks base
      have enl := backX_nl ks base
      have ebs : (backX ks base).base = (base : Int) := rfl
      rw [HN.out] at efl enl
      rw [efl] at hx
      rw [enl] at hx
      rw [ebs] at hx
      rw [efl, enl, ebs]
      have EX := hid hx
      have RN2 := hid rn2
      clear hx of on rn2 b8 efl enl ebs hw7 hx6 hg6 c6_0 c6_1 f6_0 f6_1 c7_0 c7_1 f7_0 f7_1
      obtain ⟨g9, hg9⟩ : ∃ g, w8.heap.size = g := ⟨_, rfl⟩
      obtain ⟨x9, hx9⟩ : ∃ zz, w8.alloc (.cells #[(.int .i64 0), (.slice none 0 0), (.slice none 0 0)] 47) = zz := ⟨_, rfl⟩
      have b9 : Blk x9 w8.heap.size #[(.int .i64 0), (.slice none 0 0), (.slice none 0 0)] 47 := hx9 ▸ Blk.new _ _ _
      have V9 : Hid (Below w8.heap.size w8 x9) := hid (hx9 ▸ up_alloc (up_refl _) _)
      have N9 : Hid (Below w.heap.size w x9) := hid (up_trans U8.out V9.out)
      have G9 : Hid (w.heap.size ≤ g9) := hid (by rw [← hg9]; exact U8.out.size)
      rw [hg9] at b9
      have l9 : g9 < x9.heap.size := b9.lt
      have c9_0 : x9.cell? ⟨g9, 0, none⟩ = some (.int .i64 0) := b9.cell 0
      have f9_0 : x9.frozen? ⟨g9, 0, none⟩ = false := b9.free 0
      have c9_1 : x9.cell? ⟨g9, 1, none⟩ = some (.slice none 0 0) := b9.cell 1
      have f9_1 : x9.frozen? ⟨g9, 1, none⟩ = false := b9.free 1
      have c9_2 : x9.cell? ⟨g9, 2, none⟩ = some (.slice none 0 0) := b9.cell 2
      have f9_2 : x9.frozen? ⟨g9, 2, none⟩ = false := b9.free 2
      have B9 := hid b9
      clear b9
      obtain ⟨w10, hw10⟩ : ∃ zz, ((x9.setCell ⟨g9, 0, none⟩ (.int .i64 base)).setCell ⟨g9, 1, none⟩ (.slice F2 j fc2)).setCell ⟨g9, 2, none⟩ (.slice N2 j nc2) = zz := ⟨_, rfl⟩
      have U10 : Hid (Below w.heap.size w w10) := hid (hw10 ▸ ((N9.out.setCell G9.out _).setCell G9.out _).setCell G9.out _)
      have V10 : Hid (Below w8.heap.size w8 w10) := hid (hw10 ▸ ((V9.out.setCell (p := ⟨g9, 0, none⟩) (by rw [hg9]; exact Nat.le_refl _) _).setCell (p := ⟨g9, 1, none⟩) (by rw [hg9]; exact Nat.le_refl _) _).setCell (p := ⟨g9, 2, none⟩) (by rw [hg9]; exact Nat.le_refl _) _)
      have B10 : Hid (Blk w10 g9 #[.int .i64 base, .slice F2 j fc2, .slice N2 j nc2] 47) := hid (hw10 ▸ B9.out.set3)
      have W10 := hid (up_trans W8.out V10.out)
      have EX10 := hid (EX.out.below V10.out)
      have RN10 := hid (RN2.out.below V10.out)
      have b10 := B10.out
      have c10_0 : w10.cell? ⟨g9, 0, none⟩ = some (.int .i64 base) := b10.cell 0
      have f10_0 : w10.frozen? ⟨g9, 0, none⟩ = false := b10.free 0
      have c10_1 : w10.cell? ⟨g9, 1, none⟩ = some (.slice F2 j fc2) := b10.cell 1
      have f10_1 : w10.frozen? ⟨g9, 1, none⟩ = false := b10.free 1
      have c10_2 : w10.cell? ⟨g9, 2, none⟩ = some (.slice N2 j nc2) := b10.cell 2
      have f10_2 : w10.frozen? ⟨g9, 2, none⟩ = false := b10.free 2
      clear b10
      go_wp2_with fail
      clear hw10 hx9 hg9 c9_0 c9_1 c9_2 f9_0 f9_1 f9_2 c10_0 c10_1 c10_2 f10_0 f10_1 f10_2
      obtain ⟨wA, rfl⟩ : ∃ x, x = wr := ⟨_, rfl⟩
      go_loopg [13] j (fun k i wx => ∃ q : Nat, i = .int .i64 q ∧ q + k = j ∧ Below w10.heap.size w10 wx)
      case atStart => exact ⟨0, rfl, by omega, up_refl _⟩
      case round =>
        obtain ⟨q, rfl, hq, hub⟩ := hrel
        have HUX := hid hub
        have UX := hid (up_trans U10.out hub)
        have BX := hid (B10.out.below hub)
        have EXx := hid (EX10.out.below hub)
        have RNx := hid (RN10.out.below hub)
        clear hub
        rcases gk with _ | k
        · have hqn : ((q : Int) < (j : Int)) = False := by simp; omega
          go_wp2_with fail
          refine (law7_awake _ (HK.out.below UX.out)).mono ?_
          rintro e w16 ⟨rfl, b16⟩
          have U16 := hid (up_trans UX.out b16)
          clear b16
          go_wp2_with fail
          go_ret
          exact ⟨rfl, U16.out⟩
        · have hqn : ((q : Int) < (j : Int)) = True := by simp; omega
          have hqj : q < j := by omega
          have WX := hid (up_trans W10.out HUX.out)
          obtain ⟨kd, hkd⟩ : ∃ x, ks.getD q 0 = x := ⟨_, rfl⟩
          obtain ⟨av, bv, ok, hfv, hok, hav, hbv⟩ := funcV_cells (fB kd q)
          have HBN : Hid (∀ wd, Below wr.heap.size wr wd → Calls Tryd.prog 21 #[(.agg #[.int .i64 base, .slice F2 j fc2, .slice N2 j nc2]), .string (S (nT q))] wd fun e w' => e = .returned (.tuple #[.agg #[.int .i64 av, .string (S bv)], .bool ok]) ∧ Below wd.heap.size wd w') := hid (fun wd hd => by
            have h := exps_ByName wd (backX ks base) _ (EXx.out.below hd) (nT q) (by show (-9223372036854775808 : Int) ≤ (base : Int); omega) (by show (base : Int) ≤ 9223372036854775807; omega)
            rw [back_name ks base q (by have := HN.out; omega) (by have := HN.out; omega), hkd, hfv] at h
            exact h)
          have HBO : Hid (∀ wd, ExV wd (backX ks base) (.agg #[.int .i64 base, .slice F2 j fc2, .slice N2 j nc2]) → Calls Tryd.prog 22 #[(.agg #[.int .i64 base, .slice F2 j fc2, .slice N2 j nc2]), .int .i64 ((base : Int) + q)] wd fun e w' => e = .returned (.tuple #[.agg #[.int .i64 av, .string (S bv)], .bool ok]) ∧ Below wd.heap.size wd w') := hid (fun wd hx => by
            have h := exps_ByOrd wd (backX ks base) _ hx ((base : Int) + q) (by show (-9223372036854775808 : Int) ≤ (base : Int); omega) (by show (base : Int) ≤ 9223372036854775807; omega) (by omega) (by omega)
            rw [back_ord ks base q (by have := HN.out; omega), hkd, hfv] at h
            exact h)
          obtain ⟨ad, rfl, e0⟩ := (RN.out.below WX.out).str (j := q) (by simp [backNs, hqj])
          rw [show (backNs j)[q]'(by simp [backNs, hqj]) = nT q by simp [backNs]] at e0
          have hbl := lt_of_cell e0
          have hbn : (ad.add q).block ≠ wr.heap.size := by omega
          have b11 := BX.out
          have c11_0 : wr.cell? ⟨g9, 0, none⟩ = some (.int .i64 base) := b11.cell 0
          have f11_0 : wr.frozen? ⟨g9, 0, none⟩ = false := b11.free 0
          have c11_1 : wr.cell? ⟨g9, 1, none⟩ = some (.slice F2 j fc2) := b11.cell 1
          have f11_1 : wr.frozen? ⟨g9, 1, none⟩ = false := b11.free 1
          have c11_2 : wr.cell? ⟨g9, 2, none⟩ = some (.slice N2 j nc2) := b11.cell 2
          have f11_2 : wr.frozen? ⟨g9, 2, none⟩ = false := b11.free 2
          clear b11
          have hg1l : g9 < wr.heap.size := BX.out.lt
          have hg1n : g9 ≠ wr.heap.size := by omega
          go_upto_region 17 with fail
          go_cut [14, 15] (fun u9 u10 wb => ∃ g6, u9 = .pointer (some ⟨g6, 0, none⟩) ∧ u10 = .bool ok ∧ Blk wb g6 #[(.int .i64 av), (.string (S bv))] 52 ∧ Below wr.heap.size wr wb)
          case first =>
            go_region_with (first | (go_at_call 21; refine (HBN.out _ ?_).mono ?_; (first | exact (up_alloc (up_refl _) _).drew | exact up_drewN (up_alloc (up_refl _) _) _); rintro e w5 ⟨rfl, b5⟩; have Ba : Blk w5 wr.heap.size #[.int .i64 0, .string ⟨#[]⟩] 52 := Blk.below (w := _) (by exact Blk.new wr _ _) b5; have Q5 := hid (up_trans (by first | exact (up_alloc (up_refl _) _).drew | exact up_drewN (up_alloc (up_refl _) _) _) b5); clear b5; obtain ⟨g6, hg6⟩ : ∃ g, wr.heap.size = g := ⟨_, rfl⟩; rw [hg6] at Ba; have c6_0 : w5.cell? ⟨g6, 0, none⟩ = some (.int .i64 0) := Ba.cell 0; have f6_0 : w5.frozen? ⟨g6, 0, none⟩ = false := Ba.free 0; have c6_1 : w5.cell? ⟨g6, 1, none⟩ = some (.string ⟨#[]⟩) := Ba.cell 1; have f6_1 : w5.frozen? ⟨g6, 1, none⟩ = false := Ba.free 1; obtain ⟨w7, hw7⟩ : ∃ zz, (w5.setCell ⟨g6, 0, none⟩ (.int .i64 av)).setCell ⟨g6, 1, none⟩ (.string (S bv)) = zz := ⟨_, rfl⟩; have Bf : Hid (Blk w7 g6 #[(.int .i64 av), (.string (S bv))] 52) := hid (hw7 ▸ Ba.set2); have Q7 : Hid (Below wr.heap.size wr w7) := hid (hw7 ▸ (Q5.out.setCell (p := ⟨g6, 0, none⟩) (by rw [hg6]; exact Nat.le_refl _) _).setCell (p := ⟨g6, 1, none⟩) (by rw [hg6]; exact Nat.le_refl _) _); clear Ba Q5) | (go_at_call 21; refine (HBN.out _ ?_).mono ?_; (first | exact up_drew (up_refl _) | exact up_drewN (up_refl _) _ | exact up_refl _); rintro e w5 ⟨rfl, b5⟩; have Q5 : Hid (Below wr.heap.size wr w5) := hid (up_trans (by first | exact up_drew (up_refl _) | exact up_drewN (up_refl _) _ | exact up_refl _) b5); clear b5; have U5 := hid (up_trans UX.out Q5.out); obtain ⟨g6, hg6⟩ : ∃ g, w5.heap.size = g := ⟨_, rfl⟩; obtain ⟨x6, hx6⟩ : ∃ zz, w5.alloc (.cells #[(.int .i64 0), (.string ⟨#[]⟩)] 52) = zz := ⟨_, rfl⟩; have b6 : Blk x6 w5.heap.size #[(.int .i64 0), (.string ⟨#[]⟩)] 52 := hx6 ▸ Blk.new _ _ _; have V6 : Hid (Below w5.heap.size w5 x6) := hid (hx6 ▸ up_alloc (up_refl _) _); have N6 : Hid (Below w.heap.size w x6) := hid (up_trans U5.out V6.out); have G6 : Hid (w.heap.size ≤ g6) := hid (by rw [← hg6]; exact U5.out.size); rw [hg6] at b6; have l6 : g6 < x6.heap.size := b6.lt; have c6_0 : x6.cell? ⟨g6, 0, none⟩ = some (.int .i64 0) := b6.cell 0; have f6_0 : x6.frozen? ⟨g6, 0, none⟩ = false := b6.free 0; have c6_1 : x6.cell? ⟨g6, 1, none⟩ = some (.string ⟨#[]⟩) := b6.cell 1; have f6_1 : x6.frozen? ⟨g6, 1, none⟩ = false := b6.free 1; have B6 := hid b6; clear b6; obtain ⟨w7, hw7⟩ : ∃ zz, (x6.setCell ⟨g6, 0, none⟩ (.int .i64 av)).setCell ⟨g6, 1, none⟩ (.string (S bv)) = zz := ⟨_, rfl⟩; have Bf : Hid (Blk w7 g6 #[(.int .i64 av), (.string (S bv))] 52) := hid (hw7 ▸ B6.out.set2); have Q7 : Hid (Below wr.heap.size wr w7) := hid (hw7 ▸ up_trans Q5.out ((V6.out.setCell (p := ⟨g6, 0, none⟩) (by rw [hg6]; exact Nat.le_refl _) _).setCell (p := ⟨g6, 1, none⟩) (by rw [hg6]; exact Nat.le_refl _) _)); clear Q5 U5 V6 N6 G6 B6))
            all_goals
              go_wp2_with fail
              go_meet
              exact ⟨g6, rfl, rfl, Bf.out, Q7.out⟩
          case rest =>
            obtain ⟨g6, rfl, rfl, hB6, hQ6⟩ := hcut
            have B6 := hid hB6
            have Q6 := hid hQ6
            have U6 := hid (up_trans UX.out hQ6)
            have E6 := hid (EXx.out.below hQ6)
            have BX6 := hid (BX.out.below hQ6)
            have b12 := BX6.out
            have c12_0 : wc.cell? ⟨g9, 0, none⟩ = some (.int .i64 base) := b12.cell 0
            have f12_0 : wc.frozen? ⟨g9, 0, none⟩ = false := b12.free 0
            have c12_1 : wc.cell? ⟨g9, 1, none⟩ = some (.slice F2 j fc2) := b12.cell 1
            have f12_1 : wc.frozen? ⟨g9, 1, none⟩ = false := b12.free 1
            have c12_2 : wc.cell? ⟨g9, 2, none⟩ = some (.slice N2 j nc2) := b12.cell 2
            have f12_2 : wc.frozen? ⟨g9, 2, none⟩ = false := b12.free 2
            clear b12
            clear hB6 hQ6 f12_0 f12_1 f12_2 c11_0 c11_1 c11_2 f11_0 f11_1 f11_2 hbn hg1n
            go_wp2_with fail
            refine (HBO.out _ E6.out).mono ?_
            rintro e w8 ⟨rfl, b8⟩
            have U8 := hid (up_trans U6.out b8)
            have Q8 := hid (up_trans Q6.out b8)
            have B8 := hid (B6.out.below b8)
            have BX8 := hid (BX6.out.below b8)
            clear b8 c12_0 c12_1 c12_2
            obtain ⟨g13, hg13⟩ : ∃ g, w8.heap.size = g := ⟨_, rfl⟩
            obtain ⟨x13, hx13⟩ : ∃ zz, w8.alloc (.cells #[(.int .i64 0), (.string ⟨#[]⟩)] 52) = zz := ⟨_, rfl⟩
            have b13 : Blk x13 w8.heap.size #[(.int .i64 0), (.string ⟨#[]⟩)] 52 := hx13 ▸ Blk.new _ _ _
            have V13 : Hid (Below w8.heap.size w8 x13) := hid (hx13 ▸ up_alloc (up_refl _) _)
            have N13 : Hid (Below w.heap.size w x13) := hid (up_trans U8.out V13.out)
            have G13 : Hid (w.heap.size ≤ g13) := hid (by rw [← hg13]; exact U8.out.size)
            rw [hg13] at b13
            have l13 : g13 < x13.heap.size := b13.lt
            have c13_0 : x13.cell? ⟨g13, 0, none⟩ = some (.int .i64 0) := b13.cell 0
            have f13_0 : x13.frozen? ⟨g13, 0, none⟩ = false := b13.free 0
            have c13_1 : x13.cell? ⟨g13, 1, none⟩ = some (.string ⟨#[]⟩) := b13.cell 1
            have f13_1 : x13.frozen? ⟨g13, 1, none⟩ = false := b13.free 1
            have B13 := hid b13
            clear b13
            obtain ⟨w14, hw14⟩ : ∃ zz, (x13.setCell ⟨g13, 0, none⟩ (.int .i64 av)).setCell ⟨g13, 1, none⟩ (.string (S bv)) = zz := ⟨_, rfl⟩
            have B14 : Hid (Blk w14 g13 #[.int .i64 av, .string (S bv)] 52) := hid (hw14 ▸ B13.out.set2)
            have V14 : Hid (Below w8.heap.size w8 w14) := hid (hw14 ▸ (V13.out.setCell (p := ⟨g13, 0, none⟩) (by rw [hg13]; exact Nat.le_refl _) _).setCell (p := ⟨g13, 1, none⟩) (by rw [hg13]; exact Nat.le_refl _) _)
            have U14 := hid (up_trans U8.out V14.out)
            have Q14 := hid (up_trans Q8.out V14.out)
            have B15 := hid (B8.out.below V14.out)
            have BX15 := hid (BX8.out.below V14.out)
            have hql : q < l.length := by omega
            obtain ⟨ak, rfl, k0⟩ := (HR.out.below U14.out).cell (j := q) (by rw [List.length_map]; exact hql)
            rw [List.getElem_map] at k0
            have e3 : 0 ≤ bits .and .i64 l[q] 3 ∧ bits .and .i64 l[q] 3 ≤ 3 := and_le_i64 l[q] 3 (by omega)
            have hkq : bits .and .i64 l[q] 3 = (kd : Int) := by
              obtain ⟨m, hm⟩ := Int.eq_ofNat_of_zero_le e3.1
              have : kd = m := by
                rw [← hkd, ← HKS.out, ksOf, List.getD_eq_getElem?_getD, List.getElem?_map, List.getElem?_take, if_pos (by omega), List.getElem?_eq_getElem hql]
                simp [hm]
              rw [hm, this]
            have kd4 : kd < 4 := by omega
            have e0b := (Q14.out.cell (p := ad.add q) hbl).trans e0
            have b14 := B14.out
            have c14_0 : w14.cell? ⟨g13, 0, none⟩ = some (.int .i64 av) := b14.cell 0
            have f14_0 : w14.frozen? ⟨g13, 0, none⟩ = false := b14.free 0
            have c14_1 : w14.cell? ⟨g13, 1, none⟩ = some (.string (S bv)) := b14.cell 1
            have f14_1 : w14.frozen? ⟨g13, 1, none⟩ = false := b14.free 1
            clear b14
            have b15 := B15.out
            have c15_0 : w14.cell? ⟨g6, 0, none⟩ = some (.int .i64 av) := b15.cell 0
            have f15_0 : w14.frozen? ⟨g6, 0, none⟩ = false := b15.free 0
            have c15_1 : w14.cell? ⟨g6, 1, none⟩ = some (.string (S bv)) := b15.cell 1
            have f15_1 : w14.frozen? ⟨g6, 1, none⟩ = false := b15.free 1
            clear b15
            have b16 := BX15.out
            have c16_0 : w14.cell? ⟨g9, 0, none⟩ = some (.int .i64 base) := b16.cell 0
            have f16_0 : w14.frozen? ⟨g9, 0, none⟩ = false := b16.free 0
            have c16_1 : w14.cell? ⟨g9, 1, none⟩ = some (.slice F2 j fc2) := b16.cell 1
            have f16_1 : w14.frozen? ⟨g9, 1, none⟩ = false := b16.free 1
            have c16_2 : w14.cell? ⟨g9, 2, none⟩ = some (.slice N2 j nc2) := b16.cell 2
            have f16_2 : w14.frozen? ⟨g9, 2, none⟩ = false := b16.free 2
            clear b16
            have HQX : Hid (Below w10.heap.size w10 w14) := hid (up_trans HUX.out Q14.out)
            obtain hk1 | hk1 : kd = 1 ∨ kd ≠ 1 := by omega
            · subst hk1
              have hokf : false = ok := hok
              subst hokf
              go_wp2_with fail
              go_roundg k
              case measure => omega
              case rel => exact ⟨q + 1, by go_num, by omega, HQX.out⟩
            · have hfb : fB kd q = some (kF kd q) := by simp [fB, hk1]
              rw [hfb] at hok hav hbv
              have hokt : true = ok := hok
              subst hokt
              simp only [Option.getD_some] at hav hbv
              have hk5 : ((kd : Int) == 1) = false := by simp; omega
              obtain ⟨af, rfl, fz0⟩ := ((RF.out.below WX.out).below Q14.out).str (j := q) (by rw [List.length_map, HN.out]; exact hqj)
              obtain ⟨an, rfl, hnl, n0, n1⟩ := (RNx.out.below Q14.out).elem (fun x : NamedD => [.string (S x.name), .int .i64 x.index]) 2 (by decide) (fun _ => rfl) (j := q) (x := ⟨nT q, q⟩) (by simp [backX, HN.out, hqj])
              have n1' := n1 1 (by decide) (by decide)
              simp only [List.getElem?_cons_zero, List.getElem?_cons_succ] at n0 n1'
              have fz : w14.cell? (af.add q) = some (.string (S (kT kd))) := by
                rw [fz0, List.getElem_map]
                congr 3
                rw [← hkd, List.getD_eq_getElem?_getD, List.getElem?_eq_getElem (by rw [HN.out]; exact hqj)]
                rfl
              have hST := S_toList (nT q)
              clear fz0 hok hkd hfb n1
              obtain ⟨nm, hnm⟩ : ∃ x, nT q = x := ⟨_, rfl⟩
              rw [hnm] at n0 e0b hST e0
              clear hnm
              have hcmp : kd ≠ 0 → ((S bv).toList == (S (kT kd)).toList) = true := fun h => by
                have h1 : (kF kd q) = ⟨0, kT kd⟩ := (kT_ok kd (by omega)).2.2.2 q
                rw [h1] at hbv
                have h3 : kT kd = bv := hbv
                rw [h3, S_toList]
                simp
              have hav0 : kd ≠ 0 → (av == 0) = true := fun h => by
                have h1 : (kF kd q) = ⟨0, kT kd⟩ := (kT_ok kd (by omega)).2.2.2 q
                rw [h1] at hav
                have h2 : 0 = av := hav
                simp [← h2]
              rcases Nat.eq_zero_or_pos kd with hk0 | hk0
              · subst hk0
                have h1 : 64 + (q : Int) = av := hav
                have h2 : [] = bv := hbv
                have h3 : (av == 64 + (q : Int)) = true := by simp [← h1]
                have h4 : (S bv).toList = [] := by rw [S_toList, ← h2]
                clear hav hbv h1 h2 hcmp hav0 hST
                go_wp2_with fail
                go_quiet (fail)
                go_wp2_with fail
                go_roundg k
                case measure => omega
                case rel => exact ⟨q + 1, by go_num, by omega, up_drewN HQX.out _⟩
              · have h3 := hav0 (by omega)
                have h4 := hcmp (by omega)
                have hk6 : ((kd : Int) == 0) = false := by simp; omega
                obtain ⟨kt, hkt⟩ : ∃ x, kT kd = x := ⟨_, rfl⟩
                rw [hkt] at h4 fz
                clear hkt hav hbv hcmp hav0 hST
                go_wp2_with fail
                go_quiet (fail)
                go_wp2_with fail
                go_quiet (fail)
                go_wp2_with fail
                go_roundg k
                case measure => omega
                case rel => exact ⟨q + 1, by go_num, by omega, by first | exact up_drewN HQX.out _ | exact up_drewN (up_drewN HQX.out _) _⟩
    · have hjn : ((j : Int) < (n : Int)) = True := by simp; omega
      have hjl : j < l.length := by omega
      obtain ⟨ad, rfl, hc0⟩ := (HR.out.below HU.out).cell (j := j) (by rw [List.length_map]; exact hjl)
      rw [List.getElem_map] at hc0
      have e3 : 0 ≤ bits .and .i64 l[j] 3 ∧ bits .and .i64 l[j] 3 ≤ 3 := and_le_i64 l[j] 3 (by omega)
      obtain ⟨q, hq⟩ := Int.eq_ofNat_of_zero_le e3.1
      have hq' : bits .and .i64 l[j] 3 = (q : Int) := hq
      have q4 : q < 4 := by omega
      have hkd : ks.getD j 0 = q := by
        rw [← HKS.out, ksOf, List.getD_eq_getElem?_getD, List.getElem?_map, List.getElem?_take]
        rw [if_pos (by omega), List.getElem?_eq_getElem hjl]
        simp [hq']
      have HKD := hid hkd
      have hcj : IntKind.u8.wrap (j : Int) = (j : Int) := by simp [IntKind.wrap, IntKind.bits, IntKind.signed]; omega
      have hcj2 : IntKind.u8.wrap (97 + (j : Int)) = 97 + (j : Int) := by simp [IntKind.wrap, IntKind.bits, IntKind.signed]; omega
      have hbl : (ad.add j).block < wr.heap.size := lt_of_cell hc0
      have hc1 : (wr.alloc (.cells #[.string ⟨#[102]⟩, .string ⟨#[]⟩, .string ⟨#[97, 46, 100, 108, 108, 46, 103]⟩, .string ⟨#[98, 46, 35, 55]⟩] 9)).cell? (ad.add j) = some (.int .i64 l[j]) := ((up_alloc (up_refl wr) _).cell hbl).trans hc0
      have hc2 : (wr.alloc (.cells #[.string ⟨#[102]⟩, .string ⟨#[]⟩, .string ⟨#[97, 46, 100, 108, 108, 46, 103]⟩, .string ⟨#[98, 46, 35, 55]⟩] 9)).cell? ⟨wr.heap.size, q, none⟩ = some (.string (S (kT q))) := ((Blk.new wr #[.string ⟨#[102]⟩, .string ⟨#[]⟩, .string ⟨#[97, 46, 100, 108, 108, 46, 103]⟩, .string ⟨#[98, 46, 35, 55]⟩] 9).cell q).trans (four_at q q4)
      clear e3 hq hkd
      have hap := back_apart ks HF.out HNN.out (by have := HN.out; omega) (fun e => (HNIL.out e).1) (fun e => (HNIL.out e).2)
      obtain ⟨bt, hbt⟩ : ∃ bt, UInt8.ofNat (97 + j) = bt := ⟨_, rfl⟩
      have hnt : ByteArray.mk #[110] ++ S [bt] = S (nT j) := hbt ▸ S_append [110] _
      have HBT := hid hbt
      have HNT := hid hnt
      clear hnt hbt
      go_wp2_with (first | (at_builtin; refine wp_app' (wr.alloc (.cells #[.string ⟨#[102]⟩, .string ⟨#[]⟩, .string ⟨#[97, 46, 100, 108, 108, 46, 103]⟩, .string ⟨#[98, 46, 35, 55]⟩] 9)) (o := ⟨some 36, _, _, _, _, _⟩) rfl _ _ 39 rfl N0 9 (.string ⟨#[]⟩) 1 16 Tryd.underlying39 infoStr rfl (by decide) (.slice FA j fc) j (strs ((ks.take j).map kT)) (by rfl) (HF.out.alloc _) [.string (S (kT q))] rfl (by simp [Value.oneCell']) (wr.heap.size + 1) (by rfl) (by simp) (by omega) (by omega) (by simp; omega) ?_; intro v1 w3 hown1 hbel1 hgr1; obtain ⟨FA1, fc1, rfl, -, -⟩ := own_row hown1; have F3 : Hid (w3.ownsRow N0 9 1 (.slice FA1 (j + 1) fc1) (j + 1) (strs ((ks.take (j + 1)).map kT))) := hid (by rw [strs_map_snoc ks j (by have := HN.out; omega), HKD.out]; exact hown1); obtain ⟨n3, u3, s3⟩ := back_step HN0.out HU.out hs (up_alloc (up_alloc (up_refl _) _) _) HF.out HNN.out hap.1 hgr1; have N3 := hid n3; have U3 := hid u3; have hcv := str_byte w3 w3.heap.size rfl (97 + j) (by omega) (97 + (j : Int)) (by omega) bt HBT.out; have hnt := HNT.out; clear n3 u3 hown1 hbel1 hgr1) | (at_builtin; refine wp_app' (w3.alloc (.cells #[.int .u8 (97 + (j : Int))] 5)) (o := ⟨some 45, _, _, _, _, _⟩) rfl _ _ 39 rfl N0 9 (.string ⟨#[]⟩) 1 16 Tryd.underlying39 infoStr rfl (by decide) (.slice NA j nc) j (strs (backNs j)) (by rfl) (N3.out.alloc _) [.string (S (nT j))] rfl (by simp [Value.oneCell']) (w3.heap.size + 1) (by rfl) (by simp) (by omega) (by omega) (by simp; omega) ?_; intro v2 w4 hown2 hbel2 hgr2; obtain ⟨NA1, nc1, rfl, -, -⟩ := own_row hown2; have N4 : Hid (w4.ownsRow N0 9 1 (.slice NA1 (j + 1) nc1) (j + 1) (strs (backNs (j + 1)))) := hid (by rw [backNs_succ]; exact hown2); obtain ⟨f4, u4, s4⟩ := back_step HN0.out U3.out s3 (up_alloc (up_alloc (up_refl _) _) _) N3.out F3.out (back_apart ks F3.out N3.out (by have := HN.out; omega) (fun e => absurd e (by omega)) (fun e => (HNIL.out e).2)).2 hgr2; have F4 := hid f4; have U4 := hid u4; clear f4 u4 hown2 hbel2 hgr2))
      go_roundg k
      case measure => omega
      case rel => exact ⟨j + 1, by go_num, by omega, F4.out, N4.out, U4.out, s4, fun e => absurd e (by omega)⟩
end Go.Proofs.YtapllnnconpieaaDoor
