/- ExpsBounds, walked. -/
import Derived.Test.YtapllnnconpieaaDoorExpsB
import Derived.Test.YtapllnnconpieaaDoorMk
set_option linter.unusedVariables false
namespace Go.Proofs.YtapllnnconpieaaDoor
open Go.RowKit

theorem bsOf (w : World) (l : List UInt8) (hl : l.length ≤ 140737488355328) : Bs (Lib.bytesWorld w 5 (S l)) (some ⟨w.heap.size, 0, none⟩) (grownCap w l.length 0 5) l := by
  obtain ⟨g, cap, e, -, -, h⟩ := (ownB_bytes w l hl).bs
  simp only [Value.slice.injEq, Option.some.injEq, Addr.mk.injEq, and_true, true_and] at e
  obtain ⟨rfl, rfl⟩ := e
  exact h

theorem bs_far {w w' : World} {g gj cj : Nat} {a b : Value} {l : List UInt8} (hw : (w.setCell ⟨g, 0, none⟩ a).setCell ⟨g, 1, none⟩ b = w') (h : Bs w (some ⟨gj, 0, none⟩) cj l) (hne : gj ≠ g) : Bs w' (some ⟨gj, 0, none⟩) cj l := by
  subst hw
  refine ⟨?_, h.le, h.mx⟩
  rcases h.row with e | ⟨ad, e, hc⟩
  · exact .inl e
  · obtain rfl := Option.some.inj e
    refine .inr ⟨_, rfl, fun j hj => ?_⟩
    have hb : ((⟨gj, 0, none⟩ : Addr).add j).block = gj := by unfold Addr.add; split <;> rfl
    rw [← hc j hj]
    unfold World.cell?
    rw [heap_setCell_other _ _ _ _ (by rw [hb]; exact hne), heap_setCell_other _ _ _ _ (by rw [hb]; exact hne)]
theorem bI_length (n : Nat) : (bI n).length = 104 + 4 * n := by unfold bI; rw [putF_length, putF_length, zer_length]

set_option maxRecDepth 100000 in
set_option maxHeartbeats 16000000 in
theorem walk_ExpsBounds (w : World) (hk : LibOk w) (a0 : Int) (h0 : (Lit.int .i64 a0).wf = true) (a1 : Int) (h1 : (Lit.int .i64 a1).wf = true) :
    Calls Tryd.prog 8 #[.int .i64 a0, .int .i64 a1] w fun e w' => e = .returned (.bool true) ∧ Below w.heap.size w w' := by
  clear h0 h1
  have e0 : 0 ≤ bits .and .i64 a0 15 ∧ bits .and .i64 a0 15 ≤ 15 := and_le_i64 a0 15 (by omega)
  obtain ⟨m, hm⟩ := Int.eq_ofNat_of_zero_le e0.1
  have hm' : bits .and .i64 a0 15 = (m : Int) := hm
  obtain ⟨n, hn⟩ : ∃ n, m + 250 = n := ⟨_, rfl⟩
  have hmn : (m : Int) + 250 = (n : Int) := by omega
  have n0 : 250 ≤ n := by omega
  have n1 : n ≤ 265 := by omega
  have e1 : 0 ≤ bits .and .i64 a1 3 ∧ bits .and .i64 a1 3 ≤ 3 := and_le_i64 a1 3 (by omega)
  obtain ⟨q, hq⟩ := Int.eq_ofNat_of_zero_le e1.1
  have hq' : bits .and .i64 a1 3 = (q : Int) := hq
  have q3 : q = 0 ∨ q = 1 ∨ q = 2 ∨ q = 3 := by omega
  have HK := hid hk
  have U0 := hid (up_refl w)
  obtain ⟨T, hT⟩ : ∃ t, 104 + 4 * n = t := ⟨_, rfl⟩
  have hT' : 104 + 4 * (n : Int) = (T : Int) := by omega
  have hTb : T ≤ 2000 := by omega
  have hTn : Hid (T = 104 + 4 * n) := hid hT.symm
  clear e0 hm hk hn e1 hq hT
  obtain ⟨w1, hmk, o1, b1, s1⟩ := run_makeB w T (by omega)
  obtain ⟨gm, hgm⟩ : ∃ g, w.heap.size = g := ⟨_, rfl⟩
  have HGM : Hid (w.heap.size = gm) := hgm
  rw [hgm] at hmk o1
  obtain ⟨g', c', e', -, -, hbs⟩ := o1.bs
  simp only [zer_length, Value.slice.injEq, Option.some.injEq, Addr.mk.injEq, and_true, true_and] at e'
  obtain ⟨rfl, rfl⟩ := e'
  have hcv : (convert 22 9 (.slice (some ⟨gm, 0, none⟩) T T)).run Tryd.prog w1 = .ok (.string (S (zer T))) w1 :=
    run_str w1 _ _ 5 Tryd.underlying22 Tryd.underlying5 Tryd.underlying9 _ T T (zer T) (zer_length T) hbs.row
  have U1 := hid b1
  have zl := zer_length T
  have hu : IntKind.u64.wrap (n : Int) = (n : Int) := wrap_u64_id (by omega) (by omega)
  have P1 := hid (fun w => ref_PutF (zer T) 84 4 n w (by rw [zl]; omega) (by omega) (by omega) (by omega) (by omega) (by omega) (by omega))
  have P2 := hid (fun w => ref_PutF (putF (zer T) 84 4 n) 92 4 104 w (by rw [putF_length, zl]; omega) (by omega) (by omega) (by omega) (by omega) (by omega) (by omega))
  have hbI : putF (putF (zer T) 84 4 n) 92 4 104 = bI n := by rw [bI, hTn.out]
  obtain ⟨s1', hs1⟩ : ∃ x, putF (zer T) 84 4 n = x := ⟨_, rfl⟩
  have P1' : Hid (∀ w, Calls Tryd.prog 24 #[.string (S (zer T)), .int .i64 84, .int .i64 4, .int .u64 n] w fun e w' => ∃ b, e = .returned (.tuple #[.string (S s1'), .bool b]) ∧ Below w.heap.size w w') := hid (by
    rw [← hs1]
    exact P1.out)
  have P2' : Hid (∀ w, Calls Tryd.prog 24 #[.string (S s1'), .int .i64 92, .int .i64 4, .int .u64 104] w fun e w' => ∃ b, e = .returned (.tuple #[.string (S (bI n)), .bool b]) ∧ Below w.heap.size w w') := hid (by
    rw [← hbI, ← hs1]
    exact P2.out)
  have HC := hid (bI_cases n n0 n1)
  have hbl := bI_length n
  have HPA := hid (fun w hl A c hr => exps_Parse w hl A c (bI n) hr 64 40 (by omega) (by omega) (by omega) (by omega))
  obtain ⟨l0, hl0⟩ : ∃ x, bI n = x := ⟨_, rfl⟩
  rw [hl0] at P2' HC hbl HPA
  have hl0b : l0.length ≤ 2000 := by omega
  have HL0 := hid hl0b
  obtain ⟨z, hz⟩ : ∃ x, zer T = x := ⟨_, rfl⟩
  rw [hz] at hcv P1'
  clear o1 b1 s1 hbs zl P1 P2 hbI hs1 hl0 hz hbl
  go_enter Tryd.func8, Tryd.ntmps8
  go_wp2_with fail
  refine (P1'.out _).mono ?_
  rintro e w2 ⟨bb, rfl, b2⟩
  have U2 := hid (up_trans U1.out b2)
  clear b2 hmk hcv
  go_wp2_with fail
  refine (P2'.out _).mono ?_
  rintro e w3 ⟨bc, rfl, b3⟩
  have U3 := hid (up_trans U2.out b3)
  clear b3
  obtain ⟨g4, hg4⟩ : ∃ g, w3.heap.size = g := ⟨_, rfl⟩
  obtain ⟨x4, hx4⟩ : ∃ zz, w3.alloc (.cells #[(.int .i64 0), (.int .i64 0)] 41) = zz := ⟨_, rfl⟩
  have b4 : Blk x4 w3.heap.size #[(.int .i64 0), (.int .i64 0)] 41 := hx4 ▸ Blk.new _ _ _
  have V4 : Hid (Below w3.heap.size w3 x4) := hid (hx4 ▸ up_alloc (up_refl _) _)
  have N4 : Hid (Below w.heap.size w x4) := hid (up_trans U3.out V4.out)
  have G4 : Hid (w.heap.size ≤ g4) := hid (by rw [← hg4]; exact U3.out.size)
  rw [hg4] at b4
  have l4 : g4 < x4.heap.size := b4.lt
  have c4_0 : x4.cell? ⟨g4, 0, none⟩ = some (.int .i64 0) := b4.cell 0
  have f4_0 : x4.frozen? ⟨g4, 0, none⟩ = false := b4.free 0
  have c4_1 : x4.cell? ⟨g4, 1, none⟩ = some (.int .i64 0) := b4.cell 1
  have f4_1 : x4.frozen? ⟨g4, 1, none⟩ = false := b4.free 1
  have B4 := hid b4
  clear b4
  obtain ⟨w5, hw5⟩ : ∃ zz, (x4.setCell ⟨g4, 0, none⟩ (.int .i64 64)).setCell ⟨g4, 1, none⟩ (.int .i64 40) = zz := ⟨_, rfl⟩
  have B5 : Hid (Blk w5 g4 #[.int .i64 64, .int .i64 40] 41) := hid (hw5 ▸ B4.out.set2)
  have U5 : Hid (Below w.heap.size w w5) := hid (hw5 ▸ (N4.out.setCell G4.out _).setCell G4.out _)
  have hd : (convert 9 22 (.string (S l0))).run Tryd.prog w5 = .ok (.slice (some ⟨w5.heap.size, 0, none⟩) (S l0).size (grownCap w5 (S l0).size 0 5)) (Lib.bytesWorld w5 5 (S l0)) :=
    Lib.run_convert_string_bytes w5 _ _ 5 (S l0) Tryd.underlying9 Tryd.underlying22 Tryd.underlying5
  have hbs6 := bsOf w5 l0 (by omega)
  have hbl6 := bytesWorld_below w5 5 (S l0)
  rw [S_size l0] at hd
  obtain ⟨cp, hcp⟩ : ∃ c, grownCap w5 l0.length 0 5 = c := ⟨_, rfl⟩
  obtain ⟨w6, hw6⟩ : ∃ x, Lib.bytesWorld w5 5 (S l0) = x := ⟨_, rfl⟩
  obtain ⟨g6, hg6⟩ : ∃ g, w5.heap.size = g := ⟨_, rfl⟩
  rw [hcp, hw6] at hd hbs6
  rw [hw6] at hbl6
  rw [hg6] at hd hbs6
  have B6 := hid (B5.out.below hbl6)
  have U6 := hid (up_trans U5.out hbl6)
  have HPB := hid (HPA.out w6 (HK.out.below U6.out) _ cp hbs6)
  have b6 := B6.out
  have c6_0 : w6.cell? ⟨g4, 0, none⟩ = some (.int .i64 64) := b6.cell 0
  have f6_0 : w6.frozen? ⟨g4, 0, none⟩ = false := b6.free 0
  have c6_1 : w6.cell? ⟨g4, 1, none⟩ = some (.int .i64 40) := b6.cell 1
  have f6_1 : w6.frozen? ⟨g4, 1, none⟩ = false := b6.free 1
  clear b6
  clear hbs6 hbl6 hcp hw6 HPA B5 B4 V4 f6_0 f6_1
  have S8 : Hid (∃ ev FA fl fc NA nl nc errv, (∀ w', ExpsRes (parseX l0 64 40) w6.heap.size (.returned (.tuple #[.agg #[.int .i64 ev, .slice FA fl fc, .slice NA nl nc], .int .i64 errv])) w' → True) ∧ True) := hid ⟨0, none, 0, 0, none, 0, 0, 0, fun _ _ => trivial, trivial⟩
  clear S8
  go_wp2_with fail
  refine HPB.out.mono ?_
  rintro e w7 ⟨hres, b7⟩
  have U7 := hid (up_trans U6.out b7)
  have hcase : ∃ ev FA fl fc NA nl nc errv, e = .returned (.tuple #[.agg #[.int .i64 ev, .slice FA fl fc, .slice NA nl nc], .int .i64 errv]) ∧ ((256 < n ∧ errv = 11 ∧ fl = 0) ∨ (n ≤ 256 ∧ errv = 0 ∧ fl = n)) := by
    rcases HC.out with ⟨hc, hp⟩ | ⟨hc, x, hp, hx1, hx2⟩
    · rw [hp] at hres
      exact ⟨_, _, _, _, _, _, _, _, hres, .inl ⟨hc, rfl, rfl⟩⟩
    · rw [hp] at hres
      obtain ⟨fv, nv, he, of, on⟩ := hres
      obtain ⟨FA, fc, rfl, -, -⟩ := own_row of
      obtain ⟨NA, nc, rfl, -, -⟩ := own_row on
      exact ⟨_, _, _, _, _, _, _, _, he, .inr ⟨hc, rfl, hx1⟩⟩
  obtain ⟨ev, FA, fl, fc, NA, nl, nc, errv, rfl, hcc⟩ := hcase
  clear hres b7 hd hw5 hg4 hx4 hg6 c6_0 c6_1 c4_0 c4_1 f4_0 f4_1
  obtain ⟨g8, hg8⟩ : ∃ g, w7.heap.size = g := ⟨_, rfl⟩
  obtain ⟨x8, hx8⟩ : ∃ zz, w7.alloc (.cells #[(.int .i64 0), (.slice none 0 0), (.slice none 0 0)] 47) = zz := ⟨_, rfl⟩
  have b8 : Blk x8 w7.heap.size #[(.int .i64 0), (.slice none 0 0), (.slice none 0 0)] 47 := hx8 ▸ Blk.new _ _ _
  have V8 : Hid (Below w7.heap.size w7 x8) := hid (hx8 ▸ up_alloc (up_refl _) _)
  have N8 : Hid (Below w.heap.size w x8) := hid (up_trans U7.out V8.out)
  have G8 : Hid (w.heap.size ≤ g8) := hid (by rw [← hg8]; exact U7.out.size)
  rw [hg8] at b8
  have l8 : g8 < x8.heap.size := b8.lt
  have c8_0 : x8.cell? ⟨g8, 0, none⟩ = some (.int .i64 0) := b8.cell 0
  have f8_0 : x8.frozen? ⟨g8, 0, none⟩ = false := b8.free 0
  have c8_1 : x8.cell? ⟨g8, 1, none⟩ = some (.slice none 0 0) := b8.cell 1
  have f8_1 : x8.frozen? ⟨g8, 1, none⟩ = false := b8.free 1
  have c8_2 : x8.cell? ⟨g8, 2, none⟩ = some (.slice none 0 0) := b8.cell 2
  have f8_2 : x8.frozen? ⟨g8, 2, none⟩ = false := b8.free 2
  have B8 := hid b8
  clear b8
  obtain ⟨w9, hw9⟩ : ∃ zz, ((x8.setCell ⟨g8, 0, none⟩ (.int .i64 ev)).setCell ⟨g8, 1, none⟩ (.slice FA fl fc)).setCell ⟨g8, 2, none⟩ (.slice NA nl nc) = zz := ⟨_, rfl⟩
  have B9 : Hid (Blk w9 g8 #[.int .i64 ev, .slice FA fl fc, .slice NA nl nc] 47) := hid (hw9 ▸ B8.out.set3)
  have U9 : Hid (Below w.heap.size w w9) := hid (hw9 ▸ ((N8.out.setCell G8.out _).setCell G8.out _).setCell G8.out _)
  have b9 := B9.out
  have c9_0 : w9.cell? ⟨g8, 0, none⟩ = some (.int .i64 ev) := b9.cell 0
  have f9_0 : w9.frozen? ⟨g8, 0, none⟩ = false := b9.free 0
  have c9_1 : w9.cell? ⟨g8, 1, none⟩ = some (.slice FA fl fc) := b9.cell 1
  have f9_1 : w9.frozen? ⟨g8, 1, none⟩ = false := b9.free 1
  have c9_2 : w9.cell? ⟨g8, 2, none⟩ = some (.slice NA nl nc) := b9.cell 2
  have f9_2 : w9.frozen? ⟨g8, 2, none⟩ = false := b9.free 2
  clear b9
  clear f9_0 f9_1 f9_2
  obtain ⟨g10, hg10⟩ : ∃ g, w9.heap.size = g := ⟨_, rfl⟩
  obtain ⟨x10, hx10⟩ : ∃ zz, w9.alloc (.cells #[(.string ⟨#[102]⟩), (.string ⟨#[103]⟩)] 9) = zz := ⟨_, rfl⟩
  have b10 : Blk x10 w9.heap.size #[(.string ⟨#[102]⟩), (.string ⟨#[103]⟩)] 9 := hx10 ▸ Blk.new _ _ _
  have V10 : Hid (Below w9.heap.size w9 x10) := hid (hx10 ▸ up_alloc (up_refl _) _)
  have N10 : Hid (Below w.heap.size w x10) := hid (up_trans U9.out V10.out)
  have G10 : Hid (w.heap.size ≤ g10) := hid (by rw [← hg10]; exact U9.out.size)
  rw [hg10] at b10
  have l10 : g10 < x10.heap.size := b10.lt
  have c10_0 : x10.cell? ⟨g10, 0, none⟩ = some (.string ⟨#[102]⟩) := b10.cell 0
  have f10_0 : x10.frozen? ⟨g10, 0, none⟩ = false := b10.free 0
  have c10_1 : x10.cell? ⟨g10, 1, none⟩ = some (.string ⟨#[103]⟩) := b10.cell 1
  have f10_1 : x10.frozen? ⟨g10, 1, none⟩ = false := b10.free 1
  have B10 := hid b10
  clear b10
  obtain ⟨g11, hg11⟩ : ∃ g, x10.heap.size = g := ⟨_, rfl⟩
  obtain ⟨x11, hx11⟩ : ∃ zz, x10.alloc (.cells #[(.string ⟨#[97]⟩), (.string ⟨#[98]⟩)] 9) = zz := ⟨_, rfl⟩
  have b11 : Blk x11 x10.heap.size #[(.string ⟨#[97]⟩), (.string ⟨#[98]⟩)] 9 := hx11 ▸ Blk.new _ _ _
  have V11 : Hid (Below x10.heap.size x10 x11) := hid (hx11 ▸ up_alloc (up_refl _) _)
  have N11 : Hid (Below w.heap.size w x11) := hid (up_trans N10.out V11.out)
  have G11 : Hid (w.heap.size ≤ g11) := hid (by rw [← hg11]; exact N10.out.size)
  rw [hg11] at b11
  have l11 : g11 < x11.heap.size := b11.lt
  have c11_0 : x11.cell? ⟨g11, 0, none⟩ = some (.string ⟨#[97]⟩) := b11.cell 0
  have f11_0 : x11.frozen? ⟨g11, 0, none⟩ = false := b11.free 0
  have c11_1 : x11.cell? ⟨g11, 1, none⟩ = some (.string ⟨#[98]⟩) := b11.cell 1
  have f11_1 : x11.frozen? ⟨g11, 1, none⟩ = false := b11.free 1
  have B11 := hid b11
  clear b11
  have HM := hid (made2 x11 g10 g11 [102] [103] [97] [98] (B10.out.below V11.out) B11.out (by decide) (by decide) (by decide) (by decide))
  rw [atF_len2] at HM
  clear c10_0 c10_1 f10_0 f10_1 c11_0 c11_1 f11_0 f11_1 B10 V10 B11 V11
  rcases hcc with ⟨hc, rfl, rfl⟩ | ⟨hc, rfl, rfl⟩
  all_goals
    go_wp2_with fail
    refine HM.out.mono ?_
    rintro e w12 ⟨gi, ci, -, rfl, hbs12, b12⟩
    have U12 := hid (up_trans N11.out b12)
    have BS12 := hid hbs12
    obtain ⟨L, hL⟩ : ∃ x, lenB [102] [103] [97] [98] = x := ⟨_, rfl⟩
    rw [hL]
    have HL := hid hL
    clear hbs12 b12 hw9 hg8 hx8 c8_0 c8_1 c8_2 f8_0 f8_1 f8_2 c9_0 c9_1 c9_2 hg10 hx10 hg11 hx11 hL
    obtain ⟨g13, hg13⟩ : ∃ g, w12.heap.size = g := ⟨_, rfl⟩
    obtain ⟨x13, hx13⟩ : ∃ zz, w12.alloc (.cells #[(.int .i64 0), (.int .i64 0)] 41) = zz := ⟨_, rfl⟩
    have b13 : Blk x13 w12.heap.size #[(.int .i64 0), (.int .i64 0)] 41 := hx13 ▸ Blk.new _ _ _
    have V13 : Hid (Below w12.heap.size w12 x13) := hid (hx13 ▸ up_alloc (up_refl _) _)
    have N13 : Hid (Below w.heap.size w x13) := hid (up_trans U12.out V13.out)
    have G13 : Hid (w.heap.size ≤ g13) := hid (by rw [← hg13]; exact U12.out.size)
    rw [hg13] at b13
    have l13 : g13 < x13.heap.size := b13.lt
    have c13_0 : x13.cell? ⟨g13, 0, none⟩ = some (.int .i64 0) := b13.cell 0
    have f13_0 : x13.frozen? ⟨g13, 0, none⟩ = false := b13.free 0
    have c13_1 : x13.cell? ⟨g13, 1, none⟩ = some (.int .i64 0) := b13.cell 1
    have f13_1 : x13.frozen? ⟨g13, 1, none⟩ = false := b13.free 1
    have B13 := hid b13
    clear b13
    obtain ⟨w14, hw14⟩ : ∃ zz, (x13.setCell ⟨g13, 0, none⟩ (.int .i64 256)).setCell ⟨g13, 1, none⟩ (.int .i64 L) = zz := ⟨_, rfl⟩
    have B14 : Hid (Blk w14 g13 #[.int .i64 256, .int .i64 L] 41) := hid (hw14 ▸ B13.out.set2)
    have U14 : Hid (Below w.heap.size w w14) := hid (hw14 ▸ (N13.out.setCell G13.out _).setCell G13.out _)
    have V14 : Hid (Below w12.heap.size w12 w14) := hid (hw14 ▸ (V13.out.setCell (p := ⟨g13, 0, none⟩) (by rw [hg13]; exact Nat.le_refl _) _).setCell (p := ⟨g13, 1, none⟩) (by rw [hg13]; exact Nat.le_refl _) _)
    have BS14 := hid (BS12.out.below V14.out)
    have q3b := q3
    rcases q3b with rfl | rfl | rfl | rfl
    · -- 0
      obtain ⟨g20, hg20⟩ : ∃ g, w14.heap.size = g := ⟨_, rfl⟩
      obtain ⟨x20, hx20⟩ : ∃ zz, w14.alloc (.cells #[(.string ⟨#[102]⟩), (.string ⟨#[103]⟩)] 9) = zz := ⟨_, rfl⟩
      have b20 : Blk x20 w14.heap.size #[(.string ⟨#[102]⟩), (.string ⟨#[103]⟩)] 9 := hx20 ▸ Blk.new _ _ _
      have V20 : Hid (Below w14.heap.size w14 x20) := hid (hx20 ▸ up_alloc (up_refl _) _)
      have N20 : Hid (Below w.heap.size w x20) := hid (up_trans U14.out V20.out)
      have G20 : Hid (w.heap.size ≤ g20) := hid (by rw [← hg20]; exact U14.out.size)
      rw [hg20] at b20
      have l20 : g20 < x20.heap.size := b20.lt
      have c20_0 : x20.cell? ⟨g20, 0, none⟩ = some (.string ⟨#[102]⟩) := b20.cell 0
      have f20_0 : x20.frozen? ⟨g20, 0, none⟩ = false := b20.free 0
      have c20_1 : x20.cell? ⟨g20, 1, none⟩ = some (.string ⟨#[103]⟩) := b20.cell 1
      have f20_1 : x20.frozen? ⟨g20, 1, none⟩ = false := b20.free 1
      have B20 := hid b20
      clear b20
      obtain ⟨g21, hg21⟩ : ∃ g, x20.heap.size = g := ⟨_, rfl⟩
      obtain ⟨x21, hx21⟩ : ∃ zz, x20.alloc (.cells #[(.string ⟨#[98]⟩), (.string ⟨#[97]⟩)] 9) = zz := ⟨_, rfl⟩
      have b21 : Blk x21 x20.heap.size #[(.string ⟨#[98]⟩), (.string ⟨#[97]⟩)] 9 := hx21 ▸ Blk.new _ _ _
      have V21 : Hid (Below x20.heap.size x20 x21) := hid (hx21 ▸ up_alloc (up_refl _) _)
      have N21 : Hid (Below w.heap.size w x21) := hid (up_trans N20.out V21.out)
      have G21 : Hid (w.heap.size ≤ g21) := hid (by rw [← hg21]; exact N20.out.size)
      rw [hg21] at b21
      have l21 : g21 < x21.heap.size := b21.lt
      have c21_0 : x21.cell? ⟨g21, 0, none⟩ = some (.string ⟨#[98]⟩) := b21.cell 0
      have f21_0 : x21.frozen? ⟨g21, 0, none⟩ = false := b21.free 0
      have c21_1 : x21.cell? ⟨g21, 1, none⟩ = some (.string ⟨#[97]⟩) := b21.cell 1
      have f21_1 : x21.frozen? ⟨g21, 1, none⟩ = false := b21.free 1
      have B21 := hid b21
      clear b21
      have HM2 := hid (made2 x21 g20 g21 [102] [103] [98] [97] (B20.out.below V21.out) B21.out (by decide) (by decide) (by decide) (by decide))
      have PX := hid bad0
      obtain ⟨LX, hLX⟩ : ∃ x, lenB [102] [103] [98] [97] = x := ⟨_, rfl⟩
      obtain ⟨lX, hlX⟩ : ∃ x, atF 256 [[102], [103]] [[98], [97]] 1 = x := ⟨_, rfl⟩
      have HLB : Hid (-9223372036854775808 ≤ LX ∧ LX ≤ 9223372036854775807) := hid (hLX ▸ len_bd _ _ _ _ (by decide +kernel))
      rw [hLX, hlX] at HM2 PX
      clear hLX hlX
      go_wp2_with fail
      refine HM2.out.mono ?_
      rintro e w22 ⟨gj, cj, hgj, rfl, hbs22, b22⟩
      have hgne : gj ≠ g13 := by have := ((B14.out.below V20.out).below V21.out).lt; omega
      have U22 := hid (up_trans N21.out b22)
      have B22 := hid (((B14.out.below V20.out).below V21.out).below b22)
      obtain ⟨w23, hw23⟩ : ∃ zz, (w22.setCell ⟨g13, 0, none⟩ (.int .i64 256)).setCell ⟨g13, 1, none⟩ (.int .i64 LX) = zz := ⟨_, rfl⟩
      have B23 : Hid (Blk w23 g13 #[.int .i64 256, .int .i64 LX] 41) := hid (hw23 ▸ B22.out.set2)
      have U23 : Hid (Below w.heap.size w w23) := hid (hw23 ▸ (U22.out.setCell G13.out _).setCell G13.out _)
      have BS23 := hid (bs_far hw23 hbs22 hgne)
      have b22 := B22.out
      have c22_0 : w22.cell? ⟨g13, 0, none⟩ = some (.int .i64 256) := b22.cell 0
      have f22_0 : w22.frozen? ⟨g13, 0, none⟩ = false := b22.free 0
      have c22_1 : w22.cell? ⟨g13, 1, none⟩ = some (.int .i64 L) := b22.cell 1
      have f22_1 : w22.frozen? ⟨g13, 1, none⟩ = false := b22.free 1
      clear b22
      have b23 := B23.out
      have c23_0 : w23.cell? ⟨g13, 0, none⟩ = some (.int .i64 256) := b23.cell 0
      have f23_0 : w23.frozen? ⟨g13, 0, none⟩ = false := b23.free 0
      have c23_1 : w23.cell? ⟨g13, 1, none⟩ = some (.int .i64 LX) := b23.cell 1
      have f23_1 : w23.frozen? ⟨g13, 1, none⟩ = false := b23.free 1
      clear b23
      have HPX := hid (exps_Parse w23 (HK.out.below U23.out) _ cj lX BS23.out 256 LX (by omega) (by omega) HLB.out.1 HLB.out.2)
      rw [PX.out] at HPX
      have HPY : Hid (Calls Tryd.prog 20 #[.slice (some ⟨gj, 0, none⟩) lX.length cj, .agg #[.int .i64 256, .int .i64 LX]] w23 fun e w' => e = .returned (.tuple #[.agg #[.int .i64 0, .slice none 0 0, .slice none 0 0], .int .i64 11]) ∧ Below w23.heap.size w23 w') := HPX
      clear hbs22 b22 hg20 hx20 hg21 hx21 c20_0 c20_1 f20_0 f20_1 c21_0 c21_1 f21_0 f21_1 f23_0 f23_1 HPX HM2 PX
      go_wp2_with fail
      refine HPY.out.mono ?_
      rintro e w24 ⟨rfl, b24⟩
      have U24 := hid (up_trans U23.out b24)
      clear b24 hw23 c22_0 c22_1 f22_0 f22_1 c23_0 c23_1
      obtain ⟨g25, hg25⟩ : ∃ g, w24.heap.size = g := ⟨_, rfl⟩
      obtain ⟨x25, hx25⟩ : ∃ zz, w24.alloc (.cells #[(.int .i64 0), (.slice none 0 0), (.slice none 0 0)] 47) = zz := ⟨_, rfl⟩
      have b25 : Blk x25 w24.heap.size #[(.int .i64 0), (.slice none 0 0), (.slice none 0 0)] 47 := hx25 ▸ Blk.new _ _ _
      have V25 : Hid (Below w24.heap.size w24 x25) := hid (hx25 ▸ up_alloc (up_refl _) _)
      have N25 : Hid (Below w.heap.size w x25) := hid (up_trans U24.out V25.out)
      have G25 : Hid (w.heap.size ≤ g25) := hid (by rw [← hg25]; exact U24.out.size)
      rw [hg25] at b25
      have l25 : g25 < x25.heap.size := b25.lt
      have c25_0 : x25.cell? ⟨g25, 0, none⟩ = some (.int .i64 0) := b25.cell 0
      have f25_0 : x25.frozen? ⟨g25, 0, none⟩ = false := b25.free 0
      have c25_1 : x25.cell? ⟨g25, 1, none⟩ = some (.slice none 0 0) := b25.cell 1
      have f25_1 : x25.frozen? ⟨g25, 1, none⟩ = false := b25.free 1
      have c25_2 : x25.cell? ⟨g25, 2, none⟩ = some (.slice none 0 0) := b25.cell 2
      have f25_2 : x25.frozen? ⟨g25, 2, none⟩ = false := b25.free 2
      have B25 := hid b25
      clear b25
      have U26 := hid (((N25.out.setCell (p := ⟨g25, 0, none⟩) G25.out (.int .i64 0)).setCell (p := ⟨g25, 1, none⟩) G25.out (.slice none 0 0)).setCell (p := ⟨g25, 2, none⟩) G25.out (.slice none 0 0))
      go_wp2_with fail
      refine (law7_awake _ (HK.out.below U26.out)).mono ?_
      rintro e w27 ⟨rfl, b27⟩
      have U27 := hid (up_trans U26.out b27)
      clear b27
      go_wp2_with fail
      go_ret
      exact ⟨rfl, HGM.out ▸ U27.out⟩
    · -- 1
      obtain ⟨g20, hg20⟩ : ∃ g, w14.heap.size = g := ⟨_, rfl⟩
      obtain ⟨x20, hx20⟩ : ∃ zz, w14.alloc (.cells #[(.string ⟨#[102]⟩), (.string ⟨#[103]⟩)] 9) = zz := ⟨_, rfl⟩
      have b20 : Blk x20 w14.heap.size #[(.string ⟨#[102]⟩), (.string ⟨#[103]⟩)] 9 := hx20 ▸ Blk.new _ _ _
      have V20 : Hid (Below w14.heap.size w14 x20) := hid (hx20 ▸ up_alloc (up_refl _) _)
      have N20 : Hid (Below w.heap.size w x20) := hid (up_trans U14.out V20.out)
      have G20 : Hid (w.heap.size ≤ g20) := hid (by rw [← hg20]; exact U14.out.size)
      rw [hg20] at b20
      have l20 : g20 < x20.heap.size := b20.lt
      have c20_0 : x20.cell? ⟨g20, 0, none⟩ = some (.string ⟨#[102]⟩) := b20.cell 0
      have f20_0 : x20.frozen? ⟨g20, 0, none⟩ = false := b20.free 0
      have c20_1 : x20.cell? ⟨g20, 1, none⟩ = some (.string ⟨#[103]⟩) := b20.cell 1
      have f20_1 : x20.frozen? ⟨g20, 1, none⟩ = false := b20.free 1
      have B20 := hid b20
      clear b20
      obtain ⟨g21, hg21⟩ : ∃ g, x20.heap.size = g := ⟨_, rfl⟩
      obtain ⟨x21, hx21⟩ : ∃ zz, x20.alloc (.cells #[(.string ⟨#[97]⟩), (.string ⟨#[97]⟩)] 9) = zz := ⟨_, rfl⟩
      have b21 : Blk x21 x20.heap.size #[(.string ⟨#[97]⟩), (.string ⟨#[97]⟩)] 9 := hx21 ▸ Blk.new _ _ _
      have V21 : Hid (Below x20.heap.size x20 x21) := hid (hx21 ▸ up_alloc (up_refl _) _)
      have N21 : Hid (Below w.heap.size w x21) := hid (up_trans N20.out V21.out)
      have G21 : Hid (w.heap.size ≤ g21) := hid (by rw [← hg21]; exact N20.out.size)
      rw [hg21] at b21
      have l21 : g21 < x21.heap.size := b21.lt
      have c21_0 : x21.cell? ⟨g21, 0, none⟩ = some (.string ⟨#[97]⟩) := b21.cell 0
      have f21_0 : x21.frozen? ⟨g21, 0, none⟩ = false := b21.free 0
      have c21_1 : x21.cell? ⟨g21, 1, none⟩ = some (.string ⟨#[97]⟩) := b21.cell 1
      have f21_1 : x21.frozen? ⟨g21, 1, none⟩ = false := b21.free 1
      have B21 := hid b21
      clear b21
      have HM2 := hid (made2 x21 g20 g21 [102] [103] [97] [97] (B20.out.below V21.out) B21.out (by decide) (by decide) (by decide) (by decide))
      have PX := hid bad1
      obtain ⟨LX, hLX⟩ : ∃ x, lenB [102] [103] [97] [97] = x := ⟨_, rfl⟩
      obtain ⟨lX, hlX⟩ : ∃ x, atF 256 [[102], [103]] [[97], [97]] 1 = x := ⟨_, rfl⟩
      have HLB : Hid (-9223372036854775808 ≤ LX ∧ LX ≤ 9223372036854775807) := hid (hLX ▸ len_bd _ _ _ _ (by decide +kernel))
      rw [hLX, hlX] at HM2 PX
      clear hLX hlX
      go_wp2_with fail
      refine HM2.out.mono ?_
      rintro e w22 ⟨gj, cj, hgj, rfl, hbs22, b22⟩
      have hgne : gj ≠ g13 := by have := ((B14.out.below V20.out).below V21.out).lt; omega
      have U22 := hid (up_trans N21.out b22)
      have B22 := hid (((B14.out.below V20.out).below V21.out).below b22)
      obtain ⟨w23, hw23⟩ : ∃ zz, (w22.setCell ⟨g13, 0, none⟩ (.int .i64 256)).setCell ⟨g13, 1, none⟩ (.int .i64 LX) = zz := ⟨_, rfl⟩
      have B23 : Hid (Blk w23 g13 #[.int .i64 256, .int .i64 LX] 41) := hid (hw23 ▸ B22.out.set2)
      have U23 : Hid (Below w.heap.size w w23) := hid (hw23 ▸ (U22.out.setCell G13.out _).setCell G13.out _)
      have BS23 := hid (bs_far hw23 hbs22 hgne)
      have b22 := B22.out
      have c22_0 : w22.cell? ⟨g13, 0, none⟩ = some (.int .i64 256) := b22.cell 0
      have f22_0 : w22.frozen? ⟨g13, 0, none⟩ = false := b22.free 0
      have c22_1 : w22.cell? ⟨g13, 1, none⟩ = some (.int .i64 L) := b22.cell 1
      have f22_1 : w22.frozen? ⟨g13, 1, none⟩ = false := b22.free 1
      clear b22
      have b23 := B23.out
      have c23_0 : w23.cell? ⟨g13, 0, none⟩ = some (.int .i64 256) := b23.cell 0
      have f23_0 : w23.frozen? ⟨g13, 0, none⟩ = false := b23.free 0
      have c23_1 : w23.cell? ⟨g13, 1, none⟩ = some (.int .i64 LX) := b23.cell 1
      have f23_1 : w23.frozen? ⟨g13, 1, none⟩ = false := b23.free 1
      clear b23
      have HPX := hid (exps_Parse w23 (HK.out.below U23.out) _ cj lX BS23.out 256 LX (by omega) (by omega) HLB.out.1 HLB.out.2)
      rw [PX.out] at HPX
      have HPY : Hid (Calls Tryd.prog 20 #[.slice (some ⟨gj, 0, none⟩) lX.length cj, .agg #[.int .i64 256, .int .i64 LX]] w23 fun e w' => e = .returned (.tuple #[.agg #[.int .i64 0, .slice none 0 0, .slice none 0 0], .int .i64 11]) ∧ Below w23.heap.size w23 w') := HPX
      clear hbs22 b22 hg20 hx20 hg21 hx21 c20_0 c20_1 f20_0 f20_1 c21_0 c21_1 f21_0 f21_1 f23_0 f23_1 HPX HM2 PX
      go_wp2_with fail
      refine HPY.out.mono ?_
      rintro e w24 ⟨rfl, b24⟩
      have U24 := hid (up_trans U23.out b24)
      clear b24 hw23 c22_0 c22_1 f22_0 f22_1 c23_0 c23_1
      obtain ⟨g25, hg25⟩ : ∃ g, w24.heap.size = g := ⟨_, rfl⟩
      obtain ⟨x25, hx25⟩ : ∃ zz, w24.alloc (.cells #[(.int .i64 0), (.slice none 0 0), (.slice none 0 0)] 47) = zz := ⟨_, rfl⟩
      have b25 : Blk x25 w24.heap.size #[(.int .i64 0), (.slice none 0 0), (.slice none 0 0)] 47 := hx25 ▸ Blk.new _ _ _
      have V25 : Hid (Below w24.heap.size w24 x25) := hid (hx25 ▸ up_alloc (up_refl _) _)
      have N25 : Hid (Below w.heap.size w x25) := hid (up_trans U24.out V25.out)
      have G25 : Hid (w.heap.size ≤ g25) := hid (by rw [← hg25]; exact U24.out.size)
      rw [hg25] at b25
      have l25 : g25 < x25.heap.size := b25.lt
      have c25_0 : x25.cell? ⟨g25, 0, none⟩ = some (.int .i64 0) := b25.cell 0
      have f25_0 : x25.frozen? ⟨g25, 0, none⟩ = false := b25.free 0
      have c25_1 : x25.cell? ⟨g25, 1, none⟩ = some (.slice none 0 0) := b25.cell 1
      have f25_1 : x25.frozen? ⟨g25, 1, none⟩ = false := b25.free 1
      have c25_2 : x25.cell? ⟨g25, 2, none⟩ = some (.slice none 0 0) := b25.cell 2
      have f25_2 : x25.frozen? ⟨g25, 2, none⟩ = false := b25.free 2
      have B25 := hid b25
      clear b25
      have U26 := hid (((N25.out.setCell (p := ⟨g25, 0, none⟩) G25.out (.int .i64 0)).setCell (p := ⟨g25, 1, none⟩) G25.out (.slice none 0 0)).setCell (p := ⟨g25, 2, none⟩) G25.out (.slice none 0 0))
      go_wp2_with fail
      refine (law7_awake _ (HK.out.below U26.out)).mono ?_
      rintro e w27 ⟨rfl, b27⟩
      have U27 := hid (up_trans U26.out b27)
      clear b27
      go_wp2_with fail
      go_ret
      exact ⟨rfl, HGM.out ▸ U27.out⟩
    · -- 2
      obtain ⟨lA, hlA⟩ : ∃ x, atF 256 [[102], [103]] [[97], [98]] 1 = x := ⟨_, rfl⟩
      have hla : lA.length = 320 := hlA ▸ atF_len2
      have PX := hid bad2
      have HLB : Hid (-9223372036854775808 ≤ L ∧ L ≤ 9223372036854775807) := hid (HL.out ▸ len_bd _ _ _ _ (by decide +kernel))
      rw [hlA, HL.out] at PX
      rw [hlA] at BS14
      have hcv2 : (convert 22 9 (.slice (some ⟨gi, 0, none⟩) 320 ci)).run Tryd.prog w14 = .ok (.string (S lA)) w14 :=
        run_str w14 _ _ 5 Tryd.underlying22 Tryd.underlying5 Tryd.underlying9 _ 320 ci lA hla BS14.out.row
      have P3 := ref_PutF lA 312 2 2 w14 (by rw [hla]; omega) (by omega) (by omega) (by omega) (by omega) (by omega) (by omega)
      have hlb : (putF lA 312 2 2).length = 320 := by rw [putF_length, hla]
      have PX2 : Hid (parseX (putF lA 312 2 2) 256 L = none) := PX
      have P4 : Hid (Calls Tryd.prog 24 #[.string (S lA), .int .i64 312, .int .i64 2, .int .u64 2] w14 fun e w' => ∃ b, e = .returned (.tuple #[.string (S (putF lA 312 2 2)), .bool b]) ∧ Below w14.heap.size w14 w') := hid P3
      obtain ⟨lB, hlB⟩ : ∃ x, putF lA 312 2 2 = x := ⟨_, rfl⟩
      rw [hlB] at hlb PX2 P4
      clear P3 hlA hlB PX hla
      go_wp2_with fail
      refine P4.out.mono ?_
      rintro e w20 ⟨bd, rfl, b20⟩
      have U20 := hid (up_trans U14.out b20)
      have B20 := hid (B14.out.below b20)
      have hd2 : (convert 9 22 (.string (S lB))).run Tryd.prog w20 = .ok (.slice (some ⟨w20.heap.size, 0, none⟩) (S lB).size (grownCap w20 (S lB).size 0 5)) (Lib.bytesWorld w20 5 (S lB)) :=
        Lib.run_convert_string_bytes w20 _ _ 5 (S lB) Tryd.underlying9 Tryd.underlying22 Tryd.underlying5
      have hbs21 := bsOf w20 lB (by omega)
      have hbl21 := bytesWorld_below w20 5 (S lB)
      rw [S_size lB] at hd2
      obtain ⟨cp2, hcp2⟩ : ∃ c, grownCap w20 lB.length 0 5 = c := ⟨_, rfl⟩
      obtain ⟨w21, hw21⟩ : ∃ x, Lib.bytesWorld w20 5 (S lB) = x := ⟨_, rfl⟩
      obtain ⟨g21, hg21⟩ : ∃ g, w20.heap.size = g := ⟨_, rfl⟩
      rw [hcp2, hw21] at hd2 hbs21
      rw [hw21] at hbl21
      rw [hg21] at hd2 hbs21
      have B21 := hid (B20.out.below hbl21)
      have U21 := hid (up_trans U20.out hbl21)
      have HPX := hid (exps_Parse w21 (HK.out.below U21.out) _ cp2 lB hbs21 256 L (by omega) (by omega) HLB.out.1 HLB.out.2)
      rw [PX2.out] at HPX
      rw [hlb] at hd2 HPX
      have HPY : Hid (Calls Tryd.prog 20 #[.slice (some ⟨g21, 0, none⟩) 320 cp2, .agg #[.int .i64 256, .int .i64 L]] w21 fun e w' => e = .returned (.tuple #[.agg #[.int .i64 0, .slice none 0 0, .slice none 0 0], .int .i64 11]) ∧ Below w21.heap.size w21 w') := HPX
      have b23 := B21.out
      have c23_0 : w21.cell? ⟨g13, 0, none⟩ = some (.int .i64 256) := b23.cell 0
      have f23_0 : w21.frozen? ⟨g13, 0, none⟩ = false := b23.free 0
      have c23_1 : w21.cell? ⟨g13, 1, none⟩ = some (.int .i64 L) := b23.cell 1
      have f23_1 : w21.frozen? ⟨g13, 1, none⟩ = false := b23.free 1
      clear b23
      clear hbs21 hbl21 hcp2 hw21 HPX b20 hcv2 f23_0 f23_1 hlb
      go_wp2_with fail
      refine HPY.out.mono ?_
      rintro e w24 ⟨rfl, b24⟩
      have U24 := hid (up_trans U21.out b24)
      clear b24 hd2 hg21 c23_0 c23_1
      obtain ⟨g25, hg25⟩ : ∃ g, w24.heap.size = g := ⟨_, rfl⟩
      obtain ⟨x25, hx25⟩ : ∃ zz, w24.alloc (.cells #[(.int .i64 0), (.slice none 0 0), (.slice none 0 0)] 47) = zz := ⟨_, rfl⟩
      have b25 : Blk x25 w24.heap.size #[(.int .i64 0), (.slice none 0 0), (.slice none 0 0)] 47 := hx25 ▸ Blk.new _ _ _
      have V25 : Hid (Below w24.heap.size w24 x25) := hid (hx25 ▸ up_alloc (up_refl _) _)
      have N25 : Hid (Below w.heap.size w x25) := hid (up_trans U24.out V25.out)
      have G25 : Hid (w.heap.size ≤ g25) := hid (by rw [← hg25]; exact U24.out.size)
      rw [hg25] at b25
      have l25 : g25 < x25.heap.size := b25.lt
      have c25_0 : x25.cell? ⟨g25, 0, none⟩ = some (.int .i64 0) := b25.cell 0
      have f25_0 : x25.frozen? ⟨g25, 0, none⟩ = false := b25.free 0
      have c25_1 : x25.cell? ⟨g25, 1, none⟩ = some (.slice none 0 0) := b25.cell 1
      have f25_1 : x25.frozen? ⟨g25, 1, none⟩ = false := b25.free 1
      have c25_2 : x25.cell? ⟨g25, 2, none⟩ = some (.slice none 0 0) := b25.cell 2
      have f25_2 : x25.frozen? ⟨g25, 2, none⟩ = false := b25.free 2
      have B25 := hid b25
      clear b25
      have U26 := hid (((N25.out.setCell (p := ⟨g25, 0, none⟩) G25.out (.int .i64 0)).setCell (p := ⟨g25, 1, none⟩) G25.out (.slice none 0 0)).setCell (p := ⟨g25, 2, none⟩) G25.out (.slice none 0 0))
      go_wp2_with fail
      refine (law7_awake _ (HK.out.below U26.out)).mono ?_
      rintro e w27 ⟨rfl, b27⟩
      have U27 := hid (up_trans U26.out b27)
      clear b27
      go_wp2_with fail
      go_ret
      exact ⟨rfl, HGM.out ▸ U27.out⟩
    · -- 3
      obtain ⟨g20, hg20⟩ : ∃ g, w14.heap.size = g := ⟨_, rfl⟩
      obtain ⟨x20, hx20⟩ : ∃ zz, w14.alloc (.cells #[(.string ⟨#[102]⟩), (.string ⟨#[120, 46]⟩)] 9) = zz := ⟨_, rfl⟩
      have b20 : Blk x20 w14.heap.size #[(.string ⟨#[102]⟩), (.string ⟨#[120, 46]⟩)] 9 := hx20 ▸ Blk.new _ _ _
      have V20 : Hid (Below w14.heap.size w14 x20) := hid (hx20 ▸ up_alloc (up_refl _) _)
      have N20 : Hid (Below w.heap.size w x20) := hid (up_trans U14.out V20.out)
      have G20 : Hid (w.heap.size ≤ g20) := hid (by rw [← hg20]; exact U14.out.size)
      rw [hg20] at b20
      have l20 : g20 < x20.heap.size := b20.lt
      have c20_0 : x20.cell? ⟨g20, 0, none⟩ = some (.string ⟨#[102]⟩) := b20.cell 0
      have f20_0 : x20.frozen? ⟨g20, 0, none⟩ = false := b20.free 0
      have c20_1 : x20.cell? ⟨g20, 1, none⟩ = some (.string ⟨#[120, 46]⟩) := b20.cell 1
      have f20_1 : x20.frozen? ⟨g20, 1, none⟩ = false := b20.free 1
      have B20 := hid b20
      clear b20
      obtain ⟨g21, hg21⟩ : ∃ g, x20.heap.size = g := ⟨_, rfl⟩
      obtain ⟨x21, hx21⟩ : ∃ zz, x20.alloc (.cells #[(.string ⟨#[97]⟩), (.string ⟨#[98]⟩)] 9) = zz := ⟨_, rfl⟩
      have b21 : Blk x21 x20.heap.size #[(.string ⟨#[97]⟩), (.string ⟨#[98]⟩)] 9 := hx21 ▸ Blk.new _ _ _
      have V21 : Hid (Below x20.heap.size x20 x21) := hid (hx21 ▸ up_alloc (up_refl _) _)
      have N21 : Hid (Below w.heap.size w x21) := hid (up_trans N20.out V21.out)
      have G21 : Hid (w.heap.size ≤ g21) := hid (by rw [← hg21]; exact N20.out.size)
      rw [hg21] at b21
      have l21 : g21 < x21.heap.size := b21.lt
      have c21_0 : x21.cell? ⟨g21, 0, none⟩ = some (.string ⟨#[97]⟩) := b21.cell 0
      have f21_0 : x21.frozen? ⟨g21, 0, none⟩ = false := b21.free 0
      have c21_1 : x21.cell? ⟨g21, 1, none⟩ = some (.string ⟨#[98]⟩) := b21.cell 1
      have f21_1 : x21.frozen? ⟨g21, 1, none⟩ = false := b21.free 1
      have B21 := hid b21
      clear b21
      have HM2 := hid (made2 x21 g20 g21 [102] [120, 46] [97] [98] (B20.out.below V21.out) B21.out (by decide) (by decide) (by decide) (by decide))
      have PX := hid bad3
      obtain ⟨LX, hLX⟩ : ∃ x, lenB [102] [120, 46] [97] [98] = x := ⟨_, rfl⟩
      obtain ⟨lX, hlX⟩ : ∃ x, atF 256 [[102], [120, 46]] [[97], [98]] 1 = x := ⟨_, rfl⟩
      have HLB : Hid (-9223372036854775808 ≤ LX ∧ LX ≤ 9223372036854775807) := hid (hLX ▸ len_bd _ _ _ _ (by decide +kernel))
      rw [hLX, hlX] at HM2 PX
      clear hLX hlX
      go_wp2_with fail
      refine HM2.out.mono ?_
      rintro e w22 ⟨gj, cj, hgj, rfl, hbs22, b22⟩
      have hgne : gj ≠ g13 := by have := ((B14.out.below V20.out).below V21.out).lt; omega
      have U22 := hid (up_trans N21.out b22)
      have B22 := hid (((B14.out.below V20.out).below V21.out).below b22)
      obtain ⟨w23, hw23⟩ : ∃ zz, (w22.setCell ⟨g13, 0, none⟩ (.int .i64 256)).setCell ⟨g13, 1, none⟩ (.int .i64 LX) = zz := ⟨_, rfl⟩
      have B23 : Hid (Blk w23 g13 #[.int .i64 256, .int .i64 LX] 41) := hid (hw23 ▸ B22.out.set2)
      have U23 : Hid (Below w.heap.size w w23) := hid (hw23 ▸ (U22.out.setCell G13.out _).setCell G13.out _)
      have BS23 := hid (bs_far hw23 hbs22 hgne)
      have b22 := B22.out
      have c22_0 : w22.cell? ⟨g13, 0, none⟩ = some (.int .i64 256) := b22.cell 0
      have f22_0 : w22.frozen? ⟨g13, 0, none⟩ = false := b22.free 0
      have c22_1 : w22.cell? ⟨g13, 1, none⟩ = some (.int .i64 L) := b22.cell 1
      have f22_1 : w22.frozen? ⟨g13, 1, none⟩ = false := b22.free 1
      clear b22
      have b23 := B23.out
      have c23_0 : w23.cell? ⟨g13, 0, none⟩ = some (.int .i64 256) := b23.cell 0
      have f23_0 : w23.frozen? ⟨g13, 0, none⟩ = false := b23.free 0
      have c23_1 : w23.cell? ⟨g13, 1, none⟩ = some (.int .i64 LX) := b23.cell 1
      have f23_1 : w23.frozen? ⟨g13, 1, none⟩ = false := b23.free 1
      clear b23
      have HPX := hid (exps_Parse w23 (HK.out.below U23.out) _ cj lX BS23.out 256 LX (by omega) (by omega) HLB.out.1 HLB.out.2)
      rw [PX.out] at HPX
      have HPY : Hid (Calls Tryd.prog 20 #[.slice (some ⟨gj, 0, none⟩) lX.length cj, .agg #[.int .i64 256, .int .i64 LX]] w23 fun e w' => e = .returned (.tuple #[.agg #[.int .i64 0, .slice none 0 0, .slice none 0 0], .int .i64 11]) ∧ Below w23.heap.size w23 w') := HPX
      clear hbs22 b22 hg20 hx20 hg21 hx21 c20_0 c20_1 f20_0 f20_1 c21_0 c21_1 f21_0 f21_1 f23_0 f23_1 HPX HM2 PX
      go_wp2_with fail
      refine HPY.out.mono ?_
      rintro e w24 ⟨rfl, b24⟩
      have U24 := hid (up_trans U23.out b24)
      clear b24 hw23 c22_0 c22_1 f22_0 f22_1 c23_0 c23_1
      obtain ⟨g25, hg25⟩ : ∃ g, w24.heap.size = g := ⟨_, rfl⟩
      obtain ⟨x25, hx25⟩ : ∃ zz, w24.alloc (.cells #[(.int .i64 0), (.slice none 0 0), (.slice none 0 0)] 47) = zz := ⟨_, rfl⟩
      have b25 : Blk x25 w24.heap.size #[(.int .i64 0), (.slice none 0 0), (.slice none 0 0)] 47 := hx25 ▸ Blk.new _ _ _
      have V25 : Hid (Below w24.heap.size w24 x25) := hid (hx25 ▸ up_alloc (up_refl _) _)
      have N25 : Hid (Below w.heap.size w x25) := hid (up_trans U24.out V25.out)
      have G25 : Hid (w.heap.size ≤ g25) := hid (by rw [← hg25]; exact U24.out.size)
      rw [hg25] at b25
      have l25 : g25 < x25.heap.size := b25.lt
      have c25_0 : x25.cell? ⟨g25, 0, none⟩ = some (.int .i64 0) := b25.cell 0
      have f25_0 : x25.frozen? ⟨g25, 0, none⟩ = false := b25.free 0
      have c25_1 : x25.cell? ⟨g25, 1, none⟩ = some (.slice none 0 0) := b25.cell 1
      have f25_1 : x25.frozen? ⟨g25, 1, none⟩ = false := b25.free 1
      have c25_2 : x25.cell? ⟨g25, 2, none⟩ = some (.slice none 0 0) := b25.cell 2
      have f25_2 : x25.frozen? ⟨g25, 2, none⟩ = false := b25.free 2
      have B25 := hid b25
      clear b25
      have U26 := hid (((N25.out.setCell (p := ⟨g25, 0, none⟩) G25.out (.int .i64 0)).setCell (p := ⟨g25, 1, none⟩) G25.out (.slice none 0 0)).setCell (p := ⟨g25, 2, none⟩) G25.out (.slice none 0 0))
      go_wp2_with fail
      refine (law7_awake _ (HK.out.below U26.out)).mono ?_
      rintro e w27 ⟨rfl, b27⟩
      have U27 := hid (up_trans U26.out b27)
      clear b27
      go_wp2_with fail
      go_ret
      exact ⟨rfl, HGM.out ▸ U27.out⟩
end Go.Proofs.YtapllnnconpieaaDoor
