/- slipwaylaw7.awake. -/
import Derived.Test.YtapllnnconpieaaDoorMade7b
set_option linter.unusedVariables false
namespace Go.Proofs.YtapllnnconpieaaDoor
open Go.RowKit

theorem exv_own {w : World} {N M : Nat} {x : ExpsD} {fv nv : Value} (h1 : w.ownsRow N 52 2 fv x.funcs.length (fcells x.funcs)) (h2 : w.ownsRow M 57 2 nv x.names.length (ncells x.names))
    (hf : x.funcs.length ≤ 140737488355328) (hn : x.names.length ≤ 140737488355328) : ExV w x (.agg #[.int .i64 x.base, fv, nv]) := by
  obtain ⟨FA, fc, rfl, l1, r1⟩ := own_row h1
  obtain ⟨NA, nc, rfl, l2, r2⟩ := own_row h2
  exact ⟨⟨FA, fc, NA, nc, rfl, r1, r2, l1, l2⟩, hf, hn⟩

def aw7 : ExpsD := ⟨5, [⟨64, []⟩, ⟨0, []⟩, ⟨0, [120, 46, 103]⟩], [⟨[97], 0⟩]⟩
theorem aw7_a : funcV (findX aw7 ⟨[97], 0, false⟩) = .tuple #[.agg #[.int .i64 64, .string ⟨#[]⟩], .bool true] := by
  have : findX aw7 ⟨[97], 0, false⟩ = some ⟨64, []⟩ := by decide +kernel
  rw [this]
  rfl
theorem aw7_6 : funcV (findX aw7 ⟨[], 6, true⟩) = .tuple #[.agg #[.int .i64 0, .string ⟨#[]⟩], .bool false] := by
  have : findX aw7 ⟨[], 6, true⟩ = none := by decide +kernel
  rw [this]
  rfl
theorem aw7_7 : funcV (findX aw7 ⟨[], 7, true⟩) = .tuple #[.agg #[.int .i64 0, .string ⟨#[120, 46, 103]⟩], .bool true] := by
  have : findX aw7 ⟨[], 7, true⟩ = some ⟨0, [120, 46, 103]⟩ := by decide +kernel
  rw [this]
  rfl
theorem aw7_nil : parseX [] 1 0 = none := by decide +kernel

theorem aw7_Made (w : World) (g1 g2 : Nat) (h1 : Blk w g1 #[.string ⟨#[102]⟩, .string ⟨#[]⟩, .string ⟨#[120, 46, 103]⟩] 9) (h2 : Blk w g2 #[.string ⟨#[97]⟩] 9) :
    Calls Tryd.prog 19 #[.slice (some ⟨g1, 0, none⟩) 3 3, .slice (some ⟨g2, 0, none⟩) 1 1, .int .i64 5] w fun e w' => ∃ g cap l, e = .returned (.tuple #[.slice (some ⟨g, 0, none⟩) l.length cap, .agg #[.int .i64 256, .int .i64 62]]) ∧ Bs w' (some ⟨g, 0, none⟩) cap l ∧ parseX l 256 62 = some aw7 ∧ Below w.heap.size w w' := by
  have row : ∀ {b : Nat} {cs : Array Value} {t : TypeId}, Blk w b cs t → Row w (some ⟨b, 0, none⟩) cs.toList := fun {b cs t} h => .inr ⟨_, rfl, fun j hj => by
    have e0 : (⟨b, 0, none⟩ : Addr).add j = ⟨b, j, none⟩ := by
      unfold Addr.add
      split <;> simp_all
    rw [e0, h.cell j]
    simp at hj ⊢⟩
  have h := law7_Made w 5 (some ⟨g1, 0, none⟩) (some ⟨g2, 0, none⟩) 3 1 [[102], [], [120, 46, 103]] [[97]] (row h1) (row h2) (by decide) (by simp) (by simp) (by simp) (by simp) (by decide) (by decide)
  refine h.mono ?_
  rintro e w' ⟨v, rfl, ho, hb⟩
  obtain ⟨g, cap, rfl, -, -, hbs⟩ := ho.bs
  exact ⟨g, cap, _, by rw [made_len], hbs, by have := made_parse; rw [made_len] at this; exact this, hb⟩

theorem aw7_res {N : Nat} {e : Ending} {w' : World} (h : ExpsRes (some aw7) N e w') : ∃ FA fc NA nc, e = .returned (.tuple #[.agg #[.int .i64 5, .slice FA 3 fc, .slice NA 1 nc], .int .i64 0]) ∧ ExV w' aw7 (.agg #[.int .i64 5, .slice FA 3 fc, .slice NA 1 nc]) := by
  obtain ⟨fv, nv, rfl, of, on⟩ := h
  have ex := exv_own of on (by decide) (by decide)
  obtain ⟨FA, fc, rfl, -, -⟩ := own_row of
  obtain ⟨NA, nc, rfl, -, -⟩ := own_row on
  exact ⟨FA, fc, NA, nc, rfl, ex⟩

set_option maxRecDepth 100000 in
set_option maxHeartbeats 8000000 in
theorem law7_awake (w : World) (hk : LibOk w) :
    Calls Tryd.prog 23 #[] w fun e w' => e = .returned (.bool true) ∧ Below w.heap.size w w' := by
  have HK := hid hk
  have U0 := hid (up_refl w)
  clear hk
  obtain ⟨g1, hg1⟩ : ∃ g, w.heap.size = g := ⟨_, rfl⟩
  obtain ⟨x1, hx1⟩ : ∃ zz, w.alloc (.cells #[(.string ⟨#[102]⟩), (.string ⟨#[]⟩), (.string ⟨#[120, 46, 103]⟩)] 9) = zz := ⟨_, rfl⟩
  have b1 : Blk x1 w.heap.size #[(.string ⟨#[102]⟩), (.string ⟨#[]⟩), (.string ⟨#[120, 46, 103]⟩)] 9 := hx1 ▸ Blk.new _ _ _
  have V1 : Hid (Below w.heap.size w x1) := hid (hx1 ▸ up_alloc (up_refl _) _)
  have N1 : Hid (Below w.heap.size w x1) := hid (up_trans U0.out V1.out)
  have G1 : Hid (w.heap.size ≤ g1) := hid (by rw [← hg1]; exact U0.out.size)
  rw [hg1] at b1
  have l1 : g1 < x1.heap.size := b1.lt
  have c1_0 : x1.cell? ⟨g1, 0, none⟩ = some (.string ⟨#[102]⟩) := b1.cell 0
  have f1_0 : x1.frozen? ⟨g1, 0, none⟩ = false := b1.free 0
  have c1_1 : x1.cell? ⟨g1, 1, none⟩ = some (.string ⟨#[]⟩) := b1.cell 1
  have f1_1 : x1.frozen? ⟨g1, 1, none⟩ = false := b1.free 1
  have c1_2 : x1.cell? ⟨g1, 2, none⟩ = some (.string ⟨#[120, 46, 103]⟩) := b1.cell 2
  have f1_2 : x1.frozen? ⟨g1, 2, none⟩ = false := b1.free 2
  have B1 := hid b1
  clear b1
  obtain ⟨g2, hg2⟩ : ∃ g, x1.heap.size = g := ⟨_, rfl⟩
  obtain ⟨x2, hx2⟩ : ∃ zz, x1.alloc (.cells #[(.string ⟨#[97]⟩)] 9) = zz := ⟨_, rfl⟩
  have b2 : Blk x2 x1.heap.size #[(.string ⟨#[97]⟩)] 9 := hx2 ▸ Blk.new _ _ _
  have V2 : Hid (Below x1.heap.size x1 x2) := hid (hx2 ▸ up_alloc (up_refl _) _)
  have N2 : Hid (Below w.heap.size w x2) := hid (up_trans N1.out V2.out)
  have G2 : Hid (w.heap.size ≤ g2) := hid (by rw [← hg2]; exact N1.out.size)
  rw [hg2] at b2
  have l2 : g2 < x2.heap.size := b2.lt
  have c2_0 : x2.cell? ⟨g2, 0, none⟩ = some (.string ⟨#[97]⟩) := b2.cell 0
  have f2_0 : x2.frozen? ⟨g2, 0, none⟩ = false := b2.free 0
  have B2 := hid b2
  clear b2
  have HM := hid (aw7_Made x2 g1 g2 (B1.out.below V2.out) B2.out)
  have HG1 : Hid (w.heap.size = g1) := hg1
  clear c1_0 c1_1 c1_2 f1_0 f1_1 f1_2 c2_0 f2_0 B1 B2 V1 V2
  go_enter Tryd.func23, Tryd.ntmps23
  go_wp2_with fail
  refine HM.out.mono ?_
  rintro e w3 ⟨gi, cap, l, rfl, hbs, hp, b3⟩
  have U3 := hid (up_trans N2.out b3)
  have HBS := hid hbs
  have HP := hid hp
  clear b3 hbs hp hg1 hx1 hg2 hx2 HM
  obtain ⟨g4, hg4⟩ : ∃ g, w3.heap.size = g := ⟨_, rfl⟩
  obtain ⟨x4, hx4⟩ : ∃ zz, w3.alloc (.cells #[(.int .i64 0), (.int .i64 0)] 41) = zz := ⟨_, rfl⟩
  have b4 : Blk x4 w3.heap.size #[(.int .i64 0), (.int .i64 0)] 41 := hx4 ▸ Blk.new _ _ _
  have V4 : Hid (Below w3.heap.size w3 x4) := hid (hx4 ▸ up_alloc (up_refl _) _)
  have N4 : Hid (Below w.heap.size w x4) := hid (up_trans U3.out V4.out)
  have G4 : Hid (w.heap.size ≤ g4) := hid (by rw [← hg4]; exact U3.out.size)
  rw [hg4] at b4
  have l4 : g4 < x4.heap.size := b4.lt
  have c4_0 : x4.cell? ⟨g4, 0, none⟩ = some (.int .i64 0) := b4.cell 0
  have f4_0 : x4.frozen? ⟨g4, 0, none⟩ = false := b4.free 0
  have c4_1 : x4.cell? ⟨g4, 1, none⟩ = some (.int .i64 0) := b4.cell 1
  have f4_1 : x4.frozen? ⟨g4, 1, none⟩ = false := b4.free 1
  have B4 := hid b4
  clear b4
  obtain ⟨w5, hw5⟩ : ∃ zz, (x4.setCell ⟨g4, 0, none⟩ (.int .i64 256)).setCell ⟨g4, 1, none⟩ (.int .i64 62) = zz := ⟨_, rfl⟩
  have B5 : Hid (Blk w5 g4 #[.int .i64 256, .int .i64 62] 41) := hid (hw5 ▸ B4.out.set2)
  have U5 : Hid (Below w.heap.size w w5) := hid (hw5 ▸ (N4.out.setCell G4.out _).setCell G4.out _)
  have V5 : Hid (Below w3.heap.size w3 w5) := hid (hw5 ▸ (V4.out.setCell (p := ⟨g4, 0, none⟩) (by rw [hg4]; exact Nat.le_refl _) _).setCell (p := ⟨g4, 1, none⟩) (by rw [hg4]; exact Nat.le_refl _) _)
  have b5 := B5.out
  have c5_0 : w5.cell? ⟨g4, 0, none⟩ = some (.int .i64 256) := b5.cell 0
  have f5_0 : w5.frozen? ⟨g4, 0, none⟩ = false := b5.free 0
  have c5_1 : w5.cell? ⟨g4, 1, none⟩ = some (.int .i64 62) := b5.cell 1
  have f5_1 : w5.frozen? ⟨g4, 1, none⟩ = false := b5.free 1
  clear b5
  have HPa := hid (exps_Parse w5 (HK.out.below U5.out) _ cap l (HBS.out.below V5.out) 256 62 (by omega) (by omega) (by omega) (by omega))
  rw [HP.out] at HPa
  go_wp2_with fail
  refine HPa.out.mono ?_
  rintro e w6 ⟨hres, b6⟩
  obtain ⟨FA, fc, NA, nc, rfl, ex⟩ := aw7_res hres
  have U6 := hid (up_trans U5.out b6)
  have EX := hid ex
  clear hres ex
  clear b6 hw5 hg4 hx4 c4_0 c4_1 f4_0 f4_1 c5_0 c5_1 f5_0 f5_1 HPa B5 V5 B4 V4
  obtain ⟨g7, hg7⟩ : ∃ g, w6.heap.size = g := ⟨_, rfl⟩
  obtain ⟨x7, hx7⟩ : ∃ zz, w6.alloc (.cells #[(.int .i64 0), (.slice none 0 0), (.slice none 0 0)] 47) = zz := ⟨_, rfl⟩
  have b7 : Blk x7 w6.heap.size #[(.int .i64 0), (.slice none 0 0), (.slice none 0 0)] 47 := hx7 ▸ Blk.new _ _ _
  have V7 : Hid (Below w6.heap.size w6 x7) := hid (hx7 ▸ up_alloc (up_refl _) _)
  have N7 : Hid (Below w.heap.size w x7) := hid (up_trans U6.out V7.out)
  have G7 : Hid (w.heap.size ≤ g7) := hid (by rw [← hg7]; exact U6.out.size)
  rw [hg7] at b7
  have l7 : g7 < x7.heap.size := b7.lt
  have c7_0 : x7.cell? ⟨g7, 0, none⟩ = some (.int .i64 0) := b7.cell 0
  have f7_0 : x7.frozen? ⟨g7, 0, none⟩ = false := b7.free 0
  have c7_1 : x7.cell? ⟨g7, 1, none⟩ = some (.slice none 0 0) := b7.cell 1
  have f7_1 : x7.frozen? ⟨g7, 1, none⟩ = false := b7.free 1
  have c7_2 : x7.cell? ⟨g7, 2, none⟩ = some (.slice none 0 0) := b7.cell 2
  have f7_2 : x7.frozen? ⟨g7, 2, none⟩ = false := b7.free 2
  have B7 := hid b7
  clear b7
  obtain ⟨w8, hw8⟩ : ∃ zz, ((x7.setCell ⟨g7, 0, none⟩ (.int .i64 5)).setCell ⟨g7, 1, none⟩ (.slice FA 3 fc)).setCell ⟨g7, 2, none⟩ (.slice NA 1 nc) = zz := ⟨_, rfl⟩
  have B8 : Hid (Blk w8 g7 #[.int .i64 5, .slice FA 3 fc, .slice NA 1 nc] 47) := hid (hw8 ▸ B7.out.set3)
  have U8 : Hid (Below w.heap.size w w8) := hid (hw8 ▸ ((N7.out.setCell G7.out _).setCell G7.out _).setCell G7.out _)
  have V8 : Hid (Below w6.heap.size w6 w8) := hid (hw8 ▸ ((V7.out.setCell (p := ⟨g7, 0, none⟩) (by rw [hg7]; exact Nat.le_refl _) _).setCell (p := ⟨g7, 1, none⟩) (by rw [hg7]; exact Nat.le_refl _) _).setCell (p := ⟨g7, 2, none⟩) (by rw [hg7]; exact Nat.le_refl _) _)
  have E8 := hid (EX.out.below V8.out)
  have b8 := B8.out
  have c8_0 : w8.cell? ⟨g7, 0, none⟩ = some (.int .i64 5) := b8.cell 0
  have f8_0 : w8.frozen? ⟨g7, 0, none⟩ = false := b8.free 0
  have c8_1 : w8.cell? ⟨g7, 1, none⟩ = some (.slice FA 3 fc) := b8.cell 1
  have f8_1 : w8.frozen? ⟨g7, 1, none⟩ = false := b8.free 1
  have c8_2 : w8.cell? ⟨g7, 2, none⟩ = some (.slice NA 1 nc) := b8.cell 2
  have f8_2 : w8.frozen? ⟨g7, 2, none⟩ = false := b8.free 2
  clear b8
  have HA := hid (exps_ByName w8 aw7 _ E8.out [97] (by decide) (by decide))
  rw [aw7_a] at HA
  have HA2 : Hid (Calls Tryd.prog 21 #[.agg #[.int .i64 5, .slice FA 3 fc, .slice NA 1 nc], .string ⟨#[97]⟩] w8 fun e w' => e = .returned (.tuple #[.agg #[.int .i64 64, .string ⟨#[]⟩], .bool true]) ∧ Below w8.heap.size w8 w') := HA
  clear HA
  go_wp2_with fail
  refine HA2.out.mono ?_
  rintro e w9 ⟨rfl, b9⟩
  have U9 := hid (up_trans U8.out b9)
  have B9 := hid (B8.out.below b9)
  have E9 := hid (E8.out.below b9)
  clear b9 hw8 hg7 hx7 c7_0 c7_1 c7_2 f7_0 f7_1 f7_2 c8_0 c8_1 c8_2 f8_0 f8_1 f8_2 HA2 B7 V7 V8 EX B8 E8
  obtain ⟨g10, hg10⟩ : ∃ g, w9.heap.size = g := ⟨_, rfl⟩
  obtain ⟨x10, hx10⟩ : ∃ zz, w9.alloc (.cells #[(.int .i64 0), (.string ⟨#[]⟩)] 52) = zz := ⟨_, rfl⟩
  have b10 : Blk x10 w9.heap.size #[(.int .i64 0), (.string ⟨#[]⟩)] 52 := hx10 ▸ Blk.new _ _ _
  have V10 : Hid (Below w9.heap.size w9 x10) := hid (hx10 ▸ up_alloc (up_refl _) _)
  have N10 : Hid (Below w.heap.size w x10) := hid (up_trans U9.out V10.out)
  have G10 : Hid (w.heap.size ≤ g10) := hid (by rw [← hg10]; exact U9.out.size)
  rw [hg10] at b10
  have l10 : g10 < x10.heap.size := b10.lt
  have c10_0 : x10.cell? ⟨g10, 0, none⟩ = some (.int .i64 0) := b10.cell 0
  have f10_0 : x10.frozen? ⟨g10, 0, none⟩ = false := b10.free 0
  have c10_1 : x10.cell? ⟨g10, 1, none⟩ = some (.string ⟨#[]⟩) := b10.cell 1
  have f10_1 : x10.frozen? ⟨g10, 1, none⟩ = false := b10.free 1
  have B10 := hid b10
  clear b10
  obtain ⟨w11, hw11⟩ : ∃ zz, (x10.setCell ⟨g10, 0, none⟩ (.int .i64 64)).setCell ⟨g10, 1, none⟩ (.string ⟨#[]⟩) = zz := ⟨_, rfl⟩
  have B11 : Hid (Blk w11 g10 #[.int .i64 64, .string ⟨#[]⟩] 52) := hid (hw11 ▸ B10.out.set2)
  have U11 : Hid (Below w.heap.size w w11) := hid (hw11 ▸ (N10.out.setCell G10.out _).setCell G10.out _)
  have V11 : Hid (Below w9.heap.size w9 w11) := hid (hw11 ▸ (V10.out.setCell (p := ⟨g10, 0, none⟩) (by rw [hg10]; exact Nat.le_refl _) _).setCell (p := ⟨g10, 1, none⟩) (by rw [hg10]; exact Nat.le_refl _) _)
  have B12 := hid (B9.out.below V11.out)
  have E12 := hid (E9.out.below V11.out)
  have b12 := B12.out
  have c12_0 : w11.cell? ⟨g7, 0, none⟩ = some (.int .i64 5) := b12.cell 0
  have f12_0 : w11.frozen? ⟨g7, 0, none⟩ = false := b12.free 0
  have c12_1 : w11.cell? ⟨g7, 1, none⟩ = some (.slice FA 3 fc) := b12.cell 1
  have f12_1 : w11.frozen? ⟨g7, 1, none⟩ = false := b12.free 1
  have c12_2 : w11.cell? ⟨g7, 2, none⟩ = some (.slice NA 1 nc) := b12.cell 2
  have f12_2 : w11.frozen? ⟨g7, 2, none⟩ = false := b12.free 2
  clear b12
  have HA := hid (exps_ByOrd w11 aw7 _ E12.out 6 (by decide) (by decide) (by decide) (by decide))
  rw [aw7_6] at HA
  have HA2 : Hid (Calls Tryd.prog 22 #[.agg #[.int .i64 5, .slice FA 3 fc, .slice NA 1 nc], .int .i64 6] w11 fun e w' => e = .returned (.tuple #[.agg #[.int .i64 0, .string ⟨#[]⟩], .bool false]) ∧ Below w11.heap.size w11 w') := HA
  clear HA
  go_wp2_with fail
  refine HA2.out.mono ?_
  rintro e w13 ⟨rfl, b13⟩
  have U13 := hid (up_trans U11.out b13)
  have B13 := hid (B12.out.below b13)
  have E13 := hid (E12.out.below b13)
  have F13 := hid (B11.out.below b13)
  clear b13 hw11 hg10 hx10 c10_0 c10_1 f10_0 f10_1 c12_0 c12_1 c12_2 f12_0 f12_1 f12_2 HA2 B10 V10 V11 B9 E9 B11 B12 E12
  obtain ⟨g14, hg14⟩ : ∃ g, w13.heap.size = g := ⟨_, rfl⟩
  obtain ⟨x14, hx14⟩ : ∃ zz, w13.alloc (.cells #[(.int .i64 0), (.string ⟨#[]⟩)] 52) = zz := ⟨_, rfl⟩
  have b14 : Blk x14 w13.heap.size #[(.int .i64 0), (.string ⟨#[]⟩)] 52 := hx14 ▸ Blk.new _ _ _
  have V14 : Hid (Below w13.heap.size w13 x14) := hid (hx14 ▸ up_alloc (up_refl _) _)
  have N14 : Hid (Below w.heap.size w x14) := hid (up_trans U13.out V14.out)
  have G14 : Hid (w.heap.size ≤ g14) := hid (by rw [← hg14]; exact U13.out.size)
  rw [hg14] at b14
  have l14 : g14 < x14.heap.size := b14.lt
  have c14_0 : x14.cell? ⟨g14, 0, none⟩ = some (.int .i64 0) := b14.cell 0
  have f14_0 : x14.frozen? ⟨g14, 0, none⟩ = false := b14.free 0
  have c14_1 : x14.cell? ⟨g14, 1, none⟩ = some (.string ⟨#[]⟩) := b14.cell 1
  have f14_1 : x14.frozen? ⟨g14, 1, none⟩ = false := b14.free 1
  have B14 := hid b14
  clear b14
  obtain ⟨w15, hw15⟩ : ∃ zz, (x14.setCell ⟨g14, 0, none⟩ (.int .i64 0)).setCell ⟨g14, 1, none⟩ (.string ⟨#[]⟩) = zz := ⟨_, rfl⟩
  have U15 : Hid (Below w.heap.size w w15) := hid (hw15 ▸ (N14.out.setCell G14.out _).setCell G14.out _)
  have V15 : Hid (Below w13.heap.size w13 w15) := hid (hw15 ▸ (V14.out.setCell (p := ⟨g14, 0, none⟩) (by rw [hg14]; exact Nat.le_refl _) _).setCell (p := ⟨g14, 1, none⟩) (by rw [hg14]; exact Nat.le_refl _) _)
  have B15 := hid (B13.out.below V15.out)
  have E15 := hid (E13.out.below V15.out)
  have F15 := hid (F13.out.below V15.out)
  have b16 := B15.out
  have c16_0 : w15.cell? ⟨g7, 0, none⟩ = some (.int .i64 5) := b16.cell 0
  have f16_0 : w15.frozen? ⟨g7, 0, none⟩ = false := b16.free 0
  have c16_1 : w15.cell? ⟨g7, 1, none⟩ = some (.slice FA 3 fc) := b16.cell 1
  have f16_1 : w15.frozen? ⟨g7, 1, none⟩ = false := b16.free 1
  have c16_2 : w15.cell? ⟨g7, 2, none⟩ = some (.slice NA 1 nc) := b16.cell 2
  have f16_2 : w15.frozen? ⟨g7, 2, none⟩ = false := b16.free 2
  clear b16
  have HA := hid (exps_ByOrd w15 aw7 _ E15.out 7 (by decide) (by decide) (by decide) (by decide))
  rw [aw7_7] at HA
  have HA2 : Hid (Calls Tryd.prog 22 #[.agg #[.int .i64 5, .slice FA 3 fc, .slice NA 1 nc], .int .i64 7] w15 fun e w' => e = .returned (.tuple #[.agg #[.int .i64 0, .string ⟨#[120, 46, 103]⟩], .bool true]) ∧ Below w15.heap.size w15 w') := HA
  clear HA
  go_wp2_with fail
  refine HA2.out.mono ?_
  rintro e w17 ⟨rfl, b17⟩
  have U17 := hid (up_trans U15.out b17)
  have B17 := hid (B15.out.below b17)
  have F17 := hid (F15.out.below b17)
  clear b17 hw15 hg14 hx14 c14_0 c14_1 f14_0 f14_1 c16_0 c16_1 c16_2 f16_0 f16_1 f16_2 HA2 V14 V15 B13 E13 F13 B15 E15 F15 B14
  obtain ⟨g18, hg18⟩ : ∃ g, w17.heap.size = g := ⟨_, rfl⟩
  obtain ⟨x18, hx18⟩ : ∃ zz, w17.alloc (.cells #[(.int .i64 0), (.string ⟨#[]⟩)] 52) = zz := ⟨_, rfl⟩
  have b18 : Blk x18 w17.heap.size #[(.int .i64 0), (.string ⟨#[]⟩)] 52 := hx18 ▸ Blk.new _ _ _
  have V18 : Hid (Below w17.heap.size w17 x18) := hid (hx18 ▸ up_alloc (up_refl _) _)
  have N18 : Hid (Below w.heap.size w x18) := hid (up_trans U17.out V18.out)
  have G18 : Hid (w.heap.size ≤ g18) := hid (by rw [← hg18]; exact U17.out.size)
  rw [hg18] at b18
  have l18 : g18 < x18.heap.size := b18.lt
  have c18_0 : x18.cell? ⟨g18, 0, none⟩ = some (.int .i64 0) := b18.cell 0
  have f18_0 : x18.frozen? ⟨g18, 0, none⟩ = false := b18.free 0
  have c18_1 : x18.cell? ⟨g18, 1, none⟩ = some (.string ⟨#[]⟩) := b18.cell 1
  have f18_1 : x18.frozen? ⟨g18, 1, none⟩ = false := b18.free 1
  have B18 := hid b18
  clear b18
  obtain ⟨w19, hw19⟩ : ∃ zz, (x18.setCell ⟨g18, 0, none⟩ (.int .i64 0)).setCell ⟨g18, 1, none⟩ (.string ⟨#[120, 46, 103]⟩) = zz := ⟨_, rfl⟩
  have H19 : Hid (Blk w19 g18 #[.int .i64 0, .string ⟨#[120, 46, 103]⟩] 52) := hid (hw19 ▸ B18.out.set2)
  have U19 : Hid (Below w.heap.size w w19) := hid (hw19 ▸ (N18.out.setCell G18.out _).setCell G18.out _)
  have V19 : Hid (Below w17.heap.size w17 w19) := hid (hw19 ▸ (V18.out.setCell (p := ⟨g18, 0, none⟩) (by rw [hg18]; exact Nat.le_refl _) _).setCell (p := ⟨g18, 1, none⟩) (by rw [hg18]; exact Nat.le_refl _) _)
  have B19 := hid (B17.out.below V19.out)
  have F19 := hid (F17.out.below V19.out)
  have HPa := hid (exps_Parse w19 (HK.out.below U19.out) none 0 [] ⟨.inl rfl, Nat.le_refl _, by simp⟩ 1 0 (by omega) (by omega) (by omega) (by omega))
  rw [aw7_nil] at HPa
  have HPb : Hid (Calls Tryd.prog 20 #[.slice none 0 0, .agg #[.int .i64 1, .int .i64 0]] w19 fun e w' => e = .returned (.tuple #[.agg #[.int .i64 0, .slice none 0 0, .slice none 0 0], .int .i64 11]) ∧ Below w19.heap.size w19 w') := HPa
  clear HPa
  go_wp2_with fail
  refine HPb.out.mono ?_
  rintro e w20 ⟨rfl, b20⟩
  have U20 := hid (up_trans U19.out b20)
  have B20 := hid (B19.out.below b20)
  have F20 := hid (F19.out.below b20)
  have H20 := hid (H19.out.below b20)
  clear b20 hw19 hg18 hx18 c18_0 c18_1 f18_0 f18_1 HPb V18 V19 B17 F17 B18 B19 F19 H19
  obtain ⟨g21, hg21⟩ : ∃ g, w20.heap.size = g := ⟨_, rfl⟩
  obtain ⟨x21, hx21⟩ : ∃ zz, w20.alloc (.cells #[(.int .i64 0), (.slice none 0 0), (.slice none 0 0)] 47) = zz := ⟨_, rfl⟩
  have b21 : Blk x21 w20.heap.size #[(.int .i64 0), (.slice none 0 0), (.slice none 0 0)] 47 := hx21 ▸ Blk.new _ _ _
  have V21 : Hid (Below w20.heap.size w20 x21) := hid (hx21 ▸ up_alloc (up_refl _) _)
  have N21 : Hid (Below w.heap.size w x21) := hid (up_trans U20.out V21.out)
  have G21 : Hid (w.heap.size ≤ g21) := hid (by rw [← hg21]; exact U20.out.size)
  rw [hg21] at b21
  have l21 : g21 < x21.heap.size := b21.lt
  have c21_0 : x21.cell? ⟨g21, 0, none⟩ = some (.int .i64 0) := b21.cell 0
  have f21_0 : x21.frozen? ⟨g21, 0, none⟩ = false := b21.free 0
  have c21_1 : x21.cell? ⟨g21, 1, none⟩ = some (.slice none 0 0) := b21.cell 1
  have f21_1 : x21.frozen? ⟨g21, 1, none⟩ = false := b21.free 1
  have c21_2 : x21.cell? ⟨g21, 2, none⟩ = some (.slice none 0 0) := b21.cell 2
  have f21_2 : x21.frozen? ⟨g21, 2, none⟩ = false := b21.free 2
  have B21 := hid b21
  clear b21
  obtain ⟨w22, hw22⟩ : ∃ zz, ((x21.setCell ⟨g21, 0, none⟩ (.int .i64 0)).setCell ⟨g21, 1, none⟩ (.slice none 0 0)).setCell ⟨g21, 2, none⟩ (.slice none 0 0) = zz := ⟨_, rfl⟩
  have U22 : Hid (Below w.heap.size w w22) := hid (hw22 ▸ ((N21.out.setCell G21.out _).setCell G21.out _).setCell G21.out _)
  have V22 : Hid (Below w20.heap.size w20 w22) := hid (hw22 ▸ ((V21.out.setCell (p := ⟨g21, 0, none⟩) (by rw [hg21]; exact Nat.le_refl _) _).setCell (p := ⟨g21, 1, none⟩) (by rw [hg21]; exact Nat.le_refl _) _).setCell (p := ⟨g21, 2, none⟩) (by rw [hg21]; exact Nat.le_refl _) _)
  have B22 := hid (B20.out.below V22.out)
  have F22 := hid (F20.out.below V22.out)
  have H22 := hid (H20.out.below V22.out)
  have b23 := B22.out
  have c23_0 : w22.cell? ⟨g7, 0, none⟩ = some (.int .i64 5) := b23.cell 0
  have f23_0 : w22.frozen? ⟨g7, 0, none⟩ = false := b23.free 0
  have c23_1 : w22.cell? ⟨g7, 1, none⟩ = some (.slice FA 3 fc) := b23.cell 1
  have f23_1 : w22.frozen? ⟨g7, 1, none⟩ = false := b23.free 1
  have c23_2 : w22.cell? ⟨g7, 2, none⟩ = some (.slice NA 1 nc) := b23.cell 2
  have f23_2 : w22.frozen? ⟨g7, 2, none⟩ = false := b23.free 2
  clear b23
  have b24 := F22.out
  have c24_0 : w22.cell? ⟨g10, 0, none⟩ = some (.int .i64 64) := b24.cell 0
  have f24_0 : w22.frozen? ⟨g10, 0, none⟩ = false := b24.free 0
  have c24_1 : w22.cell? ⟨g10, 1, none⟩ = some (.string ⟨#[]⟩) := b24.cell 1
  have f24_1 : w22.frozen? ⟨g10, 1, none⟩ = false := b24.free 1
  clear b24
  have b25 := H22.out
  have c25_0 : w22.cell? ⟨g18, 0, none⟩ = some (.int .i64 0) := b25.cell 0
  have f25_0 : w22.frozen? ⟨g18, 0, none⟩ = false := b25.free 0
  have c25_1 : w22.cell? ⟨g18, 1, none⟩ = some (.string ⟨#[120, 46, 103]⟩) := b25.cell 1
  have f25_1 : w22.frozen? ⟨g18, 1, none⟩ = false := b25.free 1
  clear b25
  go_wp2_with fail
  go_ret
  exact ⟨rfl, HG1.out ▸ U22.out⟩
end Go.Proofs.YtapllnnconpieaaDoor
