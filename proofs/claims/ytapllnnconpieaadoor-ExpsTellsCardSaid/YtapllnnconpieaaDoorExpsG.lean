/- exps: Find, ByName, ByOrd. -/
import Derived.Test.YtapllnnconpieaaDoorExpsF
set_option linter.unusedVariables false
namespace Go.Proofs.YtapllnnconpieaaDoor
open Go.RowKit

theorem index_cases (x : ExpsD) (s : SymD) : (indexV x s = .tuple #[.int .i64 ((idxX x s).getD 0), .bool false] ∧ findX x s = none) ∨ ∃ i, indexV x s = .tuple #[.int .i64 i, .bool true] ∧ findX x s = atX x i := by
  unfold indexV findX
  cases h : idxX x s with
  | none => exact .inl ⟨rfl, rfl⟩
  | some i =>
    cases ha : atX x i with
    | none => exact .inl ⟨by simp [okAt, ha], ha⟩
    | some f => exact .inr ⟨i, by simp [okAt, ha], rfl⟩

set_option maxRecDepth 100000 in
set_option maxHeartbeats 4000000 in
theorem exps_Find (w : World) (x : ExpsD) (v : Value) (hx : ExV w x v) (s : SymD) (hb0 : -9223372036854775808 ≤ x.base) (hb1 : x.base ≤ 9223372036854775807) (ho0 : -9223372036854775808 ≤ s.ord) (ho1 : s.ord ≤ 9223372036854775807) :
    Calls Tryd.prog 27 #[v, .agg s.cells] w fun e w' => e = .returned (funcV (findX x s)) ∧ Below w.heap.size w w' := by
  have HX := hid hx
  have HI := hid (fun w hx => exps_Index w x v hx s hb0 hb1 ho0 ho1)
  obtain ⟨⟨FA, fc, NA, nc, rfl, h1, h2, h3, h4⟩, h5, h6⟩ := hx
  obtain ⟨nm, od, by'⟩ := s
  simp only [SymD.cells] at *
  have U0 := hid (up_refl w)
  obtain ⟨g1, hg1⟩ : ∃ g, w.heap.size = g := ⟨_, rfl⟩
  obtain ⟨x1, hx1⟩ : ∃ zz, w.alloc (.cells #[(.int .i64 x.base), (.slice FA x.funcs.length fc), (.slice NA x.names.length nc)] 47) = zz := ⟨_, rfl⟩
  have b1 : Blk x1 w.heap.size #[(.int .i64 x.base), (.slice FA x.funcs.length fc), (.slice NA x.names.length nc)] 47 := hx1 ▸ Blk.new _ _ _
  have V1 : Hid (Below w.heap.size w x1) := hid (hx1 ▸ up_alloc (up_refl _) _)
  have N1 : Hid (Below w.heap.size w x1) := hid (up_trans U0.out V1.out)
  have G1 : Hid (w.heap.size ≤ g1) := hid (by rw [← hg1]; exact U0.out.size)
  rw [hg1] at b1
  have l1 : g1 < x1.heap.size := b1.lt
  have c1_0 : x1.cell? ⟨g1, 0, none⟩ = some (.int .i64 x.base) := b1.cell 0
  have f1_0 : x1.frozen? ⟨g1, 0, none⟩ = false := b1.free 0
  have c1_1 : x1.cell? ⟨g1, 1, none⟩ = some (.slice FA x.funcs.length fc) := b1.cell 1
  have f1_1 : x1.frozen? ⟨g1, 1, none⟩ = false := b1.free 1
  have c1_2 : x1.cell? ⟨g1, 2, none⟩ = some (.slice NA x.names.length nc) := b1.cell 2
  have f1_2 : x1.frozen? ⟨g1, 2, none⟩ = false := b1.free 2
  have B1 := hid b1
  clear b1
  obtain ⟨g2, hg2⟩ : ∃ g, x1.heap.size = g := ⟨_, rfl⟩
  obtain ⟨x2, hx2⟩ : ∃ zz, x1.alloc (.cells #[(.string (S nm)), (.int .i64 od), (.bool by')] 24) = zz := ⟨_, rfl⟩
  have b2 : Blk x2 x1.heap.size #[(.string (S nm)), (.int .i64 od), (.bool by')] 24 := hx2 ▸ Blk.new _ _ _
  have V2 : Hid (Below x1.heap.size x1 x2) := hid (hx2 ▸ up_alloc (up_refl _) _)
  have N2 : Hid (Below w.heap.size w x2) := hid (up_trans N1.out V2.out)
  have G2 : Hid (w.heap.size ≤ g2) := hid (by rw [← hg2]; exact N1.out.size)
  rw [hg2] at b2
  have l2 : g2 < x2.heap.size := b2.lt
  have c2_0 : x2.cell? ⟨g2, 0, none⟩ = some (.string (S nm)) := b2.cell 0
  have f2_0 : x2.frozen? ⟨g2, 0, none⟩ = false := b2.free 0
  have c2_1 : x2.cell? ⟨g2, 1, none⟩ = some (.int .i64 od) := b2.cell 1
  have f2_1 : x2.frozen? ⟨g2, 1, none⟩ = false := b2.free 1
  have c2_2 : x2.cell? ⟨g2, 2, none⟩ = some (.bool by') := b2.cell 2
  have f2_2 : x2.frozen? ⟨g2, 2, none⟩ = false := b2.free 2
  have B2 := hid b2
  clear b2
  obtain ⟨g3, hg3⟩ : ∃ g, x2.heap.size = g := ⟨_, rfl⟩
  obtain ⟨x3, hx3⟩ : ∃ zz, x2.alloc (.cells #[(.int .i64 0), (.string ⟨#[]⟩)] 52) = zz := ⟨_, rfl⟩
  have b3 : Blk x3 x2.heap.size #[(.int .i64 0), (.string ⟨#[]⟩)] 52 := hx3 ▸ Blk.new _ _ _
  have V3 : Hid (Below x2.heap.size x2 x3) := hid (hx3 ▸ up_alloc (up_refl _) _)
  have N3 : Hid (Below w.heap.size w x3) := hid (up_trans N2.out V3.out)
  have G3 : Hid (w.heap.size ≤ g3) := hid (by rw [← hg3]; exact N2.out.size)
  rw [hg3] at b3
  have l3 : g3 < x3.heap.size := b3.lt
  have c3_0 : x3.cell? ⟨g3, 0, none⟩ = some (.int .i64 0) := b3.cell 0
  have f3_0 : x3.frozen? ⟨g3, 0, none⟩ = false := b3.free 0
  have c3_1 : x3.cell? ⟨g3, 1, none⟩ = some (.string ⟨#[]⟩) := b3.cell 1
  have f3_1 : x3.frozen? ⟨g3, 1, none⟩ = false := b3.free 1
  have B3 := hid b3
  clear b3
  have B1' := hid ((B1.out.below V2.out).below V3.out)
  have B2' := hid (B2.out.below V3.out)
  have b4 := B1'.out
  have c4_0 : x3.cell? ⟨g1, 0, none⟩ = some (.int .i64 x.base) := b4.cell 0
  have f4_0 : x3.frozen? ⟨g1, 0, none⟩ = false := b4.free 0
  have c4_1 : x3.cell? ⟨g1, 1, none⟩ = some (.slice FA x.funcs.length fc) := b4.cell 1
  have f4_1 : x3.frozen? ⟨g1, 1, none⟩ = false := b4.free 1
  have c4_2 : x3.cell? ⟨g1, 2, none⟩ = some (.slice NA x.names.length nc) := b4.cell 2
  have f4_2 : x3.frozen? ⟨g1, 2, none⟩ = false := b4.free 2
  clear b4
  have b5 := B2'.out
  have c5_0 : x3.cell? ⟨g2, 0, none⟩ = some (.string (S nm)) := b5.cell 0
  have f5_0 : x3.frozen? ⟨g2, 0, none⟩ = false := b5.free 0
  have c5_1 : x3.cell? ⟨g2, 1, none⟩ = some (.int .i64 od) := b5.cell 1
  have f5_1 : x3.frozen? ⟨g2, 1, none⟩ = false := b5.free 1
  have c5_2 : x3.cell? ⟨g2, 2, none⟩ = some (.bool by') := b5.cell 2
  have f5_2 : x3.frozen? ⟨g2, 2, none⟩ = false := b5.free 2
  clear b5
  have HG1 : Hid (w.heap.size = g1) := hg1
  clear f1_0 f1_1 f1_2 f4_0 f4_1 f4_2 f2_0 f2_1 f2_2 f5_0 f5_1 f5_2 c1_0 c1_1 c1_2 c2_0 c2_1 c2_2 V1 V2 V3 h1 h2 hb0 hb1 ho0 ho1
  rcases index_cases x ⟨nm, od, by'⟩ with ⟨hi, hf⟩ | ⟨i, hi, hf⟩
  · rw [hi] at HI
    rw [hf]
    clear hi hf
    go_enter Tryd.func27, Tryd.ntmps27
    go_wp2_with fail
    refine (HI.out _ (HX.out.below N3.out)).mono ?_
    rintro e w5 ⟨rfl, b5⟩
    have U5 := hid (up_trans N3.out b5)
    have Bf := hid (B3.out.below b5)
    have b6 := Bf.out
    have c6_0 : w5.cell? ⟨g3, 0, none⟩ = some (.int .i64 0) := b6.cell 0
    have f6_0 : w5.frozen? ⟨g3, 0, none⟩ = false := b6.free 0
    have c6_1 : w5.cell? ⟨g3, 1, none⟩ = some (.string ⟨#[]⟩) := b6.cell 1
    have f6_1 : w5.frozen? ⟨g3, 1, none⟩ = false := b6.free 1
    clear b6
    clear b5
    go_wp2_with fail
    exact bodyPost_ret (v := funcV none) (results_ct' Tryd.results27 _ _ g3 52 #[.int .i64 0, .string ⟨#[]⟩] _ (by rfl) Bf.out.set2 Tryd.underlying52 (by rfl) funcInfo) rfl ⟨rfl, HG1.out ▸ (U5.out.setCell G3.out _).setCell G3.out _⟩
  · rw [hi] at HI
    rw [hf]
    obtain ⟨fa, fb, fok, hfv, hfo, -, -⟩ := funcV_cells (atX x i)
    have HA := hid (fun w hx => exps_At w x (.agg #[.int .i64 x.base, .slice FA x.funcs.length fc, .slice NA x.names.length nc]) hx i)
    rw [hfv] at HA ⊢
    clear hi hf hfv hfo
    go_enter Tryd.func27, Tryd.ntmps27
    go_wp2_with fail
    refine (HI.out _ (HX.out.below N3.out)).mono ?_
    rintro e w5 ⟨rfl, b5⟩
    have U5 := hid (up_trans N3.out b5)
    have Bf := hid (B3.out.below b5)
    have Bg := hid (B1'.out.below b5)
    have b6 := Bg.out
    have c6_0 : w5.cell? ⟨g1, 0, none⟩ = some (.int .i64 x.base) := b6.cell 0
    have f6_0 : w5.frozen? ⟨g1, 0, none⟩ = false := b6.free 0
    have c6_1 : w5.cell? ⟨g1, 1, none⟩ = some (.slice FA x.funcs.length fc) := b6.cell 1
    have f6_1 : w5.frozen? ⟨g1, 1, none⟩ = false := b6.free 1
    have c6_2 : w5.cell? ⟨g1, 2, none⟩ = some (.slice NA x.names.length nc) := b6.cell 2
    have f6_2 : w5.frozen? ⟨g1, 2, none⟩ = false := b6.free 2
    clear b6
    clear b5 c4_0 c4_1 c4_2 c5_0 c5_1 c5_2 c3_0 c3_1 f3_0 f3_1
    go_wp2_with fail
    refine (HA.out _ (HX.out.below U5.out)).mono ?_
    rintro e w7 ⟨rfl, b7⟩
    have U7 := hid (up_trans U5.out b7)
    have Bh := hid (Bf.out.below b7)
    have b8 := Bh.out
    have c8_0 : w7.cell? ⟨g3, 0, none⟩ = some (.int .i64 0) := b8.cell 0
    have f8_0 : w7.frozen? ⟨g3, 0, none⟩ = false := b8.free 0
    have c8_1 : w7.cell? ⟨g3, 1, none⟩ = some (.string ⟨#[]⟩) := b8.cell 1
    have f8_1 : w7.frozen? ⟨g3, 1, none⟩ = false := b8.free 1
    clear b8
    clear b7
    go_wp2_with fail
    exact bodyPost_ret (v := .tuple #[.agg #[.int .i64 fa, .string (S fb)], .bool fok]) (results_ct' Tryd.results27 _ _ g3 52 #[.int .i64 fa, .string (S fb)] _ (by rfl) Bh.out.set2 Tryd.underlying52 (by rfl) funcInfo) rfl ⟨rfl, HG1.out ▸ (U7.out.setCell G3.out _).setCell G3.out _⟩

set_option maxRecDepth 100000 in
set_option maxHeartbeats 4000000 in
theorem exps_ByName (w : World) (x : ExpsD) (v : Value) (hx : ExV w x v) (nm : List UInt8) (hb0 : -9223372036854775808 ≤ x.base) (hb1 : x.base ≤ 9223372036854775807) :
    Calls Tryd.prog 21 #[v, .string (S nm)] w fun e w' => e = .returned (funcV (findX x ⟨nm, 0, false⟩)) ∧ Below w.heap.size w w' := by
  have HX := hid hx
  have HI := hid (fun w hx => exps_Find w x v hx ⟨nm, 0, false⟩ hb0 hb1 (by simp) (by simp))
  obtain ⟨⟨FA, fc, NA, nc, rfl, h1, h2, h3, h4⟩, h5, h6⟩ := hx
  have U0 := hid (up_refl w)
  obtain ⟨g1, hg1⟩ : ∃ g, w.heap.size = g := ⟨_, rfl⟩
  obtain ⟨x1, hx1⟩ : ∃ zz, w.alloc (.cells #[(.int .i64 x.base), (.slice FA x.funcs.length fc), (.slice NA x.names.length nc)] 47) = zz := ⟨_, rfl⟩
  have b1 : Blk x1 w.heap.size #[(.int .i64 x.base), (.slice FA x.funcs.length fc), (.slice NA x.names.length nc)] 47 := hx1 ▸ Blk.new _ _ _
  have V1 : Hid (Below w.heap.size w x1) := hid (hx1 ▸ up_alloc (up_refl _) _)
  have N1 : Hid (Below w.heap.size w x1) := hid (up_trans U0.out V1.out)
  have G1 : Hid (w.heap.size ≤ g1) := hid (by rw [← hg1]; exact U0.out.size)
  rw [hg1] at b1
  have l1 : g1 < x1.heap.size := b1.lt
  have c1_0 : x1.cell? ⟨g1, 0, none⟩ = some (.int .i64 x.base) := b1.cell 0
  have f1_0 : x1.frozen? ⟨g1, 0, none⟩ = false := b1.free 0
  have c1_1 : x1.cell? ⟨g1, 1, none⟩ = some (.slice FA x.funcs.length fc) := b1.cell 1
  have f1_1 : x1.frozen? ⟨g1, 1, none⟩ = false := b1.free 1
  have c1_2 : x1.cell? ⟨g1, 2, none⟩ = some (.slice NA x.names.length nc) := b1.cell 2
  have f1_2 : x1.frozen? ⟨g1, 2, none⟩ = false := b1.free 2
  have B1 := hid b1
  clear b1
  obtain ⟨g3, hg3⟩ : ∃ g, x1.heap.size = g := ⟨_, rfl⟩
  obtain ⟨x3, hx3⟩ : ∃ zz, x1.alloc (.cells #[(.int .i64 0), (.string ⟨#[]⟩)] 52) = zz := ⟨_, rfl⟩
  have b3 : Blk x3 x1.heap.size #[(.int .i64 0), (.string ⟨#[]⟩)] 52 := hx3 ▸ Blk.new _ _ _
  have V3 : Hid (Below x1.heap.size x1 x3) := hid (hx3 ▸ up_alloc (up_refl _) _)
  have N3 : Hid (Below w.heap.size w x3) := hid (up_trans N1.out V3.out)
  have G3 : Hid (w.heap.size ≤ g3) := hid (by rw [← hg3]; exact N1.out.size)
  rw [hg3] at b3
  have l3 : g3 < x3.heap.size := b3.lt
  have c3_0 : x3.cell? ⟨g3, 0, none⟩ = some (.int .i64 0) := b3.cell 0
  have f3_0 : x3.frozen? ⟨g3, 0, none⟩ = false := b3.free 0
  have c3_1 : x3.cell? ⟨g3, 1, none⟩ = some (.string ⟨#[]⟩) := b3.cell 1
  have f3_1 : x3.frozen? ⟨g3, 1, none⟩ = false := b3.free 1
  have B3 := hid b3
  clear b3
  have B1' := hid (B1.out.below V3.out)
  have b4 := B1'.out
  have c4_0 : x3.cell? ⟨g1, 0, none⟩ = some (.int .i64 x.base) := b4.cell 0
  have f4_0 : x3.frozen? ⟨g1, 0, none⟩ = false := b4.free 0
  have c4_1 : x3.cell? ⟨g1, 1, none⟩ = some (.slice FA x.funcs.length fc) := b4.cell 1
  have f4_1 : x3.frozen? ⟨g1, 1, none⟩ = false := b4.free 1
  have c4_2 : x3.cell? ⟨g1, 2, none⟩ = some (.slice NA x.names.length nc) := b4.cell 2
  have f4_2 : x3.frozen? ⟨g1, 2, none⟩ = false := b4.free 2
  clear b4
  have HG1 : Hid (w.heap.size = g1) := hg1
  obtain ⟨fa, fb, fok, hfv, -, -, -⟩ := funcV_cells (findX x ⟨nm, 0, false⟩)
  rw [hfv] at HI ⊢
  simp only [SymD.cells] at HI
  clear f1_0 f1_1 f1_2 f4_0 f4_1 f4_2 c1_0 c1_1 c1_2 V1 V3 h1 h2 hb0 hb1 hfv
  go_enter Tryd.func21, Tryd.ntmps21
  go_wp2_with fail
  refine (HI.out _ (HX.out.below N3.out)).mono ?_
  rintro e w7 ⟨rfl, b7⟩
  have U7 := hid (up_trans N3.out b7)
  have Bh := hid (B3.out.below b7)
  have b8 := Bh.out
  have c8_0 : w7.cell? ⟨g3, 0, none⟩ = some (.int .i64 0) := b8.cell 0
  have f8_0 : w7.frozen? ⟨g3, 0, none⟩ = false := b8.free 0
  have c8_1 : w7.cell? ⟨g3, 1, none⟩ = some (.string ⟨#[]⟩) := b8.cell 1
  have f8_1 : w7.frozen? ⟨g3, 1, none⟩ = false := b8.free 1
  clear b8
  clear b7
  go_wp2_with fail
  exact bodyPost_ret (v := .tuple #[.agg #[.int .i64 fa, .string (S fb)], .bool fok]) (results_ct' Tryd.results21 _ _ g3 52 #[.int .i64 fa, .string (S fb)] _ (by rfl) Bh.out.set2 Tryd.underlying52 (by rfl) funcInfo) rfl ⟨rfl, HG1.out ▸ (U7.out.setCell G3.out _).setCell G3.out _⟩

set_option maxRecDepth 100000 in
set_option maxHeartbeats 4000000 in
theorem exps_ByOrd (w : World) (x : ExpsD) (v : Value) (hx : ExV w x v) (od : Int) (hb0 : -9223372036854775808 ≤ x.base) (hb1 : x.base ≤ 9223372036854775807) (ho0 : -9223372036854775808 ≤ od) (ho1 : od ≤ 9223372036854775807) :
    Calls Tryd.prog 22 #[v, .int .i64 od] w fun e w' => e = .returned (funcV (findX x ⟨[], od, true⟩)) ∧ Below w.heap.size w w' := by
  have HX := hid hx
  have HI : Hid (∀ w, ExV w x v → Calls Tryd.prog 27 #[v, .agg #[.string ⟨#[]⟩, .int .i64 od, .bool true]] w fun e w' => e = .returned (funcV (findX x ⟨[], od, true⟩)) ∧ Below w.heap.size w w') := hid (fun w hx => exps_Find w x v hx ⟨[], od, true⟩ hb0 hb1 ho0 ho1)
  obtain ⟨⟨FA, fc, NA, nc, rfl, h1, h2, h3, h4⟩, h5, h6⟩ := hx
  have U0 := hid (up_refl w)
  obtain ⟨g1, hg1⟩ : ∃ g, w.heap.size = g := ⟨_, rfl⟩
  obtain ⟨x1, hx1⟩ : ∃ zz, w.alloc (.cells #[(.int .i64 x.base), (.slice FA x.funcs.length fc), (.slice NA x.names.length nc)] 47) = zz := ⟨_, rfl⟩
  have b1 : Blk x1 w.heap.size #[(.int .i64 x.base), (.slice FA x.funcs.length fc), (.slice NA x.names.length nc)] 47 := hx1 ▸ Blk.new _ _ _
  have V1 : Hid (Below w.heap.size w x1) := hid (hx1 ▸ up_alloc (up_refl _) _)
  have N1 : Hid (Below w.heap.size w x1) := hid (up_trans U0.out V1.out)
  have G1 : Hid (w.heap.size ≤ g1) := hid (by rw [← hg1]; exact U0.out.size)
  rw [hg1] at b1
  have l1 : g1 < x1.heap.size := b1.lt
  have c1_0 : x1.cell? ⟨g1, 0, none⟩ = some (.int .i64 x.base) := b1.cell 0
  have f1_0 : x1.frozen? ⟨g1, 0, none⟩ = false := b1.free 0
  have c1_1 : x1.cell? ⟨g1, 1, none⟩ = some (.slice FA x.funcs.length fc) := b1.cell 1
  have f1_1 : x1.frozen? ⟨g1, 1, none⟩ = false := b1.free 1
  have c1_2 : x1.cell? ⟨g1, 2, none⟩ = some (.slice NA x.names.length nc) := b1.cell 2
  have f1_2 : x1.frozen? ⟨g1, 2, none⟩ = false := b1.free 2
  have B1 := hid b1
  clear b1
  obtain ⟨g3, hg3⟩ : ∃ g, x1.heap.size = g := ⟨_, rfl⟩
  obtain ⟨x3, hx3⟩ : ∃ zz, x1.alloc (.cells #[(.int .i64 0), (.string ⟨#[]⟩)] 52) = zz := ⟨_, rfl⟩
  have b3 : Blk x3 x1.heap.size #[(.int .i64 0), (.string ⟨#[]⟩)] 52 := hx3 ▸ Blk.new _ _ _
  have V3 : Hid (Below x1.heap.size x1 x3) := hid (hx3 ▸ up_alloc (up_refl _) _)
  have N3 : Hid (Below w.heap.size w x3) := hid (up_trans N1.out V3.out)
  have G3 : Hid (w.heap.size ≤ g3) := hid (by rw [← hg3]; exact N1.out.size)
  rw [hg3] at b3
  have l3 : g3 < x3.heap.size := b3.lt
  have c3_0 : x3.cell? ⟨g3, 0, none⟩ = some (.int .i64 0) := b3.cell 0
  have f3_0 : x3.frozen? ⟨g3, 0, none⟩ = false := b3.free 0
  have c3_1 : x3.cell? ⟨g3, 1, none⟩ = some (.string ⟨#[]⟩) := b3.cell 1
  have f3_1 : x3.frozen? ⟨g3, 1, none⟩ = false := b3.free 1
  have B3 := hid b3
  clear b3
  have B1' := hid (B1.out.below V3.out)
  have b4 := B1'.out
  have c4_0 : x3.cell? ⟨g1, 0, none⟩ = some (.int .i64 x.base) := b4.cell 0
  have f4_0 : x3.frozen? ⟨g1, 0, none⟩ = false := b4.free 0
  have c4_1 : x3.cell? ⟨g1, 1, none⟩ = some (.slice FA x.funcs.length fc) := b4.cell 1
  have f4_1 : x3.frozen? ⟨g1, 1, none⟩ = false := b4.free 1
  have c4_2 : x3.cell? ⟨g1, 2, none⟩ = some (.slice NA x.names.length nc) := b4.cell 2
  have f4_2 : x3.frozen? ⟨g1, 2, none⟩ = false := b4.free 2
  clear b4
  have HG1 : Hid (w.heap.size = g1) := hg1
  obtain ⟨fa, fb, fok, hfv, -, -, -⟩ := funcV_cells (findX x ⟨[], od, true⟩)
  rw [hfv] at HI ⊢
  clear f1_0 f1_1 f1_2 f4_0 f4_1 f4_2 c1_0 c1_1 c1_2 V1 V3 h1 h2 hb0 hb1 ho0 ho1 hfv
  go_enter Tryd.func22, Tryd.ntmps22
  go_wp2_with fail
  refine (HI.out _ (HX.out.below N3.out)).mono ?_
  rintro e w7 ⟨rfl, b7⟩
  have U7 := hid (up_trans N3.out b7)
  have Bh := hid (B3.out.below b7)
  have b8 := Bh.out
  have c8_0 : w7.cell? ⟨g3, 0, none⟩ = some (.int .i64 0) := b8.cell 0
  have f8_0 : w7.frozen? ⟨g3, 0, none⟩ = false := b8.free 0
  have c8_1 : w7.cell? ⟨g3, 1, none⟩ = some (.string ⟨#[]⟩) := b8.cell 1
  have f8_1 : w7.frozen? ⟨g3, 1, none⟩ = false := b8.free 1
  clear b8
  clear b7
  go_wp2_with fail
  exact bodyPost_ret (v := .tuple #[.agg #[.int .i64 fa, .string (S fb)], .bool fok]) (results_ct' Tryd.results22 _ _ g3 52 #[.int .i64 fa, .string (S fb)] _ (by rfl) Bh.out.set2 Tryd.underlying52 (by rfl) funcInfo) rfl ⟨rfl, HG1.out ▸ (U7.out.setCell G3.out _).setCell G3.out _⟩
end Go.Proofs.YtapllnnconpieaaDoor
