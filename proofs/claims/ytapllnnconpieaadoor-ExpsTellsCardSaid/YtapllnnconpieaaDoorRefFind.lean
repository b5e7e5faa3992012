/- slipwayref1.at, Find, SameExports. -/
import Derived.Test.YtapllnnconpieaaDoorExpsF
import Derived.Outline
set_option linter.unusedVariables false
namespace Go.Proofs.YtapllnnconpieaaDoor
open Go.RowKit

/-- A function that is found, and which it is. -/
def fdV (o : Option FuncD) (i : Int) : Value := match o with
  | some f => .tuple #[.agg #[.int .i64 f.rva, .string (S f.fwd), .int .i64 i], .bool true]
  | none => .tuple #[.agg #[.int .i64 0, .string ⟨#[]⟩, .int .i64 0], .bool false]
theorem foundInfo : (Tryd.prog.info? 69).map (·.size) = some 3 := by kernel_rfl
theorem Blk.set3' {w : World} {g : Nat} {x y z a b c : Value} {t : TypeId} (h : Blk w g #[x, y, z] t) : Blk (((w.setCell ⟨g, 0, none⟩ a).setCell ⟨g, 1, none⟩ b).setCell ⟨g, 2, none⟩ c) g #[a, b, c] t := by
  unfold Blk at *
  simp [World.setCell, Array.getElem?_modify, h]

set_option maxRecDepth 100000 in
set_option maxHeartbeats 2000000 in
theorem ref_at (w : World) (x : ExpsD) (v : Value) (hx : ExV w x v) (i : Int) :
    Calls Tryd.prog 50 #[v, .int .i64 i] w fun e w' => e = .returned (fdV (atX x i) i) ∧ Below w.heap.size w w' := by
  obtain ⟨⟨FA, fc, NA, nc, rfl, h1, h2, h3, h4⟩, h5, h6⟩ := hx
  have U0 := hid (up_refl w)
  obtain ⟨g1, hg1⟩ : ∃ g, w.heap.size = g := ⟨_, rfl⟩
  obtain ⟨x1, hx1⟩ : ∃ zz, w.alloc (.cells #[(.int .i64 x.base), (.slice FA x.funcs.length fc), (.slice NA x.names.length nc)] 47) = zz := ⟨_, rfl⟩
  have b1 : Blk x1 w.heap.size #[(.int .i64 x.base), (.slice FA x.funcs.length fc), (.slice NA x.names.length nc)] 47 := hx1 ▸ Blk.new _ _ _
  have V1 : Hid (Below w.heap.size w x1) := hid (hx1 ▸ up_alloc (up_refl _) _)
  have N1 : Hid (Below w.heap.size w x1) := hid (up_trans U0.out V1.out)
  have G1 : Hid (w.heap.size ≤ g1) := hid (by rw [← hg1]; exact U0.out.size)
  rw [hg1] at b1
  have l1 : g1 < x1.heap.size := b1.lt
  have c1_0 : x1.cell? ⟨g1, 0, none⟩ = some (.int .i64 x.base) := b1.cell 0
  have f1_0 : x1.frozen? ⟨g1, 0, none⟩ = false := b1.free 0
  have c1_1 : x1.cell? ⟨g1, 1, none⟩ = some (.slice FA x.funcs.length fc) := b1.cell 1
  have f1_1 : x1.frozen? ⟨g1, 1, none⟩ = false := b1.free 1
  have c1_2 : x1.cell? ⟨g1, 2, none⟩ = some (.slice NA x.names.length nc) := b1.cell 2
  have f1_2 : x1.frozen? ⟨g1, 2, none⟩ = false := b1.free 2
  have B1 := hid b1
  clear b1
  obtain ⟨g2, hg2⟩ : ∃ g, x1.heap.size = g := ⟨_, rfl⟩
  obtain ⟨x2, hx2⟩ : ∃ zz, x1.alloc (.cells #[(.int .i64 0), (.string ⟨#[]⟩), (.int .i64 0)] 69) = zz := ⟨_, rfl⟩
  have b2 : Blk x2 x1.heap.size #[(.int .i64 0), (.string ⟨#[]⟩), (.int .i64 0)] 69 := hx2 ▸ Blk.new _ _ _
  have V2 : Hid (Below x1.heap.size x1 x2) := hid (hx2 ▸ up_alloc (up_refl _) _)
  have N2 : Hid (Below w.heap.size w x2) := hid (up_trans N1.out V2.out)
  have G2 : Hid (w.heap.size ≤ g2) := hid (by rw [← hg2]; exact N1.out.size)
  rw [hg2] at b2
  have l2 : g2 < x2.heap.size := b2.lt
  have c2_0 : x2.cell? ⟨g2, 0, none⟩ = some (.int .i64 0) := b2.cell 0
  have f2_0 : x2.frozen? ⟨g2, 0, none⟩ = false := b2.free 0
  have c2_1 : x2.cell? ⟨g2, 1, none⟩ = some (.string ⟨#[]⟩) := b2.cell 1
  have f2_1 : x2.frozen? ⟨g2, 1, none⟩ = false := b2.free 1
  have c2_2 : x2.cell? ⟨g2, 2, none⟩ = some (.int .i64 0) := b2.cell 2
  have f2_2 : x2.frozen? ⟨g2, 2, none⟩ = false := b2.free 2
  have B2 := hid b2
  clear b2
  have B1' := hid (B1.out.below V2.out)
  have b3 := B1'.out
  have c3_0 : x2.cell? ⟨g1, 0, none⟩ = some (.int .i64 x.base) := b3.cell 0
  have f3_0 : x2.frozen? ⟨g1, 0, none⟩ = false := b3.free 0
  have c3_1 : x2.cell? ⟨g1, 1, none⟩ = some (.slice FA x.funcs.length fc) := b3.cell 1
  have f3_1 : x2.frozen? ⟨g1, 1, none⟩ = false := b3.free 1
  have c3_2 : x2.cell? ⟨g1, 2, none⟩ = some (.slice NA x.names.length nc) := b3.cell 2
  have f3_2 : x2.frozen? ⟨g1, 2, none⟩ = false := b3.free 2
  clear b3
  clear f1_0 f1_1 f1_2 f3_0 f3_1 f3_2 c1_0 c1_1 c1_2 V1 V2
  have none_end : Hid (Blk ((((x2.setCell ⟨g2, 0, none⟩ (.int .i64 0)).setCell ⟨g2, 1, none⟩ (.string ⟨#[]⟩))).setCell ⟨g2, 2, none⟩ (.int .i64 0)) g2 #[.int .i64 0, .string ⟨#[]⟩, .int .i64 0] 69 ∧ Below w.heap.size w (((x2.setCell ⟨g2, 0, none⟩ (.int .i64 0)).setCell ⟨g2, 1, none⟩ (.string ⟨#[]⟩)).setCell ⟨g2, 2, none⟩ (.int .i64 0))) :=
    hid ⟨B2.out.set3', ((N2.out.setCell G2.out _).setCell G2.out _).setCell G2.out _⟩
  by_cases hi0 : 0 ≤ i
  · obtain ⟨k, rfl⟩ := Int.eq_ofNat_of_zero_le hi0
    have hat : atX x k = match x.funcs[k]? with
      | some f => if f.rva = 0 ∧ f.fwd = [] then none else some f
      | none => none := by unfold atX; rw [if_pos hi0]; rfl
    rw [hat]
    by_cases hk : k < x.funcs.length
    · obtain ⟨f, hf⟩ : ∃ f, x.funcs[k]? = some f := ⟨_, List.getElem?_eq_getElem hk⟩
      rw [hf]
      obtain ⟨ad, rfl, hbl, e0, e1⟩ := (h1.below N2.out).elem (fun x : FuncD => [.int .i64 x.rva, .string (S x.fwd)]) 2 (by decide) (fun _ => rfl) hf
      have e1 := e1 1 (by decide) (by decide)
      simp only [List.getElem?_cons_zero, List.getElem?_cons_succ] at e0 e1
      obtain ⟨rv, fw⟩ := f
      simp only at e0 e1
      have hS := S_toList fw
      clear hat hf h1 h2
      by_cases hr : rv = 0
      · subst hr
        by_cases hw : fw = []
        · subst hw
          have hS0 : S ([] : List UInt8) = ⟨#[]⟩ := rfl
          rw [hS0] at e1
          clear hS
          go_enter Tryd.func50, Tryd.ntmps50
          go_wp2_with fail
          exact bodyPost_ret (v := fdV none k) (results_ct' Tryd.results50 _ _ g2 69 #[.int .i64 0, .string ⟨#[]⟩, .int .i64 0] _ (by rfl) none_end.out.1 Tryd.underlying69 (by rfl) foundInfo) rfl ⟨by simp, hg1 ▸ none_end.out.2⟩
        · have hw' : fw.isEmpty = false := by cases fw <;> simp_all
          have hz : (if ((⟨0, fw⟩ : FuncD).rva = 0 ∧ (⟨0, fw⟩ : FuncD).fwd = []) then none else some (⟨0, fw⟩ : FuncD)) = some ⟨0, fw⟩ := if_neg (fun h => hw h.2)
          rw [show (match some (⟨0, fw⟩ : FuncD) with | some f => if f.rva = 0 ∧ f.fwd = [] then none else some f | none => none) = some ⟨0, fw⟩ from hz]
          clear hz
          go_enter Tryd.func50, Tryd.ntmps50
          go_wp2_with fail
          exact bodyPost_ret (v := fdV (some ⟨0, fw⟩) k) (results_ct' Tryd.results50 _ _ g2 69 #[.int .i64 0, .string (S fw), .int .i64 k] _ (by rfl) B2.out.set3' Tryd.underlying69 (by rfl) foundInfo) rfl ⟨rfl, hg1 ▸ ((N2.out.setCell G2.out _).setCell G2.out _).setCell G2.out _⟩
      · have hr' : (rv == 0) = false := by simpa using hr
        have hz : (if ((⟨rv, fw⟩ : FuncD).rva = 0 ∧ (⟨rv, fw⟩ : FuncD).fwd = []) then none else some (⟨rv, fw⟩ : FuncD)) = some ⟨rv, fw⟩ := if_neg (fun h => hr h.1)
        rw [show (match some (⟨rv, fw⟩ : FuncD) with | some f => if f.rva = 0 ∧ f.fwd = [] then none else some f | none => none) = some ⟨rv, fw⟩ from hz]
        clear hz hr
        go_enter Tryd.func50, Tryd.ntmps50
        go_wp2_with fail
        exact bodyPost_ret (v := fdV (some ⟨rv, fw⟩) k) (results_ct' Tryd.results50 _ _ g2 69 #[.int .i64 rv, .string (S fw), .int .i64 k] _ (by rfl) B2.out.set3' Tryd.underlying69 (by rfl) foundInfo) rfl ⟨rfl, hg1 ▸ ((N2.out.setCell G2.out _).setCell G2.out _).setCell G2.out _⟩
    · have hn : x.funcs[k]? = none := List.getElem?_eq_none (by omega)
      rw [hn]
      clear hat hn h1 h2
      go_enter Tryd.func50, Tryd.ntmps50
      go_wp2_with fail
      exact bodyPost_ret (v := fdV none k) (results_ct' Tryd.results50 _ _ g2 69 #[.int .i64 0, .string ⟨#[]⟩, .int .i64 0] _ (by rfl) none_end.out.1 Tryd.underlying69 (by rfl) foundInfo) rfl ⟨rfl, hg1 ▸ none_end.out.2⟩
  · have hat : atX x i = none := by unfold atX; rw [if_neg hi0]
    rw [hat]
    clear hat h1 h2
    go_enter Tryd.func50, Tryd.ntmps50
    go_wp2_with fail
    exact bodyPost_ret (v := fdV none i) (results_ct' Tryd.results50 _ _ g2 69 #[.int .i64 0, .string ⟨#[]⟩, .int .i64 0] _ (by rfl) none_end.out.1 Tryd.underlying69 (by rfl) foundInfo) rfl ⟨rfl, hg1 ▸ none_end.out.2⟩

theorem fdV_cells (o : Option FuncD) (i : Int) : ∃ a b c, fdV o i = .tuple #[.agg #[.int .i64 a, .string (S b), .int .i64 c], .bool o.isSome] ∧ (o.getD ⟨0, []⟩).rva = a ∧ (o.getD ⟨0, []⟩).fwd = b := by
  cases o with
  | none => exact ⟨0, [], 0, rfl, rfl, rfl⟩
  | some f => exact ⟨f.rva, f.fwd, i, rfl, rfl, rfl⟩
/-- A found function, whichever it is. -/
def FoundV (o : Option FuncD) (e : Ending) : Prop := ∃ c, e = .returned (.tuple #[.agg #[.int .i64 (o.getD ⟨0, []⟩).rva, .string (S (o.getD ⟨0, []⟩).fwd), .int .i64 c], .bool o.isSome])

set_option maxRecDepth 100000 in
set_option maxHeartbeats 4000000 in
theorem ref_Find (w : World) (x : ExpsD) (v : Value) (hx : ExV w x v) (s : SymD) (hb0 : 0 ≤ x.base) (hb1 : x.base ≤ 65536) (hf : x.funcs.length ≤ 65536) (ho0 : -9223372036854775808 ≤ s.ord) (ho1 : s.ord ≤ 9223372036854775807) :
    Calls Tryd.prog 28 #[v, .agg s.cells] w fun e w' => FoundV (findX x s) e ∧ Below w.heap.size w w' := by
  have HX := hid hx
  obtain ⟨⟨FA, fc, NA, nc, rfl, h1, h2, h3, h4⟩, h5, h6⟩ := hx
  obtain ⟨nm, od, by'⟩ := s
  simp only [SymD.cells] at *
  have U0 := hid (up_refl w)
  obtain ⟨g1, hg1⟩ : ∃ g, w.heap.size = g := ⟨_, rfl⟩
  obtain ⟨x1, hx1⟩ : ∃ zz, w.alloc (.cells #[(.int .i64 x.base), (.slice FA x.funcs.length fc), (.slice NA x.names.length nc)] 47) = zz := ⟨_, rfl⟩
  have b1 : Blk x1 w.heap.size #[(.int .i64 x.base), (.slice FA x.funcs.length fc), (.slice NA x.names.length nc)] 47 := hx1 ▸ Blk.new _ _ _
  have V1 : Hid (Below w.heap.size w x1) := hid (hx1 ▸ up_alloc (up_refl _) _)
  have N1 : Hid (Below w.heap.size w x1) := hid (up_trans U0.out V1.out)
  have G1 : Hid (w.heap.size ≤ g1) := hid (by rw [← hg1]; exact U0.out.size)
  rw [hg1] at b1
  have l1 : g1 < x1.heap.size := b1.lt
  have c1_0 : x1.cell? ⟨g1, 0, none⟩ = some (.int .i64 x.base) := b1.cell 0
  have f1_0 : x1.frozen? ⟨g1, 0, none⟩ = false := b1.free 0
  have c1_1 : x1.cell? ⟨g1, 1, none⟩ = some (.slice FA x.funcs.length fc) := b1.cell 1
  have f1_1 : x1.frozen? ⟨g1, 1, none⟩ = false := b1.free 1
  have c1_2 : x1.cell? ⟨g1, 2, none⟩ = some (.slice NA x.names.length nc) := b1.cell 2
  have f1_2 : x1.frozen? ⟨g1, 2, none⟩ = false := b1.free 2
  have B1 := hid b1
  clear b1
  obtain ⟨g2, hg2⟩ : ∃ g, x1.heap.size = g := ⟨_, rfl⟩
  obtain ⟨x2, hx2⟩ : ∃ zz, x1.alloc (.cells #[(.string (S nm)), (.int .i64 od), (.bool by')] 24) = zz := ⟨_, rfl⟩
  have b2 : Blk x2 x1.heap.size #[(.string (S nm)), (.int .i64 od), (.bool by')] 24 := hx2 ▸ Blk.new _ _ _
  have V2 : Hid (Below x1.heap.size x1 x2) := hid (hx2 ▸ up_alloc (up_refl _) _)
  have N2 : Hid (Below w.heap.size w x2) := hid (up_trans N1.out V2.out)
  have G2 : Hid (w.heap.size ≤ g2) := hid (by rw [← hg2]; exact N1.out.size)
  rw [hg2] at b2
  have l2 : g2 < x2.heap.size := b2.lt
  have c2_0 : x2.cell? ⟨g2, 0, none⟩ = some (.string (S nm)) := b2.cell 0
  have f2_0 : x2.frozen? ⟨g2, 0, none⟩ = false := b2.free 0
  have c2_1 : x2.cell? ⟨g2, 1, none⟩ = some (.int .i64 od) := b2.cell 1
  have f2_1 : x2.frozen? ⟨g2, 1, none⟩ = false := b2.free 1
  have c2_2 : x2.cell? ⟨g2, 2, none⟩ = some (.bool by') := b2.cell 2
  have f2_2 : x2.frozen? ⟨g2, 2, none⟩ = false := b2.free 2
  have B2 := hid b2
  clear b2
  obtain ⟨g3, hg3⟩ : ∃ g, x2.heap.size = g := ⟨_, rfl⟩
  obtain ⟨x3, hx3⟩ : ∃ zz, x2.alloc (.cells #[(.int .i64 0), (.string ⟨#[]⟩), (.int .i64 0)] 69) = zz := ⟨_, rfl⟩
  have b3 : Blk x3 x2.heap.size #[(.int .i64 0), (.string ⟨#[]⟩), (.int .i64 0)] 69 := hx3 ▸ Blk.new _ _ _
  have V3 : Hid (Below x2.heap.size x2 x3) := hid (hx3 ▸ up_alloc (up_refl _) _)
  have N3 : Hid (Below w.heap.size w x3) := hid (up_trans N2.out V3.out)
  have G3 : Hid (w.heap.size ≤ g3) := hid (by rw [← hg3]; exact N2.out.size)
  rw [hg3] at b3
  have l3 : g3 < x3.heap.size := b3.lt
  have c3_0 : x3.cell? ⟨g3, 0, none⟩ = some (.int .i64 0) := b3.cell 0
  have f3_0 : x3.frozen? ⟨g3, 0, none⟩ = false := b3.free 0
  have c3_1 : x3.cell? ⟨g3, 1, none⟩ = some (.string ⟨#[]⟩) := b3.cell 1
  have f3_1 : x3.frozen? ⟨g3, 1, none⟩ = false := b3.free 1
  have c3_2 : x3.cell? ⟨g3, 2, none⟩ = some (.int .i64 0) := b3.cell 2
  have f3_2 : x3.frozen? ⟨g3, 2, none⟩ = false := b3.free 2
  have B3 := hid b3
  clear b3
  have B1' := hid ((B1.out.below V2.out).below V3.out)
  have B2' := hid (B2.out.below V3.out)
  have b4 := B1'.out
  have c4_0 : x3.cell? ⟨g1, 0, none⟩ = some (.int .i64 x.base) := b4.cell 0
  have f4_0 : x3.frozen? ⟨g1, 0, none⟩ = false := b4.free 0
  have c4_1 : x3.cell? ⟨g1, 1, none⟩ = some (.slice FA x.funcs.length fc) := b4.cell 1
  have f4_1 : x3.frozen? ⟨g1, 1, none⟩ = false := b4.free 1
  have c4_2 : x3.cell? ⟨g1, 2, none⟩ = some (.slice NA x.names.length nc) := b4.cell 2
  have f4_2 : x3.frozen? ⟨g1, 2, none⟩ = false := b4.free 2
  clear b4
  have b5 := B2'.out
  have c5_0 : x3.cell? ⟨g2, 0, none⟩ = some (.string (S nm)) := b5.cell 0
  have f5_0 : x3.frozen? ⟨g2, 0, none⟩ = false := b5.free 0
  have c5_1 : x3.cell? ⟨g2, 1, none⟩ = some (.int .i64 od) := b5.cell 1
  have f5_1 : x3.frozen? ⟨g2, 1, none⟩ = false := b5.free 1
  have c5_2 : x3.cell? ⟨g2, 2, none⟩ = some (.bool by') := b5.cell 2
  have f5_2 : x3.frozen? ⟨g2, 2, none⟩ = false := b5.free 2
  clear b5
  have HGE : Hid (w.heap.size ≤ g3) := G3
  have HG1 : Hid (w.heap.size = g1) := hg1
  clear f1_0 f1_1 f1_2 f4_0 f4_1 f4_2 c1_0 c1_1 c1_2 f2_0 f2_1 f2_2 c2_0 c2_1 c2_2 f5_0 f5_1 f5_2 V1 V2 V3
  have NONE : Hid (∀ (o : Option FuncD), o = none → FoundV o (.returned (.tuple #[.agg #[.int .i64 0, .string ⟨#[]⟩, .int .i64 0], .bool false]))) := hid (fun o h => by rw [h]; exact ⟨0, rfl⟩)
  cases by' with
  | true =>
    by_cases hlt : od < x.base
    · have hv : findX x ⟨nm, od, true⟩ = none := by
        have : idxX x ⟨nm, od, true⟩ = none := by unfold idxX; simp; omega
        unfold findX
        rw [this]
      have HV := hid hv
      clear hv h1 h2
      go_enter Tryd.func28, Tryd.ntmps28
      go_wp2_with fail
      exact bodyPost_ret (v := .tuple #[.agg #[.int .i64 0, .string ⟨#[]⟩, .int .i64 0], .bool false]) (results_ct' Tryd.results28 _ _ g3 69 #[.int .i64 0, .string ⟨#[]⟩, .int .i64 0] _ (by rfl) B3.out.set3' Tryd.underlying69 (by rfl) foundInfo) rfl ⟨NONE.out _ HV.out, HG1.out ▸ ((N3.out.setCell HGE.out _).setCell HGE.out _).setCell HGE.out _⟩
    · have hge : decide (od < x.base) = false := decide_eq_false hlt
      by_cases hbig : 1073741824 < od
      · have hv : findX x ⟨nm, od, true⟩ = none := by
          have : idxX x ⟨nm, od, true⟩ = none := by
            unfold idxX
            simp only [if_true]
            rw [if_neg (by show ¬ (x.base ≤ od ∧ od - x.base < x.funcs.length); omega)]
          unfold findX
          rw [this]
        have HV := hid hv
        clear hv h1 h2
        go_enter Tryd.func28, Tryd.ntmps28
        go_wp2_with fail
        exact bodyPost_ret (v := .tuple #[.agg #[.int .i64 0, .string ⟨#[]⟩, .int .i64 0], .bool false]) (results_ct' Tryd.results28 _ _ g3 69 #[.int .i64 0, .string ⟨#[]⟩, .int .i64 0] _ (by rfl) B3.out.set3' Tryd.underlying69 (by rfl) foundInfo) rfl ⟨NONE.out _ HV.out, HG1.out ▸ ((N3.out.setCell HGE.out _).setCell HGE.out _).setCell HGE.out _⟩
      · have hge2 : decide (1073741824 < od) = false := decide_eq_false hbig
        have hv : findX x ⟨nm, od, true⟩ = atX x (od - x.base) := by
          unfold findX idxX
          simp only [if_true]
          by_cases hin : x.base ≤ od ∧ od - x.base < x.funcs.length
          · rw [if_pos hin]
          · rw [if_neg hin]
            symm
            unfold atX
            rw [if_pos (by omega), List.getElem?_eq_none (by omega)]
        have hsub : IntKind.i64.wrap (od - x.base) = od - x.base := IntWalk.i64_in _ (by omega)
        have HV := hid hv
        have HAT := hid (fun w h => ref_at w x (.agg #[.int .i64 x.base, .slice FA x.funcs.length fc, .slice NA x.names.length nc]) h (od - x.base))
        obtain ⟨a, b, c, hc, ha, hb⟩ := fdV_cells (atX x (od - x.base)) (od - x.base)
        rw [hc] at HAT
        have HRES : Hid (FoundV (findX x ⟨nm, od, true⟩) (.returned (.tuple #[.agg #[.int .i64 a, .string (S b), .int .i64 c], .bool (atX x (od - x.base)).isSome]))) := hid (by rw [HV.out]; exact ⟨c, by rw [ha, hb]⟩)
        obtain ⟨ok, hok⟩ : ∃ b, (atX x (od - x.base)).isSome = b := ⟨_, rfl⟩
        rw [hok] at HAT HRES
        have HXA := hid (HX.out.below N3.out)
        clear hv h1 h2 hc ha hb hok
        go_enter Tryd.func28, Tryd.ntmps28
        go_wp2_with fail
        (with_reducible refine (HAT.out _ HXA.out).mono ?_)
        rintro e w6 ⟨rfl, b6⟩
        have U6 := hid (up_trans N3.out b6)
        have B6 := hid (B3.out.below b6)
        clear b6 hx1 hx2 hx3 hg1 hg2 hg3
        have b6 := B6.out
        have c6_0 : w6.cell? ⟨g3, 0, none⟩ = some (.int .i64 0) := b6.cell 0
        have f6_0 : w6.frozen? ⟨g3, 0, none⟩ = false := b6.free 0
        have c6_1 : w6.cell? ⟨g3, 1, none⟩ = some (.string ⟨#[]⟩) := b6.cell 1
        have f6_1 : w6.frozen? ⟨g3, 1, none⟩ = false := b6.free 1
        have c6_2 : w6.cell? ⟨g3, 2, none⟩ = some (.int .i64 0) := b6.cell 2
        have f6_2 : w6.frozen? ⟨g3, 2, none⟩ = false := b6.free 2
        clear b6
        go_wp2_with fail
        exact bodyPost_ret (v := .tuple #[.agg #[.int .i64 a, .string (S b), .int .i64 c], .bool ok]) (results_ct' Tryd.results28 _ _ g3 69 #[.int .i64 a, .string (S b), .int .i64 c] _ (by rfl) B6.out.set3' Tryd.underlying69 (by rfl) foundInfo) rfl ⟨HRES.out, HG1.out ▸ ((U6.out.setCell HGE.out _).setCell HGE.out _).setCell HGE.out _⟩
  | false =>
    obtain ⟨R, hR⟩ : ∃ r, findX x ⟨nm, od, false⟩ = r := ⟨_, rfl⟩
    rw [hR]
    have hR1 : findX x ⟨nm, od, false⟩ = match (x.names.find? fun m => m.name == nm).map (·.index) with | some i => atX x i | none => none := rfl
    have HR0 : Hid ((match ((x.names.drop 0).find? fun m => m.name == nm).map (·.index) with | some i => atX x i | none => none) = R) := hid (by rw [List.drop_zero, ← hR]; rfl)
    have HN2 := hid (h2.below N3.out)
    clear hR hR1 h1 h2
    go_enter Tryd.func28, Tryd.ntmps28
    go_wp2_with fail
    clear hg1 hx1 hg2 hx2 hg3 hx3 c4_0 c4_1 c4_2 c5_0 c5_1 c5_2 c3_0 c3_1 c3_2 f3_0 f3_1 f3_2
    go_loopg [6] x.names.length (fun k i wr => ∃ j : Nat, i = .int .i64 j ∧ j + k = x.names.length ∧ Below x3.heap.size x3 wr ∧ Hid ((match ((x.names.drop j).find? fun m => m.name == nm).map (·.index) with | some i => atX x i | none => none) = R))
    case atStart => exact ⟨0, rfl, by omega, up_refl _, HR0⟩
    case round =>
      obtain ⟨j, rfl, hj, hu, hf⟩ := hrel
      have HU := hid hu
      have HW := hid (up_trans N3.out hu)
      have Bw1 := hid (B1'.out.below hu)
      have Bw2 := hid (B2'.out.below hu)
      have Bw3 := hid (B3.out.below hu)
      have b6 := Bw1.out
      have c6_0 : wr.cell? ⟨g1, 0, none⟩ = some (.int .i64 x.base) := b6.cell 0
      have f6_0 : wr.frozen? ⟨g1, 0, none⟩ = false := b6.free 0
      have c6_1 : wr.cell? ⟨g1, 1, none⟩ = some (.slice FA x.funcs.length fc) := b6.cell 1
      have f6_1 : wr.frozen? ⟨g1, 1, none⟩ = false := b6.free 1
      have c6_2 : wr.cell? ⟨g1, 2, none⟩ = some (.slice NA x.names.length nc) := b6.cell 2
      have f6_2 : wr.frozen? ⟨g1, 2, none⟩ = false := b6.free 2
      clear b6
      have b7 := Bw2.out
      have c7_0 : wr.cell? ⟨g2, 0, none⟩ = some (.string (S nm)) := b7.cell 0
      have f7_0 : wr.frozen? ⟨g2, 0, none⟩ = false := b7.free 0
      have c7_1 : wr.cell? ⟨g2, 1, none⟩ = some (.int .i64 od) := b7.cell 1
      have f7_1 : wr.frozen? ⟨g2, 1, none⟩ = false := b7.free 1
      have c7_2 : wr.cell? ⟨g2, 2, none⟩ = some (.bool false) := b7.cell 2
      have f7_2 : wr.frozen? ⟨g2, 2, none⟩ = false := b7.free 2
      clear b7
      have b8 := Bw3.out
      have c8_0 : wr.cell? ⟨g3, 0, none⟩ = some (.int .i64 0) := b8.cell 0
      have f8_0 : wr.frozen? ⟨g3, 0, none⟩ = false := b8.free 0
      have c8_1 : wr.cell? ⟨g3, 1, none⟩ = some (.string ⟨#[]⟩) := b8.cell 1
      have f8_1 : wr.frozen? ⟨g3, 1, none⟩ = false := b8.free 1
      have c8_2 : wr.cell? ⟨g3, 2, none⟩ = some (.int .i64 0) := b8.cell 2
      have f8_2 : wr.frozen? ⟨g3, 2, none⟩ = false := b8.free 2
      clear b8
      clear hu f6_0 f6_1 f6_2 f7_0 f7_1 f7_2
      rcases gk with _ | k
      · have hjn : ((j : Int) < (x.names.length : Int)) = False := by simp; omega
        have hRn : R = none := by
          rw [← hf.out, List.drop_of_length_le (by omega)]
          rfl
        have HRN := hid hRn
        clear hRn
        go_wp2_with fail
        exact bodyPost_ret (v := .tuple #[.agg #[.int .i64 0, .string ⟨#[]⟩, .int .i64 0], .bool false]) (results_ct' Tryd.results28 _ _ g3 69 #[.int .i64 0, .string ⟨#[]⟩, .int .i64 0] _ (by rfl) Bw3.out.set3' Tryd.underlying69 (by rfl) foundInfo) rfl ⟨NONE.out _ HRN.out, HG1.out ▸ ((HW.out.setCell HGE.out _).setCell HGE.out _).setCell HGE.out _⟩
      · have hjn : ((j : Int) < (x.names.length : Int)) = True := by simp; omega
        have hjl : j < x.names.length := by omega
        obtain ⟨m, hm⟩ : ∃ m, x.names[j]? = some m := ⟨_, List.getElem?_eq_getElem hjl⟩
        obtain ⟨ad, rfl, hbl, e0, e1⟩ := (HN2.out.below HU.out).elem (fun x : NamedD => [.string (S x.name), .int .i64 x.index]) 2 (by decide) (fun _ => rfl) hm
        have e1 := e1 1 (by decide) (by decide)
        simp only [List.getElem?_cons_zero, List.getElem?_cons_succ] at e0 e1
        have hst := find_step (fun m : NamedD => m.name == nm) x.names j hjl
        have hmj : x.names[j] = m := by rw [List.getElem?_eq_getElem hjl] at hm; exact Option.some.inj hm
        rw [hmj] at hst
        have HF : Hid ((match (if (m.name == nm) then some m else (x.names.drop (j + 1)).find? fun m => m.name == nm).map (·.index) with | some i => atX x i | none => none) = R) := hid (by rw [← hst]; exact hf.out)
        obtain ⟨mn, mi⟩ := m
        simp only at e0 e1 HF
        have hS1 := S_toList mn
        have hS2 := S_toList nm
        clear hst hmj hm hf
        cases he : (mn == nm) with
        | false =>
          rw [he] at HF
          have HF2 : Hid ((match ((x.names.drop (j + 1)).find? fun m => m.name == nm).map (·.index) with | some i => atX x i | none => none) = R) := HF
          go_wp2_with fail
          go_quiet (fail)
          go_wp2_with fail
          go_roundg k
          case measure => omega
          case rel => exact ⟨j + 1, by go_num, by omega, up_drewN HU.out _, HF2⟩
        | true =>
          rw [he] at HF
          have hRs : atX x mi = R := HF.out
          obtain ⟨a, b, c, hc, ha, hb⟩ := fdV_cells (atX x mi) mi
          have HA : Hid (∀ wd, Below wr.heap.size wr wd → Calls Tryd.prog 50 #[(.agg #[.int .i64 x.base, .slice FA x.funcs.length fc, .slice (some ad) x.names.length nc]), .int .i64 mi] wd fun e w' => e = .returned (.tuple #[.agg #[.int .i64 a, .string (S b), .int .i64 c], .bool (atX x mi).isSome]) ∧ Below wr.heap.size wr w') := hid (fun wd hd => by
            refine (ref_at wd x _ ((HX.out.below HW.out).below hd) mi).mono fun e w' ⟨he, hb⟩ => ⟨by rw [he, hc], up_trans hd hb⟩)
          have HRES : Hid (FoundV R (.returned (.tuple #[.agg #[.int .i64 a, .string (S b), .int .i64 c], .bool (atX x mi).isSome]))) := hid (by rw [← hRs]; exact ⟨c, by rw [ha, hb]⟩)
          obtain ⟨ok, hok⟩ : ∃ b, (atX x mi).isSome = b := ⟨_, rfl⟩
          rw [hok] at HA HRES
          clear hRs hc ha hb hok HF
          go_wp2_with fail
          go_quiet (fail)
          go_wp2_with fail
          go_region_with (go_at_call 50; refine (HA.out _ ?_).mono ?_; (first | exact up_refl _ | exact up_drew (up_refl _) | exact up_drewN (up_refl _) _ | exact up_drew (up_drewN (up_refl _) _) | exact up_drewN (up_drew (up_refl _)) _); rintro e w9 ⟨rfl, b9⟩; have U9 := hid (up_trans HW.out b9); have B9 := hid (Bw3.out.below b9); clear b9; have c9_0 := B9.out.cell 0; have c9_1 := B9.out.cell 1; have c9_2 := B9.out.cell 2; have f9_0 := B9.out.free 0; have f9_1 := B9.out.free 1; have f9_2 := B9.out.free 2; simp only [List.getElem?_toArray, List.getElem?_cons_succ, List.getElem?_cons_zero] at c9_0 c9_1 c9_2)
          all_goals
            go_wp2_with fail
            exact bodyPost_ret (v := .tuple #[.agg #[.int .i64 a, .string (S b), .int .i64 c], .bool ok]) (results_ct' Tryd.results28 _ _ g3 69 #[.int .i64 a, .string (S b), .int .i64 c] _ (by rfl) B9.out.set3' Tryd.underlying69 (by rfl) foundInfo) rfl ⟨HRES.out, HG1.out ▸ ((U9.out.setCell HGE.out _).setCell HGE.out _).setCell HGE.out _⟩

end Go.Proofs.YtapllnnconpieaaDoor
