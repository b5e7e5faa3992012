/- exps: At, Index, Find, ByName, ByOrd. -/
import Derived.Test.YtapllnnconpieaaDoorExpsD
import Derived.Test.YtapllnnconpieaaDoorElem
set_option linter.unusedVariables false
namespace Go.Proofs.YtapllnnconpieaaDoor
open Go.RowKit

/-- What an image offers, as a value. -/
structure ExV (w : World) (x : ExpsD) (v : Value) : Prop where
  ex : ∃ FA fc NA nc, v = .agg #[.int .i64 x.base, .slice FA x.funcs.length fc, .slice NA x.names.length nc] ∧ Row w FA (fcells x.funcs) ∧ Row w NA (ncells x.names) ∧ x.funcs.length ≤ fc ∧ x.names.length ≤ nc
  f47 : x.funcs.length ≤ 140737488355328
  n47 : x.names.length ≤ 140737488355328
theorem ExV.below {w w' : World} {x : ExpsD} {v : Value} (h : ExV w x v) (hb : Below w.heap.size w w') : ExV w' x v := by
  obtain ⟨⟨FA, fc, NA, nc, rfl, h1, h2, h3, h4⟩, h5, h6⟩ := h
  exact ⟨⟨FA, fc, NA, nc, rfl, h1.below hb, h2.below hb, h3, h4⟩, h5, h6⟩

def atX (x : ExpsD) (i : Int) : Option FuncD :=
  if 0 ≤ i then match x.funcs[i.toNat]? with
    | some f => if f.rva = 0 ∧ f.fwd = [] then none else some f
    | none => none
  else none
def funcV (o : Option FuncD) : Value := .tuple #[.agg #[.int .i64 (o.getD ⟨0, []⟩).rva, .string (S (o.getD ⟨0, []⟩).fwd)], .bool o.isSome]

set_option maxRecDepth 100000 in
set_option maxHeartbeats 2000000 in
theorem exps_At (w : World) (x : ExpsD) (v : Value) (hx : ExV w x v) (i : Int) :
    Calls Tryd.prog 49 #[v, .int .i64 i] w fun e w' => e = .returned (funcV (atX x i)) ∧ Below w.heap.size w w' := by
  obtain ⟨⟨FA, fc, NA, nc, rfl, h1, h2, h3, h4⟩, h5, h6⟩ := hx
  have U0 := hid (up_refl w)
  obtain ⟨g1, hg1⟩ : ∃ g, w.heap.size = g := ⟨_, rfl⟩
  obtain ⟨x1, hx1⟩ : ∃ zz, w.alloc (.cells #[(.int .i64 x.base), (.slice FA x.funcs.length fc), (.slice NA x.names.length nc)] 47) = zz := ⟨_, rfl⟩
  have b1 : Blk x1 w.heap.size #[(.int .i64 x.base), (.slice FA x.funcs.length fc), (.slice NA x.names.length nc)] 47 := hx1 ▸ Blk.new _ _ _
  have V1 : Hid (Below w.heap.size w x1) := hid (hx1 ▸ up_alloc (up_refl _) _)
  have N1 : Hid (Below w.heap.size w x1) := hid (up_trans U0.out V1.out)
  have G1 : Hid (w.heap.size ≤ g1) := hid (by rw [← hg1]; exact U0.out.size)
  rw [hg1] at b1
  have l1 : g1 < x1.heap.size := b1.lt
  have c1_0 : x1.cell? ⟨g1, 0, none⟩ = some (.int .i64 x.base) := b1.cell 0
  have f1_0 : x1.frozen? ⟨g1, 0, none⟩ = false := b1.free 0
  have c1_1 : x1.cell? ⟨g1, 1, none⟩ = some (.slice FA x.funcs.length fc) := b1.cell 1
  have f1_1 : x1.frozen? ⟨g1, 1, none⟩ = false := b1.free 1
  have c1_2 : x1.cell? ⟨g1, 2, none⟩ = some (.slice NA x.names.length nc) := b1.cell 2
  have f1_2 : x1.frozen? ⟨g1, 2, none⟩ = false := b1.free 2
  have B1 := hid b1
  clear b1
  obtain ⟨g2, hg2⟩ : ∃ g, x1.heap.size = g := ⟨_, rfl⟩
  obtain ⟨x2, hx2⟩ : ∃ zz, x1.alloc (.cells #[(.int .i64 0), (.string ⟨#[]⟩)] 52) = zz := ⟨_, rfl⟩
  have b2 : Blk x2 x1.heap.size #[(.int .i64 0), (.string ⟨#[]⟩)] 52 := hx2 ▸ Blk.new _ _ _
  have V2 : Hid (Below x1.heap.size x1 x2) := hid (hx2 ▸ up_alloc (up_refl _) _)
  have N2 : Hid (Below w.heap.size w x2) := hid (up_trans N1.out V2.out)
  have G2 : Hid (w.heap.size ≤ g2) := hid (by rw [← hg2]; exact N1.out.size)
  rw [hg2] at b2
  have l2 : g2 < x2.heap.size := b2.lt
  have c2_0 : x2.cell? ⟨g2, 0, none⟩ = some (.int .i64 0) := b2.cell 0
  have f2_0 : x2.frozen? ⟨g2, 0, none⟩ = false := b2.free 0
  have c2_1 : x2.cell? ⟨g2, 1, none⟩ = some (.string ⟨#[]⟩) := b2.cell 1
  have f2_1 : x2.frozen? ⟨g2, 1, none⟩ = false := b2.free 1
  have B2 := hid b2
  clear b2
  have B1' := hid (B1.out.below V2.out)
  have b3 := B1'.out
  have c3_0 : x2.cell? ⟨g1, 0, none⟩ = some (.int .i64 x.base) := b3.cell 0
  have f3_0 : x2.frozen? ⟨g1, 0, none⟩ = false := b3.free 0
  have c3_1 : x2.cell? ⟨g1, 1, none⟩ = some (.slice FA x.funcs.length fc) := b3.cell 1
  have f3_1 : x2.frozen? ⟨g1, 1, none⟩ = false := b3.free 1
  have c3_2 : x2.cell? ⟨g1, 2, none⟩ = some (.slice NA x.names.length nc) := b3.cell 2
  have f3_2 : x2.frozen? ⟨g1, 2, none⟩ = false := b3.free 2
  clear b3
  clear f1_0 f1_1 f1_2 f3_0 f3_1 f3_2 c1_0 c1_1 c1_2 V1 V2
  have none_end : Hid (Blk (((x2.setCell ⟨g2, 0, none⟩ (.int .i64 0)).setCell ⟨g2, 1, none⟩ (.string ⟨#[]⟩))) g2 #[.int .i64 0, .string ⟨#[]⟩] 52 ∧ Below w.heap.size w ((x2.setCell ⟨g2, 0, none⟩ (.int .i64 0)).setCell ⟨g2, 1, none⟩ (.string ⟨#[]⟩))) :=
    hid ⟨B2.out.set2, (N2.out.setCell G2.out _).setCell G2.out _⟩
  by_cases hi0 : 0 ≤ i
  · obtain ⟨k, rfl⟩ := Int.eq_ofNat_of_zero_le hi0
    have hat : atX x k = match x.funcs[k]? with
      | some f => if f.rva = 0 ∧ f.fwd = [] then none else some f
      | none => none := by unfold atX; rw [if_pos hi0]; rfl
    rw [hat]
    by_cases hk : k < x.funcs.length
    · obtain ⟨f, hf⟩ : ∃ f, x.funcs[k]? = some f := ⟨_, List.getElem?_eq_getElem hk⟩
      rw [hf]
      obtain ⟨ad, rfl, hbl, e0, e1⟩ := (h1.below N2.out).elem (fun x : FuncD => [.int .i64 x.rva, .string (S x.fwd)]) 2 (by decide) (fun _ => rfl) hf
      have e1 := e1 1 (by decide) (by decide)
      simp only [List.getElem?_cons_zero, List.getElem?_cons_succ] at e0 e1
      obtain ⟨rv, fw⟩ := f
      simp only at e0 e1
      have hS := S_toList fw
      clear hat hf h1 h2
      by_cases hr : rv = 0
      · subst hr
        by_cases hw : fw = []
        · subst hw
          have hS0 : S ([] : List UInt8) = ⟨#[]⟩ := rfl
          rw [hS0] at e1
          clear hS
          go_enter Tryd.func49, Tryd.ntmps49
          go_wp2_with fail
          exact bodyPost_ret (v := funcV none) (results_ct' Tryd.results49 _ _ g2 52 #[.int .i64 0, .string ⟨#[]⟩] _ (by rfl) none_end.out.1 Tryd.underlying52 (by rfl) funcInfo) rfl ⟨by simp, hg1 ▸ none_end.out.2⟩
        · have hw' : fw.isEmpty = false := by cases fw <;> simp_all
          have hz : (if ((⟨0, fw⟩ : FuncD).rva = 0 ∧ (⟨0, fw⟩ : FuncD).fwd = []) then none else some (⟨0, fw⟩ : FuncD)) = some ⟨0, fw⟩ := if_neg (fun h => hw h.2)
          rw [show (match some (⟨0, fw⟩ : FuncD) with | some f => if f.rva = 0 ∧ f.fwd = [] then none else some f | none => none) = some ⟨0, fw⟩ from hz]
          clear hz
          go_enter Tryd.func49, Tryd.ntmps49
          go_wp2_with fail
          exact bodyPost_ret (v := funcV (some ⟨0, fw⟩)) (results_ct' Tryd.results49 _ _ g2 52 #[.int .i64 0, .string (S fw)] _ (by rfl) B2.out.set2 Tryd.underlying52 (by rfl) funcInfo) rfl ⟨rfl, hg1 ▸ (N2.out.setCell G2.out _).setCell G2.out _⟩
      · have hr' : (rv == 0) = false := by simpa using hr
        have hz : (if ((⟨rv, fw⟩ : FuncD).rva = 0 ∧ (⟨rv, fw⟩ : FuncD).fwd = []) then none else some (⟨rv, fw⟩ : FuncD)) = some ⟨rv, fw⟩ := if_neg (fun h => hr h.1)
        rw [show (match some (⟨rv, fw⟩ : FuncD) with | some f => if f.rva = 0 ∧ f.fwd = [] then none else some f | none => none) = some ⟨rv, fw⟩ from hz]
        clear hz hr
        go_enter Tryd.func49, Tryd.ntmps49
        go_wp2_with fail
        exact bodyPost_ret (v := funcV (some ⟨rv, fw⟩)) (results_ct' Tryd.results49 _ _ g2 52 #[.int .i64 rv, .string (S fw)] _ (by rfl) B2.out.set2 Tryd.underlying52 (by rfl) funcInfo) rfl ⟨rfl, hg1 ▸ (N2.out.setCell G2.out _).setCell G2.out _⟩
    · have hn : x.funcs[k]? = none := List.getElem?_eq_none (by omega)
      rw [hn]
      clear hat hn h1 h2
      go_enter Tryd.func49, Tryd.ntmps49
      go_wp2_with fail
      exact bodyPost_ret (v := funcV none) (results_ct' Tryd.results49 _ _ g2 52 #[.int .i64 0, .string ⟨#[]⟩] _ (by rfl) none_end.out.1 Tryd.underlying52 (by rfl) funcInfo) rfl ⟨rfl, hg1 ▸ none_end.out.2⟩
  · have hat : atX x i = none := by unfold atX; rw [if_neg hi0]
    rw [hat]
    clear hat h1 h2
    go_enter Tryd.func49, Tryd.ntmps49
    go_wp2_with fail
    exact bodyPost_ret (v := funcV none) (results_ct' Tryd.results49 _ _ g2 52 #[.int .i64 0, .string ⟨#[]⟩] _ (by rfl) none_end.out.1 Tryd.underlying52 (by rfl) funcInfo) rfl ⟨rfl, hg1 ▸ none_end.out.2⟩
/-- Where a symbol leads. -/
def idxX (x : ExpsD) (s : SymD) : Option Int :=
  if s.byOrd then if x.base ≤ s.ord ∧ s.ord - x.base < x.funcs.length then some (s.ord - x.base) else none
  else (x.names.find? fun m => m.name == s.name).map (·.index)
def okAt (x : ExpsD) : Option Int → Bool
  | some i => (atX x i).isSome
  | none => false
def indexV (x : ExpsD) (s : SymD) : Value := .tuple #[.int .i64 ((idxX x s).getD 0), .bool (okAt x (idxX x s))]
def findX (x : ExpsD) (s : SymD) : Option FuncD := match idxX x s with | some i => atX x i | none => none

theorem find_step {α : Type} (p : α → Bool) (l : List α) (j : Nat) (h : j < l.length) : (l.drop j).find? p = if p l[j] then some l[j] else (l.drop (j + 1)).find? p := by
  rw [List.drop_eq_getElem_cons h, List.find?_cons]
  cases p l[j] <;> rfl

theorem funcV_cells (o : Option FuncD) : ∃ a b c, funcV o = .tuple #[.agg #[.int .i64 a, .string (S b)], .bool c] ∧ o.isSome = c ∧ (o.getD ⟨0, []⟩).rva = a ∧ (o.getD ⟨0, []⟩).fwd = b := ⟨_, _, _, rfl, rfl, rfl, rfl⟩

set_option maxRecDepth 100000 in
set_option maxHeartbeats 4000000 in
theorem exps_Index (w : World) (x : ExpsD) (v : Value) (hx : ExV w x v) (s : SymD) (hb0 : -9223372036854775808 ≤ x.base) (hb1 : x.base ≤ 9223372036854775807) (ho0 : -9223372036854775808 ≤ s.ord) (ho1 : s.ord ≤ 9223372036854775807) :
    Calls Tryd.prog 48 #[v, .agg s.cells] w fun e w' => e = .returned (indexV x s) ∧ Below w.heap.size w w' := by
  have HX := hid hx
  obtain ⟨⟨FA, fc, NA, nc, rfl, h1, h2, h3, h4⟩, h5, h6⟩ := hx
  obtain ⟨nm, od, by'⟩ := s
  simp only [SymD.cells] at *
  have U0 := hid (up_refl w)
  obtain ⟨g1, hg1⟩ : ∃ g, w.heap.size = g := ⟨_, rfl⟩
  obtain ⟨x1, hx1⟩ : ∃ zz, w.alloc (.cells #[(.int .i64 x.base), (.slice FA x.funcs.length fc), (.slice NA x.names.length nc)] 47) = zz := ⟨_, rfl⟩
  have b1 : Blk x1 w.heap.size #[(.int .i64 x.base), (.slice FA x.funcs.length fc), (.slice NA x.names.length nc)] 47 := hx1 ▸ Blk.new _ _ _
  have V1 : Hid (Below w.heap.size w x1) := hid (hx1 ▸ up_alloc (up_refl _) _)
  have N1 : Hid (Below w.heap.size w x1) := hid (up_trans U0.out V1.out)
  have G1 : Hid (w.heap.size ≤ g1) := hid (by rw [← hg1]; exact U0.out.size)
  rw [hg1] at b1
  have l1 : g1 < x1.heap.size := b1.lt
  have c1_0 : x1.cell? ⟨g1, 0, none⟩ = some (.int .i64 x.base) := b1.cell 0
  have f1_0 : x1.frozen? ⟨g1, 0, none⟩ = false := b1.free 0
  have c1_1 : x1.cell? ⟨g1, 1, none⟩ = some (.slice FA x.funcs.length fc) := b1.cell 1
  have f1_1 : x1.frozen? ⟨g1, 1, none⟩ = false := b1.free 1
  have c1_2 : x1.cell? ⟨g1, 2, none⟩ = some (.slice NA x.names.length nc) := b1.cell 2
  have f1_2 : x1.frozen? ⟨g1, 2, none⟩ = false := b1.free 2
  have B1 := hid b1
  clear b1
  obtain ⟨g2, hg2⟩ : ∃ g, x1.heap.size = g := ⟨_, rfl⟩
  obtain ⟨x2, hx2⟩ : ∃ zz, x1.alloc (.cells #[(.string (S nm)), (.int .i64 od), (.bool by')] 24) = zz := ⟨_, rfl⟩
  have b2 : Blk x2 x1.heap.size #[(.string (S nm)), (.int .i64 od), (.bool by')] 24 := hx2 ▸ Blk.new _ _ _
  have V2 : Hid (Below x1.heap.size x1 x2) := hid (hx2 ▸ up_alloc (up_refl _) _)
  have N2 : Hid (Below w.heap.size w x2) := hid (up_trans N1.out V2.out)
  have G2 : Hid (w.heap.size ≤ g2) := hid (by rw [← hg2]; exact N1.out.size)
  rw [hg2] at b2
  have l2 : g2 < x2.heap.size := b2.lt
  have c2_0 : x2.cell? ⟨g2, 0, none⟩ = some (.string (S nm)) := b2.cell 0
  have f2_0 : x2.frozen? ⟨g2, 0, none⟩ = false := b2.free 0
  have c2_1 : x2.cell? ⟨g2, 1, none⟩ = some (.int .i64 od) := b2.cell 1
  have f2_1 : x2.frozen? ⟨g2, 1, none⟩ = false := b2.free 1
  have c2_2 : x2.cell? ⟨g2, 2, none⟩ = some (.bool by') := b2.cell 2
  have f2_2 : x2.frozen? ⟨g2, 2, none⟩ = false := b2.free 2
  have B2 := hid b2
  clear b2
  have B1' := hid (B1.out.below V2.out)
  have b3 := B1'.out
  have c3_0 : x2.cell? ⟨g1, 0, none⟩ = some (.int .i64 x.base) := b3.cell 0
  have f3_0 : x2.frozen? ⟨g1, 0, none⟩ = false := b3.free 0
  have c3_1 : x2.cell? ⟨g1, 1, none⟩ = some (.slice FA x.funcs.length fc) := b3.cell 1
  have f3_1 : x2.frozen? ⟨g1, 1, none⟩ = false := b3.free 1
  have c3_2 : x2.cell? ⟨g1, 2, none⟩ = some (.slice NA x.names.length nc) := b3.cell 2
  have f3_2 : x2.frozen? ⟨g1, 2, none⟩ = false := b3.free 2
  clear b3
  clear f1_0 f1_1 f1_2 f3_0 f3_1 f3_2 c1_0 c1_1 c1_2 f2_0 f2_1 f2_2 V1 V2
  cases by' with
  | true =>
    by_cases hlt : od < x.base
    · have hv : indexV x ⟨nm, od, true⟩ = .tuple #[.int .i64 0, .bool false] := by
        have : idxX x ⟨nm, od, true⟩ = none := by unfold idxX; simp; omega
        unfold indexV
        rw [this]
        rfl
      rw [hv]
      clear hv h1 h2
      go_enter Tryd.func48, Tryd.ntmps48
      go_wp2_with fail
      go_ret2
      exact ⟨rfl, hg1 ▸ N2.out⟩
    · have hge : decide (od < x.base) = false := decide_eq_false hlt
      have hsub : IntKind.u64.wrap (IntKind.u64.wrap od - IntKind.u64.wrap x.base) = od - x.base := by rw [wrap_u64, wrap_u64, wrap_u64]; omega
      obtain ⟨d, hd⟩ : ∃ d, od - x.base = d := ⟨_, rfl⟩
      rw [hd] at hsub
      have hd0 : 0 ≤ d := by omega
      have hln : IntKind.u64.wrap (x.funcs.length : Int) = (x.funcs.length : Int) := wrap_u64_id (by omega) (by omega)
      by_cases hin : d < x.funcs.length
      · have hix : idxX x ⟨nm, od, true⟩ = some d := by
          unfold idxX
          simp only [if_true]
          rw [if_pos ⟨by omega, by omega⟩, hd]
        have hcmp : decide ((x.funcs.length : Int) ≤ d) = false := decide_eq_false (by omega)
        have hi64 : IntKind.i64.wrap d = d := IntWalk.i64_in _ (by omega)
        obtain ⟨fa, fb, fok, hfv, hfo, -, -⟩ := funcV_cells (atX x d)
        have hv : indexV x ⟨nm, od, true⟩ = .tuple #[.int .i64 d, .bool fok] := by
          unfold indexV
          rw [hix]
          show Value.tuple #[.int .i64 d, .bool (atX x d).isSome] = _
          rw [hfo]
        rw [hv]
        have HA := hid (fun w hx => exps_At w x (.agg #[.int .i64 x.base, .slice FA x.funcs.length fc, .slice NA x.names.length nc]) hx d)
        rw [hfv] at HA
        have HG1 : Hid (w.heap.size = g1) := hg1
        clear hv hix h1 h2 hd hb0 hb1 ho0 ho1 hfo hfv
        go_enter Tryd.func48, Tryd.ntmps48
        go_wp2_with fail
        refine (HA.out _ (HX.out.below N2.out)).mono ?_
        rintro e w5 ⟨rfl, b5⟩
        have U5 := hid (up_trans N2.out b5)
        clear b5
        obtain ⟨g6, hg6⟩ : ∃ g, w5.heap.size = g := ⟨_, rfl⟩
        obtain ⟨x6, hx6⟩ : ∃ zz, w5.alloc (.cells #[(.int .i64 0), (.string ⟨#[]⟩)] 52) = zz := ⟨_, rfl⟩
        have b6 : Blk x6 w5.heap.size #[(.int .i64 0), (.string ⟨#[]⟩)] 52 := hx6 ▸ Blk.new _ _ _
        have V6 : Hid (Below w5.heap.size w5 x6) := hid (hx6 ▸ up_alloc (up_refl _) _)
        have N6 : Hid (Below w.heap.size w x6) := hid (up_trans U5.out V6.out)
        have G6 : Hid (w.heap.size ≤ g6) := hid (by rw [← hg6]; exact U5.out.size)
        rw [hg6] at b6
        have l6 : g6 < x6.heap.size := b6.lt
        have c6_0 : x6.cell? ⟨g6, 0, none⟩ = some (.int .i64 0) := b6.cell 0
        have f6_0 : x6.frozen? ⟨g6, 0, none⟩ = false := b6.free 0
        have c6_1 : x6.cell? ⟨g6, 1, none⟩ = some (.string ⟨#[]⟩) := b6.cell 1
        have f6_1 : x6.frozen? ⟨g6, 1, none⟩ = false := b6.free 1
        have B6 := hid b6
        clear b6
        go_wp2_with fail
        go_ret2
        exact ⟨rfl, HG1.out ▸ (N6.out.setCell G6.out _).setCell G6.out _⟩
      · have hv : indexV x ⟨nm, od, true⟩ = .tuple #[.int .i64 0, .bool false] := by
          have : idxX x ⟨nm, od, true⟩ = none := by unfold idxX; simp; omega
          unfold indexV
          rw [this]
          rfl
        rw [hv]
        have hcmp : decide ((x.funcs.length : Int) ≤ d) = true := decide_eq_true (by omega)
        clear hv h1 h2 hd hb0 hb1 ho0 ho1
        go_enter Tryd.func48, Tryd.ntmps48
        go_wp2_with fail
        go_ret2
        exact ⟨rfl, hg1 ▸ N2.out⟩
  | false =>
    obtain ⟨R, hR⟩ : ∃ r, idxX x ⟨nm, od, false⟩ = r := ⟨_, rfl⟩
    have hv : indexV x ⟨nm, od, false⟩ = .tuple #[.int .i64 (R.getD 0), .bool (okAt x R)] := by unfold indexV; rw [hR]
    rw [hv]
    have HR0 : Hid (((x.names.drop 0).find? fun m => m.name == nm).map (·.index) = R) := hid (by rw [List.drop_zero, ← hR]; rfl)
    have HN2 := hid (h2.below N2.out)
    have HG1 : Hid (w.heap.size = g1) := hg1
    have L2 : Hid (x2.heap.size = x2.heap.size) := hid rfl
    clear hv hR h1 h2
    go_enter Tryd.func48, Tryd.ntmps48
    go_wp2_with fail
    clear hg1 hx1 hg2 hx2 c3_0 c3_1 c3_2 c2_0 c2_1 c2_2
    go_loopg [48] x.names.length (fun k i wr => ∃ j : Nat, i = .int .i64 j ∧ j + k = x.names.length ∧ Below x2.heap.size x2 wr ∧ Hid (((x.names.drop j).find? fun m => m.name == nm).map (·.index) = R))
    case atStart => exact ⟨0, rfl, by omega, up_refl _, HR0⟩
    case round =>
      obtain ⟨j, rfl, hj, hu, hf⟩ := hrel
      have HU := hid hu
      have HW := hid (up_trans N2.out hu)
      have Bw1 := hid (B1'.out.below hu)
      have Bw2 := hid (B2.out.below hu)
      have b4 := Bw1.out
      have c4_0 : wr.cell? ⟨g1, 0, none⟩ = some (.int .i64 x.base) := b4.cell 0
      have f4_0 : wr.frozen? ⟨g1, 0, none⟩ = false := b4.free 0
      have c4_1 : wr.cell? ⟨g1, 1, none⟩ = some (.slice FA x.funcs.length fc) := b4.cell 1
      have f4_1 : wr.frozen? ⟨g1, 1, none⟩ = false := b4.free 1
      have c4_2 : wr.cell? ⟨g1, 2, none⟩ = some (.slice NA x.names.length nc) := b4.cell 2
      have f4_2 : wr.frozen? ⟨g1, 2, none⟩ = false := b4.free 2
      clear b4
      have b5 := Bw2.out
      have c5_0 : wr.cell? ⟨g2, 0, none⟩ = some (.string (S nm)) := b5.cell 0
      have f5_0 : wr.frozen? ⟨g2, 0, none⟩ = false := b5.free 0
      have c5_1 : wr.cell? ⟨g2, 1, none⟩ = some (.int .i64 od) := b5.cell 1
      have f5_1 : wr.frozen? ⟨g2, 1, none⟩ = false := b5.free 1
      have c5_2 : wr.cell? ⟨g2, 2, none⟩ = some (.bool false) := b5.cell 2
      have f5_2 : wr.frozen? ⟨g2, 2, none⟩ = false := b5.free 2
      clear b5
      clear hu f4_0 f4_1 f4_2 f5_0 f5_1 f5_2
      rcases gk with _ | k
      · have hjn : ((j : Int) < (x.names.length : Int)) = False := by simp; omega
        have hRn : R = none := by
          rw [← hf.out, List.drop_of_length_le (by omega)]
          rfl
        subst hRn
        go_wp2_with fail
        go_ret2
        exact ⟨rfl, HG1.out ▸ HW.out⟩
      · have hjn : ((j : Int) < (x.names.length : Int)) = True := by simp; omega
        have hjl : j < x.names.length := by omega
        obtain ⟨m, hm⟩ : ∃ m, x.names[j]? = some m := ⟨_, List.getElem?_eq_getElem hjl⟩
        obtain ⟨ad, rfl, hbl, e0, e1⟩ := (HN2.out.below HU.out).elem (fun x : NamedD => [.string (S x.name), .int .i64 x.index]) 2 (by decide) (fun _ => rfl) hm
        have e1 := e1 1 (by decide) (by decide)
        simp only [List.getElem?_cons_zero, List.getElem?_cons_succ] at e0 e1
        have hst := find_step (fun m : NamedD => m.name == nm) x.names j hjl
        have hmj : x.names[j] = m := by rw [List.getElem?_eq_getElem hjl] at hm; exact Option.some.inj hm
        rw [hmj] at hst
        have HF : Hid ((if (m.name == nm) then some m else (x.names.drop (j + 1)).find? fun m => m.name == nm).map (·.index) = R) := hid (by rw [← hst]; exact hf.out)
        obtain ⟨mn, mi⟩ := m
        simp only at e0 e1 HF
        have hS1 := S_toList mn
        have hS2 := S_toList nm
        have UR : Hid (Below w.heap.size w wr) := HW
        clear hst hmj hm hf
        obtain ⟨g6, hg6⟩ : ∃ g, wr.heap.size = g := ⟨_, rfl⟩
        obtain ⟨x6, hx6⟩ : ∃ zz, wr.alloc (.cells #[(.string ⟨#[]⟩), (.int .i64 0)] 57) = zz := ⟨_, rfl⟩
        have b6 : Blk x6 wr.heap.size #[(.string ⟨#[]⟩), (.int .i64 0)] 57 := hx6 ▸ Blk.new _ _ _
        have V6 : Hid (Below wr.heap.size wr x6) := hid (hx6 ▸ up_alloc (up_refl _) _)
        have N6 : Hid (Below w.heap.size w x6) := hid (up_trans UR.out V6.out)
        have G6 : Hid (w.heap.size ≤ g6) := hid (by rw [← hg6]; exact UR.out.size)
        rw [hg6] at b6
        have l6 : g6 < x6.heap.size := b6.lt
        have c6_0 : x6.cell? ⟨g6, 0, none⟩ = some (.string ⟨#[]⟩) := b6.cell 0
        have f6_0 : x6.frozen? ⟨g6, 0, none⟩ = false := b6.free 0
        have c6_1 : x6.cell? ⟨g6, 1, none⟩ = some (.int .i64 0) := b6.cell 1
        have f6_1 : x6.frozen? ⟨g6, 1, none⟩ = false := b6.free 1
        have B6 := hid b6
        clear b6
        have hn16 : g1 ≠ g6 := by have := Bw1.out.lt; omega
        have hn26 : g2 ≠ g6 := by have := Bw2.out.lt; omega
        have hn61 : g6 ≠ g1 := fun e => hn16 e.symm
        have hn62 : g6 ≠ g2 := fun e => hn26 e.symm
        have UW6 : Hid (Below w.heap.size w ((x6.setCell ⟨g6, 0, none⟩ (.string (S mn))).setCell ⟨g6, 1, none⟩ (.int .i64 mi))) := hid ((N6.out.setCell G6.out _).setCell G6.out _)
        have UX6 : Hid (Below x2.heap.size x2 ((x6.setCell ⟨g6, 0, none⟩ (.string (S mn))).setCell ⟨g6, 1, none⟩ (.int .i64 mi))) := hid (by
          have h := up_trans HU.out V6.out
          have hg : x2.heap.size ≤ g6 := by have := HU.out.size; omega
          exact (h.setCell (p := ⟨g6, 0, none⟩) hg _).setCell (p := ⟨g6, 1, none⟩) hg _)
        have Bz1 := hid (((Bw1.out.below V6.out).apart' ⟨g6, 0, none⟩ hn61 (.string (S mn))).apart' ⟨g6, 1, none⟩ hn61 (.int .i64 mi))
        have Bz2 := hid (((Bw2.out.below V6.out).apart' ⟨g6, 0, none⟩ hn62 (.string (S mn))).apart' ⟨g6, 1, none⟩ hn62 (.int .i64 mi))
        obtain ⟨w7, hw7⟩ : ∃ zz, (x6.setCell ⟨g6, 0, none⟩ (.string (S mn))).setCell ⟨g6, 1, none⟩ (.int .i64 mi) = zz := ⟨_, rfl⟩
        have Bz6 : Hid (Blk w7 g6 #[.string (S mn), .int .i64 mi] 57) := hid (hw7 ▸ B6.out.set2)
        rw [hw7] at UW6 UX6 Bz1 Bz2
        have b7 := Bz1.out
        have c7_0 : w7.cell? ⟨g1, 0, none⟩ = some (.int .i64 x.base) := b7.cell 0
        have f7_0 : w7.frozen? ⟨g1, 0, none⟩ = false := b7.free 0
        have c7_1 : w7.cell? ⟨g1, 1, none⟩ = some (.slice FA x.funcs.length fc) := b7.cell 1
        have f7_1 : w7.frozen? ⟨g1, 1, none⟩ = false := b7.free 1
        have c7_2 : w7.cell? ⟨g1, 2, none⟩ = some (.slice (some ad) x.names.length nc) := b7.cell 2
        have f7_2 : w7.frozen? ⟨g1, 2, none⟩ = false := b7.free 2
        clear b7
        have b8 := Bz2.out
        have c8_0 : w7.cell? ⟨g2, 0, none⟩ = some (.string (S nm)) := b8.cell 0
        have f8_0 : w7.frozen? ⟨g2, 0, none⟩ = false := b8.free 0
        have c8_1 : w7.cell? ⟨g2, 1, none⟩ = some (.int .i64 od) := b8.cell 1
        have f8_1 : w7.frozen? ⟨g2, 1, none⟩ = false := b8.free 1
        have c8_2 : w7.cell? ⟨g2, 2, none⟩ = some (.bool false) := b8.cell 2
        have f8_2 : w7.frozen? ⟨g2, 2, none⟩ = false := b8.free 2
        clear b8
        have b9 := Bz6.out
        have c9_0 : w7.cell? ⟨g6, 0, none⟩ = some (.string (S mn)) := b9.cell 0
        have f9_0 : w7.frozen? ⟨g6, 0, none⟩ = false := b9.free 0
        have c9_1 : w7.cell? ⟨g6, 1, none⟩ = some (.int .i64 mi) := b9.cell 1
        have f9_1 : w7.frozen? ⟨g6, 1, none⟩ = false := b9.free 1
        clear b9
        cases he : (mn == nm) with
        | false =>
          rw [he] at HF
          have HF2 : Hid (((x.names.drop (j + 1)).find? fun m => m.name == nm).map (·.index) = R) := HF
          go_wp2_with fail
          go_roundg k
          case measure => omega
          case rel => exact ⟨j + 1, by go_num, by omega, UX6.out, HF2⟩
        | true =>
          rw [he] at HF
          have hRs : R = some mi := HF.out.symm
          subst hRs
          obtain ⟨fa, fb, fok, hfv, hfo, -, -⟩ := funcV_cells (atX x mi)
          have HA := hid (fun w hx => exps_At w x (.agg #[.int .i64 x.base, .slice FA x.funcs.length fc, .slice (some ad) x.names.length nc]) hx mi)
          rw [hfv] at HA
          have HFO : Hid (okAt x (some mi) = fok) := hfo
          clear hfo hfv
          go_wp2_with fail
          refine (HA.out _ (HX.out.below UW6.out)).mono ?_
          rintro e w10 ⟨rfl, b10⟩
          have U10 := hid (up_trans UW6.out b10)
          have Bz6b := hid (Bz6.out.below b10)
          clear b10 c9_0 c9_1 f9_0 f9_1
          obtain ⟨g11, hg11⟩ : ∃ g, w10.heap.size = g := ⟨_, rfl⟩
          obtain ⟨x11, hx11⟩ : ∃ zz, w10.alloc (.cells #[(.int .i64 0), (.string ⟨#[]⟩)] 52) = zz := ⟨_, rfl⟩
          have b11 : Blk x11 w10.heap.size #[(.int .i64 0), (.string ⟨#[]⟩)] 52 := hx11 ▸ Blk.new _ _ _
          have V11 : Hid (Below w10.heap.size w10 x11) := hid (hx11 ▸ up_alloc (up_refl _) _)
          have N11 : Hid (Below w.heap.size w x11) := hid (up_trans U10.out V11.out)
          have G11 : Hid (w.heap.size ≤ g11) := hid (by rw [← hg11]; exact U10.out.size)
          rw [hg11] at b11
          have l11 : g11 < x11.heap.size := b11.lt
          have c11_0 : x11.cell? ⟨g11, 0, none⟩ = some (.int .i64 0) := b11.cell 0
          have f11_0 : x11.frozen? ⟨g11, 0, none⟩ = false := b11.free 0
          have c11_1 : x11.cell? ⟨g11, 1, none⟩ = some (.string ⟨#[]⟩) := b11.cell 1
          have f11_1 : x11.frozen? ⟨g11, 1, none⟩ = false := b11.free 1
          have B11 := hid b11
          clear b11
          have Bz6c := hid (Bz6b.out.below V11.out)
          have hn611 : g6 ≠ g11 := by have := Bz6b.out.lt; omega
          have b12 := Bz6c.out
          have c12_0 : x11.cell? ⟨g6, 0, none⟩ = some (.string (S mn)) := b12.cell 0
          have f12_0 : x11.frozen? ⟨g6, 0, none⟩ = false := b12.free 0
          have c12_1 : x11.cell? ⟨g6, 1, none⟩ = some (.int .i64 mi) := b12.cell 1
          have f12_1 : x11.frozen? ⟨g6, 1, none⟩ = false := b12.free 1
          clear b12
          go_wp2_with fail
          go_ret2
          refine ⟨?_, HG1.out ▸ (N11.out.setCell G11.out _).setCell G11.out _⟩
          rw [HFO.out]
          rfl
end Go.Proofs.YtapllnnconpieaaDoor
