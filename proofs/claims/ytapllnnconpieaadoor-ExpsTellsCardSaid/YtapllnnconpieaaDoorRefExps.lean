/- slipwayref1.Exports. -/
import Derived.Test.YtapllnnconpieaaDoorRefExpsP
import Derived.Test.YtapllnnconpieaaDoorRefSplit2
import Derived.Test.YtapllnnconpieaaDoorRefNum
import Derived.Test.YtapllnnconpieaaDoorElem
import Derived.Outline
set_option linter.unusedVariables false
namespace Go.Proofs.YtapllnnconpieaaDoor
open Go.RowKit

/-- The blocks that stay: the directory's, the result's, that of none. -/
structure RX (w : World) (g1 g2 g3 : Nat) (dr ds : Int) : Prop where
  d : Blk w g1 #[.int .i64 dr, .int .i64 ds] 41
  a : Blk w g2 #[.int .i64 0, .slice none 0 0, .slice none 0 0] 47
  z : Blk w g3 #[.int .i64 0, .slice none 0 0, .slice none 0 0] 47
theorem RX.below {w w' : World} {g1 g2 g3 : Nat} {dr ds : Int} (h : RX w g1 g2 g3 dr ds) (hb : Below w.heap.size w w') : RX w' g1 g2 g3 dr ds := ⟨h.d.below hb, h.a.below hb, h.z.below hb⟩
theorem RX.facts {w : World} {g1 g2 g3 : Nat} {dr ds : Int} (h : RX w g1 g2 g3 dr ds) :
    w.cell? ⟨g1, 0, none⟩ = some (.int .i64 dr) ∧ w.cell? ⟨g1, 1, none⟩ = some (.int .i64 ds) ∧
    w.cell? ⟨g3, 0, none⟩ = some (.int .i64 0) ∧ w.cell? ⟨g3, 1, none⟩ = some (.slice none 0 0) ∧ w.cell? ⟨g3, 2, none⟩ = some (.slice none 0 0) ∧
    w.cell? ⟨g2, 0, none⟩ = some (.int .i64 0) ∧ w.cell? ⟨g2, 1, none⟩ = some (.slice none 0 0) ∧ w.cell? ⟨g2, 2, none⟩ = some (.slice none 0 0) ∧
    w.frozen? ⟨g2, 0, none⟩ = false ∧ w.frozen? ⟨g2, 1, none⟩ = false ∧ w.frozen? ⟨g2, 2, none⟩ = false :=
  ⟨h.d.cell 0, h.d.cell 1, h.z.cell 0, h.z.cell 1, h.z.cell 2, h.a.cell 0, h.a.cell 1, h.a.cell 2, h.a.free 0, h.a.free 1, h.a.free 2⟩
theorem rx_bad {w wr : World} {g1 g2 g3 : Nat} {dr ds : Int} {r : Option ExpsD} (hA : RX wr g1 g2 g3 dr ds) (hU : Below w.heap.size w wr) (hg : w.heap.size ≤ g2) (hp : r = none) :
    ExpsRes r w.heap.size (.returned (.tuple #[.agg exZ, .int .i64 11])) (((wr.setCell ⟨g2, 0, none⟩ (.int .i64 0)).setCell ⟨g2, 1, none⟩ (.slice none 0 0)).setCell ⟨g2, 2, none⟩ (.slice none 0 0)) ∧
      Below w.heap.size w (((wr.setCell ⟨g2, 0, none⟩ (.int .i64 0)).setCell ⟨g2, 1, none⟩ (.slice none 0 0)).setCell ⟨g2, 2, none⟩ (.slice none 0 0)) := by
  rw [hp]
  exact ⟨rfl, ((hU.setCell hg _).setCell hg _).setCell hg _⟩
/-- One thing more in a field. -/
theorem rx_step {w wc w1 : World} {NB g1 g2 g3 g4 j : Nat} {dr ds : Int} {fv v1 : Value} {x0 x1 x2 : Value} {e : TypeId} {cs cs1 : List Value} {o : Obj} (h1 : g1 < NB) (h2 : g2 < NB) (h3 : g3 < NB) (h4 : g4 < NB) (n1 : g4 ≠ g1) (n2 : g4 ≠ g2) (n3 : g4 ≠ g3) (hw : w.heap.size ≤ g4) (hs : NB ≤ wc.heap.size)
    (hX : RX wc g1 g2 g3 dr ds) (hE : Blk wc g4 #[x0, x1, x2] 47) (hF : wc.ownsRow NB e 2 fv j cs) (hU : Below w.heap.size w wc) (hg : (wc.alloc o).grownBy w1 fv.ownBlock) (hown : w1.ownsRow NB e 2 v1 (j + 1) cs1) (k : Nat) :
    Blk w1 g4 #[x0, x1, x2] 47 ∧ RX (w1.setCell ⟨g4, k, none⟩ v1) g1 g2 g3 dr ds ∧ Blk (w1.setCell ⟨g4, k, none⟩ v1) g4 (#[x0, x1, x2].setIfInBounds k v1) 47 ∧ (w1.setCell ⟨g4, k, none⟩ v1).ownsRow NB e 2 v1 (j + 1) cs1 ∧
      Below w.heap.size w (w1.setCell ⟨g4, k, none⟩ v1) ∧ NB ≤ (w1.setCell ⟨g4, k, none⟩ v1).heap.size ∧ NB ≤ w1.heap.size := by
  have hlt : ∀ k, fv.ownBlock = some k → NB ≤ k := fun k hk => (hF.lt k hk).1
  have far : ∀ {g : Nat}, g < NB → some g ≠ fv.ownBlock := fun {g} hgN e => by have := hlt g e.symm; omega
  have e1 := (hE.alloc o).grown' hg (far h4)
  have s1 := hg.size
  simp at s1
  have u1 : Below w.heap.size w w1 := (up_alloc hU o).grown hg (by have := hU.size; simp; omega) (fun k hk => by have := hlt k hk; omega)
  refine ⟨e1, ⟨((hX.d.alloc o).grown' hg (far h1)).apart' _ n1 _, ((hX.a.alloc o).grown' hg (far h2)).apart' _ n2 _, ((hX.z.alloc o).grown' hg (far h3)).apart' _ n3 _⟩, e1.set' k v1, own_set hown (p := ⟨g4, k, none⟩) h4 _, u1.setCell (p := ⟨g4, k, none⟩) hw _, by simp [World.setCell]; omega, by omega⟩
/-- Another field's row stays. -/
theorem rx_keep {wc w1 : World} {NB g4 j n : Nat} {fv nv v1 : Value} {e e' : TypeId} {cs ds : List Value} {o : Obj} (h4 : g4 < NB) (hF : wc.ownsRow NB e 2 fv j cs) (hN : wc.ownsRow NB e' 2 nv n ds) (he : e' ≠ e) (hg : (wc.alloc o).grownBy w1 fv.ownBlock) (k : Nat) : (w1.setCell ⟨g4, k, none⟩ v1).ownsRow NB e' 2 nv n ds := by
  have ne : nv.ownBlock = none ∨ nv.ownBlock ≠ fv.ownBlock := by
    obtain ⟨-, ⟨rfl, -⟩ | ⟨g, cap, cur, rfl, -, hh, -⟩⟩ := hN
    · exact .inl rfl
    · obtain ⟨-, ⟨rfl, -⟩ | ⟨g', cap', cur', rfl, -, hh', -⟩⟩ := hF
      · exact .inr (by simp [Value.ownBlock])
      · refine .inr ?_
        simp only [Value.ownBlock, ne_eq, Option.some.injEq]
        rintro rfl
        rw [hh] at hh'
        simp only [Option.some.injEq, Obj.cells.injEq] at hh'
        exact he hh'.2.1
  exact own_set ((hN.alloc o).kept hg ne) (p := ⟨g4, k, none⟩) h4 _

set_option maxRecDepth 100000 in
set_option maxHeartbeats 16000000 in
theorem ref_Exports (w : World) (l : List UInt8) (dr ds : Int) (hm : l.length ≤ 140737488351232) (h0 : -9223372036854775808 ≤ dr) (h1 : dr ≤ 9223372036854775807) (h2 : -9223372036854775808 ≤ ds) (h3 : ds ≤ 9223372036854775807) :
    Calls Tryd.prog 25 #[.string (S l), .agg #[.int .i64 dr, .int .i64 ds]] w fun e w' => ExpsRes (parseX l dr ds) w.heap.size e w' ∧ Below w.heap.size w w' := by
  have hsz := S_size l
  have U0 := hid (up_refl w)
  obtain ⟨g1, hg1⟩ : ∃ g, w.heap.size = g := ⟨_, rfl⟩
  obtain ⟨x1, hx1⟩ : ∃ zz, w.alloc (.cells #[(.int .i64 dr), (.int .i64 ds)] 41) = zz := ⟨_, rfl⟩
  have b1 : Blk x1 w.heap.size #[(.int .i64 dr), (.int .i64 ds)] 41 := hx1 ▸ Blk.new _ _ _
  have V1 : Hid (Below w.heap.size w x1) := hid (hx1 ▸ up_alloc (up_refl _) _)
  have N1 : Hid (Below w.heap.size w x1) := hid (up_trans U0.out V1.out)
  have G1 : Hid (w.heap.size ≤ g1) := hid (by rw [← hg1]; exact U0.out.size)
  rw [hg1] at b1
  have l1 : g1 < x1.heap.size := b1.lt
  have c1_0 : x1.cell? ⟨g1, 0, none⟩ = some (.int .i64 dr) := b1.cell 0
  have f1_0 : x1.frozen? ⟨g1, 0, none⟩ = false := b1.free 0
  have c1_1 : x1.cell? ⟨g1, 1, none⟩ = some (.int .i64 ds) := b1.cell 1
  have f1_1 : x1.frozen? ⟨g1, 1, none⟩ = false := b1.free 1
  have B1 := hid b1
  clear b1
  obtain ⟨g2, hg2⟩ : ∃ g, x1.heap.size = g := ⟨_, rfl⟩
  obtain ⟨x2, hx2⟩ : ∃ zz, x1.alloc (.cells #[(.int .i64 0), (.slice none 0 0), (.slice none 0 0)] 47) = zz := ⟨_, rfl⟩
  have b2 : Blk x2 x1.heap.size #[(.int .i64 0), (.slice none 0 0), (.slice none 0 0)] 47 := hx2 ▸ Blk.new _ _ _
  have V2 : Hid (Below x1.heap.size x1 x2) := hid (hx2 ▸ up_alloc (up_refl _) _)
  have N2 : Hid (Below w.heap.size w x2) := hid (up_trans N1.out V2.out)
  have G2 : Hid (w.heap.size ≤ g2) := hid (by rw [← hg2]; exact N1.out.size)
  rw [hg2] at b2
  have l2 : g2 < x2.heap.size := b2.lt
  have c2_0 : x2.cell? ⟨g2, 0, none⟩ = some (.int .i64 0) := b2.cell 0
  have f2_0 : x2.frozen? ⟨g2, 0, none⟩ = false := b2.free 0
  have c2_1 : x2.cell? ⟨g2, 1, none⟩ = some (.slice none 0 0) := b2.cell 1
  have f2_1 : x2.frozen? ⟨g2, 1, none⟩ = false := b2.free 1
  have c2_2 : x2.cell? ⟨g2, 2, none⟩ = some (.slice none 0 0) := b2.cell 2
  have f2_2 : x2.frozen? ⟨g2, 2, none⟩ = false := b2.free 2
  have B2 := hid b2
  clear b2
  obtain ⟨g3, hg3⟩ : ∃ g, x2.heap.size = g := ⟨_, rfl⟩
  obtain ⟨x3, hx3⟩ : ∃ zz, x2.alloc (.cells #[(.int .i64 0), (.slice none 0 0), (.slice none 0 0)] 47) = zz := ⟨_, rfl⟩
  have b3 : Blk x3 x2.heap.size #[(.int .i64 0), (.slice none 0 0), (.slice none 0 0)] 47 := hx3 ▸ Blk.new _ _ _
  have V3 : Hid (Below x2.heap.size x2 x3) := hid (hx3 ▸ up_alloc (up_refl _) _)
  have N3 : Hid (Below w.heap.size w x3) := hid (up_trans N2.out V3.out)
  have G3 : Hid (w.heap.size ≤ g3) := hid (by rw [← hg3]; exact N2.out.size)
  rw [hg3] at b3
  have l3 : g3 < x3.heap.size := b3.lt
  have c3_0 : x3.cell? ⟨g3, 0, none⟩ = some (.int .i64 0) := b3.cell 0
  have f3_0 : x3.frozen? ⟨g3, 0, none⟩ = false := b3.free 0
  have c3_1 : x3.cell? ⟨g3, 1, none⟩ = some (.slice none 0 0) := b3.cell 1
  have f3_1 : x3.frozen? ⟨g3, 1, none⟩ = false := b3.free 1
  have c3_2 : x3.cell? ⟨g3, 2, none⟩ = some (.slice none 0 0) := b3.cell 2
  have f3_2 : x3.frozen? ⟨g3, 2, none⟩ = false := b3.free 2
  have B3 := hid b3
  clear b3
  obtain ⟨w3, hw3⟩ : ∃ zz, ((x3.setCell ⟨g3, 0, none⟩ (.int .i64 0)).setCell ⟨g3, 1, none⟩ (.slice none 0 0)).setCell ⟨g3, 2, none⟩ (.slice none 0 0) = zz := ⟨_, rfl⟩
  have V4 : Hid (Below x2.heap.size x2 w3) := hid (hw3 ▸ ((V3.out.setCell (p := ⟨g3, 0, none⟩) (by rw [hg3]; exact Nat.le_refl _) _).setCell (p := ⟨g3, 1, none⟩) (by rw [hg3]; exact Nat.le_refl _) _).setCell (p := ⟨g3, 2, none⟩) (by rw [hg3]; exact Nat.le_refl _) _)
  have U3 := hid (up_trans N2.out V4.out)
  have X3 : Hid (RX w3 g1 g2 g3 dr ds) := hid ⟨(B1.out.below V2.out).below V4.out, B2.out.below V4.out, hw3 ▸ B3.out.set3⟩
  have n21 : g2 ≠ g1 := by have := B1.out.lt; omega
  have n31 : g3 ≠ g1 := by have := (B1.out.below V2.out).lt; omega
  have n32 : g3 ≠ g2 := by have := B2.out.lt; omega
  have GE : Hid (w.heap.size ≤ g2) := G2
  obtain ⟨d0, d1, z0, z1, z2, a0, a1, a2, f0, f1, f2⟩ := X3.out.facts
  clear B1 B2 B3 V1 V2 V3 V4 N1 N2 N3 G1 G2 G3
  by_cases hd0 : dr = 0
  · subst hd0
    rw [show parseX l 0 ds = some ⟨0, [], []⟩ by unfold parseX; rw [if_pos rfl]]
    go_enter Tryd.func25, Tryd.ntmps25
    go_wp2_with fail
    exact bodyPost_ret (v := .tuple #[.agg exZ, .int .i64 0]) (results_ct' Tryd.results25 _ _ g2 47 exZ _ (by rfl) X3.out.a.set3 Tryd.underlying47 (by rfl) expsInfo) rfl
      ⟨⟨_, _, rfl, World.ownsRow_nil _ _ _ _, World.ownsRow_nil _ _ _ _⟩, ((U3.out.setCell GE.out _).setCell GE.out _).setCell GE.out _⟩
  · have hdb : (dr == 0) = false := by simpa using hd0
    have hpx : parseX l dr ds = parseX1 l dr ds := by unfold parseX; rw [if_neg hd0]
    rw [hpx]
    have HIN := hid (fun w => ref_In l.length dr ds w (by omega) (by omega))
    clear hpx hd0
    cases hin : inB l.length dr ds with
    | false =>
      rw [hin] at HIN
      have hpx : parseX1 l dr ds = none := by unfold parseX1; rw [hin, if_neg (by simp)]
      have HPX := hid hpx
      clear hpx hin
      go_enter Tryd.func25, Tryd.ntmps25
      go_wp2_with fail
      refine (HIN.out _).mono ?_
      rintro e w' ⟨rfl, rfl⟩
      go_wp2_with fail
      exact bodyPost_ret (v := .tuple #[.agg exZ, .int .i64 11]) (results_ct' Tryd.results25 _ _ g2 47 exZ _ (by rfl) X3.out.a.set3 Tryd.underlying47 (by rfl) expsInfo) rfl (rx_bad X3.out U3.out GE.out HPX.out)
    | true =>
      rw [hin] at HIN
      by_cases hds : ds < 40
      · have hpx : parseX1 l dr ds = none := by unfold parseX1; rw [if_neg (by omega)]
        have HPX := hid hpx
        clear hpx hin
        go_enter Tryd.func25, Tryd.ntmps25
        go_wp2_with fail
        refine (HIN.out _).mono ?_
        rintro e w' ⟨rfl, rfl⟩
        go_wp2_with fail
        exact bodyPost_ret (v := .tuple #[.agg exZ, .int .i64 11]) (results_ct' Tryd.results25 _ _ g2 47 exZ _ (by rfl) X3.out.a.set3 Tryd.underlying47 (by rfl) expsInfo) rfl (rx_bad X3.out U3.out GE.out HPX.out)
      · have hdr0 : 0 ≤ dr := by simp only [inB, decide_eq_true_eq] at hin; omega
        have hdr1 : dr ≤ 140737488355328 := by simp only [inB, decide_eq_true_eq] at hin; omega
        have hpx : parseX1 l dr ds = parseX2 l dr ds (numAt l (dr + 16) 4) (numAt l (dr + 20) 4) (numAt l (dr + 24) 4) (numAt l (dr + 28) 4) (numAt l (dr + 32) 4) (numAt l (dr + 36) 4) := by
          unfold parseX1
          rw [hin, if_pos ⟨by omega, rfl⟩]
        rw [hpx]
        have HI2 : Hid (∀ (k : Int) (w : World), Calls Tryd.prog 44 #[.string (S l), .int .i64 k, .int .i64 2] w fun e w' => e = .returned (.int .i64 (numAt l k 2)) ∧ w = w') := hid (fun k w => ref_Int l k 2 w (by omega) (by omega))
        have HI : Hid (∀ (k : Int) (w : World), Calls Tryd.prog 44 #[.string (S l), .int .i64 k, .int .i64 4] w fun e w' => e = .returned (.int .i64 (numAt l k 4)) ∧ w = w') := hid (fun k w => ref_Int l k 4 w (by omega) (by omega))
        obtain ⟨xb, hxb⟩ : ∃ x, numAt l (dr + 16) 4 = x := ⟨_, rfl⟩
        obtain ⟨xf, hxf⟩ : ∃ x, numAt l (dr + 20) 4 = x := ⟨_, rfl⟩
        obtain ⟨xn, hxn⟩ : ∃ x, numAt l (dr + 24) 4 = x := ⟨_, rfl⟩
        obtain ⟨xa, hxa⟩ : ∃ x, numAt l (dr + 28) 4 = x := ⟨_, rfl⟩
        obtain ⟨xt, hxt⟩ : ∃ x, numAt l (dr + 32) 4 = x := ⟨_, rfl⟩
        obtain ⟨xi, hxi⟩ : ∃ x, numAt l (dr + 36) 4 = x := ⟨_, rfl⟩
        have nb : xb < 4294967296 := hxb ▸ numAt_lt l _ 4
        have nf : xf < 4294967296 := hxf ▸ numAt_lt l _ 4
        have nn : xn < 4294967296 := hxn ▸ numAt_lt l _ 4
        have na : xa < 4294967296 := hxa ▸ numAt_lt l _ 4
        have nt : xt < 4294967296 := hxt ▸ numAt_lt l _ 4
        have ni : xi < 4294967296 := hxi ▸ numAt_lt l _ 4
        rw [hxb, hxf, hxn, hxa, hxt, hxi]
        have I16 := HI.out (dr + 16)
        have I20 := HI.out (dr + 20)
        have I24 := HI.out (dr + 24)
        have I28 := HI.out (dr + 28)
        have I32 := HI.out (dr + 32)
        have I36 := HI.out (dr + 36)
        rw [hxb] at I16
        rw [hxf] at I20
        rw [hxn] at I24
        rw [hxa] at I28
        rw [hxt] at I32
        rw [hxi] at I36
        have H16 := hid I16
        have H20 := hid I20
        have H24 := hid I24
        have H28 := hid I28
        have H32 := hid I32
        have H36 := hid I36
        clear I16 I20 I24 I28 I32 I36 hpx hin hxb hxf hxn hxa hxt hxi
        have hdd : decide (ds < 40) = false := decide_eq_false hds
        have k16 : IntKind.i64.wrap (dr + 16) = dr + 16 := IntWalk.i64_in _ (by omega)
        have k20 : IntKind.i64.wrap (dr + 20) = dr + 20 := IntWalk.i64_in _ (by omega)
        have k24 : IntKind.i64.wrap (dr + 24) = dr + 24 := IntWalk.i64_in _ (by omega)
        have k28 : IntKind.i64.wrap (dr + 28) = dr + 28 := IntWalk.i64_in _ (by omega)
        have k32 : IntKind.i64.wrap (dr + 32) = dr + 32 := IntWalk.i64_in _ (by omega)
        have k36 : IntKind.i64.wrap (dr + 36) = dr + 36 := IntWalk.i64_in _ (by omega)
        go_enter Tryd.func25, Tryd.ntmps25
        go_wp2_with fail
        refine (HIN.out _).mono ?_
        rintro e w' ⟨rfl, rfl⟩
        go_wp2_with fail
        refine (H16.out _).mono ?_
        rintro e w' ⟨rfl, rfl⟩
        clear hw3 hx1 hx2 hx3 hg1 hg2 hg3 c1_0 c1_1 c2_0 c2_1 c2_2 c3_0 c3_1 c3_2 f1_0 f1_1 f2_0 f2_1 f2_2 f3_0 f3_1 f3_2
        obtain ⟨g4, hg4⟩ : ∃ g, w3.heap.size = g := ⟨_, rfl⟩
        obtain ⟨x4, hx4⟩ : ∃ zz, w3.alloc (.cells #[(.int .i64 0), (.slice none 0 0), (.slice none 0 0)] 47) = zz := ⟨_, rfl⟩
        have b4 : Blk x4 w3.heap.size #[(.int .i64 0), (.slice none 0 0), (.slice none 0 0)] 47 := hx4 ▸ Blk.new _ _ _
        have V4 : Hid (Below w3.heap.size w3 x4) := hid (hx4 ▸ up_alloc (up_refl _) _)
        have N4 : Hid (Below w.heap.size w x4) := hid (up_trans U3.out V4.out)
        have G4 : Hid (w.heap.size ≤ g4) := hid (by rw [← hg4]; exact U3.out.size)
        rw [hg4] at b4
        have l4 : g4 < x4.heap.size := b4.lt
        have c4_0 : x4.cell? ⟨g4, 0, none⟩ = some (.int .i64 0) := b4.cell 0
        have f4_0 : x4.frozen? ⟨g4, 0, none⟩ = false := b4.free 0
        have c4_1 : x4.cell? ⟨g4, 1, none⟩ = some (.slice none 0 0) := b4.cell 1
        have f4_1 : x4.frozen? ⟨g4, 1, none⟩ = false := b4.free 1
        have c4_2 : x4.cell? ⟨g4, 2, none⟩ = some (.slice none 0 0) := b4.cell 2
        have f4_2 : x4.frozen? ⟨g4, 2, none⟩ = false := b4.free 2
        have B4 := hid b4
        clear b4
        obtain ⟨w5, hw5⟩ : ∃ zz, ((x4.setCell ⟨g4, 0, none⟩ (.int .i64 xb)).setCell ⟨g4, 1, none⟩ (.slice none 0 0)).setCell ⟨g4, 2, none⟩ (.slice none 0 0) = zz := ⟨_, rfl⟩
        have V5 : Hid (Below w3.heap.size w3 w5) := hid (hw5 ▸ ((V4.out.setCell (p := ⟨g4, 0, none⟩) (by rw [hg4]; exact Nat.le_refl _) _).setCell (p := ⟨g4, 1, none⟩) (by rw [hg4]; exact Nat.le_refl _) _).setCell (p := ⟨g4, 2, none⟩) (by rw [hg4]; exact Nat.le_refl _) _)
        have U5 := hid (up_trans U3.out V5.out)
        have X5 := hid (X3.out.below V5.out)
        have E5 : Hid (Blk w5 g4 #[.int .i64 xb, .slice none 0 0, .slice none 0 0] 47) := hid (hw5 ▸ B4.out.set3)
        have n41 : g4 ≠ g1 := by have := X3.out.d.lt; omega
        have n42 : g4 ≠ g2 := by have := X3.out.a.lt; omega
        have n43 : g4 ≠ g3 := by have := X3.out.z.lt; omega
        have HG4 : Hid (w.heap.size ≤ g4) := G4
        obtain ⟨NB, hNB⟩ : ∃ n, w5.heap.size = n := ⟨_, rfl⟩
        have HNB := hid hNB
        have l1 : g1 < NB := by have := X5.out.d.lt; omega
        have l2 : g2 < NB := by have := X5.out.a.lt; omega
        have l3 : g3 < NB := by have := X5.out.z.lt; omega
        have l4b : g4 < NB := by have := E5.out.lt; omega
        clear hNB B4 V4 N4 G4 X3 d0 d1 z0 z1 z2 a0 a1 a2 f0 f1 f2
        obtain ⟨d0, d1, z0, z1, z2, a0, a1, a2, f0, f1, f2⟩ := X5.out.facts
        have b5 := E5.out
        have c5_0 : w5.cell? ⟨g4, 0, none⟩ = some (.int .i64 xb) := b5.cell 0
        have f5_0 : w5.frozen? ⟨g4, 0, none⟩ = false := b5.free 0
        have c5_1 : w5.cell? ⟨g4, 1, none⟩ = some (.slice none 0 0) := b5.cell 1
        have f5_1 : w5.frozen? ⟨g4, 1, none⟩ = false := b5.free 1
        have c5_2 : w5.cell? ⟨g4, 2, none⟩ = some (.slice none 0 0) := b5.cell 2
        have f5_2 : w5.frozen? ⟨g4, 2, none⟩ = false := b5.free 2
        clear b5
        go_wp2_with fail
        clear hw5 hx4 hg4 c4_0 c4_1 c4_2 f4_0 f4_1 f4_2
        go_quiet ((go_at_call 44; (first | with_reducible exact quiet_l (H20.out _) | with_reducible exact quiet_l (H24.out _))))
        go_wp2_with fail
        obtain ⟨w6, hw6⟩ : ∃ zz, w5.drewN nq = zz := ⟨_, rfl⟩
        have V6 : Hid (Below w5.heap.size w5 w6) := hid (hw6 ▸ up_drewN (up_refl _) _)
        have U6 := hid (up_trans U5.out V6.out)
        have X6 := hid (X5.out.below V6.out)
        have E6 := hid (E5.out.below V6.out)
        have S6 : Hid (NB ≤ w6.heap.size) := hid (by rw [← HNB.out]; exact V6.out.size)
        rw [hw6]
        clear hw6 d0 d1 z0 z1 z2 a0 a1 a2 f0 f1 f2 c5_0 c5_1 c5_2 f5_0 f5_1 f5_2
        obtain ⟨d0, d1, z0, z1, z2, a0, a1, a2, f0, f1, f2⟩ := X6.out.facts
        have b6 := E6.out
        have c6_0 : w6.cell? ⟨g4, 0, none⟩ = some (.int .i64 xb) := b6.cell 0
        have f6_0 : w6.frozen? ⟨g4, 0, none⟩ = false := b6.free 0
        have c6_1 : w6.cell? ⟨g4, 1, none⟩ = some (.slice none 0 0) := b6.cell 1
        have f6_1 : w6.frozen? ⟨g4, 1, none⟩ = false := b6.free 1
        have c6_2 : w6.cell? ⟨g4, 2, none⟩ = some (.slice none 0 0) := b6.cell 2
        have f6_2 : w6.frozen? ⟨g4, 2, none⟩ = false := b6.free 2
        clear b6
        go_quiet ((go_at_call 44; (first | with_reducible exact quiet_l (H28.out _) | with_reducible exact quiet_l (H32.out _) | with_reducible exact quiet_l (H36.out _))))
        obtain ⟨w7, hw7⟩ : ∃ zz, w6.drewN nq = zz := ⟨_, rfl⟩
        have V7 : Hid (Below w6.heap.size w6 w7) := hid (hw7 ▸ up_drewN (up_refl _) _)
        have U7 := hid (up_trans U6.out V7.out)
        have X7 := hid (X6.out.below V7.out)
        have E7 := hid (E6.out.below V7.out)
        have S7 : Hid (NB ≤ w7.heap.size) := hid (by have := S6.out; have := V7.out.size; omega)
        rw [hw7]
        clear hw7 d0 d1 z0 z1 z2 a0 a1 a2 f0 f1 f2 c6_0 c6_1 c6_2 f6_0 f6_1 f6_2 X5 X6 E5 E6 U5 U6 V5 V6 V7
        obtain ⟨d0, d1, z0, z1, z2, a0, a1, a2, f0, f1, f2⟩ := X7.out.facts
        have b7 := E7.out
        have c7_0 : w7.cell? ⟨g4, 0, none⟩ = some (.int .i64 xb) := b7.cell 0
        have f7_0 : w7.frozen? ⟨g4, 0, none⟩ = false := b7.free 0
        have c7_1 : w7.cell? ⟨g4, 1, none⟩ = some (.slice none 0 0) := b7.cell 1
        have f7_1 : w7.frozen? ⟨g4, 1, none⟩ = false := b7.free 1
        have c7_2 : w7.cell? ⟨g4, 2, none⟩ = some (.slice none 0 0) := b7.cell 2
        have f7_2 : w7.frozen? ⟨g4, 2, none⟩ = false := b7.free 2
        clear b7
        obtain ⟨bad, hbad⟩ : ∃ b, numsBad l xb xf xn xa xt xi = b := ⟨_, rfl⟩
        have HBAD := hid hbad
        clear hbad
        go_upto_region 9 with fail
        go_cut [125] (fun u wb => u = .bool bad ∧ w7 = wb)
        case first => as_aux_lemma =>
          have hnb := HBAD.out
          unfold numsBad at hnb
          by_cases k1 : 65535 < xb ∨ 256 < xf ∨ 256 < xn ∨ 65536 < xb + xf
          · rw [decide_eq_true k1, Bool.true_or] at hnb
            subst hnb
            have k2 : 65535 < xb ∨ (¬ 65535 < xb ∧ 256 < xf) ∨ (¬ 65535 < xb ∧ ¬ 256 < xf ∧ 256 < xn) ∨ (¬ 65535 < xb ∧ ¬ 256 < xf ∧ ¬ 256 < xn ∧ 65536 < xb + xf) := by omega
            clear k1
            rcases k2 with k2 | ⟨k2, k3⟩ | ⟨k2, k3, k4⟩ | ⟨k2, k3, k4, k5⟩
            all_goals
              go_wp2_with fail
              go_meet
              exact ⟨rfl, rfl⟩
          · rw [decide_eq_false k1, Bool.false_or] at hnb
            have k2 : ¬ 65535 < xb ∧ ¬ 256 < xf ∧ ¬ 256 < xn ∧ ¬ 65536 < xb + xf := by omega
            obtain ⟨k3, k4, k5, k6⟩ := k2
            clear k1
            have d3 : decide (65535 < (xb : Int)) = false := decide_eq_false (by omega)
            have d4 : decide (256 < (xf : Int)) = false := decide_eq_false (by omega)
            have d5 : decide (256 < (xn : Int)) = false := decide_eq_false (by omega)
            have d6 : decide (65536 < (xb : Int) + (xf : Int)) = false := decide_eq_false (by omega)
            have R1 : Hid (∀ w, Calls Tryd.prog 42 #[.int .i64 l.length, .int .i64 xa, .int .i64 (4 * (xf : Int))] w fun e w' => e = .returned (.bool (inB l.length xa (4 * (xf : Int)))) ∧ w = w') := hid (fun w => ref_In _ _ _ w (by omega) (by omega))
            have R2 : Hid (∀ w, Calls Tryd.prog 42 #[.int .i64 l.length, .int .i64 xt, .int .i64 (4 * (xn : Int))] w fun e w' => e = .returned (.bool (inB l.length xt (4 * (xn : Int)))) ∧ w = w') := hid (fun w => ref_In _ _ _ w (by omega) (by omega))
            have R3 : Hid (∀ w, Calls Tryd.prog 42 #[.int .i64 l.length, .int .i64 xi, .int .i64 (2 * (xn : Int))] w fun e w' => e = .returned (.bool (inB l.length xi (2 * (xn : Int)))) ∧ w = w') := hid (fun w => ref_In _ _ _ w (by omega) (by omega))
            obtain ⟨r1, hr1⟩ : ∃ r1, rowB l xa xf 4 = r1 := ⟨_, rfl⟩
            obtain ⟨r2, hr2⟩ : ∃ r2, rowB l xt xn 4 = r2 := ⟨_, rfl⟩
            obtain ⟨r3, hr3⟩ : ∃ r3, rowB l xi xn 2 = r3 := ⟨_, rfl⟩
            rw [hr1, hr2, hr3] at hnb
            have HNX := hid hnb
            clear hnb HBAD
            rcases Nat.eq_zero_or_pos xf with hf | hf
            · have hfd : decide ((0 : Int) < (xf : Int)) = false := decide_eq_false (by omega)
              have hfe : decide (0 < xf) = false := decide_eq_false (by omega)
              obtain rfl : true = r1 := by rw [← hr1, hf, rowB_zero]
              clear hf hr1 R1
              rcases Nat.eq_zero_or_pos xn with hn | hn
              · have hnd : decide ((0 : Int) < (xn : Int)) = false := decide_eq_false (by omega)
                have hne : decide (0 < xn) = false := decide_eq_false (by omega)
                obtain rfl : true = r2 := by rw [← hr2, hn, rowB_zero]
                obtain rfl : true = r3 := by rw [← hr3, hn, rowB_zero]
                obtain rfl : false = bad := HNX.out
                clear hn hr2 hr3 R2 R3
                go_wp2_with fail
                go_meet
                exact ⟨rfl, rfl⟩
              · rw [rowB_pos _ _ _ _ hn] at hr2 hr3
                have R2' : Hid _ := R2
                rw [show inB l.length xt (4 * (xn : Int)) = r2 from hr2] at R2
                rw [show inB l.length xi (2 * (xn : Int)) = r3 from hr3] at R3
                clear hr2 hr3 R2'
                cases r2
                · obtain rfl : true = bad := HNX.out
                  go_wp2_with fail
                  refine (R2.out _).mono ?_
                  rintro e w' ⟨rfl, rfl⟩
                  go_wp2_with fail
                  go_meet
                  exact ⟨rfl, rfl⟩
                · cases r3
                  all_goals
                    have hbb := HNX.out
                    clear HNX
                    subst hbb
                    go_wp2_with fail
                    refine (R2.out _).mono ?_
                    rintro e w' ⟨rfl, rfl⟩
                    go_wp2_with fail
                    refine (R3.out _).mono ?_
                    rintro e w' ⟨rfl, rfl⟩
                    go_wp2_with fail
                    go_meet
                    exact ⟨rfl, rfl⟩
            · rw [rowB_pos _ _ _ _ hf] at hr1
              rw [show inB l.length xa (4 * (xf : Int)) = r1 from hr1] at R1
              clear hr1
              cases r1
              · obtain rfl : true = bad := HNX.out
                go_wp2_with fail
                refine (R1.out _).mono ?_
                rintro e w' ⟨rfl, rfl⟩
                go_wp2_with fail
                go_meet
                exact ⟨rfl, rfl⟩
              · rcases Nat.eq_zero_or_pos xn with hn | hn
                · have hnd : decide ((0 : Int) < (xn : Int)) = false := decide_eq_false (by omega)
                  have hne : decide (0 < xn) = false := decide_eq_false (by omega)
                  obtain rfl : true = r2 := by rw [← hr2, hn, rowB_zero]
                  obtain rfl : true = r3 := by rw [← hr3, hn, rowB_zero]
                  obtain rfl : false = bad := HNX.out
                  clear hn hr2 hr3 R2 R3
                  go_wp2_with fail
                  refine (R1.out _).mono ?_
                  rintro e w' ⟨rfl, rfl⟩
                  go_wp2_with fail
                  go_meet
                  exact ⟨rfl, rfl⟩
                · rw [rowB_pos _ _ _ _ hn] at hr2 hr3
                  rw [show inB l.length xt (4 * (xn : Int)) = r2 from hr2] at R2
                  rw [show inB l.length xi (2 * (xn : Int)) = r3 from hr3] at R3
                  clear hr2 hr3
                  cases r2
                  · obtain rfl : true = bad := HNX.out
                    go_wp2_with fail
                    refine (R1.out _).mono ?_
                    rintro e w' ⟨rfl, rfl⟩
                    go_wp2_with fail
                    refine (R2.out _).mono ?_
                    rintro e w' ⟨rfl, rfl⟩
                    go_wp2_with fail
                    go_meet
                    exact ⟨rfl, rfl⟩
                  · cases r3
                    all_goals
                      have hbb := HNX.out
                      clear HNX
                      subst hbb
                      go_wp2_with fail
                      refine (R1.out _).mono ?_
                      rintro e w' ⟨rfl, rfl⟩
                      go_wp2_with fail
                      refine (R2.out _).mono ?_
                      rintro e w' ⟨rfl, rfl⟩
                      go_wp2_with fail
                      refine (R3.out _).mono ?_
                      rintro e w' ⟨rfl, rfl⟩
                      go_wp2_with fail
                      go_meet
                      exact ⟨rfl, rfl⟩
        case rest =>
          obtain ⟨rfl, rfl⟩ := hcut
          cases bad
          case true =>
            have HPX := hid (parseX2_bad (dr := dr) (ds := ds) HBAD.out)
            go_wp2_with fail
            exact bodyPost_ret (v := .tuple #[.agg exZ, .int .i64 11]) (results_ct' Tryd.results25 _ _ g2 47 exZ _ (by rfl) X7.out.a.set3 Tryd.underlying47 (by rfl) expsInfo) rfl (rx_bad X7.out U7.out GE.out HPX.out)
          case false =>
            obtain ⟨b1, b2, b3, hpx⟩ := parseX2_good (dr := dr) (ds := ds) HBAD.out
            have HPX := hid hpx
            clear hpx HBAD
            go_wp2_with fail
            clear d0 d1 z0 z1 z2 a0 a1 a2 f0 f1 f2 c7_0 c7_1 c7_2 f7_0 f7_1 f7_2
            go_loopg [13] xf (fun k i wr => ∃ (j : Nat) (fv : Value), i = .int .i64 j ∧ j + k = xf ∧ RX wr g1 g2 g3 dr ds ∧ Blk wr g4 #[.int .i64 xb, fv, .slice none 0 0] 47 ∧
              wr.ownsRow NB 52 2 fv j (fcells (fnVs l dr ds xa j)) ∧ Below w.heap.size w wr ∧ NB ≤ wr.heap.size ∧ Hid (fnBads l dr ds xa j = false))
            case atStart => exact ⟨0, _, rfl, by omega, X7.out, E7.out, World.ownsRow_nil _ _ _ _, U7.out, S7.out, rfl⟩
            case round =>
              obtain ⟨j, fv, rfl, hj, hX, hE, hF, hU, hNs, HNB0⟩ := hrel
              have XR := hid hX
              have ER := hid hE
              have FR := hid hF
              have UR := hid hU
              obtain ⟨d0, d1, z0, z1, z2, a0, a1, a2, f0, f1, f2⟩ := hX.facts
              rcases gk with _ | k
              · have hjn : ((j : Int) < (xf : Int)) = False := by simp; omega
                obtain rfl : j = xf := by omega
                clear hX hE hF hU
                obtain ⟨FA, fc, rfl, -, -⟩ := own_row FR.out
                have b8 := ER.out
                have c8_0 : wr.cell? ⟨g4, 0, none⟩ = some (.int .i64 xb) := b8.cell 0
                have f8_0 : wr.frozen? ⟨g4, 0, none⟩ = false := b8.free 0
                have c8_1 : wr.cell? ⟨g4, 1, none⟩ = some (.slice FA j fc) := b8.cell 1
                have f8_1 : wr.frozen? ⟨g4, 1, none⟩ = false := b8.free 1
                have c8_2 : wr.cell? ⟨g4, 2, none⟩ = some (.slice none 0 0) := b8.cell 2
                have f8_2 : wr.frozen? ⟨g4, 2, none⟩ = false := b8.free 2
                clear b8
                go_wp2_with fail
                clear c8_0 c8_1 c8_2 f8_0 f8_1 f8_2 d0 d1 z0 z1 z2 a0 a1 a2 f0 f1 f2
                obtain ⟨wA, rfl⟩ : ∃ x, x = wr := ⟨_, rfl⟩
                go_loopg [19] xn (fun k i wx => ∃ (q : Nat) (nv : Value), i = .int .i64 q ∧ q + k = xn ∧ RX wx g1 g2 g3 dr ds ∧ Blk wx g4 #[.int .i64 xb, .slice FA j fc, nv] 47 ∧
                  wx.ownsRow NB 52 2 (.slice FA j fc) j (fcells (fnVs l dr ds xa j)) ∧ wx.ownsRow NB 57 2 nv q (ncells (nmVs l xt xi q)) ∧ Below w.heap.size w wx ∧ NB ≤ wx.heap.size ∧ Hid (nmBads l xt xi j q = false))
                case atStart => exact ⟨0, _, rfl, by omega, XR.out, ER.out, FR.out, World.ownsRow_nil _ _ _ _, UR.out, hNs, rfl⟩
                case round =>
                  obtain ⟨q, nv, rfl, hq, hX, hE, hF, hN, hU, hNs, HQ0⟩ := hrel
                  have XR := hid hX
                  have ER := hid hE
                  have FR := hid hF
                  have NR := hid hN
                  have UR := hid hU
                  obtain ⟨NA, nc, rfl, -, -⟩ := own_row hN
                  obtain ⟨d0, d1, z0, z1, z2, a0, a1, a2, f0, f1, f2⟩ := hX.facts
                  have b16 := ER.out
                  have c16_0 : wr.cell? ⟨g4, 0, none⟩ = some (.int .i64 xb) := b16.cell 0
                  have f16_0 : wr.frozen? ⟨g4, 0, none⟩ = false := b16.free 0
                  have c16_1 : wr.cell? ⟨g4, 1, none⟩ = some (.slice FA j fc) := b16.cell 1
                  have f16_1 : wr.frozen? ⟨g4, 1, none⟩ = false := b16.free 1
                  have c16_2 : wr.cell? ⟨g4, 2, none⟩ = some (.slice NA q nc) := b16.cell 2
                  have f16_2 : wr.frozen? ⟨g4, 2, none⟩ = false := b16.free 2
                  clear b16
                  clear hX hE hF hN hU
                  rcases gk with _ | k
                  · have hqn : ((q : Int) < (xn : Int)) = False := by simp; omega
                    obtain rfl : q = xn := by omega
                    have hpr : parseX2 l dr ds xb j q xa xt xi = some ⟨xb, fnVs l dr ds xa j, nmVs l xt xi q⟩ := by rw [HPX.out, if_pos ⟨HNB0.out, HQ0.out⟩]
                    have hgw : w.heap.size ≤ NB := by have := HG4.out; omega
                    have HRES : Hid (ExpsRes (parseX2 l dr ds xb j q xa xt xi) w.heap.size (.returned (.tuple #[.agg #[.int .i64 xb, .slice FA j fc, .slice NA q nc], .int .i64 0])) (((wr.setCell ⟨g2, 0, none⟩ (.int .i64 xb)).setCell ⟨g2, 1, none⟩ (.slice FA j fc)).setCell ⟨g2, 2, none⟩ (.slice NA q nc)) ∧
                        Below w.heap.size w (((wr.setCell ⟨g2, 0, none⟩ (.int .i64 xb)).setCell ⟨g2, 1, none⟩ (.slice FA j fc)).setCell ⟨g2, 2, none⟩ (.slice NA q nc))) := hid (by
                      rw [hpr]
                      refine ⟨⟨_, _, rfl, ?_, ?_⟩, ((UR.out.setCell GE.out _).setCell GE.out _).setCell GE.out _⟩
                      · rw [fnVs_length]
                        exact own_mono (own_set (own_set (own_set FR.out (p := ⟨g2, 0, none⟩) l2 _) (p := ⟨g2, 1, none⟩) l2 _) (p := ⟨g2, 2, none⟩) l2 _) hgw
                      · rw [nmVs_length]
                        exact own_mono (own_set (own_set (own_set NR.out (p := ⟨g2, 0, none⟩) l2 _) (p := ⟨g2, 1, none⟩) l2 _) (p := ⟨g2, 2, none⟩) l2 _) hgw)
                    clear hpr
                    go_wp2_with fail
                    exact bodyPost_ret (v := .tuple #[.agg #[.int .i64 xb, .slice FA j fc, .slice NA q nc], .int .i64 0]) (results_ct' Tryd.results25 _ _ g2 47 #[.int .i64 xb, .slice FA j fc, .slice NA q nc] _ (by rfl) XR.out.a.set3 Tryd.underlying47 (by rfl) expsInfo) rfl HRES.out
                  · have hqn : ((q : Int) < (xn : Int)) = True := by simp; omega
                    have hq256 : q < 256 := by omega
                    have I4 := HI.out ((xt : Int) + 4 * (q : Int))
                    have I2 := HI2.out ((xi : Int) + 2 * (q : Int))
                    have hv : nmVs l xt xi (q + 1) = nmVs l xt xi q ++ [nmV l xt xi q] := rfl
                    have hbd : nmBads l xt xi j (q + 1) = (nmBads l xt xi j q || nmBad l xt xi j q) := rfl
                    have hbm := nmBads_mem l xt xi j (q + (k + 1)) q (by omega)
                    rw [hq] at hbm
                    have HT : Hid (∀ w, Calls Tryd.prog 45 #[.string (S l), .int .i64 (numAt l ((xt : Int) + 4 * (q : Int)) 4), .int .i64 64] w fun e w' => e = .returned (.tuple #[.string (S ((nmT l xt q).getD [])), .bool (nmT l xt q).isSome]) ∧ w = w') := hid (fun w => ref_Text l (numAt l ((xt : Int) + 4 * (q : Int)) 4) 64 w hm (by omega) (by omega))
                    have htl := textF_most l (numAt l ((xt : Int) + 4 * (q : Int)) 4) 64
                    have hnv : nmV l xt xi q = ⟨(nmT l xt q).getD [], numAt l ((xi : Int) + 2 * (q : Int)) 2⟩ := rfl
                    have hnb : nmBad l xt xi j q = (!(nmT l xt q).isSome || !symOkF ((nmT l xt q).getD []) || leS ((nmT l xt q).getD []) (nmLast l xt q) || decide (j ≤ numAt l ((xi : Int) + 2 * (q : Int)) 2)) := rfl
                    have ha4 : numAt l ((xt : Int) + 4 * (q : Int)) 4 < 4294967296 := numAt_lt l _ 4
                    have ha2 : numAt l ((xi : Int) + 2 * (q : Int)) 2 < 65536 := numAt_lt l _ 2
                    rw [hnv] at hv
                    rw [show textF l (numAt l ((xt : Int) + 4 * (q : Int)) 4) 64 = nmT l xt q from rfl] at htl
                    obtain ⟨a4, ha⟩ : ∃ x, numAt l ((xt : Int) + 4 * (q : Int)) 4 = x := ⟨_, rfl⟩
                    obtain ⟨a2', hb⟩ : ∃ x, numAt l ((xi : Int) + 2 * (q : Int)) 2 = x := ⟨_, rfl⟩
                    obtain ⟨s, hs⟩ : ∃ x, (nmT l xt q).getD [] = x := ⟨_, rfl⟩
                    obtain ⟨ok, hok⟩ : ∃ x, (nmT l xt q).isSome = x := ⟨_, rfl⟩
                    rw [ha] at I4 HT ha4
                    rw [hb] at I2 hv hnb ha2
                    rw [hs] at HT hv hnb htl
                    rw [hok] at HT hnb
                    have HIA := hid I4
                    have HIB := hid I2
                    have HV := hid hv
                    have HBD := hid hbd
                    have HBM := hid hbm
                    obtain ⟨b3, hb3⟩ : ∃ b, (!ok || !symOkF s || leS s (nmLast l xt q)) = b := ⟨_, rfl⟩
                    rw [hb3] at hnb
                    have HNB3 := hid hnb
                    have HB3 := hid hb3
                    have HSY := hid (fun w => ref_SymOk s w (by omega))
                    have hS1 := S_toList s
                    have HLAST : Hid (∀ p, q = p + 1 → ∃ ad, NA = some ad ∧ wr.cell? (ad.add (p * 2)) = some (.string (S (nmLast l xt q)))) := hid (fun p hp => by
                      subst hp
                      have hget : (nmVs l xt xi (p + 1))[p]? = some (nmV l xt xi p) := by
                        rw [nmVs, List.getElem?_append_right (by rw [nmVs_length]; exact Nat.le_refl _), nmVs_length]
                        simp
                      obtain ⟨A', c', e', -, hr⟩ := own_row NR.out
                      simp only [Value.slice.injEq, true_and] at e'
                      obtain ⟨rfl, rfl⟩ := e'
                      obtain ⟨ad, e, -, h0, -⟩ := hr.elem (fun x : NamedD => [.string (S x.name), .int .i64 x.index]) 2 (by decide) (fun _ => rfl) hget
                      exact ⟨ad, e, h0⟩)
                    clear ha hb hs hok I4 I2 hv hbd hbm hnv hnb hb3 htl
                    go_upto_region 30 with (first | ((with_reducible refine (HIA.out _).mono ?_); rintro e w' ⟨rfl, rfl⟩) | ((with_reducible refine (HT.out _).mono ?_); rintro e w' ⟨rfl, rfl⟩))
                    go_cut [223] (fun u wb => u = .bool b3 ∧ wr = wb)
                    case first => as_aux_lemma =>
                      cases ok
                      case false =>
                        obtain rfl : true = b3 := HB3.out
                        go_wp2_with fail
                        go_meet
                        exact ⟨rfl, rfl⟩
                      case true =>
                        cases hsy : symOkF s with
                        | false =>
                          rw [hsy] at HSY
                          obtain rfl : true = b3 := by have := HB3.out; rw [hsy] at this; exact this
                          clear hsy
                          go_wp2_with fail
                          refine (HSY.out _).mono ?_
                          rintro e w' ⟨rfl, rfl⟩
                          go_wp2_with fail
                          go_meet
                          exact ⟨rfl, rfl⟩
                        | true =>
                          rw [hsy] at HSY
                          have hb3 := HB3.out
                          rw [hsy] at hb3
                          have hb4 : leS s (nmLast l xt q) = b3 := hb3
                          have hsn : s ≠ [] := by
                            rintro rfl
                            revert hsy
                            decide
                          have HSN := hid hsn
                          rcases q with _ | p
                          · have hle : leS s [] = false := by
                              have h1 : (s == []) = false := by simpa using hsn
                              unfold leS
                              rw [h1]
                              cases s <;> rfl
                            obtain rfl : false = b3 := by rw [← hb4]; exact hle.symm
                            have hz1 : decide ((0 : Int) < ((0 : Nat) : Int)) = false := by decide
                            clear hsy hb3 hb4 hsn hle HB3
                            go_wp2_with fail
                            refine (HSY.out _).mono ?_
                            rintro e w' ⟨rfl, rfl⟩
                            go_wp2_with fail
                            go_meet
                            exact ⟨rfl, rfl⟩
                          · obtain ⟨ad, rfl, hlast⟩ := HLAST.out p rfl
                            obtain ⟨ls, hls⟩ : ∃ x, nmLast l xt (p + 1) = x := ⟨_, rfl⟩
                            rw [hls] at hlast hb4
                            have hcmp : (!Op.bytesLess ls s) = b3 := by rw [less_tri, ← hb4]; rfl
                            have hcm2 : Op.bytesLess ls s = !b3 := by rw [← hcmp, Bool.not_not]
                            have hS2 := S_toList ls
                            clear hsy hb3 hb4 hsn hls HB3 hcmp
                            go_wp2_with fail
                            refine (HSY.out _).mono ?_
                            rintro e w' ⟨rfl, rfl⟩
                            cases b3
                            all_goals
                              go_wp2_with fail
                              go_meet
                              exact ⟨rfl, rfl⟩
                    case rest => as_aux_lemma =>
                      obtain ⟨rfl, rfl⟩ := hcut
                      clear HB3 HLAST HSY
                      cases b3
                      case true =>
                        have HPN : Hid (parseX2 l dr ds xb j xn xa xt xi = none) := hid (by
                          rw [HPX.out, HBM.out (by rw [HNB3.out]; rfl), if_neg (by simp)])
                        go_wp2_with fail
                        exact bodyPost_ret (v := .tuple #[.agg exZ, .int .i64 11]) (results_ct' Tryd.results25 _ _ g2 47 exZ _ (by rfl) XR.out.a.set3 Tryd.underlying47 (by rfl) expsInfo) rfl (rx_bad XR.out UR.out GE.out HPN.out)
                      case false =>
                        by_cases hbig : j ≤ a2'
                        · have HPN : Hid (parseX2 l dr ds xb j xn xa xt xi = none) := hid (by
                            rw [HPX.out, HBM.out (by rw [HNB3.out, decide_eq_true hbig]; rfl), if_neg (by simp)])
                          go_wp2_with fail
                          refine (HIB.out _).mono ?_
                          rintro e w' ⟨rfl, rfl⟩
                          go_wp2_with fail
                          exact bodyPost_ret (v := .tuple #[.agg exZ, .int .i64 11]) (results_ct' Tryd.results25 _ _ g2 47 exZ _ (by rfl) XR.out.a.set3 Tryd.underlying47 (by rfl) expsInfo) rfl (rx_bad XR.out UR.out GE.out HPN.out)
                        · have HB0 : Hid (nmBad l xt xi j q = false) := hid (by rw [HNB3.out, decide_eq_false hbig]; rfl)
                          clear HNB3
                          go_wp2_with fail
                          refine (HIB.out _).mono ?_
                          rintro e w' ⟨rfl, rfl⟩
                          go_wp2_with (at_builtin; refine wp_app' wr (o := ⟨some 241, _, _, _, _, _⟩) rfl _ _ 45 rfl NB 57 (.agg #[.string ⟨#[]⟩, .int .i64 0]) 2 24 Tryd.underlying45 infoNamed rfl (by decide) (.slice NA q nc) q (ncells (nmVs l xt xi q)) (by rfl) NR.out [.string (S s), .int .i64 a2'] rfl (by simp [Value.oneCell']) wr.heap.size (by rfl) rfl (by omega) (by omega) hNs ?_; intro v1 w15 hown1 hbel1 hgr1; obtain ⟨NA1, nc1, rfl, -, -⟩ := own_row hown1; obtain ⟨p1, p2, p3, p4, p5, p6, p7⟩ := rx_step l1 l2 l3 l4b n41 n42 n43 HG4.out hNs XR.out ER.out NR.out UR.out hgr1 hown1 2; have P2 := hid p2; have P3 := hid p3; have P4 := hid p4; have P5 := hid p5; have P6 := hid p6; have PF := hid (rx_keep (v1 := .slice NA1 (q + 1) nc1) l4b NR.out FR.out (by decide) hgr1 2); have q1 := p1.cell 2; have q2 := p1.free 2; simp only [List.getElem?_toArray, List.getElem?_cons_succ, List.getElem?_cons_zero] at q1; clear p1 p2 p3 p4 p5 p6 p7 hown1 hbel1 hgr1)
                          go_roundg k
                          case measure => omega
                          case rel => exact ⟨q + 1, _, by go_num, by omega, P2.out, P3.out, PF.out, by rw [HV.out, ncells_snoc]; exact P4.out, P5.out, P6.out, hid (by rw [HBD.out, HQ0.out, HB0.out]; rfl)⟩
              · have hjn : ((j : Int) < (xf : Int)) = True := by simp; omega
                have hj256 : j < 256 := by omega
                have I4 := HI.out ((xa : Int) + 4 * (j : Int))
                have ha4 : numAt l ((xa : Int) + 4 * (j : Int)) 4 < 4294967296 := numAt_lt l _ 4
                have hv : fnVs l dr ds xa (j + 1) = fnVs l dr ds xa j ++ [fnV l dr ds (numAt l ((xa : Int) + 4 * (j : Int)) 4)] := rfl
                have hbd : fnBads l dr ds xa (j + 1) = (fnBads l dr ds xa j || fnBad l dr ds (numAt l ((xa : Int) + 4 * (j : Int)) 4)) := rfl
                have hbm := fnBads_mem l dr ds xa (j + (k + 1)) j (by omega)
                rw [hj] at hbm
                obtain ⟨a4, ha⟩ : ∃ x, numAt l ((xa : Int) + 4 * (j : Int)) 4 = x := ⟨_, rfl⟩
                rw [ha] at ha4 hv hbd hbm I4
                have HIA := hid I4
                have HV := hid hv
                have HBD := hid hbd
                have HBM := hid hbm
                clear hX hE hF hU ha I4 hv hbd hbm
                go_wp2_with fail
                refine (HIA.out _).mono ?_
                rintro e w' ⟨rfl, rfl⟩
                obtain ⟨g8, hg8⟩ : ∃ g, wr.heap.size = g := ⟨_, rfl⟩
                obtain ⟨x8, hx8⟩ : ∃ zz, wr.alloc (.cells #[(.int .i64 0), (.string ⟨#[]⟩)] 52) = zz := ⟨_, rfl⟩
                have b8 : Blk x8 wr.heap.size #[(.int .i64 0), (.string ⟨#[]⟩)] 52 := hx8 ▸ Blk.new _ _ _
                have V8 : Hid (Below wr.heap.size wr x8) := hid (hx8 ▸ up_alloc (up_refl _) _)
                have N8 : Hid (Below w.heap.size w x8) := hid (up_trans UR.out V8.out)
                have G8 : Hid (w.heap.size ≤ g8) := hid (by rw [← hg8]; exact UR.out.size)
                rw [hg8] at b8
                have l8 : g8 < x8.heap.size := b8.lt
                have c8_0 : x8.cell? ⟨g8, 0, none⟩ = some (.int .i64 0) := b8.cell 0
                have f8_0 : x8.frozen? ⟨g8, 0, none⟩ = false := b8.free 0
                have c8_1 : x8.cell? ⟨g8, 1, none⟩ = some (.string ⟨#[]⟩) := b8.cell 1
                have f8_1 : x8.frozen? ⟨g8, 1, none⟩ = false := b8.free 1
                have B8 := hid b8
                clear b8
                obtain ⟨w9, hw9⟩ : ∃ zz, (x8.setCell ⟨g8, 0, none⟩ (.int .i64 a4)).setCell ⟨g8, 1, none⟩ (.string ⟨#[]⟩) = zz := ⟨_, rfl⟩
                have B9 : Hid (Blk w9 g8 #[.int .i64 a4, .string ⟨#[]⟩] 52) := hid (hw9 ▸ B8.out.set2)
                have V9 : Hid (Below wr.heap.size wr w9) := hid (hw9 ▸ (V8.out.setCell (p := ⟨g8, 0, none⟩) (by rw [hg8]; exact Nat.le_refl _) _).setCell (p := ⟨g8, 1, none⟩) (by rw [hg8]; exact Nat.le_refl _) _)
                have U9 := hid (up_trans UR.out V9.out)
                have X9 := hid (XR.out.below V9.out)
                have HG8 : Hid (wr.heap.size = g8) := hg8
                have n82 : g8 ≠ g2 := by have := XR.out.a.lt; omega
                clear d0 d1 z0 z1 z2 a0 a1 a2 f0 f1 f2
                obtain ⟨d0, d1, z0, z1, z2, a0, a1, a2, f0, f1, f2⟩ := X9.out.facts
                have b9 := B9.out
                have c9_0 : w9.cell? ⟨g8, 0, none⟩ = some (.int .i64 a4) := b9.cell 0
                have f9_0 : w9.frozen? ⟨g8, 0, none⟩ = false := b9.free 0
                have c9_1 : w9.cell? ⟨g8, 1, none⟩ = some (.string ⟨#[]⟩) := b9.cell 1
                have f9_1 : w9.frozen? ⟨g8, 1, none⟩ = false := b9.free 1
                clear b9
                obtain ⟨ins, hins⟩ : ∃ b, decide (dr ≤ (a4 : Int) ∧ (a4 : Int) - dr < ds) = b := ⟨_, rfl⟩
                have HINS := hid hins
                clear hins
                have ks1 : IntKind.i64.wrap ((a4 : Int) - dr) = (a4 : Int) - dr := IntWalk.i64_in _ (by omega)
                go_upto_region 15 with fail
                clear hw9 hx8 hg8 c8_0 c8_1 f8_0 f8_1
                go_cut [153] (fun u wb => u = .bool ins ∧ w9 = wb)
                case first =>
                  by_cases q1 : dr ≤ (a4 : Int)
                  · by_cases q2 : (a4 : Int) - dr < ds
                    · obtain rfl : true = ins := by rw [← HINS.out, decide_eq_true ⟨q1, q2⟩]
                      clear HINS
                      go_wp2_with fail
                      go_meet
                      exact ⟨rfl, rfl⟩
                    · obtain rfl : false = ins := by rw [← HINS.out, decide_eq_false (fun h => q2 h.2)]
                      clear HINS
                      go_wp2_with fail
                      go_meet
                      exact ⟨rfl, rfl⟩
                  · obtain rfl : false = ins := by rw [← HINS.out, decide_eq_false (fun h => q1 h.1)]
                    clear HINS
                    go_wp2_with fail
                    go_meet
                    exact ⟨rfl, rfl⟩
                case rest =>
                  obtain ⟨rfl, rfl⟩ := hcut
                  clear ks1
                  obtain ⟨fd, hfd⟩ : ∃ x, fnV l dr ds (a4 : Int) = x := ⟨_, rfl⟩
                  rw [hfd] at HV
                  have HFD := hid hfd
                  clear hfd
                  go_upto_if 153 with fail
                  go_cut [] (fun wb => Below wr.heap.size wr wb ∧ Blk wb g8 #[.int .i64 fd.rva, .string (S fd.fwd)] 52 ∧ Hid (fnBad l dr ds a4 = false))
                  case first => as_aux_lemma =>
                    cases ins
                    case true =>
                      have hib : dr ≤ (a4 : Int) ∧ (a4 : Int) - dr < ds := of_decide_eq_true HINS.out
                      have hno : ¬ ((a4 : Int) < dr ∨ ds ≤ (a4 : Int) - dr) := by omega
                      have hfv : fnV l dr ds a4 = ⟨0, (textF l a4 64).getD []⟩ := by unfold fnV; rw [if_neg hno]
                      have hfb : fnBad l dr ds a4 = (!(textF l a4 64).isSome || !(splitF ((textF l a4 64).getD [])).isSome) := by unfold fnBad; rw [if_neg hno]
                      rw [HFD.out] at hfv
                      have HT : Hid (∀ w, Calls Tryd.prog 45 #[.string (S l), .int .i64 a4, .int .i64 64] w fun e w' => e = .returned (.tuple #[.string (S ((textF l a4 64).getD [])), .bool (textF l a4 64).isSome]) ∧ w = w') := hid (fun w => ref_Text l a4 64 w hm (by omega) (by omega))
                      have htl := textF_most l a4 64
                      obtain ⟨s, hs⟩ : ∃ s, (textF l a4 64).getD [] = s := ⟨_, rfl⟩
                      obtain ⟨ok, hok⟩ : ∃ s, (textF l a4 64).isSome = s := ⟨_, rfl⟩
                      rw [hs, hok] at HT
                      rw [hs, hok] at hfb
                      rw [hs] at hfv htl
                      have HSP := hid (fun w => ref_Split s w (by omega))
                      obtain ⟨o, ho⟩ : ∃ o, splitF s = o := ⟨_, rfl⟩
                      rw [ho] at HSP hfb
                      have HFB := hid hfb
                      subst hfv
                      clear hs hok ho hfb hib hno HINS HFD htl
                      go_wp2_with fail
                      refine (HT.out _).mono ?_
                      rintro e w' ⟨rfl, rfl⟩
                      cases ok
                      case false =>
                        have HPN : Hid (parseX2 l dr ds xb xf xn xa xt xi = none) := hid (by
                          rw [HPX.out, HBM.out (by rw [HFB.out]; rfl), if_neg (by simp)])
                        go_wp2_with fail
                        exact bodyPost_ret (v := .tuple #[.agg exZ, .int .i64 11]) (results_ct' Tryd.results25 _ _ g2 47 exZ _ (by rfl) X9.out.a.set3 Tryd.underlying47 (by rfl) expsInfo) rfl (rx_bad X9.out U9.out GE.out HPN.out)
                      case true =>
                        clear d0 d1 z0 z1 z2 a0 a1 a2 f0 f1 f2
                        go_wp2_with fail
                        refine (HSP.out _).mono ?_
                        rintro e w10 ⟨rfl, b10⟩
                        have U10 := hid (up_trans U9.out b10)
                        have V10 := hid (up_trans V9.out b10)
                        have X10 := hid (X9.out.below b10)
                        have B10 := hid (B9.out.below b10)
                        clear b10
                        cases o with
                        | none =>
                          have HPN : Hid (parseX2 l dr ds xb xf xn xa xt xi = none) := hid (by
                            rw [HPX.out, HBM.out (by rw [HFB.out]; rfl), if_neg (by simp)])
                          obtain ⟨g11, hg11⟩ : ∃ g, w10.heap.size = g := ⟨_, rfl⟩
                          obtain ⟨x11, hx11⟩ : ∃ zz, w10.alloc (.cells #[(.string ⟨#[]⟩), (.string ⟨#[]⟩), (.int .i64 0), (.bool false)] 96) = zz := ⟨_, rfl⟩
                          have b11 : Blk x11 w10.heap.size #[(.string ⟨#[]⟩), (.string ⟨#[]⟩), (.int .i64 0), (.bool false)] 96 := hx11 ▸ Blk.new _ _ _
                          have V11 : Hid (Below w10.heap.size w10 x11) := hid (hx11 ▸ up_alloc (up_refl _) _)
                          have N11 : Hid (Below w.heap.size w x11) := hid (up_trans U10.out V11.out)
                          have G11 : Hid (w.heap.size ≤ g11) := hid (by rw [← hg11]; exact U10.out.size)
                          rw [hg11] at b11
                          have l11 : g11 < x11.heap.size := b11.lt
                          have c11_0 : x11.cell? ⟨g11, 0, none⟩ = some (.string ⟨#[]⟩) := b11.cell 0
                          have f11_0 : x11.frozen? ⟨g11, 0, none⟩ = false := b11.free 0
                          have c11_1 : x11.cell? ⟨g11, 1, none⟩ = some (.string ⟨#[]⟩) := b11.cell 1
                          have f11_1 : x11.frozen? ⟨g11, 1, none⟩ = false := b11.free 1
                          have c11_2 : x11.cell? ⟨g11, 2, none⟩ = some (.int .i64 0) := b11.cell 2
                          have f11_2 : x11.frozen? ⟨g11, 2, none⟩ = false := b11.free 2
                          have c11_3 : x11.cell? ⟨g11, 3, none⟩ = some (.bool false) := b11.cell 3
                          have f11_3 : x11.frozen? ⟨g11, 3, none⟩ = false := b11.free 3
                          have B11 := hid b11
                          clear b11
                          obtain ⟨w12, hw12⟩ : ∃ zz, (((x11.setCell ⟨g11, 0, none⟩ (.string (S []))).setCell ⟨g11, 1, none⟩ (.string (S []))).setCell ⟨g11, 2, none⟩ (.int .i64 0)).setCell ⟨g11, 3, none⟩ (.bool false) = zz := ⟨_, rfl⟩
                          have V12 : Hid (Below w10.heap.size w10 w12) := hid (hw12 ▸ (((V11.out.setCell (p := ⟨g11, 0, none⟩) (by rw [hg11]; exact Nat.le_refl _) _).setCell (p := ⟨g11, 1, none⟩) (by rw [hg11]; exact Nat.le_refl _) _).setCell (p := ⟨g11, 2, none⟩) (by rw [hg11]; exact Nat.le_refl _) _).setCell (p := ⟨g11, 3, none⟩) (by rw [hg11]; exact Nat.le_refl _) _)
                          have X12 := hid (X10.out.below V12.out)
                          have U12 := hid (up_trans U10.out V12.out)
                          obtain ⟨d0, d1, z0, z1, z2, a0, a1, a2, f0, f1, f2⟩ := X12.out.facts
                          have hwv : wayV none = .tuple #[.agg #[.string (S []), .string (S []), .int .i64 0, .bool false], .bool false] := rfl
                          rw [hwv]
                          clear hwv
                          go_wp2_with fail
                          exact bodyPost_ret (v := .tuple #[.agg exZ, .int .i64 11]) (results_ct' Tryd.results25 _ _ g2 47 exZ _ (by rfl) X12.out.a.set3 Tryd.underlying47 (by rfl) expsInfo) rfl (rx_bad X12.out U12.out GE.out HPN.out)
                        | some dsym =>
                          obtain ⟨dn, sn, so, sb⟩ := dsym
                          obtain ⟨g11, hg11⟩ : ∃ g, w10.heap.size = g := ⟨_, rfl⟩
                          obtain ⟨x11, hx11⟩ : ∃ zz, w10.alloc (.cells #[(.string ⟨#[]⟩), (.string ⟨#[]⟩), (.int .i64 0), (.bool false)] 96) = zz := ⟨_, rfl⟩
                          have b11 : Blk x11 w10.heap.size #[(.string ⟨#[]⟩), (.string ⟨#[]⟩), (.int .i64 0), (.bool false)] 96 := hx11 ▸ Blk.new _ _ _
                          have V11 : Hid (Below w10.heap.size w10 x11) := hid (hx11 ▸ up_alloc (up_refl _) _)
                          have N11 : Hid (Below w.heap.size w x11) := hid (up_trans U10.out V11.out)
                          have G11 : Hid (w.heap.size ≤ g11) := hid (by rw [← hg11]; exact U10.out.size)
                          rw [hg11] at b11
                          have l11 : g11 < x11.heap.size := b11.lt
                          have c11_0 : x11.cell? ⟨g11, 0, none⟩ = some (.string ⟨#[]⟩) := b11.cell 0
                          have f11_0 : x11.frozen? ⟨g11, 0, none⟩ = false := b11.free 0
                          have c11_1 : x11.cell? ⟨g11, 1, none⟩ = some (.string ⟨#[]⟩) := b11.cell 1
                          have f11_1 : x11.frozen? ⟨g11, 1, none⟩ = false := b11.free 1
                          have c11_2 : x11.cell? ⟨g11, 2, none⟩ = some (.int .i64 0) := b11.cell 2
                          have f11_2 : x11.frozen? ⟨g11, 2, none⟩ = false := b11.free 2
                          have c11_3 : x11.cell? ⟨g11, 3, none⟩ = some (.bool false) := b11.cell 3
                          have f11_3 : x11.frozen? ⟨g11, 3, none⟩ = false := b11.free 3
                          have B11 := hid b11
                          clear b11
                          obtain ⟨w12, hw12⟩ : ∃ zz, (((x11.setCell ⟨g11, 0, none⟩ (.string (S dn))).setCell ⟨g11, 1, none⟩ (.string (S sn))).setCell ⟨g11, 2, none⟩ (.int .i64 so)).setCell ⟨g11, 3, none⟩ (.bool sb) = zz := ⟨_, rfl⟩
                          have V12 : Hid (Below w10.heap.size w10 w12) := hid (hw12 ▸ (((V11.out.setCell (p := ⟨g11, 0, none⟩) (by rw [hg11]; exact Nat.le_refl _) _).setCell (p := ⟨g11, 1, none⟩) (by rw [hg11]; exact Nat.le_refl _) _).setCell (p := ⟨g11, 2, none⟩) (by rw [hg11]; exact Nat.le_refl _) _).setCell (p := ⟨g11, 3, none⟩) (by rw [hg11]; exact Nat.le_refl _) _)
                          have B12 := hid (B10.out.below V12.out)
                          have V13 := hid (up_trans V10.out V12.out)
                          have b12 := B12.out
                          have c12_0 : w12.cell? ⟨g8, 0, none⟩ = some (.int .i64 a4) := b12.cell 0
                          have f12_0 : w12.frozen? ⟨g8, 0, none⟩ = false := b12.free 0
                          have c12_1 : w12.cell? ⟨g8, 1, none⟩ = some (.string ⟨#[]⟩) := b12.cell 1
                          have f12_1 : w12.frozen? ⟨g8, 1, none⟩ = false := b12.free 1
                          clear b12
                          have hwv : wayV (some (dn, ⟨sn, so, sb⟩)) = .tuple #[.agg #[.string (S dn), .string (S sn), .int .i64 so, .bool sb], .bool true] := rfl
                          rw [hwv]
                          clear hwv
                          go_wp2_with fail
                          go_meet
                          exact ⟨(V13.out.setCell (by rw [HG8.out]; exact Nat.le_refl _) _).setCell (by rw [HG8.out]; exact Nat.le_refl _) _, B12.out.set2, HFB.out⟩
                    case false =>
                      have hib : ¬ (dr ≤ (a4 : Int) ∧ (a4 : Int) - dr < ds) := of_decide_eq_false HINS.out
                      have hno : ((a4 : Int) < dr ∨ ds ≤ (a4 : Int) - dr) := by omega
                      have hfv : fnV l dr ds a4 = ⟨a4, []⟩ := by unfold fnV; rw [if_pos hno]
                      have hfb : fnBad l dr ds a4 = decide (l.length ≤ a4) := by unfold fnBad; rw [if_pos hno]; simp
                      rw [HFD.out] at hfv
                      subst hfv
                      have HFB := hid hfb
                      clear hib hno hfb HINS HFD
                      by_cases hbig : l.length ≤ a4
                      · have HPN : Hid (parseX2 l dr ds xb xf xn xa xt xi = none) := hid (by
                          rw [HPX.out, HBM.out (by rw [HFB.out, decide_eq_true hbig]), if_neg (by simp)])
                        go_wp2_with fail
                        exact bodyPost_ret (v := .tuple #[.agg exZ, .int .i64 11]) (results_ct' Tryd.results25 _ _ g2 47 exZ _ (by rfl) X9.out.a.set3 Tryd.underlying47 (by rfl) expsInfo) rfl (rx_bad X9.out U9.out GE.out HPN.out)
                      · have HB0 : Hid (fnBad l dr ds a4 = false) := hid (by rw [HFB.out, decide_eq_false hbig])
                        go_wp2_with fail
                        go_meet
                        exact ⟨V9.out, B9.out, HB0⟩
                  case rest => as_aux_lemma =>
                    obtain ⟨hVc, hBc, HB0⟩ := hcut
                    have XC := hid (XR.out.below hVc)
                    have EC := hid (ER.out.below hVc)
                    have FC := hid (own_below FR.out hVc)
                    have UC := hid (up_trans UR.out hVc)
                    have SC : Hid (NB ≤ wc.heap.size) := hid (Nat.le_trans hNs hVc.size)
                    have BC := hid hBc
                    obtain ⟨FA, fc, rfl, -, -⟩ := own_row FR.out
                    clear d0 d1 z0 z1 z2 a0 a1 a2 f0 f1 f2 c9_0 c9_1 f9_0 f9_1 hVc hBc HINS HFD
                    have b13 := BC.out
                    have c13_0 : wc.cell? ⟨g8, 0, none⟩ = some (.int .i64 fd.rva) := b13.cell 0
                    have f13_0 : wc.frozen? ⟨g8, 0, none⟩ = false := b13.free 0
                    have c13_1 : wc.cell? ⟨g8, 1, none⟩ = some (.string (S fd.fwd)) := b13.cell 1
                    have f13_1 : wc.frozen? ⟨g8, 1, none⟩ = false := b13.free 1
                    clear b13
                    have b14 := EC.out
                    have c14_0 : wc.cell? ⟨g4, 0, none⟩ = some (.int .i64 xb) := b14.cell 0
                    have f14_0 : wc.frozen? ⟨g4, 0, none⟩ = false := b14.free 0
                    have c14_1 : wc.cell? ⟨g4, 1, none⟩ = some (.slice FA j fc) := b14.cell 1
                    have f14_1 : wc.frozen? ⟨g4, 1, none⟩ = false := b14.free 1
                    have c14_2 : wc.cell? ⟨g4, 2, none⟩ = some (.slice none 0 0) := b14.cell 2
                    have f14_2 : wc.frozen? ⟨g4, 2, none⟩ = false := b14.free 2
                    clear b14
                    go_wp2_with (at_builtin; refine wp_app' wc (o := ⟨some 184, _, _, _, _, _⟩) rfl _ _ 44 rfl NB 52 (.agg #[.int .i64 0, .string ⟨#[]⟩]) 2 24 Tryd.underlying44 infoFunc rfl (by decide) (.slice FA j fc) j (fcells (fnVs l dr ds xa j)) (by rfl) FC.out [.int .i64 fd.rva, .string (S fd.fwd)] rfl (by simp [Value.oneCell']) wc.heap.size (by rfl) rfl (by omega) (by omega) SC.out ?_; intro v1 w15 hown1 hbel1 hgr1; obtain ⟨FA1, fc1, rfl, -, -⟩ := own_row hown1; obtain ⟨p1, p2, p3, p4, p5, p6, p7⟩ := rx_step l1 l2 l3 l4b n41 n42 n43 HG4.out SC.out XC.out EC.out FC.out UC.out hgr1 hown1 1; have P2 := hid p2; have P3 := hid p3; have P4 := hid p4; have P5 := hid p5; have P6 := hid p6; have q1 := p1.cell 1; have q2 := p1.free 1; simp only [List.getElem?_toArray, List.getElem?_cons_succ, List.getElem?_cons_zero] at q1; clear p1 p2 p3 p4 p5 p6 p7 hown1 hbel1 hgr1)
                    go_roundg k
                    case measure => omega
                    case rel => exact ⟨j + 1, _, by go_num, by omega, P2.out, P3.out, by rw [HV.out, fcells_snoc]; exact P4.out, P5.out, P6.out, hid (by rw [HBD.out, HNB0.out, HB0.out]; rfl)⟩
end Go.Proofs.YtapllnnconpieaaDoor
