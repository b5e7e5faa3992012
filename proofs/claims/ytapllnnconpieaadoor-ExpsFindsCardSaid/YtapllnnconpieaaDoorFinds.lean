/- ExpsFinds: plain laws, and the walk. -/
import Derived.Test.YtapllnnconpieaaDoorAwake7
import Derived.Test.YtapllnnconpieaaDoorBits
set_option linter.unusedVariables false
namespace Go.Proofs.YtapllnnconpieaaDoor
open Go.RowKit

def nmN (k : Nat) : List UInt8 := [UInt8.ofNat (97 + k / 26), UInt8.ofNat (97 + k % 26)]
def fsN (i : Nat) : List FuncD := (List.range i).map fun k : Nat => ⟨100 + (k : Int), []⟩
def nsN (n i : Nat) : List NamedD := (List.range i).map fun k : Nat => ⟨nmN k, (n : Int) - 1 - k⟩
def exN (n : Nat) : ExpsD := ⟨3, fsN n, nsN n n⟩
theorem fsN_succ (i : Nat) : fsN (i + 1) = fsN i ++ [⟨100 + (i : Int), []⟩] := by simp [fsN, List.range_succ]
theorem nsN_succ (n i : Nat) : nsN n (i + 1) = nsN n i ++ [⟨nmN i, (n : Int) - 1 - i⟩] := by simp [nsN, List.range_succ]
theorem fsN_length (i : Nat) : (fsN i).length = i := by simp [fsN]
theorem nsN_length (n i : Nat) : (nsN n i).length = i := by simp [nsN]
theorem byte_toNat (k : Nat) (h : k < 256) : (UInt8.ofNat k).toNat = k := by simp; omega
theorem nmN_inj {a b : Nat} (ha : a < 200) (hb : b < 200) (h : nmN a = nmN b) : a = b := by
  unfold nmN at h
  simp only [List.cons.injEq, and_true] at h
  have h1 := congrArg UInt8.toNat h.1
  have h2 := congrArg UInt8.toNat h.2
  rw [byte_toNat _ (by omega), byte_toNat _ (by omega)] at h1 h2
  omega
theorem at_exN (n k : Nat) (hk : k < n) : atX (exN n) k = some ⟨100 + (k : Int), []⟩ := by
  have : (exN n).funcs[k]? = some ⟨100 + (k : Int), []⟩ := by simp [exN, fsN, hk]
  unfold atX
  rw [if_pos (by omega), Int.toNat_natCast, this]
  simp only
  rw [if_neg (by simp; omega)]
theorem find_name (n j : Nat) (hn : n < 200) (hj : j < n) : findX (exN n) ⟨nmN j, 0, false⟩ = some ⟨100 + (n : Int) - 1 - j, []⟩ := by
  have hf : (exN n).names.find? (fun m => m.name == nmN j) = some ⟨nmN j, (n : Int) - 1 - j⟩ := by
    rw [List.find?_eq_some_iff_getElem]
    refine ⟨by simp, j, by simp [exN, nsN, hj], by simp [exN, nsN], fun k hk => ?_⟩
    simp only [exN, nsN, List.getElem_map, List.getElem_range, Bool.not_eq_true', beq_eq_false_iff_ne]
    intro h
    have := nmN_inj (by omega) (by omega) h
    omega
  have hi : idxX (exN n) ⟨nmN j, 0, false⟩ = some ((n - 1 - j : Nat) : Int) := by
    unfold idxX
    simp only [Bool.false_eq_true, if_false, hf, Option.map_some]
    congr 1
    omega
  unfold findX
  rw [hi]
  simp only
  rw [at_exN n _ (by omega)]
  congr 2
  omega
theorem find_ord (n j : Nat) (hj : j < n) : findX (exN n) ⟨[], 3 + (j : Int), true⟩ = some ⟨100 + (j : Int), []⟩ := by
  have hi : idxX (exN n) ⟨[], 3 + (j : Int), true⟩ = some ((j : Nat) : Int) := by
    unfold idxX
    simp only [if_true]
    rw [if_pos ⟨by simp [exN]; omega, by simp [exN, fsN_length]; omega⟩]
    congr 1
    simp [exN]
    omega
  unfold findX
  rw [hi]
  exact at_exN n j hj
theorem find_low (n : Nat) : findX (exN n) ⟨[], 2, true⟩ = none := by
  have hi : idxX (exN n) ⟨[], 2, true⟩ = none := by
    unfold idxX
    simp [exN]
  unfold findX
  rw [hi]
theorem find_high (n : Nat) : findX (exN n) ⟨[], 3 + (n : Int), true⟩ = none := by
  have hi : idxX (exN n) ⟨[], 3 + (n : Int), true⟩ = none := by
    unfold idxX
    simp only [if_true]
    rw [if_neg]
    simp [exN, fsN_length]
    omega
  unfold findX
  rw [hi]
theorem find_other (n : Nat) (o : List UInt8) : (findX (exN n) ⟨o, 0, false⟩).isSome = (nsN n n).any fun m => m.name == o := by
  have hi : idxX (exN n) ⟨o, 0, false⟩ = ((nsN n n).find? fun m => m.name == o).map (·.index) := by
    unfold idxX
    simp [exN]
  unfold findX
  rw [hi]
  cases hf : (nsN n n).find? fun m => m.name == o with
  | none =>
    rw [List.find?_eq_none] at hf
    simp only [Option.map_none]
    symm
    rw [Option.isSome_none, List.any_eq_false]
    intro m hm
    exact hf m hm
  | some m =>
    have h1 := List.find?_some hf
    have h2 := List.mem_of_find?_eq_some hf
    obtain ⟨k, hk, rfl⟩ : ∃ k, k < n ∧ (⟨nmN k, (n : Int) - 1 - k⟩ : NamedD) = m := by
      simp only [nsN, List.mem_map, List.mem_range] at h2
      exact h2
    simp only [Option.map_some]
    have : (n : Int) - 1 - (k : Int) = ((n - 1 - k : Nat) : Int) := by omega
    rw [this, at_exN n _ (by omega)]
    symm
    rw [Option.isSome_some, List.any_eq_true]
    exact ⟨_, h2, h1⟩
theorem any_step (n j : Nat) (o : List UInt8) (hj : j < n) : ((nsN n n).take (j + 1)).any (fun m => m.name == o) = (((nsN n n).take j).any (fun m => m.name == o) || (nmN j == o)) := by
  rw [take_snoc (nsN n n) j (by rw [nsN_length]; exact hj), List.any_append]
  congr 1
  simp [nsN]

theorem exN_b0 (n : Nat) : -9223372036854775808 ≤ (exN n).base := by show (-9223372036854775808 : Int) ≤ 3; omega
theorem exN_b1 (n : Nat) : (exN n).base ≤ 9223372036854775807 := by show (3 : Int) ≤ 9223372036854775807; omega
theorem own_ne {w : World} {b b' : Nat} {e e' : TypeId} {sz sz' : Nat} {v v' : Value} {n n' : Nat} {xs xs' : List Value} (h : w.ownsRow b e sz v n xs) (h' : w.ownsRow b' e' sz' v' n' xs') (he : e ≠ e') : v.ownBlock = none ∨ v.ownBlock ≠ v'.ownBlock := by
  obtain ⟨-, ⟨rfl, -⟩ | ⟨g, cap, cur, rfl, -, hh, -⟩⟩ := h
  · exact .inl rfl
  · obtain ⟨-, ⟨rfl, -⟩ | ⟨g', cap', cur', rfl, -, hh', -⟩⟩ := h'
    · exact .inr (by simp [Value.ownBlock])
    · refine .inr ?_
      simp only [Value.ownBlock, ne_eq, Option.some.injEq]
      rintro rfl
      rw [hh] at hh'
      simp only [Option.some.injEq, Obj.cells.injEq] at hh'
      exact he hh'.2.1

theorem str_two (W : World) (h : Nat) (hh : h = W.heap.size) (a b : Nat) (ha : a < 256) (hb : b < 256) (x y : Int) (hx : x = a) (hy : y = b) :
    (convert 22 9 (.slice (some ⟨h, 0, none⟩) 2 2)).run Tryd.prog (W.alloc (.cells #[.int .u8 x, .int .u8 y] 5)) = .ok (.string (S [UInt8.ofNat a, UInt8.ofNat b])) (W.alloc (.cells #[.int .u8 x, .int .u8 y] 5)) := by
  subst hh hx hy
  refine run_str _ _ _ 5 Tryd.underlying22 Tryd.underlying5 Tryd.underlying9 _ 2 2 [UInt8.ofNat a, UInt8.ofNat b] rfl ?_
  have h := Row.new W #[.int .u8 (a : Int), .int .u8 (b : Int)] 5
  simp only [bcells, List.map_cons, List.map_nil, byte_toNat a ha, byte_toNat b hb]
  exact h

/-- One function and one name more. -/
theorem finds_step {w wr w1 : World} {NB g5 j : Nat} (hg5 : g5 < NB) (hs : NB ≤ wr.heap.size) {x0 fv nv v1 : Value} {T5 : TypeId} {cs cs1 ds : List Value} {o : Obj}
    (hE : Blk wr g5 #[x0, fv, nv] T5) (hF : wr.ownsRow NB 52 2 fv j cs) (hN : wr.ownsRow NB 57 2 nv j ds) (hU : Below w.heap.size w wr) (hw : w.heap.size ≤ g5)
    (hg : (wr.alloc o).grownBy w1 fv.ownBlock) (hown : w1.ownsRow NB 52 2 v1 (j + 1) cs1) :
    Blk w1 g5 #[x0, fv, nv] T5 ∧ Blk (w1.setCell ⟨g5, 1, none⟩ v1) g5 #[x0, v1, nv] T5 ∧ (w1.setCell ⟨g5, 1, none⟩ v1).ownsRow NB 52 2 v1 (j + 1) cs1 ∧ (w1.setCell ⟨g5, 1, none⟩ v1).ownsRow NB 57 2 nv j ds ∧
      Below w.heap.size w (w1.setCell ⟨g5, 1, none⟩ v1) ∧ NB ≤ w1.heap.size := by
  have hlt : ∀ k, fv.ownBlock = some k → NB ≤ k := fun k hk => (hF.lt k hk).1
  have e1 := (hE.alloc o).grown' hg (fun e => by have := hlt g5 e.symm; omega)
  have n1 : w1.ownsRow NB 57 2 nv j ds := (hN.alloc o).kept hg (own_ne hN hF (by decide))
  have s1 := hg.size
  have u1 : Below w.heap.size w w1 := (up_alloc hU o).grown hg (by have := hU.size; simp; omega) (fun k hk => by have := hlt k hk; omega)
  exact ⟨e1, e1.set' 1 v1, own_set hown (p := ⟨g5, 1, none⟩) hg5 _, own_set n1 (p := ⟨g5, 1, none⟩) hg5 _, u1.setCell (p := ⟨g5, 1, none⟩) hw _, by simp at s1; omega⟩
theorem finds_step2 {w wr wa w1 : World} {NB g5 j : Nat} (hg5 : g5 < NB) {x0 fv nv v1 : Value} {T5 : TypeId} {cs ds ds1 : List Value}
    (hE : Blk wr g5 #[x0, fv, nv] T5) (hF : wr.ownsRow NB 52 2 fv (j + 1) cs) (hN : wr.ownsRow NB 57 2 nv j ds) (hU : Below w.heap.size w wr) (hw : w.heap.size ≤ g5) (hwr : w.heap.size ≤ wr.heap.size) (ha : Below wr.heap.size wr wa)
    (hg : wa.grownBy w1 nv.ownBlock) (hown : w1.ownsRow NB 57 2 v1 (j + 1) ds1) (hs : NB ≤ wr.heap.size) :
    Blk w1 g5 #[x0, fv, nv] T5 ∧ Blk (w1.setCell ⟨g5, 2, none⟩ v1) g5 #[x0, fv, v1] T5 ∧ (w1.setCell ⟨g5, 2, none⟩ v1).ownsRow NB 52 2 fv (j + 1) cs ∧ (w1.setCell ⟨g5, 2, none⟩ v1).ownsRow NB 57 2 v1 (j + 1) ds1 ∧
      Below w.heap.size w (w1.setCell ⟨g5, 2, none⟩ v1) ∧ NB ≤ (w1.setCell ⟨g5, 2, none⟩ v1).heap.size := by
  have hlt : ∀ k, nv.ownBlock = some k → NB ≤ k := fun k hk => (hN.lt k hk).1
  have e1 := (hE.below ha).grown' hg (fun e => by have := hlt g5 e.symm; omega)
  have f1 : w1.ownsRow NB 52 2 fv (j + 1) cs := (own_below hF ha).kept hg (own_ne hF hN (by decide))
  have s1 := hg.size
  have sa := ha.size
  have u1 : Below w.heap.size w w1 := (hU.trans (ha.mono hwr)).grown hg (by omega) (fun k hk => by have := hlt k hk; omega)
  exact ⟨e1, e1.set' 2 v1, own_set f1 (p := ⟨g5, 2, none⟩) hg5 _, own_set hown (p := ⟨g5, 2, none⟩) hg5 _, u1.setCell (p := ⟨g5, 2, none⟩) hw _, by simp [World.setCell]; omega⟩

set_option maxRecDepth 100000 in
set_option maxHeartbeats 16000000 in
theorem walk_ExpsFinds (w : World) (hk : LibOk w) (a0 : Int) (h0 : (Lit.int .i64 a0).wf = true) (a1 : ByteArray) (w1 : a1.size ≤ 140737488351232) :
    Calls Tryd.prog 10 #[.int .i64 a0, .string a1] w fun e w' => e = .returned (.bool true) ∧ Below w.heap.size w w' := by
  clear h0
  obtain ⟨o, rfl⟩ : ∃ d, a1 = S d := ⟨a1.data.toList, (S_of a1).symm⟩
  rw [S_size] at w1
  have e0 : 0 ≤ bits .and .i64 a0 255 ∧ bits .and .i64 a0 255 ≤ 255 := and_le_i64 a0 255 (by omega)
  obtain ⟨m, hm⟩ := Int.eq_ofNat_of_zero_le e0.1
  have hm' : bits .and .i64 a0 255 = (m : Int) := hm
  obtain ⟨n, hn⟩ : ∃ n, m % 200 = n := ⟨_, rfl⟩
  have hmn : (m : Int) % 200 = (n : Int) := by omega
  have n200 : n < 200 := by omega
  have HK := hid hk
  have U0 := hid (up_refl w)
  clear e0 hm hk hn
  obtain ⟨g1, hg1⟩ : ∃ g, w.heap.size = g := ⟨_, rfl⟩
  obtain ⟨x1, hx1⟩ : ∃ zz, w.alloc (.cells #[(.int .i64 0), (.slice none 0 0), (.slice none 0 0)] 47) = zz := ⟨_, rfl⟩
  have b1 : Blk x1 w.heap.size #[(.int .i64 0), (.slice none 0 0), (.slice none 0 0)] 47 := hx1 ▸ Blk.new _ _ _
  have V1 : Hid (Below w.heap.size w x1) := hid (hx1 ▸ up_alloc (up_refl _) _)
  have N1 : Hid (Below w.heap.size w x1) := hid (up_trans U0.out V1.out)
  have G1 : Hid (w.heap.size ≤ g1) := hid (by rw [← hg1]; exact U0.out.size)
  rw [hg1] at b1
  have l1 : g1 < x1.heap.size := b1.lt
  have c1_0 : x1.cell? ⟨g1, 0, none⟩ = some (.int .i64 0) := b1.cell 0
  have f1_0 : x1.frozen? ⟨g1, 0, none⟩ = false := b1.free 0
  have c1_1 : x1.cell? ⟨g1, 1, none⟩ = some (.slice none 0 0) := b1.cell 1
  have f1_1 : x1.frozen? ⟨g1, 1, none⟩ = false := b1.free 1
  have c1_2 : x1.cell? ⟨g1, 2, none⟩ = some (.slice none 0 0) := b1.cell 2
  have f1_2 : x1.frozen? ⟨g1, 2, none⟩ = false := b1.free 2
  have B1 := hid b1
  clear b1
  obtain ⟨w2, hw2⟩ : ∃ zz, ((x1.setCell ⟨g1, 0, none⟩ (.int .i64 3)).setCell ⟨g1, 1, none⟩ (.slice none 0 0)).setCell ⟨g1, 2, none⟩ (.slice none 0 0) = zz := ⟨_, rfl⟩
  have B2 : Hid (Blk w2 g1 #[.int .i64 3, .slice none 0 0, .slice none 0 0] 47) := hid (hw2 ▸ B1.out.set3)
  have U2 : Hid (Below w.heap.size w w2) := hid (hw2 ▸ ((N1.out.setCell G1.out _).setCell G1.out _).setCell G1.out _)
  have HG1 : Hid (w.heap.size = g1) := hg1
  obtain ⟨NB, hNB⟩ : ∃ x, w2.heap.size = x := ⟨_, rfl⟩
  have hgN : g1 < NB := by have := B2.out.lt; omega
  have HNB := hid hNB
  clear hNB
  go_enter Tryd.func10, Tryd.ntmps10
  go_wp2_with fail
  rw [hmn]
  clear hw2 hx1 hg1 c1_0 c1_1 c1_2 f1_0 f1_1 f1_2 hm' hmn
  go_loopg [6] n (fun k i wr => ∃ (j : Nat) (fv nv : Value), i = .int .i64 j ∧ j + k = n ∧ Blk wr g1 #[.int .i64 3, fv, nv] 47 ∧ wr.ownsRow NB 52 2 fv j (fcells (fsN j)) ∧ wr.ownsRow NB 57 2 nv j (ncells (nsN n j)) ∧
    Below w.heap.size w wr ∧ NB ≤ wr.heap.size)
  case atStart => exact ⟨0, _, _, rfl, by omega, B2.out, World.ownsRow_nil _ _ _ _, World.ownsRow_nil _ _ _ _, U2.out, Nat.le_of_eq HNB.out.symm⟩
  case round =>
    obtain ⟨j, fv, nv, rfl, hj, hE, hF, hN, hU, hs⟩ := hrel
    have HE := hid hE
    have HF := hid hF
    have HN := hid hN
    have HU := hid hU
    obtain ⟨FA, fc, rfl, -, -⟩ := own_row hF
    obtain ⟨NA, nc, rfl, -, -⟩ := own_row hN
    rcases gk with _ | k
    · have hjn : ((j : Int) < (n : Int)) = False := by simp; omega
      obtain rfl : j = n := by omega
      have EX : Hid (ExV wr (exN j) (.agg #[.int .i64 3, .slice FA j fc, .slice NA j nc])) := hid (by
        have h1 : (exN j).funcs.length = j := fsN_length j
        have h2 : (exN j).names.length = j := nsN_length j j
        exact exv_own (x := exN j) (by rw [h1]; exact hF) (by rw [h2]; exact hN) (by omega) (by omega))
      have HNR : Hid (Row wr NA (ncells (nsN j j))) := hid (by
        obtain ⟨A', c', e', -, hr⟩ := own_row hN
        simp only [Value.slice.injEq, true_and] at e'
        obtain ⟨rfl, rfl⟩ := e'
        exact hr)
      clear hE hF hN hU
      have hjw : NB ≤ wr.heap.size := hs
      obtain ⟨wL, rfl⟩ : ∃ x, x = wr := ⟨_, rfl⟩
      go_wp2_with fail
      go_loopg [7, 8] j (fun k b i wx => ∃ q : Nat, i = .int .i64 q ∧ q + k = j ∧ b = .bool (((nsN j j).take q).any fun m => m.name == o) ∧ Below wL.heap.size wL wx)
      case atStart => exact ⟨0, rfl, by omega, rfl, up_refl _⟩
      case round =>
        obtain ⟨q, rfl, hq, rfl, hub⟩ := hrel
        have HUX := hid hub
        have UX := hid (up_trans HU.out hub)
        have BX := hid (HE.out.below hub)
        have EXx := hid (EX.out.below hub)
        have b4 := BX.out
        have c4_0 : wr.cell? ⟨g1, 0, none⟩ = some (.int .i64 3) := b4.cell 0
        have f4_0 : wr.frozen? ⟨g1, 0, none⟩ = false := b4.free 0
        have c4_1 : wr.cell? ⟨g1, 1, none⟩ = some (.slice FA j fc) := b4.cell 1
        have f4_1 : wr.frozen? ⟨g1, 1, none⟩ = false := b4.free 1
        have c4_2 : wr.cell? ⟨g1, 2, none⟩ = some (.slice NA j nc) := b4.cell 2
        have f4_2 : wr.frozen? ⟨g1, 2, none⟩ = false := b4.free 2
        clear b4
        clear hub f4_0 f4_1 f4_2
        rcases gk with _ | k
        · have hqn : ((q : Int) < (j : Int)) = False := by simp; omega
          obtain rfl : q = j := by omega
          rw [List.take_of_length_le (by rw [nsN_length]; exact Nat.le_refl _)]
          have hfo := find_other q o
          obtain ⟨fa, fb, fok, hfv, hfk, -, -⟩ := funcV_cells (findX (exN q) ⟨o, 0, false⟩)
          rw [hfk] at hfo
          rw [← hfo]
          have HB1 := hid (fun w hx => exps_ByName w (exN q) (.agg #[.int .i64 3, .slice FA q fc, .slice NA q nc]) hx o (exN_b0 q) (exN_b1 q))
          have HB2 := hid (fun w hx => exps_ByOrd w (exN q) (.agg #[.int .i64 3, .slice FA q fc, .slice NA q nc]) hx 2 (exN_b0 q) (exN_b1 q) (by omega) (by omega))
          have HB3 := hid (fun w hx => exps_ByOrd w (exN q) (.agg #[.int .i64 3, .slice FA q fc, .slice NA q nc]) hx (3 + (q : Int)) (exN_b0 q) (exN_b1 q) (by omega) (by omega))
          rw [hfv] at HB1
          rw [find_low] at HB2
          rw [find_high] at HB3
          unfold funcV at HB2 HB3
          have Z : Hid (S ([] : List UInt8) = ⟨#[]⟩) := hid rfl
          simp only [Option.getD_none, Option.isSome_none, Z.out] at HB2 HB3
          clear hfo hfv hfk
          go_wp2_with fail
          refine (HB1.out _ EXx.out).mono ?_
          rintro e w5 ⟨rfl, b5⟩
          have U5 := hid (up_trans UX.out b5)
          have B5 := hid (BX.out.below b5)
          have E5 := hid (EXx.out.below b5)
          clear b5
          obtain ⟨g6, hg6⟩ : ∃ g, w5.heap.size = g := ⟨_, rfl⟩
          obtain ⟨x6, hx6⟩ : ∃ zz, w5.alloc (.cells #[(.int .i64 0), (.string ⟨#[]⟩)] 52) = zz := ⟨_, rfl⟩
          have b6 : Blk x6 w5.heap.size #[(.int .i64 0), (.string ⟨#[]⟩)] 52 := hx6 ▸ Blk.new _ _ _
          have V6 : Hid (Below w5.heap.size w5 x6) := hid (hx6 ▸ up_alloc (up_refl _) _)
          have N6 : Hid (Below w.heap.size w x6) := hid (up_trans U5.out V6.out)
          have G6 : Hid (w.heap.size ≤ g6) := hid (by rw [← hg6]; exact U5.out.size)
          rw [hg6] at b6
          have l6 : g6 < x6.heap.size := b6.lt
          have c6_0 : x6.cell? ⟨g6, 0, none⟩ = some (.int .i64 0) := b6.cell 0
          have f6_0 : x6.frozen? ⟨g6, 0, none⟩ = false := b6.free 0
          have c6_1 : x6.cell? ⟨g6, 1, none⟩ = some (.string ⟨#[]⟩) := b6.cell 1
          have f6_1 : x6.frozen? ⟨g6, 1, none⟩ = false := b6.free 1
          have B6 := hid b6
          clear b6
          obtain ⟨w7, hw7⟩ : ∃ zz, (x6.setCell ⟨g6, 0, none⟩ (.int .i64 fa)).setCell ⟨g6, 1, none⟩ (.string (S fb)) = zz := ⟨_, rfl⟩
          have U7 : Hid (Below w.heap.size w w7) := hid (hw7 ▸ (N6.out.setCell G6.out _).setCell G6.out _)
          have V7 : Hid (Below w5.heap.size w5 w7) := hid (hw7 ▸ (V6.out.setCell (p := ⟨g6, 0, none⟩) (by rw [hg6]; exact Nat.le_refl _) _).setCell (p := ⟨g6, 1, none⟩) (by rw [hg6]; exact Nat.le_refl _) _)
          have B7 := hid (B5.out.below V7.out)
          have E7 := hid (E5.out.below V7.out)
          have b8 := B7.out
          have c8_0 : w7.cell? ⟨g1, 0, none⟩ = some (.int .i64 3) := b8.cell 0
          have f8_0 : w7.frozen? ⟨g1, 0, none⟩ = false := b8.free 0
          have c8_1 : w7.cell? ⟨g1, 1, none⟩ = some (.slice FA q fc) := b8.cell 1
          have f8_1 : w7.frozen? ⟨g1, 1, none⟩ = false := b8.free 1
          have c8_2 : w7.cell? ⟨g1, 2, none⟩ = some (.slice NA q nc) := b8.cell 2
          have f8_2 : w7.frozen? ⟨g1, 2, none⟩ = false := b8.free 2
          clear b8
          go_wp2_with fail
          refine (HB2.out _ E7.out).mono ?_
          rintro e w9 ⟨rfl, b9⟩
          have U9 := hid (up_trans U7.out b9)
          have B9 := hid (B7.out.below b9)
          have E9 := hid (E7.out.below b9)
          clear b9 hw7 hg6 hx6 c6_0 c6_1 f6_0 f6_1 c8_0 c8_1 c8_2 f8_0 f8_1 f8_2
          obtain ⟨g10, hg10⟩ : ∃ g, w9.heap.size = g := ⟨_, rfl⟩
          obtain ⟨x10, hx10⟩ : ∃ zz, w9.alloc (.cells #[(.int .i64 0), (.string ⟨#[]⟩)] 52) = zz := ⟨_, rfl⟩
          have b10 : Blk x10 w9.heap.size #[(.int .i64 0), (.string ⟨#[]⟩)] 52 := hx10 ▸ Blk.new _ _ _
          have V10 : Hid (Below w9.heap.size w9 x10) := hid (hx10 ▸ up_alloc (up_refl _) _)
          have N10 : Hid (Below w.heap.size w x10) := hid (up_trans U9.out V10.out)
          have G10 : Hid (w.heap.size ≤ g10) := hid (by rw [← hg10]; exact U9.out.size)
          rw [hg10] at b10
          have l10 : g10 < x10.heap.size := b10.lt
          have c10_0 : x10.cell? ⟨g10, 0, none⟩ = some (.int .i64 0) := b10.cell 0
          have f10_0 : x10.frozen? ⟨g10, 0, none⟩ = false := b10.free 0
          have c10_1 : x10.cell? ⟨g10, 1, none⟩ = some (.string ⟨#[]⟩) := b10.cell 1
          have f10_1 : x10.frozen? ⟨g10, 1, none⟩ = false := b10.free 1
          have B10 := hid b10
          clear b10
          obtain ⟨w11, hw11⟩ : ∃ zz, (x10.setCell ⟨g10, 0, none⟩ (.int .i64 0)).setCell ⟨g10, 1, none⟩ (.string ⟨#[]⟩) = zz := ⟨_, rfl⟩
          have U11 : Hid (Below w.heap.size w w11) := hid (hw11 ▸ (N10.out.setCell G10.out _).setCell G10.out _)
          have V11 : Hid (Below w9.heap.size w9 w11) := hid (hw11 ▸ (V10.out.setCell (p := ⟨g10, 0, none⟩) (by rw [hg10]; exact Nat.le_refl _) _).setCell (p := ⟨g10, 1, none⟩) (by rw [hg10]; exact Nat.le_refl _) _)
          have B11 := hid (B9.out.below V11.out)
          have E11 := hid (E9.out.below V11.out)
          have b12 := B11.out
          have c12_0 : w11.cell? ⟨g1, 0, none⟩ = some (.int .i64 3) := b12.cell 0
          have f12_0 : w11.frozen? ⟨g1, 0, none⟩ = false := b12.free 0
          have c12_1 : w11.cell? ⟨g1, 1, none⟩ = some (.slice FA q fc) := b12.cell 1
          have f12_1 : w11.frozen? ⟨g1, 1, none⟩ = false := b12.free 1
          have c12_2 : w11.cell? ⟨g1, 2, none⟩ = some (.slice NA q nc) := b12.cell 2
          have f12_2 : w11.frozen? ⟨g1, 2, none⟩ = false := b12.free 2
          clear b12
          go_wp2_with fail
          refine (HB3.out _ E11.out).mono ?_
          rintro e w13 ⟨rfl, b13⟩
          have U13 := hid (up_trans U11.out b13)
          clear b13 hw11 hg10 hx10 c10_0 c10_1 f10_0 f10_1 c12_0 c12_1 c12_2 f12_0 f12_1 f12_2
          obtain ⟨g14, hg14⟩ : ∃ g, w13.heap.size = g := ⟨_, rfl⟩
          obtain ⟨x14, hx14⟩ : ∃ zz, w13.alloc (.cells #[(.int .i64 0), (.string ⟨#[]⟩)] 52) = zz := ⟨_, rfl⟩
          have b14 : Blk x14 w13.heap.size #[(.int .i64 0), (.string ⟨#[]⟩)] 52 := hx14 ▸ Blk.new _ _ _
          have V14 : Hid (Below w13.heap.size w13 x14) := hid (hx14 ▸ up_alloc (up_refl _) _)
          have N14 : Hid (Below w.heap.size w x14) := hid (up_trans U13.out V14.out)
          have G14 : Hid (w.heap.size ≤ g14) := hid (by rw [← hg14]; exact U13.out.size)
          rw [hg14] at b14
          have l14 : g14 < x14.heap.size := b14.lt
          have c14_0 : x14.cell? ⟨g14, 0, none⟩ = some (.int .i64 0) := b14.cell 0
          have f14_0 : x14.frozen? ⟨g14, 0, none⟩ = false := b14.free 0
          have c14_1 : x14.cell? ⟨g14, 1, none⟩ = some (.string ⟨#[]⟩) := b14.cell 1
          have f14_1 : x14.frozen? ⟨g14, 1, none⟩ = false := b14.free 1
          have B14 := hid b14
          clear b14
          have U15 := hid ((N14.out.setCell (p := ⟨g14, 0, none⟩) G14.out (.int .i64 0)).setCell (p := ⟨g14, 1, none⟩) G14.out (.string ⟨#[]⟩))
          go_wp2_with fail
          refine (law7_awake _ (HK.out.below U15.out)).mono ?_
          rintro e w16 ⟨rfl, b16⟩
          have U16 := hid (up_trans U15.out b16)
          clear b16
          go_wp2_with fail
          go_ret
          exact ⟨rfl, HG1.out ▸ U16.out⟩
        · have hqn : ((q : Int) < (j : Int)) = True := by simp; omega
          have hqj : q < j := by omega
          obtain ⟨ad, rfl, hbl, e0, e1⟩ := (HNR.out.below HUX.out).elem (fun x : NamedD => [.string (S x.name), .int .i64 x.index]) 2 (by decide) (fun _ => rfl) (j := q) (x := ⟨nmN q, (j : Int) - 1 - q⟩) (by simp [nsN, hqj])
          clear e1
          simp only [List.getElem?_cons_zero] at e0
          have hst := any_step j q o hqj
          have HBN : Hid (∀ wd, Below wr.heap.size wr wd → Calls Tryd.prog 21 #[.agg #[.int .i64 3, .slice FA j fc, .slice (some ad) j nc], .string (S (nmN q))] wd fun e w' => e = .returned (.tuple #[.agg #[.int .i64 (100 + (j : Int) - 1 - (q : Int)), .string ⟨#[]⟩], .bool true]) ∧ Below wd.heap.size wd w') := hid (fun wd hd => by
            have h := exps_ByName wd (exN j) _ (EXx.out.below hd) (nmN q) (exN_b0 j) (exN_b1 j)
            rw [find_name j q n200 hqj] at h
            exact h)
          have HBO : Hid (∀ wd, ExV wd (exN j) (.agg #[.int .i64 3, .slice FA j fc, .slice (some ad) j nc]) → Calls Tryd.prog 22 #[.agg #[.int .i64 3, .slice FA j fc, .slice (some ad) j nc], .int .i64 (3 + (q : Int))] wd fun e w' => e = .returned (.tuple #[.agg #[.int .i64 (100 + (q : Int)), .string ⟨#[]⟩], .bool true]) ∧ Below wd.heap.size wd w') := hid (fun wd hx => by
            have h := exps_ByOrd wd (exN j) _ hx (3 + (q : Int)) (exN_b0 j) (exN_b1 j) (by omega) (by omega)
            rw [find_ord j q hqj] at h
            exact h)
          have hS1 := S_toList (nmN q)
          have hS2 := S_toList o
          obtain ⟨nm, hnm⟩ : ∃ x, nmN q = x := ⟨_, rfl⟩
          rw [hnm] at e0 hst HBN hS1
          clear hnm
          have hg1l : g1 < wr.heap.size := BX.out.lt
          have hg1n : g1 ≠ wr.heap.size := by omega
          have hbn : (ad.add (q * 2)).block ≠ wr.heap.size := by omega
          go_upto_region 12 with fail
          go_cut [9, 10] (fun u9 u10 wb => ∃ g6, u9 = .pointer (some ⟨g6, 0, none⟩) ∧ u10 = .bool true ∧ Blk wb g6 #[(.int .i64 (100 + (j : Int) - 1 - (q : Int))), (.string ⟨#[]⟩)] 52 ∧ Below wr.heap.size wr wb)
          case first =>
            go_region_with (first | (go_at_call 21; refine (HBN.out _ ?_).mono ?_; (first | exact (up_alloc (up_refl _) _).drew | exact up_drewN (up_alloc (up_refl _) _) _); rintro e w5 ⟨rfl, b5⟩; have Ba : Blk w5 wr.heap.size #[.int .i64 0, .string ⟨#[]⟩] 52 := Blk.below (w := _) (by exact Blk.new wr _ _) b5; have Q5 := hid (up_trans (by first | exact (up_alloc (up_refl _) _).drew | exact up_drewN (up_alloc (up_refl _) _) _) b5); clear b5; obtain ⟨g6, hg6⟩ : ∃ g, wr.heap.size = g := ⟨_, rfl⟩; rw [hg6] at Ba; have c6_0 : w5.cell? ⟨g6, 0, none⟩ = some (.int .i64 0) := Ba.cell 0; have f6_0 : w5.frozen? ⟨g6, 0, none⟩ = false := Ba.free 0; have c6_1 : w5.cell? ⟨g6, 1, none⟩ = some (.string ⟨#[]⟩) := Ba.cell 1; have f6_1 : w5.frozen? ⟨g6, 1, none⟩ = false := Ba.free 1; obtain ⟨w7, hw7⟩ : ∃ zz, (w5.setCell ⟨g6, 0, none⟩ (.int .i64 (100 + (j : Int) - 1 - (q : Int)))).setCell ⟨g6, 1, none⟩ (.string ⟨#[]⟩) = zz := ⟨_, rfl⟩; have Bf : Hid (Blk w7 g6 #[(.int .i64 (100 + (j : Int) - 1 - (q : Int))), (.string ⟨#[]⟩)] 52) := hid (hw7 ▸ Ba.set2); have Q7 : Hid (Below wr.heap.size wr w7) := hid (hw7 ▸ (Q5.out.setCell (p := ⟨g6, 0, none⟩) (by rw [hg6]; exact Nat.le_refl _) _).setCell (p := ⟨g6, 1, none⟩) (by rw [hg6]; exact Nat.le_refl _) _); clear Ba Q5) | (go_at_call 21; refine (HBN.out _ ?_).mono ?_; (first | exact up_drew (up_refl _) | exact up_drewN (up_refl _) _ | exact up_refl _); rintro e w5 ⟨rfl, b5⟩; have Q5 : Hid (Below wr.heap.size wr w5) := hid (up_trans (by first | exact up_drew (up_refl _) | exact up_drewN (up_refl _) _ | exact up_refl _) b5); clear b5; have U5 := hid (up_trans UX.out Q5.out); obtain ⟨g6, hg6⟩ : ∃ g, w5.heap.size = g := ⟨_, rfl⟩; obtain ⟨x6, hx6⟩ : ∃ zz, w5.alloc (.cells #[(.int .i64 0), (.string ⟨#[]⟩)] 52) = zz := ⟨_, rfl⟩; have b6 : Blk x6 w5.heap.size #[(.int .i64 0), (.string ⟨#[]⟩)] 52 := hx6 ▸ Blk.new _ _ _; have V6 : Hid (Below w5.heap.size w5 x6) := hid (hx6 ▸ up_alloc (up_refl _) _); have N6 : Hid (Below w.heap.size w x6) := hid (up_trans U5.out V6.out); have G6 : Hid (w.heap.size ≤ g6) := hid (by rw [← hg6]; exact U5.out.size); rw [hg6] at b6; have l6 : g6 < x6.heap.size := b6.lt; have c6_0 : x6.cell? ⟨g6, 0, none⟩ = some (.int .i64 0) := b6.cell 0; have f6_0 : x6.frozen? ⟨g6, 0, none⟩ = false := b6.free 0; have c6_1 : x6.cell? ⟨g6, 1, none⟩ = some (.string ⟨#[]⟩) := b6.cell 1; have f6_1 : x6.frozen? ⟨g6, 1, none⟩ = false := b6.free 1; have B6 := hid b6; clear b6; obtain ⟨w7, hw7⟩ : ∃ zz, (x6.setCell ⟨g6, 0, none⟩ (.int .i64 (100 + (j : Int) - 1 - (q : Int)))).setCell ⟨g6, 1, none⟩ (.string ⟨#[]⟩) = zz := ⟨_, rfl⟩; have Bf : Hid (Blk w7 g6 #[(.int .i64 (100 + (j : Int) - 1 - (q : Int))), (.string ⟨#[]⟩)] 52) := hid (hw7 ▸ B6.out.set2); have Q7 : Hid (Below wr.heap.size wr w7) := hid (hw7 ▸ up_trans Q5.out ((V6.out.setCell (p := ⟨g6, 0, none⟩) (by rw [hg6]; exact Nat.le_refl _) _).setCell (p := ⟨g6, 1, none⟩) (by rw [hg6]; exact Nat.le_refl _) _)); clear Q5 U5 V6 N6 G6 B6))
            all_goals
              go_wp2_with fail
              go_meet
              exact ⟨g6, rfl, rfl, Bf.out, Q7.out⟩
          case rest =>
            obtain ⟨g6, rfl, rfl, hB6, hQ6⟩ := hcut
            have B6 := hid hB6
            have Q6 := hid hQ6
            have U6 := hid (up_trans UX.out hQ6)
            have E6 := hid (EXx.out.below hQ6)
            have BX6 := hid (BX.out.below hQ6)
            have b7 := BX6.out
            have c7_0 : wc.cell? ⟨g1, 0, none⟩ = some (.int .i64 3) := b7.cell 0
            have f7_0 : wc.frozen? ⟨g1, 0, none⟩ = false := b7.free 0
            have c7_1 : wc.cell? ⟨g1, 1, none⟩ = some (.slice FA j fc) := b7.cell 1
            have f7_1 : wc.frozen? ⟨g1, 1, none⟩ = false := b7.free 1
            have c7_2 : wc.cell? ⟨g1, 2, none⟩ = some (.slice (some ad) j nc) := b7.cell 2
            have f7_2 : wc.frozen? ⟨g1, 2, none⟩ = false := b7.free 2
            clear b7
            clear hB6 hQ6 f7_0 f7_1 f7_2 c4_0 c4_1 c4_2 hbn hg1n
            go_wp2_with fail
            refine (HBO.out _ E6.out).mono ?_
            rintro e w8 ⟨rfl, b8⟩
            have U8 := hid (up_trans U6.out b8)
            have Q8 := hid (up_trans Q6.out b8)
            have B8 := hid (B6.out.below b8)
            have BX8 := hid (BX6.out.below b8)
            clear b8 c7_0 c7_1 c7_2
            obtain ⟨g9, hg9⟩ : ∃ g, w8.heap.size = g := ⟨_, rfl⟩
            obtain ⟨x9, hx9⟩ : ∃ zz, w8.alloc (.cells #[(.int .i64 0), (.string ⟨#[]⟩)] 52) = zz := ⟨_, rfl⟩
            have b9 : Blk x9 w8.heap.size #[(.int .i64 0), (.string ⟨#[]⟩)] 52 := hx9 ▸ Blk.new _ _ _
            have V9 : Hid (Below w8.heap.size w8 x9) := hid (hx9 ▸ up_alloc (up_refl _) _)
            have N9 : Hid (Below w.heap.size w x9) := hid (up_trans U8.out V9.out)
            have G9 : Hid (w.heap.size ≤ g9) := hid (by rw [← hg9]; exact U8.out.size)
            rw [hg9] at b9
            have l9 : g9 < x9.heap.size := b9.lt
            have c9_0 : x9.cell? ⟨g9, 0, none⟩ = some (.int .i64 0) := b9.cell 0
            have f9_0 : x9.frozen? ⟨g9, 0, none⟩ = false := b9.free 0
            have c9_1 : x9.cell? ⟨g9, 1, none⟩ = some (.string ⟨#[]⟩) := b9.cell 1
            have f9_1 : x9.frozen? ⟨g9, 1, none⟩ = false := b9.free 1
            have B9 := hid b9
            clear b9
            obtain ⟨w10, hw10⟩ : ∃ zz, (x9.setCell ⟨g9, 0, none⟩ (.int .i64 (100 + (q : Int)))).setCell ⟨g9, 1, none⟩ (.string ⟨#[]⟩) = zz := ⟨_, rfl⟩
            have B10 : Hid (Blk w10 g9 #[.int .i64 (100 + (q : Int)), .string ⟨#[]⟩] 52) := hid (hw10 ▸ B9.out.set2)
            have V10 : Hid (Below w8.heap.size w8 w10) := hid (hw10 ▸ (V9.out.setCell (p := ⟨g9, 0, none⟩) (by rw [hg9]; exact Nat.le_refl _) _).setCell (p := ⟨g9, 1, none⟩) (by rw [hg9]; exact Nat.le_refl _) _)
            have B11 := hid (B8.out.below V10.out)
            have BX11 := hid (BX8.out.below V10.out)
            have Q11 := hid (up_trans Q8.out V10.out)
            have e0b := (Q11.out.cell (p := ad.add (q * 2)) hbl).trans e0
            have b12 := B10.out
            have c12_0 : w10.cell? ⟨g9, 0, none⟩ = some (.int .i64 (100 + (q : Int))) := b12.cell 0
            have f12_0 : w10.frozen? ⟨g9, 0, none⟩ = false := b12.free 0
            have c12_1 : w10.cell? ⟨g9, 1, none⟩ = some (.string ⟨#[]⟩) := b12.cell 1
            have f12_1 : w10.frozen? ⟨g9, 1, none⟩ = false := b12.free 1
            clear b12
            have b13 := B11.out
            have c13_0 : w10.cell? ⟨g6, 0, none⟩ = some (.int .i64 (100 + (j : Int) - 1 - (q : Int))) := b13.cell 0
            have f13_0 : w10.frozen? ⟨g6, 0, none⟩ = false := b13.free 0
            have c13_1 : w10.cell? ⟨g6, 1, none⟩ = some (.string ⟨#[]⟩) := b13.cell 1
            have f13_1 : w10.frozen? ⟨g6, 1, none⟩ = false := b13.free 1
            clear b13
            have b14 := BX11.out
            have c14_0 : w10.cell? ⟨g1, 0, none⟩ = some (.int .i64 3) := b14.cell 0
            have f14_0 : w10.frozen? ⟨g1, 0, none⟩ = false := b14.free 0
            have c14_1 : w10.cell? ⟨g1, 1, none⟩ = some (.slice FA j fc) := b14.cell 1
            have f14_1 : w10.frozen? ⟨g1, 1, none⟩ = false := b14.free 1
            have c14_2 : w10.cell? ⟨g1, 2, none⟩ = some (.slice (some ad) j nc) := b14.cell 2
            have f14_2 : w10.frozen? ⟨g1, 2, none⟩ = false := b14.free 2
            clear b14
            have HQX : Hid (Below wL.heap.size wL w10) := hid (up_trans HUX.out Q11.out)
            cases hb : ((nsN j j).take q).any (fun m => m.name == o) with
            | true =>
              rw [hb, Bool.true_or] at hst
              have HST := hid hst
              clear hst hb
              go_wp2_with fail
              go_roundg k
              case measure => omega
              case rel => exact ⟨q + 1, by go_num, by omega, by rw [HST.out], HQX.out⟩
            | false =>
              rw [hb, Bool.false_or] at hst
              have HST := hid hst
              clear hst hb
              go_wp2_with fail
              go_roundg k
              case measure => omega
              case rel => exact ⟨q + 1, by go_num, by omega, by rw [HST.out], HQX.out⟩
    · have hjn : ((j : Int) < (n : Int)) = True := by simp; omega
      have b3 := HE.out
      have c3_0 : wr.cell? ⟨g1, 0, none⟩ = some (.int .i64 3) := b3.cell 0
      have f3_0 : wr.frozen? ⟨g1, 0, none⟩ = false := b3.free 0
      have c3_1 : wr.cell? ⟨g1, 1, none⟩ = some (.slice FA j fc) := b3.cell 1
      have f3_1 : wr.frozen? ⟨g1, 1, none⟩ = false := b3.free 1
      have c3_2 : wr.cell? ⟨g1, 2, none⟩ = some (.slice NA j nc) := b3.cell 2
      have f3_2 : wr.frozen? ⟨g1, 2, none⟩ = false := b3.free 2
      clear b3
      have hq : (j : Int) / 26 = ((j / 26 : Nat) : Int) := by omega
      have hq2 : j / 26 < 8 := by omega
      have hr2 : j % 26 < 26 := by omega
      have hr : (j : Int) % 26 = ((j % 26 : Nat) : Int) := by omega
      have hnm : nmN j = [UInt8.ofNat (97 + j / 26), UInt8.ofNat (97 + j % 26)] := rfl
      obtain ⟨q, hqq⟩ : ∃ q, j / 26 = q := ⟨_, rfl⟩
      obtain ⟨r, hrr⟩ : ∃ r, j % 26 = r := ⟨_, rfl⟩
      rw [hqq] at hq hq2 hnm
      rw [hrr] at hr hr2 hnm
      have hc1 : IntKind.u8.wrap (q : Int) = (q : Int) := by simp [IntKind.wrap, IntKind.bits, IntKind.signed]; omega
      have hc2 : IntKind.u8.wrap (r : Int) = (r : Int) := by simp [IntKind.wrap, IntKind.bits, IntKind.signed]; omega
      have hc3 : IntKind.u8.wrap (97 + (q : Int)) = 97 + (q : Int) := by simp [IntKind.wrap, IntKind.bits, IntKind.signed]; omega
      have hc4 : IntKind.u8.wrap (97 + (r : Int)) = 97 + (r : Int) := by simp [IntKind.wrap, IntKind.bits, IntKind.signed]; omega
      have HNM := hid hnm
      have hstr := fun W h hh => str_two W h hh (97 + q) (97 + r) (by omega) (by omega) (97 + (q : Int)) (97 + (r : Int)) (by omega) (by omega)
      rw [← hnm] at hstr
      have HSTR := hid hstr
      clear hE hF hN hU hnm hqq hrr hstr
      go_wp2_with (first | (at_builtin; refine wp_app' wr (o := ⟨some 34, _, _, _, _, _⟩) rfl _ _ 44 rfl NB 52 (.agg #[.int .i64 0, .string ⟨#[]⟩]) 2 24 Tryd.underlying44 infoFunc rfl (by decide) (.slice FA j fc) j (fcells (fsN j)) (by rfl) HF.out [.int .i64 (100 + (j : Int)), .string ⟨#[]⟩] rfl (by simp [Value.oneCell']) wr.heap.size (by rfl) (by simp) (by omega) (by omega) hs ?_; intro v1 w3 hown1 hbel1 hgr1; obtain ⟨FA1, fc1, rfl, -, -⟩ := own_row hown1; obtain ⟨p1, p2, p3, p4, p5, p6⟩ := finds_step hgN hs HE.out HF.out HN.out HU.out G1.out hgr1 hown1; have P2 := hid p2; have P3 := hid p3; have P4 := hid p4; have P5 := hid p5; have q1 := p1.cell 1; have q2 := p1.free 1; have q3 := p1.cell 2; have q4 := p1.free 2; simp only [List.getElem?_toArray, List.getElem?_cons_succ, List.getElem?_cons_zero] at q1 q3; have hcv := HSTR.out (w3.setCell ⟨g1, 1, none⟩ (.slice FA1 (j + 1) fc1)) w3.heap.size (by simp [World.setCell]); clear p1 p2 p3 p4 p5 hown1 hbel1 hgr1) | (at_builtin; refine wp_app' ((w3.setCell ⟨g1, 1, none⟩ (.slice FA1 (j + 1) fc1)).alloc (.cells #[.int .u8 (97 + (q : Int)), .int .u8 (97 + (r : Int))] 5)) (o := ⟨some 54, _, _, _, _, _⟩) rfl _ _ 45 rfl NB 57 (.agg #[.string ⟨#[]⟩, .int .i64 0]) 2 24 Tryd.underlying45 infoNamed rfl (by decide) (.slice NA j nc) j (ncells (nsN n j)) (by rfl) (P4.out.alloc _) [.string (S (nmN j)), .int .i64 ((n : Int) - 1 - (j : Int))] rfl (by simp [Value.oneCell']) (w3.heap.size + 1) (by rfl) (by simp [World.setCell]) (by omega) (by omega) (by simp [World.setCell]; omega) ?_; intro v2 w4 hown2 hbel2 hgr2; obtain ⟨NA1, nc1, rfl, -, -⟩ := own_row hown2; obtain ⟨s1, s2, s3, s4, s5, s6⟩ := finds_step2 hgN P2.out P3.out P4.out P5.out G1.out P5.out.size (up_alloc (up_alloc (up_refl _) _) _) hgr2 hown2 (by simp [World.setCell]; omega); have S2 := hid s2; have S3 := hid s3; have S4 := hid s4; have S5 := hid s5; have q5 := s1.cell 2; have q6 := s1.free 2; simp only [List.getElem?_toArray, List.getElem?_cons_succ, List.getElem?_cons_zero] at q5; clear s1 s2 s3 s4 s5 hown2 hbel2 hgr2))
      go_roundg k
      case measure => omega
      case rel => exact ⟨j + 1, _, _, by go_num, by omega, S2.out, by rw [fsN_succ, fcells_snoc]; exact S3.out, by rw [nsN_succ, ncells_snoc]; exact S4.out, S5.out, s6⟩
end Go.Proofs.YtapllnnconpieaaDoor
