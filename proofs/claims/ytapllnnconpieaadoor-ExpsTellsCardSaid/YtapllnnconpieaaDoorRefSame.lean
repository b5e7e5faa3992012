/- slipwayref1.SameExports. -/
import Derived.Test.YtapllnnconpieaaDoorExpsF
import Derived.Outline
set_option linter.unusedVariables false
namespace Go.Proofs.YtapllnnconpieaaDoor
open Go.RowKit

/-- Whether two rows of functions, of names are the same. -/
def eqF (f g : FuncD) : Bool := f.rva == g.rva && f.fwd == g.fwd
def eqN (f g : NamedD) : Bool := f.name == g.name && f.index == g.index
def sameL {α : Type} (q : α → α → Bool) : List α → List α → Bool
  | f :: a, g :: b => q f g && sameL q a b
  | _, _ => true
theorem sameL_step {α : Type} (q : α → α → Bool) (a b : List α) (j : Nat) (h : j < a.length) (h' : j < b.length) : sameL q (a.drop j) (b.drop j) = (q a[j] b[j] && sameL q (a.drop (j + 1)) (b.drop (j + 1))) := by
  rw [List.drop_eq_getElem_cons h, List.drop_eq_getElem_cons h']
  rfl
theorem sameL_refl {α : Type} (q : α → α → Bool) (hq : ∀ f, q f f = true) : ∀ a : List α, sameL q a a = true
  | [] => rfl
  | f :: a => by
    rw [sameL, hq, sameL_refl q hq a]
    rfl
def sameE (x y : ExpsD) : Bool := x.base == y.base && decide (x.funcs.length = y.funcs.length) && decide (x.names.length = y.names.length) && sameL eqF x.funcs y.funcs && sameL eqN x.names y.names
theorem sameE_refl (x : ExpsD) : sameE x x = true := by
  unfold sameE
  rw [sameL_refl eqF (fun f => by simp [eqF]), sameL_refl eqN (fun f => by simp [eqN])]
  simp

set_option maxRecDepth 100000 in
set_option maxHeartbeats 8000000 in
theorem ref_SameExports (w : World) (x y : ExpsD) (v u : Value) (hx : ExV w x v) (hy : ExV w y u) :
    Calls Tryd.prog 26 #[v, u] w fun e w' => e = .returned (.bool (sameE x y)) ∧ Below w.heap.size w w' := by
  have n63 : ∀ {a : Nat}, a ≤ 140737488355328 → (a : Int) ≤ 9223372036854775807 := fun h => by omega
  obtain ⟨⟨FA, fc, NA, nc, rfl, h1, h2, h3, h4⟩, h5, h6⟩ := hx
  obtain ⟨⟨FB, fd, MB, md, rfl, k1, k2, k3, k4⟩, k5, k6⟩ := hy
  have U0 := hid (up_refl w)
  obtain ⟨g1, hg1⟩ : ∃ g, w.heap.size = g := ⟨_, rfl⟩
  obtain ⟨x1, hx1⟩ : ∃ zz, w.alloc (.cells #[(.int .i64 x.base), (.slice FA x.funcs.length fc), (.slice NA x.names.length nc)] 47) = zz := ⟨_, rfl⟩
  have b1 : Blk x1 w.heap.size #[(.int .i64 x.base), (.slice FA x.funcs.length fc), (.slice NA x.names.length nc)] 47 := hx1 ▸ Blk.new _ _ _
  have V1 : Hid (Below w.heap.size w x1) := hid (hx1 ▸ up_alloc (up_refl _) _)
  have N1 : Hid (Below w.heap.size w x1) := hid (up_trans U0.out V1.out)
  have G1 : Hid (w.heap.size ≤ g1) := hid (by rw [← hg1]; exact U0.out.size)
  rw [hg1] at b1
  have l1 : g1 < x1.heap.size := b1.lt
  have c1_0 : x1.cell? ⟨g1, 0, none⟩ = some (.int .i64 x.base) := b1.cell 0
  have f1_0 : x1.frozen? ⟨g1, 0, none⟩ = false := b1.free 0
  have c1_1 : x1.cell? ⟨g1, 1, none⟩ = some (.slice FA x.funcs.length fc) := b1.cell 1
  have f1_1 : x1.frozen? ⟨g1, 1, none⟩ = false := b1.free 1
  have c1_2 : x1.cell? ⟨g1, 2, none⟩ = some (.slice NA x.names.length nc) := b1.cell 2
  have f1_2 : x1.frozen? ⟨g1, 2, none⟩ = false := b1.free 2
  have B1 := hid b1
  clear b1
  obtain ⟨g2, hg2⟩ : ∃ g, x1.heap.size = g := ⟨_, rfl⟩
  obtain ⟨x2, hx2⟩ : ∃ zz, x1.alloc (.cells #[(.int .i64 y.base), (.slice FB y.funcs.length fd), (.slice MB y.names.length md)] 47) = zz := ⟨_, rfl⟩
  have b2 : Blk x2 x1.heap.size #[(.int .i64 y.base), (.slice FB y.funcs.length fd), (.slice MB y.names.length md)] 47 := hx2 ▸ Blk.new _ _ _
  have V2 : Hid (Below x1.heap.size x1 x2) := hid (hx2 ▸ up_alloc (up_refl _) _)
  have N2 : Hid (Below w.heap.size w x2) := hid (up_trans N1.out V2.out)
  have G2 : Hid (w.heap.size ≤ g2) := hid (by rw [← hg2]; exact N1.out.size)
  rw [hg2] at b2
  have l2 : g2 < x2.heap.size := b2.lt
  have c2_0 : x2.cell? ⟨g2, 0, none⟩ = some (.int .i64 y.base) := b2.cell 0
  have f2_0 : x2.frozen? ⟨g2, 0, none⟩ = false := b2.free 0
  have c2_1 : x2.cell? ⟨g2, 1, none⟩ = some (.slice FB y.funcs.length fd) := b2.cell 1
  have f2_1 : x2.frozen? ⟨g2, 1, none⟩ = false := b2.free 1
  have c2_2 : x2.cell? ⟨g2, 2, none⟩ = some (.slice MB y.names.length md) := b2.cell 2
  have f2_2 : x2.frozen? ⟨g2, 2, none⟩ = false := b2.free 2
  have B2 := hid b2
  clear b2
  have B1' := hid (B1.out.below V2.out)
  have b3 := B1'.out
  have c3_0 : x2.cell? ⟨g1, 0, none⟩ = some (.int .i64 x.base) := b3.cell 0
  have f3_0 : x2.frozen? ⟨g1, 0, none⟩ = false := b3.free 0
  have c3_1 : x2.cell? ⟨g1, 1, none⟩ = some (.slice FA x.funcs.length fc) := b3.cell 1
  have f3_1 : x2.frozen? ⟨g1, 1, none⟩ = false := b3.free 1
  have c3_2 : x2.cell? ⟨g1, 2, none⟩ = some (.slice NA x.names.length nc) := b3.cell 2
  have f3_2 : x2.frozen? ⟨g1, 2, none⟩ = false := b3.free 2
  clear b3
  clear f1_0 f1_1 f1_2 f2_0 f2_1 f2_2 c1_0 c1_1 c1_2 f3_0 f3_1 f3_2 V1 V2 n63
  obtain ⟨R, hR⟩ : ∃ r, sameE x y = r := ⟨_, rfl⟩
  rw [hR]
  unfold sameE at hR
  by_cases q1 : x.base = y.base
  · have q1b : (x.base == y.base) = true := by simpa using q1
    have q1c : (x.base != y.base) = false := by rw [bne_eq_false_iff_eq]; exact q1
    by_cases q2 : x.funcs.length = y.funcs.length
    · have q2b : ((x.funcs.length : Int) != (y.funcs.length : Int)) = false := by rw [bne_eq_false_iff_eq]; omega
      by_cases q3 : x.names.length = y.names.length
      · have q3b : ((x.names.length : Int) != (y.names.length : Int)) = false := by rw [bne_eq_false_iff_eq]; omega
        rw [q1b, decide_eq_true q2, decide_eq_true q3, Bool.true_and, Bool.true_and, Bool.true_and] at hR
        have HFA := hid (h1.below N2.out)
        have HNA := hid (h2.below N2.out)
        have HFB := hid (k1.below N2.out)
        have HNB := hid (k2.below N2.out)
        have HR0 : Hid ((sameL eqF (x.funcs.drop 0) (y.funcs.drop 0) && sameL eqN x.names y.names) = R) := hid (by rw [List.drop_zero, List.drop_zero]; exact hR)
        have Q2 := hid q2
        have Q3 := hid q3
        have HG1 : Hid (w.heap.size = g1) := hg1
        clear hR h1 h2 k1 k2 q1 q2 q3
        go_enter Tryd.func26, Tryd.ntmps26
        go_wp2_with fail
        clear hg1 hx1 hg2 hx2
        go_loopg [5] x.funcs.length (fun k i wr => ∃ j : Nat, i = .int .i64 j ∧ j + k = x.funcs.length ∧ Below x2.heap.size x2 wr ∧ Hid ((sameL eqF (x.funcs.drop j) (y.funcs.drop j) && sameL eqN x.names y.names) = R))
        case atStart => exact ⟨0, rfl, by omega, up_refl _, HR0⟩
        case round =>
          obtain ⟨j, rfl, hj, hu, hf⟩ := hrel
          have HU := hid hu
          have HW := hid (up_trans N2.out hu)
          have Bw1 := hid (B1'.out.below hu)
          have Bw2 := hid (B2.out.below hu)
          have b6 := Bw1.out
          have c6_0 : wr.cell? ⟨g1, 0, none⟩ = some (.int .i64 x.base) := b6.cell 0
          have f6_0 : wr.frozen? ⟨g1, 0, none⟩ = false := b6.free 0
          have c6_1 : wr.cell? ⟨g1, 1, none⟩ = some (.slice FA x.funcs.length fc) := b6.cell 1
          have f6_1 : wr.frozen? ⟨g1, 1, none⟩ = false := b6.free 1
          have c6_2 : wr.cell? ⟨g1, 2, none⟩ = some (.slice NA x.names.length nc) := b6.cell 2
          have f6_2 : wr.frozen? ⟨g1, 2, none⟩ = false := b6.free 2
          clear b6
          have b7 := Bw2.out
          have c7_0 : wr.cell? ⟨g2, 0, none⟩ = some (.int .i64 y.base) := b7.cell 0
          have f7_0 : wr.frozen? ⟨g2, 0, none⟩ = false := b7.free 0
          have c7_1 : wr.cell? ⟨g2, 1, none⟩ = some (.slice FB y.funcs.length fd) := b7.cell 1
          have f7_1 : wr.frozen? ⟨g2, 1, none⟩ = false := b7.free 1
          have c7_2 : wr.cell? ⟨g2, 2, none⟩ = some (.slice MB y.names.length md) := b7.cell 2
          have f7_2 : wr.frozen? ⟨g2, 2, none⟩ = false := b7.free 2
          clear b7
          clear hu f6_0 f6_1 f6_2 f7_0 f7_1 f7_2
          rcases gk with _ | k
          · have hjn : ((j : Int) < (x.funcs.length : Int)) = False := by simp; omega
            have HR1 : Hid (sameL eqN (x.names.drop 0) (y.names.drop 0) = R) := hid (by
              have h := hf.out
              rw [List.drop_of_length_le (by omega), List.drop_of_length_le (by have := Q2.out; omega)] at h
              rw [List.drop_zero, List.drop_zero]
              exact h)
            clear hf
            go_wp2_with fail
            clear c6_0 c6_1 c6_2 c7_0 c7_1 c7_2
            obtain ⟨wA, rfl⟩ : ∃ z, z = wr := ⟨_, rfl⟩
            go_loopg [6] x.names.length (fun k i wz => ∃ q : Nat, i = .int .i64 q ∧ q + k = x.names.length ∧ Below x2.heap.size x2 wz ∧ Hid (sameL eqN (x.names.drop q) (y.names.drop q) = R))
            case atStart => exact ⟨0, rfl, by omega, HU.out, HR1⟩
            case round =>
              obtain ⟨q, rfl, hq, hu, hf⟩ := hrel
              have HU := hid hu
              have HW := hid (up_trans N2.out hu)
              have Bw1 := hid (B1'.out.below hu)
              have Bw2 := hid (B2.out.below hu)
              have b8 := Bw1.out
              have c8_0 : wr.cell? ⟨g1, 0, none⟩ = some (.int .i64 x.base) := b8.cell 0
              have f8_0 : wr.frozen? ⟨g1, 0, none⟩ = false := b8.free 0
              have c8_1 : wr.cell? ⟨g1, 1, none⟩ = some (.slice FA x.funcs.length fc) := b8.cell 1
              have f8_1 : wr.frozen? ⟨g1, 1, none⟩ = false := b8.free 1
              have c8_2 : wr.cell? ⟨g1, 2, none⟩ = some (.slice NA x.names.length nc) := b8.cell 2
              have f8_2 : wr.frozen? ⟨g1, 2, none⟩ = false := b8.free 2
              clear b8
              have b9 := Bw2.out
              have c9_0 : wr.cell? ⟨g2, 0, none⟩ = some (.int .i64 y.base) := b9.cell 0
              have f9_0 : wr.frozen? ⟨g2, 0, none⟩ = false := b9.free 0
              have c9_1 : wr.cell? ⟨g2, 1, none⟩ = some (.slice FB y.funcs.length fd) := b9.cell 1
              have f9_1 : wr.frozen? ⟨g2, 1, none⟩ = false := b9.free 1
              have c9_2 : wr.cell? ⟨g2, 2, none⟩ = some (.slice MB y.names.length md) := b9.cell 2
              have f9_2 : wr.frozen? ⟨g2, 2, none⟩ = false := b9.free 2
              clear b9
              clear hu f8_0 f8_1 f8_2 f9_0 f9_1 f9_2
              rcases gk with _ | k
              · have hqn : ((q : Int) < (x.names.length : Int)) = False := by simp; omega
                obtain rfl : R = true := by
                  have h := hf.out
                  rw [List.drop_of_length_le (by omega)] at h
                  rw [← h]
                  rfl
                go_wp2_with fail
                go_ret
                exact ⟨rfl, HG1.out ▸ HW.out⟩
              · have hqn : ((q : Int) < (x.names.length : Int)) = True := by simp; omega
                have hql : q < x.names.length := by omega
                have hql2 : q < y.names.length := by have := Q3.out; omega
                have hst := sameL_step eqN x.names y.names q hql hql2
                rw [hf.out] at hst
                obtain ⟨⟨an, ai⟩, ha⟩ : ∃ m, x.names[q] = m := ⟨_, rfl⟩
                obtain ⟨⟨bn, bi⟩, hb⟩ : ∃ m, y.names[q] = m := ⟨_, rfl⟩
                rw [ha, hb] at hst
                obtain ⟨ad, rfl, -, e0, e1⟩ := (HNA.out.below HU.out).elem (fun x : NamedD => [.string (S x.name), .int .i64 x.index]) 2 (by decide) (fun _ => rfl) (j := q) (x := ⟨an, ai⟩) (by rw [List.getElem?_eq_getElem hql, ha])
                have e1 := e1 1 (by decide) (by decide)
                obtain ⟨bd, rfl, -, e2, e3⟩ := (HNB.out.below HU.out).elem (fun x : NamedD => [.string (S x.name), .int .i64 x.index]) 2 (by decide) (fun _ => rfl) (j := q) (x := ⟨bn, bi⟩) (by rw [List.getElem?_eq_getElem hql2, hb])
                have e3 := e3 1 (by decide) (by decide)
                simp only [List.getElem?_cons_zero, List.getElem?_cons_succ] at e0 e1 e2 e3
                have hyx : ((q : Int) < (y.names.length : Int)) = True := by simp; omega
                have HST := hid hst
                have hS1 := S_toList an
                have hS2 := S_toList bn
                clear hst ha hb hf
                by_cases c1 : an = bn
                · subst c1
                  by_cases c2 : ai = bi
                  · subst c2
                    have hn : sameL eqN (x.names.drop (q + 1)) (y.names.drop (q + 1)) = R := by
                      have h := HST.out
                      rw [show eqN ⟨an, ai⟩ ⟨an, ai⟩ = true by simp [eqN], Bool.true_and] at h
                      exact h.symm
                    have HN1 := hid hn
                    clear hn HST hS2
                    go_wp2_with fail
                    go_quiet (fail)
                    go_wp2_with fail
                    go_roundg k
                    case measure => omega
                    case rel => exact ⟨q + 1, by go_num, by omega, up_drewN HU.out _, HN1⟩
                  · have c3 : (ai == bi) = false := by simpa using c2
                    obtain rfl : R = false := by rw [HST.out, show eqN ⟨an, ai⟩ ⟨an, bi⟩ = false by simp [eqN, c3], Bool.false_and]
                    clear HST hS2
                    go_wp2_with fail
                    go_quiet (fail)
                    go_wp2_with fail
                    go_ret
                    exact ⟨rfl, HG1.out ▸ up_drewN HW.out _⟩
                · have c3 : (an == bn) = false := by simpa using c1
                  obtain rfl : R = false := by rw [HST.out, show eqN ⟨an, ai⟩ ⟨bn, bi⟩ = false by simp [eqN, c3], Bool.false_and]
                  clear HST
                  go_wp2_with fail
                  go_quiet (fail)
                  go_wp2_with fail
                  go_ret
                  exact ⟨rfl, HG1.out ▸ up_drewN HW.out _⟩
          · have hjn : ((j : Int) < (x.funcs.length : Int)) = True := by simp; omega
            have hjl : j < x.funcs.length := by omega
            have hjl2 : j < y.funcs.length := by have := Q2.out; omega
            have hst := sameL_step eqF x.funcs y.funcs j hjl hjl2
            obtain ⟨⟨ai, an⟩, ha⟩ : ∃ m, x.funcs[j] = m := ⟨_, rfl⟩
            obtain ⟨⟨bi, bn⟩, hb⟩ : ∃ m, y.funcs[j] = m := ⟨_, rfl⟩
            rw [ha, hb] at hst
            have HF := hid hf.out
            rw [hst] at HF
            obtain ⟨ad, rfl, -, e0, e1⟩ := (HFA.out.below HU.out).elem (fun x : FuncD => [.int .i64 x.rva, .string (S x.fwd)]) 2 (by decide) (fun _ => rfl) (j := j) (x := ⟨ai, an⟩) (by rw [List.getElem?_eq_getElem hjl, ha])
            have e1 := e1 1 (by decide) (by decide)
            obtain ⟨bd, rfl, -, e2, e3⟩ := (HFB.out.below HU.out).elem (fun x : FuncD => [.int .i64 x.rva, .string (S x.fwd)]) 2 (by decide) (fun _ => rfl) (j := j) (x := ⟨bi, bn⟩) (by rw [List.getElem?_eq_getElem hjl2, hb])
            have e3 := e3 1 (by decide) (by decide)
            simp only [List.getElem?_cons_zero, List.getElem?_cons_succ] at e0 e1 e2 e3
            have hyx : ((j : Int) < (y.funcs.length : Int)) = True := by simp; omega
            have hS1 := S_toList an
            have hS2 := S_toList bn
            clear hst ha hb hf
            by_cases c2 : ai = bi
            · subst c2
              by_cases c1 : an = bn
              · subst c1
                have hn : (sameL eqF (x.funcs.drop (j + 1)) (y.funcs.drop (j + 1)) && sameL eqN x.names y.names) = R := by
                  have h := HF.out
                  rw [show eqF ⟨ai, an⟩ ⟨ai, an⟩ = true by simp [eqF], Bool.true_and] at h
                  exact h
                have HN1 := hid hn
                clear hn HF hS2
                go_wp2_with fail
                go_quiet (fail)
                go_wp2_with fail
                go_roundg k
                case measure => omega
                case rel => exact ⟨j + 1, by go_num, by omega, up_drewN HU.out _, HN1⟩
              · have c3 : (an == bn) = false := by simpa using c1
                obtain rfl : R = false := by rw [← HF.out, show eqF ⟨ai, an⟩ ⟨ai, bn⟩ = false by simp [eqF, c3], Bool.false_and, Bool.false_and]
                clear HF
                go_wp2_with fail
                go_quiet (fail)
                go_wp2_with fail
                go_ret
                exact ⟨rfl, HG1.out ▸ up_drewN HW.out _⟩
            · have c3 : (ai == bi) = false := by simpa using c2
              obtain rfl : R = false := by rw [← HF.out, show eqF ⟨ai, an⟩ ⟨bi, bn⟩ = false by simp [eqF, c3], Bool.false_and, Bool.false_and]
              clear HF
              go_wp2_with fail
              go_quiet (fail)
              go_wp2_with fail
              go_ret
              exact ⟨rfl, HG1.out ▸ up_drewN HW.out _⟩
      · have q3b : ((x.names.length : Int) != (y.names.length : Int)) = true := by rw [bne_iff_ne]; omega
        rw [q1b, decide_eq_true q2, decide_eq_false q3, Bool.and_false, Bool.false_and, Bool.false_and] at hR
        subst hR
        clear h1 h2 k1 k2 q1 q2 q3
        go_enter Tryd.func26, Tryd.ntmps26
        go_wp2_with fail
        go_ret
        exact ⟨rfl, hg1 ▸ N2.out⟩
    · have q2b : ((x.funcs.length : Int) != (y.funcs.length : Int)) = true := by rw [bne_iff_ne]; omega
      rw [q1b, decide_eq_false q2, Bool.and_false, Bool.false_and, Bool.false_and, Bool.false_and] at hR
      subst hR
      clear h1 h2 k1 k2 q1 q2
      go_enter Tryd.func26, Tryd.ntmps26
      go_wp2_with fail
      go_ret
      exact ⟨rfl, hg1 ▸ N2.out⟩
  · have q1b : (x.base == y.base) = false := by simpa using q1
    have q1c : (x.base != y.base) = true := by rw [bne_iff_ne]; exact q1
    rw [q1b, Bool.false_and, Bool.false_and, Bool.false_and, Bool.false_and] at hR
    subst hR
    clear h1 h2 k1 k2 q1
    go_enter Tryd.func26, Tryd.ntmps26
    go_wp2_with fail
    go_ret
    exact ⟨rfl, hg1 ▸ N2.out⟩
end Go.Proofs.YtapllnnconpieaaDoor
