/- slipwaylaw7.At, Made: an image's bytes with a directory of what it offers. -/
import Derived.Test.YtapllnnconpieaaDoorPut7
import Derived.Test.YtapllnnconpieaaDoorAppS
import Derived.Test.YtapllnnconpieaaDoorApp
import Derived.Test.YtapllnnconpieaaDoorMk
import Derived.Test.YtapllnnconpieaaDoorFold2
import Derived.Outline
set_option linter.unusedVariables false
namespace Go.Proofs.YtapllnnconpieaaDoor
open Go.RowKit

/-- A row of texts. -/
def strs (xs : List (List UInt8)) : List Value := xs.map fun s => .string (S s)
def atHead (start n m base : Nat) : List UInt8 :=
  putF (putF (putF (putF (putF (putF (zer (start + 40 + 4 * n + 6 * m)) (start + 16) 4 base) (start + 20) 4 n) (start + 24) 4 m) (start + 28) 4 (start + 40)) (start + 32) 4 (start + 40 + 4 * n)) (start + 36) 4 (start + 40 + 4 * n + 4 * m)
def atFn (start : Nat) (b : List UInt8) (i : Nat) (s : List UInt8) : List UInt8 :=
  if s.contains 46 then putF (b ++ s ++ [0]) (start + 40 + 4 * i) 4 b.length else putF b (start + 40 + 4 * i) 4 (if s = [] then 0 else 64 + i)
def atFns (start : Nat) : List (List UInt8) → Nat → List UInt8 → List UInt8
  | [], _, b => b
  | s :: ss, i, b => atFns start ss (i + 1) (atFn start b i s)
def atNm (start n m : Nat) (b : List UInt8) (i : Nat) (s : List UInt8) : List UInt8 :=
  putF (putF b (start + 40 + 4 * n + 4 * i) 4 b.length) (start + 40 + 4 * n + 4 * m + 2 * i) 2 (i % max n 1) ++ s ++ [0]
def atNms (start n m : Nat) : List (List UInt8) → Nat → List UInt8 → List UInt8
  | [], _, b => b
  | s :: ss, i, b => atNms start n m ss (i + 1) (atNm start n m b i s)
def atB (start : Nat) (funcs names : List (List UInt8)) (base : Nat) : List UInt8 :=
  atFns start (funcs.take 12) 0 (atHead start (min funcs.length 12) (min names.length 12) base)
def atF (start : Nat) (funcs names : List (List UInt8)) (base : Nat) : List UInt8 :=
  atNms start (min funcs.length 12) (min names.length 12) (names.take 12) 0 (atB start funcs names base)

theorem atHead_length (start n m base : Nat) : (atHead start n m base).length = start + 40 + 4 * n + 6 * m := by
  unfold atHead
  simp only [putF_length, zer_length]
theorem atFn_length (start : Nat) (b : List UInt8) (i : Nat) (s : List UInt8) : b.length ≤ (atFn start b i s).length ∧ (atFn start b i s).length ≤ b.length + s.length + 1 := by
  unfold atFn
  split
  · rw [putF_length]
    simp
    omega
  · rw [putF_length]
    omega
theorem atNm_length (start n m : Nat) (b : List UInt8) (i : Nat) (s : List UInt8) : (atNm start n m b i s).length = b.length + s.length + 1 := by
  unfold atNm
  simp only [List.length_append, putF_length, List.length_singleton]

theorem pt_step (s : List UInt8) (j : Nat) (h : j < s.length) : (s.take (j + 1)).contains 46 = ((s.take j).contains 46 || decide ((s[j].toNat : Int) = 46)) := by
  rw [take_snoc s j h]
  simp only [List.contains_eq_mem, List.mem_append, List.mem_singleton]
  by_cases h1 : (46 : UInt8) ∈ s.take j
  · simp [h1]
  · by_cases h2 : s[j] = 46
    · simp [h2]
    · have h3 : ¬ (s[j].toNat : Int) = 46 := fun e => h2 (UInt8.toNat_inj.1 (by have : (46 : UInt8).toNat = 46 := rfl; omega))
      simp only [h1, h3, false_or, decide_false, Bool.or_false]
      exact decide_eq_false (fun e => h2 e.symm)

theorem Row.str {w : World} {A : Option Addr} {xs : List (List UInt8)} (h : Row w A (strs xs)) {j : Nat} (hj : j < xs.length) : ∃ ad, A = some ad ∧ w.cell? (ad.add j) = some (.string (S xs[j])) := by
  obtain ⟨ad, e, hc⟩ := h.cell (j := j) (by simpa [strs] using hj)
  exact ⟨ad, e, by rw [hc]; simp [strs]⟩

theorem below_both {B : Nat} {W w : World} (h : Below B W w) (p : Addr) (v : Value) : Below B (W.setCell p v) (w.setCell p v) :=
  ⟨h.os, h.tape, h.output, by simpa [World.setCell] using h.size, fun g hg => by simp only [World.setCell, Array.getElem?_modify, h.block g hg]⟩
theorem OwnB.apart {w : World} {base : Nat} {v : Value} {l : List UInt8} (h : OwnB w base v l) {p : Addr} (hp : p.block < base) (u : Value) : OwnB (w.setCell p u) base v l := by
  obtain ⟨g, cap, cur, fz, rfl, hg, hh, r⟩ := h
  exact ⟨g, cap, cur, fz, rfl, hg, by rw [heap_setCell_other w p g u (by omega), hh], r⟩
theorem bs_zero (w : World) : Bs (w.alloc (.cells #[.int .u8 0] 5)) (some ⟨w.heap.size, 0, none⟩) 1 [0] := ⟨Row.one _ _ _, by simp, by simp⟩
theorem dirInfo : (Tryd.prog.info? 41).map (·.size) = some 2 := by kernel_rfl

theorem ownB_below' {W w w' : World} {NB : Nat} (hW : W.heap.size = NB) (hu : Below NB W w) (hb : Below w.heap.size w w') : Below NB W w' := hu.trans (hb.mono (by have := hu.size; omega))
set_option maxRecDepth 100000 in
set_option maxHeartbeats 8000000 in
theorem law7_At (w : World) (start base : Nat) (FA NA : Option Addr) (fc nc : Nat) (funcs names : List (List UInt8)) (hF : Row w FA (strs funcs)) (hN : Row w NA (strs names)) (hs : start ≤ 65536) (hbs : base < 4611686018427387904)
    (f47 : funcs.length ≤ 140737488355328) (n47 : names.length ≤ 140737488355328) (hfc : funcs.length ≤ fc) (hnc : names.length ≤ nc) (hfl : ∀ s ∈ funcs.take 12, s.length ≤ 100) (hnl : ∀ s ∈ names.take 12, s.length ≤ 100) :
    Calls Tryd.prog 35 #[.int .i64 start, .slice FA funcs.length fc, .slice NA names.length nc, .int .i64 base] w fun e w' =>
      ∃ v, e = .returned (.tuple #[v, .agg #[.int .i64 start, .int .i64 (((atB start funcs names base).length : Int) - start)]]) ∧ OwnB w' w.heap.size v (atF start funcs names base) ∧ Below w.heap.size w w' := by
  have U0 := hid (up_refl w)
  obtain ⟨g1, hg1⟩ : ∃ g, w.heap.size = g := ⟨_, rfl⟩
  obtain ⟨x1, hx1⟩ : ∃ zz, w.alloc (.cells #[(.int .i64 0), (.int .i64 0)] 41) = zz := ⟨_, rfl⟩
  have b1 : Blk x1 w.heap.size #[(.int .i64 0), (.int .i64 0)] 41 := hx1 ▸ Blk.new _ _ _
  have V1 : Hid (Below w.heap.size w x1) := hid (hx1 ▸ up_alloc (up_refl _) _)
  have N1 : Hid (Below w.heap.size w x1) := hid (up_trans U0.out V1.out)
  have G1 : Hid (w.heap.size ≤ g1) := hid (by rw [← hg1]; exact U0.out.size)
  rw [hg1] at b1
  have l1 : g1 < x1.heap.size := b1.lt
  have c1_0 : x1.cell? ⟨g1, 0, none⟩ = some (.int .i64 0) := b1.cell 0
  have f1_0 : x1.frozen? ⟨g1, 0, none⟩ = false := b1.free 0
  have c1_1 : x1.cell? ⟨g1, 1, none⟩ = some (.int .i64 0) := b1.cell 1
  have f1_1 : x1.frozen? ⟨g1, 1, none⟩ = false := b1.free 1
  have B1 := hid b1
  clear b1
  obtain ⟨g2, hg2⟩ : ∃ g, x1.heap.size = g := ⟨_, rfl⟩
  obtain ⟨x2, hx2⟩ : ∃ zz, x1.alloc (.cells #[(.int .i64 0), (.int .i64 0)] 41) = zz := ⟨_, rfl⟩
  have b2 : Blk x2 x1.heap.size #[(.int .i64 0), (.int .i64 0)] 41 := hx2 ▸ Blk.new _ _ _
  have V2 : Hid (Below x1.heap.size x1 x2) := hid (hx2 ▸ up_alloc (up_refl _) _)
  have N2 : Hid (Below w.heap.size w x2) := hid (up_trans N1.out V2.out)
  have G2 : Hid (w.heap.size ≤ g2) := hid (by rw [← hg2]; exact N1.out.size)
  rw [hg2] at b2
  have l2 : g2 < x2.heap.size := b2.lt
  have c2_0 : x2.cell? ⟨g2, 0, none⟩ = some (.int .i64 0) := b2.cell 0
  have f2_0 : x2.frozen? ⟨g2, 0, none⟩ = false := b2.free 0
  have c2_1 : x2.cell? ⟨g2, 1, none⟩ = some (.int .i64 0) := b2.cell 1
  have f2_1 : x2.frozen? ⟨g2, 1, none⟩ = false := b2.free 1
  have B2 := hid b2
  clear b2
  have n12 : g1 ≠ g2 := by have := B1.out.lt; omega
  obtain ⟨ws, hws⟩ : ∃ x, (x2.setCell ⟨g2, 0, none⟩ (.int .i64 start)).setCell ⟨g2, 1, none⟩ (.int .i64 0) = x := ⟨_, rfl⟩
  have Bs1 : Hid (Blk ws g1 #[.int .i64 0, .int .i64 0] 41) := hid (hws ▸ ((B1.out.below V2.out).apart' ⟨g2, 0, none⟩ (fun e => n12 e.symm) _).apart' ⟨g2, 1, none⟩ (fun e => n12 e.symm) _)
  have Bs2 : Hid (Blk ws g2 #[.int .i64 start, .int .i64 0] 41) := hid (hws ▸ B2.out.set2)
  have Us : Hid (Below w.heap.size w ws) := hid (hws ▸ (N2.out.setCell G2.out _).setCell G2.out _)
  have hs2 : ws.heap.size = g2 + 1 := by
    rw [← hws, ← hx2]
    simp [World.setCell]
    omega
  have HFs := hid (hF.below Us.out)
  have HNs := hid (hN.below Us.out)
  obtain ⟨NB, hNB⟩ : ∃ n, ws.heap.size = n := ⟨_, rfl⟩
  rw [hNB] at hs2
  have HNB := hid hNB
  have hgN1 : g1 < NB := by have := B1.out.lt; omega
  obtain ⟨N, hNq⟩ : ∃ n, min funcs.length 12 = n := ⟨_, rfl⟩
  obtain ⟨M, hM⟩ : ∃ n, min names.length 12 = n := ⟨_, rfl⟩
  obtain ⟨R, hR⟩ : ∃ r, atF start funcs names base = r := ⟨_, rfl⟩
  obtain ⟨RB, hRB⟩ : ∃ r, atB start funcs names base = r := ⟨_, rfl⟩
  have HR : Hid (atNms start N M (names.take 12) 0 RB = R) := hid (by rw [← hR, atF, hNq, hM, hRB])
  have HRB : Hid (atFns start (funcs.take 12) 0 (atHead start N M base) = RB) := hid (by rw [← hRB, atB, hNq, hM])
  rw [hR, hRB]
  have hmin1 : min (funcs.length : Int) 12 = (N : Int) := by omega
  have hmin2 : min (names.length : Int) 12 = (M : Int) := by omega
  have hN12 : N ≤ 12 := by omega
  have hM12 : M ≤ 12 := by omega
  have HNf : Hid (min funcs.length 12 = N) := hNq
  have HMf : Hid (min names.length 12 = M) := hM
  obtain ⟨T, hT⟩ : ∃ t, start + 40 + 4 * N + 6 * M = t := ⟨_, rfl⟩
  have hT' : (start : Int) + 40 + 4 * (N : Int) + 6 * (M : Int) = (T : Int) := by omega
  have hTb : T ≤ 70000 := by omega
  obtain ⟨w0, hmk, o0, b0, s0⟩ := run_makeB ws T (by omega)
  rw [hNB] at hmk o0 b0
  have O0 := hid o0
  have UU0 := hid b0
  have HZ : Hid ((zer T).length = T) := hid (zer_length T)
  have hNs0 : Hid (NB ≤ w0.heap.size) := hid (by omega)
  have HT := hid hT
  have HFL := hid hfl
  have HNL := hid hnl
  clear hR hRB hNq hM o0 b0 s0 hs2 hNB hT hfl hnl V2
  go_enter Tryd.func35, Tryd.ntmps35
  go_wp2_with fail
  refine (law7_putO NB _ (zer T) (start + 16) 4 base _ _ _ (by omega) rfl (by omega) w0 O0.out (by rw [HZ.out]; omega) (by omega) (by omega) (by omega) (by omega)).mono ?_
  rintro e w11 ⟨v1, rfl, o1, b1⟩
  obtain ⟨l1, hl1⟩ : ∃ l, putF (zer T) (start + 16) 4 base = l := ⟨_, rfl⟩
  rw [hl1] at o1
  have O1 := hid (o1.mono hNs0.out)
  have UU1 : Hid (Below NB ws w11) := hid (ownB_below' HNB.out UU0.out b1)
  have hNs1 : Hid (NB ≤ w11.heap.size) := hid (Nat.le_trans hNs0.out b1.size)
  have L1 : Hid (l1.length = T) := hid (by rw [← hl1, putF_length]; exact HZ.out)
  have E1 := hid hl1
  clear o1 b1 hl1
  go_wp2_with fail
  refine (law7_putO NB _ l1 (start + 20) 4 N _ _ _ (by omega) rfl (by omega) w11 O1.out (by rw [L1.out]; omega) (by omega) (by omega) (by omega) (by omega)).mono ?_
  rintro e w12 ⟨v2, rfl, o2, b2⟩
  obtain ⟨l2, hl2⟩ : ∃ l, putF l1 (start + 20) 4 N = l := ⟨_, rfl⟩
  rw [hl2] at o2
  have O2 := hid (o2.mono hNs1.out)
  have UU2 : Hid (Below NB ws w12) := hid (ownB_below' HNB.out UU1.out b2)
  have hNs2 : Hid (NB ≤ w12.heap.size) := hid (Nat.le_trans hNs1.out b2.size)
  have L2 : Hid (l2.length = T) := hid (by rw [← hl2, putF_length]; exact L1.out)
  have E2 := hid hl2
  clear o2 b2 hl2
  go_wp2_with fail
  refine (law7_putO NB _ l2 (start + 24) 4 M _ _ _ (by omega) rfl (by omega) w12 O2.out (by rw [L2.out]; omega) (by omega) (by omega) (by omega) (by omega)).mono ?_
  rintro e w13 ⟨v3, rfl, o3, b3⟩
  obtain ⟨l3, hl3⟩ : ∃ l, putF l2 (start + 24) 4 M = l := ⟨_, rfl⟩
  rw [hl3] at o3
  have O3 := hid (o3.mono hNs2.out)
  have UU3 : Hid (Below NB ws w13) := hid (ownB_below' HNB.out UU2.out b3)
  have hNs3 : Hid (NB ≤ w13.heap.size) := hid (Nat.le_trans hNs2.out b3.size)
  have L3 : Hid (l3.length = T) := hid (by rw [← hl3, putF_length]; exact L2.out)
  have E3 := hid hl3
  clear o3 b3 hl3
  go_wp2_with fail
  refine (law7_putO NB _ l3 (start + 28) 4 (start + 40) _ _ _ (by omega) rfl (by omega) w13 O3.out (by rw [L3.out]; omega) (by omega) (by omega) (by omega) (by omega)).mono ?_
  rintro e w14 ⟨v4, rfl, o4, b4⟩
  obtain ⟨l4, hl4⟩ : ∃ l, putF l3 (start + 28) 4 (start + 40) = l := ⟨_, rfl⟩
  rw [hl4] at o4
  have O4 := hid (o4.mono hNs3.out)
  have UU4 : Hid (Below NB ws w14) := hid (ownB_below' HNB.out UU3.out b4)
  have hNs4 : Hid (NB ≤ w14.heap.size) := hid (Nat.le_trans hNs3.out b4.size)
  have L4 : Hid (l4.length = T) := hid (by rw [← hl4, putF_length]; exact L3.out)
  have E4 := hid hl4
  clear o4 b4 hl4
  go_wp2_with fail
  refine (law7_putO NB _ l4 (start + 32) 4 (start + 40 + 4 * N) _ _ _ (by omega) rfl (by omega) w14 O4.out (by rw [L4.out]; omega) (by omega) (by omega) (by omega) (by omega)).mono ?_
  rintro e w15 ⟨v5, rfl, o5, b5⟩
  obtain ⟨l5, hl5⟩ : ∃ l, putF l4 (start + 32) 4 (start + 40 + 4 * N) = l := ⟨_, rfl⟩
  rw [hl5] at o5
  have O5 := hid (o5.mono hNs4.out)
  have UU5 : Hid (Below NB ws w15) := hid (ownB_below' HNB.out UU4.out b5)
  have hNs5 : Hid (NB ≤ w15.heap.size) := hid (Nat.le_trans hNs4.out b5.size)
  have L5 : Hid (l5.length = T) := hid (by rw [← hl5, putF_length]; exact L4.out)
  have E5 := hid hl5
  clear o5 b5 hl5
  go_wp2_with fail
  refine (law7_putO NB _ l5 (start + 36) 4 (start + 40 + 4 * N + 4 * M) _ _ _ (by omega) rfl (by omega) w15 O5.out (by rw [L5.out]; omega) (by omega) (by omega) (by omega) (by omega)).mono ?_
  rintro e w16 ⟨v6, rfl, o6, b6⟩
  obtain ⟨l6, hl6⟩ : ∃ l, putF l5 (start + 36) 4 (start + 40 + 4 * N + 4 * M) = l := ⟨_, rfl⟩
  rw [hl6] at o6
  have O6 := hid (o6.mono hNs5.out)
  have UU6 : Hid (Below NB ws w16) := hid (ownB_below' HNB.out UU5.out b6)
  have hNs6 : Hid (NB ≤ w16.heap.size) := hid (Nat.le_trans hNs5.out b6.size)
  have L6 : Hid (l6.length = T) := hid (by rw [← hl6, putF_length]; exact L5.out)
  have E6 := hid hl6
  clear o6 b6 hl6
  have HL6 : Hid (l6 = atHead start N M base) := hid (by rw [← E6.out, ← E5.out, ← E4.out, ← E3.out, ← E2.out, ← E1.out, atHead, HT.out])
  have HFG : Hid (atFns start ((funcs.take 12).drop 0) 0 l6 = RB) := hid (by rw [List.drop_zero, HL6.out]; exact HRB.out)
  clear E1 E2 E3 E4 E5 E6 O0 O1 O2 O3 O4 O5 UU0 UU1 UU2 UU3 UU4 UU5 hws hNs0 hNs1 hNs2 hNs3 hNs4 hNs5 L1 L2 L3 L4 L5 HZ hmk
  clear hmin1 hmin2 hT'
  go_wp2_with fail
  go_loopg [13, 15] N (fun k v i wr => ∃ (j : Nat) (b : List UInt8), i = .int .i64 j ∧ j + k = N ∧ OwnB wr NB v b ∧ Below NB ws wr ∧ Hid (atFns start ((funcs.take 12).drop j) j b = RB) ∧ T ≤ b.length ∧ b.length ≤ T + 101 * j)
  case atStart => exact ⟨0, l6, rfl, by omega, O6.out, UU6.out, HFG, Nat.le_of_eq L6.out.symm, Nat.le_of_eq L6.out⟩
  case round =>
    obtain ⟨j, b, rfl, hj, ho, hu, hfg, hb1, hb2⟩ := hrel
    have HO := hid ho
    have HU := hid hu
    obtain ⟨gv, cap, rfl, hgv, hglt, hbv⟩ := ho.bs
    have hNs : NB ≤ wr.heap.size := by have := hu.size; have := HNB.out; omega
    clear ho hu hbv
    rcases gk with _ | k
    · have hjn : ((j : Int) < (N : Int)) = False := by simp; omega
      obtain rfl : j = N := by omega
      have hbR : b = RB := by
        have h := hfg.out
        rw [List.drop_of_length_le (by have := HNf.out; rw [List.length_take]; omega)] at h
        exact h
      subst hbR
      have hk1 : (Bs2.out.below (HNB.out ▸ HU.out)).two = (Bs2.out.below (HNB.out ▸ HU.out)).two := rfl
      obtain ⟨e0, e1, -, f1⟩ := (Bs2.out.below (HNB.out ▸ HU.out)).two
      obtain ⟨wb, hwb⟩ : ∃ x, ws.setCell ⟨g2, 1, none⟩ (.int .i64 ((b.length : Int) - start)) = x := ⟨_, rfl⟩
      have hg2N : g2 < NB := by have := Bs2.out.lt; have := HNB.out; omega
      have HNBb : Hid (wb.heap.size = NB) := hid (by rw [← hwb]; simp [World.setCell]; exact HNB.out)
      have Ob := hid (HO.out.apart (p := ⟨g2, 1, none⟩) hg2N (.int .i64 ((b.length : Int) - start)))
      have Ub : Hid (Below NB wb (wr.setCell ⟨g2, 1, none⟩ (.int .i64 ((b.length : Int) - start)))) := hid (hwb ▸ below_both HU.out _ _)
      have Bb1 : Hid (Blk wb g1 #[.int .i64 0, .int .i64 0] 41) := hid (hwb ▸ Bs1.out.apart' ⟨g2, 1, none⟩ (fun e => n12 e.symm) _)
      have Bb2 : Hid (Blk wb g2 #[.int .i64 start, .int .i64 ((b.length : Int) - start)] 41) := hid (hwb ▸ Bs2.out.set' 1 _)
      have Usb : Hid (Below w.heap.size w wb) := hid (hwb ▸ Us.out.setCell G2.out _)
      have HNb := hid (hN.below Usb.out)
      have HGn : Hid (atNms start j M ((names.take 12).drop 0) 0 b = R) := hid (by rw [List.drop_zero]; exact HR.out)
      have hbl : b.length ≤ 70000 + 1212 := by omega
      have hbs : start ≤ b.length := by have := HT.out; omega
      clear hfg hb1 hb2 HR HRB hk1 HFs HFL hwb Bs1 Bs2 HNs Us HO HU HNf hF hN
      go_wp2_with fail
      obtain ⟨wd, hwd⟩ : ∃ x, wr.setCell ⟨g2, 1, none⟩ (.int .i64 ((b.length : Int) - start)) = x := ⟨_, rfl⟩
      rw [hwd] at Ob Ub ⊢
      clear hwd e0 e1 f1
      go_loopg [13, 20] M (fun k v i wr => ∃ (q : Nat) (d : List UInt8), i = .int .i64 q ∧ q + k = M ∧ OwnB wr NB v d ∧ Below NB wb wr ∧ Hid (atNms start j M ((names.take 12).drop q) q d = R) ∧ d.length ≤ b.length + 101 * q)
      case atStart => exact ⟨0, b, rfl, by omega, Ob.out, Ub.out, HGn, Nat.le_refl _⟩
      case round =>
        obtain ⟨q, d, rfl, hq, ho, hu, hfg, hd⟩ := hrel
        have HO := hid ho
        have HU := hid hu
        obtain ⟨gv2, cap2, rfl, -, -, -⟩ := ho.bs
        have hNs2 : NB ≤ wr.heap.size := by have := hu.size; have := HNBb.out; omega
        clear ho hu
        rcases gk with _ | k
        · have hqn : ((q : Int) < (M : Int)) = False := by simp; omega
          obtain rfl : q = M := by omega
          have hbR : d = R := by
            have h := hfg.out
            rw [List.drop_of_length_le (by have := HMf.out; rw [List.length_take]; omega)] at h
            exact h
          subst hbR
          have hb1 := Bb1.out.below (HNBb.out ▸ HU.out)
          have hb2 := Bb2.out.below (HNBb.out ▸ HU.out)
          obtain ⟨e0, e1, -, -⟩ := hb2.two
          obtain ⟨e2, e3, f2, f3⟩ := hb1.two
          have HB1 := hid hb1
          have U9 := hid (Usb.out.trans (HNBb.out ▸ HU.out |>.mono Usb.out.size))
          have hw9 : w.heap.size ≤ NB := by have := Usb.out.size; have := HNBb.out; omega
          clear hfg hb1 hb2
          go_wp2_with fail
          go_region
          all_goals
            go_wp2_with fail
            exact bodyPost_ret (v := .tuple #[.slice (some ⟨gv2, 0, none⟩) d.length cap2, .agg #[.int .i64 start, .int .i64 ((b.length : Int) - start)]]) (results_tc Tryd.results35 _ _ g1 41 #[.int .i64 start, .int .i64 ((b.length : Int) - start)] _ (by rfl) (HB1.out.set2) Tryd.underlying41 (by rfl) dirInfo) rfl
              (by
                have h1 := ((HO.out.apart (p := ⟨g1, 0, none⟩) hgN1 (.int .i64 start)).apart (p := ⟨g1, 1, none⟩) hgN1 (.int .i64 ((b.length : Int) - start))).mono hw9
                have h2 := ((U9.out.setCell (p := ⟨g1, 0, none⟩) G1.out (.int .i64 start)).setCell (p := ⟨g1, 1, none⟩) G1.out (.int .i64 ((b.length : Int) - start)))
                have h3 := h2.drew
                refine ⟨_, rfl, ?_, ?_⟩
                · first | exact h1 | (rw [hg1] at h1; exact h1)
                · first | exact h3 | exact h2 | (rw [hg1] at h3; exact h3) | (rw [hg1] at h2; exact h2))
        · have hqn : ((q : Int) < (M : Int)) = True := by simp; omega
          have hqf : q < names.length := by have := HMf.out; omega
          obtain ⟨ad, rfl, hc0⟩ := (HNb.out.below (HNBb.out ▸ HU.out)).str hqf
          have hdr : (names.take 12).drop q = names[q] :: (names.take 12).drop (q + 1) := by
            rw [List.drop_eq_getElem_cons (by rw [List.length_take]; omega)]
            simp
          have hsl : names[q].length ≤ 100 := HNL.out _ (by
            rw [List.mem_iff_getElem]
            exact ⟨q, by rw [List.length_take]; omega, by simp⟩)
          obtain ⟨s, hsj⟩ : ∃ s, names[q] = s := ⟨_, rfl⟩
          rw [hsj] at hc0 hdr hsl
          have HG : Hid (atNms start j M ((names.take 12).drop (q + 1)) (q + 1) (atNm start j M d q s) = R) := hid (by
            have h := hfg.out
            rw [hdr] at h
            exact h)
          have hal := atNm_length start j M d q s
          have hmx : max (j : Int) 1 = ((max j 1 : Nat) : Int) := by omega
          have hmx1 : 1 ≤ max j 1 := by omega
          have hmod : (q : Int) % ((max j 1 : Nat) : Int) = ((q % max j 1 : Nat) : Int) := by rw [Int.natCast_emod]
          have hml : q % max j 1 < 20 := Nat.lt_of_lt_of_le (Nat.mod_lt _ (by omega)) (by omega)
          obtain ⟨mx, hmxe⟩ : ∃ m, max j 1 = m := ⟨_, rfl⟩
          rw [hmxe] at hmx hmx1 hmod hml
          have HMX := hid hmxe
          obtain ⟨r, hr⟩ : ∃ r, q % mx = r := ⟨_, rfl⟩
          rw [hr] at hmod hml
          have HRR := hid hr
          clear hr
          have HSJ : Hid (names[q] = s) := hsj
          clear hfg hdr hsj hmxe
          go_wp2_with fail
          refine (law7_putO NB _ d (start + 40 + 4 * j + 4 * q) 4 d.length _ _ _ (by omega) rfl rfl wr HO.out (by omega) (by omega) (by omega) (by omega) (by omega)).mono ?_
          rintro e w4 ⟨v4, rfl, o4, b4⟩
          have O4 := hid (o4.mono hNs2)
          have U4 := hid (ownB_below' HNBb.out HU.out b4)
          have S4 : NB ≤ w4.heap.size := Nat.le_trans hNs2 b4.size
          obtain ⟨d4, hd4⟩ : ∃ x, putF d (start + 40 + 4 * j + 4 * q) 4 d.length = x := ⟨_, rfl⟩
          rw [hd4] at O4
          have L4 : d4.length ≤ d.length := by rw [← hd4, putF_length]; exact Nat.le_refl _
          have E4 := hid hd4
          clear o4 b4 hd4
          go_wp2_with fail
          refine (law7_putO NB _ d4 (start + 40 + 4 * j + 4 * M + 2 * q) 2 r _ _ _ (by omega) rfl rfl w4 O4.out (by omega) (by omega) (by omega) (by omega) (by omega)).mono ?_
          rintro e w5 ⟨v5, rfl, o5, b5⟩
          have O5 := hid (o5.mono S4)
          have U5 := hid (ownB_below' HNBb.out U4.out b5)
          have S5 : NB ≤ w5.heap.size := Nat.le_trans S4 b5.size
          obtain ⟨d5, hd5⟩ : ∃ x, putF d4 (start + 40 + 4 * j + 4 * M + 2 * q) 2 r = x := ⟨_, rfl⟩
          rw [hd5] at O5
          have L5 : d5.length ≤ d.length := by rw [← hd5, putF_length]; exact L4
          have E5 := hid hd5
          have hc5 := (HNb.out.below (HNBb.out ▸ U5.out)).str hqf
          clear o5 b5 hd5
          obtain ⟨ad', had, hc5⟩ := hc5
          obtain rfl := Option.some.inj had
          rw [show names[q] = s from HSJ.out] at hc5
          clear had
          go_wp2_with (first | (refine wp_appStr (o := ⟨some 162, _, _, _, _, _⟩) ?_ (.tmp 157) (.tmp 161) ?_ infoByte NB _ d5 s ?_ O5.out ?_ ?_ S5 ?_; rfl; rfl; rfl; rfl; omega; intro v6 w6 o6 h6; obtain ⟨gg, cc, rfl, -, -, -⟩ := o6.bs; have U6 := hid (h6 wb U5.out); have S6 : NB ≤ w6.heap.size := (by have := U6.out.size; have := HNBb.out; omega); have O6 := hid (o6.below (up_alloc (up_refl w6) (.cells #[.int .u8 0] 5))); rw [List.length_append] at O6; have BZ6 := hid (bs_zero w6); clear o6 h6) | (refine wp_appB (o := ⟨some 164, _, _, _, _, _⟩) ?_ (.tmp 162) (.tmp 163) ?_ infoByte NB _ (d5 ++ s) [0] ⟨w6.heap.size, 0, none⟩ 1 ?_ O6.out ?_ BZ6.out ?_ ?_ ?_; rfl; rfl; rfl; rfl; (simp; omega); (simp; omega); intro v7 w7 o7 h7; have O7 := hid o7; have U7 := hid (h7 wb (U6.out.alloc S6 _)); have S7 : NB ≤ w7.heap.size := (by have := U7.out.size; have := HNBb.out; omega); clear o7 h7))
          go_roundg k
          case measure => omega
          case rel => exact ⟨q + 1, _, by go_num, by omega, O7.out, U7.out, by rw [← E5.out, ← E4.out]; rw [atNm, HMX.out, HRR.out] at HG; exact HG, by simp; omega⟩
    · have hjn : ((j : Int) < (N : Int)) = True := by simp; omega
      have hjf : j < funcs.length := by have := HNf.out; omega
      obtain ⟨ad, rfl, hc0⟩ := (HFs.out.below (HNB.out ▸ HU.out)).str hjf
      have hdr : (funcs.take 12).drop j = funcs[j] :: (funcs.take 12).drop (j + 1) := by
        rw [List.drop_eq_getElem_cons (by rw [List.length_take]; omega)]
        simp
      have hsl : funcs[j].length ≤ 100 := HFL.out _ (by
        rw [List.mem_iff_getElem]
        exact ⟨j, by rw [List.length_take]; omega, by simp⟩)
      obtain ⟨s, hsj⟩ : ∃ s, funcs[j] = s := ⟨_, rfl⟩
      rw [hsj] at hc0 hdr hsl
      have HG : Hid (atFns start ((funcs.take 12).drop (j + 1)) (j + 1) (atFn start b j s) = RB) := hid (by
        have h := hfg.out
        rw [hdr] at h
        exact h)
      have hsz := S_size s
      have hal := atFn_length start b j s
      have hS := S_toList s
      clear hfg hdr hsj
      go_wp2_with fail
      go_loopg [17, 18] s.length (fun k2 p i wx => ∃ q : Nat, i = .int .i64 q ∧ q + k2 = s.length ∧ p = .bool ((s.take q).contains 46) ∧ wr = wx)
      case atStart => exact ⟨0, rfl, by omega, rfl, rfl⟩
      case round =>
        obtain ⟨q, rfl, hq, rfl, rfl⟩ := hrel
        rcases gk with _ | k2
        · have hqn : ((q : Int) < (s.length : Int)) = False := by simp; omega
          obtain rfl : q = s.length := by omega
          rw [List.take_length]
          cases hpt : s.contains 46 with
          | true =>
            have haf : atFn start b j s = putF (b ++ s ++ [0]) (start + 40 + 4 * j) 4 b.length := by unfold atFn; rw [hpt, if_pos rfl]
            rw [haf] at HG hal
            have hse : s.isEmpty = false := by cases s with | nil => cases hpt | cons => rfl
            clear hpt haf
            go_wp2_with (first | (refine wp_appStr (o := ⟨some 110, _, _, _, _, _⟩) ?_ (.tmp 108) (.tmp 109) ?_ infoByte NB _ b s ?_ HO.out ?_ ?_ hNs ?_; rfl; rfl; rfl; rfl; omega; intro v2 w2 o2 h2; obtain ⟨gg, cc, rfl, -, -, -⟩ := o2.bs; have U2 := hid (h2 ws HU.out); have S2 : NB ≤ w2.heap.size := (by have := U2.out.size; have := HNB.out; omega); have O2 := hid (o2.below (up_alloc (up_refl w2) (.cells #[.int .u8 0] 5))); rw [List.length_append] at O2; have BZ := hid (bs_zero w2); clear o2 h2) | (refine wp_appB (o := ⟨some 112, _, _, _, _, _⟩) ?_ (.tmp 110) (.tmp 111) ?_ infoByte NB _ (b ++ s) [0] ⟨w2.heap.size, 0, none⟩ 1 ?_ O2.out ?_ BZ.out ?_ ?_ ?_; rfl; rfl; rfl; rfl; (simp; omega); (simp; omega); intro v3 w3 o3 h3; have O3 := hid o3; have U3 := hid (h3 ws (U2.out.alloc S2 _)); have S3 : NB ≤ w3.heap.size := (by have := U3.out.size; have := HNB.out; omega); clear o3 h3))
            refine (law7_putO NB _ (b ++ s ++ [0]) (start + 40 + 4 * j) 4 b.length _ _ _ (by omega) rfl rfl w3 O3.out (by simp; omega) (by omega) (by omega) (by omega) (by omega)).mono ?_
            rintro e w4 ⟨v4, rfl, o4, b4⟩
            have O4 := hid (o4.mono S3)
            have U4 := hid (ownB_below' HNB.out U3.out b4)
            clear o4 b4
            go_wp2_with fail
            go_roundg k
            case measure => omega
            case rel => exact ⟨j + 1, _, by go_num, by omega, O4.out, U4.out, HG, by omega, by omega⟩
          | false =>
            have haf : atFn start b j s = putF b (start + 40 + 4 * j) 4 (if s = [] then 0 else 64 + j) := by unfold atFn; rw [hpt]; rfl
            rw [haf] at HG hal
            clear hpt haf
            by_cases hse : s = []
            · rw [if_pos hse] at HG hal
              have hse' : s.isEmpty = true := by rw [hse]; rfl
              clear hse
              go_wp2_with fail
              refine (law7_putO NB _ b (start + 40 + 4 * j) 4 0 _ _ _ (by omega) rfl rfl wr HO.out (by omega) (by omega) (by omega) (by omega) (by omega)).mono ?_
              rintro e w4 ⟨v4, rfl, o4, b4⟩
              have O4 := hid (o4.mono hNs)
              have U4 := hid (ownB_below' HNB.out HU.out b4)
              clear o4 b4
              go_wp2_with fail
              go_roundg k
              case measure => omega
              case rel => exact ⟨j + 1, _, by go_num, by omega, O4.out, U4.out, HG, by omega, by omega⟩
            · rw [if_neg hse] at HG hal
              have hse' : s.isEmpty = false := by cases s with | nil => exact absurd rfl hse | cons => rfl
              clear hse
              go_wp2_with fail
              refine (law7_putO NB _ b (start + 40 + 4 * j) 4 (64 + j) _ _ _ (by omega) rfl (by omega) wr HO.out (by omega) (by omega) (by omega) (by omega) (by omega)).mono ?_
              rintro e w4 ⟨v4, rfl, o4, b4⟩
              have O4 := hid (o4.mono hNs)
              have U4 := hid (ownB_below' HNB.out HU.out b4)
              clear o4 b4
              go_wp2_with fail
              go_roundg k
              case measure => omega
              case rel => exact ⟨j + 1, _, by go_num, by omega, O4.out, U4.out, HG, by omega, by omega⟩
        · have hqn : ((q : Int) < (s.length : Int)) = True := by simp; omega
          have hlt : q < s.length := by omega
          have hst := pt_step s q hlt
          have hxj : (S s)[q]'(by rw [hsz]; omega) = s[q] := rfl
          cases hb : (s.take q).contains 46 with
          | true =>
            rw [hb, Bool.true_or] at hst
            have HST := hid hst
            clear hst hb
            go_wp2_with fail
            go_roundg k2
            case measure => omega
            case rel => exact ⟨q + 1, by go_num, by omega, by rw [HST.out], rfl⟩
          | false =>
            rw [hb, Bool.false_or] at hst
            by_cases h46 : (s[q].toNat : Int) = 46
            · rw [decide_eq_true h46] at hst
              have HST := hid hst
              clear hst hb
              go_wp2_with fail
              go_roundg k2
              case measure => omega
              case rel => exact ⟨q + 1, by go_num, by omega, by rw [HST.out], rfl⟩
            · rw [decide_eq_false h46] at hst
              have HST := hid hst
              clear hst hb
              go_wp2_with fail
              go_roundg k2
              case measure => omega
              case rel => exact ⟨q + 1, by go_num, by omega, by rw [HST.out]; simp [h46], rfl⟩
end Go.Proofs.YtapllnnconpieaaDoor
