/- ExpsBack: what the directory that is made tells (plain, joined). -/
import Derived.Test.YtapllnnconpieaaDoorExpsK
set_option linter.unusedVariables false
namespace Go.Proofs.YtapllnnconpieaaDoor
open Go.RowKit

theorem numAt_far (l : List UInt8) (a n v p m : Nat) (p' m' : Int) (hp : p' = p) (hm : m' = m) (h : p + m ≤ a ∨ a + n ≤ p) (hl : p + m ≤ l.length) : numAt (putF l a n v) p' m' = numAt l p' m' :=
  numAt_congr _ _ _ _ p m hp hm (by rw [putF_length]; exact hl) hl (fun k h1 h2 => putF_far _ _ _ _ _ (by omega))

theorem head_nums (n m base : Nat) (hn : n ≤ 100) (hm : m ≤ 100) (hb : base < 65536) :
    numAt (atHead 256 n m base) 272 4 = base ∧ numAt (atHead 256 n m base) 276 4 = n ∧ numAt (atHead 256 n m base) 280 4 = m ∧ numAt (atHead 256 n m base) 284 4 = 296 ∧ numAt (atHead 256 n m base) 288 4 = 296 + 4 * n ∧ numAt (atHead 256 n m base) 292 4 = 296 + 4 * n + 4 * m := by
  unfold atHead
  have hz : (zer (256 + 40 + 4 * n + 6 * m)).length = 296 + 4 * n + 6 * m := by rw [zer_length]
  obtain ⟨z, hz'⟩ : ∃ z, zer (256 + 40 + 4 * n + 6 * m) = z := ⟨_, rfl⟩
  rw [hz'] at hz ⊢
  refine ⟨?_, ?_, ?_, ?_, ?_, ?_⟩
  · rw [numAt_far _ _ _ _ 272 4 272 4 rfl rfl (by omega) (by simp only [putF_length]; omega), numAt_far _ _ _ _ 272 4 272 4 rfl rfl (by omega) (by simp only [putF_length]; omega), numAt_far _ _ _ _ 272 4 272 4 rfl rfl (by omega) (by simp only [putF_length]; omega), numAt_far _ _ _ _ 272 4 272 4 rfl rfl (by omega) (by simp only [putF_length]; omega), numAt_far _ _ _ _ 272 4 272 4 rfl rfl (by omega) (by simp only [putF_length]; omega), putF_num _ 272 4 (256 + 16) 4 _ rfl rfl (by omega), Nat.mod_eq_of_lt (by omega)]
  · rw [numAt_far _ _ _ _ 276 4 276 4 rfl rfl (by omega) (by simp only [putF_length]; omega), numAt_far _ _ _ _ 276 4 276 4 rfl rfl (by omega) (by simp only [putF_length]; omega), numAt_far _ _ _ _ 276 4 276 4 rfl rfl (by omega) (by simp only [putF_length]; omega), numAt_far _ _ _ _ 276 4 276 4 rfl rfl (by omega) (by simp only [putF_length]; omega), putF_num _ 276 4 (256 + 20) 4 _ rfl rfl (by simp only [putF_length]; omega), Nat.mod_eq_of_lt (by omega)]
  · rw [numAt_far _ _ _ _ 280 4 280 4 rfl rfl (by omega) (by simp only [putF_length]; omega), numAt_far _ _ _ _ 280 4 280 4 rfl rfl (by omega) (by simp only [putF_length]; omega), numAt_far _ _ _ _ 280 4 280 4 rfl rfl (by omega) (by simp only [putF_length]; omega), putF_num _ 280 4 (256 + 24) 4 _ rfl rfl (by simp only [putF_length]; omega), Nat.mod_eq_of_lt (by omega)]
  · rw [numAt_far _ _ _ _ 284 4 284 4 rfl rfl (by omega) (by simp only [putF_length]; omega), numAt_far _ _ _ _ 284 4 284 4 rfl rfl (by omega) (by simp only [putF_length]; omega), putF_num _ 284 4 (256 + 28) 4 _ rfl rfl (by simp only [putF_length]; omega)]
  · rw [numAt_far _ _ _ _ 288 4 288 4 rfl rfl (by omega) (by simp only [putF_length]; omega), putF_num _ 288 4 (256 + 32) 4 _ rfl rfl (by simp only [putF_length]; omega), Nat.mod_eq_of_lt (by omega)]
  · rw [putF_num _ 292 4 (256 + 36) 4 _ rfl rfl (by simp only [putF_length]; omega), Nat.mod_eq_of_lt (by omega)]

/-- The text that a function of a kind is made of. -/
def kT : Nat → List UInt8
  | 0 => [102]
  | 1 => []
  | 2 => [97, 46, 100, 108, 108, 46, 103]
  | _ => [98, 46, 35, 55]
def kF (k j : Nat) : FuncD := match k with
  | 0 => ⟨64 + j, []⟩
  | 1 => ⟨0, []⟩
  | _ => ⟨0, kT k⟩
def nT (j : Nat) : List UInt8 := [110, UInt8.ofNat (97 + j)]
def backNs (n : Nat) : List (List UInt8) := (List.range n).map nT
def backX (ks : List Nat) (base : Nat) : ExpsD := ⟨base, (List.range ks.length).map fun j => kF (ks.getD j 0) j, (List.range ks.length).map fun j : Nat => ⟨nT j, j⟩⟩
theorem kT_length : ∀ k, (kT k).length ≤ 7
  | 0 => by decide
  | 1 => by decide
  | 2 => by decide
  | _ + 3 => by show ([98, 46, 35, 55] : List UInt8).length ≤ 7; decide
theorem nT_ok : ∀ j, j < 10 → (nT j).contains 0 = false ∧ symOkF (nT j) = true ∧ leS (nT j) [] = false ∧ leS (nT (j + 1)) (nT j) = false := by decide +kernel
theorem kT_ok : ∀ k, 2 ≤ k → (kT k).contains 46 = true ∧ (kT k).contains 0 = false ∧ (splitF (kT k)).isSome = true ∧ ∀ j, kF k j = ⟨0, kT k⟩
  | 2, _ => ⟨by decide, by decide, by decide +kernel, fun _ => rfl⟩
  | k + 3, _ => ⟨by simp [kT], by simp [kT], by show (splitF [98, 46, 35, 55]).isSome = true; decide +kernel, fun _ => rfl⟩

theorem fn_told (c : List UInt8) (T j k L : Nat) (ds : Int) (hds : ds = (L : Int) - 256) (h : FnAt c T j (kT k)) (hL : (kT k).contains 46 = true → numAt c (296 + 4 * (j : Int)) 4 < L) (hT : 296 ≤ T) (hj : j < 100) (hc : T ≤ c.length) :
    fnV c 256 ds (numAt c (296 + 4 * (j : Int)) 4) = kF k j ∧ fnBad c 256 ds (numAt c (296 + 4 * (j : Int)) 4) = false := by
  obtain ⟨p, hp, h3, h4⟩ := h.num
  rw [hp] at hL ⊢
  have hlen := kT_length k
  match k with
  | 0 =>
    have e := h4 (by decide)
    have e : p = 64 + j := by rw [e]; simp [kT]
    subst e
    refine ⟨?_, ?_⟩
    · rw [fnV, if_pos (by omega)]
      simp [kF]
    · rw [fnBad, if_pos (by omega), decide_eq_false_iff_not]
      omega
  | 1 =>
    have e := h4 (by decide)
    have e : p = 0 := by rw [e]; simp [kT]
    subst e
    refine ⟨?_, ?_⟩
    · rw [fnV, if_pos (by omega)]
      rfl
    · rw [fnBad, if_pos (by omega), decide_eq_false_iff_not]
      omega
  | k + 2 =>
    obtain ⟨o1, o2, o3, o4⟩ := kT_ok (k + 2) (by omega)
    obtain ⟨a, b, g⟩ := h3 o1
    have hpL := hL o1
    have ht := text_at c (kT (k + 2)) p o2 (by omega) b g
    refine ⟨?_, ?_⟩
    · rw [fnV, if_neg (by omega), ht, o4]
      rfl
    · rw [fnBad, if_neg (by omega), ht]
      simp only [Option.getD_some, Option.isSome_some, o3, Bool.not_true, Bool.or_self]

theorem nm_told (c : List UInt8) (n T j : Nat) (h : NmAt c n T j (nT j)) (hj : j < 10) (tx ix : Int) (htx : tx = 296 + 4 * (n : Int)) (hix : ix = 296 + 8 * (n : Int)) :
    nmT c tx j = some (nT j) ∧ nmV c tx ix j = ⟨nT j, j⟩ ∧ numAt c (ix + 2 * j) 2 = j := by
  subst htx hix
  obtain ⟨p, hp, a, b, g, hx⟩ := h.ex
  have ht : nmT c (296 + 4 * (n : Int)) j = some (nT j) := by
    rw [nmT, hp]
    exact text_at c (nT j) p (nT_ok j hj).1 (by simp [nT]) b g
  exact ⟨ht, by rw [nmV, ht, hx]; rfl, hx⟩

set_option maxRecDepth 100000 in
set_option maxHeartbeats 2000000 in
theorem back_parse (ks : List Nat) (base : Nat) (hk : ks.length ≤ 10) (hb : base ≤ 32767) :
    parseX (atF 256 (ks.map kT) (backNs ks.length) base) 256 (((atB 256 (ks.map kT) (backNs ks.length) base).length : Int) - 256) = some (backX ks base) ∧ (atF 256 (ks.map kT) (backNs ks.length) base).length ≤ 5000 := by
  have hf : (ks.map kT).take 12 = ks.map kT := List.take_of_length_le (by rw [List.length_map]; omega)
  have hnl : (backNs ks.length).length = ks.length := by simp [backNs]
  have hn : (backNs ks.length).take 12 = backNs ks.length := List.take_of_length_le (by omega)
  have hgB : atB 256 (ks.map kT) (backNs ks.length) base = atFns 256 (ks.map kT) 0 (atHead 256 ks.length ks.length base) := by
    rw [atB, hf, hnl, List.length_map, show min ks.length 12 = ks.length by omega]
  have hgo : atF 256 (ks.map kT) (backNs ks.length) base = atNms 256 ks.length ks.length (backNs ks.length) 0 (atFns 256 (ks.map kT) 0 (atHead 256 ks.length ks.length base)) := by
    rw [atF, atB, hf, hn, hnl, List.length_map, show min ks.length 12 = ks.length by omega]
  rw [hgo, hgB]
  obtain ⟨n, hkn⟩ : ∃ n, ks.length = n := ⟨_, rfl⟩
  have hfl : (ks.map kT).length = n := by rw [List.length_map, hkn]
  have hHl : (atHead 256 n n base).length = 296 + 10 * n := by rw [atHead_length]; omega
  obtain ⟨q1, q2, q3, q4, q5, q6⟩ := head_nums n n base (by omega) (by omega) (by omega)
  rw [backX, hkn]
  rw [hkn] at hnl
  obtain ⟨H, hH⟩ : ∃ H, atHead 256 n n base = H := ⟨_, rfl⟩
  rw [hH] at hHl q1 q2 q3 q4 q5 q6 ⊢
  obtain ⟨f1, f2, f3, f4⟩ := fns_facts (ks.map kT) 0 H n (296 + 10 * n) (by omega) (by omega) (by omega) (by omega) (by omega) (fun s hs => by
    obtain ⟨k, -, rfl⟩ := List.mem_map.mp hs
    have := kT_length k
    omega)
  obtain ⟨B, hB⟩ : ∃ B, atFns 256 (ks.map kT) 0 H = B := ⟨_, rfl⟩
  rw [hB] at f1 f2 f3 f4 ⊢
  obtain ⟨g1, g2, g3, g4⟩ := nms_facts (backNs n) 0 B n (296 + 10 * n) (by omega) (by omega) rfl (by omega) (by omega) (fun s hs => by
    obtain ⟨k, -, rfl⟩ := List.mem_map.mp hs
    simp [nT])
  obtain ⟨C, hC⟩ : ∃ C, atNms 256 n n (backNs n) 0 B = C := ⟨_, rfl⟩
  rw [hC] at g1 g2 g3 g4 ⊢
  refine ⟨?_, by omega⟩
  have hnum : ∀ p : Nat, p + 4 ≤ 296 → numAt C (p : Int) 4 = numAt H (p : Int) 4 := fun p hp =>
    numAt_congr C H _ _ p 4 rfl rfl (by omega) (by omega) (fun k a b => by rw [g3 k (by omega) (by omega) (by omega), f3 k (by omega) (by omega)])
  have hfn : ∀ j, j < n → fnV C 256 ((B.length : Int) - 256) (numAt C (296 + 4 * (j : Int)) 4) = kF (ks.getD j 0) j ∧ fnBad C 256 ((B.length : Int) - 256) (numAt C (296 + 4 * (j : Int)) 4) = false := fun j hj => by
    have hj' : (ks.map kT)[j]? = some (kT (ks.getD j 0)) := by
      rw [List.getElem?_map, List.getElem?_eq_getElem (by omega), List.getD_eq_getElem?_getD, List.getElem?_eq_getElem (by omega)]
      rfl
    have h0 := f4 j _ hj'
    rw [Nat.zero_add] at h0
    refine fn_told C (296 + 10 * n) j _ B.length _ rfl (h0.keep (by omega) (by omega) g1 (fun k a b => g3 k (by omega) (by omega) (by omega)) (fun k a b => g3 k b (by omega) (by omega))) (fun e => ?_) (by omega) (by omega) (by omega)
    obtain ⟨p, hp, h3, -⟩ := h0.num
    obtain ⟨-, h5, -⟩ := h3 e
    rw [numAt_congr C B (296 + 4 * (j : Int)) 4 (296 + 4 * j) 4 (by omega) rfl (by omega) (by omega) (fun k a b => g3 k (by omega) (by omega) (by omega)), hp]
    omega
  have hnm : ∀ j, j < n → nmT C (296 + 4 * (n : Int)) j = some (nT j) ∧ nmV C (296 + 4 * (n : Int)) (296 + 8 * (n : Int)) j = ⟨nT j, j⟩ ∧ numAt C (296 + 8 * (n : Int) + 2 * j) 2 = j := fun j hj => by
    have hj' : (backNs n)[j]? = some (nT j) := by
      rw [backNs, List.getElem?_map, List.getElem?_range hj]
      rfl
    have h0 := g4 j _ hj'
    rw [Nat.zero_add] at h0
    exact nm_told C n _ j h0 (by omega) _ _ rfl rfl
  rw [parseX, if_neg (by decide), parseX1, if_pos ⟨by omega, by rw [inB, decide_eq_true_eq]; omega⟩]
  have r1 := hnum 272 (by omega)
  have r2 := hnum 276 (by omega)
  have r3 := hnum 280 (by omega)
  have r4 := hnum 284 (by omega)
  have r5 := hnum 288 (by omega)
  have r6 := hnum 292 (by omega)
  simp only [Int.cast_ofNat_Int] at r1 r2 r3 r4 r5 r6
  rw [show (256 : Int) + 16 = 272 by decide, show (256 : Int) + 20 = 276 by decide, show (256 : Int) + 24 = 280 by decide, show (256 : Int) + 28 = 284 by decide, show (256 : Int) + 32 = 288 by decide, show (256 : Int) + 36 = 292 by decide, r1, r2, r3, r4, r5, r6, q1, q2, q3, q4, q5, q6]
  have c1 : ((296 : Nat) : Int) = 296 := rfl
  have c2 : ((296 + 4 * n : Nat) : Int) = 296 + 4 * (n : Int) := by omega
  have c3 : ((296 + 4 * n + 4 * n : Nat) : Int) = 296 + 8 * (n : Int) := by omega
  have b1 : fnBads C 256 ((B.length : Int) - 256) 296 n = false := fnBads_false _ _ _ _ n fun j hj => (hfn j hj).2
  have b2 : nmBads C (296 + 4 * (n : Int)) (296 + 8 * (n : Int)) n n = false := nmBads_false _ _ _ _ n fun j hj => by
    obtain ⟨t1, -, t3⟩ := hnm j hj
    obtain ⟨o1, o2, o3, -⟩ := nT_ok j (by omega)
    have hl : leS (nT j) (nmLast C (296 + 4 * (n : Int)) j) = false := by
      match j, hj with
      | 0, _ => exact o3
      | j + 1, hj =>
        rw [nmLast, (hnm j (by omega)).1]
        exact (nT_ok j (by omega)).2.2.2
    rw [nmBad, t1, t3]
    simp only [Option.getD_some, Option.isSome_some, o2, hl, Bool.not_true, Bool.false_or, decide_eq_false_iff_not]
    omega
  have e1 : fnVs C 256 ((B.length : Int) - 256) 296 n = (List.range n).map fun j => kF (ks.getD j 0) j := by
    rw [fnVs_map]
    exact List.map_congr_left fun j hj => (hfn j (List.mem_range.mp hj)).1
  have e2 : nmVs C (296 + 4 * (n : Int)) (296 + 8 * (n : Int)) n = (List.range n).map fun j : Nat => ⟨nT j, j⟩ := by
    rw [nmVs_map]
    exact List.map_congr_left fun j hj => (hnm j (List.mem_range.mp hj)).2.1
  have w1 : rowB C 296 n 4 = true := by
    rw [rowB, inB, Bool.or_eq_true, decide_eq_true_eq, decide_eq_true_eq]
    omega
  have w2 : rowB C (296 + 4 * (n : Int)) n 4 = true := by
    rw [rowB, inB, Bool.or_eq_true, decide_eq_true_eq, decide_eq_true_eq]
    omega
  have w3 : rowB C (296 + 8 * (n : Int)) n 2 = true := by
    rw [rowB, inB, Bool.or_eq_true, decide_eq_true_eq, decide_eq_true_eq]
    omega
  have w0 : ¬ (65535 < base ∨ 256 < n ∨ 256 < n ∨ 65536 < base + n) := by omega
  rw [parseX2, c1, c2, c3, if_neg w0, if_pos ⟨w1, w2, w3⟩, if_pos ⟨b1, b2⟩, e1, e2]
end Go.Proofs.YtapllnnconpieaaDoor
