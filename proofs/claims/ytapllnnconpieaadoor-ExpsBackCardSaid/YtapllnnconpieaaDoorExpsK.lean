/- ExpsBack: what a made directory tells (plain). -/
import Derived.Test.YtapllnnconpieaaDoorExpsD
import Derived.Test.YtapllnnconpieaaDoorMade7
import Derived.Test.YtapllnnconpieaaDoorFoldD
import Derived.Test.YtapllnnconpieaaDoorSeg
set_option linter.unusedVariables false
namespace Go.Proofs.YtapllnnconpieaaDoor
open Go.RowKit

theorem index_zero : ∀ (s r : List UInt8), s.contains 0 = false → Lib.indexByte (s ++ 0 :: r) 0 = s.length
  | [], r, _ => by simp [Lib.indexByte]
  | b :: s, r, h => by
    rw [List.contains_cons, Bool.or_eq_false_iff] at h
    have ih := index_zero s r h.2
    have hb : (b == 0) = false := by
      have h1 := h.1
      rw [beq_eq_false_iff_ne] at h1 ⊢
      exact fun e => h1 e.symm
    have hc : (b :: s) ++ 0 :: r = b :: (s ++ 0 :: r) := rfl
    rw [hc, Lib.indexByte, hb]
    simp [ih]
theorem text_at (c s : List UInt8) (p : Nat) (hs : s.contains 0 = false) (hl : s.length ≤ 64) (hp : p + s.length + 1 ≤ c.length) (hg : seg c p (s.length + 1) = s ++ [0]) : textF c p 64 = some s := by
  have hd : c.drop p = s ++ 0 :: (c.drop p).drop (s.length + 1) := by
    conv => lhs; rw [← List.take_append_drop (s.length + 1) (c.drop p)]
    have : (c.drop p).take (s.length + 1) = s ++ [0] := hg
    rw [this]
    simp
  have hi : Lib.indexByte (c.drop p) 0 = s.length := by rw [hd]; exact index_zero s _ hs
  unfold textF
  rw [if_pos ⟨by omega, by omega⟩, Int.toNat_natCast, hi, if_pos ⟨by omega, by omega⟩, Int.toNat_natCast]
  congr 1
  rw [hd]
  simp

theorem fnVs_map (l : List UInt8) (dr ds at' : Int) : ∀ n, fnVs l dr ds at' n = (List.range n).map fun j : Nat => fnV l dr ds (numAt l (at' + 4 * j) 4)
  | 0 => rfl
  | n + 1 => by rw [fnVs, fnVs_map l dr ds at' n, List.range_succ, List.map_append]; rfl
theorem fnBads_false (l : List UInt8) (dr ds at' : Int) : ∀ n, (∀ j : Nat, j < n → fnBad l dr ds (numAt l (at' + 4 * j) 4) = false) → fnBads l dr ds at' n = false
  | 0, _ => rfl
  | n + 1, h => by rw [fnBads, fnBads_false l dr ds at' n (fun j hj => h j (by omega)), h n (by omega)]; rfl
theorem nmVs_map (l : List UInt8) (tx ix : Int) : ∀ n, nmVs l tx ix n = (List.range n).map fun j : Nat => nmV l tx ix j
  | 0 => rfl
  | n + 1 => by rw [nmVs, nmVs_map l tx ix n, List.range_succ, List.map_append]; rfl
theorem nmBads_false (l : List UInt8) (tx ix : Int) (nf : Nat) : ∀ n, (∀ j, j < n → nmBad l tx ix nf j = false) → nmBads l tx ix nf n = false
  | 0, _ => rfl
  | n + 1, h => by rw [nmBads, nmBads_false l tx ix nf n (fun j hj => h j (by omega)), h n (by omega)]; rfl

/-- One function's bytes. -/
theorem atFn_far (b : List UInt8) (i : Nat) (s : List UInt8) (k : Nat) (hk : k < b.length) (h : k < 296 + 4 * i ∨ 300 + 4 * i ≤ k) : (atFn 256 b i s)[k]? = b[k]? := by
  unfold atFn
  split
  · rw [putF_far _ _ _ _ _ (by omega), List.append_assoc, List.getElem?_append_left hk]
  · rw [putF_far _ _ _ _ _ (by omega)]
theorem atFn_num (b : List UInt8) (i : Nat) (s : List UInt8) (hl : 300 + 4 * i ≤ b.length) (hb : b.length < 65536) (hi : i ≤ 100) :
    numAt (atFn 256 b i s) (296 + 4 * (i : Int)) 4 = if s.contains 46 then b.length else if s = [] then 0 else 64 + i := by
  unfold atFn
  split
  · rw [putF_num _ (296 + 4 * (i : Int)) 4 (256 + 40 + 4 * i) 4 _ (by omega) rfl (by simp; omega), Nat.mod_eq_of_lt (by omega)]
  · rw [putF_num _ (296 + 4 * (i : Int)) 4 (256 + 40 + 4 * i) 4 _ (by omega) rfl (by omega), Nat.mod_eq_of_lt (by split <;> omega)]
theorem atFn_text (b : List UInt8) (i : Nat) (s : List UInt8) (hl : 300 + 4 * i ≤ b.length) (hp : s.contains 46 = true) : seg (atFn 256 b i s) b.length (s.length + 1) = s ++ [0] ∧ (atFn 256 b i s).length = b.length + s.length + 1 := by
  unfold atFn
  rw [if_pos hp]
  refine ⟨?_, by rw [putF_length]; simp; omega⟩
  rw [show seg (putF (b ++ s ++ [0]) (256 + 40 + 4 * i) 4 b.length) b.length (s.length + 1) = seg (b ++ (s ++ [0])) b.length (s.length + 1) from seg_congr (fun k hk => by rw [putF_far _ _ _ _ _ (by omega), List.append_assoc])]
  rw [seg, List.drop_left]
  exact List.take_of_length_le (by simp)

structure FnAt (c : List UInt8) (T j : Nat) (s : List UInt8) : Prop where
  num : ∃ p, numAt c (296 + 4 * (j : Int)) 4 = p ∧ (s.contains 46 = true → T ≤ p ∧ p + s.length + 1 ≤ c.length ∧ seg c p (s.length + 1) = s ++ [0]) ∧ (s.contains 46 = false → p = if s = [] then 0 else 64 + j)

theorem FnAt.keep {c d : List UInt8} {T j : Nat} {s : List UInt8} (h : FnAt c T j s) (hT : 300 + 4 * j ≤ T) (hc : T ≤ c.length) (hl : c.length ≤ d.length) (h1 : ∀ k, 296 + 4 * j ≤ k → k < 300 + 4 * j → d[k]? = c[k]?) (h2 : ∀ k, T ≤ k → k < c.length → d[k]? = c[k]?) : FnAt d T j s := by
  obtain ⟨p, hp, h3, h4⟩ := h.num
  refine ⟨p, ?_, fun e => ?_, h4⟩
  · rw [← hp]
    exact numAt_congr d c _ _ (296 + 4 * j) 4 (by omega) rfl (by omega) (by omega) (fun k a b => h1 k a (by omega))
  · obtain ⟨a, b, g⟩ := h3 e
    refine ⟨a, by omega, ?_⟩
    rw [← g]
    exact seg_congr (fun k hk => h2 _ (by omega) (by omega))

theorem fns_facts : ∀ (ss : List (List UInt8)) (i : Nat) (b : List UInt8) (n T : Nat), i + ss.length = n → n ≤ 12 → 296 + 4 * n ≤ T → T ≤ b.length → b.length ≤ 1000 + 101 * i → (∀ s ∈ ss, s.length ≤ 100) →
    b.length ≤ (atFns 256 ss i b).length ∧ (atFns 256 ss i b).length ≤ 1000 + 101 * n ∧ (∀ k, k < b.length → (k < 296 + 4 * i ∨ 296 + 4 * n ≤ k) → (atFns 256 ss i b)[k]? = b[k]?) ∧
    (∀ j s, ss[j]? = some s → FnAt (atFns 256 ss i b) T (i + j) s)
  | [], i, b, n, T, hi, hn, hT, hb, hbl, hs => ⟨Nat.le_refl _, by simp at hi; simp [atFns]; omega, fun k _ _ => rfl, fun j s h => by simp at h⟩
  | s :: ss, i, b, n, T, hi, hn, hT, hb, hbl, hs => by
    simp only [List.length_cons] at hi
    have hsl := hs s (by simp)
    have hal := atFn_length 256 b i s
    have hfar := atFn_far b i s
    have hnum := atFn_num b i s (by omega) (by omega) (by omega)
    have htxt := atFn_text b i s (by omega)
    obtain ⟨b', hb'⟩ : ∃ b', atFn 256 b i s = b' := ⟨_, rfl⟩
    rw [hb'] at hal hfar hnum htxt
    obtain ⟨i1, i2, i3, i4⟩ := fns_facts ss (i + 1) b' n T (by omega) hn hT (by omega) (by omega) (fun s h => hs s (by simp [h]))
    have hgo : atFns 256 (s :: ss) i b = atFns 256 ss (i + 1) b' := by rw [← hb']; rfl
    rw [hgo]
    obtain ⟨c, hc⟩ : ∃ c, atFns 256 ss (i + 1) b' = c := ⟨_, rfl⟩
    rw [hc] at i1 i2 i3 i4 ⊢
    refine ⟨by omega, i2, fun k hk h => ?_, fun j s' hj => ?_⟩
    · rw [i3 k (by omega) (by omega), hfar k hk (by omega)]
    · rcases j with _ | j
      · simp only [List.getElem?_cons_zero, Option.some.injEq] at hj
        subst hj
        have h0 : FnAt b' T i s := by
          refine ⟨_, hnum, fun e => ?_, fun e => ?_⟩
          · rw [if_pos e]
            obtain ⟨t1, t2⟩ := htxt e
            exact ⟨hb, by omega, t1⟩
          · rw [e]
            simp
        exact h0.keep (by omega) (by omega) i1 (fun k a b => i3 k (by omega) (.inl (by omega))) (fun k a b => i3 k b (.inr (by omega)))
      · rw [show i + (j + 1) = i + 1 + j by omega]
        exact i4 j s' (by simpa using hj)

/-- One name's bytes. -/
structure NmAt (c : List UInt8) (n T j : Nat) (s : List UInt8) : Prop where
  ex : ∃ p, numAt c (296 + 4 * (n : Int) + 4 * (j : Int)) 4 = p ∧ T ≤ p ∧ p + s.length + 1 ≤ c.length ∧ seg c p (s.length + 1) = s ++ [0] ∧ numAt c (296 + 8 * (n : Int) + 2 * (j : Int)) 2 = j

theorem NmAt.keep {c d : List UInt8} {n T j : Nat} {s : List UInt8} (h : NmAt c n T j s) (hj : j < n) (hT : T = 296 + 10 * n) (hc : T ≤ c.length) (hl : c.length ≤ d.length) (h1 : ∀ k, 296 + 4 * n + 4 * j ≤ k → k < 300 + 4 * n + 4 * j → d[k]? = c[k]?)
    (h3 : ∀ k, 296 + 8 * n + 2 * j ≤ k → k < 298 + 8 * n + 2 * j → d[k]? = c[k]?) (h2 : ∀ k, T ≤ k → k < c.length → d[k]? = c[k]?) : NmAt d n T j s := by
  obtain ⟨p, hp, a, b, g, hx⟩ := h.ex
  refine ⟨p, ?_, a, by omega, ?_, ?_⟩
  · rw [← hp]
    exact numAt_congr d c _ _ (296 + 4 * n + 4 * j) 4 (by omega) rfl (by omega) (by omega) (fun k a b => h1 k a (by omega))
  · rw [← g]
    exact seg_congr (fun k hk => h2 _ (by omega) (by omega))
  · refine Eq.trans ?_ hx
    exact numAt_congr d c _ _ (296 + 8 * n + 2 * j) 2 (by omega) rfl (by omega) (by omega) (fun k a b => h3 k a (by omega))

theorem atNm_far (n i : Nat) (b s : List UInt8) (k : Nat) (hk : k < b.length) (h1 : k < 296 + 4 * n + 4 * i ∨ 300 + 4 * n + 4 * i ≤ k) (h2 : k < 296 + 8 * n + 2 * i ∨ 298 + 8 * n + 2 * i ≤ k) : (atNm 256 n n b i s)[k]? = b[k]? := by
  unfold atNm
  rw [List.append_assoc, List.getElem?_append_left (by rw [putF_length, putF_length]; exact hk), putF_far _ _ _ _ _ (by omega), putF_far _ _ _ _ _ (by omega)]
theorem atNm_at (n T i : Nat) (b s : List UInt8) (hi : i < n) (hn : n ≤ 12) (hT : T = 296 + 10 * n) (hb : T ≤ b.length) (hbl : b.length < 65536) : NmAt (atNm 256 n n b i s) n T i s := by
  have hl := atNm_length 256 n n b i s
  have key : ∀ k, k < b.length → (atNm 256 n n b i s)[k]? = (putF (putF b (256 + 40 + 4 * n + 4 * i) 4 b.length) (256 + 40 + 4 * n + 4 * n + 2 * i) 2 (i % max n 1))[k]? := fun k hk => by
    unfold atNm
    rw [List.append_assoc, List.getElem?_append_left (by rw [putF_length, putF_length]; exact hk)]
  refine ⟨b.length, ?_, hb, by omega, ?_, ?_⟩
  · rw [numAt_congr _ (putF b (256 + 40 + 4 * n + 4 * i) 4 b.length) (296 + 4 * (n : Int) + 4 * (i : Int)) 4 (296 + 4 * n + 4 * i) 4 (by omega) rfl (by omega) (by rw [putF_length]; omega) (fun k a c => by
      rw [key k (by omega), putF_far _ _ _ _ _ (by omega)])]
    rw [putF_num _ (296 + 4 * (n : Int) + 4 * (i : Int)) 4 (256 + 40 + 4 * n + 4 * i) 4 _ (by omega) rfl (by omega), Nat.mod_eq_of_lt (by omega)]
  · have : (putF (putF b (256 + 40 + 4 * n + 4 * i) 4 b.length) (256 + 40 + 4 * n + 4 * n + 2 * i) 2 (i % max n 1)).length = b.length := by rw [putF_length, putF_length]
    unfold atNm
    obtain ⟨d, hd⟩ : ∃ d, putF (putF b (256 + 40 + 4 * n + 4 * i) 4 b.length) (256 + 40 + 4 * n + 4 * n + 2 * i) 2 (i % max n 1) = d := ⟨_, rfl⟩
    rw [hd] at this ⊢
    rw [List.append_assoc, seg, ← this, List.drop_left]
    exact List.take_of_length_le (by simp)
  · rw [numAt_congr _ (putF (putF b (256 + 40 + 4 * n + 4 * i) 4 b.length) (256 + 40 + 4 * n + 4 * n + 2 * i) 2 (i % max n 1)) (296 + 8 * (n : Int) + 2 * (i : Int)) 2 (296 + 8 * n + 2 * i) 2 (by omega) rfl (by omega) (by rw [putF_length, putF_length]; omega) (fun k a c => key k (by omega))]
    rw [putF_num _ (296 + 8 * (n : Int) + 2 * (i : Int)) 2 (256 + 40 + 4 * n + 4 * n + 2 * i) 2 _ (by omega) rfl (by rw [putF_length]; omega)]
    have : max n 1 = n := by omega
    rw [this, Nat.mod_eq_of_lt hi, Nat.mod_eq_of_lt (by omega)]

theorem nms_facts : ∀ (ss : List (List UInt8)) (i : Nat) (b : List UInt8) (n T : Nat), i + ss.length = n → n ≤ 12 → T = 296 + 10 * n → T ≤ b.length → b.length ≤ 3000 + 101 * i → (∀ s ∈ ss, s.length ≤ 100) →
    b.length ≤ (atNms 256 n n ss i b).length ∧ (atNms 256 n n ss i b).length ≤ 3000 + 101 * n ∧ (∀ k, k < b.length → (k < 296 + 4 * n + 4 * i ∨ 296 + 8 * n ≤ k) → (k < 296 + 8 * n + 2 * i ∨ T ≤ k) → (atNms 256 n n ss i b)[k]? = b[k]?) ∧
    (∀ j s, ss[j]? = some s → NmAt (atNms 256 n n ss i b) n T (i + j) s)
  | [], i, b, n, T, hi, hn, hT, hb, hbl, hs => ⟨Nat.le_refl _, by simp at hi; simp [atNms]; omega, fun k _ _ _ => rfl, fun j s h => by simp at h⟩
  | s :: ss, i, b, n, T, hi, hn, hT, hb, hbl, hs => by
    simp only [List.length_cons] at hi
    have hsl := hs s (by simp)
    have hal := atNm_length 256 n n b i s
    have hfar := atNm_far n i b s
    have hat := atNm_at n T i b s (by omega) hn hT hb (by omega)
    obtain ⟨b', hb'⟩ : ∃ b', atNm 256 n n b i s = b' := ⟨_, rfl⟩
    rw [hb'] at hal hfar hat
    obtain ⟨i1, i2, i3, i4⟩ := nms_facts ss (i + 1) b' n T (by omega) hn hT (by omega) (by omega) (fun s h => hs s (by simp [h]))
    have hgo : atNms 256 n n (s :: ss) i b = atNms 256 n n ss (i + 1) b' := by rw [← hb']; rfl
    rw [hgo]
    obtain ⟨c, hc⟩ : ∃ c, atNms 256 n n ss (i + 1) b' = c := ⟨_, rfl⟩
    rw [hc] at i1 i2 i3 i4 ⊢
    refine ⟨by omega, i2, fun k hk h h' => ?_, fun j s' hj => ?_⟩
    · rw [i3 k (by omega) (by omega) (by omega), hfar k hk (by omega) (by omega)]
    · rcases j with _ | j
      · simp only [List.getElem?_cons_zero, Option.some.injEq] at hj
        subst hj
        exact hat.keep (by omega) hT (by omega) i1 (fun k a b => i3 k (by omega) (by omega) (by omega)) (fun k a b => i3 k (by omega) (by omega) (by omega)) (fun k a b => i3 k b (.inr (by omega)) (.inr a))
      · rw [show i + (j + 1) = i + 1 + j by omega]
        exact i4 j s' (by simpa using hj)
end Go.Proofs.YtapllnnconpieaaDoor
