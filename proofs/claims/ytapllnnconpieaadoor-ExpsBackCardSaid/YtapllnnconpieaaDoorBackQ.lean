/- ExpsBack: what is found (plain). -/
import Derived.Test.YtapllnnconpieaaDoorBackP
import Derived.Test.YtapllnnconpieaaDoorAwake7
set_option linter.unusedVariables false
namespace Go.Proofs.YtapllnnconpieaaDoor
open Go.RowKit

/-- What is found of a function of a kind. -/
def fB (k j : Nat) : Option FuncD := if k = 1 then none else some (kF k j)
theorem at_backX (ks : List Nat) (base j : Nat) (hj : j < ks.length) : atX (backX ks base) (j : Int) = fB (ks.getD j 0) j := by
  have h : (backX ks base).funcs[j]? = some (kF (ks.getD j 0) j) := by
    rw [backX, List.getElem?_map, List.getElem?_range hj]
    rfl
  unfold atX
  rw [if_pos (by omega), Int.toNat_natCast, h]
  obtain ⟨k, hk⟩ : ∃ k, ks.getD j 0 = k := ⟨_, rfl⟩
  rw [hk]
  match k with
  | 0 =>
    simp only [kF, fB]
    rw [if_neg (by simp; omega), if_neg (by omega)]
  | 1 =>
    simp [kF, fB]
  | 2 => simp [kF, fB, kT]
  | k + 3 => simp [kF, fB, kT]
theorem nT_inj : ∀ a, a < 10 → ∀ b, b < 10 → nT a = nT b → a = b := by decide +kernel
theorem back_name (ks : List Nat) (base j : Nat) (hn : ks.length ≤ 10) (hj : j < ks.length) : findX (backX ks base) ⟨nT j, 0, false⟩ = fB (ks.getD j 0) j := by
  have hf : (backX ks base).names.find? (fun m => m.name == nT j) = some ⟨nT j, j⟩ := by
    rw [List.find?_eq_some_iff_getElem]
    refine ⟨by simp, j, by simp [backX, hj], by simp [backX], fun k hk => ?_⟩
    simp only [backX, List.getElem_map, List.getElem_range, Bool.not_eq_true', beq_eq_false_iff_ne]
    intro h
    have := nT_inj _ (by omega) _ (by omega) h
    omega
  have hi : idxX (backX ks base) ⟨nT j, 0, false⟩ = some ((j : Nat) : Int) := by
    unfold idxX
    simp only [Bool.false_eq_true, if_false, hf, Option.map_some]
  unfold findX
  rw [hi]
  exact at_backX ks base j hj
theorem back_ord (ks : List Nat) (base j : Nat) (hj : j < ks.length) : findX (backX ks base) ⟨[], (base : Int) + j, true⟩ = fB (ks.getD j 0) j := by
  have hi : idxX (backX ks base) ⟨[], (base : Int) + j, true⟩ = some ((j : Nat) : Int) := by
    unfold idxX
    simp only [if_true]
    rw [if_pos ⟨by simp [backX]; omega, by simp [backX]; omega⟩]
    congr 1
    simp [backX]
    omega
  unfold findX
  rw [hi]
  exact at_backX ks base j hj
theorem backX_fl (ks : List Nat) (base : Nat) : (backX ks base).funcs.length = ks.length := by simp [backX]
theorem backX_nl (ks : List Nat) (base : Nat) : (backX ks base).names.length = ks.length := by simp [backX]
theorem backNs_succ (j : Nat) : strs (backNs (j + 1)) = strs (backNs j) ++ [.string (S (nT j))] := by simp [backNs, strs, List.range_succ]
theorem strs_map_snoc (ks : List Nat) (j : Nat) (h : j < ks.length) : strs ((ks.take (j + 1)).map kT) = strs ((ks.take j).map kT) ++ [.string (S (kT (ks.getD j 0)))] := by
  rw [List.getD_eq_getElem?_getD, List.getElem?_eq_getElem h, List.take_succ_eq_append_getElem h, List.map_append, strs, List.map_append]
  rfl
/-- The four texts. -/
def four : Array Value := #[.string ⟨#[102]⟩, .string ⟨#[]⟩, .string ⟨#[97, 46, 100, 108, 108, 46, 103]⟩, .string ⟨#[98, 46, 35, 55]⟩]
theorem four_at : ∀ k, k < 4 → four[k]? = some (.string (S (kT k)))
  | 0, _ => rfl
  | 1, _ => rfl
  | 2, _ => rfl
  | 3, _ => rfl
  | k + 4, h => absurd h (by omega)
theorem infoStr : (Tryd.prog.info? 9).map (fun i => (i.zero, i.size, i.bytes)) = some (some (.string ⟨#[]⟩), 1, 16) := by kernel_rfl
/-- Two rows of one's own whose first elements differ lie in different blocks. -/
theorem own_ne0 {w : World} {b b' : Nat} {e e' : TypeId} {sz sz' : Nat} {v v' : Value} {n n' : Nat} {xs xs' : List Value} (h : w.ownsRow b e sz v n xs) (h' : w.ownsRow b' e' sz' v' n' xs') {x y : Value} (hx : xs[0]? = some x) (hy : xs'[0]? = some y) (hxy : x ≠ y) : v.ownBlock = none ∨ v.ownBlock ≠ v'.ownBlock := by
  obtain ⟨A, c, rfl, -, r⟩ := own_row h
  obtain ⟨A', c', rfl, -, r'⟩ := own_row h'
  obtain ⟨-, ⟨e1, -⟩ | ⟨g, cap, cur, e1, -, hh, -⟩⟩ := h
  · exact .inl (by rw [e1]; rfl)
  · obtain ⟨-, ⟨e2, -⟩ | ⟨g', cap', cur', e2, -, hh', -⟩⟩ := h'
    · exact .inr (by rw [e1, e2]; simp [Value.ownBlock])
    · refine .inr fun he => hxy ?_
      rw [e1, e2] at he
      simp only [Value.ownBlock, Option.some.injEq] at he
      simp only [Value.slice.injEq] at e1 e2
      obtain ⟨rfl, -, rfl⟩ := e1
      obtain ⟨rfl, -, rfl⟩ := e2
      subst he
      obtain ⟨hl, rfl⟩ := List.getElem?_eq_some_iff.1 hx
      obtain ⟨hl', rfl⟩ := List.getElem?_eq_some_iff.1 hy
      obtain ⟨ad, ea, ca⟩ := r.cell hl
      obtain ⟨ad', ea', ca'⟩ := r'.cell hl'
      obtain rfl := Option.some.inj (ea.symm.trans ea')
      rw [ca] at ca'
      exact Option.some.inj ca'
theorem back_B (ks : List Nat) (base n : Nat) (hn : ks.length = n) (h10 : n ≤ 10) : (atB 256 (ks.map kT) (backNs n) base).length ≤ 5000 := by
  have hnl : (backNs n).length = n := by simp [backNs]
  have hf : (ks.map kT).take 12 = ks.map kT := List.take_of_length_le (by rw [List.length_map]; omega)
  have hg : atB 256 (ks.map kT) (backNs n) base = atFns 256 (ks.map kT) 0 (atHead 256 n n base) := by
    rw [atB, hf, hnl, List.length_map, hn, show min n 12 = n by omega]
  have hH := atHead_length 256 n n base
  obtain ⟨-, f2, -, -⟩ := fns_facts (ks.map kT) 0 (atHead 256 n n base) n (296 + 10 * n) (by rw [List.length_map]; omega) (by omega) (by omega) (by omega) (by omega) (fun s hs => by
    obtain ⟨k, -, rfl⟩ := List.mem_map.mp hs
    have := kT_length k
    omega)
  rw [hg]
  omega
theorem kT_nT (k j : Nat) : Value.string (S (kT k)) ≠ Value.string (S (nT j)) := by
  intro h
  simp only [Value.string.injEq] at h
  have h2 := congrArg ByteArray.size h
  rw [S_size, S_size] at h2
  match k, h2 with
  | 0, h2 => simp [kT, nT] at h2
  | 1, h2 => simp [kT, nT] at h2
  | 2, h2 => simp [kT, nT] at h2
  | k + 3, h2 => simp [kT, nT] at h2
theorem back_apart {w : World} {N i j : Nat} {fv nv : Value} (ks : List Nat) (hF : w.ownsRow N 9 1 fv i (strs ((ks.take i).map kT))) (hN : w.ownsRow N 9 1 nv j (strs (backNs j))) (hi : i ≤ ks.length) (h0 : i = 0 → fv = .slice none 0 0) (h1 : j = 0 → nv = .slice none 0 0) :
    (nv.ownBlock = none ∨ nv.ownBlock ≠ fv.ownBlock) ∧ (fv.ownBlock = none ∨ fv.ownBlock ≠ nv.ownBlock) := by
  rcases Nat.eq_zero_or_pos i with hz | hz
  · have e := h0 hz
    subst e
    refine ⟨?_, .inl rfl⟩
    cases hb : nv.ownBlock with
    | none => exact .inl rfl
    | some k => exact .inr (by simp [Value.ownBlock])
  · rcases Nat.eq_zero_or_pos j with hy | hy
    · have e := h1 hy
      subst e
      refine ⟨.inl rfl, ?_⟩
      cases hb : fv.ownBlock with
      | none => exact .inl rfl
      | some k => exact .inr (by simp [Value.ownBlock])
    · have x1 : (strs ((ks.take i).map kT))[0]? = some (.string (S (kT (ks.getD 0 0)))) := by
        rw [strs, List.map_map, List.getElem?_map, List.getElem?_take, if_pos hz, List.getD_eq_getElem?_getD, List.getElem?_eq_getElem (by omega)]
        rfl
      have x2 : (strs (backNs j))[0]? = some (.string (S (nT 0))) := by
        rw [strs, backNs, List.map_map, List.getElem?_map, List.getElem?_range hy]
        rfl
      exact ⟨own_ne0 hN hF x2 x1 (fun h => kT_nT _ _ h.symm), own_ne0 hF hN x1 x2 (kT_nT _ _)⟩
theorem str_byte (W : World) (h : Nat) (hh : h = W.heap.size) (a : Nat) (ha : a < 256) (x : Int) (hx : x = a) (bt : UInt8) (hbt : UInt8.ofNat a = bt) :
    (convert 22 9 (.slice (some ⟨h, 0, none⟩) 1 1)).run Tryd.prog (W.alloc (.cells #[.int .u8 x] 5)) = .ok (.string (S [bt])) (W.alloc (.cells #[.int .u8 x] 5)) := by
  subst hh hx hbt
  refine run_str _ _ _ 5 Tryd.underlying22 Tryd.underlying5 Tryd.underlying9 _ 1 1 [UInt8.ofNat a] rfl ?_
  have h := Row.new W #[.int .u8 (a : Int)] 5
  have ht : (UInt8.ofNat a).toNat = a := by simp; omega
  simp only [bcells, List.map_cons, List.map_nil, ht]
  exact h
theorem back_step {w wr wa w1 : World} {N : Nat} {v u : Value} {n m : Nat} {xs ys : List Value} (hN : w.heap.size = N) (hu : Below w.heap.size w wr) (hs : N ≤ wr.heap.size) (ha : Below wr.heap.size wr wa) (hv : wr.ownsRow N 9 1 v n xs) (hy : wr.ownsRow N 9 1 u m ys)
    (hne : u.ownBlock = none ∨ u.ownBlock ≠ v.ownBlock) (hg : wa.grownBy w1 v.ownBlock) : w1.ownsRow N 9 1 u m ys ∧ Below w.heap.size w w1 ∧ N ≤ w1.heap.size := by
  have hlt : ∀ k, v.ownBlock = some k → N ≤ k := fun k hk => (hv.lt k hk).1
  have s1 := hg.size
  have sa := ha.size
  exact ⟨(own_below hy ha).kept hg hne, (hu.trans (ha.mono (by omega))).grown hg (by omega) (fun k hk => by have := hlt k hk; omega), by omega⟩
end Go.Proofs.YtapllnnconpieaaDoor
