/- HdrCuts: what it leans on: an append of any bytes; an image that is cut. -/
import Derived.Test.YtajcihcbgmpdjaaChains
namespace Go.Proofs.Ytajcihcbgmpdjaa
open Go.RowKit

theorem ownB_empty (w : World) : OwnB (w.alloc (.cells #[] 5)) w.heap.size (.slice (some ⟨w.heap.size, 0, none⟩) 0 0) [] :=
  ⟨w.heap.size, 0, #[], (0, 0), rfl, Nat.le_refl _, heap_alloc_new w _, .inl (Nat.le_refl _), Nat.le_refl _, by decide, by decide, rfl, rfl⟩

/-- 'b = append(b, m...)', m nil or not. -/
theorem wp_appBs {ops : Array Oper} {rest : List Oper} {o : Oper} {a : Act} {w : World} {Q : Exit → Act → World → Prop} (hgd : o.guard = none) (s x : Operand)
    (ho : o.op = .call { callee := .builtin .append, args := #[s, x], argTypes := #[23, 23] })
    (base : Nat) (v : Value) (l m : List UInt8) (A : Option Addr) (c : Nat) (hs : a.eval s = v) (hv : OwnB w base v l) (hx : a.eval x = .slice A m.length c) (hm : Bs w A c m) (hml : l.length + m.length ≤ 140737488355328) (hb0 : base ≤ w.heap.size)
    (h : ∀ v' w', OwnB w' base v' (l ++ m) → (∀ w0, Below base w0 w → Below base w0 w') → wpList Try.prog ops Q rest (a.put o.dst v') w') : wpList Try.prog ops Q (o :: rest) a w := by
  cases A with
  | some ad => exact wp_appB hgd s x ho infoByte base v l m ad c hs hv hx hm hml hb0 h
  | none =>
    obtain ⟨i, hi, hz, hs1, hby⟩ := info_parts infoByte
    have hm0 : m = [] := by
      rcases hm.row with h | ⟨ad, e, _⟩
      · simpa [bcells] using h
      · cases e
    subst hm0
    obtain ⟨g, cap, rfl, hg, hlt, hbs⟩ := hv.bs
    have hle := hbs.le
    have hrun : (Builtin.append_ #[23, 23] o.type #[.slice (some ⟨g, 0, none⟩) l.length cap, .slice none 0 c]).run Try.prog w = .ok (.slice (some ⟨g, 0, none⟩) l.length cap) w := by
      simp [Builtin.append_, run_underlying Try.underlying23, sizeOf, typeInfo, hi, Builtin.lenOf, Builtin.firstCells, hle, storeCells]
    refine wpList_plain hgd fun K hK => ?_
    unfold Oper.wp
    have hx' : a.eval x = .slice none 0 c := hx
    simp [execOp, ho, resolve, invoke, builtin, hs, hx', hrun, Result.andThen]
    exact hK _ _ (h _ w (by simpa using hv) (fun _ hb => hb))

set_option maxRecDepth 100000 in
/-- An image that is cut is none. -/
theorem cut_none (L : List UInt8) (zs : List (Int × Int × Int)) (h : MadeL L zs) (hL : L.length = 1024 + secsLen zs) (k : Nat) (hk : k < L.length) : ∃ e : Int, e ≠ 0 ∧ parseF (L.take k) = .error e := by
  obtain ⟨sl, hsl⟩ : ∃ s, secsLen zs = s := ⟨_, rfl⟩
  by_cases h1 : 1024 ≤ k
  · refine ⟨7, by decide, (parse_madeL (h.take k h1 (by omega))).2 ?_⟩
    rw [List.length_take, hsl]
    omega
  · obtain ⟨l, hl⟩ : ∃ l, L.take k = l := ⟨_, rfl⟩
    have hll : l.length = k := by rw [← hl, List.length_take]; omega
    have hg : ∀ j, j < k → l[j]? = L[j]? := fun j hj => by rw [← hl, List.getElem?_take, if_pos hj]
    rw [hl]
    by_cases hs : startE l = 0
    · obtain ⟨p1, p2⟩ := start_ok l hs
      have hp : numAt l 60 4 = 64 := by
        have hn := h.nums
        simp only [headNums, List.cons.injEq, and_true] at hn
        rw [← hn.1]
        exact numAt_congr _ _ 60 4 60 4 rfl rfl (by omega) (by omega) (fun j h1 h2 => hg j (by omega))
      rw [hp, hll] at p2
      by_cases hf : formsE l ((64 : Nat) : Int) = 0
      · by_cases hz : sizesE l ((64 : Nat) : Int) (headAt l ((64 : Nat) : Int) []).base (headAt l ((64 : Nat) : Int) []).size = 0
        · refine ⟨7, by decide, ?_⟩
          have h84 : (headAt l ((64 : Nat) : Int) []).headers = 1024 := by
            have hn := h.nums
            simp only [headNums, List.cons.injEq, and_true] at hn
            obtain ⟨-, -, -, -, -, -, -, -, -, hn, -⟩ := hn
            rw [← hn]
            exact numAt_congr _ _ _ 4 148 4 rfl rfl (by omega) (by omega) (fun j h1 h2 => hg j (by omega))
          have hsf : sectsF l ((64 : Nat) : Int) (headAt l ((64 : Nat) : Int) []).size (headAt l ((64 : Nat) : Int) []).headers = none := by
            unfold sectsF
            rw [h84, if_pos (by rw [hll]; omega)]
          unfold parseF
          rw [if_neg (by rw [hs]; simp), hp, if_neg (by rw [hf]; simp)]
          unfold parse2
          rw [if_neg (by rw [hz]; simp), parse3_none hsf]
        · refine ⟨_, hz, ?_⟩
          unfold parseF
          rw [if_neg (by rw [hs]; simp), hp, if_neg (by rw [hf]; simp)]
          unfold parse2
          rw [if_pos hz]
      · refine ⟨_, hf, ?_⟩
        unfold parseF
        rw [if_neg (by rw [hs]; simp), hp, if_pos hf]
    · refine ⟨_, hs, ?_⟩
      unfold parseF
      rw [if_pos hs]

/-- What is left of the sections, with where their bytes stand. -/
def LeftF (xs : List SectD) (zs : List (Int × Int × Int)) (tot j pt : Nat) : Prop := ∃ rva, xs.drop j = secsD (zs.drop j) j rva pt ∧ pt + secsLen (zs.drop j) = tot

theorem LeftF.zero (zs : List (Int × Int × Int)) : LeftF (secsD zs 0 4096 1024) zs (1024 + secsLen zs) 0 1024 := ⟨4096, rfl, rfl⟩

theorem LeftF.next {xs : List SectD} {zs : List (Int × Int × Int)} {tot j pt : Nat} (h : LeftF xs zs tot j pt) (hj : j < zs.length) :
    ∃ s, xs[j]? = some s ∧ s.pt = pt ∧ s.raw ≤ 8191 ∧ LeftF xs zs tot (j + 1) (pt + s.raw) := by
  obtain ⟨rva, h1, h2⟩ := h
  have hd : zs.drop j = zs[j] :: zs.drop (j + 1) := List.drop_eq_getElem_cons hj
  obtain ⟨x, hx⟩ : ∃ x, zs[j] = x := ⟨_, rfl⟩
  obtain ⟨-, -, -, -, -, -, s7, -⟩ := sec_bd x
  rw [hx] at hd
  rw [hd, secsD] at h1
  rw [hd, secsLen] at h2
  obtain ⟨r, hr⟩ : ∃ r, secRaw x = r := ⟨_, rfl⟩
  rw [hr] at h1 h2 s7
  have hj0 : xs[j]? = some ⟨[115, UInt8.ofNat (48 + j)], secV x, rva, r, pt, secCh x⟩ := by
    have : (xs.drop j)[0]? = xs[j]? := by rw [List.getElem?_drop, Nat.add_zero]
    rw [← this, h1]
    rfl
  have hj1 : xs.drop (j + 1) = secsD (zs.drop (j + 1)) (j + 1) (rva + secFull x) (pt + r) := by
    have : xs.drop (j + 1) = (xs.drop j).drop 1 := by rw [List.drop_drop]
    rw [this, h1]
    rfl
  exact ⟨_, hj0, rfl, s7, rva + secFull x, hj1, by rw [← h2]; exact Nat.add_assoc _ _ _⟩

theorem LeftF.last {xs : List SectD} {zs : List (Int × Int × Int)} {tot j pt : Nat} (h : LeftF xs zs tot j pt) (hj : zs.length ≤ j) : pt = tot := by
  obtain ⟨rva, h1, h2⟩ := h
  rw [List.drop_of_length_le hj] at h2
  exact h2
end Go.Proofs.Ytajcihcbgmpdjaa
