/- slipwayref1.Head: plain laws. -/
import Derived.Test.YtajcihcbgmpdjaaHead
import Derived.Test.YtajcihcbgmpdjaaTextF
set_option linter.unusedVariables false
set_option linter.unusedSimpArgs false
namespace Go.Proofs.Ytajcihcbgmpdjaa
open Go.RowKit

/-- Whether a section may not be, as the document asks. -/
def refBad (l : List UInt8) (size x : Int) (s : SectD) : Prop :=
  (s.rva : Int) ≠ x ∨ s.vs = 0 ∨ size < s.vs ∨ s.raw % 512 ≠ 0 ∨ roundF s.vs 4096 < s.raw ∨ (0 < s.raw ∧ inB l.length s.pt s.raw = false)
instance (l : List UInt8) (size x : Int) (s : SectD) : Decidable (refBad l size x s) := by unfold refBad; infer_instance
def refGo (l : List UInt8) (p size : Int) : Nat → Nat → Int → Option (List SectD)
  | 0, _, x => if x = size then some [] else none
  | k + 1, i, x =>
    if refBad l size x (sectAt l p (264 + 40 * (i : Int))) then none
    else (refGo l p size k (i + 1) ((sectAt l p (264 + 40 * (i : Int))).rva + roundF (sectAt l p (264 + 40 * (i : Int))).vs 4096)).map (sectAt l p (264 + 40 * (i : Int)) :: ·)
theorem sectAt_vs (l : List UInt8) (p q : Int) : (sectAt l p q).vs < 4294967296 := numAt_lt l _ 4
theorem refGo_high (l : List UInt8) (p size : Int) : ∀ (k i : Nat) (x : Int), size < x → refGo l p size k i x = none
  | 0, i, x, h => by rw [refGo, if_neg (by omega)]
  | k + 1, i, x, h => by
    rw [refGo]
    split
    · rfl
    · rename_i hb
      have hx : ((sectAt l p (264 + 40 * (i : Int))).rva : Int) = x := by
        rcases Int.lt_trichotomy ((sectAt l p (264 + 40 * (i : Int))).rva : Int) x with h1 | h1 | h1
        · exact absurd (.inl (by omega)) hb
        · exact h1
        · exact absurd (.inl (by omega)) hb
      have hr := round_bounds ((sectAt l p (264 + 40 * (i : Int))).vs : Int) (by omega) (by have := sectAt_vs l p (264 + 40 * (i : Int)); omega)
      rw [refGo_high l p size k (i + 1) _ (by omega)]
      rfl
theorem refGo_eq (l : List UInt8) (p size : Int) : ∀ (k i : Nat) (x : Int), sectsGo l p size k i x = refGo l p size k i x
  | 0, i, x => rfl
  | k + 1, i, x => by
    rw [sectsGo, refGo]
    by_cases h1 : refBad l size x (sectAt l p (264 + 40 * (i : Int)))
    · have h2 : sectBad l size x (sectAt l p (264 + 40 * (i : Int))) := by
        rcases h1 with h | h | h | h | h | h
        · exact .inl h
        · exact .inr (.inl h)
        · exact .inr (.inr (.inl (by omega)))
        · exact .inr (.inr (.inr (.inl h)))
        · exact .inr (.inr (.inr (.inr (.inl h))))
        · exact .inr (.inr (.inr (.inr (.inr h))))
      rw [if_pos h1, if_pos h2]
    · rw [if_neg h1]
      by_cases h2 : sectBad l size x (sectAt l p (264 + 40 * (i : Int)))
      · rw [if_pos h2]
        have hr := round_bounds ((sectAt l p (264 + 40 * (i : Int))).vs : Int) (by omega) (by have := sectAt_vs l p (264 + 40 * (i : Int)); omega)
        have h3 : size < (sectAt l p (264 + 40 * (i : Int))).rva + roundF (sectAt l p (264 + 40 * (i : Int))).vs 4096 := by
          rcases h2 with h | h | h | h | h | h
          · exact absurd (.inl h) h1
          · exact absurd (.inr (.inl h)) h1
          · omega
          · exact absurd (.inr (.inr (.inr (.inl h)))) h1
          · exact absurd (.inr (.inr (.inr (.inr (.inl h))))) h1
          · exact absurd (.inr (.inr (.inr (.inr (.inr h))))) h1
        rw [refGo_high l p size k (i + 1) _ h3]
        rfl
      · rw [if_neg h2, refGo_eq l p size k (i + 1)]
set_option maxHeartbeats 1000000 in
theorem ref_cases (l : List UInt8) (size y lg : Int) (s : SectD) (hlg : roundF s.vs 4096 = lg) :
    (((s.rva : Int) != y) = true ∧ refBad l size y s) ∨
              (((s.rva : Int) != y) = false ∧ ((s.vs : Int) == 0) = true ∧ refBad l size y s) ∨
              (((s.rva : Int) != y) = false ∧ ((s.vs : Int) == 0) = false ∧ decide (size < (s.vs : Int)) = true ∧ refBad l size y s) ∨
              (((s.rva : Int) != y) = false ∧ ((s.vs : Int) == 0) = false ∧ decide (size < (s.vs : Int)) = false ∧ (((s.raw : Int) % 512) != 0) = true ∧ refBad l size y s) ∨
              (((s.rva : Int) != y) = false ∧ ((s.vs : Int) == 0) = false ∧ decide (size < (s.vs : Int)) = false ∧ (((s.raw : Int) % 512) != 0) = false ∧ decide (lg < (s.raw : Int)) = true ∧ refBad l size y s) ∨
              (((s.rva : Int) != y) = false ∧ ((s.vs : Int) == 0) = false ∧ decide (size < (s.vs : Int)) = false ∧ (((s.raw : Int) % 512) != 0) = false ∧ decide (lg < (s.raw : Int)) = false ∧ decide (0 < (s.raw : Int)) = true ∧ inB l.length s.pt s.raw = false ∧ refBad l size y s) ∨
              (((s.rva : Int) != y) = false ∧ ((s.vs : Int) == 0) = false ∧ decide (size < (s.vs : Int)) = false ∧ (((s.raw : Int) % 512) != 0) = false ∧ decide (lg < (s.raw : Int)) = false ∧ decide (0 < (s.raw : Int)) = true ∧ inB l.length s.pt s.raw = true ∧ ¬ refBad l size y s) ∨
              (((s.rva : Int) != y) = false ∧ ((s.vs : Int) == 0) = false ∧ decide (size < (s.vs : Int)) = false ∧ (((s.raw : Int) % 512) != 0) = false ∧ decide (lg < (s.raw : Int)) = false ∧ decide (0 < (s.raw : Int)) = false ∧ ¬ refBad l size y s) := by
  simp only [bne_iff_ne, bne_eq_false_iff_eq, beq_iff_eq, beq_eq_false_iff_ne, decide_eq_true_eq, decide_eq_false_iff_not, refBad, hlg, ne_eq]
  by_cases h1 : (s.rva : Int) = y
  · by_cases h2 : (s.vs : Int) = 0
    · refine .inr (.inl ⟨by omega, by omega, .inr (.inl (by omega))⟩)
    · by_cases h3 : size < (s.vs : Int)
      · exact .inr (.inr (.inl ⟨by omega, h2, h3, .inr (.inr (.inl h3))⟩))
      · by_cases h4 : (s.raw : Int) % 512 = 0
        · by_cases h5 : lg < s.raw
          · exact .inr (.inr (.inr (.inr (.inl ⟨by omega, h2, h3, by omega, h5, .inr (.inr (.inr (.inr (.inl h5))))⟩))))
          · by_cases h6 : 0 < (s.raw : Int)
            · cases h7 : inB l.length s.pt s.raw with
              | false => exact .inr (.inr (.inr (.inr (.inr (.inl ⟨by omega, h2, h3, by omega, h5, h6, rfl, .inr (.inr (.inr (.inr (.inr ⟨by omega, rfl⟩))))⟩)))))
              | true =>
                refine .inr (.inr (.inr (.inr (.inr (.inr (.inl ⟨by omega, h2, h3, by omega, h5, h6, rfl, ?_⟩))))))
                rintro (h | h | h | h | h | ⟨_, h⟩)
                · omega
                · omega
                · omega
                · omega
                · omega
                · cases h
            · refine .inr (.inr (.inr (.inr (.inr (.inr (.inr ⟨by omega, h2, h3, by omega, h5, h6, ?_⟩))))))
              rintro (h | h | h | h | h | ⟨h, _⟩)
              all_goals omega
        · exact .inr (.inr (.inr (.inl ⟨by omega, h2, h3, by omega, .inr (.inr (.inr (.inl (by omega))))⟩)))
  · exact .inl ⟨by omega, .inl h1⟩

theorem name_text (s : List UInt8) (h : s.length = 8) : (textF s 0 8 = some (cutHead s 0)) ∨ (textF s 0 8 = none ∧ cutHead s 0 = s) := by
  have hT : textF s 0 8 = if 0 ≤ Lib.indexByte s 0 ∧ Lib.indexByte s 0 ≤ 8 then some (s.take (Lib.indexByte s 0).toNat) else none := by
    unfold textF
    rw [if_pos ⟨by omega, by omega⟩]
    rfl
  have hl := indexByte_len s 0
  rw [hT]
  unfold cutHead
  by_cases h0 : 0 ≤ Lib.indexByte s 0
  · left
    rw [if_pos ⟨h0, by omega⟩, if_neg (by omega)]
  · right
    rw [if_neg (fun h => h0 h.1), if_pos (by omega)]
    exact ⟨rfl, rfl⟩
theorem sizes_cases (x56 x60 base size : Nat) : ((((x56 : Int) != 4096) = true) ∧ ((x56 ≠ 4096) ∨ (x60 ≠ 512) ∨ ((base : Int) % 65536 ≠ 0) ∨ ((base : Int) < 65536) ∨ (35184372088832 < (base : Int)) ∨ ((size : Int) % 4096 ≠ 0) ∨ ((size : Int) < 4096) ∨ (262144 < (size : Int)))) ∨ ((((x56 : Int) != 4096) = false) ∧ (((x60 : Int) != 512) = true) ∧ ((x56 ≠ 4096) ∨ (x60 ≠ 512) ∨ ((base : Int) % 65536 ≠ 0) ∨ ((base : Int) < 65536) ∨ (35184372088832 < (base : Int)) ∨ ((size : Int) % 4096 ≠ 0) ∨ ((size : Int) < 4096) ∨ (262144 < (size : Int)))) ∨ ((((x56 : Int) != 4096) = false) ∧ (((x60 : Int) != 512) = false) ∧ (((base : Int) % 65536 != 0) = true) ∧ ((x56 ≠ 4096) ∨ (x60 ≠ 512) ∨ ((base : Int) % 65536 ≠ 0) ∨ ((base : Int) < 65536) ∨ (35184372088832 < (base : Int)) ∨ ((size : Int) % 4096 ≠ 0) ∨ ((size : Int) < 4096) ∨ (262144 < (size : Int)))) ∨ ((((x56 : Int) != 4096) = false) ∧ (((x60 : Int) != 512) = false) ∧ (((base : Int) % 65536 != 0) = false) ∧ (decide ((base : Int) < 65536) = true) ∧ ((x56 ≠ 4096) ∨ (x60 ≠ 512) ∨ ((base : Int) % 65536 ≠ 0) ∨ ((base : Int) < 65536) ∨ (35184372088832 < (base : Int)) ∨ ((size : Int) % 4096 ≠ 0) ∨ ((size : Int) < 4096) ∨ (262144 < (size : Int)))) ∨ ((((x56 : Int) != 4096) = false) ∧ (((x60 : Int) != 512) = false) ∧ (((base : Int) % 65536 != 0) = false) ∧ (decide ((base : Int) < 65536) = false) ∧ (decide (35184372088832 < (base : Int)) = true) ∧ ((x56 ≠ 4096) ∨ (x60 ≠ 512) ∨ ((base : Int) % 65536 ≠ 0) ∨ ((base : Int) < 65536) ∨ (35184372088832 < (base : Int)) ∨ ((size : Int) % 4096 ≠ 0) ∨ ((size : Int) < 4096) ∨ (262144 < (size : Int)))) ∨ ((((x56 : Int) != 4096) = false) ∧ (((x60 : Int) != 512) = false) ∧ (((base : Int) % 65536 != 0) = false) ∧ (decide ((base : Int) < 65536) = false) ∧ (decide (35184372088832 < (base : Int)) = false) ∧ (((size : Int) % 4096 != 0) = true) ∧ ((x56 ≠ 4096) ∨ (x60 ≠ 512) ∨ ((base : Int) % 65536 ≠ 0) ∨ ((base : Int) < 65536) ∨ (35184372088832 < (base : Int)) ∨ ((size : Int) % 4096 ≠ 0) ∨ ((size : Int) < 4096) ∨ (262144 < (size : Int)))) ∨ ((((x56 : Int) != 4096) = false) ∧ (((x60 : Int) != 512) = false) ∧ (((base : Int) % 65536 != 0) = false) ∧ (decide ((base : Int) < 65536) = false) ∧ (decide (35184372088832 < (base : Int)) = false) ∧ (((size : Int) % 4096 != 0) = false) ∧ (decide ((size : Int) < 4096) = true) ∧ ((x56 ≠ 4096) ∨ (x60 ≠ 512) ∨ ((base : Int) % 65536 ≠ 0) ∨ ((base : Int) < 65536) ∨ (35184372088832 < (base : Int)) ∨ ((size : Int) % 4096 ≠ 0) ∨ ((size : Int) < 4096) ∨ (262144 < (size : Int)))) ∨ ((((x56 : Int) != 4096) = false) ∧ (((x60 : Int) != 512) = false) ∧ (((base : Int) % 65536 != 0) = false) ∧ (decide ((base : Int) < 65536) = false) ∧ (decide (35184372088832 < (base : Int)) = false) ∧ (((size : Int) % 4096 != 0) = false) ∧ (decide ((size : Int) < 4096) = false) ∧ (decide (262144 < (size : Int)) = true) ∧ ((x56 ≠ 4096) ∨ (x60 ≠ 512) ∨ ((base : Int) % 65536 ≠ 0) ∨ ((base : Int) < 65536) ∨ (35184372088832 < (base : Int)) ∨ ((size : Int) % 4096 ≠ 0) ∨ ((size : Int) < 4096) ∨ (262144 < (size : Int)))) ∨ ((((x56 : Int) != 4096) = false) ∧ (((x60 : Int) != 512) = false) ∧ (((base : Int) % 65536 != 0) = false) ∧ (decide ((base : Int) < 65536) = false) ∧ (decide (35184372088832 < (base : Int)) = false) ∧ (((size : Int) % 4096 != 0) = false) ∧ (decide ((size : Int) < 4096) = false) ∧ (decide (262144 < (size : Int)) = false) ∧ ¬ ((x56 ≠ 4096) ∨ (x60 ≠ 512) ∨ ((base : Int) % 65536 ≠ 0) ∨ ((base : Int) < 65536) ∨ (35184372088832 < (base : Int)) ∨ ((size : Int) % 4096 ≠ 0) ∨ ((size : Int) < 4096) ∨ (262144 < (size : Int)))) := by
  simp only [bne_iff_ne, bne_eq_false_iff_eq, beq_iff_eq, beq_eq_false_iff_ne, decide_eq_true_eq, decide_eq_false_iff_not, ne_eq]
  by_cases h0 : x56 ≠ 4096
  · exact (.inl ⟨(by omega), (.inl h0)⟩)
  by_cases h1 : x60 ≠ 512
  · exact (.inr (.inl ⟨(by omega), (by omega), (.inr (.inl h1))⟩))
  by_cases h2 : (base : Int) % 65536 ≠ 0
  · exact (.inr (.inr (.inl ⟨(by omega), (by omega), (by omega), (.inr (.inr (.inl h2)))⟩)))
  by_cases h3 : (base : Int) < 65536
  · exact (.inr (.inr (.inr (.inl ⟨(by omega), (by omega), (by omega), (by omega), (.inr (.inr (.inr (.inl h3))))⟩))))
  by_cases h4 : 35184372088832 < (base : Int)
  · exact (.inr (.inr (.inr (.inr (.inl ⟨(by omega), (by omega), (by omega), (by omega), (by omega), (.inr (.inr (.inr (.inr (.inl h4)))))⟩)))))
  by_cases h5 : (size : Int) % 4096 ≠ 0
  · exact (.inr (.inr (.inr (.inr (.inr (.inl ⟨(by omega), (by omega), (by omega), (by omega), (by omega), (by omega), (.inr (.inr (.inr (.inr (.inr (.inl h5))))))⟩))))))
  by_cases h6 : (size : Int) < 4096
  · exact (.inr (.inr (.inr (.inr (.inr (.inr (.inl ⟨(by omega), (by omega), (by omega), (by omega), (by omega), (by omega), (by omega), (.inr (.inr (.inr (.inr (.inr (.inr (.inl h6)))))))⟩)))))))
  by_cases h7 : 262144 < (size : Int)
  · exact (.inr (.inr (.inr (.inr (.inr (.inr (.inr (.inl ⟨(by omega), (by omega), (by omega), (by omega), (by omega), (by omega), (by omega), (by omega), (.inr (.inr (.inr (.inr (.inr (.inr (.inr (h7))))))))⟩))))))))
  exact (.inr (.inr (.inr (.inr (.inr (.inr (.inr (.inr ⟨(by omega), (by omega), (by omega), (by omega), (by omega), (by omega), (by omega), (by omega), (by omega)⟩))))))))
theorem forms_cases (x20 x24 x132 : Nat) : ((((x20 : Int) != 240) = true) ∧ ((x20 ≠ 240) ∨ (x24 ≠ 523) ∨ (x132 ≠ 16))) ∨ ((((x20 : Int) != 240) = false) ∧ (((x24 : Int) != 523) = true) ∧ ((x20 ≠ 240) ∨ (x24 ≠ 523) ∨ (x132 ≠ 16))) ∨ ((((x20 : Int) != 240) = false) ∧ (((x24 : Int) != 523) = false) ∧ (((x132 : Int) != 16) = true) ∧ ((x20 ≠ 240) ∨ (x24 ≠ 523) ∨ (x132 ≠ 16))) ∨ ((((x20 : Int) != 240) = false) ∧ (((x24 : Int) != 523) = false) ∧ (((x132 : Int) != 16) = false) ∧ ¬ ((x20 ≠ 240) ∨ (x24 ≠ 523) ∨ (x132 ≠ 16))) := by
  simp only [bne_iff_ne, bne_eq_false_iff_eq, beq_iff_eq, beq_eq_false_iff_ne, decide_eq_true_eq, decide_eq_false_iff_not, ne_eq]
  by_cases h0 : x20 ≠ 240
  · exact (.inl ⟨(by omega), (.inl h0)⟩)
  by_cases h1 : x24 ≠ 523
  · exact (.inr (.inl ⟨(by omega), (by omega), (.inr (.inl h1))⟩))
  by_cases h2 : x132 ≠ 16
  · exact (.inr (.inr (.inl ⟨(by omega), (by omega), (by omega), (.inr (.inr (h2)))⟩)))
  exact (.inr (.inr (.inr ⟨(by omega), (by omega), (by omega), (by omega)⟩)))
theorem nums_cases (n headers p len : Nat) : ((decide ((n : Int) < 1) = true) ∧ ((n < 1) ∨ (16 < n) ∨ ((headers : Int) < (p : Int) + 264 + 40 * (n : Int)) ∨ (4096 < (headers : Int)) ∨ ((len : Int) < (headers : Int)))) ∨ ((decide ((n : Int) < 1) = false) ∧ (decide (16 < (n : Int)) = true) ∧ ((n < 1) ∨ (16 < n) ∨ ((headers : Int) < (p : Int) + 264 + 40 * (n : Int)) ∨ (4096 < (headers : Int)) ∨ ((len : Int) < (headers : Int)))) ∨ ((decide ((n : Int) < 1) = false) ∧ (decide (16 < (n : Int)) = false) ∧ (decide ((headers : Int) < (p : Int) + 264 + 40 * (n : Int)) = true) ∧ ((n < 1) ∨ (16 < n) ∨ ((headers : Int) < (p : Int) + 264 + 40 * (n : Int)) ∨ (4096 < (headers : Int)) ∨ ((len : Int) < (headers : Int)))) ∨ ((decide ((n : Int) < 1) = false) ∧ (decide (16 < (n : Int)) = false) ∧ (decide ((headers : Int) < (p : Int) + 264 + 40 * (n : Int)) = false) ∧ (decide (4096 < (headers : Int)) = true) ∧ ((n < 1) ∨ (16 < n) ∨ ((headers : Int) < (p : Int) + 264 + 40 * (n : Int)) ∨ (4096 < (headers : Int)) ∨ ((len : Int) < (headers : Int)))) ∨ ((decide ((n : Int) < 1) = false) ∧ (decide (16 < (n : Int)) = false) ∧ (decide ((headers : Int) < (p : Int) + 264 + 40 * (n : Int)) = false) ∧ (decide (4096 < (headers : Int)) = false) ∧ (decide ((len : Int) < (headers : Int)) = true) ∧ ((n < 1) ∨ (16 < n) ∨ ((headers : Int) < (p : Int) + 264 + 40 * (n : Int)) ∨ (4096 < (headers : Int)) ∨ ((len : Int) < (headers : Int)))) ∨ ((decide ((n : Int) < 1) = false) ∧ (decide (16 < (n : Int)) = false) ∧ (decide ((headers : Int) < (p : Int) + 264 + 40 * (n : Int)) = false) ∧ (decide (4096 < (headers : Int)) = false) ∧ (decide ((len : Int) < (headers : Int)) = false) ∧ ¬ ((n < 1) ∨ (16 < n) ∨ ((headers : Int) < (p : Int) + 264 + 40 * (n : Int)) ∨ (4096 < (headers : Int)) ∨ ((len : Int) < (headers : Int)))) := by
  simp only [bne_iff_ne, bne_eq_false_iff_eq, beq_iff_eq, beq_eq_false_iff_ne, decide_eq_true_eq, decide_eq_false_iff_not, ne_eq]
  by_cases h0 : n < 1
  · exact (.inl ⟨(by omega), (.inl h0)⟩)
  by_cases h1 : 16 < n
  · exact (.inr (.inl ⟨(by omega), (by omega), (.inr (.inl h1))⟩))
  by_cases h2 : (headers : Int) < (p : Int) + 264 + 40 * (n : Int)
  · exact (.inr (.inr (.inl ⟨(by omega), (by omega), (by omega), (.inr (.inr (.inl h2)))⟩)))
  by_cases h3 : 4096 < (headers : Int)
  · exact (.inr (.inr (.inr (.inl ⟨(by omega), (by omega), (by omega), (by omega), (.inr (.inr (.inr (.inl h3))))⟩))))
  by_cases h4 : (len : Int) < (headers : Int)
  · exact (.inr (.inr (.inr (.inr (.inl ⟨(by omega), (by omega), (by omega), (by omega), (by omega), (.inr (.inr (.inr (.inr (h4)))))⟩)))))
  exact (.inr (.inr (.inr (.inr (.inr ⟨(by omega), (by omega), (by omega), (by omega), (by omega), (by omega)⟩)))))
end Go.Proofs.Ytajcihcbgmpdjaa
