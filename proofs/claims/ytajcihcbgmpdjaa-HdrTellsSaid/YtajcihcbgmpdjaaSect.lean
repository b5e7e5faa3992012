/- hdr: sects: what it computes. -/
import Derived.Test.YtajcihcbgmpdjaaHdr3
import Derived.Test.YtajcihcbgmpdjaaCut
import Derived.Test.YtajcihcbgmpdjaaOnly
import Derived.Deep.AppendLies
namespace Go.Proofs.Ytajcihcbgmpdjaa
open Go.RowKit

/-- A section, as the head tells it. -/
structure SectD where
  name : List UInt8
  vs : Nat
  rva : Nat
  raw : Nat
  pt : Nat
  ch : Nat
deriving DecidableEq

def SectD.cells (s : SectD) : List Value := [.string (S s.name), .int .i64 s.vs, .int .i64 s.rva, .int .i64 s.raw, .int .i64 s.pt, .int .i64 s.ch]
def scells (xs : List SectD) : List Value := xs.flatMap SectD.cells

/-- The section that stands at a place behind the head. -/
def sectAt (l : List UInt8) (p q : Int) : SectD :=
  ⟨cutHead ((l.drop (p + q).toNat).take 8) 0, numAt l (p + (q + 8)) 4, numAt l (p + (q + 12)) 4, numAt l (p + (q + 16)) 4, numAt l (p + (q + 20)) 4, numAt l (p + (q + 36)) 4⟩

/-- Whether it may not be: sections stand side by side. -/
def sectBad (l : List UInt8) (size x : Int) (s : SectD) : Prop :=
  (s.rva : Int) ≠ x ∨ s.vs = 0 ∨ size - s.rva < s.vs ∨ s.raw % 512 ≠ 0 ∨ roundF s.vs 4096 < s.raw ∨ (0 < s.raw ∧ inB l.length s.pt s.raw = false)

instance (l : List UInt8) (size x : Int) (s : SectD) : Decidable (sectBad l size x s) := by unfold sectBad; infer_instance

/-- The sections from one on; none, if they may not be. -/
def sectsGo (l : List UInt8) (p size : Int) : Nat → Nat → Int → Option (List SectD)
  | 0, _, x => if x = size then some [] else none
  | k + 1, i, x =>
    if sectBad l size x (sectAt l p (264 + 40 * (i : Int))) then none
    else (sectsGo l p size k (i + 1) ((sectAt l p (264 + 40 * (i : Int))).rva + roundF (sectAt l p (264 + 40 * (i : Int))).vs 4096)).map (sectAt l p (264 + 40 * (i : Int)) :: ·)

def sectsF (l : List UInt8) (p size headers : Int) : Option (List SectD) :=
  if numAt l (p + 6) 2 < 1 ∨ 16 < numAt l (p + 6) 2 ∨ headers < p + 264 + 40 * (numAt l (p + 6) 2 : Int) ∨ 4096 < headers ∨ (l.length : Int) < headers then none
  else sectsGo l p size (numAt l (p + 6) 2) 0 (roundF headers 4096)

theorem round_bounds (n : Int) (h0 : 0 ≤ n) (h1 : n ≤ 1099511627776) : n ≤ roundF n 4096 ∧ roundF n 4096 ≤ n + 4095 ∧ roundF n 4096 % 4096 = 0 := by
  have hc : clampN n = n := by rw [clampN, if_neg (by omega), if_neg (by omega)]
  have hd : atLeast1 4096 = 4096 := by decide
  rw [roundF, hc, hd]
  split <;> omega

theorem wrap_i64_id {n : Int} (h0 : -9223372036854775808 ≤ n) (h1 : n ≤ 9223372036854775807) : IntKind.i64.wrap n = n := by
  exact IntWalk.i64_in _ (by omega)

theorem Blk.set {w : World} {b : Nat} {cs : Array Value} {t : TypeId} (h : Blk w b cs t) (o : Nat) (u : Value) : Blk (w.setCell ⟨b, o, none⟩ u) b (cs.setIfInBounds o u) t := by
  unfold Blk at h ⊢
  rw [heap_setCell_same w b o cs t u h]
theorem Blk.apart {w : World} {b : Nat} {cs : Array Value} {t : TypeId} (h : Blk w b cs t) (p : Addr) (hp : p.block ≠ b) (u : Value) : Blk (w.setCell p u) b cs t := by
  unfold Blk at h ⊢
  rw [heap_setCell_other w p b u (fun e => hp e.symm), h]
theorem Blk.grown {w w' : World} {b : Nat} {cs : Array Value} {t : TypeId} {row : Option Nat} (h : Blk w b cs t) (hg : w.grownBy w' row) (hne : some b ≠ row) : Blk w' b cs t := by
  have := hg.block b h.lt hne
  unfold Blk at h ⊢
  rw [this, h]
theorem Blk.drew {w : World} {b : Nat} {cs : Array Value} {t : TypeId} (h : Blk w b cs t) : Blk w.drew b cs t := h
theorem Blk.drewN {w : World} {b : Nat} {cs : Array Value} {t : TypeId} (h : Blk w b cs t) (n : Nat) : Blk (w.drewN n) b cs t := h
/-- A world that has grown since another one. -/
structure Upw (w w' : World) : Prop where
  out : Below w.heap.size w w'

theorem Blk.alloc_iff {w : World} {b : Nat} {cs cs' : Array Value} {t t' : TypeId} : Blk (w.alloc (.cells cs' t')) b cs t ↔ (b = w.heap.size ∧ cs' = cs ∧ t' = t) ∨ (b ≠ w.heap.size ∧ Blk w b cs t) := by
  unfold Blk
  rcases Nat.lt_trichotomy b w.heap.size with h | h | h
  · have e : (w.alloc (.cells cs' t')).heap[b]? = w.heap[b]? := (up_alloc (up_refl w) (.cells cs' t')).block b h
    rw [e]
    have : b ≠ w.heap.size := by omega
    simp [this]
  · subst h
    simp [World.alloc, -World.alloc_eq]
  · have e1 : (w.alloc (.cells cs' t')).heap[b]? = none := by
      rw [Array.getElem?_eq_none]
      simp; omega
    have e2 : w.heap[b]? = none := by
      rw [Array.getElem?_eq_none]
      omega
    rw [e1, e2]
    have : b ≠ w.heap.size := by omega
    simp [this]
theorem Blk.drew_iff {w : World} {b : Nat} {cs : Array Value} {t : TypeId} : Blk w.drew b cs t ↔ Blk w b cs t := Iff.rfl

theorem scells_snoc (xs : List SectD) (s : SectD) : scells (xs ++ [s]) = scells xs ++ s.cells := by simp [scells]

set_option maxHeartbeats 1000000 in
theorem sect_cases (l : List UInt8) (size y lg : Int) (s : SectD) (hlg : roundF s.vs 4096 = lg) :
    (((s.rva : Int) != y) = true ∧ sectBad l size y s) ∨
              (((s.rva : Int) != y) = false ∧ ((s.vs : Int) == 0) = true ∧ sectBad l size y s) ∨
              (((s.rva : Int) != y) = false ∧ ((s.vs : Int) == 0) = false ∧ decide (size - (s.rva : Int) < (s.vs : Int)) = true ∧ sectBad l size y s) ∨
              (((s.rva : Int) != y) = false ∧ ((s.vs : Int) == 0) = false ∧ decide (size - (s.rva : Int) < (s.vs : Int)) = false ∧ (((s.raw : Int) % 512) != 0) = true ∧ sectBad l size y s) ∨
              (((s.rva : Int) != y) = false ∧ ((s.vs : Int) == 0) = false ∧ decide (size - (s.rva : Int) < (s.vs : Int)) = false ∧ (((s.raw : Int) % 512) != 0) = false ∧ decide (lg < (s.raw : Int)) = true ∧ sectBad l size y s) ∨
              (((s.rva : Int) != y) = false ∧ ((s.vs : Int) == 0) = false ∧ decide (size - (s.rva : Int) < (s.vs : Int)) = false ∧ (((s.raw : Int) % 512) != 0) = false ∧ decide (lg < (s.raw : Int)) = false ∧ decide (0 < (s.raw : Int)) = true ∧ inB l.length s.pt s.raw = false ∧ sectBad l size y s) ∨
              (((s.rva : Int) != y) = false ∧ ((s.vs : Int) == 0) = false ∧ decide (size - (s.rva : Int) < (s.vs : Int)) = false ∧ (((s.raw : Int) % 512) != 0) = false ∧ decide (lg < (s.raw : Int)) = false ∧ decide (0 < (s.raw : Int)) = true ∧ inB l.length s.pt s.raw = true ∧ ¬ sectBad l size y s) ∨
              (((s.rva : Int) != y) = false ∧ ((s.vs : Int) == 0) = false ∧ decide (size - (s.rva : Int) < (s.vs : Int)) = false ∧ (((s.raw : Int) % 512) != 0) = false ∧ decide (lg < (s.raw : Int)) = false ∧ decide (0 < (s.raw : Int)) = false ∧ ¬ sectBad l size y s) := by
  simp only [bne_iff_ne, bne_eq_false_iff_eq, beq_iff_eq, beq_eq_false_iff_ne, decide_eq_true_eq, decide_eq_false_iff_not, sectBad, hlg, ne_eq]
  by_cases h1 : (s.rva : Int) = y
  · by_cases h2 : (s.vs : Int) = 0
    · refine .inr (.inl ⟨by omega, by omega, .inr (.inl (by omega))⟩)
    · by_cases h3 : size - (s.rva : Int) < s.vs
      · exact .inr (.inr (.inl ⟨by omega, h2, h3, .inr (.inr (.inl h3))⟩))
      · by_cases h4 : (s.raw : Int) % 512 = 0
        · by_cases h5 : lg < s.raw
          · exact .inr (.inr (.inr (.inr (.inl ⟨by omega, h2, h3, by omega, h5, .inr (.inr (.inr (.inr (.inl h5))))⟩))))
          · by_cases h6 : 0 < (s.raw : Int)
            · cases h7 : inB l.length s.pt s.raw with
              | false => exact .inr (.inr (.inr (.inr (.inr (.inl ⟨by omega, h2, h3, by omega, h5, h6, rfl, .inr (.inr (.inr (.inr (.inr ⟨by omega, rfl⟩))))⟩)))))
              | true =>
                refine .inr (.inr (.inr (.inr (.inr (.inr (.inl ⟨by omega, h2, h3, by omega, h5, h6, rfl, ?_⟩))))))
                rintro (h | h | h | h | h | ⟨_, h⟩)
                · omega
                · omega
                · omega
                · omega
                · omega
                · cases h
            · refine .inr (.inr (.inr (.inr (.inr (.inr (.inr ⟨by omega, h2, h3, by omega, h5, h6, ?_⟩))))))
              rintro (h | h | h | h | h | ⟨h, _⟩)
              all_goals omega
        · exact .inr (.inr (.inr (.inl ⟨by omega, h2, h3, by omega, .inr (.inr (.inr (.inl (by omega))))⟩)))
  · exact .inl ⟨by omega, .inl h1⟩

theorem keepB {wa w' : World} {t : Nat} {u0 u1 : Value} (h0 : wa.cell? ⟨t, 0, none⟩ = some u0) (h1 : wa.cell? ⟨t, 1, none⟩ = some u1) (ht : t < wa.heap.size) (hb : Below wa.heap.size wa w') :
    w'.cell? ⟨t, 0, none⟩ = some u0 ∧ w'.cell? ⟨t, 1, none⟩ = some u1 :=
  ⟨(hb.cell (p := ⟨t, 0, none⟩) ht).trans h0, (hb.cell (p := ⟨t, 1, none⟩) ht).trans h1⟩

end Go.Proofs.Ytajcihcbgmpdjaa
