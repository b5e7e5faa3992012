/- ExpsTells: bytes joined by xor; an empty row of bytes. -/
import Derived.Test.YtapllnnconpieaaDoorTellsP
import Derived.Test.YtapllnnconpieaaDoorApp
set_option linter.unusedVariables false
namespace Go.Proofs.YtapllnnconpieaaDoor
open Go.RowKit

theorem wrap_u8' (n : Int) : IntKind.u8.wrap n = n % 256 := by simp [IntKind.wrap, IntKind.bits, IntKind.signed]
theorem u8_any (n : Int) : ∃ z : UInt8, IntKind.u8.wrap n = (z.toNat : Int) := by
  refine ⟨UInt8.ofNat (n % 256).toNat, ?_⟩
  rw [wrap_u8']
  have h0 : 0 ≤ n % 256 := Int.emod_nonneg _ (by decide)
  have h1 : n % 256 < 256 := Int.emod_lt_of_pos _ (by decide)
  exact (byte_of (n % 256) h0 h1).symm
theorem xor_u8 (x y : Int) : ∃ z : UInt8, bits .xor .u8 x y = (z.toNat : Int) := u8_any _
theorem ownB_empty (w : World) : OwnB (w.alloc (.cells #[] 5)) w.heap.size (.slice (some ⟨w.heap.size, 0, none⟩) 0 0) [] :=
  ⟨w.heap.size, 0, #[], (0, 0), rfl, Nat.le_refl _, heap_alloc_new w _, .inl (Nat.le_refl _), Nat.le_refl _, by unfold maxLen; omega, by simp, rfl, rfl⟩
theorem atFns_bd (start : Nat) : ∀ (ss : List (List UInt8)) (i : Nat) (b : List UInt8), (∀ s ∈ ss, s.length ≤ 100) → (atFns start ss i b).length ≤ b.length + 101 * ss.length
  | [], i, b, _ => by simp [atFns]
  | s :: ss, i, b, h => by
    have h1 := (atFn_length start b i s).2
    have h2 := atFns_bd start ss (i + 1) (atFn start b i s) (fun s hs => h s (by simp [hs]))
    have h3 := h s (by simp)
    show (atFns start ss (i + 1) (atFn start b i s)).length ≤ _
    rw [List.length_cons]
    omega
theorem atNms_bd (start n m : Nat) : ∀ (ss : List (List UInt8)) (i : Nat) (b : List UInt8), (∀ s ∈ ss, s.length ≤ 100) → (atNms start n m ss i b).length ≤ b.length + 101 * ss.length
  | [], i, b, _ => by simp [atNms]
  | s :: ss, i, b, h => by
    have h1 := atNm_length start n m b i s
    have h2 := atNms_bd start n m ss (i + 1) (atNm start n m b i s) (fun s hs => h s (by simp [hs]))
    have h3 := h s (by simp)
    show (atNms start n m ss (i + 1) (atNm start n m b i s)).length ≤ _
    rw [List.length_cons]
    omega
theorem atB_bd (funcs names : List (List UInt8)) (base : Nat) (hf : ∀ s ∈ funcs.take 12, s.length ≤ 100) : (atB 256 funcs names base).length ≤ 2000 := by
  have h := atFns_bd 256 (funcs.take 12) 0 (atHead 256 (min funcs.length 12) (min names.length 12) base) hf
  have hl : (funcs.take 12).length ≤ 12 := by simp; omega
  rw [atHead_length] at h
  unfold atB
  omega
theorem atF_bd (funcs names : List (List UInt8)) (base : Nat) (hf : ∀ s ∈ funcs.take 12, s.length ≤ 100) (hn : ∀ s ∈ names.take 12, s.length ≤ 100) : 296 ≤ (atF 256 funcs names base).length ∧ (atF 256 funcs names base).length ≤ 4000 := by
  have h1 := atF_length 256 funcs names base
  have h2 := atB_bd funcs names base hf
  have h3 := atNms_bd 256 (min funcs.length 12) (min names.length 12) (names.take 12) 0 (atB 256 funcs names base) hn
  have hl : (names.take 12).length ≤ 12 := by simp; omega
  refine ⟨by omega, ?_⟩
  unfold atF
  omega
end Go.Proofs.YtapllnnconpieaaDoor
