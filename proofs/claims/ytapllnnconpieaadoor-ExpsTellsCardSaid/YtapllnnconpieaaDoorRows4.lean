/- What the rows' proofs share: slices of strings, small structs by value. -/
import Derived.Test.YtapllnnconpieaaDoorRows2
import Derived.Test.YtapllnnconpieaaDoorMade7
import Derived.SliceStrings
import Derived.Lib.SmallJoins
namespace Go.Proofs.YtapllnnconpieaaDoor
open Go.ChangeShapes Go.WideShapes Go.ChangeAt Go.RowKit Go.Joins Go.Deep

/-- A slice of strings that came in. -/
theorem strs_read {H : Type} {enc : TypeId × Value → H} {P : Program} {W : World} {base : Nat} {spare : Nat → Bool} {held : Bool} {t e : TypeId} {a : Option Addr} {len cap : Nat} {d : DataW H} {ps : List MemPlace} {ts : List TypeId} {ds : List (DataW H)} {j : Nat}
    (hsz : (DataW.weightsEach P ts ds).all (· ≤ reachBytes) = true) (ht : ts[j]? = some t) (hd : ds[j]? = some d) (hu : P.underlying t = some (.slice e)) (he : P.underlying e = some .string) (hc : P.cellsOf e = 1) {B : Nat} (hB : P.bytesOf e = B)
    (h : DataW.Trod enc P W base spare held t (.slice a len cap) d ps) :
    ∃ l : List (List UInt8), l.length = len ∧ len ≤ cap ∧ len * B ≤ 140737488351232 ∧ Row W a (strs l) := by
  obtain ⟨fuel, hf⟩ := h
  rcases open_strings hu he hc hf with ⟨hcs, _⟩ | ⟨x, l, c, ss, hcs, _, hl, hm, hz, hx, hcell, _⟩
  · simp [Value.cells] at hcs
    obtain ⟨rfl, rfl, rfl⟩ := hcs
    exact ⟨[], rfl, by simp, by simp, .inl rfl⟩
  · simp [Value.cells] at hcs
    obtain ⟨rfl, rfl, rfl⟩ := hcs
    obtain ⟨hx, _⟩ := Prod.mk.inj hx
    subst hx
    have z := sized_slice hsz ht hd hu
    rw [hB] at z
    have hl2 : len ≤ ss.length := by
      rw [hz]
      split
      · exact hl
      · exact Nat.le_refl _
    have h1 : (Go.ChangeShapes.strs (H := H) (ss.take len)).length + (Go.ChangeShapes.strs (H := H) (ss.drop len)).length = ss.length := by
      simp [Go.ChangeShapes.strs]
      omega
    rw [h1] at z
    refine ⟨(ss.take len).map fun s => s.data.toList, by simp; omega, hl, Nat.le_trans (Nat.mul_le_mul_right _ hl2) z, .inr ⟨x, rfl, fun i hi => ?_⟩⟩
    have hi' : i < len := by simp [Go.Proofs.YtapllnnconpieaaDoor.strs] at hi; omega
    rw [hcell i (by omega)]
    have hi2 : i < ss.length := by omega
    simp [Go.Proofs.YtapllnnconpieaaDoor.strs, List.getD, hi2, S_of]

/-- A struct of two whole numbers. -/
theorem two_read {H : Type} {enc : TypeId × Value → H} {P : Program} {W : World} {base b0 : Nat} {spare : Nat → Bool} {held : Bool} {r : Reach} {t : TypeId} {f0 f1 : Field} {v : Value} {d : DataW H} {p : List MemPlace}
    (hs : P.underlying t = some (.struct #[f0, f1])) (hone : oneCellFields P #[f0, f1] = true) (hC : P.cellsOf t = 2) (h0 : P.underlying f0.type = some (.int .i64)) (h1 : P.underlying f1.type = some (.int .i64))
    (hv : Value.okWide P W r b0 t v) (h : DataW.Trod enc P W base spare held t v d p) :
    ∃ a b : Int, v = .agg #[.int .i64 a, .int .i64 b] ∧ (Lit.int .i64 a).wf = true ∧ (Lit.int .i64 b).wf = true := by
  obtain ⟨v0, v1, y0, y1, n, rfl, -, -, t0, t1⟩ := open_agg2 hs hone hC hv h
  obtain ⟨a, hc, -, wa⟩ := DataW.trod_int h0 t0
  obtain ⟨b, hc', -, wb⟩ := DataW.trod_int h1 t1
  simp only [List.cons.injEq, and_true] at hc hc'
  subst hc hc'
  exact ⟨a, b, rfl, wa, wb⟩
/-- A symbol. -/
theorem sym_read {H : Type} {enc : TypeId × Value → H} {P : Program} {W : World} {base b0 : Nat} {spare : Nat → Bool} {held : Bool} {r : Reach} {t : TypeId} {f0 f1 f2 : Field} {v : Value} {d : DataW H} {p : List MemPlace}
    (hs : P.underlying t = some (.struct #[f0, f1, f2])) (hone : oneCellFields P #[f0, f1, f2] = true) (hC : P.cellsOf t = 3) (h0 : P.underlying f0.type = some .string) (h1 : P.underlying f1.type = some (.int .i64)) (h2 : P.underlying f2.type = some .bool)
    (hv : Value.okWide P W r b0 t v) (h : DataW.Trod enc P W base spare held t v d p) :
    ∃ (s : List UInt8) (o : Int) (b : Bool), v = .agg #[.string (S s), .int .i64 o, .bool b] ∧ s.length ≤ maxLen ∧ (Lit.int .i64 o).wf = true := by
  obtain ⟨v0, v1, v2, y0, y1, y2, n, rfl, -, -, t0, t1, t2⟩ := open_agg3 hs hone hC hv h
  obtain ⟨s, hc0, -, ws⟩ := DataW.trod_string h0 t0
  obtain ⟨a, hc1, -, wa⟩ := DataW.trod_int h1 t1
  obtain ⟨b, hc2, -⟩ := DataW.trod_bool h2 t2
  simp only [List.cons.injEq, and_true] at hc0 hc1 hc2
  subst hc0 hc1 hc2
  exact ⟨s.data.toList, a, b, by rw [S_of], by rw [Array.length_toList]; exact ws, wa⟩
end Go.Proofs.YtapllnnconpieaaDoor
