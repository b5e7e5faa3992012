/- What the listed variables give the walks. -/
import Derived.Test.YtapllnnconpieaaDoorLaid
import Derived.Test.YtapllnnconpieaaDoorFold3
import Derived.Stop.LaidErr
set_option linter.unusedVariables false
namespace Go.Proofs.YtapllnnconpieaaDoor
open Go.RowKit

theorem star_name : "*" ++ "errors.errorString" = "*errors.errorString" := by decide
theorem row_errorString (u : TypeId) (h : Tryd.prog.typeName? 3 u = some "*errors.errorString") : u = 129 :=
  typeName_ptr_named (P := Tryd.prog) (nm := "errors.errorString") (by rw [star_name]; kernel_rfl) (by kernel_rfl) (by decide) u (by rw [star_name]; exact h)

theorem libOk_of_laid {W : World} (h : laidMet Tryd.prog laidList W) : LibOk W := by
  have h3 := h.tail.tail
  have h4 := h3.tail
  have h5 := h4.tail
  obtain ⟨a1, s1, hv1, -, -, -⟩ := laid_sentinel (g := 2) (tp := 129) h4 (by kernel_rfl) (by kernel_rfl) Tryd.underlying77 row_errorString Tryd.underlying129 Tryd.underlying131 rfl rfl Tryd.underlying9 (by kernel_rfl) (by kernel_rfl)
  obtain ⟨a0, s0, hv0, -, -, -⟩ := laid_sentinel (g := 1) (tp := 129) h5 (by kernel_rfl) (by kernel_rfl) Tryd.underlying77 row_errorString Tryd.underlying129 Tryd.underlying131 rfl rfl Tryd.underlying9 (by kernel_rfl) (by kernel_rfl)
  exact ⟨Lib.tabIs_of_head (g := 3) (by kernel_rfl) (by kernel_rfl) Tryd.underlying133 Tryd.underlying30 (by kernel_rfl) (by kernel_rfl) h3, ⟨_, _, by have h0 := World.var?_cell (g := 1) (by kernel_rfl) hv0 0; simpa using h0⟩, ⟨_, _, by have h0 := World.var?_cell (g := 2) (by kernel_rfl) hv1 0; simpa using h0⟩⟩
end Go.Proofs.YtapllnnconpieaaDoor
