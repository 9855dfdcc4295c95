/- What the tied rows' lists give, and a world that meets them. -/
import Derived.Test.YtlhdiekibkdiaaaDoorRows
import Derived.Test.YtlhdiekibkdiaaaDoorBase
import Derived.Lib.LaidTab
import Derived.LaidHandle
import Derived.LaidLaws
namespace Go.Proofs.YtlhdiekibkdiaaaDoor
set_option maxRecDepth 100000
open Go.ChangeShapes Go.WideShapes Go.ChangeAt Go.RowKit
set_option linter.unusedSimpArgs false
set_option linter.unusedVariables false
/-- The variable that holds the type 'error'. -/
def ErrTypeAt (w : World) : Prop := w.cell? ⟨0, 0, none⟩ = some (.iface 146 (.agg #[.pointer (some ⟨9, 39, none⟩)]))
theorem gErr : Tryd.prog.globalNamed "errors.errorType" = some 0 := by kernel_rfl
theorem rtRow : (Tryd.prog.cutTypes.find? (·.1 == "internal/reflectlite.rtype")).map (·.2) = some 146 := by kernel_rfl
theorem typesN : Tryd.prog.types.size = 223 := by kernel_rfl
theorem errRow : ((List.range 223).filter fun t => Tryd.prog.rowNamed t [101, 114, 114, 111, 114]) = [39] := by kernel_rfl
theorem err_of_handles {L : List (String × DataW Unit)} {W : World} (h : handlesMet Tryd.prog (("errors.errorType", Rows.laid_errors_errorType) :: L) W) : ErrTypeAt W := by
  obtain ⟨name, u, ty, e1, e2, e3, e4, e5⟩ := h _ (List.mem_cons_self)
  have en : name = [101, 114, 114, 111, 114] := (Option.some.inj e1).symm
  subst en
  obtain rfl := Option.some.inj (rtRow.symm.trans e2)
  have hm : ty ∈ (List.range 223).filter fun t => Tryd.prog.rowNamed t [101, 114, 114, 111, 114] := List.mem_filter.2 ⟨List.mem_range.2 (by rw [← typesN]; exact e3), e4⟩
  rw [errRow] at hm
  obtain rfl := List.mem_singleton.1 hm
  have hh : typeHandle Tryd.prog 39 = .pointer (some ⟨9, 39, none⟩) := by kernel_rfl
  rw [hh] at e5
  show W.cell? _ = _
  simpa using World.var?_cell gErr e5 0
theorem err_of_laid {W : World} (h : laidMetH Tryd.prog [("errors.errorType", Rows.laid_errors_errorType)] W) : ErrTypeAt W :=
  err_of_handles (show laidMet Tryd.prog [] W ∧ handlesMet Tryd.prog _ W from h).2
theorem ErrTypeAt.ext {w w' : World} (h : ErrTypeAt w) (hb : Below w.heap.size w w') : ErrTypeAt w' := by
  have h1 := h
  unfold ErrTypeAt at h1 ⊢
  rw [hb.cell (p := ⟨0, 0, none⟩) (World.block_lt_of_cell? w _ h1)]
  exact h1
/-- A world for the witness: the settled one, the variable's cell laid. -/
noncomputable def laidWorldE (os : Os) : World :=
  let w0 := World.holding Tryd.prog os ⟨#[], #[], []⟩
  { w0 with heap := w0.heap.modify 0 fun
      | .cells _ t frozen => .cells #[.iface 146 (.agg #[.pointer (some ⟨9, 39, none⟩)])] t frozen
      | o => o }
end Go.Proofs.YtlhdiekibkdiaaaDoor
