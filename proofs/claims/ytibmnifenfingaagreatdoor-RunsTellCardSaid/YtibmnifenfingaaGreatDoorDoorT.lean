/- What the tied rows' lists give, with the table of an expression's kinds, and a world that meets them. -/
import Derived.Test.YtibmnifenfingaaGreatDoorDoor
import Derived.Test.YtibmnifenfingaaGreatDoorEXA
namespace Go.Proofs.YtibmnifenfingaaGreatDoor
set_option maxRecDepth 100000
open Go.ChangeShapes Go.WideShapes Go.ChangeAt Go.RowKit
set_option linter.unusedSimpArgs false
set_option linter.unusedVariables false
theorem gTakes : Tryz.prog.globalNamed "assayer/expr.takes" = some 0 := by kernel_rfl
theorem gTakesType : (Tryz.prog.globals[0]?).map (·.type) = some 114 := by kernel_rfl
theorem cellsTakes : Tryz.prog.cellsOf 114 = 12 := by kernel_rfl
theorem cellsInt : Tryz.prog.cellsOf 3 = 1 := by kernel_rfl
theorem takes_of_tab {W : World} (h : Lib.TabIs Tryz.prog W "assayer/expr.takes" .i64 [-1, 0, 0, 0, 0, 2, 2, 2, 2, 1, 2, 2]) : TakesAt W := by
  intro k hk
  have := h.cell gTakes k (by simpa using hk)
  rw [this]
  have hk : k = 0 ∨ k = 1 ∨ k = 2 ∨ k = 3 ∨ k = 4 ∨ k = 5 ∨ k = 6 ∨ k = 7 ∨ k = 8 ∨ k = 9 ∨ k = 10 ∨ k = 11 := by omega
  rcases hk with rfl | rfl | rfl | rfl | rfl | rfl | rfl | rfl | rfl | rfl | rfl | rfl <;> rfl
theorem takes_of_laid {W : World} (h : laidMetH Tryz.prog [("assayer/expr.takes", Rows.laid_assayer_expr_takes)] W) : TakesAt W :=
  takes_of_tab (Lib.tabIs_of_head (rest := []) gTakes gTakesType Tryz.underlying114 Tryz.underlying3 cellsInt cellsTakes h)
theorem takes_of_laid2 {W : World} (h : laidMetH Tryz.prog [("errors.errorType", Rows.laid_errors_errorType), ("assayer/expr.takes", Rows.laid_assayer_expr_takes)] W) : TakesAt W :=
  takes_of_tab (Lib.tabIs_of_head (rest := []) gTakes gTakesType Tryz.underlying114 Tryz.underlying3 cellsInt cellsTakes (show laidMet Tryz.prog [("assayer/expr.takes", Rows.laid_assayer_expr_takes)] W ∧ handlesMet Tryz.prog _ W from h).1)
theorem err_of_laid2 {W : World} (h : laidMetH Tryz.prog [("errors.errorType", Rows.laid_errors_errorType), ("assayer/expr.takes", Rows.laid_assayer_expr_takes)] W) : ErrTypeAt W :=
  err_of_handles (show laidMet Tryz.prog [("assayer/expr.takes", Rows.laid_assayer_expr_takes)] W ∧ handlesMet Tryz.prog _ W from h).2
/-- A world for the witness: the settled one, both variables' cells laid. -/
noncomputable def laidWorld (os : Os) : World :=
  let w0 := World.holding Tryz.prog os ⟨#[], #[], []⟩
  { w0 with heap := (w0.heap.modify 0 fun
      | .cells _ t frozen => .cells #[.int .i64 (-1), .int .i64 0, .int .i64 0, .int .i64 0, .int .i64 0, .int .i64 2, .int .i64 2, .int .i64 2, .int .i64 2, .int .i64 1, .int .i64 2, .int .i64 2] t frozen
      | o => o).modify 1 fun
      | .cells _ t frozen => .cells #[.iface 136 (.agg #[.pointer (some ⟨2, 37, none⟩)])] t frozen
      | o => o }
end Go.Proofs.YtibmnifenfingaaGreatDoor
