/- What the tied rows' lists give, and a world that meets them. -/
import Derived.Test.YtbmdjchlbhlgmaaDoorRows
import Derived.Test.YtbmdjchlbhlgmaaDoorEXA
import Derived.Lib.LaidTab
import Derived.LaidHandle
import Derived.LaidLaws
namespace Go.Proofs.YtbmdjchlbhlgmaaDoor
set_option maxRecDepth 100000
open Go.ChangeShapes Go.WideShapes Go.ChangeAt Go.RowKit
set_option linter.unusedSimpArgs false
set_option linter.unusedVariables false
theorem gTakes : Tryd.prog.globalNamed "assayer/expr.takes" = some 0 := by kernel_rfl
theorem gTakesType : (Tryd.prog.globals[0]?).map (·.type) = some 145 := by kernel_rfl
theorem cellsTakes : Tryd.prog.cellsOf 145 = 12 := by kernel_rfl
theorem cellsInt : Tryd.prog.cellsOf 3 = 1 := by kernel_rfl
theorem takes_of_tab {W : World} (h : Lib.TabIs Tryd.prog W "assayer/expr.takes" .i64 [-1, 0, 0, 0, 0, 2, 2, 2, 2, 1, 2, 2]) : TakesAt W := by
  intro k hk
  have := h.cell gTakes k (by simpa using hk)
  rw [this]
  have hk : k = 0 ∨ k = 1 ∨ k = 2 ∨ k = 3 ∨ k = 4 ∨ k = 5 ∨ k = 6 ∨ k = 7 ∨ k = 8 ∨ k = 9 ∨ k = 10 ∨ k = 11 := by omega
  rcases hk with rfl | rfl | rfl | rfl | rfl | rfl | rfl | rfl | rfl | rfl | rfl | rfl <;> rfl
theorem takes_of_laid {W : World} (h : laidMetH Tryd.prog [("assayer/expr.takes", Rows.laid_assayer_expr_takes)] W) : TakesAt W :=
  takes_of_tab (Lib.tabIs_of_head (rest := []) gTakes gTakesType Tryd.underlying145 Tryd.underlying3 cellsInt cellsTakes h)
theorem takes_of_laid2 {W : World} (h : laidMetH Tryd.prog [("errors.errorType", Rows.laid_errors_errorType), ("assayer/expr.takes", Rows.laid_assayer_expr_takes)] W) : TakesAt W :=
  takes_of_tab (Lib.tabIs_of_head (rest := []) gTakes gTakesType Tryd.underlying145 Tryd.underlying3 cellsInt cellsTakes (show laidMet Tryd.prog [("assayer/expr.takes", Rows.laid_assayer_expr_takes)] W ∧ handlesMet Tryd.prog _ W from h).1)
/-- The variable that holds the type 'error'. -/
def ErrTypeAt (w : World) : Prop := w.cell? ⟨1, 0, none⟩ = some (.iface 197 (.agg #[.pointer (some ⟨10, 33, none⟩)]))
theorem gErr : Tryd.prog.globalNamed "errors.errorType" = some 1 := by kernel_rfl
theorem rtRow : (Tryd.prog.cutTypes.find? (·.1 == "internal/reflectlite.rtype")).map (·.2) = some 197 := by kernel_rfl
theorem typesN : Tryd.prog.types.size = 271 := by kernel_rfl
theorem errRow : ((List.range 271).filter fun t => Tryd.prog.rowNamed t [101, 114, 114, 111, 114]) = [33] := by kernel_rfl
theorem err_of_handles {L : List (String × DataW Unit)} {W : World} (h : handlesMet Tryd.prog (("errors.errorType", Rows.laid_errors_errorType) :: L) W) : ErrTypeAt W := by
  obtain ⟨name, u, ty, e1, e2, e3, e4, e5⟩ := h _ (List.mem_cons_self)
  have en : name = [101, 114, 114, 111, 114] := (Option.some.inj e1).symm
  subst en
  obtain rfl := Option.some.inj (rtRow.symm.trans e2)
  have hm : ty ∈ (List.range 271).filter fun t => Tryd.prog.rowNamed t [101, 114, 114, 111, 114] := List.mem_filter.2 ⟨List.mem_range.2 (by rw [← typesN]; exact e3), e4⟩
  rw [errRow] at hm
  obtain rfl := List.mem_singleton.1 hm
  have hh : typeHandle Tryd.prog 33 = .pointer (some ⟨10, 33, none⟩) := by kernel_rfl
  rw [hh] at e5
  show W.cell? _ = _
  simpa using World.var?_cell gErr e5 0
theorem err_of_laid {W : World} (h : laidMetH Tryd.prog [("errors.errorType", Rows.laid_errors_errorType)] W) : ErrTypeAt W :=
  err_of_handles (show laidMet Tryd.prog [] W ∧ handlesMet Tryd.prog _ W from h).2
theorem err_of_laid2 {W : World} (h : laidMetH Tryd.prog [("errors.errorType", Rows.laid_errors_errorType), ("assayer/expr.takes", Rows.laid_assayer_expr_takes)] W) : ErrTypeAt W :=
  err_of_handles (show laidMet Tryd.prog [("assayer/expr.takes", Rows.laid_assayer_expr_takes)] W ∧ handlesMet Tryd.prog _ W from h).2
theorem ErrTypeAt.ext {w w' : World} (h : ErrTypeAt w) (hb : Below w.heap.size w w') : ErrTypeAt w' := by
  have h1 := h
  unfold ErrTypeAt at h1 ⊢
  rw [hb.cell (p := ⟨1, 0, none⟩) (World.block_lt_of_cell? w _ h1)]
  exact h1
/-- A world for the witness: the settled one, both variables' cells laid. -/
noncomputable def laidWorld (os : Os) : World :=
  let w0 := World.holding Tryd.prog os ⟨#[], #[], []⟩
  { w0 with heap := (w0.heap.modify 0 fun
      | .cells _ t frozen => .cells #[.int .i64 (-1), .int .i64 0, .int .i64 0, .int .i64 0, .int .i64 0, .int .i64 2, .int .i64 2, .int .i64 2, .int .i64 2, .int .i64 1, .int .i64 2, .int .i64 2] t frozen
      | o => o).modify 1 fun
      | .cells _ t frozen => .cells #[.iface 197 (.agg #[.pointer (some ⟨10, 33, none⟩)])] t frozen
      | o => o }
end Go.Proofs.YtbmdjchlbhlgmaaDoor
