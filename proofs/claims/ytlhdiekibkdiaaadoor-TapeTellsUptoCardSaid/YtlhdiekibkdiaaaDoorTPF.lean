/- The fact that the statements on tapes ask. -/
import Derived.Test.YtlhdiekibkdiaaaDoorTape
import Derived.Test.YtlhdiekibkdiaaaDoorGENC
namespace Go.Proofs.YtlhdiekibkdiaaaDoor
set_option maxRecDepth 100000
open Go.RowKit
set_option linter.unusedSimpArgs false
set_option linter.unusedVariables false
theorem IntsAt.draws {w : World} {v : Value} {l : List Int} (h : IntsAt w v l) (n : Nat) : IntsAt (w.drewN n) v l := h.ext (Joins.below_draws _ _ _)
theorem less_fact (w : World) : Calls Tryd.prog 16 #[.slice (some ⟨w.heap.size, 0, none⟩) 1 1, .slice (some ⟨w.heap.size + 1, 0, none⟩) 2 2] ((w.alloc (.cells #[.int .i64 5] 3)).alloc (.cells #[.int .i64 1, .int .i64 1] 3))
    fun e w' => e = .returned (.bool true) ∧ ∃ n, w' = ((w.alloc (.cells #[.int .i64 5] 3)).alloc (.cells #[.int .i64 1, .int .i64 1] 3)).drewN n := by
  have h1 : IntsAt (w.alloc (.cells #[.int .i64 5] 3)) (.slice (some ⟨w.heap.size, 0, none⟩) 1 1) [5] := (OwnInts.lit w 0 [5] (by omega) (by decide)).at (by simp [In64])
  have h2 : IntsAt ((w.alloc (.cells #[.int .i64 5] 3)).alloc (.cells #[.int .i64 1, .int .i64 1] 3)) (.slice (some ⟨w.heap.size + 1, 0, none⟩) 2 2) [1, 1] := by
    have := (OwnInts.lit (w.alloc (.cells #[.int .i64 5] 3)) 0 [1, 1] (by omega) (by decide)).at (by simp [In64])
    simpa using this
  exact less_any _ _ _ _ _ (h1.ext ((Below.refl _ _).alloc (Nat.le_refl _) _)) h2
theorem below_draws {w w' : World} (h : Below w.heap.size w w') (n : Nat) : Below w.heap.size w (w'.drewN n) := h.trans ((Joins.below_draws _ _ _).mono h.size)
theorem ints_zero (w : World) : IntsAt w (.slice none 0 0) [] := ⟨by simp, .inl ⟨rfl, rfl⟩⟩
end Go.Proofs.YtlhdiekibkdiaaaDoor
