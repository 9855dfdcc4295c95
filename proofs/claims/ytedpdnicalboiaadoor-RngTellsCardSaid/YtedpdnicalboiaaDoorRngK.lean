/- The fact that the statements on random numbers ask. -/
import Derived.Test.YtedpdnicalboiaaDoorRng
namespace Go.Proofs.YtedpdnicalboiaaDoor
set_option maxRecDepth 100000
open Go.RowKit
set_option linter.unusedSimpArgs false
set_option linter.unusedVariables false
set_option maxHeartbeats 400000 in
theorem known_any (w : World) :
    Calls Tryd.prog 9 #[] w fun e w' => e = .returned (.bool true) ∧ Below w.heap.size w w' := by
  go_enter Tryd.func9, Tryd.ntmps9
  go_wp2_with fail
  refine (new_zero _).mono ?_
  rintro e w1 ⟨rfl, hb1⟩
  go_wp2_with fail
  refine (next_zero _).mono ?_
  rintro e w2 ⟨rfl, hb2⟩
  have hs := hb1.size
  go_wp2_with fail
  go_ret
  refine ⟨rfl, ?_⟩
  exact (hb1.trans (hb2.mono hs)).alloc (by have := hb2.size; omega) _

end Go.Proofs.YtedpdnicalboiaaDoor
