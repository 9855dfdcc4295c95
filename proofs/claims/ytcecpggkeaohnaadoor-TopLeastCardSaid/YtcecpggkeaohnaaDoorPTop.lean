/- Plain laws of one number: its tapes, one by one. No program in sight. -/
import Derived.Test.YtcecpggkeaohnaaDoorPNumber
import Derived.Test.YtcecpggkeaohnaaDoorRNK
namespace Go.Proofs.YtcecpggkeaohnaaDoor
set_option maxRecDepth 100000
open Go.RowKit
set_option linter.unusedSimpArgs false
set_option linter.unusedVariables false
theorem num_count {a b : Int} (h : GT.check (gNum a b) = 0) : GT.count (gNum a b) = b - a + 1 := by simp [GT.count]
theorem num_ok {a b : Int} (h : GT.check (gNum a b) = 0) : GT.Ok (gNum a b) := ⟨h, by have := num_range h; rw [num_count h]; omega⟩
theorem num_countR {a b : Int} (h : GT.check (gNum a b) = 0) : GT.countR (gNum a b) = (b - a + 1, 0) := by
  have hr := num_range h
  unfold GT.countR
  rw [if_pos h, num_count h, if_neg (by omega)]
theorem num_nth {a b : Int} {i : Int} {t : List Int} (hn : GT.NthR [gNum a b] i t) : t = [i] := by
  obtain ⟨j, i', t', hj, rfl, rfl, h2⟩ := hn.inv_choose (.inl rfl)
  have hb : GT.brs (gNum a b) = List.replicate (b - a + 1).toNat [] := by simp [GT.brs]
  have hm : (GT.brs (gNum a b))[j] = [] := by simp [hb]
  rw [hm] at h2
  obtain ⟨rfl, rfl⟩ := h2.inv_nil
  have hs : GT.sumP ((GT.brs (gNum a b)).take j) = j := by
    rw [hb] at hj ⊢
    rw [List.take_replicate, GT.sumP_replicate]
    simp at hj
    congr 1
    omega
  rw [hs]
  simp [GT.prodL]
/-- What stands ahead of the least one that fails does not. -/
theorem num_fails {a b e : Int} (h : GT.check (gNum a b) = 0) (x : Int) (h0 : 0 ≤ x) (h1 : x ≤ b - a) : ET.failsR (xEdge e) (playR (gNum a b) [x]).1 = (decide (e ≤ a + x), 0) := by
  have hp : (playR (gNum a b) [x]).2 = 0 := by rw [num_play h x, if_neg (by omega)]
  have h2 := sfR_ok hp (edge_check e)
  unfold sfR at h2
  rw [if_neg (by omega), num_bad h e x h0 h1] at h2
  exact h2
end Go.Proofs.YtcecpggkeaohnaaDoor
