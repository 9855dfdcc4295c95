/- Plain laws of one number: where a walk ends. No program in sight. -/
import Derived.Test.YtcecpggkeaohnaaDoorSHA
namespace Go.Proofs.YtcecpggkeaohnaaDoor
set_option maxRecDepth 100000
open Go.RowKit
set_option linter.unusedSimpArgs false
set_option linter.unusedVariables false
/-- One number from a to b; less than the edge. -/
abbrev gNum (a b : Int) : GT := .mk 2 a b []
abbrev xEdge (e : Int) : ET := .mk 7 0 [.mk 2 0 [], .mk 1 e []]
theorem edge_check (e : Int) : ET.check (xEdge e) = 0 := by
  simp [ET.check, ET.parts, ET.partsL, ET.eachErr, ET.eachErrL, ET.takes]
theorem num_range {a b : Int} (h : GT.check (gNum a b) = 0) : -1073741824 ≤ a ∧ b ≤ 1073741824 ∧ a ≤ b ∧ b - a ≤ 1000 := by
  rcases GT.one_cases (GT.ok_one (GT.check_ok h)) with ⟨h1, _⟩ | ⟨_, _, h1, h2, h3, h4⟩ | h1 | ⟨h1, _⟩ | ⟨h1, _⟩
  · cases h1
  · exact ⟨h1, h2, h3, h4⟩
  · cases h1
  · cases h1
  · cases h1
theorem num_play {a b : Int} (h : GT.check (gNum a b) = 0) (x : Int) : playR (gNum a b) [x] = if x < 0 ∨ b - a < x then (zeroV, 1) else (.mk false (a + x) [], 0) := by
  unfold playR
  rw [if_pos h]
  simp only [GT.play, show ¬ ((2 : Int) = 1) by decide, if_false, if_true, stPlay, List.length_singleton, Nat.zero_lt_one, dite_true, List.getElem_cons_zero]
  by_cases hx : x < 0 ∨ b - a < x
  · simp [hx]
  · simp [hx]
theorem num_tape {a b : Int} {l : List Int} (h : (playR (gNum a b) l).2 = 0) : ∃ c, l = [c] ∧ 0 ≤ c ∧ c ≤ b - a := by
  have hc := (played_fit h).1
  have hr := num_range hc
  have h1 := (played_stays _ hc l).1 h
  rw [mend_int a b [] hr.2.2.1 l] at h1
  refine ⟨_, h1.symm, by omega, by omega⟩
theorem num_bad {a b : Int} (h : GT.check (gNum a b) = 0) (e x : Int) (h0 : 0 ≤ x) (h1 : x ≤ b - a) : badR (gNum a b) (xEdge e) [x] = decide (e ≤ a + x) := by
  have hr := num_range h
  unfold badR
  rw [num_play h x, if_neg (by omega)]
  have ht : ET.told (xEdge e) (.mk false (a + x) []) = some (truth (decide (a + x < e))) := by
    have hw : wrap64 (a + x) = a + x := by unfold wrap64; omega
    simp [ET.told, ET.toldI, VT.nums, VT.numsL, sumW, hw]
  unfold ET.failsR ET.evalR
  rw [edge_check, ht]
  have hv : VT.chk (.mk false (a + x) []) 0 = 0 := by simp [VT.chk, VT.chkL]
  rw [hv]
  by_cases hlt : a + x < e
  · simp [truth, hlt]
  · simp [truth, hlt]; omega
/-- TO THE EDGE. -/
theorem walk_number {a b e x : Int} (hp : (playR (gNum a b) [x]).2 = 0) (hb : badR (gNum a b) (xEdge e) [x] = true) :
    ∃ c, (walkR (gNum a b) (xEdge e) [x]).1 = [c] ∧ a + c = max a e ∧ 0 ≤ c ∧ c ≤ b - a := by
  obtain ⟨k1, k2, k3, _, _⟩ := walk_law _ [x] (Nat.le_refl _) hp hb
  obtain ⟨c, hc, h0, h1⟩ := num_tape k1
  have hk := (played_fit hp).1
  rw [hc] at k2 k3
  rw [num_bad hk e c h0 h1] at k2
  have k2 := of_decide_eq_true k2
  refine ⟨c, hc, ?_, h0, h1⟩
  have hn := next_none k3
  rw [less_of_one a b [] c h0 h1] at hn
  by_cases hz : c = 0
  · subst hz; omega
  · rw [if_neg hz] at hn
    have e1 := hn [0] (by simp)
    have e2 := hn [c - 1] (by simp)
    rw [num_bad hk e 0 (by omega) (by omega)] at e1
    rw [num_bad hk e (c - 1) (by omega) (by omega)] at e2
    have e1 := of_decide_eq_false e1
    have e2 := of_decide_eq_false e2
    omega
/-- What is wrong with the walk of one number. -/
theorem number_wrong {a b e x : Int} (h : shErr (gNum a b) (xEdge e) [x] ≠ 0) : GT.check (gNum a b) ≠ 0 ∨ (GT.check (gNum a b) = 0 ∧ (x < 0 ∨ (0 ≤ x ∧ b - a < x) ∨ (0 ≤ x ∧ x ≤ b - a ∧ a + x < e))) := by
  by_cases hc : GT.check (gNum a b) = 0
  · refine .inr ⟨hc, ?_⟩
    by_cases h1 : x < 0
    · exact .inl h1
    · by_cases h2 : b - a < x
      · exact .inr (.inl ⟨by omega, h2⟩)
      · have hp : (playR (gNum a b) [x]).2 = 0 := by rw [num_play hc x, if_neg (by omega)]
        refine .inr (.inr ⟨by omega, by omega, ?_⟩)
        by_cases h3 : a + x < e
        · exact h3
        · exact absurd (shErr_ok hp (edge_check e) (by rw [num_bad hc e x (by omega) (by omega)]; exact decide_eq_true (by omega))) h
  · exact .inl hc
end Go.Proofs.YtcecpggkeaohnaaDoor
