/- Sums and products of counts. Plain data. -/
import Derived.Test.YtjobgkcoblpbcaaPGen
namespace Go.Proofs.Ytjobgkcoblpbcaa
set_option linter.unusedSimpArgs false
set_option linter.unusedVariables false
namespace GT
/-- How many of fewer than so many. -/
def geo (a : Int) : Nat → Int
  | 0 => 0
  | j + 1 => geo a j + a ^ j
theorem geo_le (a : Int) (ha : 1 ≤ a) (i : Nat) : ∀ j, i ≤ j → geo a i ≤ geo a j := by
  intro j
  induction j with
  | zero => intro h; have : i = 0 := by omega
            subst this; exact Int.le_refl _
  | succ j ih =>
    intro h
    by_cases hi : i = j + 1
    · subst hi; exact Int.le_refl _
    · have h1 := ih (by omega)
      have h2 : 0 < a ^ j := Int.pow_pos (by omega)
      simp only [geo]
      omega
theorem geo_nonneg (a : Int) (ha : 1 ≤ a) (j : Nat) : 0 ≤ geo a j := geo_le a ha 0 j (Nat.zero_le _)
theorem pow_le_geo (a : Int) (ha : 1 ≤ a) (j : Nat) : a ^ j ≤ geo a (j + 1) := by
  have := geo_nonneg a ha j
  simp only [geo]
  omega
theorem capped_add (x y : Int) (hx : 0 ≤ x) (hy : 0 ≤ y) : capped (capped x + capped y) = capped (x + y) := by unfold capped; omega
theorem capped_mul (x a : Int) (hx : 0 ≤ x) (ha : 1 ≤ a) : capped (capped x * a) = capped (x * a) := by
  unfold capped
  by_cases h : x ≤ 1048577
  · have e : min x 1048577 = x := by omega
    rw [e]
  · have e : min x 1048577 = 1048577 := by omega
    rw [e]
    have h1 : 1048577 * 1 ≤ 1048577 * a := Int.mul_le_mul_of_nonneg_left ha (by omega)
    have h2 : x * 1 ≤ x * a := Int.mul_le_mul_of_nonneg_left ha hx
    omega
theorem manyK_geo (a : Int) (ha : 1 ≤ a) (m : Nat) : ∀ j, manyK a m (capped (geo a (j + 1))) (capped (a ^ j)) = capped (geo a (j + 1 + m)) := by
  induction m with
  | zero => intro j; rfl
  | succ m ih =>
    intro j
    have hp : 0 ≤ a ^ j := by have : 0 < a ^ j := Int.pow_pos (by omega)
                              omega
    have hp1 : 0 ≤ a ^ (j + 1) := by have : 0 < a ^ (j + 1) := Int.pow_pos (by omega)
                                     omega
    simp only [manyK]
    rw [capped_mul _ _ hp ha, ← Int.pow_succ, capped_add _ _ (geo_nonneg a ha (j + 1)) hp1]
    have := ih (j + 1)
    rw [show geo a (j + 1) + a ^ (j + 1) = geo a (j + 1 + 1) from rfl, this]
    congr 2
    omega
theorem many_geo (a : Int) (ha : 1 ≤ a) (n : Nat) : manyK a n 1 1 = capped (geo a (n + 1)) := by
  have := manyK_geo a ha n 0
  have h1 : capped (geo a (0 + 1)) = 1 := by simp [geo, capped]; decide
  have h2 : capped (a ^ 0) = 1 := by simp [capped]; decide
  rw [h1, h2] at this
  rw [this]
  congr 2
  omega
end GT
end Go.Proofs.Ytjobgkcoblpbcaa
