/- Plain laws of what the document answers on expressions: too many parts, the numbers of a value. No program in sight. -/
import Derived.Test.YtibmnifenfingaaGreatDoorPEX
namespace Go.Proofs.YtibmnifenfingaaGreatDoor
set_option maxRecDepth 100000
set_option linter.unusedSimpArgs false
set_option linter.unusedVariables false
namespace ET
mutual
/-- How many parts; are they too many, or too deep? -/
def big : ET → Nat → Nat × Bool
  | .mk _ _ s, d => if 6 ≤ d then (1, true) else bigL s d 1
def bigL : List ET → Nat → Nat → Nat × Bool
  | [], _, n => (n, decide (30 < n))
  | x :: s, d, n => if (big x (d + 1)).2 = true ∨ 30 < n + (big x (d + 1)).1 then (n + (big x (d + 1)).1, true) else bigL s d (n + (big x (d + 1)).1)
end
theorem bigL_step (s : List ET) (d j : Nat) (h : j < s.length) (n : Nat) : bigL (s.drop j) d n = if (big s[j] (d + 1)).2 = true ∨ 30 < n + (big s[j] (d + 1)).1 then (n + (big s[j] (d + 1)).1, true) else bigL (s.drop (j + 1)) d (n + (big s[j] (d + 1)).1) := by
  rw [List.drop_eq_getElem_cons h]; rfl
theorem bigL_nil (d n : Nat) : bigL [] d n = (n, decide (30 < n)) := rfl
theorem bigL_le (C : Nat) (s : List ET) (d : Nat) : ∀ r : Nat, (∀ x ∈ s, (big x (d + 1)).1 ≤ C) → r ≤ 30 → (bigL s d r).1 ≤ 30 + C := by
  induction s with
  | nil => intro r _ h; simp only [bigL]; omega
  | cons x s ih =>
    intro r hx h1
    have hk := hx x (by simp)
    simp only [bigL]
    split
    · dsimp only; omega
    · exact ih _ (fun y hy => hx y (by simp [hy])) (by omega)
theorem big_le (g : ET) : ∀ d, d ≤ 6 → (big g d).1 ≤ 31 + 30 * (6 - d) := by
  induction g using ET.ind with
  | h k n s ih =>
    intro d hd
    simp only [big]
    split
    · dsimp only; omega
    · have := bigL_le _ s d 1 (fun x hx => ih x hx (d + 1) (by omega)) (by omega)
      omega
theorem big_parts (g : ET) : ∀ d, ((big g d).2 = true ↔ 30 < parts g d) ∧ ((big g d).2 = false → (big g d).1 = parts g d) := by
  induction g using ET.ind with
  | h k n s ih =>
    intro d
    simp only [big, parts]
    split
    · simp
    · have hL : ∀ (l : List ET), (∀ x ∈ l, x ∈ s) → ∀ r, ((bigL l d r).2 = true ↔ 30 < partsL l d r) ∧ ((bigL l d r).2 = false → (bigL l d r).1 = partsL l d r) := by
        intro l
        induction l with
        | nil => intro _ r; simp [bigL, partsL]
        | cons x l ihl =>
          intro hx r
          obtain ⟨h1, h2⟩ := ih x (hx x (by simp)) (d + 1)
          simp only [bigL, partsL]
          by_cases hb : (big x (d + 1)).2 = true
          · have h3 := h1.1 hb
            rw [if_pos (.inl hb), if_pos (show 30 < r + parts x (d + 1) by omega)]
            simp; omega
          · have hb' : (big x (d + 1)).2 = false := by simpa using hb
            have h3 := h2 hb'
            rw [h3]
            by_cases h4 : 30 < r + parts x (d + 1)
            · rw [if_pos (.inr h4), if_pos h4]; simp [h4]
            · rw [if_neg (by simp [hb', h4]), if_neg h4]
              exact ihl (fun y hy => hx y (by simp [hy])) _
      exact hL s (fun x hx => hx) 1
theorem each_three (x : ET) : eachErr x = 0 ∨ eachErr x = 3 := by
  induction x using ET.ind with
  | h k n s ih =>
    have hL : ∀ (l : List ET), (∀ x ∈ l, x ∈ s) → eachErrL l = 0 ∨ eachErrL l = 3 := by
      intro l
      induction l with
      | nil => intro _; simp [eachErrL]
      | cons y l ihl =>
        intro hx
        simp only [eachErrL]
        split
        · exact ihl (fun z hz => hx z (by simp [hz]))
        · exact ih y (hx y (by simp))
    simp only [eachErr]
    split
    · simp
    · exact hL s (fun x hx => hx)
/-- What is wrong, in the document's order. -/
theorem check_eq (g : ET) : check g = if (big g 0).2 = true then 4 else if eachErr g = 0 then 0 else 3 := by
  unfold check
  by_cases h : 30 < parts g 0
  · rw [if_pos h, if_pos ((big_parts g 0).1.2 h)]
  · rw [if_neg h, if_neg (fun e => h ((big_parts g 0).1.1 e))]
    rcases each_three g with h | h <;> simp [h]
end ET
namespace VT
mutual
/-- The numbers of a value, as the document has them. -/
def leaves : VT → List Int
  | .mk l n s => if l then leavesL s else [n]
def leavesL : List VT → List Int
  | [] => []
  | x :: s => leaves x ++ leavesL s
end
theorem leavesL_step (s : List VT) (j : Nat) (h : j < s.length) : leavesL (s.take (j + 1)) = leavesL (s.take j) ++ leaves s[j] := by
  have : ∀ a b : List VT, leavesL (a ++ b) = leavesL a ++ leavesL b := by
    intro a b
    induction a with
    | nil => rfl
    | cons x a ih => simp [leavesL, ih]
  rw [List.take_add_one, List.getElem?_eq_getElem h, this]
  simp [leavesL]
theorem leaves_nums (v : VT) : ∀ d, chk v d = 0 → leaves v = nums v := by
  induction v using VT.ind with
  | h l n s ih =>
    intro d h
    simp only [chk] at h
    split at h
    · omega
    · rename_i h1
      split at h
      · omega
      · have hk := (chkL_zero s (d + 1)).1 h
        have hL : ∀ (t : List VT), (∀ x ∈ t, x ∈ s) → leavesL t = numsL t := by
          intro t
          induction t with
          | nil => intro _; rfl
          | cons y t iht =>
            intro hx
            simp only [leavesL, numsL]
            rw [ih y (hx y (by simp)) (d + 1) (hk y (hx y (by simp))), iht (fun z hz => hx z (by simp [hz]))]
        cases l with
        | true => simp only [leaves, nums, if_true, List.nil_append]; exact hL s (fun x hx => hx)
        | false =>
          have : s = [] := by
            cases s with
            | nil => rfl
            | cons y s => simp at h1
          subst this
          simp [leaves, nums, numsL]
end VT
end Go.Proofs.YtibmnifenfingaaGreatDoor
