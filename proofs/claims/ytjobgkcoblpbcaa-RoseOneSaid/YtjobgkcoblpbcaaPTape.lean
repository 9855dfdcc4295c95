/- Plain mathematics of tapes: the order by length, then number by number. No program in sight. -/
namespace Go.Proofs.Ytjobgkcoblpbcaa
namespace PTape
/-- -1, 0, 1: number by number; what ends first is less. -/
def cmpL : List Int → List Int → Int
  | [], [] => 0
  | [], _ :: _ => -1
  | _ :: _, [] => 1
  | x :: a, y :: b => if x < y then -1 else if y < x then 1 else cmpL a b
def less (a b : List Int) : Bool := if a.length = b.length then decide (cmpL a b < 0) else decide (a.length < b.length)

theorem drop_cons (a : List Int) (k : Nat) (h : k < a.length) : a.drop k = a.getD k 0 :: a.drop (k + 1) := by
  rw [List.drop_eq_getElem_cons h]; simp [List.getD_eq_getElem?_getD, h]
theorem cmp_end1 (a b : List Int) (k : Nat) (h : k < a.length) (hb : b.length ≤ k) : cmpL (a.drop k) (b.drop k) = 1 := by
  rw [drop_cons a k h, List.drop_eq_nil_of_le hb]; rfl
theorem cmp_end2 (a b : List Int) (k : Nat) (h : a.length ≤ k) (hb : k < b.length) : cmpL (a.drop k) (b.drop k) = -1 := by
  rw [drop_cons b k hb, List.drop_eq_nil_of_le h]; rfl
theorem cmp_end3 (a b : List Int) (k : Nat) (h : a.length ≤ k) (hb : b.length ≤ k) : cmpL (a.drop k) (b.drop k) = 0 := by
  rw [List.drop_eq_nil_of_le hb, List.drop_eq_nil_of_le h]; rfl
theorem cmp_step (a b : List Int) (k : Nat) (h : k < a.length) (hb : k < b.length) :
    cmpL (a.drop k) (b.drop k) = if a.getD k 0 < b.getD k 0 then -1 else if b.getD k 0 < a.getD k 0 then 1 else cmpL (a.drop (k + 1)) (b.drop (k + 1)) := by
  rw [drop_cons a k h, drop_cons b k hb]; rfl

theorem cmp_refl (a : List Int) : cmpL a a = 0 := by
  induction a with
  | nil => rfl
  | cons x a ih => simp [cmpL, ih]
theorem cmp_eq {a b : List Int} (h : cmpL a b = 0) : a = b := by
  induction a generalizing b with
  | nil => cases b with | nil => rfl | cons y b => simp [cmpL] at h
  | cons x a ih =>
    cases b with
    | nil => simp [cmpL] at h
    | cons y b =>
      simp only [cmpL] at h
      split at h
      · omega
      · split at h
        · omega
        · rw [ih h, show x = y by omega]
theorem cmp_neg (a b : List Int) : cmpL b a = - cmpL a b := by
  induction a generalizing b with
  | nil => cases b <;> simp [cmpL]
  | cons x a ih =>
    cases b with
    | nil => simp [cmpL]
    | cons y b =>
      simp only [cmpL]
      by_cases h1 : x < y
      · have : ¬ y < x := by omega
        simp [h1, this]
      · by_cases h2 : y < x
        · simp [h1, h2]
        · simp [h1, h2, ih]
theorem cmp_trans {a b c : List Int} (h1 : cmpL a b < 0) (h2 : cmpL b c < 0) : cmpL a c < 0 := by
  induction a generalizing b c with
  | nil =>
    cases b with
    | nil => simp [cmpL] at h1
    | cons y b => cases c with
      | nil => simp [cmpL] at h2
      | cons z c => simp [cmpL]
  | cons x a ih =>
    cases b with
    | nil => simp [cmpL] at h1
    | cons y b => cases c with
      | nil => simp [cmpL] at h2
      | cons z c =>
        simp only [cmpL] at h1 h2 ⊢
        by_cases hxy : x < y
        · by_cases hyz : y < z
          · simp [show x < z by omega]
          · by_cases hzy : z < y
            · simp [hyz, hzy] at h2
            · have : x < z := by omega
              simp [this]
        · by_cases hyx : y < x
          · simp [hxy, hyx] at h1
          · have : x = y := by omega
            subst this
            simp only [Int.lt_irrefl, if_false] at h1
            by_cases hyz : x < z
            · simp [hyz]
            · by_cases hzy : z < x
              · simp [hyz, hzy] at h2
              · simp only [hyz, hzy, if_false] at h2 ⊢
                exact ih h1 h2
theorem cmp_append (a b c : List Int) (h : a.length = b.length) : cmpL (a ++ c) (b ++ c) = cmpL a b := by
  induction a generalizing b with
  | nil => cases b with
    | nil => simp [cmp_refl, cmpL]
    | cons y b => simp at h
  | cons x a ih => cases b with
    | nil => simp at h
    | cons y b =>
      simp only [List.cons_append, cmpL]
      rw [ih b (by simpa using h)]

theorem less_irrefl (a : List Int) : less a a = false := by simp [less, cmp_refl]
theorem less_total {a b : List Int} (h : a ≠ b) : less a b = !less b a := by
  unfold less
  by_cases hl : a.length = b.length
  · have h0 : cmpL a b ≠ 0 := fun e => h (cmp_eq e)
    have hn := cmp_neg a b
    simp only [hl, if_true]
    by_cases h1 : cmpL a b < 0
    · simp [h1, show ¬ cmpL b a < 0 by omega]
    · simp [h1, show cmpL b a < 0 by omega]
  · have hl' : ¬ b.length = a.length := fun e => hl e.symm
    simp only [hl, hl', if_false]
    by_cases h1 : a.length < b.length
    · simp [h1, show ¬ b.length < a.length by omega]
    · simp [h1, show b.length < a.length by omega]
theorem less_trans {a b c : List Int} (h1 : less a b = true) (h2 : less b c = true) : less a c = true := by
  unfold less at *
  by_cases hab : a.length = b.length
  · rw [if_pos hab] at h1
    by_cases hbc : b.length = c.length
    · rw [if_pos hbc] at h2
      rw [if_pos (hab.trans hbc)]
      exact decide_eq_true (cmp_trans (of_decide_eq_true h1) (of_decide_eq_true h2))
    · rw [if_neg hbc] at h2
      have := of_decide_eq_true h2
      rw [if_neg (by omega)]
      exact decide_eq_true (by omega)
  · rw [if_neg hab] at h1
    have h1' := of_decide_eq_true h1
    by_cases hbc : b.length = c.length
    · rw [if_neg (by omega)]
      exact decide_eq_true (by omega)
    · rw [if_neg hbc] at h2
      have := of_decide_eq_true h2
      rw [if_neg (by omega)]
      exact decide_eq_true (by omega)
theorem less_append (a b c : List Int) : less (a ++ c) (b ++ c) = less a b := by
  unfold less
  by_cases hl : a.length = b.length
  · rw [if_pos (by simp [hl]), if_pos hl, cmp_append a b c hl]
  · rw [if_neg (by simp; exact hl), if_neg hl]
    simp
end PTape
end Go.Proofs.Ytjobgkcoblpbcaa
