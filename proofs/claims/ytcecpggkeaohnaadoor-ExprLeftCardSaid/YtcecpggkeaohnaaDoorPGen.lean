/- Plain data: generators, values, what a generator makes. No program in sight. -/
namespace Go.Proofs.YtcecpggkeaohnaaDoor
set_option maxRecDepth 100000
/-- A generator, as data. -/
inductive GT where
  | mk (kind a b : Int) (subs : List GT)

namespace GT
def kind : GT → Int | .mk k _ _ _ => k
def lo : GT → Int | .mk _ a _ _ => a
def hi : GT → Int | .mk _ _ b _ => b
def subs : GT → List GT | .mk _ _ _ s => s

theorem ind {P : GT → Prop} (h : ∀ k a b s, (∀ x ∈ s, P x) → P (.mk k a b s)) : ∀ g, P g
  | .mk k a b s => h k a b s (fun x _hx => ind h x)
termination_by g => sizeOf g
decreasing_by
  have := List.sizeOf_lt_of_mem _hx
  simp
  omega

/-! ### the number of parts -/
mutual
def parts : GT → Nat → Nat × Bool
  | .mk _ _ _ s, d => let r := partsL s d (1, decide (d < 6)); (r.1, r.2 && decide (r.1 ≤ 30))
def partsL : List GT → Nat → Nat × Bool → Nat × Bool
  | [], _, r => r
  | x :: s, d, r => if r.2 then partsL s d (r.1 + (parts x (d + 1)).1, (parts x (d + 1)).2 && decide (r.1 + (parts x (d + 1)).1 ≤ 30)) else r
end

theorem partsL_le (C : Nat) (s : List GT) (d : Nat) : ∀ r : Nat × Bool, (∀ x ∈ s, (parts x (d + 1)).1 ≤ C) → (r.2 = true → r.1 ≤ 30) → r.1 ≤ 30 + C → (partsL s d r).1 ≤ 30 + C := by
  induction s with
  | nil => intro r _ _ h; exact h
  | cons x s ih =>
    intro r hx h1 h2
    simp only [partsL]
    split
    · rename_i hr
      have hk := hx x (by simp)
      refine ih _ (fun y hy => hx y (by simp [hy])) ?_ ?_
      · intro h
        simp only [Bool.and_eq_true, decide_eq_true_eq] at h
        exact h.2
      · have := h1 hr
        dsimp only
        omega
    · exact h2
theorem parts_le (g : GT) : ∀ d, d ≤ 6 → (parts g d).1 ≤ 1 + 30 * (6 - d) := by
  induction g using GT.ind with
  | h k a b s ih =>
    intro d hd
    by_cases h6 : d = 6
    · subst h6
      cases s with
      | nil => simp [parts, partsL]
      | cons x s => simp [parts, partsL]
    · have h : (partsL s d (1, decide (d < 6))).1 ≤ 30 + (1 + 30 * (6 - (d + 1))) :=
        partsL_le _ s d _ (fun x hx => ih x hx (d + 1) (by omega)) (fun _ => by simp) (by simp; omega)
      simp only [parts]
      omega
theorem partsL_step (s : List GT) (d j : Nat) (h : j < s.length) (n : Nat) : partsL (s.drop j) d (n, true) = partsL (s.drop (j + 1)) d (n + (parts s[j] (d + 1)).1, (parts s[j] (d + 1)).2 && decide (n + (parts s[j] (d + 1)).1 ≤ 30)) := by
  rw [List.drop_eq_getElem_cons h]; rfl
theorem partsL_stop (s : List GT) (d : Nat) (n : Nat) : partsL s d (n, false) = (n, false) := by
  cases s <;> rfl

/-! ### faults -/
def far (n : Int) : Bool := decide (n < -1073741824) || decide (1073741824 < n)
def oneErr (k a b : Int) (n : Nat) : Int :=
  if k = 1 ∨ k = 2 then
    (if far a ∨ (k = 2 ∧ (far b ∨ b < a ∨ 1000 < b - a)) then 1 else if n = 0 then 0 else 3)
  else if k = 4 then (if a < 0 ∨ 5 < a then 1 else if n = 1 then 0 else 3)
  else if k = 3 then 0
  else if k = 5 then (if n = 0 then 3 else 0)
  else 3
mutual
def eachErr : GT → Int
  | .mk k a b s => if oneErr k a b s.length = 0 then eachErrL s else oneErr k a b s.length
def eachErrL : List GT → Int
  | [] => 0
  | x :: s => if eachErr x = 0 then eachErrL s else eachErr x
end
def check (g : GT) : Int := if (parts g 0).2 then eachErr g else 4

theorem eachErrL_zero (s : List GT) : eachErrL s = 0 ↔ ∀ x ∈ s, eachErr x = 0 := by
  induction s with
  | nil => simp [eachErrL]
  | cons x s ih =>
    simp only [eachErrL, List.mem_cons, forall_eq_or_imp, ← ih]
    split
    · rename_i h; simp [h]
    · rename_i h; simp [h]

/-! ### what is made -/
end GT
/-- A value, as data. -/
inductive VT where
  | mk (list : Bool) (num : Int) (items : List VT)
namespace VT
theorem ind {P : VT → Prop} (h : ∀ l n s, (∀ x ∈ s, P x) → P (.mk l n s)) : ∀ v, P v
  | .mk l n s => h l n s (fun x _hx => ind h x)
termination_by g => sizeOf g
decreasing_by
  have := List.sizeOf_lt_of_mem _hx
  simp
  omega
end VT
namespace GT
section
variable {σ : Type} (st : Int → σ → Except Int (Int × σ))
/-- so many, one after the other -/
def times (f : σ → Except Int (VT × σ)) : Nat → σ → Except Int (List VT × σ)
  | 0, q => .ok ([], q)
  | n + 1, q => match f q with
    | .error e => .error e
    | .ok (v, q) => match times f n q with
      | .error e => .error e
      | .ok (l, q) => .ok (v :: l, q)
mutual
def play : GT → σ → Except Int (VT × σ)
  | .mk k a b s, q =>
    if k = 1 then .ok (.mk false a [], q)
    else if k = 2 then match st (b - a) q with
      | .error e => .error e
      | .ok (c, q) => .ok (.mk false (a + c) [], q)
    else if k = 3 then match playL s q with
      | .error e => .error e
      | .ok (l, q) => .ok (.mk true 0 l, q)
    else if k = 4 then match st a q with
      | .error e => .error e
      | .ok (c, q) => match playN s c.toNat q with
        | .error e => .error e
        | .ok (l, q) => .ok (.mk true 0 l, q)
    else if k = 5 then match st (s.length - 1) q with
      | .error e => .error e
      | .ok (c, q) => playI s c.toNat q
    else .ok (.mk true 0 [], q)
def playL : List GT → σ → Except Int (List VT × σ)
  | [], q => .ok ([], q)
  | x :: s, q => match play x q with
    | .error e => .error e
    | .ok (v, q) => match playL s q with
      | .error e => .error e
      | .ok (l, q) => .ok (v :: l, q)
def playN : List GT → Nat → σ → Except Int (List VT × σ)
  | [], _, q => .ok ([], q)
  | x :: _, n, q => times (fun q => play x q) n q
def playI : List GT → Nat → σ → Except Int (VT × σ)
  | [], _, _ => .error 0
  | x :: _, 0, q => play x q
  | _ :: s, i + 1, q => playI s i q
end
end
/-! ### how many tapes -/
def capped (n : Int) : Int := min n 1048577
mutual
def count : GT → Int
  | .mk k a b s =>
    if k = 2 then b - a + 1
    else if k = 3 then prodC s 1
    else if k = 4 then manyC s a.toNat 1 1
    else if k = 5 then sumC s 0
    else 1
def prodC : List GT → Int → Int
  | [], n => n
  | x :: s, n => prodC s (capped (n * count x))
def sumC : List GT → Int → Int
  | [], n => n
  | x :: s, n => sumC s (capped (n + count x))
def manyC : List GT → Nat → Int → Int → Int
  | [], _, n, _ => n
  | x :: _, m, n, p => manyK (count x) m n p
def manyK (c : Int) : Nat → Int → Int → Int
  | 0, n, _ => n
  | m + 1, n, p => manyK c m (capped (n + capped (p * c))) (capped (p * c))
end
theorem far_false {n : Int} (h : far n = false) : -1073741824 ≤ n ∧ n ≤ 1073741824 := by
  simp [far] at h; omega
theorem ok_kids {k a b : Int} {s : List GT} (h : eachErr (.mk k a b s) = 0) : ∀ x ∈ s, eachErr x = 0 := by
  simp only [eachErr] at h
  split at h
  · exact (eachErrL_zero s).1 h
  · rename_i h0; exact absurd h h0
theorem ok_one {k a b : Int} {s : List GT} (h : eachErr (.mk k a b s) = 0) : oneErr k a b s.length = 0 := by
  simp only [eachErr] at h
  split at h
  · assumption
  · exact h
theorem one_cases {k a b : Int} {n : Nat} (h : oneErr k a b n = 0) :
    (k = 1 ∧ n = 0 ∧ -1073741824 ≤ a ∧ a ≤ 1073741824) ∨ (k = 2 ∧ n = 0 ∧ -1073741824 ≤ a ∧ b ≤ 1073741824 ∧ a ≤ b ∧ b - a ≤ 1000) ∨ k = 3 ∨ (k = 4 ∧ n = 1 ∧ 0 ≤ a ∧ a ≤ 5) ∨ (k = 5 ∧ n ≠ 0) := by
  unfold oneErr at h
  split at h
  · rename_i hk
    split at h
    · omega
    · rename_i hf
      split at h
      · rename_i hn
        have hfa : far a = false := by
          cases hx : far a with
          | false => rfl
          | true => exact absurd (Or.inl hx) hf
        have ha := far_false hfa
        rcases hk with hk | hk
        · left; exact ⟨hk, hn, ha.1, ha.2⟩
        · right; left
          have h2 : ¬ (far b = true ∨ b < a ∨ 1000 < b - a) := fun e => hf (Or.inr ⟨hk, e⟩)
          have hfb : far b = false := by
            cases hx : far b with
            | false => rfl
            | true => exact absurd (Or.inl hx) h2
          have hb := far_false hfb
          have h3 : ¬ b < a := fun e => h2 (Or.inr (Or.inl e))
          have h4 : ¬ 1000 < b - a := fun e => h2 (Or.inr (Or.inr e))
          exact ⟨hk, hn, ha.1, hb.2, by omega, by omega⟩
      · omega
  · rename_i hk
    split at h
    · rename_i h4
      split at h
      · omega
      · split at h
        · rename_i h5 h6
          right; right; right; left
          exact ⟨h4, h6, by omega, by omega⟩
        · omega
    · split at h
      · right; right; left; assumption
      · split at h
        · rename_i h5
          split at h
          · omega
          · right; right; right; right; exact ⟨h5, by assumption⟩
        · omega

theorem capped_bd {n : Int} (h : 1 ≤ n) : 1 ≤ capped n ∧ capped n ≤ 1048577 := by unfold capped; omega
theorem capped_bd0 {n : Int} (h : 0 ≤ n) : 0 ≤ capped n ∧ capped n ≤ 1048577 := by unfold capped; omega
theorem mul_bd {n m : Int} (h1 : 1 ≤ n) (h2 : n ≤ 1048577) (h3 : 1 ≤ m) (h4 : m ≤ 1048577) : 1 ≤ n * m ∧ n * m ≤ 1099513724929 := by
  have e1 : 1 * 1 ≤ n * m := Int.mul_le_mul h1 h3 (by omega) (by omega)
  have e2 : n * m ≤ 1048577 * 1048577 := Int.mul_le_mul h2 h4 (by omega) (by omega)
  omega
theorem prodC_bd (s : List GT) (hs : ∀ x ∈ s, 1 ≤ count x ∧ count x ≤ 1048577) : ∀ n : Int, 1 ≤ n → n ≤ 1048577 → 1 ≤ prodC s n ∧ prodC s n ≤ 1048577 := by
  induction s with
  | nil => intro n h1 h2; exact ⟨h1, h2⟩
  | cons x s ih =>
    intro n h1 h2
    have hx := hs x (by simp)
    have hm := mul_bd h1 h2 hx.1 hx.2
    have hc := capped_bd hm.1
    exact ih (fun y hy => hs y (by simp [hy])) _ hc.1 hc.2
theorem sumC_bd (s : List GT) (hs : ∀ x ∈ s, 1 ≤ count x ∧ count x ≤ 1048577) : ∀ n : Int, 0 ≤ n → n ≤ 1048577 → (1 ≤ n ∨ s ≠ []) → 1 ≤ sumC s n ∧ sumC s n ≤ 1048577 := by
  induction s with
  | nil => intro n h0 h2 h; rcases h with h | h; exact ⟨h, h2⟩; exact absurd rfl h
  | cons x s ih =>
    intro n h1 h2 _
    have hx := hs x (by simp)
    have hc := capped_bd (n := n + count x) (by omega)
    exact ih (fun y hy => hs y (by simp [hy])) _ (by omega) hc.2 (Or.inl hc.1)
theorem manyK_bd (c : Int) (hc : 1 ≤ c ∧ c ≤ 1048577) (m : Nat) : ∀ n p : Int, 1 ≤ n → n ≤ 1048577 → 1 ≤ p → p ≤ 1048577 → 1 ≤ manyK c m n p ∧ manyK c m n p ≤ 1048577 := by
  induction m with
  | zero => intro n p h1 h2 _ _; exact ⟨h1, h2⟩
  | succ m ih =>
    intro n p h1 h2 h3 h4
    have hm := mul_bd h3 h4 hc.1 hc.2
    have hp := capped_bd hm.1
    have hn := capped_bd (n := n + capped (p * c)) (by omega)
    exact ih _ _ hn.1 hn.2 hp.1 hp.2
theorem count_bd (g : GT) : eachErr g = 0 → 1 ≤ count g ∧ count g ≤ 1048577 := by
  induction g using GT.ind with
  | h k a b s ih =>
    intro h
    have hk := ok_kids h
    have hs : ∀ x ∈ s, 1 ≤ count x ∧ count x ≤ 1048577 := fun x hx => ih x hx (hk x hx)
    rcases one_cases (ok_one h) with ⟨rfl, _⟩ | ⟨rfl, _, _, _, h1, h2⟩ | rfl | ⟨rfl, h1, h2, h3⟩ | ⟨rfl, h1⟩
    · simp [count]
    · simp [count]; omega
    · simp only [count]; exact prodC_bd s hs 1 (by omega) (by omega)
    · simp only [count]
      cases s with
      | nil => simp at h1
      | cons x s => exact manyK_bd _ (hs x (by simp)) _ 1 1 (by omega) (by omega) (by omega) (by omega)
    · simp only [count]
      exact sumC_bd s hs 0 (by omega) (by omega) (Or.inr (by intro e; rw [e] at h1; exact h1 rfl))
theorem prodC_step (s : List GT) (j : Nat) (h : j < s.length) (n : Int) : prodC (s.drop j) n = prodC (s.drop (j + 1)) (capped (n * count s[j])) := by
  rw [List.drop_eq_getElem_cons h]; rfl
theorem sumC_step (s : List GT) (j : Nat) (h : j < s.length) (n : Int) : sumC (s.drop j) n = sumC (s.drop (j + 1)) (capped (n + count s[j])) := by
  rw [List.drop_eq_getElem_cons h]; rfl
end GT
end Go.Proofs.YtcecpggkeaohnaaDoor
