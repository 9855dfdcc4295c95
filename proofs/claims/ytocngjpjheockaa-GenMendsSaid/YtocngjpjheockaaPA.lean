/- Plain mathematics of the generator of random numbers: no program in sight. Plain mathematics of tapes: the order by length, then number by number. No program in sight. Plain data: generators, values, what a generator makes. No program in sight. Sums and products of counts. Plain data. How many choices a generator may take at most. Plain data. -/
namespace Go.Proofs.Ytocngjpjheockaa
set_option maxRecDepth 100000
namespace PRng
def M : Nat := 18446744073709551616
/-- The mix of splitmix64, on natural numbers. -/
def mix (z : Nat) : Nat :=
  let a := (z ^^^ z / 1073741824) * 13787848793156543929 % 18446744073709551616
  let b := (a ^^^ a / 134217728) * 10723151780598845931 % 18446744073709551616
  b ^^^ b / 2147483648

theorem xs_inv (k z : Nat) (hk : 64 ≤ 3 * k) (hz : z < 2 ^ 64) :
    (z ^^^ z >>> k) ^^^ (z ^^^ z >>> k) >>> k ^^^ (z ^^^ z >>> k) >>> (2 * k) = z := by
  have h0 : z >>> (k + 2 * k) = 0 := by
    rw [Nat.shiftRight_eq_div_pow]
    apply Nat.div_eq_of_lt
    exact Nat.lt_of_lt_of_le hz (Nat.pow_le_pow_right (by decide) (by omega))
  rw [Nat.shiftRight_xor_distrib, Nat.shiftRight_xor_distrib, ← Nat.shiftRight_add, ← Nat.shiftRight_add, h0, show k + k = 2 * k by omega]
  generalize z >>> k = p
  generalize z >>> (2 * k) = q
  rw [Nat.xor_zero]
  apply Nat.eq_of_testBit_eq
  intro i
  simp only [Nat.testBit_xor]
  cases z.testBit i <;> cases p.testBit i <;> cases q.testBit i <;> rfl

theorem xs_inj (k x y : Nat) (hk : 64 ≤ 3 * k) (hx : x < 2 ^ 64) (hy : y < 2 ^ 64) (h : x ^^^ x >>> k = y ^^^ y >>> k) : x = y := by
  have a := xs_inv k x hk hx
  rw [h, xs_inv k y hk hy] at a
  exact a.symm

theorem mul_inj (c d x y : Nat) (hcd : c * d % 18446744073709551616 = 1) (hx : x < 18446744073709551616) (hy : y < 18446744073709551616)
    (h : x * c % 18446744073709551616 = y * c % 18446744073709551616) : x = y := by
  have key : ∀ t, t < 18446744073709551616 → (t * c % 18446744073709551616) * d % 18446744073709551616 = t := by
    intro t ht
    rw [Nat.mod_mul_mod, Nat.mul_assoc, ← Nat.mul_mod_mod, hcd, Nat.mul_one, Nat.mod_eq_of_lt ht]
  have a := key x hx
  rw [h, key y hy] at a
  exact a.symm

theorem xs_lt (k z : Nat) (hz : z < 18446744073709551616) : z ^^^ z >>> k < 18446744073709551616 :=
  Nat.xor_lt_two_pow (n := 64) hz (Nat.lt_of_le_of_lt (Nat.shiftRight_le z k) hz)

theorem div_shift (z k c : Nat) (hc : 2 ^ k = c) : z / c = z >>> k := by rw [Nat.shiftRight_eq_div_pow, hc]

theorem mix_lt (z : Nat) : mix z < 18446744073709551616 := by
  unfold mix
  dsimp only
  rw [div_shift _ 31 2147483648 (by decide)]
  exact xs_lt 31 _ (Nat.mod_lt _ (by decide))

theorem mix_inj (x y : Nat) (hx : x < 18446744073709551616) (hy : y < 18446744073709551616) (h : mix x = mix y) : x = y := by
  unfold mix at h
  dsimp only at h
  rw [div_shift _ 31 2147483648 (by decide), div_shift _ 31 2147483648 (by decide)] at h
  have h1 := xs_inj 31 _ _ (by decide) (Nat.mod_lt _ (by decide)) (Nat.mod_lt _ (by decide)) h
  rw [div_shift _ 27 134217728 (by decide), div_shift _ 27 134217728 (by decide)] at h1
  have h2 := mul_inj 10723151780598845931 3573116690164977347 _ _ (by decide) (xs_lt 27 _ (Nat.mod_lt _ (by decide))) (xs_lt 27 _ (Nat.mod_lt _ (by decide))) h1
  have h3 := xs_inj 27 _ _ (by decide) (Nat.mod_lt _ (by decide)) (Nat.mod_lt _ (by decide)) h2
  rw [div_shift _ 30 1073741824 (by decide), div_shift _ 30 1073741824 (by decide)] at h3
  have h4 := mul_inj 13787848793156543929 10871156337175269513 _ _ (by decide) (xs_lt 30 _ hx) (xs_lt 30 _ hy) h3
  exact xs_inj 30 _ _ (by decide) hx hy h4

theorem mix_known : mix 11400714819323198485 = 16294208416658607535 := by decide

theorem odd_round (g i s : Nat) (hg : g % 2 = 1) (hi : 1 ≤ i) (hi2 : i ≤ 20) (hs : s < 18446744073709551616) : (s + i * g) % 18446744073709551616 ≠ s := by
  intro h
  have hd : 18446744073709551616 ∣ i * g := by
    have h1 : (s + i * g) % 18446744073709551616 = s % 18446744073709551616 := by rw [h, Nat.mod_eq_of_lt hs]
    omega
  have hc : Nat.Coprime (2 ^ 64) g := Nat.Coprime.pow_left 64 (by unfold Nat.Coprime; rw [Nat.gcd_rec, hg]; rfl)
  have := Nat.Coprime.dvd_of_dvd_mul_right hc hd
  have := Nat.le_of_dvd (by omega) this
  omega
/-- What is told below n. -/
def below (s g : Nat) (n : Nat) : Nat := mix ((s + g) % 18446744073709551616) / 4294967296 * n / 4294967296
theorem below_lt (s g n : Nat) (h : 1 ≤ n) : below s g n < n := by
  have hm := mix_lt ((s + g) % 18446744073709551616)
  unfold below
  generalize mix ((s + g) % 18446744073709551616) = X at *
  have h1 : X / 4294967296 ≤ 4294967295 := by omega
  have h2 : X / 4294967296 * n ≤ 4294967295 * n := Nat.mul_le_mul_right _ h1
  omega
theorem below_mono (s g n m : Nat) (h : m ≤ n) : below s g m ≤ below s g n := by
  unfold below
  exact Nat.div_le_div_right (Nat.mul_le_mul_left _ h)
end PRng
end Go.Proofs.Ytocngjpjheockaa
namespace Go.Proofs.Ytocngjpjheockaa
set_option maxRecDepth 100000
namespace PTape
/-- -1, 0, 1: number by number; what ends first is less. -/
def cmpL : List Int → List Int → Int
  | [], [] => 0
  | [], _ :: _ => -1
  | _ :: _, [] => 1
  | x :: a, y :: b => if x < y then -1 else if y < x then 1 else cmpL a b
def less (a b : List Int) : Bool := if a.length = b.length then decide (cmpL a b < 0) else decide (a.length < b.length)

theorem drop_cons (a : List Int) (k : Nat) (h : k < a.length) : a.drop k = a.getD k 0 :: a.drop (k + 1) := by
  rw [List.drop_eq_getElem_cons h]; simp [List.getD_eq_getElem?_getD, h]
theorem cmp_end1 (a b : List Int) (k : Nat) (h : k < a.length) (hb : b.length ≤ k) : cmpL (a.drop k) (b.drop k) = 1 := by
  rw [drop_cons a k h, List.drop_eq_nil_of_le hb]; rfl
theorem cmp_end2 (a b : List Int) (k : Nat) (h : a.length ≤ k) (hb : k < b.length) : cmpL (a.drop k) (b.drop k) = -1 := by
  rw [drop_cons b k hb, List.drop_eq_nil_of_le h]; rfl
theorem cmp_end3 (a b : List Int) (k : Nat) (h : a.length ≤ k) (hb : b.length ≤ k) : cmpL (a.drop k) (b.drop k) = 0 := by
  rw [List.drop_eq_nil_of_le hb, List.drop_eq_nil_of_le h]; rfl
theorem cmp_step (a b : List Int) (k : Nat) (h : k < a.length) (hb : k < b.length) :
    cmpL (a.drop k) (b.drop k) = if a.getD k 0 < b.getD k 0 then -1 else if b.getD k 0 < a.getD k 0 then 1 else cmpL (a.drop (k + 1)) (b.drop (k + 1)) := by
  rw [drop_cons a k h, drop_cons b k hb]; rfl

theorem cmp_refl (a : List Int) : cmpL a a = 0 := by
  induction a with
  | nil => rfl
  | cons x a ih => simp [cmpL, ih]
theorem cmp_eq {a b : List Int} (h : cmpL a b = 0) : a = b := by
  induction a generalizing b with
  | nil => cases b with | nil => rfl | cons y b => simp [cmpL] at h
  | cons x a ih =>
    cases b with
    | nil => simp [cmpL] at h
    | cons y b =>
      simp only [cmpL] at h
      split at h
      · omega
      · split at h
        · omega
        · rw [ih h, show x = y by omega]
theorem cmp_neg (a b : List Int) : cmpL b a = - cmpL a b := by
  induction a generalizing b with
  | nil => cases b <;> simp [cmpL]
  | cons x a ih =>
    cases b with
    | nil => simp [cmpL]
    | cons y b =>
      simp only [cmpL]
      by_cases h1 : x < y
      · have : ¬ y < x := by omega
        simp [h1, this]
      · by_cases h2 : y < x
        · simp [h1, h2]
        · simp [h1, h2, ih]
theorem cmp_trans {a b c : List Int} (h1 : cmpL a b < 0) (h2 : cmpL b c < 0) : cmpL a c < 0 := by
  induction a generalizing b c with
  | nil =>
    cases b with
    | nil => simp [cmpL] at h1
    | cons y b => cases c with
      | nil => simp [cmpL] at h2
      | cons z c => simp [cmpL]
  | cons x a ih =>
    cases b with
    | nil => simp [cmpL] at h1
    | cons y b => cases c with
      | nil => simp [cmpL] at h2
      | cons z c =>
        simp only [cmpL] at h1 h2 ⊢
        by_cases hxy : x < y
        · by_cases hyz : y < z
          · simp [show x < z by omega]
          · by_cases hzy : z < y
            · simp [hyz, hzy] at h2
            · have : x < z := by omega
              simp [this]
        · by_cases hyx : y < x
          · simp [hxy, hyx] at h1
          · have : x = y := by omega
            subst this
            simp only [Int.lt_irrefl, if_false] at h1
            by_cases hyz : x < z
            · simp [hyz]
            · by_cases hzy : z < x
              · simp [hyz, hzy] at h2
              · simp only [hyz, hzy, if_false] at h2 ⊢
                exact ih h1 h2
theorem cmp_append (a b c : List Int) (h : a.length = b.length) : cmpL (a ++ c) (b ++ c) = cmpL a b := by
  induction a generalizing b with
  | nil => cases b with
    | nil => simp [cmp_refl, cmpL]
    | cons y b => simp at h
  | cons x a ih => cases b with
    | nil => simp at h
    | cons y b =>
      simp only [List.cons_append, cmpL]
      rw [ih b (by simpa using h)]

theorem less_irrefl (a : List Int) : less a a = false := by simp [less, cmp_refl]
theorem less_total {a b : List Int} (h : a ≠ b) : less a b = !less b a := by
  unfold less
  by_cases hl : a.length = b.length
  · have h0 : cmpL a b ≠ 0 := fun e => h (cmp_eq e)
    have hn := cmp_neg a b
    simp only [hl, if_true]
    by_cases h1 : cmpL a b < 0
    · simp [h1, show ¬ cmpL b a < 0 by omega]
    · simp [h1, show cmpL b a < 0 by omega]
  · have hl' : ¬ b.length = a.length := fun e => hl e.symm
    simp only [hl, hl', if_false]
    by_cases h1 : a.length < b.length
    · simp [h1, show ¬ b.length < a.length by omega]
    · simp [h1, show b.length < a.length by omega]
theorem less_trans {a b c : List Int} (h1 : less a b = true) (h2 : less b c = true) : less a c = true := by
  unfold less at *
  by_cases hab : a.length = b.length
  · rw [if_pos hab] at h1
    by_cases hbc : b.length = c.length
    · rw [if_pos hbc] at h2
      rw [if_pos (hab.trans hbc)]
      exact decide_eq_true (cmp_trans (of_decide_eq_true h1) (of_decide_eq_true h2))
    · rw [if_neg hbc] at h2
      have := of_decide_eq_true h2
      rw [if_neg (by omega)]
      exact decide_eq_true (by omega)
  · rw [if_neg hab] at h1
    have h1' := of_decide_eq_true h1
    by_cases hbc : b.length = c.length
    · rw [if_neg (by omega)]
      exact decide_eq_true (by omega)
    · rw [if_neg hbc] at h2
      have := of_decide_eq_true h2
      rw [if_neg (by omega)]
      exact decide_eq_true (by omega)
theorem less_append (a b c : List Int) : less (a ++ c) (b ++ c) = less a b := by
  unfold less
  by_cases hl : a.length = b.length
  · rw [if_pos (by simp [hl]), if_pos hl, cmp_append a b c hl]
  · rw [if_neg (by simp; exact hl), if_neg hl]
    simp
end PTape
end Go.Proofs.Ytocngjpjheockaa
namespace Go.Proofs.Ytocngjpjheockaa
set_option maxRecDepth 100000
/-- A generator, as data. -/
inductive GT where
  | mk (kind a b : Int) (subs : List GT)

namespace GT
def kind : GT → Int | .mk k _ _ _ => k
def lo : GT → Int | .mk _ a _ _ => a
def hi : GT → Int | .mk _ _ b _ => b
def subs : GT → List GT | .mk _ _ _ s => s

theorem ind {P : GT → Prop} (h : ∀ k a b s, (∀ x ∈ s, P x) → P (.mk k a b s)) : ∀ g, P g
  | .mk k a b s => h k a b s (fun x _hx => ind h x)
termination_by g => sizeOf g
decreasing_by
  have := List.sizeOf_lt_of_mem _hx
  simp
  omega

/-! ### the number of parts -/
mutual
def parts : GT → Nat → Nat × Bool
  | .mk _ _ _ s, d => let r := partsL s d (1, decide (d < 6)); (r.1, r.2 && decide (r.1 ≤ 30))
def partsL : List GT → Nat → Nat × Bool → Nat × Bool
  | [], _, r => r
  | x :: s, d, r => if r.2 then partsL s d (r.1 + (parts x (d + 1)).1, (parts x (d + 1)).2 && decide (r.1 + (parts x (d + 1)).1 ≤ 30)) else r
end

theorem partsL_le (C : Nat) (s : List GT) (d : Nat) : ∀ r : Nat × Bool, (∀ x ∈ s, (parts x (d + 1)).1 ≤ C) → (r.2 = true → r.1 ≤ 30) → r.1 ≤ 30 + C → (partsL s d r).1 ≤ 30 + C := by
  induction s with
  | nil => intro r _ _ h; exact h
  | cons x s ih =>
    intro r hx h1 h2
    simp only [partsL]
    split
    · rename_i hr
      have hk := hx x (by simp)
      refine ih _ (fun y hy => hx y (by simp [hy])) ?_ ?_
      · intro h
        simp only [Bool.and_eq_true, decide_eq_true_eq] at h
        exact h.2
      · have := h1 hr
        dsimp only
        omega
    · exact h2
theorem parts_le (g : GT) : ∀ d, d ≤ 6 → (parts g d).1 ≤ 1 + 30 * (6 - d) := by
  induction g using GT.ind with
  | h k a b s ih =>
    intro d hd
    by_cases h6 : d = 6
    · subst h6
      cases s with
      | nil => simp [parts, partsL]
      | cons x s => simp [parts, partsL]
    · have h : (partsL s d (1, decide (d < 6))).1 ≤ 30 + (1 + 30 * (6 - (d + 1))) :=
        partsL_le _ s d _ (fun x hx => ih x hx (d + 1) (by omega)) (fun _ => by simp) (by simp; omega)
      simp only [parts]
      omega
theorem partsL_step (s : List GT) (d j : Nat) (h : j < s.length) (n : Nat) : partsL (s.drop j) d (n, true) = partsL (s.drop (j + 1)) d (n + (parts s[j] (d + 1)).1, (parts s[j] (d + 1)).2 && decide (n + (parts s[j] (d + 1)).1 ≤ 30)) := by
  rw [List.drop_eq_getElem_cons h]; rfl
theorem partsL_stop (s : List GT) (d : Nat) (n : Nat) : partsL s d (n, false) = (n, false) := by
  cases s <;> rfl

/-! ### faults -/
def far (n : Int) : Bool := decide (n < -1073741824) || decide (1073741824 < n)
def oneErr (k a b : Int) (n : Nat) : Int :=
  if k = 1 ∨ k = 2 then
    (if far a ∨ (k = 2 ∧ (far b ∨ b < a ∨ 1000 < b - a)) then 1 else if n = 0 then 0 else 3)
  else if k = 4 then (if a < 0 ∨ 5 < a then 1 else if n = 1 then 0 else 3)
  else if k = 3 then 0
  else if k = 5 then (if n = 0 then 3 else 0)
  else 3
mutual
def eachErr : GT → Int
  | .mk k a b s => if oneErr k a b s.length = 0 then eachErrL s else oneErr k a b s.length
def eachErrL : List GT → Int
  | [] => 0
  | x :: s => if eachErr x = 0 then eachErrL s else eachErr x
end
def check (g : GT) : Int := if (parts g 0).2 then eachErr g else 4

theorem eachErrL_zero (s : List GT) : eachErrL s = 0 ↔ ∀ x ∈ s, eachErr x = 0 := by
  induction s with
  | nil => simp [eachErrL]
  | cons x s ih =>
    simp only [eachErrL, List.mem_cons, forall_eq_or_imp, ← ih]
    split
    · rename_i h; simp [h]
    · rename_i h; simp [h]

/-! ### what is made -/
end GT
/-- A value, as data. -/
inductive VT where
  | mk (list : Bool) (num : Int) (items : List VT)
namespace VT
theorem ind {P : VT → Prop} (h : ∀ l n s, (∀ x ∈ s, P x) → P (.mk l n s)) : ∀ v, P v
  | .mk l n s => h l n s (fun x _hx => ind h x)
termination_by g => sizeOf g
decreasing_by
  have := List.sizeOf_lt_of_mem _hx
  simp
  omega
end VT
namespace GT
section
variable {σ : Type} (st : Int → σ → Except Int (Int × σ))
/-- so many, one after the other -/
def times (f : σ → Except Int (VT × σ)) : Nat → σ → Except Int (List VT × σ)
  | 0, q => .ok ([], q)
  | n + 1, q => match f q with
    | .error e => .error e
    | .ok (v, q) => match times f n q with
      | .error e => .error e
      | .ok (l, q) => .ok (v :: l, q)
mutual
def play : GT → σ → Except Int (VT × σ)
  | .mk k a b s, q =>
    if k = 1 then .ok (.mk false a [], q)
    else if k = 2 then match st (b - a) q with
      | .error e => .error e
      | .ok (c, q) => .ok (.mk false (a + c) [], q)
    else if k = 3 then match playL s q with
      | .error e => .error e
      | .ok (l, q) => .ok (.mk true 0 l, q)
    else if k = 4 then match st a q with
      | .error e => .error e
      | .ok (c, q) => match playN s c.toNat q with
        | .error e => .error e
        | .ok (l, q) => .ok (.mk true 0 l, q)
    else if k = 5 then match st (s.length - 1) q with
      | .error e => .error e
      | .ok (c, q) => playI s c.toNat q
    else .ok (.mk true 0 [], q)
def playL : List GT → σ → Except Int (List VT × σ)
  | [], q => .ok ([], q)
  | x :: s, q => match play x q with
    | .error e => .error e
    | .ok (v, q) => match playL s q with
      | .error e => .error e
      | .ok (l, q) => .ok (v :: l, q)
def playN : List GT → Nat → σ → Except Int (List VT × σ)
  | [], _, q => .ok ([], q)
  | x :: _, n, q => times (fun q => play x q) n q
def playI : List GT → Nat → σ → Except Int (VT × σ)
  | [], _, _ => .error 0
  | x :: _, 0, q => play x q
  | _ :: s, i + 1, q => playI s i q
end
end
/-! ### how many tapes -/
def capped (n : Int) : Int := min n 1048577
mutual
def count : GT → Int
  | .mk k a b s =>
    if k = 2 then b - a + 1
    else if k = 3 then prodC s 1
    else if k = 4 then manyC s a.toNat 1 1
    else if k = 5 then sumC s 0
    else 1
def prodC : List GT → Int → Int
  | [], n => n
  | x :: s, n => prodC s (capped (n * count x))
def sumC : List GT → Int → Int
  | [], n => n
  | x :: s, n => sumC s (capped (n + count x))
def manyC : List GT → Nat → Int → Int → Int
  | [], _, n, _ => n
  | x :: _, m, n, p => manyK (count x) m n p
def manyK (c : Int) : Nat → Int → Int → Int
  | 0, n, _ => n
  | m + 1, n, p => manyK c m (capped (n + capped (p * c))) (capped (p * c))
end
theorem far_false {n : Int} (h : far n = false) : -1073741824 ≤ n ∧ n ≤ 1073741824 := by
  simp [far] at h; omega
theorem ok_kids {k a b : Int} {s : List GT} (h : eachErr (.mk k a b s) = 0) : ∀ x ∈ s, eachErr x = 0 := by
  simp only [eachErr] at h
  split at h
  · exact (eachErrL_zero s).1 h
  · rename_i h0; exact absurd h h0
theorem ok_one {k a b : Int} {s : List GT} (h : eachErr (.mk k a b s) = 0) : oneErr k a b s.length = 0 := by
  simp only [eachErr] at h
  split at h
  · assumption
  · exact h
theorem one_cases {k a b : Int} {n : Nat} (h : oneErr k a b n = 0) :
    (k = 1 ∧ n = 0 ∧ -1073741824 ≤ a ∧ a ≤ 1073741824) ∨ (k = 2 ∧ n = 0 ∧ -1073741824 ≤ a ∧ b ≤ 1073741824 ∧ a ≤ b ∧ b - a ≤ 1000) ∨ k = 3 ∨ (k = 4 ∧ n = 1 ∧ 0 ≤ a ∧ a ≤ 5) ∨ (k = 5 ∧ n ≠ 0) := by
  unfold oneErr at h
  split at h
  · rename_i hk
    split at h
    · omega
    · rename_i hf
      split at h
      · rename_i hn
        have hfa : far a = false := by
          cases hx : far a with
          | false => rfl
          | true => exact absurd (Or.inl hx) hf
        have ha := far_false hfa
        rcases hk with hk | hk
        · left; exact ⟨hk, hn, ha.1, ha.2⟩
        · right; left
          have h2 : ¬ (far b = true ∨ b < a ∨ 1000 < b - a) := fun e => hf (Or.inr ⟨hk, e⟩)
          have hfb : far b = false := by
            cases hx : far b with
            | false => rfl
            | true => exact absurd (Or.inl hx) h2
          have hb := far_false hfb
          have h3 : ¬ b < a := fun e => h2 (Or.inr (Or.inl e))
          have h4 : ¬ 1000 < b - a := fun e => h2 (Or.inr (Or.inr e))
          exact ⟨hk, hn, ha.1, hb.2, by omega, by omega⟩
      · omega
  · rename_i hk
    split at h
    · rename_i h4
      split at h
      · omega
      · split at h
        · rename_i h5 h6
          right; right; right; left
          exact ⟨h4, h6, by omega, by omega⟩
        · omega
    · split at h
      · right; right; left; assumption
      · split at h
        · rename_i h5
          split at h
          · omega
          · right; right; right; right; exact ⟨h5, by assumption⟩
        · omega

theorem capped_bd {n : Int} (h : 1 ≤ n) : 1 ≤ capped n ∧ capped n ≤ 1048577 := by unfold capped; omega
theorem capped_bd0 {n : Int} (h : 0 ≤ n) : 0 ≤ capped n ∧ capped n ≤ 1048577 := by unfold capped; omega
theorem mul_bd {n m : Int} (h1 : 1 ≤ n) (h2 : n ≤ 1048577) (h3 : 1 ≤ m) (h4 : m ≤ 1048577) : 1 ≤ n * m ∧ n * m ≤ 1099513724929 := by
  have e1 : 1 * 1 ≤ n * m := Int.mul_le_mul h1 h3 (by omega) (by omega)
  have e2 : n * m ≤ 1048577 * 1048577 := Int.mul_le_mul h2 h4 (by omega) (by omega)
  omega
theorem prodC_bd (s : List GT) (hs : ∀ x ∈ s, 1 ≤ count x ∧ count x ≤ 1048577) : ∀ n : Int, 1 ≤ n → n ≤ 1048577 → 1 ≤ prodC s n ∧ prodC s n ≤ 1048577 := by
  induction s with
  | nil => intro n h1 h2; exact ⟨h1, h2⟩
  | cons x s ih =>
    intro n h1 h2
    have hx := hs x (by simp)
    have hm := mul_bd h1 h2 hx.1 hx.2
    have hc := capped_bd hm.1
    exact ih (fun y hy => hs y (by simp [hy])) _ hc.1 hc.2
theorem sumC_bd (s : List GT) (hs : ∀ x ∈ s, 1 ≤ count x ∧ count x ≤ 1048577) : ∀ n : Int, 0 ≤ n → n ≤ 1048577 → (1 ≤ n ∨ s ≠ []) → 1 ≤ sumC s n ∧ sumC s n ≤ 1048577 := by
  induction s with
  | nil => intro n h0 h2 h; rcases h with h | h; exact ⟨h, h2⟩; exact absurd rfl h
  | cons x s ih =>
    intro n h1 h2 _
    have hx := hs x (by simp)
    have hc := capped_bd (n := n + count x) (by omega)
    exact ih (fun y hy => hs y (by simp [hy])) _ (by omega) hc.2 (Or.inl hc.1)
theorem manyK_bd (c : Int) (hc : 1 ≤ c ∧ c ≤ 1048577) (m : Nat) : ∀ n p : Int, 1 ≤ n → n ≤ 1048577 → 1 ≤ p → p ≤ 1048577 → 1 ≤ manyK c m n p ∧ manyK c m n p ≤ 1048577 := by
  induction m with
  | zero => intro n p h1 h2 _ _; exact ⟨h1, h2⟩
  | succ m ih =>
    intro n p h1 h2 h3 h4
    have hm := mul_bd h3 h4 hc.1 hc.2
    have hp := capped_bd hm.1
    have hn := capped_bd (n := n + capped (p * c)) (by omega)
    exact ih _ _ hn.1 hn.2 hp.1 hp.2
theorem count_bd (g : GT) : eachErr g = 0 → 1 ≤ count g ∧ count g ≤ 1048577 := by
  induction g using GT.ind with
  | h k a b s ih =>
    intro h
    have hk := ok_kids h
    have hs : ∀ x ∈ s, 1 ≤ count x ∧ count x ≤ 1048577 := fun x hx => ih x hx (hk x hx)
    rcases one_cases (ok_one h) with ⟨rfl, _⟩ | ⟨rfl, _, _, _, h1, h2⟩ | rfl | ⟨rfl, h1, h2, h3⟩ | ⟨rfl, h1⟩
    · simp [count]
    · simp [count]; omega
    · simp only [count]; exact prodC_bd s hs 1 (by omega) (by omega)
    · simp only [count]
      cases s with
      | nil => simp at h1
      | cons x s => exact manyK_bd _ (hs x (by simp)) _ 1 1 (by omega) (by omega) (by omega) (by omega)
    · simp only [count]
      exact sumC_bd s hs 0 (by omega) (by omega) (Or.inr (by intro e; rw [e] at h1; exact h1 rfl))
theorem prodC_step (s : List GT) (j : Nat) (h : j < s.length) (n : Int) : prodC (s.drop j) n = prodC (s.drop (j + 1)) (capped (n * count s[j])) := by
  rw [List.drop_eq_getElem_cons h]; rfl
theorem sumC_step (s : List GT) (j : Nat) (h : j < s.length) (n : Int) : sumC (s.drop j) n = sumC (s.drop (j + 1)) (capped (n + count s[j])) := by
  rw [List.drop_eq_getElem_cons h]; rfl
end GT
end Go.Proofs.Ytocngjpjheockaa
namespace Go.Proofs.Ytocngjpjheockaa
set_option maxRecDepth 100000
set_option linter.unusedSimpArgs false
set_option linter.unusedVariables false
namespace GT
/-- How many of fewer than so many. -/
def geo (a : Int) : Nat → Int
  | 0 => 0
  | j + 1 => geo a j + a ^ j
theorem geo_le (a : Int) (ha : 1 ≤ a) (i : Nat) : ∀ j, i ≤ j → geo a i ≤ geo a j := by
  intro j
  induction j with
  | zero => intro h; have : i = 0 := by omega
            subst this; exact Int.le_refl _
  | succ j ih =>
    intro h
    by_cases hi : i = j + 1
    · subst hi; exact Int.le_refl _
    · have h1 := ih (by omega)
      have h2 : 0 < a ^ j := Int.pow_pos (by omega)
      simp only [geo]
      omega
theorem geo_nonneg (a : Int) (ha : 1 ≤ a) (j : Nat) : 0 ≤ geo a j := geo_le a ha 0 j (Nat.zero_le _)
theorem pow_le_geo (a : Int) (ha : 1 ≤ a) (j : Nat) : a ^ j ≤ geo a (j + 1) := by
  have := geo_nonneg a ha j
  simp only [geo]
  omega
theorem capped_add (x y : Int) (hx : 0 ≤ x) (hy : 0 ≤ y) : capped (capped x + capped y) = capped (x + y) := by unfold capped; omega
theorem capped_mul (x a : Int) (hx : 0 ≤ x) (ha : 1 ≤ a) : capped (capped x * a) = capped (x * a) := by
  unfold capped
  by_cases h : x ≤ 1048577
  · have e : min x 1048577 = x := by omega
    rw [e]
  · have e : min x 1048577 = 1048577 := by omega
    rw [e]
    have h1 : 1048577 * 1 ≤ 1048577 * a := Int.mul_le_mul_of_nonneg_left ha (by omega)
    have h2 : x * 1 ≤ x * a := Int.mul_le_mul_of_nonneg_left ha hx
    omega
theorem manyK_geo (a : Int) (ha : 1 ≤ a) (m : Nat) : ∀ j, manyK a m (capped (geo a (j + 1))) (capped (a ^ j)) = capped (geo a (j + 1 + m)) := by
  induction m with
  | zero => intro j; rfl
  | succ m ih =>
    intro j
    have hp : 0 ≤ a ^ j := by have : 0 < a ^ j := Int.pow_pos (by omega)
                              omega
    have hp1 : 0 ≤ a ^ (j + 1) := by have : 0 < a ^ (j + 1) := Int.pow_pos (by omega)
                                     omega
    simp only [manyK]
    rw [capped_mul _ _ hp ha, ← Int.pow_succ, capped_add _ _ (geo_nonneg a ha (j + 1)) hp1]
    have := ih (j + 1)
    rw [show geo a (j + 1) + a ^ (j + 1) = geo a (j + 1 + 1) from rfl, this]
    congr 2
    omega
theorem many_geo (a : Int) (ha : 1 ≤ a) (n : Nat) : manyK a n 1 1 = capped (geo a (n + 1)) := by
  have := manyK_geo a ha n 0
  have h1 : capped (geo a (0 + 1)) = 1 := by simp [geo, capped]; decide
  have h2 : capped (a ^ 0) = 1 := by simp [capped]; decide
  rw [h1, h2] at this
  rw [this]
  congr 2
  omega
end GT
end Go.Proofs.Ytocngjpjheockaa
namespace Go.Proofs.Ytocngjpjheockaa
set_option maxRecDepth 100000
set_option linter.unusedSimpArgs false
set_option linter.unusedVariables false
namespace GT
mutual
def cost : GT → Nat
  | .mk k _ _ s => if k = 2 then 1 else if k = 3 then costL s else if k = 4 then 1 + 5 * costL s else if k = 5 then 1 + costL s else 0
def costL : List GT → Nat
  | [] => 0
  | x :: s => cost x + costL s
end
theorem costL_drop (s : List GT) (j : Nat) (h : j < s.length) : costL (s.drop j) = cost s[j] + costL (s.drop (j + 1)) := by
  rw [List.drop_eq_getElem_cons h]; rfl
theorem cost_le (s : List GT) : ∀ (i : Nat) (h : i < s.length), cost s[i] ≤ costL s := by
  induction s with
  | nil => intro i h; simp at h
  | cons x s ih =>
    intro i h
    cases i with
    | zero => simp only [costL, List.getElem_cons_zero]; omega
    | succ i =>
      have := ih i (by simpa using h)
      simp only [costL, List.getElem_cons_succ]
      omega
section
variable {σ : Type} (st : Int → σ → Except Int (Int × σ)) (bud : σ → Nat)
theorem times_bud (f : σ → Except Int (VT × σ)) (c : Nat) (hf : ∀ q t q', f q = .ok (t, q') → bud q ≤ bud q' + c) : ∀ (n : Nat) q l q', times f n q = .ok (l, q') → bud q ≤ bud q' + n * c := by
  intro n
  induction n with
  | zero => intro q l q' h; simp [times] at h; rw [h.2]; omega
  | succ n ih =>
    intro q l q' h
    simp only [times] at h
    cases hq : f q with
    | error e => rw [hq] at h; cases h
    | ok r =>
      obtain ⟨v, q1⟩ := r
      rw [hq] at h
      simp only at h
      cases hq1 : times f n q1 with
      | error e => rw [hq1] at h; cases h
      | ok r =>
        obtain ⟨l1, q2⟩ := r
        rw [hq1] at h
        simp only [Except.ok.injEq, Prod.mk.injEq] at h
        have h1 := hf q v q1 hq
        have h2 := ih q1 l1 q2 hq1
        rw [← h.2, Nat.add_mul]
        omega
theorem play_bud (hbd : ∀ m q c q', 0 ≤ m → st m q = .ok (c, q') → 0 ≤ c ∧ c ≤ m) (hst : ∀ m q c q', 0 ≤ m → st m q = .ok (c, q') → bud q ≤ bud q' + 1) (g : GT) : eachErr g = 0 → ∀ q t q', play st g q = .ok (t, q') → bud q ≤ bud q' + cost g := by
  induction g using GT.ind with
  | h k a b s ih =>
    intro he q t q' h
    have hk := ok_kids he
    have hI : ∀ x ∈ s, ∀ q t q', play st x q = .ok (t, q') → bud q ≤ bud q' + cost x := fun x hx => ih x hx (hk x hx)
    have hL : ∀ (l : List GT), (∀ x ∈ l, x ∈ s) → ∀ q r q', playL st l q = .ok (r, q') → bud q ≤ bud q' + costL l := by
      intro l
      induction l with
      | nil => intro _ q r q' h; simp [playL] at h; rw [h.2]; omega
      | cons x l ihl =>
        intro hx q r q' h
        simp only [playL] at h
        cases hq : play st x q with
        | error e => rw [hq] at h; cases h
        | ok r1 =>
          obtain ⟨v, q1⟩ := r1
          rw [hq] at h
          simp only at h
          cases hq1 : playL st l q1 with
          | error e => rw [hq1] at h; cases h
          | ok r2 =>
            obtain ⟨l1, q2⟩ := r2
            rw [hq1] at h
            simp only [Except.ok.injEq, Prod.mk.injEq] at h
            have h1 := hI x (hx x (by simp)) q v q1 hq
            have h2 := ihl (fun y hy => hx y (by simp [hy])) q1 l1 q2 hq1
            rw [← h.2]
            simp only [costL]
            omega
    have hIx : ∀ (l : List GT), (∀ x ∈ l, x ∈ s) → ∀ i q r q', playI st l i q = .ok (r, q') → bud q ≤ bud q' + costL l := by
      intro l
      induction l with
      | nil => intro _ i q r q' h; simp [playI] at h
      | cons x l ihl =>
        intro hx i q r q' h
        cases i with
        | zero =>
          have := hI x (hx x (by simp)) q r q' h
          simp only [costL]
          omega
        | succ i =>
          have := ihl (fun y hy => hx y (by simp [hy])) i q r q' h
          simp only [costL]
          omega
    rcases one_cases (ok_one he) with ⟨rfl, h1, h2, h3⟩ | ⟨rfl, h0, h0', h1, h2, h3⟩ | rfl | ⟨rfl, h1, h2, h3⟩ | ⟨rfl, h1⟩
    · simp [play] at h
      rw [h.2]; omega
    · simp only [play, show ¬ ((2:Int) = 1) by decide, if_false, if_true] at h
      cases hq : st (b - a) q with
      | error e => rw [hq] at h; cases h
      | ok r =>
        obtain ⟨c, q1⟩ := r
        rw [hq] at h
        simp only [Except.ok.injEq, Prod.mk.injEq] at h
        have := hst (b - a) q c q1 (by omega) hq
        rw [← h.2]
        simp [cost]
        omega
    · simp only [play, show ¬ ((3:Int) = 1) by decide, show ¬ ((3:Int) = 2) by decide, if_false, if_true] at h
      cases hq : playL st s q with
      | error e => rw [hq] at h; cases h
      | ok r =>
        obtain ⟨l, q1⟩ := r
        rw [hq] at h
        simp only [Except.ok.injEq, Prod.mk.injEq] at h
        have := hL s (fun x hx => hx) q l q1 hq
        rw [← h.2]
        simp [cost]
        omega
    · simp only [play, show ¬ ((4:Int) = 1) by decide, show ¬ ((4:Int) = 2) by decide, show ¬ ((4:Int) = 3) by decide, if_false, if_true] at h
      cases hq : st a q with
      | error e => rw [hq] at h; cases h
      | ok r =>
        obtain ⟨c, q1⟩ := r
        rw [hq] at h
        simp only at h
        match s, h1, hI, h with
        | [y], _, hI, h =>
          simp only [playN] at h
          cases hq1 : times (fun q => play st y q) c.toNat q1 with
          | error e => rw [hq1] at h; cases h
          | ok r =>
            obtain ⟨l, q2⟩ := r
            rw [hq1] at h
            simp only [Except.ok.injEq, Prod.mk.injEq] at h
            have h4 := times_bud bud _ (cost y) (fun q t q' h => hI y (by simp) q t q' h) c.toNat q1 l q2 hq1
            have h5 := hbd a q c q1 h2 hq
            have h6 := hst a q c q1 h2 hq
            have h7 : c.toNat * cost y ≤ 5 * cost y := Nat.mul_le_mul_right _ (by omega)
            rw [← h.2]
            simp [cost, costL]
            omega
    · simp only [play, show ¬ ((5:Int) = 1) by decide, show ¬ ((5:Int) = 2) by decide, show ¬ ((5:Int) = 3) by decide, show ¬ ((5:Int) = 4) by decide, if_false, if_true] at h
      cases hq : st (s.length - 1) q with
      | error e => rw [hq] at h; cases h
      | ok r =>
        obtain ⟨c, q1⟩ := r
        rw [hq] at h
        have := hst _ q c q1 (by omega) hq
        have := hIx s (fun x hx => hx) c.toNat q1 t q' h
        simp [cost]
        omega
end
end GT
end Go.Proofs.Ytocngjpjheockaa
