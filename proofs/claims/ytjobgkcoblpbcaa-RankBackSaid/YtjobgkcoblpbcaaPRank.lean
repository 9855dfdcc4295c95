/- Plain laws of the numbers of tapes. -/
import Derived.Test.YtjobgkcoblpbcaaPMend
import Derived.Test.YtjobgkcoblpbcaaPDraw
import Derived.Test.YtjobgkcoblpbcaaPCnt
namespace Go.Proofs.Ytjobgkcoblpbcaa
set_option linter.unusedSimpArgs false
set_option linter.unusedVariables false
namespace GT
/-! ### what lies in a right generator is right -/
theorem partsL_low (s : List GT) (d : Nat) (ih : ∀ x ∈ s, (parts x (d + 1 + 1)).2 = true → parts x (d + 1) = parts x (d + 1 + 1)) : ∀ r, (partsL s (d + 1) r).2 = true → partsL s d r = partsL s (d + 1) r := by
  induction s with
  | nil => intro r h; rfl
  | cons x s ihs =>
    intro r h
    simp only [partsL] at h ⊢
    by_cases hr : r.2 = true
    · rw [if_pos hr] at h ⊢
      rw [if_pos hr]
      have h1 := (partsL_ok s (d + 1) _ h).1
      simp only [Bool.and_eq_true, decide_eq_true_eq] at h1
      rw [ih x (by simp) h1.1]
      exact ihs (fun y hy => ih y (by simp [hy])) _ h
    · rw [if_neg hr] at h
      exact absurd h hr
theorem parts_low (g : GT) : ∀ d, (parts g (d + 1)).2 = true → parts g d = parts g (d + 1) := by
  induction g using GT.ind with
  | h k a b s ih =>
    intro d h
    have h' := h
    simp only [parts, Bool.and_eq_true, decide_eq_true_eq] at h
    have h1 := (partsL_ok s (d + 1) _ h.1).1
    simp only [decide_eq_true_eq] at h1
    have e1 : decide (d < 6) = true := decide_eq_true (by omega)
    have e2 : decide (d + 1 < 6) = true := decide_eq_true (by omega)
    have h2 := h.1
    rw [e2] at h2
    have := partsL_low s d (fun x hx => ih x hx (d + 1)) (1, true) h2
    simp only [parts, e1, e2, this]
theorem check_kids {k a b : Int} {s : List GT} (h : check (.mk k a b s) = 0) : ∀ x ∈ s, check x = 0 := by
  intro x hx
  have h1 := ok_kids (check_ok h) x hx
  have h2 := (parts_kids (check_parts h)).2.2 x hx
  have h3 := parts_low x 0 h2
  simp only [check]
  rw [h3, if_pos h2]
  exact h1
/-! ### products and sums of counts -/
def prodL : List GT → Int
  | [] => 1
  | x :: l => count x * prodL l
def sumL : List GT → Int
  | [] => 0
  | x :: l => count x + sumL l
theorem prodL_append (l m : List GT) : prodL (l ++ m) = prodL l * prodL m := by
  induction l with
  | nil => simp [prodL]
  | cons x l ih => simp only [List.cons_append, prodL, ih, Int.mul_assoc]
theorem prodL_pos (l : List GT) (h : ∀ x ∈ l, 1 ≤ count x) : 1 ≤ prodL l := by
  induction l with
  | nil => simp [prodL]
  | cons x l ih =>
    have h1 := h x (by simp)
    have h2 := ih (fun y hy => h y (by simp [hy]))
    have := Int.mul_le_mul h1 h2 (by omega) (by omega)
    simp only [prodL]
    omega
theorem prodC_capped (s : List GT) (h : ∀ x ∈ s, 1 ≤ count x) : ∀ n, 0 ≤ n → prodC s (capped n) = capped (n * prodL s) := by
  induction s with
  | nil => intro n h0; simp [prodC, prodL]
  | cons x s ih =>
    intro n h0
    have h1 := h x (by simp)
    have hp : 0 ≤ n * count x := Int.mul_nonneg h0 (by omega)
    simp only [prodC, prodL]
    rw [capped_mul _ _ h0 h1, ih (fun y hy => h y (by simp [hy])) _ hp, Int.mul_assoc]
theorem sumL_nonneg (s : List GT) (h : ∀ x ∈ s, 1 ≤ count x) : 0 ≤ sumL s := by
  induction s with
  | nil => simp [sumL]
  | cons x s ih =>
    have h1 := h x (by simp)
    have h2 := ih (fun y hy => h y (by simp [hy]))
    simp only [sumL]
    omega
theorem sumC_capped (s : List GT) (h : ∀ x ∈ s, 1 ≤ count x) : ∀ n, 0 ≤ n → sumC s (capped n) = capped (n + sumL s) := by
  induction s with
  | nil => intro n h0; simp [sumC, sumL]
  | cons x s ih =>
    intro n h0
    have h1 := h x (by simp)
    simp only [sumC, sumL]
    have e : capped (capped n + count x) = capped (n + count x) := by unfold capped; omega
    rw [e, ih (fun y hy => h y (by simp [hy])) _ (by omega), Int.add_assoc]
theorem capped_le {n : Int} (h : capped n ≤ 1048576) : capped n = n := by unfold capped at *; omega
/-- Right, and not too many tapes. -/
def Ok (g : GT) : Prop := check g = 0 ∧ count g ≤ 1048576
def OkL (l : List GT) : Prop := ∀ x ∈ l, Ok x
theorem Ok.pos {g : GT} (h : Ok g) : 1 ≤ count g := (count_bd g (check_ok h.1)).1
theorem OkL.pos {l : List GT} (h : OkL l) : 1 ≤ prodL l := prodL_pos l fun x hx => (h x hx).pos
theorem OkL.append {l m : List GT} (h : OkL l) (k : OkL m) : OkL (l ++ m) := by
  intro x hx
  rcases List.mem_append.1 hx with e | e
  · exact h x e
  · exact k x e
theorem OkL.cons {x : GT} {l : List GT} (h : OkL (x :: l)) : Ok x ∧ OkL l := ⟨h x (by simp), fun y hy => h y (by simp [hy])⟩
theorem le_prodL (l : List GT) (h : ∀ x ∈ l, 1 ≤ count x) : ∀ x ∈ l, count x ≤ prodL l := by
  induction l with
  | nil => intro x hx; simp at hx
  | cons y l ih =>
    intro x hx
    have h1 := h y (by simp)
    have h2 := prodL_pos l (fun z hz => h z (by simp [hz]))
    simp only [prodL]
    rcases List.mem_cons.1 hx with rfl | hx
    · have := Int.mul_le_mul_of_nonneg_left h2 (show 0 ≤ count x by omega)
      omega
    · have h3 := ih (fun z hz => h z (by simp [hz])) x hx
      have := Int.mul_le_mul_of_nonneg_right h1 (show 0 ≤ prodL l by omega)
      omega
theorem le_sumL (l : List GT) (h : ∀ x ∈ l, 1 ≤ count x) : ∀ x ∈ l, count x ≤ sumL l := by
  induction l with
  | nil => intro x hx; simp at hx
  | cons y l ih =>
    intro x hx
    have h1 := h y (by simp)
    have h2 := sumL_nonneg l (fun z hz => h z (by simp [hz]))
    simp only [sumL]
    rcases List.mem_cons.1 hx with rfl | hx
    · omega
    · have h3 := ih (fun z hz => h z (by simp [hz])) x hx
      omega
theorem kids_pos {k a b : Int} {s : List GT} (h : check (.mk k a b s) = 0) : ∀ x ∈ s, 1 ≤ count x := fun x hx => (count_bd x (check_ok (check_kids h x hx))).1
theorem ok_both {a b : Int} {s : List GT} (h : Ok (.mk 3 a b s)) : OkL s ∧ count (.mk 3 a b s) = prodL s := by
  have hp := kids_pos h.1
  have e : count (.mk 3 a b s) = capped (prodL s) := by
    have := prodC_capped s hp 1 (by omega)
    rw [show capped 1 = 1 by decide, Int.one_mul] at this
    simpa [count] using this
  have h2 := h.2
  rw [e] at h2
  have e2 := capped_le h2
  rw [e2] at h2
  refine ⟨fun x hx => ⟨check_kids h.1 x hx, ?_⟩, by rw [e, e2]⟩
  have := le_prodL s hp x hx
  omega
theorem ok_any {a b : Int} {s : List GT} (h : Ok (.mk 5 a b s)) : OkL s ∧ count (.mk 5 a b s) = sumL s := by
  have hp := kids_pos h.1
  have e : count (.mk 5 a b s) = capped (sumL s) := by
    have := sumC_capped s hp 0 (by omega)
    rw [show capped 0 = 0 by decide, Int.zero_add] at this
    simpa [count] using this
  have h2 := h.2
  rw [e] at h2
  have e2 := capped_le h2
  rw [e2] at h2
  refine ⟨fun x hx => ⟨check_kids h.1 x hx, ?_⟩, by rw [e, e2]⟩
  have := le_sumL s hp x hx
  omega
theorem ok_many {a b : Int} {x : GT} (h : Ok (.mk 4 a b [x])) : count (.mk 4 a b [x]) = geo (count x) (a.toNat + 1) ∧ (0 < a → Ok x) := by
  have hp := kids_pos h.1 x (by simp)
  have e : count (.mk 4 a b [x]) = capped (geo (count x) (a.toNat + 1)) := by
    have := many_geo (count x) hp a.toNat
    simpa [count, manyC] using this
  have h2 := h.2
  rw [e] at h2
  have e2 := capped_le h2
  rw [e2] at h2
  refine ⟨by rw [e, e2], fun ha => ⟨check_kids h.1 x (by simp), ?_⟩⟩
  have h3 := geo_le (count x) hp 2 (a.toNat + 1) (by omega)
  have h4 : geo (count x) 2 = 1 + count x := by simp [geo, Int.pow_succ]
  omega
/-! ### what comes behind each first choice -/
def rep : List GT → Nat → List GT
  | [], _ => []
  | x :: _, n => List.replicate n x
def brs : GT → List (List GT)
  | .mk k a b s => if k = 2 then List.replicate (b - a + 1).toNat [] else if k = 4 then (List.range (a.toNat + 1)).map (rep s) else if k = 5 then s.map (fun x => [x]) else []
def sumP : List (List GT) → Int
  | [] => 0
  | l :: B => prodL l + sumP B
theorem sumP_append (A B : List (List GT)) : sumP (A ++ B) = sumP A + sumP B := by
  induction A with
  | nil => simp [sumP]
  | cons x A ih => simp only [List.cons_append, sumP, ih, Int.add_assoc]
theorem sumP_replicate (n : Nat) : sumP (List.replicate n []) = n := by
  induction n with
  | zero => rfl
  | succ n ih => simp only [List.replicate_succ, sumP, ih, prodL]; omega
theorem prodL_replicate (n : Nat) (x : GT) : prodL (List.replicate n x) = count x ^ n := by
  induction n with
  | zero => simp [prodL]
  | succ n ih => simp only [List.replicate_succ, prodL, ih, Int.pow_succ, Int.mul_comm]
theorem sumP_geo (x : GT) (r : List GT) (n : Nat) : sumP ((List.range n).map (rep (x :: r))) = geo (count x) n := by
  induction n with
  | zero => rfl
  | succ n ih => rw [List.range_succ, List.map_append, sumP_append, ih]; simp [sumP, geo, rep, prodL_replicate]
theorem sumP_ones (s : List GT) : sumP (s.map (fun x => [x])) = sumL s := by
  induction s with
  | nil => rfl
  | cons x s ih => simp [sumP, sumL, prodL, ih]
/-- A generator that takes a choice first. -/
def Chs (g : GT) : Prop := g.kind = 2 ∨ g.kind = 4 ∨ g.kind = 5
theorem ok_brs {g : GT} (h : Ok g) (hc : Chs g) : sumP (brs g) = count g ∧ ∀ l ∈ brs g, OkL l := by
  obtain ⟨k, a, b, s⟩ := g
  have he := check_ok h.1
  rcases hc with hk | hk | hk <;> (simp only [kind] at hk; subst hk)
  · rcases one_cases (ok_one he) with ⟨e, _⟩ | ⟨_, h0, h0', h1, h2, h3⟩ | e | ⟨e, _⟩ | ⟨e, _⟩ <;> try omega
    refine ⟨?_, fun l hl => ?_⟩
    · simp only [brs, if_true, sumP_replicate, count]
      simp
      omega
    · simp only [brs, if_true] at hl
      rw [List.eq_of_mem_replicate hl]
      intro x hx
      simp at hx
  · rcases one_cases (ok_one he) with ⟨e, _⟩ | ⟨e, _⟩ | e | ⟨_, h1, h2, h3⟩ | ⟨e, _⟩ <;> try omega
    match s, h1, h with
    | [x], _, h =>
      obtain ⟨h4, h5⟩ := ok_many h
      have e : brs (.mk 4 a b [x]) = (List.range (a.toNat + 1)).map (rep [x]) := by simp [brs]
      rw [e]
      refine ⟨by rw [sumP_geo, h4], fun l hl => ?_⟩
      obtain ⟨n, hn, rfl⟩ := List.mem_map.1 hl
      rw [List.mem_range] at hn
      intro y hy
      have hy' : n ≠ 0 ∧ y = x := by simpa [rep] using hy
      rw [hy'.2]
      exact h5 (by omega)
  · obtain ⟨h4, h5⟩ := ok_any h
    have e : brs (.mk 5 a b s) = s.map (fun x => [x]) := by simp [brs]
    rw [e]
    refine ⟨by rw [sumP_ones, h5], fun l hl => ?_⟩
    obtain ⟨x, hx, rfl⟩ := List.mem_map.1 hl
    intro y hy
    have : y = x := by simpa using hy
    rw [this]
    exact h4 x hx
/-- The number and the tape of a list of generators that are to be played one after the other. -/
inductive NthR : List GT → Int → List Int → Prop
  | nil : NthR [] 0 []
  | just {a b : Int} {s rest : List GT} {i : Int} {t : List Int} : NthR rest i t → NthR (.mk 1 a b s :: rest) i t
  | both {a b : Int} {s rest : List GT} {i : Int} {t : List Int} : NthR (s ++ rest) i t → NthR (.mk 3 a b s :: rest) i t
  | choose {g : GT} {rest : List GT} {j : Nat} {i : Int} {t : List Int} (hc : Chs g) (hj : j < (brs g).length) : NthR ((brs g)[j] ++ rest) i t → NthR (g :: rest) (prodL rest * sumP ((brs g).take j) + i) ((j : Int) :: t)
theorem sumP_take_succ (B : List (List GT)) (j : Nat) (h : j < B.length) : sumP (B.take (j + 1)) = sumP (B.take j) + prodL B[j] := by
  rw [List.take_add_one, List.getElem?_eq_getElem h, sumP_append]; simp [sumP]
theorem sumP_take_le (B : List (List GT)) (h : ∀ l ∈ B, 1 ≤ prodL l) (i : Nat) : ∀ j, i ≤ j → sumP (B.take i) ≤ sumP (B.take j) := by
  intro j
  induction j with
  | zero => intro hi; have : i = 0 := by omega
            subst this; exact Int.le_refl _
  | succ j ih =>
    intro hi
    by_cases e : i = j + 1
    · subst e; exact Int.le_refl _
    · have h1 := ih (by omega)
      by_cases hl : j < B.length
      · rw [sumP_take_succ B j hl]
        have := h B[j] (List.getElem_mem hl)
        omega
      · rw [List.take_of_length_le (by omega : B.length ≤ j + 1)]
        rw [List.take_of_length_le (by omega : B.length ≤ j)] at h1
        exact h1
theorem sumP_take_nonneg (B : List (List GT)) (h : ∀ l ∈ B, 1 ≤ prodL l) (j : Nat) : 0 ≤ sumP (B.take j) := by
  have := sumP_take_le B h 0 j (Nat.zero_le _)
  simpa [sumP] using this
/-- The numbers that begin with this choice. -/
theorem branch_bd {g : GT} (h : Ok g) (hc : Chs g) {rest : List GT} (hr : OkL rest) {j : Nat} (hj : j < (brs g).length) {i : Int} (h0 : 0 ≤ i) (h1 : i < prodL ((brs g)[j] ++ rest)) :
    prodL rest * sumP ((brs g).take j) ≤ prodL rest * sumP ((brs g).take j) + i ∧ prodL rest * sumP ((brs g).take j) + i < prodL rest * sumP ((brs g).take (j + 1)) ∧ 0 ≤ prodL rest * sumP ((brs g).take j) ∧ prodL rest * sumP ((brs g).take (j + 1)) ≤ prodL (g :: rest) := by
  obtain ⟨h2, h3⟩ := ok_brs h hc
  have hp : ∀ l ∈ brs g, 1 ≤ prodL l := fun l hl => (h3 l hl).pos
  have hrp := hr.pos
  have h4 := sumP_take_nonneg (brs g) hp j
  have h5 := sumP_take_le (brs g) hp (j + 1) (brs g).length (by omega)
  rw [List.take_length, h2] at h5
  have h6 := Int.mul_nonneg (show 0 ≤ prodL rest by omega) h4
  have h7 := Int.mul_le_mul_of_nonneg_left h5 (show 0 ≤ prodL rest by omega)
  rw [sumP_take_succ _ _ hj] at h7 ⊢
  rw [prodL_append] at h1
  have e : prodL (g :: rest) = prodL rest * count g := by simp only [prodL, Int.mul_comm]
  rw [e]
  rw [Int.mul_add] at h7 ⊢
  rw [Int.mul_comm (prodL rest) (prodL _)] at h7 ⊢
  refine ⟨by omega, by omega, h6, h7⟩
theorem NthR.bd {l : List GT} {i : Int} {t : List Int} (h : NthR l i t) : OkL l → 0 ≤ i ∧ i < prodL l := by
  induction h with
  | nil => intro _; simp [prodL]
  | just h ih =>
    intro hl
    obtain ⟨h1, h2⟩ := hl.cons
    have := ih h2
    simp only [prodL]
    rw [show count (.mk 1 _ _ _) = 1 by simp [count]]
    omega
  | both h ih =>
    intro hl
    obtain ⟨h1, h2⟩ := hl.cons
    obtain ⟨h3, h4⟩ := ok_both h1
    have := ih (h3.append h2)
    simp only [prodL]
    rw [h4, ← prodL_append]
    exact this
  | choose hc hj h ih =>
    intro hl
    obtain ⟨h1, h2⟩ := hl.cons
    have h5 := ih (((ok_brs h1 hc).2 _ (List.getElem_mem hj)).append h2)
    have h6 := branch_bd h1 hc h2 hj h5.1 h5.2
    omega
/-- Two tapes: the same, or the one that stands ahead where they first differ has the lesser number. -/
def Ahead (i k : Int) (s t : List Int) : Prop := (i = k ∧ s = t) ∨ ∃ (p : List Int) (x y : Int) (s' t' : List Int), s = p ++ x :: s' ∧ t = p ++ y :: t' ∧ x ≠ y ∧ i ≠ k ∧ (x < y ↔ i < k)
theorem Ahead.cons {i k : Int} {s t : List Int} (h : Ahead i k s t) (n : Int) (j : Int) : Ahead (n + i) (n + k) (j :: s) (j :: t) := by
  rcases h with ⟨rfl, rfl⟩ | ⟨p, x, y, s', t', rfl, rfl, h1, h2, h3⟩
  · exact .inl ⟨rfl, rfl⟩
  · exact .inr ⟨j :: p, x, y, s', t', rfl, rfl, h1, by omega, by omega⟩
theorem NthR.ahead {l : List GT} {i : Int} {s : List Int} (h : NthR l i s) : OkL l → ∀ {k : Int} {t : List Int}, NthR l k t → Ahead i k s t := by
  induction h with
  | nil => intro _ k t h2; cases h2; exact .inl ⟨rfl, rfl⟩
  | just h ih =>
    intro hl k t h2
    cases h2 with
    | just h2 => exact ih hl.cons.2 h2
    | choose hc _ _ => simp [Chs, kind] at hc
  | both h ih =>
    intro hl k t h2
    obtain ⟨h1, h3⟩ := hl.cons
    cases h2 with
    | both h2 => exact ih ((ok_both h1).1.append h3) h2
    | choose hc _ _ => simp [Chs, kind] at hc
  | @choose g rest j i s hc hj h ih =>
    intro hl k t h2
    obtain ⟨h1, h3⟩ := hl.cons
    cases h2 with
    | just h2 => simp [Chs, kind] at hc
    | both h2 => simp [Chs, kind] at hc
    | @choose _ _ j' i' t' _ hj' h2 =>
      obtain ⟨_, hB⟩ := ok_brs h1 hc
      have o1 : OkL ((brs g)[j] ++ rest) := (hB _ (List.getElem_mem hj)).append h3
      by_cases e : j = j'
      · subst e
        exact (ih o1 h2).cons _ _
      · have o2 : OkL ((brs g)[j'] ++ rest) := (hB _ (List.getElem_mem hj')).append h3
        have b1 := h.bd o1
        have b2 := h2.bd o2
        have c1 := branch_bd h1 hc h3 hj b1.1 b1.2
        have c2 := branch_bd h1 hc h3 hj' b2.1 b2.2
        have hp : ∀ l ∈ brs g, 1 ≤ prodL l := fun l hl => (hB l hl).pos
        have hrp := h3.pos
        refine .inr ⟨[], j, j', s, t', rfl, rfl, by omega, ?_⟩
        rcases Nat.lt_or_ge j j' with hlt | hge
        · have := Int.mul_le_mul_of_nonneg_left (sumP_take_le (brs g) hp (j + 1) j' hlt) (show 0 ≤ prodL rest by omega)
          omega
        · have := Int.mul_le_mul_of_nonneg_left (sumP_take_le (brs g) hp (j' + 1) j (by omega)) (show 0 ≤ prodL rest by omega)
          omega
theorem NthR.tape {l : List GT} {i : Int} {s t : List Int} (hl : OkL l) (h : NthR l i s) (k : NthR l i t) : s = t := by
  rcases h.ahead hl k with ⟨_, e⟩ | ⟨_, _, _, _, _, _, _, _, e, _⟩
  · exact e
  · exact absurd rfl e
/-! ### what has a number can be played, and what can be played has one -/
mutual
def wt : GT → Nat
  | .mk k _ _ s => if k = 3 then 1 + wtL s else if k = 4 then 1 + 5 * wtL s else if k = 5 then 1 + wtL s else 1
def wtL : List GT → Nat
  | [] => 0
  | x :: s => wt x + wtL s
end
theorem wt_pos (g : GT) : 1 ≤ wt g := by
  obtain ⟨k, a, b, s⟩ := g
  simp only [wt]
  split
  · omega
  · split
    · omega
    · split <;> omega
theorem wtL_append (l m : List GT) : wtL (l ++ m) = wtL l + wtL m := by
  induction l with
  | nil => simp [wtL]
  | cons x l ih => simp only [List.cons_append, wtL, ih]; omega
theorem wtL_replicate (n : Nat) (x : GT) : wtL (List.replicate n x) = n * wt x := by
  induction n with
  | zero => simp [wtL]
  | succ n ih => simp only [List.replicate_succ, wtL, ih, Nat.add_mul]; omega
theorem wt_mem (s : List GT) : ∀ x ∈ s, wt x ≤ wtL s := by
  induction s with
  | nil => intro x hx; simp at hx
  | cons y s ih =>
    intro x hx
    simp only [wtL]
    rcases List.mem_cons.1 hx with rfl | hx
    · omega
    · have := ih x hx; omega
theorem wt_brs {g : GT} (h : eachErr g = 0) (hc : Chs g) {j : Nat} (hj : j < (brs g).length) : wtL (brs g)[j] < wt g := by
  obtain ⟨k, a, b, s⟩ := g
  rcases hc with hk | hk | hk <;> (simp only [kind] at hk; subst hk)
  · simp [brs, wt, wtL]
  · rcases one_cases (ok_one h) with ⟨e, _⟩ | ⟨e, _⟩ | e | ⟨_, h1, h2, h3⟩ | ⟨e, _⟩ <;> try omega
    match s, h1, hj with
    | [x], _, hj =>
      have hj' : j < a.toNat + 1 := by simpa [brs] using hj
      have e : (brs (.mk 4 a b [x]))[j] = List.replicate j x := by simp [brs, rep]
      rw [e, wtL_replicate]
      simp only [wt, wtL]
      have : j * wt x ≤ 5 * wt x := Nat.mul_le_mul_right _ (by omega)
      simp
      omega
  · have hj' : j < s.length := by simpa [brs] using hj
    have e : (brs (.mk 5 a b s))[j] = [s[j]] := by simp [brs]
    rw [e]
    have := wt_mem s s[j] (List.getElem_mem hj')
    simp [wt, wtL]
    omega
section
variable {σ : Type} (st : Int → σ → Except Int (Int × σ))
theorem playL_append (l m : List GT) : ∀ q, playL st (l ++ m) q = match playL st l q with
    | .error e => .error e
    | .ok (r, q) => match playL st m q with
      | .error e => .error e
      | .ok (r2, q) => .ok (r ++ r2, q) := by
  induction l with
  | nil => intro q; simp only [List.nil_append, playL]; cases playL st m q with
    | error e => rfl
    | ok r => rfl
  | cons x l ih =>
    intro q
    simp only [List.cons_append, playL]
    cases play st x q with
    | error e => rfl
    | ok r =>
      obtain ⟨v, q1⟩ := r
      simp only
      rw [ih q1]
      cases playL st l q1 with
      | error e => rfl
      | ok r =>
        obtain ⟨r1, q2⟩ := r
        simp only
        cases playL st m q2 with
        | error e => rfl
        | ok r => rfl
theorem times_eq (x : GT) (n : Nat) : ∀ q, times (fun q => play st x q) n q = playL st (List.replicate n x) q := by
  induction n with
  | zero => intro q; rfl
  | succ n ih =>
    intro q
    simp only [times, List.replicate_succ, playL]
    cases play st x q with
    | error e => rfl
    | ok r => obtain ⟨v, q1⟩ := r; simp only; rw [ih q1]
/-- How many choices there are, less one. -/
def most : GT → Int
  | .mk k a b s => if k = 2 then b - a else if k = 4 then a else (s.length : Int) - 1
theorem brs_length {g : GT} (h : eachErr g = 0) (hc : Chs g) : ((brs g).length : Int) = most g + 1 := by
  obtain ⟨k, a, b, s⟩ := g
  rcases hc with hk | hk | hk <;> (simp only [kind] at hk; subst hk) <;> rcases one_cases (ok_one h) with ⟨e, _⟩ | ⟨e, h0, h0', h1, h2, h3⟩ | e | ⟨e, h1, h2, h3⟩ | ⟨e, h1⟩ <;> try omega
  · simp [brs, most]; omega
  · simp [brs, most]; omega
  · simp [brs, most]
/-- Playing one that chooses first is to choose, and to play what comes behind. -/
theorem play_choose {g : GT} (h : eachErr g = 0) (hc : Chs g) (hbd : ∀ m q c q', 0 ≤ m → st m q = .ok (c, q') → 0 ≤ c ∧ c ≤ m) (q q' : σ) :
    (∃ v, play st g q = .ok (v, q')) ↔ ∃ (j : Nat) (q1 : σ) (hj : j < (brs g).length), st (most g) q = .ok ((j : Int), q1) ∧ ∃ r, playL st (brs g)[j] q1 = .ok (r, q') := by
  have hlen := brs_length h hc
  obtain ⟨k, a, b, s⟩ := g
  rcases hc with hk | hk | hk <;> (simp only [kind] at hk; subst hk)
  · have em : most (.mk 2 a b s) = b - a := by simp [most]
    rw [em] at hlen ⊢
    have h0 : 0 ≤ b - a := by rcases one_cases (ok_one h) with ⟨e, _⟩ | ⟨e, h0, h0', h1, h2, h3⟩ | e | ⟨e, h1, h2, h3⟩ | ⟨e, h1⟩ <;> omega
    simp only [play, show ¬ ((2:Int) = 1) by decide, if_false, if_true]
    constructor
    · rintro ⟨v, hv⟩
      cases hq : st (b - a) q with
      | error e => rw [hq] at hv; cases hv
      | ok r =>
        obtain ⟨c, q1⟩ := r
        rw [hq] at hv
        simp only [Except.ok.injEq, Prod.mk.injEq] at hv
        have := hbd _ _ _ _ h0 hq
        refine ⟨c.toNat, q1, by omega, ?_, [], ?_⟩
        · rw [show ((c.toNat : Nat) : Int) = c by omega]
        · rw [← hv.2]; simp [brs, playL]
    · rintro ⟨j, q1, hj, hq, r, hr⟩
      have e : (brs (.mk 2 a b s))[j] = [] := by simp [brs]
      rw [e] at hr
      simp only [playL, Except.ok.injEq, Prod.mk.injEq] at hr
      rw [hq]
      simp only [hr.2]
      exact ⟨_, rfl⟩
  · have em : most (.mk 4 a b s) = a := by simp [most]
    rw [em] at hlen ⊢
    have h0 : s.length = 1 ∧ 0 ≤ a := by rcases one_cases (ok_one h) with ⟨e, _⟩ | ⟨e, h0, h0', h1, h2, h3⟩ | e | ⟨e, h1, h2, h3⟩ | ⟨e, h1⟩ <;> omega
    match s, h0, hlen with
    | [x], h0, hlen =>
      have eb : ∀ (j : Nat) (hj : j < (brs (.mk 4 a b [x])).length), (brs (.mk 4 a b [x]))[j] = List.replicate j x := by intro j hj; simp [brs, rep]
      simp only [play, playN, show ¬ ((4:Int) = 1) by decide, show ¬ ((4:Int) = 2) by decide, show ¬ ((4:Int) = 3) by decide, if_false, if_true]
      constructor
      · rintro ⟨v, hv⟩
        cases hq : st a q with
        | error e => rw [hq] at hv; cases hv
        | ok r =>
          obtain ⟨c, q1⟩ := r
          rw [hq] at hv
          simp only at hv
          have := hbd _ _ _ _ h0.2 hq
          rw [times_eq] at hv
          cases hp : playL st (List.replicate c.toNat x) q1 with
          | error e => rw [hp] at hv; cases hv
          | ok r =>
            obtain ⟨r, q2⟩ := r
            rw [hp] at hv
            simp only [Except.ok.injEq, Prod.mk.injEq] at hv
            refine ⟨c.toNat, q1, by omega, ?_, r, ?_⟩
            · rw [show ((c.toNat : Nat) : Int) = c by omega]
            · rw [eb, hp, hv.2]
      · rintro ⟨j, q1, hj, hq, r, hr⟩
        rw [eb] at hr
        rw [hq]
        simp only
        rw [times_eq, Int.toNat_natCast, hr]
        exact ⟨_, rfl⟩
  · have em : most (.mk 5 a b s) = (s.length : Int) - 1 := by simp [most]
    rw [em] at hlen ⊢
    have h0 : 0 < s.length := by rcases one_cases (ok_one h) with ⟨e, _⟩ | ⟨e, h0, h0', h1, h2, h3⟩ | e | ⟨e, h1, h2, h3⟩ | ⟨e, h1⟩ <;> omega
    have eb : ∀ (j : Nat) (hj : j < (brs (.mk 5 a b s)).length) (hj' : j < s.length), (brs (.mk 5 a b s))[j] = [s[j]] := by intro j hj hj'; simp [brs]
    have el : (brs (.mk 5 a b s)).length = s.length := by simp [brs]
    simp only [play, show ¬ ((5:Int) = 1) by decide, show ¬ ((5:Int) = 2) by decide, show ¬ ((5:Int) = 3) by decide, show ¬ ((5:Int) = 4) by decide, if_false, if_true]
    constructor
    · rintro ⟨v, hv⟩
      cases hq : st ((s.length : Int) - 1) q with
      | error e => rw [hq] at hv; cases hv
      | ok r =>
        obtain ⟨c, q1⟩ := r
        rw [hq] at hv
        simp only at hv
        have := hbd _ _ _ _ (by omega) hq
        have hi : c.toNat < s.length := by omega
        rw [playI_get st s c.toNat hi] at hv
        refine ⟨c.toNat, q1, by omega, ?_, [v], ?_⟩
        · rw [show ((c.toNat : Nat) : Int) = c by omega]
        · rw [eb _ _ hi]; simp only [playL, hv]
    · rintro ⟨j, q1, hj, hq, r, hr⟩
      have hj' : j < s.length := by omega
      rw [eb _ _ hj'] at hr
      rw [hq]
      simp only
      rw [Int.toNat_natCast, playI_get st s j hj']
      simp only [playL] at hr
      cases hp : play st s[j] q1 with
      | error e => rw [hp] at hr; cases hr
      | ok r2 =>
        obtain ⟨v, q2⟩ := r2
        rw [hp] at hr
        simp only [Except.ok.injEq, Prod.mk.injEq] at hr
        exact ⟨v, by rw [← hr.2]⟩
end
/-- What can be played has a number. -/
theorem played_nth (tape : List Int) : ∀ (n : Nat) (l : List GT), wtL l ≤ n → (∀ x ∈ l, check x = 0) → ∀ (p p' : Nat) (r : List VT), playL (stPlay tape) l p = .ok (r, p') → p' ≤ tape.length → ∃ i t, NthR l i t ∧ tape.drop p = t ++ tape.drop p' := by
  intro n
  induction n with
  | zero =>
    intro l hn hl p p' r h hp
    cases l with
    | nil => simp only [playL, Except.ok.injEq, Prod.mk.injEq] at h; exact ⟨0, [], .nil, by rw [h.2]; rfl⟩
    | cons x l => have := wt_pos x; simp only [wtL] at hn; omega
  | succ n ih =>
    intro l hn hl p p' r h hp
    cases l with
    | nil => simp only [playL, Except.ok.injEq, Prod.mk.injEq] at h; exact ⟨0, [], .nil, by rw [h.2]; rfl⟩
    | cons g rest =>
      have hg := hl g (by simp)
      have hr : ∀ x ∈ rest, check x = 0 := fun x hx => hl x (by simp [hx])
      have he := check_ok hg
      have hw := wt_pos g
      simp only [wtL] at hn
      simp only [playL] at h
      cases hq : play (stPlay tape) g p with
      | error e => rw [hq] at h; cases h
      | ok r1 =>
        obtain ⟨v, p1⟩ := r1
        rw [hq] at h
        simp only at h
        cases hq1 : playL (stPlay tape) rest p1 with
        | error e => rw [hq1] at h; cases h
        | ok r2 =>
          obtain ⟨r2, p2⟩ := r2
          rw [hq1] at h
          simp only [Except.ok.injEq, Prod.mk.injEq] at h
          obtain rfl : p2 = p' := h.2
          by_cases hc : Chs g
          · obtain ⟨j, p0, hj, hs, r3, h3⟩ := (play_choose (stPlay tape) he hc (fun m q c q' _ h => stPlay_bd h) p p1).1 ⟨v, hq⟩
            have hk : ∀ x ∈ (brs g)[j], check x = 0 := by
              intro x hx
              obtain ⟨k, a, b, s⟩ := g
              rcases hc with hk | hk | hk <;> (simp only [kind] at hk; subst hk)
              · simp [brs] at hx
              · have : x ∈ s := by
                  cases s with
                  | nil => simp [brs, rep] at hx
                  | cons y s => simp [brs, rep] at hx; simp [hx.2]
                exact check_kids hg x this
              · have hj' : j < s.length := by simpa [brs] using hj
                have : x = s[j] := by simpa [brs] using hx
                rw [this]
                exact check_kids hg _ (List.getElem_mem hj')
            obtain ⟨i, t, h4, h5⟩ := ih ((brs g)[j] ++ rest) (by rw [wtL_append]; have := wt_brs he hc hj; omega) (fun x hx => by
                rcases List.mem_append.1 hx with e | e
                · exact hk x e
                · exact hr x e) p0 p2 (r3 ++ r2) (by rw [playL_append, h3]; simp only [hq1]) hp
            obtain ⟨e1, hi, e2⟩ := stPlay_le hs
            refine ⟨_, _, .choose hc hj h4, ?_⟩
            rw [List.drop_eq_getElem_cons hi, e2, ← e1, h5]
            rfl
          · obtain ⟨k, a, b, s⟩ := g
            have hk13 : k = 1 ∨ k = 3 := by
              simp only [Chs, kind] at hc
              rcases one_cases (ok_one he) with ⟨e, _⟩ | ⟨e, h0, h0', h1, h2, h3⟩ | e | ⟨e, h1, h2, h3⟩ | ⟨e, h1⟩ <;> omega
            rcases hk13 with rfl | rfl
            · simp only [play, if_true, Except.ok.injEq, Prod.mk.injEq] at hq
              rw [← hq.2] at hq1
              obtain ⟨i, t, h4, h5⟩ := ih rest (by omega) hr p p2 r2 hq1 hp
              exact ⟨i, t, .just h4, h5⟩
            · simp only [play, show ¬ ((3:Int) = 1) by decide, show ¬ ((3:Int) = 2) by decide, if_false, if_true] at hq
              cases hq3 : playL (stPlay tape) s p with
              | error e => rw [hq3] at hq; cases hq
              | ok r3 =>
                obtain ⟨r3, p3⟩ := r3
                rw [hq3] at hq
                simp only [Except.ok.injEq, Prod.mk.injEq] at hq
                rw [hq.2] at hq3
                obtain ⟨i, t, h4, h5⟩ := ih (s ++ rest) (by rw [wtL_append]; simp [wt] at hn; omega) (fun x hx => by
                    rcases List.mem_append.1 hx with e | e
                    · exact check_kids hg x e
                    · exact hr x e) p p2 (r3 ++ r2) (by rw [playL_append, hq3]; simp only [hq1]) hp
                exact ⟨i, t, .both h4, h5⟩
/-- What has a number can be played. -/
theorem nth_played {l : List GT} {i : Int} {t : List Int} (h : NthR l i t) : (∀ x ∈ l, check x = 0) → ∀ (tape : List Int) (p : Nat) (r : List Int), tape.drop p = t ++ r → p ≤ tape.length → ∃ vs, playL (stPlay tape) l p = .ok (vs, p + t.length) := by
  induction h with
  | nil => intro _ tape p r _ _; exact ⟨[], rfl⟩
  | just h ih =>
    intro hl tape p r hd hp
    obtain ⟨vs, hv⟩ := ih (fun x hx => hl x (by simp [hx])) tape p r hd hp
    exact ⟨_, by simp only [playL, play, if_true, hv]; rfl⟩
  | @both a b s rest i t h ih =>
    intro hl tape p r hd hp
    have hg := hl (.mk 3 a b s) (by simp)
    obtain ⟨vs, hv⟩ := ih (fun x hx => by
        rcases List.mem_append.1 hx with e | e
        · exact check_kids hg x e
        · exact hl x (by simp [e])) tape p r hd hp
    rw [playL_append] at hv
    simp only [playL, play, show ¬ ((3:Int) = 1) by decide, show ¬ ((3:Int) = 2) by decide, if_false, if_true]
    cases h3 : playL (stPlay tape) s p with
    | error e => rw [h3] at hv; cases hv
    | ok r3 =>
      obtain ⟨r3, p3⟩ := r3
      rw [h3] at hv
      simp only at hv ⊢
      cases h4 : playL (stPlay tape) rest p3 with
      | error e => rw [h4] at hv; cases hv
      | ok r4 =>
        obtain ⟨r4, p4⟩ := r4
        rw [h4] at hv
        simp only [Except.ok.injEq, Prod.mk.injEq] at hv ⊢
        exact ⟨_, rfl, hv.2⟩
  | @choose g rest j i t hc hj h ih =>
    intro hl tape p r hd hp
    have hg := hl g (by simp)
    have he := check_ok hg
    have hlt : p < tape.length := by
      rcases Nat.lt_or_ge p tape.length with e | e
      · exact e
      · rw [List.drop_eq_nil_of_le e] at hd; cases hd
    rw [List.drop_eq_getElem_cons hlt] at hd
    simp only [List.cons_append, List.cons.injEq] at hd
    have hlen := brs_length he hc
    have hs : stPlay tape (most g) p = .ok ((j : Int), p + 1) := by
      unfold stPlay
      rw [dif_pos hlt, if_neg (by rw [hd.1]; omega), hd.1]
    have hk : ∀ x ∈ (brs g)[j], check x = 0 := by
      intro x hx
      obtain ⟨k, a, b, s⟩ := g
      rcases hc with hk | hk | hk <;> (simp only [kind] at hk; subst hk)
      · simp [brs] at hx
      · have : x ∈ s := by
          cases s with
          | nil => simp [brs, rep] at hx
          | cons y s => simp [brs, rep] at hx; simp [hx.2]
        exact check_kids hg x this
      · have hj' : j < s.length := by simpa [brs] using hj
        have : x = s[j] := by simpa [brs] using hx
        rw [this]
        exact check_kids hg _ (List.getElem_mem hj')
    obtain ⟨vs, hv⟩ := ih (fun x hx => by
        rcases List.mem_append.1 hx with e | e
        · exact hk x e
        · exact hl x (by simp [e])) tape (p + 1) r hd.2 hlt
    rw [playL_append] at hv
    cases h3 : playL (stPlay tape) (brs g)[j] (p + 1) with
    | error e => rw [h3] at hv; cases hv
    | ok r3 =>
      obtain ⟨r3, p3⟩ := r3
      rw [h3] at hv
      simp only at hv
      obtain ⟨v, h5⟩ := (play_choose (stPlay tape) he hc (fun m q c q' _ h => stPlay_bd h) p p3).2 ⟨j, p + 1, hj, hs, r3, h3⟩
      cases h4 : playL (stPlay tape) rest p3 with
      | error e => rw [h4] at hv; cases hv
      | ok r4 =>
        obtain ⟨r4, p4⟩ := r4
        rw [h4] at hv
        simp only [Except.ok.injEq, Prod.mk.injEq] at hv
        refine ⟨v :: r4, ?_⟩
        simp only [playL, h5, h4, List.length_cons]
        rw [hv.2]
        congr 2
        omega
end GT
/-- A tape that can be played has a number. -/
theorem nth_of_play {g : GT} {l : List Int} (hc : GT.check g = 0) (h : (playR g l).2 = 0) : ∃ i, GT.NthR [g] i l := by
  simp only [playR, hc, if_true] at h
  cases hp : GT.play (stPlay l) g 0 with
  | error e =>
    rw [hp] at h
    simp only at h
    have := GT.play_err (stPlay l) (fun e => e = 1 ∨ e = 5) (fun m q e h => stPlay_err h) (fun m q c q' _ h => stPlay_bd h) g (GT.check_ok hc) 0 e hp
    omega
  | ok r =>
    obtain ⟨v, i⟩ := r
    rw [hp] at h
    simp only at h
    by_cases hi : i < l.length
    · rw [if_pos hi] at h; simp at h
    · have hle : i ≤ l.length := by
        refine GT.play_inv (stPlay l) (fun q => q ≤ l.length) (fun m q c q' _ h => stPlay_bd h) (fun m q c q' _ _ h _ => ?_) g (GT.check_ok hc) 0 (GT.check_parts hc) 0 v i hp (Nat.zero_le _)
        obtain ⟨e1, hi, _⟩ := stPlay_le h
        omega
      have hL : GT.playL (stPlay l) [g] 0 = .ok ([v], i) := by simp only [GT.playL, hp]
      obtain ⟨n, t, h1, h2⟩ := GT.played_nth l _ [g] (Nat.le_refl _) (fun x hx => by have : x = g := by simpa using hx
                                                                                     rw [this]; exact hc) 0 i [v] hL hle
      rw [List.drop_zero, List.drop_eq_nil_of_le (by omega), List.append_nil] at h2
      exact ⟨n, h2 ▸ h1⟩
/-- What has a number can be played. -/
theorem play_of_nth {g : GT} {l : List Int} {i : Int} (hc : GT.check g = 0) (h : GT.NthR [g] i l) : (playR g l).2 = 0 := by
  obtain ⟨vs, hv⟩ := GT.nth_played h (fun x hx => by have : x = g := by simpa using hx
                                                     rw [this]; exact hc) l 0 [] (by simp) (Nat.zero_le _)
  simp only [GT.playL] at hv
  cases hp : GT.play (stPlay l) g 0 with
  | error e => rw [hp] at hv; cases hv
  | ok r =>
    obtain ⟨v, j⟩ := r
    rw [hp] at hv
    simp only [Except.ok.injEq, Prod.mk.injEq] at hv
    simp only [playR, hc, if_true, hp]
    rw [if_neg (by omega)]
end Go.Proofs.Ytjobgkcoblpbcaa
