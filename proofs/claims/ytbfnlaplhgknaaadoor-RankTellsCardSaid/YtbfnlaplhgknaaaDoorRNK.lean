/- Plain laws of the numbers of tapes. The walks through rank's small functions: a count, so many times, what comes behind a choice, a product. The walk through what comes behind a choice. The walk through Nth. The walk through Rank. What Nth and Rank answer, in the words that the statements use. -/
import Derived.Test.YtbfnlaplhgknaaaDoorGENN
import Derived.Test.YtbfnlaplhgknaaaDoorPMV
import Derived.Test.YtbfnlaplhgknaaaDoorWTI
import Derived.Test.YtbfnlaplhgknaaaDoorDRW
import Derived.Test.YtbfnlaplhgknaaaDoorPA
import Derived.Test.YtbfnlaplhgknaaaDoorGNS
import Derived.Test.YtbfnlaplhgknaaaDoorGENC
import Derived.Deep.LoopGhost
import Derived.Deep.DeepCutAuto
import Derived.Deep.OwnRows
import Derived.Test.YtbfnlaplhgknaaaDoorREG
import Derived.RegionTactic
import Derived.Test.YtbfnlaplhgknaaaDoorPLY
import Derived.Test.YtbfnlaplhgknaaaDoorTape
namespace Go.Proofs.YtbfnlaplhgknaaaDoor
set_option maxRecDepth 100000
set_option linter.unusedSimpArgs false
set_option linter.unusedVariables false
namespace GT
/-! ### what lies in a right generator is right -/
theorem partsL_low (s : List GT) (d : Nat) (ih : ∀ x ∈ s, (parts x (d + 1 + 1)).2 = true → parts x (d + 1) = parts x (d + 1 + 1)) : ∀ r, (partsL s (d + 1) r).2 = true → partsL s d r = partsL s (d + 1) r := by
  induction s with
  | nil => intro r h; rfl
  | cons x s ihs =>
    intro r h
    simp only [partsL] at h ⊢
    by_cases hr : r.2 = true
    · rw [if_pos hr] at h ⊢
      rw [if_pos hr]
      have h1 := (partsL_ok s (d + 1) _ h).1
      simp only [Bool.and_eq_true, decide_eq_true_eq] at h1
      rw [ih x (by simp) h1.1]
      exact ihs (fun y hy => ih y (by simp [hy])) _ h
    · rw [if_neg hr] at h
      exact absurd h hr
theorem parts_low (g : GT) : ∀ d, (parts g (d + 1)).2 = true → parts g d = parts g (d + 1) := by
  induction g using GT.ind with
  | h k a b s ih =>
    intro d h
    have h' := h
    simp only [parts, Bool.and_eq_true, decide_eq_true_eq] at h
    have h1 := (partsL_ok s (d + 1) _ h.1).1
    simp only [decide_eq_true_eq] at h1
    have e1 : decide (d < 6) = true := decide_eq_true (by omega)
    have e2 : decide (d + 1 < 6) = true := decide_eq_true (by omega)
    have h2 := h.1
    rw [e2] at h2
    have := partsL_low s d (fun x hx => ih x hx (d + 1)) (1, true) h2
    simp only [parts, e1, e2, this]
theorem check_kids {k a b : Int} {s : List GT} (h : check (.mk k a b s) = 0) : ∀ x ∈ s, check x = 0 := by
  intro x hx
  have h1 := ok_kids (check_ok h) x hx
  have h2 := (parts_kids (check_parts h)).2.2 x hx
  have h3 := parts_low x 0 h2
  simp only [check]
  rw [h3, if_pos h2]
  exact h1
/-! ### products and sums of counts -/
def prodL : List GT → Int
  | [] => 1
  | x :: l => count x * prodL l
def sumL : List GT → Int
  | [] => 0
  | x :: l => count x + sumL l
theorem prodL_append (l m : List GT) : prodL (l ++ m) = prodL l * prodL m := by
  induction l with
  | nil => simp [prodL]
  | cons x l ih => simp only [List.cons_append, prodL, ih, Int.mul_assoc]
theorem prodL_pos (l : List GT) (h : ∀ x ∈ l, 1 ≤ count x) : 1 ≤ prodL l := by
  induction l with
  | nil => simp [prodL]
  | cons x l ih =>
    have h1 := h x (by simp)
    have h2 := ih (fun y hy => h y (by simp [hy]))
    have := Int.mul_le_mul h1 h2 (by omega) (by omega)
    simp only [prodL]
    omega
theorem prodC_capped (s : List GT) (h : ∀ x ∈ s, 1 ≤ count x) : ∀ n, 0 ≤ n → prodC s (capped n) = capped (n * prodL s) := by
  induction s with
  | nil => intro n h0; simp [prodC, prodL]
  | cons x s ih =>
    intro n h0
    have h1 := h x (by simp)
    have hp : 0 ≤ n * count x := Int.mul_nonneg h0 (by omega)
    simp only [prodC, prodL]
    rw [capped_mul _ _ h0 h1, ih (fun y hy => h y (by simp [hy])) _ hp, Int.mul_assoc]
theorem sumL_nonneg (s : List GT) (h : ∀ x ∈ s, 1 ≤ count x) : 0 ≤ sumL s := by
  induction s with
  | nil => simp [sumL]
  | cons x s ih =>
    have h1 := h x (by simp)
    have h2 := ih (fun y hy => h y (by simp [hy]))
    simp only [sumL]
    omega
theorem sumC_capped (s : List GT) (h : ∀ x ∈ s, 1 ≤ count x) : ∀ n, 0 ≤ n → sumC s (capped n) = capped (n + sumL s) := by
  induction s with
  | nil => intro n h0; simp [sumC, sumL]
  | cons x s ih =>
    intro n h0
    have h1 := h x (by simp)
    simp only [sumC, sumL]
    have e : capped (capped n + count x) = capped (n + count x) := by unfold capped; omega
    rw [e, ih (fun y hy => h y (by simp [hy])) _ (by omega), Int.add_assoc]
theorem capped_le {n : Int} (h : capped n ≤ 1048576) : capped n = n := by unfold capped at *; omega
/-- Right, and not too many tapes. -/
def Ok (g : GT) : Prop := check g = 0 ∧ count g ≤ 1048576
def OkL (l : List GT) : Prop := ∀ x ∈ l, Ok x
theorem Ok.pos {g : GT} (h : Ok g) : 1 ≤ count g := (count_bd g (check_ok h.1)).1
theorem OkL.pos {l : List GT} (h : OkL l) : 1 ≤ prodL l := prodL_pos l fun x hx => (h x hx).pos
theorem OkL.append {l m : List GT} (h : OkL l) (k : OkL m) : OkL (l ++ m) := by
  intro x hx
  rcases List.mem_append.1 hx with e | e
  · exact h x e
  · exact k x e
theorem OkL.cons {x : GT} {l : List GT} (h : OkL (x :: l)) : Ok x ∧ OkL l := ⟨h x (by simp), fun y hy => h y (by simp [hy])⟩
theorem le_prodL (l : List GT) (h : ∀ x ∈ l, 1 ≤ count x) : ∀ x ∈ l, count x ≤ prodL l := by
  induction l with
  | nil => intro x hx; simp at hx
  | cons y l ih =>
    intro x hx
    have h1 := h y (by simp)
    have h2 := prodL_pos l (fun z hz => h z (by simp [hz]))
    simp only [prodL]
    rcases List.mem_cons.1 hx with rfl | hx
    · have := Int.mul_le_mul_of_nonneg_left h2 (show 0 ≤ count x by omega)
      omega
    · have h3 := ih (fun z hz => h z (by simp [hz])) x hx
      have := Int.mul_le_mul_of_nonneg_right h1 (show 0 ≤ prodL l by omega)
      omega
theorem le_sumL (l : List GT) (h : ∀ x ∈ l, 1 ≤ count x) : ∀ x ∈ l, count x ≤ sumL l := by
  induction l with
  | nil => intro x hx; simp at hx
  | cons y l ih =>
    intro x hx
    have h1 := h y (by simp)
    have h2 := sumL_nonneg l (fun z hz => h z (by simp [hz]))
    simp only [sumL]
    rcases List.mem_cons.1 hx with rfl | hx
    · omega
    · have h3 := ih (fun z hz => h z (by simp [hz])) x hx
      omega
theorem kids_pos {k a b : Int} {s : List GT} (h : check (.mk k a b s) = 0) : ∀ x ∈ s, 1 ≤ count x := fun x hx => (count_bd x (check_ok (check_kids h x hx))).1
theorem ok_both {a b : Int} {s : List GT} (h : Ok (.mk 3 a b s)) : OkL s ∧ count (.mk 3 a b s) = prodL s := by
  have hp := kids_pos h.1
  have e : count (.mk 3 a b s) = capped (prodL s) := by
    have := prodC_capped s hp 1 (by omega)
    rw [show capped 1 = 1 by decide, Int.one_mul] at this
    simpa [count] using this
  have h2 := h.2
  rw [e] at h2
  have e2 := capped_le h2
  rw [e2] at h2
  refine ⟨fun x hx => ⟨check_kids h.1 x hx, ?_⟩, by rw [e, e2]⟩
  have := le_prodL s hp x hx
  omega
theorem ok_any {a b : Int} {s : List GT} (h : Ok (.mk 5 a b s)) : OkL s ∧ count (.mk 5 a b s) = sumL s := by
  have hp := kids_pos h.1
  have e : count (.mk 5 a b s) = capped (sumL s) := by
    have := sumC_capped s hp 0 (by omega)
    rw [show capped 0 = 0 by decide, Int.zero_add] at this
    simpa [count] using this
  have h2 := h.2
  rw [e] at h2
  have e2 := capped_le h2
  rw [e2] at h2
  refine ⟨fun x hx => ⟨check_kids h.1 x hx, ?_⟩, by rw [e, e2]⟩
  have := le_sumL s hp x hx
  omega
theorem ok_many {a b : Int} {x : GT} (h : Ok (.mk 4 a b [x])) : count (.mk 4 a b [x]) = geo (count x) (a.toNat + 1) ∧ (0 < a → Ok x) := by
  have hp := kids_pos h.1 x (by simp)
  have e : count (.mk 4 a b [x]) = capped (geo (count x) (a.toNat + 1)) := by
    have := many_geo (count x) hp a.toNat
    simpa [count, manyC] using this
  have h2 := h.2
  rw [e] at h2
  have e2 := capped_le h2
  rw [e2] at h2
  refine ⟨by rw [e, e2], fun ha => ⟨check_kids h.1 x (by simp), ?_⟩⟩
  have h3 := geo_le (count x) hp 2 (a.toNat + 1) (by omega)
  have h4 : geo (count x) 2 = 1 + count x := by simp [geo, Int.pow_succ]
  omega
/-! ### what comes behind each first choice -/
def rep : List GT → Nat → List GT
  | [], _ => []
  | x :: _, n => List.replicate n x
def brs : GT → List (List GT)
  | .mk k a b s => if k = 2 then List.replicate (b - a + 1).toNat [] else if k = 4 then (List.range (a.toNat + 1)).map (rep s) else if k = 5 then s.map (fun x => [x]) else []
def sumP : List (List GT) → Int
  | [] => 0
  | l :: B => prodL l + sumP B
theorem sumP_append (A B : List (List GT)) : sumP (A ++ B) = sumP A + sumP B := by
  induction A with
  | nil => simp [sumP]
  | cons x A ih => simp only [List.cons_append, sumP, ih, Int.add_assoc]
theorem sumP_replicate (n : Nat) : sumP (List.replicate n []) = n := by
  induction n with
  | zero => rfl
  | succ n ih => simp only [List.replicate_succ, sumP, ih, prodL]; omega
theorem prodL_replicate (n : Nat) (x : GT) : prodL (List.replicate n x) = count x ^ n := by
  induction n with
  | zero => simp [prodL]
  | succ n ih => simp only [List.replicate_succ, prodL, ih, Int.pow_succ, Int.mul_comm]
theorem sumP_geo (x : GT) (r : List GT) (n : Nat) : sumP ((List.range n).map (rep (x :: r))) = geo (count x) n := by
  induction n with
  | zero => rfl
  | succ n ih => rw [List.range_succ, List.map_append, sumP_append, ih]; simp [sumP, geo, rep, prodL_replicate]
theorem sumP_ones (s : List GT) : sumP (s.map (fun x => [x])) = sumL s := by
  induction s with
  | nil => rfl
  | cons x s ih => simp [sumP, sumL, prodL, ih]
/-- A generator that takes a choice first. -/
def Chs (g : GT) : Prop := g.kind = 2 ∨ g.kind = 4 ∨ g.kind = 5
theorem ok_brs {g : GT} (h : Ok g) (hc : Chs g) : sumP (brs g) = count g ∧ ∀ l ∈ brs g, OkL l := by
  obtain ⟨k, a, b, s⟩ := g
  have he := check_ok h.1
  rcases hc with hk | hk | hk <;> (simp only [kind] at hk; subst hk)
  · rcases one_cases (ok_one he) with ⟨e, _⟩ | ⟨_, h0, h0', h1, h2, h3⟩ | e | ⟨e, _⟩ | ⟨e, _⟩ <;> try omega
    refine ⟨?_, fun l hl => ?_⟩
    · simp only [brs, if_true, sumP_replicate, count]
      simp
      omega
    · simp only [brs, if_true] at hl
      rw [List.eq_of_mem_replicate hl]
      intro x hx
      simp at hx
  · rcases one_cases (ok_one he) with ⟨e, _⟩ | ⟨e, _⟩ | e | ⟨_, h1, h2, h3⟩ | ⟨e, _⟩ <;> try omega
    match s, h1, h with
    | [x], _, h =>
      obtain ⟨h4, h5⟩ := ok_many h
      have e : brs (.mk 4 a b [x]) = (List.range (a.toNat + 1)).map (rep [x]) := by simp [brs]
      rw [e]
      refine ⟨by rw [sumP_geo, h4], fun l hl => ?_⟩
      obtain ⟨n, hn, rfl⟩ := List.mem_map.1 hl
      rw [List.mem_range] at hn
      intro y hy
      have hy' : n ≠ 0 ∧ y = x := by simpa [rep] using hy
      rw [hy'.2]
      exact h5 (by omega)
  · obtain ⟨h4, h5⟩ := ok_any h
    have e : brs (.mk 5 a b s) = s.map (fun x => [x]) := by simp [brs]
    rw [e]
    refine ⟨by rw [sumP_ones, h5], fun l hl => ?_⟩
    obtain ⟨x, hx, rfl⟩ := List.mem_map.1 hl
    intro y hy
    have : y = x := by simpa using hy
    rw [this]
    exact h4 x hx
/-- The number and the tape of a list of generators that are to be played one after the other. -/
inductive NthR : List GT → Int → List Int → Prop
  | nil : NthR [] 0 []
  | just {a b : Int} {s rest : List GT} {i : Int} {t : List Int} : NthR rest i t → NthR (.mk 1 a b s :: rest) i t
  | both {a b : Int} {s rest : List GT} {i : Int} {t : List Int} : NthR (s ++ rest) i t → NthR (.mk 3 a b s :: rest) i t
  | choose {g : GT} {rest : List GT} {j : Nat} {i : Int} {t : List Int} (hc : Chs g) (hj : j < (brs g).length) : NthR ((brs g)[j] ++ rest) i t → NthR (g :: rest) (prodL rest * sumP ((brs g).take j) + i) ((j : Int) :: t)
theorem sumP_take_succ (B : List (List GT)) (j : Nat) (h : j < B.length) : sumP (B.take (j + 1)) = sumP (B.take j) + prodL B[j] := by
  rw [List.take_add_one, List.getElem?_eq_getElem h, sumP_append]; simp [sumP]
theorem sumP_take_le (B : List (List GT)) (h : ∀ l ∈ B, 1 ≤ prodL l) (i : Nat) : ∀ j, i ≤ j → sumP (B.take i) ≤ sumP (B.take j) := by
  intro j
  induction j with
  | zero => intro hi; have : i = 0 := by omega
            subst this; exact Int.le_refl _
  | succ j ih =>
    intro hi
    by_cases e : i = j + 1
    · subst e; exact Int.le_refl _
    · have h1 := ih (by omega)
      by_cases hl : j < B.length
      · rw [sumP_take_succ B j hl]
        have := h B[j] (List.getElem_mem hl)
        omega
      · rw [List.take_of_length_le (by omega : B.length ≤ j + 1)]
        rw [List.take_of_length_le (by omega : B.length ≤ j)] at h1
        exact h1
theorem sumP_take_nonneg (B : List (List GT)) (h : ∀ l ∈ B, 1 ≤ prodL l) (j : Nat) : 0 ≤ sumP (B.take j) := by
  have := sumP_take_le B h 0 j (Nat.zero_le _)
  simpa [sumP] using this
/-- The numbers that begin with this choice. -/
theorem branch_bd {g : GT} (h : Ok g) (hc : Chs g) {rest : List GT} (hr : OkL rest) {j : Nat} (hj : j < (brs g).length) {i : Int} (h0 : 0 ≤ i) (h1 : i < prodL ((brs g)[j] ++ rest)) :
    prodL rest * sumP ((brs g).take j) ≤ prodL rest * sumP ((brs g).take j) + i ∧ prodL rest * sumP ((brs g).take j) + i < prodL rest * sumP ((brs g).take (j + 1)) ∧ 0 ≤ prodL rest * sumP ((brs g).take j) ∧ prodL rest * sumP ((brs g).take (j + 1)) ≤ prodL (g :: rest) := by
  obtain ⟨h2, h3⟩ := ok_brs h hc
  have hp : ∀ l ∈ brs g, 1 ≤ prodL l := fun l hl => (h3 l hl).pos
  have hrp := hr.pos
  have h4 := sumP_take_nonneg (brs g) hp j
  have h5 := sumP_take_le (brs g) hp (j + 1) (brs g).length (by omega)
  rw [List.take_length, h2] at h5
  have h6 := Int.mul_nonneg (show 0 ≤ prodL rest by omega) h4
  have h7 := Int.mul_le_mul_of_nonneg_left h5 (show 0 ≤ prodL rest by omega)
  rw [sumP_take_succ _ _ hj] at h7 ⊢
  rw [prodL_append] at h1
  have e : prodL (g :: rest) = prodL rest * count g := by simp only [prodL, Int.mul_comm]
  rw [e]
  rw [Int.mul_add] at h7 ⊢
  rw [Int.mul_comm (prodL rest) (prodL _)] at h7 ⊢
  refine ⟨by omega, by omega, h6, h7⟩
theorem NthR.bd {l : List GT} {i : Int} {t : List Int} (h : NthR l i t) : OkL l → 0 ≤ i ∧ i < prodL l := by
  induction h with
  | nil => intro _; simp [prodL]
  | just h ih =>
    intro hl
    obtain ⟨h1, h2⟩ := hl.cons
    have := ih h2
    simp only [prodL]
    rw [show count (.mk 1 _ _ _) = 1 by simp [count]]
    omega
  | both h ih =>
    intro hl
    obtain ⟨h1, h2⟩ := hl.cons
    obtain ⟨h3, h4⟩ := ok_both h1
    have := ih (h3.append h2)
    simp only [prodL]
    rw [h4, ← prodL_append]
    exact this
  | choose hc hj h ih =>
    intro hl
    obtain ⟨h1, h2⟩ := hl.cons
    have h5 := ih (((ok_brs h1 hc).2 _ (List.getElem_mem hj)).append h2)
    have h6 := branch_bd h1 hc h2 hj h5.1 h5.2
    omega
/-- Two tapes: the same, or the one that stands ahead where they first differ has the lesser number. -/
def Ahead (i k : Int) (s t : List Int) : Prop := (i = k ∧ s = t) ∨ ∃ (p : List Int) (x y : Int) (s' t' : List Int), s = p ++ x :: s' ∧ t = p ++ y :: t' ∧ x ≠ y ∧ i ≠ k ∧ (x < y ↔ i < k)
theorem Ahead.cons {i k : Int} {s t : List Int} (h : Ahead i k s t) (n : Int) (j : Int) : Ahead (n + i) (n + k) (j :: s) (j :: t) := by
  rcases h with ⟨rfl, rfl⟩ | ⟨p, x, y, s', t', rfl, rfl, h1, h2, h3⟩
  · exact .inl ⟨rfl, rfl⟩
  · exact .inr ⟨j :: p, x, y, s', t', rfl, rfl, h1, by omega, by omega⟩
theorem NthR.ahead {l : List GT} {i : Int} {s : List Int} (h : NthR l i s) : OkL l → ∀ {k : Int} {t : List Int}, NthR l k t → Ahead i k s t := by
  induction h with
  | nil => intro _ k t h2; cases h2; exact .inl ⟨rfl, rfl⟩
  | just h ih =>
    intro hl k t h2
    cases h2 with
    | just h2 => exact ih hl.cons.2 h2
    | choose hc _ _ => simp [Chs, kind] at hc
  | both h ih =>
    intro hl k t h2
    obtain ⟨h1, h3⟩ := hl.cons
    cases h2 with
    | both h2 => exact ih ((ok_both h1).1.append h3) h2
    | choose hc _ _ => simp [Chs, kind] at hc
  | @choose g rest j i s hc hj h ih =>
    intro hl k t h2
    obtain ⟨h1, h3⟩ := hl.cons
    cases h2 with
    | just h2 => simp [Chs, kind] at hc
    | both h2 => simp [Chs, kind] at hc
    | @choose _ _ j' i' t' _ hj' h2 =>
      obtain ⟨_, hB⟩ := ok_brs h1 hc
      have o1 : OkL ((brs g)[j] ++ rest) := (hB _ (List.getElem_mem hj)).append h3
      by_cases e : j = j'
      · subst e
        exact (ih o1 h2).cons _ _
      · have o2 : OkL ((brs g)[j'] ++ rest) := (hB _ (List.getElem_mem hj')).append h3
        have b1 := h.bd o1
        have b2 := h2.bd o2
        have c1 := branch_bd h1 hc h3 hj b1.1 b1.2
        have c2 := branch_bd h1 hc h3 hj' b2.1 b2.2
        have hp : ∀ l ∈ brs g, 1 ≤ prodL l := fun l hl => (hB l hl).pos
        have hrp := h3.pos
        refine .inr ⟨[], j, j', s, t', rfl, rfl, by omega, ?_⟩
        rcases Nat.lt_or_ge j j' with hlt | hge
        · have := Int.mul_le_mul_of_nonneg_left (sumP_take_le (brs g) hp (j + 1) j' hlt) (show 0 ≤ prodL rest by omega)
          omega
        · have := Int.mul_le_mul_of_nonneg_left (sumP_take_le (brs g) hp (j' + 1) j (by omega)) (show 0 ≤ prodL rest by omega)
          omega
theorem NthR.tape {l : List GT} {i : Int} {s t : List Int} (hl : OkL l) (h : NthR l i s) (k : NthR l i t) : s = t := by
  rcases h.ahead hl k with ⟨_, e⟩ | ⟨_, _, _, _, _, _, _, _, e, _⟩
  · exact e
  · exact absurd rfl e
/-! ### what has a number can be played, and what can be played has one -/
theorem wtL_append (l m : List GT) : wtL (l ++ m) = wtL l + wtL m := by
  induction l with
  | nil => simp [wtL]
  | cons x l ih => simp only [List.cons_append, wtL, ih]; omega
theorem wtL_replicate (n : Nat) (x : GT) : wtL (List.replicate n x) = n * wt x := by
  induction n with
  | zero => simp [wtL]
  | succ n ih => simp only [List.replicate_succ, wtL, ih, Nat.add_mul]; omega
theorem wt_mem (s : List GT) : ∀ x ∈ s, wt x ≤ wtL s := by
  induction s with
  | nil => intro x hx; simp at hx
  | cons y s ih =>
    intro x hx
    simp only [wtL]
    rcases List.mem_cons.1 hx with rfl | hx
    · omega
    · have := ih x hx; omega
theorem wt_brs {g : GT} (h : eachErr g = 0) (hc : Chs g) {j : Nat} (hj : j < (brs g).length) : wtL (brs g)[j] < wt g := by
  obtain ⟨k, a, b, s⟩ := g
  rcases hc with hk | hk | hk <;> (simp only [kind] at hk; subst hk)
  · simp [brs, wt, wtL]
  · rcases one_cases (ok_one h) with ⟨e, _⟩ | ⟨e, _⟩ | e | ⟨_, h1, h2, h3⟩ | ⟨e, _⟩ <;> try omega
    match s, h1, hj with
    | [x], _, hj =>
      have hj' : j < a.toNat + 1 := by simpa [brs] using hj
      have e : (brs (.mk 4 a b [x]))[j] = List.replicate j x := by simp [brs, rep]
      rw [e, wtL_replicate]
      simp only [wt, wtL]
      have : j * wt x ≤ 5 * wt x := Nat.mul_le_mul_right _ (by omega)
      simp
      omega
  · have hj' : j < s.length := by simpa [brs] using hj
    have e : (brs (.mk 5 a b s))[j] = [s[j]] := by simp [brs]
    rw [e]
    have := wt_mem s s[j] (List.getElem_mem hj')
    simp [wt, wtL]
    omega
section
variable {σ : Type} (st : Int → σ → Except Int (Int × σ))
theorem playL_append (l m : List GT) : ∀ q, playL st (l ++ m) q = match playL st l q with
    | .error e => .error e
    | .ok (r, q) => match playL st m q with
      | .error e => .error e
      | .ok (r2, q) => .ok (r ++ r2, q) := by
  induction l with
  | nil => intro q; simp only [List.nil_append, playL]; cases playL st m q with
    | error e => rfl
    | ok r => rfl
  | cons x l ih =>
    intro q
    simp only [List.cons_append, playL]
    cases play st x q with
    | error e => rfl
    | ok r =>
      obtain ⟨v, q1⟩ := r
      simp only
      rw [ih q1]
      cases playL st l q1 with
      | error e => rfl
      | ok r =>
        obtain ⟨r1, q2⟩ := r
        simp only
        cases playL st m q2 with
        | error e => rfl
        | ok r => rfl
/-- How many choices there are, less one. -/
def most : GT → Int
  | .mk k a b s => if k = 2 then b - a else if k = 4 then a else (s.length : Int) - 1
theorem brs_length {g : GT} (h : eachErr g = 0) (hc : Chs g) : ((brs g).length : Int) = most g + 1 := by
  obtain ⟨k, a, b, s⟩ := g
  rcases hc with hk | hk | hk <;> (simp only [kind] at hk; subst hk) <;> rcases one_cases (ok_one h) with ⟨e, _⟩ | ⟨e, h0, h0', h1, h2, h3⟩ | e | ⟨e, h1, h2, h3⟩ | ⟨e, h1⟩ <;> try omega
  · simp [brs, most]; omega
  · simp [brs, most]; omega
  · simp [brs, most]
/-- Playing one that chooses first is to choose, and to play what comes behind. -/
theorem play_choose {g : GT} (h : eachErr g = 0) (hc : Chs g) (hbd : ∀ m q c q', 0 ≤ m → st m q = .ok (c, q') → 0 ≤ c ∧ c ≤ m) (q q' : σ) :
    (∃ v, play st g q = .ok (v, q')) ↔ ∃ (j : Nat) (q1 : σ) (hj : j < (brs g).length), st (most g) q = .ok ((j : Int), q1) ∧ ∃ r, playL st (brs g)[j] q1 = .ok (r, q') := by
  have hlen := brs_length h hc
  obtain ⟨k, a, b, s⟩ := g
  rcases hc with hk | hk | hk <;> (simp only [kind] at hk; subst hk)
  · have em : most (.mk 2 a b s) = b - a := by simp [most]
    rw [em] at hlen ⊢
    have h0 : 0 ≤ b - a := by rcases one_cases (ok_one h) with ⟨e, _⟩ | ⟨e, h0, h0', h1, h2, h3⟩ | e | ⟨e, h1, h2, h3⟩ | ⟨e, h1⟩ <;> omega
    simp only [play, show ¬ ((2:Int) = 1) by decide, if_false, if_true]
    constructor
    · rintro ⟨v, hv⟩
      cases hq : st (b - a) q with
      | error e => rw [hq] at hv; cases hv
      | ok r =>
        obtain ⟨c, q1⟩ := r
        rw [hq] at hv
        simp only [Except.ok.injEq, Prod.mk.injEq] at hv
        have := hbd _ _ _ _ h0 hq
        refine ⟨c.toNat, q1, by omega, ?_, [], ?_⟩
        · rw [show ((c.toNat : Nat) : Int) = c by omega]
        · rw [← hv.2]; simp [brs, playL]
    · rintro ⟨j, q1, hj, hq, r, hr⟩
      have e : (brs (.mk 2 a b s))[j] = [] := by simp [brs]
      rw [e] at hr
      simp only [playL, Except.ok.injEq, Prod.mk.injEq] at hr
      rw [hq]
      simp only [hr.2]
      exact ⟨_, rfl⟩
  · have em : most (.mk 4 a b s) = a := by simp [most]
    rw [em] at hlen ⊢
    have h0 : s.length = 1 ∧ 0 ≤ a := by rcases one_cases (ok_one h) with ⟨e, _⟩ | ⟨e, h0, h0', h1, h2, h3⟩ | e | ⟨e, h1, h2, h3⟩ | ⟨e, h1⟩ <;> omega
    match s, h0, hlen with
    | [x], h0, hlen =>
      have eb : ∀ (j : Nat) (hj : j < (brs (.mk 4 a b [x])).length), (brs (.mk 4 a b [x]))[j] = List.replicate j x := by intro j hj; simp [brs, rep]
      simp only [play, playN, show ¬ ((4:Int) = 1) by decide, show ¬ ((4:Int) = 2) by decide, show ¬ ((4:Int) = 3) by decide, if_false, if_true]
      constructor
      · rintro ⟨v, hv⟩
        cases hq : st a q with
        | error e => rw [hq] at hv; cases hv
        | ok r =>
          obtain ⟨c, q1⟩ := r
          rw [hq] at hv
          simp only at hv
          have := hbd _ _ _ _ h0.2 hq
          rw [times_eq] at hv
          cases hp : playL st (List.replicate c.toNat x) q1 with
          | error e => rw [hp] at hv; cases hv
          | ok r =>
            obtain ⟨r, q2⟩ := r
            rw [hp] at hv
            simp only [Except.ok.injEq, Prod.mk.injEq] at hv
            refine ⟨c.toNat, q1, by omega, ?_, r, ?_⟩
            · rw [show ((c.toNat : Nat) : Int) = c by omega]
            · rw [eb, hp, hv.2]
      · rintro ⟨j, q1, hj, hq, r, hr⟩
        rw [eb] at hr
        rw [hq]
        simp only
        rw [times_eq, Int.toNat_natCast, hr]
        exact ⟨_, rfl⟩
  · have em : most (.mk 5 a b s) = (s.length : Int) - 1 := by simp [most]
    rw [em] at hlen ⊢
    have h0 : 0 < s.length := by rcases one_cases (ok_one h) with ⟨e, _⟩ | ⟨e, h0, h0', h1, h2, h3⟩ | e | ⟨e, h1, h2, h3⟩ | ⟨e, h1⟩ <;> omega
    have eb : ∀ (j : Nat) (hj : j < (brs (.mk 5 a b s)).length) (hj' : j < s.length), (brs (.mk 5 a b s))[j] = [s[j]] := by intro j hj hj'; simp [brs]
    have el : (brs (.mk 5 a b s)).length = s.length := by simp [brs]
    simp only [play, show ¬ ((5:Int) = 1) by decide, show ¬ ((5:Int) = 2) by decide, show ¬ ((5:Int) = 3) by decide, show ¬ ((5:Int) = 4) by decide, if_false, if_true]
    constructor
    · rintro ⟨v, hv⟩
      cases hq : st ((s.length : Int) - 1) q with
      | error e => rw [hq] at hv; cases hv
      | ok r =>
        obtain ⟨c, q1⟩ := r
        rw [hq] at hv
        simp only at hv
        have := hbd _ _ _ _ (by omega) hq
        have hi : c.toNat < s.length := by omega
        rw [playI_get st s c.toNat hi] at hv
        refine ⟨c.toNat, q1, by omega, ?_, [v], ?_⟩
        · rw [show ((c.toNat : Nat) : Int) = c by omega]
        · rw [eb _ _ hi]; simp only [playL, hv]
    · rintro ⟨j, q1, hj, hq, r, hr⟩
      have hj' : j < s.length := by omega
      rw [eb _ _ hj'] at hr
      rw [hq]
      simp only
      rw [Int.toNat_natCast, playI_get st s j hj']
      simp only [playL] at hr
      cases hp : play st s[j] q1 with
      | error e => rw [hp] at hr; cases hr
      | ok r2 =>
        obtain ⟨v, q2⟩ := r2
        rw [hp] at hr
        simp only [Except.ok.injEq, Prod.mk.injEq] at hr
        exact ⟨v, by rw [← hr.2]⟩
end
/-- What can be played has a number. -/
theorem played_nth (tape : List Int) : ∀ (n : Nat) (l : List GT), wtL l ≤ n → (∀ x ∈ l, check x = 0) → ∀ (p p' : Nat) (r : List VT), playL (stPlay tape) l p = .ok (r, p') → p' ≤ tape.length → ∃ i t, NthR l i t ∧ tape.drop p = t ++ tape.drop p' := by
  intro n
  induction n with
  | zero =>
    intro l hn hl p p' r h hp
    cases l with
    | nil => simp only [playL, Except.ok.injEq, Prod.mk.injEq] at h; exact ⟨0, [], .nil, by rw [h.2]; rfl⟩
    | cons x l => have := wt_pos x; simp only [wtL] at hn; omega
  | succ n ih =>
    intro l hn hl p p' r h hp
    cases l with
    | nil => simp only [playL, Except.ok.injEq, Prod.mk.injEq] at h; exact ⟨0, [], .nil, by rw [h.2]; rfl⟩
    | cons g rest =>
      have hg := hl g (by simp)
      have hr : ∀ x ∈ rest, check x = 0 := fun x hx => hl x (by simp [hx])
      have he := check_ok hg
      have hw := wt_pos g
      simp only [wtL] at hn
      simp only [playL] at h
      cases hq : play (stPlay tape) g p with
      | error e => rw [hq] at h; cases h
      | ok r1 =>
        obtain ⟨v, p1⟩ := r1
        rw [hq] at h
        simp only at h
        cases hq1 : playL (stPlay tape) rest p1 with
        | error e => rw [hq1] at h; cases h
        | ok r2 =>
          obtain ⟨r2, p2⟩ := r2
          rw [hq1] at h
          simp only [Except.ok.injEq, Prod.mk.injEq] at h
          obtain rfl : p2 = p' := h.2
          by_cases hc : Chs g
          · obtain ⟨j, p0, hj, hs, r3, h3⟩ := (play_choose (stPlay tape) he hc (fun m q c q' _ h => stPlay_bd h) p p1).1 ⟨v, hq⟩
            have hk : ∀ x ∈ (brs g)[j], check x = 0 := by
              intro x hx
              obtain ⟨k, a, b, s⟩ := g
              rcases hc with hk | hk | hk <;> (simp only [kind] at hk; subst hk)
              · simp [brs] at hx
              · have : x ∈ s := by
                  cases s with
                  | nil => simp [brs, rep] at hx
                  | cons y s => simp [brs, rep] at hx; simp [hx.2]
                exact check_kids hg x this
              · have hj' : j < s.length := by simpa [brs] using hj
                have : x = s[j] := by simpa [brs] using hx
                rw [this]
                exact check_kids hg _ (List.getElem_mem hj')
            obtain ⟨i, t, h4, h5⟩ := ih ((brs g)[j] ++ rest) (by rw [wtL_append]; have := wt_brs he hc hj; omega) (fun x hx => by
                rcases List.mem_append.1 hx with e | e
                · exact hk x e
                · exact hr x e) p0 p2 (r3 ++ r2) (by rw [playL_append, h3]; simp only [hq1]) hp
            obtain ⟨e1, hi, e2⟩ := stPlay_le hs
            refine ⟨_, _, .choose hc hj h4, ?_⟩
            rw [List.drop_eq_getElem_cons hi, e2, ← e1, h5]
            rfl
          · obtain ⟨k, a, b, s⟩ := g
            have hk13 : k = 1 ∨ k = 3 := by
              simp only [Chs, kind] at hc
              rcases one_cases (ok_one he) with ⟨e, _⟩ | ⟨e, h0, h0', h1, h2, h3⟩ | e | ⟨e, h1, h2, h3⟩ | ⟨e, h1⟩ <;> omega
            rcases hk13 with rfl | rfl
            · simp only [play, if_true, Except.ok.injEq, Prod.mk.injEq] at hq
              rw [← hq.2] at hq1
              obtain ⟨i, t, h4, h5⟩ := ih rest (by omega) hr p p2 r2 hq1 hp
              exact ⟨i, t, .just h4, h5⟩
            · simp only [play, show ¬ ((3:Int) = 1) by decide, show ¬ ((3:Int) = 2) by decide, if_false, if_true] at hq
              cases hq3 : playL (stPlay tape) s p with
              | error e => rw [hq3] at hq; cases hq
              | ok r3 =>
                obtain ⟨r3, p3⟩ := r3
                rw [hq3] at hq
                simp only [Except.ok.injEq, Prod.mk.injEq] at hq
                rw [hq.2] at hq3
                obtain ⟨i, t, h4, h5⟩ := ih (s ++ rest) (by rw [wtL_append]; simp [wt] at hn; omega) (fun x hx => by
                    rcases List.mem_append.1 hx with e | e
                    · exact check_kids hg x e
                    · exact hr x e) p p2 (r3 ++ r2) (by rw [playL_append, hq3]; simp only [hq1]) hp
                exact ⟨i, t, .both h4, h5⟩
/-- What has a number can be played. -/
theorem nth_played {l : List GT} {i : Int} {t : List Int} (h : NthR l i t) : (∀ x ∈ l, check x = 0) → ∀ (tape : List Int) (p : Nat) (r : List Int), tape.drop p = t ++ r → p ≤ tape.length → ∃ vs, playL (stPlay tape) l p = .ok (vs, p + t.length) := by
  induction h with
  | nil => intro _ tape p r _ _; exact ⟨[], rfl⟩
  | just h ih =>
    intro hl tape p r hd hp
    obtain ⟨vs, hv⟩ := ih (fun x hx => hl x (by simp [hx])) tape p r hd hp
    exact ⟨_, by simp only [playL, play, if_true, hv]; rfl⟩
  | @both a b s rest i t h ih =>
    intro hl tape p r hd hp
    have hg := hl (.mk 3 a b s) (by simp)
    obtain ⟨vs, hv⟩ := ih (fun x hx => by
        rcases List.mem_append.1 hx with e | e
        · exact check_kids hg x e
        · exact hl x (by simp [e])) tape p r hd hp
    rw [playL_append] at hv
    simp only [playL, play, show ¬ ((3:Int) = 1) by decide, show ¬ ((3:Int) = 2) by decide, if_false, if_true]
    cases h3 : playL (stPlay tape) s p with
    | error e => rw [h3] at hv; cases hv
    | ok r3 =>
      obtain ⟨r3, p3⟩ := r3
      rw [h3] at hv
      simp only at hv ⊢
      cases h4 : playL (stPlay tape) rest p3 with
      | error e => rw [h4] at hv; cases hv
      | ok r4 =>
        obtain ⟨r4, p4⟩ := r4
        rw [h4] at hv
        simp only [Except.ok.injEq, Prod.mk.injEq] at hv ⊢
        exact ⟨_, rfl, hv.2⟩
  | @choose g rest j i t hc hj h ih =>
    intro hl tape p r hd hp
    have hg := hl g (by simp)
    have he := check_ok hg
    have hlt : p < tape.length := by
      rcases Nat.lt_or_ge p tape.length with e | e
      · exact e
      · rw [List.drop_eq_nil_of_le e] at hd; cases hd
    rw [List.drop_eq_getElem_cons hlt] at hd
    simp only [List.cons_append, List.cons.injEq] at hd
    have hlen := brs_length he hc
    have hs : stPlay tape (most g) p = .ok ((j : Int), p + 1) := by
      unfold stPlay
      rw [dif_pos hlt, if_neg (by rw [hd.1]; omega), hd.1]
    have hk : ∀ x ∈ (brs g)[j], check x = 0 := by
      intro x hx
      obtain ⟨k, a, b, s⟩ := g
      rcases hc with hk | hk | hk <;> (simp only [kind] at hk; subst hk)
      · simp [brs] at hx
      · have : x ∈ s := by
          cases s with
          | nil => simp [brs, rep] at hx
          | cons y s => simp [brs, rep] at hx; simp [hx.2]
        exact check_kids hg x this
      · have hj' : j < s.length := by simpa [brs] using hj
        have : x = s[j] := by simpa [brs] using hx
        rw [this]
        exact check_kids hg _ (List.getElem_mem hj')
    obtain ⟨vs, hv⟩ := ih (fun x hx => by
        rcases List.mem_append.1 hx with e | e
        · exact hk x e
        · exact hl x (by simp [e])) tape (p + 1) r hd.2 hlt
    rw [playL_append] at hv
    cases h3 : playL (stPlay tape) (brs g)[j] (p + 1) with
    | error e => rw [h3] at hv; cases hv
    | ok r3 =>
      obtain ⟨r3, p3⟩ := r3
      rw [h3] at hv
      simp only at hv
      obtain ⟨v, h5⟩ := (play_choose (stPlay tape) he hc (fun m q c q' _ h => stPlay_bd h) p p3).2 ⟨j, p + 1, hj, hs, r3, h3⟩
      cases h4 : playL (stPlay tape) rest p3 with
      | error e => rw [h4] at hv; cases hv
      | ok r4 =>
        obtain ⟨r4, p4⟩ := r4
        rw [h4] at hv
        simp only [Except.ok.injEq, Prod.mk.injEq] at hv
        refine ⟨v :: r4, ?_⟩
        simp only [playL, h5, h4, List.length_cons]
        rw [hv.2]
        congr 2
        omega
end GT
/-- A tape that can be played has a number. -/
theorem nth_of_play {g : GT} {l : List Int} (hc : GT.check g = 0) (h : (playR g l).2 = 0) : ∃ i, GT.NthR [g] i l := by
  simp only [playR, hc, if_true] at h
  cases hp : GT.play (stPlay l) g 0 with
  | error e =>
    rw [hp] at h
    simp only at h
    have := GT.play_err (stPlay l) (fun e => e = 1 ∨ e = 5) (fun m q e h => stPlay_err h) (fun m q c q' _ h => stPlay_bd h) g (GT.check_ok hc) 0 e hp
    omega
  | ok r =>
    obtain ⟨v, i⟩ := r
    rw [hp] at h
    simp only at h
    by_cases hi : i < l.length
    · rw [if_pos hi] at h; simp at h
    · have hle : i ≤ l.length := by
        refine GT.play_inv (stPlay l) (fun q => q ≤ l.length) (fun m q c q' _ h => stPlay_bd h) (fun m q c q' _ _ h _ => ?_) g (GT.check_ok hc) 0 (GT.check_parts hc) 0 v i hp (Nat.zero_le _)
        obtain ⟨e1, hi, _⟩ := stPlay_le h
        omega
      have hL : GT.playL (stPlay l) [g] 0 = .ok ([v], i) := by simp only [GT.playL, hp]
      obtain ⟨n, t, h1, h2⟩ := GT.played_nth l _ [g] (Nat.le_refl _) (fun x hx => by have : x = g := by simpa using hx
                                                                                     rw [this]; exact hc) 0 i [v] hL hle
      rw [List.drop_zero, List.drop_eq_nil_of_le (by omega), List.append_nil] at h2
      exact ⟨n, h2 ▸ h1⟩
/-- What has a number can be played. -/
theorem play_of_nth {g : GT} {l : List Int} {i : Int} (hc : GT.check g = 0) (h : GT.NthR [g] i l) : (playR g l).2 = 0 := by
  obtain ⟨vs, hv⟩ := GT.nth_played h (fun x hx => by have : x = g := by simpa using hx
                                                     rw [this]; exact hc) l 0 [] (by simp) (Nat.zero_le _)
  simp only [GT.playL] at hv
  cases hp : GT.play (stPlay l) g 0 with
  | error e => rw [hp] at hv; cases hv
  | ok r =>
    obtain ⟨v, j⟩ := r
    rw [hp] at hv
    simp only [Except.ok.injEq, Prod.mk.injEq] at hv
    simp only [playR, hc, if_true, hp]
    rw [if_neg (by omega)]
end Go.Proofs.YtbfnlaplhgknaaaDoor
namespace Go.Proofs.YtbfnlaplhgknaaaDoor
set_option maxRecDepth 100000
open Go.RowKit
set_option linter.unusedSimpArgs false
set_option linter.unusedVariables false
theorem ownsRow_mono {w : World} {lo lo' : Nat} {e : TypeId} {size : Nat} {v : Value} {n : Nat} {xs : List Value} (h : w.ownsRow lo e size v n xs) (hl : lo' ≤ lo) : w.ownsRow lo' e size v n xs := by
  refine ⟨h.1, ?_⟩
  rcases h.2 with h2 | ⟨g, cap, cur, hv, hg, r⟩
  · exact .inl h2
  · exact .inr ⟨g, cap, cur, hv, by omega, r⟩
theorem OwnGs.mono {w0 w : World} {lo lo' : Nat} {v : Value} {s : List GT} (h : OwnGs w0 w lo v s) (hl : lo' ≤ lo) : OwnGs w0 w lo' v s := by
  obtain ⟨cs, ho, hc⟩ := h
  exact ⟨cs, ownsRow_mono ho hl, hc⟩
theorem GT.Ok.countR {x : GT} (h : GT.Ok x) : GT.countR x = (GT.count x, 0) := by
  unfold GT.countR
  rw [if_pos h.1, if_neg (by have := h.2; omega)]
set_option maxHeartbeats 1000000 in
theorem rcount_any (x : GT) (v : Value) (w0 w : World) (hb : Below w0.heap.size w0 w) (hg : GenAt w0 v x) (hk : GT.Ok x) : Calls Tryd.prog 61 #[v] w fun e w' => e = .returned (.int .i64 (GT.count x)) ∧ Below w.heap.size w w' := by
  have hg1 := hg.ext hb
  obtain ⟨k, a, b, t, ad, cap, rfl⟩ := hg.shape
  have C1 := Lib.hid (fun W (h : Below w.heap.size w W) => gen_count_any x (.agg #[.int .i64 k, .int .i64 a, .int .i64 b, .slice ad t cap]) W (hg1.ext h))
  rw [hk.countR, errV_zero] at C1
  clear hg hg1 hb hk
  go_enter Tryd.func61, Tryd.ntmps61
  go_wp2_with fail
  refine (C1.out _ (by repeat (first | with_reducible assumption | with_reducible exact Below.refl _ _ | with_reducible apply Below.drew | (with_reducible refine Below.alloc ?_ (by first | omega | (simp only [World.size_alloc, size_setCell, size_drew, size_drewN]; omega) | (dsimp only; omega) | (simp only [World.size_alloc, size_setCell, size_drew, size_drewN]; dsimp only; omega)) _) | (with_reducible refine Below.setCell ?_ (by first | omega | (simp only [World.size_alloc, size_setCell, size_drew, size_drewN]; omega) | (dsimp only; omega) | (simp only [World.size_alloc, size_setCell, size_drew, size_drewN]; dsimp only; omega)) _) | (with_reducible apply below_drewN)))).mono ?_
  rintro e w1 ⟨rfl, hb1⟩
  have hB1 : Below w.heap.size w w1 := Below.trans (by repeat (first | with_reducible assumption | with_reducible exact Below.refl _ _ | with_reducible apply Below.drew | (with_reducible refine Below.alloc ?_ (by first | omega | (simp only [World.size_alloc, size_setCell, size_drew, size_drewN]; omega) | (dsimp only; omega) | (simp only [World.size_alloc, size_setCell, size_drew, size_drewN]; dsimp only; omega)) _) | (with_reducible refine Below.setCell ?_ (by first | omega | (simp only [World.size_alloc, size_setCell, size_drew, size_drewN]; omega) | (dsimp only; omega) | (simp only [World.size_alloc, size_setCell, size_drew, size_drewN]; dsimp only; omega)) _) | (with_reducible apply below_drewN))) (hb1.mono (by first | omega | (simp only [World.size_alloc, size_setCell, size_drew, size_drewN]; omega) | (dsimp only; omega) | (simp only [World.size_alloc, size_setCell, size_drew, size_drewN]; dsimp only; omega)))
  obtain ⟨hc1, hf1, hz1⟩ := bcell hb1
  try simp only [World.size_alloc, size_setCell, size_drew, size_drewN] at hz1
  clear hb1
  have y1_0 : w.heap.size < w1.heap.size := by omega
  go_wp2_with fail
  go_ret
  exact ⟨rfl, by repeat (first | with_reducible assumption | with_reducible exact Below.refl _ _ | with_reducible apply Below.drew | (with_reducible refine Below.alloc ?_ (by first | omega | (simp only [World.size_alloc, size_setCell, size_drew, size_drewN]; omega) | (dsimp only; omega) | (simp only [World.size_alloc, size_setCell, size_drew, size_drewN]; dsimp only; omega)) _) | (with_reducible refine Below.setCell ?_ (by first | omega | (simp only [World.size_alloc, size_setCell, size_drew, size_drewN]; omega) | (dsimp only; omega) | (simp only [World.size_alloc, size_setCell, size_drew, size_drewN]; dsimp only; omega)) _) | (with_reducible apply below_drewN))⟩
set_option maxHeartbeats 2000000 in
theorem times_any (x : GT) (v : Value) (n : Nat) (hn : n ≤ 1000) (w0 w : World) (hb : Below w0.heap.size w0 w) (hg : GenAt w0 v x) :
    Calls Tryd.prog 62 #[v, .int .i64 n] w fun e w' => (∃ u, e = .returned u ∧ OwnGs w0 w' w.heap.size u (List.replicate n x)) ∧ Below w.heap.size w w' := by
  obtain ⟨k, a, b, t, ad, cap, rfl⟩ := hg.shape
  have hz0 := hb.size
  go_enter Tryd.func62, Tryd.ntmps62
  go_wp2_with fail
  have x1 : Blk (w.alloc (.cells #[.int .i64 k, .int .i64 a, .int .i64 b, .slice ad t cap] 24)) w.heap.size #[.int .i64 k, .int .i64 a, .int .i64 b, .slice ad t cap] 24 := Blk.new _ _ _
  have hB : Below w.heap.size w (w.alloc (.cells #[.int .i64 k, .int .i64 a, .int .i64 b, .slice ad t cap] 24)) := by repeat (first | with_reducible assumption | with_reducible exact Below.refl _ _ | with_reducible apply Below.drew | (with_reducible refine Below.alloc ?_ (by first | omega | (simp only [World.size_alloc, size_setCell, size_drew, size_drewN]; omega) | (dsimp only; omega) | (simp only [World.size_alloc, size_setCell, size_drew, size_drewN]; dsimp only; omega)) _) | (with_reducible refine Below.setCell ?_ (by first | omega | (simp only [World.size_alloc, size_setCell, size_drew, size_drewN]; omega) | (dsimp only; omega) | (simp only [World.size_alloc, size_setCell, size_drew, size_drewN]; dsimp only; omega)) _) | (with_reducible apply below_drewN))
  have hz : (w.alloc (.cells #[.int .i64 k, .int .i64 a, .int .i64 b, .slice ad t cap] 24)).heap.size = w.heap.size + 1 := by simp
  generalize w.alloc (.cells #[.int .i64 k, .int .i64 a, .int .i64 b, .slice ad t cap] 24) = W at *
  go_loopw [5, 7] (fun o i wr => ∃ j : Nat, j ≤ n ∧ i = .int .i64 j ∧ OwnGs w0 wr (w.heap.size + 1) o (List.replicate j x) ∧ Below w.heap.size w wr ∧ Blk wr w.heap.size #[.int .i64 k, .int .i64 a, .int .i64 b, .slice ad t cap] 24) (fun _ i _ => n - (intOf i).toNat)
  case atStart => exact ⟨0, by omega, rfl, OwnGs.nil _ _ _, hB, x1⟩
  case round =>
    obtain ⟨j, hj, rfl, hown, hbr, y1⟩ := hrel
    have hzr := hbr.size
    by_cases hlt : j < n
    · have hl : (j : Int) < (n : Int) := by omega
      have c0 := y1.cell 0
      have c1 := y1.cell 1
      have c2 := y1.cell 2
      have c3 := y1.cell 3
      have hlr := y1.lt
      simp only [List.getElem?_toArray, List.getElem?_cons_succ, List.getElem?_cons_zero] at c0 c1 c2 c3
      go_wp2_with (at_builtin; refine append_gens (o := ⟨some 12, _, _, _, _, _⟩) rfl _ _ rfl rfl (hown.ext (by repeat (first | with_reducible assumption | with_reducible exact Below.refl _ _ | with_reducible apply Below.drew | (with_reducible refine Below.alloc ?_ (by first | omega | (simp only [World.size_alloc, size_setCell, size_drew, size_drewN]; omega) | (dsimp only; omega) | (simp only [World.size_alloc, size_setCell, size_drew, size_drewN]; dsimp only; omega)) _) | (with_reducible refine Below.setCell ?_ (by first | omega | (simp only [World.size_alloc, size_setCell, size_drew, size_drewN]; omega) | (dsimp only; omega) | (simp only [World.size_alloc, size_setCell, size_drew, size_drewN]; dsimp only; omega)) _) | (with_reducible apply below_drewN)))) rfl (.inr ⟨⟨wr.heap.size, 0, none⟩, 1, rfl, World.news_of_block (Blk.new _ _ _)⟩) (CellsOf.one hg) (by simp; omega) (by simp; omega) ?_; intro v6 w6 h1 h2 h3 h4; have hlo := (fun b e => (hown.form2 b e)); have b6 := (h2.block w.heap.size (by simp; omega) (fun e => by have := hlo _ e.symm; omega)).trans (y1.alloc _); have hB6 : Below w.heap.size w w6 := (hbr.trans ((Below.refl _ _).alloc (by omega) _)).grown h2 (by simp; omega) (fun k hk => by have := hlo _ hk; omega); clear h2 h3 h4 hlo hown)
      have h1' : OwnGs w0 w6 (w.heap.size + 1) v6 (List.replicate (j + 1) x) := by rw [List.replicate_succ']; exact h1
      have b6' : Blk w6 w.heap.size #[.int .i64 k, .int .i64 a, .int .i64 b, .slice ad t cap] 24 := b6
      have hB6' := hB6
      have H := Lib.hid (And.intro h1' (And.intro hB6' b6'))
      clear h1 h1' b6 b6' hB6 hB6'
      go_wp2_with fail
      exact ⟨⟨j + 1, by omega, by go_num, H.out.1, H.out.2.1, H.out.2.2⟩, by simp [intOf]; omega⟩
    · have hl : ¬ (j : Int) < (n : Int) := by omega
      obtain rfl : j = n := by omega
      have H := Lib.hid (hown.mono (by omega : w.heap.size ≤ w.heap.size + 1))
      clear hown
      go_wp2_with fail
      go_ret
      exact ⟨⟨_, rfl, H.out⟩, hbr⟩
theorem GT.prodL_take_succ (l : List GT) (j : Nat) (h : j < l.length) : GT.prodL (l.take (j + 1)) = GT.prodL (l.take j) * GT.count l[j] := by
  rw [List.take_add_one, List.getElem?_eq_getElem h, GT.prodL_append]; simp [GT.prodL]
theorem GT.prodL_take_le (l : List GT) (h : GT.OkL l) (j : Nat) : 1 ≤ GT.prodL (l.take j) ∧ GT.prodL (l.take j) ≤ GT.prodL l := by
  have h1 : 1 ≤ GT.prodL (l.take j) := GT.prodL_pos _ (fun x hx => (h x (List.mem_of_mem_take hx)).pos)
  have h2 : 1 ≤ GT.prodL (l.drop j) := GT.prodL_pos _ (fun x hx => (h x (List.mem_of_mem_drop hx)).pos)
  have e : GT.prodL l = GT.prodL (l.take j) * GT.prodL (l.drop j) := by rw [← GT.prodL_append, List.take_append_drop]
  refine ⟨h1, ?_⟩
  rw [e]
  have := Int.mul_le_mul_of_nonneg_left h2 (show 0 ≤ GT.prodL (l.take j) by omega)
  omega
set_option maxHeartbeats 2000000 in
theorem product_any (l : List GT) (hl : GT.OkL l) (hp : GT.prodL l ≤ 1048576) (S : Nat → Prop) (v : Value) (w0 w : World) (hb : Below w0.heap.size w0 w) (hv : GsV w0 w S v l) :
    Calls Tryd.prog 51 #[v] w fun e w' => e = .returned (.int .i64 (GT.prodL l)) ∧ Below w.heap.size w w' := by
  obtain ⟨ad, cap, rfl, h1, h2, h3, hg⟩ := hv
  have hz0 := hb.size
  have HL := Lib.hid hl
  have HP := Lib.hid hp
  unfold maxLen at h2
  clear hl hp h3
  go_enter Tryd.func51, Tryd.ntmps51
  go_wp2_with fail
  go_loopw [3, 8] (fun n i wr => ∃ j : Nat, j ≤ l.length ∧ i = .int .i64 j ∧ n = .int .i64 (GT.prodL (l.take j)) ∧ Below w.heap.size w wr) (fun _ i _ => l.length - (intOf i).toNat)
  case atStart => exact ⟨0, by omega, rfl, rfl, Below.refl _ _⟩
  case round =>
    obtain ⟨j, hj, rfl, rfl, hbr⟩ := hrel
    have hzr := hbr.size
    by_cases hlt : j < l.length
    · have q1 : (j : Int) < (l.length : Int) := by omega
      have q0 : (0 : Int) ≤ (j : Int) := by omega
      obtain ⟨bl, off, rfl, hlt1, hs, hc⟩ := hg.at' (by omega)
      obtain ⟨k2, a2, b2, t2, ad2, cap2, c0, c1, c2, c3, hg2⟩ := hc j hlt
      clear hc hg
      obtain ⟨g1, g2, g3⟩ := bcell hbr
      have hok := HL.out l[j] (List.getElem_mem hlt)
      have C1 := Lib.hid (fun W (h : Below w.heap.size w W) => rcount_any l[j] (.agg #[.int .i64 k2, .int .i64 a2, .int .i64 b2, .slice ad2 t2 cap2]) w0 W (hb.trans (h.mono hz0)) hg2 hok)
      have HS := Lib.hid (GT.prodL_take_succ l j hlt)
      have hb1 := GT.prodL_take_le l HL.out j
      have hb2 := GT.prodL_take_le l HL.out (j + 1)
      have hw : IntKind.i64.wrap (GT.prodL (l.take j) * GT.count l[j]) = GT.prodL (l.take j) * GT.count l[j] := by
        rw [← HS.out]
        exact IntWalk.i64_in _ (by have := HP.out; omega)
      have HW := Lib.hid hw
      clear hw hb1 hb2
      generalize GT.count l[j] = cn at *
      go_wp2_with fail
      refine (C1.out _ (by repeat (first | with_reducible assumption | with_reducible exact Below.refl _ _ | with_reducible apply Below.drew | (with_reducible refine Below.alloc ?_ (by first | omega | (simp only [World.size_alloc, size_setCell, size_drew, size_drewN]; omega) | (dsimp only; omega) | (simp only [World.size_alloc, size_setCell, size_drew, size_drewN]; dsimp only; omega)) _) | (with_reducible refine Below.setCell ?_ (by first | omega | (simp only [World.size_alloc, size_setCell, size_drew, size_drewN]; omega) | (dsimp only; omega) | (simp only [World.size_alloc, size_setCell, size_drew, size_drewN]; dsimp only; omega)) _) | (with_reducible apply below_drewN)))).mono ?_
      rintro e w3 ⟨rfl, hb3⟩
      have hB3 : Below w.heap.size w w3 := Below.trans (by repeat (first | with_reducible assumption | with_reducible exact Below.refl _ _ | with_reducible apply Below.drew | (with_reducible refine Below.alloc ?_ (by first | omega | (simp only [World.size_alloc, size_setCell, size_drew, size_drewN]; omega) | (dsimp only; omega) | (simp only [World.size_alloc, size_setCell, size_drew, size_drewN]; dsimp only; omega)) _) | (with_reducible refine Below.setCell ?_ (by first | omega | (simp only [World.size_alloc, size_setCell, size_drew, size_drewN]; omega) | (dsimp only; omega) | (simp only [World.size_alloc, size_setCell, size_drew, size_drewN]; dsimp only; omega)) _) | (with_reducible apply below_drewN))) (hb3.mono (by first | omega | (simp only [World.size_alloc, size_setCell, size_drew, size_drewN]; omega) | (dsimp only; omega) | (simp only [World.size_alloc, size_setCell, size_drew, size_drewN]; dsimp only; omega)))
      clear hb3 c0 c1 c2 c3
      have hw := HW.out
      go_wp2_with fail
      exact ⟨⟨j + 1, by omega, by go_num, congrArg _ HS.out.symm, hB3⟩, by simp [intOf]; omega⟩
    · have hl : ¬ (j : Int) < (l.length : Int) := by omega
      obtain rfl : j = l.length := by omega
      rw [List.take_length]
      go_wp2_with fail
      go_ret
      exact ⟨rfl, hbr⟩
end Go.Proofs.YtbfnlaplhgknaaaDoor
namespace Go.Proofs.YtbfnlaplhgknaaaDoor
set_option maxRecDepth 100000
open Go.RowKit
set_option linter.unusedSimpArgs false
set_option linter.unusedVariables false
theorem OwnGs.shape {w0 w : World} {lo : Nat} {v : Value} {s : List GT} (h : OwnGs w0 w lo v s) : ∃ a n c, v = .slice a n c := by
  obtain ⟨ad, cap, e, _⟩ := h.form
  exact ⟨_, _, _, e⟩
theorem gsv_new {w0 w : World} {S : Nat → Prop} {b : Nat} {k a c : Int} {t cap : Nat} {ad : Option Addr} {x : GT} (hb : Blk w b #[.int .i64 k, .int .i64 a, .int .i64 c, .slice ad t cap] 24) (hS : S b) (hg : GenAt w0 (.agg #[.int .i64 k, .int .i64 a, .int .i64 c, .slice ad t cap]) x) :
    GsV w0 w S (.slice (some ⟨b, 0, none⟩) 1 1) [x] := by
  refine ⟨some ⟨b, 0, none⟩, 1, rfl, by simp, by decide, (fun e => by cases e), ⟨fun _ => ⟨b, 0, rfl, hb.lt, hS, fun i hi => ?_⟩⟩⟩
  obtain rfl : i = 0 := by simpa using hi
  exact ⟨k, a, c, t, ad, cap, hb.cell 0, hb.cell 1, hb.cell 2, hb.cell 3, hg⟩
/-- What branches gives: nil where there is no choice; else a row for each choice. -/
def BrsAt (w0 w : World) (lo : Nat) (v : Value) (g : GT) : Prop := RwAt (GsV w0) w (fun b => lo ≤ b) v (GT.brs g)
theorem GT.brs_4 (a b : Int) (x : GT) (j : Nat) : (List.range (j + 1)).map (GT.rep [x]) = (List.range j).map (GT.rep [x]) ++ [List.replicate j x] := by
  rw [List.range_succ, List.map_append]; rfl
theorem take_map_snoc (s : List GT) (j : Nat) (h : j < s.length) : (s.take (j + 1)).map (fun x => [x]) = (s.take j).map (fun x => [x]) ++ [[s[j]]] := by
  rw [List.take_add_one, List.getElem?_eq_getElem h, List.map_append]; rfl
set_option maxHeartbeats 4000000 in
theorem branches_2 (a b : Int) (s : List GT) (ad : Option Addr) (n cap : Nat) (h1 : a ≤ b) (h2 : b - a ≤ 1000) (h3 : -1073741824 ≤ a) (h4 : b ≤ 1073741824) (w0 w : World) (hb : Below w0.heap.size w0 w) :
    Calls Tryd.prog 52 #[.agg #[.int .i64 2, .int .i64 a, .int .i64 b, .slice ad n cap]] w fun e w' => (∃ u, e = .returned u ∧ u ≠ .slice none 0 0 ∧ BrsAt w0 w' w.heap.size u (.mk 2 a b s)) ∧ Below w.heap.size w w' := by
  obtain ⟨m, hm⟩ : ∃ m : Nat, b - a + 1 = m := ⟨(b - a + 1).toNat, by omega⟩
  have hmm : m ≤ 1001 := by omega
  have hm0 : (0 : Int) ≤ b - a + 1 := by omega
  have HM := Lib.hid hm
  have hmk : ∀ w : World, (Instr.makeSlice 86 (.int .i64 (b - a + 1)) (.int .i64 (b - a + 1))).run Tryd.prog w = .ok (.slice (some ⟨w.heap.size, 0, none⟩) m m) (w.alloc (.cells (madeCells #[.slice none 0 0] m) 22)) := by
    intro w
    rw [HM.out]
    exact run_make_row' 86 22 (.slice none 0 0) 24 Tryd.underlying86 info_gens rfl .i64 .i64 m (by omega) (by omega) w
  clear hm
  go_enter Tryd.func52, Tryd.ntmps52
  go_wp2_with fail
  clear hmk
  have hr := World.rowIs_made (w.alloc (.cells #[.int .i64 2, .int .i64 a, .int .i64 b, .slice ad n cap] 24)) (.slice none 0 0) m 22
  simp only [World.size_alloc] at hr
  have hB : Below w.heap.size w ((w.alloc (.cells #[.int .i64 2, .int .i64 a, .int .i64 b, .slice ad n cap] 24)).alloc (.cells (madeCells #[.slice none 0 0] m) 22)) := by repeat (first | with_reducible assumption | with_reducible exact Below.refl _ _ | with_reducible apply Below.drew | (with_reducible refine Below.alloc ?_ (by first | omega | (simp only [World.size_alloc, size_setCell, size_drew, size_drewN]; omega) | (dsimp only; omega) | (simp only [World.size_alloc, size_setCell, size_drew, size_drewN]; dsimp only; omega)) _) | (with_reducible refine Below.setCell ?_ (by first | omega | (simp only [World.size_alloc, size_setCell, size_drew, size_drewN]; omega) | (dsimp only; omega) | (simp only [World.size_alloc, size_setCell, size_drew, size_drewN]; dsimp only; omega)) _) | (with_reducible apply below_drewN))
  have hz : ((w.alloc (.cells #[.int .i64 2, .int .i64 a, .int .i64 b, .slice ad n cap] 24)).alloc (.cells (madeCells #[.slice none 0 0] m) 22)).heap.size = w.heap.size + 2 := by simp
  have HR := Lib.hid hr
  clear hr
  go_ret
  refine ⟨⟨_, rfl, by simp, some ⟨w.heap.size + 1, 0, none⟩, m, ?_, ?_, by unfold maxLen; omega, (fun e => by cases e), fun _ => ⟨w.heap.size + 1, 0, rfl, by omega, by omega, fun i hi => ⟨.slice none 0 0, ?_, ?_⟩⟩⟩, hB⟩
  · have e : (GT.brs (.mk 2 a b s)).length = m := by simp [GT.brs]; have := HM.out; omega
    rw [e]; rfl
  · have e : (GT.brs (.mk 2 a b s)).length = m := by simp [GT.brs]; have := HM.out; omega
    omega
  · have e : (GT.brs (.mk 2 a b s)).length = m := by simp [GT.brs]; have := HM.out; omega
    rw [Nat.zero_add]
    exact HR.out.cell (by omega)
  · have e : (GT.brs (.mk 2 a b s))[i] = [] := by simp [GT.brs]
    rw [e]
    exact GsV.nil _ _ _
theorem branches_1 (a b : Int) (s : List GT) (ad : Option Addr) (n cap : Nat) (w0 w : World) :
    Calls Tryd.prog 52 #[.agg #[.int .i64 1, .int .i64 a, .int .i64 b, .slice ad n cap]] w fun e w' => e = .returned (.slice none 0 0) ∧ Below w.heap.size w w' := by
  go_enter Tryd.func52, Tryd.ntmps52
  go_wp2_with fail
  go_ret
  exact ⟨rfl, by repeat (first | with_reducible assumption | with_reducible exact Below.refl _ _ | with_reducible apply Below.drew | (with_reducible refine Below.alloc ?_ (by first | omega | (simp only [World.size_alloc, size_setCell, size_drew, size_drewN]; omega) | (dsimp only; omega) | (simp only [World.size_alloc, size_setCell, size_drew, size_drewN]; dsimp only; omega)) _) | (with_reducible refine Below.setCell ?_ (by first | omega | (simp only [World.size_alloc, size_setCell, size_drew, size_drewN]; omega) | (dsimp only; omega) | (simp only [World.size_alloc, size_setCell, size_drew, size_drewN]; dsimp only; omega)) _) | (with_reducible apply below_drewN))⟩
set_option maxHeartbeats 4000000 in
theorem branches_4 (A : Nat) (b : Int) (x : GT) (ad : Option Addr) (cap : Nat) (hA : A ≤ 5) (w0 w : World) (hg : GensAt w0 ad [x]) (hb : Below w0.heap.size w0 w) :
    Calls Tryd.prog 52 #[.agg #[.int .i64 4, .int .i64 A, .int .i64 b, .slice ad 1 cap]] w fun e w' => (∃ u, e = .returned u ∧ u ≠ .slice none 0 0 ∧ BrsAt w0 w' w.heap.size u (.mk 4 A b [x])) ∧ Below w.heap.size w w' := by
  obtain ⟨bl, off, rfl, hlt1, hc⟩ := hg.at' (by simp)
  obtain ⟨k2, a2, b2, t2, ad2, cap2, c0, c1, c2, c3, hg2⟩ := hc 0 (by simp)
  simp only [Nat.zero_mul, Nat.add_zero, List.getElem_cons_zero] at c0 c1 c2 c3 hg2
  clear hc hg
  have hz0 := hb.size
  have CT := Lib.hid (fun W (j : Nat) (hj : j ≤ 1000) (h : Below w.heap.size w W) => times_any x (.agg #[.int .i64 k2, .int .i64 a2, .int .i64 b2, .slice ad2 t2 cap2]) j hj w0 W (hb.trans (h.mono hz0)) hg2)
  have d0 := (hb.cell (p := ⟨bl, off, none⟩) hlt1).trans c0
  have d1 := (hb.cell (p := ⟨bl, off + 1, none⟩) hlt1).trans c1
  have d2 := (hb.cell (p := ⟨bl, off + 2, none⟩) hlt1).trans c2
  have d3 := (hb.cell (p := ⟨bl, off + 3, none⟩) hlt1).trans c3
  clear c0 c1 c2 c3 hg2
  have hltw : bl < w.heap.size := by omega
  go_enter Tryd.func52, Tryd.ntmps52
  go_wp2_with fail
  have x1 : Blk (w.alloc (.cells #[.int .i64 4, .int .i64 A, .int .i64 b, .slice (some ⟨bl, off, none⟩) 1 cap] 24)) w.heap.size #[.int .i64 4, .int .i64 A, .int .i64 b, .slice (some ⟨bl, off, none⟩) 1 cap] 24 := Blk.new _ _ _
  have hB : Below w.heap.size w (w.alloc (.cells #[.int .i64 4, .int .i64 A, .int .i64 b, .slice (some ⟨bl, off, none⟩) 1 cap] 24)) := by repeat (first | with_reducible assumption | with_reducible exact Below.refl _ _ | with_reducible apply Below.drew | (with_reducible refine Below.alloc ?_ (by first | omega | (simp only [World.size_alloc, size_setCell, size_drew, size_drewN]; omega) | (dsimp only; omega) | (simp only [World.size_alloc, size_setCell, size_drew, size_drewN]; dsimp only; omega)) _) | (with_reducible refine Below.setCell ?_ (by first | omega | (simp only [World.size_alloc, size_setCell, size_drew, size_drewN]; omega) | (dsimp only; omega) | (simp only [World.size_alloc, size_setCell, size_drew, size_drewN]; dsimp only; omega)) _) | (with_reducible apply below_drewN))
  have hz : (w.alloc (.cells #[.int .i64 4, .int .i64 A, .int .i64 b, .slice (some ⟨bl, off, none⟩) 1 cap] 24)).heap.size = w.heap.size + 1 := by simp
  generalize w.alloc (.cells #[.int .i64 4, .int .i64 A, .int .i64 b, .slice (some ⟨bl, off, none⟩) 1 cap] 24) = W at *
  go_loopw [3, 23] (fun o i wr => ∃ j : Nat, j ≤ A + 1 ∧ i = .int .i64 j ∧ OwnRw (GsV w0) 22 wr (w.heap.size + 1) o ((List.range j).map (GT.rep [x])) ∧ Below w.heap.size w wr ∧ Blk wr w.heap.size #[.int .i64 4, .int .i64 A, .int .i64 b, .slice (some ⟨bl, off, none⟩) 1 cap] 24) (fun _ i _ => A + 1 - (intOf i).toNat)
  case atStart => exact ⟨0, by omega, rfl, OwnRw.nil _ _ _ _, hB, x1⟩
  case round =>
    obtain ⟨j, hj, rfl, hown, hbr, y1⟩ := hrel
    have hzr := hbr.size
    by_cases hlt : j < A + 1
    · have hl : (j : Int) < (A : Int) + 1 := by omega
      have e3 := y1.cell 3
      have hlr := y1.lt
      simp only [List.getElem?_toArray, List.getElem?_cons_succ, List.getElem?_cons_zero] at e3
      have f0 := (hbr.cell (p := ⟨bl, off, none⟩) hltw).trans d0
      have f1 := (hbr.cell (p := ⟨bl, off + 1, none⟩) hltw).trans d1
      have f2 := (hbr.cell (p := ⟨bl, off + 2, none⟩) hltw).trans d2
      have f3 := (hbr.cell (p := ⟨bl, off + 3, none⟩) hltw).trans d3
      have hlo := Lib.hid hown.lt
      go_wp2_with fail
      refine (CT.out _ _ (by omega) (by repeat (first | with_reducible assumption | with_reducible exact Below.refl _ _ | with_reducible apply Below.drew | (with_reducible refine Below.alloc ?_ (by first | omega | (simp only [World.size_alloc, size_setCell, size_drew, size_drewN]; omega) | (dsimp only; omega) | (simp only [World.size_alloc, size_setCell, size_drew, size_drewN]; dsimp only; omega)) _) | (with_reducible refine Below.setCell ?_ (by first | omega | (simp only [World.size_alloc, size_setCell, size_drew, size_drewN]; omega) | (dsimp only; omega) | (simp only [World.size_alloc, size_setCell, size_drew, size_drewN]; dsimp only; omega)) _) | (with_reducible apply below_drewN)))).mono ?_
      rintro e w3 ⟨⟨u, rfl, hu⟩, hb3⟩
      have hB3 : Below w.heap.size w w3 := Below.trans (by repeat (first | with_reducible assumption | with_reducible exact Below.refl _ _ | with_reducible apply Below.drew | (with_reducible refine Below.alloc ?_ (by first | omega | (simp only [World.size_alloc, size_setCell, size_drew, size_drewN]; omega) | (dsimp only; omega) | (simp only [World.size_alloc, size_setCell, size_drew, size_drewN]; dsimp only; omega)) _) | (with_reducible refine Below.setCell ?_ (by first | omega | (simp only [World.size_alloc, size_setCell, size_drew, size_drewN]; omega) | (dsimp only; omega) | (simp only [World.size_alloc, size_setCell, size_drew, size_drewN]; dsimp only; omega)) _) | (with_reducible apply below_drewN))) (hb3.mono (by first | omega | (simp only [World.size_alloc, size_setCell, size_drew, size_drewN]; omega) | (dsimp only; omega) | (simp only [World.size_alloc, size_setCell, size_drew, size_drewN]; dsimp only; omega)))
      have hown3 := hown.keep (GsV.reads w0) hb3
      have y3 := y1.ext hb3
      have hz3 := hb3.size
      have hul := hu.form2
      have hv3 : GsV w0 w3 (fun b => w.heap.size + 1 ≤ b ∧ u3.ownBlock ≠ some b) u (List.replicate j x) := hu.v.mono (fun b hb _ => by
        have h1 := hul b hb
        exact ⟨by omega, fun e => by have := hlo.out b e; omega⟩)
      obtain ⟨uad, ulen, ucap, rfl⟩ := hu.shape
      go_wp2_with (at_builtin; refine append_rw (GsV.reads w0) (v := u3) (o := ⟨some 34, _, _, _, _, _⟩) rfl _ _ 86 22 rfl Tryd.underlying86 info_gens rfl (hown3.keep (GsV.reads w0) ((Below.refl _ _).alloc (Nat.le_refl _) _)) rfl (Blk.new _ _ _) ((GsV.reads w0).keep hv3 (by simp) (fun b hb hl => ⟨hb, Below.heap_alloc _ _ b hl⟩)) (by simp; omega) (by simp; omega) ?_; intro v6 w6 h1 h2 h3; clear h3)
      have b6 := (h2.block w.heap.size (by simp; omega) (fun e => by have := hlo.out _ e.symm; omega)).trans (y3.alloc _)
      have hB6 : Below w.heap.size w w6 := (hB3.trans ((Below.refl _ _).alloc (by omega) _)).grown h2 (by simp; omega) (fun k hk => by have := hlo.out _ hk; omega)
      rw [← GT.brs_4 A b x j] at h1
      exact ⟨⟨j + 1, by omega, by go_num, h1, hB6, b6⟩, by simp [intOf]; omega⟩
    · have hl : ¬ (j : Int) < (A : Int) + 1 := by omega
      obtain rfl : j = A + 1 := by omega
      have hat := hown.at (GsV.reads w0)
      have eB : (List.range (A + 1)).map (GT.rep [x]) = GT.brs (.mk 4 A b [x]) := by simp [GT.brs]
      rw [eB] at hat hown
      have hlen : 0 < (GT.brs (.mk 4 A b [x])).length := by simp [GT.brs]
      have H : Hid (u3 ≠ .slice none 0 0 ∧ BrsAt w0 wr w.heap.size u3 (.mk 4 A b [x])) := by
        refine ⟨fun e => ?_, hat.keep (GsV.reads w0) (Nat.le_refl _) (fun b hb _ => ⟨by omega, rfl⟩)⟩
        obtain ⟨ad, cap, e2, _, _, _, h⟩ := hat
        obtain ⟨bl, off, e3, _⟩ := h hlen
        rw [e2, e3] at e
        cases e
      clear hat hown eB
      go_wp2_with fail
      go_ret
      exact ⟨⟨_, rfl, H.out⟩, hbr⟩
set_option maxHeartbeats 4000000 in
theorem branches_5 (a b : Int) (s : List GT) (ad : Option Addr) (cap : Nat) (hcap : cap ≤ 9223372036854775807) (hs0 : 0 < s.length) (hs1 : s.length ≤ 1000) (w0 w : World) (hg : GensAt w0 ad s) (hb : Below w0.heap.size w0 w) :
    Calls Tryd.prog 52 #[.agg #[.int .i64 5, .int .i64 a, .int .i64 b, .slice ad s.length cap]] w fun e w' => (∃ u, e = .returned u ∧ u ≠ .slice none 0 0 ∧ BrsAt w0 w' w.heap.size u (.mk 5 a b s)) ∧ Below w.heap.size w w' := by
  obtain ⟨bl, off, rfl, hlt1, hc⟩ := hg.at' hs0
  have HC := Lib.hid hc
  clear hc hg
  have hz0 := hb.size
  have hltw : bl < w.heap.size := by omega
  go_enter Tryd.func52, Tryd.ntmps52
  go_wp2_with fail
  have x1 : Blk (w.alloc (.cells #[.int .i64 5, .int .i64 a, .int .i64 b, .slice (some ⟨bl, off, none⟩) s.length cap] 24)) w.heap.size #[.int .i64 5, .int .i64 a, .int .i64 b, .slice (some ⟨bl, off, none⟩) s.length cap] 24 := Blk.new _ _ _
  have hB : Below w.heap.size w (w.alloc (.cells #[.int .i64 5, .int .i64 a, .int .i64 b, .slice (some ⟨bl, off, none⟩) s.length cap] 24)) := by repeat (first | with_reducible assumption | with_reducible exact Below.refl _ _ | with_reducible apply Below.drew | (with_reducible refine Below.alloc ?_ (by first | omega | (simp only [World.size_alloc, size_setCell, size_drew, size_drewN]; omega) | (dsimp only; omega) | (simp only [World.size_alloc, size_setCell, size_drew, size_drewN]; dsimp only; omega)) _) | (with_reducible refine Below.setCell ?_ (by first | omega | (simp only [World.size_alloc, size_setCell, size_drew, size_drewN]; omega) | (dsimp only; omega) | (simp only [World.size_alloc, size_setCell, size_drew, size_drewN]; dsimp only; omega)) _) | (with_reducible apply below_drewN))
  have hz : (w.alloc (.cells #[.int .i64 5, .int .i64 a, .int .i64 b, .slice (some ⟨bl, off, none⟩) s.length cap] 24)).heap.size = w.heap.size + 1 := by simp
  generalize w.alloc (.cells #[.int .i64 5, .int .i64 a, .int .i64 b, .slice (some ⟨bl, off, none⟩) s.length cap] 24) = W at *
  go_loopw [3, 41] (fun o i wr => ∃ j : Nat, j ≤ s.length ∧ i = .int .i64 j ∧ OwnRw (GsV w0) 22 wr (w.heap.size + 1) o ((s.take j).map (fun x => [x])) ∧ Below w.heap.size w wr) (fun _ i _ => s.length - (intOf i).toNat)
  case atStart => exact ⟨0, by omega, rfl, OwnRw.nil _ _ _ _, hB⟩
  case round =>
    obtain ⟨j, hj, rfl, hown, hbr⟩ := hrel
    have hzr := hbr.size
    have hlo := Lib.hid hown.lt
    by_cases hlt : j < s.length
    · have hl : (j : Int) < (s.length : Int) := by omega
      have hp : (0 : Int) ≤ (j : Int) := by omega
      obtain ⟨k2, a2, b2, t2, ad2, cap2, c0, c1, c2, c3, hg2⟩ := HC.out j hlt
      have f0 := (hbr.cell (p := ⟨bl, _, none⟩) hltw).trans ((hb.cell (p := ⟨bl, _, none⟩) hlt1).trans c0)
      have f1 := (hbr.cell (p := ⟨bl, _, none⟩) hltw).trans ((hb.cell (p := ⟨bl, _, none⟩) hlt1).trans c1)
      have f2 := (hbr.cell (p := ⟨bl, _, none⟩) hltw).trans ((hb.cell (p := ⟨bl, _, none⟩) hlt1).trans c2)
      have f3 := (hbr.cell (p := ⟨bl, _, none⟩) hltw).trans ((hb.cell (p := ⟨bl, _, none⟩) hlt1).trans c3)
      clear c0 c1 c2 c3
      have HG := Lib.hid hg2
      clear hg2
      have hlen : ((s.take j).map (fun x => [x])).length = j := by simp; omega
      have HLN := Lib.hid hlen
      clear hlen
      have hbk := ((Blk.new (wr.alloc (.cells #[.int .i64 k2, .int .i64 a2, .int .i64 b2, .slice ad2 t2 cap2] 24)) #[.int .i64 k2, .int .i64 a2, .int .i64 b2, .slice ad2 t2 cap2] 24).alloc (.cells #[.slice (some ⟨wr.heap.size + 1, 0, none⟩) 1 1] 22))
      simp only [World.size_alloc] at hbk
      have HBK := Lib.hid hbk
      clear hbk
      go_wp2_with (at_builtin; refine append_rw (GsV.reads w0) (v := u3) (o := ⟨some 49, _, _, _, _, _⟩) (y := [s[j]]) rfl _ _ 86 22 rfl Tryd.underlying86 info_gens rfl (hown.keep (GsV.reads w0) (by repeat (first | with_reducible assumption | with_reducible exact Below.refl _ _ | with_reducible apply Below.drew | (with_reducible refine Below.alloc ?_ (by first | omega | (simp only [World.size_alloc, size_setCell, size_drew, size_drewN]; omega) | (dsimp only; omega) | (simp only [World.size_alloc, size_setCell, size_drew, size_drewN]; dsimp only; omega)) _) | (with_reducible refine Below.setCell ?_ (by first | omega | (simp only [World.size_alloc, size_setCell, size_drew, size_drewN]; omega) | (dsimp only; omega) | (simp only [World.size_alloc, size_setCell, size_drew, size_drewN]; dsimp only; omega)) _) | (with_reducible apply below_drewN)))) rfl (Blk.newAt (by simp)) (gsv_new HBK.out ⟨by omega, fun e => by have := hlo.out _ e; omega⟩ HG.out) (by rw [HLN.out]; omega) (by simp; omega) ?_; intro v6 w6 h1 h2 h3; clear h3)
      have hB6 : Below w.heap.size w w6 := (hbr.trans ((((Below.refl _ _).alloc (by omega) _).alloc (by simp; omega) _).alloc (by simp; omega) _)).grown h2 (by simp; omega) (fun k hk => by have := hlo.out _ hk; omega)
      rw [← take_map_snoc s j hlt] at h1
      exact ⟨⟨j + 1, by omega, by go_num, h1, hB6⟩, by simp [intOf]; omega⟩
    · have hl : ¬ (j : Int) < (s.length : Int) := by omega
      obtain rfl : j = s.length := by omega
      rw [List.take_length] at hown
      have hat := hown.at (GsV.reads w0)
      have eB : s.map (fun x => [x]) = GT.brs (.mk 5 a b s) := by simp [GT.brs]
      rw [eB] at hat hown
      have hlen : 0 < (GT.brs (.mk 5 a b s)).length := by simp [GT.brs]; omega
      have H : Hid (u3 ≠ .slice none 0 0 ∧ BrsAt w0 wr w.heap.size u3 (.mk 5 a b s)) := by
        refine ⟨fun e => ?_, hat.keep (GsV.reads w0) (Nat.le_refl _) (fun b hb _ => ⟨by omega, rfl⟩)⟩
        obtain ⟨ad, cap, e2, _, _, _, h⟩ := hat
        obtain ⟨bl, off, e3, _⟩ := h hlen
        rw [e2, e3] at e
        cases e
      clear hat hown eB hlen
      go_wp2_with fail
      go_ret
      exact ⟨⟨_, rfl, H.out⟩, hbr⟩
theorem branches_any (g : GT) (hk : GT.Ok g) (hc : GT.Chs g) (v : Value) (w0 w : World) (hb : Below w0.heap.size w0 w) (hg : GenAt w0 v g) :
    Calls Tryd.prog 52 #[v] w fun e w' => (∃ u, e = .returned u ∧ u ≠ .slice none 0 0 ∧ BrsAt w0 w' w.heap.size u g) ∧ Below w.heap.size w w' := by
  obtain ⟨k, a, b, s, ad, cap, rfl, rfl, hi, ha, hb', hl, hm, hs⟩ := hg.form
  have hlen := (GT.parts_kids (GT.check_parts hk.1)).1
  rcases hc with h | h | h <;> (simp only [GT.kind] at h; subst h) <;> rcases GT.one_cases (GT.ok_one (GT.check_ok hk.1)) with ⟨e, _⟩ | ⟨e, h0, h0', h1, h2, h3⟩ | e | ⟨e, h1, h2, h3⟩ | ⟨e, h1⟩ <;> try omega
  · exact branches_2 a b s ad _ cap h2 h3 h0' h1 w0 w hb
  · obtain ⟨A, rfl⟩ := Int.eq_ofNat_of_zero_le h2
    match s, h1, hs with
    | [x], _, hs => exact branches_4 A b x ad cap (by omega) w0 w hs hb
  · exact branches_5 a b s ad cap hm (by omega) (by omega) w0 w hs hb
end Go.Proofs.YtbfnlaplhgknaaaDoor
namespace Go.Proofs.YtbfnlaplhgknaaaDoor
set_option maxRecDepth 100000
open Go.RowKit
set_option linter.unusedSimpArgs false
set_option linter.unusedVariables false
theorem GT.cost_brs {g : GT} (h : GT.eachErr g = 0) (hc : GT.Chs g) {j : Nat} (hj : j < (GT.brs g).length) : GT.costL (GT.brs g)[j] + 1 ≤ GT.cost g := by
  have hrep : ∀ (n : Nat) (x : GT), GT.costL (List.replicate n x) = n * GT.cost x := by
    intro n x
    induction n with
    | zero => simp [GT.costL]
    | succ n ih => simp only [List.replicate_succ, GT.costL, ih, Nat.add_mul]; omega
  obtain ⟨k, a, b, s⟩ := g
  rcases hc with hk | hk | hk <;> (simp only [GT.kind] at hk; subst hk)
  · simp [GT.brs, GT.cost, GT.costL]
  · rcases GT.one_cases (GT.ok_one h) with ⟨e, _⟩ | ⟨e, _⟩ | e | ⟨_, h1, h2, h3⟩ | ⟨e, _⟩ <;> try omega
    match s, h1, hj with
    | [x], _, hj =>
      have hj' : j < a.toNat + 1 := by simpa [GT.brs] using hj
      have e : (GT.brs (.mk 4 a b [x]))[j] = List.replicate j x := by simp [GT.brs, GT.rep]
      rw [e, hrep]
      simp only [GT.cost, GT.costL]
      have : j * GT.cost x ≤ 5 * GT.cost x := Nat.mul_le_mul_right _ (by omega)
      simp
      omega
  · have hj' : j < s.length := by simpa [GT.brs] using hj
    have e : (GT.brs (.mk 5 a b s))[j] = [s[j]] := by simp [GT.brs]
    rw [e]
    have := GT.cost_le s j hj'
    simp [GT.cost, GT.costL]
    omega
theorem GT.costL_append (l m : List GT) : GT.costL (l ++ m) = GT.costL l + GT.costL m := by
  induction l with
  | nil => simp [GT.costL]
  | cons x l ih => simp only [List.cons_append, GT.costL, ih]; omega
theorem SrcAt.ext {w w' : World} {v : Value} {n : Nat} {cs : List Value} (h : SrcAt w v n cs) (hb : Below w.heap.size w w') : SrcAt w' v n cs := by
  rcases h with h | ⟨a, c, rfl, hc⟩
  · exact .inl h
  · refine .inr ⟨a, c, rfl, fun j u hu => ?_⟩
    have h1 := hc j u hu
    rw [hb.cell (World.block_lt_of_cell? w _ h1)]
    exact h1
theorem OwnGs.emptyAt {w0 w : World} {lo n : Nat} (hb : lo ≤ w.heap.size) (hn : n = w.heap.size) : OwnGs w0 (w.alloc (.cells #[] 24)) lo (.slice (some ⟨n, 0, none⟩) 0 0) [] := by
  subst hn; exact OwnGs.empty w0 w lo hb
theorem gsv_behind {w0 w7 w8 : World} {S : Nat → Prop} {o v : Value} {s : List GT} {gi : Nat} {ob : Obj} (h : GsV w0 w7 S v s) (hS : ∀ b, S b → o.ownBlock ≠ some b) (g2 : (w7.alloc ob).grownBy w8 o.ownBlock) (g3 : o.ownBlock = some gi ∨ gi = (w7.alloc ob).heap.size) : GsV w0 w8 (fun b => b ≠ gi) v s := by
  refine (GsV.reads w0).keep h (by have := g2.size; simp at this; omega) (fun b hs hl => ⟨?_, ?_⟩)
  · rcases g3 with e | e
    · intro e2; exact hS b hs (by rw [e, e2])
    · simp at e; omega
  · exact (g2.block b (by simp; omega) (fun e => hS b hs e.symm)).trans (Below.heap_alloc w7 ob b hl)
/-- What holds at the head of Nth's loop. -/
structure NthI (g : GT) (i0 : Int) (w : World) (k : Nat) (l : List GT) (n : Int) (t : List Int) (o td : Value) (wr : World) : Prop where
  wt : GT.wtL l = k
  wb : GT.wtL l ≤ GT.wt g
  ok : GT.OkL l
  pr : GT.prodL l ≤ 1048576
  n0 : 0 ≤ n
  n1 : n < GT.prodL l
  out : OwnInts wr w.heap.size o t
  tv : ∀ x ∈ t, 0 ≤ x ∧ x ≤ 1000
  tl : t.length + GT.costL l ≤ GT.cost g
  td : GsV w wr (fun b => o.ownBlock ≠ some b) td l
  below : Below w.heap.size w wr
  nth : ∀ t', GT.NthR l n t' → GT.NthR [g] i0 (t ++ t')
theorem GsV.keepB {w0 w w' : World} {S : Nat → Prop} {v : Value} {s : List GT} (h : GsV w0 w S v s) (hb : Below w.heap.size w w') : GsV w0 w' S v s := (GsV.reads w0).keep h hb.size (fun b hs hl => ⟨hs, hb.block b hl⟩)
theorem own_v {w0 w' : World} {lo : Nat} {o v : Value} {s : List GT} (hv : OwnGs w0 w' lo v s) (ho : ∀ b, o.ownBlock = some b → b < lo) : GsV w0 w' (fun b => o.ownBlock ≠ some b) v s :=
  hv.v.mono (fun b hb _ e => by have h1 := (hv.form2 b hb).1; have := ho b e; omega)
theorem NthI.both {g : GT} {i0 : Int} {w : World} {k : Nat} {a b : Int} {s rest : List GT} {n : Int} {t : List Int} {o td v : Value} {wr w' : World} (h : NthI g i0 w k (.mk 3 a b s :: rest) n t o td wr) (hB : Below wr.heap.size wr w') (hv : OwnGs w w' wr.heap.size v (s ++ rest)) :
    NthI g i0 w (GT.wtL (s ++ rest)) (s ++ rest) n t o v w' ∧ GT.wtL (s ++ rest) < k := by
  obtain ⟨h1, h2⟩ := h.ok.cons
  obtain ⟨h3, h4⟩ := GT.ok_both h1
  have hp : GT.prodL (.mk 3 a b s :: rest) = GT.prodL (s ++ rest) := by rw [GT.prodL_append]; simp only [GT.prodL, h4]
  have e2 := h.pr
  have e3 := h.n1
  have e4 := h.wt
  have e4b := h.wb
  have e5 := h.tl
  rw [hp] at e2 e3
  have hwt : GT.wtL (.mk 3 a b s :: rest) = 1 + GT.wtL (s ++ rest) := by rw [GT.wtL_append]; simp [GT.wtL, GT.wt]; omega
  have hco : GT.costL (.mk 3 a b s :: rest) = GT.costL (s ++ rest) := by rw [GT.costL_append]; simp [GT.costL, GT.cost]
  rw [hwt] at e4 e4b
  rw [hco] at e5
  exact ⟨⟨rfl, by omega, h3.append h2, e2, h.n0, e3, h.out.kept hB, h.tv, e5, own_v hv (fun b e => (h.out.form2 b e).2), h.below.trans (hB.mono h.below.size), fun t' h' => h.nth t' (.both h')⟩, by omega⟩
theorem NthI.just {g : GT} {i0 : Int} {w : World} {k : Nat} {a b : Int} {s rest : List GT} {n : Int} {t : List Int} {o td v : Value} {wr w' : World} (h : NthI g i0 w k (.mk 1 a b s :: rest) n t o td wr) (hB : Below wr.heap.size wr w') (hv : GsV w w' (fun b => o.ownBlock ≠ some b) v rest) :
    NthI g i0 w (GT.wtL rest) rest n t o v w' ∧ GT.wtL rest < k := by
  obtain ⟨h1, h2⟩ := h.ok.cons
  have hp : GT.prodL (.mk 1 a b s :: rest) = GT.prodL rest := by simp [GT.prodL, GT.count]
  have e2 := h.pr
  have e3 := h.n1
  have e4 := h.wt
  have e4b := h.wb
  have e5 := h.tl
  rw [hp] at e2 e3
  have hwt : GT.wtL (.mk 1 a b s :: rest) = 1 + GT.wtL rest := by simp [GT.wtL, GT.wt]
  have hco : GT.costL (.mk 1 a b s :: rest) = GT.costL rest := by simp [GT.costL, GT.cost]
  rw [hwt] at e4 e4b
  rw [hco] at e5
  exact ⟨⟨rfl, by omega, h2, e2, h.n0, e3, h.out.kept hB, h.tv, e5, hv, h.below.trans (hB.mono h.below.size), fun t' h' => h.nth t' (.just h')⟩, by omega⟩
theorem GT.brs_len {g : GT} (h : GT.check g = 0) (hc : GT.Chs g) : 1 ≤ (GT.brs g).length ∧ (GT.brs g).length ≤ 1001 := by
  have hl := GT.brs_length (GT.check_ok h) hc
  obtain ⟨k, a, b, s⟩ := g
  have hlen := (GT.parts_kids (GT.check_parts h)).1
  rcases hc with hk | hk | hk <;> (simp only [GT.kind] at hk; subst hk) <;> rcases GT.one_cases (GT.ok_one (GT.check_ok h)) with ⟨e, _⟩ | ⟨e, h0, h0', h1, h2, h3⟩ | e | ⟨e, h1, h2, h3⟩ | ⟨e, h1⟩ <;> try omega
  all_goals (simp [GT.most] at hl; omega)
theorem NthI.choose {g : GT} {i0 : Int} {w : World} {k : Nat} {g1 : GT} {rest : List GT} {n n' : Int} {t : List Int} {o o' td v : Value} {wr w' : World} (h : NthI g i0 w k (g1 :: rest) n t o td wr) (hc : GT.Chs g1) {j : Nat} (hj : j < (GT.brs g1).length)
    (hn : n' + GT.prodL rest * GT.sumP ((GT.brs g1).take j) = n) (h0 : 0 ≤ n') (h1 : n' < GT.prodL rest * GT.prodL (GT.brs g1)[j]) (hB : Below w.heap.size w w') (ho : OwnInts w' w.heap.size o' (t ++ [(j : Int)])) (hv : GsV w w' (fun b => o'.ownBlock ≠ some b) v ((GT.brs g1)[j] ++ rest)) :
    NthI g i0 w (GT.wtL ((GT.brs g1)[j] ++ rest)) ((GT.brs g1)[j] ++ rest) n' (t ++ [(j : Int)]) o' v w' ∧ GT.wtL ((GT.brs g1)[j] ++ rest) < k := by
  obtain ⟨h2, h3⟩ := h.ok.cons
  obtain ⟨h4, h5⟩ := GT.ok_brs h2 hc
  have hbl := GT.brs_len h2.1 hc
  have hjk := h5 _ (List.getElem_mem hj)
  have h1' : n' < GT.prodL ((GT.brs g1)[j] ++ rest) := by rw [GT.prodL_append, Int.mul_comm]; exact h1
  have hbd := GT.branch_bd h2 hc h3 hj h0 h1'
  have hprod : GT.prodL ((GT.brs g1)[j] ++ rest) ≤ GT.prodL (g1 :: rest) := by
    have h6 := GT.branch_bd h2 hc h3 hj (i := GT.prodL ((GT.brs g1)[j] ++ rest) - 1) (by have := (hjk.append h3).pos; omega) (by omega)
    omega
  have e2 := h.pr
  have e4 := h.wt
  have e4b := h.wb
  have e5 := h.tl
  have hw := GT.wt_brs (GT.check_ok h2.1) hc hj
  have hco := GT.cost_brs (GT.check_ok h2.1) hc hj
  simp only [GT.wtL] at e4 e4b
  simp only [GT.costL] at e5
  refine ⟨⟨rfl, by rw [GT.wtL_append]; omega, hjk.append h3, by omega, h0, h1', ho, fun x hx => ?_, ?_, hv, hB, fun t' h' => ?_⟩, ?_⟩
  · rcases List.mem_append.1 hx with e | e
    · exact h.tv x e
    · have : x = j := by simpa using e
      rw [this]; omega
  · rw [GT.costL_append]
    simp
    omega
  · have := h.nth (j :: t') (by rw [← hn, Int.add_comm]; exact .choose hc hj h')
    simpa using this
  · rw [GT.wtL_append]; omega
set_option maxRecDepth 100000 in
set_option maxHeartbeats 4000000 in
theorem nth_any (g : GT) (hk : GT.Ok g) (i : Int) (h0 : 0 ≤ i) (h1 : i < GT.count g) (v : Value) (w : World) (hg : GenAt w v g) :
    Calls Tryd.prog 24 #[v, .int .i64 i] w fun e w' => (∃ u t, e = .returned (.tuple #[u, .nilIface]) ∧ OwnInts w' w.heap.size u t ∧ (∀ n ∈ t, 0 ≤ n ∧ n ≤ 1000) ∧ t.length ≤ 2000000 ∧ Hid (GT.NthR [g] i t)) ∧ Below w.heap.size w w' := by
  obtain ⟨k, a, b, t, ad, cap, rfl⟩ := hg.shape
  have C1 := Lib.hid (fun W (h : Below w.heap.size w W) => gen_count_any g (.agg #[.int .i64 k, .int .i64 a, .int .i64 b, .slice ad t cap]) W (hg.ext h))
  rw [hk.countR, errV_zero] at C1
  have hp := hk.pos
  have hle := hk.2
  have HG := Lib.hid hg
  have HK := Lib.hid hk
  have hct : ∃ cn, cn = GT.count g := ⟨_, rfl⟩
  obtain ⟨cn, hcn⟩ := hct
  rw [← hcn] at C1 h1 hp hle
  have HCN := Lib.hid hcn
  clear hg hk hcn
  go_enter Tryd.func24, Tryd.ntmps24
  go_wp2_with fail
  refine (C1.out _ (by repeat (first | with_reducible assumption | with_reducible exact Below.refl _ _ | with_reducible apply Below.drew | (with_reducible refine Below.alloc ?_ (by first | omega | (simp only [World.size_alloc, size_setCell, size_drew, size_drewN]; omega) | (dsimp only; omega) | (simp only [World.size_alloc, size_setCell, size_drew, size_drewN]; dsimp only; omega)) _) | (with_reducible refine Below.setCell ?_ (by first | omega | (simp only [World.size_alloc, size_setCell, size_drew, size_drewN]; omega) | (dsimp only; omega) | (simp only [World.size_alloc, size_setCell, size_drew, size_drewN]; dsimp only; omega)) _) | (with_reducible apply below_drewN)))).mono ?_
  rintro e w1 ⟨rfl, hb1⟩
  have hB1 : Below w.heap.size w w1 := Below.trans (by repeat (first | with_reducible assumption | with_reducible exact Below.refl _ _ | with_reducible apply Below.drew | (with_reducible refine Below.alloc ?_ (by first | omega | (simp only [World.size_alloc, size_setCell, size_drew, size_drewN]; omega) | (dsimp only; omega) | (simp only [World.size_alloc, size_setCell, size_drew, size_drewN]; dsimp only; omega)) _) | (with_reducible refine Below.setCell ?_ (by first | omega | (simp only [World.size_alloc, size_setCell, size_drew, size_drewN]; omega) | (dsimp only; omega) | (simp only [World.size_alloc, size_setCell, size_drew, size_drewN]; dsimp only; omega)) _) | (with_reducible apply below_drewN))) (hb1.mono (by first | omega | (simp only [World.size_alloc, size_setCell, size_drew, size_drewN]; omega) | (dsimp only; omega) | (simp only [World.size_alloc, size_setCell, size_drew, size_drewN]; dsimp only; omega)))
  obtain ⟨hc1, hf1, hz1⟩ := bcell hb1
  try simp only [World.size_alloc, size_setCell, size_drew, size_drewN] at hz1
  clear hb1
  have y1_0 : w.heap.size < w1.heap.size := by omega
  go_wp2_with fail
  have hB2 : Below w.heap.size w (w1.alloc (.cells #[.int .i64 k, .int .i64 a, .int .i64 b, .slice ad t cap] 24)) := by repeat (first | with_reducible assumption | with_reducible exact Below.refl _ _ | with_reducible apply Below.drew | (with_reducible refine Below.alloc ?_ (by first | omega | (simp only [World.size_alloc, size_setCell, size_drew, size_drewN]; omega) | (dsimp only; omega) | (simp only [World.size_alloc, size_setCell, size_drew, size_drewN]; dsimp only; omega)) _) | (with_reducible refine Below.setCell ?_ (by first | omega | (simp only [World.size_alloc, size_setCell, size_drew, size_drewN]; omega) | (dsimp only; omega) | (simp only [World.size_alloc, size_setCell, size_drew, size_drewN]; dsimp only; omega)) _) | (with_reducible apply below_drewN))
  have x1 : Blk (w1.alloc (.cells #[.int .i64 k, .int .i64 a, .int .i64 b, .slice ad t cap] 24)) w1.heap.size #[.int .i64 k, .int .i64 a, .int .i64 b, .slice ad t cap] 24 := Blk.new _ _ _
  have hI : Hid (NthI g i w (GT.wtL [g]) [g] i [] (.slice none 0 0) (.slice (some ⟨w1.heap.size, 0, none⟩) 1 1) (w1.alloc (.cells #[.int .i64 k, .int .i64 a, .int .i64 b, .slice ad t cap] 24))) := by
    refine ⟨rfl, by simp [GT.wtL], fun x hx => by rw [List.mem_singleton.1 hx]; exact HK.out, by simp only [GT.prodL]; rw [← HCN.out]; omega, h0, by simp only [GT.prodL]; rw [← HCN.out]; omega, OwnInts.nil _ _, by simp, by simp [GT.costL], gsv_new x1 (by simp [Value.ownBlock]) HG.out, hB2, fun t' h => h⟩
  clear hc1 hf1 hz1 y1_0 x1 hB1
  generalize w1.alloc (.cells #[.int .i64 k, .int .i64 a, .int .i64 b, .slice ad t cap] 24) = W at *
  generalize w1.heap.size = z1 at *
  go_loopg [1, 8, 9] (GT.wtL [g]) (fun k i' o td wr => ∃ l n t, i' = .int .i64 n ∧ NthI g i w k l n t o td wr)
  case atStart => exact ⟨_, _, _, rfl, hI.out⟩
  case round =>
    obtain ⟨l, n, t, rfl, hN⟩ := hrel
    obtain ⟨wo, rfl⟩ : ∃ wo : World, wo = wr := ⟨_, rfl⟩
    obtain ⟨ov, rfl⟩ : ∃ ov : Value, ov = u8 := ⟨_, rfl⟩
    clear hI hB2 C1 h0 h1 hle hp
    have HN := Lib.hid hN
    obtain ⟨ad9, cap9, rfl, hl9, hm9, hn9, hg9⟩ := hN.td
    have hbr := hN.below
    have hzr := hbr.size
    unfold maxLen at hm9
    cases l with
    | nil =>
      clear hN
      go_wp2_with fail
      go_ret2
      have h := HN.out
      have hn1 := h.n1
      have hn0 := h.n0
      simp only [GT.prodL] at hn1
      have hn : n = 0 := by omega
      have h5 := h.nth [] (by rw [hn]; exact .nil)
      rw [List.append_nil] at h5
      have h6 := GT.cost_ok HK.out.1
      have h7 := h.tl
      exact ⟨⟨_, t, rfl, h.out, h.tv, by omega, h5⟩, hbr⟩
    | cons g1 rest =>
      obtain ⟨bl, off, rfl, hlt1, hs1, hc9⟩ := hg9.at' (by simp)
      obtain ⟨k2, a2, b2, t2, ad2, cap2, c0, c1, c2, c3, hg2⟩ := hc9 0 (by simp)
      simp only [Nat.zero_mul, Nat.add_zero, List.getElem_cons_zero] at c0 c1 c2 c3 hg2
      clear hc9 hN
      have HG9 := Lib.hid hg9
      clear hg9
      have q0 : (0 : Int) < ((g1 :: rest).length : Int) := by simp
      have q1 : ((g1 :: rest).length : Int) = (rest.length : Int) + 1 := by simp
      have hl10 : rest.length + 1 ≤ cap9 := hl9
      go_wp2_with fail
      go_region
      have hrv : ∃ adr, (if cap9 = 1 then some (⟨bl, off, none⟩ : Addr) else some ⟨bl, off + 4, none⟩) = some adr ∧ GsAt w wo (fun b => ov.ownBlock ≠ some b) (some adr) rest := by
        by_cases hc1 : cap9 = 1
        · have : rest = [] := List.length_eq_zero_iff.1 (by omega)
          subst this
          exact ⟨⟨bl, off, none⟩, by rw [if_pos hc1], GsAt.nil _ _ _ _⟩
        · exact ⟨⟨bl, off + 4, none⟩, by rw [if_neg hc1], HG9.out.tail⟩
      obtain ⟨adr, hadr, hgr⟩ := hrv
      rw [hadr]
      have hB3 : Below wo.heap.size wo (wo.alloc (.cells #[.int .i64 k2, .int .i64 a2, .int .i64 b2, .slice ad2 t2 cap2] 24)).drew := by repeat (first | with_reducible assumption | with_reducible exact Below.refl _ _ | with_reducible apply Below.drew | (with_reducible refine Below.alloc ?_ (by first | omega | (simp only [World.size_alloc, size_setCell, size_drew, size_drewN]; omega) | (dsimp only; omega) | (simp only [World.size_alloc, size_setCell, size_drew, size_drewN]; dsimp only; omega)) _) | (with_reducible refine Below.setCell ?_ (by first | omega | (simp only [World.size_alloc, size_setCell, size_drew, size_drewN]; omega) | (dsimp only; omega) | (simp only [World.size_alloc, size_setCell, size_drew, size_drewN]; dsimp only; omega)) _) | (with_reducible apply below_drewN))
      have x3 : Blk (wo.alloc (.cells #[.int .i64 k2, .int .i64 a2, .int .i64 b2, .slice ad2 t2 cap2] 24)).drew wo.heap.size #[.int .i64 k2, .int .i64 a2, .int .i64 b2, .slice ad2 t2 cap2] 24 := (Blk.new _ _ _).drew
      have hz3 : (wo.alloc (.cells #[.int .i64 k2, .int .i64 a2, .int .i64 b2, .slice ad2 t2 cap2] 24)).drew.heap.size = wo.heap.size + 1 := by simp [size_drew]
      have HGR : Hid (GsV w wo (fun b => ov.ownBlock ≠ some b) (.slice (some adr) rest.length (cap9 - 1)) rest) := ⟨some adr, cap9 - 1, rfl, by omega, by unfold maxLen; omega, (fun e => by cases e), hgr⟩
      have HGN := Lib.hid hg2
      clear hgr hadr q0 q1 c0 c1 c2 c3 hg2 hs1 hlt1 HG9 hn9
      generalize (wo.alloc (.cells #[.int .i64 k2, .int .i64 a2, .int .i64 b2, .slice ad2 t2 cap2] 24)).drew = W3 at *
      have d0 := x3.cell 0
      have d3 := x3.cell 3
      simp only [List.getElem?_toArray, List.getElem?_cons_succ, List.getElem?_cons_zero] at d0 d3
      have hlo := Lib.hid (fun b e => (HN.out.out.form2 b e))
      have hlen : rest.length ≤ 1399680 := by
        have h1 := HN.out.wb
        have h2 := GT.wt_ok HK.out.1
        have h3 := GT.wtL_len (g1 :: rest)
        simp only [List.length_cons] at h3
        omega
      obtain ⟨k3, a3, b3, s3, ad3, cap3, hmk, hv3, _, _, _, hl3, hm3, hs3⟩ := HGN.out.form
      simp only [Value.agg.injEq] at hv3
      have e0 := congrArg (fun z : Array Value => z[0]?) hv3
      have e1 := congrArg (fun z : Array Value => z[1]?) hv3
      have e2 := congrArg (fun z : Array Value => z[2]?) hv3
      have e3 := congrArg (fun z : Array Value => z[3]?) hv3
      simp at e0 e1 e2 e3
      obtain ⟨rfl, rfl, rfl⟩ := e3
      subst e0 e1 e2
      clear hv3
      subst hmk
      have hok := HN.out.ok.cons.1
      by_cases hc : GT.Chs (.mk k2 a2 b2 s3)
      · have hne : (k2 == 3) = false := by
          simp only [GT.Chs, GT.kind] at hc
          simp; omega
        have HC := Lib.hid hc
        have hpr := HN.out.pr
        have hokr := Lib.hid (HN.out.ok.cons.2)
        have hprr : GT.prodL rest ≤ 1048576 := by
          have h1 := hok.pos
          have h2 := hokr.out.pos
          have := Int.mul_le_mul_of_nonneg_right h1 (show 0 ≤ GT.prodL rest by omega)
          simp only [GT.prodL] at hpr
          omega
        have CP := Lib.hid (fun W (h : Below wo.heap.size wo W) => product_any rest hokr.out hprr _ _ w W (hbr.trans (h.mono hzr)) (HGR.out.keepB h))
        have CB := Lib.hid (fun W (h : Below wo.heap.size wo W) => branches_any (.mk k2 a2 b2 s3) hok hc _ w W (hbr.trans (h.mono hzr)) HGN.out)
        have HOK := Lib.hid hok
        have HPR := Lib.hid hprr
        clear hc hpr hprr hok
        obtain ⟨pr, hpre⟩ : ∃ pr, pr = GT.prodL rest := ⟨_, rfl⟩
        rw [← hpre] at CP
        have HPE := Lib.hid hpre
        clear hpre
        go_wp2_with fail
        refine (CP.out _ (by exact hB3)).mono ?_
        rintro e w4 ⟨rfl, hb4⟩
        have hB4 : Below wo.heap.size wo w4 := hB3.trans (hb4.mono (by omega))
        have x4 := x3.ext hb4
        have f0 := x4.cell 0
        have f1 := x4.cell 1
        have f2 := x4.cell 2
        have f3 := x4.cell 3
        simp only [List.getElem?_toArray, List.getElem?_cons_succ, List.getElem?_cons_zero] at f0 f1 f2 f3
        clear d0 d3 hb4
        go_wp2_with fail
        refine (CB.out _ hB4).mono ?_
        rintro e w5 ⟨⟨u, rfl, _, hbrs⟩, hb5⟩
        have hB5 : Below wo.heap.size wo w5 := hB4.trans (hb5.mono hB4.size)
        have hz4 := hB4.size
        obtain ⟨uad, ucap, rfl, hul, hum, hun, huc⟩ := hbrs
        unfold maxLen at hum
        have HUC := Lib.hid huc
        clear huc f0 f1 f2 f3 CP CB x4 x3
        have hbl := GT.brs_len HOK.out.1 HC.out
        have hbl1 := hbl.1
        have hbl2 := hbl.2
        clear hbl
        obtain ⟨Bn, hBn⟩ : ∃ Bn, Bn = (GT.brs (.mk k2 a2 b2 s3)).length := ⟨_, rfl⟩
        rw [← hBn] at hbl1 hbl2 hul
        rw [← hBn]
        have HBN := Lib.hid hBn
        clear hBn
        go_wp2_with fail
        go_loopw [1, 8, 57] (fun m o i w6 => ∃ (j : Nat) (n' : Int), j ≤ Bn ∧ i = .int .i64 j ∧ m = .int .i64 n' ∧ o = ov ∧ 0 ≤ n' ∧ n' ≤ 1048576 ∧ Hid (n' + pr * GT.sumP ((GT.brs (.mk k2 a2 b2 s3)).take j) = n) ∧ Below w5.heap.size w5 w6) (fun _ _ i _ => Bn - (intOf i).toNat)
        case atStart => exact ⟨0, n, by omega, rfl, rfl, rfl, HN.out.n0, by have h1 := HN.out.n1; have h2 := HN.out.pr; omega, (show n + pr * GT.sumP ((GT.brs (.mk k2 a2 b2 s3)).take 0) = n by simp [GT.sumP]), Below.refl _ _⟩
        case round =>
          obtain ⟨j, n', hj, rfl, rfl, rfl, hn0, hn1, HNN, hb6⟩ := hrel
          by_cases hlt : j < Bn
          · have hl : (j : Int) < (Bn : Int) := by omega
            have hp0 : (0 : Int) ≤ (j : Int) := by omega
            obtain ⟨ubl, uoff, rfl, hub1, hub2, huu⟩ := HUC.out (by rw [← HBN.out]; omega)
            have hjB : j < (GT.brs (.mk k2 a2 b2 s3)).length := by rw [← HBN.out]; exact hlt
            obtain ⟨uv, huv, huR⟩ := huu j hjB
            have huv6 := (hb6.cell (p := ⟨ubl, _, none⟩) hub1).trans huv
            have huR6 := Lib.hid (huR.keepB hb6)
            obtain ⟨va, vn, vc, rfl⟩ : ∃ a n c, uv = .slice a n c := by obtain ⟨a, c, e, _⟩ := huR; exact ⟨a, _, c, e⟩
            have hbk := (GT.ok_brs HOK.out HC.out).2 _ (List.getElem_mem hjB)
            have hz5 := hB5.size
            have hz45 := hb5.size
            have hz6 := hb6.size
            have hB6 : Below wo.heap.size wo wr := hB5.trans (hb6.mono hz5)
            have hpm : 1 ≤ GT.prodL (GT.brs (.mk k2 a2 b2 s3))[j] ∧ pr * GT.prodL (GT.brs (.mk k2 a2 b2 s3))[j] ≤ 1048576 := by
              have h1 := hbk.pos
              have h2 := GT.branch_bd HOK.out HC.out hokr.out hjB (i := GT.prodL ((GT.brs (.mk k2 a2 b2 s3))[j] ++ rest) - 1) (by have := (hbk.append hokr.out).pos; omega) (by omega)
              have h3 := HN.out.pr
              have h4 := GT.prodL_append (GT.brs (.mk k2 a2 b2 s3))[j] rest
              rw [← HPE.out] at h4
              rw [Int.mul_comm] at h4
              exact ⟨h1, by omega⟩
            have hpb : GT.prodL (GT.brs (.mk k2 a2 b2 s3))[j] ≤ 1048576 := by
              have h1 := hokr.out.pos
              rw [← HPE.out] at h1
              have := Int.mul_le_mul_of_nonneg_right h1 (show 0 ≤ GT.prodL (GT.brs (.mk k2 a2 b2 s3))[j] by omega)
              omega
            have CQ := Lib.hid (fun W (h : Below wr.heap.size wr W) => product_any _ hbk hpb _ _ w W (hbr.trans (hB6.mono hzr |>.trans (h.mono (by omega)))) (huR6.out.keepB h))
            have HST := Lib.hid (GT.sumP_take_succ (GT.brs (.mk k2 a2 b2 s3)) j hjB)
            have hp1 := hpm.1
            have hp2 := hpm.2
            clear hpm hpb huu huR huv hbk
            obtain ⟨pb, hpb⟩ : ∃ pb, pb = GT.prodL (GT.brs (.mk k2 a2 b2 s3))[j] := ⟨_, rfl⟩
            rw [← hpb] at CQ HST hp1 hp2
            have HPB := Lib.hid hpb
            clear hpb
            have hpp : 0 ≤ pr * pb := by
              have h1 := hokr.out.pos
              rw [← HPE.out] at h1
              exact Int.mul_nonneg (by omega) (by omega)
            have hwr : IntKind.i64.wrap (pr * pb) = pr * pb := IntWalk.i64_in _ (by omega)
            obtain ⟨pm, hpm⟩ : ∃ pm, pr * pb = pm := ⟨_, rfl⟩
            have hwr2 : IntKind.i64.wrap (pr * pb) = pm := hwr.trans hpm
            rw [hpm] at hp2 hpp
            have HPM := Lib.hid hpm
            have HWR := Lib.hid hwr2
            clear hpm hwr hwr2
            go_wp2_with fail
            refine (CQ.out _ (by repeat (first | with_reducible assumption | with_reducible exact Below.refl _ _ | with_reducible apply Below.drew | (with_reducible refine Below.alloc ?_ (by first | omega | (simp only [World.size_alloc, size_setCell, size_drew, size_drewN]; omega) | (dsimp only; omega) | (simp only [World.size_alloc, size_setCell, size_drew, size_drewN]; dsimp only; omega)) _) | (with_reducible refine Below.setCell ?_ (by first | omega | (simp only [World.size_alloc, size_setCell, size_drew, size_drewN]; omega) | (dsimp only; omega) | (simp only [World.size_alloc, size_setCell, size_drew, size_drewN]; dsimp only; omega)) _) | (with_reducible apply below_drewN)))).mono ?_
            rintro e w7 ⟨rfl, hb7⟩
            have hwr := HWR.out
            by_cases hge : pm ≤ n'
            · go_wp2_with fail
              clear hwr
              have hB7 : Below w5.heap.size w5 w7 := hb6.trans (hb7.mono hz6)
              refine ⟨⟨j + 1, n' - pm, by omega, by go_num, rfl, rfl, by omega, by omega, ?_, hB7⟩, by simp [intOf]; omega⟩
              have h1 := HNN.out
              show n' - pm + pr * GT.sumP ((GT.brs (.mk k2 a2 b2 s3)).take (j + 1)) = n
              rw [HST.out, Int.mul_add, HPM.out]
              omega
            · have hB7 : Below wo.heap.size wo w7 := hB6.trans (hb7.mono (by omega))
              have hB7' : Below w.heap.size w w7 := hbr.trans (hB7.mono hzr)
              have hz7 := hb7.size
              have hzo7 := hB7.size
              have hown7 := HN.out.out.kept hB7
              have hrest7 := HGR.out.keepB hB7
              have huR7 := huR6.out.keepB hb7
              have htl : t.length ≤ 1399680 := by have h1 := HN.out.tl; have h2 := GT.cost_ok HK.out.1; omega
              have HO7 := Lib.hid hown7
              have HR7 := Lib.hid hrest7
              have HU7 := Lib.hid huR7
              clear hown7 hrest7 huR7
              have hlo8 := hlo
              have hlenj : (GT.brs (.mk k2 a2 b2 s3))[j].length ≤ 1399680 := by
                have h1 := HN.out.wb
                have h2 := GT.wt_ok HK.out.1
                have h3 := GT.wtL_len (GT.brs (.mk k2 a2 b2 s3))[j]
                have h4 := GT.wt_brs (GT.check_ok HOK.out.1) HC.out hjB
                simp only [GT.wtL] at h1
                omega
              have hS2 : Hid (∀ b, w4.heap.size ≤ b → u8.ownBlock ≠ some b) := fun b hb e => by have := hlo8.out b e; omega
              go_wp2_with (first | (at_builtin; refine append_int1 (v := u8) (o := ⟨some 75, _, _, _, _, _⟩) rfl _ _ rfl rfl (HO7.out.kept (by repeat (first | with_reducible assumption | with_reducible exact Below.refl _ _ | with_reducible apply Below.drew | (with_reducible refine Below.alloc ?_ (by first | omega | (simp only [World.size_alloc, size_setCell, size_drew, size_drewN]; omega) | (dsimp only; omega) | (simp only [World.size_alloc, size_setCell, size_drew, size_drewN]; dsimp only; omega)) _) | (with_reducible refine Below.setCell ?_ (by first | omega | (simp only [World.size_alloc, size_setCell, size_drew, size_drewN]; omega) | (dsimp only; omega) | (simp only [World.size_alloc, size_setCell, size_drew, size_drewN]; dsimp only; omega)) _) | (with_reducible apply below_drewN)))) rfl (Blk.newAt rfl) (by omega) (by simp; omega) ?_; intro gi capi w8 g1 g2 g3 g4; obtain ⟨cs2, hcs2, hs2⟩ := (gsv_behind HR7.out (fun b hb => hb) g2 g3).src; obtain ⟨cs1, hcs1, hs1⟩ := (gsv_behind HU7.out hS2.out g2 g3).src; have hB8 : Below w.heap.size w w8 := (hB7'.alloc (by omega) _).grown g2 (by simp; omega) (fun k hk => (hlo8.out k hk).1); have G1 := Lib.hid g1; clear g1 g2 g3) | (at_builtin; refine append_gens (w0 := w) (v := .slice (some ⟨w8.heap.size, 0, none⟩) 0 0) (o := ⟨some 78, _, _, _, _, _⟩) rfl _ _ rfl rfl (OwnGs.emptyAt (w := w8) (lo := w8.heap.size) (by omega) rfl) rfl (hs1.ext (by repeat (first | with_reducible assumption | with_reducible exact Below.refl _ _ | with_reducible apply Below.drew | (with_reducible refine Below.alloc ?_ (by first | omega | (simp only [World.size_alloc, size_setCell, size_drew, size_drewN]; omega) | (dsimp only; omega) | (simp only [World.size_alloc, size_setCell, size_drew, size_drewN]; dsimp only; omega)) _) | (with_reducible refine Below.setCell ?_ (by first | omega | (simp only [World.size_alloc, size_setCell, size_drew, size_drewN]; omega) | (dsimp only; omega) | (simp only [World.size_alloc, size_setCell, size_drew, size_drewN]; dsimp only; omega)) _) | (with_reducible apply below_drewN)))) hcs1 (by simp; omega) (by simp) ?_; intro v9 w9 k1 k2 k3 k4; have hb9 : Below w8.heap.size w8 w9 := (((Below.refl _ _).alloc (Nat.le_refl _) _).grown k2 (by simp) (fun k hk => by simp [Value.ownBlock] at hk; omega)); clear k2 k3 k4) | (at_builtin; refine append_gens (w0 := w) (v := v9) (o := ⟨some 80, _, _, _, _, _⟩) rfl _ _ rfl rfl k1 rfl (hs2.ext hb9) hcs2 (by simp; omega) (by exact hb9.size) ?_; intro v10 w10 m1 m2 m3 m4))
              have hb10 : Below w8.heap.size w8 w10 := hb9.grown m2 hb9.size (fun k hk => (k1.form2 k hk).1)
              rw [List.nil_append] at m1
              have H : Hid (_ ∧ _) := HN.out.choose HC.out hjB (by rw [← HPE.out]; exact HNN.out) hn0 (by rw [← HPE.out, ← HPB.out, HPM.out]; omega) (hB8.trans (hb10.mono hB8.size)) (G1.out.kept hb10) (own_v m1 (fun b e => by simp [Value.ownBlock] at e; omega))
              clear k1 m1 m2 m3 m4 hb9 hcs1 hcs2 hs1 hs2 hwr hb10
              go_roundg (GT.wtL ((GT.brs (.mk k2 a2 b2 s3))[j] ++ rest))
              case measure => exact H.out.2
              case rel => exact ⟨_, _, _, rfl, H.out.1⟩
          · exfalso
            obtain rfl : j = Bn := by omega
            have h1 := HNN.out
            rw [HBN.out, List.take_length, (GT.ok_brs HOK.out HC.out).1, HPE.out] at h1
            have h2 := HN.out.n1
            simp only [GT.prodL] at h2
            rw [Int.mul_comm] at h2
            omega
      · have hk13 : k2 = 1 ∨ k2 = 3 := by
          simp only [GT.Chs, GT.kind] at hc
          rcases GT.one_cases (GT.ok_one (GT.check_ok hok.1)) with ⟨e, _⟩ | ⟨e, h0, h0', h1, h2, h3⟩ | e | ⟨e, h1, h2, h3⟩ | ⟨e, h1⟩ <;> omega
        clear hc
        rcases hk13 with rfl | rfl
        · have hokr := Lib.hid (HN.out.ok.cons.2)
          have hprr : GT.prodL rest ≤ 1048576 := by
            have hpr := HN.out.pr
            simp [GT.prodL, GT.count] at hpr
            exact hpr
          have CP := Lib.hid (fun W (h : Below wo.heap.size wo W) => product_any rest hokr.out hprr _ _ w W (hbr.trans (h.mono hzr)) (HGR.out.keepB h))
          have hne : ((1 : Int) == 3) = false := by decide
          clear hprr hok
          go_wp2_with fail
          refine (CP.out _ (by exact hB3)).mono ?_
          rintro e w4 ⟨rfl, hb4⟩
          have hB4 : Below wo.heap.size wo w4 := hB3.trans (hb4.mono (by omega))
          have x4 := x3.ext hb4
          have f0 := x4.cell 0
          have f1 := x4.cell 1
          have f2 := x4.cell 2
          have f3 := x4.cell 3
          simp only [List.getElem?_toArray, List.getElem?_cons_succ, List.getElem?_cons_zero] at f0 f1 f2 f3
          clear d0 d3 hb4
          go_wp2_with fail
          refine (branches_1 _ _ s3 _ _ _ w _).mono ?_
          rintro e w5 ⟨rfl, hb5⟩
          have hB5 : Below wo.heap.size wo w5 := hB4.trans (hb5.mono hB4.size)
          have H := Lib.hid (HN.out.just hB5 (HGR.out.keepB hB5))
          clear f0 f1 f2 f3 hb5
          go_wp2_with fail
          go_loopw [1, 8, 9, 57] (fun m o v i w6 => m = .int .i64 n ∧ i = .int .i64 0 ∧ o = ov ∧ v = .slice (some adr) rest.length (cap9 - 1) ∧ w6 = w5) (fun _ _ _ _ _ => 0)
          case atStart => exact ⟨rfl, rfl, rfl, rfl, rfl⟩
          case round =>
            obtain ⟨rfl, rfl, rfl, rfl, rfl⟩ := hrel
            go_wp2_with fail
            go_roundg (GT.wtL rest)
            case measure => exact H.out.2
            case rel => exact ⟨_, _, _, rfl, H.out.1⟩
        · have hgs := hs3.gs (w := W3) (hbr.trans (hB3.mono hzr))
          have hlen3 : s3.length ≤ 29 := (GT.parts_kids (GT.check_parts hok.1)).1
          obtain ⟨cs1, hcs1, hsrc1⟩ := hgs.src HGN.out.nil0
          obtain ⟨cs2, hcs2, hsrc2⟩ := (HGR.out.keepB hB3).src
          have q2 : (3 : Int) == 3 := rfl
          go_wp2_with (first | (at_builtin; refine append_gens (w0 := w) (v := .slice (some ⟨wo.heap.size + 1, 0, none⟩) 0 0) (o := ⟨some 48, _, _, _, _, _⟩) rfl _ _ rfl rfl (OwnGs.emptyAt (w := W3) (lo := wo.heap.size) (by omega) (by omega)) rfl (hsrc1.ext (by repeat (first | with_reducible assumption | with_reducible exact Below.refl _ _ | with_reducible apply Below.drew | (with_reducible refine Below.alloc ?_ (by first | omega | (simp only [World.size_alloc, size_setCell, size_drew, size_drewN]; omega) | (dsimp only; omega) | (simp only [World.size_alloc, size_setCell, size_drew, size_drewN]; dsimp only; omega)) _) | (with_reducible refine Below.setCell ?_ (by first | omega | (simp only [World.size_alloc, size_setCell, size_drew, size_drewN]; omega) | (dsimp only; omega) | (simp only [World.size_alloc, size_setCell, size_drew, size_drewN]; dsimp only; omega)) _) | (with_reducible apply below_drewN)))) hcs1 (by simp; omega) (by simp; omega) ?_; intro v5 w5 g1 g2 g3 g4; have hb5 : Below wo.heap.size wo w5 := ((hB3.alloc (by omega) _).grown g2 (by simp; omega) (fun k hk => by simp [Value.ownBlock] at hk; omega)); have hb5' : Below W3.heap.size W3 w5 := (((Below.refl _ _).alloc (Nat.le_refl _) _).grown g2 (by simp) (fun k hk => by simp [Value.ownBlock] at hk; omega)); clear g2 g3 g4) | (at_builtin; refine append_gens (w0 := w) (v := v5) (o := ⟨some 50, _, _, _, _, _⟩) rfl _ _ rfl rfl g1 rfl (hsrc2.ext hb5') hcs2 (by simp; omega) (by exact hb5.size) ?_; intro v6 w6 g5 g6 g7 g8))
          have hB6 := hb5.grown g6 hb5.size (fun k hk => (g1.form2 k hk).1)
          rw [List.nil_append] at g5
          have H := Lib.hid (HN.out.both hB6 g5)
          clear g1 g5 g6 g7 g8 hb5 hb5' hcs1 hcs2 hsrc1 hsrc2
          go_roundg (GT.wtL (s3 ++ rest))
          case measure => exact H.out.2
          case rel => exact ⟨_, _, _, rfl, H.out.1⟩
set_option maxHeartbeats 1000000 in
theorem nth_bad (g : GT) (i : Int) (hc : (GT.countR g).2 ≠ 0) (v : Value) (w : World) (hg : GenAt w v g) :
    Calls Tryd.prog 24 #[v, .int .i64 i] w fun e w' => e = .returned (.tuple #[.slice none 0 0, errV (GT.countR g).2]) ∧ Below w.heap.size w w' := by
  obtain ⟨k, a, b, t, ad, cap, rfl⟩ := hg.shape
  have C1 := Lib.hid (fun W (h : Below w.heap.size w W) => gen_count_any g (.agg #[.int .i64 k, .int .i64 a, .int .i64 b, .slice ad t cap]) W (hg.ext h))
  rw [errV_ne hc] at *
  generalize GT.countR g = r at *
  clear hc hg
  go_enter Tryd.func24, Tryd.ntmps24
  go_wp2_with fail
  refine (C1.out _ (by repeat (first | with_reducible assumption | with_reducible exact Below.refl _ _ | with_reducible apply Below.drew | (with_reducible refine Below.alloc ?_ (by first | omega | (simp only [World.size_alloc, size_setCell, size_drew, size_drewN]; omega) | (dsimp only; omega) | (simp only [World.size_alloc, size_setCell, size_drew, size_drewN]; dsimp only; omega)) _) | (with_reducible refine Below.setCell ?_ (by first | omega | (simp only [World.size_alloc, size_setCell, size_drew, size_drewN]; omega) | (dsimp only; omega) | (simp only [World.size_alloc, size_setCell, size_drew, size_drewN]; dsimp only; omega)) _) | (with_reducible apply below_drewN)))).mono ?_
  rintro e w1 ⟨rfl, hb1⟩
  have hB1 : Below w.heap.size w w1 := Below.trans (by repeat (first | with_reducible assumption | with_reducible exact Below.refl _ _ | with_reducible apply Below.drew | (with_reducible refine Below.alloc ?_ (by first | omega | (simp only [World.size_alloc, size_setCell, size_drew, size_drewN]; omega) | (dsimp only; omega) | (simp only [World.size_alloc, size_setCell, size_drew, size_drewN]; dsimp only; omega)) _) | (with_reducible refine Below.setCell ?_ (by first | omega | (simp only [World.size_alloc, size_setCell, size_drew, size_drewN]; omega) | (dsimp only; omega) | (simp only [World.size_alloc, size_setCell, size_drew, size_drewN]; dsimp only; omega)) _) | (with_reducible apply below_drewN))) (hb1.mono (by first | omega | (simp only [World.size_alloc, size_setCell, size_drew, size_drewN]; omega) | (dsimp only; omega) | (simp only [World.size_alloc, size_setCell, size_drew, size_drewN]; dsimp only; omega)))
  obtain ⟨hc1, hf1, hz1⟩ := bcell hb1
  try simp only [World.size_alloc, size_setCell, size_drew, size_drewN] at hz1
  clear hb1
  have y1_0 : w.heap.size < w1.heap.size := by omega
  go_wp2_with fail
  go_ret2
  exact ⟨rfl, by repeat (first | with_reducible assumption | with_reducible exact Below.refl _ _ | with_reducible apply Below.drew | (with_reducible refine Below.alloc ?_ (by first | omega | (simp only [World.size_alloc, size_setCell, size_drew, size_drewN]; omega) | (dsimp only; omega) | (simp only [World.size_alloc, size_setCell, size_drew, size_drewN]; dsimp only; omega)) _) | (with_reducible refine Below.setCell ?_ (by first | omega | (simp only [World.size_alloc, size_setCell, size_drew, size_drewN]; omega) | (dsimp only; omega) | (simp only [World.size_alloc, size_setCell, size_drew, size_drewN]; dsimp only; omega)) _) | (with_reducible apply below_drewN))⟩
set_option maxHeartbeats 1000000 in
theorem nth_out (g : GT) (hk : GT.Ok g) (i : Int) (h : i < 0 ∨ GT.count g ≤ i) (v : Value) (w : World) (hg : GenAt w v g) :
    Calls Tryd.prog 24 #[v, .int .i64 i] w fun e w' => e = .returned (.tuple #[.slice none 0 0, errV 1]) ∧ Below w.heap.size w w' := by
  obtain ⟨k, a, b, t, ad, cap, rfl⟩ := hg.shape
  have C1 := Lib.hid (fun W (h : Below w.heap.size w W) => gen_count_any g (.agg #[.int .i64 k, .int .i64 a, .int .i64 b, .slice ad t cap]) W (hg.ext h))
  rw [hk.countR, errV_zero] at C1
  generalize GT.count g = cn at *
  clear hg hk
  rcases h with h | h
  · go_enter Tryd.func24, Tryd.ntmps24
    go_wp2_with fail
    refine (C1.out _ (by repeat (first | with_reducible assumption | with_reducible exact Below.refl _ _ | with_reducible apply Below.drew | (with_reducible refine Below.alloc ?_ (by first | omega | (simp only [World.size_alloc, size_setCell, size_drew, size_drewN]; omega) | (dsimp only; omega) | (simp only [World.size_alloc, size_setCell, size_drew, size_drewN]; dsimp only; omega)) _) | (with_reducible refine Below.setCell ?_ (by first | omega | (simp only [World.size_alloc, size_setCell, size_drew, size_drewN]; omega) | (dsimp only; omega) | (simp only [World.size_alloc, size_setCell, size_drew, size_drewN]; dsimp only; omega)) _) | (with_reducible apply below_drewN)))).mono ?_
    rintro e w1 ⟨rfl, hb1⟩
    have hB1 : Below w.heap.size w w1 := Below.trans (by repeat (first | with_reducible assumption | with_reducible exact Below.refl _ _ | with_reducible apply Below.drew | (with_reducible refine Below.alloc ?_ (by first | omega | (simp only [World.size_alloc, size_setCell, size_drew, size_drewN]; omega) | (dsimp only; omega) | (simp only [World.size_alloc, size_setCell, size_drew, size_drewN]; dsimp only; omega)) _) | (with_reducible refine Below.setCell ?_ (by first | omega | (simp only [World.size_alloc, size_setCell, size_drew, size_drewN]; omega) | (dsimp only; omega) | (simp only [World.size_alloc, size_setCell, size_drew, size_drewN]; dsimp only; omega)) _) | (with_reducible apply below_drewN))) (hb1.mono (by first | omega | (simp only [World.size_alloc, size_setCell, size_drew, size_drewN]; omega) | (dsimp only; omega) | (simp only [World.size_alloc, size_setCell, size_drew, size_drewN]; dsimp only; omega)))
    obtain ⟨hc1, hf1, hz1⟩ := bcell hb1
    try simp only [World.size_alloc, size_setCell, size_drew, size_drewN] at hz1
    clear hb1
    have y1_0 : w.heap.size < w1.heap.size := by omega
    go_wp2_with fail
    go_ret2
    exact ⟨rfl, by repeat (first | with_reducible assumption | with_reducible exact Below.refl _ _ | with_reducible apply Below.drew | (with_reducible refine Below.alloc ?_ (by first | omega | (simp only [World.size_alloc, size_setCell, size_drew, size_drewN]; omega) | (dsimp only; omega) | (simp only [World.size_alloc, size_setCell, size_drew, size_drewN]; dsimp only; omega)) _) | (with_reducible refine Below.setCell ?_ (by first | omega | (simp only [World.size_alloc, size_setCell, size_drew, size_drewN]; omega) | (dsimp only; omega) | (simp only [World.size_alloc, size_setCell, size_drew, size_drewN]; dsimp only; omega)) _) | (with_reducible apply below_drewN))⟩
  · by_cases h0 : i < 0
    · go_enter Tryd.func24, Tryd.ntmps24
      go_wp2_with fail
      refine (C1.out _ (by repeat (first | with_reducible assumption | with_reducible exact Below.refl _ _ | with_reducible apply Below.drew | (with_reducible refine Below.alloc ?_ (by first | omega | (simp only [World.size_alloc, size_setCell, size_drew, size_drewN]; omega) | (dsimp only; omega) | (simp only [World.size_alloc, size_setCell, size_drew, size_drewN]; dsimp only; omega)) _) | (with_reducible refine Below.setCell ?_ (by first | omega | (simp only [World.size_alloc, size_setCell, size_drew, size_drewN]; omega) | (dsimp only; omega) | (simp only [World.size_alloc, size_setCell, size_drew, size_drewN]; dsimp only; omega)) _) | (with_reducible apply below_drewN)))).mono ?_
      rintro e w1 ⟨rfl, hb1⟩
      have hB1 : Below w.heap.size w w1 := Below.trans (by repeat (first | with_reducible assumption | with_reducible exact Below.refl _ _ | with_reducible apply Below.drew | (with_reducible refine Below.alloc ?_ (by first | omega | (simp only [World.size_alloc, size_setCell, size_drew, size_drewN]; omega) | (dsimp only; omega) | (simp only [World.size_alloc, size_setCell, size_drew, size_drewN]; dsimp only; omega)) _) | (with_reducible refine Below.setCell ?_ (by first | omega | (simp only [World.size_alloc, size_setCell, size_drew, size_drewN]; omega) | (dsimp only; omega) | (simp only [World.size_alloc, size_setCell, size_drew, size_drewN]; dsimp only; omega)) _) | (with_reducible apply below_drewN))) (hb1.mono (by first | omega | (simp only [World.size_alloc, size_setCell, size_drew, size_drewN]; omega) | (dsimp only; omega) | (simp only [World.size_alloc, size_setCell, size_drew, size_drewN]; dsimp only; omega)))
      obtain ⟨hc1, hf1, hz1⟩ := bcell hb1
      try simp only [World.size_alloc, size_setCell, size_drew, size_drewN] at hz1
      clear hb1
      have y1_0 : w.heap.size < w1.heap.size := by omega
      go_wp2_with fail
      go_ret2
      exact ⟨rfl, by repeat (first | with_reducible assumption | with_reducible exact Below.refl _ _ | with_reducible apply Below.drew | (with_reducible refine Below.alloc ?_ (by first | omega | (simp only [World.size_alloc, size_setCell, size_drew, size_drewN]; omega) | (dsimp only; omega) | (simp only [World.size_alloc, size_setCell, size_drew, size_drewN]; dsimp only; omega)) _) | (with_reducible refine Below.setCell ?_ (by first | omega | (simp only [World.size_alloc, size_setCell, size_drew, size_drewN]; omega) | (dsimp only; omega) | (simp only [World.size_alloc, size_setCell, size_drew, size_drewN]; dsimp only; omega)) _) | (with_reducible apply below_drewN))⟩
    · go_enter Tryd.func24, Tryd.ntmps24
      go_wp2_with fail
      refine (C1.out _ (by repeat (first | with_reducible assumption | with_reducible exact Below.refl _ _ | with_reducible apply Below.drew | (with_reducible refine Below.alloc ?_ (by first | omega | (simp only [World.size_alloc, size_setCell, size_drew, size_drewN]; omega) | (dsimp only; omega) | (simp only [World.size_alloc, size_setCell, size_drew, size_drewN]; dsimp only; omega)) _) | (with_reducible refine Below.setCell ?_ (by first | omega | (simp only [World.size_alloc, size_setCell, size_drew, size_drewN]; omega) | (dsimp only; omega) | (simp only [World.size_alloc, size_setCell, size_drew, size_drewN]; dsimp only; omega)) _) | (with_reducible apply below_drewN)))).mono ?_
      rintro e w1 ⟨rfl, hb1⟩
      have hB1 : Below w.heap.size w w1 := Below.trans (by repeat (first | with_reducible assumption | with_reducible exact Below.refl _ _ | with_reducible apply Below.drew | (with_reducible refine Below.alloc ?_ (by first | omega | (simp only [World.size_alloc, size_setCell, size_drew, size_drewN]; omega) | (dsimp only; omega) | (simp only [World.size_alloc, size_setCell, size_drew, size_drewN]; dsimp only; omega)) _) | (with_reducible refine Below.setCell ?_ (by first | omega | (simp only [World.size_alloc, size_setCell, size_drew, size_drewN]; omega) | (dsimp only; omega) | (simp only [World.size_alloc, size_setCell, size_drew, size_drewN]; dsimp only; omega)) _) | (with_reducible apply below_drewN))) (hb1.mono (by first | omega | (simp only [World.size_alloc, size_setCell, size_drew, size_drewN]; omega) | (dsimp only; omega) | (simp only [World.size_alloc, size_setCell, size_drew, size_drewN]; dsimp only; omega)))
      obtain ⟨hc1, hf1, hz1⟩ := bcell hb1
      try simp only [World.size_alloc, size_setCell, size_drew, size_drewN] at hz1
      clear hb1
      have y1_0 : w.heap.size < w1.heap.size := by omega
      go_wp2_with fail
      go_ret2
      exact ⟨rfl, by repeat (first | with_reducible assumption | with_reducible exact Below.refl _ _ | with_reducible apply Below.drew | (with_reducible refine Below.alloc ?_ (by first | omega | (simp only [World.size_alloc, size_setCell, size_drew, size_drewN]; omega) | (dsimp only; omega) | (simp only [World.size_alloc, size_setCell, size_drew, size_drewN]; dsimp only; omega)) _) | (with_reducible refine Below.setCell ?_ (by first | omega | (simp only [World.size_alloc, size_setCell, size_drew, size_drewN]; omega) | (dsimp only; omega) | (simp only [World.size_alloc, size_setCell, size_drew, size_drewN]; dsimp only; omega)) _) | (with_reducible apply below_drewN))⟩
end Go.Proofs.YtbfnlaplhgknaaaDoor
namespace Go.Proofs.YtbfnlaplhgknaaaDoor
set_option maxRecDepth 100000
open Go.RowKit
set_option linter.unusedSimpArgs false
set_option linter.unusedVariables false
namespace GT
theorem NthR.inv_nil {i : Int} {t : List Int} (h : NthR [] i t) : i = 0 ∧ t = [] := by cases h; exact ⟨rfl, rfl⟩
theorem NthR.inv_just {a b : Int} {s rest : List GT} {i : Int} {t : List Int} (h : NthR (.mk 1 a b s :: rest) i t) : NthR rest i t := by
  cases h with
  | just h => exact h
  | choose hc _ _ => simp [Chs, kind] at hc
theorem NthR.inv_both {a b : Int} {s rest : List GT} {i : Int} {t : List Int} (h : NthR (.mk 3 a b s :: rest) i t) : NthR (s ++ rest) i t := by
  cases h with
  | both h => exact h
  | choose hc _ _ => simp [Chs, kind] at hc
theorem NthR.inv_choose {g : GT} {rest : List GT} {i : Int} {t : List Int} (hc : Chs g) (h : NthR (g :: rest) i t) : ∃ (j : Nat) (i' : Int) (t' : List Int) (hj : j < (brs g).length), t = (j : Int) :: t' ∧ i = prodL rest * sumP ((brs g).take j) + i' ∧ NthR ((brs g)[j] ++ rest) i' t' := by
  cases h with
  | just h => simp [Chs, kind] at hc
  | both h => simp [Chs, kind] at hc
  | choose hc hj h => exact ⟨_, _, _, hj, rfl, rfl, h⟩
end GT
/-- What holds at the head of Rank's loop. -/
structure RankI (g : GT) (i0 : Int) (tape : List Int) (w : World) (k : Nat) (l : List GT) (n i : Int) (p : Nat) (td : Value) (wr : World) : Prop where
  wt : GT.wtL l = k
  wb : GT.wtL l ≤ GT.wt g
  ok : GT.OkL l
  pr : GT.prodL l ≤ 1048576
  n0 : 0 ≤ n
  num : n + i = i0
  at' : p ≤ tape.length
  nth : GT.NthR l i (tape.drop p)
  td : GsV w wr (fun _ => True) td l
  below : Below w.heap.size w wr
theorem RankI.both {g : GT} {i0 : Int} {tape : List Int} {w : World} {k p : Nat} {a b : Int} {s rest : List GT} {n i : Int} {td v : Value} {wr w' : World} (h : RankI g i0 tape w k (.mk 3 a b s :: rest) n i p td wr) (hB : Below wr.heap.size wr w') (hv : GsV w w' (fun _ => True) v (s ++ rest)) :
    RankI g i0 tape w (GT.wtL (s ++ rest)) (s ++ rest) n i p v w' ∧ GT.wtL (s ++ rest) < k := by
  obtain ⟨h1, h2⟩ := h.ok.cons
  obtain ⟨h3, h4⟩ := GT.ok_both h1
  have hp : GT.prodL (.mk 3 a b s :: rest) = GT.prodL (s ++ rest) := by rw [GT.prodL_append]; simp only [GT.prodL, h4]
  have e2 := h.pr
  have e4 := h.wt
  have e4b := h.wb
  rw [hp] at e2
  have hwt : GT.wtL (.mk 3 a b s :: rest) = 1 + GT.wtL (s ++ rest) := by rw [GT.wtL_append]; simp [GT.wtL, GT.wt]; omega
  rw [hwt] at e4 e4b
  exact ⟨⟨rfl, by omega, h3.append h2, e2, h.n0, h.num, h.at', h.nth.inv_both, hv, h.below.trans (hB.mono h.below.size)⟩, by omega⟩
theorem RankI.just {g : GT} {i0 : Int} {tape : List Int} {w : World} {k p : Nat} {a b : Int} {s rest : List GT} {n i : Int} {td v : Value} {wr w' : World} (h : RankI g i0 tape w k (.mk 1 a b s :: rest) n i p td wr) (hB : Below wr.heap.size wr w') (hv : GsV w w' (fun _ => True) v rest) :
    RankI g i0 tape w (GT.wtL rest) rest n i p v w' ∧ GT.wtL rest < k := by
  obtain ⟨h1, h2⟩ := h.ok.cons
  have hp : GT.prodL (.mk 1 a b s :: rest) = GT.prodL rest := by simp [GT.prodL, GT.count]
  have e2 := h.pr
  have e4 := h.wt
  have e4b := h.wb
  rw [hp] at e2
  have hwt : GT.wtL (.mk 1 a b s :: rest) = 1 + GT.wtL rest := by simp [GT.wtL, GT.wt]
  rw [hwt] at e4 e4b
  exact ⟨⟨rfl, by omega, h2, e2, h.n0, h.num, h.at', h.nth.inv_just, hv, h.below.trans (hB.mono h.below.size)⟩, by omega⟩
theorem RankI.choose {g : GT} {i0 : Int} {tape : List Int} {w : World} {k p : Nat} {g1 : GT} {rest : List GT} {n i i' : Int} {td v : Value} {wr w' : World} (h : RankI g i0 tape w k (g1 :: rest) n i p td wr) (hc : GT.Chs g1) {j : Nat} (hj : j < (GT.brs g1).length) {t' : List Int}
    (ht : tape.drop p = (j : Int) :: t') (hi : i = GT.prodL rest * GT.sumP ((GT.brs g1).take j) + i') (hn : GT.NthR ((GT.brs g1)[j] ++ rest) i' t') (hB : Below wr.heap.size wr w') (hv : GsV w w' (fun _ => True) v ((GT.brs g1)[j] ++ rest)) :
    RankI g i0 tape w (GT.wtL ((GT.brs g1)[j] ++ rest)) ((GT.brs g1)[j] ++ rest) (n + GT.prodL rest * GT.sumP ((GT.brs g1).take j)) i' (p + 1) v w' ∧ GT.wtL ((GT.brs g1)[j] ++ rest) < k := by
  obtain ⟨h2, h3⟩ := h.ok.cons
  obtain ⟨h4, h5⟩ := GT.ok_brs h2 hc
  have hjk := h5 _ (List.getElem_mem hj)
  have hbd0 := hn.bd (hjk.append h3)
  have hbd := GT.branch_bd h2 hc h3 hj hbd0.1 hbd0.2
  have hprod : GT.prodL ((GT.brs g1)[j] ++ rest) ≤ GT.prodL (g1 :: rest) := by
    have h6 := GT.branch_bd h2 hc h3 hj (i := GT.prodL ((GT.brs g1)[j] ++ rest) - 1) (by have := (hjk.append h3).pos; omega) (by omega)
    omega
  have e2 := h.pr
  have e3 := h.n0
  have e4 := h.wt
  have e4b := h.wb
  have e5 := h.num
  have hw := GT.wt_brs (GT.check_ok h2.1) hc hj
  simp only [GT.wtL] at e4 e4b
  have hlt : p < tape.length := by
    rcases Nat.lt_or_ge p tape.length with e | e
    · exact e
    · rw [List.drop_eq_nil_of_le e] at ht; cases ht
  have hd : tape.drop (p + 1) = t' := by
    rw [List.drop_eq_getElem_cons hlt] at ht
    exact (List.cons.inj ht).2
  refine ⟨⟨rfl, by rw [GT.wtL_append]; omega, hjk.append h3, by omega, by omega, by omega, by omega, by rw [hd]; exact hn, hv, h.below.trans (hB.mono h.below.size)⟩, by rw [GT.wtL_append]; omega⟩
set_option maxRecDepth 100000 in
set_option maxHeartbeats 4000000 in
theorem rank_any (g : GT) (hk : GT.Ok g) (i0 : Int) (tape : List Int) (hn0 : GT.NthR [g] i0 tape) (v tv : Value) (w : World) (hg : GenAt w v g) (ht : IntsAt w tv tape) :
    Calls Tryd.prog 25 #[v, tv] w fun e w' => e = .returned (.tuple #[.int .i64 i0, .nilIface]) ∧ Below w.heap.size w w' := by
  obtain ⟨k, a, b, t, ad, cap, rfl⟩ := hg.shape
  have C1 := Lib.hid (fun W (h : Below w.heap.size w W) => gen_count_any g (.agg #[.int .i64 k, .int .i64 a, .int .i64 b, .slice ad t cap]) W (hg.ext h))
  rw [hk.countR, errV_zero] at C1
  have C2 := Lib.hid (fun W (h : Below w.heap.size w W) => replay_any g tape (.agg #[.int .i64 k, .int .i64 a, .int .i64 b, .slice ad t cap]) tv W (hg.ext h) (ht.ext h))
  rw [play_of_nth hk.1 hn0, errV_zero] at C2
  obtain ⟨tad, tcap, rfl, htl, htm, _, htc⟩ := ht.form
  have HTC := Lib.hid htc
  unfold maxLen at htm
  have HG := Lib.hid hg
  have HK := Lib.hid hk
  have HN0 := Lib.hid hn0
  have hi0 := hn0.bd (fun x hx => by rw [List.mem_singleton.1 hx]; exact hk)
  have hi1 := hi0.1
  have hi2 : i0 < 1048576 := by have h1 := hi0.2; have h2 := hk.2; simp only [GT.prodL] at h1; omega
  generalize GT.count g = cn at *
  clear hg hk hn0 ht htc hi0
  go_enter Tryd.func25, Tryd.ntmps25
  go_wp2_with fail
  refine (C1.out _ (by repeat (first | with_reducible assumption | with_reducible exact Below.refl _ _ | with_reducible apply Below.drew | (with_reducible refine Below.alloc ?_ (by first | omega | (simp only [World.size_alloc, size_setCell, size_drew, size_drewN]; omega) | (dsimp only; omega) | (simp only [World.size_alloc, size_setCell, size_drew, size_drewN]; dsimp only; omega)) _) | (with_reducible refine Below.setCell ?_ (by first | omega | (simp only [World.size_alloc, size_setCell, size_drew, size_drewN]; omega) | (dsimp only; omega) | (simp only [World.size_alloc, size_setCell, size_drew, size_drewN]; dsimp only; omega)) _) | (with_reducible apply below_drewN)))).mono ?_
  rintro e w1 ⟨rfl, hb1⟩
  have hB1 : Below w.heap.size w w1 := Below.trans (by repeat (first | with_reducible assumption | with_reducible exact Below.refl _ _ | with_reducible apply Below.drew | (with_reducible refine Below.alloc ?_ (by first | omega | (simp only [World.size_alloc, size_setCell, size_drew, size_drewN]; omega) | (dsimp only; omega) | (simp only [World.size_alloc, size_setCell, size_drew, size_drewN]; dsimp only; omega)) _) | (with_reducible refine Below.setCell ?_ (by first | omega | (simp only [World.size_alloc, size_setCell, size_drew, size_drewN]; omega) | (dsimp only; omega) | (simp only [World.size_alloc, size_setCell, size_drew, size_drewN]; dsimp only; omega)) _) | (with_reducible apply below_drewN))) (hb1.mono (by first | omega | (simp only [World.size_alloc, size_setCell, size_drew, size_drewN]; omega) | (dsimp only; omega) | (simp only [World.size_alloc, size_setCell, size_drew, size_drewN]; dsimp only; omega)))
  have x1 := (Blk.new w #[.int .i64 k, .int .i64 a, .int .i64 b, .slice ad t cap] 24).ext hb1
  have f0 := x1.cell 0
  have f1 := x1.cell 1
  have f2 := x1.cell 2
  have f3 := x1.cell 3
  have fl := x1.lt
  simp only [List.getElem?_toArray, List.getElem?_cons_succ, List.getElem?_cons_zero] at f0 f1 f2 f3
  have hz1 := hB1.size
  clear hb1
  go_wp2_with fail
  refine (C2.out _ (by repeat (first | with_reducible assumption | with_reducible exact Below.refl _ _ | with_reducible apply Below.drew | (with_reducible refine Below.alloc ?_ (by first | omega | (simp only [World.size_alloc, size_setCell, size_drew, size_drewN]; omega) | (dsimp only; omega) | (simp only [World.size_alloc, size_setCell, size_drew, size_drewN]; dsimp only; omega)) _) | (with_reducible refine Below.setCell ?_ (by first | omega | (simp only [World.size_alloc, size_setCell, size_drew, size_drewN]; omega) | (dsimp only; omega) | (simp only [World.size_alloc, size_setCell, size_drew, size_drewN]; dsimp only; omega)) _) | (with_reducible apply below_drewN)))).mono ?_
  rintro e w2 ⟨⟨rv, rfl, hrv⟩, hb2⟩
  obtain ⟨rl, rn, rk, rad, rcap, rfl⟩ := hrv.shape
  have hB2 : Below w.heap.size w w2 := hB1.trans (hb2.mono (by omega))
  have x2 := x1.ext hb2
  clear f0 f1 f2 f3 fl hb2 hrv
  have f0 := x2.cell 0
  have f1 := x2.cell 1
  have f2 := x2.cell 2
  have f3 := x2.cell 3
  have fl := x2.lt
  simp only [List.getElem?_toArray, List.getElem?_cons_succ, List.getElem?_cons_zero] at f0 f1 f2 f3
  have hz2 := hB2.size
  have y2 := x2.alloc (.cells #[.bool rl, .int .i64 rn, .slice rad rk rcap] 38)
  have g0 := y2.cell 0
  have g1 := y2.cell 1
  have g2 := y2.cell 2
  have g3 := y2.cell 3
  simp only [List.getElem?_toArray, List.getElem?_cons_succ, List.getElem?_cons_zero] at g0 g1 g2 g3
  go_wp2_with fail
  have x3 := Blk.new (w2.alloc (.cells #[.bool rl, .int .i64 rn, .slice rad rk rcap] 38)) #[.int .i64 k, .int .i64 a, .int .i64 b, .slice ad t cap] 24
  have hI : Hid (RankI g i0 tape w (GT.wtL [g]) [g] 0 i0 0 (.slice (some ⟨w2.heap.size + 1, 0, none⟩) 1 1) ((w2.alloc (.cells #[.bool rl, .int .i64 rn, .slice rad rk rcap] 38)).alloc (.cells #[.int .i64 k, .int .i64 a, .int .i64 b, .slice ad t cap] 24))) := by
    simp only [World.size_alloc] at x3
    refine ⟨rfl, by simp [GT.wtL], fun x hx => by rw [List.mem_singleton.1 hx]; exact HK.out, by simp only [GT.prodL]; have := HK.out.2; omega, by omega, by omega, by omega, HN0.out, gsv_new x3 trivial HG.out, by repeat (first | with_reducible assumption | with_reducible exact Below.refl _ _ | with_reducible apply Below.drew | (with_reducible refine Below.alloc ?_ (by first | omega | (simp only [World.size_alloc, size_setCell, size_drew, size_drewN]; omega) | (dsimp only; omega) | (simp only [World.size_alloc, size_setCell, size_drew, size_drewN]; dsimp only; omega)) _) | (with_reducible refine Below.setCell ?_ (by first | omega | (simp only [World.size_alloc, size_setCell, size_drew, size_drewN]; omega) | (dsimp only; omega) | (simp only [World.size_alloc, size_setCell, size_drew, size_drewN]; dsimp only; omega)) _) | (with_reducible apply below_drewN))⟩
  have hB3 : Below w.heap.size w ((w2.alloc (.cells #[.bool rl, .int .i64 rn, .slice rad rk rcap] 38)).alloc (.cells #[.int .i64 k, .int .i64 a, .int .i64 b, .slice ad t cap] 24)) := by repeat (first | with_reducible assumption | with_reducible exact Below.refl _ _ | with_reducible apply Below.drew | (with_reducible refine Below.alloc ?_ (by first | omega | (simp only [World.size_alloc, size_setCell, size_drew, size_drewN]; omega) | (dsimp only; omega) | (simp only [World.size_alloc, size_setCell, size_drew, size_drewN]; dsimp only; omega)) _) | (with_reducible refine Below.setCell ?_ (by first | omega | (simp only [World.size_alloc, size_setCell, size_drew, size_drewN]; omega) | (dsimp only; omega) | (simp only [World.size_alloc, size_setCell, size_drew, size_drewN]; dsimp only; omega)) _) | (with_reducible apply below_drewN))
  clear f0 f1 f2 f3 fl g0 g1 g2 g3 x1 x2 y2 x3 hz1 hB1 hB2 hz2 C1 C2
  generalize (w2.alloc (.cells #[.bool rl, .int .i64 rn, .slice rad rk rcap] 38)).alloc (.cells #[.int .i64 k, .int .i64 a, .int .i64 b, .slice ad t cap] 24) = W at *
  generalize w2.heap.size = z2 at *
  go_loopg [10, 11, 12] (GT.wtL [g]) (fun k n' p' td wr => ∃ l n i p, n' = .int .i64 n ∧ p' = .int .i64 ((p : Nat) : Int) ∧ RankI g i0 tape w k l n i p td wr)
  case atStart => exact ⟨_, _, _, 0, rfl, rfl, hI.out⟩
  case round =>
    obtain ⟨l, n, i, p, rfl, rfl, hN⟩ := hrel
    obtain ⟨wo, rfl⟩ : ∃ wo : World, wo = wr := ⟨_, rfl⟩
    clear hI hB3
    have HN := Lib.hid hN
    obtain ⟨ad9, cap9, rfl, hl9, hm9, hn9, hg9⟩ := hN.td
    have hbr := hN.below
    have hzr := hbr.size
    unfold maxLen at hm9
    cases l with
    | nil =>
      have hn : n = i0 := by have h1 := hN.num; have h2 := hN.nth.inv_nil.1; omega
      clear hN
      subst hn
      go_wp2_with fail
      go_ret2
      exact ⟨rfl, hbr⟩
    | cons g1 rest =>
      obtain ⟨bl, off, rfl, hlt1, hs1, hc9⟩ := hg9.at' (by simp)
      obtain ⟨k2, a2, b2, t2, ad2, cap2, c0, c1, c2, c3, hg2⟩ := hc9 0 (by simp)
      simp only [Nat.zero_mul, Nat.add_zero, List.getElem_cons_zero] at c0 c1 c2 c3 hg2
      clear hc9 hN
      have HG9 := Lib.hid hg9
      clear hg9
      have q0 : (0 : Int) < ((g1 :: rest).length : Int) := by simp
      have q1 : ((g1 :: rest).length : Int) = (rest.length : Int) + 1 := by simp
      have hl10 : rest.length + 1 ≤ cap9 := hl9
      go_wp2_with fail
      go_region
      have hrv : ∃ adr, (if cap9 = 1 then some (⟨bl, off, none⟩ : Addr) else some ⟨bl, off + 4, none⟩) = some adr ∧ GsAt w wo (fun _ => True) (some adr) rest := by
        by_cases hc1 : cap9 = 1
        · have : rest = [] := List.length_eq_zero_iff.1 (by omega)
          subst this
          exact ⟨⟨bl, off, none⟩, by rw [if_pos hc1], GsAt.nil _ _ _ _⟩
        · exact ⟨⟨bl, off + 4, none⟩, by rw [if_neg hc1], HG9.out.tail⟩
      obtain ⟨adr, hadr, hgr⟩ := hrv
      rw [hadr]
      have hB3 : Below wo.heap.size wo (wo.alloc (.cells #[.int .i64 k2, .int .i64 a2, .int .i64 b2, .slice ad2 t2 cap2] 24)).drew := by repeat (first | with_reducible assumption | with_reducible exact Below.refl _ _ | with_reducible apply Below.drew | (with_reducible refine Below.alloc ?_ (by first | omega | (simp only [World.size_alloc, size_setCell, size_drew, size_drewN]; omega) | (dsimp only; omega) | (simp only [World.size_alloc, size_setCell, size_drew, size_drewN]; dsimp only; omega)) _) | (with_reducible refine Below.setCell ?_ (by first | omega | (simp only [World.size_alloc, size_setCell, size_drew, size_drewN]; omega) | (dsimp only; omega) | (simp only [World.size_alloc, size_setCell, size_drew, size_drewN]; dsimp only; omega)) _) | (with_reducible apply below_drewN))
      have x3 : Blk (wo.alloc (.cells #[.int .i64 k2, .int .i64 a2, .int .i64 b2, .slice ad2 t2 cap2] 24)).drew wo.heap.size #[.int .i64 k2, .int .i64 a2, .int .i64 b2, .slice ad2 t2 cap2] 24 := (Blk.new _ _ _).drew
      have hz3 : (wo.alloc (.cells #[.int .i64 k2, .int .i64 a2, .int .i64 b2, .slice ad2 t2 cap2] 24)).drew.heap.size = wo.heap.size + 1 := by simp [size_drew]
      have HGR : Hid (GsV w wo (fun _ => True) (.slice (some adr) rest.length (cap9 - 1)) rest) := ⟨some adr, cap9 - 1, rfl, by omega, by unfold maxLen; omega, (fun e => by cases e), hgr⟩
      have HGN := Lib.hid hg2
      clear hgr hadr q0 q1 c0 c1 c2 c3 hg2 hs1 hlt1 HG9 hn9
      generalize (wo.alloc (.cells #[.int .i64 k2, .int .i64 a2, .int .i64 b2, .slice ad2 t2 cap2] 24)).drew = W3 at *
      have d0 := x3.cell 0
      have d3 := x3.cell 3
      simp only [List.getElem?_toArray, List.getElem?_cons_succ, List.getElem?_cons_zero] at d0 d3

      have hlen : rest.length ≤ 1399680 := by
        have h1 := HN.out.wb
        have h2 := GT.wt_ok HK.out.1
        have h3 := GT.wtL_len (g1 :: rest)
        simp only [List.length_cons] at h3
        omega
      obtain ⟨k3, a3, b3, s3, ad3, cap3, hmk, hv3, _, _, _, hl3, hm3, hs3⟩ := HGN.out.form
      simp only [Value.agg.injEq] at hv3
      have e0 := congrArg (fun z : Array Value => z[0]?) hv3
      have e1 := congrArg (fun z : Array Value => z[1]?) hv3
      have e2 := congrArg (fun z : Array Value => z[2]?) hv3
      have e3 := congrArg (fun z : Array Value => z[3]?) hv3
      simp at e0 e1 e2 e3
      obtain ⟨rfl, rfl, rfl⟩ := e3
      subst e0 e1 e2
      clear hv3
      subst hmk
      have hok := HN.out.ok.cons.1
      by_cases hc : GT.Chs (.mk k2 a2 b2 s3)
      · have hne : (k2 == 3) = false := by
          simp only [GT.Chs, GT.kind] at hc
          simp; omega
        have HC := Lib.hid hc
        have hpr := HN.out.pr
        have hokr := Lib.hid (HN.out.ok.cons.2)
        have hprr : GT.prodL rest ≤ 1048576 := by
          have h1 := hok.pos
          have h2 := hokr.out.pos
          have := Int.mul_le_mul_of_nonneg_right h1 (show 0 ≤ GT.prodL rest by omega)
          simp only [GT.prodL] at hpr
          omega
        have CP := Lib.hid (fun W (h : Below wo.heap.size wo W) => product_any rest hokr.out hprr _ _ w W (hbr.trans (h.mono hzr)) (HGR.out.keepB h))
        have CB := Lib.hid (fun W (h : Below wo.heap.size wo W) => branches_any (.mk k2 a2 b2 s3) hok hc _ w W (hbr.trans (h.mono hzr)) HGN.out)
        have HOK := Lib.hid hok
        obtain ⟨j, i', t', hj, htd, hi, hn'⟩ := HN.out.nth.inv_choose hc
        have hplt : p < tape.length := by
          rcases Nat.lt_or_ge p tape.length with e | e
          · exact e
          · rw [List.drop_eq_nil_of_le e] at htd; cases htd
        have htj : tape.getD p 0 = j := by
          rw [List.drop_eq_getElem_cons hplt] at htd
          simp [List.getD_eq_getElem?_getD, List.getElem?_eq_getElem hplt, (List.cons.inj htd).1]
        obtain ⟨tbl, toff, rfl, htb, htc⟩ := HTC.out (by omega)
        have hcp := htc p hplt
        rw [htj] at hcp
        have hwtb : tbl < wo.heap.size := by omega
        have hcpo := (hbr.cell (p := ⟨tbl, toff + p, none⟩) htb).trans hcp
        clear hcp htc
        have hbl := GT.brs_len hok.1 hc
        have hbl2 := hbl.2
        have HX := Lib.hid (And.intro htd (And.intro hi (And.intro hn' htj)))
        clear hc hpr hprr hok htd hi hn' htj hbl
        obtain ⟨Bn, hBn⟩ : ∃ Bn, Bn = (GT.brs (.mk k2 a2 b2 s3)).length := ⟨_, rfl⟩
        have hjB : j < Bn := by omega
        rw [← hBn] at hbl2
        have HBN := Lib.hid hBn
        clear hBn
        obtain ⟨pr, hpre⟩ : ∃ pr, pr = GT.prodL rest := ⟨_, rfl⟩
        rw [← hpre] at CP
        have HPE := Lib.hid hpre
        clear hpre
        have x3g := x3.cell 1
        have x3h := x3.cell 2
        simp only [List.getElem?_toArray, List.getElem?_cons_succ, List.getElem?_cons_zero] at x3g x3h
        go_wp2_with fail
        refine (CB.out _ (by exact hB3)).mono ?_
        rintro e w4 ⟨⟨u, rfl, hnn, hbrs⟩, hb4⟩
        have hB4 : Below wo.heap.size wo w4 := hB3.trans (hb4.mono (by omega))
        obtain ⟨uad, ucap, rfl, hul, hum, hun, huc⟩ := hbrs
        obtain ⟨ubl, uoff, rfl, hub1, hub2, huu⟩ := huc (by rw [← HBN.out]; omega)
        have hq := fun (w : World) (n c : Nat) => Lib.run_eql_slice_nil (P := Tryd.prog) w 86 22 (some ⟨ubl, uoff, none⟩) n c 0 0 Tryd.underlying86
        rw [← HBN.out] at hul
        rw [← HBN.out]
        unfold maxLen at hum
        have HUU := Lib.hid huu
        have hz3 := hB3.size
        have hz4 := hB4.size
        have hz43 := hb4.size
        clear huc huu hnn d0 d3 x3g x3h hb4 x3 CB hun
        go_wp2_with fail
        refine (CP.out _ hB4).mono ?_
        rintro e w5 ⟨rfl, hb5⟩
        have hB5 : Below wo.heap.size wo w5 := hB4.trans (hb5.mono hB4.size)
        have hcp5 := (hB5.cell (p := ⟨tbl, toff + p, none⟩) hwtb).trans hcpo
        have hz5 := hb5.size
        clear CP hq
        have pj0 : (0 : Int) ≤ (j : Int) := by omega
        have pj1 : (p : Int) < (tape.length : Int) := by omega
        have pj2 : (j : Int) ≤ (Bn : Int) := by omega
        have pj3 : (0 : Int) ≤ (p : Int) := by omega
        go_wp2_with fail
        have HI0 := Lib.hid HN.out.num
        have hin0 := HN.out.n0
        have hnnB : 0 ≤ i' := by
          have h5 := (GT.ok_brs HOK.out HC.out).2 _ (List.getElem_mem hj)
          exact (HX.out.2.2.1.bd (h5.append hokr.out)).1
        have hsB : pr * GT.sumP ((GT.brs (.mk k2 a2 b2 s3)).take j) ≤ i := by have h1 := HX.out.2.1; rw [← HPE.out] at h1; omega
        have HSB := Lib.hid hsB
        clear hsB
        go_loopw [10, 69] (fun q r w6 => ∃ (m : Nat) (n' : Int), m ≤ j ∧ r = .int .i64 m ∧ q = .int .i64 n' ∧ 0 ≤ n' ∧ n' ≤ 1048576 ∧ Hid (n' = n + pr * GT.sumP ((GT.brs (.mk k2 a2 b2 s3)).take m)) ∧ Below w5.heap.size w5 w6) (fun _ r _ => j - (intOf r).toNat)
        case atStart =>
          have hi1' := HI0.out
          have : 0 ≤ i := by have h2 := HSB.out; have h1 := GT.sumP_take_nonneg (GT.brs (.mk k2 a2 b2 s3)) (fun l hl => ((GT.ok_brs HOK.out HC.out).2 l hl).pos) j; have h3 := hokr.out.pos; rw [← HPE.out] at h3; have := Int.mul_nonneg (show 0 ≤ pr by omega) h1; omega
          exact ⟨0, n, by omega, rfl, rfl, hin0, by omega, (show n = n + pr * GT.sumP ((GT.brs (.mk k2 a2 b2 s3)).take 0) by simp [GT.sumP]), Below.refl _ _⟩
        case round =>
          obtain ⟨m, n', hm, rfl, rfl, hn'0, hn'1, HNN, hb6⟩ := hrel
          have hz6 := hb6.size
          have hB6 : Below wo.heap.size wo wr := hB5.trans (hb6.mono hB5.size)
          by_cases hlt : m < j
          · have hl : (m : Int) < (j : Int) := by omega
            have hp0 : (0 : Int) ≤ (m : Int) := by omega
            have hmB : m < (GT.brs (.mk k2 a2 b2 s3)).length := by rw [← HBN.out]; omega
            obtain ⟨uv, huv, huR⟩ := HUU.out m hmB
            have huv6 := (hb6.cell (p := ⟨ubl, uoff + m, none⟩) (by simpa using Nat.lt_of_lt_of_le hub1 hz5)).trans ((hb5.cell (p := ⟨ubl, uoff + m, none⟩) hub1).trans huv)
            have huR6 := Lib.hid ((huR.keepB hb5).keepB (hb6.mono (Nat.le_refl _)))
            obtain ⟨va, vn, vc, rfl⟩ : ∃ a n c, uv = .slice a n c := by obtain ⟨a, c, e, _⟩ := huR; exact ⟨a, _, c, e⟩
            have hbk := (GT.ok_brs HOK.out HC.out).2 _ (List.getElem_mem hmB)
            have hposl : ∀ l ∈ GT.brs (.mk k2 a2 b2 s3), 1 ≤ GT.prodL l := fun l hl => ((GT.ok_brs HOK.out HC.out).2 l hl).pos
            have hp1 := hbk.pos
            have hpr1 : 1 ≤ pr := by rw [HPE.out]; exact hokr.out.pos
            have HST := Lib.hid (GT.sumP_take_succ (GT.brs (.mk k2 a2 b2 s3)) m hmB)
            have hsum : n' + pr * GT.prodL (GT.brs (.mk k2 a2 b2 s3))[m] ≤ 1048576 := by
              have h1 := HNN.out
              have h2 := Int.mul_le_mul_of_nonneg_left (GT.sumP_take_le (GT.brs (.mk k2 a2 b2 s3)) hposl (m + 1) j (by omega)) (show 0 ≤ pr by omega)
              rw [HST.out, Int.mul_add] at h2
              have h3 := HSB.out
              have h4 := HI0.out
              omega
            have hpp : 0 ≤ pr * GT.prodL (GT.brs (.mk k2 a2 b2 s3))[m] := Int.mul_nonneg (by omega) (by omega)
            have hpb : GT.prodL (GT.brs (.mk k2 a2 b2 s3))[m] ≤ 1048576 := by
              have := Int.mul_le_mul_of_nonneg_right hpr1 (show 0 ≤ GT.prodL (GT.brs (.mk k2 a2 b2 s3))[m] by omega)
              omega
            have CQ := Lib.hid (fun W (h : Below wr.heap.size wr W) => product_any _ hbk hpb _ _ w W (hbr.trans (hB6.mono hzr |>.trans (h.mono (by omega)))) (huR6.out.keepB h))
            clear hpb huR huv hbk hposl hpr1
            obtain ⟨pb, hpb⟩ : ∃ pb, pb = GT.prodL (GT.brs (.mk k2 a2 b2 s3))[m] := ⟨_, rfl⟩
            rw [← hpb] at CQ HST hp1 hpp hsum
            clear hpb
            have hwr : IntKind.i64.wrap (pr * pb) = pr * pb := IntWalk.i64_in _ (by omega)
            obtain ⟨pm, hpm⟩ : ∃ pm, pr * pb = pm := ⟨_, rfl⟩
            have hwr2 : IntKind.i64.wrap (pr * pb) = pm := hwr.trans hpm
            rw [hpm] at hpp hsum
            have HPM := Lib.hid hpm
            have HWR := Lib.hid hwr2
            clear hpm hwr hwr2
            go_wp2_with fail
            refine (CQ.out _ (by repeat (first | with_reducible assumption | with_reducible exact Below.refl _ _ | with_reducible apply Below.drew | (with_reducible refine Below.alloc ?_ (by first | omega | (simp only [World.size_alloc, size_setCell, size_drew, size_drewN]; omega) | (dsimp only; omega) | (simp only [World.size_alloc, size_setCell, size_drew, size_drewN]; dsimp only; omega)) _) | (with_reducible refine Below.setCell ?_ (by first | omega | (simp only [World.size_alloc, size_setCell, size_drew, size_drewN]; omega) | (dsimp only; omega) | (simp only [World.size_alloc, size_setCell, size_drew, size_drewN]; dsimp only; omega)) _) | (with_reducible apply below_drewN)))).mono ?_
            rintro e w7 ⟨rfl, hb7⟩
            have hwr := HWR.out
            go_wp2_with fail
            clear hwr
            have hB7 : Below w5.heap.size w5 w7 := hb6.trans (hb7.mono hz6)
            refine ⟨⟨m + 1, n' + pm, by omega, by go_num, rfl, by omega, by omega, ?_, hB7⟩, by simp [intOf]; omega⟩
            have h1 := HNN.out
            show n' + pm = n + pr * GT.sumP ((GT.brs (.mk k2 a2 b2 s3)).take (m + 1))
            rw [HST.out, Int.mul_add, HPM.out]
            omega
          · obtain rfl : m = j := by omega
            have hl : ¬ (m : Int) < (m : Int) := by omega
            have hcp6 := (hb6.cell (p := ⟨tbl, toff + p, none⟩) (by simp; omega)).trans hcp5
            obtain ⟨uv, huv, huR⟩ := HUU.out m hj
            have huv6 := (hb6.cell (p := ⟨ubl, uoff + m, none⟩) (by simpa using Nat.lt_of_lt_of_le hub1 hz5)).trans ((hb5.cell (p := ⟨ubl, uoff + m, none⟩) hub1).trans huv)
            obtain ⟨cs1, hcs1, hs1⟩ := ((huR.keepB hb5).keepB hb6).src
            obtain ⟨va, vn, vc, rfl⟩ : ∃ a n c, uv = .slice a n c := by obtain ⟨a, c, e, _⟩ := huR; exact ⟨a, _, c, e⟩
            obtain ⟨cs2, hcs2, hs2⟩ := (HGR.out.keepB hB6).src
            have hzB6 := hB6.size
            have hlenj : (GT.brs (.mk k2 a2 b2 s3))[m].length ≤ 1399680 := by
              have h1 := HN.out.wb
              have h2 := GT.wt_ok HK.out.1
              have h3 := GT.wtL_len (GT.brs (.mk k2 a2 b2 s3))[m]
              have h4 := GT.wt_brs (GT.check_ok HOK.out.1) HC.out hj
              simp only [GT.wtL] at h1
              omega
            have pj5 : (m : Int) < (Bn : Int) := by omega
            have l1 : tbl < wr.heap.size := by omega
            have l2 : ubl < wr.heap.size := by omega
            clear huv huR
            go_wp2_with (first | (at_builtin; refine append_gens (w0 := w) (v := .slice (some ⟨wr.heap.size, 0, none⟩) 0 0) (o := ⟨some 88, _, _, _, _, _⟩) rfl _ _ rfl rfl (OwnGs.emptyAt (w := wr) (lo := wr.heap.size) (by omega) rfl) rfl (hs1.ext (by repeat (first | with_reducible assumption | with_reducible exact Below.refl _ _ | with_reducible apply Below.drew | (with_reducible refine Below.alloc ?_ (by first | omega | (simp only [World.size_alloc, size_setCell, size_drew, size_drewN]; omega) | (dsimp only; omega) | (simp only [World.size_alloc, size_setCell, size_drew, size_drewN]; dsimp only; omega)) _) | (with_reducible refine Below.setCell ?_ (by first | omega | (simp only [World.size_alloc, size_setCell, size_drew, size_drewN]; omega) | (dsimp only; omega) | (simp only [World.size_alloc, size_setCell, size_drew, size_drewN]; dsimp only; omega)) _) | (with_reducible apply below_drewN)))) hcs1 (by simp; omega) (by simp) ?_; intro v9 w9 k1 k2 k3 k4; have hb9 : Below wr.heap.size wr w9 := (((Below.refl _ _).alloc (Nat.le_refl _) _).grown k2 (by simp) (fun k hk => by simp [Value.ownBlock] at hk; omega)); clear k2 k3 k4) | (at_builtin; refine append_gens (w0 := w) (v := v9) (o := ⟨some 90, _, _, _, _, _⟩) rfl _ _ rfl rfl k1 rfl (hs2.ext hb9) hcs2 (by simp; omega) (by exact hb9.size) ?_; intro v10 w10 m1 m2 m3 m4))
            have hb10 : Below wr.heap.size wr w10 := hb9.grown m2 hb9.size (fun k hk => (k1.form2 k hk).1)
            rw [List.nil_append] at m1
            have H : Hid (_ ∧ _) := HN.out.choose HC.out hj HX.out.1 HX.out.2.1 HX.out.2.2.1 (hB6.trans (hb10.mono hzB6)) (m1.v.mono (fun _ _ _ => trivial))
            have HN' : Hid (n' = n + GT.prodL rest * GT.sumP ((GT.brs (.mk k2 a2 b2 s3)).take m)) := by have := HNN.out; rw [HPE.out] at this; exact this
            clear k1 m1 m2 m3 m4 hb9 hcs1 hcs2 hs1 hs2 hb10
            go_roundg (GT.wtL ((GT.brs (.mk k2 a2 b2 s3))[m] ++ rest))
            case measure => exact H.out.2
            case rel => exact ⟨_, _, _, p + 1, rfl, by go_num, by rw [HN'.out]; exact H.out.1⟩
      · have hk13 : k2 = 1 ∨ k2 = 3 := by
          simp only [GT.Chs, GT.kind] at hc
          rcases GT.one_cases (GT.ok_one (GT.check_ok hok.1)) with ⟨e, _⟩ | ⟨e, h0, h0', h1, h2, h3⟩ | e | ⟨e, h1, h2, h3⟩ | ⟨e, h1⟩ <;> omega
        clear hc
        rcases hk13 with rfl | rfl
        · have hne : ((1 : Int) == 3) = false := by decide
          have hq := fun (w : World) (n c : Nat) => Lib.run_eql_slice_nil (P := Tryd.prog) w 86 22 none n c 0 0 Tryd.underlying86
          have x3g := x3.cell 1
          have x3h := x3.cell 2
          simp only [List.getElem?_toArray, List.getElem?_cons_succ, List.getElem?_cons_zero] at x3g x3h
          clear hok
          go_wp2_with fail
          refine (branches_1 _ _ s3 _ _ _ w _).mono ?_
          rintro e w5 ⟨rfl, hb5⟩
          have hB5 : Below wo.heap.size wo w5 := hB3.trans (hb5.mono hB3.size)
          have H := Lib.hid (HN.out.just hB5 (HGR.out.keepB hB5))
          clear d0 d3 x3g x3h hb5
          go_wp2_with fail
          go_roundg (GT.wtL rest)
          case measure => exact H.out.2
          case rel => exact ⟨_, _, _, _, rfl, rfl, H.out.1⟩
        · have hgs := hs3.gs (w := W3) (hbr.trans (hB3.mono hzr))
          have hlen3 : s3.length ≤ 29 := (GT.parts_kids (GT.check_parts hok.1)).1
          obtain ⟨cs1, hcs1, hsrc1⟩ := hgs.src HGN.out.nil0
          obtain ⟨cs2, hcs2, hsrc2⟩ := (HGR.out.keepB hB3).src
          have q2 : (3 : Int) == 3 := rfl
          go_wp2_with (first | (at_builtin; refine append_gens (w0 := w) (v := .slice (some ⟨wo.heap.size + 1, 0, none⟩) 0 0) (o := ⟨some 52, _, _, _, _, _⟩) rfl _ _ rfl rfl (OwnGs.emptyAt (w := W3) (lo := wo.heap.size) (by omega) (by omega)) rfl (hsrc1.ext (by repeat (first | with_reducible assumption | with_reducible exact Below.refl _ _ | with_reducible apply Below.drew | (with_reducible refine Below.alloc ?_ (by first | omega | (simp only [World.size_alloc, size_setCell, size_drew, size_drewN]; omega) | (dsimp only; omega) | (simp only [World.size_alloc, size_setCell, size_drew, size_drewN]; dsimp only; omega)) _) | (with_reducible refine Below.setCell ?_ (by first | omega | (simp only [World.size_alloc, size_setCell, size_drew, size_drewN]; omega) | (dsimp only; omega) | (simp only [World.size_alloc, size_setCell, size_drew, size_drewN]; dsimp only; omega)) _) | (with_reducible apply below_drewN)))) hcs1 (by simp; omega) (by simp; omega) ?_; intro v5 w5 g1 g2 g3 g4; have hb5 : Below wo.heap.size wo w5 := ((hB3.alloc (by omega) _).grown g2 (by simp; omega) (fun k hk => by simp [Value.ownBlock] at hk; omega)); have hb5' : Below W3.heap.size W3 w5 := (((Below.refl _ _).alloc (Nat.le_refl _) _).grown g2 (by simp) (fun k hk => by simp [Value.ownBlock] at hk; omega)); clear g2 g3 g4) | (at_builtin; refine append_gens (w0 := w) (v := v5) (o := ⟨some 54, _, _, _, _, _⟩) rfl _ _ rfl rfl g1 rfl (hsrc2.ext hb5') hcs2 (by simp; omega) (by exact hb5.size) ?_; intro v6 w6 g5 g6 g7 g8))
          have hB6 := hb5.grown g6 hb5.size (fun k hk => (g1.form2 k hk).1)
          rw [List.nil_append] at g5
          have H := Lib.hid (HN.out.both hB6 (g5.v.mono (fun _ _ _ => trivial)))
          clear g1 g5 g6 g7 g8 hb5 hb5' hcs1 hcs2 hsrc1 hsrc2
          go_roundg (GT.wtL (s3 ++ rest))
          case measure => exact H.out.2
          case rel => exact ⟨_, _, _, _, rfl, rfl, H.out.1⟩
set_option maxHeartbeats 1000000 in
theorem rank_bad1 (g : GT) (hc : (GT.countR g).2 ≠ 0) (v tv : Value) (w : World) (hg : GenAt w v g) :
    Calls Tryd.prog 25 #[v, tv] w fun e w' => e = .returned (.tuple #[.int .i64 0, errV (GT.countR g).2]) ∧ Below w.heap.size w w' := by
  obtain ⟨k, a, b, t, ad, cap, rfl⟩ := hg.shape
  have C1 := Lib.hid (fun W (h : Below w.heap.size w W) => gen_count_any g (.agg #[.int .i64 k, .int .i64 a, .int .i64 b, .slice ad t cap]) W (hg.ext h))
  rw [errV_ne hc] at *
  generalize GT.countR g = r at *
  clear hc hg
  go_enter Tryd.func25, Tryd.ntmps25
  go_wp2_with fail
  refine (C1.out _ (by repeat (first | with_reducible assumption | with_reducible exact Below.refl _ _ | with_reducible apply Below.drew | (with_reducible refine Below.alloc ?_ (by first | omega | (simp only [World.size_alloc, size_setCell, size_drew, size_drewN]; omega) | (dsimp only; omega) | (simp only [World.size_alloc, size_setCell, size_drew, size_drewN]; dsimp only; omega)) _) | (with_reducible refine Below.setCell ?_ (by first | omega | (simp only [World.size_alloc, size_setCell, size_drew, size_drewN]; omega) | (dsimp only; omega) | (simp only [World.size_alloc, size_setCell, size_drew, size_drewN]; dsimp only; omega)) _) | (with_reducible apply below_drewN)))).mono ?_
  rintro e w1 ⟨rfl, hb1⟩
  have hB1 : Below w.heap.size w w1 := Below.trans (by repeat (first | with_reducible assumption | with_reducible exact Below.refl _ _ | with_reducible apply Below.drew | (with_reducible refine Below.alloc ?_ (by first | omega | (simp only [World.size_alloc, size_setCell, size_drew, size_drewN]; omega) | (dsimp only; omega) | (simp only [World.size_alloc, size_setCell, size_drew, size_drewN]; dsimp only; omega)) _) | (with_reducible refine Below.setCell ?_ (by first | omega | (simp only [World.size_alloc, size_setCell, size_drew, size_drewN]; omega) | (dsimp only; omega) | (simp only [World.size_alloc, size_setCell, size_drew, size_drewN]; dsimp only; omega)) _) | (with_reducible apply below_drewN))) (hb1.mono (by first | omega | (simp only [World.size_alloc, size_setCell, size_drew, size_drewN]; omega) | (dsimp only; omega) | (simp only [World.size_alloc, size_setCell, size_drew, size_drewN]; dsimp only; omega)))
  obtain ⟨hc1, hf1, hz1⟩ := bcell hb1
  try simp only [World.size_alloc, size_setCell, size_drew, size_drewN] at hz1
  clear hb1
  have y1_0 : w.heap.size < w1.heap.size := by omega
  go_wp2_with fail
  go_ret2
  exact ⟨rfl, by repeat (first | with_reducible assumption | with_reducible exact Below.refl _ _ | with_reducible apply Below.drew | (with_reducible refine Below.alloc ?_ (by first | omega | (simp only [World.size_alloc, size_setCell, size_drew, size_drewN]; omega) | (dsimp only; omega) | (simp only [World.size_alloc, size_setCell, size_drew, size_drewN]; dsimp only; omega)) _) | (with_reducible refine Below.setCell ?_ (by first | omega | (simp only [World.size_alloc, size_setCell, size_drew, size_drewN]; omega) | (dsimp only; omega) | (simp only [World.size_alloc, size_setCell, size_drew, size_drewN]; dsimp only; omega)) _) | (with_reducible apply below_drewN))⟩
set_option maxHeartbeats 1000000 in
theorem rank_bad2 (g : GT) (hk : GT.Ok g) (tape : List Int) (hp : (playR g tape).2 ≠ 0) (v tv : Value) (w : World) (hg : GenAt w v g) (ht : IntsAt w tv tape) :
    Calls Tryd.prog 25 #[v, tv] w fun e w' => e = .returned (.tuple #[.int .i64 0, errV (playR g tape).2]) ∧ Below w.heap.size w w' := by
  obtain ⟨k, a, b, t, ad, cap, rfl⟩ := hg.shape
  have C1 := Lib.hid (fun W (h : Below w.heap.size w W) => gen_count_any g (.agg #[.int .i64 k, .int .i64 a, .int .i64 b, .slice ad t cap]) W (hg.ext h))
  have C2 := Lib.hid (fun W (h : Below w.heap.size w W) => replay_any g tape (.agg #[.int .i64 k, .int .i64 a, .int .i64 b, .slice ad t cap]) tv W (hg.ext h) (ht.ext h))
  rw [hk.countR, errV_zero] at C1
  rw [errV_ne hp] at *
  obtain ⟨tad, tcap, rfl, htl, htm, _, _⟩ := ht.form
  generalize GT.count g = cn at *
  generalize playR g tape = pr at *
  clear hp hg hk ht
  go_enter Tryd.func25, Tryd.ntmps25
  go_wp2_with fail
  refine (C1.out _ (by repeat (first | with_reducible assumption | with_reducible exact Below.refl _ _ | with_reducible apply Below.drew | (with_reducible refine Below.alloc ?_ (by first | omega | (simp only [World.size_alloc, size_setCell, size_drew, size_drewN]; omega) | (dsimp only; omega) | (simp only [World.size_alloc, size_setCell, size_drew, size_drewN]; dsimp only; omega)) _) | (with_reducible refine Below.setCell ?_ (by first | omega | (simp only [World.size_alloc, size_setCell, size_drew, size_drewN]; omega) | (dsimp only; omega) | (simp only [World.size_alloc, size_setCell, size_drew, size_drewN]; dsimp only; omega)) _) | (with_reducible apply below_drewN)))).mono ?_
  rintro e w1 ⟨rfl, hb1⟩
  have hB1 : Below w.heap.size w w1 := Below.trans (by repeat (first | with_reducible assumption | with_reducible exact Below.refl _ _ | with_reducible apply Below.drew | (with_reducible refine Below.alloc ?_ (by first | omega | (simp only [World.size_alloc, size_setCell, size_drew, size_drewN]; omega) | (dsimp only; omega) | (simp only [World.size_alloc, size_setCell, size_drew, size_drewN]; dsimp only; omega)) _) | (with_reducible refine Below.setCell ?_ (by first | omega | (simp only [World.size_alloc, size_setCell, size_drew, size_drewN]; omega) | (dsimp only; omega) | (simp only [World.size_alloc, size_setCell, size_drew, size_drewN]; dsimp only; omega)) _) | (with_reducible apply below_drewN))) (hb1.mono (by first | omega | (simp only [World.size_alloc, size_setCell, size_drew, size_drewN]; omega) | (dsimp only; omega) | (simp only [World.size_alloc, size_setCell, size_drew, size_drewN]; dsimp only; omega)))
  have x1 := (Blk.new w #[.int .i64 k, .int .i64 a, .int .i64 b, .slice ad t cap] 24).ext hb1
  have f0 := x1.cell 0
  have f1 := x1.cell 1
  have f2 := x1.cell 2
  have f3 := x1.cell 3
  simp only [List.getElem?_toArray, List.getElem?_cons_succ, List.getElem?_cons_zero] at f0 f1 f2 f3
  have hz1 := hB1.size
  clear hb1
  go_wp2_with fail
  refine (C2.out _ (by repeat (first | with_reducible assumption | with_reducible exact Below.refl _ _ | with_reducible apply Below.drew | (with_reducible refine Below.alloc ?_ (by first | omega | (simp only [World.size_alloc, size_setCell, size_drew, size_drewN]; omega) | (dsimp only; omega) | (simp only [World.size_alloc, size_setCell, size_drew, size_drewN]; dsimp only; omega)) _) | (with_reducible refine Below.setCell ?_ (by first | omega | (simp only [World.size_alloc, size_setCell, size_drew, size_drewN]; omega) | (dsimp only; omega) | (simp only [World.size_alloc, size_setCell, size_drew, size_drewN]; dsimp only; omega)) _) | (with_reducible apply below_drewN)))).mono ?_
  rintro e w2 ⟨⟨rv, rfl, hrv⟩, hb2⟩
  obtain ⟨rl, rn, rk, rad, rcap, rfl⟩ := hrv.shape
  have hB2 : Below w.heap.size w w2 := hB1.trans (hb2.mono (by omega))
  have hz2 := hB2.size
  clear f0 f1 f2 f3 hb2 hrv
  go_wp2_with fail
  go_ret2
  exact ⟨rfl, by repeat (first | with_reducible assumption | with_reducible exact Below.refl _ _ | with_reducible apply Below.drew | (with_reducible refine Below.alloc ?_ (by first | omega | (simp only [World.size_alloc, size_setCell, size_drew, size_drewN]; omega) | (dsimp only; omega) | (simp only [World.size_alloc, size_setCell, size_drew, size_drewN]; dsimp only; omega)) _) | (with_reducible refine Below.setCell ?_ (by first | omega | (simp only [World.size_alloc, size_setCell, size_drew, size_drewN]; omega) | (dsimp only; omega) | (simp only [World.size_alloc, size_setCell, size_drew, size_drewN]; dsimp only; omega)) _) | (with_reducible apply below_drewN))⟩
end Go.Proofs.YtbfnlaplhgknaaaDoor
namespace Go.Proofs.YtbfnlaplhgknaaaDoor
set_option maxRecDepth 100000
open Go.RowKit
set_option linter.unusedSimpArgs false
set_option linter.unusedVariables false
theorem getD_app_lt (p s : List Int) (j : Nat) (h : j < p.length) : (p ++ s).getD j 0 = p.getD j 0 := by
  simp [List.getD_eq_getElem?_getD, List.getElem?_append_left h]
theorem getD_app_at (p s : List Int) (x : Int) : (p ++ x :: s).getD p.length 0 = x := by
  simp [List.getD_eq_getElem?_getD]
theorem getD_take_eq {a b : List Int} {j m : Nat} (h : a.take j = b.take j) (hm : m < j) : a.getD m 0 = b.getD m 0 := by
  have h1 : (a.take j)[m]? = (b.take j)[m]? := by rw [h]
  rw [List.getElem?_take, List.getElem?_take, if_pos hm, if_pos hm] at h1
  simp [List.getD_eq_getElem?_getD, h1]
theorem GT.Ahead.at' {i k : Int} {a b : List Int} (h : GT.Ahead i k a b) {j : Nat} (ht : a.take j = b.take j) (hne : a.getD j 0 ≠ b.getD j 0) : (a.getD j 0 < b.getD j 0 ↔ i < k) := by
  rcases h with ⟨_, rfl⟩ | ⟨p, x, y, s', t', rfl, rfl, h1, h2, h3⟩
  · exact absurd rfl hne
  · have hj : j = p.length := by
      rcases Nat.lt_trichotomy j p.length with h | h | h
      · rw [getD_app_lt _ _ _ h, getD_app_lt _ _ _ h] at hne; exact absurd rfl hne
      · exact h
      · have := getD_take_eq ht h
        rw [getD_app_at, getD_app_at] at this
        exact absurd this h1
    subst hj
    rw [getD_app_at, getD_app_at]
    exact h3
theorem GT.Ahead.last {i k : Int} {a b : List Int} (h : GT.Ahead i k a b) {j : Nat} (ht : a.take j = b.take j) (hj : j = a.length ∨ j = b.length) : i = k ∧ a.length = b.length := by
  rcases h with ⟨h, rfl⟩ | ⟨p, x, y, s', t', rfl, rfl, h1, h2, h3⟩
  · exact ⟨h, rfl⟩
  · exfalso
    have hp : p.length < j := by rcases hj with e | e <;> rw [e] <;> simp
    have := getD_take_eq ht hp
    rw [getD_app_at, getD_app_at] at this
    exact h1 this
theorem take_succ_any {a b : List Int} (k : Nat) (hk : k < a.length) (hl : k < b.length) (h : a.take k = b.take k) (e : a.getD k 0 = b.getD k 0) : a.take (k + 1) = b.take (k + 1) := by
  rw [List.take_succ_eq_append_getElem hk, List.take_succ_eq_append_getElem hl, h]
  simp [List.getD_eq_getElem?_getD, hk, hl] at e
  rw [e]
theorem GT.ok_of_countR {g : GT} (h : (GT.countR g).2 = 0) : GT.Ok g := by
  unfold GT.countR at h
  split at h
  · rename_i h1
    split at h
    · simp at h
    · exact ⟨h1, by omega⟩
  · rename_i h1; exact absurd h h1
/-- Which numbers have a tape. -/
def HasNth (g : GT) (i : Int) : Prop := GT.Ok g ∧ 0 ≤ i ∧ i < GT.count g
theorem nth_err (g : GT) (i : Int) (h : ¬ HasNth g i) (v : Value) (w : World) (hg : GenAt w v g) :
    Calls Tryd.prog 24 #[v, .int .i64 i] w fun e w' => (∃ er, er ≠ 0 ∧ e = .returned (.tuple #[.slice none 0 0, errV er])) ∧ Below w.heap.size w w' := by
  by_cases hc : (GT.countR g).2 = 0
  · have hk := GT.ok_of_countR hc
    have ho : i < 0 ∨ GT.count g ≤ i := by
      by_cases h0 : i < 0
      · exact .inl h0
      · by_cases h1 : GT.count g ≤ i
        · exact .inr h1
        · exact absurd ⟨hk, by omega, by omega⟩ h
    exact (nth_out g hk i ho v w hg).mono fun e w' he => ⟨⟨1, by decide, he.1⟩, he.2⟩
  · exact (nth_bad g i hc v w hg).mono fun e w' he => ⟨⟨_, hc, he.1⟩, he.2⟩
theorem nth_tot (g : GT) (i : Int) (v : Value) (w : World) (hg : GenAt w v g) :
    Calls Tryd.prog 24 #[v, .int .i64 i] w fun e w' => (∃ u er, e = .returned (.tuple #[u, errV er])) ∧ Below w.heap.size w w' := by
  by_cases h : HasNth g i
  · exact (nth_any g h.1 i h.2.1 h.2.2 v w hg).mono fun e w' he => ⟨by obtain ⟨u, t, e1, _⟩ := he.1; exact ⟨u, 0, e1⟩, he.2⟩
  · exact (nth_err g i h v w hg).mono fun e w' he => ⟨by obtain ⟨er, _, e1⟩ := he.1; exact ⟨_, er, e1⟩, he.2⟩
theorem in64_of {l : List Int} (h : ∀ n ∈ l, 0 ≤ n ∧ n ≤ 1000) : ∀ n ∈ l, In64 n := fun n hn => by have := h n hn; exact ⟨by omega, by omega⟩
theorem countR_err {g : GT} (h : (GT.countR g).2 ≠ 0) : (GT.countR g).1 = 0 := by
  unfold GT.countR at *
  split
  · rename_i h1
    rw [if_pos h1] at h
    split
    · rfl
    · rename_i h2; rw [if_neg h2] at h; simp at h
  · rfl
theorem mended_nth {g : GT} (hk : GT.Ok g) (l : List Int) : ∃ k, GT.NthR [g] k (mendR g l) ∧ 0 ≤ k ∧ k < GT.count g := by
  obtain ⟨t, h, _⟩ := play_mended g hk.1 l
  obtain ⟨k, hn⟩ := nth_of_play hk.1 (by rw [h] : (playR g (mendR g l)).2 = 0)
  have := hn.bd (fun x hx => by rw [List.mem_singleton.1 hx]; exact hk)
  simp only [GT.prodL] at this
  exact ⟨k, hn, this.1, by omega⟩
end Go.Proofs.YtbfnlaplhgknaaaDoor
