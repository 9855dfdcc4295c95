/- How many choices a generator may take at most. Plain data. -/
import Derived.Test.YtcecpggkeaohnaaDoorPGen
namespace Go.Proofs.YtcecpggkeaohnaaDoor
set_option maxRecDepth 100000
set_option linter.unusedSimpArgs false
set_option linter.unusedVariables false
namespace GT
mutual
def cost : GT → Nat
  | .mk k _ _ s => if k = 2 then 1 else if k = 3 then costL s else if k = 4 then 1 + 5 * costL s else if k = 5 then 1 + costL s else 0
def costL : List GT → Nat
  | [] => 0
  | x :: s => cost x + costL s
end
theorem costL_drop (s : List GT) (j : Nat) (h : j < s.length) : costL (s.drop j) = cost s[j] + costL (s.drop (j + 1)) := by
  rw [List.drop_eq_getElem_cons h]; rfl
theorem cost_le (s : List GT) : ∀ (i : Nat) (h : i < s.length), cost s[i] ≤ costL s := by
  induction s with
  | nil => intro i h; simp at h
  | cons x s ih =>
    intro i h
    cases i with
    | zero => simp only [costL, List.getElem_cons_zero]; omega
    | succ i =>
      have := ih i (by simpa using h)
      simp only [costL, List.getElem_cons_succ]
      omega
section
variable {σ : Type} (st : Int → σ → Except Int (Int × σ)) (bud : σ → Nat)
theorem times_bud (f : σ → Except Int (VT × σ)) (c : Nat) (hf : ∀ q t q', f q = .ok (t, q') → bud q ≤ bud q' + c) : ∀ (n : Nat) q l q', times f n q = .ok (l, q') → bud q ≤ bud q' + n * c := by
  intro n
  induction n with
  | zero => intro q l q' h; simp [times] at h; rw [h.2]; omega
  | succ n ih =>
    intro q l q' h
    simp only [times] at h
    cases hq : f q with
    | error e => rw [hq] at h; cases h
    | ok r =>
      obtain ⟨v, q1⟩ := r
      rw [hq] at h
      simp only at h
      cases hq1 : times f n q1 with
      | error e => rw [hq1] at h; cases h
      | ok r =>
        obtain ⟨l1, q2⟩ := r
        rw [hq1] at h
        simp only [Except.ok.injEq, Prod.mk.injEq] at h
        have h1 := hf q v q1 hq
        have h2 := ih q1 l1 q2 hq1
        rw [← h.2, Nat.add_mul]
        omega
theorem play_bud (hbd : ∀ m q c q', 0 ≤ m → st m q = .ok (c, q') → 0 ≤ c ∧ c ≤ m) (hst : ∀ m q c q', 0 ≤ m → st m q = .ok (c, q') → bud q ≤ bud q' + 1) (g : GT) : eachErr g = 0 → ∀ q t q', play st g q = .ok (t, q') → bud q ≤ bud q' + cost g := by
  induction g using GT.ind with
  | h k a b s ih =>
    intro he q t q' h
    have hk := ok_kids he
    have hI : ∀ x ∈ s, ∀ q t q', play st x q = .ok (t, q') → bud q ≤ bud q' + cost x := fun x hx => ih x hx (hk x hx)
    have hL : ∀ (l : List GT), (∀ x ∈ l, x ∈ s) → ∀ q r q', playL st l q = .ok (r, q') → bud q ≤ bud q' + costL l := by
      intro l
      induction l with
      | nil => intro _ q r q' h; simp [playL] at h; rw [h.2]; omega
      | cons x l ihl =>
        intro hx q r q' h
        simp only [playL] at h
        cases hq : play st x q with
        | error e => rw [hq] at h; cases h
        | ok r1 =>
          obtain ⟨v, q1⟩ := r1
          rw [hq] at h
          simp only at h
          cases hq1 : playL st l q1 with
          | error e => rw [hq1] at h; cases h
          | ok r2 =>
            obtain ⟨l1, q2⟩ := r2
            rw [hq1] at h
            simp only [Except.ok.injEq, Prod.mk.injEq] at h
            have h1 := hI x (hx x (by simp)) q v q1 hq
            have h2 := ihl (fun y hy => hx y (by simp [hy])) q1 l1 q2 hq1
            rw [← h.2]
            simp only [costL]
            omega
    have hIx : ∀ (l : List GT), (∀ x ∈ l, x ∈ s) → ∀ i q r q', playI st l i q = .ok (r, q') → bud q ≤ bud q' + costL l := by
      intro l
      induction l with
      | nil => intro _ i q r q' h; simp [playI] at h
      | cons x l ihl =>
        intro hx i q r q' h
        cases i with
        | zero =>
          have := hI x (hx x (by simp)) q r q' h
          simp only [costL]
          omega
        | succ i =>
          have := ihl (fun y hy => hx y (by simp [hy])) i q r q' h
          simp only [costL]
          omega
    rcases one_cases (ok_one he) with ⟨rfl, h1, h2, h3⟩ | ⟨rfl, h0, h0', h1, h2, h3⟩ | rfl | ⟨rfl, h1, h2, h3⟩ | ⟨rfl, h1⟩
    · simp [play] at h
      rw [h.2]; omega
    · simp only [play, show ¬ ((2:Int) = 1) by decide, if_false, if_true] at h
      cases hq : st (b - a) q with
      | error e => rw [hq] at h; cases h
      | ok r =>
        obtain ⟨c, q1⟩ := r
        rw [hq] at h
        simp only [Except.ok.injEq, Prod.mk.injEq] at h
        have := hst (b - a) q c q1 (by omega) hq
        rw [← h.2]
        simp [cost]
        omega
    · simp only [play, show ¬ ((3:Int) = 1) by decide, show ¬ ((3:Int) = 2) by decide, if_false, if_true] at h
      cases hq : playL st s q with
      | error e => rw [hq] at h; cases h
      | ok r =>
        obtain ⟨l, q1⟩ := r
        rw [hq] at h
        simp only [Except.ok.injEq, Prod.mk.injEq] at h
        have := hL s (fun x hx => hx) q l q1 hq
        rw [← h.2]
        simp [cost]
        omega
    · simp only [play, show ¬ ((4:Int) = 1) by decide, show ¬ ((4:Int) = 2) by decide, show ¬ ((4:Int) = 3) by decide, if_false, if_true] at h
      cases hq : st a q with
      | error e => rw [hq] at h; cases h
      | ok r =>
        obtain ⟨c, q1⟩ := r
        rw [hq] at h
        simp only at h
        match s, h1, hI, h with
        | [y], _, hI, h =>
          simp only [playN] at h
          cases hq1 : times (fun q => play st y q) c.toNat q1 with
          | error e => rw [hq1] at h; cases h
          | ok r =>
            obtain ⟨l, q2⟩ := r
            rw [hq1] at h
            simp only [Except.ok.injEq, Prod.mk.injEq] at h
            have h4 := times_bud bud _ (cost y) (fun q t q' h => hI y (by simp) q t q' h) c.toNat q1 l q2 hq1
            have h5 := hbd a q c q1 h2 hq
            have h6 := hst a q c q1 h2 hq
            have h7 : c.toNat * cost y ≤ 5 * cost y := Nat.mul_le_mul_right _ (by omega)
            rw [← h.2]
            simp [cost, costL]
            omega
    · simp only [play, show ¬ ((5:Int) = 1) by decide, show ¬ ((5:Int) = 2) by decide, show ¬ ((5:Int) = 3) by decide, show ¬ ((5:Int) = 4) by decide, if_false, if_true] at h
      cases hq : st (s.length - 1) q with
      | error e => rw [hq] at h; cases h
      | ok r =>
        obtain ⟨c, q1⟩ := r
        rw [hq] at h
        have := hst _ q c q1 (by omega) hq
        have := hIx s (fun x hx => hx) c.toNat q1 t q' h
        simp [cost]
        omega
end
end GT
end Go.Proofs.YtcecpggkeaohnaaDoor
