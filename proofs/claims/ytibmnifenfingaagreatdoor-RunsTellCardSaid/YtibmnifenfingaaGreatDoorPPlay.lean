/- Plain laws of playing: two machines that step alike. No program in sight. -/
import Derived.Test.YtibmnifenfingaaGreatDoorPMV
import Derived.Test.YtibmnifenfingaaGreatDoorDRW
namespace Go.Proofs.YtibmnifenfingaaGreatDoor
set_option maxRecDepth 100000
set_option linter.unusedSimpArgs false
set_option linter.unusedVariables false
namespace GT
section
variable {σ τ : Type} (st1 : Int → σ → Except Int (Int × σ)) (st2 : Int → τ → Except Int (Int × τ)) (f : σ → τ)
/-- What a machine gives, its state told by f. -/
def mapR {α : Type} (f : σ → τ) : Except Int (α × σ) → Except Int (α × τ)
  | .error e => .error e
  | .ok (x, q) => .ok (x, f q)
/-- Two that step alike through f play alike. -/
theorem play_map (h : ∀ m q, st2 m (f q) = mapR f (st1 m q)) (g : GT) : ∀ q, play st2 g (f q) = mapR f (play st1 g q) := by
  induction g using GT.ind with
  | h k a b s ih =>
    intro q
    have hL : ∀ (l : List GT), (∀ x ∈ l, x ∈ s) → ∀ q, playL st2 l (f q) = mapR f (playL st1 l q) := by
      intro l
      induction l with
      | nil => intro _ q; rfl
      | cons x l ihl =>
        intro hx q
        simp only [playL]
        rw [ih x (hx x (by simp)) q]
        cases play st1 x q with
        | error e => rfl
        | ok r =>
          obtain ⟨v, q1⟩ := r
          simp only [mapR]
          rw [ihl (fun y hy => hx y (by simp [hy])) q1]
          cases playL st1 l q1 with
          | error e => rfl
          | ok r => rfl
    have hT : ∀ x ∈ s, ∀ n q, times (fun q => play st2 x q) n (f q) = mapR f (times (fun q => play st1 x q) n q) := by
      intro x hx n
      induction n with
      | zero => intro q; rfl
      | succ n ihn =>
        intro q
        simp only [times]
        rw [ih x hx q]
        cases play st1 x q with
        | error e => rfl
        | ok r =>
          obtain ⟨v, q1⟩ := r
          simp only [mapR]
          rw [ihn q1]
          cases times (fun q => play st1 x q) n q1 with
          | error e => rfl
          | ok r => rfl
    have hI : ∀ (l : List GT), (∀ x ∈ l, x ∈ s) → ∀ i q, playI st2 l i (f q) = mapR f (playI st1 l i q) := by
      intro l
      induction l with
      | nil => intro _ i q; rfl
      | cons x l ihl =>
        intro hx i q
        cases i with
        | zero => exact ih x (hx x (by simp)) q
        | succ i => exact ihl (fun y hy => hx y (by simp [hy])) i q
    have hN : ∀ n q, playN st2 s n (f q) = mapR f (playN st1 s n q) := by
      intro n q
      cases s with
      | nil => rfl
      | cons x s => exact hT x (by simp) n q
    simp only [play]
    split
    · rfl
    · split
      · rw [h]
        cases st1 (b - a) q with
        | error e => rfl
        | ok r => rfl
      · split
        · rw [hL s (fun x hx => hx) q]
          cases playL st1 s q with
          | error e => rfl
          | ok r => rfl
        · split
          · rw [h]
            cases st1 a q with
            | error e => rfl
            | ok r =>
              obtain ⟨c, q1⟩ := r
              simp only [mapR]
              rw [hN c.toNat q1]
              cases playN st1 s c.toNat q1 with
              | error e => rfl
              | ok r => rfl
          · split
            · rw [h]
              cases st1 (s.length - 1) q with
              | error e => rfl
              | ok r =>
                obtain ⟨c, q1⟩ := r
                exact hI s (fun x hx => hx) c.toNat q1
            · rfl
end
end GT
/-! ### the machine of the reference: the tape that was taken, how many numbers were -/
def stC (mend : Bool) (l : List Int) (m : Int) (q : List Int × Nat) : Except Int (Int × (List Int × Nat)) :=
  if ¬ q.2 < l.length ∧ mend = false then .error 5
  else
    let x := if mend then max 0 (min (l.getD q.2 0) m) else l.getD q.2 0
    if x < 0 ∨ m < x then .error 1 else .ok (x, (q.1 ++ [x], q.2 + 1))
theorem stC_play (l : List Int) (m : Int) (q : List Int × Nat) : GT.mapR (fun q : List Int × Nat => q.2) (stC false l m q) = stPlay l m q.2 := by
  obtain ⟨t, i⟩ := q
  unfold stC stPlay
  dsimp only
  by_cases h : i < l.length
  · rw [if_neg (by simp [h]), dif_pos h]
    have e : l.getD i 0 = l[i] := by simp [List.getD_eq_getElem?_getD, h]
    simp only [Bool.false_eq_true, if_false, e]
    by_cases h2 : l[i] < 0 ∨ m < l[i]
    · rw [if_pos h2, if_pos h2]; rfl
    · rw [if_neg h2, if_neg h2]; rfl
  · rw [if_pos ⟨h, rfl⟩, dif_neg h]; rfl
/-- The reference's play, not mending, is the program's. -/
theorem playC_play (g : GT) (l : List Int) : GT.play (stPlay l) g 0 = GT.mapR (fun q : List Int × Nat => q.2) (GT.play (stC false l) g ([], 0)) :=
  GT.play_map (stC false l) (stPlay l) (fun q => q.2) (fun m q => (stC_play l m q).symm) g ([], 0)
/-- The reference's play, mending. -/
theorem playC_mend (g : GT) (hc : GT.check g = 0) (l : List Int) : ∃ t, GT.play (stC true l) g ([], 0) = .ok (t, (mendR g l, (mendR g l).length)) := by
  obtain ⟨t, h⟩ := mend_play g hc l
  refine ⟨t, (GT.play_sim (stMend l) (stC true l) (fun _ _ => True) (mendR g l) (fun out => (out, out.length)) (fun _ => trivial) (fun _ _ _ _ _ => trivial) (fun _ _ _ _ _ => trivial) (fun m q c q' hm h => stMend_bd hm h) (fun m q c q' hm h _ => ?_) g (GT.check_ok hc) [] t _ h).2 trivial⟩
  simp only [stMend, Except.ok.injEq, Prod.mk.injEq] at h
  obtain ⟨rfl, rfl⟩ := h
  have e : max 0 (min (l.getD q.length 0) m) = mendAt l m q := by
    unfold mendAt
    split
    · rename_i hl; simp [List.getD_eq_getElem?_getD, hl]
    · rename_i hl; simp [List.getD_eq_getElem?_getD, List.getElem?_eq_none (Nat.le_of_not_lt hl)]; omega
  have hb := mendAt_bd l m q hm
  unfold stC
  dsimp only
  rw [if_neg (by simp)]
  simp only [if_true, e]
  rw [if_neg (by omega)]
  simp
end Go.Proofs.YtibmnifenfingaaGreatDoor
