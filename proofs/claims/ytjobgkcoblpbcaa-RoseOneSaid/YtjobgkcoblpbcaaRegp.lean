/- Regions that draw: a plan of takes, steps and forks. -/
import Derived.Test.YtjobgkcoblpbcaaRegm
namespace Go.Proofs.Ytjobgkcoblpbcaa
open Go
set_option linter.unusedSimpArgs false
set_option linter.unusedVariables false
/-- A plan: operations that yield the same wherever they stand are taken first; where one alone is ready it is walked; where two are ready, each. -/
inductive RPlan where
  | done
  | take (i : Nat) (p : RPlan)
  | step (i : Nat) (p : RPlan)
  | fork (i : Nat) (p : RPlan) (j : Nat) (q : RPlan)
def RPlan.len : RPlan → Nat
  | .done => 0
  | .take _ p => p.len + 1
  | .step _ p => p.len + 1
  | .fork _ p _ _ => p.len + 1
section
variable {P : Program} {ops : Array Oper} {Q : Exit → Act → World → Prop} {md : Region.Mode} {S : World → Prop} {n : Nat}
def wpPlan (P : Program) (ops : Array Oper) (Q : Exit → Act → World → Prop) (S : World → Prop) (n : Nat) : RPlan → Act → World → Prop
  | .done, a, w => Q .normal a w
  | .take i p, a, w => ∃ o v, ops[i]? = some o ∧ YieldsIf P ops S o v a ∧ S w ∧ wpPlan P ops Q S n p (a.put o.dst v) w
  | .step i p, a, w => ∃ o, ops[i]? = some o ∧ wpList P ops (Thn Q fun a' w' => (i < n → S w') ∧ wpPlan P ops Q S n p a' w') [o] a w
  | .fork i p j q, a, w => (∃ o, ops[i]? = some o ∧ wpList P ops (Thn Q fun a' w' => (i < n → S w') ∧ wpPlan P ops Q S n p a' w') [o] a w) ∧
      ∃ o, ops[j]? = some o ∧ wpList P ops (Thn Q fun a' w' => (j < n → S w') ∧ wpPlan P ops Q S n q a' w') [o] a w
def planB (md : Region.Mode) (ops : Array Oper) (n : Nat) : RPlan → Array Bool → Bool
  | .done, listed => (Region.ready md ops listed).isEmpty
  | .take i p, listed => decide (i < n) && closedB md ops n listed && (Region.ready md ops listed).contains i && Region.free md ops listed i && planB md ops n p (listed.setIfInBounds i true)
  | .step k p, listed => decide (Region.ready md ops listed = [k]) && planB md ops n p (listed.setIfInBounds k true)
  | .fork i p j q, listed => decide (Region.ready md ops listed = [i, j]) && decide (p.len = q.len) && planB md ops n p (listed.setIfInBounds i true) && planB md ops n q (listed.setIfInBounds j true)
theorem wpAnyT_plan (hsel : Region.noSelect ops = true) (hs : Region.sinkB md ops n = true) (hc : Region.chainB md ops n = true) (hn : n < ops.size) (hQ : ∀ c a d v w, Q (.panic c) (Act.put a d v) w → Q (.panic c) a w) :
    ∀ (ms : RPlan) (listed : Array Bool) (a : Act) (w : World), planB md ops n ms listed = true → wpPlan P ops Q S n ms a w → wpAnyT P md ops Q S n ms.len listed a w
  | .done, listed, a, w, hB, h => ⟨by simpa [planB] using hB, h⟩
  | .take i p, listed, a, w, hB, h => by
    simp only [planB, Bool.and_eq_true, decide_eq_true_eq] at hB
    obtain ⟨⟨⟨⟨hin, hcl⟩, hr⟩, hf⟩, hB'⟩ := hB
    obtain ⟨o, v, ho, hy, hS, hK⟩ := h
    exact wpAnyT_first ho (Region.noSelect_spec hsel) hs hc hn hin (fun c a w => hQ c a _ _ w) _ _ _ _ (closedB_spec hcl) (Region.free_spec ho hf) (by simpa using hr) hy hS
      (wpAnyT_plan hsel hs hc hn hQ p _ _ w hB' hK)
  | .step k p, listed, a, w, hB, h => by
    simp only [planB, Bool.and_eq_true, decide_eq_true_eq] at hB
    obtain ⟨o, ho, hl⟩ := h
    have hm : ∀ i ∈ Region.ready md ops listed, wpOp P ops Q i (fun a' w' => (i < n → S w') ∧ wpAnyT P md ops Q S n p.len (listed.setIfInBounds i true) a' w') a w := by
      intro i hi
      rw [hB.1] at hi
      have hik : i = k := by simpa using hi
      subst hik
      exact wpOp_mono (fun a' w' h' => ⟨h'.1, wpAnyT_plan hsel hs hc hn hQ p _ a' w' hB.2 h'.2⟩) (wpOp_of_thn ho hl)
    exact ⟨fun h0 => (by rw [hB.1] at h0; cases h0), hm⟩
  | .fork k p k2 q, listed, a, w, hB, h => by
    simp only [planB, Bool.and_eq_true, decide_eq_true_eq] at hB
    obtain ⟨⟨⟨hrd, hlen⟩, hBp⟩, hBq⟩ := hB
    obtain ⟨⟨o, ho, hl⟩, o2, ho2, hl2⟩ := h
    have hm : ∀ i ∈ Region.ready md ops listed, wpOp P ops Q i (fun a' w' => (i < n → S w') ∧ wpAnyT P md ops Q S n p.len (listed.setIfInBounds i true) a' w') a w := by
      intro i hi
      rw [hrd] at hi
      have hik : i = k ∨ i = k2 := by simpa using hi
      rcases hik with rfl | rfl
      · exact wpOp_mono (fun a' w' h' => ⟨h'.1, wpAnyT_plan hsel hs hc hn hQ p _ a' w' hBp h'.2⟩) (wpOp_of_thn ho hl)
      · exact wpOp_mono (fun a' w' h' => ⟨h'.1, by rw [hlen]; exact wpAnyT_plan hsel hs hc hn hQ q _ a' w' hBq h'.2⟩) (wpOp_of_thn ho2 hl2)
    exact ⟨fun h0 => (by rw [hrd] at h0; cases h0), hm⟩
theorem region_plan {id : Nat} {l : List Oper} {a : Act} {w : World} (S : World → Prop) (n : Nat) (ms : RPlan) (hm : P.follows .mixedOrders = true)
    (hB : (Region.noSelect l.toArray && Region.sinkB .any l.toArray n && Region.chainB .any l.toArray n && decide (n < l.toArray.size) && decide (ms.len = l.toArray.size) && planB .any l.toArray n ms (Array.replicate l.toArray.size false)) = true)
    (hQ : ∀ c a d v w, Q (.panic c) (Act.put a d v) w → Q (.panic c) a w)
    (h : wpPlan P l.toArray Q S n ms a w.drew) : (Code.region id l.toArray true).wp P Q a w := by
  simp only [Bool.and_eq_true, decide_eq_true_eq] at hB
  obtain ⟨⟨⟨⟨⟨hsel, hs⟩, hc⟩, hn⟩, hlen⟩, hT⟩ := hB
  refine wp_region_any hm ?_
  have := wpAnyT_plan (md := .any) (Q := Q) (S := S) (n := n) hsel hs hc hn hQ ms _ a w.drew hT h
  rw [hlen] at this
  exact wpAny_of_T _ _ _ _ this
theorem plan_take {i : Nat} {p : RPlan} {a : Act} {w : World} : wpPlan P ops Q S n (.take i p) a w = (match ops[i]? with | none => False | some o => ∃ v, YieldsIf P ops S o v a ∧ S w ∧ wpPlan P ops Q S n p (a.put o.dst v) w) := by
  show (∃ o v, ops[i]? = some o ∧ _) = _
  cases h : ops[i]? with
  | none => simp
  | some o => simp
theorem plan_step {i : Nat} {p : RPlan} {a : Act} {w : World} : wpPlan P ops Q S n (.step i p) a w = (match ops[i]? with | none => False | some o => wpList P ops (Thn Q fun a' w' => (i < n → S w') ∧ wpPlan P ops Q S n p a' w') [o] a w) := by
  show (∃ o, ops[i]? = some o ∧ _) = _
  cases h : ops[i]? with
  | none => simp
  | some o => simp
theorem plan_fork {i j : Nat} {p q : RPlan} {a : Act} {w : World} : wpPlan P ops Q S n (.fork i p j q) a w = (wpPlan P ops Q S n (.step i p) a w ∧ wpPlan P ops Q S n (.step j q) a w) := rfl
theorem plan_done {a : Act} {w : World} : wpPlan P ops Q S n .done a w = Q .normal a w := rfl
end
end Go.Proofs.Ytjobgkcoblpbcaa
