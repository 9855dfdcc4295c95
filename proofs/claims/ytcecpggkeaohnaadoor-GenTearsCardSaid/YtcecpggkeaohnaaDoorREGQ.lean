/- Regions that draw: a plan with forks of two and of three. -/
import Derived.Test.YtcecpggkeaohnaaDoorREG
namespace Go.Proofs.YtcecpggkeaohnaaDoor
set_option maxRecDepth 100000
open Go
set_option linter.unusedSimpArgs false
set_option linter.unusedVariables false
inductive QPlan where
  | done
  | take (i : Nat) (p : QPlan)
  | step (i : Nat) (p : QPlan)
  | fork (i : Nat) (p : QPlan) (j : Nat) (q : QPlan)
  | fork3 (i : Nat) (p : QPlan) (j : Nat) (q : QPlan) (k : Nat) (r : QPlan)
def QPlan.len : QPlan → Nat
  | .done => 0
  | .take _ p => p.len + 1
  | .step _ p => p.len + 1
  | .fork _ p _ _ => p.len + 1
  | .fork3 _ p _ _ _ _ => p.len + 1
section
variable {P : Program} {ops : Array Oper} {Q : Exit → Act → World → Prop} {md : Region.Mode} {S : World → Prop} {n : Nat}
def QStep (P : Program) (ops : Array Oper) (Q : Exit → Act → World → Prop) (S : World → Prop) (n : Nat) (i : Nat) (K : Act → World → Prop) (a : Act) (w : World) : Prop :=
  ∃ o, ops[i]? = some o ∧ wpList P ops (Thn Q fun a' w' => (i < n → S w') ∧ K a' w') [o] a w
def wpQ (P : Program) (ops : Array Oper) (Q : Exit → Act → World → Prop) (S : World → Prop) (n : Nat) : QPlan → Act → World → Prop
  | .done, a, w => Q .normal a w
  | .take i p, a, w => ∃ o v, ops[i]? = some o ∧ YieldsIf P ops S o v a ∧ S w ∧ wpQ P ops Q S n p (a.put o.dst v) w
  | .step i p, a, w => QStep P ops Q S n i (wpQ P ops Q S n p) a w
  | .fork i p j q, a, w => QStep P ops Q S n i (wpQ P ops Q S n p) a w ∧ QStep P ops Q S n j (wpQ P ops Q S n q) a w
  | .fork3 i p j q k r, a, w => QStep P ops Q S n i (wpQ P ops Q S n p) a w ∧ QStep P ops Q S n j (wpQ P ops Q S n q) a w ∧ QStep P ops Q S n k (wpQ P ops Q S n r) a w
def qB (md : Region.Mode) (ops : Array Oper) (n : Nat) : QPlan → Array Bool → Bool
  | .done, listed => (Region.ready md ops listed).isEmpty
  | .take i p, listed => decide (i < n) && closedB md ops n listed && (Region.ready md ops listed).contains i && Region.free md ops listed i && qB md ops n p (listed.setIfInBounds i true)
  | .step k p, listed => decide (Region.ready md ops listed = [k]) && qB md ops n p (listed.setIfInBounds k true)
  | .fork i p j q, listed => decide (Region.ready md ops listed = [i, j]) && decide (p.len = q.len) && qB md ops n p (listed.setIfInBounds i true) && qB md ops n q (listed.setIfInBounds j true)
  | .fork3 i p j q k r, listed => decide (Region.ready md ops listed = [i, j, k]) && decide (p.len = q.len) && decide (p.len = r.len) && qB md ops n p (listed.setIfInBounds i true) && qB md ops n q (listed.setIfInBounds j true) && qB md ops n r (listed.setIfInBounds k true)
theorem wpAnyT_q (hsel : Region.noSelect ops = true) (hs : Region.sinkB md ops n = true) (hc : Region.chainB md ops n = true) (hn : n < ops.size) (hQ : ∀ c a d v w, Q (.panic c) (Act.put a d v) w → Q (.panic c) a w) :
    ∀ (ms : QPlan) (listed : Array Bool) (a : Act) (w : World), qB md ops n ms listed = true → wpQ P ops Q S n ms a w → wpAnyT P md ops Q S n ms.len listed a w
  | .done, listed, a, w, hB, h => ⟨by simpa [qB] using hB, h⟩
  | .take i p, listed, a, w, hB, h => by
    simp only [qB, Bool.and_eq_true, decide_eq_true_eq] at hB
    obtain ⟨⟨⟨⟨hin, hcl⟩, hr⟩, hf⟩, hB'⟩ := hB
    obtain ⟨o, v, ho, hy, hS, hK⟩ := h
    exact wpAnyT_first ho (Region.noSelect_spec hsel) hs hc hn hin (fun c a w => hQ c a _ _ w) _ _ _ _ (closedB_spec hcl) (Region.free_spec ho hf) (by simpa using hr) hy hS
      (wpAnyT_q hsel hs hc hn hQ p _ _ w hB' hK)
  | .step k p, listed, a, w, hB, h => by
    simp only [qB, Bool.and_eq_true, decide_eq_true_eq] at hB
    obtain ⟨o, ho, hl⟩ := h
    have hm : ∀ i ∈ Region.ready md ops listed, wpOp P ops Q i (fun a' w' => (i < n → S w') ∧ wpAnyT P md ops Q S n p.len (listed.setIfInBounds i true) a' w') a w := by
      intro i hi
      rw [hB.1] at hi
      have hik : i = k := by simpa using hi
      subst hik
      exact wpOp_mono (fun a' w' h' => ⟨h'.1, wpAnyT_q hsel hs hc hn hQ p _ a' w' hB.2 h'.2⟩) (wpOp_of_thn ho hl)
    exact ⟨fun h0 => (by rw [hB.1] at h0; cases h0), hm⟩
  | .fork k p k2 q, listed, a, w, hB, h => by
    simp only [qB, Bool.and_eq_true, decide_eq_true_eq] at hB
    obtain ⟨⟨⟨hrd, hlen⟩, hBp⟩, hBq⟩ := hB
    obtain ⟨⟨o, ho, hl⟩, o2, ho2, hl2⟩ := h
    have hm : ∀ i ∈ Region.ready md ops listed, wpOp P ops Q i (fun a' w' => (i < n → S w') ∧ wpAnyT P md ops Q S n p.len (listed.setIfInBounds i true) a' w') a w := by
      intro i hi
      rw [hrd] at hi
      have hik : i = k ∨ i = k2 := by simpa using hi
      rcases hik with rfl | rfl
      · exact wpOp_mono (fun a' w' h' => ⟨h'.1, wpAnyT_q hsel hs hc hn hQ p _ a' w' hBp h'.2⟩) (wpOp_of_thn ho hl)
      · exact wpOp_mono (fun a' w' h' => ⟨h'.1, by rw [hlen]; exact wpAnyT_q hsel hs hc hn hQ q _ a' w' hBq h'.2⟩) (wpOp_of_thn ho2 hl2)
    exact ⟨fun h0 => (by rw [hrd] at h0; cases h0), hm⟩
  | .fork3 k p k2 q k3 r, listed, a, w, hB, h => by
    simp only [qB, Bool.and_eq_true, decide_eq_true_eq] at hB
    obtain ⟨⟨⟨⟨⟨hrd, hlen⟩, hlen2⟩, hBp⟩, hBq⟩, hBr⟩ := hB
    obtain ⟨⟨o, ho, hl⟩, ⟨o2, ho2, hl2⟩, o3, ho3, hl3⟩ := h
    have hm : ∀ i ∈ Region.ready md ops listed, wpOp P ops Q i (fun a' w' => (i < n → S w') ∧ wpAnyT P md ops Q S n p.len (listed.setIfInBounds i true) a' w') a w := by
      intro i hi
      rw [hrd] at hi
      have hik : i = k ∨ i = k2 ∨ i = k3 := by simpa using hi
      rcases hik with rfl | rfl | rfl
      · exact wpOp_mono (fun a' w' h' => ⟨h'.1, wpAnyT_q hsel hs hc hn hQ p _ a' w' hBp h'.2⟩) (wpOp_of_thn ho hl)
      · exact wpOp_mono (fun a' w' h' => ⟨h'.1, by rw [hlen]; exact wpAnyT_q hsel hs hc hn hQ q _ a' w' hBq h'.2⟩) (wpOp_of_thn ho2 hl2)
      · exact wpOp_mono (fun a' w' h' => ⟨h'.1, by rw [hlen2]; exact wpAnyT_q hsel hs hc hn hQ r _ a' w' hBr h'.2⟩) (wpOp_of_thn ho3 hl3)
    exact ⟨fun h0 => (by rw [hrd] at h0; cases h0), hm⟩
theorem region_q {id : Nat} {l : List Oper} {a : Act} {w : World} (S : World → Prop) (n : Nat) (ms : QPlan) (hm : P.follows .mixedOrders = true)
    (hB : (Region.noSelect l.toArray && Region.sinkB .any l.toArray n && Region.chainB .any l.toArray n && decide (n < l.toArray.size) && decide (ms.len = l.toArray.size) && qB .any l.toArray n ms (Array.replicate l.toArray.size false)) = true)
    (hQ : ∀ c a d v w, Q (.panic c) (Act.put a d v) w → Q (.panic c) a w)
    (h : wpQ P l.toArray Q S n ms a w.drew) : (Code.region id l.toArray true).wp P Q a w := by
  simp only [Bool.and_eq_true, decide_eq_true_eq] at hB
  obtain ⟨⟨⟨⟨⟨hsel, hs⟩, hc⟩, hn⟩, hlen⟩, hT⟩ := hB
  refine wp_region_any hm ?_
  have := wpAnyT_q (md := .any) (Q := Q) (S := S) (n := n) hsel hs hc hn hQ ms _ a w.drew hT h
  rw [hlen] at this
  exact wpAny_of_T _ _ _ _ this
theorem q_take {i : Nat} {p : QPlan} {a : Act} {w : World} : wpQ P ops Q S n (.take i p) a w = (match ops[i]? with | none => False | some o => ∃ v, YieldsIf P ops S o v a ∧ S w ∧ wpQ P ops Q S n p (a.put o.dst v) w) := by
  show (∃ o v, ops[i]? = some o ∧ _) = _
  cases h : ops[i]? with
  | none => simp
  | some o => simp
theorem q_step {i : Nat} {p : QPlan} {a : Act} {w : World} : wpQ P ops Q S n (.step i p) a w = (match ops[i]? with | none => False | some o => wpList P ops (Thn Q fun a' w' => (i < n → S w') ∧ wpQ P ops Q S n p a' w') [o] a w) := by
  show (∃ o, ops[i]? = some o ∧ _) = _
  cases h : ops[i]? with
  | none => simp
  | some o => simp
theorem q_fork {i j : Nat} {p q : QPlan} {a : Act} {w : World} : wpQ P ops Q S n (.fork i p j q) a w = (wpQ P ops Q S n (.step i p) a w ∧ wpQ P ops Q S n (.step j q) a w) := rfl
theorem q_fork3 {i j k : Nat} {p q r : QPlan} {a : Act} {w : World} : wpQ P ops Q S n (.fork3 i p j q k r) a w = (wpQ P ops Q S n (.step i p) a w ∧ wpQ P ops Q S n (.step j q) a w ∧ wpQ P ops Q S n (.step k r) a w) := rfl
theorem q_done {a : Act} {w : World} : wpQ P ops Q S n .done a w = Q .normal a w := rfl
end
end Go.Proofs.YtcecpggkeaohnaaDoor
