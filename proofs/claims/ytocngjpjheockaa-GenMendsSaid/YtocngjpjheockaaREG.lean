/- Regions that draw: takes and steps in any order. Regions that draw: a plan of takes, steps and forks. -/
import Derived.StillTail
import Derived.OrdersHeld
import Derived.RegionTactic
namespace Go.Proofs.Ytocngjpjheockaa
set_option maxRecDepth 100000
open Go
set_option linter.unusedSimpArgs false
set_option linter.unusedVariables false
section
variable {P : Program} {ops : Array Oper} {Q : Exit → Act → World → Prop} {md : Region.Mode} {S : World → Prop} {n : Nat}
/-- Whatever order is picked from here on; S holds behind each operation ahead of number n. -/
def wpAnyT (P : Program) (md : Region.Mode) (ops : Array Oper) (Q : Exit → Act → World → Prop) (S : World → Prop) (n : Nat) : Nat → Array Bool → Act → World → Prop
  | 0, listed, a, w => Region.ready md ops listed = [] ∧ Q .normal a w
  | fuel + 1, listed, a, w =>
    (Region.ready md ops listed = [] → Q .normal a w) ∧
    ∀ i ∈ Region.ready md ops listed, wpOp P ops Q i (fun a' w' => (i < n → S w') ∧ wpAnyT P md ops Q S n fuel (listed.setIfInBounds i true) a' w') a w
theorem wpAny_of_T : ∀ (fuel : Nat) (listed : Array Bool) (a : Act) (w : World), wpAnyT P md ops Q S n fuel listed a w → wpAny P md ops Q fuel listed a w
  | 0, _, _, _, h => h
  | fuel + 1, _, _, _, h => ⟨h.1, fun i hi => wpOp_mono (fun a' w' h' => wpAny_of_T fuel _ a' w' h'.2) (h.2 i hi)⟩
theorem wpAnyT_first {i : Nat} {oi : Oper} {v : Value} (hi : ops[i]? = some oi) (hsel : ∀ (j : Nat) (o : Oper) cs b, ops[j]? = some o → o.op ≠ .select cs b)
    (hs : Region.sinkB md ops n = true) (hc : Region.chainB md ops n = true) (hn : n < ops.size) (hin : i < n)
    (hQ : ∀ c a w, Q (.panic c) (a.put oi.dst v) w → Q (.panic c) a w) :
    ∀ (fuel : Nat) (listed : Array Bool) (a : Act) (w : World), HeadInv md ops n listed →
      (∀ j oj, ops[j]? = some oj → j ≠ i → listed.getD j true = false → (∀ e ∈ oj.after, Region.binds md e = true → e.on ≠ i) → oi.apart ops oj = true) →
      i ∈ Region.ready md ops listed → YieldsIf P ops S oi v a → S w →
      wpAnyT P md ops Q S n fuel (listed.setIfInBounds i true) (a.put oi.dst v) w → wpAnyT P md ops Q S n (fuel + 1) listed a w := by
  intro fuel
  induction fuel with
  | zero =>
    intro listed a w inv _ hr hy hS H
    refine ⟨fun h => (by rw [h] at hr; cases hr), fun j hj => ?_⟩
    by_cases hji : j = i
    · subst hji; exact hy.wpOp hi hS ⟨fun _ => hS, H⟩
    · have := ready_mono hj hji
      rw [H.1] at this
      cases this
  | succ fuel ih =>
    intro listed a w inv hfree hr hy hS H
    have hun := (mem_ready.1 hr).1
    refine ⟨fun h => (by rw [h] at hr; cases hr), fun j hj => ?_⟩
    have hjn : j < n := by
      rcases Nat.lt_or_ge j n with h | h
      · exact h
      · exact absurd hj (tail_waits hs hc hn inv _ i rfl hin hun j h)
    by_cases hji : j = i
    · subst hji; exact hy.wpOp hi hS ⟨fun _ => hS, H⟩
    · have h1 := H.2 j (ready_mono hj hji)
      obtain ⟨hjun, oj, hoj, hall⟩ := mem_ready.1 hj
      have hnot : ∀ e ∈ oj.after, Region.binds md e = true → e.on ≠ i := fun e he hb heq => by
        have h1 := hall e he hb
        rw [heq, getD_both hun] at h1
        cases h1
      have h2 := wpOp_putIf hoj (hfree j oj hoj hji hjun hnot) (fun cs b => hsel i oi cs b hi) (fun cs b => hsel j oj cs b hoj) hQ hy h1
      have hfree' : ∀ k ok, ops[k]? = some ok → k ≠ i → (listed.setIfInBounds j true).getD k true = false →
          (∀ e ∈ ok.after, Region.binds md e = true → e.on ≠ i) → oi.apart ops ok = true := fun k ok hk hki hun hno => by
        refine hfree k ok hk hki ?_ hno
        by_cases hjk : j = k
        · subst hjk; exact hjun
        · rw [getD_set_ne true hjk] at hun; exact hun
      refine wpOp_mono (fun a' w' h3 => ⟨h3.2.1, ih (listed.setIfInBounds j true) a' w' (inv.set hj hjn) hfree' (ready_mono hr (Ne.symm hji)) h3.1 (h3.2.1 hjn) ?_⟩) h2
      rw [Array.setIfInBounds_comm _ _ hji]
      exact h3.2.2
/-- Behind an operation: this. -/
def Thn (Q : Exit → Act → World → Prop) (K : Act → World → Prop) : Exit → Act → World → Prop
  | .normal, a, w => K a w
  | e, a, w => Q e a w
theorem wpOp_of_thn {i : Nat} {o : Oper} {K : Act → World → Prop} {a : Act} {w : World} (ho : ops[i]? = some o) (h : wpList P ops (Thn Q K) [o] a w) : wpOp P ops Q i K a w := by
  unfold wpOp
  simp only [ho]
  unfold wpList at h
  split
  · rename_i hw
    simp only [hw, if_true] at h
    rcases h with h | ⟨h1, b, u, h2⟩
    · refine .inl ?_
      unfold Oper.wp at *
      generalize (execOp a.eval o).run P w = r at *
      cases r with
      | ok n w' =>
        cases n <;> simp only [Oper.upon] at h ⊢ <;>
          first
            | exact h
            | exact Calls.mono h (fun e w'' he => by cases e <;> first | exact he | exact (let ⟨b, u, h2⟩ := he; ⟨b, u, h2⟩))
            | exact Rows.mono h (fun _ _ he => he)
      | halt x w' => cases x <;> simp only [Oper.upon] at h ⊢ <;> exact h
    · exact .inr ⟨h1, b, u, h2⟩
  · rename_i hw
    simp only [hw] at h
    exact h
/-- One after the other; S behind each ahead of number n. -/
def wpSeqT (P : Program) (ops : Array Oper) (Q : Exit → Act → World → Prop) (S : World → Prop) (n : Nat) : List Nat → Act → World → Prop
  | [], a, w => Q .normal a w
  | i :: is, a, w => ∃ o, ops[i]? = some o ∧ wpList P ops (Thn Q fun a' w' => (i < n → S w') ∧ wpSeqT P ops Q S n is a' w') [o] a w
/-- Those that are taken first. -/
def wpTakeT (P : Program) (ops : Array Oper) (S : World → Prop) (K : Act → Prop) : List Nat → Act → Prop
  | [], a => K a
  | i :: is, a => ∃ o v, ops[i]? = some o ∧ YieldsIf P ops S o v a ∧ wpTakeT P ops S K is (a.put o.dst v)
def closedB (md : Region.Mode) (ops : Array Oper) (n : Nat) (listed : Array Bool) : Bool :=
  decide (listed.size = ops.size) && ((List.range ops.size).all fun j => !listed.getD j false || match ops[j]? with | some oj => oj.after.all (fun e => !Region.binds md e || listed.getD e.on false) | none => true) &&
  (List.range ops.size).all fun t => decide (t < n) || !listed.getD t true
theorem closedB_spec {listed : Array Bool} (h : closedB md ops n listed = true) : HeadInv md ops n listed := by
  simp only [closedB, Bool.and_eq_true, decide_eq_true_eq, List.all_eq_true, List.mem_range, Bool.or_eq_true, Bool.not_eq_true'] at h
  obtain ⟨⟨h1, h2⟩, h3⟩ := h
  refine ⟨h1, fun j oj hj hl e he hb => ?_, fun t ht ht' => ?_⟩
  · have hjl : j < ops.size := (Array.getElem?_eq_some_iff.1 hj).1
    rcases h2 j hjl with h | h
    · rw [hl] at h; cases h
    · rw [hj] at h
      have := Array.all_eq_true'.1 h e he
      simp only [Bool.or_eq_true, Bool.not_eq_true', hb] at this
      rcases this with h | h
      · cases h
      · exact h
  · rcases h3 t ht' with h | h
    · omega
    · exact h
def restB (md : Region.Mode) (ops : Array Oper) : List Nat → Array Bool → Bool
  | k :: ks, listed => decide (Region.ready md ops listed = [k]) && restB md ops ks (listed.setIfInBounds k true)
  | [], listed => (Region.ready md ops listed).isEmpty
def takeB (md : Region.Mode) (ops : Array Oper) (n : Nat) (r : List Nat) : List Nat → Array Bool → Bool
  | i :: is, listed => decide (i < n) && closedB md ops n listed && (Region.ready md ops listed).contains i && Region.free md ops listed i && takeB md ops n r is (listed.setIfInBounds i true)
  | [], listed => restB md ops r listed
theorem wpAnyT_seq (hsel : Region.noSelect ops = true) (hs : Region.sinkB md ops n = true) (hc : Region.chainB md ops n = true) (hn : n < ops.size) :
    ∀ (rest : List Nat) (listed : Array Bool) (a : Act) (w : World), restB md ops rest listed = true → wpSeqT P ops Q S n rest a w → wpAnyT P md ops Q S n (([] : List Nat).length + rest.length) listed a w
  | [], listed, a, w, hB, h => ⟨by simpa [restB] using hB, h⟩
  | k :: ks, listed, a, w, hB, h => by
    simp only [restB, Bool.and_eq_true, decide_eq_true_eq] at hB
    obtain ⟨o, ho, hl⟩ := h
    rw [show ([] : List Nat).length + (k :: ks).length = (([] : List Nat).length + ks.length) + 1 by simp]
    have hm : ∀ i ∈ Region.ready md ops listed, wpOp P ops Q i (fun a' w' => (i < n → S w') ∧ wpAnyT P md ops Q S n (([] : List Nat).length + ks.length) (listed.setIfInBounds i true) a' w') a w := by
      intro i hi
      rw [hB.1] at hi
      have hik : i = k := by simpa using hi
      subst hik
      exact wpOp_mono (fun a' w' h' => ⟨h'.1, wpAnyT_seq hsel hs hc hn ks _ a' w' hB.2 h'.2⟩) (wpOp_of_thn ho hl)
    exact ⟨fun h0 => (by rw [hB.1] at h0; cases h0), hm⟩
theorem wpAnyT_of (hsel : Region.noSelect ops = true) (hs : Region.sinkB md ops n = true) (hc : Region.chainB md ops n = true) (hn : n < ops.size) (hQ : ∀ c a d v w, Q (.panic c) (Act.put a d v) w → Q (.panic c) a w) :
    ∀ (takes rest : List Nat) (listed : Array Bool) (a : Act) (w : World), takeB md ops n rest takes listed = true → S w → wpTakeT P ops S (fun a' => wpSeqT P ops Q S n rest a' w) takes a →
      wpAnyT P md ops Q S n (takes.length + rest.length) listed a w
  | i :: is, r, listed, a, w, hB, hS, h => by
    simp only [takeB, Bool.and_eq_true, decide_eq_true_eq] at hB
    obtain ⟨⟨⟨⟨hin, hcl⟩, hr⟩, hf⟩, hB'⟩ := hB
    obtain ⟨o, v, ho, hy, hK⟩ := h
    rw [show (i :: is).length + r.length = (is.length + r.length) + 1 by simp; omega]
    exact wpAnyT_first ho (Region.noSelect_spec hsel) hs hc hn hin (fun c a w => hQ c a _ _ w) _ _ _ _ (closedB_spec hcl) (Region.free_spec ho hf) (by simpa using hr) hy hS
      (wpAnyT_of hsel hs hc hn hQ is r _ _ w hB' hS hK)
  | [], r, listed, a, w, hB, hS, h => wpAnyT_seq hsel hs hc hn r listed a w hB h
/-- A region that draws: those operations that read under S are taken first, the rest comes one by one. -/
theorem region_take {id : Nat} {l : List Oper} {a : Act} {w : World} (S : World → Prop) (n : Nat) (takes rest : List Nat) (hm : P.follows .mixedOrders = true)
    (hB : (Region.noSelect l.toArray && Region.sinkB .any l.toArray n && Region.chainB .any l.toArray n && decide (n < l.toArray.size) && decide (takes.length + rest.length = l.toArray.size) && takeB .any l.toArray n rest takes (Array.replicate l.toArray.size false)) = true)
    (hQ : ∀ c a d v w, Q (.panic c) (Act.put a d v) w → Q (.panic c) a w) (hS : S w.drew)
    (h : wpTakeT P l.toArray S (fun a' => wpSeqT P l.toArray Q S n rest a' w.drew) takes a) : (Code.region id l.toArray true).wp P Q a w := by
  simp only [Bool.and_eq_true, decide_eq_true_eq] at hB
  obtain ⟨⟨⟨⟨⟨hsel, hs⟩, hc⟩, hn⟩, hlen⟩, hT⟩ := hB
  refine wp_region_any hm ?_
  have := wpAnyT_of (md := .any) (Q := Q) (S := S) (n := n) hsel hs hc hn hQ takes rest _ a w.drew hT hS h
  rw [hlen] at this
  exact wpAny_of_T _ _ _ _ this
theorem takeT_eq {K : Act → Prop} {i : Nat} {is : List Nat} {a : Act} : wpTakeT P ops S K (i :: is) a = (match ops[i]? with | none => False | some o => ∃ v, YieldsIf P ops S o v a ∧ wpTakeT P ops S K is (a.put o.dst v)) := by
  show (∃ o v, ops[i]? = some o ∧ _) = _
  cases h : ops[i]? with
  | none => simp
  | some o => simp
theorem seqT_eq {i : Nat} {is : List Nat} {a : Act} {w : World} : wpSeqT P ops Q S n (i :: is) a w = (match ops[i]? with | none => False | some o => wpList P ops (Thn Q fun a' w' => (i < n → S w') ∧ wpSeqT P ops Q S n is a' w') [o] a w) := by
  show (∃ o, ops[i]? = some o ∧ _) = _
  cases h : ops[i]? with
  | none => simp
  | some o => simp
theorem takeT_cons {K : Act → Prop} {i : Nat} {is : List Nat} {a : Act} (o : Oper) (v : Value) (ho : ops[i]? = some o) (hw : Region.wanted o (yielded ops a.tmps) = true) (hy : ∀ w, S w → (execOp a.eval o).run P w = .ok (.value v) w)
    (h : wpTakeT P ops S K is (a.put o.dst v)) : wpTakeT P ops S K (i :: is) a := ⟨o, v, ho, .inl ⟨hw, hy⟩, h⟩
theorem seqT_cons {i : Nat} {is : List Nat} {a : Act} {w : World} (o : Oper) (ho : ops[i]? = some o)
    (h : wpList P ops (Thn Q fun a' w' => (i < n → S w') ∧ wpSeqT P ops Q S n is a' w') [o] a w) : wpSeqT P ops Q S n (i :: is) a w := ⟨o, ho, h⟩
end
end Go.Proofs.Ytocngjpjheockaa
namespace Go.Proofs.Ytocngjpjheockaa
set_option maxRecDepth 100000
open Go
set_option linter.unusedSimpArgs false
set_option linter.unusedVariables false
section
variable {P : Program} {ops : Array Oper} {Q : Exit → Act → World → Prop} {md : Region.Mode} {S : World → Prop} {n : Nat}
def wpMov (P : Program) (ops : Array Oper) (Q : Exit → Act → World → Prop) (S : World → Prop) (n : Nat) : List (Bool × Nat) → Act → World → Prop
  | [], a, w => Q .normal a w
  | (true, i) :: ms, a, w => ∃ o v, ops[i]? = some o ∧ YieldsIf P ops S o v a ∧ S w ∧ wpMov P ops Q S n ms (a.put o.dst v) w
  | (false, i) :: ms, a, w => ∃ o, ops[i]? = some o ∧ wpList P ops (Thn Q fun a' w' => (i < n → S w') ∧ wpMov P ops Q S n ms a' w') [o] a w
def movB (md : Region.Mode) (ops : Array Oper) (n : Nat) : List (Bool × Nat) → Array Bool → Bool
  | (true, i) :: ms, listed => decide (i < n) && closedB md ops n listed && (Region.ready md ops listed).contains i && Region.free md ops listed i && movB md ops n ms (listed.setIfInBounds i true)
  | (false, k) :: ms, listed => decide (Region.ready md ops listed = [k]) && movB md ops n ms (listed.setIfInBounds k true)
  | [], listed => (Region.ready md ops listed).isEmpty
theorem wpAnyT_mov (hsel : Region.noSelect ops = true) (hs : Region.sinkB md ops n = true) (hc : Region.chainB md ops n = true) (hn : n < ops.size) (hQ : ∀ c a d v w, Q (.panic c) (Act.put a d v) w → Q (.panic c) a w) :
    ∀ (ms : List (Bool × Nat)) (listed : Array Bool) (a : Act) (w : World), movB md ops n ms listed = true → wpMov P ops Q S n ms a w → wpAnyT P md ops Q S n ms.length listed a w
  | [], listed, a, w, hB, h => ⟨by simpa [movB] using hB, h⟩
  | (true, i) :: ms, listed, a, w, hB, h => by
    simp only [movB, Bool.and_eq_true, decide_eq_true_eq] at hB
    obtain ⟨⟨⟨⟨hin, hcl⟩, hr⟩, hf⟩, hB'⟩ := hB
    obtain ⟨o, v, ho, hy, hS, hK⟩ := h
    exact wpAnyT_first ho (Region.noSelect_spec hsel) hs hc hn hin (fun c a w => hQ c a _ _ w) _ _ _ _ (closedB_spec hcl) (Region.free_spec ho hf) (by simpa using hr) hy hS
      (wpAnyT_mov hsel hs hc hn hQ ms _ _ w hB' hK)
  | (false, k) :: ms, listed, a, w, hB, h => by
    simp only [movB, Bool.and_eq_true, decide_eq_true_eq] at hB
    obtain ⟨o, ho, hl⟩ := h
    have hm : ∀ i ∈ Region.ready md ops listed, wpOp P ops Q i (fun a' w' => (i < n → S w') ∧ wpAnyT P md ops Q S n ms.length (listed.setIfInBounds i true) a' w') a w := by
      intro i hi
      rw [hB.1] at hi
      have hik : i = k := by simpa using hi
      subst hik
      exact wpOp_mono (fun a' w' h' => ⟨h'.1, wpAnyT_mov hsel hs hc hn hQ ms _ a' w' hB.2 h'.2⟩) (wpOp_of_thn ho hl)
    exact ⟨fun h0 => (by rw [hB.1] at h0; cases h0), hm⟩
theorem region_mov {id : Nat} {l : List Oper} {a : Act} {w : World} (S : World → Prop) (n : Nat) (ms : List (Bool × Nat)) (hm : P.follows .mixedOrders = true)
    (hB : (Region.noSelect l.toArray && Region.sinkB .any l.toArray n && Region.chainB .any l.toArray n && decide (n < l.toArray.size) && decide (ms.length = l.toArray.size) && movB .any l.toArray n ms (Array.replicate l.toArray.size false)) = true)
    (hQ : ∀ c a d v w, Q (.panic c) (Act.put a d v) w → Q (.panic c) a w)
    (h : wpMov P l.toArray Q S n ms a w.drew) : (Code.region id l.toArray true).wp P Q a w := by
  simp only [Bool.and_eq_true, decide_eq_true_eq] at hB
  obtain ⟨⟨⟨⟨⟨hsel, hs⟩, hc⟩, hn⟩, hlen⟩, hT⟩ := hB
  refine wp_region_any hm ?_
  have := wpAnyT_mov (md := .any) (Q := Q) (S := S) (n := n) hsel hs hc hn hQ ms _ a w.drew hT h
  rw [hlen] at this
  exact wpAny_of_T _ _ _ _ this
theorem mov_take {i : Nat} {ms : List (Bool × Nat)} {a : Act} {w : World} : wpMov P ops Q S n ((true, i) :: ms) a w = (match ops[i]? with | none => False | some o => ∃ v, YieldsIf P ops S o v a ∧ S w ∧ wpMov P ops Q S n ms (a.put o.dst v) w) := by
  show (∃ o v, ops[i]? = some o ∧ _) = _
  cases h : ops[i]? with
  | none => simp
  | some o => simp
theorem mov_step {i : Nat} {ms : List (Bool × Nat)} {a : Act} {w : World} : wpMov P ops Q S n ((false, i) :: ms) a w = (match ops[i]? with | none => False | some o => wpList P ops (Thn Q fun a' w' => (i < n → S w') ∧ wpMov P ops Q S n ms a' w') [o] a w) := by
  show (∃ o, ops[i]? = some o ∧ _) = _
  cases h : ops[i]? with
  | none => simp
  | some o => simp
end
end Go.Proofs.Ytocngjpjheockaa
namespace Go.Proofs.Ytocngjpjheockaa
set_option maxRecDepth 100000
open Go
set_option linter.unusedSimpArgs false
set_option linter.unusedVariables false
/-- A plan: operations that yield the same wherever they stand are taken first; where one alone is ready it is walked; where two are ready, each. -/
inductive RPlan where
  | done
  | take (i : Nat) (p : RPlan)
  | step (i : Nat) (p : RPlan)
  | fork (i : Nat) (p : RPlan) (j : Nat) (q : RPlan)
def RPlan.len : RPlan → Nat
  | .done => 0
  | .take _ p => p.len + 1
  | .step _ p => p.len + 1
  | .fork _ p _ _ => p.len + 1
section
variable {P : Program} {ops : Array Oper} {Q : Exit → Act → World → Prop} {md : Region.Mode} {S : World → Prop} {n : Nat}
def wpPlan (P : Program) (ops : Array Oper) (Q : Exit → Act → World → Prop) (S : World → Prop) (n : Nat) : RPlan → Act → World → Prop
  | .done, a, w => Q .normal a w
  | .take i p, a, w => ∃ o v, ops[i]? = some o ∧ YieldsIf P ops S o v a ∧ S w ∧ wpPlan P ops Q S n p (a.put o.dst v) w
  | .step i p, a, w => ∃ o, ops[i]? = some o ∧ wpList P ops (Thn Q fun a' w' => (i < n → S w') ∧ wpPlan P ops Q S n p a' w') [o] a w
  | .fork i p j q, a, w => (∃ o, ops[i]? = some o ∧ wpList P ops (Thn Q fun a' w' => (i < n → S w') ∧ wpPlan P ops Q S n p a' w') [o] a w) ∧
      ∃ o, ops[j]? = some o ∧ wpList P ops (Thn Q fun a' w' => (j < n → S w') ∧ wpPlan P ops Q S n q a' w') [o] a w
def planB (md : Region.Mode) (ops : Array Oper) (n : Nat) : RPlan → Array Bool → Bool
  | .done, listed => (Region.ready md ops listed).isEmpty
  | .take i p, listed => decide (i < n) && closedB md ops n listed && (Region.ready md ops listed).contains i && Region.free md ops listed i && planB md ops n p (listed.setIfInBounds i true)
  | .step k p, listed => decide (Region.ready md ops listed = [k]) && planB md ops n p (listed.setIfInBounds k true)
  | .fork i p j q, listed => decide (Region.ready md ops listed = [i, j]) && decide (p.len = q.len) && planB md ops n p (listed.setIfInBounds i true) && planB md ops n q (listed.setIfInBounds j true)
theorem wpAnyT_plan (hsel : Region.noSelect ops = true) (hs : Region.sinkB md ops n = true) (hc : Region.chainB md ops n = true) (hn : n < ops.size) (hQ : ∀ c a d v w, Q (.panic c) (Act.put a d v) w → Q (.panic c) a w) :
    ∀ (ms : RPlan) (listed : Array Bool) (a : Act) (w : World), planB md ops n ms listed = true → wpPlan P ops Q S n ms a w → wpAnyT P md ops Q S n ms.len listed a w
  | .done, listed, a, w, hB, h => ⟨by simpa [planB] using hB, h⟩
  | .take i p, listed, a, w, hB, h => by
    simp only [planB, Bool.and_eq_true, decide_eq_true_eq] at hB
    obtain ⟨⟨⟨⟨hin, hcl⟩, hr⟩, hf⟩, hB'⟩ := hB
    obtain ⟨o, v, ho, hy, hS, hK⟩ := h
    exact wpAnyT_first ho (Region.noSelect_spec hsel) hs hc hn hin (fun c a w => hQ c a _ _ w) _ _ _ _ (closedB_spec hcl) (Region.free_spec ho hf) (by simpa using hr) hy hS
      (wpAnyT_plan hsel hs hc hn hQ p _ _ w hB' hK)
  | .step k p, listed, a, w, hB, h => by
    simp only [planB, Bool.and_eq_true, decide_eq_true_eq] at hB
    obtain ⟨o, ho, hl⟩ := h
    have hm : ∀ i ∈ Region.ready md ops listed, wpOp P ops Q i (fun a' w' => (i < n → S w') ∧ wpAnyT P md ops Q S n p.len (listed.setIfInBounds i true) a' w') a w := by
      intro i hi
      rw [hB.1] at hi
      have hik : i = k := by simpa using hi
      subst hik
      exact wpOp_mono (fun a' w' h' => ⟨h'.1, wpAnyT_plan hsel hs hc hn hQ p _ a' w' hB.2 h'.2⟩) (wpOp_of_thn ho hl)
    exact ⟨fun h0 => (by rw [hB.1] at h0; cases h0), hm⟩
  | .fork k p k2 q, listed, a, w, hB, h => by
    simp only [planB, Bool.and_eq_true, decide_eq_true_eq] at hB
    obtain ⟨⟨⟨hrd, hlen⟩, hBp⟩, hBq⟩ := hB
    obtain ⟨⟨o, ho, hl⟩, o2, ho2, hl2⟩ := h
    have hm : ∀ i ∈ Region.ready md ops listed, wpOp P ops Q i (fun a' w' => (i < n → S w') ∧ wpAnyT P md ops Q S n p.len (listed.setIfInBounds i true) a' w') a w := by
      intro i hi
      rw [hrd] at hi
      have hik : i = k ∨ i = k2 := by simpa using hi
      rcases hik with rfl | rfl
      · exact wpOp_mono (fun a' w' h' => ⟨h'.1, wpAnyT_plan hsel hs hc hn hQ p _ a' w' hBp h'.2⟩) (wpOp_of_thn ho hl)
      · exact wpOp_mono (fun a' w' h' => ⟨h'.1, by rw [hlen]; exact wpAnyT_plan hsel hs hc hn hQ q _ a' w' hBq h'.2⟩) (wpOp_of_thn ho2 hl2)
    exact ⟨fun h0 => (by rw [hrd] at h0; cases h0), hm⟩
theorem region_plan {id : Nat} {l : List Oper} {a : Act} {w : World} (S : World → Prop) (n : Nat) (ms : RPlan) (hm : P.follows .mixedOrders = true)
    (hB : (Region.noSelect l.toArray && Region.sinkB .any l.toArray n && Region.chainB .any l.toArray n && decide (n < l.toArray.size) && decide (ms.len = l.toArray.size) && planB .any l.toArray n ms (Array.replicate l.toArray.size false)) = true)
    (hQ : ∀ c a d v w, Q (.panic c) (Act.put a d v) w → Q (.panic c) a w)
    (h : wpPlan P l.toArray Q S n ms a w.drew) : (Code.region id l.toArray true).wp P Q a w := by
  simp only [Bool.and_eq_true, decide_eq_true_eq] at hB
  obtain ⟨⟨⟨⟨⟨hsel, hs⟩, hc⟩, hn⟩, hlen⟩, hT⟩ := hB
  refine wp_region_any hm ?_
  have := wpAnyT_plan (md := .any) (Q := Q) (S := S) (n := n) hsel hs hc hn hQ ms _ a w.drew hT h
  rw [hlen] at this
  exact wpAny_of_T _ _ _ _ this
theorem plan_take {i : Nat} {p : RPlan} {a : Act} {w : World} : wpPlan P ops Q S n (.take i p) a w = (match ops[i]? with | none => False | some o => ∃ v, YieldsIf P ops S o v a ∧ S w ∧ wpPlan P ops Q S n p (a.put o.dst v) w) := by
  show (∃ o v, ops[i]? = some o ∧ _) = _
  cases h : ops[i]? with
  | none => simp
  | some o => simp
theorem plan_step {i : Nat} {p : RPlan} {a : Act} {w : World} : wpPlan P ops Q S n (.step i p) a w = (match ops[i]? with | none => False | some o => wpList P ops (Thn Q fun a' w' => (i < n → S w') ∧ wpPlan P ops Q S n p a' w') [o] a w) := by
  show (∃ o, ops[i]? = some o ∧ _) = _
  cases h : ops[i]? with
  | none => simp
  | some o => simp
theorem plan_fork {i j : Nat} {p q : RPlan} {a : Act} {w : World} : wpPlan P ops Q S n (.fork i p j q) a w = (wpPlan P ops Q S n (.step i p) a w ∧ wpPlan P ops Q S n (.step j q) a w) := rfl
theorem plan_done {a : Act} {w : World} : wpPlan P ops Q S n .done a w = Q .normal a w := rfl
end
end Go.Proofs.Ytocngjpjheockaa
