/- Regions that draw: takes and steps in any order. -/
import Derived.Test.YtcecpggkeaohnaaDoorRegn
namespace Go.Proofs.YtcecpggkeaohnaaDoor
set_option maxRecDepth 100000
open Go
set_option linter.unusedSimpArgs false
set_option linter.unusedVariables false
section
variable {P : Program} {ops : Array Oper} {Q : Exit → Act → World → Prop} {md : Region.Mode} {S : World → Prop} {n : Nat}
def wpMov (P : Program) (ops : Array Oper) (Q : Exit → Act → World → Prop) (S : World → Prop) (n : Nat) : List (Bool × Nat) → Act → World → Prop
  | [], a, w => Q .normal a w
  | (true, i) :: ms, a, w => ∃ o v, ops[i]? = some o ∧ YieldsIf P ops S o v a ∧ S w ∧ wpMov P ops Q S n ms (a.put o.dst v) w
  | (false, i) :: ms, a, w => ∃ o, ops[i]? = some o ∧ wpList P ops (Thn Q fun a' w' => (i < n → S w') ∧ wpMov P ops Q S n ms a' w') [o] a w
def movB (md : Region.Mode) (ops : Array Oper) (n : Nat) : List (Bool × Nat) → Array Bool → Bool
  | (true, i) :: ms, listed => decide (i < n) && closedB md ops n listed && (Region.ready md ops listed).contains i && Region.free md ops listed i && movB md ops n ms (listed.setIfInBounds i true)
  | (false, k) :: ms, listed => decide (Region.ready md ops listed = [k]) && movB md ops n ms (listed.setIfInBounds k true)
  | [], listed => (Region.ready md ops listed).isEmpty
theorem wpAnyT_mov (hsel : Region.noSelect ops = true) (hs : Region.sinkB md ops n = true) (hc : Region.chainB md ops n = true) (hn : n < ops.size) (hQ : ∀ c a d v w, Q (.panic c) (Act.put a d v) w → Q (.panic c) a w) :
    ∀ (ms : List (Bool × Nat)) (listed : Array Bool) (a : Act) (w : World), movB md ops n ms listed = true → wpMov P ops Q S n ms a w → wpAnyT P md ops Q S n ms.length listed a w
  | [], listed, a, w, hB, h => ⟨by simpa [movB] using hB, h⟩
  | (true, i) :: ms, listed, a, w, hB, h => by
    simp only [movB, Bool.and_eq_true, decide_eq_true_eq] at hB
    obtain ⟨⟨⟨⟨hin, hcl⟩, hr⟩, hf⟩, hB'⟩ := hB
    obtain ⟨o, v, ho, hy, hS, hK⟩ := h
    exact wpAnyT_first ho (Region.noSelect_spec hsel) hs hc hn hin (fun c a w => hQ c a _ _ w) _ _ _ _ (closedB_spec hcl) (Region.free_spec ho hf) (by simpa using hr) hy hS
      (wpAnyT_mov hsel hs hc hn hQ ms _ _ w hB' hK)
  | (false, k) :: ms, listed, a, w, hB, h => by
    simp only [movB, Bool.and_eq_true, decide_eq_true_eq] at hB
    obtain ⟨o, ho, hl⟩ := h
    have hm : ∀ i ∈ Region.ready md ops listed, wpOp P ops Q i (fun a' w' => (i < n → S w') ∧ wpAnyT P md ops Q S n ms.length (listed.setIfInBounds i true) a' w') a w := by
      intro i hi
      rw [hB.1] at hi
      have hik : i = k := by simpa using hi
      subst hik
      exact wpOp_mono (fun a' w' h' => ⟨h'.1, wpAnyT_mov hsel hs hc hn hQ ms _ a' w' hB.2 h'.2⟩) (wpOp_of_thn ho hl)
    exact ⟨fun h0 => (by rw [hB.1] at h0; cases h0), hm⟩
theorem region_mov {id : Nat} {l : List Oper} {a : Act} {w : World} (S : World → Prop) (n : Nat) (ms : List (Bool × Nat)) (hm : P.follows .mixedOrders = true)
    (hB : (Region.noSelect l.toArray && Region.sinkB .any l.toArray n && Region.chainB .any l.toArray n && decide (n < l.toArray.size) && decide (ms.length = l.toArray.size) && movB .any l.toArray n ms (Array.replicate l.toArray.size false)) = true)
    (hQ : ∀ c a d v w, Q (.panic c) (Act.put a d v) w → Q (.panic c) a w)
    (h : wpMov P l.toArray Q S n ms a w.drew) : (Code.region id l.toArray true).wp P Q a w := by
  simp only [Bool.and_eq_true, decide_eq_true_eq] at hB
  obtain ⟨⟨⟨⟨⟨hsel, hs⟩, hc⟩, hn⟩, hlen⟩, hT⟩ := hB
  refine wp_region_any hm ?_
  have := wpAnyT_mov (md := .any) (Q := Q) (S := S) (n := n) hsel hs hc hn hQ ms _ a w.drew hT h
  rw [hlen] at this
  exact wpAny_of_T _ _ _ _ this
theorem mov_take {i : Nat} {ms : List (Bool × Nat)} {a : Act} {w : World} : wpMov P ops Q S n ((true, i) :: ms) a w = (match ops[i]? with | none => False | some o => ∃ v, YieldsIf P ops S o v a ∧ S w ∧ wpMov P ops Q S n ms (a.put o.dst v) w) := by
  show (∃ o v, ops[i]? = some o ∧ _) = _
  cases h : ops[i]? with
  | none => simp
  | some o => simp
theorem mov_step {i : Nat} {ms : List (Bool × Nat)} {a : Act} {w : World} : wpMov P ops Q S n ((false, i) :: ms) a w = (match ops[i]? with | none => False | some o => wpList P ops (Thn Q fun a' w' => (i < n → S w') ∧ wpMov P ops Q S n ms a' w') [o] a w) := by
  show (∃ o, ops[i]? = some o ∧ _) = _
  cases h : ops[i]? with
  | none => simp
  | some o => simp
end
end Go.Proofs.YtcecpggkeaohnaaDoor
