/- A range over a function whose iterator keeps a string of its own in a cell: the contract of such an iterator, and what the statement then owes. -/
import Derived.Test.YtlhdiekibkdiaaaDoorPTP
import Derived.RangeFuncNested
import Derived.RangeFuncBound
import Derived.RangeFuncCalls
import Derived.RangeFuncLeaves
import Derived.RangeFuncBox
import Derived.Shelf.Abstract
import Derived.Shelf.RegionOpen
import Derived.WalkKit
import Derived.OwnWalkIn
import Derived.TacticsInMore
import Derived.LoopNIn
import Derived.LoopIn
namespace Go.Proofs.YtlhdiekibkdiaaaDoor
set_option maxRecDepth 100000
open Go Go.RowKit Go.Shelf
set_option linter.unusedSimpArgs false
set_option linter.unusedVariables false
/-- The iterator's three boxes lie as they lay. -/
def Kp3 (N : Nat) (W W' : World) : Prop := ∀ b, N ≤ b → b < N + 3 → W'.heap[b]? = W.heap[b]?
theorem Kp3.trans {N : Nat} {A B C : World} (h : Kp3 N A B) (k : Kp3 N B C) : Kp3 N A C := fun b h1 h2 => (k b h1 h2).trans (h b h1 h2)
theorem Kp3.refl (N : Nat) (A : World) : Kp3 N A A := fun _ _ _ => rfl
theorem Kp3.put {N B : Nat} (hN : N + 3 ≤ B) (W : World) (l : Nat) (o : Obj) (hl : B ≤ l) : Kp3 N W (W.putObj l o) := fun b _ h2 => World.putObj_heap_other (by omega)
/-- An iterator over the pieces: it stores into its own cell alone between two rounds. -/
def SplitC (F : Fence) (n : Nat) (P : Program) (g : Nat) (lb : Array Value) (N : Nat) (pieces : List (List UInt8)) (w : World) : Prop :=
  ∀ (l : Nat) (J Jx : List (List UInt8) → World → Prop) (W : World), Kp3 N w W → (∀ pre W v, J pre W → J pre (W.setCell ⟨N, 0, none⟩ v)) →
    (∀ pre x W1, J pre W1 → pre ++ [x] <+: pieces → YieldAt F (n - 1) P l #[.string ⟨x.toArray⟩] W1 fun e W' =>
      (e = .returned (.bool true) ∧ J (pre ++ [x]) W' ∧ Kp3 N W1 W') ∨ (e = .returned (.bool false) ∧ Jx (pre ++ [x]) W')) →
    J [] W →
    CallsIn F n P g (#[.func (.yield l) #[] #[]] ++ lb) W fun e W' => (∃ v, e = .returned v) ∧ (J pieces W' ∨ ∃ pre, pre <+: pieces ∧ Jx pre W')
/-! ### how a round may be left -/
/-- Off its end; by these jumps. -/
def jumpOf : Exit → Option (Option Code)
  | .normal => some none
  | .ret => some (some .ret)
  | .exit id => some (some (.exit id))
  | .goto t => some (some (.goto t))
  | _ => none
/-- What a round owes: where it goes on, where it jumps. -/
def RoundQ (B N : Nat) (I : List (List UInt8) → World → Prop) (Ix : Code → List (List UInt8) → World → Prop) (xs : List (List UInt8)) (W : World) (e : Exit) (_ : Act) (W' : World) : Prop :=
  match jumpOf e with
  | none => False
  | some none => KeepsFrom B W W' ∧ Kp3 N W W' ∧ I xs W'
  | some (some c) => KeepsFrom B W W' ∧ Ix c xs W'
theorem roundPost_jump {P : Program} {l : Nat} {R : Ending → World → Prop} {e : Exit} {a : Act} {w w' : World} {j : Option Code} {v : Value} (he : jumpOf e = some j) (hr : (Instr.endRound l j).run P w = .ok v w') (hR : R (.returned v) w') : roundPost P l R e a w := by
  cases e <;> simp only [jumpOf, Option.some.injEq, reduceCtorEq] at he <;> subst he <;> exact ⟨v, w', hr, hR⟩
/-! ### the loop's own two blocks -/
def LRec (B : Nat) (r : LoopState → Option Code → Loop) (st : LoopState) (pe : Option Code) (W : World) : Prop := W.heap[B + 1]? = some (.loop (r st pe)) ∧ W.heap[B]? = some (.deferred (some []))
section
variable {B N : Nat} {r : LoopState → Option Code → Loop} {st st' : LoopState} {pe pe' : Option Code} {W W' : World}
theorem LRec.lt (h : LRec B r st pe W) : B + 1 < W.heap.size := (Array.getElem?_eq_some_iff.1 h.1).1
theorem LRec.turn (h : LRec B r st pe W) (st' : LoopState) (pe' : Option Code) : LRec B r st' pe' (W.putObj (B + 1) (.loop (r st' pe'))) :=
  ⟨World.putObj_heap_same h.lt, (World.putObj_heap_other (by omega)).trans h.2⟩
theorem LRec.keep (h : LRec B r st pe W) (k : KeepsFrom B W W') : LRec B r st pe W' := ⟨k.same _ _ (by omega) h.1 rfl, k.same _ _ (Nat.le_refl _) h.2 rfl⟩
theorem LRec.cell (h : LRec B r st pe W) (hN : N < B) (v : Value) : LRec B r st pe (W.setCell ⟨N, 0, none⟩ v) :=
  ⟨(Below.heap_setCell W _ v _ (by dsimp only; omega)).trans h.1, (Below.heap_setCell W _ v _ (by dsimp only; omega)).trans h.2⟩
theorem own_turn {β : Type} {I : β → World → Prop} {s : β} (hI : OwnFrom B I) (h : LRec B r st pe W) (hs : I s W) (o : Obj) : I s (W.putObj (B + 1) o) := hI.putObj o hs (by omega) h.1 rfl
end
/-- The record that entering lays. -/
abbrev lrec (fn : FuncId) (tmps : Array Value) (ps : Array Tmp) (assign body : Code) (B : Nat) (st : LoopState) (pe : Option Code) : Loop := { state := st, pending := pe, fn, tmps, params := ps, assign, body, defers := B }
section
variable {F : Fence} {n : Nat} {P : Program} {ps : Array Tmp} {assign body : Code} {tmps : Array Value} {fn : FuncId} {B N : Nat} {pieces : List (List UInt8)}
  {I : List (List UInt8) → World → Prop} {Ix : Code → List (List UInt8) → World → Prop}
/-- One round. -/
theorem split_round (hfn : F.fn fn) (hps : ps.size = 1) (hN : N + 3 ≤ B) (hI : OwnFrom B I) (hIx : ∀ c, OwnFrom B (Ix c)) (pre : List (List UInt8)) (x : List UInt8) (W : World) (hi : I pre W) (hl : LRec B (lrec fn tmps ps assign body B) .ready none W) (a₁ : Act)
    (hassign : ∀ K : Act → World → Prop, K a₁ W → assign.wpIn (F.inRound (B + 1)) n P (Exit.then K (fun _ _ _ => False)) { tmps := (ps.zip #[Value.string ⟨x.toArray⟩]).foldl (fun t (p, v) => t.setIfInBounds p v) tmps, defers := [] } W)
    (hbody : ∀ W, I pre W → body.wpIn (F.inRound (B + 1)) n P (RoundQ B N I Ix (pre ++ [x]) W) a₁ W) :
    YieldAt F n P (B + 1) #[.string ⟨x.toArray⟩] W fun e W' =>
      (e = .returned (.bool true) ∧ (I (pre ++ [x]) W' ∧ LRec B (lrec fn tmps ps assign body B) .ready none W') ∧ Kp3 N W W') ∨
      (e = .returned (.bool false) ∧ ∃ c, Ix c (pre ++ [x]) W' ∧ LRec B (lrec fn tmps ps assign body B) .done (some c) W') := by
  refine ⟨fn, _, assign, body, run_yield (P := P) hl.1 (by simp [hps]), roundIn_of_wpIn hfn (hassign _ ⟨_, run_beginRound hl.1 rfl, ?_⟩)⟩
  have hb := hl.turn .busy none
  have k1 : Kp3 N W _ := Kp3.put hN W (B + 1) (.loop (lrec fn tmps ps assign body B .busy none)) (by omega)
  refine wpIn_mono (hbody _ (own_turn hI hl hi _)) fun e a3 W3 hq => ?_
  unfold RoundQ at hq
  cases hj : jumpOf e with
  | none => rw [hj] at hq; exact hq.elim
  | some j =>
    rw [hj] at hq
    cases j with
    | none =>
      obtain ⟨q1, q2, q3⟩ := hq
      have h3 := hb.keep q1
      exact roundPost_jump hj (run_endRound none h3.1) (.inl ⟨rfl, ⟨own_turn hI h3 q3 _, h3.turn .ready none⟩, (k1.trans q2).trans (Kp3.put hN W3 (B + 1) _ (by omega))⟩)
    | some c =>
      obtain ⟨q1, q2⟩ := hq
      have h3 := hb.keep q1
      exact roundPost_jump hj (run_endRound (some c) h3.1) (.inr ⟨rfl, c, own_turn (hIx c) h3 q2 _, h3.turn .done (some c)⟩)
end
section
variable {F : Fence} {n : Nat} {P : Program}
/-- The statement, whole. -/
theorem range_split {g : Operand} {ps : Array Tmp} {assign body : Code} {Q : Exit → Act → World → Prop} {a : Act} {w : World}
    (hro : F.round = none) (h1 : 1 ≤ n) {gf : Nat} {lb : Array Value} (hg : a.eval g = .func (.func gf) #[] lb) (hFg : F.fn gf) (eg : ∀ args w, (callFunc gf args).run P w = .ok (.enter gf args) w)
    {N : Nat} {pieces : List (List UInt8)} (hseq : SplitC F (n - 1) P gf lb N pieces w) (hN : N + 3 ≤ w.heap.size) (hps : ps.size = 1)
    (I : List (List UInt8) → World → Prop) (Ix : Code → List (List UInt8) → World → Prop) (hI : OwnFrom w.heap.size I) (hIx : ∀ c, OwnFrom w.heap.size (Ix c)) (hIc : ∀ pre W v, I pre W → I pre (W.setCell ⟨N, 0, none⟩ v)) (h0 : I [] w) (a₁ : List UInt8 → Act)
    (hassign : ∀ (l : Nat) (x : List UInt8) (W : World) (K : Act → World → Prop), K (a₁ x) W →
      assign.wpIn (F.inRound l) (n - 1 - 1) P (Exit.then K (fun _ _ _ => False)) { tmps := (ps.zip #[Value.string ⟨x.toArray⟩]).foldl (fun t (p, v) => t.setIfInBounds p v) a.tmps, defers := [] } W)
    (hbody : ∀ (l : Nat) (pre : List (List UInt8)) (x : List UInt8) (W : World), I pre W → pre ++ [x] <+: pieces → body.wpIn (F.inRound l) (n - 1 - 1) P (RoundQ w.heap.size N I Ix (pre ++ [x]) W) (a₁ x) W)
    (hdone : ∀ (D : Nat) (W : World), w.heap.size ≤ D → I pieces W → W.heap[D]? = some (.deferred (some [])) → Q .normal { a with defers := { target := .collected D, args := #[] } :: a.defers } W)
    (hstop : ∀ (D : Nat) (c : Code) (pre : List (List UInt8)) (W : World), w.heap.size ≤ D → pre <+: pieces → Ix c pre W → W.heap[D]? = some (.deferred (some [])) → c.wpIn F n P Q { a with defers := { target := .collected D, args := #[] } :: a.defers } W) :
    (Code.rangeFunc g ps assign body).wpIn F n P Q a w := by
  obtain ⟨B, hB⟩ : ∃ B, B = w.heap.size := ⟨_, rfl⟩
  rw [← hB] at hI hIx hbody hN hdone hstop
  refine wpIn_rangeFunc fun fn hfn => ?_
  have run := run_enterLoop_outer (P := P) (w := w) fn a.tmps ps assign body
  rw [← hB] at run
  have hr : LRec B (lrec fn a.tmps ps assign body B) .ready none ((w.alloc (.deferred (some []))).alloc (.loop (lrec fn a.tmps ps assign body B .ready none))) := by
    have l1 := World.alloc_heap_new (w.alloc (.deferred (some []))) (.loop (lrec fn a.tmps ps assign body B .ready none))
    have l2 := World.alloc_heap_new w (.deferred (some []))
    rw [World.size_alloc, ← hB] at l1
    rw [← hB] at l2
    exact ⟨l1, (Below.heap_alloc _ _ _ (by rw [World.size_alloc]; omega)).trans l2⟩
  have hi := hI.alloc (.loop (lrec fn a.tmps ps assign body B .ready none)) (hI.alloc (.deferred (some [])) h0)
  have hk : Kp3 N w ((w.alloc (.deferred (some []))).alloc (.loop (lrec fn a.tmps ps assign body B .ready none))) := fun b _ hb =>
    (Below.heap_alloc _ _ _ (by rw [World.size_alloc]; omega)).trans (Below.heap_alloc _ _ _ (by omega))
  generalize ((w.alloc (.deferred (some []))).alloc (.loop (lrec fn a.tmps ps assign body B .ready none))) = W1 at *
  have call := hseq (B + 1) (fun pre W => I pre W ∧ LRec B (lrec fn a.tmps ps assign body B) .ready none W) (fun pre W => ∃ c, Ix c pre W ∧ LRec B (lrec fn a.tmps ps assign body B) .done (some c) W) W1 hk
    (fun pre W v h => ⟨hIc pre W v h.1, h.2.cell (by omega) v⟩)
    (fun pre x W h hp => split_round hfn hps hN hI hIx pre x W h.1 h.2 (a₁ x) (hassign _ x W) (fun W' h' => hbody _ pre x W' h' hp)) ⟨hi, hr⟩
  refine ⟨B + 1, [{ target := .collected B, args := #[] }], W1, { target := .fn (.func gf) lb, args := #[.func (.yield (B + 1)) #[] #[]] }, W1, gf, _, W1, by rw [hro]; exact run, ?_, ?_, ?_, fun _ => h1, call.mono ?_⟩
  · simp only [resolve, hg]
    simp [go_sem]
  · intro f hf
    simp only [Target.leads, Option.some.injEq] at hf
    exact hf ▸ hFg
  · simp [invoke, go_sem, eg]
  · rintro e W2 ⟨⟨v, rfl⟩, ⟨q, hl⟩ | ⟨pre, hp, c, q, hl⟩⟩
    · exact ⟨_, _, run_endLoop hl.1 (by simp), hdone B _ (Nat.le_refl _) (own_turn hI hl q _) (hl.turn .exhausted none).2⟩
    · exact ⟨_, _, run_endLoop hl.1 (by simp), hstop B c pre _ (Nat.le_refl _) hp (own_turn (hIx c) hl q _) (hl.turn .exhausted (some c)).2⟩
end
end Go.Proofs.YtlhdiekibkdiaaaDoor
