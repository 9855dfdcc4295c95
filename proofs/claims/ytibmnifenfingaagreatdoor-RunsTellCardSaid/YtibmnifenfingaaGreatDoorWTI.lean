/- Plain laws: the weight of a generator. Two slices that read the same. -/
import Derived.Test.YtibmnifenfingaaGreatDoorPA
import Derived.Test.YtibmnifenfingaaGreatDoorDRW
import Derived.Test.YtibmnifenfingaaGreatDoorPLY
import Derived.Test.YtibmnifenfingaaGreatDoorGNS
import Derived.Test.YtibmnifenfingaaGreatDoorGENC
import Derived.Test.YtibmnifenfingaaGreatDoorTape
import Derived.Test.YtibmnifenfingaaGreatDoorTAs
namespace Go.Proofs.YtibmnifenfingaaGreatDoor
set_option maxRecDepth 100000
open Go.RowKit
set_option linter.unusedSimpArgs false
set_option linter.unusedVariables false
namespace GT
mutual
def wt : GT → Nat
  | .mk k _ _ s => if k = 3 then 1 + wtL s else if k = 4 then 1 + 5 * wtL s else if k = 5 then 1 + wtL s else 1
def wtL : List GT → Nat
  | [] => 0
  | x :: s => wt x + wtL s
end
theorem wt_pos (g : GT) : 1 ≤ wt g := by
  obtain ⟨k, a, b, s⟩ := g
  simp only [wt]
  split
  · omega
  · split
    · omega
    · split <;> omega
theorem times_eq {σ : Type} (st : Int → σ → Except Int (Int × σ)) (x : GT) (n : Nat) : ∀ q, times (fun q => play st x q) n q = playL st (List.replicate n x) q := by
  induction n with
  | zero => intro q; rfl
  | succ n ih =>
    intro q
    simp only [times, List.replicate_succ, playL]
    cases play st x q with
    | error e => rfl
    | ok r => obtain ⟨v, q1⟩ := r; simp only; rw [ih q1]
end GT
theorem GT.wtL_len (l : List GT) : l.length ≤ GT.wtL l := by
  induction l with
  | nil => simp
  | cons x l ih => have := GT.wt_pos x; simp only [List.length_cons, GT.wtL]; omega
theorem GT.wtL_parts (s : List GT) (d c : Nat) (ih : ∀ x ∈ s, (GT.parts x (d + 1)).2 = true → GT.wt x ≤ (GT.parts x (d + 1)).1 * c) : ∀ r : Nat × Bool, (GT.partsL s d r).2 = true → GT.wtL s + r.1 * c ≤ (GT.partsL s d r).1 * c := by
  induction s with
  | nil => intro r h; simp [GT.wtL, GT.partsL]
  | cons x s ihs =>
    intro r h
    simp only [GT.partsL] at h ⊢
    split at h
    · rename_i hr
      rw [if_pos hr]
      have h1 := (GT.partsL_ok s d _ h).1
      simp only [Bool.and_eq_true, decide_eq_true_eq] at h1
      have h2 := ihs (fun y hy => ih y (by simp [hy])) _ h
      have h3 := ih x (by simp) h1.1
      simp only [Nat.add_mul] at h2
      simp only [GT.wtL]
      omega
    · rename_i hr; exact absurd h hr
theorem GT.wt_parts (g : GT) : ∀ d, (GT.parts g d).2 = true → GT.wt g ≤ (GT.parts g d).1 * 6 ^ (6 - d) := by
  induction g using GT.ind with
  | h k a b s ih =>
    intro d h
    have hk := GT.parts_kids h
    simp only [GT.parts, Bool.and_eq_true, decide_eq_true_eq] at h
    have hL := GT.wtL_parts s d (6 ^ (6 - (d + 1))) (fun x hx => ih x hx (d + 1)) _ h.1
    simp only at hL
    have hp : 6 ^ (6 - d) = 6 ^ (6 - (d + 1)) * 6 := by rw [← Nat.pow_succ]; congr 1; omega
    have hpos : 1 ≤ 6 ^ (6 - (d + 1)) := Nat.one_le_pow _ _ (by omega)
    simp only [GT.parts]
    have hge := (GT.partsL_ok s d _ h.1).2.2
    simp only at hge
    rw [hp, ← Nat.mul_assoc]
    generalize 6 ^ (6 - (d + 1)) = c at *
    generalize (GT.partsL s d (1, decide (d < 6))).1 = n at *
    have h6 : n * c * 6 = 6 * (n * c) := by omega
    have h1 : 1 * c ≤ n * c := Nat.mul_le_mul_right _ (by omega)
    simp only [GT.wt]
    split
    · omega
    · split
      · omega
      · split <;> omega
theorem GT.wt_ok {g : GT} (h : GT.check g = 0) : GT.wt g ≤ 1399680 := by
  have hp := GT.check_parts h
  have h1 := GT.wt_parts g 0 hp
  cases g with
  | mk k a b s =>
    have h2 := hp
    simp only [GT.parts, Bool.and_eq_true, decide_eq_true_eq] at h2
    have h3 : (GT.parts (.mk k a b s) 0).1 ≤ 30 := by simp only [GT.parts]; exact h2.2
    have h4 : (GT.parts (.mk k a b s) 0).1 * 6 ^ (6 - 0) ≤ 30 * 6 ^ (6 - 0) := Nat.mul_le_mul_right _ h3
    omega
theorem OwnGs.form2 {w0 w : World} {lo : Nat} {v : Value} {s : List GT} (h : OwnGs w0 w lo v s) : ∀ b, v.ownBlock = some b → lo ≤ b ∧ b < w.heap.size := by
  obtain ⟨cs, hown, hc⟩ := h
  exact World.ownsRow.lt hown
theorem OwnInts.form2 {w : World} {lo : Nat} {v : Value} {l : List Int} (h : OwnInts w lo v l) : ∀ b, v.ownBlock = some b → lo ≤ b ∧ b < w.heap.size := World.ownsRow.lt h
theorem ints_same (va vb : Value) (a : List Int) (w : World) (ha : IntsAt w va a) (hb : IntsAt w vb a) : Calls Tryz.prog 30 #[va, vb] w fun e w' => e = .returned (.bool true) ∧ ∃ n, w' = w.drewN n := by
  have := ints_any va vb a a w ha hb
  simpa using this
end Go.Proofs.YtibmnifenfingaaGreatDoor
