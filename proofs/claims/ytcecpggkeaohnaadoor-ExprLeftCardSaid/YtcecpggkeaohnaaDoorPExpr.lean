/- Plain data: expressions, and what they tell of a value. -/
import Derived.Test.YtcecpggkeaohnaaDoorPMend
import Derived.RowKit
namespace Go.Proofs.YtcecpggkeaohnaaDoor
set_option maxRecDepth 100000
open Go.RowKit
set_option linter.unusedSimpArgs false
set_option linter.unusedVariables false
/-- An expression, as data. -/
inductive ET where
  | mk (kind n : Int) (subs : List ET)
namespace ET
theorem ind {P : ET → Prop} (h : ∀ k n s, (∀ x ∈ s, P x) → P (.mk k n s)) : ∀ g, P g
  | .mk k n s => h k n s (fun x _hx => ind h x)
termination_by g => SizeOf.sizeOf g
decreasing_by
  have := List.sizeOf_lt_of_mem _hx
  simp
  omega
/-! ### the number of parts -/
mutual
def parts : ET → Nat → Nat
  | .mk _ _ s, d => if 6 ≤ d then 31 else partsL s d 1
def partsL : List ET → Nat → Nat → Nat
  | [], _, r => r
  | x :: s, d, r => if 30 < r + parts x (d + 1) then r + parts x (d + 1) else partsL s d (r + parts x (d + 1))
end
theorem partsL_step (s : List ET) (d j : Nat) (h : j < s.length) (n : Nat) : partsL (s.drop j) d n = if 30 < n + parts s[j] (d + 1) then n + parts s[j] (d + 1) else partsL (s.drop (j + 1)) d (n + parts s[j] (d + 1)) := by
  rw [List.drop_eq_getElem_cons h]; rfl
theorem partsL_le (C : Nat) (s : List ET) (d : Nat) : ∀ r : Nat, (∀ x ∈ s, parts x (d + 1) ≤ C) → r ≤ 30 → partsL s d r ≤ 30 + C := by
  induction s with
  | nil => intro r _ h; simp only [partsL]; omega
  | cons x s ih =>
    intro r hx h1
    have hk := hx x (by simp)
    simp only [partsL]
    split
    · omega
    · exact ih _ (fun y hy => hx y (by simp [hy])) (by omega)
theorem parts_le (g : ET) : ∀ d, d ≤ 6 → parts g d ≤ 31 + 30 * (6 - d) := by
  induction g using ET.ind with
  | h k n s ih =>
    intro d hd
    simp only [parts]
    split
    · omega
    · have := partsL_le _ s d 1 (fun x hx => ih x hx (d + 1) (by omega)) (by omega)
      omega
/-! ### faults -/
def takes (k : Int) : Int := if k = 0 then -1 else if k ≤ 4 then 0 else if k = 9 then 1 else 2
mutual
def eachErr : ET → Int
  | .mk k _ s => if k < 1 ∨ 11 < k ∨ takes k ≠ s.length then 3 else eachErrL s
def eachErrL : List ET → Int
  | [] => 0
  | x :: s => if eachErr x = 0 then eachErrL s else eachErr x
end
theorem eachErrL_zero (s : List ET) : eachErrL s = 0 ↔ ∀ x ∈ s, eachErr x = 0 := by
  induction s with
  | nil => simp [eachErrL]
  | cons x s ih =>
    simp only [eachErrL, List.mem_cons, forall_eq_or_imp, ← ih]
    split
    · rename_i h; simp [h]
    · rename_i h; simp [h]
theorem eachErrL_step (s : List ET) (j : Nat) (h : j < s.length) : eachErrL (s.drop j) = if eachErr s[j] = 0 then eachErrL (s.drop (j + 1)) else eachErr s[j] := by
  rw [List.drop_eq_getElem_cons h]; rfl
def check (g : ET) : Int := if 30 < parts g 0 then 4 else eachErr g
theorem check_each {g : ET} (h : check g = 0) : eachErr g = 0 := by
  unfold check at h
  split at h
  · omega
  · exact h
/-- A right expression: its kind, how many lie in it, and each of those is right. -/
theorem ok_form {k n : Int} {s : List ET} (h : eachErr (.mk k n s) = 0) : 1 ≤ k ∧ k ≤ 11 ∧ takes k = s.length ∧ ∀ x ∈ s, eachErr x = 0 := by
  simp only [eachErr] at h
  split at h
  · omega
  · rename_i h1
    refine ⟨by omega, by omega, by omega, (eachErrL_zero s).1 h⟩
end ET
/-! ### the numbers of a value -/
namespace VT
mutual
def nums : VT → List Int
  | .mk l n s => (if l then [] else [n]) ++ numsL s
def numsL : List VT → List Int
  | [] => []
  | x :: s => nums x ++ numsL s
end
theorem numsL_step (s : List VT) (j : Nat) (h : j < s.length) : numsL (s.drop j) = nums s[j] ++ numsL (s.drop (j + 1)) := by
  rw [List.drop_eq_getElem_cons h]; rfl
def len : VT → Nat
  | .mk _ _ s => s.length
def isList : VT → Bool
  | .mk l _ _ => l
def num : VT → Int
  | .mk _ n _ => n
end VT
/-- The sum, as it wraps. -/
def sumW : Int → List Int → Int
  | n, [] => n
  | n, k :: l => sumW (wrap64 (n + k)) l
/-- The greatest; is there one? -/
def topW : Int × Bool → List Int → Int × Bool
  | r, [] => r
  | r, k :: l => topW (if r.2 = false ∨ r.1 < k then (k, true) else r) l
theorem sumW_append (l m : List Int) : ∀ n, sumW n (l ++ m) = sumW (sumW n l) m := by
  induction l with
  | nil => intro n; rfl
  | cons k l ih => intro n; exact ih _
theorem topW_append (l m : List Int) : ∀ n, topW n (l ++ m) = topW (topW n l) m := by
  induction l with
  | nil => intro n; rfl
  | cons k l ih => intro n; exact ih _
def truth (b : Bool) : Int := if b then 1 else 0
namespace ET
mutual
/-- What is told of a value; none: it has no number. -/
def told : ET → VT → Option Int
  | .mk k n s, v =>
    if k = 1 then some n
    else if k = 2 then some (sumW 0 v.nums)
    else if k = 3 then some (topW (0, false) v.nums).1
    else if k = 4 then some v.len
    else match toldI s 0 v with
      | none => none
      | some a =>
        if k = 9 then some (truth (a == 0))
        else if (k = 10 ∧ a = 0) ∨ (k = 11 ∧ a ≠ 0) then some a
        else match toldI s 1 v with
          | none => none
          | some b =>
            if k = 10 ∨ k = 11 then some b
            else if k = 5 then some (wrap64 (a + b))
            else if k = 7 then some (truth (decide (a < b)))
            else if k = 8 then some (truth (a == b))
            else if b = 0 then none
            else some (a.tmod b)
def toldI : List ET → Nat → VT → Option Int
  | [], _, _ => none
  | x :: _, 0, v => told x v
  | _ :: s, i + 1, v => toldI s i v
end
theorem toldI_get (s : List ET) : ∀ (i : Nat) (h : i < s.length) (v : VT), toldI s i v = told s[i] v := by
  induction s with
  | nil => intro i h; simp at h
  | cons x s ih =>
    intro i h v
    cases i with
    | zero => rfl
    | succ i => exact ih i (by simpa using h) v
/-- What Eval answers. -/
def evalR (x : ET) (v : VT) : Int × Int :=
  if check x ≠ 0 then (0, check x) else if VT.chk v 0 ≠ 0 then (0, VT.chk v 0) else match told x v with
    | none => (0, 6)
    | some n => (n, 0)
/-- What Fails answers. -/
def failsR (x : ET) (v : VT) : Bool × Int :=
  if (evalR x v).2 = 6 then (true, 0) else if (evalR x v).2 ≠ 0 then (false, (evalR x v).2) else ((evalR x v).1 == 0, 0)
end ET
end Go.Proofs.YtcecpggkeaohnaaDoor
