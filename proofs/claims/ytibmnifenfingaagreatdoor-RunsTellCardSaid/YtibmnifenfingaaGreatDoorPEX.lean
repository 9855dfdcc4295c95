/- Plain data: expressions; plain laws of them. -/
import Derived.Test.YtibmnifenfingaaGreatDoorPMV
import Derived.RowKit
import Derived.Test.YtibmnifenfingaaGreatDoorBase
namespace Go.Proofs.YtibmnifenfingaaGreatDoor
set_option maxRecDepth 100000
open Go.RowKit
set_option linter.unusedSimpArgs false
set_option linter.unusedVariables false
/-- An expression, as data. -/
inductive ET where
  | mk (kind n : Int) (subs : List ET)
namespace ET
theorem ind {P : ET → Prop} (h : ∀ k n s, (∀ x ∈ s, P x) → P (.mk k n s)) : ∀ g, P g
  | .mk k n s => h k n s (fun x _hx => ind h x)
termination_by g => SizeOf.sizeOf g
decreasing_by
  have := List.sizeOf_lt_of_mem _hx
  simp
  omega
/-! ### the number of parts -/
mutual
def parts : ET → Nat → Nat
  | .mk _ _ s, d => if 6 ≤ d then 31 else partsL s d 1
def partsL : List ET → Nat → Nat → Nat
  | [], _, r => r
  | x :: s, d, r => if 30 < r + parts x (d + 1) then r + parts x (d + 1) else partsL s d (r + parts x (d + 1))
end
theorem partsL_step (s : List ET) (d j : Nat) (h : j < s.length) (n : Nat) : partsL (s.drop j) d n = if 30 < n + parts s[j] (d + 1) then n + parts s[j] (d + 1) else partsL (s.drop (j + 1)) d (n + parts s[j] (d + 1)) := by
  rw [List.drop_eq_getElem_cons h]; rfl
theorem partsL_le (C : Nat) (s : List ET) (d : Nat) : ∀ r : Nat, (∀ x ∈ s, parts x (d + 1) ≤ C) → r ≤ 30 → partsL s d r ≤ 30 + C := by
  induction s with
  | nil => intro r _ h; simp only [partsL]; omega
  | cons x s ih =>
    intro r hx h1
    have hk := hx x (by simp)
    simp only [partsL]
    split
    · omega
    · exact ih _ (fun y hy => hx y (by simp [hy])) (by omega)
theorem parts_le (g : ET) : ∀ d, d ≤ 6 → parts g d ≤ 31 + 30 * (6 - d) := by
  induction g using ET.ind with
  | h k n s ih =>
    intro d hd
    simp only [parts]
    split
    · omega
    · have := partsL_le _ s d 1 (fun x hx => ih x hx (d + 1) (by omega)) (by omega)
      omega
/-! ### faults -/
def takes (k : Int) : Int := if k = 0 then -1 else if k ≤ 4 then 0 else if k = 9 then 1 else 2
mutual
def eachErr : ET → Int
  | .mk k _ s => if k < 1 ∨ 11 < k ∨ takes k ≠ s.length then 3 else eachErrL s
def eachErrL : List ET → Int
  | [] => 0
  | x :: s => if eachErr x = 0 then eachErrL s else eachErr x
end
theorem eachErrL_zero (s : List ET) : eachErrL s = 0 ↔ ∀ x ∈ s, eachErr x = 0 := by
  induction s with
  | nil => simp [eachErrL]
  | cons x s ih =>
    simp only [eachErrL, List.mem_cons, forall_eq_or_imp, ← ih]
    split
    · rename_i h; simp [h]
    · rename_i h; simp [h]
theorem eachErrL_step (s : List ET) (j : Nat) (h : j < s.length) : eachErrL (s.drop j) = if eachErr s[j] = 0 then eachErrL (s.drop (j + 1)) else eachErr s[j] := by
  rw [List.drop_eq_getElem_cons h]; rfl
def check (g : ET) : Int := if 30 < parts g 0 then 4 else eachErr g
theorem check_each {g : ET} (h : check g = 0) : eachErr g = 0 := by
  unfold check at h
  split at h
  · omega
  · exact h
/-- A right expression: its kind, how many lie in it, and each of those is right. -/
theorem ok_form {k n : Int} {s : List ET} (h : eachErr (.mk k n s) = 0) : 1 ≤ k ∧ k ≤ 11 ∧ takes k = s.length ∧ ∀ x ∈ s, eachErr x = 0 := by
  simp only [eachErr] at h
  split at h
  · omega
  · rename_i h1
    refine ⟨by omega, by omega, by omega, (eachErrL_zero s).1 h⟩
end ET
/-! ### the numbers of a value -/
namespace VT
mutual
def nums : VT → List Int
  | .mk l n s => (if l then [] else [n]) ++ numsL s
def numsL : List VT → List Int
  | [] => []
  | x :: s => nums x ++ numsL s
end
theorem numsL_step (s : List VT) (j : Nat) (h : j < s.length) : numsL (s.drop j) = nums s[j] ++ numsL (s.drop (j + 1)) := by
  rw [List.drop_eq_getElem_cons h]; rfl
def len : VT → Nat
  | .mk _ _ s => s.length
def isList : VT → Bool
  | .mk l _ _ => l
def num : VT → Int
  | .mk _ n _ => n
end VT
/-- The sum, as it wraps. -/
def sumW : Int → List Int → Int
  | n, [] => n
  | n, k :: l => sumW (wrap64 (n + k)) l
/-- The greatest; is there one? -/
def topW : Int × Bool → List Int → Int × Bool
  | r, [] => r
  | r, k :: l => topW (if r.2 = false ∨ r.1 < k then (k, true) else r) l
theorem sumW_append (l m : List Int) : ∀ n, sumW n (l ++ m) = sumW (sumW n l) m := by
  induction l with
  | nil => intro n; rfl
  | cons k l ih => intro n; exact ih _
theorem topW_append (l m : List Int) : ∀ n, topW n (l ++ m) = topW (topW n l) m := by
  induction l with
  | nil => intro n; rfl
  | cons k l ih => intro n; exact ih _
def truth (b : Bool) : Int := if b then 1 else 0
namespace ET
mutual
/-- What is told of a value; none: it has no number. -/
def told : ET → VT → Option Int
  | .mk k n s, v =>
    if k = 1 then some n
    else if k = 2 then some (sumW 0 v.nums)
    else if k = 3 then some (topW (0, false) v.nums).1
    else if k = 4 then some v.len
    else match toldI s 0 v with
      | none => none
      | some a =>
        if k = 9 then some (truth (a == 0))
        else if (k = 10 ∧ a = 0) ∨ (k = 11 ∧ a ≠ 0) then some a
        else match toldI s 1 v with
          | none => none
          | some b =>
            if k = 10 ∨ k = 11 then some b
            else if k = 5 then some (wrap64 (a + b))
            else if k = 7 then some (truth (decide (a < b)))
            else if k = 8 then some (truth (a == b))
            else if b = 0 then none
            else some (a.tmod b)
def toldI : List ET → Nat → VT → Option Int
  | [], _, _ => none
  | x :: _, 0, v => told x v
  | _ :: s, i + 1, v => toldI s i v
end
theorem toldI_get (s : List ET) : ∀ (i : Nat) (h : i < s.length) (v : VT), toldI s i v = told s[i] v := by
  induction s with
  | nil => intro i h; simp at h
  | cons x s ih =>
    intro i h v
    cases i with
    | zero => rfl
    | succ i => exact ih i (by simpa using h) v
/-- What Eval answers. -/
def evalR (x : ET) (v : VT) : Int × Int :=
  if check x ≠ 0 then (0, check x) else if VT.chk v 0 ≠ 0 then (0, VT.chk v 0) else match told x v with
    | none => (0, 6)
    | some n => (n, 0)
/-- What Fails answers. -/
def failsR (x : ET) (v : VT) : Bool × Int :=
  if (evalR x v).2 = 6 then (true, 0) else if (evalR x v).2 ≠ 0 then (false, (evalR x v).2) else ((evalR x v).1 == 0, 0)
end ET
end Go.Proofs.YtibmnifenfingaaGreatDoor
namespace Go.Proofs.YtibmnifenfingaaGreatDoor
set_option maxRecDepth 100000
open Go.RowKit
set_option linter.unusedSimpArgs false
set_option linter.unusedVariables false
/-! ### whatever is told is a number of 64 bits -/
theorem wrap64_bd (n : Int) : In64 (wrap64 n) := by unfold In64 wrap64; omega
namespace VT
mutual
/-- Numbers of 64 bits, and as many items as a slice may hold. -/
def Fit : VT → Prop
  | .mk _ n s => In64 n ∧ s.length ≤ 9223372036854775807 ∧ FitL s
def FitL : List VT → Prop
  | [] => True
  | x :: s => Fit x ∧ FitL s
end
theorem fitL_mem (s : List VT) : FitL s ↔ ∀ x ∈ s, Fit x := by
  induction s with
  | nil => simp [FitL]
  | cons x s ih => simp [FitL, ih]
theorem nums_fit (v : VT) : Fit v → ∀ n ∈ v.nums, In64 n := by
  induction v using VT.ind with
  | h l n s ih =>
    intro hf k hk
    simp only [Fit] at hf
    have hL : ∀ t : List VT, (∀ x ∈ t, x ∈ s) → ∀ k ∈ numsL t, In64 k := by
      intro t
      induction t with
      | nil => intro _ k hk; simp [numsL] at hk
      | cons x t iht =>
        intro hx k hk
        simp only [numsL, List.mem_append] at hk
        rcases hk with hk | hk
        · exact ih x (hx x (by simp)) ((fitL_mem s).1 hf.2.2 x (hx x (by simp))) k hk
        · exact iht (fun y hy => hx y (by simp [hy])) k hk
    simp only [nums, List.mem_append] at hk
    rcases hk with hk | hk
    · split at hk
      · simp at hk
      · have : k = n := by simpa using hk
        rw [this]; exact hf.1
    · exact hL s (fun x hx => hx) k hk
end VT
theorem sumW_bd (l : List Int) : ∀ n, In64 n → In64 (sumW n l) := by
  induction l with
  | nil => intro n h; exact h
  | cons k l ih => intro n h; exact ih _ (wrap64_bd _)
theorem topW_bd (l : List Int) (hl : ∀ n ∈ l, In64 n) : ∀ r, In64 r.1 → In64 (topW r l).1 := by
  induction l with
  | nil => intro r h; exact h
  | cons k l ih =>
    intro r h
    refine ih (fun n hn => hl n (by simp [hn])) _ ?_
    split
    · exact hl k (by simp)
    · exact h
namespace ET
mutual
def Fit : ET → Prop
  | .mk _ n s => In64 n ∧ FitL s
def FitL : List ET → Prop
  | [] => True
  | x :: s => Fit x ∧ FitL s
end
theorem fitL_mem (s : List ET) : FitL s ↔ ∀ x ∈ s, Fit x := by
  induction s with
  | nil => simp [FitL]
  | cons x s ih => simp [FitL, ih]
theorem truth_bd (b : Bool) : In64 (truth b) := by cases b <;> simp [truth, In64]
theorem tmod_bd {a b : Int} (ha : In64 a) (hb : b ≠ 0) : In64 (a.tmod b) := by
  unfold In64 at *
  have h := Int.natAbs_tmod a b
  have h2 : a.natAbs % b.natAbs ≤ a.natAbs := Nat.mod_le _ _
  by_cases h0 : 0 ≤ a
  · have := Int.tmod_nonneg b h0
    omega
  · have h3 : 0 ≤ (-a).tmod b := Int.tmod_nonneg b (by omega)
    rw [Int.neg_tmod] at h3
    omega
theorem told_bd (x : ET) (v : VT) (hv : VT.Fit v) : Fit x → ∀ n, told x v = some n → In64 n := by
  induction x using ET.ind with
  | h k m s ih =>
    intro hx n h
    simp only [Fit] at hx
    have hI : ∀ i n, toldI s i v = some n → In64 n := by
      intro i n hn
      by_cases hi : i < s.length
      · rw [toldI_get s i hi] at hn
        exact ih s[i] (List.getElem_mem hi) ((fitL_mem s).1 hx.2 _ (List.getElem_mem hi)) n hn
      · have : ∀ (t : List ET) (i : Nat), t.length ≤ i → toldI t i v = none := by
          intro t
          induction t with
          | nil => intro i _; rfl
          | cons y t iht =>
            intro i hi
            cases i with
            | zero => simp at hi
            | succ i => exact iht i (by simpa using hi)
        rw [this s i (by omega)] at hn
        cases hn
    simp only [told] at h
    split at h
    · simp only [Option.some.injEq] at h; rw [← h]; exact hx.1
    · split at h
      · simp only [Option.some.injEq] at h; rw [← h]; exact sumW_bd _ _ ⟨by omega, by omega⟩
      · split at h
        · simp only [Option.some.injEq] at h; rw [← h]; exact topW_bd _ (VT.nums_fit v hv) _ ⟨by simp, by simp⟩
        · split at h
          · simp only [Option.some.injEq] at h
            rw [← h]
            cases v with
            | mk l k t => simp only [VT.Fit] at hv; simp only [VT.len]; unfold In64; omega
          · cases ha : toldI s 0 v with
            | none => rw [ha] at h; cases h
            | some a =>
              rw [ha] at h
              simp only at h
              have hA := hI 0 a ha
              split at h
              · simp only [Option.some.injEq] at h; rw [← h]; exact truth_bd _
              · split at h
                · simp only [Option.some.injEq] at h; rw [← h]; exact hA
                · cases hb : toldI s 1 v with
                  | none => rw [hb] at h; cases h
                  | some b =>
                    rw [hb] at h
                    simp only at h
                    have hB := hI 1 b hb
                    split at h
                    · simp only [Option.some.injEq] at h; rw [← h]; exact hB
                    · split at h
                      · simp only [Option.some.injEq] at h; rw [← h]; exact wrap64_bd _
                      · split at h
                        · simp only [Option.some.injEq] at h; rw [← h]; exact truth_bd _
                        · split at h
                          · simp only [Option.some.injEq] at h; rw [← h]; exact truth_bd _
                          · split at h
                            · cases h
                            · simp only [Option.some.injEq] at h; rw [← h]; exact tmod_bd hA (by assumption)
/-! ### what Eval answers -/
theorem check_cases (x : ET) : check x = 0 ∨ check x = 3 ∨ check x = 4 := by
  have hE : ∀ y : ET, eachErr y = 0 ∨ eachErr y = 3 := by
    intro y
    induction y using ET.ind with
    | h k n s ih =>
      simp only [eachErr]
      split
      · exact .inr rfl
      · have : ∀ t : List ET, (∀ z ∈ t, z ∈ s) → (eachErrL t = 0 ∨ eachErrL t = 3) := by
          intro t
          induction t with
          | nil => intro _; exact .inl rfl
          | cons z t iht =>
            intro hz
            simp only [eachErrL]
            split
            · exact iht (fun y hy => hz y (by simp [hy]))
            · exact ih z (hz z (by simp))
        exact this s (fun z hz => hz)
  unfold check
  split
  · exact .inr (.inr rfl)
  · rcases hE x with h | h
    · exact .inl h
    · exact .inr (.inl h)
theorem vchk_cases (v : VT) : ∀ d, VT.chk v d = 0 ∨ VT.chk v d = 3 ∨ VT.chk v d = 4 := by
  induction v using VT.ind with
  | h l n s ih =>
    intro d
    simp only [VT.chk]
    split
    · exact .inr (.inl rfl)
    · split
      · exact .inr (.inr rfl)
      · have : ∀ t : List VT, (∀ z ∈ t, z ∈ s) → (VT.chkL t (d + 1) = 0 ∨ VT.chkL t (d + 1) = 3 ∨ VT.chkL t (d + 1) = 4) := by
          intro t
          induction t with
          | nil => intro _; exact .inl rfl
          | cons z t iht =>
            intro hz
            simp only [VT.chkL]
            split
            · exact iht (fun y hy => hz y (by simp [hy]))
            · exact ih z (hz z (by simp)) _
        exact this s (fun z hz => hz)
theorem eval_ok {x : ET} {v : VT} (h : (evalR x v).2 = 0) : check x = 0 ∧ VT.chk v 0 = 0 ∧ told x v = some (evalR x v).1 := by
  unfold evalR at *
  split at h
  · rename_i h1; exact absurd h h1
  · rename_i h1
    rw [if_neg h1]
    split at h
    · rename_i h2; exact absurd h h2
    · rename_i h2
      rw [if_neg h2]
      cases ht : told x v with
      | none => rw [ht] at h; simp at h
      | some n => exact ⟨by simpa using h1, by simpa using h2, rfl⟩
theorem eval_bd {x : ET} {v : VT} (hx : Fit x) (hv : VT.Fit v) (h : (evalR x v).2 = 0) : In64 (evalR x v).1 := told_bd x v hv hx _ (eval_ok h).2.2
theorem eval_err {x : ET} {v : VT} (h : (evalR x v).2 ≠ 0) : (evalR x v).1 = 0 := by
  unfold evalR at *
  split
  · rfl
  · rename_i h1
    rw [if_neg h1] at h
    split
    · rfl
    · rename_i h2
      rw [if_neg h2] at h
      cases ht : told x v with
      | none => rfl
      | some n => rw [ht] at h; simp at h
theorem told_two (k n : Int) (x y : ET) (v : VT) (h : 5 ≤ k) (h2 : k ≠ 9) : told (.mk k n [x, y]) v = match told x v with
    | none => none
    | some a => if (k = 10 ∧ a = 0) ∨ (k = 11 ∧ a ≠ 0) then some a else match told y v with
      | none => none
      | some b => if k = 10 ∨ k = 11 then some b else if k = 5 then some (wrap64 (a + b)) else if k = 7 then some (truth (decide (a < b))) else if k = 8 then some (truth (a == b)) else if b = 0 then none else some (a.tmod b) := by
  simp only [told]
  rw [if_neg (by omega), if_neg (by omega), if_neg (by omega), if_neg (by omega)]
  simp only [toldI]
  cases told x v with
  | none => rfl
  | some a =>
    simp only
    rw [if_neg h2]
    try (cases told y v <;> rfl)
theorem told_one (n : Int) (x : ET) (v : VT) : told (.mk 9 n [x]) v = match told x v with
    | none => none
    | some a => some (truth (a == 0)) := by
  simp [told, toldI]
  try (cases told x v <;> rfl)
theorem wrap_inj {a b c : Int} (ha : In64 a) (hb : In64 b) (h : wrap64 (a + c) = wrap64 (b + c)) : a = b := by
  unfold In64 wrap64 at *; omega
/-- JUST ONE OF THREE. -/
theorem less_law (x y z : ET) (v : VT) (m n o p q r : Int) (hx : Fit x) (hy : Fit y) (hv : VT.Fit v) (e1 : (evalR (.mk 7 m [x, y]) v).2 = 0) (e2 : (evalR (.mk 7 n [y, x]) v).2 = 0) (e3 : (evalR (.mk 8 o [x, y]) v).2 = 0) :
    0 ≤ (evalR (.mk 7 m [x, y]) v).1 ∧ (evalR (.mk 7 m [x, y]) v).1 ≤ 1 ∧ 0 ≤ (evalR (.mk 7 n [y, x]) v).1 ∧ (evalR (.mk 7 n [y, x]) v).1 ≤ 1 ∧ 0 ≤ (evalR (.mk 8 o [x, y]) v).1 ∧ (evalR (.mk 8 o [x, y]) v).1 ≤ 1 ∧
    (evalR (.mk 7 m [x, y]) v).1 + (evalR (.mk 7 n [y, x]) v).1 + (evalR (.mk 8 o [x, y]) v).1 = 1 ∧
    ((evalR (.mk 8 p [.mk 5 q [x, z], .mk 5 r [y, z]]) v).2 = 0 → (evalR (.mk 8 p [.mk 5 q [x, z], .mk 5 r [y, z]]) v).1 = (evalR (.mk 8 o [x, y]) v).1) := by
  have t1 := (eval_ok e1).2.2
  have t2 := (eval_ok e2).2.2
  have t3 := (eval_ok e3).2.2
  rw [told_two _ _ _ _ _ (by omega) (by omega)] at t1 t2 t3
  cases hX : told x v with
  | none => rw [hX] at t1; cases t1
  | some a =>
    cases hY : told y v with
    | none => rw [hX, hY] at t1; simp at t1
    | some b =>
      rw [hX, hY] at t1 t2 t3
      simp at t1 t2 t3
      have ba := told_bd x v hv hx a hX
      have bb := told_bd y v hv hy b hY
      have hc : 0 ≤ (evalR (.mk 7 m [x, y]) v).1 ∧ (evalR (.mk 7 m [x, y]) v).1 ≤ 1 ∧ 0 ≤ (evalR (.mk 7 n [y, x]) v).1 ∧ (evalR (.mk 7 n [y, x]) v).1 ≤ 1 ∧ 0 ≤ (evalR (.mk 8 o [x, y]) v).1 ∧ (evalR (.mk 8 o [x, y]) v).1 ≤ 1 ∧
          (evalR (.mk 7 m [x, y]) v).1 + (evalR (.mk 7 n [y, x]) v).1 + (evalR (.mk 8 o [x, y]) v).1 = 1 := by
        rw [← t1, ← t2, ← t3]
        rcases Int.lt_trichotomy a b with h | h | h
        · have h2 : ¬ b < a := by omega
          have h3 : (a == b) = false := by simp; omega
          simp [truth, h, h2, h3]
        · have h2 : ¬ b < a := by omega
          have h1 : ¬ a < b := by omega
          have h3 : (a == b) = true := by simp; omega
          simp [truth, h1, h2, h3]
        · have h2 : ¬ a < b := by omega
          have h3 : (a == b) = false := by simp; omega
          simp [truth, h, h2, h3]
      obtain ⟨c1, c2, c3, c4, c5, c6, c7⟩ := hc
      refine ⟨c1, c2, c3, c4, c5, c6, c7, fun e4 => ?_⟩
      have t4 := (eval_ok e4).2.2
      rw [told_two _ _ _ _ _ (by omega) (by omega), told_two _ _ _ _ _ (by omega) (by omega), told_two _ _ _ _ _ (by omega) (by omega), hX, hY] at t4
      cases hZ : told z v with
      | none => rw [hZ] at t4; simp at t4
      | some c =>
        rw [hZ] at t4
        simp at t4
        rw [← t4, ← t3]
        have : (wrap64 (a + c) == wrap64 (b + c)) = (a == b) := by
          rw [Bool.eq_iff_iff]
          simp only [beq_iff_eq]
          exact ⟨wrap_inj ba bb, fun h => by rw [h]⟩
        rw [this]
/-- DE MORGAN. -/
theorem morgan_law (x y : ET) (v : VT) (k1 k2 k3 k4 k5 k6 k7 k8 : Int) (e1 : (evalR x v).2 = 0) (e2 : (evalR y v).2 = 0) :
    ((evalR (.mk 9 k1 [.mk 10 k2 [x, y]]) v).2 = 0 → (evalR (.mk 11 k3 [.mk 9 k4 [x], .mk 9 k5 [y]]) v).2 = 0 → (evalR (.mk 9 k1 [.mk 10 k2 [x, y]]) v).1 = (evalR (.mk 11 k3 [.mk 9 k4 [x], .mk 9 k5 [y]]) v).1) ∧
    ((failsR x v).2 = 0 → (failsR (.mk 9 k6 [.mk 9 k7 [x]]) v).2 = 0 → (failsR x v).1 = (failsR (.mk 9 k6 [.mk 9 k7 [x]]) v).1) ∧
    ((evalR (.mk 8 k8 [x, x]) v).2 = 0 → (evalR (.mk 8 k8 [x, x]) v).1 = 1) := by
  have t1 := (eval_ok e1).2.2
  have t2 := (eval_ok e2).2.2
  generalize hA : (evalR x v).1 = a at *
  generalize hB : (evalR y v).1 = b at *
  refine ⟨fun e3 e4 => ?_, fun _ e6 => ?_, fun e7 => ?_⟩
  · have t3 := (eval_ok e3).2.2
    have t4 := (eval_ok e4).2.2
    rw [told_one, told_two _ _ _ _ _ (by omega) (by omega), t1, t2] at t3
    rw [told_two _ _ _ _ _ (by omega) (by omega), told_one, told_one, t1, t2] at t4
    by_cases h : a = 0
    · simp [h, truth] at t3 t4
      rw [← t3, ← t4]
    · have h' : (a == 0) = false := by simp [h]
      simp [h, truth] at t3 t4
      rw [← t3, ← t4]
  · have h1 : failsR x v = (a == 0, 0) := by unfold failsR; rw [if_neg (by omega), if_neg (by omega), hA]
    have h2 : (evalR (.mk 9 k6 [.mk 9 k7 [x]]) v).2 = 0 ∨ (evalR (.mk 9 k6 [.mk 9 k7 [x]]) v).2 = 6 := by
      unfold failsR at e6
      split at e6
      · rename_i h; exact .inr h
      · split at e6
        · rename_i h h3; exact absurd e6 h3
        · rename_i h h3; exact .inl (by omega)
    have h3 : told (.mk 9 k6 [.mk 9 k7 [x]]) v = some (truth (truth (a == 0) == 0)) := by rw [told_one, told_one, t1]
    have h4 : (evalR (.mk 9 k6 [.mk 9 k7 [x]]) v).2 = 0 := by
      rcases h2 with h | h
      · exact h
      · unfold evalR at h
        rw [h3] at h
        split at h
        · rename_i hc; rcases check_cases (.mk 9 k6 [.mk 9 k7 [x]]) with e | e | e <;> (simp only at h; omega)
        · split at h
          · rename_i hc; rcases vchk_cases v 0 with e | e | e <;> (simp only at h; omega)
          · simp at h
    have t5 := (eval_ok h4).2.2
    rw [h3] at t5
    simp only [Option.some.injEq] at t5
    have h5 : failsR (.mk 9 k6 [.mk 9 k7 [x]]) v = (truth (truth (a == 0) == 0) == 0, 0) := by unfold failsR; rw [if_neg (by omega), if_neg (by omega), ← t5]
    rw [h1, h5]
    cases (a == 0) <;> simp [truth]
  · have t7 := (eval_ok e7).2.2
    rw [told_two _ _ _ _ _ (by omega) (by omega), t1] at t7
    simp [truth] at t7
    exact t7.symm
/-- EUCLID. -/
theorem left_law (x y : ET) (v : VT) (m : Int) (hx : Fit x) (hy : Fit y) (hv : VT.Fit v) (e1 : (evalR x v).2 = 0) (e2 : (evalR y v).2 = 0) :
    ((evalR y v).1 = 0 → (evalR (.mk 6 m [x, y]) v).2 = 6 ∨ (evalR (.mk 6 m [x, y]) v).2 = 4) ∧
    ((evalR y v).1 ≠ 0 → (evalR (.mk 6 m [x, y]) v).2 = 4 ∨ ((evalR (.mk 6 m [x, y]) v).2 = 0 ∧ (evalR (.mk 6 m [x, y]) v).1 = (evalR x v).1.tmod (evalR y v).1)) := by
  obtain ⟨c1, c2, t1⟩ := eval_ok e1
  obtain ⟨c3, _, t2⟩ := eval_ok e2
  generalize hA : (evalR x v).1 = a at *
  generalize hB : (evalR y v).1 = b at *
  have hE : eachErr (.mk 6 m [x, y]) = 0 := by
    simp [eachErr, takes, eachErrL, check_each c1, check_each c3]
  have hT : told (.mk 6 m [x, y]) v = if b = 0 then none else some (a.tmod b) := by
    rw [told_two _ _ _ _ _ (by omega) (by omega), t1, t2]
    simp
  by_cases h30 : 30 < parts (.mk 6 m [x, y]) 0
  · have hC : check (.mk 6 m [x, y]) = 4 := by unfold check; rw [if_pos h30]
    have : (evalR (.mk 6 m [x, y]) v).2 = 4 := by unfold evalR; rw [hC]; simp
    exact ⟨fun _ => .inr this, fun _ => .inl this⟩
  · have hC : check (.mk 6 m [x, y]) = 0 := by unfold check; rw [if_neg h30]; exact hE
    refine ⟨fun h => .inl ?_, fun h => .inr ?_⟩
    · unfold evalR; rw [hC, c2, hT, if_pos h]; simp
    · unfold evalR; rw [hC, c2, hT, if_neg h]; simp
end ET
theorem rem_side (a b : Int) (hb : b ≠ 0) : (0 ≤ a → 0 ≤ a.tmod b) ∧ (a ≤ 0 → a.tmod b ≤ 0) ∧ (0 < b → a.tmod b < b ∧ -b < a.tmod b) ∧ (b < 0 → b < a.tmod b ∧ a.tmod b < -b) := by
  have h := Int.natAbs_tmod a b
  have h2 : a.natAbs % b.natAbs < b.natAbs := Nat.mod_lt _ (by omega)
  refine ⟨fun h => Int.tmod_nonneg b h, fun h => ?_, fun h => by omega, fun h => by omega⟩
  have h3 : 0 ≤ (-a).tmod b := Int.tmod_nonneg b (by omega)
  rw [Int.neg_tmod] at h3
  omega
end Go.Proofs.YtibmnifenfingaaGreatDoor
