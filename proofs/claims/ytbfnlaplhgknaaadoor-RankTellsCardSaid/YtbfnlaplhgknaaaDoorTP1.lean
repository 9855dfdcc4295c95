/- Plain laws: all tapes of a generator, in their order: each one's place is its number. No program in sight. -/
import Derived.Test.YtbfnlaplhgknaaaDoorRNK
namespace Go.Proofs.YtbfnlaplhgknaaaDoor
set_option maxRecDepth 100000
set_option linter.unusedSimpArgs false
set_option linter.unusedVariables false
/-- Each of the first before each of the second. -/
def mulL : List (List Int) → List (List Int) → List (List Int)
  | [], _ => []
  | x :: A, B => B.map (x ++ ·) ++ mulL A B
theorem mulL_len (A B : List (List Int)) : (mulL A B).length = A.length * B.length := by
  induction A with
  | nil => simp [mulL]
  | cons x A ih => simp only [mulL, List.length_append, List.length_map, List.length_cons, ih, Nat.add_mul]; omega
theorem mulL_nth (B : List (List Int)) : ∀ (A : List (List Int)) (n : Nat) (h : n < (mulL A B).length), ∃ i k, ∃ (hi : i < A.length) (hk : k < B.length), n = i * B.length + k ∧ (mulL A B)[n] = A[i] ++ B[k] := by
  intro A
  induction A with
  | nil => intro n h; simp [mulL] at h
  | cons x A ih =>
    intro n h
    by_cases hn : n < B.length
    · refine ⟨0, n, by simp, hn, by omega, ?_⟩
      simp only [mulL]
      rw [List.getElem_append_left (by simpa using hn)]
      simp
    · have h2 : n - B.length < (mulL A B).length := by simp only [mulL, List.length_append, List.length_map] at h; omega
      obtain ⟨i, k, hi, hk, e, h3⟩ := ih (n - B.length) h2
      refine ⟨i + 1, k, by simpa using hi, hk, by rw [Nat.add_mul]; omega, ?_⟩
      simp only [mulL]
      rw [List.getElem_append_right (by simpa using hn)]
      simpa using h3
/-- Branches, the number of each ahead of what comes behind it. -/
def anyF : List (List (List Int)) → Nat → List (List Int)
  | [], _ => []
  | B :: T, j => mulL [[(j : Int)]] B ++ anyF T (j + 1)
def sumN : List (List (List Int)) → Nat
  | [] => 0
  | B :: T => B.length + sumN T
theorem anyF_len (T : List (List (List Int))) : ∀ j, (anyF T j).length = sumN T := by
  induction T with
  | nil => intro j; rfl
  | cons B T ih => intro j; simp only [anyF, sumN, List.length_append, mulL_len, ih]; simp
theorem anyF_nth (T : List (List (List Int))) : ∀ (j0 n : Nat) (h : n < (anyF T j0).length), ∃ j k, ∃ (hj : j < T.length) (hk : k < T[j].length), n = sumN (T.take j) + k ∧ (anyF T j0)[n] = ((j0 + j : Nat) : Int) :: T[j][k] := by
  induction T with
  | nil => intro j0 n h; simp [anyF] at h
  | cons B T ih =>
    intro j0 n h
    have hl : (mulL [[(j0 : Int)]] B).length = B.length := by rw [mulL_len]; simp
    by_cases hn : n < B.length
    · refine ⟨0, n, by simp, by simpa using hn, by simp [sumN], ?_⟩
      simp only [anyF]
      rw [List.getElem_append_left (by rw [hl]; exact hn)]
      simp [mulL]
    · have h2 : n - B.length < (anyF T (j0 + 1)).length := by simp only [anyF, List.length_append, hl] at h; omega
      obtain ⟨j, k, hj, hk, e, h3⟩ := ih (j0 + 1) (n - B.length) h2
      refine ⟨j + 1, k, by simpa using hj, by simpa using hk, by simp only [List.take_succ_cons, sumN]; omega, ?_⟩
      simp only [anyF]
      rw [List.getElem_append_right (by rw [hl]; omega)]
      simp only [hl, h3, List.getElem_cons_succ]
      congr 1
      omega
def powF (B : List (List Int)) : Nat → List (List Int)
  | 0 => [[]]
  | n + 1 => mulL (powF B n) B
namespace GT
mutual
def tps : GT → List (List Int)
  | .mk k a b s => if k = 1 then [[]] else if k = 2 then anyF (List.replicate (b - a + 1).toNat [[]]) 0 else if k = 5 then anyF (tpsL s) 0 else if k = 3 then (tpsL s).foldl mulL [[]] else anyF ((List.range (a.toNat + 1)).map (powF ((tpsL s).headD []))) 0
def tpsL : List GT → List (List (List Int))
  | [] => []
  | x :: s => tps x :: tpsL s
end
theorem tpsL_map (s : List GT) : tpsL s = s.map tps := by
  induction s with
  | nil => rfl
  | cons x s ih => simp [tpsL, ih]
/-- The list tells what has each number. -/
def Enum (l : List GT) (T : List (List Int)) : Prop := (T.length : Int) = prodL l ∧ ∀ (i : Nat) (h : i < T.length), NthR l i T[i]
theorem NthR.app {l m : List GT} {i k : Int} {t u : List Int} (h : NthR l i t) (h2 : NthR m k u) : NthR (l ++ m) (i * prodL m + k) (t ++ u) := by
  induction h with
  | nil => simpa using h2
  | just h ih => exact .just ih
  | both h ih => rw [List.append_assoc] at ih; exact .both ih
  | @choose g rest j i t hc hj h ih =>
    have e : (prodL rest * sumP ((brs g).take j) + i) * prodL m + k = prodL (rest ++ m) * sumP ((brs g).take j) + (i * prodL m + k) := by
      rw [prodL_append, Int.add_mul, Int.mul_assoc, Int.mul_comm (sumP _), ← Int.mul_assoc]; omega
    rw [e]
    rw [List.append_assoc] at ih
    exact .choose hc hj ih
theorem Enum.nil : Enum [] [[]] := ⟨by simp [prodL], fun i h => by
  have : i = 0 := by simpa using h
  subst this; exact .nil⟩
theorem Enum.app {l m : List GT} {A B : List (List Int)} (h : Enum l A) (h2 : Enum m B) : Enum (l ++ m) (mulL A B) := by
  refine ⟨?_, fun n hn => ?_⟩
  · rw [mulL_len, prodL_append, ← h.1, ← h2.1]; simp
  · obtain ⟨i, k, hi, hk, e, e2⟩ := mulL_nth B A n hn
    rw [e2, e]
    have := (h.2 i hi).app (h2.2 k hk)
    rw [← h2.1] at this
    simpa using this
theorem Enum.choose {g : GT} (hc : Chs g) (hs : sumP (brs g) = count g) (T : List (List (List Int))) (hl : T.length = (brs g).length) (h : ∀ (j : Nat) (hj : j < T.length), Enum ((brs g)[j]'(by omega)) T[j]) : Enum [g] (anyF T 0) := by
  have hsum : ∀ j, j ≤ T.length → ((sumN (T.take j) : Nat) : Int) = sumP ((brs g).take j) := by
    intro j
    induction j with
    | zero => intro _; simp [sumN, sumP]
    | succ j ih =>
      intro hj
      have hap : ∀ A B : List (List (List Int)), sumN (A ++ B) = sumN A + sumN B := by
        intro A B
        induction A with
        | nil => simp [sumN]
        | cons x A ih => simp only [List.cons_append, sumN, ih]; omega
      rw [List.take_add_one, List.getElem?_eq_getElem (by omega), hap, sumP_take_succ _ j (by omega), ← ih (by omega), ← (h j (by omega)).1]
      simp [sumN]
  refine ⟨?_, fun n hn => ?_⟩
  · have := hsum T.length (Nat.le_refl _)
    rw [List.take_length, hl, List.take_length, hs] at this
    rw [anyF_len, this]
    simp [prodL]
  · obtain ⟨j, k, hj, hk, e, e2⟩ := anyF_nth T 0 n hn
    rw [e2, e, Nat.zero_add]
    have h1 := (h j hj).2 k hk
    have := NthR.choose (g := g) (rest := []) hc (by omega : j < (brs g).length) (by rw [List.append_nil]; exact h1)
    simp only [prodL, Int.one_mul, ← hsum j (by omega)] at this
    simpa using this
theorem Enum.pow {x : GT} {B : List (List Int)} (h : Enum [x] B) : ∀ n, Enum (List.replicate n x) (powF B n) := by
  intro n
  induction n with
  | zero => exact Enum.nil
  | succ n ih => rw [List.replicate_succ']; exact ih.app h
theorem Enum.fold : ∀ (s l : List GT) (A : List (List Int)), (∀ x ∈ s, Enum [x] (tps x)) → Enum l A → Enum (l ++ s) ((tpsL s).foldl mulL A) := by
  intro s
  induction s with
  | nil => intro l A _ h; simpa [tpsL] using h
  | cons x s ih =>
    intro l A hs h
    simp only [tpsL, List.foldl_cons]
    have := ih (l ++ [x]) (mulL A (tps x)) (fun y hy => hs y (by simp [hy])) (h.app (hs x (by simp)))
    simpa using this
theorem tps_enum (g : GT) : Ok g → Enum [g] (tps g) := by
  induction g using GT.ind with
  | h k a b s ih =>
    intro hk
    have he := check_ok hk.1
    rcases one_cases (ok_one he) with ⟨rfl, h1, h2, h3⟩ | ⟨rfl, h0, h0', h1, h2, h3⟩ | rfl | ⟨rfl, h1, h2, h3⟩ | ⟨rfl, h1⟩
    · refine ⟨by simp [tps, prodL, count], fun i h => ?_⟩
      have : i = 0 := by simpa [tps] using h
      subst this
      simpa [tps] using NthR.just NthR.nil
    · have hc : Chs (.mk 2 a b s) := .inl rfl
      have e : tps (.mk 2 a b s) = anyF (List.replicate (b - a + 1).toNat [[]]) 0 := by simp [tps]
      rw [e]
      refine Enum.choose hc (ok_brs hk hc).1 _ (by simp [brs]) (fun j hj => ?_)
      simp only [brs, if_true, List.getElem_replicate]
      exact Enum.nil
    · obtain ⟨h1, h2⟩ := ok_both hk
      have e : tps (.mk 3 a b s) = (tpsL s).foldl mulL [[]] := by simp [tps]
      rw [e]
      have := Enum.fold s [] [[]] (fun x hx => ih x hx (h1 x hx)) Enum.nil
      rw [List.nil_append] at this
      refine ⟨by rw [this.1]; simp [prodL, h2], fun i h => ?_⟩
      refine .both ?_
      rw [List.append_nil]
      exact this.2 i h
    · have hc : Chs (.mk 4 a b s) := .inr (.inl rfl)
      match s, h1, ih, hk, hc with
      | [x], _, ih, hk, hc =>
        obtain ⟨_, hx⟩ := ok_many hk
        have e : tps (.mk 4 a b [x]) = anyF ((List.range (a.toNat + 1)).map (powF (tps x))) 0 := by simp [tps, tpsL]
        rw [e]
        refine Enum.choose hc (ok_brs hk hc).1 _ (by simp [brs]) (fun j hj => ?_)
        have hj2 : j < a.toNat + 1 := by simpa using hj
        simp only [brs, List.getElem_map, List.getElem_range, rep, show ¬ ((4:Int) = 2) by decide, if_false, if_true]
        cases j with
        | zero => exact Enum.nil
        | succ j => exact Enum.pow (ih x (by simp) (hx (by omega))) (j + 1)
    · have hc : Chs (.mk 5 a b s) := .inr (.inr rfl)
      obtain ⟨h1, _⟩ := ok_any hk
      have e : tps (.mk 5 a b s) = anyF (tpsL s) 0 := by simp [tps]
      rw [e]
      refine Enum.choose hc (ok_brs hk hc).1 _ (by rw [tpsL_map]; simp [brs]) (fun j hj => ?_)
      have hj2 : j < s.length := by rw [tpsL_map] at hj; simpa using hj
      simp only [brs, tpsL_map, List.getElem_map, show ¬ ((5:Int) = 2) by decide, show ¬ ((5:Int) = 4) by decide, if_false, if_true]
      exact ih _ (List.getElem_mem hj2) (h1 _ (List.getElem_mem hj2))
end GT
end Go.Proofs.YtbfnlaplhgknaaaDoor
