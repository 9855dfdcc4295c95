/- Plain laws of what is less. -/
import Derived.Test.YtjobgkcoblpbcaaPMend
import Derived.Test.YtjobgkcoblpbcaaPTape
namespace Go.Proofs.Ytjobgkcoblpbcaa
set_option linter.unusedSimpArgs false
set_option linter.unusedVariables false
/-- What is tried at a place. -/
def tries (l : List Int) (i : Nat) : List (List Int) :=
  (if 0 < l.getD i 0 then [l.set i 0, l.set i (l.getD i 0 / 2), l.set i (l.getD i 0 - 1)] else []) ++ [l.eraseIdx i]
/-- Those that are less, mended. -/
def keep (g : GT) (l : List Int) (T : List (List Int)) : List (List Int) := (T.map (mendR g)).filter (fun m => PTape.less m l)
def lessUp (g : GT) (l : List Int) : Nat → List (List Int)
  | 0 => []
  | n + 1 => lessUp g l n ++ keep g l (tries l n)
/-- The tapes that are less of one. -/
def lessR (g : GT) (l : List Int) : List (List Int) := lessUp g l l.length
theorem keep_cons (g : GT) (l m : List Int) (T : List (List Int)) : keep g l (m :: T) = (if PTape.less (mendR g m) l then [mendR g m] else []) ++ keep g l T := by
  unfold keep
  simp only [List.map_cons, List.filter_cons]
  split <;> simp
theorem keep_nil (g : GT) (l : List Int) : keep g l [] = [] := rfl
theorem keep_append (g : GT) (l : List Int) (S T : List (List Int)) : keep g l (S ++ T) = keep g l S ++ keep g l T := by
  unfold keep; simp
theorem keep_mem {g : GT} {l m : List Int} {T : List (List Int)} (h : m ∈ keep g l T) : PTape.less m l = true ∧ ∃ t, m = mendR g t := by
  unfold keep at h
  obtain ⟨h1, h2⟩ := List.mem_filter.1 h
  obtain ⟨t, _, e⟩ := List.mem_map.1 h1
  exact ⟨h2, t, e.symm⟩
theorem keep_len (g : GT) (l : List Int) (T : List (List Int)) : (keep g l T).length ≤ T.length := by
  unfold keep
  have := List.length_filter_le (fun m => PTape.less m l) (T.map (mendR g))
  simpa using this
theorem tries_len (l : List Int) (i : Nat) : (tries l i).length ≤ 4 ∧ 1 ≤ (tries l i).length := by
  unfold tries
  split <;> simp
theorem lessUp_mem {g : GT} {l m : List Int} (n : Nat) (h : m ∈ lessUp g l n) : PTape.less m l = true ∧ ∃ t, m = mendR g t := by
  induction n with
  | zero => simp [lessUp] at h
  | succ n ih =>
    rcases List.mem_append.1 h with h | h
    · exact ih h
    · exact keep_mem h
theorem lessUp_len (g : GT) (l : List Int) (n : Nat) : (lessUp g l n).length ≤ 4 * n := by
  induction n with
  | zero => simp [lessUp]
  | succ n ih =>
    have h1 := keep_len g l (tries l n)
    have h2 := (tries_len l n).1
    simp only [lessUp, List.length_append]
    omega
/-- Each that is less can be played, and is less; there are four for a number at most. -/
theorem lessR_mem {g : GT} (hc : GT.check g = 0) {l m : List Int} (h : m ∈ lessR g l) : PTape.less m l = true ∧ (playR g m).2 = 0 := by
  obtain ⟨h1, t, rfl⟩ := lessUp_mem _ h
  obtain ⟨v, hv, _⟩ := play_mended g hc t
  exact ⟨h1, by rw [hv]⟩
theorem lessR_len (g : GT) (l : List Int) : (lessR g l).length ≤ 4 * l.length := lessUp_len g l _
/-- Of one number. -/
theorem mend_int (a b : Int) (s : List GT) (h : a ≤ b) (l : List Int) : mendR (.mk 2 a b s) l = [max 0 (min (l.getD 0 0) (b - a))] := by
  have e : mendAt l (b - a) [] = max 0 (min (l.getD 0 0) (b - a)) := by
    unfold mendAt
    split
    · rename_i hl
      have hl' : 0 < l.length := by simpa using hl
      simp [List.getD_eq_getElem?_getD, List.getElem?_eq_getElem hl']
    · rename_i hl
      have hl' : ¬ 0 < l.length := by simpa using hl
      have : l = [] := List.length_eq_zero_iff.1 (by omega)
      subst this
      simp
      omega
  simp [mendR, GT.play, stMend, e]
theorem less_one (x y : Int) : PTape.less [x] [y] = decide (x < y) := by
  simp [PTape.less, PTape.cmpL]
  split
  · rename_i h; simp [h]
  · rename_i h
    split
    · simp; omega
    · simp; omega
theorem less_of_one (a b : Int) (s : List GT) (x : Int) (h0 : 0 ≤ x) (h1 : x ≤ b - a) : lessR (.mk 2 a b s) [x] = if x = 0 then [] else [[0], [x / 2], [x - 1], [0]] := by
  have hm : ∀ l, mendR (.mk 2 a b s) l = [max 0 (min (l.getD 0 0) (b - a))] := mend_int a b s (by omega)
  by_cases hx : x = 0
  · subst hx
    have e1 : max 0 (min 0 (b - a)) = 0 := by omega
    simp [lessR, lessUp, tries, keep, hm, less_one, e1]
  · have p : 0 < x := by omega
    have e0 : max 0 (min 0 (b - a)) = 0 := by omega
    have e2 : max 0 (min (x / 2) (b - a)) = x / 2 := by omega
    have e3 : max 0 (min (x - 1) (b - a)) = x - 1 := by omega
    have d2 : x / 2 < x := by omega
    have d3 : x - 1 < x := by omega
    simp [lessR, lessUp, tries, keep, hm, less_one, e0, e2, e3, hx, p, d2, d3]
end Go.Proofs.Ytjobgkcoblpbcaa
