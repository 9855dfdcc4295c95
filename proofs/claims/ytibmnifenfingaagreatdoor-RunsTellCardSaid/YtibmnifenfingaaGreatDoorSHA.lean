/- Plain laws of walking to a least tape: how often it may become less, and what is then told. No program in sight. The walks through shrink.fails, the closure that asks it, and slices.IndexFunc. The walk through shrink.Walk. -/
import Derived.Test.YtibmnifenfingaaGreatDoorRSE
import Derived.Test.YtibmnifenfingaaGreatDoorEXA
import Derived.Test.YtibmnifenfingaaGreatDoorEXB
import Derived.Test.YtibmnifenfingaaGreatDoorPMV
import Derived.Deep.LoopGhost
namespace Go.Proofs.YtibmnifenfingaaGreatDoor
set_option maxRecDepth 100000
set_option linter.unusedSimpArgs false
set_option linter.unusedVariables false
/-- Numbers of a tape, none below 0. -/
def NN (l : List Int) : Prop := ∀ n ∈ l, 0 ≤ n
/-- The sum. -/
def sumL : List Int → Int
  | [] => 0
  | x :: l => x + sumL l
theorem sumL_nn {l : List Int} (h : NN l) : 0 ≤ sumL l := by
  induction l with
  | nil => simp [sumL]
  | cons x l ih =>
    have h1 := h x (by simp)
    have h2 := ih (fun n hn => h n (by simp [hn]))
    simp only [sumL]
    omega
/-- Number by number no greater, and no number below 0: then the sum is no greater; and where the sums are the same so are the numbers. -/
theorem sum_le : ∀ (m t : List Int), NN t → (∀ j, j < m.length → 0 ≤ m.getD j 0 ∧ m.getD j 0 ≤ t.getD j 0) → sumL m ≤ sumL t ∧ (sumL m = sumL t → ∀ j, m.getD j 0 = t.getD j 0) := by
  intro m
  induction m with
  | nil =>
    intro t ht _
    refine ⟨by simpa [sumL] using sumL_nn ht, fun h => ?_⟩
    have hz : ∀ t : List Int, NN t → sumL t = 0 → ∀ j, t.getD j 0 = 0 := by
      intro t
      induction t with
      | nil => intro _ _ j; rfl
      | cons y t ih =>
        intro ht h j
        have h1 := ht y (by simp)
        have h2 := sumL_nn (l := t) (fun n hn => ht n (by simp [hn]))
        simp only [sumL] at h
        cases j with
        | zero => simp; omega
        | succ j =>
          have := ih (fun n hn => ht n (by simp [hn])) (by omega) j
          simpa using this
    intro j
    have := hz t ht h.symm j
    rw [this]
    rfl
  | cons x m ih =>
    intro t ht hj
    cases t with
    | nil =>
      have h0 := hj 0 (by simp)
      simp at h0
      have := ih [] (by intro n hn; simp at hn) (fun j h => by have := hj (j + 1) (by simpa using h); simpa using this)
      simp only [sumL] at this ⊢
      refine ⟨by omega, fun h j => ?_⟩
      cases j with
      | zero => simp; omega
      | succ j => have := this.2 (by omega) j; simpa using this
    | cons y t =>
      have h0 := hj 0 (by simp)
      simp at h0
      have := ih t (fun n hn => ht n (by simp [hn])) (fun j h => by have := hj (j + 1) (by simpa using h); simpa using this)
      simp only [sumL]
      refine ⟨by omega, fun h j => ?_⟩
      cases j with
      | zero => simp; omega
      | succ j => have := this.2 (by omega) j; simpa using this
theorem mendAt_le (tape : List Int) (m : Int) (out : List Int) (ht : NN tape) : mendAt tape m out ≤ tape.getD out.length 0 := by
  unfold mendAt
  split
  · rename_i h
    have := ht _ (List.getElem_mem h)
    rw [List.getD_eq_getElem?_getD, List.getElem?_eq_getElem h]
    simp only [Option.getD_some]
    omega
  · rename_i h
    simp [List.getD_eq_getElem?_getD, List.getElem?_eq_none (Nat.le_of_not_lt h)]
/-- What is mended is number by number no greater. -/
theorem mend_le (g : GT) (hc : GT.check g = 0) (t : List Int) (ht : NN t) : ∀ j, j < (mendR g t).length → 0 ≤ (mendR g t).getD j 0 ∧ (mendR g t).getD j 0 ≤ t.getD j 0 := by
  obtain ⟨v, h⟩ := mend_play g hc t
  exact GT.play_inv (stMend t) (fun out => ∀ j, j < out.length → 0 ≤ out.getD j 0 ∧ out.getD j 0 ≤ t.getD j 0) (fun m q c q' hm h => stMend_bd hm h) (fun m q c q' hm hm2 h hq => by
    have hb := stMend_bd hm h
    simp only [stMend, Except.ok.injEq, Prod.mk.injEq] at h
    obtain ⟨rfl, rfl⟩ := h
    intro j hj
    simp only [List.length_append, List.length_singleton] at hj
    by_cases hlt : j < q.length
    · have := hq j hlt
      simpa [List.getD_eq_getElem?_getD, List.getElem?_append_left hlt] using this
    · have : j = q.length := by omega
      subst this
      have h2 := mendAt_le t m q ht
      simp only [List.getD_eq_getElem?_getD, List.getElem?_append_right (Nat.le_refl _), Nat.sub_self, List.getElem?_cons_zero, Option.getD_some] at h2 ⊢
      exact ⟨hb.1, h2⟩) g (GT.check_ok hc) 0 (GT.check_parts hc) [] v (mendR g t) h (fun j hj => absurd hj (by simp))
theorem sum_set (l : List Int) : ∀ (i : Nat) (y : Int), i < l.length → sumL (l.set i y) = sumL l - l.getD i 0 + y := by
  induction l with
  | nil => intro i y h; simp at h
  | cons x l ih =>
    intro i y h
    cases i with
    | zero => simp [sumL]; omega
    | succ i =>
      have := ih i y (by simpa using h)
      simp only [List.set_cons_succ, sumL, this, List.getD_cons_succ]
      omega
theorem sum_erase (l : List Int) : ∀ (i : Nat), i < l.length → sumL (l.eraseIdx i) = sumL l - l.getD i 0 := by
  induction l with
  | nil => intro i h; simp at h
  | cons x l ih =>
    intro i h
    cases i with
    | zero => simp [sumL]; omega
    | succ i =>
      have := ih i (by simpa using h)
      simp only [List.eraseIdx_cons_succ, sumL, this, List.getD_cons_succ]
      omega
theorem nn_set {l : List Int} (h : NN l) (i : Nat) {y : Int} (hy : 0 ≤ y) : NN (l.set i y) := by
  intro n hn
  rcases List.mem_or_eq_of_mem_set hn with h1 | h1
  · exact h n h1
  · omega
theorem nn_erase {l : List Int} (h : NN l) (i : Nat) : NN (l.eraseIdx i) := fun n hn => h n (List.mem_of_mem_eraseIdx hn)
/-- A 0 that goes, and comes again at the end: that is not less. -/
theorem shift_ge (r : List Int) (h : NN r) : 0 ≤ PTape.cmpL (r ++ [0]) (0 :: r) := by
  induction r with
  | nil => simp [PTape.cmpL]
  | cons a r ih =>
    have h1 := h a (by simp)
    simp only [List.cons_append, PTape.cmpL]
    by_cases ha : 0 < a
    · rw [if_neg (by omega), if_pos ha]; omega
    · have : a = 0 := by omega
      subst this
      simp only [Int.lt_irrefl, if_false]
      exact ih (fun n hn => h n (by simp [hn]))
theorem erase_ge : ∀ (l : List Int) (i : Nat), NN l → i < l.length → l.getD i 0 = 0 → 0 ≤ PTape.cmpL (l.eraseIdx i ++ [0]) l := by
  intro l
  induction l with
  | nil => intro i _ h; simp at h
  | cons x l ih =>
    intro i hn h h0
    cases i with
    | zero =>
      simp at h0
      subst h0
      exact shift_ge l (fun n hm => hn n (by simp [hm]))
    | succ i =>
      have := ih i (fun n hm => hn n (by simp [hm])) (by simpa using h) (by simpa using h0)
      simpa [PTape.cmpL] using this
theorem less_len {m l : List Int} (h : PTape.less m l = true) : m.length ≤ l.length := by
  unfold PTape.less at h
  split at h
  · omega
  · have := of_decide_eq_true h; omega
theorem eq_of_getD {a b : List Int} (hl : a.length = b.length) (h : ∀ j, a.getD j 0 = b.getD j 0) : a = b := by
  refine List.ext_getElem hl fun j h1 h2 => ?_
  have := h j
  simpa [List.getD_eq_getElem?_getD, List.getElem?_eq_getElem h1, List.getElem?_eq_getElem h2] using this
/-- HOW OFTEN: what is less and mended of one that is tried is shorter, or its sum is less. -/
theorem kept_lower {g : GT} (hc : GT.check g = 0) {l : List Int} (hn : NN l) {i : Nat} (hi : i < l.length) {t : List Int} (ht : t ∈ tries l i) (hm : PTape.less (mendR g t) l = true) :
    (mendR g t).length + sumL (mendR g t) + 1 ≤ l.length + sumL l ∧ 0 ≤ sumL (mendR g t) := by
  have hlen := less_len hm
  have hx : 0 ≤ l.getD i 0 := by
    rw [List.getD_eq_getElem?_getD, List.getElem?_eq_getElem hi]
    exact hn _ (List.getElem_mem hi)
  have hset : ∀ y, 0 ≤ y → y < l.getD i 0 → t = l.set i y → (mendR g t).length + sumL (mendR g t) + 1 ≤ l.length + sumL l ∧ 0 ≤ sumL (mendR g t) := by
    intro y h0 h1 e
    have hnt : NN t := by rw [e]; exact nn_set hn i h0
    have hle := mend_le g hc t hnt
    have h2 := (sum_le (mendR g t) t hnt hle).1
    have h3 : sumL t = sumL l - l.getD i 0 + y := by rw [e]; exact sum_set l i y hi
    have h4 : NN (mendR g t) := fun n hn => by
      obtain ⟨j, hj, rfl⟩ := List.getElem_of_mem hn
      have := (hle j hj).1
      simpa [List.getD_eq_getElem?_getD, List.getElem?_eq_getElem hj] using this
    exact ⟨by omega, sumL_nn h4⟩
  unfold tries at ht
  rcases List.mem_append.1 ht with ht | ht
  · by_cases hp : 0 < l.getD i 0
    · rw [if_pos hp] at ht
      simp only [List.mem_cons, List.not_mem_nil, or_false] at ht
      rcases ht with ht | ht | ht
      · exact hset 0 (by omega) hp ht
      · exact hset _ (by omega) (by omega) ht
      · exact hset _ (by omega) (by omega) ht
    · rw [if_neg hp] at ht; simp at ht
  · have e : t = l.eraseIdx i := by simpa using ht
    have hnt : NN t := by rw [e]; exact nn_erase hn i
    have hle := mend_le g hc t hnt
    have h2 := sum_le (mendR g t) t hnt hle
    have h3 : sumL t = sumL l - l.getD i 0 := by rw [e]; exact sum_erase l i hi
    have h4 : NN (mendR g t) := fun n hn => by
      obtain ⟨j, hj, rfl⟩ := List.getElem_of_mem hn
      have := (hle j hj).1
      simpa [List.getD_eq_getElem?_getD, List.getElem?_eq_getElem hj] using this
    refine ⟨?_, sumL_nn h4⟩
    by_cases hlt : (mendR g t).length < l.length
    · omega
    · by_cases hs : sumL (mendR g t) = sumL l
      · exfalso
        have h0 : l.getD i 0 = 0 := by omega
        have hg := h2.2 (by omega)
        have hle1 : t.length + 1 = l.length := by rw [e, List.length_eraseIdx, if_pos hi]; omega
        have he : mendR g t = l.eraseIdx i ++ [0] := by
          refine eq_of_getD (by simp; rw [← e]; omega) fun j => ?_
          rw [hg j, e]
          by_cases hj : j < (l.eraseIdx i).length
          · simp [List.getD_eq_getElem?_getD, List.getElem?_append_left hj]
          · rw [List.getD_eq_getElem?_getD, List.getElem?_eq_none (by omega)]
            by_cases hj2 : j = (l.eraseIdx i).length
            · subst hj2; simp [List.getD_eq_getElem?_getD]
            · rw [List.getD_eq_getElem?_getD, List.getElem?_eq_none (by simp; omega)]
        have hcmp := erase_ge l i hn hi h0
        rw [he] at hm
        unfold PTape.less at hm
        rw [if_pos (by rw [← he]; omega)] at hm
        have := of_decide_eq_true hm
        omega
      · omega
theorem lessUp_lower {g : GT} (hc : GT.check g = 0) {l : List Int} (hn : NN l) (n : Nat) (hl : n ≤ l.length) {m : List Int} (h : m ∈ lessUp g l n) : m.length + sumL m + 1 ≤ l.length + sumL l ∧ 0 ≤ sumL m := by
  induction n with
  | zero => simp [lessUp] at h
  | succ n ih =>
    rcases List.mem_append.1 h with h | h
    · exact ih (by omega) h
    · unfold keep at h
      obtain ⟨h1, h2⟩ := List.mem_filter.1 h
      obtain ⟨t, ht, e⟩ := List.mem_map.1 h1
      subst e
      exact kept_lower hc hn (by omega) ht h2
/-- The height of a tape. -/
def hgt (l : List Int) : Nat := (l.length + sumL l).toNat
theorem lessR_lower {g : GT} (hc : GT.check g = 0) {l : List Int} (hn : NN l) {m : List Int} (h : m ∈ lessR g l) : hgt m < hgt l := by
  have h1 := lessUp_lower hc hn _ (Nat.le_refl _) h
  have h2 := sumL_nn hn
  unfold hgt
  omega
theorem played_nn {g : GT} {l : List Int} (h : (playR g l).2 = 0) : NN l := fun n hn => ((played_fit h).2.1 n hn).1
theorem sumL_le {l : List Int} (h : ∀ n ∈ l, n ≤ 1000) : sumL l ≤ 1000 * l.length := by
  induction l with
  | nil => simp [sumL]
  | cons x l ih =>
    have h1 := h x (by simp)
    have h2 := ih (fun n hn => h n (by simp [hn]))
    simp only [sumL, List.length_cons]
    omega
theorem hgt_le {g : GT} {l : List Int} (h : (playR g l).2 = 0) : hgt l ≤ 1401079680 := by
  have h1 := played_fit h
  have h2 := sumL_le (fun n hn => (h1.2.1 n hn).2)
  have h3 := h1.2.2
  unfold hgt
  omega
/-- Does what a tape makes fail? (The tape can be played.) -/
def badR (g : GT) (x : ET) (t : List Int) : Bool := (ET.failsR x (playR g t).1).1
/-- The first failing one of those that are less. -/
def nextR (g : GT) (x : ET) (t : List Int) : Option (List Int) := (lessR g t).find? (badR g x)
/-- The walk: where it ends, and how often it became less. -/
def walkR (g : GT) (x : ET) (t : List Int) : List Int × Nat := match nextR g x t with
  | none => (t, 0)
  | some m => if _h : hgt m < hgt t then ((walkR g x m).1, (walkR g x m).2 + 1) else (t, 0)
termination_by hgt t
theorem walkR_stop {g : GT} {x : ET} {t : List Int} (h : nextR g x t = none) : walkR g x t = (t, 0) := by
  rw [walkR, h]
theorem next_mem {g : GT} {x : ET} {t m : List Int} (h : nextR g x t = some m) : m ∈ lessR g t ∧ badR g x m = true := by
  unfold nextR at h
  exact ⟨List.mem_of_find?_eq_some h, List.find?_some h⟩
theorem walkR_step {g : GT} {x : ET} {t m : List Int} (hp : (playR g t).2 = 0) (h : nextR g x t = some m) : walkR g x t = ((walkR g x m).1, (walkR g x m).2 + 1) := by
  rw [walkR, h]
  exact dif_pos (lessR_lower (played_fit hp).1 (played_nn hp) (next_mem h).1)
/-- WHAT IS TOLD: it can be played, it fails, nothing that is less fails; it is what was handed in, or it is less than that. -/
theorem walk_law {g : GT} {x : ET} : ∀ (n : Nat) (t : List Int), hgt t ≤ n → (playR g t).2 = 0 → badR g x t = true →
    (playR g (walkR g x t).1).2 = 0 ∧ badR g x (walkR g x t).1 = true ∧ nextR g x (walkR g x t).1 = none ∧ (walkR g x t).2 ≤ hgt t ∧
    (((walkR g x t).2 = 0 ∧ (walkR g x t).1 = t) ∨ ((walkR g x t).2 ≠ 0 ∧ PTape.less (walkR g x t).1 t = true)) := by
  intro n
  induction n with
  | zero =>
    intro t hn hp hb
    cases hx : nextR g x t with
    | none => rw [walkR_stop hx]; exact ⟨hp, hb, hx, by omega, .inl ⟨rfl, rfl⟩⟩
    | some m =>
      have := lessR_lower (played_fit hp).1 (played_nn hp) (next_mem hx).1
      omega
  | succ n ih =>
    intro t hn hp hb
    cases hx : nextR g x t with
    | none => rw [walkR_stop hx]; exact ⟨hp, hb, hx, by omega, .inl ⟨rfl, rfl⟩⟩
    | some m =>
      have h1 := next_mem hx
      have h2 := lessR_lower (played_fit hp).1 (played_nn hp) h1.1
      have h3 := lessR_mem (played_fit hp).1 h1.1
      obtain ⟨k1, k2, k3, k4, k5⟩ := ih m (by omega) h3.2 h1.2
      rw [walkR_step hp hx]
      refine ⟨k1, k2, k3, by dsimp only; omega, .inr ⟨by simp, ?_⟩⟩
      rcases k5 with ⟨_, e⟩ | ⟨_, h⟩
      · dsimp only; rw [e]; exact h3.1
      · exact PTape.less_trans h h3.1
theorem next_none {g : GT} {x : ET} {t : List Int} (h : nextR g x t = none) : ∀ m ∈ lessR g t, badR g x m = false := by
  intro m hm
  unfold nextR at h
  have := List.find?_eq_none.1 h m hm
  simpa using this
end Go.Proofs.YtibmnifenfingaaGreatDoor
namespace Go.Proofs.YtibmnifenfingaaGreatDoor
set_option maxRecDepth 100000
open Go.RowKit
set_option linter.unusedSimpArgs false
set_option linter.unusedVariables false
/-- What fails tells of a tape. -/
def sfR (g : GT) (x : ET) (t : List Int) : Bool × Int := if (playR g t).2 ≠ 0 then (false, (playR g t).2) else ET.failsR x (playR g t).1
theorem evalR_cases (x : ET) (v : VT) (hx : ET.check x = 0) (hv : VT.chk v 0 = 0) : (ET.evalR x v).2 = 0 ∨ (ET.evalR x v).2 = 6 := by
  unfold ET.evalR
  rw [if_neg (by omega), if_neg (by omega)]
  cases ET.told x v with
  | none => exact .inr rfl
  | some n => exact .inl rfl
theorem failsR_ok (x : ET) (v : VT) (hx : ET.check x = 0) (hv : VT.chk v 0 = 0) : (ET.failsR x v).2 = 0 := by
  unfold ET.failsR
  rcases evalR_cases x v hx hv with h | h
  · rw [if_neg (by omega), if_neg (by omega)]
  · rw [if_pos h]
theorem sfR_ok {g : GT} {x : ET} {t : List Int} (hp : (playR g t).2 = 0) (hx : ET.check x = 0) : sfR g x t = (badR g x t, 0) := by
  unfold sfR badR
  rw [if_neg (by omega)]
  exact Prod.ext rfl (failsR_ok x _ hx (playR_chk g t hp))
theorem sfR_bad {g : GT} {x : ET} {t : List Int} (hp : (playR g t).2 ≠ 0) : sfR g x t = (false, (playR g t).2) := by
  unfold sfR
  rw [if_pos hp]
set_option maxHeartbeats 1000000 in
theorem sfails_any (g : GT) (x : ET) (t : List Int) (gv xv tv : Value) (w : World) (hT : TakesAt w) (hg : GenAt w gv g) (hx : ExprAt w xv x) (ht : IntsAt w tv t) :
    Calls Tryz.prog 53 #[gv, xv, tv] w fun e w' => e = .returned (.tuple #[.bool (sfR g x t).1, errV (sfR g x t).2]) ∧ Below w.heap.size w w' := by
  have C1 := Lib.hid (fun W (hb : Below w.heap.size w W) => replay_any g t gv tv W (hg.ext hb) (ht.ext hb))
  have C2 := Lib.hid (fun W v vv (hb : Below w.heap.size w W) hv => fails_any x v xv vv W (hT.ext hb) (hx.ext hb) hv)
  have HR : Hid (sfR g x t = if (playR g t).2 ≠ 0 then (false, (playR g t).2) else ET.failsR x (playR g t).1) := rfl
  obtain ⟨gk, ga, gb, gn, gad, gcap, rfl⟩ := hg.shape
  obtain ⟨xk, xn, xs, xad, xcap, rfl⟩ := hx.shape
  obtain ⟨tad, tcap, rfl, _⟩ := ht.form
  generalize sfR g x t = R at *
  generalize playR g t = E at *
  obtain ⟨v, e⟩ := E
  clear hx hg ht hT
  dsimp only at C1 HR
  go_enter Tryz.func53, Tryz.ntmps53
  go_wp2_with fail
  refine (C1.out _ (by repeat (first | with_reducible assumption | with_reducible exact Below.refl _ _ | with_reducible apply Below.drew | (with_reducible refine Below.alloc ?_ (by first | omega | (simp only [zA, zS, zD, zN]; omega) | (dsimp only; omega) | (simp only [zA, zS, zD, zN]; dsimp only; omega)) _) | (with_reducible refine Below.setCell ?_ (by first | omega | (simp only [zA, zS, zD, zN]; omega) | (dsimp only; omega) | (simp only [zA, zS, zD, zN]; dsimp only; omega)) _) | (with_reducible apply below_drewN)))).mono ?_
  rintro _ w1 ⟨⟨u, rfl, hu⟩, hb1⟩
  have hB1 : Below w.heap.size w w1 := Below.trans (by repeat (first | with_reducible assumption | with_reducible exact Below.refl _ _ | with_reducible apply Below.drew | (with_reducible refine Below.alloc ?_ (by first | omega | (simp only [zA, zS, zD, zN]; omega) | (dsimp only; omega) | (simp only [zA, zS, zD, zN]; dsimp only; omega)) _) | (with_reducible refine Below.setCell ?_ (by first | omega | (simp only [zA, zS, zD, zN]; omega) | (dsimp only; omega) | (simp only [zA, zS, zD, zN]; dsimp only; omega)) _) | (with_reducible apply below_drewN))) (hb1.mono (by first | omega | (simp only [zA, zS, zD, zN]; omega) | (dsimp only; omega) | (simp only [zA, zS, zD, zN]; dsimp only; omega)))
  have x1 := (Blk.new (w.alloc (.cells #[.int .i64 gk, .int .i64 ga, .int .i64 gb, .slice gad gn gcap] 24)) #[.int .i64 xk, .int .i64 xn, .slice xad xs xcap] 27).ext hb1
  simp only [World.size_alloc] at x1
  have HU := Lib.hid hu
  obtain ⟨l5, n5, k5, ad5, cap5, rfl⟩ := hu.shape
  have hz1 := hB1.size
  have hl1 := x1.lt
  clear hb1 hu C1
  by_cases h0 : e = 0
  · subst h0
    have HX : Hid (R = ET.failsR x v) := HR.out.trans (by simp)
    simp only [errV_zero]
    have x1 := x1.alloc (.cells #[.bool l5, .int .i64 n5, .slice ad5 k5 cap5] 45)
    have f0 := x1.cell 0
    have f1 := x1.cell 1
    have f2 := x1.cell 2
    simp only [List.getElem?_toArray, List.getElem?_cons_succ, List.getElem?_cons_zero] at f0 f1 f2
    clear HR
    go_wp2_with fail
    refine (C2.out _ v _ (by repeat (first | with_reducible assumption | with_reducible exact Below.refl _ _ | with_reducible apply Below.drew | (with_reducible refine Below.alloc ?_ (by first | omega | (simp only [zA, zS, zD, zN]; omega) | (dsimp only; omega) | (simp only [zA, zS, zD, zN]; dsimp only; omega)) _) | (with_reducible refine Below.setCell ?_ (by first | omega | (simp only [zA, zS, zD, zN]; omega) | (dsimp only; omega) | (simp only [zA, zS, zD, zN]; dsimp only; omega)) _) | (with_reducible apply below_drewN))) (HU.out.ext (by repeat (first | with_reducible assumption | with_reducible exact Below.refl _ _ | with_reducible apply Below.drew | (with_reducible refine Below.alloc ?_ (by first | omega | (simp only [zA, zS, zD, zN]; omega) | (dsimp only; omega) | (simp only [zA, zS, zD, zN]; dsimp only; omega)) _) | (with_reducible refine Below.setCell ?_ (by first | omega | (simp only [zA, zS, zD, zN]; omega) | (dsimp only; omega) | (simp only [zA, zS, zD, zN]; dsimp only; omega)) _) | (with_reducible apply below_drewN))))).mono ?_
    rintro _ w2 ⟨rfl, hb2⟩
    have hB2 : Below w.heap.size w w2 := Below.trans (by repeat (first | with_reducible assumption | with_reducible exact Below.refl _ _ | with_reducible apply Below.drew | (with_reducible refine Below.alloc ?_ (by first | omega | (simp only [zA, zS, zD, zN]; omega) | (dsimp only; omega) | (simp only [zA, zS, zD, zN]; dsimp only; omega)) _) | (with_reducible refine Below.setCell ?_ (by first | omega | (simp only [zA, zS, zD, zN]; omega) | (dsimp only; omega) | (simp only [zA, zS, zD, zN]; dsimp only; omega)) _) | (with_reducible apply below_drewN))) (hb2.mono (by first | omega | (simp only [zA, zS, zD, zN]; omega) | (dsimp only; omega) | (simp only [zA, zS, zD, zN]; dsimp only; omega)))
    clear hb2 f0 f1 f2
    go_wp2_with fail
    go_ret2
    rw [HX.out]
    exact ⟨rfl, hB2⟩
  · have HX : Hid (R = (false, e)) := HR.out.trans (if_pos h0)
    have H0 := Lib.hid h0
    rw [errV_ne h0]
    clear HR h0
    go_wp2_with fail
    go_ret2
    rw [HX.out]
    exact ⟨by rw [errV_ne H0.out]; rfl, by repeat (first | with_reducible assumption | with_reducible exact Below.refl _ _ | with_reducible apply Below.drew | (with_reducible refine Below.alloc ?_ (by first | omega | (simp only [zA, zS, zD, zN]; omega) | (dsimp only; omega) | (simp only [zA, zS, zD, zN]; dsimp only; omega)) _) | (with_reducible refine Below.setCell ?_ (by first | omega | (simp only [zA, zS, zD, zN]; omega) | (dsimp only; omega) | (simp only [zA, zS, zD, zN]; dsimp only; omega)) _) | (with_reducible apply below_drewN))⟩
/-- The closure's question: it can be played, and fails. -/
def askR (g : GT) (x : ET) (t : List Int) : Bool := (sfR g x t).2 == 0 && (sfR g x t).1
set_option maxHeartbeats 1000000 in
theorem walk1_any (g : GT) (x : ET) (t : List Int) (gk ga gb xk xn : Int) (gn gcap xs xcap p q : Nat) (gad xad : Option Addr) (tv : Value) (w : World) (hT : TakesAt w)
    (hp : Blk w p #[.int .i64 gk, .int .i64 ga, .int .i64 gb, .slice gad gn gcap] 24) (hq : Blk w q #[.int .i64 xk, .int .i64 xn, .slice xad xs xcap] 27)
    (hg : GenAt w (.agg #[.int .i64 gk, .int .i64 ga, .int .i64 gb, .slice gad gn gcap]) g) (hx : ExprAt w (.agg #[.int .i64 xk, .int .i64 xn, .slice xad xs xcap]) x) (ht : IntsAt w tv t) :
    Calls Tryz.prog 57 #[tv, .pointer (some ⟨p, 0, none⟩), .pointer (some ⟨q, 0, none⟩)] w fun e w' => e = .returned (.bool (askR g x t)) ∧ Below w.heap.size w w' := by
  have C1 := Lib.hid (sfails_any g x t _ _ tv w hT hg hx ht)
  have HR : Hid (askR g x t = ((sfR g x t).2 == 0 && (sfR g x t).1)) := rfl
  obtain ⟨tad, tcap, rfl, _⟩ := ht.form
  generalize sfR g x t = E at *
  generalize askR g x t = R at *
  obtain ⟨b, e⟩ := E
  dsimp only at C1 HR
  have g0 := hp.cell 0
  have g1 := hp.cell 1
  have g2 := hp.cell 2
  have g3 := hp.cell 3
  simp only [List.getElem?_toArray, List.getElem?_cons_succ, List.getElem?_cons_zero] at g0 g1 g2 g3
  have f0 := hq.cell 0
  have f1 := hq.cell 1
  have f2 := hq.cell 2
  simp only [List.getElem?_toArray, List.getElem?_cons_succ, List.getElem?_cons_zero] at f0 f1 f2
  clear hg hx ht hT hp hq
  go_enter Tryz.func57, Tryz.ntmps57
  go_wp2_with fail
  refine C1.out.mono ?_
  rintro _ w1 ⟨rfl, hb1⟩
  clear g0 g1 g2 g3 f0 f1 f2
  by_cases h0 : e = 0
  · subst h0
    have HX : Hid (R = b) := HR.out.trans (by simp)
    simp only [errV_zero]
    clear HR
    go_wp2_with fail
    go_ret
    rw [HX.out]
    exact ⟨rfl, hb1⟩
  · have HX : Hid (R = false) := HR.out.trans (by simp [h0])
    rw [errV_ne h0]
    clear HR h0
    go_wp2_with fail
    go_ret
    rw [HX.out]
    exact ⟨rfl, hb1⟩
/-- Where the first one stands. -/
def firstI (p : List Int → Bool) : List (List Int) → Nat → Option Nat
  | [], _ => none
  | m :: l, j => if p m then some j else firstI p l (j + 1)
def idxV : Option Nat → Int
  | none => -1
  | some j => j
theorem firstI_step (p : List Int → Bool) (l : List (List Int)) (j k : Nat) (h : j < l.length) : firstI p (l.drop j) k = if p l[j] then some k else firstI p (l.drop (j + 1)) (k + 1) := by
  rw [List.drop_eq_getElem_cons h]; rfl
theorem firstI_find (p : List Int → Bool) : ∀ (l : List (List Int)) (k : Nat), (firstI p l k = none ∧ l.find? p = none) ∨ ∃ j, ∃ h : j < l.length, firstI p l k = some (k + j) ∧ l.find? p = some l[j] := by
  intro l
  induction l with
  | nil => intro k; exact .inl ⟨rfl, rfl⟩
  | cons m l ih =>
    intro k
    simp only [firstI, List.find?_cons]
    by_cases h : p m = true
    · rw [if_pos h, h]
      exact .inr ⟨0, by simp, rfl, rfl⟩
    · rw [if_neg h]
      have h' : p m = false := by simpa using h
      rw [h']
      rcases ih (k + 1) with ⟨h1, h2⟩ | ⟨j, hj, h1, h2⟩
      · exact .inl ⟨h1, h2⟩
      · exact .inr ⟨j + 1, by simpa using hj, by rw [h1]; congr 1; omega, by simpa using h2⟩
set_option maxHeartbeats 2000000 in
theorem indexFunc_any (p : List Int → Bool) (l : List (List Int)) (K : FuncId) (cs : Array Value) (u : Value) (S : Nat → Prop) (w : World) (hk : ∀ args w, Sem.run Tryz.prog (callFunc K args) w = .ok (.enter K args) w)
    (hu : RwAt IntsS w S u l) (HC : ∀ m ∈ l, ∀ mv W, Below w.heap.size w W → IntsAt W mv m → Calls Tryz.prog K (#[mv] ++ cs) W fun e w' => e = .returned (.bool (p m)) ∧ Below W.heap.size W w') :
    Calls Tryz.prog 56 #[u, .func (.func K) #[] cs] w fun e w' => e = .returned (.int .i64 (idxV (firstI p l 0))) ∧ Below w.heap.size w w' := by
  obtain ⟨uad, ucap, rfl, hul, hum, hun, huc⟩ := hu
  have HUC := Lib.hid huc
  have HCC := Lib.hid HC
  unfold maxLen at hum
  have HF : Hid (firstI p l 0 = firstI p (l.drop 0) 0) := rfl
  clear huc hun HC
  go_enter Tryz.func56, Tryz.ntmps56
  go_wp2_with fail
  go_loopw [5, 8] (fun s i wr => ∃ j : Nat, j ≤ l.length ∧ i = .int .i64 j ∧ Below w.heap.size w wr ∧ Hid (firstI p l 0 = firstI p (l.drop j) j)) (fun _ i _ => l.length - (intOf i).toNat)
  case atStart => exact ⟨0, by omega, rfl, Below.refl _ _, HF⟩
  case round =>
    obtain ⟨j, hj, rfl, hbr, HE⟩ := hrel
    have hzr := hbr.size
    by_cases hlt : j < l.length
    · have q0 : (0 : Int) ≤ (j : Int) := by omega
      have q1 : (j : Int) < (l.length : Int) := by omega
      obtain ⟨ubl, uoff, rfl, hub1, hub2, huu⟩ := HUC.out (by omega)
      obtain ⟨mv, hmv, hmR⟩ := huu j hlt
      have HM := Lib.hid (hmR.keepB hbr).at
      have hmv' := (hbr.cell (p := ⟨ubl, uoff + j, none⟩) hub1).trans hmv
      have HST := Lib.hid (firstI_step p l j j hlt)
      have CK := Lib.hid (HCC.out l[j] (List.getElem_mem hlt) mv wr hbr HM.out)
      clear huu hmR hmv
      generalize p l[j] = b at *
      go_wp2_with fail
      refine CK.out.mono ?_
      rintro _ w3 ⟨rfl, hb3⟩
      have hB3 : Below w.heap.size w w3 := hbr.trans (hb3.mono hbr.size)
      clear hb3 hmv'
      cases b with
      | true =>
        have HX : Hid (firstI p l 0 = some j) := HE.out.trans (HST.out.trans (if_pos rfl))
        clear HE HST
        go_wp2_with fail
        go_ret
        rw [HX.out]
        exact ⟨rfl, hB3⟩
      | false =>
        have HX : Hid (firstI p l 0 = firstI p (l.drop (j + 1)) (j + 1)) := HE.out.trans (HST.out.trans (if_neg (by simp)))
        clear HE HST
        go_wp2_with fail
        exact ⟨⟨j + 1, by omega, by go_num, hB3, HX⟩, by simp [intOf]; omega⟩
    · have q1 : ¬ (j : Int) < (l.length : Int) := by omega
      have HX : Hid (firstI p l 0 = none) := by
        have h := HE.out
        rw [List.drop_eq_nil_of_le (by omega : l.length ≤ j)] at h
        exact h
      clear HE
      go_wp2_with fail
      go_ret
      rw [HX.out]
      exact ⟨rfl, hbr⟩
end Go.Proofs.YtibmnifenfingaaGreatDoor
namespace Go.Proofs.YtibmnifenfingaaGreatDoor
set_option maxRecDepth 100000
open Go.RowKit
set_option linter.unusedSimpArgs false
set_option linter.unusedVariables false
theorem find_congr {p q : List Int → Bool} : ∀ (l : List (List Int)), (∀ m ∈ l, p m = q m) → l.find? p = l.find? q := by
  intro l
  induction l with
  | nil => intro _; rfl
  | cons m l ih =>
    intro h
    simp only [List.find?_cons, h m (by simp), ih (fun x hx => h x (by simp [hx]))]
theorem askR_bad {g : GT} {x : ET} {t : List Int} (hp : (playR g t).2 = 0) (hx : ET.check x = 0) : askR g x t = badR g x t := by
  unfold askR
  rw [sfR_ok hp hx]
  simp
/-- What IndexFunc finds: none, or the next one. -/
theorem next_index {g : GT} {x : ET} {t : List Int} (hp : (playR g t).2 = 0) (hx : ET.check x = 0) :
    (firstI (askR g x) (lessR g t) 0 = none ∧ nextR g x t = none) ∨ ∃ j, ∃ h : j < (lessR g t).length, firstI (askR g x) (lessR g t) 0 = some j ∧ nextR g x t = some (lessR g t)[j] := by
  have hc : (lessR g t).find? (askR g x) = nextR g x t := find_congr _ fun m hm => askR_bad (lessR_mem (played_fit hp).1 hm).2 hx
  rcases firstI_find (askR g x) (lessR g t) 0 with ⟨h1, h2⟩ | ⟨j, hj, h1, h2⟩
  · exact .inl ⟨h1, by rw [← hc]; exact h2⟩
  · exact .inr ⟨j, hj, by simpa using h1, by rw [← hc]; exact h2⟩
/-- Where the walk stands. -/
structure WalkI (g : GT) (x : ET) (t : List Int) (lo : Nat) (W : World) (m : List Int) (n : Nat) (tv : Value) (wr : World) : Prop where
  below : Below W.heap.size W wr
  own : IntsS wr (fun b => lo ≤ b) tv m
  play : (playR g m).2 = 0
  eq : walkR g x t = ((walkR g x m).1, n + (walkR g x m).2)
  le : n + hgt m ≤ hgt t
theorem WalkI.at' {g : GT} {x : ET} {t : List Int} {lo : Nat} {W : World} {m : List Int} {n : Nat} {tv : Value} {wr : World} (h : WalkI g x t lo W m n tv wr) : IntsAt wr tv m := h.own.at
theorem WalkI.next {g : GT} {x : ET} {t : List Int} {lo : Nat} {W : World} {m m' : List Int} {n : Nat} {tv tv' : Value} {wr w' : World} (h : WalkI g x t lo W m n tv wr) (hn : nextR g x m = some m') (hb : Below wr.heap.size wr w') (ht : IntsS w' (fun b => lo ≤ b) tv' m') :
    WalkI g x t lo W m' (n + 1) tv' w' ∧ hgt m' < hgt m := by
  have h1 := next_mem hn
  have h2 := lessR_lower (played_fit h.play).1 (played_nn h.play) h1.1
  have h3 := lessR_mem (played_fit h.play).1 h1.1
  refine ⟨⟨h.below.trans (hb.mono h.below.size), ht, h3.2, ?_, ?_⟩, h2⟩
  · rw [h.eq, walkR_step h.play hn]
    dsimp only
    congr 1
    omega
  · have := h.le; omega
set_option maxHeartbeats 4000000 in
theorem shrink_ok (g : GT) (x : ET) (t : List Int) (hp : (playR g t).2 = 0) (hx : ET.check x = 0) (hb : badR g x t = true) (gv xv tv : Value) (w : World) (hT : TakesAt w) (hg : GenAt w gv g) (hxv : ExprAt w xv x) (ht : IntsAt w tv t) :
    Calls Tryz.prog 28 #[gv, xv, tv] w fun e w' => (∃ mv, e = .returned (.tuple #[mv, .int .i64 (walkR g x t).2, .nilIface]) ∧ IntsS w' (fun b => w.heap.size ≤ b) mv (walkR g x t).1) ∧ Below w.heap.size w w' := by
  have C1 := Lib.hid (fun W (h : Below w.heap.size w W) => check_any g gv W (hg.ext h))
  have C2 := Lib.hid (fun W (h : Below w.heap.size w W) => xcheck_any x xv W (hT.ext h) (hxv.ext h))
  have C3 := Lib.hid (fun W (h : Below w.heap.size w W) => sfails_any g x t gv xv tv W (hT.ext h) (hg.ext h) (hxv.ext h) (ht.ext h))
  have C4 := Lib.hid (fun W (h : Below w.heap.size w W) => clone_any t tv W (by have := (played_fit hp).2.2; omega) (ht.ext h))
  have hin := ht.1
  rw [sfR_ok hp hx, hb] at C3
  rw [(played_fit hp).1] at C1
  rw [hx] at C2
  simp only [errV_zero] at C1 C2 C3
  have HG := Lib.hid hg
  have HX := Lib.hid hxv
  have HTK := Lib.hid hT
  have HIN := Lib.hid hin
  have HP := Lib.hid hp
  have HXC := Lib.hid hx
  have hh := hgt_le hp
  obtain ⟨gk, ga, gb, gn, gad, gcap, rfl⟩ := hg.shape
  obtain ⟨xk, xn, xs, xad, xcap, rfl⟩ := hxv.shape
  obtain ⟨tad, tcap, rfl, _⟩ := ht.form
  clear hg hxv ht hT hp hx hb hin
  go_enter Tryz.func28, Tryz.ntmps28
  go_wp2_with fail
  refine (C1.out _ (by repeat (first | with_reducible assumption | with_reducible exact Below.refl _ _ | with_reducible apply Below.drew | (with_reducible refine Below.alloc ?_ (by first | omega | (simp only [zA, zS, zD, zN]; omega) | (dsimp only; omega) | (simp only [zA, zS, zD, zN]; dsimp only; omega)) _) | (with_reducible refine Below.setCell ?_ (by first | omega | (simp only [zA, zS, zD, zN]; omega) | (dsimp only; omega) | (simp only [zA, zS, zD, zN]; dsimp only; omega)) _) | (with_reducible apply below_drewN)))).mono ?_
  rintro _ w1 ⟨rfl, hb1⟩
  have hB1 : Below w.heap.size w w1 := Below.trans (by repeat (first | with_reducible assumption | with_reducible exact Below.refl _ _ | with_reducible apply Below.drew | (with_reducible refine Below.alloc ?_ (by first | omega | (simp only [zA, zS, zD, zN]; omega) | (dsimp only; omega) | (simp only [zA, zS, zD, zN]; dsimp only; omega)) _) | (with_reducible refine Below.setCell ?_ (by first | omega | (simp only [zA, zS, zD, zN]; omega) | (dsimp only; omega) | (simp only [zA, zS, zD, zN]; dsimp only; omega)) _) | (with_reducible apply below_drewN))) (hb1.mono (by first | omega | (simp only [zA, zS, zD, zN]; omega) | (dsimp only; omega) | (simp only [zA, zS, zD, zN]; dsimp only; omega)))
  have x0 := ((Blk.new w #[.int .i64 gk, .int .i64 ga, .int .i64 gb, .slice gad gn gcap] 24).alloc (.cells #[.int .i64 xk, .int .i64 xn, .slice xad xs xcap] 27)).ext hb1
  have x1 := (Blk.new (w.alloc (.cells #[.int .i64 gk, .int .i64 ga, .int .i64 gb, .slice gad gn gcap] 24)) #[.int .i64 xk, .int .i64 xn, .slice xad xs xcap] 27).ext hb1
  simp only [World.size_alloc] at x1
  clear hb1 C1
  have f0 := x1.cell 0
  have f1 := x1.cell 1
  have f2 := x1.cell 2
  simp only [List.getElem?_toArray, List.getElem?_cons_succ, List.getElem?_cons_zero] at f0 f1 f2
  go_wp2_with fail
  refine (C2.out _ hB1).mono ?_
  rintro _ w2 ⟨rfl, hb2⟩
  have hB2 := hB1.trans (hb2.mono hB1.size)
  have x0 := x0.ext hb2
  have x1 := x1.ext hb2
  clear f0 f1 f2 hb2 C2
  have g0 := x0.cell 0
  have g1 := x0.cell 1
  have g2 := x0.cell 2
  have g3 := x0.cell 3
  simp only [List.getElem?_toArray, List.getElem?_cons_succ, List.getElem?_cons_zero] at g0 g1 g2 g3
  have f0 := x1.cell 0
  have f1 := x1.cell 1
  have f2 := x1.cell 2
  simp only [List.getElem?_toArray, List.getElem?_cons_succ, List.getElem?_cons_zero] at f0 f1 f2
  go_wp2_with fail
  refine (C3.out _ hB2).mono ?_
  rintro _ w3 ⟨rfl, hb3⟩
  have hB3 := hB2.trans (hb3.mono hB2.size)
  have x0 := x0.ext hb3
  have x1 := x1.ext hb3
  clear g0 g1 g2 g3 f0 f1 f2 hb3 C3
  go_wp2_with fail
  refine (C4.out _ hB3).mono ?_
  rintro _ w4 ⟨⟨u, rfl, hu⟩, hb4⟩
  have hB4 := hB3.trans (hb4.mono hB3.size)
  have x0 := x0.ext hb4
  have x1 := x1.ext hb4
  have hlo3 := hB3.size
  have HI : Hid (WalkI g x t w.heap.size w4 t 0 u w4) := ⟨Below.refl _ _, (hu.s HIN.out).mono (fun b hb _ => by have := World.ownsRow.lt hu b hb; omega), HP.out, by simp, by omega⟩
  clear hb4 C4 hu HIN HP hB1 hB2 hB3
  go_wp2_with fail
  go_loopg [2, 13] (hgt t) (fun k tv' st wr => ∃ m n, st = .int .i64 (n : Nat) ∧ k = hgt m ∧ WalkI g x t w.heap.size w4 m n tv' wr)
  case atStart => exact ⟨t, 0, rfl, rfl, HI.out⟩
  case round =>
    obtain ⟨m, n, rfl, rfl, hI⟩ := hrel
    have HI2 := Lib.hid hI
    have hbr := hI.below
    have hzr := hbr.size
    have hle := hI.le
    have hBr := hB4.trans (hbr.mono hB4.size)
    have y0 := x0.ext hbr
    have y1 := x1.ext hbr
    have g0 := y0.cell 0
    have g1 := y0.cell 1
    have g2 := y0.cell 2
    have g3 := y0.cell 3
    simp only [List.getElem?_toArray, List.getElem?_cons_succ, List.getElem?_cons_zero] at g0 g1 g2 g3
    clear hI HI
    go_wp2_with fail
    refine (rose_ok g m HI2.out.play _ _ _ (HG.out.ext hBr) HI2.out.at').mono ?_
    rintro _ w5 ⟨⟨l, rfl, hl⟩, hb5⟩
    have hB5 := hBr.trans (hb5.mono hBr.size)
    have z0 := y0.ext hb5
    have z1 := y1.ext hb5
    have HB5 := Lib.hid hb5
    have HL := Lib.hid hl
    have HIX := Lib.hid (indexFunc_any (askR g x) (lessR g m) 57 #[.pointer (some ⟨w.heap.size, 0, none⟩), .pointer (some ⟨w.heap.size + 1, 0, none⟩)] l _ w5 (fun _ _ => by rfl) hl
      (fun m' hm' mv W hW hmv => walk1_any g x m' gk ga gb xk xn gn gcap xs xcap w.heap.size (w.heap.size + 1) gad xad mv W (HTK.out.ext (hB5.trans (hW.mono hB5.size))) (z0.ext hW) (z1.ext hW) (HG.out.ext (hB5.trans (hW.mono hB5.size))) (HX.out.ext (hB5.trans (hW.mono hB5.size))) hmv))
    clear g0 g1 g2 g3 hb5 hl
    go_wp2_with fail
    refine HIX.out.mono ?_
    rintro _ w6 ⟨rfl, hb6⟩
    have hB6 := hB5.trans (hb6.mono hB5.size)
    have HN := Lib.hid (next_index HI2.out.play HXC.out)
    have HL6 : Hid (RwAt IntsS w6 (fun b => wr.heap.size ≤ b) l (lessR g m)) := HL.out.keep IntsS.reads hb6.size (fun b hs hlt => ⟨hs, hb6.block b hlt⟩)
    have HB6 : Hid (Below wr.heap.size wr w6) := HB5.out.trans (hb6.mono HB5.out.size)
    clear hb6 HIX HL HB5
    rcases HN.out with ⟨h1, h2⟩ | ⟨j, hj, h1, h2⟩
    · rw [h1]
      have HX2 : Hid (walkR g x t = (m, n)) := by
        have h3 := HI2.out.eq
        rw [walkR_stop h2] at h3
        exact h3
      have HA := Lib.hid (HI2.out.own.keepB HB6.out)
      clear h1 h2 HN
      have q1 : idxV none = -1 := rfl
      rw [q1]
      clear q1
      go_wp2_with fail
      go_ret3
      rw [HX2.out]
      exact ⟨⟨_, rfl, HA.out⟩, hB6⟩
    · rw [h1]
      obtain ⟨lad, lcap, rfl, hl1, hl2, hl3, hl4⟩ := HL6.out
      obtain ⟨bl, off, rfl, hlt, _, hc⟩ := hl4 (by omega)
      obtain ⟨mv, hmv, hmR⟩ := hc j hj
      have HM : Hid (IntsS w6 (fun b => w.heap.size ≤ b) mv (lessR g m)[j]) := hmR.mono (fun b hb _ => by have := hBr.size; omega)
      have H2 := Lib.hid h2
      unfold maxLen at hl2
      have q0 : (0 : Int) ≤ (j : Int) := by omega
      have q1 : (j : Int) < ((lessR g m).length : Int) := by omega
      have q2 : ¬ (j : Int) < 0 := by omega
      have q3 : idxV (some j) = (j : Int) := rfl
      rw [q3]
      clear h1 h2 HN q3 hl3 hl4 hc hmR
      go_wp2_with fail
      have HNX := Lib.hid (HI2.out.next H2.out HB6.out HM.out)
      go_roundg (hgt (lessR g m)[j])
      case measure => exact HNX.out.2
      case rel => exact ⟨_, n + 1, by go_num, rfl, HNX.out.1⟩
/-- What is wrong with a walk. -/
def shErr (g : GT) (x : ET) (t : List Int) : Int := if GT.check g ≠ 0 then GT.check g else if ET.check x ≠ 0 then ET.check x else if (playR g t).2 ≠ 0 then (playR g t).2 else if badR g x t then 0 else 2
set_option maxHeartbeats 2000000 in
theorem shrink_bad (g : GT) (x : ET) (t : List Int) (he : shErr g x t ≠ 0) (gv xv tv : Value) (w : World) (hT : TakesAt w) (hg : GenAt w gv g) (hxv : ExprAt w xv x) (ht : IntsAt w tv t) :
    Calls Tryz.prog 28 #[gv, xv, tv] w fun e w' => e = .returned (.tuple #[.slice none 0 0, .int .i64 0, errV (shErr g x t)]) ∧ Below w.heap.size w w' := by
  have C1 := Lib.hid (fun W (h : Below w.heap.size w W) => check_any g gv W (hg.ext h))
  have C2 := Lib.hid (fun W (h : Below w.heap.size w W) => xcheck_any x xv W (hT.ext h) (hxv.ext h))
  have C3 := Lib.hid (fun W (h : Below w.heap.size w W) => sfails_any g x t gv xv tv W (hT.ext h) (hg.ext h) (hxv.ext h) (ht.ext h))
  have HE : Hid (shErr g x t = if GT.check g ≠ 0 then GT.check g else if ET.check x ≠ 0 then ET.check x else if (playR g t).2 ≠ 0 then (playR g t).2 else if badR g x t then 0 else 2) := rfl
  have HS1 := Lib.hid (fun h => sfR_bad (g := g) (x := x) (t := t) h)
  have HS2 := Lib.hid (fun h1 h2 => sfR_ok (g := g) (x := x) (t := t) h1 h2)
  rw [errV_ne he]
  obtain ⟨gk, ga, gb, gn, gad, gcap, rfl⟩ := hg.shape
  obtain ⟨xk, xn, xs, xad, xcap, rfl⟩ := hxv.shape
  obtain ⟨tad, tcap, rfl, _⟩ := ht.form
  generalize shErr g x t = E at *
  generalize GT.check g = c1 at *
  generalize ET.check x = c2 at *
  generalize sfR g x t = sf at *
  generalize (playR g t).2 = pe at *
  generalize badR g x t = bd at *
  clear hg hxv ht hT
  have HEN := Lib.hid he
  clear he
  go_enter Tryz.func28, Tryz.ntmps28
  go_wp2_with fail
  refine (C1.out _ (by repeat (first | with_reducible assumption | with_reducible exact Below.refl _ _ | with_reducible apply Below.drew | (with_reducible refine Below.alloc ?_ (by first | omega | (simp only [zA, zS, zD, zN]; omega) | (dsimp only; omega) | (simp only [zA, zS, zD, zN]; dsimp only; omega)) _) | (with_reducible refine Below.setCell ?_ (by first | omega | (simp only [zA, zS, zD, zN]; omega) | (dsimp only; omega) | (simp only [zA, zS, zD, zN]; dsimp only; omega)) _) | (with_reducible apply below_drewN)))).mono ?_
  rintro _ w1 ⟨rfl, hb1⟩
  have hB1 : Below w.heap.size w w1 := Below.trans (by repeat (first | with_reducible assumption | with_reducible exact Below.refl _ _ | with_reducible apply Below.drew | (with_reducible refine Below.alloc ?_ (by first | omega | (simp only [zA, zS, zD, zN]; omega) | (dsimp only; omega) | (simp only [zA, zS, zD, zN]; dsimp only; omega)) _) | (with_reducible refine Below.setCell ?_ (by first | omega | (simp only [zA, zS, zD, zN]; omega) | (dsimp only; omega) | (simp only [zA, zS, zD, zN]; dsimp only; omega)) _) | (with_reducible apply below_drewN))) (hb1.mono (by first | omega | (simp only [zA, zS, zD, zN]; omega) | (dsimp only; omega) | (simp only [zA, zS, zD, zN]; dsimp only; omega)))
  have x0 := ((Blk.new w #[.int .i64 gk, .int .i64 ga, .int .i64 gb, .slice gad gn gcap] 24).alloc (.cells #[.int .i64 xk, .int .i64 xn, .slice xad xs xcap] 27)).ext hb1
  have x1 := (Blk.new (w.alloc (.cells #[.int .i64 gk, .int .i64 ga, .int .i64 gb, .slice gad gn gcap] 24)) #[.int .i64 xk, .int .i64 xn, .slice xad xs xcap] 27).ext hb1
  simp only [World.size_alloc] at x1
  clear hb1 C1
  by_cases h1 : c1 = 0
  case neg =>
    have HX : Hid (E = c1) := HE.out.trans (if_pos h1)
    rw [errV_ne h1]
    clear h1 HE
    go_wp2_with fail
    go_ret3
    rw [HX.out]
    exact ⟨rfl, hB1⟩
  subst h1
  rw [errV_zero]
  have f0 := x1.cell 0
  have f1 := x1.cell 1
  have f2 := x1.cell 2
  simp only [List.getElem?_toArray, List.getElem?_cons_succ, List.getElem?_cons_zero] at f0 f1 f2
  go_wp2_with fail
  refine (C2.out _ hB1).mono ?_
  rintro _ w2 ⟨rfl, hb2⟩
  have hB2 := hB1.trans (hb2.mono hB1.size)
  have x0 := x0.ext hb2
  have x1 := x1.ext hb2
  clear f0 f1 f2 hb2 C2
  by_cases h2 : c2 = 0
  case neg =>
    have HX : Hid (E = c2) := HE.out.trans (by simp [h2])
    rw [errV_ne h2]
    clear h2 HE
    go_wp2_with fail
    go_ret3
    rw [HX.out]
    exact ⟨rfl, hB2⟩
  subst h2
  rw [errV_zero]
  have g0 := x0.cell 0
  have g1 := x0.cell 1
  have g2 := x0.cell 2
  have g3 := x0.cell 3
  simp only [List.getElem?_toArray, List.getElem?_cons_succ, List.getElem?_cons_zero] at g0 g1 g2 g3
  have f0 := x1.cell 0
  have f1 := x1.cell 1
  have f2 := x1.cell 2
  simp only [List.getElem?_toArray, List.getElem?_cons_succ, List.getElem?_cons_zero] at f0 f1 f2
  go_wp2_with fail
  refine (C3.out _ hB2).mono ?_
  rintro _ w3 ⟨rfl, hb3⟩
  have hB3 := hB2.trans (hb3.mono hB2.size)
  clear g0 g1 g2 g3 f0 f1 f2 hb3 C3
  by_cases h3 : pe = 0
  case neg =>
    have HX : Hid (E = pe) := HE.out.trans (by simp [h3])
    have hs := HS1.out h3
    rw [hs, errV_ne h3]
    clear h3 HE hs
    go_wp2_with fail
    go_ret3
    rw [HX.out]
    exact ⟨rfl, hB3⟩
  have hs := HS2.out h3 trivial
  rw [hs, errV_zero]
  cases bd with
  | true => exact absurd (HE.out.trans (by simp [h3])) HEN.out
  | false =>
    have HX : Hid (E = 2) := HE.out.trans (by simp [h3])
    clear h3 HE hs
    go_wp2_with fail
    go_ret3
    rw [HX.out]
    exact ⟨rfl, hB3⟩
theorem shErr_zero {g : GT} {x : ET} {t : List Int} (h : shErr g x t = 0) : GT.check g = 0 ∧ ET.check x = 0 ∧ (playR g t).2 = 0 ∧ badR g x t = true := by
  unfold shErr at h
  split at h
  · omega
  · split at h
    · omega
    · split at h
      · omega
      · split at h
        · rename_i hb; exact ⟨by omega, by omega, by omega, hb⟩
        · omega
theorem shErr_ok {g : GT} {x : ET} {t : List Int} (hp : (playR g t).2 = 0) (hx : ET.check x = 0) (hb : badR g x t = true) : shErr g x t = 0 := by
  unfold shErr
  rw [if_neg (by have := (played_fit hp).1; omega), if_neg (by omega), if_neg (by omega), if_pos hb]
theorem shErr_none {g : GT} {x : ET} {t : List Int} (hp : (playR g t).2 = 0) (hx : ET.check x = 0) (hb : badR g x t = false) : shErr g x t = 2 := by
  unfold shErr
  rw [if_neg (by have := (played_fit hp).1; omega), if_neg (by omega), if_neg (by omega), hb]
  simp
end Go.Proofs.YtibmnifenfingaaGreatDoor
