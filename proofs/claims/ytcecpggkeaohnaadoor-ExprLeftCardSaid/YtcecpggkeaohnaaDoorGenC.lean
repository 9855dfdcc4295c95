/- The walks through a generator's check. -/
import Derived.Test.YtcecpggkeaohnaaDoorOwn
import Derived.Test.YtcecpggkeaohnaaDoorTree
namespace Go.Proofs.YtcecpggkeaohnaaDoor
set_option maxRecDepth 100000
open Go.RowKit
set_option linter.unusedSimpArgs false
set_option linter.unusedVariables false
/-- The error of this number; 0: none. -/
def errV (e : Int) : Value := if e = 0 then .nilIface else .iface 63 (.int .i64 e)
theorem errV_zero : errV 0 = .nilIface := rfl
theorem errV_ne {e : Int} (h : e ≠ 0) : errV e = .iface 63 (.int .i64 e) := by unfold errV; rw [if_neg h]
set_option maxHeartbeats 1000000 in
theorem number_any (n : Int) (w : World) : Calls Tryd.prog 82 #[.int .i64 n] w fun e w' => e = .returned (.bool (!GT.far n)) ∧ w = w' := by
  by_cases h1 : n < -1073741824
  · have h2 : GT.far n = true := by simp [GT.far, h1]
    have h3 : ¬ -1073741824 ≤ n := by omega
    rw [h2]
    clear h2
    go_enter Tryd.func82, Tryd.ntmps82
    go_wp2_with fail
    go_ret
    exact ⟨rfl, rfl⟩
  · by_cases h2 : 1073741824 < n
    · have h4 : GT.far n = true := by simp [GT.far, h2]
      have h5 : ¬ n ≤ 1073741824 := by omega
      rw [h4]
      clear h4
      go_enter Tryd.func82, Tryd.ntmps82
      go_wp2_with fail
      go_ret
      exact ⟨by simp <;> omega, rfl⟩
    · have h4 : GT.far n = false := by simp [GT.far]; omega
      rw [h4]
      clear h4
      go_enter Tryd.func82, Tryd.ntmps82
      go_wp2_with fail
      go_ret
      exact ⟨by simp <;> omega, rfl⟩
set_option maxHeartbeats 1000000 in
theorem one_1a (a b : Int) (n cap : Nat) (ad : Option Addr) (ha : In64 a) (hb : In64 b) (fa : GT.far a = true) (w : World) :
    Calls Tryd.prog 75 #[.agg #[.int .i64 1, .int .i64 a, .int .i64 b, .slice ad n cap]] w fun e w' => e = .returned (errV 1) ∧ Below w.heap.size w w' := by
  go_enter Tryd.func75, Tryd.ntmps75
  go_wp2_with (go_at_call 82; refine (number_any _ _).mono ?_; rintro e w' ⟨rfl, rfl⟩)
  go_ret
  exact ⟨rfl, by repeat (first | with_reducible assumption | with_reducible exact Below.refl _ _ | with_reducible apply Below.drew | (with_reducible refine Below.alloc ?_ (by first | omega | (simp only [World.size_alloc, size_setCell, size_drew, size_drewN]; omega) | (dsimp only; omega) | (simp only [World.size_alloc, size_setCell, size_drew, size_drewN]; dsimp only; omega)) _) | (with_reducible refine Below.setCell ?_ (by first | omega | (simp only [World.size_alloc, size_setCell, size_drew, size_drewN]; omega) | (dsimp only; omega) | (simp only [World.size_alloc, size_setCell, size_drew, size_drewN]; dsimp only; omega)) _) | (with_reducible apply below_drewN))⟩
set_option maxHeartbeats 1000000 in
theorem one_1b (a b : Int) (n cap : Nat) (ad : Option Addr) (ha : In64 a) (hb : In64 b) (nfa : GT.far a = false) (h : n = 0) (w : World) :
    Calls Tryd.prog 75 #[.agg #[.int .i64 1, .int .i64 a, .int .i64 b, .slice ad n cap]] w fun e w' => e = .returned (errV 0) ∧ Below w.heap.size w w' := by
  have z1 : ¬ 0 < (n : Int) := by omega
  clear h
  go_enter Tryd.func75, Tryd.ntmps75
  go_wp2_with (go_at_call 82; refine (number_any _ _).mono ?_; rintro e w' ⟨rfl, rfl⟩)
  go_ret
  exact ⟨rfl, by repeat (first | with_reducible assumption | with_reducible exact Below.refl _ _ | with_reducible apply Below.drew | (with_reducible refine Below.alloc ?_ (by first | omega | (simp only [World.size_alloc, size_setCell, size_drew, size_drewN]; omega) | (dsimp only; omega) | (simp only [World.size_alloc, size_setCell, size_drew, size_drewN]; dsimp only; omega)) _) | (with_reducible refine Below.setCell ?_ (by first | omega | (simp only [World.size_alloc, size_setCell, size_drew, size_drewN]; omega) | (dsimp only; omega) | (simp only [World.size_alloc, size_setCell, size_drew, size_drewN]; dsimp only; omega)) _) | (with_reducible apply below_drewN))⟩
set_option maxHeartbeats 1000000 in
theorem one_1c (a b : Int) (n cap : Nat) (ad : Option Addr) (ha : In64 a) (hb : In64 b) (nfa : GT.far a = false) (h : n ≠ 0) (w : World) :
    Calls Tryd.prog 75 #[.agg #[.int .i64 1, .int .i64 a, .int .i64 b, .slice ad n cap]] w fun e w' => e = .returned (errV 3) ∧ Below w.heap.size w w' := by
  have z1 : 0 < (n : Int) := by omega
  clear h
  go_enter Tryd.func75, Tryd.ntmps75
  go_wp2_with (go_at_call 82; refine (number_any _ _).mono ?_; rintro e w' ⟨rfl, rfl⟩)
  go_ret
  exact ⟨rfl, by repeat (first | with_reducible assumption | with_reducible exact Below.refl _ _ | with_reducible apply Below.drew | (with_reducible refine Below.alloc ?_ (by first | omega | (simp only [World.size_alloc, size_setCell, size_drew, size_drewN]; omega) | (dsimp only; omega) | (simp only [World.size_alloc, size_setCell, size_drew, size_drewN]; dsimp only; omega)) _) | (with_reducible refine Below.setCell ?_ (by first | omega | (simp only [World.size_alloc, size_setCell, size_drew, size_drewN]; omega) | (dsimp only; omega) | (simp only [World.size_alloc, size_setCell, size_drew, size_drewN]; dsimp only; omega)) _) | (with_reducible apply below_drewN))⟩
set_option maxHeartbeats 1000000 in
theorem one_2a (a b : Int) (n cap : Nat) (ad : Option Addr) (ha : In64 a) (hb : In64 b) (fa : GT.far a = true) (w : World) :
    Calls Tryd.prog 75 #[.agg #[.int .i64 2, .int .i64 a, .int .i64 b, .slice ad n cap]] w fun e w' => e = .returned (errV 1) ∧ Below w.heap.size w w' := by
  go_enter Tryd.func75, Tryd.ntmps75
  go_wp2_with (go_at_call 82; refine (number_any _ _).mono ?_; rintro e w' ⟨rfl, rfl⟩)
  go_ret
  exact ⟨rfl, by repeat (first | with_reducible assumption | with_reducible exact Below.refl _ _ | with_reducible apply Below.drew | (with_reducible refine Below.alloc ?_ (by first | omega | (simp only [World.size_alloc, size_setCell, size_drew, size_drewN]; omega) | (dsimp only; omega) | (simp only [World.size_alloc, size_setCell, size_drew, size_drewN]; dsimp only; omega)) _) | (with_reducible refine Below.setCell ?_ (by first | omega | (simp only [World.size_alloc, size_setCell, size_drew, size_drewN]; omega) | (dsimp only; omega) | (simp only [World.size_alloc, size_setCell, size_drew, size_drewN]; dsimp only; omega)) _) | (with_reducible apply below_drewN))⟩
set_option maxHeartbeats 1000000 in
theorem one_2b (a b : Int) (n cap : Nat) (ad : Option Addr) (ha : In64 a) (hb : In64 b) (nfa : GT.far a = false) (fb : GT.far b = true) (w : World) :
    Calls Tryd.prog 75 #[.agg #[.int .i64 2, .int .i64 a, .int .i64 b, .slice ad n cap]] w fun e w' => e = .returned (errV 1) ∧ Below w.heap.size w w' := by
  go_enter Tryd.func75, Tryd.ntmps75
  go_wp2_with (go_at_call 82; refine (number_any _ _).mono ?_; rintro e w' ⟨rfl, rfl⟩)
  go_ret
  exact ⟨rfl, by repeat (first | with_reducible assumption | with_reducible exact Below.refl _ _ | with_reducible apply Below.drew | (with_reducible refine Below.alloc ?_ (by first | omega | (simp only [World.size_alloc, size_setCell, size_drew, size_drewN]; omega) | (dsimp only; omega) | (simp only [World.size_alloc, size_setCell, size_drew, size_drewN]; dsimp only; omega)) _) | (with_reducible refine Below.setCell ?_ (by first | omega | (simp only [World.size_alloc, size_setCell, size_drew, size_drewN]; omega) | (dsimp only; omega) | (simp only [World.size_alloc, size_setCell, size_drew, size_drewN]; dsimp only; omega)) _) | (with_reducible apply below_drewN))⟩
set_option maxHeartbeats 1000000 in
theorem one_2c (a b : Int) (n cap : Nat) (ad : Option Addr) (ha : In64 a) (hb : In64 b) (nfa : GT.far a = false) (nfb : GT.far b = false) (h : b < a) (w : World) :
    Calls Tryd.prog 75 #[.agg #[.int .i64 2, .int .i64 a, .int .i64 b, .slice ad n cap]] w fun e w' => e = .returned (errV 1) ∧ Below w.heap.size w w' := by
  go_enter Tryd.func75, Tryd.ntmps75
  go_wp2_with (go_at_call 82; refine (number_any _ _).mono ?_; rintro e w' ⟨rfl, rfl⟩)
  go_ret
  exact ⟨rfl, by repeat (first | with_reducible assumption | with_reducible exact Below.refl _ _ | with_reducible apply Below.drew | (with_reducible refine Below.alloc ?_ (by first | omega | (simp only [World.size_alloc, size_setCell, size_drew, size_drewN]; omega) | (dsimp only; omega) | (simp only [World.size_alloc, size_setCell, size_drew, size_drewN]; dsimp only; omega)) _) | (with_reducible refine Below.setCell ?_ (by first | omega | (simp only [World.size_alloc, size_setCell, size_drew, size_drewN]; omega) | (dsimp only; omega) | (simp only [World.size_alloc, size_setCell, size_drew, size_drewN]; dsimp only; omega)) _) | (with_reducible apply below_drewN))⟩
set_option maxHeartbeats 1000000 in
theorem one_2d (a b : Int) (n cap : Nat) (ad : Option Addr) (ha : In64 a) (hb : In64 b) (nfa : GT.far a = false) (nfb : GT.far b = false) (h : ¬ b < a) (h2 : 1000 < b - a) (w : World) :
    Calls Tryd.prog 75 #[.agg #[.int .i64 2, .int .i64 a, .int .i64 b, .slice ad n cap]] w fun e w' => e = .returned (errV 1) ∧ Below w.heap.size w w' := by
  have l1 : -1073741824 ≤ a ∧ a ≤ 1073741824 := by simp [GT.far] at nfa; omega
  have l2 : -1073741824 ≤ b ∧ b ≤ 1073741824 := by simp [GT.far] at nfb; omega
  obtain ⟨l11, l12⟩ := l1
  obtain ⟨l21, l22⟩ := l2
  go_enter Tryd.func75, Tryd.ntmps75
  go_wp2_with (go_at_call 82; refine (number_any _ _).mono ?_; rintro e w' ⟨rfl, rfl⟩)
  go_ret
  exact ⟨rfl, by repeat (first | with_reducible assumption | with_reducible exact Below.refl _ _ | with_reducible apply Below.drew | (with_reducible refine Below.alloc ?_ (by first | omega | (simp only [World.size_alloc, size_setCell, size_drew, size_drewN]; omega) | (dsimp only; omega) | (simp only [World.size_alloc, size_setCell, size_drew, size_drewN]; dsimp only; omega)) _) | (with_reducible refine Below.setCell ?_ (by first | omega | (simp only [World.size_alloc, size_setCell, size_drew, size_drewN]; omega) | (dsimp only; omega) | (simp only [World.size_alloc, size_setCell, size_drew, size_drewN]; dsimp only; omega)) _) | (with_reducible apply below_drewN))⟩
set_option maxHeartbeats 1000000 in
theorem one_2e (a b : Int) (n cap : Nat) (ad : Option Addr) (ha : In64 a) (hb : In64 b) (nfa : GT.far a = false) (nfb : GT.far b = false) (h : ¬ b < a) (h2 : ¬ 1000 < b - a) (h3 : n = 0) (w : World) :
    Calls Tryd.prog 75 #[.agg #[.int .i64 2, .int .i64 a, .int .i64 b, .slice ad n cap]] w fun e w' => e = .returned (errV 0) ∧ Below w.heap.size w w' := by
  have l1 : -1073741824 ≤ a ∧ a ≤ 1073741824 := by simp [GT.far] at nfa; omega
  have l2 : -1073741824 ≤ b ∧ b ≤ 1073741824 := by simp [GT.far] at nfb; omega
  obtain ⟨l11, l12⟩ := l1
  obtain ⟨l21, l22⟩ := l2
  have z1 : ¬ 0 < (n : Int) := by omega
  clear h3
  go_enter Tryd.func75, Tryd.ntmps75
  go_wp2_with (go_at_call 82; refine (number_any _ _).mono ?_; rintro e w' ⟨rfl, rfl⟩)
  go_ret
  exact ⟨rfl, by repeat (first | with_reducible assumption | with_reducible exact Below.refl _ _ | with_reducible apply Below.drew | (with_reducible refine Below.alloc ?_ (by first | omega | (simp only [World.size_alloc, size_setCell, size_drew, size_drewN]; omega) | (dsimp only; omega) | (simp only [World.size_alloc, size_setCell, size_drew, size_drewN]; dsimp only; omega)) _) | (with_reducible refine Below.setCell ?_ (by first | omega | (simp only [World.size_alloc, size_setCell, size_drew, size_drewN]; omega) | (dsimp only; omega) | (simp only [World.size_alloc, size_setCell, size_drew, size_drewN]; dsimp only; omega)) _) | (with_reducible apply below_drewN))⟩
set_option maxHeartbeats 1000000 in
theorem one_2f (a b : Int) (n cap : Nat) (ad : Option Addr) (ha : In64 a) (hb : In64 b) (nfa : GT.far a = false) (nfb : GT.far b = false) (h : ¬ b < a) (h2 : ¬ 1000 < b - a) (h3 : n ≠ 0) (w : World) :
    Calls Tryd.prog 75 #[.agg #[.int .i64 2, .int .i64 a, .int .i64 b, .slice ad n cap]] w fun e w' => e = .returned (errV 3) ∧ Below w.heap.size w w' := by
  have l1 : -1073741824 ≤ a ∧ a ≤ 1073741824 := by simp [GT.far] at nfa; omega
  have l2 : -1073741824 ≤ b ∧ b ≤ 1073741824 := by simp [GT.far] at nfb; omega
  obtain ⟨l11, l12⟩ := l1
  obtain ⟨l21, l22⟩ := l2
  have z1 : 0 < (n : Int) := by omega
  clear h3
  go_enter Tryd.func75, Tryd.ntmps75
  go_wp2_with (go_at_call 82; refine (number_any _ _).mono ?_; rintro e w' ⟨rfl, rfl⟩)
  go_ret
  exact ⟨rfl, by repeat (first | with_reducible assumption | with_reducible exact Below.refl _ _ | with_reducible apply Below.drew | (with_reducible refine Below.alloc ?_ (by first | omega | (simp only [World.size_alloc, size_setCell, size_drew, size_drewN]; omega) | (dsimp only; omega) | (simp only [World.size_alloc, size_setCell, size_drew, size_drewN]; dsimp only; omega)) _) | (with_reducible refine Below.setCell ?_ (by first | omega | (simp only [World.size_alloc, size_setCell, size_drew, size_drewN]; omega) | (dsimp only; omega) | (simp only [World.size_alloc, size_setCell, size_drew, size_drewN]; dsimp only; omega)) _) | (with_reducible apply below_drewN))⟩
set_option maxHeartbeats 1000000 in
theorem one_3 (a b : Int) (n cap : Nat) (ad : Option Addr) (ha : In64 a) (hb : In64 b)  (w : World) :
    Calls Tryd.prog 75 #[.agg #[.int .i64 3, .int .i64 a, .int .i64 b, .slice ad n cap]] w fun e w' => e = .returned (errV 0) ∧ Below w.heap.size w w' := by
  go_enter Tryd.func75, Tryd.ntmps75
  go_wp2_with (go_at_call 82; refine (number_any _ _).mono ?_; rintro e w' ⟨rfl, rfl⟩)
  go_ret
  exact ⟨rfl, by repeat (first | with_reducible assumption | with_reducible exact Below.refl _ _ | with_reducible apply Below.drew | (with_reducible refine Below.alloc ?_ (by first | omega | (simp only [World.size_alloc, size_setCell, size_drew, size_drewN]; omega) | (dsimp only; omega) | (simp only [World.size_alloc, size_setCell, size_drew, size_drewN]; dsimp only; omega)) _) | (with_reducible refine Below.setCell ?_ (by first | omega | (simp only [World.size_alloc, size_setCell, size_drew, size_drewN]; omega) | (dsimp only; omega) | (simp only [World.size_alloc, size_setCell, size_drew, size_drewN]; dsimp only; omega)) _) | (with_reducible apply below_drewN))⟩
set_option maxHeartbeats 1000000 in
theorem one_4a (a b : Int) (n cap : Nat) (ad : Option Addr) (ha : In64 a) (hb : In64 b) (h : a < 0) (w : World) :
    Calls Tryd.prog 75 #[.agg #[.int .i64 4, .int .i64 a, .int .i64 b, .slice ad n cap]] w fun e w' => e = .returned (errV 1) ∧ Below w.heap.size w w' := by
  go_enter Tryd.func75, Tryd.ntmps75
  go_wp2_with (go_at_call 82; refine (number_any _ _).mono ?_; rintro e w' ⟨rfl, rfl⟩)
  go_ret
  exact ⟨rfl, by repeat (first | with_reducible assumption | with_reducible exact Below.refl _ _ | with_reducible apply Below.drew | (with_reducible refine Below.alloc ?_ (by first | omega | (simp only [World.size_alloc, size_setCell, size_drew, size_drewN]; omega) | (dsimp only; omega) | (simp only [World.size_alloc, size_setCell, size_drew, size_drewN]; dsimp only; omega)) _) | (with_reducible refine Below.setCell ?_ (by first | omega | (simp only [World.size_alloc, size_setCell, size_drew, size_drewN]; omega) | (dsimp only; omega) | (simp only [World.size_alloc, size_setCell, size_drew, size_drewN]; dsimp only; omega)) _) | (with_reducible apply below_drewN))⟩
set_option maxHeartbeats 1000000 in
theorem one_4b (a b : Int) (n cap : Nat) (ad : Option Addr) (ha : In64 a) (hb : In64 b) (h : ¬ a < 0) (h2 : 5 < a) (w : World) :
    Calls Tryd.prog 75 #[.agg #[.int .i64 4, .int .i64 a, .int .i64 b, .slice ad n cap]] w fun e w' => e = .returned (errV 1) ∧ Below w.heap.size w w' := by
  go_enter Tryd.func75, Tryd.ntmps75
  go_wp2_with (go_at_call 82; refine (number_any _ _).mono ?_; rintro e w' ⟨rfl, rfl⟩)
  go_ret
  exact ⟨rfl, by repeat (first | with_reducible assumption | with_reducible exact Below.refl _ _ | with_reducible apply Below.drew | (with_reducible refine Below.alloc ?_ (by first | omega | (simp only [World.size_alloc, size_setCell, size_drew, size_drewN]; omega) | (dsimp only; omega) | (simp only [World.size_alloc, size_setCell, size_drew, size_drewN]; dsimp only; omega)) _) | (with_reducible refine Below.setCell ?_ (by first | omega | (simp only [World.size_alloc, size_setCell, size_drew, size_drewN]; omega) | (dsimp only; omega) | (simp only [World.size_alloc, size_setCell, size_drew, size_drewN]; dsimp only; omega)) _) | (with_reducible apply below_drewN))⟩
set_option maxHeartbeats 1000000 in
theorem one_4c (a b : Int) (n cap : Nat) (ad : Option Addr) (ha : In64 a) (hb : In64 b) (h : ¬ a < 0) (h2 : ¬ 5 < a) (h3 : n = 1) (w : World) :
    Calls Tryd.prog 75 #[.agg #[.int .i64 4, .int .i64 a, .int .i64 b, .slice ad n cap]] w fun e w' => e = .returned (errV 0) ∧ Below w.heap.size w w' := by
  have z1 : ((n : Int) != 1) = false := by simp; omega
  clear h3
  go_enter Tryd.func75, Tryd.ntmps75
  go_wp2_with (go_at_call 82; refine (number_any _ _).mono ?_; rintro e w' ⟨rfl, rfl⟩)
  go_ret
  exact ⟨rfl, by repeat (first | with_reducible assumption | with_reducible exact Below.refl _ _ | with_reducible apply Below.drew | (with_reducible refine Below.alloc ?_ (by first | omega | (simp only [World.size_alloc, size_setCell, size_drew, size_drewN]; omega) | (dsimp only; omega) | (simp only [World.size_alloc, size_setCell, size_drew, size_drewN]; dsimp only; omega)) _) | (with_reducible refine Below.setCell ?_ (by first | omega | (simp only [World.size_alloc, size_setCell, size_drew, size_drewN]; omega) | (dsimp only; omega) | (simp only [World.size_alloc, size_setCell, size_drew, size_drewN]; dsimp only; omega)) _) | (with_reducible apply below_drewN))⟩
set_option maxHeartbeats 1000000 in
theorem one_4d (a b : Int) (n cap : Nat) (ad : Option Addr) (ha : In64 a) (hb : In64 b) (h : ¬ a < 0) (h2 : ¬ 5 < a) (h3 : n ≠ 1) (w : World) :
    Calls Tryd.prog 75 #[.agg #[.int .i64 4, .int .i64 a, .int .i64 b, .slice ad n cap]] w fun e w' => e = .returned (errV 3) ∧ Below w.heap.size w w' := by
  have z1 : ((n : Int) != 1) = true := by simp; omega
  clear h3
  go_enter Tryd.func75, Tryd.ntmps75
  go_wp2_with (go_at_call 82; refine (number_any _ _).mono ?_; rintro e w' ⟨rfl, rfl⟩)
  go_ret
  exact ⟨rfl, by repeat (first | with_reducible assumption | with_reducible exact Below.refl _ _ | with_reducible apply Below.drew | (with_reducible refine Below.alloc ?_ (by first | omega | (simp only [World.size_alloc, size_setCell, size_drew, size_drewN]; omega) | (dsimp only; omega) | (simp only [World.size_alloc, size_setCell, size_drew, size_drewN]; dsimp only; omega)) _) | (with_reducible refine Below.setCell ?_ (by first | omega | (simp only [World.size_alloc, size_setCell, size_drew, size_drewN]; omega) | (dsimp only; omega) | (simp only [World.size_alloc, size_setCell, size_drew, size_drewN]; dsimp only; omega)) _) | (with_reducible apply below_drewN))⟩
set_option maxHeartbeats 1000000 in
theorem one_5a (a b : Int) (n cap : Nat) (ad : Option Addr) (ha : In64 a) (hb : In64 b) (h3 : n = 0) (w : World) :
    Calls Tryd.prog 75 #[.agg #[.int .i64 5, .int .i64 a, .int .i64 b, .slice ad n cap]] w fun e w' => e = .returned (errV 3) ∧ Below w.heap.size w w' := by
  have z1 : ((n : Int) == 0) = true := by simp; omega
  clear h3
  go_enter Tryd.func75, Tryd.ntmps75
  go_wp2_with (go_at_call 82; refine (number_any _ _).mono ?_; rintro e w' ⟨rfl, rfl⟩)
  go_ret
  exact ⟨rfl, by repeat (first | with_reducible assumption | with_reducible exact Below.refl _ _ | with_reducible apply Below.drew | (with_reducible refine Below.alloc ?_ (by first | omega | (simp only [World.size_alloc, size_setCell, size_drew, size_drewN]; omega) | (dsimp only; omega) | (simp only [World.size_alloc, size_setCell, size_drew, size_drewN]; dsimp only; omega)) _) | (with_reducible refine Below.setCell ?_ (by first | omega | (simp only [World.size_alloc, size_setCell, size_drew, size_drewN]; omega) | (dsimp only; omega) | (simp only [World.size_alloc, size_setCell, size_drew, size_drewN]; dsimp only; omega)) _) | (with_reducible apply below_drewN))⟩
set_option maxHeartbeats 1000000 in
theorem one_5b (a b : Int) (n cap : Nat) (ad : Option Addr) (ha : In64 a) (hb : In64 b) (h3 : n ≠ 0) (w : World) :
    Calls Tryd.prog 75 #[.agg #[.int .i64 5, .int .i64 a, .int .i64 b, .slice ad n cap]] w fun e w' => e = .returned (errV 0) ∧ Below w.heap.size w w' := by
  have z1 : ((n : Int) == 0) = false := by simp; omega
  clear h3
  go_enter Tryd.func75, Tryd.ntmps75
  go_wp2_with (go_at_call 82; refine (number_any _ _).mono ?_; rintro e w' ⟨rfl, rfl⟩)
  go_ret
  exact ⟨rfl, by repeat (first | with_reducible assumption | with_reducible exact Below.refl _ _ | with_reducible apply Below.drew | (with_reducible refine Below.alloc ?_ (by first | omega | (simp only [World.size_alloc, size_setCell, size_drew, size_drewN]; omega) | (dsimp only; omega) | (simp only [World.size_alloc, size_setCell, size_drew, size_drewN]; dsimp only; omega)) _) | (with_reducible refine Below.setCell ?_ (by first | omega | (simp only [World.size_alloc, size_setCell, size_drew, size_drewN]; omega) | (dsimp only; omega) | (simp only [World.size_alloc, size_setCell, size_drew, size_drewN]; dsimp only; omega)) _) | (with_reducible apply below_drewN))⟩
set_option maxHeartbeats 1000000 in
theorem one_x (k a b : Int) (n cap : Nat) (ad : Option Addr) (h1 : k ≠ 1) (h2 : k ≠ 2) (h3 : k ≠ 3) (h4 : k ≠ 4) (h5 : k ≠ 5) (w : World) :
    Calls Tryd.prog 75 #[.agg #[.int .i64 k, .int .i64 a, .int .i64 b, .slice ad n cap]] w fun e w' => e = .returned (errV 3) ∧ Below w.heap.size w w' := by
  have e1 : (k == 1) = false := by simp [h1]
  have e2 : (k == 2) = false := by simp [h2]
  have e3 : (k == 3) = false := by simp [h3]
  have e4 : (k == 4) = false := by simp [h4]
  have e5 : (k == 5) = false := by simp [h5]
  clear h1 h2 h3 h4 h5
  go_enter Tryd.func75, Tryd.ntmps75
  go_wp2_with (go_at_call 82; refine (number_any _ _).mono ?_; rintro e w' ⟨rfl, rfl⟩)
  go_ret
  exact ⟨rfl, by repeat (first | with_reducible assumption | with_reducible exact Below.refl _ _ | with_reducible apply Below.drew | (with_reducible refine Below.alloc ?_ (by first | omega | (simp only [World.size_alloc, size_setCell, size_drew, size_drewN]; omega) | (dsimp only; omega) | (simp only [World.size_alloc, size_setCell, size_drew, size_drewN]; dsimp only; omega)) _) | (with_reducible refine Below.setCell ?_ (by first | omega | (simp only [World.size_alloc, size_setCell, size_drew, size_drewN]; omega) | (dsimp only; omega) | (simp only [World.size_alloc, size_setCell, size_drew, size_drewN]; dsimp only; omega)) _) | (with_reducible apply below_drewN))⟩
theorem one_any (k a b : Int) (n cap : Nat) (ad : Option Addr) (ha : In64 a) (hb : In64 b) (w : World) :
    Calls Tryd.prog 75 #[.agg #[.int .i64 k, .int .i64 a, .int .i64 b, .slice ad n cap]] w fun e w' => e = .returned (errV (GT.oneErr k a b n)) ∧ Below w.heap.size w w' := by
  by_cases k1 : k = 1
  · subst k1
    by_cases fa : GT.far a = true
    · have hr : GT.oneErr 1 a b n = 1 := by simp [GT.oneErr, fa]
      rw [hr]; exact one_1a a b n cap ad ha hb fa w
    · have nfa : GT.far a = false := by simpa using fa
      by_cases h : n = 0
      · have hr : GT.oneErr 1 a b n = 0 := by simp [GT.oneErr, nfa, h]
        rw [hr]; exact one_1b a b n cap ad ha hb nfa h w
      · have hr : GT.oneErr 1 a b n = 3 := by simp [GT.oneErr, nfa, h]
        rw [hr]; exact one_1c a b n cap ad ha hb nfa h w
  by_cases k2 : k = 2
  · subst k2
    by_cases fa : GT.far a = true
    · have hr : GT.oneErr 2 a b n = 1 := by simp [GT.oneErr, fa]
      rw [hr]; exact one_2a a b n cap ad ha hb fa w
    have nfa : GT.far a = false := by simpa using fa
    by_cases fb : GT.far b = true
    · have hr : GT.oneErr 2 a b n = 1 := by simp [GT.oneErr, fb]
      rw [hr]; exact one_2b a b n cap ad ha hb nfa fb w
    have nfb : GT.far b = false := by simpa using fb
    by_cases h : b < a
    · have hr : GT.oneErr 2 a b n = 1 := by simp [GT.oneErr, h]
      rw [hr]; exact one_2c a b n cap ad ha hb nfa nfb h w
    by_cases h2 : 1000 < b - a
    · have hr : GT.oneErr 2 a b n = 1 := by simp [GT.oneErr, h2]
      rw [hr]; exact one_2d a b n cap ad ha hb nfa nfb h h2 w
    by_cases h3 : n = 0
    · have hr : GT.oneErr 2 a b n = 0 := by simp only [GT.oneErr, nfa, nfb, h3]; simp; omega
      rw [hr]; exact one_2e a b n cap ad ha hb nfa nfb h h2 h3 w
    · have hr : GT.oneErr 2 a b n = 3 := by simp only [GT.oneErr, nfa, nfb]; simp [h3]; omega
      rw [hr]; exact one_2f a b n cap ad ha hb nfa nfb h h2 h3 w
  by_cases k3 : k = 3
  · subst k3
    have hr : GT.oneErr 3 a b n = 0 := by simp [GT.oneErr]
    rw [hr]; exact one_3 a b n cap ad ha hb w
  by_cases k4 : k = 4
  · subst k4
    by_cases h : a < 0
    · have hr : GT.oneErr 4 a b n = 1 := by simp [GT.oneErr, h]
      rw [hr]; exact one_4a a b n cap ad ha hb h w
    by_cases h2 : 5 < a
    · have hr : GT.oneErr 4 a b n = 1 := by simp [GT.oneErr, h2]
      rw [hr]; exact one_4b a b n cap ad ha hb h h2 w
    by_cases h3 : n = 1
    · have hr : GT.oneErr 4 a b n = 0 := by simp [GT.oneErr, h3]; omega
      rw [hr]; exact one_4c a b n cap ad ha hb h h2 h3 w
    · have hr : GT.oneErr 4 a b n = 3 := by simp [GT.oneErr, h3]; omega
      rw [hr]; exact one_4d a b n cap ad ha hb h h2 h3 w
  by_cases k5 : k = 5
  · subst k5
    by_cases h3 : n = 0
    · have hr : GT.oneErr 5 a b n = 3 := by simp [GT.oneErr, h3]
      rw [hr]; exact one_5a a b n cap ad ha hb h3 w
    · have hr : GT.oneErr 5 a b n = 0 := by simp [GT.oneErr, h3]
      rw [hr]; exact one_5b a b n cap ad ha hb h3 w
  have hr : GT.oneErr k a b n = 3 := by simp [GT.oneErr, k1, k2, k3, k4, k5]
  rw [hr]; exact one_x k a b n cap ad k1 k2 k3 k4 k5 w
theorem eachL_step (s : List GT) (j : Nat) (h : j < s.length) : GT.eachErrL (s.drop j) = if GT.eachErr s[j] = 0 then GT.eachErrL (s.drop (j + 1)) else GT.eachErr s[j] := by
  rw [List.drop_eq_getElem_cons h]; rfl
set_option maxHeartbeats 2000000 in
theorem each_any (g : GT) : ∀ (v : Value) (w : World), GenAt w v g → Calls Tryd.prog 58 #[v] w fun e w' => e = .returned (errV (GT.eachErr g)) ∧ Below w.heap.size w w' := by
  induction g using GT.ind with
  | h k a b s ih =>
    intro v w hg
    obtain ⟨k', a', b', s', ad, cap, hmk, rfl, hk, ha, hb, hl, hm, hs⟩ := hg.form
    obtain ⟨rfl, rfl, rfl, rfl⟩ := GT.mk.inj hmk
    clear hg hmk
    have IH := Lib.hid ih
    clear ih
    have C1 := Lib.hid (one_any k a b s.length cap ad ha hb)
    by_cases h0 : GT.oneErr k a b s.length = 0
    · have hr : GT.eachErr (.mk k a b s) = GT.eachErrL (s.drop 0) := by simp [GT.eachErr, h0]
      rw [hr]
      rw [h0, errV_zero] at C1
      clear hr h0
      go_enter Tryd.func58, Tryd.ntmps58
      go_wp2_with fail
      refine (C1.out _).mono ?_
      rintro e w1 ⟨rfl, hb1⟩
      have hB1 : Below w.heap.size w w1 := Below.trans (by repeat (first | with_reducible assumption | with_reducible exact Below.refl _ _ | with_reducible apply Below.drew | (with_reducible refine Below.alloc ?_ (by first | omega | (simp only [World.size_alloc, size_setCell, size_drew, size_drewN]; omega) | (dsimp only; omega) | (simp only [World.size_alloc, size_setCell, size_drew, size_drewN]; dsimp only; omega)) _) | (with_reducible refine Below.setCell ?_ (by first | omega | (simp only [World.size_alloc, size_setCell, size_drew, size_drewN]; omega) | (dsimp only; omega) | (simp only [World.size_alloc, size_setCell, size_drew, size_drewN]; dsimp only; omega)) _) | (with_reducible apply below_drewN))) (hb1.mono (by first | omega | (simp only [World.size_alloc, size_setCell, size_drew, size_drewN]; omega) | (dsimp only; omega) | (simp only [World.size_alloc, size_setCell, size_drew, size_drewN]; dsimp only; omega)))
      obtain ⟨hc1, hf1, hz1⟩ := bcell hb1
      try simp only [World.size_alloc, size_setCell, size_drew, size_drewN] at hz1
      clear hb1
      have y1_0 : w.heap.size < w1.heap.size := by omega
      have hs1 := hs.ext hB1
      clear hs
      go_wp2_with fail
      go_loopw [15] (fun i wr => ∃ j : Nat, j ≤ s.length ∧ i = .int .i64 j ∧ Below w1.heap.size w1 wr ∧ Hid (GT.eachErrL (s.drop 0) = GT.eachErrL (s.drop j))) (fun i _ => s.length - (intOf i).toNat)
      case atStart => exact ⟨0, by omega, rfl, Below.refl _ _, rfl⟩
      case round =>
        obtain ⟨j, hj, rfl, hb2, HE⟩ := hrel
        clear hc1 hf1
        have hzr := hb2.size
        by_cases hlt : j < s.length
        · have p0 : (0 : Int) ≤ (j : Int) := by omega
          have p1 : (j : Int) < (s.length : Int) := by omega
          obtain ⟨bl, off, rfl, hlt1, hc⟩ := (hs1.ext hb2).at' (by omega)
          obtain ⟨k2, a2, b2, t2, ad2, cap2, c0, c1, c2, c3, hg2⟩ := hc j hlt
          clear hc hs1
          have CK := Lib.hid (fun W hW => IH.out s[j] (List.getElem_mem hlt) (.agg #[.int .i64 k2, .int .i64 a2, .int .i64 b2, .slice ad2 t2 cap2]) W (hg2.ext hW))
          have ST := Lib.hid (eachL_step s j hlt)
          generalize GT.eachErr s[j] = ej at *
          have hBr : Below w.heap.size w wr := hB1.trans (hb2.mono hB1.size)
          go_wp2_with fail
          refine (CK.out _ (by repeat (first | with_reducible assumption | with_reducible exact Below.refl _ _ | with_reducible apply Below.drew | (with_reducible refine Below.alloc ?_ (by first | omega | (simp only [World.size_alloc, size_setCell, size_drew, size_drewN]; omega) | (dsimp only; omega) | (simp only [World.size_alloc, size_setCell, size_drew, size_drewN]; dsimp only; omega)) _) | (with_reducible refine Below.setCell ?_ (by first | omega | (simp only [World.size_alloc, size_setCell, size_drew, size_drewN]; omega) | (dsimp only; omega) | (simp only [World.size_alloc, size_setCell, size_drew, size_drewN]; dsimp only; omega)) _) | (with_reducible apply below_drewN)))).mono ?_
          rintro e w3 ⟨rfl, hb3⟩
          have hB3 : Below w1.heap.size w1 w3 := Below.trans (by repeat (first | with_reducible assumption | with_reducible exact Below.refl _ _ | with_reducible apply Below.drew | (with_reducible refine Below.alloc ?_ (by first | omega | (simp only [World.size_alloc, size_setCell, size_drew, size_drewN]; omega) | (dsimp only; omega) | (simp only [World.size_alloc, size_setCell, size_drew, size_drewN]; dsimp only; omega)) _) | (with_reducible refine Below.setCell ?_ (by first | omega | (simp only [World.size_alloc, size_setCell, size_drew, size_drewN]; omega) | (dsimp only; omega) | (simp only [World.size_alloc, size_setCell, size_drew, size_drewN]; dsimp only; omega)) _) | (with_reducible apply below_drewN))) (hb3.mono (by first | omega | (simp only [World.size_alloc, size_setCell, size_drew, size_drewN]; omega) | (dsimp only; omega) | (simp only [World.size_alloc, size_setCell, size_drew, size_drewN]; dsimp only; omega)))
          have hBw : Below w.heap.size w w3 := hB1.trans (hB3.mono hB1.size)
          clear hb3
          by_cases he : ej = 0
          · have HE2 := ST.out
            rw [if_pos he] at HE2
            rw [he, errV_zero]
            clear he
            go_wp2_with fail
            exact ⟨⟨j + 1, by omega, by go_num, hB3, HE.out.trans HE2⟩, by simp [intOf]; omega⟩
          · have HE2 := ST.out
            rw [if_neg he] at HE2
            rw [errV_ne he]
            have HN := Lib.hid he
            clear he
            go_wp2_with fail
            go_ret
            exact ⟨by rw [HE.out, HE2, errV_ne HN.out]; rfl, hBw⟩
        · have hj' : j = s.length := by omega
          have HE2 := HE.out
          rw [hj', List.drop_length] at HE2
          have hBw : Below w.heap.size w wr := hB1.trans (hb2.mono hB1.size)
          clear hj'
          go_wp2_with fail
          go_ret
          exact ⟨by rw [HE2]; rfl, hBw⟩
    · have hr : GT.eachErr (.mk k a b s) = GT.oneErr k a b s.length := by simp [GT.eachErr, h0]
      rw [hr]
      rw [errV_ne h0] at C1 ⊢
      clear hr h0
      go_enter Tryd.func58, Tryd.ntmps58
      go_wp2_with fail
      refine (C1.out _).mono ?_
      rintro e w1 ⟨rfl, hb1⟩
      have hB1 : Below w.heap.size w w1 := Below.trans (by repeat (first | with_reducible assumption | with_reducible exact Below.refl _ _ | with_reducible apply Below.drew | (with_reducible refine Below.alloc ?_ (by first | omega | (simp only [World.size_alloc, size_setCell, size_drew, size_drewN]; omega) | (dsimp only; omega) | (simp only [World.size_alloc, size_setCell, size_drew, size_drewN]; dsimp only; omega)) _) | (with_reducible refine Below.setCell ?_ (by first | omega | (simp only [World.size_alloc, size_setCell, size_drew, size_drewN]; omega) | (dsimp only; omega) | (simp only [World.size_alloc, size_setCell, size_drew, size_drewN]; dsimp only; omega)) _) | (with_reducible apply below_drewN))) (hb1.mono (by first | omega | (simp only [World.size_alloc, size_setCell, size_drew, size_drewN]; omega) | (dsimp only; omega) | (simp only [World.size_alloc, size_setCell, size_drew, size_drewN]; dsimp only; omega)))
      obtain ⟨hc1, hf1, hz1⟩ := bcell hb1
      try simp only [World.size_alloc, size_setCell, size_drew, size_drewN] at hz1
      clear hb1
      have y1_0 : w.heap.size < w1.heap.size := by omega
      go_wp2_with fail
      go_ret
      exact ⟨rfl, by repeat (first | with_reducible assumption | with_reducible exact Below.refl _ _ | with_reducible apply Below.drew | (with_reducible refine Below.alloc ?_ (by first | omega | (simp only [World.size_alloc, size_setCell, size_drew, size_drewN]; omega) | (dsimp only; omega) | (simp only [World.size_alloc, size_setCell, size_drew, size_drewN]; dsimp only; omega)) _) | (with_reducible refine Below.setCell ?_ (by first | omega | (simp only [World.size_alloc, size_setCell, size_drew, size_drewN]; omega) | (dsimp only; omega) | (simp only [World.size_alloc, size_setCell, size_drew, size_drewN]; dsimp only; omega)) _) | (with_reducible apply below_drewN))⟩
set_option maxHeartbeats 2000000 in
theorem parts_any (g : GT) : ∀ (d : Nat) (v : Value) (w : World), d ≤ 6 → GenAt w v g → Calls Tryd.prog 57 #[v, .int .i64 d] w fun e w' => e = .returned (.tuple #[.int .i64 (GT.parts g d).1, .bool (GT.parts g d).2]) ∧ Below w.heap.size w w' := by
  induction g using GT.ind with
  | h k a b s ih =>
    intro d v w hd hg
    obtain ⟨k', a', b', s', ad, cap, hmk, rfl, hk, ha, hb, hl, hm, hs⟩ := hg.form
    obtain ⟨rfl, rfl, rfl, rfl⟩ := GT.mk.inj hmk
    clear hg hmk
    have IH := Lib.hid ih
    clear ih
    have HP : Hid (GT.parts (.mk k a b s) d = ((GT.partsL (s.drop 0) d (1, decide (d < 6))).1, (GT.partsL (s.drop 0) d (1, decide (d < 6))).2 && decide ((GT.partsL (s.drop 0) d (1, decide (d < 6))).1 ≤ 30))) := rfl
    have hd6 : decide ((d : Int) < 6) = decide (d < 6) := by
      by_cases h : d < 6
      · rw [decide_eq_true h, decide_eq_true (by omega)]
      · rw [decide_eq_false h, decide_eq_false (by omega)]
    have HD := Lib.hid hd6
    obtain ⟨ok0, hok0⟩ : ∃ x, decide (d < 6) = x := ⟨_, rfl⟩
    have hd6' : decide ((d : Int) < 6) = ok0 := hd6.trans hok0
    rw [hok0] at HP
    have HOK := Lib.hid hok0
    clear hd6 hok0
    go_enter Tryd.func57, Tryd.ntmps57
    go_wp2_with fail
    generalize hW0 : w.alloc (.cells #[.int .i64 k, .int .i64 a, .int .i64 b, .slice ad s.length cap] 41) = W0
    have hB0 : Below w.heap.size w W0 := by rw [← hW0]; repeat (first | with_reducible assumption | with_reducible exact Below.refl _ _ | with_reducible apply Below.drew | (with_reducible refine Below.alloc ?_ (by first | omega | (simp only [World.size_alloc, size_setCell, size_drew, size_drewN]; omega) | (dsimp only; omega) | (simp only [World.size_alloc, size_setCell, size_drew, size_drewN]; dsimp only; omega)) _) | (with_reducible refine Below.setCell ?_ (by first | omega | (simp only [World.size_alloc, size_setCell, size_drew, size_drewN]; omega) | (dsimp only; omega) | (simp only [World.size_alloc, size_setCell, size_drew, size_drewN]; dsimp only; omega)) _) | (with_reducible apply below_drewN))
    have hs1 := hs.ext hB0
    clear hs hW0 hd6'
    have hst : ok0 = true → 1 ≤ 30 := fun _ => by decide
    go_loopw [6, 7, 17] (fun n o i wr => ∃ (j : Nat) (r : Nat × Bool), j ≤ s.length ∧ n = .int .i64 r.1 ∧ o = .bool r.2 ∧ i = .int .i64 j ∧ Below W0.heap.size W0 wr ∧ Hid (GT.partsL (s.drop 0) d (1, ok0) = GT.partsL (s.drop j) d r) ∧ Hid ((r.2 = true → r.1 ≤ 30) ∧ (r.2 = true → d < 6)) ∧ r.1 ≤ 300) (fun _ _ i _ => s.length - (intOf i).toNat)
    case atStart => exact ⟨0, (1, ok0), by omega, rfl, rfl, rfl, Below.refl _ _, rfl, ⟨fun _ => by simp, fun h => by have := HOK.out; dsimp only at h; rw [h] at this; exact of_decide_eq_true this⟩, by simp⟩
    case round =>
      obtain ⟨j, ⟨n, o⟩, hj, rfl, rfl, rfl, hb2, HE, HR, hn3⟩ := hrel
      dsimp only at *
      have hzr := hb2.size
      have hz0 := hB0.size
      have hBr : Below w.heap.size w wr := hB0.trans (hb2.mono hB0.size)
      by_cases hlt : j < s.length
      · have p0 : (0 : Int) ≤ (j : Int) := by omega
        have p1 : (j : Int) < (s.length : Int) := by omega
        obtain ⟨bl, off, rfl, hlt1, hc⟩ := (hs1.ext hb2).at' (by omega)
        obtain ⟨k2, a2, b2, t2, ad2, cap2, c0, c1, c2, c3, hg2⟩ := hc j hlt
        clear hc hs1
        cases o with
        | true =>
          have hdl : d < 6 := HR.out.2 rfl
          have hn30 : n ≤ 30 := HR.out.1 rfl
          have CK := Lib.hid (fun W hW => IH.out s[j] (List.getElem_mem hlt) (d + 1) (.agg #[.int .i64 k2, .int .i64 a2, .int .i64 b2, .slice ad2 t2 cap2]) W (by omega) (hg2.ext hW))
          have HST := Lib.hid (GT.partsL_step s d j hlt n)
          have hkl := GT.parts_le s[j] (d + 1) (by omega)
          generalize GT.parts s[j] (d + 1) = pk at *
          obtain ⟨kn, ko⟩ := pk
          dsimp only at *
          have ec : ((d + 1 : Nat) : Int) = (d : Int) + 1 := by omega
          rw [ec] at CK
          go_wp2_with fail
          refine (CK.out _ (by repeat (first | with_reducible assumption | with_reducible exact Below.refl _ _ | with_reducible apply Below.drew | (with_reducible refine Below.alloc ?_ (by first | omega | (simp only [World.size_alloc, size_setCell, size_drew, size_drewN]; omega) | (dsimp only; omega) | (simp only [World.size_alloc, size_setCell, size_drew, size_drewN]; dsimp only; omega)) _) | (with_reducible refine Below.setCell ?_ (by first | omega | (simp only [World.size_alloc, size_setCell, size_drew, size_drewN]; omega) | (dsimp only; omega) | (simp only [World.size_alloc, size_setCell, size_drew, size_drewN]; dsimp only; omega)) _) | (with_reducible apply below_drewN)))).mono ?_
          rintro e w3 ⟨rfl, hb3⟩
          have hB3 : Below W0.heap.size W0 w3 := Below.trans (by repeat (first | with_reducible assumption | with_reducible exact Below.refl _ _ | with_reducible apply Below.drew | (with_reducible refine Below.alloc ?_ (by first | omega | (simp only [World.size_alloc, size_setCell, size_drew, size_drewN]; omega) | (dsimp only; omega) | (simp only [World.size_alloc, size_setCell, size_drew, size_drewN]; dsimp only; omega)) _) | (with_reducible refine Below.setCell ?_ (by first | omega | (simp only [World.size_alloc, size_setCell, size_drew, size_drewN]; omega) | (dsimp only; omega) | (simp only [World.size_alloc, size_setCell, size_drew, size_drewN]; dsimp only; omega)) _) | (with_reducible apply below_drewN))) (hb3.mono (by first | omega | (simp only [World.size_alloc, size_setCell, size_drew, size_drewN]; omega) | (dsimp only; omega) | (simp only [World.size_alloc, size_setCell, size_drew, size_drewN]; dsimp only; omega)))
          clear hb3
          have hsum : (n : Int) + (kn : Int) ≤ 300 := by omega
          have hsum' : n + kn ≤ 300 := by omega
          by_cases h30 : n + kn ≤ 30
          · have h30' : (n : Int) + (kn : Int) ≤ 30 := by omega
            have HDD : Hid (decide (n + kn ≤ 30) = true) := decide_eq_true h30
            have H30 := Lib.hid h30
            cases ko with
            | true =>
              go_wp2_with fail
              exact ⟨⟨j + 1, (n + kn, true), by omega, by go_num, rfl, by go_num, hB3, by have := HST.out; rw [HE.out, this, HDD.out]; rfl, ⟨fun _ => H30.out, fun _ => hdl⟩, hsum'⟩, by simp [intOf]; omega⟩
            | false =>
              go_wp2_with fail
              exact ⟨⟨j + 1, (n + kn, false), by omega, by go_num, rfl, by go_num, hB3, by have := HST.out; rw [HE.out, this, HDD.out]; rfl, ⟨fun h => (nomatch h), fun h => (nomatch h)⟩, hsum'⟩, by simp [intOf]; omega⟩
          · have h30' : decide ((n : Int) + (kn : Int) ≤ 30) = false := decide_eq_false (by omega)
            have HDD : Hid (decide (n + kn ≤ 30) = false) := decide_eq_false h30
            cases ko with
            | true =>
              go_wp2_with fail
              exact ⟨⟨j + 1, (n + kn, false), by omega, by go_num, rfl, by go_num, hB3, by have := HST.out; rw [HE.out, this, HDD.out]; rfl, ⟨fun h => (nomatch h), fun h => (nomatch h)⟩, hsum'⟩, by simp [intOf]; omega⟩
            | false =>
              go_wp2_with fail
              exact ⟨⟨j + 1, (n + kn, false), by omega, by go_num, rfl, by go_num, hB3, by have := HST.out; rw [HE.out, this, HDD.out]; rfl, ⟨fun h => (nomatch h), fun h => (nomatch h)⟩, hsum'⟩, by simp [intOf]; omega⟩
        | false =>
          have HF := HE.out
          rw [GT.partsL_stop] at HF
          have HP2 := HP.out
          rw [HF] at HP2
          have HX := Lib.hid HP2
          clear HP2 HF
          go_wp2_with fail
          go_ret2
          exact ⟨by rw [HX.out]; rfl, by repeat (first | with_reducible assumption | with_reducible exact Below.refl _ _ | with_reducible apply Below.drew | (with_reducible refine Below.alloc ?_ (by first | omega | (simp only [World.size_alloc, size_setCell, size_drew, size_drewN]; omega) | (dsimp only; omega) | (simp only [World.size_alloc, size_setCell, size_drew, size_drewN]; dsimp only; omega)) _) | (with_reducible refine Below.setCell ?_ (by first | omega | (simp only [World.size_alloc, size_setCell, size_drew, size_drewN]; omega) | (dsimp only; omega) | (simp only [World.size_alloc, size_setCell, size_drew, size_drewN]; dsimp only; omega)) _) | (with_reducible apply below_drewN))⟩
      · have HF := HE.out
        rw [List.drop_eq_nil_of_le (by omega : s.length ≤ j)] at HF
        have HF2 : GT.partsL (s.drop 0) d (1, ok0) = (n, o) := HF
        have HP2 := HP.out
        rw [HF2] at HP2
        have HX := Lib.hid HP2
        clear HP2 HF HF2
        cases o with
        | true =>
          by_cases h30 : n ≤ 30
          · have h30' : (n : Int) ≤ 30 := by omega
            have HDD : Hid (decide (n ≤ 30) = true) := decide_eq_true h30
            go_wp2_with fail
            go_ret2
            exact ⟨by rw [HX.out, HDD.out]; rfl, hBr⟩
          · have h30' : decide ((n : Int) ≤ 30) = false := decide_eq_false (by omega)
            have HDD : Hid (decide (n ≤ 30) = false) := decide_eq_false h30
            go_wp2_with fail
            go_ret2
            exact ⟨by rw [HX.out, HDD.out]; rfl, hBr⟩
        | false =>
          go_wp2_with fail
          go_ret2
          exact ⟨by rw [HX.out]; rfl, hBr⟩
end Go.Proofs.YtcecpggkeaohnaaDoor
