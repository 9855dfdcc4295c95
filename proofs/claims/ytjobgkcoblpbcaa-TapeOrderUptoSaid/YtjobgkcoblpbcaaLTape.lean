/- The walk of the statement on the order of tapes. -/
import Derived.Test.YtjobgkcoblpbcaaTape
import Derived.Test.YtjobgkcoblpbcaaOwn
import Derived.Deep.DeepCutAuto
namespace Go.Proofs.Ytjobgkcoblpbcaa
open Go.RowKit
set_option linter.unusedSimpArgs false
set_option linter.unusedVariables false
theorem IntsAt.draws {w : World} {v : Value} {l : List Int} (h : IntsAt w v l) (n : Nat) : IntsAt (w.drewN n) v l := h.ext (Joins.below_draws _ _ _)
theorem less_fact (w : World) : Calls Try.prog 19 #[.slice (some ⟨w.heap.size, 0, none⟩) 1 1, .slice (some ⟨w.heap.size + 1, 0, none⟩) 2 2] ((w.alloc (.cells #[.int .i64 5] 3)).alloc (.cells #[.int .i64 1, .int .i64 1] 3))
    fun e w' => e = .returned (.bool true) ∧ ∃ n, w' = ((w.alloc (.cells #[.int .i64 5] 3)).alloc (.cells #[.int .i64 1, .int .i64 1] 3)).drewN n := by
  have h1 : IntsAt (w.alloc (.cells #[.int .i64 5] 3)) (.slice (some ⟨w.heap.size, 0, none⟩) 1 1) [5] := (OwnInts.lit w 0 [5] (by omega) (by decide)).at (by simp [In64])
  have h2 : IntsAt ((w.alloc (.cells #[.int .i64 5] 3)).alloc (.cells #[.int .i64 1, .int .i64 1] 3)) (.slice (some ⟨w.heap.size + 1, 0, none⟩) 2 2) [1, 1] := by
    have := (OwnInts.lit (w.alloc (.cells #[.int .i64 5] 3)) 0 [1, 1] (by omega) (by decide)).at (by simp [In64])
    simpa using this
  exact less_any _ _ _ _ _ (h1.ext ((Below.refl _ _).alloc (Nat.le_refl _) _)) h2
set_option maxHeartbeats 2000000 in
theorem tapeOrder_walk (va vb vc : Value) (a b c : List Int) (w : World) (ha : IntsAt w va a) (hb : IntsAt w vb b) (hc : IntsAt w vc c) (hs : a.length + b.length + c.length ≤ 1048576) :
    Calls Try.prog 6 #[va, vb, vc] w fun e w' => e = .returned (.bool true) ∧ Below w.heap.size w w' := by
  have haa := PTape.less_irrefl a
  have htot := Lib.hid (PTape.less_total (a := a) (b := b))
  have htr := Lib.hid (PTape.less_trans (a := a) (b := b) (c := c))
  have hxy := Lib.hid (PTape.less_append a b c)
  go_enter Try.func6, Try.ntmps6
  go_wp2_with fail
  refine (less_fact _).mono ?_
  rintro e w1 ⟨rfl, n1, rfl⟩
  have hB0 : Below w.heap.size w ((w.alloc (.cells #[.int .i64 5] 3)).alloc (.cells #[.int .i64 1, .int .i64 1] 3)) := by repeat (first | with_reducible assumption | with_reducible exact Below.refl _ _ | with_reducible apply Below.drew | (with_reducible refine Below.alloc ?_ (by first | omega | (simp only [World.size_alloc, size_setCell, size_drew, size_drewN]; omega) | (dsimp only; omega) | (simp only [World.size_alloc, size_setCell, size_drew, size_drewN]; dsimp only; omega)) _) | (with_reducible refine Below.setCell ?_ (by first | omega | (simp only [World.size_alloc, size_setCell, size_drew, size_drewN]; omega) | (dsimp only; omega) | (simp only [World.size_alloc, size_setCell, size_drew, size_drewN]; dsimp only; omega)) _))
  have IA := (ha.ext hB0).draws
  have IB := (hb.ext hB0).draws
  have IC := (hc.ext hB0).draws
  clear ha hb hc
  generalize ((w.alloc (.cells #[.int .i64 5] 3)).alloc (.cells #[.int .i64 1, .int .i64 1] 3)) = W0 at *
  go_wp2_with fail
  refine (ints_any _ _ _ _ _ (IA _) (IB _)).mono ?_
  rintro e w2 ⟨rfl, n2, rfl⟩
  by_cases hab : a = b
  · have hd : decide (a = b) = true := by simp [hab]
    rw [hd]
    have hT2 : PTape.less a b = true → PTape.less b c = true → PTape.less a c = true := htr.out
    have hLab : PTape.less a b = false := by rw [← hab]; exact haa
    have hLba : PTape.less b a = false := by rw [← hab]; exact haa
    generalize hLbc : PTape.less b c = Lbc at *
    generalize hLac : PTape.less a c = Lac at *
    clear hab hT2
    go_upto_region 5 with (go_at_call 19; refine (less_any _ _ _ _ _ (by first | with_reducible exact IA _ | with_reducible exact IB _ | with_reducible exact IC _) (by first | with_reducible exact IA _ | with_reducible exact IB _ | with_reducible exact IC _)).mono ?_; rintro e w' ⟨rfl, m, rfl⟩)
    all_goals clear haa hLba hLbc hLac htot htr
    all_goals generalize hWx : W0.drewN _ = Wx
    all_goals have hBx : Below w.heap.size w Wx := by rw [← hWx]; exact hB0.trans (Joins.below_draws _ _ _)
    all_goals have IA0 : IntsAt Wx va a := by rw [← hWx]; exact IA _
    all_goals have IB0 : IntsAt Wx vb b := by rw [← hWx]; exact IB _
    all_goals have IC0 : IntsAt Wx vc c := by rw [← hWx]; exact IC _
    all_goals clear hWx IA IB IC
    all_goals go_upto_region 6 with (first | (at_builtin; refine append_ints (o := ⟨some 55, _, _, _, _, _⟩) rfl _ _ rfl rfl (OwnInts.lit _ Wx.heap.size [] (Nat.le_refl _) (by decide)) rfl (IA0.ext ((Below.refl _ _).alloc (Nat.le_refl _) _)) (by simp; omega) (by simp) ?_; intro vx1 wx1 hox1 hg1 _; have hbx1 := grown_lit hg1; clear hg1) | (at_builtin; refine append_ints (o := ⟨some 57, _, _, _, _, _⟩) rfl _ _ rfl rfl hox1 rfl (IC0.ext hbx1) (by simp; omega) (by exact hbx1.size) ?_; intro vx2 wx2 hox2 hg2 _; have hbx2 := hbx1.trans (grown_own hox1 hg2 hbx1.size); clear hg2 hbx1))
    all_goals have IA1 := IA0.ext hbx2
    all_goals have IB1 := IB0.ext hbx2
    all_goals have IC1 := IC0.ext hbx2
    all_goals have hBz := hBx.trans (hbx2.mono hBx.size)
    all_goals have IX1 : IntsAt wx2 vx2 (a ++ c) := hox2.at (by intro n hn; rcases List.mem_append.1 hn with h | h; exact IA0.1 n h; exact IC0.1 n h)
    all_goals clear hbx2 IA0 IB0 IC0 hBx hox1 hox2
    all_goals go_upto_region 7 with (first | (at_builtin; refine append_ints (o := ⟨some 60, _, _, _, _, _⟩) rfl _ _ rfl rfl (OwnInts.lit _ wx2.heap.size [] (Nat.le_refl _) (by decide)) rfl (IB1.ext ((Below.refl _ _).alloc (Nat.le_refl _) _)) (by simp; omega) (by simp) ?_; intro vy1 wy1 hoy1 hg1 _; have hby1 := grown_lit hg1; clear hg1) | (at_builtin; refine append_ints (o := ⟨some 62, _, _, _, _, _⟩) rfl _ _ rfl rfl hoy1 rfl (IC1.ext hby1) (by simp; omega) (by exact hby1.size) ?_; intro vy2 wy2 hoy2 hg2 _; have hby2 := hby1.trans (grown_own hoy1 hg2 hby1.size); clear hg2 hby1))
    all_goals have IA := (IA1.ext hby2).draws
    all_goals have IB := (IB1.ext hby2).draws
    all_goals have IX := (IX1.ext hby2).draws
    all_goals have hB9 := hBz.trans (hby2.mono hBz.size)
    all_goals have IC : ∀ n, IntsAt (wy2.drewN n) vy2 (b ++ c) := (hoy2.at (by intro n hn; rcases List.mem_append.1 hn with h | h; exact IB1.1 n h; exact IC1.1 n h)).draws
    all_goals clear hby2 hBz hoy1 hoy2 IA1 IB1 IC1 IX1
    all_goals have hxy' := hxy.out
    all_goals go_wp2_with fail
    all_goals refine (less_any _ _ _ _ _ (IX 0) (IC 0)).mono ?_
    all_goals rintro e w7 ⟨rfl, n7, rfl⟩
    all_goals go_wp2_with fail
    all_goals refine (less_any _ _ _ _ _ (IA _) (IB _)).mono ?_
    all_goals rintro e w8 ⟨rfl, n8, rfl⟩
    all_goals go_wp2_with fail
    all_goals (go_ret; exact ⟨by simp [hxy.out, hLab], hB9.trans (Joins.below_draws _ _ _)⟩)
  · have hd : decide (a = b) = false := by simp [hab]
    rw [hd]
    have ht := htot.out hab
    have hT2 : PTape.less a b = true → PTape.less b c = true → PTape.less a c = true := htr.out
    generalize hLab : PTape.less a b = Lab at *
    generalize hLba : PTape.less b a = Lba at *
    generalize hLbc : PTape.less b c = Lbc at *
    generalize hLac : PTape.less a c = Lac at *
    have HAB := Lib.hid hab
    have HT2 := Lib.hid hT2
    clear hab hT2
    subst ht
    go_upto_region 5 with (go_at_call 19; refine (less_any _ _ _ _ _ (by first | with_reducible exact IA _ | with_reducible exact IB _ | with_reducible exact IC _) (by first | with_reducible exact IA _ | with_reducible exact IB _ | with_reducible exact IC _)).mono ?_; rintro e w' ⟨rfl, m, rfl⟩)
    all_goals (first | (have hx1 : ¬ Lba = true := by assumption
                        have hx2 : (!Lac) = true := by assumption
                        have hx3 := HT2.out (by simpa using hx1) (by assumption)
                        rw [hx3] at hx2; cases hx2; done) | skip)
    all_goals clear haa hLba hLbc hLac htot htr
    all_goals generalize hWx : W0.drewN _ = Wx
    all_goals have hBx : Below w.heap.size w Wx := by rw [← hWx]; exact hB0.trans (Joins.below_draws _ _ _)
    all_goals have IA0 : IntsAt Wx va a := by rw [← hWx]; exact IA _
    all_goals have IB0 : IntsAt Wx vb b := by rw [← hWx]; exact IB _
    all_goals have IC0 : IntsAt Wx vc c := by rw [← hWx]; exact IC _
    all_goals clear hWx IA IB IC
    all_goals go_upto_region 6 with (first | (at_builtin; refine append_ints (o := ⟨some 55, _, _, _, _, _⟩) rfl _ _ rfl rfl (OwnInts.lit _ Wx.heap.size [] (Nat.le_refl _) (by decide)) rfl (IA0.ext ((Below.refl _ _).alloc (Nat.le_refl _) _)) (by simp; omega) (by simp) ?_; intro vx1 wx1 hox1 hg1 _; have hbx1 := grown_lit hg1; clear hg1) | (at_builtin; refine append_ints (o := ⟨some 57, _, _, _, _, _⟩) rfl _ _ rfl rfl hox1 rfl (IC0.ext hbx1) (by simp; omega) (by exact hbx1.size) ?_; intro vx2 wx2 hox2 hg2 _; have hbx2 := hbx1.trans (grown_own hox1 hg2 hbx1.size); clear hg2 hbx1))
    all_goals have IA1 := IA0.ext hbx2
    all_goals have IB1 := IB0.ext hbx2
    all_goals have IC1 := IC0.ext hbx2
    all_goals have hBz := hBx.trans (hbx2.mono hBx.size)
    all_goals have IX1 : IntsAt wx2 vx2 (a ++ c) := hox2.at (by intro n hn; rcases List.mem_append.1 hn with h | h; exact IA0.1 n h; exact IC0.1 n h)
    all_goals clear hbx2 IA0 IB0 IC0 hBx hox1 hox2
    all_goals go_upto_region 7 with (first | (at_builtin; refine append_ints (o := ⟨some 60, _, _, _, _, _⟩) rfl _ _ rfl rfl (OwnInts.lit _ wx2.heap.size [] (Nat.le_refl _) (by decide)) rfl (IB1.ext ((Below.refl _ _).alloc (Nat.le_refl _) _)) (by simp; omega) (by simp) ?_; intro vy1 wy1 hoy1 hg1 _; have hby1 := grown_lit hg1; clear hg1) | (at_builtin; refine append_ints (o := ⟨some 62, _, _, _, _, _⟩) rfl _ _ rfl rfl hoy1 rfl (IC1.ext hby1) (by simp; omega) (by exact hby1.size) ?_; intro vy2 wy2 hoy2 hg2 _; have hby2 := hby1.trans (grown_own hoy1 hg2 hby1.size); clear hg2 hby1))
    all_goals have IA := (IA1.ext hby2).draws
    all_goals have IB := (IB1.ext hby2).draws
    all_goals have IX := (IX1.ext hby2).draws
    all_goals have hB9 := hBz.trans (hby2.mono hBz.size)
    all_goals have IC : ∀ n, IntsAt (wy2.drewN n) vy2 (b ++ c) := (hoy2.at (by intro n hn; rcases List.mem_append.1 hn with h | h; exact IB1.1 n h; exact IC1.1 n h)).draws
    all_goals clear hby2 hBz hoy1 hoy2 IA1 IB1 IC1 IX1
    all_goals have hxy' := hxy.out
    all_goals go_wp2_with fail
    all_goals refine (less_any _ _ _ _ _ (IX 0) (IC 0)).mono ?_
    all_goals rintro e w7 ⟨rfl, n7, rfl⟩
    all_goals go_wp2_with fail
    all_goals refine (less_any _ _ _ _ _ (IA _) (IB _)).mono ?_
    all_goals rintro e w8 ⟨rfl, n8, rfl⟩
    all_goals go_wp2_with fail
    all_goals (go_ret; exact ⟨by simp [hxy.out, hLab], hB9.trans (Joins.below_draws _ _ _)⟩)
theorem tapeOrder_go {v0 v1 v2 : Value} {n0 n1 n2 : Nat} (w : World) (x0 : List Int) (o0 : IntsAt w v0 x0) (b0 : x0.length ≤ n0) (x1 : List Int) (o1 : IntsAt w v1 x1) (b1 : x1.length ≤ n1) (x2 : List Int) (o2 : IntsAt w v2 x2) (b2 : x2.length ≤ n2)
    (hbulk : n0 + (n1 + (n2 + 0)) ≤ 1048576) :
    Calls Try.prog 6 #[v0, v1, v2] w fun e w' => e = .returned (.bool true) ∧ Below w.heap.size w w' :=
  tapeOrder_walk _ _ _ _ _ _ w o0 o1 o2 (by omega)
end Go.Proofs.Ytjobgkcoblpbcaa
