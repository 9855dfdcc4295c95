/- The walk through the statement TapeTells. -/
import Derived.Test.YtlhdiekibkdiaaaDoorTPF
import Derived.Test.YtlhdiekibkdiaaaDoorTPN
import Derived.Test.YtlhdiekibkdiaaaDoorTRO
import Derived.Test.YtlhdiekibkdiaaaDoorRSH
import Derived.Test.YtlhdiekibkdiaaaDoorTAs
namespace Go.Proofs.YtlhdiekibkdiaaaDoor
set_option maxRecDepth 100000
open Go.RowKit
set_option linter.unusedSimpArgs false
set_option linter.unusedVariables false
set_option maxHeartbeats 16000000 in
theorem tapeTells_go (w : World) (hP : PowAt w) (hE : NumErrsAt w) (hG : ErrTypeAt w) {v0 v1 : Value} (a : List Int) (o0 : IntsAt w v0 a) (ba : a.length ≤ 2000000) (b : List Int) (o1 : IntsAt w v1 b) (s : List UInt8)
    (l : List Int) (is : Bool) (k ke : Int) (ev : Value)
    (CO : Hid (∀ W, Calls Tryd.prog 30 #[.string ⟨s.toArray⟩] W fun e w' => (∃ v, e = .returned (.tuple #[v, .bool is]) ∧ IntsAt w' v l) ∧ Below W.heap.size W w'))
    (CP : Hid (∀ W, PowAt W → NumErrsAt W → Calls Tryd.prog 17 #[.string ⟨s.toArray⟩] W fun e w' => (∃ v, e = .returned (.tuple #[v, ev]) ∧ IntsAt w' v l) ∧ Below W.heap.size W w'))
    (CE : Hid (∀ W, ErrTypeAt W → Calls Tryd.prog 14 #[ev, .int .i64 k] W fun e w' => e = .returned (.bool true) ∧ Below W.heap.size W w'))
    (hk : (is = true ∧ k = 0) ∨ (is = false ∧ k = 3)) (hke : (tapeBad a = true ∧ ke = 1) ∨ (tapeBad a = false ∧ ke = 0)) :
    Calls Tryd.prog 6 #[v0, v1, .string ⟨s.toArray⟩] w fun e w' => e = .returned (.bool true) ∧ Below w.heap.size w w' := by
  have HP := Lib.hid hP
  have HE := Lib.hid hE
  have HG := Lib.hid hG
  have HA := Lib.hid o0
  have HW := Lib.hid o1
  have hal : a.length ≤ 1000000000 := by omega
  have HKE : Hid (tapeErr a = ke) := by
    show _ = _
    unfold tapeErr
    rcases hke with ⟨h, rfl⟩ | ⟨h, rfl⟩
    · rw [if_pos h]
    · rw [if_neg (by rw [h]; decide)]
  have CF := Lib.hid (rtfault_any v0 a)
  have CK := Lib.hid (fun W (h : IntsAt W v0 a) => tcheck_any v0 a W h)
  rw [HKE.out] at CK
  have CT := Lib.hid (fun W hp (h : IntsAt W v0 a) => ttext_any v0 a W hp h hal)
  have CR := Lib.hid (fun W (h : IntsAt W v0 a) => rttext_any v0 a W h hal)
  have CL := Lib.hid (fun W (h : IntsAt W v0 a) (h2 : IntsAt W v1 b) => less_any v0 v1 a b W h h2)
  have CS := Lib.hid (fun W (h : IntsAt W v0 a) (h2 : IntsAt W v1 b) => rshorter_any v0 v1 a b W h h2)
  generalize PTape.less a b = lb at *
  generalize tText a = ta at *
  obtain ⟨g0, c0, rfl, _⟩ := o0.form
  obtain ⟨g1, c1, rfl, _⟩ := o1.form
  clear hP hE hG o0 o1 HKE hal
  rcases hke with ⟨hbad, rfl⟩ | ⟨hbad, rfl⟩
  · rcases hk with ⟨rfl, rfl⟩ | ⟨rfl, rfl⟩
    ·
      go_enter Tryd.func6, Tryd.ntmps6
      go_wp2_with fail
      refine (CF.out w HA.out).mono ?_
      rintro e W1 ⟨rfl, hB1⟩
      rw [hbad]
      clear CF hbad
      go_wp2_with fail
      refine (CK.out _ (HA.out.ext hB1)).mono ?_
      rintro e W2 ⟨rfl, hb⟩
      have hB2 : Below w.heap.size w W2 := hB1.trans (hb.mono hB1.size)
      clear hb
      go_wp2_with fail
      refine (error_yes 1 W2 (HG.out.ext hB2)).mono ?_
      rintro e W3 ⟨rfl, hb⟩
      have hB3 : Below w.heap.size w W3 := hB2.trans (hb.mono hB2.size)
      clear hb
      go_wp2_with fail
      refine (CO.out _).mono ?_
      rintro e W4 ⟨⟨xv, rfl, hxv⟩, hb⟩
      have hB4 : Below w.heap.size w W4 := hB3.trans (hb.mono hB3.size)
      have HXV := Lib.hid hxv
      obtain ⟨xg, xc, rfl, _⟩ := hxv.form
      clear hb hxv
      go_wp2_with fail
      refine (CP.out _ (HP.out.ext hB4) (HE.out.ext hB4)).mono ?_
      rintro e W5 ⟨⟨yv, rfl, hyv⟩, hb⟩
      have hB5 : Below w.heap.size w W5 := hB4.trans (hb.mono hB4.size)
      have HXV := Lib.hid (HXV.out.ext hb)
      have HYV := Lib.hid hyv
      obtain ⟨yg, yc, rfl, _⟩ := hyv.form
      clear hb hyv
      go_wp2_with fail
      refine (CE.out _ (HG.out.ext hB5)).mono ?_
      rintro e W6 ⟨rfl, hb⟩
      have hB6 : Below w.heap.size w W6 := hB5.trans (hb.mono hB5.size)
      have HXV := Lib.hid (HXV.out.ext hb)
      have HYV := Lib.hid (HYV.out.ext hb)
      clear hb
      go_wp2_with fail
      refine (ints_any _ _ _ _ _ HYV.out HXV.out).mono ?_
      rintro e W7 ⟨rfl, n7, rfl⟩
      have hB7 := below_draws hB6 n7
      generalize W6.drewN n7 = W7 at *
      rw [decide_eq_true rfl]
      clear HXV HYV hB1 hB2 hB3 hB4 hB5 hB6
      go_wp2_with fail
      refine (less_fact _).mono ?_
      rintro e W8 ⟨rfl, n8, rfl⟩
      have hbf : Below W7.heap.size W7 ((W7.alloc (.cells #[.int .i64 5] 3)).alloc (.cells #[.int .i64 1, .int .i64 1] 3)) := by repeat (first | with_reducible assumption | with_reducible exact Below.refl _ _ | with_reducible apply Below.drew | (with_reducible refine Below.alloc ?_ (by first | omega | (simp only [zA, zS, zD, zN]; omega) | (dsimp only; omega) | (simp only [zA, zS, zD, zN]; dsimp only; omega)) _) | (with_reducible refine Below.setCell ?_ (by first | omega | (simp only [zA, zS, zD, zN]; omega) | (dsimp only; omega) | (simp only [zA, zS, zD, zN]; dsimp only; omega)) _) | (with_reducible apply below_drewN))
      have hB8 := below_draws (hB7.trans (hbf.mono hB7.size)) n8
      generalize ((W7.alloc (.cells #[.int .i64 5] 3)).alloc (.cells #[.int .i64 1, .int .i64 1] 3)).drewN n8 = W8 at *
      clear hbf hB7
      go_wp2_with fail
      refine (CL.out _ (HA.out.ext hB8) (HW.out.ext hB8)).mono ?_
      rintro e W9 ⟨rfl, n9, rfl⟩
      have hB9 := below_draws hB8 n9
      generalize W8.drewN n9 = W9 at *
      go_wp2_with fail
      refine (CS.out _ (HA.out.ext hB9) (HW.out.ext hB9)).mono ?_
      rintro e W10 ⟨rfl, hb⟩
      have hB10 : Below w.heap.size w W10 := hB9.trans (hb.mono hB9.size)
      clear hb
      have el : (lb == lb) = true := by simp
      go_wp2_with fail
      refine (CT.out _ (HP.out.ext hB10) (HA.out.ext hB10)).mono ?_
      rintro e W11 ⟨rfl, hb⟩
      have hB11 : Below w.heap.size w W11 := hB10.trans (hb.mono hB10.size)
      clear hb
      go_wp2_with fail
      refine (CR.out _ (HA.out.ext hB11)).mono ?_
      rintro e W12 ⟨rfl, hb⟩
      have hB12 : Below w.heap.size w W12 := hB11.trans (hb.mono hB11.size)
      clear hb
      go_wp2_with fail
      go_ret
      exact ⟨by simp, hB12⟩
    ·
      go_enter Tryd.func6, Tryd.ntmps6
      go_wp2_with fail
      refine (CF.out w HA.out).mono ?_
      rintro e W1 ⟨rfl, hB1⟩
      rw [hbad]
      clear CF hbad
      go_wp2_with fail
      refine (CK.out _ (HA.out.ext hB1)).mono ?_
      rintro e W2 ⟨rfl, hb⟩
      have hB2 : Below w.heap.size w W2 := hB1.trans (hb.mono hB1.size)
      clear hb
      go_wp2_with fail
      refine (error_yes 1 W2 (HG.out.ext hB2)).mono ?_
      rintro e W3 ⟨rfl, hb⟩
      have hB3 : Below w.heap.size w W3 := hB2.trans (hb.mono hB2.size)
      clear hb
      go_wp2_with fail
      refine (CO.out _).mono ?_
      rintro e W4 ⟨⟨xv, rfl, hxv⟩, hb⟩
      have hB4 : Below w.heap.size w W4 := hB3.trans (hb.mono hB3.size)
      have HXV := Lib.hid hxv
      obtain ⟨xg, xc, rfl, _⟩ := hxv.form
      clear hb hxv
      go_wp2_with fail
      refine (CP.out _ (HP.out.ext hB4) (HE.out.ext hB4)).mono ?_
      rintro e W5 ⟨⟨yv, rfl, hyv⟩, hb⟩
      have hB5 : Below w.heap.size w W5 := hB4.trans (hb.mono hB4.size)
      have HXV := Lib.hid (HXV.out.ext hb)
      have HYV := Lib.hid hyv
      obtain ⟨yg, yc, rfl, _⟩ := hyv.form
      clear hb hyv
      go_wp2_with fail
      refine (CE.out _ (HG.out.ext hB5)).mono ?_
      rintro e W6 ⟨rfl, hb⟩
      have hB6 : Below w.heap.size w W6 := hB5.trans (hb.mono hB5.size)
      have HXV := Lib.hid (HXV.out.ext hb)
      have HYV := Lib.hid (HYV.out.ext hb)
      clear hb
      go_wp2_with fail
      refine (ints_any _ _ _ _ _ HYV.out HXV.out).mono ?_
      rintro e W7 ⟨rfl, n7, rfl⟩
      have hB7 := below_draws hB6 n7
      generalize W6.drewN n7 = W7 at *
      rw [decide_eq_true rfl]
      clear HXV HYV hB1 hB2 hB3 hB4 hB5 hB6
      go_wp2_with fail
      refine (less_fact _).mono ?_
      rintro e W8 ⟨rfl, n8, rfl⟩
      have hbf : Below W7.heap.size W7 ((W7.alloc (.cells #[.int .i64 5] 3)).alloc (.cells #[.int .i64 1, .int .i64 1] 3)) := by repeat (first | with_reducible assumption | with_reducible exact Below.refl _ _ | with_reducible apply Below.drew | (with_reducible refine Below.alloc ?_ (by first | omega | (simp only [zA, zS, zD, zN]; omega) | (dsimp only; omega) | (simp only [zA, zS, zD, zN]; dsimp only; omega)) _) | (with_reducible refine Below.setCell ?_ (by first | omega | (simp only [zA, zS, zD, zN]; omega) | (dsimp only; omega) | (simp only [zA, zS, zD, zN]; dsimp only; omega)) _) | (with_reducible apply below_drewN))
      have hB8 := below_draws (hB7.trans (hbf.mono hB7.size)) n8
      generalize ((W7.alloc (.cells #[.int .i64 5] 3)).alloc (.cells #[.int .i64 1, .int .i64 1] 3)).drewN n8 = W8 at *
      clear hbf hB7
      go_wp2_with fail
      refine (CL.out _ (HA.out.ext hB8) (HW.out.ext hB8)).mono ?_
      rintro e W9 ⟨rfl, n9, rfl⟩
      have hB9 := below_draws hB8 n9
      generalize W8.drewN n9 = W9 at *
      go_wp2_with fail
      refine (CS.out _ (HA.out.ext hB9) (HW.out.ext hB9)).mono ?_
      rintro e W10 ⟨rfl, hb⟩
      have hB10 : Below w.heap.size w W10 := hB9.trans (hb.mono hB9.size)
      clear hb
      have el : (lb == lb) = true := by simp
      go_wp2_with fail
      refine (CT.out _ (HP.out.ext hB10) (HA.out.ext hB10)).mono ?_
      rintro e W11 ⟨rfl, hb⟩
      have hB11 : Below w.heap.size w W11 := hB10.trans (hb.mono hB10.size)
      clear hb
      go_wp2_with fail
      refine (CR.out _ (HA.out.ext hB11)).mono ?_
      rintro e W12 ⟨rfl, hb⟩
      have hB12 : Below w.heap.size w W12 := hB11.trans (hb.mono hB11.size)
      clear hb
      go_wp2_with fail
      go_ret
      exact ⟨by simp, hB12⟩
  · rcases hk with ⟨rfl, rfl⟩ | ⟨rfl, rfl⟩
    ·
      go_enter Tryd.func6, Tryd.ntmps6
      go_wp2_with fail
      refine (CF.out w HA.out).mono ?_
      rintro e W1 ⟨rfl, hB1⟩
      rw [hbad]
      clear CF hbad
      go_wp2_with fail
      refine (CK.out _ (HA.out.ext hB1)).mono ?_
      rintro e W2 ⟨rfl, hb⟩
      have hB2 : Below w.heap.size w W2 := hB1.trans (hb.mono hB1.size)
      clear hb
      go_wp2_with fail
      refine (error_yes 0 W2 (HG.out.ext hB2)).mono ?_
      rintro e W3 ⟨rfl, hb⟩
      have hB3 : Below w.heap.size w W3 := hB2.trans (hb.mono hB2.size)
      clear hb
      go_wp2_with fail
      refine (CO.out _).mono ?_
      rintro e W4 ⟨⟨xv, rfl, hxv⟩, hb⟩
      have hB4 : Below w.heap.size w W4 := hB3.trans (hb.mono hB3.size)
      have HXV := Lib.hid hxv
      obtain ⟨xg, xc, rfl, _⟩ := hxv.form
      clear hb hxv
      go_wp2_with fail
      refine (CP.out _ (HP.out.ext hB4) (HE.out.ext hB4)).mono ?_
      rintro e W5 ⟨⟨yv, rfl, hyv⟩, hb⟩
      have hB5 : Below w.heap.size w W5 := hB4.trans (hb.mono hB4.size)
      have HXV := Lib.hid (HXV.out.ext hb)
      have HYV := Lib.hid hyv
      obtain ⟨yg, yc, rfl, _⟩ := hyv.form
      clear hb hyv
      go_wp2_with fail
      refine (CE.out _ (HG.out.ext hB5)).mono ?_
      rintro e W6 ⟨rfl, hb⟩
      have hB6 : Below w.heap.size w W6 := hB5.trans (hb.mono hB5.size)
      have HXV := Lib.hid (HXV.out.ext hb)
      have HYV := Lib.hid (HYV.out.ext hb)
      clear hb
      go_wp2_with fail
      refine (ints_any _ _ _ _ _ HYV.out HXV.out).mono ?_
      rintro e W7 ⟨rfl, n7, rfl⟩
      have hB7 := below_draws hB6 n7
      generalize W6.drewN n7 = W7 at *
      rw [decide_eq_true rfl]
      clear HXV HYV hB1 hB2 hB3 hB4 hB5 hB6
      go_wp2_with fail
      refine (less_fact _).mono ?_
      rintro e W8 ⟨rfl, n8, rfl⟩
      have hbf : Below W7.heap.size W7 ((W7.alloc (.cells #[.int .i64 5] 3)).alloc (.cells #[.int .i64 1, .int .i64 1] 3)) := by repeat (first | with_reducible assumption | with_reducible exact Below.refl _ _ | with_reducible apply Below.drew | (with_reducible refine Below.alloc ?_ (by first | omega | (simp only [zA, zS, zD, zN]; omega) | (dsimp only; omega) | (simp only [zA, zS, zD, zN]; dsimp only; omega)) _) | (with_reducible refine Below.setCell ?_ (by first | omega | (simp only [zA, zS, zD, zN]; omega) | (dsimp only; omega) | (simp only [zA, zS, zD, zN]; dsimp only; omega)) _) | (with_reducible apply below_drewN))
      have hB8 := below_draws (hB7.trans (hbf.mono hB7.size)) n8
      generalize ((W7.alloc (.cells #[.int .i64 5] 3)).alloc (.cells #[.int .i64 1, .int .i64 1] 3)).drewN n8 = W8 at *
      clear hbf hB7
      go_wp2_with fail
      refine (CL.out _ (HA.out.ext hB8) (HW.out.ext hB8)).mono ?_
      rintro e W9 ⟨rfl, n9, rfl⟩
      have hB9 := below_draws hB8 n9
      generalize W8.drewN n9 = W9 at *
      go_wp2_with fail
      refine (CS.out _ (HA.out.ext hB9) (HW.out.ext hB9)).mono ?_
      rintro e W10 ⟨rfl, hb⟩
      have hB10 : Below w.heap.size w W10 := hB9.trans (hb.mono hB9.size)
      clear hb
      have el : (lb == lb) = true := by simp
      go_wp2_with fail
      refine (CT.out _ (HP.out.ext hB10) (HA.out.ext hB10)).mono ?_
      rintro e W11 ⟨rfl, hb⟩
      have hB11 : Below w.heap.size w W11 := hB10.trans (hb.mono hB10.size)
      clear hb
      go_wp2_with fail
      refine (CR.out _ (HA.out.ext hB11)).mono ?_
      rintro e W12 ⟨rfl, hb⟩
      have hB12 : Below w.heap.size w W12 := hB11.trans (hb.mono hB11.size)
      clear hb
      go_wp2_with fail
      go_ret
      exact ⟨by simp, hB12⟩
    ·
      go_enter Tryd.func6, Tryd.ntmps6
      go_wp2_with fail
      refine (CF.out w HA.out).mono ?_
      rintro e W1 ⟨rfl, hB1⟩
      rw [hbad]
      clear CF hbad
      go_wp2_with fail
      refine (CK.out _ (HA.out.ext hB1)).mono ?_
      rintro e W2 ⟨rfl, hb⟩
      have hB2 : Below w.heap.size w W2 := hB1.trans (hb.mono hB1.size)
      clear hb
      go_wp2_with fail
      refine (error_yes 0 W2 (HG.out.ext hB2)).mono ?_
      rintro e W3 ⟨rfl, hb⟩
      have hB3 : Below w.heap.size w W3 := hB2.trans (hb.mono hB2.size)
      clear hb
      go_wp2_with fail
      refine (CO.out _).mono ?_
      rintro e W4 ⟨⟨xv, rfl, hxv⟩, hb⟩
      have hB4 : Below w.heap.size w W4 := hB3.trans (hb.mono hB3.size)
      have HXV := Lib.hid hxv
      obtain ⟨xg, xc, rfl, _⟩ := hxv.form
      clear hb hxv
      go_wp2_with fail
      refine (CP.out _ (HP.out.ext hB4) (HE.out.ext hB4)).mono ?_
      rintro e W5 ⟨⟨yv, rfl, hyv⟩, hb⟩
      have hB5 : Below w.heap.size w W5 := hB4.trans (hb.mono hB4.size)
      have HXV := Lib.hid (HXV.out.ext hb)
      have HYV := Lib.hid hyv
      obtain ⟨yg, yc, rfl, _⟩ := hyv.form
      clear hb hyv
      go_wp2_with fail
      refine (CE.out _ (HG.out.ext hB5)).mono ?_
      rintro e W6 ⟨rfl, hb⟩
      have hB6 : Below w.heap.size w W6 := hB5.trans (hb.mono hB5.size)
      have HXV := Lib.hid (HXV.out.ext hb)
      have HYV := Lib.hid (HYV.out.ext hb)
      clear hb
      go_wp2_with fail
      refine (ints_any _ _ _ _ _ HYV.out HXV.out).mono ?_
      rintro e W7 ⟨rfl, n7, rfl⟩
      have hB7 := below_draws hB6 n7
      generalize W6.drewN n7 = W7 at *
      rw [decide_eq_true rfl]
      clear HXV HYV hB1 hB2 hB3 hB4 hB5 hB6
      go_wp2_with fail
      refine (less_fact _).mono ?_
      rintro e W8 ⟨rfl, n8, rfl⟩
      have hbf : Below W7.heap.size W7 ((W7.alloc (.cells #[.int .i64 5] 3)).alloc (.cells #[.int .i64 1, .int .i64 1] 3)) := by repeat (first | with_reducible assumption | with_reducible exact Below.refl _ _ | with_reducible apply Below.drew | (with_reducible refine Below.alloc ?_ (by first | omega | (simp only [zA, zS, zD, zN]; omega) | (dsimp only; omega) | (simp only [zA, zS, zD, zN]; dsimp only; omega)) _) | (with_reducible refine Below.setCell ?_ (by first | omega | (simp only [zA, zS, zD, zN]; omega) | (dsimp only; omega) | (simp only [zA, zS, zD, zN]; dsimp only; omega)) _) | (with_reducible apply below_drewN))
      have hB8 := below_draws (hB7.trans (hbf.mono hB7.size)) n8
      generalize ((W7.alloc (.cells #[.int .i64 5] 3)).alloc (.cells #[.int .i64 1, .int .i64 1] 3)).drewN n8 = W8 at *
      clear hbf hB7
      go_wp2_with fail
      refine (CL.out _ (HA.out.ext hB8) (HW.out.ext hB8)).mono ?_
      rintro e W9 ⟨rfl, n9, rfl⟩
      have hB9 := below_draws hB8 n9
      generalize W8.drewN n9 = W9 at *
      go_wp2_with fail
      refine (CS.out _ (HA.out.ext hB9) (HW.out.ext hB9)).mono ?_
      rintro e W10 ⟨rfl, hb⟩
      have hB10 : Below w.heap.size w W10 := hB9.trans (hb.mono hB9.size)
      clear hb
      have el : (lb == lb) = true := by simp
      go_wp2_with fail
      refine (CT.out _ (HP.out.ext hB10) (HA.out.ext hB10)).mono ?_
      rintro e W11 ⟨rfl, hb⟩
      have hB11 : Below w.heap.size w W11 := hB10.trans (hb.mono hB10.size)
      clear hb
      go_wp2_with fail
      refine (CR.out _ (HA.out.ext hB11)).mono ?_
      rintro e W12 ⟨rfl, hb⟩
      have hB12 : Below w.heap.size w W12 := hB11.trans (hb.mono hB11.size)
      clear hb
      go_wp2_with fail
      go_ret
      exact ⟨by simp, hB12⟩
theorem tapeTells_walk (w : World) (hP : PowAt w) (hE : NumErrsAt w) (hG : ErrTypeAt w) {v0 v1 v2 : Value} {m0 m1 m2 : Nat} (a : List Int) (o0 : IntsAt w v0 a) (b0 : a.length ≤ m0) (b : List Int) (o1 : IntsAt w v1 b) (b1 : b.length ≤ m1) (s : List UInt8) (o2 : v2 = .string ⟨s.toArray⟩) (b2 : s.length < m2) (hs : m0 + (m1 + (m2 + 0)) ≤ 1048576) :
    Calls Tryd.prog 6 #[v0, v1, v2] w fun e w' => e = .returned (.bool true) ∧ Below w.heap.size w w' := by
  subst o2
  have hsl : s.length ≤ 100000000 := by omega
  obtain ⟨ke, hke⟩ : ∃ ke : Int, (tapeBad a = true ∧ ke = 1) ∨ (tapeBad a = false ∧ ke = 0) := by
    cases tapeBad a with
    | true => exact ⟨1, .inl ⟨rfl, rfl⟩⟩
    | false => exact ⟨0, .inr ⟨rfl, rfl⟩⟩
  by_cases h : ∃ l, IsTape s l
  · obtain ⟨l, ht⟩ := h
    refine tapeTells_go w hP hE hG a o0 (by omega) b o1 s l true 0 ke .nilIface (Lib.hid fun W => (rtof_any s hsl W).mono fun e w' ⟨h, hb⟩ => ⟨?_, hb⟩) (Lib.hid fun W hp he => (tparse_any s hsl W hp he).mono fun e w' ⟨h, hb⟩ => ⟨?_, hb⟩) (Lib.hid fun W hg => by have := error_yes 0 W hg; rwa [errV_zero] at this) (.inl ⟨rfl, rfl⟩) hke
    · rcases h with ⟨v, u, rfl, hv, hu⟩ | ⟨_, hn⟩
      · exact ⟨v, rfl, ht.uniq hu ▸ hv⟩
      · exact absurd ht (hn l)
    · rcases h with ⟨v, u, rfl, hv, hu⟩ | ⟨_, hn⟩
      · exact ⟨v, rfl, ht.uniq hu ▸ hv⟩
      · exact absurd ht (hn l)
  · refine tapeTells_go w hP hE hG a o0 (by omega) b o1 s [] false 3 ke (errV 3) (Lib.hid fun W => (rtof_any s hsl W).mono fun e w' ⟨h2, hb⟩ => ⟨?_, hb⟩) (Lib.hid fun W hp he => (tparse_any s hsl W hp he).mono fun e w' ⟨h2, hb⟩ => ⟨?_, hb⟩) (Lib.hid fun W hg => error_yes 3 W hg) (.inr ⟨rfl, rfl⟩) hke
    · rcases h2 with ⟨v, u, rfl, hv, hu⟩ | ⟨rfl, _⟩
      · exact absurd ⟨u, hu⟩ h
      · exact ⟨_, rfl, ints_zero _⟩
    · rcases h2 with ⟨v, u, rfl, hv, hu⟩ | ⟨rfl, _⟩
      · exact absurd ⟨u, hu⟩ h
      · exact ⟨_, rfl, ints_zero _⟩
end Go.Proofs.YtlhdiekibkdiaaaDoor
