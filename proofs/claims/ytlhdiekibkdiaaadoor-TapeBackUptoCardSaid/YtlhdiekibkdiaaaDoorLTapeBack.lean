/- The walk through the statement TapeBack. -/
import Derived.Test.YtlhdiekibkdiaaaDoorTPF
import Derived.Test.YtlhdiekibkdiaaaDoorTPN
namespace Go.Proofs.YtlhdiekibkdiaaaDoor
set_option maxRecDepth 100000
open Go.RowKit
set_option linter.unusedSimpArgs false
set_option linter.unusedVariables false
set_option maxHeartbeats 16000000 in
theorem tapeBack_go (w : World) (hP : PowAt w) (hE : NumErrsAt w) {v0 : Value} (a : List Int) (o0 : IntsAt w v0 a) (ba : a.length ≤ 2000000) (s : List UInt8) (hs : s.length ≤ 100000000) :
    Calls Tryd.prog 4 #[v0, .string ⟨s.toArray⟩] w fun e w' => e = .returned (.bool true) ∧ Below w.heap.size w w' := by
  have HP := Lib.hid hP
  have HE := Lib.hid hE
  have HA := Lib.hid o0
  have HTL : Hid ((tText a).length ≤ 100000000) := by have := tText_len a o0.1; show _ ≤ _; omega
  have hal : a.length ≤ 1000000000 := by omega
  obtain ⟨g0, c0, rfl, _⟩ := o0.form
  clear hP hE o0
  go_enter Tryd.func4, Tryd.ntmps4
  go_wp2_with fail
  refine (less_fact _).mono ?_
  rintro e w1 ⟨rfl, n1, rfl⟩
  have hB0 : Below w.heap.size w ((w.alloc (.cells #[.int .i64 5] 3)).alloc (.cells #[.int .i64 1, .int .i64 1] 3)) := by repeat (first | with_reducible assumption | with_reducible exact Below.refl _ _ | with_reducible apply Below.drew | (with_reducible refine Below.alloc ?_ (by first | omega | (simp only [zA, zS, zD, zN]; omega) | (dsimp only; omega) | (simp only [zA, zS, zD, zN]; dsimp only; omega)) _) | (with_reducible refine Below.setCell ?_ (by first | omega | (simp only [zA, zS, zD, zN]; omega) | (dsimp only; omega) | (simp only [zA, zS, zD, zN]; dsimp only; omega)) _) | (with_reducible apply below_drewN))
  have hB1 := below_draws hB0 n1
  generalize ((w.alloc (.cells #[.int .i64 5] 3)).alloc (.cells #[.int .i64 1, .int .i64 1] 3)).drewN n1 = W1 at *
  clear hB0
  go_wp2_with fail
  refine (tparse_any s hs _ (HP.out.ext hB1) (HE.out.ext hB1)).mono ?_
  rintro e W2 ⟨hpr, hb⟩
  have hB2 : Below w.heap.size w W2 := hB1.trans (hb.mono hB1.size)
  clear hb hB1
  rcases hpr with ⟨lv, l, rfl, hl, ht⟩ | ⟨rfl, _⟩
  ·
    obtain ⟨g1, c1, rfl, hlc, hlm, _⟩ := hl.form
    have HTS := Lib.hid ht.2
    have hll : l.length ≤ 1000000000 := by
      have h1 := cutA_len s []
      by_cases h0 : s = []
      · subst h0
        have : l = [] := ht.uniq isTape_nil
        subst this
        simp
      · rw [ht.cut h0, List.length_map] at h1
        omega
    have CT := Lib.hid (ttext_any _ l _ (HP.out.ext hB2) hl hll)
    rw [HTS.out] at CT
    clear hl ht hll hlc hlm
    go_wp2_with fail
    refine CT.out.mono ?_
    rintro e W3 ⟨rfl, hb⟩
    have hB3 : Below w.heap.size w W3 := hB2.trans (hb.mono hB2.size)
    clear hb CT hB2
    go_wp2_with fail
    refine (ttext_any _ a _ (HP.out.ext hB3) (HA.out.ext hB3) hal).mono ?_
    rintro e W4 ⟨rfl, hb⟩
    have hB4 : Below w.heap.size w W4 := hB3.trans (hb.mono hB3.size)
    clear hb
    go_wp2_with fail
    refine (tparse_any (tText a) HTL.out _ (HP.out.ext hB4) (HE.out.ext hB4)).mono ?_
    rintro e W5 ⟨hpr, hb⟩
    have hB5 : Below w.heap.size w W5 := hB4.trans (hb.mono hB4.size)
    clear hb
    cases hbad : tapeBad a with
    | false =>
      have hist : IsTape (tText a) a := ⟨tapeBad_false.1 hbad, rfl⟩
      have HC := Lib.hid (tapeErr_ok hbad)
      obtain ⟨mv, m, rfl, hm, hmt⟩ := hpr.resolve_right (fun h => h.2 a hist)
      obtain rfl : a = m := (hmt.uniq hist).symm
      obtain ⟨mg, mc, rfl, _⟩ := hm.form
      have HM := Lib.hid hm
      clear hm hmt hist hpr hbad
      go_wp2_with fail
      refine (ints_any _ _ _ _ _ HM.out (HA.out.ext hB5)).mono ?_
      rintro e W6 ⟨rfl, n6, rfl⟩
      have hB6 := below_draws hB5 n6
      generalize W5.drewN n6 = W6 at *
      rw [decide_eq_true rfl]
      go_wp2_with fail
      refine (tcheck_any _ a _ (HA.out.ext hB6)).mono ?_
      rintro e W7 ⟨rfl, hb⟩
      have hB7 : Below w.heap.size w W7 := hB6.trans (hb.mono hB6.size)
      clear hb
      rw [HC.out]
      go_wp2_with fail
      go_ret
      exact ⟨by simp, hB7⟩
    | true =>
      have HC := Lib.hid (tapeErr_bad hbad)
      have hpr2 : ∃ mv m ev, e = .returned (.tuple #[mv, ev]) ∧ IntsAt W5 mv m := by
        rcases hpr with ⟨mv, m, rfl, hm, _⟩ | ⟨rfl, _⟩
        · exact ⟨mv, m, _, rfl, hm⟩
        · exact ⟨_, [], _, rfl, ints_zero _⟩
      obtain ⟨mv, m, ev, rfl, hm⟩ := hpr2
      obtain ⟨mg, mc, rfl, _⟩ := hm.form
      have HM := Lib.hid hm
      clear hm hpr hbad
      go_wp2_with fail
      refine (ints_any _ _ _ _ _ HM.out (HA.out.ext hB5)).mono ?_
      rintro e W6 ⟨rfl, n6, rfl⟩
      have hB6 := below_draws hB5 n6
      generalize W5.drewN n6 = W6 at *
      generalize decide (m = a) = bo at *
      go_wp2_with fail
      refine (tcheck_any _ a _ (HA.out.ext hB6)).mono ?_
      rintro e W7 ⟨rfl, hb⟩
      have hB7 : Below w.heap.size w W7 := hB6.trans (hb.mono hB6.size)
      clear hb
      rw [HC.out]
      go_wp2_with fail
      go_ret
      exact ⟨by simp, hB7⟩
  ·
    rw [errV_ne (by decide)]
    go_wp2_with fail
    refine (ttext_any _ a _ (HP.out.ext hB2) (HA.out.ext hB2) hal).mono ?_
    rintro e W4 ⟨rfl, hb⟩
    have hB4 : Below w.heap.size w W4 := hB2.trans (hb.mono hB2.size)
    clear hb
    go_wp2_with fail
    refine (tparse_any (tText a) HTL.out _ (HP.out.ext hB4) (HE.out.ext hB4)).mono ?_
    rintro e W5 ⟨hpr, hb⟩
    have hB5 : Below w.heap.size w W5 := hB4.trans (hb.mono hB4.size)
    clear hb
    cases hbad : tapeBad a with
    | false =>
      have hist : IsTape (tText a) a := ⟨tapeBad_false.1 hbad, rfl⟩
      have HC := Lib.hid (tapeErr_ok hbad)
      obtain ⟨mv, m, rfl, hm, hmt⟩ := hpr.resolve_right (fun h => h.2 a hist)
      obtain rfl : a = m := (hmt.uniq hist).symm
      obtain ⟨mg, mc, rfl, _⟩ := hm.form
      have HM := Lib.hid hm
      clear hm hmt hist hpr hbad
      go_wp2_with fail
      refine (ints_any _ _ _ _ _ HM.out (HA.out.ext hB5)).mono ?_
      rintro e W6 ⟨rfl, n6, rfl⟩
      have hB6 := below_draws hB5 n6
      generalize W5.drewN n6 = W6 at *
      rw [decide_eq_true rfl]
      go_wp2_with fail
      refine (tcheck_any _ a _ (HA.out.ext hB6)).mono ?_
      rintro e W7 ⟨rfl, hb⟩
      have hB7 : Below w.heap.size w W7 := hB6.trans (hb.mono hB6.size)
      clear hb
      rw [HC.out]
      go_wp2_with fail
      go_ret
      exact ⟨by simp, hB7⟩
    | true =>
      have HC := Lib.hid (tapeErr_bad hbad)
      have hpr2 : ∃ mv m ev, e = .returned (.tuple #[mv, ev]) ∧ IntsAt W5 mv m := by
        rcases hpr with ⟨mv, m, rfl, hm, _⟩ | ⟨rfl, _⟩
        · exact ⟨mv, m, _, rfl, hm⟩
        · exact ⟨_, [], _, rfl, ints_zero _⟩
      obtain ⟨mv, m, ev, rfl, hm⟩ := hpr2
      obtain ⟨mg, mc, rfl, _⟩ := hm.form
      have HM := Lib.hid hm
      clear hm hpr hbad
      go_wp2_with fail
      refine (ints_any _ _ _ _ _ HM.out (HA.out.ext hB5)).mono ?_
      rintro e W6 ⟨rfl, n6, rfl⟩
      have hB6 := below_draws hB5 n6
      generalize W5.drewN n6 = W6 at *
      generalize decide (m = a) = bo at *
      go_wp2_with fail
      refine (tcheck_any _ a _ (HA.out.ext hB6)).mono ?_
      rintro e W7 ⟨rfl, hb⟩
      have hB7 : Below w.heap.size w W7 := hB6.trans (hb.mono hB6.size)
      clear hb
      rw [HC.out]
      go_wp2_with fail
      go_ret
      exact ⟨by simp, hB7⟩
theorem tapeBack_walk (w : World) (hP : PowAt w) (hE : NumErrsAt w) {v0 v1 : Value} {m0 m1 : Nat} (a : List Int) (o0 : IntsAt w v0 a) (b0 : a.length ≤ m0) (s : List UInt8) (o1 : v1 = .string ⟨s.toArray⟩) (b1 : s.length < m1) (hs : m0 + (m1 + 0) ≤ 1048576) :
    Calls Tryd.prog 4 #[v0, v1] w fun e w' => e = .returned (.bool true) ∧ Below w.heap.size w w' := by
  subst o1
  exact tapeBack_go w hP hE a o0 (by omega) s (by omega)
end Go.Proofs.YtlhdiekibkdiaaaDoor
