/- The walk of the statement on drawing. -/
import Derived.Test.YtjobgkcoblpbcaaPDraw
import Derived.Test.YtjobgkcoblpbcaaValC
import Derived.Test.YtjobgkcoblpbcaaLMade
import Derived.Test.YtjobgkcoblpbcaaTape
namespace Go.Proofs.Ytjobgkcoblpbcaa
open Go.RowKit
set_option linter.unusedSimpArgs false
set_option linter.unusedVariables false
set_option maxHeartbeats 2000000 in
theorem tapecheck_ok (v : Value) (l : List Int) (h : ∀ n ∈ l, 0 ≤ n ∧ n ≤ 1000) (w : World) (hl : IntsAt w v l) : Calls Try.prog 27 #[v] w fun e w' => e = .returned .nilIface ∧ Below w.heap.size w w' := by
  obtain ⟨ad, cap, rfl, hlc, hm, hin, hcells⟩ := hl.form
  unfold maxLen at hm
  have HH := Lib.hid h
  clear h hl hin
  have HC := Lib.hid hcells
  clear hcells
  go_enter Try.func27, Try.ntmps27
  go_wp2_with fail
  go_loopw [7] (fun i wr => ∃ j : Nat, j ≤ l.length ∧ i = .int .i64 j ∧ wr = w) (fun i _ => l.length - (intOf i).toNat)
  case atStart => exact ⟨0, by omega, rfl, rfl⟩
  case round =>
    obtain ⟨j, hj, rfl, rfl⟩ := hrel
    by_cases hlt : j < l.length
    · have p0 : (0 : Int) ≤ (j : Int) := by omega
      have p1 : (j : Int) < (l.length : Int) := by omega
      obtain ⟨bl, off, rfl, hbl, hc⟩ := HC.out (by omega)
      have c1 := hc j hlt
      have hb := HH.out l[j] (List.getElem_mem hlt)
      have he : l.getD j 0 = l[j] := by simp [List.getD_eq_getElem?_getD, hlt]
      rw [he] at c1
      generalize l[j] = x at *
      obtain ⟨hb0, hb1⟩ := hb
      have q0 : ¬ x < 0 := by omega
      have q1 : ¬ 1000 < x := by omega
      clear hc he HC HH
      go_wp2_with fail
      exact ⟨⟨j + 1, by omega, by go_num, by trivial⟩, by simp [intOf]; omega⟩
    · have p1 : ¬ (j : Int) < (l.length : Int) := by omega
      go_wp2_with fail
      go_ret
      exact ⟨rfl, Below.refl _ _⟩
set_option maxHeartbeats 4000000 in
theorem draws_go {v0 v1 : Value} (w : World) (g : GT) (o0 : GenAt w v0 g) (sd : Nat × Nat) (o1 : SeedAt v1 sd) :
    Calls Try.prog 9 #[v0, v1] w fun e w' => e = .returned (.bool true) ∧ Below w.heap.size w w' := by
  obtain ⟨k, a, b, t, ad, cap, rfl⟩ := o0.shape
  have hsd := o1
  obtain ⟨rfl, _, _⟩ := o1
  have C0 := Lib.hid (fun W => made_fact W)
  by_cases hc : GT.check g = 0
  · obtain ⟨t0, hp1⟩ := play_drawn g hc sd
    have hp3 := (played_stays g hc (drawR g sd)).1 (by rw [hp1])
    have hchk := playR_chk g (drawR g sd)
    rw [hp1] at hchk
    have hchk0 : VT.chk t0 0 = 0 := hchk rfl
    have hwi := draw_within g hc sd
    have C1 := Lib.hid (fun W (hb : Below w.heap.size w W) => draw_any g _ _ hc W (o0.ext hb) sd hsd)
    have C2 := Lib.hid (fun W tv (hb : Below w.heap.size w W) (ht : IntsAt W tv (drawR g sd)) => replay_any g (drawR g sd) _ tv W (o0.ext hb) ht)
    have C3 := Lib.hid (fun W tv (hb : Below w.heap.size w W) (ht : IntsAt W tv (drawR g sd)) => mend_any g (drawR g sd) _ tv hc W (o0.ext hb) ht)
    have C5 := Lib.hid (fun v W (hv : ValAt W v t0) => valCheck_any t0 v W hv)
    have C6 := Lib.hid (fun v W (hv : IntsAt W v (drawR g sd)) => tapecheck_ok v (drawR g sd) hwi W hv)
    rw [hp1] at C2
    rw [hp3] at C3
    rw [hchk0] at C5
    simp only [errV_zero] at C2 C5
    clear hp1 hp3 hchk hchk0 hc o0 hsd hwi
    generalize drawR g sd = M at *
    go_enter Try.func9, Try.ntmps9
    go_wp2_with fail
    refine (C0.out _).mono ?_
    rintro e w1 ⟨rfl, hb1⟩
    have hB1 : Below w.heap.size w w1 := Below.trans (by repeat (first | with_reducible assumption | with_reducible exact Below.refl _ _ | with_reducible apply Below.drew | (with_reducible refine Below.alloc ?_ (by first | omega | (simp only [World.size_alloc, size_setCell, size_drew, size_drewN]; omega) | (dsimp only; omega) | (simp only [World.size_alloc, size_setCell, size_drew, size_drewN]; dsimp only; omega)) _) | (with_reducible refine Below.setCell ?_ (by first | omega | (simp only [World.size_alloc, size_setCell, size_drew, size_drewN]; omega) | (dsimp only; omega) | (simp only [World.size_alloc, size_setCell, size_drew, size_drewN]; dsimp only; omega)) _))) (hb1.mono (by first | omega | (simp only [World.size_alloc, size_setCell, size_drew, size_drewN]; omega) | (dsimp only; omega) | (simp only [World.size_alloc, size_setCell, size_drew, size_drewN]; dsimp only; omega)))
    obtain ⟨hc1, hf1, hz1⟩ := bcell hb1
    try simp only [World.size_alloc, size_setCell, size_drew, size_drewN] at hz1
    clear hb1
    have y1_0 : w.heap.size < w1.heap.size := by omega
    have y1_1 : w.heap.size + 1 < w1.heap.size := by omega
    go_wp2_with fail
    refine (C1.out _ (by repeat (first | with_reducible assumption | with_reducible exact Below.refl _ _ | with_reducible apply Below.drew | (with_reducible refine Below.alloc ?_ (by first | omega | (simp only [World.size_alloc, size_setCell, size_drew, size_drewN]; omega) | (dsimp only; omega) | (simp only [World.size_alloc, size_setCell, size_drew, size_drewN]; dsimp only; omega)) _) | (with_reducible refine Below.setCell ?_ (by first | omega | (simp only [World.size_alloc, size_setCell, size_drew, size_drewN]; omega) | (dsimp only; omega) | (simp only [World.size_alloc, size_setCell, size_drew, size_drewN]; dsimp only; omega)) _)))).mono ?_
    rintro e w2 ⟨⟨mv, rfl, hmv⟩, hb2⟩
    have hB2 : Below w.heap.size w w2 := Below.trans (by repeat (first | with_reducible assumption | with_reducible exact Below.refl _ _ | with_reducible apply Below.drew | (with_reducible refine Below.alloc ?_ (by first | omega | (simp only [World.size_alloc, size_setCell, size_drew, size_drewN]; omega) | (dsimp only; omega) | (simp only [World.size_alloc, size_setCell, size_drew, size_drewN]; dsimp only; omega)) _) | (with_reducible refine Below.setCell ?_ (by first | omega | (simp only [World.size_alloc, size_setCell, size_drew, size_drewN]; omega) | (dsimp only; omega) | (simp only [World.size_alloc, size_setCell, size_drew, size_drewN]; dsimp only; omega)) _))) (hb2.mono (by first | omega | (simp only [World.size_alloc, size_setCell, size_drew, size_drewN]; omega) | (dsimp only; omega) | (simp only [World.size_alloc, size_setCell, size_drew, size_drewN]; dsimp only; omega)))
    obtain ⟨hc2, hf2, hz2⟩ := bcell hb2
    have y2_0 : w.heap.size < w2.heap.size := by omega
    have y2_1 : w.heap.size + 1 < w2.heap.size := by omega
    clear hb2
    obtain ⟨mad, mcap, rfl, _⟩ := hmv.form
    have HM := Lib.hid hmv
    clear hmv
    go_wp2_with fail
    refine (C2.out _ _ (by repeat (first | with_reducible assumption | with_reducible exact Below.refl _ _ | with_reducible apply Below.drew | (with_reducible refine Below.alloc ?_ (by first | omega | (simp only [World.size_alloc, size_setCell, size_drew, size_drewN]; omega) | (dsimp only; omega) | (simp only [World.size_alloc, size_setCell, size_drew, size_drewN]; dsimp only; omega)) _) | (with_reducible refine Below.setCell ?_ (by first | omega | (simp only [World.size_alloc, size_setCell, size_drew, size_drewN]; omega) | (dsimp only; omega) | (simp only [World.size_alloc, size_setCell, size_drew, size_drewN]; dsimp only; omega)) _))) HM.out).mono ?_
    rintro e w3 ⟨⟨vv, rfl, hvv⟩, hb3⟩
    have hB3 : Below w.heap.size w w3 := Below.trans hB2 (hb3.mono (by first | omega | (simp only [World.size_alloc, size_setCell, size_drew, size_drewN]; omega) | (dsimp only; omega) | (simp only [World.size_alloc, size_setCell, size_drew, size_drewN]; dsimp only; omega)))
    have HM3 := Lib.hid (HM.out.ext hb3)
    obtain ⟨hc3, hf3, hz3⟩ := bcell hb3
    have y3_0 : w.heap.size < w3.heap.size := by omega
    clear hb3
    obtain ⟨vl, vn, vk, vad, vcap, rfl⟩ := hvv.shape
    have HV3 := Lib.hid hvv
    clear hvv
    go_wp2_with fail
    have hb4 : Below w3.heap.size w3 (w3.alloc (.cells #[.bool vl, .int .i64 vn, .slice vad vk vcap] 48)) := by repeat (first | with_reducible assumption | with_reducible exact Below.refl _ _ | with_reducible apply Below.drew | (with_reducible refine Below.alloc ?_ (by first | omega | (simp only [World.size_alloc, size_setCell, size_drew, size_drewN]; omega) | (dsimp only; omega) | (simp only [World.size_alloc, size_setCell, size_drew, size_drewN]; dsimp only; omega)) _) | (with_reducible refine Below.setCell ?_ (by first | omega | (simp only [World.size_alloc, size_setCell, size_drew, size_drewN]; omega) | (dsimp only; omega) | (simp only [World.size_alloc, size_setCell, size_drew, size_drewN]; dsimp only; omega)) _))
    have x4 : Blk (w3.alloc (.cells #[.bool vl, .int .i64 vn, .slice vad vk vcap] 48)) w3.heap.size #[.bool vl, .int .i64 vn, .slice vad vk vcap] 48 := Blk.new _ _ _
    have hB4 := hB3.trans (hb4.mono hB3.size)
    have HM4 := Lib.hid (HM3.out.ext hb4)
    have HV4 := Lib.hid (HV3.out.ext hb4)
    refine (C3.out _ _ hB4 HM4.out).mono ?_
    rintro e w5 ⟨⟨nv, rfl, hnv⟩, hb5⟩
    have hB5 := hB4.trans (hb5.mono hB4.size)
    have HM5 := Lib.hid (HM4.out.ext hb5)
    have HV5 := Lib.hid (HV4.out.ext hb5)
    have HN5 := Lib.hid hnv
    have x5 := x4.ext hb5
    clear hb5 hnv x4 hb4 HM4 HV4
    have J1 := Lib.hid (ints_any nv (.slice mad M.length mcap) M M w5 HN5.out HM5.out)
    rw [decide_eq_true rfl] at J1
    go_wp2_with fail
    refine J1.out.mono ?_
    rintro e w6 ⟨rfl, n6, rfl⟩
    have hb6 : Below w5.heap.size w5 (w5.drewN n6) := ⟨rfl, rfl, rfl, Nat.le_refl _, fun _ _ => rfl⟩
    have hB6 := hB5.trans (hb6.mono hB5.size)
    have HM6 := Lib.hid (HM5.out.ext hb6)
    have HV6 := Lib.hid (HV5.out.ext hb6)
    have x6 := x5.ext hb6
    clear hb6 x5 J1
    generalize w5.drewN n6 = w6 at *
    have t0 := x6.cell 0
    have t1 := x6.cell 1
    have t2 := x6.cell 2
    simp only [List.getElem?_toArray, List.getElem?_cons_succ, List.getElem?_cons_zero] at t0 t1 t2
    go_wp2_with fail
    refine (C5.out _ _ HV6.out).mono ?_
    rintro e w7 ⟨rfl, hb7⟩
    have hB7 := hB6.trans (hb7.mono hB6.size)
    have HM7 := Lib.hid (HM6.out.ext hb7)
    clear hb7
    go_wp2_with fail
    refine (C6.out _ _ HM7.out).mono ?_
    rintro e w8 ⟨rfl, hb8⟩
    have hB8 := hB7.trans (hb8.mono hB7.size)
    go_wp2_with fail
    go_ret
    exact ⟨rfl, hB8⟩
  · have C1 := Lib.hid (fun W (hb : Below w.heap.size w W) => draw_bad g _ _ hc W (o0.ext hb) sd hsd)
    rw [errV_ne hc] at C1
    clear hc o0 hsd
    go_enter Try.func9, Try.ntmps9
    go_wp2_with fail
    refine (C0.out _).mono ?_
    rintro e w1 ⟨rfl, hb1⟩
    have hB1 : Below w.heap.size w w1 := Below.trans (by repeat (first | with_reducible assumption | with_reducible exact Below.refl _ _ | with_reducible apply Below.drew | (with_reducible refine Below.alloc ?_ (by first | omega | (simp only [World.size_alloc, size_setCell, size_drew, size_drewN]; omega) | (dsimp only; omega) | (simp only [World.size_alloc, size_setCell, size_drew, size_drewN]; dsimp only; omega)) _) | (with_reducible refine Below.setCell ?_ (by first | omega | (simp only [World.size_alloc, size_setCell, size_drew, size_drewN]; omega) | (dsimp only; omega) | (simp only [World.size_alloc, size_setCell, size_drew, size_drewN]; dsimp only; omega)) _))) (hb1.mono (by first | omega | (simp only [World.size_alloc, size_setCell, size_drew, size_drewN]; omega) | (dsimp only; omega) | (simp only [World.size_alloc, size_setCell, size_drew, size_drewN]; dsimp only; omega)))
    obtain ⟨hc1, hf1, hz1⟩ := bcell hb1
    try simp only [World.size_alloc, size_setCell, size_drew, size_drewN] at hz1
    clear hb1
    have y1_0 : w.heap.size < w1.heap.size := by omega
    have y1_1 : w.heap.size + 1 < w1.heap.size := by omega
    go_wp2_with fail
    refine (C1.out _ (by repeat (first | with_reducible assumption | with_reducible exact Below.refl _ _ | with_reducible apply Below.drew | (with_reducible refine Below.alloc ?_ (by first | omega | (simp only [World.size_alloc, size_setCell, size_drew, size_drewN]; omega) | (dsimp only; omega) | (simp only [World.size_alloc, size_setCell, size_drew, size_drewN]; dsimp only; omega)) _) | (with_reducible refine Below.setCell ?_ (by first | omega | (simp only [World.size_alloc, size_setCell, size_drew, size_drewN]; omega) | (dsimp only; omega) | (simp only [World.size_alloc, size_setCell, size_drew, size_drewN]; dsimp only; omega)) _)))).mono ?_
    rintro e w2 ⟨rfl, hb2⟩
    have hB2 : Below w.heap.size w w2 := Below.trans (by repeat (first | with_reducible assumption | with_reducible exact Below.refl _ _ | with_reducible apply Below.drew | (with_reducible refine Below.alloc ?_ (by first | omega | (simp only [World.size_alloc, size_setCell, size_drew, size_drewN]; omega) | (dsimp only; omega) | (simp only [World.size_alloc, size_setCell, size_drew, size_drewN]; dsimp only; omega)) _) | (with_reducible refine Below.setCell ?_ (by first | omega | (simp only [World.size_alloc, size_setCell, size_drew, size_drewN]; omega) | (dsimp only; omega) | (simp only [World.size_alloc, size_setCell, size_drew, size_drewN]; dsimp only; omega)) _))) (hb2.mono (by first | omega | (simp only [World.size_alloc, size_setCell, size_drew, size_drewN]; omega) | (dsimp only; omega) | (simp only [World.size_alloc, size_setCell, size_drew, size_drewN]; dsimp only; omega)))
    obtain ⟨hc2, hf2, hz2⟩ := bcell hb2
    try simp only [World.size_alloc, size_setCell, size_drew, size_drewN] at hz2
    clear hb2
    go_wp2_with fail
    go_ret
    exact ⟨rfl, by repeat (first | with_reducible assumption | with_reducible exact Below.refl _ _ | with_reducible apply Below.drew | (with_reducible refine Below.alloc ?_ (by first | omega | (simp only [World.size_alloc, size_setCell, size_drew, size_drewN]; omega) | (dsimp only; omega) | (simp only [World.size_alloc, size_setCell, size_drew, size_drewN]; dsimp only; omega)) _) | (with_reducible refine Below.setCell ?_ (by first | omega | (simp only [World.size_alloc, size_setCell, size_drew, size_drewN]; omega) | (dsimp only; omega) | (simp only [World.size_alloc, size_setCell, size_drew, size_drewN]; dsimp only; omega)) _))⟩
end Go.Proofs.Ytjobgkcoblpbcaa
