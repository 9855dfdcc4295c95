/- The walk through the statement ShrinkLeast. -/
import Derived.Test.YtcecpggkeaohnaaDoorSHB
import Derived.Test.YtcecpggkeaohnaaDoorLMade
import Derived.Test.YtcecpggkeaohnaaDoorREG
import Derived.Test.YtcecpggkeaohnaaDoorTape
import Derived.Deep.DeepCutAuto
namespace Go.Proofs.YtcecpggkeaohnaaDoor
set_option maxRecDepth 100000
open Go.RowKit
set_option linter.unusedSimpArgs false
set_option linter.unusedVariables false
set_option maxRecDepth 100000 in
set_option maxHeartbeats 8000000 in
theorem shrinkLeast_go {v0 v1 v2 : Value} (w : World) (hT : TakesAt w) (g : GT) (o0 : GenAt w v0 g) (x : ET) (o1 : ExprAt w v1 x) (l : List Int) (o2 : IntsAt w v2 l) :
    Calls Tryd.prog 9 #[v0, v1, v2] w fun e w' => e = .returned (.bool true) ∧ Below w.heap.size w w' := by
  have HT := Lib.hid hT
  have HG := Lib.hid o0
  have HX := Lib.hid o1
  have HL := Lib.hid o2
  obtain ⟨k0, a0, b0, n0, ad0, c0, rfl⟩ := o0.shape
  obtain ⟨k1, n1, s1, ad1, c1, rfl⟩ := o1.shape
  obtain ⟨lad, lcap, rfl, _⟩ := o2.form
  clear hT o0 o1 o2
  go_enter Tryd.func9, Tryd.ntmps9
  go_wp2_with fail
  generalize hW0 : ((w.alloc (.cells #[.int .i64 k0, .int .i64 a0, .int .i64 b0, .slice ad0 n0 c0] 41)).alloc (.cells #[.int .i64 k1, .int .i64 n1, .slice ad1 s1 c1] 24)) = W0
  have hB0 : Below w.heap.size w W0 := by rw [← hW0]; repeat (first | with_reducible assumption | with_reducible exact Below.refl _ _ | with_reducible apply Below.drew | (with_reducible refine Below.alloc ?_ (by first | omega | (simp only [World.size_alloc, size_setCell, size_drew, size_drewN]; omega) | (dsimp only; omega) | (simp only [World.size_alloc, size_setCell, size_drew, size_drewN]; dsimp only; omega)) _) | (with_reducible refine Below.setCell ?_ (by first | omega | (simp only [World.size_alloc, size_setCell, size_drew, size_drewN]; omega) | (dsimp only; omega) | (simp only [World.size_alloc, size_setCell, size_drew, size_drewN]; dsimp only; omega)) _) | (with_reducible apply below_drewN))
  have X0 : Blk W0 (w.heap.size) #[.int .i64 k0, .int .i64 a0, .int .i64 b0, .slice ad0 n0 c0] 41 := by rw [← hW0]; exact ((Blk.new w #[.int .i64 k0, .int .i64 a0, .int .i64 b0, .slice ad0 n0 c0] 41)).alloc _
  have X1 : Blk W0 (w.heap.size + 1) #[.int .i64 k1, .int .i64 n1, .slice ad1 s1 c1] 24 := by rw [← hW0]; exact (show Blk ((w.alloc (.cells #[.int .i64 k0, .int .i64 a0, .int .i64 b0, .slice ad0 n0 c0] 41)).alloc (.cells #[.int .i64 k1, .int .i64 n1, .slice ad1 s1 c1] 24)) (w.heap.size + 1) _ _ by simpa using Blk.new (w.alloc (.cells #[.int .i64 k0, .int .i64 a0, .int .i64 b0, .slice ad0 n0 c0] 41)) #[.int .i64 k1, .int .i64 n1, .slice ad1 s1 c1] 24)
  clear hW0
  refine (made_fact _).mono ?_
  rintro e W1 ⟨rfl, hb⟩
  have hB1 : Below w.heap.size w W1 := hB0.trans (hb.mono hB0.size)
  have X0 := X0.ext hb
  have X1 := X1.ext hb
  clear hb hB0
  go_wp2_with fail
  refine (asked_fact _ (HT.out.ext hB1)).mono ?_
  rintro e W2 ⟨rfl, hb⟩
  have hB2 : Below w.heap.size w W2 := hB1.trans (hb.mono hB1.size)
  have X0 := X0.ext hb
  have X1 := X1.ext hb
  clear hb hB1
  by_cases hc : GT.check g = 0
  case neg =>
    have g0 := X0.cell 0
    have g1 := X0.cell 1
    have g2 := X0.cell 2
    have g3 := X0.cell 3
    simp only [List.getElem?_toArray, List.getElem?_cons_succ, List.getElem?_cons_zero] at g0 g1 g2 g3
    go_wp2_with fail
    refine (mend_bad g _ (.slice lad l.length lcap) hc _ (HG.out.ext hB2) ⟨_, _, _, rfl⟩).mono ?_
    rintro _ W3 ⟨rfl, hb⟩
    have hB3 := hB2.trans (hb.mono hB2.size)
    rw [errV_ne hc]
    clear g0 g1 g2 g3 hb hc
    go_wp2_with fail
    go_ret
    exact ⟨rfl, hB3⟩
  have HC := Lib.hid hc
  clear hc
  have f0_0 := X0.cell 0
  have f0_1 := X0.cell 1
  have f0_2 := X0.cell 2
  have f0_3 := X0.cell 3
  simp only [List.getElem?_toArray, List.getElem?_cons_succ, List.getElem?_cons_zero] at f0_0 f0_1 f0_2 f0_3
  go_wp2_with fail
  refine (mend_any g l _ _ HC.out _ (HG.out.ext hB2) (HL.out.ext hB2)).mono ?_
  rintro e W3 ⟨⟨tv, rfl, htv⟩, hb⟩
  clear f0_0 f0_1 f0_2 f0_3
  have hB3 : Below w.heap.size w W3 := hB2.trans (hb.mono hB2.size)
  have X0 := X0.ext hb
  have X1 := X1.ext hb
  clear hb hB2
  have HTV := Lib.hid htv
  have hpt := mended_ok g HC.out l
  obtain ⟨tad, tcap, rfl, _⟩ := htv.form
  clear htv
  generalize mendR g l = T at *
  by_cases hz : shErr g x T = 0
  case neg =>
    have g0 := X0.cell 0
    have g1 := X0.cell 1
    have g2 := X0.cell 2
    have g3 := X0.cell 3
    simp only [List.getElem?_toArray, List.getElem?_cons_succ, List.getElem?_cons_zero] at g0 g1 g2 g3
    have f0 := X1.cell 0
    have f1 := X1.cell 1
    have f2 := X1.cell 2
    simp only [List.getElem?_toArray, List.getElem?_cons_succ, List.getElem?_cons_zero] at f0 f1 f2
    go_wp2_with fail
    refine (shrink_bad g x T hz _ _ _ _ (HT.out.ext hB3) (HG.out.ext hB3) (HX.out.ext hB3) HTV.out).mono ?_
    rintro _ W4 ⟨rfl, hb⟩
    have hB4 := hB3.trans (hb.mono hB3.size)
    rw [errV_ne hz]
    clear g0 g1 g2 g3 f0 f1 f2 hb hz hpt
    go_wp2_with fail
    go_ret
    exact ⟨rfl, hB4⟩
  obtain ⟨_, hxc, _, hbd⟩ := shErr_zero hz
  have HLW := Lib.hid (walk_law _ T (Nat.le_refl _) hpt hbd)
  have HPT := Lib.hid hpt
  have HDD := Lib.hid hbd
  have HXC := Lib.hid hxc
  clear hz hpt hbd hxc
  have f0_0 := X0.cell 0
  have f0_1 := X0.cell 1
  have f0_2 := X0.cell 2
  have f0_3 := X0.cell 3
  simp only [List.getElem?_toArray, List.getElem?_cons_succ, List.getElem?_cons_zero] at f0_0 f0_1 f0_2 f0_3
  have f1_0 := X1.cell 0
  have f1_1 := X1.cell 1
  have f1_2 := X1.cell 2
  simp only [List.getElem?_toArray, List.getElem?_cons_succ, List.getElem?_cons_zero] at f1_0 f1_1 f1_2
  go_wp2_with fail
  refine (shrink_ok g x T HPT.out HXC.out HDD.out _ _ _ _ (HT.out.ext hB3) (HG.out.ext hB3) (HX.out.ext hB3) HTV.out).mono ?_
  rintro e W4 ⟨⟨mv, rfl, hmv⟩, hb⟩
  clear f0_0 f0_1 f0_2 f0_3 f1_0 f1_1 f1_2
  have hB4 : Below w.heap.size w W4 := hB3.trans (hb.mono hB3.size)
  have X0 := X0.ext hb
  have X1 := X1.ext hb
  have HTV := Lib.hid (HTV.out.ext hb)
  clear hb hB3
  have HMV := Lib.hid hmv.at
  obtain ⟨mad, mcap, rfl, _⟩ := hmv.at.form
  clear hmv
  generalize hM : (walkR g x T).1 = M at *
  generalize hK : (walkR g x T).2 = K at *
  have hl := HLW.out
  have HPM := Lib.hid hl.1
  have HMM := Lib.hid hl.2.1
  have HNX := Lib.hid hl.2.2.1
  have HKM := Lib.hid hl.2.2.2.2
  have HST := Lib.hid (walkR_stop hl.2.2.1)
  clear hl hM hK HLW
  have f0_0 := X0.cell 0
  have f0_1 := X0.cell 1
  have f0_2 := X0.cell 2
  have f0_3 := X0.cell 3
  simp only [List.getElem?_toArray, List.getElem?_cons_succ, List.getElem?_cons_zero] at f0_0 f0_1 f0_2 f0_3
  go_wp2_with fail
  refine (replay_any g M _ _ _ (HG.out.ext hB4) HMV.out).mono ?_
  rintro e W5 ⟨⟨vv, rfl, hvv⟩, hb⟩
  clear f0_0 f0_1 f0_2 f0_3
  have hB5 : Below w.heap.size w W5 := hB4.trans (hb.mono hB4.size)
  have X0 := X0.ext hb
  have X1 := X1.ext hb
  have HTV := Lib.hid (HTV.out.ext hb)
  have HMV := Lib.hid (HMV.out.ext hb)
  clear hb hB4
  have HVV := Lib.hid hvv
  have hpm := HPM.out
  obtain ⟨vl, vn, vk, vad, vcap, rfl⟩ := hvv.shape
  rw [hpm, errV_zero]
  clear hvv hpm
  go_upto_region 9 with (fail)
  have hbv : Below W5.heap.size W5 (W5.alloc (.cells #[.bool vl, .int .i64 vn, .slice vad vk vcap] 27)) := (Below.refl _ _).alloc (Nat.le_refl _) _
  have XV : Blk (W5.alloc (.cells #[.bool vl, .int .i64 vn, .slice vad vk vcap] 27)) W5.heap.size #[.bool vl, .int .i64 vn, .slice vad vk vcap] 27 := Blk.new _ _ _
  generalize hWV : W5.alloc (.cells #[.bool vl, .int .i64 vn, .slice vad vk vcap] 27) = WV at *
  clear hWV
  have hb := hbv
  clear hbv
  have hB6 : Below w.heap.size w WV := hB5.trans (hb.mono hB5.size)
  have X0 := X0.ext hb
  have X1 := X1.ext hb
  have HTV := Lib.hid (HTV.out.ext hb)
  have HMV := Lib.hid (HMV.out.ext hb)
  have HVV := Lib.hid (HVV.out.ext hb)
  clear hb hB5
  have f0_0 := X1.cell 0
  have f0_1 := X1.cell 1
  have f0_2 := X1.cell 2
  simp only [List.getElem?_toArray, List.getElem?_cons_succ, List.getElem?_cons_zero] at f0_0 f0_1 f0_2
  have f1_0 := XV.cell 0
  have f1_1 := XV.cell 1
  have f1_2 := XV.cell 2
  simp only [List.getElem?_toArray, List.getElem?_cons_succ, List.getElem?_cons_zero] at f1_0 f1_1 f1_2
  go_wp2_with fail
  refine (fails_any x _ _ _ _ (HT.out.ext hB6) (HX.out.ext hB6) HVV.out).mono ?_
  rintro e W7 ⟨rfl, hb⟩
  clear f0_0 f0_1 f0_2 f1_0 f1_1 f1_2
  have hB7 : Below w.heap.size w W7 := hB6.trans (hb.mono hB6.size)
  have X0 := X0.ext hb
  have X1 := X1.ext hb
  have HTV := Lib.hid (HTV.out.ext hb)
  have HMV := Lib.hid (HMV.out.ext hb)
  have HVV := Lib.hid (HVV.out.ext hb)
  clear hb hB6
  have hfl : ET.failsR x (playR g M).1 = (true, 0) := by
    have h1 := sfR_ok HPM.out HXC.out
    unfold sfR at h1
    rw [if_neg (by have := HPM.out; omega), HMM.out] at h1
    exact h1
  rw [hfl, errV_zero]
  clear hfl XV HVV
  have f0_0 := X0.cell 0
  have f0_1 := X0.cell 1
  have f0_2 := X0.cell 2
  have f0_3 := X0.cell 3
  simp only [List.getElem?_toArray, List.getElem?_cons_succ, List.getElem?_cons_zero] at f0_0 f0_1 f0_2 f0_3
  go_wp2_with fail
  refine (rose_ok g M HPM.out _ _ _ (HG.out.ext hB7) HMV.out).mono ?_
  rintro e W8 ⟨⟨rv, rfl, hrv⟩, hb⟩
  clear f0_0 f0_1 f0_2 f0_3
  have hB8 : Below w.heap.size w W8 := hB7.trans (hb.mono hB7.size)
  have X0 := X0.ext hb
  have X1 := X1.ext hb
  have HTV := Lib.hid (HTV.out.ext hb)
  have HMV := Lib.hid (HMV.out.ext hb)
  clear hb hB7
  have HRV := Lib.hid hrv
  clear hrv
  have g0 := X0.cell 0
  have g1 := X0.cell 1
  have g2 := X0.cell 2
  have g3 := X0.cell 3
  simp only [List.getElem?_toArray, List.getElem?_cons_succ, List.getElem?_cons_zero] at g0 g1 g2 g3
  have f0 := X1.cell 0
  have f1 := X1.cell 1
  have f2 := X1.cell 2
  simp only [List.getElem?_toArray, List.getElem?_cons_succ, List.getElem?_cons_zero] at f0 f1 f2
  go_wp2_with fail
  refine (shrink_ok g x M HPM.out HXC.out HMM.out _ _ _ _ (HT.out.ext hB8) (HG.out.ext hB8) (HX.out.ext hB8) HMV.out).mono ?_
  rw [HST.out]
  rintro _ W9 ⟨⟨nv, rfl, hnv⟩, hb⟩
  have HRV := Lib.hid (HRV.out.keep IntsS.reads hb.size (fun b hs hl => ⟨hs, hb.block b hl⟩))
  have HNV := Lib.hid hnv.at
  obtain ⟨nad, ncap, rfl, _⟩ := hnv.at.form
  clear g0 g1 g2 g3 f0 f1 f2 hnv
  have hB9 : Below w.heap.size w W9 := hB8.trans (hb.mono hB8.size)
  have X0 := X0.ext hb
  have X1 := X1.ext hb
  have HTV := Lib.hid (HTV.out.ext hb)
  have HMV := Lib.hid (HMV.out.ext hb)
  clear hb hB8
  go_wp2_with fail
  refine (ints_any _ _ M M _ HNV.out HMV.out).mono ?_
  rintro _ W10 ⟨rfl, n10, rfl⟩
  rw [decide_eq_true rfl]
  have hb : Below W9.heap.size W9 (W9.drewN n10) := Joins.below_draws _ _ _
  have HRV := Lib.hid (HRV.out.keep IntsS.reads hb.size (fun b hs hl => ⟨hs, hb.block b hl⟩))
  clear HNV
  generalize W9.drewN n10 = W10 at *
  have hB10 : Below w.heap.size w W10 := hB9.trans (hb.mono hB9.size)
  have X0 := X0.ext hb
  have X1 := X1.ext hb
  have HTV := Lib.hid (HTV.out.ext hb)
  have HMV := Lib.hid (HMV.out.ext hb)
  clear hb hB9
  go_wp2_with fail
  refine (ints_any _ _ M T _ HMV.out HTV.out).mono ?_
  rintro _ W11 ⟨rfl, n11, rfl⟩
  have hb : Below W10.heap.size W10 (W10.drewN n11) := Joins.below_draws _ _ _
  have HRV := Lib.hid (HRV.out.keep IntsS.reads hb.size (fun b hs hl => ⟨hs, hb.block b hl⟩))
  generalize W10.drewN n11 = W11 at *
  have hB11 : Below w.heap.size w W11 := hB10.trans (hb.mono hB10.size)
  have X0 := X0.ext hb
  have X1 := X1.ext hb
  have HTV := Lib.hid (HTV.out.ext hb)
  have HMV := Lib.hid (HMV.out.ext hb)
  clear hb hB10
  rcases HKM.out with ⟨hk0, hmt⟩ | ⟨hk0, hlt⟩
  · rw [decide_eq_true hmt]
    have HMT := Lib.hid hmt
    clear hmt
    subst hk0
    clear HKM HTV
    go_wp2_with fail
    obtain ⟨uad, ucap, rfl, hul, hum, hun, huc⟩ := HRV.out
    have HUC := Lib.hid huc
    have HNN := Lib.hid (next_none HNX.out)
    obtain ⟨Rn, hRn⟩ : ∃ Rn, Rn = (lessR g M).length := ⟨_, rfl⟩
    have hrl := lessR_len g M
    rw [← hRn] at hul hrl
    have HRN := Lib.hid hRn
    unfold maxLen at hum
    rw [← hRn]
    clear huc hun hRn
    go_loopw [24] (fun i wr => ∃ j : Nat, j ≤ Rn ∧ i = .int .i64 j ∧ Below W11.heap.size W11 wr) (fun i _ => Rn - (intOf i).toNat)
    case atStart => exact ⟨0, by omega, rfl, Below.refl _ _⟩
    case round =>
      obtain ⟨j, hj, rfl, hbr⟩ := hrel
      have hzr := hbr.size
      have hzl := hB11.size
      have hBr : Below w.heap.size w wr := hB11.trans (hbr.mono hzl)
      by_cases hlt : j < Rn
      · have q0 : (0 : Int) ≤ (j : Int) := by omega
        have q1 : (j : Int) < (Rn : Int) := by omega
        have hjR : j < (lessR g M).length := by rw [← HRN.out]; exact hlt
        obtain ⟨ubl, uoff, rfl, hub1, hub2, huu⟩ := HUC.out (by rw [← HRN.out]; omega)
        obtain ⟨mv, hmv, hmR⟩ := huu j hjR
        have hmem := lessR_mem (played_fit HPM.out).1 (List.getElem_mem hjR)
        have hnb := HNN.out _ (List.getElem_mem hjR)
        have HPJ := Lib.hid hmem.2
        have hsf := sfR_ok hmem.2 HXC.out
        unfold sfR at hsf
        rw [if_neg (by have := hmem.2; omega), hnb] at hsf
        have HSF := Lib.hid hsf
        have HMV2 := Lib.hid (hmR.keepB hbr).at
        obtain ⟨ma, mn, mc, rfl⟩ : ∃ a n c, mv = .slice a n c := by obtain ⟨_, a, c, e, _⟩ := hmR; exact ⟨_, _, _, e⟩
        have hmv' := (hbr.cell (p := ⟨ubl, uoff + j, none⟩) hub1).trans hmv
        have xr := X0.ext hbr
        have xr1 := X1.ext hbr
        have f0 := xr.cell 0
        have f1 := xr.cell 1
        have f2 := xr.cell 2
        have f3 := xr.cell 3
        simp only [List.getElem?_toArray, List.getElem?_cons_succ, List.getElem?_cons_zero] at f0 f1 f2 f3
        have hxl := xr.lt
        have hxl1 := xr1.lt
        clear huu hmv hmR hmem hnb hsf
        go_wp2_with fail
        refine region_plan (S := fun w' => w'.cell? ⟨w.heap.size, 0, none⟩ = some (.int .i64 k0) ∧ w'.cell? ⟨w.heap.size, 1, none⟩ = some (.int .i64 a0) ∧ w'.cell? ⟨w.heap.size, 2, none⟩ = some (.int .i64 b0) ∧ w'.cell? ⟨w.heap.size, 3, none⟩ = some (.slice ad0 n0 c0) ∧ w'.cell? ⟨ubl, uoff + j, none⟩ = some (.slice ma mn mc)) (n := 11) (ms := .take 0 (.take 1 (.take 2 (.take 3 (.take 4 (.fork 5 (.take 6 (.take 7 (.take 8 (.step 9 (.step 10 (.step 11 .done)))))) 9 (.step 5 (.take 6 (.take 7 (.take 8 (.step 10 (.step 11 .done))))))))))))
          (hm := by kernel_rfl) (hB := by kernel_rfl) (hQ := fun c a d v w h => by cases d <;> exact h) ?_
        have HS0 : Hid ((fun w' => w'.cell? ⟨w.heap.size, 0, none⟩ = some (.int .i64 k0) ∧ w'.cell? ⟨w.heap.size, 1, none⟩ = some (.int .i64 a0) ∧ w'.cell? ⟨w.heap.size, 2, none⟩ = some (.int .i64 b0) ∧ w'.cell? ⟨w.heap.size, 3, none⟩ = some (.slice ad0 n0 c0) ∧ w'.cell? ⟨ubl, uoff + j, none⟩ = some (.slice ma mn mc)) wr.drew) := ⟨f0, f1, f2, f3, hmv'⟩
        iterate 5
          rw [plan_take]
          simp only [List.getElem?_toArray, List.getElem?_cons_succ, List.getElem?_cons_zero]
          refine ⟨?_, .inl ⟨by rfl, ?_⟩, HS0.out, ?_⟩
          rotate_left
          · rintro w' ⟨s0, s1, s2, s3, s4⟩
            go_simp
            rfl
          simp only [Act.put, List.setIfInBounds_toArray, List.set_cons_zero, List.set_cons_succ]
        have hBd : Below w.heap.size w wr.drew := hBr.drew
        have hBdL : Below W11.heap.size W11 wr.drew := hbr.drew
        have HMd : Hid (IntsAt wr.drew (.slice ma mn mc) (lessR g M)[j]) := HMV2.out.ext (Below.drew (Below.refl _ _))
        have xd1 : Blk wr.drew (w.heap.size + 1) #[.int .i64 k1, .int .i64 n1, .slice ad1 s1 c1] 24 := xr1
        have hzd : wr.drew.heap.size = wr.heap.size := rfl
        have l1 : w.heap.size < wr.drew.heap.size := by omega
        have l2 : ubl < wr.drew.heap.size := by omega
        have l3 : W11.heap.size ≤ wr.drew.heap.size := by omega
        have l4 : w.heap.size + 1 < wr.drew.heap.size := by omega
        clear f0 f1 f2 f3 hmv' hzd hxl hxl1 xr xr1 HMV2
        generalize wr.drew = Wd at *
        have HS : Hid (∀ W', Below Wd.heap.size Wd W' → (fun w' => w'.cell? ⟨w.heap.size, 0, none⟩ = some (.int .i64 k0) ∧ w'.cell? ⟨w.heap.size, 1, none⟩ = some (.int .i64 a0) ∧ w'.cell? ⟨w.heap.size, 2, none⟩ = some (.int .i64 b0) ∧ w'.cell? ⟨w.heap.size, 3, none⟩ = some (.slice ad0 n0 c0) ∧ w'.cell? ⟨ubl, uoff + j, none⟩ = some (.slice ma mn mc)) W') := fun W' h =>
          ⟨(h.cell (p := ⟨_, 0, none⟩) l1).trans HS0.out.1, (h.cell (p := ⟨_, 1, none⟩) l1).trans HS0.out.2.1, (h.cell (p := ⟨_, 2, none⟩) l1).trans HS0.out.2.2.1, (h.cell (p := ⟨_, 3, none⟩) l1).trans HS0.out.2.2.2.1, (h.cell (p := ⟨ubl, _, none⟩) l2).trans HS0.out.2.2.2.2⟩
        rw [plan_fork]
        refine ⟨?_, ?_⟩
        ·
          rw [plan_step]
          simp only [List.getElem?_toArray, List.getElem?_cons_succ, List.getElem?_cons_zero]
          go_wp2_with fail
          refine (replay_any g _ _ _ _ (HG.out.ext hBd) HMd.out).mono ?_
          rintro e w5 ⟨⟨rv, rfl, hrv⟩, hb5⟩
          rw [HPJ.out, errV_zero]
          obtain ⟨rl, rn, rk, rad, rcap, rfl⟩ := hrv.shape
          have HS5 := Lib.hid (HS.out w5 hb5)
          have hz5 := hb5.size
          have HB5 := Lib.hid hb5
          have HRV5 := Lib.hid hrv
          clear hrv hb5
          go_wp2_with fail
          refine And.intro (fun _ => HS5.out) ?_
          iterate 3
            rw [plan_take]
            simp only [List.getElem?_toArray, List.getElem?_cons_succ, List.getElem?_cons_zero]
            refine ⟨?_, .inl ⟨by rfl, ?_⟩, HS5.out, ?_⟩
            rotate_left
            · rintro w' _
              go_simp
              rfl
            simp only [Act.put, List.setIfInBounds_toArray, List.set_cons_zero, List.set_cons_succ]
          rw [plan_step]
          simp only [List.getElem?_toArray, List.getElem?_cons_succ, List.getElem?_cons_zero]
          go_wp2_with fail
          refine And.intro (fun _ => HS.out _ (HB5.out.alloc (by omega) _)) ?_
          rw [plan_step]
          simp only [List.getElem?_toArray, List.getElem?_cons_succ, List.getElem?_cons_zero]
          go_wp2_with fail
          refine And.intro (fun _ => HS.out _ (HB5.out.alloc (by omega) _)) ?_
          have HZ : Hid (Below Wd.heap.size Wd (w5.alloc (.cells #[.bool rl, .int .i64 rn, .slice rad rk rcap] 27))) := HB5.out.alloc (by omega) _
          rw [plan_step]
          simp only [List.getElem?_toArray, List.getElem?_cons_succ, List.getElem?_cons_zero]
          go_wp2_with fail
          refine And.intro (fun h => absurd h (by decide)) ?_
          rw [plan_done]
          have xz := xd1.ext HZ.out
          have hBz : Below w.heap.size w (w5.alloc (.cells #[.bool rl, .int .i64 rn, .slice rad rk rcap] 27)) := hBd.trans (HZ.out.mono (by omega))
          have CF := Lib.hid (fails_any x _ _ _ _ (HT.out.ext hBz) (HX.out.ext hBz) (HRV5.out.ext ((Below.refl _ _).alloc (Nat.le_refl _) (.cells #[.bool rl, .int .i64 rn, .slice rad rk rcap] 27))))
          rw [HSF.out, errV_zero] at CF
          have z0 := xz.cell 0
          have z1 := xz.cell 1
          have z2 := xz.cell 2
          simp only [List.getElem?_toArray, List.getElem?_cons_succ, List.getElem?_cons_zero] at z0 z1 z2
          go_wp2_with fail
          refine CF.out.mono ?_
          rintro _ w8 ⟨rfl, hb8⟩
          have hb9 : Below Wd.heap.size Wd w8 := HZ.out.trans (hb8.mono HZ.out.size)
          clear z0 z1 z2
          go_wp2_with fail
          exact ⟨⟨j + 1, by omega, by go_num, hBdL.trans (hb9.mono l3)⟩, by simp [intOf]; omega⟩
        ·
          rw [plan_step]
          simp only [List.getElem?_toArray, List.getElem?_cons_succ, List.getElem?_cons_zero]
          go_wp2_with fail
          refine And.intro (HS.out _ ((Below.refl _ _).alloc (Nat.le_refl _) _)) ?_
          rw [plan_step]
          simp only [List.getElem?_toArray, List.getElem?_cons_succ, List.getElem?_cons_zero]
          go_wp2_with fail
          refine (replay_in g _ _ _ _ (HG.out.ext (hBd.alloc (by omega) _)) (HMd.out.ext ((Below.refl _ _).alloc (Nat.le_refl _) _))).mono ?_
          rintro e w5 ⟨⟨rv, rfl, hrv⟩, hb5⟩
          rw [HPJ.out, errV_zero]
          obtain ⟨rl, rn, rk, rad, rcap, rfl⟩ := hrv.shape
          have xb := (Blk.new Wd #[.bool false, .int .i64 0, .slice none 0 0] 27).ext hb5
          have HB5 : Hid (Below Wd.heap.size Wd w5) := ((Below.refl _ _).alloc (Nat.le_refl _) _).trans (hb5.mono (by simp))
          have HS5 := Lib.hid (HS.out w5 HB5.out)
          have HRV5 := Lib.hid hrv
          have hz5 := HB5.out.size
          have h0 := xb.cell 0
          have h1 := xb.cell 1
          have h2 := xb.cell 2
          simp only [List.getElem?_toArray, List.getElem?_cons_succ, List.getElem?_cons_zero] at h0 h1 h2
          have u0 := xb.unfrozen 0
          have u1 := xb.unfrozen 1
          have u2 := xb.unfrozen 2
          have hxb := xb.lt
          clear hrv hb5
          go_wp2_with fail
          refine And.intro (fun _ => HS5.out) ?_
          iterate 3
            rw [plan_take]
            simp only [List.getElem?_toArray, List.getElem?_cons_succ, List.getElem?_cons_zero]
            refine ⟨?_, .inl ⟨by rfl, ?_⟩, HS5.out, ?_⟩
            rotate_left
            · rintro w' _
              go_simp
              rfl
            simp only [Act.put, List.setIfInBounds_toArray, List.set_cons_zero, List.set_cons_succ]
          rw [plan_step]
          simp only [List.getElem?_toArray, List.getElem?_cons_succ, List.getElem?_cons_zero]
          go_wp2_with fail
          have HZ : Hid (Below Wd.heap.size Wd (((w5.setCell ⟨Wd.heap.size, 0, none⟩ (.bool rl)).setCell ⟨Wd.heap.size, 1, none⟩ (.int .i64 rn)).setCell ⟨Wd.heap.size, 2, none⟩ (.slice rad rk rcap))) := ((HB5.out.setCell (Nat.le_refl _) _).setCell (Nat.le_refl _) _).setCell (Nat.le_refl _) _
          have xbz := ((xb.set 0 (.bool rl)).set 1 (.int .i64 rn)).set 2 (.slice rad rk rcap)
          simp only [List.setIfInBounds_toArray, List.set_cons_zero, List.set_cons_succ] at xbz
          have HRVZ : Hid (ValAt (((w5.setCell ⟨Wd.heap.size, 0, none⟩ (.bool rl)).setCell ⟨Wd.heap.size, 1, none⟩ (.int .i64 rn)).setCell ⟨Wd.heap.size, 2, none⟩ (.slice rad rk rcap)) (.agg #[.bool rl, .int .i64 rn, .slice rad rk rcap]) (playR g (lessR g M)[j]).1) := by
            refine HRV5.out.keep (by simp only [size_setCell]; exact Nat.le_refl _) (fun b hb _ => ⟨trivial, ?_⟩)
            have hb' : Wd.heap.size + 1 ≤ b := by simpa using hb
            rw [Below.heap_setCell _ _ _ _ (by dsimp only; omega), Below.heap_setCell _ _ _ _ (by dsimp only; omega), Below.heap_setCell _ _ _ _ (by dsimp only; omega)]
          clear h0 h1 h2 u0 u1 u2
          refine And.intro (fun _ => HS.out _ HZ.out) ?_
          rw [plan_step]
          simp only [List.getElem?_toArray, List.getElem?_cons_succ, List.getElem?_cons_zero]
          go_wp2_with fail
          refine And.intro (fun h => absurd h (by decide)) ?_
          rw [plan_done]
          generalize ((w5.setCell ⟨Wd.heap.size, 0, none⟩ (.bool rl)).setCell ⟨Wd.heap.size, 1, none⟩ (.int .i64 rn)).setCell ⟨Wd.heap.size, 2, none⟩ (.slice rad rk rcap) = WZ at *
          have xz := xd1.ext HZ.out
          have hBz : Below w.heap.size w WZ := hBd.trans (HZ.out.mono (by omega))
          have CF := Lib.hid (fails_any x _ _ _ _ (HT.out.ext hBz) (HX.out.ext hBz) HRVZ.out)
          rw [HSF.out, errV_zero] at CF
          have z0 := xz.cell 0
          have z1 := xz.cell 1
          have z2 := xz.cell 2
          simp only [List.getElem?_toArray, List.getElem?_cons_succ, List.getElem?_cons_zero] at z0 z1 z2
          have y0 := xbz.cell 0
          have y1 := xbz.cell 1
          have y2 := xbz.cell 2
          simp only [List.getElem?_toArray, List.getElem?_cons_succ, List.getElem?_cons_zero] at y0 y1 y2
          go_wp2_with fail
          refine CF.out.mono ?_
          rintro _ w8 ⟨rfl, hb8⟩
          have hb9 : Below Wd.heap.size Wd w8 := HZ.out.trans (hb8.mono HZ.out.size)
          clear z0 z1 z2 y0 y1 y2
          go_wp2_with fail
          exact ⟨⟨j + 1, by omega, by go_num, hBdL.trans (hb9.mono l3)⟩, by simp [intOf]; omega⟩
      · have q1 : ¬ (j : Int) < (Rn : Int) := by omega
        go_wp2_with fail
        go_ret
        exact ⟨rfl, hBr⟩
  · have hmt : ¬ M = T := fun e => by rw [e] at hlt; simp [PTape.less, PTape.cmp_refl] at hlt
    rw [decide_eq_false hmt]
    have q1 : ((K : Int) == 0) = false := by simp; omega
    clear hk0 hmt HKM
    have CL := Lib.hid (less_any _ _ M T _ HMV.out HTV.out)
    rw [hlt] at CL
    clear hlt
    go_wp2_with fail
    refine CL.out.mono ?_
    rintro _ W12 ⟨rfl, n12, rfl⟩
    have hb : Below W11.heap.size W11 (W11.drewN n12) := Joins.below_draws _ _ _
    have HRV := Lib.hid (HRV.out.keep IntsS.reads hb.size (fun b hs hl => ⟨hs, hb.block b hl⟩))
    have hB12 : Below w.heap.size w (W11.drewN n12) := hB11.trans (hb.mono hB11.size)
    have X0 := X0.ext hb
    have X1 := X1.ext hb
    clear CL HMV HTV q1 hb
    generalize W11.drewN n12 = W12 at *
    go_wp2_with fail
    obtain ⟨uad, ucap, rfl, hul, hum, hun, huc⟩ := HRV.out
    have HUC := Lib.hid huc
    have HNN := Lib.hid (next_none HNX.out)
    obtain ⟨Rn, hRn⟩ : ∃ Rn, Rn = (lessR g M).length := ⟨_, rfl⟩
    have hrl := lessR_len g M
    rw [← hRn] at hul hrl
    have HRN := Lib.hid hRn
    unfold maxLen at hum
    rw [← hRn]
    clear huc hun hRn
    go_loopw [24] (fun i wr => ∃ j : Nat, j ≤ Rn ∧ i = .int .i64 j ∧ Below W12.heap.size W12 wr) (fun i _ => Rn - (intOf i).toNat)
    case atStart => exact ⟨0, by omega, rfl, Below.refl _ _⟩
    case round =>
      obtain ⟨j, hj, rfl, hbr⟩ := hrel
      have hzr := hbr.size
      have hzl := hB12.size
      have hBr : Below w.heap.size w wr := hB12.trans (hbr.mono hzl)
      by_cases hlt : j < Rn
      · have q0 : (0 : Int) ≤ (j : Int) := by omega
        have q1 : (j : Int) < (Rn : Int) := by omega
        have hjR : j < (lessR g M).length := by rw [← HRN.out]; exact hlt
        obtain ⟨ubl, uoff, rfl, hub1, hub2, huu⟩ := HUC.out (by rw [← HRN.out]; omega)
        obtain ⟨mv, hmv, hmR⟩ := huu j hjR
        have hmem := lessR_mem (played_fit HPM.out).1 (List.getElem_mem hjR)
        have hnb := HNN.out _ (List.getElem_mem hjR)
        have HPJ := Lib.hid hmem.2
        have hsf := sfR_ok hmem.2 HXC.out
        unfold sfR at hsf
        rw [if_neg (by have := hmem.2; omega), hnb] at hsf
        have HSF := Lib.hid hsf
        have HMV2 := Lib.hid (hmR.keepB hbr).at
        obtain ⟨ma, mn, mc, rfl⟩ : ∃ a n c, mv = .slice a n c := by obtain ⟨_, a, c, e, _⟩ := hmR; exact ⟨_, _, _, e⟩
        have hmv' := (hbr.cell (p := ⟨ubl, uoff + j, none⟩) hub1).trans hmv
        have xr := X0.ext hbr
        have xr1 := X1.ext hbr
        have f0 := xr.cell 0
        have f1 := xr.cell 1
        have f2 := xr.cell 2
        have f3 := xr.cell 3
        simp only [List.getElem?_toArray, List.getElem?_cons_succ, List.getElem?_cons_zero] at f0 f1 f2 f3
        have hxl := xr.lt
        have hxl1 := xr1.lt
        clear huu hmv hmR hmem hnb hsf
        go_wp2_with fail
        refine region_plan (S := fun w' => w'.cell? ⟨w.heap.size, 0, none⟩ = some (.int .i64 k0) ∧ w'.cell? ⟨w.heap.size, 1, none⟩ = some (.int .i64 a0) ∧ w'.cell? ⟨w.heap.size, 2, none⟩ = some (.int .i64 b0) ∧ w'.cell? ⟨w.heap.size, 3, none⟩ = some (.slice ad0 n0 c0) ∧ w'.cell? ⟨ubl, uoff + j, none⟩ = some (.slice ma mn mc)) (n := 11) (ms := .take 0 (.take 1 (.take 2 (.take 3 (.take 4 (.fork 5 (.take 6 (.take 7 (.take 8 (.step 9 (.step 10 (.step 11 .done)))))) 9 (.step 5 (.take 6 (.take 7 (.take 8 (.step 10 (.step 11 .done))))))))))))
          (hm := by kernel_rfl) (hB := by kernel_rfl) (hQ := fun c a d v w h => by cases d <;> exact h) ?_
        have HS0 : Hid ((fun w' => w'.cell? ⟨w.heap.size, 0, none⟩ = some (.int .i64 k0) ∧ w'.cell? ⟨w.heap.size, 1, none⟩ = some (.int .i64 a0) ∧ w'.cell? ⟨w.heap.size, 2, none⟩ = some (.int .i64 b0) ∧ w'.cell? ⟨w.heap.size, 3, none⟩ = some (.slice ad0 n0 c0) ∧ w'.cell? ⟨ubl, uoff + j, none⟩ = some (.slice ma mn mc)) wr.drew) := ⟨f0, f1, f2, f3, hmv'⟩
        iterate 5
          rw [plan_take]
          simp only [List.getElem?_toArray, List.getElem?_cons_succ, List.getElem?_cons_zero]
          refine ⟨?_, .inl ⟨by rfl, ?_⟩, HS0.out, ?_⟩
          rotate_left
          · rintro w' ⟨s0, s1, s2, s3, s4⟩
            go_simp
            rfl
          simp only [Act.put, List.setIfInBounds_toArray, List.set_cons_zero, List.set_cons_succ]
        have hBd : Below w.heap.size w wr.drew := hBr.drew
        have hBdL : Below W12.heap.size W12 wr.drew := hbr.drew
        have HMd : Hid (IntsAt wr.drew (.slice ma mn mc) (lessR g M)[j]) := HMV2.out.ext (Below.drew (Below.refl _ _))
        have xd1 : Blk wr.drew (w.heap.size + 1) #[.int .i64 k1, .int .i64 n1, .slice ad1 s1 c1] 24 := xr1
        have hzd : wr.drew.heap.size = wr.heap.size := rfl
        have l1 : w.heap.size < wr.drew.heap.size := by omega
        have l2 : ubl < wr.drew.heap.size := by omega
        have l3 : W12.heap.size ≤ wr.drew.heap.size := by omega
        have l4 : w.heap.size + 1 < wr.drew.heap.size := by omega
        clear f0 f1 f2 f3 hmv' hzd hxl hxl1 xr xr1 HMV2
        generalize wr.drew = Wd at *
        have HS : Hid (∀ W', Below Wd.heap.size Wd W' → (fun w' => w'.cell? ⟨w.heap.size, 0, none⟩ = some (.int .i64 k0) ∧ w'.cell? ⟨w.heap.size, 1, none⟩ = some (.int .i64 a0) ∧ w'.cell? ⟨w.heap.size, 2, none⟩ = some (.int .i64 b0) ∧ w'.cell? ⟨w.heap.size, 3, none⟩ = some (.slice ad0 n0 c0) ∧ w'.cell? ⟨ubl, uoff + j, none⟩ = some (.slice ma mn mc)) W') := fun W' h =>
          ⟨(h.cell (p := ⟨_, 0, none⟩) l1).trans HS0.out.1, (h.cell (p := ⟨_, 1, none⟩) l1).trans HS0.out.2.1, (h.cell (p := ⟨_, 2, none⟩) l1).trans HS0.out.2.2.1, (h.cell (p := ⟨_, 3, none⟩) l1).trans HS0.out.2.2.2.1, (h.cell (p := ⟨ubl, _, none⟩) l2).trans HS0.out.2.2.2.2⟩
        rw [plan_fork]
        refine ⟨?_, ?_⟩
        ·
          rw [plan_step]
          simp only [List.getElem?_toArray, List.getElem?_cons_succ, List.getElem?_cons_zero]
          go_wp2_with fail
          refine (replay_any g _ _ _ _ (HG.out.ext hBd) HMd.out).mono ?_
          rintro e w5 ⟨⟨rv, rfl, hrv⟩, hb5⟩
          rw [HPJ.out, errV_zero]
          obtain ⟨rl, rn, rk, rad, rcap, rfl⟩ := hrv.shape
          have HS5 := Lib.hid (HS.out w5 hb5)
          have hz5 := hb5.size
          have HB5 := Lib.hid hb5
          have HRV5 := Lib.hid hrv
          clear hrv hb5
          go_wp2_with fail
          refine And.intro (fun _ => HS5.out) ?_
          iterate 3
            rw [plan_take]
            simp only [List.getElem?_toArray, List.getElem?_cons_succ, List.getElem?_cons_zero]
            refine ⟨?_, .inl ⟨by rfl, ?_⟩, HS5.out, ?_⟩
            rotate_left
            · rintro w' _
              go_simp
              rfl
            simp only [Act.put, List.setIfInBounds_toArray, List.set_cons_zero, List.set_cons_succ]
          rw [plan_step]
          simp only [List.getElem?_toArray, List.getElem?_cons_succ, List.getElem?_cons_zero]
          go_wp2_with fail
          refine And.intro (fun _ => HS.out _ (HB5.out.alloc (by omega) _)) ?_
          rw [plan_step]
          simp only [List.getElem?_toArray, List.getElem?_cons_succ, List.getElem?_cons_zero]
          go_wp2_with fail
          refine And.intro (fun _ => HS.out _ (HB5.out.alloc (by omega) _)) ?_
          have HZ : Hid (Below Wd.heap.size Wd (w5.alloc (.cells #[.bool rl, .int .i64 rn, .slice rad rk rcap] 27))) := HB5.out.alloc (by omega) _
          rw [plan_step]
          simp only [List.getElem?_toArray, List.getElem?_cons_succ, List.getElem?_cons_zero]
          go_wp2_with fail
          refine And.intro (fun h => absurd h (by decide)) ?_
          rw [plan_done]
          have xz := xd1.ext HZ.out
          have hBz : Below w.heap.size w (w5.alloc (.cells #[.bool rl, .int .i64 rn, .slice rad rk rcap] 27)) := hBd.trans (HZ.out.mono (by omega))
          have CF := Lib.hid (fails_any x _ _ _ _ (HT.out.ext hBz) (HX.out.ext hBz) (HRV5.out.ext ((Below.refl _ _).alloc (Nat.le_refl _) (.cells #[.bool rl, .int .i64 rn, .slice rad rk rcap] 27))))
          rw [HSF.out, errV_zero] at CF
          have z0 := xz.cell 0
          have z1 := xz.cell 1
          have z2 := xz.cell 2
          simp only [List.getElem?_toArray, List.getElem?_cons_succ, List.getElem?_cons_zero] at z0 z1 z2
          go_wp2_with fail
          refine CF.out.mono ?_
          rintro _ w8 ⟨rfl, hb8⟩
          have hb9 : Below Wd.heap.size Wd w8 := HZ.out.trans (hb8.mono HZ.out.size)
          clear z0 z1 z2
          go_wp2_with fail
          exact ⟨⟨j + 1, by omega, by go_num, hBdL.trans (hb9.mono l3)⟩, by simp [intOf]; omega⟩
        ·
          rw [plan_step]
          simp only [List.getElem?_toArray, List.getElem?_cons_succ, List.getElem?_cons_zero]
          go_wp2_with fail
          refine And.intro (HS.out _ ((Below.refl _ _).alloc (Nat.le_refl _) _)) ?_
          rw [plan_step]
          simp only [List.getElem?_toArray, List.getElem?_cons_succ, List.getElem?_cons_zero]
          go_wp2_with fail
          refine (replay_in g _ _ _ _ (HG.out.ext (hBd.alloc (by omega) _)) (HMd.out.ext ((Below.refl _ _).alloc (Nat.le_refl _) _))).mono ?_
          rintro e w5 ⟨⟨rv, rfl, hrv⟩, hb5⟩
          rw [HPJ.out, errV_zero]
          obtain ⟨rl, rn, rk, rad, rcap, rfl⟩ := hrv.shape
          have xb := (Blk.new Wd #[.bool false, .int .i64 0, .slice none 0 0] 27).ext hb5
          have HB5 : Hid (Below Wd.heap.size Wd w5) := ((Below.refl _ _).alloc (Nat.le_refl _) _).trans (hb5.mono (by simp))
          have HS5 := Lib.hid (HS.out w5 HB5.out)
          have HRV5 := Lib.hid hrv
          have hz5 := HB5.out.size
          have h0 := xb.cell 0
          have h1 := xb.cell 1
          have h2 := xb.cell 2
          simp only [List.getElem?_toArray, List.getElem?_cons_succ, List.getElem?_cons_zero] at h0 h1 h2
          have u0 := xb.unfrozen 0
          have u1 := xb.unfrozen 1
          have u2 := xb.unfrozen 2
          have hxb := xb.lt
          clear hrv hb5
          go_wp2_with fail
          refine And.intro (fun _ => HS5.out) ?_
          iterate 3
            rw [plan_take]
            simp only [List.getElem?_toArray, List.getElem?_cons_succ, List.getElem?_cons_zero]
            refine ⟨?_, .inl ⟨by rfl, ?_⟩, HS5.out, ?_⟩
            rotate_left
            · rintro w' _
              go_simp
              rfl
            simp only [Act.put, List.setIfInBounds_toArray, List.set_cons_zero, List.set_cons_succ]
          rw [plan_step]
          simp only [List.getElem?_toArray, List.getElem?_cons_succ, List.getElem?_cons_zero]
          go_wp2_with fail
          have HZ : Hid (Below Wd.heap.size Wd (((w5.setCell ⟨Wd.heap.size, 0, none⟩ (.bool rl)).setCell ⟨Wd.heap.size, 1, none⟩ (.int .i64 rn)).setCell ⟨Wd.heap.size, 2, none⟩ (.slice rad rk rcap))) := ((HB5.out.setCell (Nat.le_refl _) _).setCell (Nat.le_refl _) _).setCell (Nat.le_refl _) _
          have xbz := ((xb.set 0 (.bool rl)).set 1 (.int .i64 rn)).set 2 (.slice rad rk rcap)
          simp only [List.setIfInBounds_toArray, List.set_cons_zero, List.set_cons_succ] at xbz
          have HRVZ : Hid (ValAt (((w5.setCell ⟨Wd.heap.size, 0, none⟩ (.bool rl)).setCell ⟨Wd.heap.size, 1, none⟩ (.int .i64 rn)).setCell ⟨Wd.heap.size, 2, none⟩ (.slice rad rk rcap)) (.agg #[.bool rl, .int .i64 rn, .slice rad rk rcap]) (playR g (lessR g M)[j]).1) := by
            refine HRV5.out.keep (by simp only [size_setCell]; exact Nat.le_refl _) (fun b hb _ => ⟨trivial, ?_⟩)
            have hb' : Wd.heap.size + 1 ≤ b := by simpa using hb
            rw [Below.heap_setCell _ _ _ _ (by dsimp only; omega), Below.heap_setCell _ _ _ _ (by dsimp only; omega), Below.heap_setCell _ _ _ _ (by dsimp only; omega)]
          clear h0 h1 h2 u0 u1 u2
          refine And.intro (fun _ => HS.out _ HZ.out) ?_
          rw [plan_step]
          simp only [List.getElem?_toArray, List.getElem?_cons_succ, List.getElem?_cons_zero]
          go_wp2_with fail
          refine And.intro (fun h => absurd h (by decide)) ?_
          rw [plan_done]
          generalize ((w5.setCell ⟨Wd.heap.size, 0, none⟩ (.bool rl)).setCell ⟨Wd.heap.size, 1, none⟩ (.int .i64 rn)).setCell ⟨Wd.heap.size, 2, none⟩ (.slice rad rk rcap) = WZ at *
          have xz := xd1.ext HZ.out
          have hBz : Below w.heap.size w WZ := hBd.trans (HZ.out.mono (by omega))
          have CF := Lib.hid (fails_any x _ _ _ _ (HT.out.ext hBz) (HX.out.ext hBz) HRVZ.out)
          rw [HSF.out, errV_zero] at CF
          have z0 := xz.cell 0
          have z1 := xz.cell 1
          have z2 := xz.cell 2
          simp only [List.getElem?_toArray, List.getElem?_cons_succ, List.getElem?_cons_zero] at z0 z1 z2
          have y0 := xbz.cell 0
          have y1 := xbz.cell 1
          have y2 := xbz.cell 2
          simp only [List.getElem?_toArray, List.getElem?_cons_succ, List.getElem?_cons_zero] at y0 y1 y2
          go_wp2_with fail
          refine CF.out.mono ?_
          rintro _ w8 ⟨rfl, hb8⟩
          have hb9 : Below Wd.heap.size Wd w8 := HZ.out.trans (hb8.mono HZ.out.size)
          clear z0 z1 z2 y0 y1 y2
          go_wp2_with fail
          exact ⟨⟨j + 1, by omega, by go_num, hBdL.trans (hb9.mono l3)⟩, by simp [intOf]; omega⟩
      · have q1 : ¬ (j : Int) < (Rn : Int) := by omega
        go_wp2_with fail
        go_ret
        exact ⟨rfl, hBr⟩
end Go.Proofs.YtcecpggkeaohnaaDoor
