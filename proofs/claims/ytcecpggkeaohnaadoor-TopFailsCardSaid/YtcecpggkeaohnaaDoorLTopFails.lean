/- The walk through the statement TopFails. -/
import Derived.Test.YtcecpggkeaohnaaDoorSHB
import Derived.Test.YtcecpggkeaohnaaDoorRNK
import Derived.Test.YtcecpggkeaohnaaDoorTAs
import Derived.Test.YtcecpggkeaohnaaDoorREG
import Derived.Test.YtcecpggkeaohnaaDoorTape
import Derived.Deep.DeepCutAuto
namespace Go.Proofs.YtcecpggkeaohnaaDoor
set_option maxRecDepth 100000
open Go.RowKit
set_option linter.unusedSimpArgs false
set_option linter.unusedVariables false
theorem just_at (w : World) : GenAt w (.agg #[.int .i64 1, .int .i64 0, .int .i64 0, .slice none 0 0]) (.mk 1 0 0 []) :=
  GenAt.mk (s := []) ⟨by omega, by omega⟩ ⟨by omega, by omega⟩ ⟨by omega, by omega⟩ (by simp) (by simp) (fun _ => rfl) (fun _ => .nilIface) (fun h => absurd h (by simp)) (fun i hi => absurd hi (by simp))
theorem just_fact (w : World) : Calls Tryd.prog 18 #[.agg #[.int .i64 1, .int .i64 0, .int .i64 0, .slice none 0 0]] w fun e w' => e = .returned (.tuple #[.int .i64 1, .nilIface]) ∧ Below w.heap.size w w' := by
  have h := gen_count_any (.mk 1 0 0 []) _ w (just_at w)
  have e : GT.countR (.mk 1 0 0 []) = (1, 0) := by decide +kernel
  rw [e, errV_zero] at h
  exact h
theorem told_pair (a : Int) (w : World) (hE : ErrTypeAt w) : Calls Tryd.prog 26 #[errV a, errV a] w fun ev w' => ev = .returned (.bool true) ∧ Below w.heap.size w w' := by
  have HE := Lib.hid hE
  clear hE
  go_enter Tryd.func26, Tryd.ntmps26
  go_wp2_with fail
  refine (told_err a _ HE.out).mono ?_
  rintro _ w1 ⟨rfl, hb1⟩
  go_wp2_with fail
  refine (told_err a _ (HE.out.ext hb1)).mono ?_
  rintro _ w2 ⟨rfl, hb2⟩
  have hB2 := hb1.trans (hb2.mono hb1.size)
  go_wp2_with fail
  go_ret
  exact ⟨by simp, hB2⟩
set_option maxRecDepth 100000 in
set_option maxHeartbeats 8000000 in
theorem topFails_go {v0 v1 v2 v3 : Value} (w : World) (hT : TakesAt w) (hE : ErrTypeAt w) (g : GT) (o0 : GenAt w v0 g) (x : ET) (o1 : ExprAt w v1 x) (n : Int) (o2 : IntAt v2 n) (many : Int) (o3 : IntAt v3 many) :
    Calls Tryd.prog 6 #[v0, v1, v2, v3] w fun e w' => e = .returned (.bool true) ∧ Below w.heap.size w w' := by
  have HT := Lib.hid hT
  have HE := Lib.hid hE
  have HG := Lib.hid o0
  have HX := Lib.hid o1
  obtain ⟨k0, a0, b0, n0, ad0, c0, rfl⟩ := o0.shape
  obtain ⟨k1, n1, s1, ad1, c1, rfl⟩ := o1.shape
  obtain ⟨rfl, _⟩ := o2
  obtain ⟨rfl, _⟩ := o3
  clear hT hE o0 o1
  go_enter Tryd.func6, Tryd.ntmps6
  go_wp2_with fail
  generalize hW0 : ((w.alloc (.cells #[.int .i64 k0, .int .i64 a0, .int .i64 b0, .slice ad0 n0 c0] 41)).alloc (.cells #[.int .i64 k1, .int .i64 n1, .slice ad1 s1 c1] 24)) = W0
  have hB0 : Below w.heap.size w W0 := by rw [← hW0]; repeat (first | with_reducible assumption | with_reducible exact Below.refl _ _ | with_reducible apply Below.drew | (with_reducible refine Below.alloc ?_ (by first | omega | (simp only [World.size_alloc, size_setCell, size_drew, size_drewN]; omega) | (dsimp only; omega) | (simp only [World.size_alloc, size_setCell, size_drew, size_drewN]; dsimp only; omega)) _) | (with_reducible refine Below.setCell ?_ (by first | omega | (simp only [World.size_alloc, size_setCell, size_drew, size_drewN]; omega) | (dsimp only; omega) | (simp only [World.size_alloc, size_setCell, size_drew, size_drewN]; dsimp only; omega)) _) | (with_reducible apply below_drewN))
  have X0 : Blk W0 (w.heap.size) #[.int .i64 k0, .int .i64 a0, .int .i64 b0, .slice ad0 n0 c0] 41 := by rw [← hW0]; exact ((Blk.new w #[.int .i64 k0, .int .i64 a0, .int .i64 b0, .slice ad0 n0 c0] 41)).alloc _
  have X1 : Blk W0 (w.heap.size + 1) #[.int .i64 k1, .int .i64 n1, .slice ad1 s1 c1] 24 := by rw [← hW0]; exact (show Blk ((w.alloc (.cells #[.int .i64 k0, .int .i64 a0, .int .i64 b0, .slice ad0 n0 c0] 41)).alloc (.cells #[.int .i64 k1, .int .i64 n1, .slice ad1 s1 c1] 24)) (w.heap.size + 1) _ _ by simpa using Blk.new (w.alloc (.cells #[.int .i64 k0, .int .i64 a0, .int .i64 b0, .slice ad0 n0 c0] 41)) #[.int .i64 k1, .int .i64 n1, .slice ad1 s1 c1] 24)
  clear hW0
  refine (just_fact _).mono ?_
  rintro e W1 ⟨rfl, hb⟩
  have hB1 : Below w.heap.size w W1 := hB0.trans (hb.mono hB0.size)
  have X0 := X0.ext hb
  have X1 := X1.ext hb
  clear hb hB0
  have g0 := X0.cell 0
  have g1 := X0.cell 1
  have g2 := X0.cell 2
  have g3 := X0.cell 3
  simp only [List.getElem?_toArray, List.getElem?_cons_succ, List.getElem?_cons_zero] at g0 g1 g2 g3
  have f0 := X1.cell 0
  have f1 := X1.cell 1
  have f2 := X1.cell 2
  simp only [List.getElem?_toArray, List.getElem?_cons_succ, List.getElem?_cons_zero] at f0 f1 f2
  go_wp2_with fail
  by_cases he1 : runErr g x many = 0
  case neg =>
    refine (run_bad g x n many he1 _ _ _ (HT.out.ext hB1) (HG.out.ext hB1) (HX.out.ext hB1)).mono ?_
    rintro _ W3 ⟨rfl, hb⟩
    have hB3 := hB1.trans (hb.mono hB1.size)
    have XR : Blk (W3.alloc (.cells #[.int .i64 0, .bool false, .slice none 0 0, .int .i64 0] 53)) W3.heap.size #[.int .i64 0, .bool false, .slice none 0 0, .int .i64 0] 53 := Blk.new _ _ _
    have hB4 : Below w.heap.size w (W3.alloc (.cells #[.int .i64 0, .bool false, .slice none 0 0, .int .i64 0] 53)) := hB3.alloc (hB3.size) _
    clear g0 g1 g2 g3 f0 f1 f2 hb
    have r0 := XR.cell 0
    have r1 := XR.cell 1
    have r2 := XR.cell 2
    have r3 := XR.cell 3
    simp only [List.getElem?_toArray, List.getElem?_cons_succ, List.getElem?_cons_zero] at r0 r1 r2 r3
    rw [errV_ne he1]
    clear he1
    go_wp2_with fail
    go_ret
    exact ⟨rfl, hB4⟩
  obtain ⟨hcc, hxx, hm0, hm1⟩ := runErr_zero he1
  obtain ⟨m, rfl⟩ := Int.eq_ofNat_of_zero_le hm0
  have hm50 : m ≤ 50 := by omega
  refine (run_ok g x n m hm50 hcc hxx _ _ _ (HT.out.ext hB1) (HG.out.ext hB1) (HX.out.ext hB1)).mono ?_
  rintro _ W3 ⟨⟨rv, rfl, hrv⟩, hb⟩
  have hB3 := hB1.trans (hb.mono hB1.size)
  have hR := Lib.hid (show runR g x n m = runF g x m (firstS n) 0 from rfl)
  have HLW := Lib.hid (runF_law g x hcc m (firstS n) 0)
  rw [← hR.out] at HLW
  have HXC := Lib.hid hxx
  obtain ⟨tad, tcap, rfl, htv⟩ := hrv.form
  have HMV := Lib.hid htv
  have X0 := X0.ext hb
  have X1 := X1.ext hb
  generalize hrr : (runR g x n m) = R at *
  obtain ⟨Rr, Rf, M, Rs⟩ := R
  dsimp only at HLW HMV ⊢
  have X0 := X0.alloc (.cells #[.int .i64 (Rr : Nat), .bool Rf, .slice tad M.length tcap, .int .i64 (Rs : Nat)] 53)
  have X1 := X1.alloc (.cells #[.int .i64 (Rr : Nat), .bool Rf, .slice tad M.length tcap, .int .i64 (Rs : Nat)] 53)
  have hB4 : Below w.heap.size w (W3.alloc (.cells #[.int .i64 (Rr : Nat), .bool Rf, .slice tad M.length tcap, .int .i64 (Rs : Nat)] 53)) := hB3.alloc (hB3.size) _
  have XR : Blk (W3.alloc (.cells #[.int .i64 (Rr : Nat), .bool Rf, .slice tad M.length tcap, .int .i64 (Rs : Nat)] 53)) W3.heap.size #[.int .i64 (Rr : Nat), .bool Rf, .slice tad M.length tcap, .int .i64 (Rs : Nat)] 53 := Blk.new _ _ _
  have HMV := Lib.hid (HMV.out.ext ((Below.refl _ _).alloc (Nat.le_refl _) (.cells #[.int .i64 (Rr : Nat), .bool Rf, .slice tad M.length tcap, .int .i64 (Rs : Nat)] 53)))
  clear g0 g1 g2 g3 f0 f1 f2 hb hrr he1 hR hcc hxx hrv htv hm0 hm1 hB3
  go_upto_region 3 with (fail)
  generalize hWR : W3.alloc (.cells #[.int .i64 (Rr : Nat), .bool Rf, .slice tad M.length tcap, .int .i64 (Rs : Nat)] 53) = WR at *
  clear hWR
  have r0 := XR.cell 0
  have r1 := XR.cell 1
  have r2 := XR.cell 2
  have r3 := XR.cell 3
  simp only [List.getElem?_toArray, List.getElem?_cons_succ, List.getElem?_cons_zero] at r0 r1 r2 r3
  have g0 := X0.cell 0
  have g1 := X0.cell 1
  have g2 := X0.cell 2
  have g3 := X0.cell 3
  simp only [List.getElem?_toArray, List.getElem?_cons_succ, List.getElem?_cons_zero] at g0 g1 g2 g3
  cases Rf with
  | false =>
    have hrt : M = [] := by
      rcases HLW.out with ⟨_, _, h1, h2⟩ | ⟨h, _⟩
      · exact h1
      · cases h
    subst hrt
    clear HLW
    go_wp2_with fail
    go_ret
    exact ⟨rfl, hB4⟩
  | true =>
    have hl : ∃ t, (playR g t).2 = 0 ∧ badR g x t = true ∧ M = (walkR g x t).1 := by
      rcases HLW.out with ⟨h, _⟩ | ⟨_, h1, h2, t, h3, h4, h5, _⟩
      · cases h
      · exact ⟨t, h3, h4, h5⟩
    obtain ⟨t, ht1, ht2, rfl⟩ := hl
    obtain ⟨hpm, hbm, hnx, _, _⟩ := walk_law _ t (Nat.le_refl _) ht1 ht2
    have HPM := Lib.hid hpm
    have HNX := Lib.hid hnx
    have HMM := Lib.hid hbm
    clear hpm hbm hnx ht1 ht2 HLW
    generalize (walkR g x t).1 = M at *
    go_wp2_with fail
    refine (replay_any g M _ _ _ (HG.out.ext hB4) HMV.out).mono ?_
    rintro _ W5 ⟨⟨vv, rfl, hvv⟩, hb⟩
    clear r0 r1 r2 r3 g0 g1 g2 g3
    have hB11 : Below w.heap.size w W5 := hB4.trans (hb.mono hB4.size)
    have X0 := X0.ext hb
    have X1 := X1.ext hb
    have XR := XR.ext hb
    have HMV := Lib.hid (HMV.out.ext hb)
    clear hb hB4
    have HVV := Lib.hid hvv
    have hpm := HPM.out
    obtain ⟨vl, vn, vk, vad, vcap, rfl⟩ := hvv.shape
    rw [hpm, errV_zero]
    clear hvv hpm
    go_upto_region 8 with (fail)
    have hb : Below W5.heap.size W5 (W5.alloc (.cells #[.bool vl, .int .i64 vn, .slice vad vk vcap] 27)) := (Below.refl _ _).alloc (Nat.le_refl _) _
    have XV : Blk (W5.alloc (.cells #[.bool vl, .int .i64 vn, .slice vad vk vcap] 27)) W5.heap.size #[.bool vl, .int .i64 vn, .slice vad vk vcap] 27 := Blk.new _ _ _
    generalize hWV : W5.alloc (.cells #[.bool vl, .int .i64 vn, .slice vad vk vcap] 27) = WV at *
    clear hWV
    have hB12 : Below w.heap.size w WV := hB11.trans (hb.mono hB11.size)
    have X0 := X0.ext hb
    have X1 := X1.ext hb
    have XR := XR.ext hb
    have HMV := Lib.hid (HMV.out.ext hb)
    have HVV := Lib.hid (HVV.out.ext hb)
    clear hb hB11
    have f0_0 := X1.cell 0
    have f0_1 := X1.cell 1
    have f0_2 := X1.cell 2
    simp only [List.getElem?_toArray, List.getElem?_cons_succ, List.getElem?_cons_zero] at f0_0 f0_1 f0_2
    have f1_0 := XV.cell 0
    have f1_1 := XV.cell 1
    have f1_2 := XV.cell 2
    simp only [List.getElem?_toArray, List.getElem?_cons_succ, List.getElem?_cons_zero] at f1_0 f1_1 f1_2
    go_wp2_with fail
    refine (fails_any x _ _ _ _ (HT.out.ext hB12) (HX.out.ext hB12) HVV.out).mono ?_
    rintro e W13 ⟨rfl, hb⟩
    clear f0_0 f0_1 f0_2 f1_0 f1_1 f1_2
    have hB13 : Below w.heap.size w W13 := hB12.trans (hb.mono hB12.size)
    have X0 := X0.ext hb
    have X1 := X1.ext hb
    have XR := XR.ext hb
    have HMV := Lib.hid (HMV.out.ext hb)
    have HVV := Lib.hid (HVV.out.ext hb)
    clear hb hB12
    have hfl : ET.failsR x (playR g M).1 = (true, 0) := by
      have h1 := sfR_ok HPM.out HXC.out
      unfold sfR at h1
      rw [if_neg (by have := HPM.out; omega), HMM.out] at h1
      exact h1
    rw [hfl, errV_zero]
    clear hfl XV HVV
    have f0_0 := X0.cell 0
    have f0_1 := X0.cell 1
    have f0_2 := X0.cell 2
    have f0_3 := X0.cell 3
    simp only [List.getElem?_toArray, List.getElem?_cons_succ, List.getElem?_cons_zero] at f0_0 f0_1 f0_2 f0_3
    have f1_0 := XR.cell 0
    have f1_1 := XR.cell 1
    have f1_2 := XR.cell 2
    have f1_3 := XR.cell 3
    simp only [List.getElem?_toArray, List.getElem?_cons_succ, List.getElem?_cons_zero] at f1_0 f1_1 f1_2 f1_3
    go_wp2_with fail
    refine (rose_ok g M HPM.out _ _ _ (HG.out.ext hB13) HMV.out).mono ?_
    rintro e W14 ⟨⟨rv, rfl, hrv⟩, hb⟩
    clear f0_0 f0_1 f0_2 f0_3 f1_0 f1_1 f1_2 f1_3
    have hB14 : Below w.heap.size w W14 := hB13.trans (hb.mono hB13.size)
    have X0 := X0.ext hb
    have X1 := X1.ext hb
    have XR := XR.ext hb
    have HMV := Lib.hid (HMV.out.ext hb)
    clear hb hB13
    have HRV := Lib.hid hrv
    clear hrv
    go_wp2_with fail
    obtain ⟨uad, ucap, rfl, hul, hum, hun, huc⟩ := HRV.out
    have HUC := Lib.hid huc
    have HNN := Lib.hid (next_none HNX.out)
    obtain ⟨Rn, hRn⟩ : ∃ Rn, Rn = (lessR g M).length := ⟨_, rfl⟩
    have hrl := lessR_len g M
    rw [← hRn] at hul hrl
    have HRN := Lib.hid hRn
    unfold maxLen at hum
    rw [← hRn]
    clear huc hun hRn
    go_loopw [19] (fun i wr => ∃ j : Nat, j ≤ Rn ∧ i = .int .i64 j ∧ Below W14.heap.size W14 wr) (fun i _ => Rn - (intOf i).toNat)
    case atStart => exact ⟨0, by omega, rfl, Below.refl _ _⟩
    case round =>
      obtain ⟨j, hj, rfl, hbr⟩ := hrel
      have hzr := hbr.size
      have hzl := hB14.size
      have hBr : Below w.heap.size w wr := hB14.trans (hbr.mono hzl)
      by_cases hlt : j < Rn
      · have q0 : (0 : Int) ≤ (j : Int) := by omega
        have q1 : (j : Int) < (Rn : Int) := by omega
        have hjR : j < (lessR g M).length := by rw [← HRN.out]; exact hlt
        obtain ⟨ubl, uoff, rfl, hub1, hub2, huu⟩ := HUC.out (by rw [← HRN.out]; omega)
        obtain ⟨mv, hmv, hmR⟩ := huu j hjR
        have hmem := lessR_mem (played_fit HPM.out).1 (List.getElem_mem hjR)
        have hnb := HNN.out _ (List.getElem_mem hjR)
        have HPJ := Lib.hid hmem.2
        have hsf := sfR_ok hmem.2 HXC.out
        unfold sfR at hsf
        rw [if_neg (by have := hmem.2; omega), hnb] at hsf
        have HSF := Lib.hid hsf
        have HMV2 := Lib.hid (hmR.keepB hbr).at
        obtain ⟨ma, mn, mc, rfl⟩ : ∃ a n c, mv = .slice a n c := by obtain ⟨_, a, c, e, _⟩ := hmR; exact ⟨_, _, _, e⟩
        have hmv' := (hbr.cell (p := ⟨ubl, uoff + j, none⟩) hub1).trans hmv
        have xr := X0.ext hbr
        have xr1 := X1.ext hbr
        have f0 := xr.cell 0
        have f1 := xr.cell 1
        have f2 := xr.cell 2
        have f3 := xr.cell 3
        simp only [List.getElem?_toArray, List.getElem?_cons_succ, List.getElem?_cons_zero] at f0 f1 f2 f3
        have hxl := xr.lt
        have hxl1 := xr1.lt
        clear huu hmv hmR hmem hnb hsf
        go_wp2_with fail
        refine region_plan (S := fun w' => w'.cell? ⟨w.heap.size, 0, none⟩ = some (.int .i64 k0) ∧ w'.cell? ⟨w.heap.size, 1, none⟩ = some (.int .i64 a0) ∧ w'.cell? ⟨w.heap.size, 2, none⟩ = some (.int .i64 b0) ∧ w'.cell? ⟨w.heap.size, 3, none⟩ = some (.slice ad0 n0 c0) ∧ w'.cell? ⟨ubl, uoff + j, none⟩ = some (.slice ma mn mc)) (n := 11) (ms := .take 0 (.take 1 (.take 2 (.take 3 (.take 4 (.fork 5 (.take 6 (.take 7 (.take 8 (.step 9 (.step 10 (.step 11 .done)))))) 9 (.step 5 (.take 6 (.take 7 (.take 8 (.step 10 (.step 11 .done))))))))))))
          (hm := by kernel_rfl) (hB := by kernel_rfl) (hQ := fun c a d v w h => by cases d <;> exact h) ?_
        have HS0 : Hid ((fun w' => w'.cell? ⟨w.heap.size, 0, none⟩ = some (.int .i64 k0) ∧ w'.cell? ⟨w.heap.size, 1, none⟩ = some (.int .i64 a0) ∧ w'.cell? ⟨w.heap.size, 2, none⟩ = some (.int .i64 b0) ∧ w'.cell? ⟨w.heap.size, 3, none⟩ = some (.slice ad0 n0 c0) ∧ w'.cell? ⟨ubl, uoff + j, none⟩ = some (.slice ma mn mc)) wr.drew) := ⟨f0, f1, f2, f3, hmv'⟩
        iterate 5
          rw [plan_take]
          simp only [List.getElem?_toArray, List.getElem?_cons_succ, List.getElem?_cons_zero]
          refine ⟨?_, .inl ⟨by rfl, ?_⟩, HS0.out, ?_⟩
          rotate_left
          · rintro w' ⟨s0, s1, s2, s3, s4⟩
            go_simp
            rfl
          simp only [Act.put, List.setIfInBounds_toArray, List.set_cons_zero, List.set_cons_succ]
        have hBd : Below w.heap.size w wr.drew := hBr.drew
        have hBdL : Below W14.heap.size W14 wr.drew := hbr.drew
        have HMd : Hid (IntsAt wr.drew (.slice ma mn mc) (lessR g M)[j]) := HMV2.out.ext (Below.drew (Below.refl _ _))
        have xd1 : Blk wr.drew (w.heap.size + 1) #[.int .i64 k1, .int .i64 n1, .slice ad1 s1 c1] 24 := xr1
        have hzd : wr.drew.heap.size = wr.heap.size := rfl
        have l1 : w.heap.size < wr.drew.heap.size := by omega
        have l2 : ubl < wr.drew.heap.size := by omega
        have l3 : W14.heap.size ≤ wr.drew.heap.size := by omega
        have l4 : w.heap.size + 1 < wr.drew.heap.size := by omega
        clear f0 f1 f2 f3 hmv' hzd hxl hxl1 xr xr1 HMV2
        generalize wr.drew = Wd at *
        have HS : Hid (∀ W', Below Wd.heap.size Wd W' → (fun w' => w'.cell? ⟨w.heap.size, 0, none⟩ = some (.int .i64 k0) ∧ w'.cell? ⟨w.heap.size, 1, none⟩ = some (.int .i64 a0) ∧ w'.cell? ⟨w.heap.size, 2, none⟩ = some (.int .i64 b0) ∧ w'.cell? ⟨w.heap.size, 3, none⟩ = some (.slice ad0 n0 c0) ∧ w'.cell? ⟨ubl, uoff + j, none⟩ = some (.slice ma mn mc)) W') := fun W' h =>
          ⟨(h.cell (p := ⟨_, 0, none⟩) l1).trans HS0.out.1, (h.cell (p := ⟨_, 1, none⟩) l1).trans HS0.out.2.1, (h.cell (p := ⟨_, 2, none⟩) l1).trans HS0.out.2.2.1, (h.cell (p := ⟨_, 3, none⟩) l1).trans HS0.out.2.2.2.1, (h.cell (p := ⟨ubl, _, none⟩) l2).trans HS0.out.2.2.2.2⟩
        rw [plan_fork]
        refine ⟨?_, ?_⟩
        ·
          rw [plan_step]
          simp only [List.getElem?_toArray, List.getElem?_cons_succ, List.getElem?_cons_zero]
          go_wp2_with fail
          refine (replay_any g _ _ _ _ (HG.out.ext hBd) HMd.out).mono ?_
          rintro e w5 ⟨⟨rv, rfl, hrv⟩, hb5⟩
          rw [HPJ.out, errV_zero]
          obtain ⟨rl, rn, rk, rad, rcap, rfl⟩ := hrv.shape
          have HS5 := Lib.hid (HS.out w5 hb5)
          have hz5 := hb5.size
          have HB5 := Lib.hid hb5
          have HRV5 := Lib.hid hrv
          clear hrv hb5
          go_wp2_with fail
          refine And.intro (fun _ => HS5.out) ?_
          iterate 3
            rw [plan_take]
            simp only [List.getElem?_toArray, List.getElem?_cons_succ, List.getElem?_cons_zero]
            refine ⟨?_, .inl ⟨by rfl, ?_⟩, HS5.out, ?_⟩
            rotate_left
            · rintro w' _
              go_simp
              rfl
            simp only [Act.put, List.setIfInBounds_toArray, List.set_cons_zero, List.set_cons_succ]
          rw [plan_step]
          simp only [List.getElem?_toArray, List.getElem?_cons_succ, List.getElem?_cons_zero]
          go_wp2_with fail
          refine And.intro (fun _ => HS.out _ (HB5.out.alloc (by omega) _)) ?_
          rw [plan_step]
          simp only [List.getElem?_toArray, List.getElem?_cons_succ, List.getElem?_cons_zero]
          go_wp2_with fail
          refine And.intro (fun _ => HS.out _ (HB5.out.alloc (by omega) _)) ?_
          have HZ : Hid (Below Wd.heap.size Wd (w5.alloc (.cells #[.bool rl, .int .i64 rn, .slice rad rk rcap] 27))) := HB5.out.alloc (by omega) _
          rw [plan_step]
          simp only [List.getElem?_toArray, List.getElem?_cons_succ, List.getElem?_cons_zero]
          go_wp2_with fail
          refine And.intro (fun h => absurd h (by decide)) ?_
          rw [plan_done]
          have xz := xd1.ext HZ.out
          have hBz : Below w.heap.size w (w5.alloc (.cells #[.bool rl, .int .i64 rn, .slice rad rk rcap] 27)) := hBd.trans (HZ.out.mono (by omega))
          have CF := Lib.hid (fails_any x _ _ _ _ (HT.out.ext hBz) (HX.out.ext hBz) (HRV5.out.ext ((Below.refl _ _).alloc (Nat.le_refl _) (.cells #[.bool rl, .int .i64 rn, .slice rad rk rcap] 27))))
          rw [HSF.out, errV_zero] at CF
          have z0 := xz.cell 0
          have z1 := xz.cell 1
          have z2 := xz.cell 2
          simp only [List.getElem?_toArray, List.getElem?_cons_succ, List.getElem?_cons_zero] at z0 z1 z2
          go_wp2_with fail
          refine CF.out.mono ?_
          rintro _ w8 ⟨rfl, hb8⟩
          have hb9 : Below Wd.heap.size Wd w8 := HZ.out.trans (hb8.mono HZ.out.size)
          clear z0 z1 z2
          go_wp2_with fail
          exact ⟨⟨j + 1, by omega, by go_num, hBdL.trans (hb9.mono l3)⟩, by simp [intOf]; omega⟩
        ·
          rw [plan_step]
          simp only [List.getElem?_toArray, List.getElem?_cons_succ, List.getElem?_cons_zero]
          go_wp2_with fail
          refine And.intro (HS.out _ ((Below.refl _ _).alloc (Nat.le_refl _) _)) ?_
          rw [plan_step]
          simp only [List.getElem?_toArray, List.getElem?_cons_succ, List.getElem?_cons_zero]
          go_wp2_with fail
          refine (replay_in g _ _ _ _ (HG.out.ext (hBd.alloc (by omega) _)) (HMd.out.ext ((Below.refl _ _).alloc (Nat.le_refl _) _))).mono ?_
          rintro e w5 ⟨⟨rv, rfl, hrv⟩, hb5⟩
          rw [HPJ.out, errV_zero]
          obtain ⟨rl, rn, rk, rad, rcap, rfl⟩ := hrv.shape
          have xb := (Blk.new Wd #[.bool false, .int .i64 0, .slice none 0 0] 27).ext hb5
          have HB5 : Hid (Below Wd.heap.size Wd w5) := ((Below.refl _ _).alloc (Nat.le_refl _) _).trans (hb5.mono (by simp))
          have HS5 := Lib.hid (HS.out w5 HB5.out)
          have HRV5 := Lib.hid hrv
          have hz5 := HB5.out.size
          have h0 := xb.cell 0
          have h1 := xb.cell 1
          have h2 := xb.cell 2
          simp only [List.getElem?_toArray, List.getElem?_cons_succ, List.getElem?_cons_zero] at h0 h1 h2
          have u0 := xb.unfrozen 0
          have u1 := xb.unfrozen 1
          have u2 := xb.unfrozen 2
          have hxb := xb.lt
          clear hrv hb5
          go_wp2_with fail
          refine And.intro (fun _ => HS5.out) ?_
          iterate 3
            rw [plan_take]
            simp only [List.getElem?_toArray, List.getElem?_cons_succ, List.getElem?_cons_zero]
            refine ⟨?_, .inl ⟨by rfl, ?_⟩, HS5.out, ?_⟩
            rotate_left
            · rintro w' _
              go_simp
              rfl
            simp only [Act.put, List.setIfInBounds_toArray, List.set_cons_zero, List.set_cons_succ]
          rw [plan_step]
          simp only [List.getElem?_toArray, List.getElem?_cons_succ, List.getElem?_cons_zero]
          go_wp2_with fail
          have HZ : Hid (Below Wd.heap.size Wd (((w5.setCell ⟨Wd.heap.size, 0, none⟩ (.bool rl)).setCell ⟨Wd.heap.size, 1, none⟩ (.int .i64 rn)).setCell ⟨Wd.heap.size, 2, none⟩ (.slice rad rk rcap))) := ((HB5.out.setCell (Nat.le_refl _) _).setCell (Nat.le_refl _) _).setCell (Nat.le_refl _) _
          have xbz := ((xb.set 0 (.bool rl)).set 1 (.int .i64 rn)).set 2 (.slice rad rk rcap)
          simp only [List.setIfInBounds_toArray, List.set_cons_zero, List.set_cons_succ] at xbz
          have HRVZ : Hid (ValAt (((w5.setCell ⟨Wd.heap.size, 0, none⟩ (.bool rl)).setCell ⟨Wd.heap.size, 1, none⟩ (.int .i64 rn)).setCell ⟨Wd.heap.size, 2, none⟩ (.slice rad rk rcap)) (.agg #[.bool rl, .int .i64 rn, .slice rad rk rcap]) (playR g (lessR g M)[j]).1) := by
            refine HRV5.out.keep (by simp only [size_setCell]; exact Nat.le_refl _) (fun b hb _ => ⟨trivial, ?_⟩)
            have hb' : Wd.heap.size + 1 ≤ b := by simpa using hb
            rw [Below.heap_setCell _ _ _ _ (by dsimp only; omega), Below.heap_setCell _ _ _ _ (by dsimp only; omega), Below.heap_setCell _ _ _ _ (by dsimp only; omega)]
          clear h0 h1 h2 u0 u1 u2
          refine And.intro (fun _ => HS.out _ HZ.out) ?_
          rw [plan_step]
          simp only [List.getElem?_toArray, List.getElem?_cons_succ, List.getElem?_cons_zero]
          go_wp2_with fail
          refine And.intro (fun h => absurd h (by decide)) ?_
          rw [plan_done]
          generalize ((w5.setCell ⟨Wd.heap.size, 0, none⟩ (.bool rl)).setCell ⟨Wd.heap.size, 1, none⟩ (.int .i64 rn)).setCell ⟨Wd.heap.size, 2, none⟩ (.slice rad rk rcap) = WZ at *
          have xz := xd1.ext HZ.out
          have hBz : Below w.heap.size w WZ := hBd.trans (HZ.out.mono (by omega))
          have CF := Lib.hid (fails_any x _ _ _ _ (HT.out.ext hBz) (HX.out.ext hBz) HRVZ.out)
          rw [HSF.out, errV_zero] at CF
          have z0 := xz.cell 0
          have z1 := xz.cell 1
          have z2 := xz.cell 2
          simp only [List.getElem?_toArray, List.getElem?_cons_succ, List.getElem?_cons_zero] at z0 z1 z2
          have y0 := xbz.cell 0
          have y1 := xbz.cell 1
          have y2 := xbz.cell 2
          simp only [List.getElem?_toArray, List.getElem?_cons_succ, List.getElem?_cons_zero] at y0 y1 y2
          go_wp2_with fail
          refine CF.out.mono ?_
          rintro _ w8 ⟨rfl, hb8⟩
          have hb9 : Below Wd.heap.size Wd w8 := HZ.out.trans (hb8.mono HZ.out.size)
          clear z0 z1 z2 y0 y1 y2
          go_wp2_with fail
          exact ⟨⟨j + 1, by omega, by go_num, hBdL.trans (hb9.mono l3)⟩, by simp [intOf]; omega⟩
      · have q1 : ¬ (j : Int) < (Rn : Int) := by omega
        have xr := X0.ext hbr
        have xrr := XR.ext hbr
        have HMVr := Lib.hid (HMV.out.ext hbr)
        have g0 := xr.cell 0
        have g1 := xr.cell 1
        have g2 := xr.cell 2
        have g3 := xr.cell 3
        simp only [List.getElem?_toArray, List.getElem?_cons_succ, List.getElem?_cons_zero] at g0 g1 g2 g3
        have r0 := xrr.cell 0
        have r1 := xrr.cell 1
        have r2 := xrr.cell 2
        have r3 := xrr.cell 3
        simp only [List.getElem?_toArray, List.getElem?_cons_succ, List.getElem?_cons_zero] at r0 r1 r2 r3
        have HET := Lib.hid (HE.out.ext hBr)
        go_wp2_with fail
        refine (gen_count_any g _ wr (HG.out.ext hBr)).mono ?_
        rintro _ W8 ⟨rfl, hb8⟩
        have hB8 := hBr.trans (hb8.mono hBr.size)
        have xr := xr.ext hb8
        have xrr := xrr.ext hb8
        have HMV8 := Lib.hid (HMVr.out.ext hb8)
        have HE8 := Lib.hid (HET.out.ext hb8)
        clear g0 g1 g2 g3 r0 r1 r2 r3 hb8 HMVr
        have g0 := xr.cell 0
        have g1 := xr.cell 1
        have g2 := xr.cell 2
        have g3 := xr.cell 3
        simp only [List.getElem?_toArray, List.getElem?_cons_succ, List.getElem?_cons_zero] at g0 g1 g2 g3
        have r0 := xrr.cell 0
        have r1 := xrr.cell 1
        have r2 := xrr.cell 2
        have r3 := xrr.cell 3
        simp only [List.getElem?_toArray, List.getElem?_cons_succ, List.getElem?_cons_zero] at r0 r1 r2 r3
        go_wp2_with fail
        by_cases h6 : (GT.countR g).2 = 0
        · have hok := GT.ok_of_countR h6
          have hce : (GT.countR g).1 = GT.count g := by
            unfold GT.countR at h6 ⊢
            rw [if_pos hok.1] at h6 ⊢
            by_cases hq : 1048576 < GT.count g
            · rw [if_pos hq] at h6; simp at h6
            · rw [if_neg hq]
          have hms : mendR g M = M := (played_stays g hok.1 M).1 HPM.out
          obtain ⟨k, hk1, hk2, hk3⟩ := mended_nth hok M
          rw [hms] at hk1
          refine (rank_any g hok k M hk1 _ _ W8 (HG.out.ext hB8) HMV8.out).mono ?_
          rintro _ W9 ⟨rfl, hb9⟩
          have hB9 := hB8.trans (hb9.mono hB8.size)
          rw [h6, hce, errV_zero]
          clear g0 g1 g2 g3 r0 r1 r2 r3 hb9 h6 hok hce hms hk1
          generalize GT.count g = cn at *
          go_wp2_with fail
          go_ret
          exact ⟨rfl, hB9⟩
        · refine (rank_bad1 g h6 _ _ W8 (HG.out.ext hB8)).mono ?_
          rintro _ W9 ⟨rfl, hb9⟩
          have hB9 := hB8.trans (hb9.mono hB8.size)
          have CT := Lib.hid (told_pair (GT.countR g).2 W9 (HE8.out.ext hb9))
          clear g0 g1 g2 g3 r0 r1 r2 r3 hb9
          generalize (GT.countR g).1 = cn at *
          generalize (GT.countR g).2 = ce at *
          rw [errV_ne h6] at CT ⊢
          clear h6
          go_wp2_with fail
          refine CT.out.mono ?_
          rintro _ W10 ⟨rfl, hb10⟩
          have hB10 := hB9.trans (hb10.mono hB9.size)
          go_wp2_with fail
          go_ret
          exact ⟨rfl, hB10⟩
end Go.Proofs.YtcecpggkeaohnaaDoor
