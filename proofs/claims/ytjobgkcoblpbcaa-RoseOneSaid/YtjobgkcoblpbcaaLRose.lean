/- RoseLess: the walk through the statement. -/
import Derived.Test.YtjobgkcoblpbcaaRose3
import Derived.Test.YtjobgkcoblpbcaaLMade
import Derived.Test.YtjobgkcoblpbcaaPDraw
import Derived.Test.YtjobgkcoblpbcaaPCost
import Derived.Test.YtjobgkcoblpbcaaRegp
namespace Go.Proofs.Ytjobgkcoblpbcaa
open Go.RowKit
set_option linter.unusedSimpArgs false
set_option linter.unusedVariables false
/-- A tape that can be played: its generator is right, its numbers are small, and it is not long. -/
theorem played_fit {g : GT} {l : List Int} (h : (playR g l).2 = 0) : GT.check g = 0 ∧ (∀ n ∈ l, 0 ≤ n ∧ n ≤ 1000) ∧ l.length ≤ 1399680 := by
  have hc : GT.check g = 0 := by
    by_cases hc : GT.check g = 0
    · exact hc
    · unfold playR at h; rw [if_neg hc] at h; exact absurd h hc
  simp only [playR, hc, if_true] at h
  cases hp : GT.play (stPlay l) g 0 with
  | error e =>
    rw [hp] at h
    simp only at h
    have := GT.play_err (stPlay l) (fun e => e = 1 ∨ e = 5) (fun m q e h => stPlay_err h) (fun m q c q' _ h => stPlay_bd h) g (GT.check_ok hc) 0 e hp
    omega
  | ok r =>
    obtain ⟨v, i⟩ := r
    rw [hp] at h
    simp only at h
    by_cases hi : i < l.length
    · rw [if_pos hi] at h; simp at h
    · have hinv : i ≤ l.length ∧ ∀ n (hn : n < l.length), n < i → 0 ≤ l[n] ∧ l[n] ≤ 1000 := by
        refine GT.play_inv (stPlay l) (fun q => q ≤ l.length ∧ ∀ n (hn : n < l.length), n < q → 0 ≤ l[n] ∧ l[n] ≤ 1000) (fun m q c q' _ h => stPlay_bd h) (fun m q c q' hm hm2 h hq => ?_) g (GT.check_ok hc) 0 (GT.check_parts hc) 0 v i hp ⟨Nat.zero_le _, fun n hn h => by omega⟩
        obtain ⟨e1, hi, e2⟩ := stPlay_le h
        have hb := stPlay_bd h
        refine ⟨by omega, fun n hn h => ?_⟩
        by_cases hlt : n < q
        · exact hq.2 n hn hlt
        · have : n = q := by omega
          subst this
          omega
      have hbud := GT.play_bud (stPlay l) (fun q => l.length - q) (fun m q c q' _ h => stPlay_bd h) (fun m q c q' _ h => by have := (stPlay_le h).1; omega) g (GT.check_ok hc) 0 v i hp
      have hco := GT.cost_ok hc
      refine ⟨hc, fun n hn => ?_, by omega⟩
      obtain ⟨j, hj, rfl⟩ := List.getElem_of_mem hn
      exact hinv.2 j hj (by omega)
theorem mended_ok (g : GT) (hc : GT.check g = 0) (l : List Int) : (playR g (mendR g l)).2 = 0 := by
  obtain ⟨t, h, _⟩ := play_mended g hc l
  rw [h]
theorem rose_ok (g : GT) (l : List Int) (hp : (playR g l).2 = 0) (v lv : Value) (w : World) (hg : GenAt w v g) (hl : IntsAt w lv l) :
    Calls Try.prog 29 #[v, lv] w fun e w' => (∃ u, e = .returned (.tuple #[u, .nilIface]) ∧ RwAt IntsS w' (fun b => w.heap.size ≤ b) u (lessR g l)) ∧ Below w.heap.size w w' :=
  rose_any g l hp (played_fit hp).1 (played_fit hp).2.1 (played_fit hp).2.2 v lv w hg hl
set_option maxRecDepth 100000 in
set_option maxHeartbeats 4000000 in
theorem roseLess_go {v0 v1 : Value} (w : World) (g : GT) (o0 : GenAt w v0 g) (l : List Int) (o1 : IntsAt w v1 l) :
    Calls Try.prog 11 #[v0, v1] w fun e w' => e = .returned (.bool true) ∧ Below w.heap.size w w' := by
  obtain ⟨gk, ga, gb, gn, gad, gcap, rfl⟩ := o0.shape
  have HG := Lib.hid o0
  have HL := Lib.hid o1
  obtain ⟨lad, lcap, rfl, _⟩ := o1.form
  clear o0 o1
  go_enter Try.func11, Try.ntmps11
  go_wp2_with fail
  refine (made_fact _).mono ?_
  rintro e w1 ⟨rfl, hb1⟩
  have hB1 : Below w.heap.size w w1 := Below.trans (by repeat (first | with_reducible assumption | with_reducible exact Below.refl _ _ | with_reducible apply Below.drew | (with_reducible refine Below.alloc ?_ (by first | omega | (simp only [World.size_alloc, size_setCell, size_drew, size_drewN]; omega) | (dsimp only; omega) | (simp only [World.size_alloc, size_setCell, size_drew, size_drewN]; dsimp only; omega)) _) | (with_reducible refine Below.setCell ?_ (by first | omega | (simp only [World.size_alloc, size_setCell, size_drew, size_drewN]; omega) | (dsimp only; omega) | (simp only [World.size_alloc, size_setCell, size_drew, size_drewN]; dsimp only; omega)) _))) (hb1.mono (by first | omega | (simp only [World.size_alloc, size_setCell, size_drew, size_drewN]; omega) | (dsimp only; omega) | (simp only [World.size_alloc, size_setCell, size_drew, size_drewN]; dsimp only; omega)))
  have x1 := (Blk.new w #[.int .i64 gk, .int .i64 ga, .int .i64 gb, .slice gad gn gcap] 43).ext hb1
  have f0 := x1.cell 0
  have f1 := x1.cell 1
  have f2 := x1.cell 2
  have f3 := x1.cell 3
  simp only [List.getElem?_toArray, List.getElem?_cons_succ, List.getElem?_cons_zero] at f0 f1 f2 f3
  clear hb1
  go_wp2_with fail
  by_cases hc : GT.check g = 0
  · have HC := Lib.hid hc
    clear hc
    refine (mend_any g l _ _ HC.out _ (HG.out.ext hB1) (HL.out.ext hB1)).mono ?_
    rintro e w2 ⟨⟨tv, rfl, htv⟩, hb2⟩
    have hB2 : Below w.heap.size w w2 := hB1.trans (hb2.mono hB1.size)
    have x2 := x1.ext hb2
    have HT := Lib.hid htv
    have hpl := mended_ok g HC.out l
    have HPL := Lib.hid hpl
    have hbt := (played_fit hpl).2.2
    generalize mendR g l = t at *
    obtain ⟨tad, tcap, rfl, htl, htm, _⟩ := htv.form
    clear f0 f1 f2 f3 hb2 htv hpl
    have f0 := x2.cell 0
    have f1 := x2.cell 1
    have f2 := x2.cell 2
    have f3 := x2.cell 3
    simp only [List.getElem?_toArray, List.getElem?_cons_succ, List.getElem?_cons_zero] at f0 f1 f2 f3
    go_wp2_with fail
    refine (rose_ok g t HPL.out _ _ _ (HG.out.ext hB2) HT.out).mono ?_
    rintro e w3 ⟨⟨u, rfl, hu⟩, hb3⟩
    have hB3 : Below w.heap.size w w3 := hB2.trans (hb3.mono hB2.size)
    have HT3 := Lib.hid (HT.out.ext hb3)
    have x3 := Lib.hid (x2.ext hb3)
    obtain ⟨uad, ucap, rfl, hul, hum, hun, huc⟩ := hu
    have HUC := Lib.hid huc
    have hrl := lessR_len g t
    obtain ⟨Rn, hRn⟩ : ∃ Rn, Rn = (lessR g t).length := ⟨_, rfl⟩
    rw [← hRn] at hul hrl
    rw [← hRn]
    have HRN := Lib.hid hRn
    unfold maxLen at hum
    clear f0 f1 f2 f3 hb3 huc hRn hun
    go_wp2_with fail
    go_loopw [10] (fun i wr => ∃ j : Nat, j ≤ Rn ∧ i = .int .i64 j ∧ Below w3.heap.size w3 wr) (fun i _ => Rn - (intOf i).toNat)
    case atStart => exact ⟨0, by omega, rfl, Below.refl _ _⟩
    case round =>
      obtain ⟨j, hj, rfl, hbr⟩ := hrel
      have hzr := hbr.size
      have hz3 := hB3.size
      have hBr : Below w.heap.size w wr := hB3.trans (hbr.mono hz3)
      by_cases hlt : j < Rn
      · have q0 : (0 : Int) ≤ (j : Int) := by omega
        have q1 : (j : Int) < (Rn : Int) := by omega
        have hjR : j < (lessR g t).length := by rw [← HRN.out]; exact hlt
        obtain ⟨ubl, uoff, rfl, hub1, hub2, huu⟩ := HUC.out (by rw [← HRN.out]; omega)
        obtain ⟨mv, hmv, hmR⟩ := huu j hjR
        have hmem := lessR_mem (played_fit HPL.out).1 (List.getElem_mem hjR)
        have HM := Lib.hid hmem
        have HMV := Lib.hid (IntsS.at (hmR.keepB hbr))
        obtain ⟨ma, mn, mc, rfl⟩ : ∃ a n c, mv = .slice a n c := by obtain ⟨_, a, c, e, _⟩ := hmR; exact ⟨_, _, _, e⟩
        have hmv' := (hbr.cell (p := ⟨ubl, uoff + j, none⟩) hub1).trans hmv
        have xr := x3.out.ext hbr
        have f0 := xr.cell 0
        have f1 := xr.cell 1
        have f2 := xr.cell 2
        have f3 := xr.cell 3
        simp only [List.getElem?_toArray, List.getElem?_cons_succ, List.getElem?_cons_zero] at f0 f1 f2 f3
        have hxl := xr.lt
        clear huu hmv hmR hmem
        go_wp2_with fail
        refine region_plan (S := fun w' => w'.cell? ⟨w.heap.size, 0, none⟩ = some (.int .i64 gk) ∧ w'.cell? ⟨w.heap.size, 1, none⟩ = some (.int .i64 ga) ∧ w'.cell? ⟨w.heap.size, 2, none⟩ = some (.int .i64 gb) ∧ w'.cell? ⟨w.heap.size, 3, none⟩ = some (.slice gad gn gcap) ∧ w'.cell? ⟨ubl, uoff + j, none⟩ = some (.slice ma mn mc)) (n := 11) (ms := .take 0 (.take 1 (.take 2 (.take 3 (.take 4 (.fork 5 (.take 6 (.take 7 (.take 8 (.step 9 (.step 10 (.step 11 .done)))))) 9 (.step 5 (.take 6 (.take 7 (.take 8 (.step 10 (.step 11 .done))))))))))))
          (hm := by kernel_rfl) (hB := by kernel_rfl) (hQ := fun c a d v w h => by cases d <;> exact h) ?_
        have HS0 : Hid ((fun w' => w'.cell? ⟨w.heap.size, 0, none⟩ = some (.int .i64 gk) ∧ w'.cell? ⟨w.heap.size, 1, none⟩ = some (.int .i64 ga) ∧ w'.cell? ⟨w.heap.size, 2, none⟩ = some (.int .i64 gb) ∧ w'.cell? ⟨w.heap.size, 3, none⟩ = some (.slice gad gn gcap) ∧ w'.cell? ⟨ubl, uoff + j, none⟩ = some (.slice ma mn mc)) wr.drew) := ⟨f0, f1, f2, f3, hmv'⟩
        iterate 5
          rw [plan_take]
          simp only [List.getElem?_toArray, List.getElem?_cons_succ, List.getElem?_cons_zero]
          refine ⟨?_, .inl ⟨by rfl, ?_⟩, HS0.out, ?_⟩
          rotate_left
          · rintro w' ⟨s0, s1, s2, s3, s4⟩
            go_simp
            rfl
          simp only [Act.put, List.setIfInBounds_toArray, List.set_cons_zero, List.set_cons_succ]
        have hBd : Below w.heap.size w wr.drew := hBr.drew
        have hBd3 : Below w3.heap.size w3 wr.drew := hbr.drew
        have HMd : Hid (IntsAt wr.drew (.slice ma mn mc) (lessR g t)[j]) := HMV.out.ext (Below.drew (Below.refl _ _))
        have hzd : wr.drew.heap.size = wr.heap.size := rfl
        have l1 : w.heap.size < wr.drew.heap.size := by omega
        have l2 : ubl < wr.drew.heap.size := by omega
        have l3 : w3.heap.size ≤ wr.drew.heap.size := by omega
        clear f0 f1 f2 f3 hmv' hzd hxl xr HMV
        generalize wr.drew = Wd at *
        have HS : Hid (∀ W', Below Wd.heap.size Wd W' → (fun w' => w'.cell? ⟨w.heap.size, 0, none⟩ = some (.int .i64 gk) ∧ w'.cell? ⟨w.heap.size, 1, none⟩ = some (.int .i64 ga) ∧ w'.cell? ⟨w.heap.size, 2, none⟩ = some (.int .i64 gb) ∧ w'.cell? ⟨w.heap.size, 3, none⟩ = some (.slice gad gn gcap) ∧ w'.cell? ⟨ubl, uoff + j, none⟩ = some (.slice ma mn mc)) W') := fun W' h =>
          ⟨(h.cell (p := ⟨_, 0, none⟩) l1).trans HS0.out.1, (h.cell (p := ⟨_, 1, none⟩) l1).trans HS0.out.2.1, (h.cell (p := ⟨_, 2, none⟩) l1).trans HS0.out.2.2.1, (h.cell (p := ⟨_, 3, none⟩) l1).trans HS0.out.2.2.2.1, (h.cell (p := ⟨ubl, _, none⟩) l2).trans HS0.out.2.2.2.2⟩
        rw [plan_fork]
        refine ⟨?_, ?_⟩
        ·
          rw [plan_step]
          simp only [List.getElem?_toArray, List.getElem?_cons_succ, List.getElem?_cons_zero]
          go_wp2_with fail
          refine (replay_any g _ _ _ _ (HG.out.ext hBd) HMd.out).mono ?_
          rintro e w5 ⟨⟨rv, rfl, hrv⟩, hb5⟩
          rw [HM.out.2, errV_zero]
          obtain ⟨rl, rn, rk, rad, rcap, rfl⟩ := hrv.shape
          have HS5 := Lib.hid (HS.out w5 hb5)
          have hz5 := hb5.size
          have HB5 := Lib.hid hb5
          clear hrv hb5
          go_wp2_with fail
          refine And.intro (fun _ => HS5.out) ?_
          iterate 3
            rw [plan_take]
            simp only [List.getElem?_toArray, List.getElem?_cons_succ, List.getElem?_cons_zero]
            refine ⟨?_, .inl ⟨by rfl, ?_⟩, HS5.out, ?_⟩
            rotate_left
            · rintro w' _
              go_simp
              rfl
            simp only [Act.put, List.setIfInBounds_toArray, List.set_cons_zero, List.set_cons_succ]
          rw [plan_step]
          simp only [List.getElem?_toArray, List.getElem?_cons_succ, List.getElem?_cons_zero]
          go_wp2_with fail
          refine And.intro (fun _ => HS.out _ (HB5.out.alloc (by omega) _)) ?_
          rw [plan_step]
          simp only [List.getElem?_toArray, List.getElem?_cons_succ, List.getElem?_cons_zero]
          go_wp2_with fail
          refine And.intro (fun _ => HS.out _ (HB5.out.alloc (by omega) _)) ?_
          have HZ : Hid (Below Wd.heap.size Wd (w5.alloc (.cells #[.bool rl, .int .i64 rn, .slice rad rk rcap] 48))) := HB5.out.alloc (by omega) _
          rw [plan_step]
          simp only [List.getElem?_toArray, List.getElem?_cons_succ, List.getElem?_cons_zero]
          go_wp2_with fail
          refine And.intro (fun h => absurd h (by decide)) ?_
          rw [plan_done]
          have g4 := (HS.out _ HZ.out).2.2.2.2
          go_wp2_with fail
          refine (less_any _ _ _ _ _ (HMd.out.ext HZ.out) (HT3.out.ext (hBd3.trans (HZ.out.mono l3)))).mono ?_
          rintro e w8 ⟨rfl, nd, rfl⟩
          rw [HM.out.1]
          go_wp2_with fail
          exact ⟨⟨j + 1, by omega, by go_num, (hBd3.trans (HZ.out.mono l3)).trans (Joins.below_draws _ _ _)⟩, by simp [intOf]; omega⟩
        ·
          rw [plan_step]
          simp only [List.getElem?_toArray, List.getElem?_cons_succ, List.getElem?_cons_zero]
          go_wp2_with fail
          refine And.intro (HS.out _ ((Below.refl _ _).alloc (Nat.le_refl _) _)) ?_
          rw [plan_step]
          simp only [List.getElem?_toArray, List.getElem?_cons_succ, List.getElem?_cons_zero]
          go_wp2_with fail
          refine (replay_any g _ _ _ _ (HG.out.ext (hBd.alloc (by omega) _)) (HMd.out.ext ((Below.refl _ _).alloc (Nat.le_refl _) _))).mono ?_
          rintro e w5 ⟨⟨rv, rfl, hrv⟩, hb5⟩
          rw [HM.out.2, errV_zero]
          obtain ⟨rl, rn, rk, rad, rcap, rfl⟩ := hrv.shape
          have xb := (Blk.new Wd #[.bool false, .int .i64 0, .slice none 0 0] 48).ext hb5
          have HB5 : Hid (Below Wd.heap.size Wd w5) := ((Below.refl _ _).alloc (Nat.le_refl _) _).trans (hb5.mono (by simp))
          have HS5 := Lib.hid (HS.out w5 HB5.out)
          have hz5 := HB5.out.size
          have h0 := xb.cell 0
          have h1 := xb.cell 1
          have h2 := xb.cell 2
          simp only [List.getElem?_toArray, List.getElem?_cons_succ, List.getElem?_cons_zero] at h0 h1 h2
          have u0 := xb.unfrozen 0
          have u1 := xb.unfrozen 1
          have u2 := xb.unfrozen 2
          have hxb := xb.lt
          clear hrv hb5
          go_wp2_with fail
          refine And.intro (fun _ => HS5.out) ?_
          iterate 3
            rw [plan_take]
            simp only [List.getElem?_toArray, List.getElem?_cons_succ, List.getElem?_cons_zero]
            refine ⟨?_, .inl ⟨by rfl, ?_⟩, HS5.out, ?_⟩
            rotate_left
            · rintro w' _
              go_simp
              rfl
            simp only [Act.put, List.setIfInBounds_toArray, List.set_cons_zero, List.set_cons_succ]
          rw [plan_step]
          simp only [List.getElem?_toArray, List.getElem?_cons_succ, List.getElem?_cons_zero]
          go_wp2_with fail
          have HZ : Hid (Below Wd.heap.size Wd (((w5.setCell ⟨Wd.heap.size, 0, none⟩ (.bool rl)).setCell ⟨Wd.heap.size, 1, none⟩ (.int .i64 rn)).setCell ⟨Wd.heap.size, 2, none⟩ (.slice rad rk rcap))) := ((HB5.out.setCell (Nat.le_refl _) _).setCell (Nat.le_refl _) _).setCell (Nat.le_refl _) _
          clear h0 h1 h2 u0 u1 u2
          refine And.intro (fun _ => HS.out _ HZ.out) ?_
          rw [plan_step]
          simp only [List.getElem?_toArray, List.getElem?_cons_succ, List.getElem?_cons_zero]
          go_wp2_with fail
          refine And.intro (fun h => absurd h (by decide)) ?_
          rw [plan_done]
          have g4 := (HS.out _ HZ.out).2.2.2.2
          go_wp2_with fail
          refine (less_any _ _ _ _ _ (HMd.out.ext HZ.out) (HT3.out.ext (hBd3.trans (HZ.out.mono l3)))).mono ?_
          rintro e w8 ⟨rfl, nd, rfl⟩
          rw [HM.out.1]
          go_wp2_with fail
          exact ⟨⟨j + 1, by omega, by go_num, (hBd3.trans (HZ.out.mono l3)).trans (Joins.below_draws _ _ _)⟩, by simp [intOf]; omega⟩
      · have q1 : ¬ (j : Int) < (Rn : Int) := by omega
        obtain rfl : j = Rn := by omega
        have q2 : (j : Int) ≤ 4 * (t.length : Int) := by omega
        go_wp2_with fail
        go_ret
        exact ⟨rfl, hBr⟩
  · have hlv : ∃ a n c, Value.slice lad l.length lcap = .slice a n c := ⟨_, _, _, rfl⟩
    refine (mend_bad g _ _ hc _ (HG.out.ext hB1) hlv).mono ?_
    rintro e w2 ⟨rfl, hb2⟩
    have hB2 : Below w.heap.size w w2 := hB1.trans (hb2.mono hB1.size)
    rw [errV_ne hc]
    clear hb2 hc f0 f1 f2 f3
    go_wp2_with fail
    go_ret
    exact ⟨rfl, hB2⟩
end Go.Proofs.Ytjobgkcoblpbcaa
