/- RankBack: the walk through the statement. -/
import Derived.Test.YtjobgkcoblpbcaaLRises
import Derived.Test.YtjobgkcoblpbcaaMend2
namespace Go.Proofs.Ytjobgkcoblpbcaa
open Go.RowKit
set_option linter.unusedSimpArgs false
set_option linter.unusedVariables false
theorem countR_err {g : GT} (h : (GT.countR g).2 ≠ 0) : (GT.countR g).1 = 0 := by
  unfold GT.countR at *
  split
  · rename_i h1
    rw [if_pos h1] at h
    split
    · rfl
    · rename_i h2; rw [if_neg h2] at h; simp at h
  · rfl
theorem mended_nth {g : GT} (hk : GT.Ok g) (l : List Int) : ∃ k, GT.NthR [g] k (mendR g l) ∧ 0 ≤ k ∧ k < GT.count g := by
  obtain ⟨t, h, _⟩ := play_mended g hk.1 l
  obtain ⟨k, hn⟩ := nth_of_play hk.1 (by rw [h] : (playR g (mendR g l)).2 = 0)
  have := hn.bd (fun x hx => by rw [List.mem_singleton.1 hx]; exact hk)
  simp only [GT.prodL] at this
  exact ⟨k, hn, this.1, by omega⟩
theorem ints_same (va vb : Value) (a : List Int) (w : World) (ha : IntsAt w va a) (hb : IntsAt w vb a) : Calls Try.prog 20 #[va, vb] w fun e w' => e = .returned (.bool true) ∧ ∃ n, w' = w.drewN n := by
  have := ints_any va vb a a w ha hb
  simpa using this
set_option maxRecDepth 100000 in
set_option maxHeartbeats 4000000 in
theorem back_go {v0 v1 v2 : Value} (w : World) (g : GT) (o0 : GenAt w v0 g) (i : Int) (o1 : IntAt v1 i) (l : List Int) (o2 : IntsAt w v2 l) :
    Calls Try.prog 13 #[v0, v1, v2] w fun e w' => e = .returned (.bool true) ∧ Below w.heap.size w w' := by
  obtain ⟨rfl, hi1, hi2⟩ := o1
  obtain ⟨gk, ga, gb, gn, gad, gcap, rfl⟩ := o0.shape
  have HG := Lib.hid o0
  have HL := Lib.hid o2
  obtain ⟨lad, lcap, rfl, _⟩ := o2.form
  clear o0 o2
  go_enter Try.func13, Try.ntmps13
  go_wp2_with fail
  refine (made_fact _).mono ?_
  rintro e w1 ⟨rfl, hb1⟩
  have hB1 : Below w.heap.size w w1 := Below.trans (by repeat (first | with_reducible assumption | with_reducible exact Below.refl _ _ | with_reducible apply Below.drew | (with_reducible refine Below.alloc ?_ (by first | omega | (simp only [World.size_alloc, size_setCell, size_drew, size_drewN]; omega) | (dsimp only; omega) | (simp only [World.size_alloc, size_setCell, size_drew, size_drewN]; dsimp only; omega)) _) | (with_reducible refine Below.setCell ?_ (by first | omega | (simp only [World.size_alloc, size_setCell, size_drew, size_drewN]; omega) | (dsimp only; omega) | (simp only [World.size_alloc, size_setCell, size_drew, size_drewN]; dsimp only; omega)) _))) (hb1.mono (by first | omega | (simp only [World.size_alloc, size_setCell, size_drew, size_drewN]; omega) | (dsimp only; omega) | (simp only [World.size_alloc, size_setCell, size_drew, size_drewN]; dsimp only; omega)))
  have x1 := (Blk.new w #[.int .i64 gk, .int .i64 ga, .int .i64 gb, .slice gad gn gcap] 43).ext hb1
  have f0 := x1.cell 0
  have f1 := x1.cell 1
  have f2 := x1.cell 2
  have f3 := x1.cell 3
  simp only [List.getElem?_toArray, List.getElem?_cons_succ, List.getElem?_cons_zero] at f0 f1 f2 f3
  clear hb1
  go_wp2_with fail
  refine (gen_count_any g _ _ (HG.out.ext hB1)).mono ?_
  rintro e w2 ⟨rfl, hb2⟩
  have hB2 : Below w.heap.size w w2 := hB1.trans (hb2.mono hB1.size)
  have x2 := x1.ext hb2
  clear f0 f1 f2 f3 hb2
  have f0 := x2.cell 0
  have f1 := x2.cell 1
  have f2 := x2.cell 2
  have f3 := x2.cell 3
  simp only [List.getElem?_toArray, List.getElem?_cons_succ, List.getElem?_cons_zero] at f0 f1 f2 f3
  by_cases hc : (GT.countR g).2 = 0
  · have hk := GT.ok_of_countR hc
    rw [hk.countR, errV_zero]
    have HK := Lib.hid hk
    obtain ⟨cn, hcn⟩ : ∃ cn, cn = GT.count g := ⟨_, rfl⟩
    rw [← hcn]
    have HCN := Lib.hid hcn
    clear hc hk hcn
    obtain ⟨kk, hkn, hkk0, hkk1⟩ := mended_nth HK.out l
    have HKN := Lib.hid hkn
    rw [← HCN.out] at hkk1
    clear hkn
    by_cases hA : HasNth g i
    · have hi0 := hA.2.1
      have hi1 := hA.2.2
      rw [← HCN.out] at hi1
      go_wp2_with fail
      refine (nth_any g hA.1 i hA.2.1 hA.2.2 _ _ (HG.out.ext hB2)).mono ?_
      rintro e w3 ⟨⟨u, t, rfl, hu, ht, _, hn⟩, hb3⟩
      have hB3 : Below w.heap.size w w3 := hB2.trans (hb3.mono hB2.size)
      have x3 := x2.ext hb3
      have HU := Lib.hid (hu.at (in64_of ht))
      have HN := Lib.hid hn.out
      clear f0 f1 f2 f3 hb3 hu ht hn hA
      have f0 := x3.cell 0
      have f1 := x3.cell 1
      have f2 := x3.cell 2
      have f3 := x3.cell 3
      simp only [List.getElem?_toArray, List.getElem?_cons_succ, List.getElem?_cons_zero] at f0 f1 f2 f3
      go_wp2_with fail
      refine (rank_any g HK.out i t HN.out _ u _ (HG.out.ext hB3) HU.out).mono ?_
      rintro e w4 ⟨rfl, hb4⟩
      have hB4 : Below w.heap.size w w4 := hB3.trans (hb4.mono hB3.size)
      have x4 := x3.ext hb4
      have HU4 := Lib.hid (HU.out.ext hb4)
      clear f0 f1 f2 f3 hb4
      have f0 := x4.cell 0
      have f1 := x4.cell 1
      have f2 := x4.cell 2
      have f3 := x4.cell 3
      simp only [List.getElem?_toArray, List.getElem?_cons_succ, List.getElem?_cons_zero] at f0 f1 f2 f3
      go_wp2_with fail
      refine (replay_any g t _ u _ (HG.out.ext hB4) HU4.out).mono ?_
      rintro e w5 ⟨⟨rv, rfl, hrv⟩, hb5⟩
      rw [play_of_nth HK.out.1 HN.out, errV_zero]
      obtain ⟨rl, rn, rk, rad, rcap, rfl⟩ := hrv.shape
      have hB5 : Below w.heap.size w w5 := hB4.trans (hb5.mono hB4.size)
      have x5 := x4.ext hb5
      clear f0 f1 f2 f3 hb5 hrv
      have e1 : (i != i) = false := by simp
      have x6 := x5.alloc (.cells #[.bool rl, .int .i64 rn, .slice rad rk rcap] 48)
      have f0 := x6.cell 0
      have f1 := x6.cell 1
      have f2 := x6.cell 2
      have f3 := x6.cell 3
      simp only [List.getElem?_toArray, List.getElem?_cons_succ, List.getElem?_cons_zero] at f0 f1 f2 f3
      have hz5 := hB5.size
      go_wp2_with fail
      have hB6 : Below w.heap.size w (w5.alloc (.cells #[.bool rl, .int .i64 rn, .slice rad rk rcap] 48)) := by repeat (first | with_reducible assumption | with_reducible exact Below.refl _ _ | with_reducible apply Below.drew | (with_reducible refine Below.alloc ?_ (by first | omega | (simp only [World.size_alloc, size_setCell, size_drew, size_drewN]; omega) | (dsimp only; omega) | (simp only [World.size_alloc, size_setCell, size_drew, size_drewN]; dsimp only; omega)) _) | (with_reducible refine Below.setCell ?_ (by first | omega | (simp only [World.size_alloc, size_setCell, size_drew, size_drewN]; omega) | (dsimp only; omega) | (simp only [World.size_alloc, size_setCell, size_drew, size_drewN]; dsimp only; omega)) _))
      refine (mend_any g l _ _ HK.out.1 _ (HG.out.ext hB6) (HL.out.ext hB6)).mono ?_
      rintro e w7 ⟨⟨mv, rfl, hmv⟩, hb7⟩
      have hB7 : Below w.heap.size w w7 := hB6.trans (hb7.mono (hB6).size)
      have x7 := x6.ext hb7
      have HM := Lib.hid hmv
      obtain ⟨mad, mcap, rfl, _⟩ := hmv.form
      generalize (mendR g l).length = mlen at *
      clear f0 f1 f2 f3 hb7 hmv
      have f0 := x7.cell 0
      have f1 := x7.cell 1
      have f2 := x7.cell 2
      have f3 := x7.cell 3
      simp only [List.getElem?_toArray, List.getElem?_cons_succ, List.getElem?_cons_zero] at f0 f1 f2 f3
      go_wp2_with fail
      refine (rank_any g HK.out kk _ HKN.out _ _ _ (HG.out.ext hB7) HM.out).mono ?_
      rintro e w8 ⟨rfl, hb8⟩
      have hB8 : Below w.heap.size w w8 := hB7.trans (hb8.mono hB7.size)
      have x8 := x7.ext hb8
      have HM8 := Lib.hid (HM.out.ext hb8)
      clear f0 f1 f2 f3 hb8
      have f0 := x8.cell 0
      have f1 := x8.cell 1
      have f2 := x8.cell 2
      have f3 := x8.cell 3
      simp only [List.getElem?_toArray, List.getElem?_cons_succ, List.getElem?_cons_zero] at f0 f1 f2 f3
      go_wp2_with fail
      refine (nth_any g HK.out kk hkk0 (by rw [← HCN.out]; exact hkk1) _ _ (HG.out.ext hB8)).mono ?_
      rintro e w9 ⟨⟨u9, t9, rfl, hu9, ht9, _, hn9⟩, hb9⟩
      have hB9 : Below w.heap.size w w9 := hB8.trans (hb9.mono hB8.size)
      have et : t9 = mendR g l := hn9.out.tape (fun x hx => by rw [List.mem_singleton.1 hx]; exact HK.out) HKN.out
      rw [et] at hu9 ht9
      have HU9 := Lib.hid (hu9.at (in64_of ht9))
      have HM9 := Lib.hid (HM8.out.ext hb9)
      clear f0 f1 f2 f3 hb9 hu9 ht9 hn9 et
      go_wp2_with fail
      refine (ints_same _ _ _ _ HU9.out HM9.out).mono ?_
      rintro e w10 ⟨rfl, nd, rfl⟩
      go_wp2_with fail
      all_goals (go_ret; exact ⟨by simp <;> omega, hB9.trans (Joins.below_draws _ _ _)⟩)
    · go_wp2_with fail
      refine (nth_err g i hA _ _ (HG.out.ext hB2)).mono ?_
      rintro e w3 ⟨⟨er, her, rfl⟩, hb3⟩
      have hB3 : Below w.heap.size w w3 := hB2.trans (hb3.mono hB2.size)
      have x3 := x2.ext hb3
      have hout : i < 0 ∨ cn ≤ i := by
        by_cases h0 : i < 0
        · exact .inl h0
        · by_cases h1 : cn ≤ i
          · exact .inr h1
          · exact absurd ⟨HK.out, by omega, by rw [← HCN.out]; omega⟩ hA
      rw [errV_ne her]
      clear f0 f1 f2 f3 hb3 hA her
      have f0 := x3.cell 0
      have f1 := x3.cell 1
      have f2 := x3.cell 2
      have f3 := x3.cell 3
      simp only [List.getElem?_toArray, List.getElem?_cons_succ, List.getElem?_cons_zero] at f0 f1 f2 f3
      go_wp2_with fail
      refine (mend_any g l _ _ HK.out.1 _ (HG.out.ext hB3) (HL.out.ext hB3)).mono ?_
      rintro e w7 ⟨⟨mv, rfl, hmv⟩, hb7⟩
      have hB7 : Below w.heap.size w w7 := hB3.trans (hb7.mono (hB3).size)
      have x7 := x3.ext hb7
      have HM := Lib.hid hmv
      obtain ⟨mad, mcap, rfl, _⟩ := hmv.form
      generalize (mendR g l).length = mlen at *
      clear f0 f1 f2 f3 hb7 hmv
      have f0 := x7.cell 0
      have f1 := x7.cell 1
      have f2 := x7.cell 2
      have f3 := x7.cell 3
      simp only [List.getElem?_toArray, List.getElem?_cons_succ, List.getElem?_cons_zero] at f0 f1 f2 f3
      go_wp2_with fail
      refine (rank_any g HK.out kk _ HKN.out _ _ _ (HG.out.ext hB7) HM.out).mono ?_
      rintro e w8 ⟨rfl, hb8⟩
      have hB8 : Below w.heap.size w w8 := hB7.trans (hb8.mono hB7.size)
      have x8 := x7.ext hb8
      have HM8 := Lib.hid (HM.out.ext hb8)
      clear f0 f1 f2 f3 hb8
      have f0 := x8.cell 0
      have f1 := x8.cell 1
      have f2 := x8.cell 2
      have f3 := x8.cell 3
      simp only [List.getElem?_toArray, List.getElem?_cons_succ, List.getElem?_cons_zero] at f0 f1 f2 f3
      go_wp2_with fail
      refine (nth_any g HK.out kk hkk0 (by rw [← HCN.out]; exact hkk1) _ _ (HG.out.ext hB8)).mono ?_
      rintro e w9 ⟨⟨u9, t9, rfl, hu9, ht9, _, hn9⟩, hb9⟩
      have hB9 : Below w.heap.size w w9 := hB8.trans (hb9.mono hB8.size)
      have et : t9 = mendR g l := hn9.out.tape (fun x hx => by rw [List.mem_singleton.1 hx]; exact HK.out) HKN.out
      rw [et] at hu9 ht9
      have HU9 := Lib.hid (hu9.at (in64_of ht9))
      have HM9 := Lib.hid (HM8.out.ext hb9)
      clear f0 f1 f2 f3 hb9 hu9 ht9 hn9 et
      go_wp2_with fail
      refine (ints_same _ _ _ _ HU9.out HM9.out).mono ?_
      rintro e w10 ⟨rfl, nd, rfl⟩
      go_wp2_with fail
      all_goals (go_ret; exact ⟨by simp <;> omega, hB9.trans (Joins.below_draws _ _ _)⟩)
  · have h1 := countR_err hc
    rw [h1, errV_ne hc]
    clear hc
    go_wp2_with fail
    go_ret
    exact ⟨rfl, hB2⟩
end Go.Proofs.Ytjobgkcoblpbcaa
