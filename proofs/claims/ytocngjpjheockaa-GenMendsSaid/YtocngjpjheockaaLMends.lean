/- The walk of the statement on mending. -/
import Derived.Test.YtocngjpjheockaaPVC
import Derived.Test.YtocngjpjheockaaPMV
import Derived.Test.YtocngjpjheockaaLMade
import Derived.Test.YtocngjpjheockaaREG
import Derived.Test.YtocngjpjheockaaTape
import Derived.Test.YtocngjpjheockaaGENC
import Derived.Test.YtocngjpjheockaaOWW
import Derived.Deep.DeepCutAuto
namespace Go.Proofs.Ytocngjpjheockaa
set_option maxRecDepth 100000
open Go.RowKit
set_option linter.unusedSimpArgs false
set_option linter.unusedVariables false
theorem mendR_len (g : GT) (hc : GT.check g = 0) (l : List Int) : (mendR g l).length ≤ 1399680 := by
  obtain ⟨t, h⟩ := mend_play g hc l
  have h1 := GT.play_bud (stMend l) (fun out => 1099511627776 - out.length) (fun m q c q' hm h => stMend_bd hm h) (fun m q c q' hm h => by
    simp only [stMend, Except.ok.injEq, Prod.mk.injEq] at h
    rw [← h.2]
    simp
    omega) g (GT.check_ok hc) [] t _ h
  have h2 := GT.cost_ok hc
  simp only [List.length_nil] at h1
  omega
set_option maxHeartbeats 4000000 in
theorem mends_go {v0 v1 v2 : Value} (w : World) (g : GT) (o0 : GenAt w v0 g) (l : List Int) (o1 : IntsAt w v1 l) (more : List Int) (o2 : IntsAt w v2 more) (hml : more.length ≤ 17592186044416) :
    Calls Try.prog 7 #[v0, v1, v2] w fun e w' => e = .returned (.bool true) ∧ Below w.heap.size w w' := by
  obtain ⟨k, a, b, t, ad, cap, rfl⟩ := o0.shape
  obtain ⟨ad1, cap1, rfl, _⟩ := o1.form
  obtain ⟨ad2, cap2, rfl, _⟩ := o2.form
  have C0 := Lib.hid (fun W => made_fact W)
  by_cases hc : GT.check g = 0
  · have hM1 := mendR_len g hc l
    obtain ⟨t0, hp1, _⟩ := play_mended g hc l
    have hp2 := mend_more g hc l more
    have hp3 := played_stays g hc l
    have hchk := playR_chk g (mendR g l)
    rw [hp1] at hchk
    have hchk0 : VT.chk t0 0 = 0 := hchk rfl
    have C1 := Lib.hid (fun W (hb : Below w.heap.size w W) => mend_any g l _ _ hc W (o0.ext hb) (o1.ext hb))
    have C2 := Lib.hid (fun W tv (hb : Below w.heap.size w W) (ht : IntsAt W tv (mendR g l)) => replay_any g (mendR g l) _ tv W (o0.ext hb) ht)
    have C3 := Lib.hid (fun W tv (hb : Below w.heap.size w W) (ht : IntsAt W tv (mendR g l ++ more)) => mend_any g (mendR g l ++ more) _ tv hc W (o0.ext hb) ht)
    have C4 := Lib.hid (fun W (hb : Below w.heap.size w W) => replay_any g l _ _ W (o0.ext hb) (o1.ext hb))
    have C5 := Lib.hid (fun v W (hv : ValAt W v t0) => valCheck_any t0 v W hv)
    rw [hp1] at C2
    rw [hp2] at C3
    rw [hchk0] at C5
    simp only [errV_zero] at C2 C5
    have O1 := Lib.hid (fun W (hb : Below w.heap.size w W) => o1.ext hb)
    have O2 := Lib.hid (fun W (hb : Below w.heap.size w W) => o2.ext hb)
    have HP3 := Lib.hid hp3
    clear hp1 hp2 hp3 hchk hchk0 hc o0 o1 o2
    generalize mendR g l = M at *
    generalize playR g l = R4 at *
    go_enter Try.func7, Try.ntmps7
    go_wp2_with fail
    refine (C0.out _).mono ?_
    rintro e w1 ⟨rfl, hb1⟩
    have hB1 : Below w.heap.size w w1 := Below.trans (by repeat (first | with_reducible assumption | with_reducible exact Below.refl _ _ | with_reducible apply Below.drew | (with_reducible refine Below.alloc ?_ (by first | omega | (simp only [zA, zS, zD, zN]; omega) | (dsimp only; omega) | (simp only [zA, zS, zD, zN]; dsimp only; omega)) _) | (with_reducible refine Below.setCell ?_ (by first | omega | (simp only [zA, zS, zD, zN]; omega) | (dsimp only; omega) | (simp only [zA, zS, zD, zN]; dsimp only; omega)) _) | (with_reducible apply below_drewN))) (hb1.mono (by first | omega | (simp only [zA, zS, zD, zN]; omega) | (dsimp only; omega) | (simp only [zA, zS, zD, zN]; dsimp only; omega)))
    obtain ⟨hc1, hf1, hz1⟩ := bcell hb1
    try simp only [zA, zS, zD, zN] at hz1
    clear hb1
    have y1_0 : w.heap.size < w1.heap.size := by omega
    go_wp2_with fail
    refine (C1.out _ (by repeat (first | with_reducible assumption | with_reducible exact Below.refl _ _ | with_reducible apply Below.drew | (with_reducible refine Below.alloc ?_ (by first | omega | (simp only [zA, zS, zD, zN]; omega) | (dsimp only; omega) | (simp only [zA, zS, zD, zN]; dsimp only; omega)) _) | (with_reducible refine Below.setCell ?_ (by first | omega | (simp only [zA, zS, zD, zN]; omega) | (dsimp only; omega) | (simp only [zA, zS, zD, zN]; dsimp only; omega)) _) | (with_reducible apply below_drewN)))).mono ?_
    rintro e w2 ⟨⟨mv, rfl, hmv⟩, hb2⟩
    have hB2 : Below w.heap.size w w2 := Below.trans (by repeat (first | with_reducible assumption | with_reducible exact Below.refl _ _ | with_reducible apply Below.drew | (with_reducible refine Below.alloc ?_ (by first | omega | (simp only [zA, zS, zD, zN]; omega) | (dsimp only; omega) | (simp only [zA, zS, zD, zN]; dsimp only; omega)) _) | (with_reducible refine Below.setCell ?_ (by first | omega | (simp only [zA, zS, zD, zN]; omega) | (dsimp only; omega) | (simp only [zA, zS, zD, zN]; dsimp only; omega)) _) | (with_reducible apply below_drewN))) (hb2.mono (by first | omega | (simp only [zA, zS, zD, zN]; omega) | (dsimp only; omega) | (simp only [zA, zS, zD, zN]; dsimp only; omega)))
    obtain ⟨hc2, hf2, hz2⟩ := bcell hb2
    have y2_0 : w.heap.size < w2.heap.size := by omega
    clear hb2
    obtain ⟨mad, mcap, rfl, _⟩ := hmv.form
    have HM := Lib.hid hmv
    clear hmv
    go_wp2_with fail
    refine (C2.out _ _ (by repeat (first | with_reducible assumption | with_reducible exact Below.refl _ _ | with_reducible apply Below.drew | (with_reducible refine Below.alloc ?_ (by first | omega | (simp only [zA, zS, zD, zN]; omega) | (dsimp only; omega) | (simp only [zA, zS, zD, zN]; dsimp only; omega)) _) | (with_reducible refine Below.setCell ?_ (by first | omega | (simp only [zA, zS, zD, zN]; omega) | (dsimp only; omega) | (simp only [zA, zS, zD, zN]; dsimp only; omega)) _) | (with_reducible apply below_drewN))) HM.out).mono ?_
    rintro e w3 ⟨⟨vv, rfl, hvv⟩, hb3⟩
    have hB3 : Below w.heap.size w w3 := Below.trans hB2 (hb3.mono (by first | omega | (simp only [zA, zS, zD, zN]; omega) | (dsimp only; omega) | (simp only [zA, zS, zD, zN]; dsimp only; omega)))
    have HM3 := Lib.hid (HM.out.ext hb3)
    obtain ⟨hc3, hf3, hz3⟩ := bcell hb3
    have y3_0 : w.heap.size < w3.heap.size := by omega
    clear hb3
    obtain ⟨vl, vn, vk, vad, vcap, rfl⟩ := hvv.shape
    go_wp2_with fail
    generalize hW8 : w3.alloc (.cells #[.bool vl, .int .i64 vn, .slice vad vk vcap] 48) = W8
    have hb8 : Below w3.heap.size w3 W8 := by rw [← hW8]; repeat (first | with_reducible assumption | with_reducible exact Below.refl _ _ | with_reducible apply Below.drew | (with_reducible refine Below.alloc ?_ (by first | omega | (simp only [zA, zS, zD, zN]; omega) | (dsimp only; omega) | (simp only [zA, zS, zD, zN]; dsimp only; omega)) _) | (with_reducible refine Below.setCell ?_ (by first | omega | (simp only [zA, zS, zD, zN]; omega) | (dsimp only; omega) | (simp only [zA, zS, zD, zN]; dsimp only; omega)) _) | (with_reducible apply below_drewN))
    have xv : Blk W8 w3.heap.size #[.bool vl, .int .i64 vn, .slice vad vk vcap] 48 := by rw [← hW8]; exact Blk.new _ _ _
    have hB8 : Below w.heap.size w W8 := hB3.trans (hb8.mono hB3.size)
    have HV8 := Lib.hid (hvv.ext hb8)
    have HM8 := Lib.hid (HM3.out.ext hb8)
    obtain ⟨hc8, hf8, hz8⟩ := bcell hb8
    have s0 : W8.drew.cell? ⟨w.heap.size, 0, none⟩ = some (.int .i64 k) := by show W8.cell? _ = _; rw [hc8 _ _ (by omega), hc3 _ _ (by omega), hc2 _ _ (by omega), hc1 _ _ (by simp)]; exact (Blk.new w _ _).cell 0
    have s1 : W8.drew.cell? ⟨w.heap.size, 1, none⟩ = some (.int .i64 a) := by show W8.cell? _ = _; rw [hc8 _ _ (by omega), hc3 _ _ (by omega), hc2 _ _ (by omega), hc1 _ _ (by simp)]; exact (Blk.new w _ _).cell 1
    have s2 : W8.drew.cell? ⟨w.heap.size, 2, none⟩ = some (.int .i64 b) := by show W8.cell? _ = _; rw [hc8 _ _ (by omega), hc3 _ _ (by omega), hc2 _ _ (by omega), hc1 _ _ (by simp)]; exact (Blk.new w _ _).cell 2
    have s3 : W8.drew.cell? ⟨w.heap.size, 3, none⟩ = some (.slice ad t cap) := by show W8.cell? _ = _; rw [hc8 _ _ (by omega), hc3 _ _ (by omega), hc2 _ _ (by omega), hc1 _ _ (by simp)]; exact (Blk.new w _ _).cell 3
    refine region_mov (S := fun w' => w'.cell? ⟨w.heap.size, 0, none⟩ = some (.int .i64 k) ∧ w'.cell? ⟨w.heap.size, 1, none⟩ = some (.int .i64 a) ∧ w'.cell? ⟨w.heap.size, 2, none⟩ = some (.int .i64 b) ∧ w'.cell? ⟨w.heap.size, 3, none⟩ = some (.slice ad t cap)) (n := 11) (ms := [(true, 0), (true, 2), (true, 4), (false, 1), (false, 3), (false, 5), (false, 6), (true, 7), (true, 8), (true, 9), (false, 10), (false, 11)]) (hm := by kernel_rfl) (hB := by kernel_rfl) (hQ := fun c a d v w h => by cases d <;> exact h) ?_
    iterate 3
      rw [mov_take]
      simp only [List.getElem?_toArray, List.getElem?_cons_succ, List.getElem?_cons_zero]
      refine ⟨?_, .inl ⟨by rfl, ?_⟩, ⟨s0, s1, s2, s3⟩, ?_⟩
      rotate_left
      · rintro w' ⟨s0, s1, s2, s3⟩
        go_simp
        rfl
      simp only [Act.put, List.setIfInBounds_toArray, List.set_cons_zero, List.set_cons_succ]
    have hB9 : Below w.heap.size w W8.drew := hB8.drew
    have HM9 : Hid (IntsAt W8.drew (.slice mad M.length mcap) M) := HM8.out
    have HV9 : Hid (ValAt W8.drew (.agg #[.bool vl, .int .i64 vn, .slice vad vk vcap]) t0) := HV8.out.ext (Below.drew (Below.refl _ _))
    have xv9 : Blk W8.drew w3.heap.size #[.bool vl, .int .i64 vn, .slice vad vk vcap] 48 := xv
    have hz9 : W8.drew.heap.size = W8.heap.size := rfl
    have hlv : w3.heap.size < W8.drew.heap.size := xv.lt
    have ylt : w.heap.size < W8.drew.heap.size := by omega
    clear hc8 hf8 hz8 HM8 HV8 xv hb8 hW8 HM HM3 hz9 hB8
    generalize W8.drew = W9 at *
    have HS : Hid (∀ W', Below W9.heap.size W9 W' → W'.cell? ⟨w.heap.size, 0, none⟩ = some (.int .i64 k) ∧ W'.cell? ⟨w.heap.size, 1, none⟩ = some (.int .i64 a) ∧ W'.cell? ⟨w.heap.size, 2, none⟩ = some (.int .i64 b) ∧ W'.cell? ⟨w.heap.size, 3, none⟩ = some (.slice ad t cap)) := fun W' h =>
      ⟨(h.cell (p := ⟨_, 0, none⟩) ylt).trans s0, (h.cell (p := ⟨_, 1, none⟩) ylt).trans s1, (h.cell (p := ⟨_, 2, none⟩) ylt).trans s2, (h.cell (p := ⟨_, 3, none⟩) ylt).trans s3⟩
    clear s0 s1 s2 s3
    rw [mov_step]
    simp only [List.getElem?_toArray, List.getElem?_cons_succ, List.getElem?_cons_zero]
    go_wp2_with fail
    refine And.intro (fun _ => HS.out _ (by repeat (first | with_reducible assumption | with_reducible exact Below.refl _ _ | with_reducible apply Below.drew | (with_reducible refine Below.alloc ?_ (by first | omega | (simp only [zA, zS, zD, zN]; omega) | (dsimp only; omega) | (simp only [zA, zS, zD, zN]; dsimp only; omega)) _) | (with_reducible refine Below.setCell ?_ (by first | omega | (simp only [zA, zS, zD, zN]; omega) | (dsimp only; omega) | (simp only [zA, zS, zD, zN]; dsimp only; omega)) _) | (with_reducible apply below_drewN)))) ?_
    rw [mov_step]
    simp only [List.getElem?_toArray, List.getElem?_cons_succ, List.getElem?_cons_zero]
    refine append_ints (v := .slice (some ⟨W9.heap.size, 0, none⟩) 0 0) (xs := []) (base := W9.heap.size) (src := .slice mad M.length mcap) (l := M) rfl _ _ rfl rfl (OwnInts.lit W9 W9.heap.size [] (Nat.le_refl _) (by decide)) rfl (HM9.out.ext (by repeat (first | with_reducible assumption | with_reducible exact Below.refl _ _ | with_reducible apply Below.drew | (with_reducible refine Below.alloc ?_ (by first | omega | (simp only [zA, zS, zD, zN]; omega) | (dsimp only; omega) | (simp only [zA, zS, zD, zN]; dsimp only; omega)) _) | (with_reducible refine Below.setCell ?_ (by first | omega | (simp only [zA, zS, zD, zN]; omega) | (dsimp only; omega) | (simp only [zA, zS, zD, zN]; dsimp only; omega)) _) | (with_reducible apply below_drewN)))) (by simp; omega) (by simp) ?_
    intro vx1 wx1 hox1 hg1 _
    have hbx1 := grown_lit hg1
    refine And.intro (fun _ => HS.out _ hbx1) ?_
    simp only [Act.put, List.setIfInBounds_toArray, List.set_cons_zero, List.set_cons_succ]
    rw [mov_step]
    simp only [List.getElem?_toArray, List.getElem?_cons_succ, List.getElem?_cons_zero]
    refine append_ints_wide (v := vx1) (xs := [] ++ M) (base := W9.heap.size) (src := .slice ad2 more.length cap2) (l := more) rfl _ _ rfl rfl hox1 rfl (O2.out wx1 (hB9.trans (hbx1.mono hB9.size))) (by simp; omega) (by exact hbx1.size) ?_
    intro vx2 wx2 hox2 hg2 _
    have hbx2 := hbx1.trans (grown_own hox1 hg2 hbx1.size)
    refine And.intro (fun _ => HS.out _ hbx2) ?_
    simp only [Act.put, List.setIfInBounds_toArray, List.set_cons_zero, List.set_cons_succ]
    have hin : ∀ n ∈ ([] ++ M) ++ more, In64 n := by
      intro n hn
      simp only [List.nil_append] at hn
      rcases List.mem_append.1 hn with h | h
      · exact HM9.out.1 n h
      · exact (O2.out w (Below.refl _ _)).1 n h
    have hx2 := hox2.at hin
    simp only [List.nil_append] at hx2
    rw [mov_step]
    simp only [List.getElem?_toArray, List.getElem?_cons_succ, List.getElem?_cons_zero]
    go_wp2_with fail
    refine (C3.out wx2 vx2 (hB9.trans (hbx2.mono hB9.size)) hx2).mono ?_
    rintro e w10 ⟨⟨nv, rfl, hnv⟩, hb10⟩
    have hbx3 := hbx2.trans (hb10.mono hbx2.size)
    go_wp2_with fail
    refine And.intro (fun _ => HS.out _ hbx3) ?_
    iterate 3
      rw [mov_take]
      simp only [List.getElem?_toArray, List.getElem?_cons_succ, List.getElem?_cons_zero]
      refine ⟨?_, .inl ⟨by rfl, ?_⟩, (HS.out _ hbx3), ?_⟩
      rotate_left
      · rintro w' _
        go_simp
        rfl
      simp only [Act.put, List.setIfInBounds_toArray, List.set_cons_zero, List.set_cons_succ]
    have HM10 := Lib.hid (HM9.out.ext hbx3)
    have HV10 := Lib.hid (HV9.out.ext hbx3)
    have HN10 := Lib.hid hnv
    have x10 := xv9.ext hbx3
    have hB10 := hB9.trans (hbx3.mono hB9.size)
    have g0 := HS.out _ hbx3
    obtain ⟨g0, g1, g2, g3⟩ := g0
    have hz10 : W9.heap.size ≤ w10.heap.size := hbx3.size
    have yl10 : w.heap.size < w10.heap.size := by omega
    have yl3 : w3.heap.size < w10.heap.size := by omega
    have t0 := x10.cell 0
    have t1 := x10.cell 1
    have t2 := x10.cell 2
    simp only [List.getElem?_toArray, List.getElem?_cons_succ, List.getElem?_cons_zero] at t0 t1 t2
    have J1 := Lib.hid (ints_any nv (.slice mad M.length mcap) M M w10 HN10.out HM10.out)
    rw [decide_eq_true rfl] at J1
    clear HM9 HV9 hnv hbx1 hbx2 hbx3 hg1 hg2 hox1 hox2 hx2 hin xv9 hb10 hz10 C1 C2 C3
    rw [mov_step]
    simp only [List.getElem?_toArray, List.getElem?_cons_succ, List.getElem?_cons_zero]
    go_wp2_with fail
    refine And.intro (fun _ => ⟨g0, g1, g2, g3⟩) ?_
    rw [mov_step]
    simp only [List.getElem?_toArray, List.getElem?_cons_succ, List.getElem?_cons_zero]
    go_wp2_with fail
    refine And.intro (fun h => absurd h (Nat.lt_irrefl _)) ?_
    rw [wpMov]
    go_wp2_with fail
    refine J1.out.mono ?_
    rintro e w11 ⟨rfl, n11, rfl⟩
    have hB11 : Below w10.heap.size w10 (w10.drewN n11) := ⟨rfl, rfl, rfl, Nat.le_refl _, fun _ _ => rfl⟩
    have hBB11 : Below w.heap.size w (w10.drewN n11) := hB10.trans (hB11.mono hB10.size)
    have J2 := Lib.hid (C4.out _ hBB11)
    have f0 := (hB11.cell (p := ⟨w.heap.size, 0, none⟩) yl10).trans g0
    have f1 := (hB11.cell (p := ⟨w.heap.size, 1, none⟩) yl10).trans g1
    have f2 := (hB11.cell (p := ⟨w.heap.size, 2, none⟩) yl10).trans g2
    have f3 := (hB11.cell (p := ⟨w.heap.size, 3, none⟩) yl10).trans g3
    have x11 := x10.ext hB11
    have HM11 := Lib.hid (HM10.out.ext hB11)
    have HV11 := Lib.hid (HV10.out.ext hB11)
    have yl11 : w.heap.size < (w10.drewN n11).heap.size := yl10
    clear g0 g1 g2 g3 t0 t1 t2 hB11 J1 x10 HM10 HV10 yl10 yl3 HN10
    generalize w10.drewN n11 = w11 at *
    go_wp2_with fail
    refine J2.out.mono ?_
    rintro e w12 ⟨⟨v4, rfl, hv4⟩, hb12⟩
    obtain ⟨v4l, v4n, v4k, v4a, v4c, rfl⟩ := hv4.shape
    have hB12 : Below w.heap.size w w12 := hBB11.trans (hb12.mono hBB11.size)
    have x12 := x11.ext hb12
    have HM12 := Lib.hid (HM11.out.ext hb12)
    have HV12 := Lib.hid (HV11.out.ext hb12)
    clear hb12 hv4 x11 HM11 HV11 f0 f1 f2 f3
    have hl12 := x12.lt
    have J3 := Lib.hid (fun W (hb : Below w12.heap.size w12 W) => ints_any (.slice mad M.length mcap) (.slice ad1 l.length cap1) M l W (HM12.out.ext hb) (O1.out W (hB12.trans (hb.mono hB12.size))))
    obtain ⟨R4a, R4b⟩ := R4
    have hR : (R4b = 0 ∧ decide (M = l) = true) ∨ (R4b ≠ 0 ∧ decide (M = l) = false) := by
      have := HP3.out
      by_cases h : R4b = 0
      · exact .inl ⟨h, decide_eq_true (this.1 h)⟩
      · exact .inr ⟨h, decide_eq_false (fun e => h (this.2 e))⟩
    have HR := Lib.hid hR
    clear hR J2 C4 HP3
    generalize decide (M = l) = bq at *
    rcases HR.out with ⟨hr, rfl⟩ | ⟨hr, rfl⟩
    · subst hr
      simp only [errV_zero]
      clear HR
      go_wp2_with fail
      refine (J3.out _ (by repeat (first | with_reducible assumption | with_reducible exact Below.refl _ _ | with_reducible apply Below.drew | (with_reducible refine Below.alloc ?_ (by first | omega | (simp only [zA, zS, zD, zN]; omega) | (dsimp only; omega) | (simp only [zA, zS, zD, zN]; dsimp only; omega)) _) | (with_reducible refine Below.setCell ?_ (by first | omega | (simp only [zA, zS, zD, zN]; omega) | (dsimp only; omega) | (simp only [zA, zS, zD, zN]; dsimp only; omega)) _) | (with_reducible apply below_drewN)))).mono ?_
      rintro e w13 ⟨rfl, n13, rfl⟩
      have hb13 : Below w12.heap.size w12 ((w12.alloc (.cells #[.bool v4l, .int .i64 v4n, .slice v4a v4k v4c] 48)).drewN n13) := by
        have h1 : Below w12.heap.size w12 (w12.alloc (.cells #[.bool v4l, .int .i64 v4n, .slice v4a v4k v4c] 48)) := by repeat (first | with_reducible assumption | with_reducible exact Below.refl _ _ | with_reducible apply Below.drew | (with_reducible refine Below.alloc ?_ (by first | omega | (simp only [zA, zS, zD, zN]; omega) | (dsimp only; omega) | (simp only [zA, zS, zD, zN]; dsimp only; omega)) _) | (with_reducible refine Below.setCell ?_ (by first | omega | (simp only [zA, zS, zD, zN]; omega) | (dsimp only; omega) | (simp only [zA, zS, zD, zN]; dsimp only; omega)) _) | (with_reducible apply below_drewN))
        exact ⟨h1.os, h1.tape, h1.output, h1.size, h1.block⟩
      have hB13 := hB12.trans (hb13.mono hB12.size)
      have x13 := x12.ext hb13
      have C6 := Lib.hid (C5.out _ _ (HV12.out.ext hb13))
      have t0 := x13.cell 0
      have t1 := x13.cell 1
      have t2 := x13.cell 2
      simp only [List.getElem?_toArray, List.getElem?_cons_succ, List.getElem?_cons_zero] at t0 t1 t2
      clear hb13 x12 x13
      generalize (w12.alloc (.cells #[.bool v4l, .int .i64 v4n, .slice v4a v4k v4c] 48)).drewN n13 = w13 at *
      go_wp2_with fail
      refine C6.out.mono ?_
      rintro e w14 ⟨rfl, hb14⟩
      have hB14 : Below w.heap.size w w14 := hB13.trans (hb14.mono hB13.size)
      go_wp2_with fail
      go_ret
      exact ⟨rfl, hB14⟩
    · simp only [errV_ne hr]
      clear hr HR
      go_wp2_with fail
      refine (J3.out _ (by repeat (first | with_reducible assumption | with_reducible exact Below.refl _ _ | with_reducible apply Below.drew | (with_reducible refine Below.alloc ?_ (by first | omega | (simp only [zA, zS, zD, zN]; omega) | (dsimp only; omega) | (simp only [zA, zS, zD, zN]; dsimp only; omega)) _) | (with_reducible refine Below.setCell ?_ (by first | omega | (simp only [zA, zS, zD, zN]; omega) | (dsimp only; omega) | (simp only [zA, zS, zD, zN]; dsimp only; omega)) _) | (with_reducible apply below_drewN)))).mono ?_
      rintro e w13 ⟨rfl, n13, rfl⟩
      have hb13 : Below w12.heap.size w12 ((w12.alloc (.cells #[.bool v4l, .int .i64 v4n, .slice v4a v4k v4c] 48)).drewN n13) := by
        have h1 : Below w12.heap.size w12 (w12.alloc (.cells #[.bool v4l, .int .i64 v4n, .slice v4a v4k v4c] 48)) := by repeat (first | with_reducible assumption | with_reducible exact Below.refl _ _ | with_reducible apply Below.drew | (with_reducible refine Below.alloc ?_ (by first | omega | (simp only [zA, zS, zD, zN]; omega) | (dsimp only; omega) | (simp only [zA, zS, zD, zN]; dsimp only; omega)) _) | (with_reducible refine Below.setCell ?_ (by first | omega | (simp only [zA, zS, zD, zN]; omega) | (dsimp only; omega) | (simp only [zA, zS, zD, zN]; dsimp only; omega)) _) | (with_reducible apply below_drewN))
        exact ⟨h1.os, h1.tape, h1.output, h1.size, h1.block⟩
      have hB13 := hB12.trans (hb13.mono hB12.size)
      have x13 := x12.ext hb13
      have C6 := Lib.hid (C5.out _ _ (HV12.out.ext hb13))
      have t0 := x13.cell 0
      have t1 := x13.cell 1
      have t2 := x13.cell 2
      simp only [List.getElem?_toArray, List.getElem?_cons_succ, List.getElem?_cons_zero] at t0 t1 t2
      clear hb13 x12 x13
      generalize (w12.alloc (.cells #[.bool v4l, .int .i64 v4n, .slice v4a v4k v4c] 48)).drewN n13 = w13 at *
      go_wp2_with fail
      refine C6.out.mono ?_
      rintro e w14 ⟨rfl, hb14⟩
      have hB14 : Below w.heap.size w w14 := hB13.trans (hb14.mono hB13.size)
      go_wp2_with fail
      go_ret
      exact ⟨rfl, hB14⟩
  · have C1 := Lib.hid (fun W (hb : Below w.heap.size w W) => mend_bad g _ (.slice ad1 l.length cap1) hc W (o0.ext hb) ⟨_, _, _, rfl⟩)
    rw [errV_ne hc] at C1
    clear hc o0 o1 o2
    go_enter Try.func7, Try.ntmps7
    go_wp2_with fail
    refine (C0.out _).mono ?_
    rintro e w1 ⟨rfl, hb1⟩
    have hB1 : Below w.heap.size w w1 := Below.trans (by repeat (first | with_reducible assumption | with_reducible exact Below.refl _ _ | with_reducible apply Below.drew | (with_reducible refine Below.alloc ?_ (by first | omega | (simp only [zA, zS, zD, zN]; omega) | (dsimp only; omega) | (simp only [zA, zS, zD, zN]; dsimp only; omega)) _) | (with_reducible refine Below.setCell ?_ (by first | omega | (simp only [zA, zS, zD, zN]; omega) | (dsimp only; omega) | (simp only [zA, zS, zD, zN]; dsimp only; omega)) _) | (with_reducible apply below_drewN))) (hb1.mono (by first | omega | (simp only [zA, zS, zD, zN]; omega) | (dsimp only; omega) | (simp only [zA, zS, zD, zN]; dsimp only; omega)))
    obtain ⟨hc1, hf1, hz1⟩ := bcell hb1
    try simp only [zA, zS, zD, zN] at hz1
    clear hb1
    have y1_0 : w.heap.size < w1.heap.size := by omega
    go_wp2_with fail
    refine (C1.out _ (by repeat (first | with_reducible assumption | with_reducible exact Below.refl _ _ | with_reducible apply Below.drew | (with_reducible refine Below.alloc ?_ (by first | omega | (simp only [zA, zS, zD, zN]; omega) | (dsimp only; omega) | (simp only [zA, zS, zD, zN]; dsimp only; omega)) _) | (with_reducible refine Below.setCell ?_ (by first | omega | (simp only [zA, zS, zD, zN]; omega) | (dsimp only; omega) | (simp only [zA, zS, zD, zN]; dsimp only; omega)) _) | (with_reducible apply below_drewN)))).mono ?_
    rintro e w2 ⟨rfl, hb2⟩
    have hB2 : Below w.heap.size w w2 := Below.trans (by repeat (first | with_reducible assumption | with_reducible exact Below.refl _ _ | with_reducible apply Below.drew | (with_reducible refine Below.alloc ?_ (by first | omega | (simp only [zA, zS, zD, zN]; omega) | (dsimp only; omega) | (simp only [zA, zS, zD, zN]; dsimp only; omega)) _) | (with_reducible refine Below.setCell ?_ (by first | omega | (simp only [zA, zS, zD, zN]; omega) | (dsimp only; omega) | (simp only [zA, zS, zD, zN]; dsimp only; omega)) _) | (with_reducible apply below_drewN))) (hb2.mono (by first | omega | (simp only [zA, zS, zD, zN]; omega) | (dsimp only; omega) | (simp only [zA, zS, zD, zN]; dsimp only; omega)))
    obtain ⟨hc2, hf2, hz2⟩ := bcell hb2
    try simp only [zA, zS, zD, zN] at hz2
    clear hb2
    go_wp2_with fail
    go_ret
    exact ⟨rfl, by repeat (first | with_reducible assumption | with_reducible exact Below.refl _ _ | with_reducible apply Below.drew | (with_reducible refine Below.alloc ?_ (by first | omega | (simp only [zA, zS, zD, zN]; omega) | (dsimp only; omega) | (simp only [zA, zS, zD, zN]; dsimp only; omega)) _) | (with_reducible refine Below.setCell ?_ (by first | omega | (simp only [zA, zS, zD, zN]; omega) | (dsimp only; omega) | (simp only [zA, zS, zD, zN]; dsimp only; omega)) _) | (with_reducible apply below_drewN))⟩
end Go.Proofs.Ytocngjpjheockaa
