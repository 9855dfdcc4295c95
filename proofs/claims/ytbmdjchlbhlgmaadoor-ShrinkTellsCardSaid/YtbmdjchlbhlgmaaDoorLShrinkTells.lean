/- The walk through the statement ShrinkTells. -/
import Derived.Test.YtbmdjchlbhlgmaaDoorSH2
import Derived.Test.YtbmdjchlbhlgmaaDoorRF4
import Derived.Test.YtbmdjchlbhlgmaaDoorRX1
import Derived.Test.YtbmdjchlbhlgmaaDoorLMade
import Derived.Test.YtbmdjchlbhlgmaaDoorTAs
namespace Go.Proofs.YtbmdjchlbhlgmaaDoor
set_option maxRecDepth 100000
open Go.RowKit
set_option linter.unusedSimpArgs false
set_option linter.unusedVariables false
theorem ints_nil (w : World) : IntsAt w (.slice none 0 0) [] := ⟨by simp, .inl ⟨rfl, rfl⟩⟩
set_option maxHeartbeats 16000000 in
theorem shrinkTells_go (w : World) (hT : TakesAt w) (hE : ErrTypeAt w) {gv xv lv : Value} (g : GT) (hg : GenAt w gv g) (x : ET) (hx : ExprAt w xv x) (l : List Int) (hl : IntsAt w lv l) :
    Calls Tryd.prog 7 #[gv, xv, lv] w fun e w' => e = .returned (.bool true) ∧ Below w.heap.size w w' := by
  obtain ⟨k0, a0, b0, s0, g0, c0, rfl⟩ := hg.shape
  obtain ⟨k1, n1, s1, a1, c1, rfl⟩ := hx.shape
  obtain ⟨lad, lcap, rfl, _⟩ := hl.form
  have HE := Lib.hid hE
  have HT := Lib.hid hT
  have HG := Lib.hid hg
  have HX := Lib.hid hx
  have HL := Lib.hid hl
  have CE0 : Hid (∀ W, ErrTypeAt W → Calls Tryd.prog 15 #[.nilIface, .int .i64 0] W fun ev w' => ev = .returned (.bool true) ∧ Below W.heap.size W w') := fun W h => by have := error_yes 0 W h; rw [errV_zero] at this; exact this
  clear hE hT hg hx hl
  go_enter Tryd.func7, Tryd.ntmps7
  go_wp2_with fail
  generalize hW0 : ((w.alloc (.cells #[.int .i64 k0, .int .i64 a0, .int .i64 b0, .slice g0 s0 c0] 45)).alloc (.cells #[.int .i64 k1, .int .i64 n1, .slice a1 s1 c1] 24)) = W0
  have hB0 : Below w.heap.size w W0 := by rw [← hW0]; repeat (first | with_reducible assumption | with_reducible exact Below.refl _ _ | with_reducible apply Below.drew | (with_reducible refine Below.alloc ?_ (by first | omega | (simp only [World.size_alloc, size_setCell, size_drew, size_drewN]; omega) | (dsimp only; omega) | (simp only [World.size_alloc, size_setCell, size_drew, size_drewN]; dsimp only; omega)) _) | (with_reducible refine Below.setCell ?_ (by first | omega | (simp only [World.size_alloc, size_setCell, size_drew, size_drewN]; omega) | (dsimp only; omega) | (simp only [World.size_alloc, size_setCell, size_drew, size_drewN]; dsimp only; omega)) _) | (with_reducible apply below_drewN))
  have X0 : Blk W0 (w.heap.size) #[.int .i64 k0, .int .i64 a0, .int .i64 b0, .slice g0 s0 c0] 45 := by rw [← hW0]; exact ((Blk.new w #[.int .i64 k0, .int .i64 a0, .int .i64 b0, .slice g0 s0 c0] 45)).alloc _
  have X1 : Blk W0 (w.heap.size + 1) #[.int .i64 k1, .int .i64 n1, .slice a1 s1 c1] 24 := by rw [← hW0]; exact (show Blk ((w.alloc (.cells #[.int .i64 k0, .int .i64 a0, .int .i64 b0, .slice g0 s0 c0] 45)).alloc (.cells #[.int .i64 k1, .int .i64 n1, .slice a1 s1 c1] 24)) (w.heap.size + 1) _ _ by simpa using Blk.new (w.alloc (.cells #[.int .i64 k0, .int .i64 a0, .int .i64 b0, .slice g0 s0 c0] 45)) #[.int .i64 k1, .int .i64 n1, .slice a1 s1 c1] 24)
  clear hW0
  refine (made_fact _).mono ?_
  rintro e W1 ⟨rfl, hb⟩
  have hB1 : Below w.heap.size w W1 := hB0.trans (hb.mono hB0.size)
  have X0 := X0.ext hb
  have X1 := X1.ext hb
  clear hb hB0
  go_wp2_with fail
  refine (asked_fact _ (HT.out.ext hB1)).mono ?_
  rintro e W2 ⟨rfl, hb⟩
  have hB2 : Below w.heap.size w W2 := hB1.trans (hb.mono hB1.size)
  have X0 := X0.ext hb
  have X1 := X1.ext hb
  clear hb hB1
  have f0_0 := X0.cell 0
  have f0_1 := X0.cell 1
  have f0_2 := X0.cell 2
  have f0_3 := X0.cell 3
  simp only [List.getElem?_toArray, List.getElem?_cons_succ, List.getElem?_cons_zero] at f0_0 f0_1 f0_2 f0_3
  go_wp2_with fail
  refine (rgfault_any g _ _ (HG.out.ext hB2)).mono ?_
  rintro e W3 ⟨rfl, hb⟩
  clear f0_0 f0_1 f0_2 f0_3
  have hB3 : Below w.heap.size w W3 := hB2.trans (hb.mono hB2.size)
  have X0 := X0.ext hb
  have X1 := X1.ext hb
  clear hb hB2
  by_cases hc : GT.check g = 0
  case neg =>
    have hq : (GT.check g == 0) = false := by simpa using hc
    have HSH : Hid (shErr g x l = GT.check g) := by show _ = _; unfold shErr; rw [if_pos hc]
    have CB := Lib.hid (fun W h => by have := shrink_bad g x l (by rw [HSH.out]; exact hc) _ _ _ W (HT.out.ext (w' := W) h) (HG.out.ext h) (HX.out.ext h) (HL.out.ext h); rw [HSH.out] at this; exact this)
    clear hc HSH
    generalize GT.check g = ce at *
    have f0_0 := X0.cell 0
    have f0_1 := X0.cell 1
    have f0_2 := X0.cell 2
    have f0_3 := X0.cell 3
    simp only [List.getElem?_toArray, List.getElem?_cons_succ, List.getElem?_cons_zero] at f0_0 f0_1 f0_2 f0_3
    have f1_0 := X1.cell 0
    have f1_1 := X1.cell 1
    have f1_2 := X1.cell 2
    simp only [List.getElem?_toArray, List.getElem?_cons_succ, List.getElem?_cons_zero] at f1_0 f1_1 f1_2
    go_wp2_with fail
    refine (CB.out _ hB3).mono ?_
    rintro e W4 ⟨rfl, hb⟩
    clear f0_0 f0_1 f0_2 f0_3 f1_0 f1_1 f1_2
    have hB4 : Below w.heap.size w W4 := hB3.trans (hb.mono hB3.size)
    have X0 := X0.ext hb
    have X1 := X1.ext hb
    clear hb hB3
    go_wp2_with fail
    refine (error_yes (ce) _ (HE.out.ext hB4)).mono ?_
    rintro e W5 ⟨rfl, hb⟩
    have hB5 : Below w.heap.size w W5 := hB4.trans (hb.mono hB4.size)
    have X0 := X0.ext hb
    have X1 := X1.ext hb
    clear hb hB4
    go_wp2_with fail
    refine (ints_same _ _ ([]) W5 (ints_nil _) (ints_nil _)).mono ?_
    rintro e Wi ⟨rfl, nn, rfl⟩
    have hb : Below W5.heap.size W5 (W5.drewN nn) := below_drewN (Below.refl _ _)
    generalize W5.drewN nn = WI at *
    have hB6 : Below w.heap.size w WI := hB5.trans (hb.mono hB5.size)
    have X0 := X0.ext hb
    have X1 := X1.ext hb
    clear hb hB5
    go_wp2_with fail
    go_ret
    exact ⟨by simp, hB6⟩
  rw [hc]
  have HC := Lib.hid hc
  clear hc
  have f0_0 := X1.cell 0
  have f0_1 := X1.cell 1
  have f0_2 := X1.cell 2
  simp only [List.getElem?_toArray, List.getElem?_cons_succ, List.getElem?_cons_zero] at f0_0 f0_1 f0_2
  go_wp2_with fail
  refine (rxfault_any x _ _ (HX.out.ext hB3)).mono ?_
  rintro e W4 ⟨rfl, hb⟩
  clear f0_0 f0_1 f0_2
  have hB4 : Below w.heap.size w W4 := hB3.trans (hb.mono hB3.size)
  have X0 := X0.ext hb
  have X1 := X1.ext hb
  clear hb hB3
  by_cases hx0 : ET.check x = 0
  case neg =>
    have hq : (ET.check x == 0) = false := by simpa using hx0
    have HSH : Hid (shErr g x l = ET.check x) := by show _ = _; unfold shErr; rw [if_neg (by have := HC.out; omega), if_pos hx0]
    have CB := Lib.hid (fun W h => by have := shrink_bad g x l (by rw [HSH.out]; exact hx0) _ _ _ W (HT.out.ext (w' := W) h) (HG.out.ext h) (HX.out.ext h) (HL.out.ext h); rw [HSH.out] at this; exact this)
    clear hx0 HSH
    generalize ET.check x = ce at *
    have f0_0 := X0.cell 0
    have f0_1 := X0.cell 1
    have f0_2 := X0.cell 2
    have f0_3 := X0.cell 3
    simp only [List.getElem?_toArray, List.getElem?_cons_succ, List.getElem?_cons_zero] at f0_0 f0_1 f0_2 f0_3
    have f1_0 := X1.cell 0
    have f1_1 := X1.cell 1
    have f1_2 := X1.cell 2
    simp only [List.getElem?_toArray, List.getElem?_cons_succ, List.getElem?_cons_zero] at f1_0 f1_1 f1_2
    go_wp2_with fail
    refine (CB.out _ hB4).mono ?_
    rintro e W5 ⟨rfl, hb⟩
    clear f0_0 f0_1 f0_2 f0_3 f1_0 f1_1 f1_2
    have hB5 : Below w.heap.size w W5 := hB4.trans (hb.mono hB4.size)
    have X0 := X0.ext hb
    have X1 := X1.ext hb
    clear hb hB4
    go_wp2_with fail
    refine (error_yes (ce) _ (HE.out.ext hB5)).mono ?_
    rintro e W6 ⟨rfl, hb⟩
    have hB6 : Below w.heap.size w W6 := hB5.trans (hb.mono hB5.size)
    have X0 := X0.ext hb
    have X1 := X1.ext hb
    clear hb hB5
    go_wp2_with fail
    refine (ints_same _ _ ([]) W6 (ints_nil _) (ints_nil _)).mono ?_
    rintro e Wi ⟨rfl, nn, rfl⟩
    have hb : Below W6.heap.size W6 (W6.drewN nn) := below_drewN (Below.refl _ _)
    generalize W6.drewN nn = WI at *
    have hB7 : Below w.heap.size w WI := hB6.trans (hb.mono hB6.size)
    have X0 := X0.ext hb
    have X1 := X1.ext hb
    clear hb hB6
    go_wp2_with fail
    go_ret
    exact ⟨by simp, hB7⟩
  rw [hx0]
  have HXC := Lib.hid hx0
  clear hx0
  have f0_0 := X0.cell 0
  have f0_1 := X0.cell 1
  have f0_2 := X0.cell 2
  have f0_3 := X0.cell 3
  simp only [List.getElem?_toArray, List.getElem?_cons_succ, List.getElem?_cons_zero] at f0_0 f0_1 f0_2 f0_3
  go_wp2_with fail
  refine (rreplay_any g HC.out l _ _ _ (HG.out.ext hB4) (HL.out.ext hB4)).mono ?_
  rintro e W5 ⟨⟨rv, rfl, hrv⟩, hb⟩
  clear f0_0 f0_1 f0_2 f0_3
  have hB5 : Below w.heap.size w W5 := hB4.trans (hb.mono hB4.size)
  have X0 := X0.ext hb
  have X1 := X1.ext hb
  clear hb hB4
  clear hrv
  by_cases hp : (playR g l).2 = 0
  case neg =>
    have hq : ((playR g l).2 == 0) = false := by simpa using hp
    have HSH : Hid (shErr g x l = (playR g l).2) := by show _ = _; unfold shErr; rw [if_neg (by have := HC.out; omega), if_neg (by have := HXC.out; omega), if_pos hp]
    have CB := Lib.hid (fun W h => by have := shrink_bad g x l (by rw [HSH.out]; exact hp) _ _ _ W (HT.out.ext (w' := W) h) (HG.out.ext h) (HX.out.ext h) (HL.out.ext h); rw [HSH.out] at this; exact this)
    clear hp HSH
    generalize (playR g l).2 = ce at *
    have f0_0 := X0.cell 0
    have f0_1 := X0.cell 1
    have f0_2 := X0.cell 2
    have f0_3 := X0.cell 3
    simp only [List.getElem?_toArray, List.getElem?_cons_succ, List.getElem?_cons_zero] at f0_0 f0_1 f0_2 f0_3
    have f1_0 := X1.cell 0
    have f1_1 := X1.cell 1
    have f1_2 := X1.cell 2
    simp only [List.getElem?_toArray, List.getElem?_cons_succ, List.getElem?_cons_zero] at f1_0 f1_1 f1_2
    go_wp2_with fail
    refine (CB.out _ hB5).mono ?_
    rintro e W6 ⟨rfl, hb⟩
    clear f0_0 f0_1 f0_2 f0_3 f1_0 f1_1 f1_2
    have hB6 : Below w.heap.size w W6 := hB5.trans (hb.mono hB5.size)
    have X0 := X0.ext hb
    have X1 := X1.ext hb
    clear hb hB5
    go_wp2_with fail
    refine (error_yes (ce) _ (HE.out.ext hB6)).mono ?_
    rintro e W7 ⟨rfl, hb⟩
    have hB7 : Below w.heap.size w W7 := hB6.trans (hb.mono hB6.size)
    have X0 := X0.ext hb
    have X1 := X1.ext hb
    clear hb hB6
    go_wp2_with fail
    refine (ints_same _ _ ([]) W7 (ints_nil _) (ints_nil _)).mono ?_
    rintro e Wi ⟨rfl, nn, rfl⟩
    have hb : Below W7.heap.size W7 (W7.drewN nn) := below_drewN (Below.refl _ _)
    generalize W7.drewN nn = WI at *
    have hB8 : Below w.heap.size w WI := hB7.trans (hb.mono hB7.size)
    have X0 := X0.ext hb
    have X1 := X1.ext hb
    clear hb hB7
    go_wp2_with fail
    go_ret
    exact ⟨by simp, hB8⟩
  rw [hp]
  have HP := Lib.hid hp
  clear hp
  have f0_0 := X0.cell 0
  have f0_1 := X0.cell 1
  have f0_2 := X0.cell 2
  have f0_3 := X0.cell 3
  simp only [List.getElem?_toArray, List.getElem?_cons_succ, List.getElem?_cons_zero] at f0_0 f0_1 f0_2 f0_3
  have f1_0 := X1.cell 0
  have f1_1 := X1.cell 1
  have f1_2 := X1.cell 2
  simp only [List.getElem?_toArray, List.getElem?_cons_succ, List.getElem?_cons_zero] at f1_0 f1_1 f1_2
  go_wp2_with fail
  refine (rbt_any g x l HP.out HXC.out _ _ _ _ (HG.out.ext hB5) (HX.out.ext hB5) (HL.out.ext hB5)).mono ?_
  rintro e W6 ⟨rfl, hb⟩
  clear f0_0 f0_1 f0_2 f0_3 f1_0 f1_1 f1_2
  have hB6 : Below w.heap.size w W6 := hB5.trans (hb.mono hB5.size)
  have X0 := X0.ext hb
  have X1 := X1.ext hb
  clear hb hB5
  obtain ⟨bt, hbt⟩ : ∃ b, b = badR g x l := ⟨_, rfl⟩
  rw [← hbt]
  cases bt with
  | false =>
    have HSH : Hid (shErr g x l = 2) := shErr_none HP.out HXC.out hbt.symm
    have CB := Lib.hid (fun W h => by have := shrink_bad g x l (by rw [HSH.out]; exact (by decide)) _ _ _ W (HT.out.ext (w' := W) h) (HG.out.ext h) (HX.out.ext h) (HL.out.ext h); rw [HSH.out] at this; exact this)
    clear hbt HSH
    have f0_0 := X0.cell 0
    have f0_1 := X0.cell 1
    have f0_2 := X0.cell 2
    have f0_3 := X0.cell 3
    simp only [List.getElem?_toArray, List.getElem?_cons_succ, List.getElem?_cons_zero] at f0_0 f0_1 f0_2 f0_3
    have f1_0 := X1.cell 0
    have f1_1 := X1.cell 1
    have f1_2 := X1.cell 2
    simp only [List.getElem?_toArray, List.getElem?_cons_succ, List.getElem?_cons_zero] at f1_0 f1_1 f1_2
    go_wp2_with fail
    refine (CB.out _ hB6).mono ?_
    rintro e W7 ⟨rfl, hb⟩
    clear f0_0 f0_1 f0_2 f0_3 f1_0 f1_1 f1_2
    have hB7 : Below w.heap.size w W7 := hB6.trans (hb.mono hB6.size)
    have X0 := X0.ext hb
    have X1 := X1.ext hb
    clear hb hB6
    go_wp2_with fail
    refine (error_yes (2) _ (HE.out.ext hB7)).mono ?_
    rintro e W8 ⟨rfl, hb⟩
    have hB8 : Below w.heap.size w W8 := hB7.trans (hb.mono hB7.size)
    have X0 := X0.ext hb
    have X1 := X1.ext hb
    clear hb hB7
    go_wp2_with fail
    refine (ints_same _ _ ([]) W8 (ints_nil _) (ints_nil _)).mono ?_
    rintro e Wi ⟨rfl, nn, rfl⟩
    have hb : Below W8.heap.size W8 (W8.drewN nn) := below_drewN (Below.refl _ _)
    generalize W8.drewN nn = WI at *
    have hB9 : Below w.heap.size w WI := hB8.trans (hb.mono hB8.size)
    have X0 := X0.ext hb
    have X1 := X1.ext hb
    clear hb hB8
    go_wp2_with fail
    go_ret
    exact ⟨by simp, hB9⟩
  | true =>
    have HFL : Hid (badR g x l = true) := hbt.symm
    clear hbt
    have f0_0 := X0.cell 0
    have f0_1 := X0.cell 1
    have f0_2 := X0.cell 2
    have f0_3 := X0.cell 3
    simp only [List.getElem?_toArray, List.getElem?_cons_succ, List.getElem?_cons_zero] at f0_0 f0_1 f0_2 f0_3
    have f1_0 := X1.cell 0
    have f1_1 := X1.cell 1
    have f1_2 := X1.cell 2
    simp only [List.getElem?_toArray, List.getElem?_cons_succ, List.getElem?_cons_zero] at f1_0 f1_1 f1_2
    go_wp2_with fail
    refine (rwalkof_any g x l HP.out HXC.out HFL.out _ _ _ _ (HG.out.ext hB6) (HX.out.ext hB6) (HL.out.ext hB6)).mono ?_
    rintro e W7 ⟨⟨m1, rfl, hm1⟩, hb⟩
    clear f0_0 f0_1 f0_2 f0_3 f1_0 f1_1 f1_2
    have hB7 : Below w.heap.size w W7 := hB6.trans (hb.mono hB6.size)
    have X0 := X0.ext hb
    have X1 := X1.ext hb
    clear hb hB6
    have HM1 := Lib.hid hm1.at
    clear hm1
    have f0_0 := X0.cell 0
    have f0_1 := X0.cell 1
    have f0_2 := X0.cell 2
    have f0_3 := X0.cell 3
    simp only [List.getElem?_toArray, List.getElem?_cons_succ, List.getElem?_cons_zero] at f0_0 f0_1 f0_2 f0_3
    have f1_0 := X1.cell 0
    have f1_1 := X1.cell 1
    have f1_2 := X1.cell 2
    simp only [List.getElem?_toArray, List.getElem?_cons_succ, List.getElem?_cons_zero] at f1_0 f1_1 f1_2
    go_wp2_with fail
    refine (shrink_ok g x l HP.out HXC.out HFL.out _ _ _ _ (HT.out.ext hB7) (HG.out.ext hB7) (HX.out.ext hB7) (HL.out.ext hB7)).mono ?_
    rintro e W8 ⟨⟨m2, rfl, hm2⟩, hb⟩
    clear f0_0 f0_1 f0_2 f0_3 f1_0 f1_1 f1_2
    have hB8 : Below w.heap.size w W8 := hB7.trans (hb.mono hB7.size)
    have X0 := X0.ext hb
    have X1 := X1.ext hb
    have HM1 := Lib.hid (HM1.out.ext hb)
    clear hb hB7
    have HM2 := Lib.hid hm2.at
    clear hm2
    go_wp2_with fail
    refine (CE0.out _ (HE.out.ext hB8)).mono ?_
    rintro e W9 ⟨rfl, hb⟩
    have hB9 : Below w.heap.size w W9 := hB8.trans (hb.mono hB8.size)
    have X0 := X0.ext hb
    have X1 := X1.ext hb
    have HM1 := Lib.hid (HM1.out.ext hb)
    have HM2 := Lib.hid (HM2.out.ext hb)
    clear hb hB8
    go_wp2_with fail
    refine (ints_same _ _ ((walkR g x l).1) W9 HM2.out HM1.out).mono ?_
    rintro e Wi ⟨rfl, nn, rfl⟩
    have hb : Below W9.heap.size W9 (W9.drewN nn) := below_drewN (Below.refl _ _)
    generalize W9.drewN nn = WI at *
    have hB10 : Below w.heap.size w WI := hB9.trans (hb.mono hB9.size)
    have X0 := X0.ext hb
    have X1 := X1.ext hb
    have HM1 := Lib.hid (HM1.out.ext hb)
    have HM2 := Lib.hid (HM2.out.ext hb)
    clear hb hB9
    go_wp2_with fail
    go_ret
    exact ⟨by simp, hB10⟩
end Go.Proofs.YtbmdjchlbhlgmaaDoor
