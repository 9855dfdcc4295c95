/- The walk through the statement GenTells. -/
import Derived.Test.YtbmdjchlbhlgmaaDoorRF4
import Derived.Test.YtbmdjchlbhlgmaaDoorRF5
import Derived.Test.YtbmdjchlbhlgmaaDoorRF13
import Derived.Test.YtbmdjchlbhlgmaaDoorRS1
import Derived.Test.YtbmdjchlbhlgmaaDoorLMade
import Derived.Test.YtbmdjchlbhlgmaaDoorTAs
namespace Go.Proofs.YtbmdjchlbhlgmaaDoor
set_option maxRecDepth 100000
open Go.RowKit
set_option linter.unusedSimpArgs false
set_option linter.unusedVariables false
set_option maxHeartbeats 16000000 in
theorem genTells_go (w : World) (hE : ErrTypeAt w) {gv lv sv : Value} (g : GT) (hg : GenAt w gv g) (l : List Int) (hl : IntsAt w lv l) (sd : Nat × Nat) (hs : SeedAt sv sd) :
    Calls Tryd.prog 4 #[gv, lv, sv] w fun e w' => e = .returned (.bool true) ∧ Below w.heap.size w w' := by
  obtain ⟨k0, a0, b0, s0, g0, c0, rfl⟩ := hg.shape
  obtain ⟨lad, lcap, rfl, _⟩ := hl.form
  obtain ⟨rfl, hs1, hs2⟩ := hs
  have HS : Hid (SeedAt (.agg #[.int .u64 sd.1, .int .u64 sd.2]) sd) := ⟨rfl, hs1, hs2⟩
  have HE := Lib.hid hE
  have HG := Lib.hid hg
  have HL := Lib.hid hl
  clear hE hg hl hs1 hs2
  obtain ⟨u1, u2⟩ := sd
  dsimp only at HS ⊢
  go_enter Tryd.func4, Tryd.ntmps4
  go_wp2_with fail
  generalize hW0 : ((w.alloc (.cells #[.int .i64 k0, .int .i64 a0, .int .i64 b0, .slice g0 s0 c0] 45)).alloc (.cells #[.int .u64 u1, .int .u64 u2] 49)) = W0
  have hB0 : Below w.heap.size w W0 := by rw [← hW0]; repeat (first | with_reducible assumption | with_reducible exact Below.refl _ _ | with_reducible apply Below.drew | (with_reducible refine Below.alloc ?_ (by first | omega | (simp only [World.size_alloc, size_setCell, size_drew, size_drewN]; omega) | (dsimp only; omega) | (simp only [World.size_alloc, size_setCell, size_drew, size_drewN]; dsimp only; omega)) _) | (with_reducible refine Below.setCell ?_ (by first | omega | (simp only [World.size_alloc, size_setCell, size_drew, size_drewN]; omega) | (dsimp only; omega) | (simp only [World.size_alloc, size_setCell, size_drew, size_drewN]; dsimp only; omega)) _) | (with_reducible apply below_drewN))
  have X0 : Blk W0 (w.heap.size) #[.int .i64 k0, .int .i64 a0, .int .i64 b0, .slice g0 s0 c0] 45 := by rw [← hW0]; exact ((Blk.new w #[.int .i64 k0, .int .i64 a0, .int .i64 b0, .slice g0 s0 c0] 45)).alloc _
  have X2 : Blk W0 (w.heap.size + 1) #[.int .u64 u1, .int .u64 u2] 49 := by rw [← hW0]; exact (show Blk ((w.alloc (.cells #[.int .i64 k0, .int .i64 a0, .int .i64 b0, .slice g0 s0 c0] 45)).alloc (.cells #[.int .u64 u1, .int .u64 u2] 49)) (w.heap.size + 1) _ _ by simpa using Blk.new (w.alloc (.cells #[.int .i64 k0, .int .i64 a0, .int .i64 b0, .slice g0 s0 c0] 45)) #[.int .u64 u1, .int .u64 u2] 49)
  clear hW0
  refine (made_fact _).mono ?_
  rintro e W1 ⟨rfl, hb⟩
  have hB1 : Below w.heap.size w W1 := hB0.trans (hb.mono hB0.size)
  have X0 := X0.ext hb
  have X2 := X2.ext hb
  clear hb hB0
  have f0_0 := X0.cell 0
  have f0_1 := X0.cell 1
  have f0_2 := X0.cell 2
  have f0_3 := X0.cell 3
  simp only [List.getElem?_toArray, List.getElem?_cons_succ, List.getElem?_cons_zero] at f0_0 f0_1 f0_2 f0_3
  go_wp2_with fail
  refine (rgfault_any g _ _ (HG.out.ext hB1)).mono ?_
  rintro e W2 ⟨rfl, hb⟩
  clear f0_0 f0_1 f0_2 f0_3
  have hB2 : Below w.heap.size w W2 := hB1.trans (hb.mono hB1.size)
  have X0 := X0.ext hb
  have X2 := X2.ext hb
  clear hb hB1
  have f0_0 := X0.cell 0
  have f0_1 := X0.cell 1
  have f0_2 := X0.cell 2
  have f0_3 := X0.cell 3
  simp only [List.getElem?_toArray, List.getElem?_cons_succ, List.getElem?_cons_zero] at f0_0 f0_1 f0_2 f0_3
  go_wp2_with fail
  refine (check_any g _ _ (HG.out.ext hB2)).mono ?_
  rintro e W3 ⟨rfl, hb⟩
  clear f0_0 f0_1 f0_2 f0_3
  have hB3 : Below w.heap.size w W3 := hB2.trans (hb.mono hB2.size)
  have X0 := X0.ext hb
  have X2 := X2.ext hb
  clear hb hB2
  go_wp2_with fail
  refine (error_yes (GT.check g) _ (HE.out.ext hB3)).mono ?_
  rintro e W4 ⟨rfl, hb⟩
  have hB4 : Below w.heap.size w W4 := hB3.trans (hb.mono hB3.size)
  have X0 := X0.ext hb
  have X2 := X2.ext hb
  clear hb hB3
  by_cases hc : GT.check g = 0
  case neg =>
    have hq : (GT.check g == 0) = false := by simpa using hc
    have HCT : Hid (GT.countR g = (0, GT.check g)) := by show _ = _; unfold GT.countR; rw [if_neg hc]
    have HPL : Hid (playR g l = (zeroV, GT.check g)) := by show _ = _; unfold playR; rw [if_neg hc]
    have HCN := Lib.hid (fun W h => by have := gen_count_any g _ W (HG.out.ext (w' := W) h); rw [HCT.out] at this; exact this)
    have HCR := Lib.hid (fun W h => by have := replay_any g l _ _ W (HG.out.ext (w' := W) h) (HL.out.ext h); rw [HPL.out] at this; exact this)
    have HCM := Lib.hid (fun (tv : Value) W h h2 => mend_bad g _ tv hc W (HG.out.ext (w' := W) h) h2)
    have HCD := Lib.hid (fun W h => draw_bad g _ _ hc W (HG.out.ext (w' := W) h) _ HS.out)
    have HN : ∀ W, IntsAt W (.slice none 0 0) [] := fun W => ⟨by simp, .inl ⟨rfl, rfl⟩⟩
    clear hc
    generalize GT.check g = ce at *
    go_upto_region 10 with (fail)
    obtain ⟨p3, hp⟩ : ∃ p, p = W4.heap.size := ⟨_, rfl⟩
    generalize hW : W4.alloc (.cells #[.bool false, .int .i64 0, .slice none 0 0] 27) = W5
    have hB5 : Below w.heap.size w W5 := by rw [← hW]; exact hB4.alloc hB4.size _
    have X0 : Blk W5 (w.heap.size) #[.int .i64 k0, .int .i64 a0, .int .i64 b0, .slice g0 s0 c0] 45 := by rw [← hW]; exact X0.alloc _
    have X2 : Blk W5 (w.heap.size + 1) #[.int .u64 u1, .int .u64 u2] 49 := by rw [← hW]; exact X2.alloc _
    have X3 : Blk W5 p3 #[.bool false, .int .i64 0, .slice none 0 0] 27 := by rw [← hW, hp]; exact Blk.new _ _ _


    rw [← hp]
    clear hW hB4
    clear hp
    have f0_0 := X0.cell 0
    have f0_1 := X0.cell 1
    have f0_2 := X0.cell 2
    have f0_3 := X0.cell 3
    simp only [List.getElem?_toArray, List.getElem?_cons_succ, List.getElem?_cons_zero] at f0_0 f0_1 f0_2 f0_3
    go_wp2_with fail
    refine (HCN.out _ hB5).mono ?_
    rintro e W6 ⟨rfl, hb⟩
    clear f0_0 f0_1 f0_2 f0_3
    have hB6 : Below w.heap.size w W6 := hB5.trans (hb.mono hB5.size)
    have X0 := X0.ext hb
    have X2 := X2.ext hb
    have X3 := X3.ext hb
    clear hb hB5
    go_wp2_with fail
    refine (error_yes (ce) _ (HE.out.ext hB6)).mono ?_
    rintro e W7 ⟨rfl, hb⟩
    have hB7 : Below w.heap.size w W7 := hB6.trans (hb.mono hB6.size)
    have X0 := X0.ext hb
    have X2 := X2.ext hb
    have X3 := X3.ext hb
    clear hb hB6
    have f0_0 := X0.cell 0
    have f0_1 := X0.cell 1
    have f0_2 := X0.cell 2
    have f0_3 := X0.cell 3
    simp only [List.getElem?_toArray, List.getElem?_cons_succ, List.getElem?_cons_zero] at f0_0 f0_1 f0_2 f0_3
    go_wp2_with fail
    refine (HCR.out _ hB7).mono ?_
    rintro e W8 ⟨⟨pv, rfl, hpv⟩, hb⟩
    clear f0_0 f0_1 f0_2 f0_3
    have hB8 : Below w.heap.size w W8 := hB7.trans (hb.mono hB7.size)
    have X0 := X0.ext hb
    have X2 := X2.ext hb
    have X3 := X3.ext hb
    clear hb hB7
    have HPV := Lib.hid hpv
    obtain ⟨vl4, vn4, vk4, vad4, vcap4, rfl⟩ := hpv.shape
    clear hpv
    go_upto_region 21 with (fail)
    obtain ⟨p4, hp⟩ : ∃ p, p = W8.heap.size := ⟨_, rfl⟩
    generalize hW : W8.alloc (.cells #[.bool vl4, .int .i64 vn4, .slice vad4 vk4 vcap4] 27) = W9
    have hB9 : Below w.heap.size w W9 := by rw [← hW]; exact hB8.alloc hB8.size _
    have X0 : Blk W9 (w.heap.size) #[.int .i64 k0, .int .i64 a0, .int .i64 b0, .slice g0 s0 c0] 45 := by rw [← hW]; exact X0.alloc _
    have X2 : Blk W9 (w.heap.size + 1) #[.int .u64 u1, .int .u64 u2] 49 := by rw [← hW]; exact X2.alloc _
    have X3 : Blk W9 (p3) #[.bool false, .int .i64 0, .slice none 0 0] 27 := by rw [← hW]; exact X3.alloc _
    have X4 : Blk W9 p4 #[.bool vl4, .int .i64 vn4, .slice vad4 vk4 vcap4] 27 := by rw [← hW, hp]; exact Blk.new _ _ _
    have HPV : Hid (_) := Lib.hid (HPV.out.ext ((Below.refl _ _).alloc (Nat.le_refl _) (.cells #[.bool vl4, .int .i64 vn4, .slice vad4 vk4 vcap4] 27)))
    rw [hW] at HPV



    rw [← hp]
    clear hW hB8
    clear hp
    go_wp2_with fail
    refine (error_yes (ce) _ (HE.out.ext hB9)).mono ?_
    rintro e W10 ⟨rfl, hb⟩
    have hB10 : Below w.heap.size w W10 := hB9.trans (hb.mono hB9.size)
    have X0 := X0.ext hb
    have X2 := X2.ext hb
    have X3 := X3.ext hb
    have X4 := X4.ext hb
    have HPV := Lib.hid (HPV.out.ext hb)
    clear hb hB9
    have f0_0 := X4.cell 0
    have f0_1 := X4.cell 1
    have f0_2 := X4.cell 2
    simp only [List.getElem?_toArray, List.getElem?_cons_succ, List.getElem?_cons_zero] at f0_0 f0_1 f0_2
    have f1_0 := X3.cell 0
    have f1_1 := X3.cell 1
    have f1_2 := X3.cell 2
    simp only [List.getElem?_toArray, List.getElem?_cons_succ, List.getElem?_cons_zero] at f1_0 f1_1 f1_2
    go_wp2_with fail
    refine (value_same (zeroV) _ _ _ HPV.out (ValIn.leaf _ _ ⟨by omega, by omega⟩)).mono ?_
    rintro e W11 ⟨rfl, hb⟩
    clear f0_0 f0_1 f0_2 f1_0 f1_1 f1_2
    have hB11 : Below w.heap.size w W11 := hB10.trans (hb.mono hB10.size)
    have X0 := X0.ext hb
    have X2 := X2.ext hb
    have X3 := X3.ext hb
    have X4 := X4.ext hb
    have HPV := Lib.hid (HPV.out.ext hb)
    clear hb hB10
    have f0_0 := X0.cell 0
    have f0_1 := X0.cell 1
    have f0_2 := X0.cell 2
    have f0_3 := X0.cell 3
    simp only [List.getElem?_toArray, List.getElem?_cons_succ, List.getElem?_cons_zero] at f0_0 f0_1 f0_2 f0_3
    go_wp2_with fail
    refine (HCM.out _ _ hB11 ⟨_, _, _, rfl⟩).mono ?_
    rintro e W12 ⟨rfl, hb⟩
    clear f0_0 f0_1 f0_2 f0_3
    have hB12 : Below w.heap.size w W12 := hB11.trans (hb.mono hB11.size)
    have X0 := X0.ext hb
    have X2 := X2.ext hb
    have X3 := X3.ext hb
    have X4 := X4.ext hb
    have HPV := Lib.hid (HPV.out.ext hb)
    clear hb hB11
    go_wp2_with fail
    refine (error_yes (ce) _ (HE.out.ext hB12)).mono ?_
    rintro e W13 ⟨rfl, hb⟩
    have hB13 : Below w.heap.size w W13 := hB12.trans (hb.mono hB12.size)
    have X0 := X0.ext hb
    have X2 := X2.ext hb
    have X3 := X3.ext hb
    have X4 := X4.ext hb
    have HPV := Lib.hid (HPV.out.ext hb)
    clear hb hB12
    go_wp2_with fail
    refine (ints_same _ _ ([]) W13 (HN _) (HN _)).mono ?_
    rintro e Wi ⟨rfl, nn, rfl⟩
    have hb : Below W13.heap.size W13 (W13.drewN nn) := below_drewN (Below.refl _ _)
    generalize W13.drewN nn = WI at *
    have hB14 : Below w.heap.size w WI := hB13.trans (hb.mono hB13.size)
    have X0 := X0.ext hb
    have X2 := X2.ext hb
    have X3 := X3.ext hb
    have X4 := X4.ext hb
    have HPV := Lib.hid (HPV.out.ext hb)
    clear hb hB13
    have f0_0 := X0.cell 0
    have f0_1 := X0.cell 1
    have f0_2 := X0.cell 2
    have f0_3 := X0.cell 3
    simp only [List.getElem?_toArray, List.getElem?_cons_succ, List.getElem?_cons_zero] at f0_0 f0_1 f0_2 f0_3
    have f1_0 := X2.cell 0
    have f1_1 := X2.cell 1
    simp only [List.getElem?_toArray, List.getElem?_cons_succ, List.getElem?_cons_zero] at f1_0 f1_1
    go_wp2_with fail
    refine (HCD.out _ hB14).mono ?_
    rintro e W15 ⟨rfl, hb⟩
    clear f0_0 f0_1 f0_2 f0_3 f1_0 f1_1
    have hB15 : Below w.heap.size w W15 := hB14.trans (hb.mono hB14.size)
    have X0 := X0.ext hb
    have X2 := X2.ext hb
    have X3 := X3.ext hb
    have X4 := X4.ext hb
    have HPV := Lib.hid (HPV.out.ext hb)
    clear hb hB14
    go_wp2_with fail
    refine (error_yes (ce) _ (HE.out.ext hB15)).mono ?_
    rintro e W16 ⟨rfl, hb⟩
    have hB16 : Below w.heap.size w W16 := hB15.trans (hb.mono hB15.size)
    have X0 := X0.ext hb
    have X2 := X2.ext hb
    have X3 := X3.ext hb
    have X4 := X4.ext hb
    have HPV := Lib.hid (HPV.out.ext hb)
    clear hb hB15
    go_wp2_with fail
    refine (ints_same _ _ ([]) W16 (HN _) (HN _)).mono ?_
    rintro e Wi ⟨rfl, nn, rfl⟩
    have hbz : Below w.heap.size w (W16.drewN nn) := below_drewN hB16
    generalize W16.drewN nn = WJ at *
    go_wp2_with fail
    go_ret
    exact ⟨by simp, hbz⟩
  rw [hc]
  have HC := Lib.hid hc
  have HCT : Hid (GT.countR g = if 1048576 < GT.count g then (0, 4) else (GT.count g, 0)) := by show _ = _; unfold GT.countR; rw [if_pos hc]
  have HCN := Lib.hid (fun W h => gen_count_any g _ W (HG.out.ext (w' := W) h))
  have HBC := GT.count_bd g (GT.check_ok hc)
  have CE0 : Hid (∀ W, ErrTypeAt W → Calls Tryd.prog 15 #[.nilIface, .int .i64 0] W fun ev w' => ev = .returned (.bool true) ∧ Below W.heap.size W w') := fun W h => by have := error_yes 0 W h; rw [errV_zero] at this; exact this
  clear hc
  have lx2 := X2.lt
  go_upto_region 10 with (fail)
  obtain ⟨p3, hp⟩ : ∃ p, p = W4.heap.size := ⟨_, rfl⟩
  generalize hW : W4.alloc (.cells #[.bool false, .int .i64 0, .slice none 0 0] 27) = W5
  have hB5 : Below w.heap.size w W5 := by rw [← hW]; exact hB4.alloc hB4.size _
  have X0 : Blk W5 (w.heap.size) #[.int .i64 k0, .int .i64 a0, .int .i64 b0, .slice g0 s0 c0] 45 := by rw [← hW]; exact X0.alloc _
  have X2 : Blk W5 (w.heap.size + 1) #[.int .u64 u1, .int .u64 u2] 49 := by rw [← hW]; exact X2.alloc _
  have X3 : Blk W5 p3 #[.bool false, .int .i64 0, .slice none 0 0] 27 := by rw [← hW, hp]; exact Blk.new _ _ _


  rw [← hp]
  clear hW hB4
  have hp3 : w.heap.size + 2 ≤ p3 := by omega
  clear hp lx2
  have f0_0 := X0.cell 0
  have f0_1 := X0.cell 1
  have f0_2 := X0.cell 2
  have f0_3 := X0.cell 3
  simp only [List.getElem?_toArray, List.getElem?_cons_succ, List.getElem?_cons_zero] at f0_0 f0_1 f0_2 f0_3
  go_wp2_with fail
  refine (rcountof_any g _ _ (GT.check_ok HC.out) (HG.out.ext hB5)).mono ?_
  rintro e W6 ⟨rfl, hb⟩
  clear f0_0 f0_1 f0_2 f0_3
  have hB6 : Below w.heap.size w W6 := hB5.trans (hb.mono hB5.size)
  have X0 := X0.ext hb
  have X2 := X2.ext hb
  have X3 := X3.ext hb
  clear hb hB5
  by_cases hbig : 1048576 < GT.count g
  · skip
    have hcb2 : (1048576 : Int) < GT.count g := hbig
    have HCNE : Hid (GT.countR g = (0, 4)) := by show _ = _; rw [HCT.out, if_pos hbig]
    clear hbig
    rw [HCNE.out] at HCN
    clear HCNE HCT
    obtain ⟨HBC1, HBC2⟩ := HBC
    generalize GT.count g = cn at *
    have l3 := X3.lt
    have f0_0 := X0.cell 0
    have f0_1 := X0.cell 1
    have f0_2 := X0.cell 2
    have f0_3 := X0.cell 3
    simp only [List.getElem?_toArray, List.getElem?_cons_succ, List.getElem?_cons_zero] at f0_0 f0_1 f0_2 f0_3
    go_wp2_with fail
    refine (rreplay_any g HC.out l _ _ _ (HG.out.ext hB6) (HL.out.ext hB6)).mono ?_
    rintro e W7 ⟨⟨rv, rfl, hrv⟩, hb⟩
    clear f0_0 f0_1 f0_2 f0_3
    have hB7 : Below w.heap.size w W7 := hB6.trans (hb.mono hB6.size)
    have X0 := X0.ext hb
    have X2 := X2.ext hb
    have X3 := X3.ext hb
    clear hb hB6
    obtain ⟨rl, rn, rk, rad, rcap, rfl⟩ := hrv.shape
    have e0 := X3.cell 0
    have e1 := X3.cell 1
    have e2 := X3.cell 2
    simp only [List.getElem?_toArray, List.getElem?_cons_succ, List.getElem?_cons_zero] at e0 e1 e2
    have v0 := X3.unfrozen 0
    have v1 := X3.unfrozen 1
    have v2 := X3.unfrozen 2
    go_upto_region 16 with (fail)
    clear e0 e1 e2 v0 v1 v2
    generalize hW : (((W7.setCell ⟨p3, 0, none⟩ (.bool rl)).setCell ⟨p3, 1, none⟩ (.int .i64 rn)).setCell ⟨p3, 2, none⟩ (.slice rad rk rcap)) = W8
    have hB8 : Below w.heap.size w W8 := by rw [← hW]; exact ((hB7.setCell (by dsimp only; omega) _).setCell (by dsimp only; omega) _).setCell (by dsimp only; omega) _
    have HRV : Hid (ValAt W8 (.agg #[.bool rl, .int .i64 rn, .slice rad rk rcap]) (playR g l).1) := (hrv.keep (by rw [← hW]; simp only [size_setCell]; exact Nat.le_refl _) (fun x hx hl => ⟨trivial, by rw [← hW, Below.heap_setCell _ _ _ _ (by dsimp only; omega), Below.heap_setCell _ _ _ _ (by dsimp only; omega), Below.heap_setCell _ _ _ _ (by dsimp only; omega)]⟩))
    have X3 : Blk W8 p3 #[.bool rl, .int .i64 rn, .slice rad rk rcap] 27 := by rw [← hW]; simpa using ((X3.set 0 (.bool rl)).set 1 (.int .i64 rn)).set 2 (.slice rad rk rcap)
    have X0 : Blk W8 (w.heap.size) #[.int .i64 k0, .int .i64 a0, .int .i64 b0, .slice g0 s0 c0] 45 := by rw [← hW]; exact ((X0.oth p3 0 (by omega) _).oth p3 1 (by omega) _).oth p3 2 (by omega) _
    have X2 : Blk W8 (w.heap.size + 1) #[.int .u64 u1, .int .u64 u2] 49 := by rw [← hW]; exact ((X2.oth p3 0 (by omega) _).oth p3 1 (by omega) _).oth p3 2 (by omega) _
    clear hW hrv l3 hB7
    have f0_0 := X0.cell 0
    have f0_1 := X0.cell 1
    have f0_2 := X0.cell 2
    have f0_3 := X0.cell 3
    simp only [List.getElem?_toArray, List.getElem?_cons_succ, List.getElem?_cons_zero] at f0_0 f0_1 f0_2 f0_3
    go_wp2_with fail
    refine (rmend_any g HC.out l _ _ _ (HG.out.ext hB8) (HL.out.ext hB8)).mono ?_
    rintro e W9 ⟨⟨mv, rfl, hmv⟩, hb⟩
    clear f0_0 f0_1 f0_2 f0_3
    have hB9 : Below w.heap.size w W9 := hB8.trans (hb.mono hB8.size)
    have X0 := X0.ext hb
    have X2 := X2.ext hb
    have X3 := X3.ext hb
    have HRV := Lib.hid (HRV.out.ext hb)
    clear hb hB8
    have HM1 := Lib.hid hmv.at
    clear hmv
    have f0_0 := X0.cell 0
    have f0_1 := X0.cell 1
    have f0_2 := X0.cell 2
    have f0_3 := X0.cell 3
    simp only [List.getElem?_toArray, List.getElem?_cons_succ, List.getElem?_cons_zero] at f0_0 f0_1 f0_2 f0_3
    have f1_0 := X2.cell 0
    have f1_1 := X2.cell 1
    simp only [List.getElem?_toArray, List.getElem?_cons_succ, List.getElem?_cons_zero] at f1_0 f1_1
    go_wp2_with fail
    refine (rdraw_any g HC.out _ _ _ (HG.out.ext hB9) _ HS.out).mono ?_
    rintro e W10 ⟨⟨dv, rfl, hdv⟩, hb⟩
    clear f0_0 f0_1 f0_2 f0_3 f1_0 f1_1
    have hB10 : Below w.heap.size w W10 := hB9.trans (hb.mono hB9.size)
    have X0 := X0.ext hb
    have X2 := X2.ext hb
    have X3 := X3.ext hb
    have HRV := Lib.hid (HRV.out.ext hb)
    have HM1 := Lib.hid (HM1.out.ext hb)
    clear hb hB9
    have HD1 := Lib.hid hdv.at
    clear hdv
    have f0_0 := X0.cell 0
    have f0_1 := X0.cell 1
    have f0_2 := X0.cell 2
    have f0_3 := X0.cell 3
    simp only [List.getElem?_toArray, List.getElem?_cons_succ, List.getElem?_cons_zero] at f0_0 f0_1 f0_2 f0_3
    go_wp2_with fail
    refine (HCN.out _ hB10).mono ?_
    rintro e W11 ⟨rfl, hb⟩
    clear f0_0 f0_1 f0_2 f0_3
    have hB11 : Below w.heap.size w W11 := hB10.trans (hb.mono hB10.size)
    have X0 := X0.ext hb
    have X2 := X2.ext hb
    have X3 := X3.ext hb
    have HRV := Lib.hid (HRV.out.ext hb)
    have HM1 := Lib.hid (HM1.out.ext hb)
    have HD1 := Lib.hid (HD1.out.ext hb)
    clear hb hB10
    go_wp2_with fail
    refine (error_yes (4) _ (HE.out.ext hB11)).mono ?_
    rintro e W12 ⟨rfl, hb⟩
    have hB12 : Below w.heap.size w W12 := hB11.trans (hb.mono hB11.size)
    have X0 := X0.ext hb
    have X2 := X2.ext hb
    have X3 := X3.ext hb
    have HRV := Lib.hid (HRV.out.ext hb)
    have HM1 := Lib.hid (HM1.out.ext hb)
    have HD1 := Lib.hid (HD1.out.ext hb)
    clear hb hB11
    have f0_0 := X0.cell 0
    have f0_1 := X0.cell 1
    have f0_2 := X0.cell 2
    have f0_3 := X0.cell 3
    simp only [List.getElem?_toArray, List.getElem?_cons_succ, List.getElem?_cons_zero] at f0_0 f0_1 f0_2 f0_3
    go_wp2_with fail
    refine (replay_any g l _ _ _ (HG.out.ext hB12) (HL.out.ext hB12)).mono ?_
    rintro e W13 ⟨⟨pv, rfl, hpv⟩, hb⟩
    clear f0_0 f0_1 f0_2 f0_3
    have hB13 : Below w.heap.size w W13 := hB12.trans (hb.mono hB12.size)
    have X0 := X0.ext hb
    have X2 := X2.ext hb
    have X3 := X3.ext hb
    have HRV := Lib.hid (HRV.out.ext hb)
    have HM1 := Lib.hid (HM1.out.ext hb)
    have HD1 := Lib.hid (HD1.out.ext hb)
    clear hb hB12
    have HPV := Lib.hid hpv
    obtain ⟨vl4, vn4, vk4, vad4, vcap4, rfl⟩ := hpv.shape
    clear hpv
    go_upto_region 21 with (fail)
    obtain ⟨p4, hp⟩ : ∃ p, p = W13.heap.size := ⟨_, rfl⟩
    generalize hW : W13.alloc (.cells #[.bool vl4, .int .i64 vn4, .slice vad4 vk4 vcap4] 27) = W14
    have hB14 : Below w.heap.size w W14 := by rw [← hW]; exact hB13.alloc hB13.size _
    have X0 : Blk W14 (w.heap.size) #[.int .i64 k0, .int .i64 a0, .int .i64 b0, .slice g0 s0 c0] 45 := by rw [← hW]; exact X0.alloc _
    have X2 : Blk W14 (w.heap.size + 1) #[.int .u64 u1, .int .u64 u2] 49 := by rw [← hW]; exact X2.alloc _
    have X3 : Blk W14 (p3) #[.bool rl, .int .i64 rn, .slice rad rk rcap] 27 := by rw [← hW]; exact X3.alloc _
    have X4 : Blk W14 p4 #[.bool vl4, .int .i64 vn4, .slice vad4 vk4 vcap4] 27 := by rw [← hW, hp]; exact Blk.new _ _ _
    have HRV : Hid (_) := Lib.hid (HRV.out.ext ((Below.refl _ _).alloc (Nat.le_refl _) (.cells #[.bool vl4, .int .i64 vn4, .slice vad4 vk4 vcap4] 27)))
    rw [hW] at HRV
    have HM1 : Hid (_) := Lib.hid (HM1.out.ext ((Below.refl _ _).alloc (Nat.le_refl _) (.cells #[.bool vl4, .int .i64 vn4, .slice vad4 vk4 vcap4] 27)))
    rw [hW] at HM1
    have HD1 : Hid (_) := Lib.hid (HD1.out.ext ((Below.refl _ _).alloc (Nat.le_refl _) (.cells #[.bool vl4, .int .i64 vn4, .slice vad4 vk4 vcap4] 27)))
    rw [hW] at HD1
    have HPV : Hid (_) := Lib.hid (HPV.out.ext ((Below.refl _ _).alloc (Nat.le_refl _) (.cells #[.bool vl4, .int .i64 vn4, .slice vad4 vk4 vcap4] 27)))
    rw [hW] at HPV



    rw [← hp]
    clear hW hB13
    clear hp
    go_wp2_with fail
    refine (error_yes ((playR g l).2) _ (HE.out.ext hB14)).mono ?_
    rintro e W15 ⟨rfl, hb⟩
    have hB15 : Below w.heap.size w W15 := hB14.trans (hb.mono hB14.size)
    have X0 := X0.ext hb
    have X2 := X2.ext hb
    have X3 := X3.ext hb
    have X4 := X4.ext hb
    have HRV := Lib.hid (HRV.out.ext hb)
    have HM1 := Lib.hid (HM1.out.ext hb)
    have HD1 := Lib.hid (HD1.out.ext hb)
    have HPV := Lib.hid (HPV.out.ext hb)
    clear hb hB14
    have f0_0 := X4.cell 0
    have f0_1 := X4.cell 1
    have f0_2 := X4.cell 2
    simp only [List.getElem?_toArray, List.getElem?_cons_succ, List.getElem?_cons_zero] at f0_0 f0_1 f0_2
    have f1_0 := X3.cell 0
    have f1_1 := X3.cell 1
    have f1_2 := X3.cell 2
    simp only [List.getElem?_toArray, List.getElem?_cons_succ, List.getElem?_cons_zero] at f1_0 f1_1 f1_2
    go_wp2_with fail
    refine (value_same ((playR g l).1) _ _ _ HPV.out HRV.out).mono ?_
    rintro e W16 ⟨rfl, hb⟩
    clear f0_0 f0_1 f0_2 f1_0 f1_1 f1_2
    have hB16 : Below w.heap.size w W16 := hB15.trans (hb.mono hB15.size)
    have X0 := X0.ext hb
    have X2 := X2.ext hb
    have X3 := X3.ext hb
    have X4 := X4.ext hb
    have HRV := Lib.hid (HRV.out.ext hb)
    have HM1 := Lib.hid (HM1.out.ext hb)
    have HD1 := Lib.hid (HD1.out.ext hb)
    have HPV := Lib.hid (HPV.out.ext hb)
    clear hb hB15
    have f0_0 := X0.cell 0
    have f0_1 := X0.cell 1
    have f0_2 := X0.cell 2
    have f0_3 := X0.cell 3
    simp only [List.getElem?_toArray, List.getElem?_cons_succ, List.getElem?_cons_zero] at f0_0 f0_1 f0_2 f0_3
    go_wp2_with fail
    refine (mend_any g l _ _ HC.out _ (HG.out.ext hB16) (HL.out.ext hB16)).mono ?_
    rintro e W17 ⟨⟨mv2, rfl, hm2⟩, hb⟩
    clear f0_0 f0_1 f0_2 f0_3
    have hB17 : Below w.heap.size w W17 := hB16.trans (hb.mono hB16.size)
    have X0 := X0.ext hb
    have X2 := X2.ext hb
    have X3 := X3.ext hb
    have X4 := X4.ext hb
    have HRV := Lib.hid (HRV.out.ext hb)
    have HM1 := Lib.hid (HM1.out.ext hb)
    have HD1 := Lib.hid (HD1.out.ext hb)
    have HPV := Lib.hid (HPV.out.ext hb)
    clear hb hB16
    have HM2 := Lib.hid hm2
    clear hm2
    go_wp2_with fail
    refine (CE0.out _ (HE.out.ext hB17)).mono ?_
    rintro e W18 ⟨rfl, hb⟩
    have hB18 : Below w.heap.size w W18 := hB17.trans (hb.mono hB17.size)
    have X0 := X0.ext hb
    have X2 := X2.ext hb
    have X3 := X3.ext hb
    have X4 := X4.ext hb
    have HRV := Lib.hid (HRV.out.ext hb)
    have HM1 := Lib.hid (HM1.out.ext hb)
    have HD1 := Lib.hid (HD1.out.ext hb)
    have HPV := Lib.hid (HPV.out.ext hb)
    have HM2 := Lib.hid (HM2.out.ext hb)
    clear hb hB17
    go_wp2_with fail
    refine (ints_same _ _ (mendR g l) W18 HM2.out HM1.out).mono ?_
    rintro e Wi ⟨rfl, nn, rfl⟩
    have hb : Below W18.heap.size W18 (W18.drewN nn) := below_drewN (Below.refl _ _)
    generalize W18.drewN nn = WI at *
    have hB19 : Below w.heap.size w WI := hB18.trans (hb.mono hB18.size)
    have X0 := X0.ext hb
    have X2 := X2.ext hb
    have X3 := X3.ext hb
    have X4 := X4.ext hb
    have HRV := Lib.hid (HRV.out.ext hb)
    have HM1 := Lib.hid (HM1.out.ext hb)
    have HD1 := Lib.hid (HD1.out.ext hb)
    have HPV := Lib.hid (HPV.out.ext hb)
    have HM2 := Lib.hid (HM2.out.ext hb)
    clear hb hB18
    have f0_0 := X0.cell 0
    have f0_1 := X0.cell 1
    have f0_2 := X0.cell 2
    have f0_3 := X0.cell 3
    simp only [List.getElem?_toArray, List.getElem?_cons_succ, List.getElem?_cons_zero] at f0_0 f0_1 f0_2 f0_3
    have f1_0 := X2.cell 0
    have f1_1 := X2.cell 1
    simp only [List.getElem?_toArray, List.getElem?_cons_succ, List.getElem?_cons_zero] at f1_0 f1_1
    go_wp2_with fail
    refine (draw_any g _ _ HC.out _ (HG.out.ext hB19) _ HS.out).mono ?_
    rintro e W20 ⟨⟨dv2, rfl, hd2⟩, hb⟩
    clear f0_0 f0_1 f0_2 f0_3 f1_0 f1_1
    have hB20 : Below w.heap.size w W20 := hB19.trans (hb.mono hB19.size)
    have X0 := X0.ext hb
    have X2 := X2.ext hb
    have X3 := X3.ext hb
    have X4 := X4.ext hb
    have HRV := Lib.hid (HRV.out.ext hb)
    have HM1 := Lib.hid (HM1.out.ext hb)
    have HD1 := Lib.hid (HD1.out.ext hb)
    have HPV := Lib.hid (HPV.out.ext hb)
    have HM2 := Lib.hid (HM2.out.ext hb)
    clear hb hB19
    have HD2 := Lib.hid hd2
    clear hd2
    go_wp2_with fail
    refine (CE0.out _ (HE.out.ext hB20)).mono ?_
    rintro e W21 ⟨rfl, hb⟩
    have hB21 : Below w.heap.size w W21 := hB20.trans (hb.mono hB20.size)
    have X0 := X0.ext hb
    have X2 := X2.ext hb
    have X3 := X3.ext hb
    have X4 := X4.ext hb
    have HRV := Lib.hid (HRV.out.ext hb)
    have HM1 := Lib.hid (HM1.out.ext hb)
    have HD1 := Lib.hid (HD1.out.ext hb)
    have HPV := Lib.hid (HPV.out.ext hb)
    have HM2 := Lib.hid (HM2.out.ext hb)
    have HD2 := Lib.hid (HD2.out.ext hb)
    clear hb hB20
    go_wp2_with fail
    refine (ints_same _ _ (drawR g _) W21 HD2.out HD1.out).mono ?_
    rintro e Wi ⟨rfl, nn, rfl⟩
    have hbz : Below w.heap.size w (W21.drewN nn) := below_drewN hB21
    generalize W21.drewN nn = WJ at *
    go_wp2_with fail
    go_ret
    exact ⟨by simp, hbz⟩
  · skip
    have hcb2 : ¬ (1048576 : Int) < GT.count g := hbig
    have HCNE : Hid (GT.countR g = (GT.count g, 0)) := by show _ = _; rw [HCT.out, if_neg hbig]
    clear hbig
    rw [HCNE.out] at HCN
    clear HCNE HCT
    obtain ⟨HBC1, HBC2⟩ := HBC
    generalize GT.count g = cn at *
    have l3 := X3.lt
    have f0_0 := X0.cell 0
    have f0_1 := X0.cell 1
    have f0_2 := X0.cell 2
    have f0_3 := X0.cell 3
    simp only [List.getElem?_toArray, List.getElem?_cons_succ, List.getElem?_cons_zero] at f0_0 f0_1 f0_2 f0_3
    go_wp2_with fail
    refine (rreplay_any g HC.out l _ _ _ (HG.out.ext hB6) (HL.out.ext hB6)).mono ?_
    rintro e W7 ⟨⟨rv, rfl, hrv⟩, hb⟩
    clear f0_0 f0_1 f0_2 f0_3
    have hB7 : Below w.heap.size w W7 := hB6.trans (hb.mono hB6.size)
    have X0 := X0.ext hb
    have X2 := X2.ext hb
    have X3 := X3.ext hb
    clear hb hB6
    obtain ⟨rl, rn, rk, rad, rcap, rfl⟩ := hrv.shape
    have e0 := X3.cell 0
    have e1 := X3.cell 1
    have e2 := X3.cell 2
    simp only [List.getElem?_toArray, List.getElem?_cons_succ, List.getElem?_cons_zero] at e0 e1 e2
    have v0 := X3.unfrozen 0
    have v1 := X3.unfrozen 1
    have v2 := X3.unfrozen 2
    go_upto_region 16 with (fail)
    clear e0 e1 e2 v0 v1 v2
    generalize hW : (((W7.setCell ⟨p3, 0, none⟩ (.bool rl)).setCell ⟨p3, 1, none⟩ (.int .i64 rn)).setCell ⟨p3, 2, none⟩ (.slice rad rk rcap)) = W8
    have hB8 : Below w.heap.size w W8 := by rw [← hW]; exact ((hB7.setCell (by dsimp only; omega) _).setCell (by dsimp only; omega) _).setCell (by dsimp only; omega) _
    have HRV : Hid (ValAt W8 (.agg #[.bool rl, .int .i64 rn, .slice rad rk rcap]) (playR g l).1) := (hrv.keep (by rw [← hW]; simp only [size_setCell]; exact Nat.le_refl _) (fun x hx hl => ⟨trivial, by rw [← hW, Below.heap_setCell _ _ _ _ (by dsimp only; omega), Below.heap_setCell _ _ _ _ (by dsimp only; omega), Below.heap_setCell _ _ _ _ (by dsimp only; omega)]⟩))
    have X3 : Blk W8 p3 #[.bool rl, .int .i64 rn, .slice rad rk rcap] 27 := by rw [← hW]; simpa using ((X3.set 0 (.bool rl)).set 1 (.int .i64 rn)).set 2 (.slice rad rk rcap)
    have X0 : Blk W8 (w.heap.size) #[.int .i64 k0, .int .i64 a0, .int .i64 b0, .slice g0 s0 c0] 45 := by rw [← hW]; exact ((X0.oth p3 0 (by omega) _).oth p3 1 (by omega) _).oth p3 2 (by omega) _
    have X2 : Blk W8 (w.heap.size + 1) #[.int .u64 u1, .int .u64 u2] 49 := by rw [← hW]; exact ((X2.oth p3 0 (by omega) _).oth p3 1 (by omega) _).oth p3 2 (by omega) _
    clear hW hrv l3 hB7
    have f0_0 := X0.cell 0
    have f0_1 := X0.cell 1
    have f0_2 := X0.cell 2
    have f0_3 := X0.cell 3
    simp only [List.getElem?_toArray, List.getElem?_cons_succ, List.getElem?_cons_zero] at f0_0 f0_1 f0_2 f0_3
    go_wp2_with fail
    refine (rmend_any g HC.out l _ _ _ (HG.out.ext hB8) (HL.out.ext hB8)).mono ?_
    rintro e W9 ⟨⟨mv, rfl, hmv⟩, hb⟩
    clear f0_0 f0_1 f0_2 f0_3
    have hB9 : Below w.heap.size w W9 := hB8.trans (hb.mono hB8.size)
    have X0 := X0.ext hb
    have X2 := X2.ext hb
    have X3 := X3.ext hb
    have HRV := Lib.hid (HRV.out.ext hb)
    clear hb hB8
    have HM1 := Lib.hid hmv.at
    clear hmv
    have f0_0 := X0.cell 0
    have f0_1 := X0.cell 1
    have f0_2 := X0.cell 2
    have f0_3 := X0.cell 3
    simp only [List.getElem?_toArray, List.getElem?_cons_succ, List.getElem?_cons_zero] at f0_0 f0_1 f0_2 f0_3
    have f1_0 := X2.cell 0
    have f1_1 := X2.cell 1
    simp only [List.getElem?_toArray, List.getElem?_cons_succ, List.getElem?_cons_zero] at f1_0 f1_1
    go_wp2_with fail
    refine (rdraw_any g HC.out _ _ _ (HG.out.ext hB9) _ HS.out).mono ?_
    rintro e W10 ⟨⟨dv, rfl, hdv⟩, hb⟩
    clear f0_0 f0_1 f0_2 f0_3 f1_0 f1_1
    have hB10 : Below w.heap.size w W10 := hB9.trans (hb.mono hB9.size)
    have X0 := X0.ext hb
    have X2 := X2.ext hb
    have X3 := X3.ext hb
    have HRV := Lib.hid (HRV.out.ext hb)
    have HM1 := Lib.hid (HM1.out.ext hb)
    clear hb hB9
    have HD1 := Lib.hid hdv.at
    clear hdv
    have f0_0 := X0.cell 0
    have f0_1 := X0.cell 1
    have f0_2 := X0.cell 2
    have f0_3 := X0.cell 3
    simp only [List.getElem?_toArray, List.getElem?_cons_succ, List.getElem?_cons_zero] at f0_0 f0_1 f0_2 f0_3
    go_wp2_with fail
    refine (HCN.out _ hB10).mono ?_
    rintro e W11 ⟨rfl, hb⟩
    clear f0_0 f0_1 f0_2 f0_3
    have hB11 : Below w.heap.size w W11 := hB10.trans (hb.mono hB10.size)
    have X0 := X0.ext hb
    have X2 := X2.ext hb
    have X3 := X3.ext hb
    have HRV := Lib.hid (HRV.out.ext hb)
    have HM1 := Lib.hid (HM1.out.ext hb)
    have HD1 := Lib.hid (HD1.out.ext hb)
    clear hb hB10
    go_wp2_with fail
    refine (error_yes (0) _ (HE.out.ext hB11)).mono ?_
    rintro e W12 ⟨rfl, hb⟩
    have hB12 : Below w.heap.size w W12 := hB11.trans (hb.mono hB11.size)
    have X0 := X0.ext hb
    have X2 := X2.ext hb
    have X3 := X3.ext hb
    have HRV := Lib.hid (HRV.out.ext hb)
    have HM1 := Lib.hid (HM1.out.ext hb)
    have HD1 := Lib.hid (HD1.out.ext hb)
    clear hb hB11
    have f0_0 := X0.cell 0
    have f0_1 := X0.cell 1
    have f0_2 := X0.cell 2
    have f0_3 := X0.cell 3
    simp only [List.getElem?_toArray, List.getElem?_cons_succ, List.getElem?_cons_zero] at f0_0 f0_1 f0_2 f0_3
    go_wp2_with fail
    refine (replay_any g l _ _ _ (HG.out.ext hB12) (HL.out.ext hB12)).mono ?_
    rintro e W13 ⟨⟨pv, rfl, hpv⟩, hb⟩
    clear f0_0 f0_1 f0_2 f0_3
    have hB13 : Below w.heap.size w W13 := hB12.trans (hb.mono hB12.size)
    have X0 := X0.ext hb
    have X2 := X2.ext hb
    have X3 := X3.ext hb
    have HRV := Lib.hid (HRV.out.ext hb)
    have HM1 := Lib.hid (HM1.out.ext hb)
    have HD1 := Lib.hid (HD1.out.ext hb)
    clear hb hB12
    have HPV := Lib.hid hpv
    obtain ⟨vl4, vn4, vk4, vad4, vcap4, rfl⟩ := hpv.shape
    clear hpv
    go_upto_region 21 with (fail)
    obtain ⟨p4, hp⟩ : ∃ p, p = W13.heap.size := ⟨_, rfl⟩
    generalize hW : W13.alloc (.cells #[.bool vl4, .int .i64 vn4, .slice vad4 vk4 vcap4] 27) = W14
    have hB14 : Below w.heap.size w W14 := by rw [← hW]; exact hB13.alloc hB13.size _
    have X0 : Blk W14 (w.heap.size) #[.int .i64 k0, .int .i64 a0, .int .i64 b0, .slice g0 s0 c0] 45 := by rw [← hW]; exact X0.alloc _
    have X2 : Blk W14 (w.heap.size + 1) #[.int .u64 u1, .int .u64 u2] 49 := by rw [← hW]; exact X2.alloc _
    have X3 : Blk W14 (p3) #[.bool rl, .int .i64 rn, .slice rad rk rcap] 27 := by rw [← hW]; exact X3.alloc _
    have X4 : Blk W14 p4 #[.bool vl4, .int .i64 vn4, .slice vad4 vk4 vcap4] 27 := by rw [← hW, hp]; exact Blk.new _ _ _
    have HRV : Hid (_) := Lib.hid (HRV.out.ext ((Below.refl _ _).alloc (Nat.le_refl _) (.cells #[.bool vl4, .int .i64 vn4, .slice vad4 vk4 vcap4] 27)))
    rw [hW] at HRV
    have HM1 : Hid (_) := Lib.hid (HM1.out.ext ((Below.refl _ _).alloc (Nat.le_refl _) (.cells #[.bool vl4, .int .i64 vn4, .slice vad4 vk4 vcap4] 27)))
    rw [hW] at HM1
    have HD1 : Hid (_) := Lib.hid (HD1.out.ext ((Below.refl _ _).alloc (Nat.le_refl _) (.cells #[.bool vl4, .int .i64 vn4, .slice vad4 vk4 vcap4] 27)))
    rw [hW] at HD1
    have HPV : Hid (_) := Lib.hid (HPV.out.ext ((Below.refl _ _).alloc (Nat.le_refl _) (.cells #[.bool vl4, .int .i64 vn4, .slice vad4 vk4 vcap4] 27)))
    rw [hW] at HPV



    rw [← hp]
    clear hW hB13
    clear hp
    go_wp2_with fail
    refine (error_yes ((playR g l).2) _ (HE.out.ext hB14)).mono ?_
    rintro e W15 ⟨rfl, hb⟩
    have hB15 : Below w.heap.size w W15 := hB14.trans (hb.mono hB14.size)
    have X0 := X0.ext hb
    have X2 := X2.ext hb
    have X3 := X3.ext hb
    have X4 := X4.ext hb
    have HRV := Lib.hid (HRV.out.ext hb)
    have HM1 := Lib.hid (HM1.out.ext hb)
    have HD1 := Lib.hid (HD1.out.ext hb)
    have HPV := Lib.hid (HPV.out.ext hb)
    clear hb hB14
    have f0_0 := X4.cell 0
    have f0_1 := X4.cell 1
    have f0_2 := X4.cell 2
    simp only [List.getElem?_toArray, List.getElem?_cons_succ, List.getElem?_cons_zero] at f0_0 f0_1 f0_2
    have f1_0 := X3.cell 0
    have f1_1 := X3.cell 1
    have f1_2 := X3.cell 2
    simp only [List.getElem?_toArray, List.getElem?_cons_succ, List.getElem?_cons_zero] at f1_0 f1_1 f1_2
    go_wp2_with fail
    refine (value_same ((playR g l).1) _ _ _ HPV.out HRV.out).mono ?_
    rintro e W16 ⟨rfl, hb⟩
    clear f0_0 f0_1 f0_2 f1_0 f1_1 f1_2
    have hB16 : Below w.heap.size w W16 := hB15.trans (hb.mono hB15.size)
    have X0 := X0.ext hb
    have X2 := X2.ext hb
    have X3 := X3.ext hb
    have X4 := X4.ext hb
    have HRV := Lib.hid (HRV.out.ext hb)
    have HM1 := Lib.hid (HM1.out.ext hb)
    have HD1 := Lib.hid (HD1.out.ext hb)
    have HPV := Lib.hid (HPV.out.ext hb)
    clear hb hB15
    have f0_0 := X0.cell 0
    have f0_1 := X0.cell 1
    have f0_2 := X0.cell 2
    have f0_3 := X0.cell 3
    simp only [List.getElem?_toArray, List.getElem?_cons_succ, List.getElem?_cons_zero] at f0_0 f0_1 f0_2 f0_3
    go_wp2_with fail
    refine (mend_any g l _ _ HC.out _ (HG.out.ext hB16) (HL.out.ext hB16)).mono ?_
    rintro e W17 ⟨⟨mv2, rfl, hm2⟩, hb⟩
    clear f0_0 f0_1 f0_2 f0_3
    have hB17 : Below w.heap.size w W17 := hB16.trans (hb.mono hB16.size)
    have X0 := X0.ext hb
    have X2 := X2.ext hb
    have X3 := X3.ext hb
    have X4 := X4.ext hb
    have HRV := Lib.hid (HRV.out.ext hb)
    have HM1 := Lib.hid (HM1.out.ext hb)
    have HD1 := Lib.hid (HD1.out.ext hb)
    have HPV := Lib.hid (HPV.out.ext hb)
    clear hb hB16
    have HM2 := Lib.hid hm2
    clear hm2
    go_wp2_with fail
    refine (CE0.out _ (HE.out.ext hB17)).mono ?_
    rintro e W18 ⟨rfl, hb⟩
    have hB18 : Below w.heap.size w W18 := hB17.trans (hb.mono hB17.size)
    have X0 := X0.ext hb
    have X2 := X2.ext hb
    have X3 := X3.ext hb
    have X4 := X4.ext hb
    have HRV := Lib.hid (HRV.out.ext hb)
    have HM1 := Lib.hid (HM1.out.ext hb)
    have HD1 := Lib.hid (HD1.out.ext hb)
    have HPV := Lib.hid (HPV.out.ext hb)
    have HM2 := Lib.hid (HM2.out.ext hb)
    clear hb hB17
    go_wp2_with fail
    refine (ints_same _ _ (mendR g l) W18 HM2.out HM1.out).mono ?_
    rintro e Wi ⟨rfl, nn, rfl⟩
    have hb : Below W18.heap.size W18 (W18.drewN nn) := below_drewN (Below.refl _ _)
    generalize W18.drewN nn = WI at *
    have hB19 : Below w.heap.size w WI := hB18.trans (hb.mono hB18.size)
    have X0 := X0.ext hb
    have X2 := X2.ext hb
    have X3 := X3.ext hb
    have X4 := X4.ext hb
    have HRV := Lib.hid (HRV.out.ext hb)
    have HM1 := Lib.hid (HM1.out.ext hb)
    have HD1 := Lib.hid (HD1.out.ext hb)
    have HPV := Lib.hid (HPV.out.ext hb)
    have HM2 := Lib.hid (HM2.out.ext hb)
    clear hb hB18
    have f0_0 := X0.cell 0
    have f0_1 := X0.cell 1
    have f0_2 := X0.cell 2
    have f0_3 := X0.cell 3
    simp only [List.getElem?_toArray, List.getElem?_cons_succ, List.getElem?_cons_zero] at f0_0 f0_1 f0_2 f0_3
    have f1_0 := X2.cell 0
    have f1_1 := X2.cell 1
    simp only [List.getElem?_toArray, List.getElem?_cons_succ, List.getElem?_cons_zero] at f1_0 f1_1
    go_wp2_with fail
    refine (draw_any g _ _ HC.out _ (HG.out.ext hB19) _ HS.out).mono ?_
    rintro e W20 ⟨⟨dv2, rfl, hd2⟩, hb⟩
    clear f0_0 f0_1 f0_2 f0_3 f1_0 f1_1
    have hB20 : Below w.heap.size w W20 := hB19.trans (hb.mono hB19.size)
    have X0 := X0.ext hb
    have X2 := X2.ext hb
    have X3 := X3.ext hb
    have X4 := X4.ext hb
    have HRV := Lib.hid (HRV.out.ext hb)
    have HM1 := Lib.hid (HM1.out.ext hb)
    have HD1 := Lib.hid (HD1.out.ext hb)
    have HPV := Lib.hid (HPV.out.ext hb)
    have HM2 := Lib.hid (HM2.out.ext hb)
    clear hb hB19
    have HD2 := Lib.hid hd2
    clear hd2
    go_wp2_with fail
    refine (CE0.out _ (HE.out.ext hB20)).mono ?_
    rintro e W21 ⟨rfl, hb⟩
    have hB21 : Below w.heap.size w W21 := hB20.trans (hb.mono hB20.size)
    have X0 := X0.ext hb
    have X2 := X2.ext hb
    have X3 := X3.ext hb
    have X4 := X4.ext hb
    have HRV := Lib.hid (HRV.out.ext hb)
    have HM1 := Lib.hid (HM1.out.ext hb)
    have HD1 := Lib.hid (HD1.out.ext hb)
    have HPV := Lib.hid (HPV.out.ext hb)
    have HM2 := Lib.hid (HM2.out.ext hb)
    have HD2 := Lib.hid (HD2.out.ext hb)
    clear hb hB20
    go_wp2_with fail
    refine (ints_same _ _ (drawR g _) W21 HD2.out HD1.out).mono ?_
    rintro e Wi ⟨rfl, nn, rfl⟩
    have hbz : Below w.heap.size w (W21.drewN nn) := below_drewN hB21
    generalize W21.drewN nn = WJ at *
    go_wp2_with fail
    go_ret
    exact ⟨by simp, hbz⟩
end Go.Proofs.YtbmdjchlbhlgmaaDoor
