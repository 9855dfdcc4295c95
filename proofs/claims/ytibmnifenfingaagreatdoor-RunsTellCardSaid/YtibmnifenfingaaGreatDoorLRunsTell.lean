/- The walk through the statement RunsTell. -/
import Derived.Test.YtibmnifenfingaaGreatDoorRUN1
import Derived.Test.YtibmnifenfingaaGreatDoorRF4
import Derived.Test.YtibmnifenfingaaGreatDoorRX1
import Derived.Test.YtibmnifenfingaaGreatDoorLMade
import Derived.Test.YtibmnifenfingaaGreatDoorTAs
namespace Go.Proofs.YtibmnifenfingaaGreatDoor
set_option maxRecDepth 100000
open Go.RowKit
set_option linter.unusedSimpArgs false
set_option linter.unusedVariables false
theorem rep_zero (w : World) : RepAt w (.agg #[.int .i64 0, .bool false, .slice none 0 0, .int .i64 0]) ⟨0, false, [], 0⟩ := ⟨_, rfl, ⟨by simp, .inl ⟨rfl, rfl⟩⟩⟩
set_option maxHeartbeats 16000000 in
theorem runsTell_go (w : World) (hT : TakesAt w) (hE : ErrTypeAt w) {gv xv nv mv : Value} (g : GT) (hg : GenAt w gv g) (x : ET) (hx : ExprAt w xv x) (n : Int) (hn : IntAt nv n) (many : Int) (hmn : IntAt mv many) :
    Calls Tryz.prog 3 #[gv, xv, nv, mv] w fun e w' => e = .returned (.bool true) ∧ Below w.heap.size w w' := by
  obtain ⟨rfl, _⟩ := hn
  obtain ⟨rfl, _⟩ := hmn
  obtain ⟨k0, a0, b0, s0, g0, c0, rfl⟩ := hg.shape
  obtain ⟨k1, n1, s1, a1, c1, rfl⟩ := hx.shape
  have HE := Lib.hid hE
  have HT := Lib.hid hT
  have HG := Lib.hid hg
  have HX := Lib.hid hx
  have CE0 : Hid (∀ W, ErrTypeAt W → Calls Tryz.prog 10 #[.nilIface, .int .i64 0] W fun ev w' => ev = .returned (.bool true) ∧ Below W.heap.size W w') := fun W h => by have := error_yes 0 W h; rw [errV_zero] at this; exact this
  clear hE hT hg hx
  go_enter Tryz.func3, Tryz.ntmps3
  go_wp2_with fail
  generalize hW0 : ((w.alloc (.cells #[.int .i64 k0, .int .i64 a0, .int .i64 b0, .slice g0 s0 c0] 24)).alloc (.cells #[.int .i64 k1, .int .i64 n1, .slice a1 s1 c1] 27)) = W0
  have hB0 : Below w.heap.size w W0 := by rw [← hW0]; repeat (first | with_reducible assumption | with_reducible exact Below.refl _ _ | with_reducible apply Below.drew | (with_reducible refine Below.alloc ?_ (by first | omega | (simp only [zA, zS, zD, zN]; omega) | (dsimp only; omega) | (simp only [zA, zS, zD, zN]; dsimp only; omega)) _) | (with_reducible refine Below.setCell ?_ (by first | omega | (simp only [zA, zS, zD, zN]; omega) | (dsimp only; omega) | (simp only [zA, zS, zD, zN]; dsimp only; omega)) _) | (with_reducible apply below_drewN))
  have X0 : Blk W0 (w.heap.size) #[.int .i64 k0, .int .i64 a0, .int .i64 b0, .slice g0 s0 c0] 24 := by rw [← hW0]; exact ((Blk.new w #[.int .i64 k0, .int .i64 a0, .int .i64 b0, .slice g0 s0 c0] 24)).alloc _
  have X1 : Blk W0 (w.heap.size + 1) #[.int .i64 k1, .int .i64 n1, .slice a1 s1 c1] 27 := by rw [← hW0]; exact (show Blk ((w.alloc (.cells #[.int .i64 k0, .int .i64 a0, .int .i64 b0, .slice g0 s0 c0] 24)).alloc (.cells #[.int .i64 k1, .int .i64 n1, .slice a1 s1 c1] 27)) (w.heap.size + 1) _ _ by simpa using Blk.new (w.alloc (.cells #[.int .i64 k0, .int .i64 a0, .int .i64 b0, .slice g0 s0 c0] 24)) #[.int .i64 k1, .int .i64 n1, .slice a1 s1 c1] 27)
  clear hW0
  refine (made_fact _).mono ?_
  rintro e W1 ⟨rfl, hb⟩
  have hB1 : Below w.heap.size w W1 := hB0.trans (hb.mono hB0.size)
  have X0 := X0.ext hb
  have X1 := X1.ext hb
  clear hb hB0
  go_wp2_with fail
  refine (asked_fact _ (HT.out.ext hB1)).mono ?_
  rintro e W2 ⟨rfl, hb⟩
  have hB2 : Below w.heap.size w W2 := hB1.trans (hb.mono hB1.size)
  have X0 := X0.ext hb
  have X1 := X1.ext hb
  clear hb hB1
  have f0_0 := X0.cell 0
  have f0_1 := X0.cell 1
  have f0_2 := X0.cell 2
  have f0_3 := X0.cell 3
  simp only [List.getElem?_toArray, List.getElem?_cons_succ, List.getElem?_cons_zero] at f0_0 f0_1 f0_2 f0_3
  go_wp2_with fail
  refine (rgfault_any g _ _ (HG.out.ext hB2)).mono ?_
  rintro e W3 ⟨rfl, hb⟩
  clear f0_0 f0_1 f0_2 f0_3
  have hB3 : Below w.heap.size w W3 := hB2.trans (hb.mono hB2.size)
  have X0 := X0.ext hb
  have X1 := X1.ext hb
  clear hb hB2
  by_cases hc : GT.check g = 0
  case neg =>
    have hq : (GT.check g == 0) = false := by simpa using hc
    have HSH : Hid (runErr g x many = GT.check g) := by show _ = _; unfold runErr; rw [if_pos hc]
    have CB := Lib.hid (fun W h => by have := run_bad g x n many (by rw [HSH.out]; exact hc) _ _ W (HT.out.ext (w' := W) h) (HG.out.ext h) (HX.out.ext h); rw [HSH.out] at this; exact this)
    clear hc HSH
    generalize GT.check g = ce at *
    have hb0 : Below W3.heap.size W3 (W3.alloc (.cells #[.int .i64 0, .bool false, .slice none 0 0, .int .i64 0] 34)) := (Below.refl _ _).alloc (Nat.le_refl _) _
    have hBa : Below w.heap.size w (W3.alloc (.cells #[.int .i64 0, .bool false, .slice none 0 0, .int .i64 0] 34)) := hB3.trans (hb0.mono hB3.size)
    have XA : Blk (W3.alloc (.cells #[.int .i64 0, .bool false, .slice none 0 0, .int .i64 0] 34)) W3.heap.size #[.int .i64 0, .bool false, .slice none 0 0, .int .i64 0] 34 := Blk.new _ _ _
    have X0a := X0.ext hb0
    have X1a := X1.ext hb0
    have g0 := X0a.cell 0
    have g1 := X0a.cell 1
    have g2 := X0a.cell 2
    have g3 := X0a.cell 3
    simp only [List.getElem?_toArray, List.getElem?_cons_succ, List.getElem?_cons_zero] at g0 g1 g2 g3
    have f0 := X1a.cell 0
    have f1 := X1a.cell 1
    have f2 := X1a.cell 2
    simp only [List.getElem?_toArray, List.getElem?_cons_succ, List.getElem?_cons_zero] at f0 f1 f2
    clear hb0 X0 X1
    go_wp2_with fail
    refine (CB.out _ hBa).mono ?_
    rintro e Wb ⟨rfl, hb⟩
    have hBb := hBa.trans (hb.mono hBa.size)
    have XB := XA.ext hb
    clear hb g0 g1 g2 g3 f0 f1 f2 X0a X1a XA hBa
    have hb0 : Below Wb.heap.size Wb (Wb.alloc (.cells #[.int .i64 0, .bool false, .slice none 0 0, .int .i64 0] 34)) := (Below.refl _ _).alloc (Nat.le_refl _) _
    have hBc : Below w.heap.size w (Wb.alloc (.cells #[.int .i64 0, .bool false, .slice none 0 0, .int .i64 0] 34)) := hBb.trans (hb0.mono hBb.size)
    have XC : Blk (Wb.alloc (.cells #[.int .i64 0, .bool false, .slice none 0 0, .int .i64 0] 34)) Wb.heap.size #[.int .i64 0, .bool false, .slice none 0 0, .int .i64 0] 34 := Blk.new _ _ _
    have XB := XB.ext hb0
    clear hb0 hBb
    go_wp2_with fail
    refine (error_yes (ce) _ (HE.out.ext hBc)).mono ?_
    rintro e Wd ⟨rfl, hb⟩
    have hBd := hBc.trans (hb.mono hBc.size)
    have XB := XB.ext hb
    have XC := XC.ext hb
    clear hb hBc
    have r0 := XB.cell 0
    have r1 := XB.cell 1
    have r2 := XB.cell 2
    have r3 := XB.cell 3
    simp only [List.getElem?_toArray, List.getElem?_cons_succ, List.getElem?_cons_zero] at r0 r1 r2 r3
    have q0 := XC.cell 0
    have q1 := XC.cell 1
    have q2 := XC.cell 2
    have q3 := XC.cell 3
    simp only [List.getElem?_toArray, List.getElem?_cons_succ, List.getElem?_cons_zero] at q0 q1 q2 q3
    go_wp2_with fail
    refine (report_any ⟨0, false, [], 0⟩ ⟨0, false, [], 0⟩ (by decide) (by decide) _ _ _ (rep_zero _) (rep_zero _)).mono ?_
    rintro e We ⟨b, rfl, hbt, hb⟩
    obtain rfl : b = true := hbt rfl
    have hBe := hBd.trans (hb.mono hBd.size)
    clear hb hBd r0 r1 r2 r3 q0 q1 q2 q3
    go_wp2_with fail
    go_ret
    exact ⟨by simp, hBe⟩
  rw [hc]
  have HC := Lib.hid hc
  clear hc
  have f0_0 := X1.cell 0
  have f0_1 := X1.cell 1
  have f0_2 := X1.cell 2
  simp only [List.getElem?_toArray, List.getElem?_cons_succ, List.getElem?_cons_zero] at f0_0 f0_1 f0_2
  go_wp2_with fail
  refine (rxfault_any x _ _ (HX.out.ext hB3)).mono ?_
  rintro e W4 ⟨rfl, hb⟩
  clear f0_0 f0_1 f0_2
  have hB4 : Below w.heap.size w W4 := hB3.trans (hb.mono hB3.size)
  have X0 := X0.ext hb
  have X1 := X1.ext hb
  clear hb hB3
  by_cases hx0 : ET.check x = 0
  case neg =>
    have hq : (ET.check x == 0) = false := by simpa using hx0
    have HSH : Hid (runErr g x many = ET.check x) := by show _ = _; unfold runErr; rw [if_neg (by have := HC.out; omega), if_pos hx0]
    have CB := Lib.hid (fun W h => by have := run_bad g x n many (by rw [HSH.out]; exact hx0) _ _ W (HT.out.ext (w' := W) h) (HG.out.ext h) (HX.out.ext h); rw [HSH.out] at this; exact this)
    clear hx0 HSH
    generalize ET.check x = ce at *
    have hb0 : Below W4.heap.size W4 (W4.alloc (.cells #[.int .i64 0, .bool false, .slice none 0 0, .int .i64 0] 34)) := (Below.refl _ _).alloc (Nat.le_refl _) _
    have hBa : Below w.heap.size w (W4.alloc (.cells #[.int .i64 0, .bool false, .slice none 0 0, .int .i64 0] 34)) := hB4.trans (hb0.mono hB4.size)
    have XA : Blk (W4.alloc (.cells #[.int .i64 0, .bool false, .slice none 0 0, .int .i64 0] 34)) W4.heap.size #[.int .i64 0, .bool false, .slice none 0 0, .int .i64 0] 34 := Blk.new _ _ _
    have X0a := X0.ext hb0
    have X1a := X1.ext hb0
    have g0 := X0a.cell 0
    have g1 := X0a.cell 1
    have g2 := X0a.cell 2
    have g3 := X0a.cell 3
    simp only [List.getElem?_toArray, List.getElem?_cons_succ, List.getElem?_cons_zero] at g0 g1 g2 g3
    have f0 := X1a.cell 0
    have f1 := X1a.cell 1
    have f2 := X1a.cell 2
    simp only [List.getElem?_toArray, List.getElem?_cons_succ, List.getElem?_cons_zero] at f0 f1 f2
    clear hb0 X0 X1
    go_wp2_with fail
    refine (CB.out _ hBa).mono ?_
    rintro e Wb ⟨rfl, hb⟩
    have hBb := hBa.trans (hb.mono hBa.size)
    have XB := XA.ext hb
    clear hb g0 g1 g2 g3 f0 f1 f2 X0a X1a XA hBa
    have hb0 : Below Wb.heap.size Wb (Wb.alloc (.cells #[.int .i64 0, .bool false, .slice none 0 0, .int .i64 0] 34)) := (Below.refl _ _).alloc (Nat.le_refl _) _
    have hBc : Below w.heap.size w (Wb.alloc (.cells #[.int .i64 0, .bool false, .slice none 0 0, .int .i64 0] 34)) := hBb.trans (hb0.mono hBb.size)
    have XC : Blk (Wb.alloc (.cells #[.int .i64 0, .bool false, .slice none 0 0, .int .i64 0] 34)) Wb.heap.size #[.int .i64 0, .bool false, .slice none 0 0, .int .i64 0] 34 := Blk.new _ _ _
    have XB := XB.ext hb0
    clear hb0 hBb
    go_wp2_with fail
    refine (error_yes (ce) _ (HE.out.ext hBc)).mono ?_
    rintro e Wd ⟨rfl, hb⟩
    have hBd := hBc.trans (hb.mono hBc.size)
    have XB := XB.ext hb
    have XC := XC.ext hb
    clear hb hBc
    have r0 := XB.cell 0
    have r1 := XB.cell 1
    have r2 := XB.cell 2
    have r3 := XB.cell 3
    simp only [List.getElem?_toArray, List.getElem?_cons_succ, List.getElem?_cons_zero] at r0 r1 r2 r3
    have q0 := XC.cell 0
    have q1 := XC.cell 1
    have q2 := XC.cell 2
    have q3 := XC.cell 3
    simp only [List.getElem?_toArray, List.getElem?_cons_succ, List.getElem?_cons_zero] at q0 q1 q2 q3
    go_wp2_with fail
    refine (report_any ⟨0, false, [], 0⟩ ⟨0, false, [], 0⟩ (by decide) (by decide) _ _ _ (rep_zero _) (rep_zero _)).mono ?_
    rintro e We ⟨b, rfl, hbt, hb⟩
    obtain rfl : b = true := hbt rfl
    have hBe := hBd.trans (hb.mono hBd.size)
    clear hb hBd r0 r1 r2 r3 q0 q1 q2 q3
    go_wp2_with fail
    go_ret
    exact ⟨by simp, hBe⟩
  rw [hx0]
  have HXC := Lib.hid hx0
  clear hx0
  by_cases hm0 : many < 0
  ·
    have HSH : Hid (runErr g x many = 1) := by show _ = _; unfold runErr; rw [if_neg (by have := HC.out; omega), if_neg (by have := HXC.out; omega), if_pos (by omega)]
    have CB := Lib.hid (fun W h => by have := run_bad g x n many (by rw [HSH.out]; exact (by decide)) _ _ W (HT.out.ext (w' := W) h) (HG.out.ext h) (HX.out.ext h); rw [HSH.out] at this; exact this)
    clear HSH
    have hb0 : Below W4.heap.size W4 (W4.alloc (.cells #[.int .i64 0, .bool false, .slice none 0 0, .int .i64 0] 34)) := (Below.refl _ _).alloc (Nat.le_refl _) _
    have hBa : Below w.heap.size w (W4.alloc (.cells #[.int .i64 0, .bool false, .slice none 0 0, .int .i64 0] 34)) := hB4.trans (hb0.mono hB4.size)
    have XA : Blk (W4.alloc (.cells #[.int .i64 0, .bool false, .slice none 0 0, .int .i64 0] 34)) W4.heap.size #[.int .i64 0, .bool false, .slice none 0 0, .int .i64 0] 34 := Blk.new _ _ _
    have X0a := X0.ext hb0
    have X1a := X1.ext hb0
    have g0 := X0a.cell 0
    have g1 := X0a.cell 1
    have g2 := X0a.cell 2
    have g3 := X0a.cell 3
    simp only [List.getElem?_toArray, List.getElem?_cons_succ, List.getElem?_cons_zero] at g0 g1 g2 g3
    have f0 := X1a.cell 0
    have f1 := X1a.cell 1
    have f2 := X1a.cell 2
    simp only [List.getElem?_toArray, List.getElem?_cons_succ, List.getElem?_cons_zero] at f0 f1 f2
    clear hb0 X0 X1
    go_wp2_with fail
    refine (CB.out _ hBa).mono ?_
    rintro e Wb ⟨rfl, hb⟩
    have hBb := hBa.trans (hb.mono hBa.size)
    have XB := XA.ext hb
    clear hb g0 g1 g2 g3 f0 f1 f2 X0a X1a XA hBa
    have hb0 : Below Wb.heap.size Wb (Wb.alloc (.cells #[.int .i64 0, .bool false, .slice none 0 0, .int .i64 0] 34)) := (Below.refl _ _).alloc (Nat.le_refl _) _
    have hBc : Below w.heap.size w (Wb.alloc (.cells #[.int .i64 0, .bool false, .slice none 0 0, .int .i64 0] 34)) := hBb.trans (hb0.mono hBb.size)
    have XC : Blk (Wb.alloc (.cells #[.int .i64 0, .bool false, .slice none 0 0, .int .i64 0] 34)) Wb.heap.size #[.int .i64 0, .bool false, .slice none 0 0, .int .i64 0] 34 := Blk.new _ _ _
    have XB := XB.ext hb0
    clear hb0 hBb
    go_wp2_with fail
    refine (error_yes (1) _ (HE.out.ext hBc)).mono ?_
    rintro e Wd ⟨rfl, hb⟩
    have hBd := hBc.trans (hb.mono hBc.size)
    have XB := XB.ext hb
    have XC := XC.ext hb
    clear hb hBc
    have r0 := XB.cell 0
    have r1 := XB.cell 1
    have r2 := XB.cell 2
    have r3 := XB.cell 3
    simp only [List.getElem?_toArray, List.getElem?_cons_succ, List.getElem?_cons_zero] at r0 r1 r2 r3
    have q0 := XC.cell 0
    have q1 := XC.cell 1
    have q2 := XC.cell 2
    have q3 := XC.cell 3
    simp only [List.getElem?_toArray, List.getElem?_cons_succ, List.getElem?_cons_zero] at q0 q1 q2 q3
    go_wp2_with fail
    refine (report_any ⟨0, false, [], 0⟩ ⟨0, false, [], 0⟩ (by decide) (by decide) _ _ _ (rep_zero _) (rep_zero _)).mono ?_
    rintro e We ⟨b, rfl, hbt, hb⟩
    obtain rfl : b = true := hbt rfl
    have hBe := hBd.trans (hb.mono hBd.size)
    clear hb hBd r0 r1 r2 r3 q0 q1 q2 q3
    go_wp2_with fail
    go_ret
    exact ⟨by simp, hBe⟩
  by_cases hm1 : 50 < many
  ·
    have HSH : Hid (runErr g x many = 1) := by show _ = _; unfold runErr; rw [if_neg (by have := HC.out; omega), if_neg (by have := HXC.out; omega), if_pos (by omega)]
    have CB := Lib.hid (fun W h => by have := run_bad g x n many (by rw [HSH.out]; exact (by decide)) _ _ W (HT.out.ext (w' := W) h) (HG.out.ext h) (HX.out.ext h); rw [HSH.out] at this; exact this)
    clear HSH
    have hb0 : Below W4.heap.size W4 (W4.alloc (.cells #[.int .i64 0, .bool false, .slice none 0 0, .int .i64 0] 34)) := (Below.refl _ _).alloc (Nat.le_refl _) _
    have hBa : Below w.heap.size w (W4.alloc (.cells #[.int .i64 0, .bool false, .slice none 0 0, .int .i64 0] 34)) := hB4.trans (hb0.mono hB4.size)
    have XA : Blk (W4.alloc (.cells #[.int .i64 0, .bool false, .slice none 0 0, .int .i64 0] 34)) W4.heap.size #[.int .i64 0, .bool false, .slice none 0 0, .int .i64 0] 34 := Blk.new _ _ _
    have X0a := X0.ext hb0
    have X1a := X1.ext hb0
    have g0 := X0a.cell 0
    have g1 := X0a.cell 1
    have g2 := X0a.cell 2
    have g3 := X0a.cell 3
    simp only [List.getElem?_toArray, List.getElem?_cons_succ, List.getElem?_cons_zero] at g0 g1 g2 g3
    have f0 := X1a.cell 0
    have f1 := X1a.cell 1
    have f2 := X1a.cell 2
    simp only [List.getElem?_toArray, List.getElem?_cons_succ, List.getElem?_cons_zero] at f0 f1 f2
    clear hb0 X0 X1
    go_wp2_with fail
    refine (CB.out _ hBa).mono ?_
    rintro e Wb ⟨rfl, hb⟩
    have hBb := hBa.trans (hb.mono hBa.size)
    have XB := XA.ext hb
    clear hb g0 g1 g2 g3 f0 f1 f2 X0a X1a XA hBa
    have hb0 : Below Wb.heap.size Wb (Wb.alloc (.cells #[.int .i64 0, .bool false, .slice none 0 0, .int .i64 0] 34)) := (Below.refl _ _).alloc (Nat.le_refl _) _
    have hBc : Below w.heap.size w (Wb.alloc (.cells #[.int .i64 0, .bool false, .slice none 0 0, .int .i64 0] 34)) := hBb.trans (hb0.mono hBb.size)
    have XC : Blk (Wb.alloc (.cells #[.int .i64 0, .bool false, .slice none 0 0, .int .i64 0] 34)) Wb.heap.size #[.int .i64 0, .bool false, .slice none 0 0, .int .i64 0] 34 := Blk.new _ _ _
    have XB := XB.ext hb0
    clear hb0 hBb
    go_wp2_with fail
    refine (error_yes (1) _ (HE.out.ext hBc)).mono ?_
    rintro e Wd ⟨rfl, hb⟩
    have hBd := hBc.trans (hb.mono hBc.size)
    have XB := XB.ext hb
    have XC := XC.ext hb
    clear hb hBc
    have r0 := XB.cell 0
    have r1 := XB.cell 1
    have r2 := XB.cell 2
    have r3 := XB.cell 3
    simp only [List.getElem?_toArray, List.getElem?_cons_succ, List.getElem?_cons_zero] at r0 r1 r2 r3
    have q0 := XC.cell 0
    have q1 := XC.cell 1
    have q2 := XC.cell 2
    have q3 := XC.cell 3
    simp only [List.getElem?_toArray, List.getElem?_cons_succ, List.getElem?_cons_zero] at q0 q1 q2 q3
    go_wp2_with fail
    refine (report_any ⟨0, false, [], 0⟩ ⟨0, false, [], 0⟩ (by decide) (by decide) _ _ _ (rep_zero _) (rep_zero _)).mono ?_
    rintro e We ⟨b, rfl, hbt, hb⟩
    obtain rfl : b = true := hbt rfl
    have hBe := hBd.trans (hb.mono hBd.size)
    clear hb hBd r0 r1 r2 r3 q0 q1 q2 q3
    go_wp2_with fail
    go_ret
    exact ⟨by simp, hBe⟩
  obtain ⟨m, rfl⟩ := Int.eq_ofNat_of_zero_le (show 0 ≤ many by omega)
  have hm50 : m ≤ 50 := by omega
  have HR := Lib.hid (run_ok g x n m hm50 HC.out HXC.out)
  have HQ := Lib.hid (rrunof_any g x n m hm50 HC.out HXC.out)
  have HF := Lib.hid (runF_fit g x HC.out m (firstS n) 0)
  have hR := Lib.hid (show runR g x n m = runF g x m (firstS n) 0 from rfl)
  rw [← hR.out] at HF
  have X1lt := X1.lt
  have hb0 : Below W4.heap.size W4 (W4.alloc (.cells #[.int .i64 0, .bool false, .slice none 0 0, .int .i64 0] 34)) := (Below.refl _ _).alloc (Nat.le_refl _) _
  have hBa : Below w.heap.size w (W4.alloc (.cells #[.int .i64 0, .bool false, .slice none 0 0, .int .i64 0] 34)) := hB4.trans (hb0.mono hB4.size)
  have XA : Blk (W4.alloc (.cells #[.int .i64 0, .bool false, .slice none 0 0, .int .i64 0] 34)) W4.heap.size #[.int .i64 0, .bool false, .slice none 0 0, .int .i64 0] 34 := Blk.new _ _ _
  have hza : W4.heap.size < (W4.alloc (.cells #[.int .i64 0, .bool false, .slice none 0 0, .int .i64 0] 34)).heap.size := by simp
  have X0a := X0.ext hb0
  have X1a := X1.ext hb0
  clear hb0 X0 X1
  have g0 := X0a.cell 0
  have g1 := X0a.cell 1
  have g2 := X0a.cell 2
  have g3 := X0a.cell 3
  simp only [List.getElem?_toArray, List.getElem?_cons_succ, List.getElem?_cons_zero] at g0 g1 g2 g3
  have f0 := X1a.cell 0
  have f1 := X1a.cell 1
  have f2 := X1a.cell 2
  simp only [List.getElem?_toArray, List.getElem?_cons_succ, List.getElem?_cons_zero] at f0 f1 f2
  go_wp2_with fail
  refine (HQ.out _ _ _ (HG.out.ext hBa) (HX.out.ext hBa)).mono ?_
  rintro e Wb ⟨⟨rv, rfl, hrv⟩, hb⟩
  have hBb := hBa.trans (hb.mono hBa.size)
  have XB := XA.ext hb
  have X0b := X0a.ext hb
  have X1b := X1a.ext hb
  have hwa := hB4.size
  have X1l := X1lt
  clear hb g0 g1 g2 g3 f0 f1 f2 XA hBa X0a X1a hR
  obtain ⟨tv, rfl, htv⟩ := hrv
  generalize hrr : (runR g x n m) = R at *
  obtain ⟨Rr, Rf, Rt, Rs⟩ := R
  dsimp only at htv HF ⊢
  have HTV := Lib.hid htv
  obtain ⟨tad, tcap, rfl⟩ : ∃ ad c, tv = Value.slice ad Rt.length c := by obtain ⟨_, ad, c, e, _⟩ := htv; exact ⟨ad, c, e⟩
  clear htv
  have HRR := Lib.hid hrr
  clear hrr
  have u0 := XB.unfrozen 0
  have u1 := XB.unfrozen 1
  have u2 := XB.unfrozen 2
  have u3 := XB.unfrozen 3
  have r0 := XB.cell 0
  have r1 := XB.cell 1
  have r2 := XB.cell 2
  have r3 := XB.cell 3
  simp only [List.getElem?_toArray, List.getElem?_cons_succ, List.getElem?_cons_zero] at r0 r1 r2 r3
  have XS := (((XB.set 0 (.int .i64 (Rr : Nat))).set 1 (.bool Rf)).set 2 (.slice tad Rt.length tcap)).set 3 (.int .i64 (Rs : Nat))
  simp only [List.setIfInBounds_toArray, List.set_cons_zero, List.set_cons_succ] at XS
  have hP0 : w.heap.size + 1 + 1 ≤ W4.heap.size := by have := X1l; omega
  have hPb : W4.heap.size < Wb.heap.size := XB.lt
  generalize hP : W4.heap.size = P at *
  have X0s := (((X0b.oth P 0 (by omega) (.int .i64 (Rr : Nat))).oth P 1 (by omega) (.bool Rf)).oth P 2 (by omega) (.slice tad Rt.length tcap)).oth P 3 (by omega) (.int .i64 (Rs : Nat))
  have X1s := (((X1b.oth P 0 (by omega) (.int .i64 (Rr : Nat))).oth P 1 (by omega) (.bool Rf)).oth P 2 (by omega) (.slice tad Rt.length tcap)).oth P 3 (by omega) (.int .i64 (Rs : Nat))
  have hBs : Below w.heap.size w ((((Wb.setCell ⟨P, 0, none⟩ (.int .i64 (Rr : Nat))).setCell ⟨P, 1, none⟩ (.bool Rf)).setCell ⟨P, 2, none⟩ (.slice tad Rt.length tcap)).setCell ⟨P, 3, none⟩ (.int .i64 (Rs : Nat))) := by
    refine Below.setCell (Below.setCell (Below.setCell (Below.setCell hBb ?_ _) ?_ _) ?_ _) ?_ _ <;> dsimp only <;> omega
  have HTS : Hid (IntsAt ((((Wb.setCell ⟨P, 0, none⟩ (.int .i64 (Rr : Nat))).setCell ⟨P, 1, none⟩ (.bool Rf)).setCell ⟨P, 2, none⟩ (.slice tad Rt.length tcap)).setCell ⟨P, 3, none⟩ (.int .i64 (Rs : Nat))) (.slice tad Rt.length tcap) Rt) := by
    refine (HTV.out.keep' (by simp only [size_setCell]; exact Nat.le_refl _) fun b hb hlt => ?_).at
    rw [Below.heap_setCell _ _ _ _ (by dsimp only; omega), Below.heap_setCell _ _ _ _ (by dsimp only; omega), Below.heap_setCell _ _ _ _ (by dsimp only; omega), Below.heap_setCell _ _ _ _ (by dsimp only; omega)]
  have g0 := X0b.cell 0
  have g1 := X0b.cell 1
  have g2 := X0b.cell 2
  have g3 := X0b.cell 3
  simp only [List.getElem?_toArray, List.getElem?_cons_succ, List.getElem?_cons_zero] at g0 g1 g2 g3
  have f0 := X1b.cell 0
  have f1 := X1b.cell 1
  have f2 := X1b.cell 2
  simp only [List.getElem?_toArray, List.getElem?_cons_succ, List.getElem?_cons_zero] at f0 f1 f2
  go_wp2_with fail
  refine (HR.out _ _ _ (HT.out.ext hBs) (HG.out.ext hBs) (HX.out.ext hBs)).mono ?_
  rintro e Wc ⟨⟨qv, rfl, hqv⟩, hb⟩
  have hBc := hBs.trans (hb.mono hBs.size)
  have XSc := XS.ext hb
  have HTC := Lib.hid (HTS.out.ext hb)
  obtain ⟨qt, rfl, hqt⟩ := hqv
  dsimp only at hqt ⊢
  have HQT := Lib.hid hqt
  obtain ⟨qad, qcap, rfl, _⟩ := hqt.form
  clear hb hqt g0 g1 g2 g3 f0 f1 f2 u0 u1 u2 u3 r0 r1 r2 r3 hBs XS X0s X1s HTS
  have hb0 : Below Wc.heap.size Wc (Wc.alloc (.cells #[.int .i64 (Rr : Nat), .bool Rf, .slice qad Rt.length qcap, .int .i64 (Rs : Nat)] 34)) := (Below.refl _ _).alloc (Nat.le_refl _) _
  have hBd := hBc.trans (hb0.mono hBc.size)
  have XQ : Blk (Wc.alloc (.cells #[.int .i64 (Rr : Nat), .bool Rf, .slice qad Rt.length qcap, .int .i64 (Rs : Nat)] 34)) Wc.heap.size #[.int .i64 (Rr : Nat), .bool Rf, .slice qad Rt.length qcap, .int .i64 (Rs : Nat)] 34 := Blk.new _ _ _
  have XSd := XSc.ext hb0
  have HTD := Lib.hid (HTC.out.ext hb0)
  have HQD := Lib.hid (HQT.out.ext hb0)
  clear hb0 XSc HTC HQT hBc
  go_wp2_with fail
  refine (CE0.out _ (HE.out.ext hBd)).mono ?_
  rintro e We ⟨rfl, hb⟩
  have hBe := hBd.trans (hb.mono hBd.size)
  have XQe := XQ.ext hb
  have XSe := XSd.ext hb
  have HTE := Lib.hid (HTD.out.ext hb)
  have HQE := Lib.hid (HQD.out.ext hb)
  clear hb hBd XQ XSd HTD HQD
  have r0 := XQe.cell 0
  have r1 := XQe.cell 1
  have r2 := XQe.cell 2
  have r3 := XQe.cell 3
  simp only [List.getElem?_toArray, List.getElem?_cons_succ, List.getElem?_cons_zero] at r0 r1 r2 r3
  have q0 := XSe.cell 0
  have q1 := XSe.cell 1
  have q2 := XSe.cell 2
  have q3 := XSe.cell 3
  simp only [List.getElem?_toArray, List.getElem?_cons_succ, List.getElem?_cons_zero] at q0 q1 q2 q3
  go_wp2_with fail
  refine (report_any ⟨Rr, Rf, Rt, Rs⟩ ⟨Rr, Rf, Rt, Rs⟩ HF.out.1 HF.out.1 _ _ _ ⟨_, rfl, HQE.out⟩ ⟨_, rfl, HTE.out⟩).mono ?_
  rintro e Wf ⟨b, rfl, hbt, hb⟩
  obtain rfl : b = true := hbt rfl
  have hBf := hBe.trans (hb.mono hBe.size)
  clear hb hBe r0 r1 r2 r3 q0 q1 q2 q3
  go_wp2_with fail
  go_ret
  exact ⟨by simp, hBf⟩
end Go.Proofs.YtibmnifenfingaaGreatDoor
