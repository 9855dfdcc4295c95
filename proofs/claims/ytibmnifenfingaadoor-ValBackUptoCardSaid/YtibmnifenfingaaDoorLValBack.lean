/- The walk through the statement ValBack. -/
import Derived.Test.YtibmnifenfingaaDoorLFIVE
namespace Go.Proofs.YtibmnifenfingaaDoor
set_option maxRecDepth 100000
open Go.RowKit
set_option linter.unusedSimpArgs false
set_option linter.unusedVariables false
set_option maxHeartbeats 16000000 in
theorem valBack_go (w : World) (hP : PowAt w) (hE : NumErrsAt w) {v0 v1 : Value} (a : VT) (o0 : ValAt w v0 a) (ba : VT.wt a ≤ 30000000) (b : VT) (o1 : ValAt w v1 b) (bb : VT.wt b ≤ 30000000) (s : List UInt8) (hs : s.length ≤ 1000000000) :
    Calls Tryd.prog 4 #[v0, v1, .string ⟨s.toArray⟩] w fun e w' => e = .returned (.bool true) ∧ Below w.heap.size w w' := by
  obtain ⟨l0, n0, k0, g0, c0, rfl⟩ := o0.shape
  obtain ⟨l1, n1, k1, g1, c1, rfl⟩ := o1.shape
  have HP := Lib.hid hP
  have HE := Lib.hid hE
  have HA := Lib.hid o0
  have HBV := Lib.hid o1
  clear hP hE o0 o1
  go_enter Tryd.func4, Tryd.ntmps4
  go_wp2_with fail
  generalize hW0 : ((w.alloc (.cells #[.bool l0, .int .i64 n0, .slice g0 k0 c0] 34)).alloc (.cells #[.bool l1, .int .i64 n1, .slice g1 k1 c1] 34)) = W0
  have hB0 : Below w.heap.size w W0 := by rw [← hW0]; repeat (first | with_reducible assumption | with_reducible exact Below.refl _ _ | with_reducible apply Below.drew | (with_reducible refine Below.alloc ?_ (by first | omega | (simp only [zA, zS, zD, zN]; omega) | (dsimp only; omega) | (simp only [zA, zS, zD, zN]; dsimp only; omega)) _) | (with_reducible refine Below.setCell ?_ (by first | omega | (simp only [zA, zS, zD, zN]; omega) | (dsimp only; omega) | (simp only [zA, zS, zD, zN]; dsimp only; omega)) _) | (with_reducible apply below_drewN))
  have X0 : Blk W0 (w.heap.size) #[.bool l0, .int .i64 n0, .slice g0 k0 c0] 34 := by rw [← hW0]; exact ((Blk.new w #[.bool l0, .int .i64 n0, .slice g0 k0 c0] 34)).alloc _
  have X1 : Blk W0 (w.heap.size + 1) #[.bool l1, .int .i64 n1, .slice g1 k1 c1] 34 := by rw [← hW0]; exact (show Blk ((w.alloc (.cells #[.bool l0, .int .i64 n0, .slice g0 k0 c0] 34)).alloc (.cells #[.bool l1, .int .i64 n1, .slice g1 k1 c1] 34)) (w.heap.size + 1) _ _ by simpa using Blk.new (w.alloc (.cells #[.bool l0, .int .i64 n0, .slice g0 k0 c0] 34)) #[.bool l1, .int .i64 n1, .slice g1 k1 c1] 34)
  clear hW0
  refine (five_fact _ (HP.out.ext hB0) (HE.out.ext hB0)).mono ?_
  rintro e W1 ⟨rfl, hb⟩
  have hB1 : Below w.heap.size w W1 := hB0.trans (hb.mono hB0.size)
  have X0 := X0.ext hb
  have X1 := X1.ext hb
  clear hb hB0
  go_wp2_with fail
  refine (parse_any idx_any s hs _ (HP.out.ext hB1) (HE.out.ext hB1)).mono ?_
  rintro e W2 ⟨hpr, hb⟩
  have hB2 : Below w.heap.size w W2 := hB1.trans (hb.mono hB1.size)
  have X0 := X0.ext hb
  have X1 := X1.ext hb
  clear hb hB1
  rcases hpr with ⟨xv, t, rfl, hv, ht⟩ | ⟨rfl, _⟩
  ·
    obtain ⟨xl, xn, xk, xad, xcap, rfl⟩ := hv.shape
    have hb2 : Below W2.heap.size W2 (W2.alloc (.cells #[.bool xl, .int .i64 xn, .slice xad xk xcap] 34)) := by repeat (first | with_reducible assumption | with_reducible exact Below.refl _ _ | with_reducible apply Below.drew | (with_reducible refine Below.alloc ?_ (by first | omega | (simp only [zA, zS, zD, zN]; omega) | (dsimp only; omega) | (simp only [zA, zS, zD, zN]; dsimp only; omega)) _) | (with_reducible refine Below.setCell ?_ (by first | omega | (simp only [zA, zS, zD, zN]; omega) | (dsimp only; omega) | (simp only [zA, zS, zD, zN]; dsimp only; omega)) _) | (with_reducible apply below_drewN))
    have hBx := hB2.trans (hb2.mono hB2.size)
    have HV := Lib.hid (hv.ext hb2)
    have hlt2 := X0.lt
    have hwt : VT.wt t ≤ 1000000000 := by
      have h1 := rdV_wt 7 s
      rw [isText_rd ht] at h1
      have h2 := h1 rfl
      simp at h2
      omega
    have CT := Lib.hid (text_any t _ _ (HP.out.ext hBx) HV.out (by rw [ht.2.2]; omega) hwt)
    rw [ht.2.2] at CT
    have HC := Lib.hid ht.1
    clear hb2 hv ht hwt
    go_wp2_with fail
    refine CT.out.mono ?_
    rintro e W4 ⟨rfl, hb⟩
    have hB4 := hBx.trans (hb.mono hBx.size)
    have X8 := (Blk.new W2 #[.bool xl, .int .i64 xn, .slice xad xk xcap] 34).ext hb
    have X0p := (X0.alloc (.cells #[.bool xl, .int .i64 xn, .slice xad xk xcap] 34)).ext hb
    have X1p := (X1.alloc (.cells #[.bool xl, .int .i64 xn, .slice xad xk xcap] 34)).ext hb
    have CC := Lib.hid (valCheck_any t _ W4 (HV.out.ext hb))
    rw [HC.out, errV_zero] at CC
    clear hb CT HV
    have z0 := X8.cell 0
    have z1 := X8.cell 1
    have z2 := X8.cell 2
    simp only [List.getElem?_toArray, List.getElem?_cons_succ, List.getElem?_cons_zero] at z0 z1 z2
    go_wp2_with fail
    refine CC.out.mono ?_
    rintro e W5 ⟨rfl, hb⟩
    clear z0 z1 z2 CC
    have hB5 := hB4.trans (hb.mono hB4.size)
    have X0q := X0p.ext hb
    have X1q := X1p.ext hb
    clear hb
    have z0 := X0q.cell 0
    have z1 := X0q.cell 1
    have z2 := X0q.cell 2
    simp only [List.getElem?_toArray, List.getElem?_cons_succ, List.getElem?_cons_zero] at z0 z1 z2
    go_wp2_with fail
    clear z0 z1 z2
    have hBa := hB5
    have X0a := X0q
    have X1a := X1q
    refine (valCheck_any a _ _ (HA.out.ext hBa)).mono ?_
    rintro e W6 ⟨rfl, hb⟩
    have hB6 := hBa.trans (hb.mono hBa.size)
    have X0b := X0a.ext hb
    have X1b := X1a.ext hb
    clear hb
    by_cases ha : VT.chk a 0 = 0
    case neg =>
      rw [errV_ne ha]
      clear ha
      go_wp2_with fail
      go_ret
      exact ⟨rfl, hB6⟩
    rw [ha, errV_zero]
    have z0 := X1b.cell 0
    have z1 := X1b.cell 1
    have z2 := X1b.cell 2
    simp only [List.getElem?_toArray, List.getElem?_cons_succ, List.getElem?_cons_zero] at z0 z1 z2
    go_wp2_with fail
    refine (valCheck_any b _ _ (HBV.out.ext hB6)).mono ?_
    rintro e W7 ⟨rfl, hb⟩
    have hB7 := hB6.trans (hb.mono hB6.size)
    have X0c := X0b.ext hb
    have X1c := X1b.ext hb
    clear hb z0 z1 z2
    by_cases hb0 : VT.chk b 0 = 0
    case neg =>
      rw [errV_ne hb0]
      clear hb0
      go_wp2_with fail
      go_ret
      exact ⟨rfl, hB7⟩
    rw [hb0, errV_zero]
    have HCA := Lib.hid ha
    have HCB := Lib.hid hb0
    clear ha hb0
    have z0 := X0c.cell 0
    have z1 := X0c.cell 1
    have z2 := X0c.cell 2
    simp only [List.getElem?_toArray, List.getElem?_cons_succ, List.getElem?_cons_zero] at z0 z1 z2
    go_wp2_with fail
    refine (text_any a _ _ (HP.out.ext hB7) (HA.out.ext hB7) (by have := VT.text_wt a HA.out.nums; omega) (by omega)).mono ?_
    rintro e W8 ⟨rfl, hb⟩
    have hB8 := hB7.trans (hb.mono hB7.size)
    have X0d := X0c.ext hb
    have X1d := X1c.ext hb
    clear hb z0 z1 z2
    go_wp2_with fail
    refine (parse_any idx_any (VT.text a) (by have := VT.text_wt a HA.out.nums; omega) _ (HP.out.ext hB8) (HE.out.ext hB8)).mono ?_
    rintro e W9 ⟨hpr2, hb⟩
    have hB9 := hB8.trans (hb.mono hB8.size)
    have X0e := X0d.ext hb
    have X1e := X1d.ext hb
    have hist : IsText (VT.text a) a := ⟨HCA.out, HA.out.nums, rfl⟩
    clear hb
    obtain ⟨yv, ty, rfl, hyv, hty⟩ := hpr2.resolve_right (fun h => h.2 a hist)
    have h1 := isText_rd hty
    rw [isText_rd hist] at h1
    obtain rfl : a = ty := (Prod.mk.inj h1).1
    clear h1 hty hist hpr2
    obtain ⟨yl, yn, yk, yad, ycap, rfl⟩ := hyv.shape
    have hb2 : Below W9.heap.size W9 (W9.alloc (.cells #[.bool yl, .int .i64 yn, .slice yad yk ycap] 34)) := by repeat (first | with_reducible assumption | with_reducible exact Below.refl _ _ | with_reducible apply Below.drew | (with_reducible refine Below.alloc ?_ (by first | omega | (simp only [zA, zS, zD, zN]; omega) | (dsimp only; omega) | (simp only [zA, zS, zD, zN]; dsimp only; omega)) _) | (with_reducible refine Below.setCell ?_ (by first | omega | (simp only [zA, zS, zD, zN]; omega) | (dsimp only; omega) | (simp only [zA, zS, zD, zN]; dsimp only; omega)) _) | (with_reducible apply below_drewN))
    have HY := Lib.hid (hyv.ext hb2)
    have hBe := hB9.trans (hb2.mono hB9.size)
    have hlt9 := X0e.lt
    clear hb2 hyv
    have z0 := X0e.cell 0
    have z1 := X0e.cell 1
    have z2 := X0e.cell 2
    simp only [List.getElem?_toArray, List.getElem?_cons_succ, List.getElem?_cons_zero] at z0 z1 z2
    have y0 := X1e.cell 0
    have y1 := X1e.cell 1
    have y2 := X1e.cell 2
    simp only [List.getElem?_toArray, List.getElem?_cons_succ, List.getElem?_cons_zero] at y0 y1 y2
    go_wp2_with fail
    refine (value_same a _ _ _ HY.out (HA.out.ext hBe)).mono ?_
    rintro e Wa ⟨rfl, hb⟩
    have hBf := hBe.trans (hb.mono hBe.size)
    have X0f := (X0e.alloc (.cells #[.bool yl, .int .i64 yn, .slice yad yk ycap] 34)).ext hb
    have X1f := (X1e.alloc (.cells #[.bool yl, .int .i64 yn, .slice yad yk ycap] 34)).ext hb
    clear hb z0 z1 z2 y0 y1 y2
    have z0 := X0f.cell 0
    have z1 := X0f.cell 1
    have z2 := X0f.cell 2
    simp only [List.getElem?_toArray, List.getElem?_cons_succ, List.getElem?_cons_zero] at z0 z1 z2
    have y0 := X1f.cell 0
    have y1 := X1f.cell 1
    have y2 := X1f.cell 2
    simp only [List.getElem?_toArray, List.getElem?_cons_succ, List.getElem?_cons_zero] at y0 y1 y2
    go_wp2_with fail
    refine (rvalue_any a b _ _ _ (HA.out.ext hBf) (HBV.out.ext hBf)).mono ?_
    rintro e Wb ⟨rfl, hb⟩
    have hBg := hBf.trans (hb.mono hBf.size)
    have X0g := X0f.ext hb
    have X1g := X1f.ext hb
    clear hb z0 z1 z2 y0 y1 y2
    have CS := Lib.hid (samev_any a b _ _ Wb (HP.out.ext hBg) (HA.out.ext hBg) (HBV.out.ext hBg) (by omega) (by omega))
    rw [same_text HCA.out HCB.out HA.out.nums HBV.out.nums] at CS
    generalize VT.sameV a b = sb at *
    have z0 := X0g.cell 0
    have z1 := X0g.cell 1
    have z2 := X0g.cell 2
    simp only [List.getElem?_toArray, List.getElem?_cons_succ, List.getElem?_cons_zero] at z0 z1 z2
    have y0 := X1g.cell 0
    have y1 := X1g.cell 1
    have y2 := X1g.cell 2
    simp only [List.getElem?_toArray, List.getElem?_cons_succ, List.getElem?_cons_zero] at y0 y1 y2
    go_wp2_with fail
    refine CS.out.mono ?_
    rintro e Wc ⟨rfl, hb⟩
    have hBh := hBg.trans (hb.mono hBg.size)
    clear hb
    go_wp2_with fail
    go_ret
    exact ⟨by simp, hBh⟩
  ·
    rw [errV_ne (by decide)]
    have hb2 : Below W2.heap.size W2 (W2.alloc (.cells #[.bool false, .int .i64 0, .slice none 0 0] 34)) := by repeat (first | with_reducible assumption | with_reducible exact Below.refl _ _ | with_reducible apply Below.drew | (with_reducible refine Below.alloc ?_ (by first | omega | (simp only [zA, zS, zD, zN]; omega) | (dsimp only; omega) | (simp only [zA, zS, zD, zN]; dsimp only; omega)) _) | (with_reducible refine Below.setCell ?_ (by first | omega | (simp only [zA, zS, zD, zN]; omega) | (dsimp only; omega) | (simp only [zA, zS, zD, zN]; dsimp only; omega)) _) | (with_reducible apply below_drewN))
    have hBx := hB2.trans (hb2.mono hB2.size)
    have hlt2 := X0.lt
    clear hb2
    have z0 := X0.cell 0
    have z1 := X0.cell 1
    have z2 := X0.cell 2
    simp only [List.getElem?_toArray, List.getElem?_cons_succ, List.getElem?_cons_zero] at z0 z1 z2
    go_wp2_with fail
    clear z0 z1 z2
    have hBa := hBx
    have X0a := X0.alloc (.cells #[.bool false, .int .i64 0, .slice none 0 0] 34)
    have X1a := X1.alloc (.cells #[.bool false, .int .i64 0, .slice none 0 0] 34)
    refine (valCheck_any a _ _ (HA.out.ext hBa)).mono ?_
    rintro e W6 ⟨rfl, hb⟩
    have hB6 := hBa.trans (hb.mono hBa.size)
    have X0b := X0a.ext hb
    have X1b := X1a.ext hb
    clear hb
    by_cases ha : VT.chk a 0 = 0
    case neg =>
      rw [errV_ne ha]
      clear ha
      go_wp2_with fail
      go_ret
      exact ⟨rfl, hB6⟩
    rw [ha, errV_zero]
    have z0 := X1b.cell 0
    have z1 := X1b.cell 1
    have z2 := X1b.cell 2
    simp only [List.getElem?_toArray, List.getElem?_cons_succ, List.getElem?_cons_zero] at z0 z1 z2
    go_wp2_with fail
    refine (valCheck_any b _ _ (HBV.out.ext hB6)).mono ?_
    rintro e W7 ⟨rfl, hb⟩
    have hB7 := hB6.trans (hb.mono hB6.size)
    have X0c := X0b.ext hb
    have X1c := X1b.ext hb
    clear hb z0 z1 z2
    by_cases hb0 : VT.chk b 0 = 0
    case neg =>
      rw [errV_ne hb0]
      clear hb0
      go_wp2_with fail
      go_ret
      exact ⟨rfl, hB7⟩
    rw [hb0, errV_zero]
    have HCA := Lib.hid ha
    have HCB := Lib.hid hb0
    clear ha hb0
    have z0 := X0c.cell 0
    have z1 := X0c.cell 1
    have z2 := X0c.cell 2
    simp only [List.getElem?_toArray, List.getElem?_cons_succ, List.getElem?_cons_zero] at z0 z1 z2
    go_wp2_with fail
    refine (text_any a _ _ (HP.out.ext hB7) (HA.out.ext hB7) (by have := VT.text_wt a HA.out.nums; omega) (by omega)).mono ?_
    rintro e W8 ⟨rfl, hb⟩
    have hB8 := hB7.trans (hb.mono hB7.size)
    have X0d := X0c.ext hb
    have X1d := X1c.ext hb
    clear hb z0 z1 z2
    go_wp2_with fail
    refine (parse_any idx_any (VT.text a) (by have := VT.text_wt a HA.out.nums; omega) _ (HP.out.ext hB8) (HE.out.ext hB8)).mono ?_
    rintro e W9 ⟨hpr2, hb⟩
    have hB9 := hB8.trans (hb.mono hB8.size)
    have X0e := X0d.ext hb
    have X1e := X1d.ext hb
    have hist : IsText (VT.text a) a := ⟨HCA.out, HA.out.nums, rfl⟩
    clear hb
    obtain ⟨yv, ty, rfl, hyv, hty⟩ := hpr2.resolve_right (fun h => h.2 a hist)
    have h1 := isText_rd hty
    rw [isText_rd hist] at h1
    obtain rfl : a = ty := (Prod.mk.inj h1).1
    clear h1 hty hist hpr2
    obtain ⟨yl, yn, yk, yad, ycap, rfl⟩ := hyv.shape
    have hb2 : Below W9.heap.size W9 (W9.alloc (.cells #[.bool yl, .int .i64 yn, .slice yad yk ycap] 34)) := by repeat (first | with_reducible assumption | with_reducible exact Below.refl _ _ | with_reducible apply Below.drew | (with_reducible refine Below.alloc ?_ (by first | omega | (simp only [zA, zS, zD, zN]; omega) | (dsimp only; omega) | (simp only [zA, zS, zD, zN]; dsimp only; omega)) _) | (with_reducible refine Below.setCell ?_ (by first | omega | (simp only [zA, zS, zD, zN]; omega) | (dsimp only; omega) | (simp only [zA, zS, zD, zN]; dsimp only; omega)) _) | (with_reducible apply below_drewN))
    have HY := Lib.hid (hyv.ext hb2)
    have hBe := hB9.trans (hb2.mono hB9.size)
    have hlt9 := X0e.lt
    clear hb2 hyv
    have z0 := X0e.cell 0
    have z1 := X0e.cell 1
    have z2 := X0e.cell 2
    simp only [List.getElem?_toArray, List.getElem?_cons_succ, List.getElem?_cons_zero] at z0 z1 z2
    have y0 := X1e.cell 0
    have y1 := X1e.cell 1
    have y2 := X1e.cell 2
    simp only [List.getElem?_toArray, List.getElem?_cons_succ, List.getElem?_cons_zero] at y0 y1 y2
    go_wp2_with fail
    refine (value_same a _ _ _ HY.out (HA.out.ext hBe)).mono ?_
    rintro e Wa ⟨rfl, hb⟩
    have hBf := hBe.trans (hb.mono hBe.size)
    have X0f := (X0e.alloc (.cells #[.bool yl, .int .i64 yn, .slice yad yk ycap] 34)).ext hb
    have X1f := (X1e.alloc (.cells #[.bool yl, .int .i64 yn, .slice yad yk ycap] 34)).ext hb
    clear hb z0 z1 z2 y0 y1 y2
    have z0 := X0f.cell 0
    have z1 := X0f.cell 1
    have z2 := X0f.cell 2
    simp only [List.getElem?_toArray, List.getElem?_cons_succ, List.getElem?_cons_zero] at z0 z1 z2
    have y0 := X1f.cell 0
    have y1 := X1f.cell 1
    have y2 := X1f.cell 2
    simp only [List.getElem?_toArray, List.getElem?_cons_succ, List.getElem?_cons_zero] at y0 y1 y2
    go_wp2_with fail
    refine (rvalue_any a b _ _ _ (HA.out.ext hBf) (HBV.out.ext hBf)).mono ?_
    rintro e Wb ⟨rfl, hb⟩
    have hBg := hBf.trans (hb.mono hBf.size)
    have X0g := X0f.ext hb
    have X1g := X1f.ext hb
    clear hb z0 z1 z2 y0 y1 y2
    have CS := Lib.hid (samev_any a b _ _ Wb (HP.out.ext hBg) (HA.out.ext hBg) (HBV.out.ext hBg) (by omega) (by omega))
    rw [same_text HCA.out HCB.out HA.out.nums HBV.out.nums] at CS
    generalize VT.sameV a b = sb at *
    have z0 := X0g.cell 0
    have z1 := X0g.cell 1
    have z2 := X0g.cell 2
    simp only [List.getElem?_toArray, List.getElem?_cons_succ, List.getElem?_cons_zero] at z0 z1 z2
    have y0 := X1g.cell 0
    have y1 := X1g.cell 1
    have y2 := X1g.cell 2
    simp only [List.getElem?_toArray, List.getElem?_cons_succ, List.getElem?_cons_zero] at y0 y1 y2
    go_wp2_with fail
    refine CS.out.mono ?_
    rintro e Wc ⟨rfl, hb⟩
    have hBh := hBg.trans (hb.mono hBg.size)
    clear hb
    go_wp2_with fail
    go_ret
    exact ⟨by simp, hBh⟩
theorem valBack_walk (w : World) (hP : PowAt w) (hE : NumErrsAt w) {v0 v1 v2 : Value} {m0 m1 m2 : Nat} (a : VT) (o0 : ValAt w v0 a) (b0 : VT.wt a ≤ m0) (b : VT) (o1 : ValAt w v1 b) (b1 : VT.wt b ≤ m1) (s : List UInt8) (o2 : v2 = .string ⟨s.toArray⟩) (b2 : s.length < m2) (hs : m0 + (m1 + (m2 + 0)) ≤ 1048576) :
    Calls Tryd.prog 4 #[v0, v1, v2] w fun e w' => e = .returned (.bool true) ∧ Below w.heap.size w w' := by
  subst o2
  exact valBack_go w hP hE a o0 (by omega) b o1 (by omega) s (by omega)
end Go.Proofs.YtibmnifenfingaaDoor
